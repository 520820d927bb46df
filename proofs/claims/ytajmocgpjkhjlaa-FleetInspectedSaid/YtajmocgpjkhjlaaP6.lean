/- Contracts: the code computes its model (part 6). -/
import Derived.Test.YtajmocgpjkhjlaaP5
set_option linter.unusedVariables false
set_option linter.unusedSimpArgs false
namespace Go.Proofs.Ytajmocgpjkhjlaa
open Go.RowKit Go.Fp

set_option maxRecDepth 20000 in
theorem cSlicesEqualFunc (b : Base) (R : Hp) (l4 : (List (List Int))) (l8 : (List (List Int))) (A1 : Option Addr) (c2 : Nat) (A5 : Option Addr) (c6 : Nat) (h3 : FZ (RT.list (RT.int .i64)) b.w A1 c2 l4) (h7 : FZ (RT.list (RT.int .i64)) b.w A5 c6 l8) (x78 : Bool) (hm : mSlicesEqualFunc l4 l8 = some x78) :
    CallsG Try.prog 21 [.slice A1 (l4).length c2, .slice A5 (l8).length c6, .func (.func 22) #[] #[]] b (R) (fun v b' hp' => .bool (x78) = v ∧ R = hp') := by
  refine fn_enterG 32 Try.func21 rfl Try.ntmps21 rfl ?_
  unfold mSlicesEqualFunc at hm
  refine c_seq ?_
  refine c_region ?_
  refine t_st rfl (st_assign rfl) ?_
  refine t_nil ?_
  refine x_then_normal ?_
  refine c_seq ?_
  refine c_seq ?_
  refine c_region ?_
  refine t_st rfl (st_move rfl) ?_
  refine t_st rfl (st_len rfl sl26) ?_
  refine t_st rfl (st_move rfl) ?_
  refine t_st rfl (st_len rfl sl26) ?_
  refine t_st rfl (st_neq rfl rfl) ?_
  refine t_nil ?_
  refine x_then_normal ?_
  refine c_cond _ rfl (fun hc79 => ?_) (fun hc79 => ?_)
  ·
    rw [if_pos (of_decide_eq_true hc79)] at hm
    refine c_seq ?_
    refine c_region ?_
    refine t_st rfl (st_assign rfl) ?_
    refine t_nil ?_
    refine x_then_normal ?_
    refine c_ret ?_
    refine x_then_ret ?_
    obtain rfl := some1 hm
    exact retM (rs := [.tmp 6]) [.bool (false)] (Base.Le.refl _) (by decide) rfl ⟨rfl, trivial⟩ rfl (hp' := R) (.refl _) ⟨rfl, rfl⟩
  ·
    rw [if_neg (of_decide_eq_false hc79)] at hm
    refine c_skip ?_
    refine x_then_normal ?_
    refine c_seq ?_
    refine c_seq ?_
    refine c_region ?_
    refine t_st rfl (st_move rfl) ?_
    refine t_st rfl (st_len rfl sl26) ?_
    refine t_st rfl (st_move rfl) ?_
    refine t_nil ?_
    refine x_then_normal ?_
    refine c_block ?_
    have hb81 := (FZ.bd h3)
    obtain ⟨t114, hl115, hk116⟩ := bindS hm
    refine c_forM (fun k113 => fun _ => fun b111 e' hp' => [(1, .slice A5 (l8).length c6), (2, .func (.func 22) #[] #[]), (15, .slice A1 (l4).length c2), (16, .int .i64 ((l4.length : Int))), (17, .int .i64 ((k113 : Int)))] = e' ∧ R = hp' ∧ b.Le b111) hl115 (e' := [(1, .slice A5 (l8).length c6), (2, .func (.func 22) #[] #[]), (15, .slice A1 (l4).length c2), (16, .int .i64 ((l4.length : Int))), (17, .int .i64 0)]) (hp' := R) ⟨rfl, rfl, rfl, rfl, rfl, trivial⟩ (.refl _) ⟨rfl, rfl, (Base.Le.refl _)⟩ ?_ ?_
    ·
      rintro k113 _ b111 _ _ oL80 hknL80 ⟨rfl, rfl, hle112⟩ hstepL80 houtL80
      unfold mSlicesEqualFunc_L80 at hstepL80
      have hm := hstepL80
      refine c_seq ?_
      refine c_region ?_
      refine t_st rfl (st_lss_t rfl rfl (by omega)) ?_
      refine t_nil ?_
      refine x_then_normal ?_
      refine c_seq ?_
      refine c_cond_t rfl ?_
      refine c_skip ?_
      refine x_then_normal ?_
      refine c_seq ?_
      refine c_block ?_
      refine c_seq ?_
      refine c_region ?_
      refine t_st rfl (st_move rfl) ?_
      obtain ⟨x117, h118, hm⟩ := bindS hm
      obtain ⟨j119, hj120, hx121⟩ := idx_some h118
      obtain ⟨cs122, hr123, hcs124, hA125, hlt126⟩ := FZ.get (sz := 1) rfl (by decide) (h3.le hle112) hx121
      obtain ⟨A127, c128, rfl, h129⟩ := hr123
      refine t_st rfl (st_index_old j119 rfl rfl hj120 hlt126 hA125 sl26) ?_
      refine t_st rfl (st_load_old rfl one45 (hcs124 0 _ rfl)) ?_
      refine t_st rfl (st_assign rfl) ?_
      refine t_st rfl (st_assign rfl) ?_
      refine t_nil ?_
      refine x_then_normal ?_
      refine c_seq ?_
      refine c_region ?_
      refine t_st rfl (st_move rfl) ?_
      refine t_st rfl (st_move rfl) ?_
      obtain ⟨x130, h131, hm⟩ := bindS hm
      obtain ⟨j132, hj133, hx134⟩ := idx_some h131
      obtain ⟨cs135, hr136, hcs137, hA138, hlt139⟩ := FZ.get (sz := 1) rfl (by decide) (h7.le hle112) hx134
      obtain ⟨A140, c141, rfl, h142⟩ := hr136
      refine t_st rfl (st_index_old j132 rfl rfl hj133 hlt139 hA138 sl26) ?_
      refine t_st rfl (st_load_old rfl one45 (hcs137 0 _ rfl)) ?_
      refine t_st rfl (st_assign rfl) ?_
      refine t_nil ?_
      refine x_then_normal ?_
      refine c_seq ?_
      refine c_region ?_
      refine t_st rfl (st_move rfl) ?_
      refine t_st rfl (st_move rfl) ?_
      refine t_st rfl (st_move rfl) ?_
      obtain ⟨x143, hcl144, hm⟩ := bindS hm
      refine t_do rfl (u_callvW0 #[] #[] [.slice A127 (x117).length c128, .slice A140 (x130).length c141] rfl call22 rfl (fun w ho => cFishkeep2FleetInspected_1 _ [] x117 x130 A127 c128 A140 c141 (h129.old ho) (h142.old ho) x143 hcl144) (fun _ _ _ h => h.2.symm)) ?_
      rintro _ _ ⟨⟨_, rfl, _⟩, rfl⟩
      refine t_st rfl (st_not rfl) ?_
      refine t_nil ?_
      refine x_then_normal ?_
      refine c_cond _ rfl (fun hc145 => ?_) (fun hc145 => ?_)
      ·
        rw [if_neg (fun hh => Bool.noConfusion (hh.symm.trans (notT hc145)))] at hm
        refine c_seq ?_
        refine c_region ?_
        refine t_st rfl (st_assign rfl) ?_
        refine t_nil ?_
        refine x_then_normal ?_
        refine c_ret ?_
        refine x_block_ret ?_
        refine x_then_ret ?_
        refine x_then_ret ?_
        refine x_block_ret ?_
        refine x_then_ret ?_
        have hq146 := houtL80 _ (Option.some.inj hm).symm
        rw [hq146] at hk116
        have hm := elimR hk116
        obtain rfl := some1 hm
        exact retM (rs := [.tmp 6]) [.bool (false)] hle112 (by decide) rfl ⟨rfl, trivial⟩ rfl (hp' := R) (.refl _) ⟨rfl, rfl⟩
      ·
        rw [if_pos (notF hc145)] at hm
        refine c_skip ?_
        refine x_block_normal ?_
        refine x_then_normal ?_
        refine c_region ?_
        refine t_st rfl (st_add rfl rfl (by omega)) ?_
        refine t_st rfl (st_move rfl) ?_
        refine t_nil ?_
        exact x_againM () (Option.some.inj hm).symm (e' := [(1, .slice A5 (l8).length c6), (2, .func (.func 22) #[] #[]), (15, .slice A1 (l4).length c2), (16, .int .i64 ((l4.length : Int))), (17, .int .i64 ((k113 : Int) + 1))]) (hp' := R) ⟨rfl, rfl, rfl, rfl, rfl, trivial⟩ (.refl _) ⟨rfl, rfl, (hle112)⟩
    ·
      rintro _ b111 _ _ ⟨rfl, rfl, hle112⟩ hq147
      rw [hq147] at hk116
      have hm := elimL hk116
      refine c_seq ?_
      refine c_region ?_
      refine t_st rfl (st_lss_f rfl rfl (by omega)) ?_
      refine t_nil ?_
      refine x_then_normal ?_
      refine c_seq ?_
      refine c_cond_f rfl ?_
      refine c_exit ?_
      refine x_then_exit ?_
      refine x_then_exit ?_
      refine x_block_out ?_
      refine x_then_normal ?_
      refine c_seq ?_
      refine c_region ?_
      refine t_st rfl (st_assign rfl) ?_
      refine t_nil ?_
      refine x_then_normal ?_
      refine c_ret ?_
      obtain rfl := some1 hm
      exact retM (rs := [.tmp 6]) [.bool (true)] hle112 (by decide) rfl ⟨rfl, trivial⟩ rfl (hp' := R) (.refl _) ⟨rfl, rfl⟩

set_option maxRecDepth 20000 in
theorem cFishkeep2FleetInspected (b : Base) (R : Hp) (l4 : (List FleetTask)) (l8 : (List (List Int))) (l12 : (List FleetSet)) (s13 : FleetShop) (x14 : Int) (A1 : Option Addr) (c2 : Nat) (A5 : Option Addr) (c6 : Nat) (A9 : Option Addr) (c10 : Nat) (h3 : FZ rFleetTask b.w A1 c2 l4) (h7 : FZ (RT.list (RT.int .i64)) b.w A5 c6 l8) (h11 : FZ rFleetSet b.w A9 c10 l12) (x605 : Bool) (hm : mFishkeep2FleetInspected l4 l8 l12 s13 x14 = some x605) :
    CallsG Try.prog 4 [.slice A1 (l4).length c2, .slice A5 (l8).length c6, .slice A9 (l12).length c10, .agg #[.int .i64 (s13.Place), .int .i64 (s13.Long), .int .i64 (s13.Limit)], .int .i64 (x14)] b (R) (fun v b' hp' => .bool (x605) = v ∧ R = hp') := by
  refine fn_enterG 141 Try.func4 rfl Try.ntmps4 rfl ?_
  unfold mFishkeep2FleetInspected at hm
  refine c_seq ?_
  refine c_region ?_
  refine t_do rfl (u_box _ rfl rfl) ?_
  rintro _ _ ⟨g606, rfl, rfl⟩
  refine t_st rfl (st_assign rfl) ?_
  refine t_nil ?_
  refine x_then_normal ?_
  refine c_seq ?_
  refine c_seq ?_
  refine c_region ?_
  obtain ⟨x607, hcl608, hm⟩ := bindS hm
  refine t_do rfl (u_callW0 _ call10 rfl (fun w ho => cFishkeep2AwakeFleet _ [] x607 hcl608) (fun _ _ _ h => h.2.symm)) ?_
  rintro _ _ ⟨⟨_, rfl, _⟩, rfl⟩
  refine t_st rfl (st_not rfl) ?_
  refine t_nil ?_
  refine x_then_normal ?_
  refine c_cond _ rfl (fun hc609 => ?_) (fun hc609 => ?_)
  ·
    rw [if_neg (fun hh => Bool.noConfusion (hh.symm.trans (notT hc609)))] at hm
    refine c_seq ?_
    refine c_region ?_
    refine t_st rfl (st_assign rfl) ?_
    refine t_nil ?_
    refine x_then_normal ?_
    refine c_ret ?_
    refine x_then_ret ?_
    obtain rfl := some1 hm
    exact retM (rs := [.tmp 10]) [.bool (false)] (Base.Le.refl _) (by decide) rfl ⟨rfl, trivial⟩ rfl (hp' := R) (.cons _ (.refl _)) ⟨rfl, rfl⟩
  ·
    rw [if_pos (notF hc609)] at hm
    refine c_skip ?_
    refine x_then_normal ?_
    refine c_seq ?_
    refine c_seq ?_
    refine c_region ?_
    obtain ⟨x610, hcl611, hm⟩ := bindS hm
    refine t_do rfl (u_callW0 _ call11 rfl (fun w ho => cFishkeep2Sets _ [] x610 hcl611) (fun _ _ _ h => h.2.symm)) ?_
    rintro _ _ ⟨⟨_, rfl, _⟩, rfl⟩
    refine t_st rfl (st_not rfl) ?_
    refine t_nil ?_
    refine x_then_normal ?_
    refine c_cond _ rfl (fun hc612 => ?_) (fun hc612 => ?_)
    ·
      rw [if_neg (fun hh => Bool.noConfusion (hh.symm.trans (notT hc612)))] at hm
      refine c_seq ?_
      refine c_region ?_
      refine t_st rfl (st_assign rfl) ?_
      refine t_nil ?_
      refine x_then_normal ?_
      refine c_ret ?_
      refine x_then_ret ?_
      obtain rfl := some1 hm
      exact retM (rs := [.tmp 10]) [.bool (false)] (Base.Le.refl _) (by decide) rfl ⟨rfl, trivial⟩ rfl (hp' := R) (.cons _ (.refl _)) ⟨rfl, rfl⟩
    ·
      rw [if_pos (notF hc612)] at hm
      refine c_skip ?_
      refine x_then_normal ?_
      refine c_seq ?_
      obtain ⟨x620, hj621, hk621⟩ := bindS hm
      refine c_join (fun b618 e' hp' => [(0, .slice A1 (l4).length c2), (1, .slice A5 (l8).length c6), (2, .slice A9 (l12).length c10), (4, .int .i64 (x14)), (8, .pointer (some ⟨g606, 0, none⟩)), (32, .bool (x620))] = e' ∧ (g606, Cl 40 [.int .i64 (s13.Place), .int .i64 (s13.Long), .int .i64 (s13.Limit)]) :: R = hp' ∧ b.Le b618) ?_ ?_
      ·
        have hm := hj621
        refine c_region ?_
        refine t_st rfl (st_move rfl) ?_
        obtain ⟨x622, hcl623, hm⟩ := bindS hm
        refine t_do rfl (u_callW0 _ call16 rfl (fun w ho => cFishref2TasksFault _ [] l4 A1 c2 (h3.old ho) x622 hcl623) (fun _ _ _ h => h.2.symm)) ?_
        rintro _ _ ⟨⟨_, rfl, _⟩, rfl⟩
        refine t_bool rfl (st_neq rfl rfl) (fun hc624 => ?_) (fun hc624 => ?_)
        ·
          rw [if_pos hc624] at hm
          refine t_st rfl (st_move rfl) ?_
          refine t_no 27 rfl rfl rfl rfl rfl ?_
          refine t_no 27 rfl rfl rfl rfl rfl ?_
          refine t_no 27 rfl rfl rfl rfl rfl ?_
          refine t_no 27 rfl rfl rfl rfl rfl ?_
          refine t_st rfl (st_pick_t rfl rfl) ?_
          refine t_nil ?_
          obtain rfl := some1 hm
          exact x_join (e' := [(0, .slice A1 (l4).length c2), (1, .slice A5 (l8).length c6), (2, .slice A9 (l12).length c10), (4, .int .i64 (x14)), (8, .pointer (some ⟨g606, 0, none⟩)), (32, .bool (true))]) (hp' := (g606, Cl 40 [.int .i64 (s13.Place), .int .i64 (s13.Long), .int .i64 (s13.Limit)]) :: R) ⟨rfl, rfl, rfl, rfl, rfl, rfl, trivial⟩ (.cons_cons _ (.refl _)) ⟨rfl, rfl, (Base.Le.refl _)⟩
        ·
          rw [if_neg hc624] at hm
          refine t_st rfl (st_move rfl) ?_
          refine t_yes 27 rfl rfl rfl ?_
          refine t_st rfl (st_move rfl) ?_
          refine t_yes 27 rfl rfl rfl ?_
          refine t_st rfl (st_loadD (vs := [_, _, _]) 0 3 rfl agg40 rfl rfl rfl) ?_
          refine t_yes 27 rfl rfl rfl ?_
          obtain ⟨x625, hcl626, hm⟩ := bindS hm
          refine t_do rfl (u_callW0 _ call17 rfl (fun w ho => cFishref2SetsFault _ [] l12 s13 40 A9 c10 (h11.old ho) x625 hcl626) (fun _ _ _ h => h.2.symm)) ?_
          rintro _ _ ⟨⟨_, rfl, _⟩, rfl⟩
          refine t_yes 27 rfl rfl rfl ?_
          refine t_st rfl (st_neq rfl rfl) ?_
          refine t_st rfl (st_pick_f rfl rfl) ?_
          refine t_nil ?_
          obtain rfl := some1 hm
          exact x_join (e' := [(0, .slice A1 (l4).length c2), (1, .slice A5 (l8).length c6), (2, .slice A9 (l12).length c10), (4, .int .i64 (x14)), (8, .pointer (some ⟨g606, 0, none⟩)), (32, .bool (decide (x625 ≠ 0)))]) (hp' := (g606, Cl 40 [.int .i64 (s13.Place), .int .i64 (s13.Long), .int .i64 (s13.Limit)]) :: R) ⟨rfl, rfl, rfl, rfl, rfl, rfl, trivial⟩ (.cons_cons _ (.refl _)) ⟨rfl, rfl, (Base.Le.refl _)⟩
      ·
        rintro b618 _ _ ⟨rfl, rfl, hle619⟩
        have hm := hk621
        refine c_cond _ rfl (fun hc627 => ?_) (fun hc627 => ?_)
        ·
          rw [if_pos hc627] at hm
          refine c_seq ?_
          refine c_region ?_
          refine t_st rfl (st_assign rfl) ?_
          refine t_nil ?_
          refine x_then_normal ?_
          refine c_ret ?_
          refine x_then_ret ?_
          obtain rfl := some1 hm
          exact retM (rs := [.tmp 10]) [.bool (true)] hle619 (by decide) rfl ⟨rfl, trivial⟩ rfl (hp' := R) (.cons _ (.refl _)) ⟨rfl, rfl⟩
        ·
          rw [if_neg (fun hh => Bool.noConfusion (hh.symm.trans hc627))] at hm
          refine c_skip ?_
          refine x_then_normal ?_
          refine c_seq ?_
          refine c_region ?_
          refine t_st rfl (st_move rfl) ?_
          refine t_st rfl (st_move rfl) ?_
          refine t_st rfl (st_move rfl) ?_
          refine t_st rfl (st_loadD (vs := [_, _, _]) 0 3 rfl agg40 rfl rfl rfl) ?_
          obtain ⟨⟨x628, l629⟩, hcl630, hm⟩ := bindS hm
          have hm := (unc2E hm)
          refine t_callG _ rfl call18 rfl (cFleetInspect _ _ l4 l8 l12 s13 A1 c2 A5 c6 A9 c10 (h3.le hle619) (h7.le hle619) (h11.le hle619) x628 l629 hcl630) ?_
          rintro _ b631 _ hle632 ⟨A633, c634, hs635, rfl, rfl, h636⟩
          refine t_in1 [] [_] hs635 R rfl ?_
          refine t_st rfl (st_move rfl) ?_
          refine t_st rfl (st_extract rfl rfl) ?_
          refine t_st rfl (st_extract rfl rfl) ?_
          refine t_st rfl (st_assign rfl) ?_
          refine t_st rfl (st_assign rfl) ?_
          refine t_nil ?_
          refine x_then_normal ?_
          refine c_seq ?_
          refine c_seq ?_
          refine c_region ?_
          refine t_st rfl (st_move rfl) ?_
          refine t_st rfl (st_move rfl) ?_
          refine t_st rfl (st_move rfl) ?_
          refine t_st rfl (st_loadD (vs := [_, _, _]) 0 3 rfl agg40 rfl rfl rfl) ?_
          obtain ⟨⟨x637, l638⟩, hcl639, hm⟩ := bindS hm
          have hm := (unc2E hm)
          refine t_callG _ rfl call19 rfl (cFishref2InspectOf _ _ l4 l8 l12 s13 40 A1 c2 A5 c6 A9 c10 (h3.le (hle619.trans hle632)) (h7.le (hle619.trans hle632)) (h11.le (hle619.trans hle632)) x637 l638 hcl639) ?_
          rintro _ b640 _ hle641 ⟨A642, c643, hs644, rfl, rfl, h645⟩
          refine t_in1 [] [_] hs644 (hs635 ++ R) rfl ?_
          refine t_st rfl (st_move rfl) ?_
          refine t_st rfl (st_extract rfl rfl) ?_
          refine t_st rfl (st_extract rfl rfl) ?_
          refine t_st rfl (st_assign rfl) ?_
          refine t_st rfl (st_assign rfl) ?_
          refine t_nil ?_
          refine x_then_normal ?_
          refine c_seq ?_
          refine c_region ?_
          refine t_st rfl (st_move rfl) ?_
          refine t_st rfl (st_neq rfl rfl) ?_
          refine t_nil ?_
          refine x_then_normal ?_
          refine c_cond _ rfl (fun hc646 => ?_) (fun hc646 => ?_)
          ·
            rw [if_pos (of_decide_eq_true hc646)] at hm
            obtain ⟨x650, hj651, hk651⟩ := bindS hm
            refine c_join (fun b648 e' hp' => [(10, .bool (x650))] = e' ∧ R = hp' ∧ b640.Le b648) ?_ ?_
            ·
              have hm := hj651
              refine c_region ?_
              refine t_st rfl (st_move rfl) ?_
              refine t_st rfl (st_move rfl) ?_
              refine t_bool rfl (st_eql rfl rfl) (fun hc652 => ?_) (fun hc652 => ?_)
              ·
                rw [if_pos hc652] at hm
                refine t_st rfl (st_move rfl) ?_
                refine t_yes 54 rfl rfl rfl ?_
                refine t_st rfl (st_move rfl) ?_
                refine t_yes 54 rfl rfl rfl ?_
                refine t_st rfl (st_len rfl sl26) ?_
                refine t_yes 54 rfl rfl rfl ?_
                refine t_st rfl (st_eql rfl rfl) ?_
                refine t_st rfl (st_pick_t rfl rfl) ?_
                refine t_st rfl (st_assign rfl) ?_
                refine t_nil ?_
                obtain rfl := some1 hm
                exact x_join (e' := [(10, .bool (decide ((l629.length : Int) = 0)))]) (hp' := R) ⟨rfl, trivial⟩ (.cons _ (sub_skip hs644 (sub_skip hs635 (.refl _)))) ⟨rfl, rfl, (Base.Le.refl _)⟩
              ·
                rw [if_neg hc652] at hm
                refine t_st rfl (st_move rfl) ?_
                refine t_no 54 rfl rfl rfl rfl rfl ?_
                refine t_no 54 rfl rfl rfl rfl rfl ?_
                refine t_no 54 rfl rfl rfl rfl rfl ?_
                refine t_st rfl (st_pick_f rfl rfl) ?_
                refine t_st rfl (st_assign rfl) ?_
                refine t_nil ?_
                obtain rfl := some1 hm
                exact x_join (e' := [(10, .bool (false))]) (hp' := R) ⟨rfl, trivial⟩ (.cons _ (sub_skip hs644 (sub_skip hs635 (.refl _)))) ⟨rfl, rfl, (Base.Le.refl _)⟩
            ·
              rintro b648 _ _ ⟨rfl, rfl, hle649⟩
              have hm := hk651
              refine c_ret ?_
              refine x_then_ret ?_
              obtain rfl := some1 hm
              exact retM (rs := [.tmp 10]) [.bool (x650)] (hle619.trans (hle632.trans (hle641.trans hle649))) (by decide) rfl ⟨rfl, trivial⟩ rfl (hp' := R) (.refl _) ⟨rfl, rfl⟩
          ·
            rw [if_neg (of_decide_eq_false hc646)] at hm
            refine c_skip ?_
            refine x_then_normal ?_
            refine c_seq ?_
            obtain ⟨x656, hj657, hk657⟩ := bindS hm
            refine c_join (fun b654 e' hp' => [(0, .slice A1 (l4).length c2), (1, .slice A5 (l8).length c6), (2, .slice A9 (l12).length c10), (4, .int .i64 (x14)), (8, .pointer (some ⟨g606, 0, none⟩)), (11, .slice A633 (l629).length c634), (67, .bool (x656))] = e' ∧ (g606, Cl 40 [.int .i64 (s13.Place), .int .i64 (s13.Long), .int .i64 (s13.Limit)]) :: (hs635 ++ R) = hp' ∧ b640.Le b654) ?_ ?_
            ·
              have hm := hj657
              refine c_region ?_
              refine t_st rfl (st_move rfl) ?_
              refine t_bool rfl (st_neq rfl rfl) (fun hc658 => ?_) (fun hc658 => ?_)
              ·
                rw [if_pos hc658] at hm
                refine t_st rfl (st_move rfl) ?_
                refine t_no 61 rfl rfl rfl rfl rfl ?_
                refine t_no 61 rfl rfl rfl rfl rfl ?_
                refine t_no 61 rfl rfl rfl rfl rfl ?_
                refine t_no 61 rfl rfl rfl rfl rfl ?_
                refine t_no 61 rfl rfl rfl rfl rfl ?_
                refine t_st rfl (st_pick_t rfl rfl) ?_
                refine t_nil ?_
                obtain rfl := some1 hm
                refine x_front2 [_] hs644 hs635 R rfl ?_
                exact x_join (e' := [(0, .slice A1 (l4).length c2), (1, .slice A5 (l8).length c6), (2, .slice A9 (l12).length c10), (4, .int .i64 (x14)), (8, .pointer (some ⟨g606, 0, none⟩)), (11, .slice A633 (l629).length c634), (67, .bool (true))]) (hp' := (g606, Cl 40 [.int .i64 (s13.Place), .int .i64 (s13.Long), .int .i64 (s13.Limit)]) :: (hs635 ++ R)) ⟨rfl, rfl, rfl, rfl, rfl, rfl, rfl, trivial⟩ (.cons_cons _ (sub_app hs635 (sub_skip hs644 (.refl _)))) ⟨rfl, rfl, (Base.Le.refl _)⟩
              ·
                rw [if_neg hc658] at hm
                refine t_st rfl (st_move rfl) ?_
                refine t_yes 61 rfl rfl rfl ?_
                refine t_st rfl (st_move rfl) ?_
                refine t_yes 61 rfl rfl rfl ?_
                refine t_st rfl (st_len rfl sl26) ?_
                refine t_yes 61 rfl rfl rfl ?_
                refine t_st rfl (st_move rfl) ?_
                refine t_yes 61 rfl rfl rfl ?_
                refine t_st rfl (st_len rfl sl38) ?_
                refine t_yes 61 rfl rfl rfl ?_
                refine t_st rfl (st_neq rfl rfl) ?_
                refine t_st rfl (st_pick_f rfl rfl) ?_
                refine t_nil ?_
                obtain rfl := some1 hm
                refine x_front2 [_] hs644 hs635 R rfl ?_
                exact x_join (e' := [(0, .slice A1 (l4).length c2), (1, .slice A5 (l8).length c6), (2, .slice A9 (l12).length c10), (4, .int .i64 (x14)), (8, .pointer (some ⟨g606, 0, none⟩)), (11, .slice A633 (l629).length c634), (67, .bool (decide ((l629.length : Int) ≠ (l12.length : Int))))]) (hp' := (g606, Cl 40 [.int .i64 (s13.Place), .int .i64 (s13.Long), .int .i64 (s13.Limit)]) :: (hs635 ++ R)) ⟨rfl, rfl, rfl, rfl, rfl, rfl, rfl, trivial⟩ (.cons_cons _ (sub_app hs635 (sub_skip hs644 (.refl _)))) ⟨rfl, rfl, (Base.Le.refl _)⟩
            ·
              rintro b654 _ _ ⟨rfl, rfl, hle655⟩
              have hm := hk657
              refine c_cond _ rfl (fun hc659 => ?_) (fun hc659 => ?_)
              ·
                rw [if_pos hc659] at hm
                refine c_seq ?_
                refine c_region ?_
                refine t_st rfl (st_assign rfl) ?_
                refine t_nil ?_
                refine x_then_normal ?_
                refine c_ret ?_
                refine x_then_ret ?_
                obtain rfl := some1 hm
                exact retM (rs := [.tmp 10]) [.bool (false)] (hle619.trans (hle632.trans (hle641.trans hle655))) (by decide) rfl ⟨rfl, trivial⟩ rfl (hp' := R) (.cons _ (sub_skip hs635 (.refl _))) ⟨rfl, rfl⟩
              ·
                rw [if_neg (fun hh => Bool.noConfusion (hh.symm.trans hc659))] at hm
                refine c_skip ?_
                refine x_then_normal ?_
                refine c_seq ?_
                refine c_seq ?_
                refine c_region ?_
                refine t_st rfl (st_move rfl) ?_
                refine t_st rfl (st_len rfl sl26) ?_
                refine t_st rfl (st_move rfl) ?_
                refine t_nil ?_
                refine x_then_normal ?_
                refine c_block ?_
                have hb661 := (FZ.bd (h7.le (hle619.trans (hle632.trans (hle641.trans hle655)))))
                obtain ⟨t913, hl914, hk915⟩ := bindS hm
                refine c_forM (fun k912 => fun _ => fun b910 e' hp' => [(0, .slice A1 (l4).length c2), (1, .slice A5 (l8).length c6), (2, .slice A9 (l12).length c10), (4, .int .i64 (x14)), (8, .pointer (some ⟨g606, 0, none⟩)), (11, .slice A633 (l629).length c634), (68, .slice A5 (l8).length c6), (69, .int .i64 ((l8.length : Int))), (70, .int .i64 ((k912 : Int)))] = e' ∧ (g606, Cl 40 [.int .i64 (s13.Place), .int .i64 (s13.Long), .int .i64 (s13.Limit)]) :: (hs635 ++ R) = hp' ∧ b654.Le b910) hl914 (e' := [(0, .slice A1 (l4).length c2), (1, .slice A5 (l8).length c6), (2, .slice A9 (l12).length c10), (4, .int .i64 (x14)), (8, .pointer (some ⟨g606, 0, none⟩)), (11, .slice A633 (l629).length c634), (68, .slice A5 (l8).length c6), (69, .int .i64 ((l8.length : Int))), (70, .int .i64 0)]) (hp' := (g606, Cl 40 [.int .i64 (s13.Place), .int .i64 (s13.Long), .int .i64 (s13.Limit)]) :: (hs635 ++ R)) ⟨rfl, rfl, rfl, rfl, rfl, rfl, rfl, rfl, rfl, trivial⟩ (.cons_cons _ (sub_app hs635 (.refl _))) ⟨rfl, rfl, (Base.Le.refl _)⟩ ?_ ?_
                ·
                  rintro k912 _ b910 _ _ oL660 hknL660 ⟨rfl, rfl, hle911⟩ hstepL660 houtL660
                  unfold mFishkeep2FleetInspected_L660 at hstepL660
                  have hm := hstepL660
                  refine c_seq ?_
                  refine c_region ?_
                  refine t_st rfl (st_lss_t rfl rfl (by omega)) ?_
                  refine t_nil ?_
                  refine x_then_normal ?_
                  refine c_seq ?_
                  refine c_cond_t rfl ?_
                  refine c_skip ?_
                  refine x_then_normal ?_
                  refine c_seq ?_
                  refine c_block ?_
                  refine c_seq ?_
                  refine c_region ?_
                  refine t_st rfl (st_move rfl) ?_
                  obtain ⟨x916, h917, hm⟩ := bindS hm
                  obtain ⟨j918, hj919, hx920⟩ := idx_some h917
                  obtain ⟨cs921, hr922, hcs923, hA924, hlt925⟩ := FZ.get (sz := 1) rfl (by decide) (h7.le (hle619.trans (hle632.trans (hle641.trans (hle655.trans hle911))))) hx920
                  obtain ⟨A926, c927, rfl, h928⟩ := hr922
                  refine t_st rfl (st_index_old j918 rfl rfl hj919 hlt925 hA924 sl26) ?_
                  refine t_st rfl (st_load_old rfl one45 (hcs923 0 _ rfl)) ?_
                  refine t_st rfl (st_assign rfl) ?_
                  refine t_st rfl (st_assign rfl) ?_
                  refine t_nil ?_
                  refine x_then_normal ?_
                  refine c_seq ?_
                  refine c_region ?_
                  refine t_st rfl (st_move rfl) ?_
                  refine t_st rfl (st_move rfl) ?_
                  obtain ⟨x929, h930, hm⟩ := bindS hm
                  obtain ⟨j931, hj932, hx933⟩ := idx_some h930
                  obtain ⟨cs934, hr935, hcs936, hA937, hlt938⟩ := FZ.get (sz := 2) rfl (by decide) (h11.le (hle619.trans (hle632.trans (hle641.trans (hle655.trans hle911))))) hx933
                  obtain ⟨_, _, rfl, rfl, rfl⟩ := hr935
                  refine t_st rfl (st_index_old j931 rfl rfl hj932 hlt938 hA937 sl38) ?_
                  refine t_st rfl (st_field_old rfl hA937 fld47_1) ?_
                  refine t_st rfl (st_load_old rfl one3 (hcs936 1 _ rfl)) ?_
                  refine t_st rfl (st_assign rfl) ?_
                  refine t_nil ?_
                  refine x_then_normal ?_
                  refine c_seq ?_
                  refine c_region ?_
                  refine t_st rfl (st_move rfl) ?_
                  refine t_st rfl (st_len rfl sl45) ?_
                  obtain ⟨_, h939, hm⟩ := bindS hm
                  have h939 := (chk_some h939).2
                  refine t_st rfl (st_add rfl rfl h939) ?_
                  refine t_st rfl (st_move rfl) ?_
                  refine t_nil ?_
                  refine x_then_normal ?_
                  refine c_block ?_
                  obtain ⟨_, h941, hm⟩ := bindS hm
                  have h941 := (chk_some h941).2
                  obtain ⟨t1089, hl1090, hk1091⟩ := bindS hm
                  refine c_forM (fun k1088 => fun x1087 => fun b1085 e' hp' => [(0, .slice A1 (l4).length c2), (1, .slice A5 (l8).length c6), (2, .slice A9 (l12).length c10), (4, .int .i64 (x14)), (8, .pointer (some ⟨g606, 0, none⟩)), (11, .slice A633 (l629).length c634), (15, .int .i64 ((k912 : Int))), (16, .slice A926 (x916).length c927), (17, .int .i64 (x1087)), (68, .slice A5 (l8).length c6), (69, .int .i64 ((l8.length : Int))), (70, .int .i64 ((k912 : Int))), (82, .int .i64 ((x916.length : Int) + 1)), (83, .int .i64 ((k1088 : Int)))] = e' ∧ (g606, Cl 40 [.int .i64 (s13.Place), .int .i64 (s13.Long), .int .i64 (s13.Limit)]) :: (hs635 ++ R) = hp' ∧ b910.Le b1085) hl1090 (e' := [(0, .slice A1 (l4).length c2), (1, .slice A5 (l8).length c6), (2, .slice A9 (l12).length c10), (4, .int .i64 (x14)), (8, .pointer (some ⟨g606, 0, none⟩)), (11, .slice A633 (l629).length c634), (15, .int .i64 ((k912 : Int))), (16, .slice A926 (x916).length c927), (17, .int .i64 (x929.Km)), (68, .slice A5 (l8).length c6), (69, .int .i64 ((l8.length : Int))), (70, .int .i64 ((k912 : Int))), (82, .int .i64 ((x916.length : Int) + 1)), (83, .int .i64 0)]) (hp' := (g606, Cl 40 [.int .i64 (s13.Place), .int .i64 (s13.Long), .int .i64 (s13.Limit)]) :: (hs635 ++ R)) ⟨rfl, rfl, rfl, rfl, rfl, rfl, rfl, rfl, rfl, rfl, rfl, rfl, rfl, rfl, trivial⟩ (.cons_cons _ (sub_app hs635 (.refl _))) ⟨rfl, rfl, (Base.Le.refl _)⟩ ?_ ?_
                  ·
                    rintro k1088 x1087 b1085 _ _ oL940 hknL940 ⟨rfl, rfl, hle1086⟩ hstepL940 houtL940
                    unfold mFishkeep2FleetInspected_L940 at hstepL940
                    have hm := hstepL940
                    refine c_seq ?_
                    refine c_region ?_
                    refine t_st rfl (st_lss_t rfl rfl (by omega)) ?_
                    refine t_nil ?_
                    refine x_then_normal ?_
                    refine c_seq ?_
                    refine c_cond_t rfl ?_
                    refine c_skip ?_
                    refine x_then_normal ?_
                    refine c_seq ?_
                    refine c_block ?_
                    refine c_seq ?_
                    refine c_region ?_
                    refine t_st rfl (st_move rfl) ?_
                    refine t_st rfl (st_assign rfl) ?_
                    refine t_nil ?_
                    refine x_then_normal ?_
                    obtain ⟨x1116, hj1117, hk1117⟩ := bindS hm
                    refine c_join (fun b1114 e' hp' => [(0, .slice A1 (l4).length c2), (1, .slice A5 (l8).length c6), (2, .slice A9 (l12).length c10), (4, .int .i64 (x14)), (8, .pointer (some ⟨g606, 0, none⟩)), (11, .slice A633 (l629).length c634), (15, .int .i64 ((k912 : Int))), (16, .slice A926 (x916).length c927), (17, .int .i64 (x1116)), (18, .int .i64 ((k1088 : Int))), (68, .slice A5 (l8).length c6), (69, .int .i64 ((l8.length : Int))), (70, .int .i64 ((k912 : Int))), (82, .int .i64 ((x916.length : Int) + 1)), (83, .int .i64 ((k1088 : Int)))] = e' ∧ (g606, Cl 40 [.int .i64 (s13.Place), .int .i64 (s13.Long), .int .i64 (s13.Limit)]) :: (hs635 ++ R) = hp' ∧ b1085.Le b1114) ?_ ?_
                    ·
                      have hm := hj1117
                      refine c_seq ?_
                      refine c_region ?_
                      refine t_st rfl (st_move rfl) ?_
                      refine t_st rfl (st_move rfl) ?_
                      obtain ⟨x1118, h1119, hm⟩ := bindS hm
                      obtain ⟨j1120, hj1121, hx1122⟩ := idx_some h1119
                      obtain ⟨cs1123, hs1128, P1129, P1130, hq1131, hr1124, hcs1125, hA1126, hlt1127, hb1132, hho1133⟩ := OS.get (sz := 1) rfl (by decide) (h636.le (hle641.trans (hle655.trans (hle911.trans hle1086)))) hx1122
                      obtain ⟨⟨A1134, c1135, rfl, h1136⟩, rfl⟩ := hr1124
                      refine t_st rfl (st_index_old j1120 rfl rfl hj1121 hlt1127 hA1126 sl26) ?_
                      refine t_st rfl (st_load_rd rfl one45 (fun w ho => hcs1125 w _ ho (.cons _ (List.sublist_append_left _ _)) 0 _ rfl)) ?_
                      refine t_st rfl (st_move rfl) ?_
                      obtain ⟨x1137, hcl1138, hm⟩ := bindS hm
                      refine t_do rfl (u_callW0 _ call20 rfl (fun w ho => cSlicesContains _ [] x1118 (k1088 : Int) A1134 c1135 (h1136.old ho) x1137 hcl1138) (fun _ _ _ h => h.2.symm)) ?_
                      rintro _ _ ⟨⟨_, rfl, _⟩, rfl⟩
                      refine t_nil ?_
                      refine x_then_normal ?_
                      refine c_cond _ rfl (fun hc1139 => ?_) (fun hc1139 => ?_)
                      ·
                        rw [if_pos hc1139] at hm
                        refine c_region ?_
                        refine t_st rfl (st_assign rfl) ?_
                        refine t_nil ?_
                        obtain rfl := some1 hm
                        exact x_join (e' := [(0, .slice A1 (l4).length c2), (1, .slice A5 (l8).length c6), (2, .slice A9 (l12).length c10), (4, .int .i64 (x14)), (8, .pointer (some ⟨g606, 0, none⟩)), (11, .slice A633 (l629).length c634), (15, .int .i64 ((k912 : Int))), (16, .slice A926 (x916).length c927), (17, .int .i64 (0)), (18, .int .i64 ((k1088 : Int))), (68, .slice A5 (l8).length c6), (69, .int .i64 ((l8.length : Int))), (70, .int .i64 ((k912 : Int))), (82, .int .i64 ((x916.length : Int) + 1)), (83, .int .i64 ((k1088 : Int)))]) (hp' := (g606, Cl 40 [.int .i64 (s13.Place), .int .i64 (s13.Long), .int .i64 (s13.Limit)]) :: (hs635 ++ R)) ⟨rfl, rfl, rfl, rfl, rfl, rfl, rfl, rfl, rfl, rfl, rfl, rfl, rfl, rfl, rfl, trivial⟩ (.cons_cons _ (sub_app hs635 (.refl _))) ⟨rfl, rfl, (Base.Le.refl _)⟩
                      ·
                        rw [if_neg (fun hh => Bool.noConfusion (hh.symm.trans hc1139))] at hm
                        refine c_skip ?_
                        obtain rfl := some1 hm
                        exact x_join (e' := [(0, .slice A1 (l4).length c2), (1, .slice A5 (l8).length c6), (2, .slice A9 (l12).length c10), (4, .int .i64 (x14)), (8, .pointer (some ⟨g606, 0, none⟩)), (11, .slice A633 (l629).length c634), (15, .int .i64 ((k912 : Int))), (16, .slice A926 (x916).length c927), (17, .int .i64 (x1087)), (18, .int .i64 ((k1088 : Int))), (68, .slice A5 (l8).length c6), (69, .int .i64 ((l8.length : Int))), (70, .int .i64 ((k912 : Int))), (82, .int .i64 ((x916.length : Int) + 1)), (83, .int .i64 ((k1088 : Int)))]) (hp' := (g606, Cl 40 [.int .i64 (s13.Place), .int .i64 (s13.Long), .int .i64 (s13.Limit)]) :: (hs635 ++ R)) ⟨rfl, rfl, rfl, rfl, rfl, rfl, rfl, rfl, rfl, rfl, rfl, rfl, rfl, rfl, rfl, trivial⟩ (.cons_cons _ (sub_app hs635 (.refl _))) ⟨rfl, rfl, (Base.Le.refl _)⟩
                    ·
                      rintro b1114 _ _ ⟨rfl, rfl, hle1115⟩
                      have hm := hk1117
                      refine c_seq ?_
                      refine c_region ?_
                      refine t_st rfl (st_move rfl) ?_
                      refine t_st rfl (st_move rfl) ?_
                      refine t_st rfl (st_len rfl sl45) ?_
                      refine t_st rfl (st_lss rfl rfl) ?_
                      refine t_nil ?_
                      refine x_then_normal ?_
                      refine c_cond _ rfl (fun hc1140 => ?_) (fun hc1140 => ?_)
                      ·
                        rw [if_pos (of_decide_eq_true hc1140)] at hm
                        refine c_seq ?_
                        refine c_region ?_
                        refine t_st rfl (st_move rfl) ?_
                        refine t_st rfl (st_move rfl) ?_
                        refine t_st rfl (st_move rfl) ?_
                        refine t_st rfl (st_move rfl) ?_
                        obtain ⟨x1141, h1142, hm⟩ := bindS hm
                        obtain ⟨j1143, hj1144, hx1145⟩ := idx_some h1142
                        obtain ⟨cs1146, hr1147, hcs1148, hA1149, hlt1150⟩ := FZ.get (sz := 1) rfl (by decide) (h928.le (hle1086.trans hle1115)) hx1145
                        obtain rfl := hr1147
                        refine t_st rfl (st_index_old j1143 rfl rfl hj1144 hlt1150 hA1149 sl45) ?_
                        refine t_st rfl (st_load_old rfl one3 (hcs1148 0 _ rfl)) ?_
                        obtain ⟨x1151, h1152, hm⟩ := bindS hm
                        obtain ⟨j1153, hj1154, hx1155⟩ := idx_some h1152
                        obtain ⟨cs1156, hr1157, hcs1158, hA1159, hlt1160⟩ := FZ.get (sz := 6) rfl (by decide) (h3.le (hle619.trans (hle632.trans (hle641.trans (hle655.trans (hle911.trans (hle1086.trans hle1115))))))) hx1155
                        obtain ⟨_, _, rfl, rfl, ⟨_, _, rfl, rfl, ⟨_, _, rfl, rfl, ⟨_, _, rfl, rfl, ⟨_, _, rfl, rfl, rfl⟩⟩⟩⟩⟩ := hr1157
                        refine t_st rfl (st_index_old j1153 rfl rfl hj1154 hlt1160 hA1159 sl22) ?_
                        refine t_st rfl (st_field_old rfl hA1159 fld36_4) ?_
                        refine t_st rfl (st_load_old rfl one3 (hcs1158 4 _ rfl)) ?_
                        obtain ⟨_, h1161, hm⟩ := bindS hm
                        have h1161 := (chk_some h1161).2
                        refine t_st rfl (st_add rfl rfl h1161) ?_
                        refine t_st rfl (st_assign rfl) ?_
                        refine t_nil ?_
                        refine x_then_normal ?_
                        refine c_seq ?_
                        refine c_region ?_
                        refine t_st rfl (st_move rfl) ?_
                        refine t_st rfl (st_field rfl fld40_2) ?_
                        refine t_st rfl (st_load 0 rfl one3 rfl rfl) ?_
                        refine t_st rfl (st_gtr rfl rfl) ?_
                        refine t_nil ?_
                        refine x_then_normal ?_
                        refine c_cond _ rfl (fun hc1162 => ?_) (fun hc1162 => ?_)
                        ·
                          rw [if_pos (of_decide_eq_true hc1162)] at hm
                          refine c_seq ?_
                          refine c_region ?_
                          refine t_st rfl (st_assign rfl) ?_
                          refine t_nil ?_
                          refine x_then_normal ?_
                          refine c_ret ?_
                          refine x_block_ret ?_
                          refine x_then_ret ?_
                          refine x_then_ret ?_
                          refine x_block_ret ?_
                          refine x_block_ret ?_
                          refine x_then_ret ?_
                          refine x_then_ret ?_
                          refine x_block_ret ?_
                          refine x_then_ret ?_
                          have hq1163 := houtL940 _ (Option.some.inj hm).symm
                          rw [hq1163] at hk1091
                          have hm := elimR hk1091
                          have hq1164 := houtL660 _ (Option.some.inj hm).symm
                          rw [hq1164] at hk915
                          have hm := elimR hk915
                          obtain rfl := some1 hm
                          exact retM (rs := [.tmp 10]) [.bool (false)] (hle619.trans (hle632.trans (hle641.trans (hle655.trans (hle911.trans (hle1086.trans hle1115)))))) (by decide) rfl ⟨rfl, trivial⟩ rfl (hp' := R) (.cons _ (sub_skip hs635 (.refl _))) ⟨rfl, rfl⟩
                        ·
                          rw [if_neg (of_decide_eq_false hc1162)] at hm
                          refine c_skip ?_
                          refine x_block_normal ?_
                          refine x_then_normal ?_
                          refine c_region ?_
                          refine t_st rfl (st_add rfl rfl (by omega)) ?_
                          refine t_st rfl (st_move rfl) ?_
                          refine t_nil ?_
                          exact x_againM (x1116 + x1151.Km) (Option.some.inj hm).symm (e' := [(0, .slice A1 (l4).length c2), (1, .slice A5 (l8).length c6), (2, .slice A9 (l12).length c10), (4, .int .i64 (x14)), (8, .pointer (some ⟨g606, 0, none⟩)), (11, .slice A633 (l629).length c634), (15, .int .i64 ((k912 : Int))), (16, .slice A926 (x916).length c927), (17, .int .i64 (x1116 + x1151.Km)), (68, .slice A5 (l8).length c6), (69, .int .i64 ((l8.length : Int))), (70, .int .i64 ((k912 : Int))), (82, .int .i64 ((x916.length : Int) + 1)), (83, .int .i64 ((k1088 : Int) + 1))]) (hp' := (g606, Cl 40 [.int .i64 (s13.Place), .int .i64 (s13.Long), .int .i64 (s13.Limit)]) :: (hs635 ++ R)) ⟨rfl, rfl, rfl, rfl, rfl, rfl, rfl, rfl, rfl, rfl, rfl, rfl, rfl, rfl, trivial⟩ (.cons_cons _ (sub_app hs635 (.refl _))) ⟨rfl, rfl, ((hle1086.trans hle1115))⟩
                      ·
                        rw [if_neg (of_decide_eq_false hc1140)] at hm
                        refine c_skip ?_
                        refine x_block_normal ?_
                        refine x_then_normal ?_
                        refine c_region ?_
                        refine t_st rfl (st_add rfl rfl (by omega)) ?_
                        refine t_st rfl (st_move rfl) ?_
                        refine t_nil ?_
                        exact x_againM x1116 (Option.some.inj hm).symm (e' := [(0, .slice A1 (l4).length c2), (1, .slice A5 (l8).length c6), (2, .slice A9 (l12).length c10), (4, .int .i64 (x14)), (8, .pointer (some ⟨g606, 0, none⟩)), (11, .slice A633 (l629).length c634), (15, .int .i64 ((k912 : Int))), (16, .slice A926 (x916).length c927), (17, .int .i64 (x1116)), (68, .slice A5 (l8).length c6), (69, .int .i64 ((l8.length : Int))), (70, .int .i64 ((k912 : Int))), (82, .int .i64 ((x916.length : Int) + 1)), (83, .int .i64 ((k1088 : Int) + 1))]) (hp' := (g606, Cl 40 [.int .i64 (s13.Place), .int .i64 (s13.Long), .int .i64 (s13.Limit)]) :: (hs635 ++ R)) ⟨rfl, rfl, rfl, rfl, rfl, rfl, rfl, rfl, rfl, rfl, rfl, rfl, rfl, rfl, trivial⟩ (.cons_cons _ (sub_app hs635 (.refl _))) ⟨rfl, rfl, ((hle1086.trans hle1115))⟩
                  ·
                    rintro x1087 b1085 _ _ ⟨rfl, rfl, hle1086⟩ hq1165
                    rw [hq1165] at hk1091
                    have hm := elimL hk1091
                    refine c_seq ?_
                    refine c_region ?_
                    refine t_st rfl (st_lss_f rfl rfl (by omega)) ?_
                    refine t_nil ?_
                    refine x_then_normal ?_
                    refine c_seq ?_
                    refine c_cond_f rfl ?_
                    refine c_exit ?_
                    refine x_then_exit ?_
                    refine x_then_exit ?_
                    refine x_block_out ?_
                    refine x_block_normal ?_
                    refine x_then_normal ?_
                    refine c_region ?_
                    refine t_st rfl (st_add rfl rfl (by omega)) ?_
                    refine t_st rfl (st_move rfl) ?_
                    refine t_nil ?_
                    exact x_againM () (Option.some.inj hm).symm (e' := [(0, .slice A1 (l4).length c2), (1, .slice A5 (l8).length c6), (2, .slice A9 (l12).length c10), (4, .int .i64 (x14)), (8, .pointer (some ⟨g606, 0, none⟩)), (11, .slice A633 (l629).length c634), (68, .slice A5 (l8).length c6), (69, .int .i64 ((l8.length : Int))), (70, .int .i64 ((k912 : Int) + 1))]) (hp' := (g606, Cl 40 [.int .i64 (s13.Place), .int .i64 (s13.Long), .int .i64 (s13.Limit)]) :: (hs635 ++ R)) ⟨rfl, rfl, rfl, rfl, rfl, rfl, rfl, rfl, rfl, trivial⟩ (.cons_cons _ (sub_app hs635 (.refl _))) ⟨rfl, rfl, ((hle911.trans hle1086))⟩
                ·
                  rintro _ b910 _ _ ⟨rfl, rfl, hle911⟩ hq1166
                  rw [hq1166] at hk915
                  have hm := elimL hk915
                  refine c_seq ?_
                  refine c_region ?_
                  refine t_st rfl (st_lss_f rfl rfl (by omega)) ?_
                  refine t_nil ?_
                  refine x_then_normal ?_
                  refine c_seq ?_
                  refine c_cond_f rfl ?_
                  refine c_exit ?_
                  refine x_then_exit ?_
                  refine x_then_exit ?_
                  refine x_block_out ?_
                  refine x_then_normal ?_
                  refine c_seq ?_
                  obtain ⟨x1171, hj1172, hk1172⟩ := bindS hm
                  refine c_join (fun b1169 e' hp' => [(0, .slice A1 (l4).length c2), (1, .slice A5 (l8).length c6), (2, .slice A9 (l12).length c10), (4, .int .i64 (x14)), (8, .pointer (some ⟨g606, 0, none⟩)), (11, .slice A633 (l629).length c634), (120, .bool (x1171))] = e' ∧ (g606, Cl 40 [.int .i64 (s13.Place), .int .i64 (s13.Long), .int .i64 (s13.Limit)]) :: (hs635 ++ R) = hp' ∧ b910.Le b1169) ?_ ?_
                  ·
                    have hm := hj1172
                    refine c_region ?_
                    refine t_st rfl (st_move rfl) ?_
                    refine t_bool rfl (st_lss rfl rfl) (fun hc1173 => ?_) (fun hc1173 => ?_)
                    ·
                      rw [if_pos hc1173] at hm
                      refine t_st rfl (st_move rfl) ?_
                      refine t_no 114 rfl rfl rfl rfl rfl ?_
                      refine t_no 114 rfl rfl rfl rfl rfl ?_
                      refine t_no 114 rfl rfl rfl rfl rfl ?_
                      refine t_no 114 rfl rfl rfl rfl rfl ?_
                      refine t_no 114 rfl rfl rfl rfl rfl ?_
                      refine t_st rfl (st_pick_t rfl rfl) ?_
                      refine t_nil ?_
                      obtain rfl := some1 hm
                      exact x_join (e' := [(0, .slice A1 (l4).length c2), (1, .slice A5 (l8).length c6), (2, .slice A9 (l12).length c10), (4, .int .i64 (x14)), (8, .pointer (some ⟨g606, 0, none⟩)), (11, .slice A633 (l629).length c634), (120, .bool (true))]) (hp' := (g606, Cl 40 [.int .i64 (s13.Place), .int .i64 (s13.Long), .int .i64 (s13.Limit)]) :: (hs635 ++ R)) ⟨rfl, rfl, rfl, rfl, rfl, rfl, rfl, trivial⟩ (.cons_cons _ (sub_app hs635 (.refl _))) ⟨rfl, rfl, (Base.Le.refl _)⟩
                    ·
                      rw [if_neg hc1173] at hm
                      refine t_st rfl (st_move rfl) ?_
                      refine t_yes 114 rfl rfl rfl ?_
                      refine t_st rfl (st_move rfl) ?_
                      refine t_yes 114 rfl rfl rfl ?_
                      refine t_st rfl (st_field rfl fld40_2) ?_
                      refine t_yes 114 rfl rfl rfl ?_
                      refine t_st rfl (st_load 0 rfl one3 rfl rfl) ?_
                      refine t_yes 114 rfl rfl rfl ?_
                      obtain ⟨_, h1174, hm⟩ := bindS hm
                      have h1174 := (chk_some h1174).2
                      refine t_st rfl (st_sub rfl rfl h1174) ?_
                      refine t_yes 114 rfl rfl rfl ?_
                      refine t_st rfl (st_gtr rfl rfl) ?_
                      refine t_st rfl (st_pick_f rfl rfl) ?_
                      refine t_nil ?_
                      obtain rfl := some1 hm
                      exact x_join (e' := [(0, .slice A1 (l4).length c2), (1, .slice A5 (l8).length c6), (2, .slice A9 (l12).length c10), (4, .int .i64 (x14)), (8, .pointer (some ⟨g606, 0, none⟩)), (11, .slice A633 (l629).length c634), (120, .bool (decide ((10000 - s13.Limit) < x14)))]) (hp' := (g606, Cl 40 [.int .i64 (s13.Place), .int .i64 (s13.Long), .int .i64 (s13.Limit)]) :: (hs635 ++ R)) ⟨rfl, rfl, rfl, rfl, rfl, rfl, rfl, trivial⟩ (.cons_cons _ (sub_app hs635 (.refl _))) ⟨rfl, rfl, (Base.Le.refl _)⟩
                  ·
                    rintro b1169 _ _ ⟨rfl, rfl, hle1170⟩
                    have hm := hk1172
                    refine c_cond _ rfl (fun hc1175 => ?_) (fun hc1175 => ?_)
                    ·
                      rw [if_pos hc1175] at hm
                      refine c_seq ?_
                      refine c_region ?_
                      refine t_st rfl (st_assign rfl) ?_
                      refine t_nil ?_
                      refine x_then_normal ?_
                      refine c_ret ?_
                      refine x_then_ret ?_
                      obtain rfl := some1 hm
                      exact retM (rs := [.tmp 10]) [.bool (true)] (hle619.trans (hle632.trans (hle641.trans (hle655.trans (hle911.trans hle1170))))) (by decide) rfl ⟨rfl, trivial⟩ rfl (hp' := R) (.cons _ (sub_skip hs635 (.refl _))) ⟨rfl, rfl⟩
                    ·
                      rw [if_neg (fun hh => Bool.noConfusion (hh.symm.trans hc1175))] at hm
                      refine c_skip ?_
                      refine x_then_normal ?_
                      refine c_seq ?_
                      refine c_region ?_
                      refine t_st rfl (st_field rfl fld40_2) ?_
                      refine t_st rfl (st_load 0 rfl one3 rfl rfl) ?_
                      refine t_st rfl (st_move rfl) ?_
                      obtain ⟨_, h1176, hm⟩ := bindS hm
                      have h1176 := (chk_some h1176).2
                      refine t_st rfl (st_add rfl rfl h1176) ?_
                      refine t_st rfl (st_field rfl fld40_2) ?_
                      refine t_do rfl (u_store 0 rfl rfl siz3 rfl rfl (by simp)) ?_
                      rintro _ _ rfl
                      refine t_nil ?_
                      refine x_then_normal ?_
                      refine c_seq ?_
                      refine c_region ?_
                      refine t_st rfl (st_move rfl) ?_
                      refine t_st rfl (st_move rfl) ?_
                      refine t_st rfl (st_move rfl) ?_
                      refine t_st rfl (st_loadD (vs := [_, _, _]) 0 3 rfl agg40 rfl rfl rfl) ?_
                      obtain ⟨⟨x1177, l1178⟩, hcl1179, hm⟩ := bindS hm
                      have hm := (unc2E hm)
                      refine t_callG _ rfl call18 rfl (cFleetInspect _ _ l4 l8 l12 (⟨s13.Place, s13.Long, s13.Limit + x14⟩ : FleetShop) A1 c2 A5 c6 A9 c10 (h3.le (hle619.trans (hle632.trans (hle641.trans (hle655.trans (hle911.trans hle1170)))))) (h7.le (hle619.trans (hle632.trans (hle641.trans (hle655.trans (hle911.trans hle1170)))))) (h11.le (hle619.trans (hle632.trans (hle641.trans (hle655.trans (hle911.trans hle1170)))))) x1177 l1178 hcl1179) ?_
                      rintro _ b1180 _ hle1181 ⟨A1182, c1183, hs1184, rfl, rfl, h1185⟩
                      refine t_in1 [] [_] hs1184 (hs635 ++ R) rfl ?_
                      refine t_st rfl (st_move rfl) ?_
                      refine t_st rfl (st_extract rfl rfl) ?_
                      refine t_st rfl (st_extract rfl rfl) ?_
                      refine t_st rfl (st_assign rfl) ?_
                      refine t_st rfl (st_assign rfl) ?_
                      refine t_nil ?_
                      refine x_then_normal ?_
                      obtain ⟨x1191, hj1192, hk1192⟩ := bindS hm
                      refine c_join (fun b1189 e' hp' => [(10, .bool (x1191))] = e' ∧ R = hp' ∧ b1180.Le b1189) ?_ ?_
                      ·
                        have hm := hj1192
                        refine c_region ?_
                        refine t_st rfl (st_move rfl) ?_
                        refine t_bool rfl (st_eql rfl rfl) (fun hc1193 => ?_) (fun hc1193 => ?_)
                        ·
                          rw [if_pos hc1193] at hm
                          refine t_st rfl (st_move rfl) ?_
                          refine t_yes 136 rfl rfl rfl ?_
                          refine t_st rfl (st_move rfl) ?_
                          refine t_yes 136 rfl rfl rfl ?_
                          refine t_st rfl (st_move rfl) ?_
                          refine t_yes 136 rfl rfl rfl ?_
                          obtain ⟨x1194, hcl1195, hm⟩ := bindS hm
                          refine t_do rfl (u_callW0 _ call21 rfl (fun w ho => cSlicesEqualFunc _ [] l1178 l629 A1182 c1183 A633 c634 (OS.now (o := (OT.fr (RT.list (RT.int .i64)))) (l := l1178) (hs := hs1184) h1185 ho (.cons _ (List.sublist_append_left _ _))) (OS.now (o := (OT.fr (RT.list (RT.int .i64)))) (l := l629) (hs := hs635) (h636.le (hle641.trans (hle655.trans (hle911.trans (hle1170.trans hle1181))))) ho (.cons _ (sub_skip hs1184 (List.sublist_append_left _ _)))) x1194 hcl1195) (fun _ _ _ h => h.2.symm)) ?_
                          rintro _ _ ⟨⟨_, rfl, _⟩, rfl⟩
                          refine t_st rfl (st_pick_t rfl rfl) ?_
                          refine t_st rfl (st_assign rfl) ?_
                          refine t_nil ?_
                          obtain rfl := some1 hm
                          exact x_join (e' := [(10, .bool (x1194))]) (hp' := R) ⟨rfl, trivial⟩ (.cons _ (sub_skip hs1184 (sub_skip hs635 (.refl _)))) ⟨rfl, rfl, (Base.Le.refl _)⟩
                        ·
                          rw [if_neg hc1193] at hm
                          refine t_st rfl (st_move rfl) ?_
                          refine t_no 136 rfl rfl rfl rfl rfl ?_
                          refine t_no 136 rfl rfl rfl rfl rfl ?_
                          refine t_no 136 rfl rfl rfl rfl rfl ?_
                          refine t_st rfl (st_pick_f rfl rfl) ?_
                          refine t_st rfl (st_assign rfl) ?_
                          refine t_nil ?_
                          obtain rfl := some1 hm
                          exact x_join (e' := [(10, .bool (false))]) (hp' := R) ⟨rfl, trivial⟩ (.cons _ (sub_skip hs1184 (sub_skip hs635 (.refl _)))) ⟨rfl, rfl, (Base.Le.refl _)⟩
                      ·
                        rintro b1189 _ _ ⟨rfl, rfl, hle1190⟩
                        have hm := hk1192
                        refine c_ret ?_
                        obtain rfl := some1 hm
                        exact retM (rs := [.tmp 10]) [.bool (x1191)] (hle619.trans (hle632.trans (hle641.trans (hle655.trans (hle911.trans (hle1170.trans (hle1181.trans hle1190))))))) (by decide) rfl ⟨rfl, trivial⟩ rfl (hp' := R) (.refl _) ⟨rfl, rfl⟩

set_option maxRecDepth 20000 in
theorem cFishref2TurnFault (b : Base) (R : Hp) (l4 : (List FleetTask)) (x5 : Int) (A1 : Option Addr) (c2 : Nat) (h3 : FZ rFleetTask b.w A1 c2 l4) (x12 : Int) (hm : mFishref2TurnFault l4 x5 = some x12) :
    CallsG Try.prog 12 [.slice A1 (l4).length c2, .int .i64 (x5)] b (R) (fun v b' hp' => .int .i64 (x12) = v ∧ R = hp') := by
  refine fn_enterG 14 Try.func12 rfl Try.ntmps12 rfl ?_
  unfold mFishref2TurnFault at hm
  refine c_seq ?_
  refine c_region ?_
  refine t_st rfl (st_assign rfl) ?_
  refine t_nil ?_
  refine x_then_normal ?_
  refine c_seq ?_
  refine c_seq ?_
  refine c_region ?_
  refine t_st rfl (st_move rfl) ?_
  obtain ⟨x13, hcl14, hm⟩ := bindS hm
  refine t_do rfl (u_callW0 _ call16 rfl (fun w ho => cFishref2TasksFault _ [] l4 A1 c2 (h3.old ho) x13 hcl14) (fun _ _ _ h => h.2.symm)) ?_
  rintro _ _ ⟨⟨_, rfl, _⟩, rfl⟩
  refine t_st rfl (st_assign rfl) ?_
  refine t_nil ?_
  refine x_then_normal ?_
  refine c_seq ?_
  refine c_region ?_
  refine t_st rfl (st_move rfl) ?_
  refine t_st rfl (st_neq rfl rfl) ?_
  refine t_nil ?_
  refine x_then_normal ?_
  refine c_cond _ rfl (fun hc15 => ?_) (fun hc15 => ?_)
  ·
    rw [if_pos (of_decide_eq_true hc15)] at hm
    refine c_seq ?_
    refine c_region ?_
    refine t_st rfl (st_move rfl) ?_
    refine t_st rfl (st_assign rfl) ?_
    refine t_nil ?_
    refine x_then_normal ?_
    refine c_ret ?_
    refine x_then_ret ?_
    obtain rfl := some1 hm
    exact retM (rs := [.tmp 4]) [.int .i64 (x13)] (Base.Le.refl _) (by decide) rfl ⟨rfl, trivial⟩ rfl (hp' := R) (.refl _) ⟨rfl, rfl⟩
  ·
    rw [if_neg (of_decide_eq_false hc15)] at hm
    refine c_skip ?_
    refine x_then_normal ?_
    refine c_seq ?_
    refine c_seq ?_
    refine c_region ?_
    refine t_st rfl (st_move rfl) ?_
    obtain ⟨x16, hcl17, hm⟩ := bindS hm
    refine t_do rfl (u_callW0 _ call42 rfl (fun w ho => cFishref2Within _ [] x5 0 28800 x16 hcl17) (fun _ _ _ h => h.2.symm)) ?_
    rintro _ _ ⟨⟨_, rfl, _⟩, rfl⟩
    refine t_st rfl (st_not rfl) ?_
    refine t_nil ?_
    refine x_then_normal ?_
    refine c_cond _ rfl (fun hc18 => ?_) (fun hc18 => ?_)
    ·
      rw [if_neg (fun hh => Bool.noConfusion (hh.symm.trans (notT hc18)))] at hm
      refine c_seq ?_
      refine c_region ?_
      refine t_st rfl (st_assign rfl) ?_
      refine t_nil ?_
      refine x_then_normal ?_
      refine c_ret ?_
      refine x_then_ret ?_
      obtain rfl := some1 hm
      exact retM (rs := [.tmp 4]) [.int .i64 (2)] (Base.Le.refl _) (by decide) rfl ⟨rfl, trivial⟩ rfl (hp' := R) (.refl _) ⟨rfl, rfl⟩
    ·
      rw [if_pos (notF hc18)] at hm
      refine c_skip ?_
      refine x_then_normal ?_
      refine c_seq ?_
      refine c_region ?_
      refine t_st rfl (st_assign rfl) ?_
      refine t_nil ?_
      refine x_then_normal ?_
      refine c_ret ?_
      obtain rfl := some1 hm
      exact retM (rs := [.tmp 4]) [.int .i64 (0)] (Base.Le.refl _) (by decide) rfl ⟨rfl, trivial⟩ rfl (hp' := R) (.refl _) ⟨rfl, rfl⟩

set_option maxRecDepth 20000 in
theorem cFleetMoments (b : Base) (R : Hp) (l4 : (List FleetTask)) (x5 : Int) (A1 : Option Addr) (c2 : Nat) (h3 : FZ rFleetTask b.w A1 c2 l4) (x1545 : Int) (l1546 : (List FleetMoment)) (hm : mFleetMoments l4 x5 = some (x1545, l1546)) :
    CallsG Try.prog 14 [.slice A1 (l4).length c2, .int .i64 (x5)] b (R) (fun v b' hp' => ∃ (A1542 : Option Addr), ∃ (c1543 : Nat), ∃ (hs1541 : Hp), .tuple #[.slice A1542 (l1546).length c1543, .int .i64 (x1545)] = v ∧ (hs1541 ++ R) = hp' ∧ OS 33 (OT.fr rFleetMoment) b'.w (.slice A1542 l1546.length c1543) l1546 hs1541) := by
  refine fn_enterG 94 Try.func14 rfl Try.ntmps14 rfl ?_
  unfold mFleetMoments at hm
  refine c_seq ?_
  refine c_region ?_
  refine t_st rfl (st_assign rfl) ?_
  refine t_st rfl (st_assign rfl) ?_
  refine t_nil ?_
  refine x_then_normal ?_
  refine c_seq ?_
  refine c_seq ?_
  refine c_region ?_
  refine t_st rfl (st_move rfl) ?_
  refine t_st rfl (st_move rfl) ?_
  obtain ⟨x1547, hcl1548, hm⟩ := bindS hm
  refine t_do rfl (u_callW0 _ call43 rfl (fun w ho => cFleetCheckTurn _ [] l4 x5 A1 c2 (h3.old ho) x1547 hcl1548) (fun _ _ _ h => h.2.symm)) ?_
  rintro _ _ ⟨⟨_, rfl, _⟩, rfl⟩
  refine t_st rfl (st_assign rfl) ?_
  refine t_nil ?_
  refine x_then_normal ?_
  refine c_seq ?_
  refine c_region ?_
  refine t_st rfl (st_move rfl) ?_
  refine t_st rfl (st_neq rfl rfl) ?_
  refine t_nil ?_
  refine x_then_normal ?_
  refine c_cond _ rfl (fun hc1549 => ?_) (fun hc1549 => ?_)
  ·
    rw [if_pos (of_decide_eq_true hc1549)] at hm
    refine c_seq ?_
    refine c_region ?_
    refine t_st rfl (st_move rfl) ?_
    refine t_st rfl (st_assign rfl) ?_
    refine t_st rfl (st_assign rfl) ?_
    refine t_nil ?_
    refine x_then_normal ?_
    refine c_ret ?_
    refine x_then_ret ?_
    obtain ⟨rfl, rfl⟩ := some2 hm
    exact retM (rs := [.tmp 4, .tmp 5]) [.slice none 0 0, .int .i64 (x1547)] (Base.Le.refl _) (by decide) rfl ⟨rfl, ⟨rfl, trivial⟩⟩ rfl (hp' := ([] ++ R)) (.refl _) ⟨none, 0, [], rfl, rfl, OS.nil⟩
  ·
    rw [if_neg (of_decide_eq_false hc1549)] at hm
    refine c_skip ?_
    refine x_then_normal ?_
    refine c_seq ?_
    refine c_region ?_
    refine t_st rfl (st_assign rfl) ?_
    refine t_nil ?_
    refine x_then_normal ?_
    refine c_seq ?_
    refine c_seq ?_
    refine c_region ?_
    refine t_st rfl (st_move rfl) ?_
    refine t_nil ?_
    refine x_then_normal ?_
    refine c_block ?_
    obtain ⟨l2573, hl2575, hk2576⟩ := bindS hm
    refine c_forS (fun k2574 => fun l2573 => fun b2566 e' hp' => ∃ (A2570 : Option Addr), ∃ (c2571 : Nat), ∃ (hs2569 : Hp), [(0, .slice A1 (l4).length c2), (1, .int .i64 (x5)), (7, .slice A2570 (l2573).length c2571), (22, .int .i64 ((k2574 : Int)))] = e' ∧ (hs2569 ++ R) = hp' ∧ b.Le b2566 ∧ OS 33 (OT.fr rFleetMoment) b2566.w (.slice A2570 l2573.length c2571) l2573 hs2569) hl2575 (e' := [(0, .slice A1 (l4).length c2), (1, .int .i64 (x5)), (7, .slice none 0 0), (22, .int .i64 0)]) (hp' := ([] ++ R)) ⟨rfl, rfl, rfl, rfl, trivial⟩ (.refl _) ⟨none, 0, [], rfl, rfl, (Base.Le.refl _), OS.nil⟩ ?_ ?_
    ·
      rintro k2574 l2573 b2566 _ _ oL1550 hknL1550 ⟨A2570, c2571, hs2569, rfl, rfl, hle2567, h2572⟩ hstepL1550
      unfold mFleetMoments_L1550 at hstepL1550
      have hm := hstepL1550
      refine c_seq ?_
      refine c_region ?_
      refine t_st rfl (st_lss_t rfl rfl (by omega)) ?_
      refine t_nil ?_
      refine x_then_normal ?_
      refine c_seq ?_
      refine c_cond_t rfl ?_
      refine c_skip ?_
      refine x_then_normal ?_
      refine c_seq ?_
      refine c_block ?_
      refine c_seq ?_
      refine c_region ?_
      refine t_st rfl (st_move rfl) ?_
      refine t_st rfl (st_assign rfl) ?_
      refine t_nil ?_
      refine x_then_normal ?_
      refine c_seq ?_
      refine c_region ?_
      refine t_st rfl (st_move rfl) ?_
      refine t_st rfl (st_build (v := .agg #[.int .i64 ((k2574 : Int)), .int .i64 (0), .int .i64 (0)]) [(0, .int .i64 ((k2574 : Int)))] rfl (fun _ => by kernel_rfl)) ?_
      refine t_do rfl (u_alloc [.int .i64 0, .int .i64 0, .int .i64 0] zero33 rfl) ?_
      rintro _ _ ⟨g2577, rfl, rfl⟩
      refine t_do rfl (u_storeN (vs := [_, _, _]) 0 3 rfl rfl rfl siz33 rfl (by intro u hu; simp only [List.mem_cons, List.not_mem_nil, or_false] at hu; rcases hu with rfl | rfl | rfl <;> rfl) rfl (by simp)) ?_
      rintro _ _ rfl
      refine t_nil ?_
      refine x_then_normal ?_
      refine c_seq ?_
      refine c_seq ?_
      refine c_region ?_
      refine t_st rfl (st_move rfl) ?_
      obtain ⟨l2578, hcl2579, hm⟩ := bindS hm
      refine t_callG _ rfl call44 rfl (cFleetOrder _ _ l4 A1 c2 (h3.le hle2567) l2578 hcl2579) ?_
      rintro _ b2580 _ hle2581 ⟨A2582, c2583, hs2584, rfl, rfl, h2585⟩
      refine t_in1 [] [_] hs2584 (hs2569 ++ R) rfl ?_
      refine t_st rfl (st_len rfl sl45) ?_
      refine t_st rfl (st_move rfl) ?_
      refine t_nil ?_
      refine x_then_normal ?_
      refine c_block ?_
      have hb2587 := (OS.len h2585)
      refine c_front2 [_] hs2584 hs2569 R rfl ?_
      obtain ⟨⟨x2910, x2911⟩, hl2913, hk2914⟩ := bindS hm
      refine c_forS (fun k2912 => unc2 fun x2910 x2911 => fun b2908 e' hp' => [(0, .slice A1 (l4).length c2), (1, .int .i64 (x5)), (7, .slice A2570 (l2573).length c2571), (8, .int .i64 ((k2574 : Int))), (9, .pointer (some ⟨g2577, 0, none⟩)), (22, .int .i64 ((k2574 : Int))), (28, .slice A2582 (l2578).length c2583), (29, .int .i64 ((l2578.length : Int))), (30, .int .i64 ((k2912 : Int)))] = e' ∧ (g2577, Cl 33 [.int .i64 ((k2574 : Int)), .int .i64 (x2910), .int .i64 (x2911)]) :: (hs2569 ++ (hs2584 ++ R)) = hp' ∧ b2580.Le b2908) hl2913 (e' := [(0, .slice A1 (l4).length c2), (1, .int .i64 (x5)), (7, .slice A2570 (l2573).length c2571), (8, .int .i64 ((k2574 : Int))), (9, .pointer (some ⟨g2577, 0, none⟩)), (22, .int .i64 ((k2574 : Int))), (28, .slice A2582 (l2578).length c2583), (29, .int .i64 ((l2578.length : Int))), (30, .int .i64 0)]) (hp' := (g2577, Cl 33 [.int .i64 ((k2574 : Int)), .int .i64 (0), .int .i64 (0)]) :: (hs2569 ++ (hs2584 ++ R))) ⟨rfl, rfl, rfl, rfl, rfl, rfl, rfl, rfl, rfl, trivial⟩ (.cons_cons _ (sub_app hs2569 (sub_app hs2584 (.refl _)))) ⟨rfl, rfl, (Base.Le.refl _)⟩ ?_ ?_
      ·
        rintro k2912 ⟨x2910, x2911⟩ b2908 _ _ oL2586 hknL2586 ⟨rfl, rfl, hle2909⟩ hstepL2586
        unfold mFleetMoments_L2586 at hstepL2586
        have hm := (unc2E hstepL2586)
        refine c_seq ?_
        refine c_region ?_
        refine t_st rfl (st_lss_t rfl rfl (by omega)) ?_
        refine t_nil ?_
        refine x_then_normal ?_
        refine c_seq ?_
        refine c_cond_t rfl ?_
        refine c_skip ?_
        refine x_then_normal ?_
        refine c_seq ?_
        refine c_block ?_
        refine c_seq ?_
        refine c_region ?_
        obtain ⟨x2915, h2916, hm⟩ := bindS hm
        obtain ⟨j2917, hj2918, hx2919⟩ := idx_some h2916
        obtain ⟨cs2920, hs2925, P2926, P2927, hq2928, hr2921, hcs2922, hA2923, hlt2924, hb2929, hho2930⟩ := OS.get (sz := 1) rfl (by decide) (h2585.le hle2909) hx2919
        obtain ⟨rfl, rfl⟩ := hr2921
        refine t_st rfl (st_index_old j2917 rfl rfl hj2918 hlt2924 hA2923 sl45) ?_
        refine t_st rfl (st_load_rd rfl one3 (fun w ho => hcs2922 w _ ho (.cons _ (sub_skip hs2569 (List.sublist_append_left _ _))) 0 _ rfl)) ?_
        refine t_st rfl (st_assign rfl) ?_
        refine t_nil ?_
        refine x_then_normal ?_
        refine c_seq ?_
        refine c_region ?_
        refine t_st rfl (st_move rfl) ?_
        refine t_st rfl (st_move rfl) ?_
        obtain ⟨x2931, h2932, hm⟩ := bindS hm
        obtain ⟨j2933, hj2934, hx2935⟩ := idx_some h2932
        obtain ⟨cs2936, hr2937, hcs2938, hA2939, hlt2940⟩ := FZ.get (sz := 6) rfl (by decide) (h3.le (hle2567.trans (hle2581.trans hle2909))) hx2935
        obtain ⟨_, _, rfl, rfl, ⟨_, _, rfl, rfl, ⟨_, _, rfl, rfl, ⟨_, _, rfl, rfl, ⟨_, _, rfl, rfl, rfl⟩⟩⟩⟩⟩ := hr2937
        refine t_st rfl (st_index_old j2933 rfl rfl hj2934 hlt2940 hA2939 sl22) ?_
        refine t_st rfl (st_field_old rfl hA2939 fld36_2) ?_
        refine t_st rfl (st_load_old rfl one3 (hcs2938 2 _ rfl)) ?_
        refine t_st rfl (st_assign rfl) ?_
        refine t_st rfl (st_assign rfl) ?_
        refine t_nil ?_
        refine x_then_normal ?_
        refine c_seq ?_
        refine c_seq ?_
        refine c_region ?_
        refine t_st rfl (st_move rfl) ?_
        refine t_st rfl (st_len rfl sl22) ?_
        refine t_st rfl (st_move rfl) ?_
        refine t_nil ?_
        refine x_then_normal ?_
        refine c_block ?_
        have hb2942 := (FZ.bd (h3.le (hle2567.trans (hle2581.trans hle2909))))
        refine c_front2 [_] hs2569 hs2584 R rfl ?_
        refine c_front2 [_] hs2584 hs2569 R rfl ?_
        obtain ⟨x3028, hl3030, hk3031⟩ := bindS hm
        refine c_forS (fun k3029 => fun x3028 => fun b3026 e' hp' => [(0, .slice A1 (l4).length c2), (1, .int .i64 (x5)), (7, .slice A2570 (l2573).length c2571), (8, .int .i64 ((k2574 : Int))), (9, .pointer (some ⟨g2577, 0, none⟩)), (12, .int .i64 (x2931.Dep)), (13, .int .i64 (x3028)), (22, .int .i64 ((k2574 : Int))), (28, .slice A2582 (l2578).length c2583), (29, .int .i64 ((l2578.length : Int))), (30, .int .i64 ((k2912 : Int))), (39, .slice A1 (l4).length c2), (40, .int .i64 ((l4.length : Int))), (41, .int .i64 ((k3029 : Int)))] = e' ∧ (g2577, Cl 33 [.int .i64 ((k2574 : Int)), .int .i64 (x2910), .int .i64 (x2911)]) :: (hs2569 ++ (hs2584 ++ R)) = hp' ∧ b2908.Le b3026) hl3030 (e' := [(0, .slice A1 (l4).length c2), (1, .int .i64 (x5)), (7, .slice A2570 (l2573).length c2571), (8, .int .i64 ((k2574 : Int))), (9, .pointer (some ⟨g2577, 0, none⟩)), (12, .int .i64 (x2931.Dep)), (13, .int .i64 (0)), (22, .int .i64 ((k2574 : Int))), (28, .slice A2582 (l2578).length c2583), (29, .int .i64 ((l2578.length : Int))), (30, .int .i64 ((k2912 : Int))), (39, .slice A1 (l4).length c2), (40, .int .i64 ((l4.length : Int))), (41, .int .i64 0)]) (hp' := (g2577, Cl 33 [.int .i64 ((k2574 : Int)), .int .i64 (x2910), .int .i64 (x2911)]) :: (hs2569 ++ (hs2584 ++ R))) ⟨rfl, rfl, rfl, rfl, rfl, rfl, rfl, rfl, rfl, rfl, rfl, rfl, rfl, rfl, trivial⟩ (.cons_cons _ (sub_app hs2569 (sub_app hs2584 (.refl _)))) ⟨rfl, rfl, (Base.Le.refl _)⟩ ?_ ?_
        ·
          rintro k3029 x3028 b3026 _ _ oL2941 hknL2941 ⟨rfl, rfl, hle3027⟩ hstepL2941
          unfold mFleetMoments_L2941 at hstepL2941
          have hm := hstepL2941
          refine c_seq ?_
          refine c_region ?_
          refine t_st rfl (st_lss_t rfl rfl (by omega)) ?_
          refine t_nil ?_
          refine x_then_normal ?_
          refine c_seq ?_
          refine c_cond_t rfl ?_
          refine c_skip ?_
          refine x_then_normal ?_
          refine c_seq ?_
          refine c_block ?_
          refine c_seq ?_
          refine c_region ?_
          obtain ⟨x3032, h3033, hm⟩ := bindS hm
          obtain ⟨j3034, hj3035, hx3036⟩ := idx_some h3033
          obtain ⟨cs3037, hr3038, hcs3039, hA3040, hlt3041⟩ := FZ.get (sz := 6) rfl (by decide) (h3.le (hle2567.trans (hle2581.trans (hle2909.trans hle3027)))) hx3036
          obtain ⟨_, _, rfl, rfl, ⟨_, _, rfl, rfl, ⟨_, _, rfl, rfl, ⟨_, _, rfl, rfl, ⟨_, _, rfl, rfl, rfl⟩⟩⟩⟩⟩ := hr3038
          refine t_st rfl (st_index_old j3034 rfl rfl hj3035 hlt3041 hA3040 sl22) ?_
          refine t_st rfl (st_loadN_old (vs := [.int .i64 (x3032.From), .int .i64 (x3032.To), .int .i64 (x3032.Dep), .int .i64 (x3032.Arr), .int .i64 (x3032.Km), .int .i64 (x3032.Units)]) 6 rfl agg36 hA3040 rfl (fun j u hu => hcs3039 j u hu)) ?_
          refine t_do rfl (u_alloc [.int .i64 0, .int .i64 0, .int .i64 0, .int .i64 0, .int .i64 0, .int .i64 0] zero36 rfl) ?_
          rintro _ _ ⟨g3042, rfl, rfl⟩
          refine t_do rfl (u_storeN (vs := [_, _, _, _, _, _]) 0 6 rfl rfl rfl siz36 rfl (by intro u hu; simp only [List.mem_cons, List.not_mem_nil, or_false] at hu; rcases hu with rfl | rfl | rfl | rfl | rfl | rfl <;> rfl) rfl (by simp)) ?_
          rintro _ _ rfl
          refine t_nil ?_
          refine x_then_normal ?_
          obtain ⟨x3053, hj3054, hk3054⟩ := bindS hm
          refine c_join (fun b3051 e' hp' => [(0, .slice A1 (l4).length c2), (1, .int .i64 (x5)), (7, .slice A2570 (l2573).length c2571), (8, .int .i64 ((k2574 : Int))), (9, .pointer (some ⟨g2577, 0, none⟩)), (12, .int .i64 (x2931.Dep)), (13, .int .i64 (x3053)), (15, .pointer (some ⟨g3042, 0, none⟩)), (22, .int .i64 ((k2574 : Int))), (28, .slice A2582 (l2578).length c2583), (29, .int .i64 ((l2578.length : Int))), (30, .int .i64 ((k2912 : Int))), (39, .slice A1 (l4).length c2), (40, .int .i64 ((l4.length : Int))), (41, .int .i64 ((k3029 : Int)))] = e' ∧ (g2577, Cl 33 [.int .i64 ((k2574 : Int)), .int .i64 (x2910), .int .i64 (x2911)]) :: (g3042, Cl 36 [.int .i64 (x3032.From), .int .i64 (x3032.To), .int .i64 (x3032.Dep), .int .i64 (x3032.Arr), .int .i64 (x3032.Km), .int .i64 (x3032.Units)]) :: (hs2569 ++ (hs2584 ++ R)) = hp' ∧ b3026.Le b3051) ?_ ?_
          ·
            have hm := hj3054
            obtain ⟨x3058, hj3059, hk3059⟩ := bindS hm
            refine c_join (fun b3056 e' hp' => [(0, .slice A1 (l4).length c2), (1, .int .i64 (x5)), (7, .slice A2570 (l2573).length c2571), (8, .int .i64 ((k2574 : Int))), (9, .pointer (some ⟨g2577, 0, none⟩)), (12, .int .i64 (x2931.Dep)), (13, .int .i64 (x3028)), (15, .pointer (some ⟨g3042, 0, none⟩)), (22, .int .i64 ((k2574 : Int))), (28, .slice A2582 (l2578).length c2583), (29, .int .i64 ((l2578.length : Int))), (30, .int .i64 ((k2912 : Int))), (39, .slice A1 (l4).length c2), (40, .int .i64 ((l4.length : Int))), (41, .int .i64 ((k3029 : Int))), (54, .bool (x3058))] = e' ∧ (g2577, Cl 33 [.int .i64 ((k2574 : Int)), .int .i64 (x2910), .int .i64 (x2911)]) :: (g3042, Cl 36 [.int .i64 (x3032.From), .int .i64 (x3032.To), .int .i64 (x3032.Dep), .int .i64 (x3032.Arr), .int .i64 (x3032.Km), .int .i64 (x3032.Units)]) :: (hs2569 ++ (hs2584 ++ R)) = hp' ∧ b3026.Le b3056) ?_ ?_
            ·
              have hm := hj3059
              refine c_region ?_
              refine t_st rfl (st_field rfl fld36_0) ?_
              refine t_st rfl (st_load 0 rfl one3 rfl rfl) ?_
              refine t_st rfl (st_move rfl) ?_
              refine t_bool rfl (st_eql rfl rfl) (fun hc3060 => ?_) (fun hc3060 => ?_)
              ·
                rw [if_pos hc3060] at hm
                refine t_st rfl (st_move rfl) ?_
                refine t_yes 49 rfl rfl rfl ?_
                refine t_st rfl (st_field rfl fld36_2) ?_
                refine t_yes 49 rfl rfl rfl ?_
                refine t_st rfl (st_load 0 rfl one3 rfl rfl) ?_
                refine t_yes 49 rfl rfl rfl ?_
                refine t_st rfl (st_move rfl) ?_
                refine t_yes 49 rfl rfl rfl ?_
                refine t_st rfl (st_leq rfl rfl) ?_
                refine t_st rfl (st_pick_t rfl rfl) ?_
                refine t_nil ?_
                obtain rfl := some1 hm
                refine x_pullb 1 rfl ?_
                refine x_front2 [_, _] hs2569 hs2584 R rfl ?_
                refine x_front2 [_, _] hs2584 hs2569 R rfl ?_
                exact x_join (e' := [(0, .slice A1 (l4).length c2), (1, .int .i64 (x5)), (7, .slice A2570 (l2573).length c2571), (8, .int .i64 ((k2574 : Int))), (9, .pointer (some ⟨g2577, 0, none⟩)), (12, .int .i64 (x2931.Dep)), (13, .int .i64 (x3028)), (15, .pointer (some ⟨g3042, 0, none⟩)), (22, .int .i64 ((k2574 : Int))), (28, .slice A2582 (l2578).length c2583), (29, .int .i64 ((l2578.length : Int))), (30, .int .i64 ((k2912 : Int))), (39, .slice A1 (l4).length c2), (40, .int .i64 ((l4.length : Int))), (41, .int .i64 ((k3029 : Int))), (54, .bool (decide (x3032.Dep ≤ x2931.Dep)))]) (hp' := (g2577, Cl 33 [.int .i64 ((k2574 : Int)), .int .i64 (x2910), .int .i64 (x2911)]) :: (g3042, Cl 36 [.int .i64 (x3032.From), .int .i64 (x3032.To), .int .i64 (x3032.Dep), .int .i64 (x3032.Arr), .int .i64 (x3032.Km), .int .i64 (x3032.Units)]) :: (hs2569 ++ (hs2584 ++ R))) ⟨rfl, rfl, rfl, rfl, rfl, rfl, rfl, rfl, rfl, rfl, rfl, rfl, rfl, rfl, rfl, rfl, trivial⟩ (.cons_cons _ (.cons_cons _ (sub_app hs2569 (sub_app hs2584 (.refl _))))) ⟨rfl, rfl, (Base.Le.refl _)⟩
              ·
                rw [if_neg hc3060] at hm
                refine t_st rfl (st_move rfl) ?_
                refine t_no 49 rfl rfl rfl rfl rfl ?_
                refine t_no 49 rfl rfl rfl rfl rfl ?_
                refine t_no 49 rfl rfl rfl rfl rfl ?_
                refine t_no 49 rfl rfl rfl rfl rfl ?_
                refine t_st rfl (st_pick_f rfl rfl) ?_
                refine t_nil ?_
                obtain rfl := some1 hm
                refine x_pullb 1 rfl ?_
                refine x_front2 [_, _] hs2569 hs2584 R rfl ?_
                refine x_front2 [_, _] hs2584 hs2569 R rfl ?_
                exact x_join (e' := [(0, .slice A1 (l4).length c2), (1, .int .i64 (x5)), (7, .slice A2570 (l2573).length c2571), (8, .int .i64 ((k2574 : Int))), (9, .pointer (some ⟨g2577, 0, none⟩)), (12, .int .i64 (x2931.Dep)), (13, .int .i64 (x3028)), (15, .pointer (some ⟨g3042, 0, none⟩)), (22, .int .i64 ((k2574 : Int))), (28, .slice A2582 (l2578).length c2583), (29, .int .i64 ((l2578.length : Int))), (30, .int .i64 ((k2912 : Int))), (39, .slice A1 (l4).length c2), (40, .int .i64 ((l4.length : Int))), (41, .int .i64 ((k3029 : Int))), (54, .bool (false))]) (hp' := (g2577, Cl 33 [.int .i64 ((k2574 : Int)), .int .i64 (x2910), .int .i64 (x2911)]) :: (g3042, Cl 36 [.int .i64 (x3032.From), .int .i64 (x3032.To), .int .i64 (x3032.Dep), .int .i64 (x3032.Arr), .int .i64 (x3032.Km), .int .i64 (x3032.Units)]) :: (hs2569 ++ (hs2584 ++ R))) ⟨rfl, rfl, rfl, rfl, rfl, rfl, rfl, rfl, rfl, rfl, rfl, rfl, rfl, rfl, rfl, rfl, trivial⟩ (.cons_cons _ (.cons_cons _ (sub_app hs2569 (sub_app hs2584 (.refl _))))) ⟨rfl, rfl, (Base.Le.refl _)⟩
            ·
              rintro b3056 _ _ ⟨rfl, rfl, hle3057⟩
              have hm := hk3059
              refine c_cond _ rfl (fun hc3061 => ?_) (fun hc3061 => ?_)
              ·
                rw [if_pos hc3061] at hm
                refine c_region ?_
                refine t_st rfl (st_move rfl) ?_
                refine t_st rfl (st_field rfl fld36_5) ?_
                refine t_st rfl (st_load 1 rfl one3 rfl rfl) ?_
                obtain ⟨_, h3062, hm⟩ := bindS hm
                have h3062 := (chk_some h3062).2
                refine t_st rfl (st_add rfl rfl h3062) ?_
                refine t_st rfl (st_assign rfl) ?_
                refine t_nil ?_
                obtain rfl := some1 hm
                refine x_pullb 1 rfl ?_
                refine x_pullb 1 rfl ?_
                refine x_front2 [_, _] hs2569 hs2584 R rfl ?_
                refine x_front2 [_, _] hs2584 hs2569 R rfl ?_
                exact x_join (e' := [(0, .slice A1 (l4).length c2), (1, .int .i64 (x5)), (7, .slice A2570 (l2573).length c2571), (8, .int .i64 ((k2574 : Int))), (9, .pointer (some ⟨g2577, 0, none⟩)), (12, .int .i64 (x2931.Dep)), (13, .int .i64 (x3028 + x3032.Units)), (15, .pointer (some ⟨g3042, 0, none⟩)), (22, .int .i64 ((k2574 : Int))), (28, .slice A2582 (l2578).length c2583), (29, .int .i64 ((l2578.length : Int))), (30, .int .i64 ((k2912 : Int))), (39, .slice A1 (l4).length c2), (40, .int .i64 ((l4.length : Int))), (41, .int .i64 ((k3029 : Int)))]) (hp' := (g2577, Cl 33 [.int .i64 ((k2574 : Int)), .int .i64 (x2910), .int .i64 (x2911)]) :: (g3042, Cl 36 [.int .i64 (x3032.From), .int .i64 (x3032.To), .int .i64 (x3032.Dep), .int .i64 (x3032.Arr), .int .i64 (x3032.Km), .int .i64 (x3032.Units)]) :: (hs2569 ++ (hs2584 ++ R))) ⟨rfl, rfl, rfl, rfl, rfl, rfl, rfl, rfl, rfl, rfl, rfl, rfl, rfl, rfl, rfl, trivial⟩ (.cons_cons _ (.cons_cons _ (sub_app hs2569 (sub_app hs2584 (.refl _))))) ⟨rfl, rfl, hle3057⟩
              ·
                rw [if_neg (fun hh => Bool.noConfusion (hh.symm.trans hc3061))] at hm
                refine c_skip ?_
                obtain rfl := some1 hm
                refine x_pullb 1 rfl ?_
                refine x_pullb 1 rfl ?_
                refine x_front2 [_, _] hs2569 hs2584 R rfl ?_
                refine x_front2 [_, _] hs2584 hs2569 R rfl ?_
                exact x_join (e' := [(0, .slice A1 (l4).length c2), (1, .int .i64 (x5)), (7, .slice A2570 (l2573).length c2571), (8, .int .i64 ((k2574 : Int))), (9, .pointer (some ⟨g2577, 0, none⟩)), (12, .int .i64 (x2931.Dep)), (13, .int .i64 (x3028)), (15, .pointer (some ⟨g3042, 0, none⟩)), (22, .int .i64 ((k2574 : Int))), (28, .slice A2582 (l2578).length c2583), (29, .int .i64 ((l2578.length : Int))), (30, .int .i64 ((k2912 : Int))), (39, .slice A1 (l4).length c2), (40, .int .i64 ((l4.length : Int))), (41, .int .i64 ((k3029 : Int)))]) (hp' := (g2577, Cl 33 [.int .i64 ((k2574 : Int)), .int .i64 (x2910), .int .i64 (x2911)]) :: (g3042, Cl 36 [.int .i64 (x3032.From), .int .i64 (x3032.To), .int .i64 (x3032.Dep), .int .i64 (x3032.Arr), .int .i64 (x3032.Km), .int .i64 (x3032.Units)]) :: (hs2569 ++ (hs2584 ++ R))) ⟨rfl, rfl, rfl, rfl, rfl, rfl, rfl, rfl, rfl, rfl, rfl, rfl, rfl, rfl, rfl, trivial⟩ (.cons_cons _ (.cons_cons _ (sub_app hs2569 (sub_app hs2584 (.refl _))))) ⟨rfl, rfl, hle3057⟩
          ·
            rintro b3051 _ _ ⟨rfl, rfl, hle3052⟩
            have hm := hk3054
            obtain ⟨x3067, hj3068, hk3068⟩ := bindS hm
            refine c_join (fun b3065 e' hp' => [(0, .slice A1 (l4).length c2), (1, .int .i64 (x5)), (7, .slice A2570 (l2573).length c2571), (8, .int .i64 ((k2574 : Int))), (9, .pointer (some ⟨g2577, 0, none⟩)), (12, .int .i64 (x2931.Dep)), (13, .int .i64 (x3053)), (15, .pointer (some ⟨g3042, 0, none⟩)), (22, .int .i64 ((k2574 : Int))), (28, .slice A2582 (l2578).length c2583), (29, .int .i64 ((l2578.length : Int))), (30, .int .i64 ((k2912 : Int))), (39, .slice A1 (l4).length c2), (40, .int .i64 ((l4.length : Int))), (41, .int .i64 ((k3029 : Int))), (70, .bool (x3067))] = e' ∧ (g2577, Cl 33 [.int .i64 ((k2574 : Int)), .int .i64 (x2910), .int .i64 (x2911)]) :: (g3042, Cl 36 [.int .i64 (x3032.From), .int .i64 (x3032.To), .int .i64 (x3032.Dep), .int .i64 (x3032.Arr), .int .i64 (x3032.Km), .int .i64 (x3032.Units)]) :: (hs2569 ++ (hs2584 ++ R)) = hp' ∧ b3051.Le b3065) ?_ ?_
            ·
              have hm := hj3068
              refine c_region ?_
              refine t_st rfl (st_field rfl fld36_1) ?_
              refine t_st rfl (st_load 1 rfl one3 rfl rfl) ?_
              refine t_st rfl (st_move rfl) ?_
              refine t_bool rfl (st_eql rfl rfl) (fun hc3069 => ?_) (fun hc3069 => ?_)
              ·
                rw [if_pos hc3069] at hm
                refine t_st rfl (st_move rfl) ?_
                refine t_yes 63 rfl rfl rfl ?_
                refine t_st rfl (st_field rfl fld36_3) ?_
                refine t_yes 63 rfl rfl rfl ?_
                refine t_st rfl (st_load 1 rfl one3 rfl rfl) ?_
                refine t_yes 63 rfl rfl rfl ?_
                refine t_st rfl (st_move rfl) ?_
                refine t_yes 63 rfl rfl rfl ?_
                obtain ⟨_, h3070, hm⟩ := bindS hm
                have h3070 := (chk_some h3070).2
                refine t_st rfl (st_add rfl rfl h3070) ?_
                refine t_yes 63 rfl rfl rfl ?_
                refine t_st rfl (st_move rfl) ?_
                refine t_yes 63 rfl rfl rfl ?_
                refine t_st rfl (st_leq rfl rfl) ?_
                refine t_st rfl (st_pick_t rfl rfl) ?_
                refine t_nil ?_
                obtain rfl := some1 hm
                refine x_pullb 1 rfl ?_
                refine x_pullb 1 rfl ?_
                refine x_front2 [_, _] hs2569 hs2584 R rfl ?_
                refine x_front2 [_, _] hs2584 hs2569 R rfl ?_
                exact x_join (e' := [(0, .slice A1 (l4).length c2), (1, .int .i64 (x5)), (7, .slice A2570 (l2573).length c2571), (8, .int .i64 ((k2574 : Int))), (9, .pointer (some ⟨g2577, 0, none⟩)), (12, .int .i64 (x2931.Dep)), (13, .int .i64 (x3053)), (15, .pointer (some ⟨g3042, 0, none⟩)), (22, .int .i64 ((k2574 : Int))), (28, .slice A2582 (l2578).length c2583), (29, .int .i64 ((l2578.length : Int))), (30, .int .i64 ((k2912 : Int))), (39, .slice A1 (l4).length c2), (40, .int .i64 ((l4.length : Int))), (41, .int .i64 ((k3029 : Int))), (70, .bool (decide ((x3032.Arr + x5) ≤ x2931.Dep)))]) (hp' := (g2577, Cl 33 [.int .i64 ((k2574 : Int)), .int .i64 (x2910), .int .i64 (x2911)]) :: (g3042, Cl 36 [.int .i64 (x3032.From), .int .i64 (x3032.To), .int .i64 (x3032.Dep), .int .i64 (x3032.Arr), .int .i64 (x3032.Km), .int .i64 (x3032.Units)]) :: (hs2569 ++ (hs2584 ++ R))) ⟨rfl, rfl, rfl, rfl, rfl, rfl, rfl, rfl, rfl, rfl, rfl, rfl, rfl, rfl, rfl, rfl, trivial⟩ (.cons_cons _ (.cons_cons _ (sub_app hs2569 (sub_app hs2584 (.refl _))))) ⟨rfl, rfl, (Base.Le.refl _)⟩
              ·
                rw [if_neg hc3069] at hm
                refine t_st rfl (st_move rfl) ?_
                refine t_no 63 rfl rfl rfl rfl rfl ?_
                refine t_no 63 rfl rfl rfl rfl rfl ?_
                refine t_no 63 rfl rfl rfl rfl rfl ?_
                refine t_no 63 rfl rfl rfl rfl rfl ?_
                refine t_no 63 rfl rfl rfl rfl rfl ?_
                refine t_no 63 rfl rfl rfl rfl rfl ?_
                refine t_st rfl (st_pick_f rfl rfl) ?_
                refine t_nil ?_
                obtain rfl := some1 hm
                refine x_pullb 1 rfl ?_
                refine x_pullb 1 rfl ?_
                refine x_front2 [_, _] hs2569 hs2584 R rfl ?_
                refine x_front2 [_, _] hs2584 hs2569 R rfl ?_
                exact x_join (e' := [(0, .slice A1 (l4).length c2), (1, .int .i64 (x5)), (7, .slice A2570 (l2573).length c2571), (8, .int .i64 ((k2574 : Int))), (9, .pointer (some ⟨g2577, 0, none⟩)), (12, .int .i64 (x2931.Dep)), (13, .int .i64 (x3053)), (15, .pointer (some ⟨g3042, 0, none⟩)), (22, .int .i64 ((k2574 : Int))), (28, .slice A2582 (l2578).length c2583), (29, .int .i64 ((l2578.length : Int))), (30, .int .i64 ((k2912 : Int))), (39, .slice A1 (l4).length c2), (40, .int .i64 ((l4.length : Int))), (41, .int .i64 ((k3029 : Int))), (70, .bool (false))]) (hp' := (g2577, Cl 33 [.int .i64 ((k2574 : Int)), .int .i64 (x2910), .int .i64 (x2911)]) :: (g3042, Cl 36 [.int .i64 (x3032.From), .int .i64 (x3032.To), .int .i64 (x3032.Dep), .int .i64 (x3032.Arr), .int .i64 (x3032.Km), .int .i64 (x3032.Units)]) :: (hs2569 ++ (hs2584 ++ R))) ⟨rfl, rfl, rfl, rfl, rfl, rfl, rfl, rfl, rfl, rfl, rfl, rfl, rfl, rfl, rfl, rfl, trivial⟩ (.cons_cons _ (.cons_cons _ (sub_app hs2569 (sub_app hs2584 (.refl _))))) ⟨rfl, rfl, (Base.Le.refl _)⟩
            ·
              rintro b3065 _ _ ⟨rfl, rfl, hle3066⟩
              have hm := hk3068
              refine c_cond _ rfl (fun hc3071 => ?_) (fun hc3071 => ?_)
              ·
                rw [if_pos hc3071] at hm
                refine c_region ?_
                refine t_st rfl (st_move rfl) ?_
                refine t_st rfl (st_field rfl fld36_5) ?_
                refine t_st rfl (st_load 1 rfl one3 rfl rfl) ?_
                obtain ⟨_, h3072, hm⟩ := bindS hm
                have h3072 := (chk_some h3072).2
                refine t_st rfl (st_sub rfl rfl h3072) ?_
                refine t_st rfl (st_assign rfl) ?_
                refine t_nil ?_
                refine x_block_normal ?_
                refine x_then_normal ?_
                refine c_region ?_
                refine t_st rfl (st_add rfl rfl (by omega)) ?_
                refine t_st rfl (st_move rfl) ?_
                refine t_nil ?_
                refine x_front2 [_, _] hs2569 hs2584 R rfl ?_
                refine x_front2 [_, _] hs2584 hs2569 R rfl ?_
                obtain rfl := some1 hm
                exact x_againS (e' := [(0, .slice A1 (l4).length c2), (1, .int .i64 (x5)), (7, .slice A2570 (l2573).length c2571), (8, .int .i64 ((k2574 : Int))), (9, .pointer (some ⟨g2577, 0, none⟩)), (12, .int .i64 (x2931.Dep)), (13, .int .i64 (x3053 - x3032.Units)), (22, .int .i64 ((k2574 : Int))), (28, .slice A2582 (l2578).length c2583), (29, .int .i64 ((l2578.length : Int))), (30, .int .i64 ((k2912 : Int))), (39, .slice A1 (l4).length c2), (40, .int .i64 ((l4.length : Int))), (41, .int .i64 ((k3029 : Int) + 1))]) (hp' := (g2577, Cl 33 [.int .i64 ((k2574 : Int)), .int .i64 (x2910), .int .i64 (x2911)]) :: (hs2569 ++ (hs2584 ++ R))) ⟨rfl, rfl, rfl, rfl, rfl, rfl, rfl, rfl, rfl, rfl, rfl, rfl, rfl, rfl, trivial⟩ (.cons_cons _ (.cons _ (sub_app hs2569 (sub_app hs2584 (.refl _))))) ⟨rfl, rfl, ((hle3027.trans (hle3052.trans hle3066)))⟩
              ·
                rw [if_neg (fun hh => Bool.noConfusion (hh.symm.trans hc3071))] at hm
                refine c_skip ?_
                refine x_block_normal ?_
                refine x_then_normal ?_
                refine c_region ?_
                refine t_st rfl (st_add rfl rfl (by omega)) ?_
                refine t_st rfl (st_move rfl) ?_
                refine t_nil ?_
                refine x_front2 [_, _] hs2569 hs2584 R rfl ?_
                refine x_front2 [_, _] hs2584 hs2569 R rfl ?_
                obtain rfl := some1 hm
                exact x_againS (e' := [(0, .slice A1 (l4).length c2), (1, .int .i64 (x5)), (7, .slice A2570 (l2573).length c2571), (8, .int .i64 ((k2574 : Int))), (9, .pointer (some ⟨g2577, 0, none⟩)), (12, .int .i64 (x2931.Dep)), (13, .int .i64 (x3053)), (22, .int .i64 ((k2574 : Int))), (28, .slice A2582 (l2578).length c2583), (29, .int .i64 ((l2578.length : Int))), (30, .int .i64 ((k2912 : Int))), (39, .slice A1 (l4).length c2), (40, .int .i64 ((l4.length : Int))), (41, .int .i64 ((k3029 : Int) + 1))]) (hp' := (g2577, Cl 33 [.int .i64 ((k2574 : Int)), .int .i64 (x2910), .int .i64 (x2911)]) :: (hs2569 ++ (hs2584 ++ R))) ⟨rfl, rfl, rfl, rfl, rfl, rfl, rfl, rfl, rfl, rfl, rfl, rfl, rfl, rfl, trivial⟩ (.cons_cons _ (.cons _ (sub_app hs2569 (sub_app hs2584 (.refl _))))) ⟨rfl, rfl, ((hle3027.trans (hle3052.trans hle3066)))⟩
        ·
          rintro b3026 _ _ ⟨rfl, rfl, hle3027⟩
          have hm := hk3031
          refine c_seq ?_
          refine c_region ?_
          refine t_st rfl (st_lss_f rfl rfl (by omega)) ?_
          refine t_nil ?_
          refine x_then_normal ?_
          refine c_seq ?_
          refine c_cond_f rfl ?_
          refine c_exit ?_
          refine x_then_exit ?_
          refine x_then_exit ?_
          refine x_block_out ?_
          refine x_then_normal ?_
          refine c_seq ?_
          refine c_region ?_
          refine t_st rfl (st_move rfl) ?_
          refine t_st rfl (st_field rfl fld33_2) ?_
          refine t_st rfl (st_load 0 rfl one3 rfl rfl) ?_
          refine t_st rfl (st_gtr rfl rfl) ?_
          refine t_nil ?_
          refine x_then_normal ?_
          refine c_cond _ rfl (fun hc3073 => ?_) (fun hc3073 => ?_)
          ·
            rw [if_pos (of_decide_eq_true hc3073)] at hm
            refine c_region ?_
            refine t_st rfl (st_move rfl) ?_
            refine t_st rfl (st_move rfl) ?_
            refine t_st rfl (st_field rfl fld33_1) ?_
            refine t_do rfl (u_store 0 rfl rfl siz3 rfl rfl (by simp)) ?_
            rintro _ _ rfl
            refine t_st rfl (st_field rfl fld33_2) ?_
            refine t_do rfl (u_store 0 rfl rfl siz3 rfl rfl (by simp)) ?_
            rintro _ _ rfl
            refine t_nil ?_
            refine x_block_normal ?_
            refine x_then_normal ?_
            refine c_region ?_
            refine t_st rfl (st_add rfl rfl (by omega)) ?_
            refine t_st rfl (st_move rfl) ?_
            refine t_nil ?_
            refine x_front2 [_] hs2569 hs2584 R rfl ?_
            refine x_front2 [_] hs2584 hs2569 R rfl ?_
            obtain rfl := some1 hm
            exact x_againS (e' := [(0, .slice A1 (l4).length c2), (1, .int .i64 (x5)), (7, .slice A2570 (l2573).length c2571), (8, .int .i64 ((k2574 : Int))), (9, .pointer (some ⟨g2577, 0, none⟩)), (22, .int .i64 ((k2574 : Int))), (28, .slice A2582 (l2578).length c2583), (29, .int .i64 ((l2578.length : Int))), (30, .int .i64 ((k2912 : Int) + 1))]) (hp' := (g2577, Cl 33 [.int .i64 ((k2574 : Int)), .int .i64 (x2931.Dep), .int .i64 (x3028)]) :: (hs2569 ++ (hs2584 ++ R))) ⟨rfl, rfl, rfl, rfl, rfl, rfl, rfl, rfl, rfl, trivial⟩ (.cons_cons _ (sub_app hs2569 (sub_app hs2584 (.refl _)))) ⟨rfl, rfl, ((hle2909.trans hle3027))⟩
          ·
            rw [if_neg (of_decide_eq_false hc3073)] at hm
            refine c_skip ?_
            refine x_block_normal ?_
            refine x_then_normal ?_
            refine c_region ?_
            refine t_st rfl (st_add rfl rfl (by omega)) ?_
            refine t_st rfl (st_move rfl) ?_
            refine t_nil ?_
            refine x_front2 [_] hs2569 hs2584 R rfl ?_
            refine x_front2 [_] hs2584 hs2569 R rfl ?_
            obtain rfl := some1 hm
            exact x_againS (e' := [(0, .slice A1 (l4).length c2), (1, .int .i64 (x5)), (7, .slice A2570 (l2573).length c2571), (8, .int .i64 ((k2574 : Int))), (9, .pointer (some ⟨g2577, 0, none⟩)), (22, .int .i64 ((k2574 : Int))), (28, .slice A2582 (l2578).length c2583), (29, .int .i64 ((l2578.length : Int))), (30, .int .i64 ((k2912 : Int) + 1))]) (hp' := (g2577, Cl 33 [.int .i64 ((k2574 : Int)), .int .i64 (x2910), .int .i64 (x2911)]) :: (hs2569 ++ (hs2584 ++ R))) ⟨rfl, rfl, rfl, rfl, rfl, rfl, rfl, rfl, rfl, trivial⟩ (.cons_cons _ (sub_app hs2569 (sub_app hs2584 (.refl _)))) ⟨rfl, rfl, ((hle2909.trans hle3027))⟩
      ·
        rintro b2908 _ _ ⟨rfl, rfl, hle2909⟩
        have hm := (unc2E hk2914)
        refine c_seq ?_
        refine c_region ?_
        refine t_st rfl (st_lss_f rfl rfl (by omega)) ?_
        refine t_nil ?_
        refine x_then_normal ?_
        refine c_seq ?_
        refine c_cond_f rfl ?_
        refine c_exit ?_
        refine x_then_exit ?_
        refine x_then_exit ?_
        refine x_block_out ?_
        refine x_then_normal ?_
        refine c_seq ?_
        refine c_region ?_
        refine t_st rfl (st_field rfl fld33_2) ?_
        refine t_st rfl (st_load 0 rfl one3 rfl rfl) ?_
        refine t_st rfl (st_gtr rfl rfl) ?_
        refine t_nil ?_
        refine x_then_normal ?_
        refine c_cond _ rfl (fun hc3074 => ?_) (fun hc3074 => ?_)
        ·
          rw [if_pos (of_decide_eq_true hc3074)] at hm
          refine c_region ?_
          refine t_st rfl (st_move rfl) ?_
          refine t_st rfl (st_loadD (vs := [_, _, _]) 0 3 rfl agg33 rfl rfl rfl) ?_
          refine t_do rfl (u_bslice (el := 33) [(0, .agg #[.int .i64 ((k2574 : Int)), .int .i64 (x2910), .int .i64 (x2911)])] [.int .i64 ((k2574 : Int)), .int .i64 (x2910), .int .i64 (x2911)] rfl (fun _ => by kernel_rfl)) ?_
          rintro _ _ ⟨g3075, rfl, rfl⟩
          obtain ⟨_, h3076, hm⟩ := bindS hm
          have h3076 := room_some h3076
          refine t_do rfl (u_appOS (r := rFleetMoment) (l := l2573) [_, _] (hs2584 ++ R) [[.int .i64 ((k2574 : Int)), .int .i64 (x2910), .int .i64 (x2911)]] [(⟨(k2574 : Int), x2910, x2911⟩ : FleetMoment)] rfl (by decide) sl29 inf33 rfl rfl rfl rfl (h2572.le (hle2581.trans hle2909)) rfl (fun w ho => Rd.own (i := 0) ho rfl) ⟨⟨[.int .i64 ((k2574 : Int))], _, rfl, rfl, ⟨[.int .i64 (x2910)], _, rfl, rfl, rfl⟩⟩, trivial⟩ h3076) ?_
          rintro _ _ ⟨hs3077, rfl, h3078⟩
          obtain ⟨A3079, c3080, rfl, _⟩ := h3078.form
          refine t_st rfl (st_assign rfl) ?_
          refine t_nil ?_
          refine x_block_normal ?_
          refine x_then_normal ?_
          refine c_region ?_
          refine t_st rfl (st_add rfl rfl (by omega)) ?_
          refine t_st rfl (st_move rfl) ?_
          refine t_nil ?_
          obtain rfl := some1 hm
          exact x_againS (e' := [(0, .slice A1 (l4).length c2), (1, .int .i64 (x5)), (7, .slice A3079 (l2573 ++ [(⟨(k2574 : Int), x2910, x2911⟩ : FleetMoment)]).length c3080), (22, .int .i64 ((k2574 : Int) + 1))]) (hp' := (hs3077 ++ R)) ⟨rfl, rfl, rfl, rfl, trivial⟩ (.cons _ (.cons _ (sub_app hs3077 (sub_skip hs2584 (.refl _))))) ⟨A3079, c3080, hs3077, rfl, rfl, ((hle2567.trans (hle2581.trans hle2909))), h3078⟩
        ·
          rw [if_neg (of_decide_eq_false hc3074)] at hm
          refine c_skip ?_
          refine x_block_normal ?_
          refine x_then_normal ?_
          refine c_region ?_
          refine t_st rfl (st_add rfl rfl (by omega)) ?_
          refine t_st rfl (st_move rfl) ?_
          refine t_nil ?_
          obtain rfl := some1 hm
          exact x_againS (e' := [(0, .slice A1 (l4).length c2), (1, .int .i64 (x5)), (7, .slice A2570 (l2573).length c2571), (22, .int .i64 ((k2574 : Int) + 1))]) (hp' := (hs2569 ++ R)) ⟨rfl, rfl, rfl, rfl, trivial⟩ (.cons _ (sub_app hs2569 (sub_skip hs2584 (.refl _)))) ⟨A2570, c2571, hs2569, rfl, rfl, ((hle2567.trans (hle2581.trans hle2909))), (h2572.le (hle2581.trans hle2909))⟩
    ·
      rintro b2566 _ _ ⟨A2570, c2571, hs2569, rfl, rfl, hle2567, h2572⟩
      have hm := hk2576
      refine c_seq ?_
      refine c_region ?_
      refine t_st rfl (st_lss_f rfl rfl (by omega)) ?_
      refine t_nil ?_
      refine x_then_normal ?_
      refine c_seq ?_
      refine c_cond_f rfl ?_
      refine c_exit ?_
      refine x_then_exit ?_
      refine x_then_exit ?_
      refine x_block_out ?_
      refine x_then_normal ?_
      refine c_seq ?_
      refine c_region ?_
      refine t_st rfl (st_move rfl) ?_
      refine t_st rfl (st_assign rfl) ?_
      refine t_st rfl (st_assign rfl) ?_
      refine t_nil ?_
      refine x_then_normal ?_
      refine c_ret ?_
      obtain ⟨rfl, rfl⟩ := some2 hm
      exact retM (rs := [.tmp 4, .tmp 5]) [.slice A2570 (l2573).length c2571, .int .i64 (0)] hle2567 (by decide) rfl ⟨rfl, ⟨rfl, trivial⟩⟩ rfl (hp' := (hs2569 ++ R)) (sub_app hs2569 (.refl _)) ⟨A2570, c2571, hs2569, rfl, rfl, h2572⟩

set_option maxRecDepth 20000 in
theorem cFleetLegal (b : Base) (R : Hp) (l4 : (List FleetTask)) (x5 : Int) (l9 : (List (List Int))) (A1 : Option Addr) (c2 : Nat) (A6 : Option Addr) (c7 : Nat) (h3 : FZ rFleetTask b.w A1 c2 l4) (h8 : FZ (RT.list (RT.int .i64)) b.w A6 c7 l9) (x2177 : Int) (hm : mFleetLegal l4 x5 l9 = some x2177) :
    CallsG Try.prog 15 [.slice A1 (l4).length c2, .int .i64 (x5), .slice A6 (l9).length c7] b (R) (fun v b' hp' => .int .i64 (x2177) = v ∧ R = hp') := by
  refine fn_enterG 102 Try.func15 rfl Try.ntmps15 rfl ?_
  unfold mFleetLegal at hm
  refine c_seq ?_
  refine c_region ?_
  refine t_st rfl (st_assign rfl) ?_
  refine t_nil ?_
  refine x_then_normal ?_
  refine c_seq ?_
  refine c_seq ?_
  refine c_region ?_
  refine t_st rfl (st_move rfl) ?_
  refine t_st rfl (st_move rfl) ?_
  obtain ⟨x2178, hcl2179, hm⟩ := bindS hm
  refine t_do rfl (u_callW0 _ call43 rfl (fun w ho => cFleetCheckTurn _ [] l4 x5 A1 c2 (h3.old ho) x2178 hcl2179) (fun _ _ _ h => h.2.symm)) ?_
  rintro _ _ ⟨⟨_, rfl, _⟩, rfl⟩
  refine t_st rfl (st_assign rfl) ?_
  refine t_nil ?_
  refine x_then_normal ?_
  refine c_seq ?_
  refine c_region ?_
  refine t_st rfl (st_move rfl) ?_
  refine t_st rfl (st_neq rfl rfl) ?_
  refine t_nil ?_
  refine x_then_normal ?_
  refine c_cond _ rfl (fun hc2180 => ?_) (fun hc2180 => ?_)
  ·
    rw [if_pos (of_decide_eq_true hc2180)] at hm
    refine c_seq ?_
    refine c_region ?_
    refine t_st rfl (st_move rfl) ?_
    refine t_st rfl (st_assign rfl) ?_
    refine t_nil ?_
    refine x_then_normal ?_
    refine c_ret ?_
    refine x_then_ret ?_
    obtain rfl := some1 hm
    exact retM (rs := [.tmp 6]) [.int .i64 (x2178)] (Base.Le.refl _) (by decide) rfl ⟨rfl, trivial⟩ rfl (hp' := R) (.refl _) ⟨rfl, rfl⟩
  ·
    rw [if_neg (of_decide_eq_false hc2180)] at hm
    refine c_skip ?_
    refine x_then_normal ?_
    refine c_seq ?_
    refine c_region ?_
    refine t_st rfl (st_move rfl) ?_
    refine t_st rfl (st_len rfl sl22) ?_
    obtain ⟨m2181, h2182, hm⟩ := bindS hm
    have h2182 := mkLen_some h2182
    refine t_do rfl (u_mkOS (r := (RT.int .i64)) [] R [.int .i64 (0)] 0 m2181 rfl h2182.1 rfl rfl sl45 inf3 rfl rfl rfl (by decide) rfl h2182.2.1 h2182.2.2) ?_
    rintro _ _ ⟨hs2183, rfl, h2184⟩
    obtain ⟨A2185, c2186, rfl, _⟩ := h2184.form
    refine t_st rfl (st_assign rfl) ?_
    refine t_nil ?_
    refine x_then_normal ?_
    refine c_seq ?_
    refine c_seq ?_
    refine c_region ?_
    refine t_st rfl (st_move rfl) ?_
    refine t_st rfl (st_len rfl sl26) ?_
    refine t_st rfl (st_move rfl) ?_
    refine t_nil ?_
    refine x_then_normal ?_
    refine c_block ?_
    have hb2188 := (FZ.bd h8)
    obtain ⟨t3514, hl3515, hk3516⟩ := bindS hm
    refine c_forM (fun k3513 => fun l3511 => fun b3506 e' hp' => ∃ (hs3509 : Hp), [(0, .slice A1 (l4).length c2), (1, .int .i64 (x5)), (8, .slice A2185 (l3511).length c2186), (24, .slice A6 (l9).length c7), (25, .int .i64 ((l9.length : Int))), (26, .int .i64 ((k3513 : Int)))] = e' ∧ (hs3509 ++ R) = hp' ∧ b.Le b3506 ∧ OS 3 (OT.fr (RT.int .i64)) b3506.w (.slice A2185 l3511.length c2186) l3511 hs3509 ∧ l3511.length = m2181) hl3515 (e' := [(0, .slice A1 (l4).length c2), (1, .int .i64 (x5)), (8, .slice A2185 (List.replicate m2181 (0 : Int)).length c2186), (24, .slice A6 (l9).length c7), (25, .int .i64 ((l9.length : Int))), (26, .int .i64 0)]) (hp' := (hs2183 ++ R)) ⟨rfl, rfl, rfl, rfl, rfl, rfl, trivial⟩ (sub_app hs2183 (.refl _)) ⟨hs2183, rfl, rfl, (Base.Le.refl _), h2184, List.length_replicate⟩ ?_ ?_
    ·
      rintro k3513 l3511 b3506 _ _ oL2187 hknL2187 ⟨hs3509, rfl, rfl, hle3507, h3510, hln3512⟩ hstepL2187 houtL2187
      unfold mFleetLegal_L2187 at hstepL2187
      have hm := hstepL2187
      refine c_seq ?_
      refine c_region ?_
      refine t_st rfl (st_lss_t rfl rfl (by omega)) ?_
      refine t_nil ?_
      refine x_then_normal ?_
      refine c_seq ?_
      refine c_cond_t rfl ?_
      refine c_skip ?_
      refine x_then_normal ?_
      refine c_seq ?_
      refine c_block ?_
      refine c_seq ?_
      refine c_region ?_
      obtain ⟨x3517, h3518, hm⟩ := bindS hm
      obtain ⟨j3519, hj3520, hx3521⟩ := idx_some h3518
      obtain ⟨cs3522, hr3523, hcs3524, hA3525, hlt3526⟩ := FZ.get (sz := 1) rfl (by decide) (h8.le hle3507) hx3521
      obtain ⟨A3527, c3528, rfl, h3529⟩ := hr3523
      refine t_st rfl (st_index_old j3519 rfl rfl hj3520 hlt3526 hA3525 sl26) ?_
      refine t_st rfl (st_load_old rfl one45 (hcs3524 0 _ rfl)) ?_
      refine t_st rfl (st_assign rfl) ?_
      refine t_nil ?_
      refine x_then_normal ?_
      refine c_seq ?_
      refine c_region ?_
      refine t_st rfl (st_move rfl) ?_
      refine t_st rfl (st_len rfl sl45) ?_
      refine t_st rfl (st_move rfl) ?_
      refine t_nil ?_
      refine x_then_normal ?_
      refine c_block ?_
      have hb3531 := (FZ.bd h3529)
      obtain ⟨t3961, hl3962, hk3963⟩ := bindS hm
      refine c_forM (fun k3960 => fun l3958 => fun b3953 e' hp' => ∃ (hs3956 : Hp), [(0, .slice A1 (l4).length c2), (1, .int .i64 (x5)), (8, .slice A2185 (l3958).length c2186), (10, .slice A3527 (x3517).length c3528), (24, .slice A6 (l9).length c7), (25, .int .i64 ((l9.length : Int))), (26, .int .i64 ((k3513 : Int))), (30, .slice A3527 (x3517).length c3528), (31, .int .i64 ((x3517.length : Int))), (32, .int .i64 ((k3960 : Int)))] = e' ∧ (hs3956 ++ R) = hp' ∧ b3506.Le b3953 ∧ OS 3 (OT.fr (RT.int .i64)) b3953.w (.slice A2185 l3958.length c2186) l3958 hs3956 ∧ l3958.length = m2181) hl3962 (e' := [(0, .slice A1 (l4).length c2), (1, .int .i64 (x5)), (8, .slice A2185 (l3511).length c2186), (10, .slice A3527 (x3517).length c3528), (24, .slice A6 (l9).length c7), (25, .int .i64 ((l9.length : Int))), (26, .int .i64 ((k3513 : Int))), (30, .slice A3527 (x3517).length c3528), (31, .int .i64 ((x3517.length : Int))), (32, .int .i64 0)]) (hp' := (hs3509 ++ R)) ⟨rfl, rfl, rfl, rfl, rfl, rfl, rfl, rfl, rfl, rfl, trivial⟩ (sub_app hs3509 (.refl _)) ⟨hs3509, rfl, rfl, (Base.Le.refl _), h3510, hln3512⟩ ?_ ?_
      ·
        rintro k3960 l3958 b3953 _ _ oL3530 hknL3530 ⟨hs3956, rfl, rfl, hle3954, h3957, hln3959⟩ hstepL3530 houtL3530
        unfold mFleetLegal_L3530 at hstepL3530
        have hm := hstepL3530
        refine c_seq ?_
        refine c_region ?_
        refine t_st rfl (st_lss_t rfl rfl (by omega)) ?_
        refine t_nil ?_
        refine x_then_normal ?_
        refine c_seq ?_
        refine c_cond_t rfl ?_
        refine c_skip ?_
        refine x_then_normal ?_
        refine c_seq ?_
        refine c_block ?_
        refine c_seq ?_
        refine c_region ?_
        refine t_st rfl (st_move rfl) ?_
        obtain ⟨x3964, h3965, hm⟩ := bindS hm
        obtain ⟨j3966, hj3967, hx3968⟩ := idx_some h3965
        obtain ⟨cs3969, hr3970, hcs3971, hA3972, hlt3973⟩ := FZ.get (sz := 1) rfl (by decide) (h3529.le hle3954) hx3968
        obtain rfl := hr3970
        refine t_st rfl (st_index_old j3966 rfl rfl hj3967 hlt3973 hA3972 sl45) ?_
        refine t_st rfl (st_load_old rfl one3 (hcs3971 0 _ rfl)) ?_
        refine t_st rfl (st_assign rfl) ?_
        refine t_st rfl (st_assign rfl) ?_
        refine t_nil ?_
        refine x_then_normal ?_
        refine c_seq ?_
        refine c_block ?_
        refine c_seq ?_
        refine c_region ?_
        refine t_st rfl (st_move rfl) ?_
        refine t_st rfl (st_move rfl) ?_
        refine t_st rfl (st_len rfl sl22) ?_
        obtain ⟨_, h3974, hm⟩ := bindS hm
        have h3974 := (chk_some h3974).2
        refine t_st rfl (st_sub rfl rfl h3974) ?_
        obtain ⟨x3975, hcl3976, hm⟩ := bindS hm
        refine t_do rfl (u_callW0 _ call46 rfl (fun w ho => cFleetWithin _ [] x3964 0 ((l4.length : Int) - 1) x3975 hcl3976) (fun _ _ _ h => h.2.symm)) ?_
        rintro _ _ ⟨⟨_, rfl, _⟩, rfl⟩
        refine t_st rfl (st_not rfl) ?_
        refine t_st rfl (st_assign rfl) ?_
        refine t_nil ?_
        refine x_then_normal ?_
        refine c_cond _ rfl (fun hc3977 => ?_) (fun hc3977 => ?_)
        ·
          rw [if_neg (fun hh => Bool.noConfusion (hh.symm.trans (notT hc3977)))] at hm
          refine c_seq ?_
          refine c_region ?_
          refine t_st rfl (st_assign rfl) ?_
          refine t_nil ?_
          refine x_then_normal ?_
          refine c_ret ?_
          refine x_block_ret ?_
          refine x_then_ret ?_
          refine x_block_ret ?_
          refine x_then_ret ?_
          refine x_then_ret ?_
          refine x_block_ret ?_
          refine x_block_ret ?_
          refine x_then_ret ?_
          refine x_then_ret ?_
          refine x_block_ret ?_
          refine x_then_ret ?_
          have hq3978 := houtL3530 _ (Option.some.inj hm).symm
          rw [hq3978] at hk3963
          have hm := elimR hk3963
          have hq3979 := houtL2187 _ (Option.some.inj hm).symm
          rw [hq3979] at hk3516
          have hm := elimR hk3516
          obtain rfl := some1 hm
          exact retM (rs := [.tmp 6]) [.int .i64 (2)] (hle3507.trans hle3954) (by decide) rfl ⟨rfl, trivial⟩ rfl (hp' := R) (sub_skip hs3956 (.refl _)) ⟨rfl, rfl⟩
        ·
          rw [if_pos (notF hc3977)] at hm
          refine c_seq ?_
          refine c_region ?_
          refine t_st rfl (st_move rfl) ?_
          refine t_st rfl (st_move rfl) ?_
          obtain ⟨l3980, h3981, hm⟩ := bindS hm
          obtain ⟨j3982, j3983, hj3984, hj3985, hj3986, hj3987, hx3988⟩ := cutS_some h3981
          have h3989 := FZ.sub (sz := 1) rfl (h3529.le hle3954) hj3986 hj3987
          have h3990 := (h3529.le hle3954).1.1
          rw [← hx3988] at h3989
          refine t_st rfl (hx3988 ▸ st_part (l := x3517) j3982 j3983 rfl (.inl ⟨rfl, by omega⟩) (.inr ⟨_, _, _, rfl, rfl, hj3985⟩) hj3986 hj3987 h3990 sl45) ?_
          refine t_st rfl (st_move rfl) ?_
          obtain ⟨x3995, hcl3996, hm⟩ := bindS hm
          refine t_do rfl (u_callW0 _ call20 rfl (fun w ho => cSlicesContains _ [] l3980 x3964 (subA A3527 c3528 j3982 1) (c3528 - j3982) (h3989.old ho) x3995 hcl3996) (fun _ _ _ h => h.2.symm)) ?_
          rintro _ _ ⟨⟨_, rfl, _⟩, rfl⟩
          refine t_st rfl (st_assign rfl) ?_
          refine t_nil ?_
          refine x_then_normal ?_
          refine c_cond _ rfl (fun hc3997 => ?_) (fun hc3997 => ?_)
          ·
            rw [if_pos hc3997] at hm
            refine c_seq ?_
            refine c_region ?_
            refine t_st rfl (st_assign rfl) ?_
            refine t_nil ?_
            refine x_then_normal ?_
            refine c_ret ?_
            refine x_block_ret ?_
            refine x_then_ret ?_
            refine x_block_ret ?_
            refine x_then_ret ?_
            refine x_then_ret ?_
            refine x_block_ret ?_
            refine x_block_ret ?_
            refine x_then_ret ?_
            refine x_then_ret ?_
            refine x_block_ret ?_
            refine x_then_ret ?_
            have hq3998 := houtL3530 _ (Option.some.inj hm).symm
            rw [hq3998] at hk3963
            have hm := elimR hk3963
            have hq3999 := houtL2187 _ (Option.some.inj hm).symm
            rw [hq3999] at hk3516
            have hm := elimR hk3516
            obtain rfl := some1 hm
            exact retM (rs := [.tmp 6]) [.int .i64 (6)] (hle3507.trans hle3954) (by decide) rfl ⟨rfl, trivial⟩ rfl (hp' := R) (sub_skip hs3956 (.refl _)) ⟨rfl, rfl⟩
          ·
            rw [if_neg (fun hh => Bool.noConfusion (hh.symm.trans hc3997))] at hm
            obtain ⟨x4070, hj4071, hk4071⟩ := bindS hm
            refine c_join (fun b4068 e' hp' => [(0, .slice A1 (l4).length c2), (1, .int .i64 (x5)), (8, .slice A2185 (l3958).length c2186), (10, .slice A3527 (x3517).length c3528), (12, .int .i64 (x3964)), (24, .slice A6 (l9).length c7), (25, .int .i64 ((l9.length : Int))), (26, .int .i64 ((k3513 : Int))), (30, .slice A3527 (x3517).length c3528), (31, .int .i64 ((x3517.length : Int))), (32, .int .i64 ((k3960 : Int))), (50, .bool (x4070))] = e' ∧ (hs3956 ++ R) = hp' ∧ b3953.Le b4068) ?_ ?_
            ·
              have hm := hj4071
              by_cases hc4106 : 0 < (k3960 : Int)
              ·
                rw [if_pos hc4106] at hm
                obtain ⟨_, h4107, hm⟩ := bindS hm
                obtain ⟨x4108, h4109, hm⟩ := bindS hm
                obtain ⟨x4118, h4119, hm⟩ := bindS hm
                obtain ⟨x4128, h4129, hm⟩ := bindS hm
                obtain ⟨x4138, hcl4139, hm⟩ := bindS hm
                refine D_drawS ((hs3956 ++ R)) mixed ?_
                refine D_st (Base.Le.refl _) 0 rfl (by kernel_rfl) (by kernel_rfl) (by kernel_rfl) rfl (st_move rfl) (sub_app hs3956 (.refl _)) ?_
                refine D_st (Base.Le.refl _) 1 rfl (by kernel_rfl) (by kernel_rfl) (by kernel_rfl) rfl (st_gtr_t rfl rfl hc4106) (sub_app hs3956 (.refl _)) ?_
                refine D_st (Base.Le.refl _) 2 rfl (by kernel_rfl) (by kernel_rfl) (by kernel_rfl) rfl (st_move rfl) (sub_app hs3956 (.refl _)) ?_
                refine D_yes (Base.Le.refl _) 3 53 rfl (by kernel_rfl) (by kernel_rfl) (by kernel_rfl) rfl rfl rfl rfl (st_move rfl) (sub_app hs3956 (.refl _)) ?_
                refine D_yes (Base.Le.refl _) 4 53 rfl (by kernel_rfl) (by kernel_rfl) (by kernel_rfl) rfl rfl rfl rfl (st_move rfl) (sub_app hs3956 (.refl _)) ?_
                refine D_yes (Base.Le.refl _) 5 53 rfl (by kernel_rfl) (by kernel_rfl) (by kernel_rfl) rfl rfl rfl rfl (st_move rfl) (sub_app hs3956 (.refl _)) ?_
                have h4107 := (chk_some h4107).2
                refine D_yes (Base.Le.refl _) 6 53 rfl (by kernel_rfl) (by kernel_rfl) (by kernel_rfl) rfl rfl rfl rfl (st_sub rfl rfl h4107) (sub_app hs3956 (.refl _)) ?_
                obtain ⟨j4110, hj4111, hx4112⟩ := idx_some h4109
                obtain ⟨cs4113, hr4114, hcs4115, hA4116, hlt4117⟩ := FZ.get (sz := 1) rfl (by decide) (h3529.le hle3954) hx4112
                obtain rfl := hr4114
                refine D_yes (Base.Le.refl _) 7 53 rfl (by kernel_rfl) (by kernel_rfl) (by kernel_rfl) rfl rfl rfl rfl (st_index_old j4110 rfl rfl hj4111 hlt4117 hA4116 sl45) (sub_app hs3956 (.refl _)) ?_
                refine D_yes (Base.Le.refl _) 8 53 rfl (by kernel_rfl) (by kernel_rfl) (by kernel_rfl) rfl rfl rfl rfl (st_load_old rfl one3 (hcs4115 0 _ rfl)) (sub_app hs3956 (.refl _)) ?_
                obtain ⟨j4120, hj4121, hx4122⟩ := idx_some h4119
                obtain ⟨cs4123, hr4124, hcs4125, hA4126, hlt4127⟩ := FZ.get (sz := 6) rfl (by decide) (h3.le (hle3507.trans hle3954)) hx4122
                obtain ⟨_, _, rfl, rfl, ⟨_, _, rfl, rfl, ⟨_, _, rfl, rfl, ⟨_, _, rfl, rfl, ⟨_, _, rfl, rfl, rfl⟩⟩⟩⟩⟩ := hr4124
                refine D_yes (Base.Le.refl _) 9 53 rfl (by kernel_rfl) (by kernel_rfl) (by kernel_rfl) rfl rfl rfl rfl (st_index_old j4120 rfl rfl hj4121 hlt4127 hA4126 sl22) (sub_app hs3956 (.refl _)) ?_
                refine D_yes (Base.Le.refl _) 10 53 rfl (by kernel_rfl) (by kernel_rfl) (by kernel_rfl) rfl rfl rfl rfl (st_loadN_old (vs := [.int .i64 (x4118.From), .int .i64 (x4118.To), .int .i64 (x4118.Dep), .int .i64 (x4118.Arr), .int .i64 (x4118.Km), .int .i64 (x4118.Units)]) 6 rfl agg36 hA4126 rfl (fun j u hu => hcs4125 j u hu)) (sub_app hs3956 (.refl _)) ?_
                refine D_yes (Base.Le.refl _) 11 53 rfl (by kernel_rfl) (by kernel_rfl) (by kernel_rfl) rfl rfl rfl rfl (st_move rfl) (sub_app hs3956 (.refl _)) ?_
                refine D_yes (Base.Le.refl _) 12 53 rfl (by kernel_rfl) (by kernel_rfl) (by kernel_rfl) rfl rfl rfl rfl (st_move rfl) (sub_app hs3956 (.refl _)) ?_
                obtain ⟨j4130, hj4131, hx4132⟩ := idx_some h4129
                obtain ⟨cs4133, hr4134, hcs4135, hA4136, hlt4137⟩ := FZ.get (sz := 6) rfl (by decide) (h3.le (hle3507.trans hle3954)) hx4132
                obtain ⟨_, _, rfl, rfl, ⟨_, _, rfl, rfl, ⟨_, _, rfl, rfl, ⟨_, _, rfl, rfl, ⟨_, _, rfl, rfl, rfl⟩⟩⟩⟩⟩ := hr4134
                refine D_yes (Base.Le.refl _) 13 53 rfl (by kernel_rfl) (by kernel_rfl) (by kernel_rfl) rfl rfl rfl rfl (st_index_old j4130 rfl rfl hj4131 hlt4137 hA4136 sl22) (sub_app hs3956 (.refl _)) ?_
                refine D_yes (Base.Le.refl _) 14 53 rfl (by kernel_rfl) (by kernel_rfl) (by kernel_rfl) rfl rfl rfl rfl (st_loadN_old (vs := [.int .i64 (x4128.From), .int .i64 (x4128.To), .int .i64 (x4128.Dep), .int .i64 (x4128.Arr), .int .i64 (x4128.Km), .int .i64 (x4128.Units)]) 6 rfl agg36 hA4136 rfl (fun j u hu => hcs4135 j u hu)) (sub_app hs3956 (.refl _)) ?_
                refine D_yes (Base.Le.refl _) 15 53 rfl (by kernel_rfl) (by kernel_rfl) (by kernel_rfl) rfl rfl rfl rfl (st_move rfl) (sub_app hs3956 (.refl _)) ?_
                refine D_all [16] (by kernel_rfl) rfl ?_
                refine R_doY (Base.Le.refl _) rfl rfl 53 rfl rfl rfl (u_callW0 _ call45 rfl (fun w ho => cFleetFollows _ [] x4118 x4128 x5 x4138 hcl4139) (fun _ _ _ h => h.2.symm)) ?_ ?_
                ·
                  rintro _ _ ⟨⟨_, rfl, _⟩, rfl⟩
                  refine ⟨.inr (sub_app hs3956 (.refl _)), ?_⟩
                  refine D_yes (Base.Le.refl _) 17 53 rfl (by kernel_rfl) (by kernel_rfl) (by kernel_rfl) rfl rfl rfl rfl (st_not rfl) (sub_app hs3956 (.refl _)) ?_
                  refine D_st (Base.Le.refl _) 18 rfl (by kernel_rfl) (by kernel_rfl) (by kernel_rfl) rfl (st_pick_t rfl rfl) (sub_app hs3956 (.refl _)) ?_
                  refine D_st (Base.Le.refl _) 19 rfl (by kernel_rfl) (by kernel_rfl) (by kernel_rfl) rfl (st_assign rfl) (sub_app hs3956 (.refl _)) ?_
                  refine D_done (by kernel_rfl) ?_
                  obtain rfl := some1 hm
                  exact x_join (e' := [(0, .slice A1 (l4).length c2), (1, .int .i64 (x5)), (8, .slice A2185 (l3958).length c2186), (10, .slice A3527 (x3517).length c3528), (12, .int .i64 (x3964)), (24, .slice A6 (l9).length c7), (25, .int .i64 ((l9.length : Int))), (26, .int .i64 ((k3513 : Int))), (30, .slice A3527 (x3517).length c3528), (31, .int .i64 ((x3517.length : Int))), (32, .int .i64 ((k3960 : Int))), (50, .bool (!x4138))]) (hp' := (hs3956 ++ R)) ⟨rfl, rfl, rfl, rfl, rfl, rfl, rfl, rfl, rfl, rfl, rfl, rfl, trivial⟩ (sub_app hs3956 (.refl _)) ⟨rfl, rfl, (Base.Le.refl _)⟩
                exact R_nil
              ·
                rw [if_neg hc4106] at hm
                refine D_drawS ((hs3956 ++ R)) mixed ?_
                refine D_st (Base.Le.refl _) 0 rfl (by kernel_rfl) (by kernel_rfl) (by kernel_rfl) rfl (st_move rfl) (sub_app hs3956 (.refl _)) ?_
                refine D_st (Base.Le.refl _) 1 rfl (by kernel_rfl) (by kernel_rfl) (by kernel_rfl) rfl (st_gtr_f rfl rfl hc4106) (sub_app hs3956 (.refl _)) ?_
                refine D_st (Base.Le.refl _) 2 rfl (by kernel_rfl) (by kernel_rfl) (by kernel_rfl) rfl (st_move rfl) (sub_app hs3956 (.refl _)) ?_
                refine D_no (Base.Le.refl _) 3 53 rfl (by kernel_rfl) (by kernel_rfl) (by kernel_rfl) rfl rfl rfl rfl rfl (sub_app hs3956 (.refl _)) ?_
                refine D_no (Base.Le.refl _) 4 53 rfl (by kernel_rfl) (by kernel_rfl) (by kernel_rfl) rfl rfl rfl rfl rfl (sub_app hs3956 (.refl _)) ?_
                refine D_no (Base.Le.refl _) 5 53 rfl (by kernel_rfl) (by kernel_rfl) (by kernel_rfl) rfl rfl rfl rfl rfl (sub_app hs3956 (.refl _)) ?_
                refine D_no (Base.Le.refl _) 6 53 rfl (by kernel_rfl) (by kernel_rfl) (by kernel_rfl) rfl rfl rfl rfl rfl (sub_app hs3956 (.refl _)) ?_
                refine D_no (Base.Le.refl _) 7 53 rfl (by kernel_rfl) (by kernel_rfl) (by kernel_rfl) rfl rfl rfl rfl rfl (sub_app hs3956 (.refl _)) ?_
                refine D_no (Base.Le.refl _) 8 53 rfl (by kernel_rfl) (by kernel_rfl) (by kernel_rfl) rfl rfl rfl rfl rfl (sub_app hs3956 (.refl _)) ?_
                refine D_no (Base.Le.refl _) 9 53 rfl (by kernel_rfl) (by kernel_rfl) (by kernel_rfl) rfl rfl rfl rfl rfl (sub_app hs3956 (.refl _)) ?_
                refine D_no (Base.Le.refl _) 10 53 rfl (by kernel_rfl) (by kernel_rfl) (by kernel_rfl) rfl rfl rfl rfl rfl (sub_app hs3956 (.refl _)) ?_
                refine D_no (Base.Le.refl _) 11 53 rfl (by kernel_rfl) (by kernel_rfl) (by kernel_rfl) rfl rfl rfl rfl rfl (sub_app hs3956 (.refl _)) ?_
                refine D_no (Base.Le.refl _) 12 53 rfl (by kernel_rfl) (by kernel_rfl) (by kernel_rfl) rfl rfl rfl rfl rfl (sub_app hs3956 (.refl _)) ?_
                refine D_no (Base.Le.refl _) 13 53 rfl (by kernel_rfl) (by kernel_rfl) (by kernel_rfl) rfl rfl rfl rfl rfl (sub_app hs3956 (.refl _)) ?_
                refine D_no (Base.Le.refl _) 14 53 rfl (by kernel_rfl) (by kernel_rfl) (by kernel_rfl) rfl rfl rfl rfl rfl (sub_app hs3956 (.refl _)) ?_
                refine D_no (Base.Le.refl _) 15 53 rfl (by kernel_rfl) (by kernel_rfl) (by kernel_rfl) rfl rfl rfl rfl rfl (sub_app hs3956 (.refl _)) ?_
                refine D_no (Base.Le.refl _) 16 53 rfl (by kernel_rfl) (by kernel_rfl) (by kernel_rfl) rfl rfl rfl rfl rfl (sub_app hs3956 (.refl _)) ?_
                refine D_no (Base.Le.refl _) 17 53 rfl (by kernel_rfl) (by kernel_rfl) (by kernel_rfl) rfl rfl rfl rfl rfl (sub_app hs3956 (.refl _)) ?_
                refine D_st (Base.Le.refl _) 18 rfl (by kernel_rfl) (by kernel_rfl) (by kernel_rfl) rfl (st_pick_f rfl rfl) (sub_app hs3956 (.refl _)) ?_
                refine D_st (Base.Le.refl _) 19 rfl (by kernel_rfl) (by kernel_rfl) (by kernel_rfl) rfl (st_assign rfl) (sub_app hs3956 (.refl _)) ?_
                refine D_done (by kernel_rfl) ?_
                obtain rfl := some1 hm
                exact x_join (e' := [(0, .slice A1 (l4).length c2), (1, .int .i64 (x5)), (8, .slice A2185 (l3958).length c2186), (10, .slice A3527 (x3517).length c3528), (12, .int .i64 (x3964)), (24, .slice A6 (l9).length c7), (25, .int .i64 ((l9.length : Int))), (26, .int .i64 ((k3513 : Int))), (30, .slice A3527 (x3517).length c3528), (31, .int .i64 ((x3517.length : Int))), (32, .int .i64 ((k3960 : Int))), (50, .bool (false))]) (hp' := (hs3956 ++ R)) ⟨rfl, rfl, rfl, rfl, rfl, rfl, rfl, rfl, rfl, rfl, rfl, rfl, trivial⟩ (sub_app hs3956 (.refl _)) ⟨rfl, rfl, (Base.Le.refl _)⟩
            ·
              rintro b4068 _ _ ⟨rfl, rfl, hle4069⟩
              have hm := hk4071
              refine c_cond _ rfl (fun hc4140 => ?_) (fun hc4140 => ?_)
              ·
                rw [if_pos hc4140] at hm
                refine c_seq ?_
                refine c_region ?_
                refine t_st rfl (st_assign rfl) ?_
                refine t_nil ?_
                refine x_then_normal ?_
                refine c_ret ?_
                refine x_block_ret ?_
                refine x_then_ret ?_
                refine x_block_ret ?_
                refine x_then_ret ?_
                refine x_then_ret ?_
                refine x_block_ret ?_
                refine x_block_ret ?_
                refine x_then_ret ?_
                refine x_then_ret ?_
                refine x_block_ret ?_
                refine x_then_ret ?_
                have hq4141 := houtL3530 _ (Option.some.inj hm).symm
                rw [hq4141] at hk3963
                have hm := elimR hk3963
                have hq4142 := houtL2187 _ (Option.some.inj hm).symm
                rw [hq4142] at hk3516
                have hm := elimR hk3516
                obtain rfl := some1 hm
                exact retM (rs := [.tmp 6]) [.int .i64 (13)] (hle3507.trans (hle3954.trans hle4069)) (by decide) rfl ⟨rfl, trivial⟩ rfl (hp' := R) (sub_skip hs3956 (.refl _)) ⟨rfl, rfl⟩
              ·
                rw [if_neg (fun hh => Bool.noConfusion (hh.symm.trans hc4140))] at hm
                refine c_skip ?_
                refine x_block_normal ?_
                refine x_then_normal ?_
                refine c_region ?_
                refine t_st rfl (st_move rfl) ?_
                refine t_st rfl (st_move rfl) ?_
                obtain ⟨x4143, h4144, hm⟩ := bindS hm
                obtain ⟨j4145, hj4146, hx4147⟩ := idx_some h4144
                obtain ⟨cs4148, hs4153, P4154, P4155, hq4156, hr4149, hcs4150, hA4151, hlt4152, hb4157, hho4158⟩ := OS.get (sz := 1) rfl (by decide) (h3957.le hle4069) hx4147
                obtain ⟨rfl, rfl⟩ := hr4149
                refine t_st rfl (st_index_old j4145 rfl rfl hj4146 hlt4152 hA4151 sl45) ?_
                refine t_st rfl (st_load_rd rfl one3 (fun w ho => hcs4150 w _ ho (List.sublist_append_left _ _) 0 _ rfl)) ?_
                obtain ⟨_, h4159, hm⟩ := bindS hm
                have h4159 := (chk_some h4159).2
                refine t_st rfl (st_add rfl rfl h4159) ?_
                obtain ⟨x4160, h4161, hm⟩ := bindS hm
                obtain ⟨j4162, hj4163, hx4164⟩ := idx_some h4161
                obtain ⟨cs4165, hs4170, P4171, P4172, hq4173, hr4166, hcs4167, hA4168, hlt4169, hb4174, hho4175⟩ := OS.get (sz := 1) rfl (by decide) (h3957.le hle4069) hx4164
                obtain ⟨rfl, rfl⟩ := hr4166
                refine t_st rfl (st_index_old j4162 rfl rfl hj4163 hlt4169 hA4168 sl45) ?_
                refine t_do rfl (u_putOS hj4163 (sz := 1) (a' := x4143 + 1) rfl [] R 0 1 [.int .i64 (x4143 + 1)] rfl (h3957.le hle4069) hx4164 rfl rfl rfl siz3 rfl (by intro u hu; simp only [List.mem_cons, List.not_mem_nil, or_false] at hu; subst hu; rfl) (fun cs hsj hh => by obtain ⟨rfl, rfl⟩ := hh; exact ⟨by decide, rfl, rfl⟩)) ?_
                rintro _ _ ⟨hs4176, rfl, h4177⟩
                refine t_resp 8 rfl (v' := .slice A2185 (put l3958 x3964 (x4143 + 1)).length c2186) (by simp only [put_length]) ?_
                refine t_nil ?_
                refine x_block_normal ?_
                refine x_then_normal ?_
                refine c_region ?_
                refine t_st rfl (st_add rfl rfl (by omega)) ?_
                refine t_st rfl (st_move rfl) ?_
                refine t_nil ?_
                exact x_againM (put l3958 x3964 (x4143 + 1)) (Option.some.inj hm).symm (e' := [(0, .slice A1 (l4).length c2), (1, .int .i64 (x5)), (8, .slice A2185 (put l3958 x3964 (x4143 + 1)).length c2186), (10, .slice A3527 (x3517).length c3528), (24, .slice A6 (l9).length c7), (25, .int .i64 ((l9.length : Int))), (26, .int .i64 ((k3513 : Int))), (30, .slice A3527 (x3517).length c3528), (31, .int .i64 ((x3517.length : Int))), (32, .int .i64 ((k3960 : Int) + 1))]) (hp' := (hs4176 ++ R)) ⟨rfl, rfl, rfl, rfl, rfl, rfl, rfl, rfl, rfl, rfl, trivial⟩ (sub_app hs4176 (.refl _)) ⟨hs4176, rfl, rfl, ((hle3954.trans hle4069)), h4177, ((put_length _ _ _).trans hln3959)⟩
      ·
        rintro l3958 b3953 _ _ ⟨hs3956, rfl, rfl, hle3954, h3957, hln3959⟩ hq4178
        rw [hq4178] at hk3963
        have hm := elimL hk3963
        refine c_seq ?_
        refine c_region ?_
        refine t_st rfl (st_lss_f rfl rfl (by omega)) ?_
        refine t_nil ?_
        refine x_then_normal ?_
        refine c_seq ?_
        refine c_cond_f rfl ?_
        refine c_exit ?_
        refine x_then_exit ?_
        refine x_then_exit ?_
        refine x_block_out ?_
        refine x_block_normal ?_
        refine x_then_normal ?_
        refine c_region ?_
        refine t_st rfl (st_add rfl rfl (by omega)) ?_
        refine t_st rfl (st_move rfl) ?_
        refine t_nil ?_
        exact x_againM l3958 (Option.some.inj hm).symm (e' := [(0, .slice A1 (l4).length c2), (1, .int .i64 (x5)), (8, .slice A2185 (l3958).length c2186), (24, .slice A6 (l9).length c7), (25, .int .i64 ((l9.length : Int))), (26, .int .i64 ((k3513 : Int) + 1))]) (hp' := (hs3956 ++ R)) ⟨rfl, rfl, rfl, rfl, rfl, rfl, trivial⟩ (sub_app hs3956 (.refl _)) ⟨hs3956, rfl, rfl, ((hle3507.trans hle3954)), h3957, hln3959⟩
    ·
      rintro l3511 b3506 _ _ ⟨hs3509, rfl, rfl, hle3507, h3510, hln3512⟩ hq4179
      rw [hq4179] at hk3516
      have hm := elimL hk3516
      refine c_seq ?_
      refine c_region ?_
      refine t_st rfl (st_lss_f rfl rfl (by omega)) ?_
      refine t_nil ?_
      refine x_then_normal ?_
      refine c_seq ?_
      refine c_cond_f rfl ?_
      refine c_exit ?_
      refine x_then_exit ?_
      refine x_then_exit ?_
      refine x_block_out ?_
      refine x_then_normal ?_
      refine c_seq ?_
      refine c_seq ?_
      refine c_region ?_
      refine t_st rfl (st_move rfl) ?_
      refine t_st rfl (st_len rfl sl22) ?_
      refine t_st rfl (st_move rfl) ?_
      refine t_nil ?_
      refine x_then_normal ?_
      refine c_block ?_
      have hb4181 := (FZ.bd (h3.le hle3507))
      obtain ⟨t4262, hl4263, hk4264⟩ := bindS hm
      refine c_forM (fun k4261 => fun _ => fun b4259 e' hp' => [(8, .slice A2185 (l3511).length c2186), (78, .slice A1 (l4).length c2), (79, .int .i64 ((l4.length : Int))), (80, .int .i64 ((k4261 : Int)))] = e' ∧ (hs3509 ++ R) = hp' ∧ b3506.Le b4259) hl4263 (e' := [(8, .slice A2185 (l3511).length c2186), (78, .slice A1 (l4).length c2), (79, .int .i64 ((l4.length : Int))), (80, .int .i64 0)]) (hp' := (hs3509 ++ R)) ⟨rfl, rfl, rfl, rfl, trivial⟩ (sub_app hs3509 (.refl _)) ⟨rfl, rfl, (Base.Le.refl _)⟩ ?_ ?_
      ·
        rintro k4261 _ b4259 _ _ oL4180 hknL4180 ⟨rfl, rfl, hle4260⟩ hstepL4180 houtL4180
        unfold mFleetLegal_L4180 at hstepL4180
        have hm := hstepL4180
        refine c_seq ?_
        refine c_region ?_
        refine t_st rfl (st_lss_t rfl rfl (by omega)) ?_
        refine t_nil ?_
        refine x_then_normal ?_
        refine c_seq ?_
        refine c_cond_t rfl ?_
        refine c_skip ?_
        refine x_then_normal ?_
        refine c_seq ?_
        refine c_block ?_
        refine c_seq ?_
        refine c_region ?_
        refine t_st rfl (st_move rfl) ?_
        obtain ⟨x4265, h4266, hm⟩ := bindS hm
        obtain ⟨j4267, hj4268, hx4269⟩ := idx_some h4266
        obtain ⟨cs4270, hr4271, hcs4272, hA4273, hlt4274⟩ := FZ.get (sz := 6) rfl (by decide) (h3.le (hle3507.trans hle4260)) hx4269
        obtain ⟨_, _, rfl, rfl, ⟨_, _, rfl, rfl, ⟨_, _, rfl, rfl, ⟨_, _, rfl, rfl, ⟨_, _, rfl, rfl, rfl⟩⟩⟩⟩⟩ := hr4271
        refine t_st rfl (st_index_old j4267 rfl rfl hj4268 hlt4274 hA4273 sl22) ?_
        refine t_st rfl (st_loadN_old (vs := [.int .i64 (x4265.From), .int .i64 (x4265.To), .int .i64 (x4265.Dep), .int .i64 (x4265.Arr), .int .i64 (x4265.Km), .int .i64 (x4265.Units)]) 6 rfl agg36 hA4273 rfl (fun j u hu => hcs4272 j u hu)) ?_
        refine t_do rfl (u_alloc [.int .i64 0, .int .i64 0, .int .i64 0, .int .i64 0, .int .i64 0, .int .i64 0] zero36 rfl) ?_
        rintro _ _ ⟨g4275, rfl, rfl⟩
        refine t_st rfl (st_assign rfl) ?_
        refine t_do rfl (u_storeN (vs := [_, _, _, _, _, _]) 0 6 rfl rfl rfl siz36 rfl (by intro u hu; simp only [List.mem_cons, List.not_mem_nil, or_false] at hu; rcases hu with rfl | rfl | rfl | rfl | rfl | rfl <;> rfl) rfl (by simp)) ?_
        rintro _ _ rfl
        refine t_nil ?_
        refine x_then_normal ?_
        refine c_block ?_
        refine c_seq ?_
        obtain ⟨x4292, h4293, hm⟩ := bindS hm
        refine D_drawS ((g4275, Cl 36 [.int .i64 (x4265.From), .int .i64 (x4265.To), .int .i64 (x4265.Dep), .int .i64 (x4265.Arr), .int .i64 (x4265.Km), .int .i64 (x4265.Units)]) :: (hs3509 ++ R)) mixed ?_
        refine D_st (Base.Le.refl _) 0 rfl (by kernel_rfl) (by kernel_rfl) (by kernel_rfl) rfl (st_move rfl) (.cons_cons _ (sub_app hs3509 (.refl _))) ?_
        refine D_st (Base.Le.refl _) 1 rfl (by kernel_rfl) (by kernel_rfl) (by kernel_rfl) rfl (st_move rfl) (.cons_cons _ (sub_app hs3509 (.refl _))) ?_
        obtain ⟨j4294, hj4295, hx4296⟩ := idx_some h4293
        obtain ⟨cs4297, hs4302, P4303, P4304, hq4305, hr4298, hcs4299, hA4300, hlt4301, hb4306, hho4307⟩ := OS.get (sz := 1) rfl (by decide) (h3510.le hle4260) hx4296
        obtain ⟨rfl, rfl⟩ := hr4298
        refine D_st (Base.Le.refl _) 2 rfl (by kernel_rfl) (by kernel_rfl) (by kernel_rfl) rfl (st_index_old j4294 rfl rfl hj4295 hlt4301 hA4300 sl45) (.cons_cons _ (sub_app hs3509 (.refl _))) ?_
        refine D_st (Base.Le.refl _) 3 rfl (by kernel_rfl) (by kernel_rfl) (by kernel_rfl) rfl (st_load_rd rfl one3 (fun w ho => hcs4299 w _ ho (.cons _ (List.sublist_append_left _ _)) 0 _ rfl)) (.cons_cons _ (sub_app hs3509 (.refl _))) ?_
        refine D_st (Base.Le.refl _) 4 rfl (by kernel_rfl) (by kernel_rfl) (by kernel_rfl) rfl (st_field rfl fld36_5) (.cons_cons _ (sub_app hs3509 (.refl _))) ?_
        refine D_st (Base.Le.refl _) 5 rfl (by kernel_rfl) (by kernel_rfl) (by kernel_rfl) rfl (st_load 0 rfl one3 rfl rfl) (.cons_cons _ (sub_app hs3509 (.refl _))) ?_
        refine D_st (Base.Le.refl _) 6 rfl (by kernel_rfl) (by kernel_rfl) (by kernel_rfl) rfl (st_gtr rfl rfl) (.cons_cons _ (sub_app hs3509 (.refl _))) ?_
        refine D_st (Base.Le.refl _) 7 rfl (by kernel_rfl) (by kernel_rfl) (by kernel_rfl) rfl (st_assign rfl) (.cons_cons _ (sub_app hs3509 (.refl _))) ?_
        refine D_done (by kernel_rfl) ?_
        refine x_then_normal ?_
        refine c_cond _ rfl (fun hc4308 => ?_) (fun hc4308 => ?_)
        ·
          rw [if_pos (of_decide_eq_true hc4308)] at hm
          refine c_seq ?_
          refine c_region ?_
          refine t_st rfl (st_assign rfl) ?_
          refine t_nil ?_
          refine x_then_normal ?_
          refine c_ret ?_
          refine x_block_ret ?_
          refine x_block_ret ?_
          refine x_then_ret ?_
          refine x_then_ret ?_
          refine x_block_ret ?_
          refine x_then_ret ?_
          have hq4309 := houtL4180 _ (Option.some.inj hm).symm
          rw [hq4309] at hk4264
          have hm := elimR hk4264
          obtain rfl := some1 hm
          exact retM (rs := [.tmp 6]) [.int .i64 (4)] (hle3507.trans hle4260) (by decide) rfl ⟨rfl, trivial⟩ rfl (hp' := R) (.cons _ (sub_skip hs3509 (.refl _))) ⟨rfl, rfl⟩
        ·
          rw [if_neg (of_decide_eq_false hc4308)] at hm
          refine c_seq ?_
          obtain ⟨x4326, h4327, hm⟩ := bindS hm
          refine D_drawS ((g4275, Cl 36 [.int .i64 (x4265.From), .int .i64 (x4265.To), .int .i64 (x4265.Dep), .int .i64 (x4265.Arr), .int .i64 (x4265.Km), .int .i64 (x4265.Units)]) :: (hs3509 ++ R)) mixed ?_
          refine D_st (Base.Le.refl _) 0 rfl (by kernel_rfl) (by kernel_rfl) (by kernel_rfl) rfl (st_move rfl) (.cons_cons _ (sub_app hs3509 (.refl _))) ?_
          refine D_st (Base.Le.refl _) 1 rfl (by kernel_rfl) (by kernel_rfl) (by kernel_rfl) rfl (st_move rfl) (.cons_cons _ (sub_app hs3509 (.refl _))) ?_
          obtain ⟨j4328, hj4329, hx4330⟩ := idx_some h4327
          obtain ⟨cs4331, hs4336, P4337, P4338, hq4339, hr4332, hcs4333, hA4334, hlt4335, hb4340, hho4341⟩ := OS.get (sz := 1) rfl (by decide) (h3510.le hle4260) hx4330
          obtain ⟨rfl, rfl⟩ := hr4332
          refine D_st (Base.Le.refl _) 2 rfl (by kernel_rfl) (by kernel_rfl) (by kernel_rfl) rfl (st_index_old j4328 rfl rfl hj4329 hlt4335 hA4334 sl45) (.cons_cons _ (sub_app hs3509 (.refl _))) ?_
          refine D_st (Base.Le.refl _) 3 rfl (by kernel_rfl) (by kernel_rfl) (by kernel_rfl) rfl (st_load_rd rfl one3 (fun w ho => hcs4333 w _ ho (.cons _ (List.sublist_append_left _ _)) 0 _ rfl)) (.cons_cons _ (sub_app hs3509 (.refl _))) ?_
          refine D_st (Base.Le.refl _) 4 rfl (by kernel_rfl) (by kernel_rfl) (by kernel_rfl) rfl (st_field rfl fld36_5) (.cons_cons _ (sub_app hs3509 (.refl _))) ?_
          refine D_st (Base.Le.refl _) 5 rfl (by kernel_rfl) (by kernel_rfl) (by kernel_rfl) rfl (st_load 0 rfl one3 rfl rfl) (.cons_cons _ (sub_app hs3509 (.refl _))) ?_
          refine D_st (Base.Le.refl _) 6 rfl (by kernel_rfl) (by kernel_rfl) (by kernel_rfl) rfl (st_lss rfl rfl) (.cons_cons _ (sub_app hs3509 (.refl _))) ?_
          refine D_st (Base.Le.refl _) 7 rfl (by kernel_rfl) (by kernel_rfl) (by kernel_rfl) rfl (st_assign rfl) (.cons_cons _ (sub_app hs3509 (.refl _))) ?_
          refine D_done (by kernel_rfl) ?_
          refine x_then_normal ?_
          refine c_cond _ rfl (fun hc4342 => ?_) (fun hc4342 => ?_)
          ·
            rw [if_pos (of_decide_eq_true hc4342)] at hm
            refine c_seq ?_
            refine c_region ?_
            refine t_st rfl (st_assign rfl) ?_
            refine t_nil ?_
            refine x_then_normal ?_
            refine c_ret ?_
            refine x_block_ret ?_
            refine x_block_ret ?_
            refine x_then_ret ?_
            refine x_then_ret ?_
            refine x_block_ret ?_
            refine x_then_ret ?_
            have hq4343 := houtL4180 _ (Option.some.inj hm).symm
            rw [hq4343] at hk4264
            have hm := elimR hk4264
            obtain rfl := some1 hm
            exact retM (rs := [.tmp 6]) [.int .i64 (9)] (hle3507.trans hle4260) (by decide) rfl ⟨rfl, trivial⟩ rfl (hp' := R) (.cons _ (sub_skip hs3509 (.refl _))) ⟨rfl, rfl⟩
          ·
            rw [if_neg (of_decide_eq_false hc4342)] at hm
            refine c_skip ?_
            refine x_block_normal ?_
            refine x_block_normal ?_
            refine x_then_normal ?_
            refine c_region ?_
            refine t_st rfl (st_add rfl rfl (by omega)) ?_
            refine t_st rfl (st_move rfl) ?_
            refine t_nil ?_
            exact x_againM () (Option.some.inj hm).symm (e' := [(8, .slice A2185 (l3511).length c2186), (78, .slice A1 (l4).length c2), (79, .int .i64 ((l4.length : Int))), (80, .int .i64 ((k4261 : Int) + 1))]) (hp' := (hs3509 ++ R)) ⟨rfl, rfl, rfl, rfl, trivial⟩ (.cons _ (sub_app hs3509 (.refl _))) ⟨rfl, rfl, (hle4260)⟩
      ·
        rintro _ b4259 _ _ ⟨rfl, rfl, hle4260⟩ hq4344
        rw [hq4344] at hk4264
        have hm := elimL hk4264
        refine c_seq ?_
        refine c_region ?_
        refine t_st rfl (st_lss_f rfl rfl (by omega)) ?_
        refine t_nil ?_
        refine x_then_normal ?_
        refine c_seq ?_
        refine c_cond_f rfl ?_
        refine c_exit ?_
        refine x_then_exit ?_
        refine x_then_exit ?_
        refine x_block_out ?_
        refine x_then_normal ?_
        refine c_seq ?_
        refine c_region ?_
        refine t_st rfl (st_assign rfl) ?_
        refine t_nil ?_
        refine x_then_normal ?_
        refine c_ret ?_
        obtain rfl := some1 hm
        exact retM (rs := [.tmp 6]) [.int .i64 (0)] (hle3507.trans hle4260) (by decide) rfl ⟨rfl, trivial⟩ rfl (hp' := R) (sub_skip hs3509 (.refl _)) ⟨rfl, rfl⟩

end Go.Proofs.Ytajmocgpjkhjlaa
