/- Contracts: the code computes its model (part 2). -/
import Derived.Test.YtljcafilceachaaDoorP1
set_option linter.unusedVariables false
set_option linter.unusedSimpArgs false
namespace Go.Proofs.YtljcafilceachaaDoor
open Go.RowKit Go.Fp

set_option maxRecDepth 20000 in
theorem cFishkeep1RunStands (b : Base) (R : Hp) (s1 : ApiStock) (x2 : Int) (x3 : Int) (x92 : Bool) (hm : mFishkeep1RunStands s1 x2 x3 = some x92) :
    CallsG Tryd.prog 5 [.agg #[.string (s1.Name), .int .i64 (s1.Length), .int .i64 (s1.Mass), .int .i64 (s1.Start), .int .i64 (s1.Power), .int .i64 (s1.Roll), .int .i64 (s1.Drag), .int .i64 (s1.Brake), .int .i64 (s1.Top), .int .i64 (s1.Seats)], .int .i64 (x2), .int .i64 (x3)] b (R) (fun v b' hp' => .bool (x92) = v ∧ R = hp') := by
  refine fn_enterG 135 Tryd.func5 rfl Tryd.ntmps5 rfl ?_
  unfold mFishkeep1RunStands at hm
  refine c_seq ?_
  refine c_region ?_
  refine t_do rfl (u_box _ rfl rfl) ?_
  rintro _ _ ⟨g93, rfl, rfl⟩
  refine t_st rfl (st_assign rfl) ?_
  refine t_nil ?_
  refine x_then_normal ?_
  refine c_seq ?_
  refine c_seq ?_
  refine c_region ?_
  obtain ⟨x94, hcl95, hm⟩ := bindS hm
  refine t_do rfl (u_callW0 _ call21 rfl (fun w ho => cFishkeep1AwakeRun _ [] x94 hcl95) (fun _ _ _ h => h.2.symm)) ?_
  rintro _ _ ⟨⟨_, rfl, _⟩, rfl⟩
  refine t_st rfl (st_not rfl) ?_
  refine t_nil ?_
  refine x_then_normal ?_
  refine c_cond _ rfl (fun hc96 => ?_) (fun hc96 => ?_)
  ·
    rw [if_neg (fun hh => Bool.noConfusion (hh.symm.trans (notT hc96)))] at hm
    refine c_seq ?_
    refine c_region ?_
    refine t_st rfl (st_assign rfl) ?_
    refine t_nil ?_
    refine x_then_normal ?_
    refine c_ret ?_
    refine x_then_ret ?_
    obtain rfl := some1 hm
    exact retM (rs := [.tmp 6]) [.bool (false)] (Base.Le.refl _) (by decide) rfl ⟨rfl, trivial⟩ rfl (hp' := R) (.cons _ (.refl _)) ⟨rfl, rfl⟩
  ·
    rw [if_pos (notF hc96)] at hm
    refine c_skip ?_
    refine x_then_normal ?_
    refine c_seq ?_
    obtain ⟨x105, hj106, hk106⟩ := bindS hm
    refine c_join (fun b103 e' hp' => [(1, .int .i64 (x2)), (2, .int .i64 (x3)), (3, .pointer (some ⟨g93, 0, none⟩)), (37, .bool (x105))] = e' ∧ (g93, Cl 43 [.string (s1.Name), .int .i64 (s1.Length), .int .i64 (s1.Mass), .int .i64 (s1.Start), .int .i64 (s1.Power), .int .i64 (s1.Roll), .int .i64 (s1.Drag), .int .i64 (s1.Brake), .int .i64 (s1.Top), .int .i64 (s1.Seats)]) :: R = hp' ∧ b.Le b103) ?_ ?_
    ·
      have hm := hj106
      refine c_region ?_
      refine t_st rfl (st_loadD (vs := [_, _, _, _, _, _, _, _, _, _]) 0 10 rfl agg43 rfl rfl rfl) ?_
      obtain ⟨x107, hcl108, hm⟩ := bindS hm
      refine t_do rfl (u_callW0 _ call22 rfl (fun w ho => cRunCheck _ [] s1 x107 hcl108) (fun _ _ _ h => h.2.symm)) ?_
      rintro _ _ ⟨⟨_, rfl, _⟩, rfl⟩
      refine t_bool rfl (st_neq rfl rfl) (fun hc109 => ?_) (fun hc109 => ?_)
      ·
        rw [if_pos hc109] at hm
        refine t_st rfl (st_move rfl) ?_
        refine t_no 22 rfl rfl rfl rfl rfl ?_
        refine t_no 22 rfl rfl rfl rfl rfl ?_
        refine t_st rfl (st_pick_t rfl rfl) ?_
        refine t_st rfl (st_move rfl) ?_
        refine t_no 26 rfl rfl rfl rfl rfl ?_
        refine t_no 26 rfl rfl rfl rfl rfl ?_
        refine t_st rfl (st_pick_t rfl rfl) ?_
        refine t_st rfl (st_move rfl) ?_
        refine t_no 30 rfl rfl rfl rfl rfl ?_
        refine t_no 30 rfl rfl rfl rfl rfl ?_
        refine t_st rfl (st_pick_t rfl rfl) ?_
        refine t_st rfl (st_move rfl) ?_
        refine t_no 34 rfl rfl rfl rfl rfl ?_
        refine t_no 34 rfl rfl rfl rfl rfl ?_
        refine t_st rfl (st_pick_t rfl rfl) ?_
        refine t_nil ?_
        obtain rfl := some1 hm
        exact x_join (e' := [(1, .int .i64 (x2)), (2, .int .i64 (x3)), (3, .pointer (some ⟨g93, 0, none⟩)), (37, .bool (true))]) (hp' := (g93, Cl 43 [.string (s1.Name), .int .i64 (s1.Length), .int .i64 (s1.Mass), .int .i64 (s1.Start), .int .i64 (s1.Power), .int .i64 (s1.Roll), .int .i64 (s1.Drag), .int .i64 (s1.Brake), .int .i64 (s1.Top), .int .i64 (s1.Seats)]) :: R) ⟨rfl, rfl, rfl, rfl, trivial⟩ (.cons_cons _ (.refl _)) ⟨rfl, rfl, (Base.Le.refl _)⟩
      ·
        rw [if_neg hc109] at hm
        refine t_st rfl (st_move rfl) ?_
        refine t_yes 22 rfl rfl rfl ?_
        refine t_st rfl (st_move rfl) ?_
        refine t_yes 22 rfl rfl rfl ?_
        refine t_bool rfl (st_lss rfl rfl) (fun hc110 => ?_) (fun hc110 => ?_)
        ·
          rw [if_pos hc110] at hm
          refine t_st rfl (st_pick_f rfl rfl) ?_
          refine t_st rfl (st_move rfl) ?_
          refine t_no 26 rfl rfl rfl rfl rfl ?_
          refine t_no 26 rfl rfl rfl rfl rfl ?_
          refine t_st rfl (st_pick_t rfl rfl) ?_
          refine t_st rfl (st_move rfl) ?_
          refine t_no 30 rfl rfl rfl rfl rfl ?_
          refine t_no 30 rfl rfl rfl rfl rfl ?_
          refine t_st rfl (st_pick_t rfl rfl) ?_
          refine t_st rfl (st_move rfl) ?_
          refine t_no 34 rfl rfl rfl rfl rfl ?_
          refine t_no 34 rfl rfl rfl rfl rfl ?_
          refine t_st rfl (st_pick_t rfl rfl) ?_
          refine t_nil ?_
          obtain rfl := some1 hm
          exact x_join (e' := [(1, .int .i64 (x2)), (2, .int .i64 (x3)), (3, .pointer (some ⟨g93, 0, none⟩)), (37, .bool (true))]) (hp' := (g93, Cl 43 [.string (s1.Name), .int .i64 (s1.Length), .int .i64 (s1.Mass), .int .i64 (s1.Start), .int .i64 (s1.Power), .int .i64 (s1.Roll), .int .i64 (s1.Drag), .int .i64 (s1.Brake), .int .i64 (s1.Top), .int .i64 (s1.Seats)]) :: R) ⟨rfl, rfl, rfl, rfl, trivial⟩ (.cons_cons _ (.refl _)) ⟨rfl, rfl, (Base.Le.refl _)⟩
        ·
          rw [if_neg hc110] at hm
          refine t_st rfl (st_pick_f rfl rfl) ?_
          refine t_st rfl (st_move rfl) ?_
          refine t_yes 26 rfl rfl rfl ?_
          refine t_st rfl (st_move rfl) ?_
          refine t_yes 26 rfl rfl rfl ?_
          refine t_bool rfl (st_gtr rfl rfl) (fun hc111 => ?_) (fun hc111 => ?_)
          ·
            rw [if_pos hc111] at hm
            refine t_st rfl (st_pick_f rfl rfl) ?_
            refine t_st rfl (st_move rfl) ?_
            refine t_no 30 rfl rfl rfl rfl rfl ?_
            refine t_no 30 rfl rfl rfl rfl rfl ?_
            refine t_st rfl (st_pick_t rfl rfl) ?_
            refine t_st rfl (st_move rfl) ?_
            refine t_no 34 rfl rfl rfl rfl rfl ?_
            refine t_no 34 rfl rfl rfl rfl rfl ?_
            refine t_st rfl (st_pick_t rfl rfl) ?_
            refine t_nil ?_
            obtain rfl := some1 hm
            exact x_join (e' := [(1, .int .i64 (x2)), (2, .int .i64 (x3)), (3, .pointer (some ⟨g93, 0, none⟩)), (37, .bool (true))]) (hp' := (g93, Cl 43 [.string (s1.Name), .int .i64 (s1.Length), .int .i64 (s1.Mass), .int .i64 (s1.Start), .int .i64 (s1.Power), .int .i64 (s1.Roll), .int .i64 (s1.Drag), .int .i64 (s1.Brake), .int .i64 (s1.Top), .int .i64 (s1.Seats)]) :: R) ⟨rfl, rfl, rfl, rfl, trivial⟩ (.cons_cons _ (.refl _)) ⟨rfl, rfl, (Base.Le.refl _)⟩
          ·
            rw [if_neg hc111] at hm
            refine t_st rfl (st_pick_f rfl rfl) ?_
            refine t_st rfl (st_move rfl) ?_
            refine t_yes 30 rfl rfl rfl ?_
            refine t_st rfl (st_move rfl) ?_
            refine t_yes 30 rfl rfl rfl ?_
            refine t_bool rfl (st_lss rfl rfl) (fun hc112 => ?_) (fun hc112 => ?_)
            ·
              rw [if_pos hc112] at hm
              refine t_st rfl (st_pick_f rfl rfl) ?_
              refine t_st rfl (st_move rfl) ?_
              refine t_no 34 rfl rfl rfl rfl rfl ?_
              refine t_no 34 rfl rfl rfl rfl rfl ?_
              refine t_st rfl (st_pick_t rfl rfl) ?_
              refine t_nil ?_
              obtain rfl := some1 hm
              exact x_join (e' := [(1, .int .i64 (x2)), (2, .int .i64 (x3)), (3, .pointer (some ⟨g93, 0, none⟩)), (37, .bool (true))]) (hp' := (g93, Cl 43 [.string (s1.Name), .int .i64 (s1.Length), .int .i64 (s1.Mass), .int .i64 (s1.Start), .int .i64 (s1.Power), .int .i64 (s1.Roll), .int .i64 (s1.Drag), .int .i64 (s1.Brake), .int .i64 (s1.Top), .int .i64 (s1.Seats)]) :: R) ⟨rfl, rfl, rfl, rfl, trivial⟩ (.cons_cons _ (.refl _)) ⟨rfl, rfl, (Base.Le.refl _)⟩
            ·
              rw [if_neg hc112] at hm
              refine t_st rfl (st_pick_f rfl rfl) ?_
              refine t_st rfl (st_move rfl) ?_
              refine t_yes 34 rfl rfl rfl ?_
              refine t_st rfl (st_move rfl) ?_
              refine t_yes 34 rfl rfl rfl ?_
              refine t_st rfl (st_gtr rfl rfl) ?_
              refine t_st rfl (st_pick_f rfl rfl) ?_
              refine t_nil ?_
              obtain rfl := some1 hm
              exact x_join (e' := [(1, .int .i64 (x2)), (2, .int .i64 (x3)), (3, .pointer (some ⟨g93, 0, none⟩)), (37, .bool (decide (6000 < x3)))]) (hp' := (g93, Cl 43 [.string (s1.Name), .int .i64 (s1.Length), .int .i64 (s1.Mass), .int .i64 (s1.Start), .int .i64 (s1.Power), .int .i64 (s1.Roll), .int .i64 (s1.Drag), .int .i64 (s1.Brake), .int .i64 (s1.Top), .int .i64 (s1.Seats)]) :: R) ⟨rfl, rfl, rfl, rfl, trivial⟩ (.cons_cons _ (.refl _)) ⟨rfl, rfl, (Base.Le.refl _)⟩
    ·
      rintro b103 _ _ ⟨rfl, rfl, hle104⟩
      have hm := hk106
      refine c_cond _ rfl (fun hc113 => ?_) (fun hc113 => ?_)
      ·
        rw [if_pos hc113] at hm
        refine c_seq ?_
        refine c_region ?_
        refine t_st rfl (st_assign rfl) ?_
        refine t_nil ?_
        refine x_then_normal ?_
        refine c_ret ?_
        refine x_then_ret ?_
        obtain rfl := some1 hm
        exact retM (rs := [.tmp 6]) [.bool (true)] hle104 (by decide) rfl ⟨rfl, trivial⟩ rfl (hp' := R) (.cons _ (.refl _)) ⟨rfl, rfl⟩
      ·
        rw [if_neg (fun hh => Bool.noConfusion (hh.symm.trans hc113))] at hm
        refine c_skip ?_
        refine x_then_normal ?_
        refine c_seq ?_
        refine c_region ?_
        refine t_st rfl (st_field rfl fld43_7) ?_
        refine t_st rfl (st_load 0 rfl one3 rfl rfl) ?_
        obtain ⟨_, h114, hm⟩ := bindS hm
        have h114 := (chk_some h114).2
        refine t_st rfl (st_sub rfl rfl h114) ?_
        refine t_st rfl (st_assign rfl) ?_
        refine t_nil ?_
        refine x_then_normal ?_
        refine c_seq ?_
        refine c_region ?_
        refine t_st rfl (st_move rfl) ?_
        refine t_st rfl (st_move rfl) ?_
        obtain ⟨_, h115, hm⟩ := bindS hm
        have h115 := (chk_some h115).2
        refine t_st rfl (st_sub rfl rfl h115) ?_
        refine t_st rfl (st_max rfl rfl) ?_
        refine t_st rfl (st_assign rfl) ?_
        refine t_nil ?_
        refine x_then_normal ?_
        refine c_seq ?_
        refine c_region ?_
        refine t_st rfl (st_loadD (vs := [_, _, _, _, _, _, _, _, _, _]) 0 10 rfl agg43 rfl rfl rfl) ?_
        refine t_st rfl (st_move rfl) ?_
        obtain ⟨⟨x116, x117⟩, hcl118, hm⟩ := bindS hm
        have hm := (unc2E hm)
        refine t_do rfl (u_callW0 _ call23 rfl (fun w ho => cRunStop _ [] s1 x2 x116 x117 hcl118) (fun _ _ _ h => h.2.symm)) ?_
        rintro _ _ ⟨⟨_, rfl, _⟩, rfl⟩
        refine t_st rfl (st_move rfl) ?_
        refine t_st rfl (st_extract rfl rfl) ?_
        refine t_st rfl (st_extract rfl rfl) ?_
        refine t_st rfl (st_assign rfl) ?_
        refine t_st rfl (st_assign rfl) ?_
        refine t_nil ?_
        refine x_then_normal ?_
        refine c_seq ?_
        refine c_region ?_
        refine t_st rfl (st_loadD (vs := [_, _, _, _, _, _, _, _, _, _]) 0 10 rfl agg43 rfl rfl rfl) ?_
        refine t_st rfl (st_move rfl) ?_
        obtain ⟨⟨x119, x120⟩, hcl121, hm⟩ := bindS hm
        have hm := (unc2E hm)
        refine t_do rfl (u_callW0 _ call23 rfl (fun w ho => cRunStop _ [] s1 (max (x2 - (s1.Brake - 40)) 0) x119 x120 hcl121) (fun _ _ _ h => h.2.symm)) ?_
        rintro _ _ ⟨⟨_, rfl, _⟩, rfl⟩
        refine t_st rfl (st_move rfl) ?_
        refine t_st rfl (st_extract rfl rfl) ?_
        refine t_st rfl (st_extract rfl rfl) ?_
        refine t_st rfl (st_assign rfl) ?_
        refine t_st rfl (st_assign rfl) ?_
        refine t_nil ?_
        refine x_then_normal ?_
        refine c_seq ?_
        refine c_region ?_
        refine t_st rfl (st_loadD (vs := [_, _, _, _, _, _, _, _, _, _]) 0 10 rfl agg43 rfl rfl rfl) ?_
        refine t_st rfl (st_move rfl) ?_
        obtain ⟨_, h122, hm⟩ := bindS hm
        have h122 := (chk_some h122).2
        refine t_st rfl (st_sub rfl rfl h122) ?_
        obtain ⟨⟨x123, x124⟩, hcl125, hm⟩ := bindS hm
        have hm := (unc2E hm)
        refine t_do rfl (u_callW0 _ call23 rfl (fun w ho => cRunStop _ [] s1 (x2 - 1) x123 x124 hcl125) (fun _ _ _ h => h.2.symm)) ?_
        rintro _ _ ⟨⟨_, rfl, _⟩, rfl⟩
        refine t_st rfl (st_move rfl) ?_
        refine t_st rfl (st_extract rfl rfl) ?_
        refine t_st rfl (st_extract rfl rfl) ?_
        refine t_st rfl (st_assign rfl) ?_
        refine t_st rfl (st_assign rfl) ?_
        refine t_nil ?_
        refine x_then_normal ?_
        refine c_seq ?_
        obtain ⟨x137, hj138, hk138⟩ := bindS hm
        refine c_join (fun b135 e' hp' => [(1, .int .i64 (x2)), (2, .int .i64 (x3)), (3, .pointer (some ⟨g93, 0, none⟩)), (7, .int .i64 (s1.Brake - 40)), (89, .bool (x137))] = e' ∧ (g93, Cl 43 [.string (s1.Name), .int .i64 (s1.Length), .int .i64 (s1.Mass), .int .i64 (s1.Start), .int .i64 (s1.Power), .int .i64 (s1.Roll), .int .i64 (s1.Drag), .int .i64 (s1.Brake), .int .i64 (s1.Top), .int .i64 (s1.Seats)]) :: R = hp' ∧ b103.Le b135) ?_ ?_
        ·
          have hm := hj138
          refine c_region ?_
          refine t_st rfl (st_move rfl) ?_
          refine t_bool rfl (st_neq rfl rfl) (fun hc139 => ?_) (fun hc139 => ?_)
          ·
            rw [if_pos hc139] at hm
            refine t_st rfl (st_move rfl) ?_
            refine t_no 66 rfl rfl rfl rfl rfl ?_
            refine t_no 66 rfl rfl rfl rfl rfl ?_
            refine t_st rfl (st_pick_t rfl rfl) ?_
            refine t_st rfl (st_move rfl) ?_
            refine t_no 70 rfl rfl rfl rfl rfl ?_
            refine t_no 70 rfl rfl rfl rfl rfl ?_
            refine t_st rfl (st_pick_t rfl rfl) ?_
            refine t_st rfl (st_move rfl) ?_
            refine t_no 74 rfl rfl rfl rfl rfl ?_
            refine t_no 74 rfl rfl rfl rfl rfl ?_
            refine t_no 74 rfl rfl rfl rfl rfl ?_
            refine t_no 74 rfl rfl rfl rfl rfl ?_
            refine t_no 74 rfl rfl rfl rfl rfl ?_
            refine t_no 74 rfl rfl rfl rfl rfl ?_
            refine t_no 74 rfl rfl rfl rfl rfl ?_
            refine t_no 74 rfl rfl rfl rfl rfl ?_
            refine t_no 74 rfl rfl rfl rfl rfl ?_
            refine t_st rfl (st_pick_t rfl rfl) ?_
            refine t_st rfl (st_move rfl) ?_
            refine t_no 85 rfl rfl rfl rfl rfl ?_
            refine t_no 85 rfl rfl rfl rfl rfl ?_
            refine t_no 85 rfl rfl rfl rfl rfl ?_
            refine t_st rfl (st_pick_t rfl rfl) ?_
            refine t_nil ?_
            obtain rfl := some1 hm
            exact x_join (e' := [(1, .int .i64 (x2)), (2, .int .i64 (x3)), (3, .pointer (some ⟨g93, 0, none⟩)), (7, .int .i64 (s1.Brake - 40)), (89, .bool (true))]) (hp' := (g93, Cl 43 [.string (s1.Name), .int .i64 (s1.Length), .int .i64 (s1.Mass), .int .i64 (s1.Start), .int .i64 (s1.Power), .int .i64 (s1.Roll), .int .i64 (s1.Drag), .int .i64 (s1.Brake), .int .i64 (s1.Top), .int .i64 (s1.Seats)]) :: R) ⟨rfl, rfl, rfl, rfl, rfl, trivial⟩ (.cons_cons _ (.refl _)) ⟨rfl, rfl, (Base.Le.refl _)⟩
          ·
            rw [if_neg hc139] at hm
            refine t_st rfl (st_move rfl) ?_
            refine t_yes 66 rfl rfl rfl ?_
            refine t_st rfl (st_move rfl) ?_
            refine t_yes 66 rfl rfl rfl ?_
            refine t_bool rfl (st_neq rfl rfl) (fun hc140 => ?_) (fun hc140 => ?_)
            ·
              rw [if_pos hc140] at hm
              refine t_st rfl (st_pick_f rfl rfl) ?_
              refine t_st rfl (st_move rfl) ?_
              refine t_no 70 rfl rfl rfl rfl rfl ?_
              refine t_no 70 rfl rfl rfl rfl rfl ?_
              refine t_st rfl (st_pick_t rfl rfl) ?_
              refine t_st rfl (st_move rfl) ?_
              refine t_no 74 rfl rfl rfl rfl rfl ?_
              refine t_no 74 rfl rfl rfl rfl rfl ?_
              refine t_no 74 rfl rfl rfl rfl rfl ?_
              refine t_no 74 rfl rfl rfl rfl rfl ?_
              refine t_no 74 rfl rfl rfl rfl rfl ?_
              refine t_no 74 rfl rfl rfl rfl rfl ?_
              refine t_no 74 rfl rfl rfl rfl rfl ?_
              refine t_no 74 rfl rfl rfl rfl rfl ?_
              refine t_no 74 rfl rfl rfl rfl rfl ?_
              refine t_st rfl (st_pick_t rfl rfl) ?_
              refine t_st rfl (st_move rfl) ?_
              refine t_no 85 rfl rfl rfl rfl rfl ?_
              refine t_no 85 rfl rfl rfl rfl rfl ?_
              refine t_no 85 rfl rfl rfl rfl rfl ?_
              refine t_st rfl (st_pick_t rfl rfl) ?_
              refine t_nil ?_
              obtain rfl := some1 hm
              exact x_join (e' := [(1, .int .i64 (x2)), (2, .int .i64 (x3)), (3, .pointer (some ⟨g93, 0, none⟩)), (7, .int .i64 (s1.Brake - 40)), (89, .bool (true))]) (hp' := (g93, Cl 43 [.string (s1.Name), .int .i64 (s1.Length), .int .i64 (s1.Mass), .int .i64 (s1.Start), .int .i64 (s1.Power), .int .i64 (s1.Roll), .int .i64 (s1.Drag), .int .i64 (s1.Brake), .int .i64 (s1.Top), .int .i64 (s1.Seats)]) :: R) ⟨rfl, rfl, rfl, rfl, rfl, trivial⟩ (.cons_cons _ (.refl _)) ⟨rfl, rfl, (Base.Le.refl _)⟩
            ·
              rw [if_neg hc140] at hm
              refine t_st rfl (st_pick_f rfl rfl) ?_
              refine t_st rfl (st_move rfl) ?_
              refine t_yes 70 rfl rfl rfl ?_
              refine t_st rfl (st_move rfl) ?_
              refine t_yes 70 rfl rfl rfl ?_
              refine t_bool rfl (st_neq rfl rfl) (fun hc141 => ?_) (fun hc141 => ?_)
              ·
                rw [if_pos hc141] at hm
                refine t_st rfl (st_pick_f rfl rfl) ?_
                refine t_st rfl (st_move rfl) ?_
                refine t_no 74 rfl rfl rfl rfl rfl ?_
                refine t_no 74 rfl rfl rfl rfl rfl ?_
                refine t_no 74 rfl rfl rfl rfl rfl ?_
                refine t_no 74 rfl rfl rfl rfl rfl ?_
                refine t_no 74 rfl rfl rfl rfl rfl ?_
                refine t_no 74 rfl rfl rfl rfl rfl ?_
                refine t_no 74 rfl rfl rfl rfl rfl ?_
                refine t_no 74 rfl rfl rfl rfl rfl ?_
                refine t_no 74 rfl rfl rfl rfl rfl ?_
                refine t_st rfl (st_pick_t rfl rfl) ?_
                refine t_st rfl (st_move rfl) ?_
                refine t_no 85 rfl rfl rfl rfl rfl ?_
                refine t_no 85 rfl rfl rfl rfl rfl ?_
                refine t_no 85 rfl rfl rfl rfl rfl ?_
                refine t_st rfl (st_pick_t rfl rfl) ?_
                refine t_nil ?_
                obtain rfl := some1 hm
                exact x_join (e' := [(1, .int .i64 (x2)), (2, .int .i64 (x3)), (3, .pointer (some ⟨g93, 0, none⟩)), (7, .int .i64 (s1.Brake - 40)), (89, .bool (true))]) (hp' := (g93, Cl 43 [.string (s1.Name), .int .i64 (s1.Length), .int .i64 (s1.Mass), .int .i64 (s1.Start), .int .i64 (s1.Power), .int .i64 (s1.Roll), .int .i64 (s1.Drag), .int .i64 (s1.Brake), .int .i64 (s1.Top), .int .i64 (s1.Seats)]) :: R) ⟨rfl, rfl, rfl, rfl, rfl, trivial⟩ (.cons_cons _ (.refl _)) ⟨rfl, rfl, (Base.Le.refl _)⟩
              ·
                rw [if_neg hc141] at hm
                refine t_st rfl (st_pick_f rfl rfl) ?_
                refine t_st rfl (st_move rfl) ?_
                refine t_yes 74 rfl rfl rfl ?_
                refine t_st rfl (st_move rfl) ?_
                refine t_yes 74 rfl rfl rfl ?_
                refine t_st rfl (st_move rfl) ?_
                refine t_yes 74 rfl rfl rfl ?_
                refine t_st rfl (st_move rfl) ?_
                refine t_yes 74 rfl rfl rfl ?_
                obtain ⟨_, h142, hm⟩ := bindS hm
                have h142 := (chk_some h142).2
                refine t_st rfl (st_add rfl rfl h142) ?_
                refine t_yes 74 rfl rfl rfl ?_
                obtain ⟨_, h143, hm⟩ := bindS hm
                have h143 := (chk_some h143).2
                refine t_st rfl (st_add rfl rfl h143) ?_
                refine t_yes 74 rfl rfl rfl ?_
                obtain ⟨_, h144, hm⟩ := bindS hm
                obtain ⟨_, h145, hm⟩ := bindS hm
                have h145 := (chk_some h145).2
                refine t_st rfl (st_quo rfl rfl (ne0_some h144) h145) ?_
                refine t_yes 74 rfl rfl rfl ?_
                refine t_st rfl (st_move rfl) ?_
                refine t_yes 74 rfl rfl rfl ?_
                obtain ⟨_, h146, hm⟩ := bindS hm
                have h146 := (chk_some h146).2
                refine t_st rfl (st_add rfl rfl h146) ?_
                refine t_yes 74 rfl rfl rfl ?_
                refine t_bool rfl (st_neq rfl rfl) (fun hc147 => ?_) (fun hc147 => ?_)
                ·
                  rw [if_pos hc147] at hm
                  refine t_st rfl (st_pick_f rfl rfl) ?_
                  refine t_st rfl (st_move rfl) ?_
                  refine t_no 85 rfl rfl rfl rfl rfl ?_
                  refine t_no 85 rfl rfl rfl rfl rfl ?_
                  refine t_no 85 rfl rfl rfl rfl rfl ?_
                  refine t_st rfl (st_pick_t rfl rfl) ?_
                  refine t_nil ?_
                  obtain rfl := some1 hm
                  exact x_join (e' := [(1, .int .i64 (x2)), (2, .int .i64 (x3)), (3, .pointer (some ⟨g93, 0, none⟩)), (7, .int .i64 (s1.Brake - 40)), (89, .bool (true))]) (hp' := (g93, Cl 43 [.string (s1.Name), .int .i64 (s1.Length), .int .i64 (s1.Mass), .int .i64 (s1.Start), .int .i64 (s1.Power), .int .i64 (s1.Roll), .int .i64 (s1.Drag), .int .i64 (s1.Brake), .int .i64 (s1.Top), .int .i64 (s1.Seats)]) :: R) ⟨rfl, rfl, rfl, rfl, rfl, trivial⟩ (.cons_cons _ (.refl _)) ⟨rfl, rfl, (Base.Le.refl _)⟩
                ·
                  rw [if_neg hc147] at hm
                  refine t_st rfl (st_pick_f rfl rfl) ?_
                  refine t_st rfl (st_move rfl) ?_
                  refine t_yes 85 rfl rfl rfl ?_
                  refine t_st rfl (st_move rfl) ?_
                  refine t_yes 85 rfl rfl rfl ?_
                  refine t_st rfl (st_move rfl) ?_
                  refine t_yes 85 rfl rfl rfl ?_
                  refine t_st rfl (st_gtr rfl rfl) ?_
                  refine t_st rfl (st_pick_f rfl rfl) ?_
                  refine t_nil ?_
                  obtain rfl := some1 hm
                  exact x_join (e' := [(1, .int .i64 (x2)), (2, .int .i64 (x3)), (3, .pointer (some ⟨g93, 0, none⟩)), (7, .int .i64 (s1.Brake - 40)), (89, .bool (decide (x116 < x123)))]) (hp' := (g93, Cl 43 [.string (s1.Name), .int .i64 (s1.Length), .int .i64 (s1.Mass), .int .i64 (s1.Start), .int .i64 (s1.Power), .int .i64 (s1.Roll), .int .i64 (s1.Drag), .int .i64 (s1.Brake), .int .i64 (s1.Top), .int .i64 (s1.Seats)]) :: R) ⟨rfl, rfl, rfl, rfl, rfl, trivial⟩ (.cons_cons _ (.refl _)) ⟨rfl, rfl, (Base.Le.refl _)⟩
        ·
          rintro b135 _ _ ⟨rfl, rfl, hle136⟩
          have hm := hk138
          refine c_cond _ rfl (fun hc148 => ?_) (fun hc148 => ?_)
          ·
            rw [if_pos hc148] at hm
            refine c_seq ?_
            refine c_region ?_
            refine t_st rfl (st_assign rfl) ?_
            refine t_nil ?_
            refine x_then_normal ?_
            refine c_ret ?_
            refine x_then_ret ?_
            obtain rfl := some1 hm
            exact retM (rs := [.tmp 6]) [.bool (false)] (hle104.trans hle136) (by decide) rfl ⟨rfl, trivial⟩ rfl (hp' := R) (.cons _ (.refl _)) ⟨rfl, rfl⟩
          ·
            rw [if_neg (fun hh => Bool.noConfusion (hh.symm.trans hc148))] at hm
            refine c_skip ?_
            refine x_then_normal ?_
            refine c_seq ?_
            refine c_region ?_
            refine t_st rfl (st_loadD (vs := [_, _, _, _, _, _, _, _, _, _]) 0 10 rfl agg43 rfl rfl rfl) ?_
            refine t_st rfl (st_move rfl) ?_
            refine t_st rfl (st_move rfl) ?_
            obtain ⟨⟨x149, x150⟩, hcl151, hm⟩ := bindS hm
            have hm := (unc2E hm)
            refine t_do rfl (u_callW0 _ call24 rfl (fun w ho => cRunInto _ [] s1 x2 x3 x149 x150 hcl151) (fun _ _ _ h => h.2.symm)) ?_
            rintro _ _ ⟨⟨_, rfl, _⟩, rfl⟩
            refine t_st rfl (st_move rfl) ?_
            refine t_st rfl (st_extract rfl rfl) ?_
            refine t_st rfl (st_extract rfl rfl) ?_
            refine t_st rfl (st_assign rfl) ?_
            refine t_st rfl (st_assign rfl) ?_
            refine t_nil ?_
            refine x_then_normal ?_
            refine c_seq ?_
            refine c_seq ?_
            refine c_region ?_
            refine t_st rfl (st_move rfl) ?_
            refine t_st rfl (st_move rfl) ?_
            refine t_st rfl (st_geq rfl rfl) ?_
            refine t_nil ?_
            refine x_then_normal ?_
            refine c_cond _ rfl (fun hc152 => ?_) (fun hc152 => ?_)
            ·
              rw [if_pos (of_decide_eq_true hc152)] at hm
              obtain ⟨x156, hj157, hk157⟩ := bindS hm
              refine c_join (fun b154 e' hp' => [(6, .bool (x156))] = e' ∧ R = hp' ∧ b135.Le b154) ?_ ?_
              ·
                have hm := hj157
                refine c_region ?_
                refine t_st rfl (st_move rfl) ?_
                refine t_bool rfl (st_eql rfl rfl) (fun hc158 => ?_) (fun hc158 => ?_)
                ·
                  rw [if_pos hc158] at hm
                  refine t_st rfl (st_move rfl) ?_
                  refine t_yes 102 rfl rfl rfl ?_
                  refine t_st rfl (st_move rfl) ?_
                  refine t_yes 102 rfl rfl rfl ?_
                  refine t_st rfl (st_eql rfl rfl) ?_
                  refine t_st rfl (st_pick_t rfl rfl) ?_
                  refine t_st rfl (st_assign rfl) ?_
                  refine t_nil ?_
                  obtain rfl := some1 hm
                  exact x_join (e' := [(6, .bool (decide (x149 = 0)))]) (hp' := R) ⟨rfl, trivial⟩ (.cons _ (.refl _)) ⟨rfl, rfl, (Base.Le.refl _)⟩
                ·
                  rw [if_neg hc158] at hm
                  refine t_st rfl (st_move rfl) ?_
                  refine t_no 102 rfl rfl rfl rfl rfl ?_
                  refine t_no 102 rfl rfl rfl rfl rfl ?_
                  refine t_st rfl (st_pick_f rfl rfl) ?_
                  refine t_st rfl (st_assign rfl) ?_
                  refine t_nil ?_
                  obtain rfl := some1 hm
                  exact x_join (e' := [(6, .bool (false))]) (hp' := R) ⟨rfl, trivial⟩ (.cons _ (.refl _)) ⟨rfl, rfl, (Base.Le.refl _)⟩
              ·
                rintro b154 _ _ ⟨rfl, rfl, hle155⟩
                have hm := hk157
                refine c_ret ?_
                refine x_then_ret ?_
                obtain rfl := some1 hm
                exact retM (rs := [.tmp 6]) [.bool (x156)] (hle104.trans (hle136.trans hle155)) (by decide) rfl ⟨rfl, trivial⟩ rfl (hp' := R) (.refl _) ⟨rfl, rfl⟩
            ·
              rw [if_neg (of_decide_eq_false hc152)] at hm
              refine c_skip ?_
              refine x_then_normal ?_
              refine c_seq ?_
              refine c_region ?_
              refine t_st rfl (st_move rfl) ?_
              refine t_st rfl (st_move rfl) ?_
              obtain ⟨_, h159, hm⟩ := bindS hm
              have h159 := (chk_some h159).2
              refine t_st rfl (st_sub rfl rfl h159) ?_
              refine t_st rfl (st_move rfl) ?_
              refine t_st rfl (st_max rfl rfl) ?_
              refine t_st rfl (st_assign rfl) ?_
              refine t_nil ?_
              refine x_then_normal ?_
              refine c_seq ?_
              refine c_region ?_
              refine t_st rfl (st_loadD (vs := [_, _, _, _, _, _, _, _, _, _]) 0 10 rfl agg43 rfl rfl rfl) ?_
              refine t_st rfl (st_move rfl) ?_
              refine t_st rfl (st_move rfl) ?_
              obtain ⟨⟨x160, x161⟩, hcl162, hm⟩ := bindS hm
              have hm := (unc2E hm)
              refine t_do rfl (u_callW0 _ call24 rfl (fun w ho => cRunInto _ [] s1 (max (x2 - (s1.Brake - 40)) x3) x3 x160 x161 hcl162) (fun _ _ _ h => h.2.symm)) ?_
              rintro _ _ ⟨⟨_, rfl, _⟩, rfl⟩
              refine t_st rfl (st_move rfl) ?_
              refine t_st rfl (st_extract rfl rfl) ?_
              refine t_st rfl (st_extract rfl rfl) ?_
              refine t_st rfl (st_assign rfl) ?_
              refine t_st rfl (st_assign rfl) ?_
              refine t_nil ?_
              refine x_then_normal ?_
              obtain ⟨x172, hj173, hk173⟩ := bindS hm
              refine c_join (fun b170 e' hp' => [(6, .bool (x172))] = e' ∧ R = hp' ∧ b135.Le b170) ?_ ?_
              ·
                have hm := hj173
                refine c_region ?_
                refine t_st rfl (st_move rfl) ?_
                refine t_bool rfl (st_eql rfl rfl) (fun hc174 => ?_) (fun hc174 => ?_)
                ·
                  rw [if_pos hc174] at hm
                  refine t_st rfl (st_move rfl) ?_
                  refine t_yes 120 rfl rfl rfl ?_
                  refine t_st rfl (st_move rfl) ?_
                  refine t_yes 120 rfl rfl rfl ?_
                  refine t_bool rfl (st_eql rfl rfl) (fun hc175 => ?_) (fun hc175 => ?_)
                  ·
                    rw [if_pos hc175] at hm
                    refine t_st rfl (st_pick_t rfl rfl) ?_
                    refine t_st rfl (st_move rfl) ?_
                    refine t_yes 124 rfl rfl rfl ?_
                    refine t_st rfl (st_move rfl) ?_
                    refine t_yes 124 rfl rfl rfl ?_
                    refine t_st rfl (st_move rfl) ?_
                    refine t_yes 124 rfl rfl rfl ?_
                    refine t_st rfl (st_move rfl) ?_
                    refine t_yes 124 rfl rfl rfl ?_
                    obtain ⟨_, h176, hm⟩ := bindS hm
                    have h176 := (chk_some h176).2
                    refine t_st rfl (st_add rfl rfl h176) ?_
                    refine t_yes 124 rfl rfl rfl ?_
                    obtain ⟨_, h177, hm⟩ := bindS hm
                    have h177 := (chk_some h177).2
                    refine t_st rfl (st_add rfl rfl h177) ?_
                    refine t_yes 124 rfl rfl rfl ?_
                    obtain ⟨_, h178, hm⟩ := bindS hm
                    obtain ⟨_, h179, hm⟩ := bindS hm
                    have h179 := (chk_some h179).2
                    refine t_st rfl (st_quo rfl rfl (ne0_some h178) h179) ?_
                    refine t_yes 124 rfl rfl rfl ?_
                    refine t_st rfl (st_move rfl) ?_
                    refine t_yes 124 rfl rfl rfl ?_
                    obtain ⟨_, h180, hm⟩ := bindS hm
                    have h180 := (chk_some h180).2
                    refine t_st rfl (st_add rfl rfl h180) ?_
                    refine t_yes 124 rfl rfl rfl ?_
                    refine t_st rfl (st_eql rfl rfl) ?_
                    refine t_st rfl (st_pick_t rfl rfl) ?_
                    refine t_st rfl (st_assign rfl) ?_
                    refine t_nil ?_
                    obtain rfl := some1 hm
                    exact x_join (e' := [(6, .bool (decide (x149 = ((Int.tdiv ((x2 + (max (x2 - (s1.Brake - 40)) x3)) + 1) 2) + x160))))]) (hp' := R) ⟨rfl, trivial⟩ (.cons _ (.refl _)) ⟨rfl, rfl, (Base.Le.refl _)⟩
                  ·
                    rw [if_neg hc175] at hm
                    refine t_st rfl (st_pick_t rfl rfl) ?_
                    refine t_st rfl (st_move rfl) ?_
                    refine t_no 124 rfl rfl rfl rfl rfl ?_
                    refine t_no 124 rfl rfl rfl rfl rfl ?_
                    refine t_no 124 rfl rfl rfl rfl rfl ?_
                    refine t_no 124 rfl rfl rfl rfl rfl ?_
                    refine t_no 124 rfl rfl rfl rfl rfl ?_
                    refine t_no 124 rfl rfl rfl rfl rfl ?_
                    refine t_no 124 rfl rfl rfl rfl rfl ?_
                    refine t_no 124 rfl rfl rfl rfl rfl ?_
                    refine t_no 124 rfl rfl rfl rfl rfl ?_
                    refine t_st rfl (st_pick_f rfl rfl) ?_
                    refine t_st rfl (st_assign rfl) ?_
                    refine t_nil ?_
                    obtain rfl := some1 hm
                    exact x_join (e' := [(6, .bool (false))]) (hp' := R) ⟨rfl, trivial⟩ (.cons _ (.refl _)) ⟨rfl, rfl, (Base.Le.refl _)⟩
                ·
                  rw [if_neg hc174] at hm
                  refine t_st rfl (st_move rfl) ?_
                  refine t_no 120 rfl rfl rfl rfl rfl ?_
                  refine t_no 120 rfl rfl rfl rfl rfl ?_
                  refine t_st rfl (st_pick_f rfl rfl) ?_
                  refine t_st rfl (st_move rfl) ?_
                  refine t_no 124 rfl rfl rfl rfl rfl ?_
                  refine t_no 124 rfl rfl rfl rfl rfl ?_
                  refine t_no 124 rfl rfl rfl rfl rfl ?_
                  refine t_no 124 rfl rfl rfl rfl rfl ?_
                  refine t_no 124 rfl rfl rfl rfl rfl ?_
                  refine t_no 124 rfl rfl rfl rfl rfl ?_
                  refine t_no 124 rfl rfl rfl rfl rfl ?_
                  refine t_no 124 rfl rfl rfl rfl rfl ?_
                  refine t_no 124 rfl rfl rfl rfl rfl ?_
                  refine t_st rfl (st_pick_f rfl rfl) ?_
                  refine t_st rfl (st_assign rfl) ?_
                  refine t_nil ?_
                  obtain rfl := some1 hm
                  exact x_join (e' := [(6, .bool (false))]) (hp' := R) ⟨rfl, trivial⟩ (.cons _ (.refl _)) ⟨rfl, rfl, (Base.Le.refl _)⟩
              ·
                rintro b170 _ _ ⟨rfl, rfl, hle171⟩
                have hm := hk173
                refine c_ret ?_
                obtain rfl := some1 hm
                exact retM (rs := [.tmp 6]) [.bool (x172)] (hle104.trans (hle136.trans hle171)) (by decide) rfl ⟨rfl, trivial⟩ rfl (hp' := R) (.refl _) ⟨rfl, rfl⟩

set_option maxRecDepth 20000 in
theorem cRunAllowed (b : Base) (R : Hp) (s1 : ApiStock) (x2 : Int) (x3 : Int) (x91 : Int) (x92 : Int) (hm : mRunAllowed s1 x2 x3 = some (x91, x92)) :
    CallsG Tryd.prog 27 [.agg #[.string (s1.Name), .int .i64 (s1.Length), .int .i64 (s1.Mass), .int .i64 (s1.Start), .int .i64 (s1.Power), .int .i64 (s1.Roll), .int .i64 (s1.Drag), .int .i64 (s1.Brake), .int .i64 (s1.Top), .int .i64 (s1.Seats)], .int .i64 (x2), .int .i64 (x3)] b (R) (fun v b' hp' => .tuple #[.int .i64 (x91), .int .i64 (x92)] = v ∧ R = hp') := by
  refine fn_enterG 48 Tryd.func27 rfl Tryd.ntmps27 rfl ?_
  unfold mRunAllowed at hm
  refine c_seq ?_
  refine c_region ?_
  refine t_do rfl (u_box _ rfl rfl) ?_
  rintro _ _ ⟨g93, rfl, rfl⟩
  refine t_st rfl (st_assign rfl) ?_
  refine t_st rfl (st_assign rfl) ?_
  refine t_nil ?_
  refine x_then_normal ?_
  refine c_seq ?_
  refine c_seq ?_
  refine c_region ?_
  refine t_st rfl (st_loadD (vs := [_, _, _, _, _, _, _, _, _, _]) 0 10 rfl agg43 rfl rfl rfl) ?_
  obtain ⟨x94, hcl95, hm⟩ := bindS hm
  refine t_do rfl (u_callW0 _ call22 rfl (fun w ho => cRunCheck _ [] s1 x94 hcl95) (fun _ _ _ h => h.2.symm)) ?_
  rintro _ _ ⟨⟨_, rfl, _⟩, rfl⟩
  refine t_st rfl (st_assign rfl) ?_
  refine t_nil ?_
  refine x_then_normal ?_
  refine c_seq ?_
  refine c_region ?_
  refine t_st rfl (st_move rfl) ?_
  refine t_st rfl (st_neq rfl rfl) ?_
  refine t_nil ?_
  refine x_then_normal ?_
  refine c_cond _ rfl (fun hc96 => ?_) (fun hc96 => ?_)
  ·
    rw [if_pos (of_decide_eq_true hc96)] at hm
    refine c_seq ?_
    refine c_region ?_
    refine t_st rfl (st_move rfl) ?_
    refine t_st rfl (st_assign rfl) ?_
    refine t_st rfl (st_assign rfl) ?_
    refine t_nil ?_
    refine x_then_normal ?_
    refine c_ret ?_
    refine x_then_ret ?_
    obtain ⟨rfl, rfl⟩ := some2 hm
    exact retM (rs := [.tmp 6, .tmp 7]) [.int .i64 (0), .int .i64 (x94)] (Base.Le.refl _) (by decide) rfl ⟨rfl, ⟨rfl, trivial⟩⟩ rfl (hp' := R) (.cons _ (.refl _)) ⟨rfl, rfl⟩
  ·
    rw [if_neg (of_decide_eq_false hc96)] at hm
    refine c_skip ?_
    refine x_then_normal ?_
    refine c_seq ?_
    obtain ⟨x102, hj103, hk103⟩ := bindS hm
    refine c_join (fun b100 e' hp' => [(1, .int .i64 (x2)), (2, .int .i64 (x3)), (3, .pointer (some ⟨g93, 0, none⟩)), (23, .bool (x102))] = e' ∧ (g93, Cl 43 [.string (s1.Name), .int .i64 (s1.Length), .int .i64 (s1.Mass), .int .i64 (s1.Start), .int .i64 (s1.Power), .int .i64 (s1.Roll), .int .i64 (s1.Drag), .int .i64 (s1.Brake), .int .i64 (s1.Top), .int .i64 (s1.Seats)]) :: R = hp' ∧ b.Le b100) ?_ ?_
    ·
      have hm := hj103
      refine c_region ?_
      refine t_st rfl (st_move rfl) ?_
      refine t_bool rfl (st_lss rfl rfl) (fun hc104 => ?_) (fun hc104 => ?_)
      ·
        rw [if_pos hc104] at hm
        refine t_st rfl (st_move rfl) ?_
        refine t_no 19 rfl rfl rfl rfl rfl ?_
        refine t_no 19 rfl rfl rfl rfl rfl ?_
        refine t_no 19 rfl rfl rfl rfl rfl ?_
        refine t_st rfl (st_pick_t rfl rfl) ?_
        refine t_nil ?_
        obtain rfl := some1 hm
        exact x_join (e' := [(1, .int .i64 (x2)), (2, .int .i64 (x3)), (3, .pointer (some ⟨g93, 0, none⟩)), (23, .bool (true))]) (hp' := (g93, Cl 43 [.string (s1.Name), .int .i64 (s1.Length), .int .i64 (s1.Mass), .int .i64 (s1.Start), .int .i64 (s1.Power), .int .i64 (s1.Roll), .int .i64 (s1.Drag), .int .i64 (s1.Brake), .int .i64 (s1.Top), .int .i64 (s1.Seats)]) :: R) ⟨rfl, rfl, rfl, rfl, trivial⟩ (.cons_cons _ (.refl _)) ⟨rfl, rfl, (Base.Le.refl _)⟩
      ·
        rw [if_neg hc104] at hm
        refine t_st rfl (st_move rfl) ?_
        refine t_yes 19 rfl rfl rfl ?_
        refine t_st rfl (st_move rfl) ?_
        refine t_yes 19 rfl rfl rfl ?_
        obtain ⟨x105, hcl106, hm⟩ := bindS hm
        refine t_do rfl (u_callW0 _ call59 rfl (fun w ho => cRunWithin _ [] x3 0 6000 x105 hcl106) (fun _ _ _ h => h.2.symm)) ?_
        rintro _ _ ⟨⟨_, rfl, _⟩, rfl⟩
        refine t_yes 19 rfl rfl rfl ?_
        refine t_st rfl (st_not rfl) ?_
        refine t_st rfl (st_pick_f rfl rfl) ?_
        refine t_nil ?_
        obtain rfl := some1 hm
        exact x_join (e' := [(1, .int .i64 (x2)), (2, .int .i64 (x3)), (3, .pointer (some ⟨g93, 0, none⟩)), (23, .bool (!x105))]) (hp' := (g93, Cl 43 [.string (s1.Name), .int .i64 (s1.Length), .int .i64 (s1.Mass), .int .i64 (s1.Start), .int .i64 (s1.Power), .int .i64 (s1.Roll), .int .i64 (s1.Drag), .int .i64 (s1.Brake), .int .i64 (s1.Top), .int .i64 (s1.Seats)]) :: R) ⟨rfl, rfl, rfl, rfl, trivial⟩ (.cons_cons _ (.refl _)) ⟨rfl, rfl, (Base.Le.refl _)⟩
    ·
      rintro b100 _ _ ⟨rfl, rfl, hle101⟩
      have hm := hk103
      refine c_cond _ rfl (fun hc107 => ?_) (fun hc107 => ?_)
      ·
        rw [if_pos hc107] at hm
        refine c_seq ?_
        refine c_region ?_
        refine t_st rfl (st_assign rfl) ?_
        refine t_st rfl (st_assign rfl) ?_
        refine t_nil ?_
        refine x_then_normal ?_
        refine c_ret ?_
        refine x_then_ret ?_
        obtain ⟨rfl, rfl⟩ := some2 hm
        exact retM (rs := [.tmp 6, .tmp 7]) [.int .i64 (0), .int .i64 (2)] hle101 (by decide) rfl ⟨rfl, ⟨rfl, trivial⟩⟩ rfl (hp' := R) (.cons _ (.refl _)) ⟨rfl, rfl⟩
      ·
        rw [if_neg (fun hh => Bool.noConfusion (hh.symm.trans hc107))] at hm
        refine c_skip ?_
        refine x_then_normal ?_
        refine c_seq ?_
        refine D_drawS ((g93, Cl 43 [.string (s1.Name), .int .i64 (s1.Length), .int .i64 (s1.Mass), .int .i64 (s1.Start), .int .i64 (s1.Power), .int .i64 (s1.Roll), .int .i64 (s1.Drag), .int .i64 (s1.Brake), .int .i64 (s1.Top), .int .i64 (s1.Seats)]) :: R) mixed ?_
        refine D_st (Base.Le.refl _) 0 rfl (by kernel_rfl) (by kernel_rfl) (by kernel_rfl) rfl (st_move rfl) (.cons_cons _ (.refl _)) ?_
        refine D_st (Base.Le.refl _) 1 rfl (by kernel_rfl) (by kernel_rfl) (by kernel_rfl) rfl (st_field rfl fld43_8) (.cons_cons _ (.refl _)) ?_
        refine D_st (Base.Le.refl _) 2 rfl (by kernel_rfl) (by kernel_rfl) (by kernel_rfl) rfl (st_load 0 rfl one3 rfl rfl) (.cons_cons _ (.refl _)) ?_
        refine D_st (Base.Le.refl _) 3 rfl (by kernel_rfl) (by kernel_rfl) (by kernel_rfl) rfl (st_min rfl rfl) (.cons_cons _ (.refl _)) ?_
        refine D_st (Base.Le.refl _) 4 rfl (by kernel_rfl) (by kernel_rfl) (by kernel_rfl) rfl (st_field rfl fld43_8) (.cons_cons _ (.refl _)) ?_
        refine D_st (Base.Le.refl _) 5 rfl (by kernel_rfl) (by kernel_rfl) (by kernel_rfl) rfl (st_load 0 rfl one3 rfl rfl) (.cons_cons _ (.refl _)) ?_
        refine D_st (Base.Le.refl _) 6 rfl (by kernel_rfl) (by kernel_rfl) (by kernel_rfl) rfl (st_assign rfl) (.cons_cons _ (.refl _)) ?_
        refine D_st (Base.Le.refl _) 7 rfl (by kernel_rfl) (by kernel_rfl) (by kernel_rfl) rfl (st_assign rfl) (.cons_cons _ (.refl _)) ?_
        refine D_done (by kernel_rfl) ?_
        refine x_then_normal ?_
        obtain ⟨x144, hj145, hk145⟩ := bindS hm
        refine c_join (fun b142 e' hp' => [(9, .int .i64 (x144))] = e' ∧ R = hp' ∧ b100.Le b142) ?_ ?_
        ·
          have hm := hj145
          refine c_block ?_
          refine c_loopM (unc2 fun x169 x170 => fun b167 e' hp' => [(1, .int .i64 (x2)), (2, .int .i64 (x3)), (3, .pointer (some ⟨g93, 0, none⟩)), (9, .int .i64 (x169)), (10, .int .i64 (x170))] = e' ∧ (g93, Cl 43 [.string (s1.Name), .int .i64 (s1.Length), .int .i64 (s1.Mass), .int .i64 (s1.Start), .int .i64 (s1.Power), .int .i64 (s1.Roll), .int .i64 (s1.Drag), .int .i64 (s1.Brake), .int .i64 (s1.Top), .int .i64 (s1.Seats)]) :: R = hp' ∧ b100.Le b167) hm (e' := [(1, .int .i64 (x2)), (2, .int .i64 (x3)), (3, .pointer (some ⟨g93, 0, none⟩)), (9, .int .i64 (min x3 s1.Top)), (10, .int .i64 (s1.Top))]) (hp' := (g93, Cl 43 [.string (s1.Name), .int .i64 (s1.Length), .int .i64 (s1.Mass), .int .i64 (s1.Start), .int .i64 (s1.Power), .int .i64 (s1.Roll), .int .i64 (s1.Drag), .int .i64 (s1.Brake), .int .i64 (s1.Top), .int .i64 (s1.Seats)]) :: R) ⟨rfl, rfl, rfl, rfl, rfl, trivial⟩ (.cons_cons _ (.refl _)) ⟨rfl, rfl, (Base.Le.refl _)⟩ ?_
          rintro ⟨x169, x170⟩ b167 _ _ oL146 ⟨rfl, rfl, hle168⟩ hstepL146 houtL146
          unfold mRunAllowed_L146 at hstepL146
          have hm := (unc2E hstepL146)
          refine c_seq ?_
          refine c_seq ?_
          refine c_region ?_
          refine t_st rfl (st_move rfl) ?_
          refine t_st rfl (st_move rfl) ?_
          refine t_st rfl (st_lss rfl rfl) ?_
          refine t_nil ?_
          refine x_then_normal ?_
          refine c_cond _ rfl (fun hc171 => ?_) (fun hc171 => ?_)
          ·
            rw [if_pos (of_decide_eq_true hc171)] at hm
            refine c_skip ?_
            refine x_then_normal ?_
            refine c_block ?_
            refine c_seq ?_
            refine c_region ?_
            refine t_st rfl (st_move rfl) ?_
            refine t_st rfl (st_move rfl) ?_
            obtain ⟨_, h172, hm⟩ := bindS hm
            have h172 := (chk_some h172).2
            refine t_st rfl (st_add rfl rfl h172) ?_
            obtain ⟨_, h173, hm⟩ := bindS hm
            have h173 := (chk_some h173).2
            refine t_st rfl (st_add rfl rfl h173) ?_
            obtain ⟨_, h174, hm⟩ := bindS hm
            obtain ⟨_, h175, hm⟩ := bindS hm
            have h175 := (chk_some h175).2
            refine t_st rfl (st_quo rfl rfl (ne0_some h174) h175) ?_
            refine t_st rfl (st_assign rfl) ?_
            refine t_nil ?_
            refine x_then_normal ?_
            refine c_seq ?_
            refine c_region ?_
            refine t_st rfl (st_loadD (vs := [_, _, _, _, _, _, _, _, _, _]) 0 10 rfl agg43 rfl rfl rfl) ?_
            refine t_st rfl (st_move rfl) ?_
            refine t_st rfl (st_move rfl) ?_
            obtain ⟨x176, hcl177, hm⟩ := bindS hm
            refine t_do rfl (u_callW0 _ call60 rfl (fun w ho => cRunInto_2 _ [] s1 (Int.tdiv ((x169 + x170) + 1) 2) x3 x176 hcl177) (fun _ _ _ h => h.2.symm)) ?_
            rintro _ _ ⟨⟨_, rfl, _⟩, rfl⟩
            refine t_st rfl (st_move rfl) ?_
            refine t_st rfl (st_leq rfl rfl) ?_
            refine t_nil ?_
            refine x_then_normal ?_
            refine c_cond _ rfl (fun hc178 => ?_) (fun hc178 => ?_)
            ·
              rw [if_pos (of_decide_eq_true hc178)] at hm
              refine c_region ?_
              refine t_st rfl (st_move rfl) ?_
              refine t_st rfl (st_assign rfl) ?_
              refine t_nil ?_
              refine x_block_normal ?_
              exact x_againM (Int.tdiv ((x169 + x170) + 1) 2, x170) (Option.some.inj hm).symm (e' := [(1, .int .i64 (x2)), (2, .int .i64 (x3)), (3, .pointer (some ⟨g93, 0, none⟩)), (9, .int .i64 (Int.tdiv ((x169 + x170) + 1) 2)), (10, .int .i64 (x170))]) (hp' := (g93, Cl 43 [.string (s1.Name), .int .i64 (s1.Length), .int .i64 (s1.Mass), .int .i64 (s1.Start), .int .i64 (s1.Power), .int .i64 (s1.Roll), .int .i64 (s1.Drag), .int .i64 (s1.Brake), .int .i64 (s1.Top), .int .i64 (s1.Seats)]) :: R) ⟨rfl, rfl, rfl, rfl, rfl, trivial⟩ (.cons_cons _ (.refl _)) ⟨rfl, rfl, (hle168)⟩
            ·
              rw [if_neg (of_decide_eq_false hc178)] at hm
              refine c_region ?_
              refine t_st rfl (st_move rfl) ?_
              obtain ⟨_, h179, hm⟩ := bindS hm
              have h179 := (chk_some h179).2
              refine t_st rfl (st_sub rfl rfl h179) ?_
              refine t_st rfl (st_assign rfl) ?_
              refine t_nil ?_
              refine x_block_normal ?_
              exact x_againM (x169, (Int.tdiv ((x169 + x170) + 1) 2) - 1) (Option.some.inj hm).symm (e' := [(1, .int .i64 (x2)), (2, .int .i64 (x3)), (3, .pointer (some ⟨g93, 0, none⟩)), (9, .int .i64 (x169)), (10, .int .i64 ((Int.tdiv ((x169 + x170) + 1) 2) - 1))]) (hp' := (g93, Cl 43 [.string (s1.Name), .int .i64 (s1.Length), .int .i64 (s1.Mass), .int .i64 (s1.Start), .int .i64 (s1.Power), .int .i64 (s1.Roll), .int .i64 (s1.Drag), .int .i64 (s1.Brake), .int .i64 (s1.Top), .int .i64 (s1.Seats)]) :: R) ⟨rfl, rfl, rfl, rfl, rfl, trivial⟩ (.cons_cons _ (.refl _)) ⟨rfl, rfl, (hle168)⟩
          ·
            rw [if_neg (of_decide_eq_false hc171)] at hm
            refine c_exit ?_
            refine x_then_exit ?_
            refine x_then_exit ?_
            refine x_block_out ?_
            have hm := congrArg some (houtL146 _ (Option.some.inj hm).symm)
            obtain rfl := some1 hm
            exact x_join (e' := [(9, .int .i64 (x169))]) (hp' := R) ⟨rfl, trivial⟩ (.cons _ (.refl _)) ⟨rfl, rfl, hle168⟩
        ·
          rintro b142 _ _ ⟨rfl, rfl, hle143⟩
          have hm := hk145
          refine c_seq ?_
          refine c_region ?_
          refine t_st rfl (st_move rfl) ?_
          refine t_st rfl (st_assign rfl) ?_
          refine t_st rfl (st_assign rfl) ?_
          refine t_nil ?_
          refine x_then_normal ?_
          refine c_ret ?_
          obtain ⟨rfl, rfl⟩ := some2 hm
          exact retM (rs := [.tmp 6, .tmp 7]) [.int .i64 (x144), .int .i64 (0)] (hle101.trans hle143) (by decide) rfl ⟨rfl, ⟨rfl, trivial⟩⟩ rfl (hp' := R) (.refl _) ⟨rfl, rfl⟩

set_option maxRecDepth 20000 in
theorem cFishkeep1RunAllowed (b : Base) (R : Hp) (s1 : ApiStock) (x2 : Int) (x3 : Int) (x37 : Bool) (hm : mFishkeep1RunAllowed s1 x2 x3 = some x37) :
    CallsG Tryd.prog 7 [.agg #[.string (s1.Name), .int .i64 (s1.Length), .int .i64 (s1.Mass), .int .i64 (s1.Start), .int .i64 (s1.Power), .int .i64 (s1.Roll), .int .i64 (s1.Drag), .int .i64 (s1.Brake), .int .i64 (s1.Top), .int .i64 (s1.Seats)], .int .i64 (x2), .int .i64 (x3)] b (R) (fun v b' hp' => .bool (x37) = v ∧ R = hp') := by
  refine fn_enterG 70 Tryd.func7 rfl Tryd.ntmps7 rfl ?_
  unfold mFishkeep1RunAllowed at hm
  refine c_seq ?_
  refine c_region ?_
  refine t_do rfl (u_box _ rfl rfl) ?_
  rintro _ _ ⟨g38, rfl, rfl⟩
  refine t_st rfl (st_assign rfl) ?_
  refine t_nil ?_
  refine x_then_normal ?_
  refine c_seq ?_
  refine c_seq ?_
  refine c_region ?_
  obtain ⟨x39, hcl40, hm⟩ := bindS hm
  refine t_do rfl (u_callW0 _ call21 rfl (fun w ho => cFishkeep1AwakeRun _ [] x39 hcl40) (fun _ _ _ h => h.2.symm)) ?_
  rintro _ _ ⟨⟨_, rfl, _⟩, rfl⟩
  refine t_st rfl (st_not rfl) ?_
  refine t_nil ?_
  refine x_then_normal ?_
  refine c_cond _ rfl (fun hc41 => ?_) (fun hc41 => ?_)
  ·
    rw [if_neg (fun hh => Bool.noConfusion (hh.symm.trans (notT hc41)))] at hm
    refine c_seq ?_
    refine c_region ?_
    refine t_st rfl (st_assign rfl) ?_
    refine t_nil ?_
    refine x_then_normal ?_
    refine c_ret ?_
    refine x_then_ret ?_
    obtain rfl := some1 hm
    exact retM (rs := [.tmp 6]) [.bool (false)] (Base.Le.refl _) (by decide) rfl ⟨rfl, trivial⟩ rfl (hp' := R) (.cons _ (.refl _)) ⟨rfl, rfl⟩
  ·
    rw [if_pos (notF hc41)] at hm
    refine c_skip ?_
    refine x_then_normal ?_
    refine c_seq ?_
    refine c_region ?_
    refine t_st rfl (st_loadD (vs := [_, _, _, _, _, _, _, _, _, _]) 0 10 rfl agg43 rfl rfl rfl) ?_
    refine t_st rfl (st_move rfl) ?_
    refine t_st rfl (st_move rfl) ?_
    obtain ⟨⟨x42, x43⟩, hcl44, hm⟩ := bindS hm
    have hm := (unc2E hm)
    refine t_do rfl (u_callW0 _ call27 rfl (fun w ho => cRunAllowed _ [] s1 x2 x3 x42 x43 hcl44) (fun _ _ _ h => h.2.symm)) ?_
    rintro _ _ ⟨⟨_, rfl, _⟩, rfl⟩
    refine t_st rfl (st_move rfl) ?_
    refine t_st rfl (st_extract rfl rfl) ?_
    refine t_st rfl (st_extract rfl rfl) ?_
    refine t_st rfl (st_assign rfl) ?_
    refine t_st rfl (st_assign rfl) ?_
    refine t_nil ?_
    refine x_then_normal ?_
    refine c_seq ?_
    refine c_seq ?_
    refine c_region ?_
    refine t_st rfl (st_move rfl) ?_
    refine t_st rfl (st_neq rfl rfl) ?_
    refine t_nil ?_
    refine x_then_normal ?_
    refine c_cond _ rfl (fun hc45 => ?_) (fun hc45 => ?_)
    ·
      rw [if_pos (of_decide_eq_true hc45)] at hm
      refine c_seq ?_
      refine c_region ?_
      refine t_st rfl (st_move rfl) ?_
      refine t_st rfl (st_eql rfl rfl) ?_
      refine t_st rfl (st_assign rfl) ?_
      refine t_nil ?_
      refine x_then_normal ?_
      refine c_ret ?_
      refine x_then_ret ?_
      obtain rfl := some1 hm
      exact retM (rs := [.tmp 6]) [.bool (decide (x42 = 0))] (Base.Le.refl _) (by decide) rfl ⟨rfl, trivial⟩ rfl (hp' := R) (.cons _ (.refl _)) ⟨rfl, rfl⟩
    ·
      rw [if_neg (of_decide_eq_false hc45)] at hm
      refine c_skip ?_
      refine x_then_normal ?_
      refine c_seq ?_
      refine c_region ?_
      refine t_st rfl (st_loadD (vs := [_, _, _, _, _, _, _, _, _, _]) 0 10 rfl agg43 rfl rfl rfl) ?_
      refine t_st rfl (st_move rfl) ?_
      refine t_st rfl (st_move rfl) ?_
      obtain ⟨⟨x46, x47⟩, hcl48, hm⟩ := bindS hm
      have hm := (unc2E hm)
      refine t_do rfl (u_callW0 _ call24 rfl (fun w ho => cRunInto _ [] s1 x42 x3 x46 x47 hcl48) (fun _ _ _ h => h.2.symm)) ?_
      rintro _ _ ⟨⟨_, rfl, _⟩, rfl⟩
      refine t_st rfl (st_move rfl) ?_
      refine t_st rfl (st_extract rfl rfl) ?_
      refine t_st rfl (st_extract rfl rfl) ?_
      refine t_st rfl (st_assign rfl) ?_
      refine t_st rfl (st_assign rfl) ?_
      refine t_nil ?_
      refine x_then_normal ?_
      refine c_seq ?_
      obtain ⟨x54, hj55, hk55⟩ := bindS hm
      refine c_join (fun b52 e' hp' => [(1, .int .i64 (x2)), (2, .int .i64 (x3)), (3, .pointer (some ⟨g38, 0, none⟩)), (7, .int .i64 (x42)), (50, .bool (x54))] = e' ∧ (g38, Cl 43 [.string (s1.Name), .int .i64 (s1.Length), .int .i64 (s1.Mass), .int .i64 (s1.Start), .int .i64 (s1.Power), .int .i64 (s1.Roll), .int .i64 (s1.Drag), .int .i64 (s1.Brake), .int .i64 (s1.Top), .int .i64 (s1.Seats)]) :: R = hp' ∧ b.Le b52) ?_ ?_
      ·
        have hm := hj55
        refine c_region ?_
        refine t_st rfl (st_move rfl) ?_
        refine t_bool rfl (st_neq rfl rfl) (fun hc56 => ?_) (fun hc56 => ?_)
        ·
          rw [if_pos hc56] at hm
          refine t_st rfl (st_move rfl) ?_
          refine t_no 32 rfl rfl rfl rfl rfl ?_
          refine t_no 32 rfl rfl rfl rfl rfl ?_
          refine t_no 32 rfl rfl rfl rfl rfl ?_
          refine t_st rfl (st_pick_t rfl rfl) ?_
          refine t_st rfl (st_move rfl) ?_
          refine t_no 37 rfl rfl rfl rfl rfl ?_
          refine t_no 37 rfl rfl rfl rfl rfl ?_
          refine t_no 37 rfl rfl rfl rfl rfl ?_
          refine t_no 37 rfl rfl rfl rfl rfl ?_
          refine t_st rfl (st_pick_t rfl rfl) ?_
          refine t_st rfl (st_move rfl) ?_
          refine t_no 43 rfl rfl rfl rfl rfl ?_
          refine t_no 43 rfl rfl rfl rfl rfl ?_
          refine t_no 43 rfl rfl rfl rfl rfl ?_
          refine t_no 43 rfl rfl rfl rfl rfl ?_
          refine t_no 43 rfl rfl rfl rfl rfl ?_
          refine t_no 43 rfl rfl rfl rfl rfl ?_
          refine t_st rfl (st_pick_t rfl rfl) ?_
          refine t_nil ?_
          obtain rfl := some1 hm
          exact x_join (e' := [(1, .int .i64 (x2)), (2, .int .i64 (x3)), (3, .pointer (some ⟨g38, 0, none⟩)), (7, .int .i64 (x42)), (50, .bool (true))]) (hp' := (g38, Cl 43 [.string (s1.Name), .int .i64 (s1.Length), .int .i64 (s1.Mass), .int .i64 (s1.Start), .int .i64 (s1.Power), .int .i64 (s1.Roll), .int .i64 (s1.Drag), .int .i64 (s1.Brake), .int .i64 (s1.Top), .int .i64 (s1.Seats)]) :: R) ⟨rfl, rfl, rfl, rfl, rfl, trivial⟩ (.cons_cons _ (.refl _)) ⟨rfl, rfl, (Base.Le.refl _)⟩
        ·
          rw [if_neg hc56] at hm
          refine t_st rfl (st_move rfl) ?_
          refine t_yes 32 rfl rfl rfl ?_
          refine t_st rfl (st_move rfl) ?_
          refine t_yes 32 rfl rfl rfl ?_
          refine t_st rfl (st_move rfl) ?_
          refine t_yes 32 rfl rfl rfl ?_
          refine t_bool rfl (st_gtr rfl rfl) (fun hc57 => ?_) (fun hc57 => ?_)
          ·
            rw [if_pos hc57] at hm
            refine t_st rfl (st_pick_f rfl rfl) ?_
            refine t_st rfl (st_move rfl) ?_
            refine t_no 37 rfl rfl rfl rfl rfl ?_
            refine t_no 37 rfl rfl rfl rfl rfl ?_
            refine t_no 37 rfl rfl rfl rfl rfl ?_
            refine t_no 37 rfl rfl rfl rfl rfl ?_
            refine t_st rfl (st_pick_t rfl rfl) ?_
            refine t_st rfl (st_move rfl) ?_
            refine t_no 43 rfl rfl rfl rfl rfl ?_
            refine t_no 43 rfl rfl rfl rfl rfl ?_
            refine t_no 43 rfl rfl rfl rfl rfl ?_
            refine t_no 43 rfl rfl rfl rfl rfl ?_
            refine t_no 43 rfl rfl rfl rfl rfl ?_
            refine t_no 43 rfl rfl rfl rfl rfl ?_
            refine t_st rfl (st_pick_t rfl rfl) ?_
            refine t_nil ?_
            obtain rfl := some1 hm
            exact x_join (e' := [(1, .int .i64 (x2)), (2, .int .i64 (x3)), (3, .pointer (some ⟨g38, 0, none⟩)), (7, .int .i64 (x42)), (50, .bool (true))]) (hp' := (g38, Cl 43 [.string (s1.Name), .int .i64 (s1.Length), .int .i64 (s1.Mass), .int .i64 (s1.Start), .int .i64 (s1.Power), .int .i64 (s1.Roll), .int .i64 (s1.Drag), .int .i64 (s1.Brake), .int .i64 (s1.Top), .int .i64 (s1.Seats)]) :: R) ⟨rfl, rfl, rfl, rfl, rfl, trivial⟩ (.cons_cons _ (.refl _)) ⟨rfl, rfl, (Base.Le.refl _)⟩
          ·
            rw [if_neg hc57] at hm
            refine t_st rfl (st_pick_f rfl rfl) ?_
            refine t_st rfl (st_move rfl) ?_
            refine t_yes 37 rfl rfl rfl ?_
            refine t_st rfl (st_move rfl) ?_
            refine t_yes 37 rfl rfl rfl ?_
            refine t_st rfl (st_field rfl fld43_8) ?_
            refine t_yes 37 rfl rfl rfl ?_
            refine t_st rfl (st_load 0 rfl one3 rfl rfl) ?_
            refine t_yes 37 rfl rfl rfl ?_
            refine t_bool rfl (st_gtr rfl rfl) (fun hc58 => ?_) (fun hc58 => ?_)
            ·
              rw [if_pos hc58] at hm
              refine t_st rfl (st_pick_f rfl rfl) ?_
              refine t_st rfl (st_move rfl) ?_
              refine t_no 43 rfl rfl rfl rfl rfl ?_
              refine t_no 43 rfl rfl rfl rfl rfl ?_
              refine t_no 43 rfl rfl rfl rfl rfl ?_
              refine t_no 43 rfl rfl rfl rfl rfl ?_
              refine t_no 43 rfl rfl rfl rfl rfl ?_
              refine t_no 43 rfl rfl rfl rfl rfl ?_
              refine t_st rfl (st_pick_t rfl rfl) ?_
              refine t_nil ?_
              obtain rfl := some1 hm
              exact x_join (e' := [(1, .int .i64 (x2)), (2, .int .i64 (x3)), (3, .pointer (some ⟨g38, 0, none⟩)), (7, .int .i64 (x42)), (50, .bool (true))]) (hp' := (g38, Cl 43 [.string (s1.Name), .int .i64 (s1.Length), .int .i64 (s1.Mass), .int .i64 (s1.Start), .int .i64 (s1.Power), .int .i64 (s1.Roll), .int .i64 (s1.Drag), .int .i64 (s1.Brake), .int .i64 (s1.Top), .int .i64 (s1.Seats)]) :: R) ⟨rfl, rfl, rfl, rfl, rfl, trivial⟩ (.cons_cons _ (.refl _)) ⟨rfl, rfl, (Base.Le.refl _)⟩
            ·
              rw [if_neg hc58] at hm
              refine t_st rfl (st_pick_f rfl rfl) ?_
              refine t_st rfl (st_move rfl) ?_
              refine t_yes 43 rfl rfl rfl ?_
              refine t_st rfl (st_move rfl) ?_
              refine t_yes 43 rfl rfl rfl ?_
              refine t_st rfl (st_move rfl) ?_
              refine t_yes 43 rfl rfl rfl ?_
              refine t_st rfl (st_field rfl fld43_8) ?_
              refine t_yes 43 rfl rfl rfl ?_
              refine t_st rfl (st_load 0 rfl one3 rfl rfl) ?_
              refine t_yes 43 rfl rfl rfl ?_
              refine t_st rfl (st_min rfl rfl) ?_
              refine t_yes 43 rfl rfl rfl ?_
              refine t_st rfl (st_lss rfl rfl) ?_
              refine t_st rfl (st_pick_f rfl rfl) ?_
              refine t_nil ?_
              obtain rfl := some1 hm
              exact x_join (e' := [(1, .int .i64 (x2)), (2, .int .i64 (x3)), (3, .pointer (some ⟨g38, 0, none⟩)), (7, .int .i64 (x42)), (50, .bool (decide (x42 < (min x3 s1.Top))))]) (hp' := (g38, Cl 43 [.string (s1.Name), .int .i64 (s1.Length), .int .i64 (s1.Mass), .int .i64 (s1.Start), .int .i64 (s1.Power), .int .i64 (s1.Roll), .int .i64 (s1.Drag), .int .i64 (s1.Brake), .int .i64 (s1.Top), .int .i64 (s1.Seats)]) :: R) ⟨rfl, rfl, rfl, rfl, rfl, trivial⟩ (.cons_cons _ (.refl _)) ⟨rfl, rfl, (Base.Le.refl _)⟩
      ·
        rintro b52 _ _ ⟨rfl, rfl, hle53⟩
        have hm := hk55
        refine c_cond _ rfl (fun hc59 => ?_) (fun hc59 => ?_)
        ·
          rw [if_pos hc59] at hm
          refine c_seq ?_
          refine c_region ?_
          refine t_st rfl (st_assign rfl) ?_
          refine t_nil ?_
          refine x_then_normal ?_
          refine c_ret ?_
          refine x_then_ret ?_
          obtain rfl := some1 hm
          exact retM (rs := [.tmp 6]) [.bool (false)] hle53 (by decide) rfl ⟨rfl, trivial⟩ rfl (hp' := R) (.cons _ (.refl _)) ⟨rfl, rfl⟩
        ·
          rw [if_neg (fun hh => Bool.noConfusion (hh.symm.trans hc59))] at hm
          refine c_skip ?_
          refine x_then_normal ?_
          refine c_seq ?_
          refine c_seq ?_
          refine c_region ?_
          refine t_st rfl (st_move rfl) ?_
          refine t_st rfl (st_field rfl fld43_8) ?_
          refine t_st rfl (st_load 0 rfl one3 rfl rfl) ?_
          refine t_st rfl (st_eql rfl rfl) ?_
          refine t_nil ?_
          refine x_then_normal ?_
          refine c_cond _ rfl (fun hc60 => ?_) (fun hc60 => ?_)
          ·
            rw [if_pos (of_decide_eq_true hc60)] at hm
            refine c_seq ?_
            refine c_region ?_
            refine t_st rfl (st_assign rfl) ?_
            refine t_nil ?_
            refine x_then_normal ?_
            refine c_ret ?_
            refine x_then_ret ?_
            obtain rfl := some1 hm
            exact retM (rs := [.tmp 6]) [.bool (true)] hle53 (by decide) rfl ⟨rfl, trivial⟩ rfl (hp' := R) (.cons _ (.refl _)) ⟨rfl, rfl⟩
          ·
            rw [if_neg (of_decide_eq_false hc60)] at hm
            refine c_skip ?_
            refine x_then_normal ?_
            refine c_seq ?_
            refine c_region ?_
            refine t_st rfl (st_loadD (vs := [_, _, _, _, _, _, _, _, _, _]) 0 10 rfl agg43 rfl rfl rfl) ?_
            refine t_st rfl (st_move rfl) ?_
            obtain ⟨_, h61, hm⟩ := bindS hm
            have h61 := (chk_some h61).2
            refine t_st rfl (st_add rfl rfl h61) ?_
            refine t_st rfl (st_move rfl) ?_
            obtain ⟨⟨x62, x63⟩, hcl64, hm⟩ := bindS hm
            have hm := (unc2E hm)
            refine t_do rfl (u_callW0 _ call24 rfl (fun w ho => cRunInto _ [] s1 (x42 + 1) x3 x62 x63 hcl64) (fun _ _ _ h => h.2.symm)) ?_
            rintro _ _ ⟨⟨_, rfl, _⟩, rfl⟩
            refine t_st rfl (st_move rfl) ?_
            refine t_st rfl (st_extract rfl rfl) ?_
            refine t_st rfl (st_extract rfl rfl) ?_
            refine t_st rfl (st_assign rfl) ?_
            refine t_st rfl (st_assign rfl) ?_
            refine t_nil ?_
            refine x_then_normal ?_
            obtain ⟨x68, hj69, hk69⟩ := bindS hm
            refine c_join (fun b66 e' hp' => [(6, .bool (x68))] = e' ∧ R = hp' ∧ b52.Le b66) ?_ ?_
            ·
              have hm := hj69
              refine c_region ?_
              refine t_st rfl (st_move rfl) ?_
              refine t_bool rfl (st_eql rfl rfl) (fun hc70 => ?_) (fun hc70 => ?_)
              ·
                rw [if_pos hc70] at hm
                refine t_st rfl (st_move rfl) ?_
                refine t_yes 65 rfl rfl rfl ?_
                refine t_st rfl (st_move rfl) ?_
                refine t_yes 65 rfl rfl rfl ?_
                refine t_st rfl (st_move rfl) ?_
                refine t_yes 65 rfl rfl rfl ?_
                refine t_st rfl (st_gtr rfl rfl) ?_
                refine t_st rfl (st_pick_t rfl rfl) ?_
                refine t_st rfl (st_assign rfl) ?_
                refine t_nil ?_
                obtain rfl := some1 hm
                exact x_join (e' := [(6, .bool (decide (x2 < x62)))]) (hp' := R) ⟨rfl, trivial⟩ (.cons _ (.refl _)) ⟨rfl, rfl, (Base.Le.refl _)⟩
              ·
                rw [if_neg hc70] at hm
                refine t_st rfl (st_move rfl) ?_
                refine t_no 65 rfl rfl rfl rfl rfl ?_
                refine t_no 65 rfl rfl rfl rfl rfl ?_
                refine t_no 65 rfl rfl rfl rfl rfl ?_
                refine t_st rfl (st_pick_f rfl rfl) ?_
                refine t_st rfl (st_assign rfl) ?_
                refine t_nil ?_
                obtain rfl := some1 hm
                exact x_join (e' := [(6, .bool (false))]) (hp' := R) ⟨rfl, trivial⟩ (.cons _ (.refl _)) ⟨rfl, rfl, (Base.Le.refl _)⟩
            ·
              rintro b66 _ _ ⟨rfl, rfl, hle67⟩
              have hm := hk69
              refine c_ret ?_
              obtain rfl := some1 hm
              exact retM (rs := [.tmp 6]) [.bool (x68)] (hle53.trans hle67) (by decide) rfl ⟨rfl, trivial⟩ rfl (hp' := R) (.refl _) ⟨rfl, rfl⟩

set_option maxRecDepth 20000 in
theorem cLineMeets_1 (b : Base) (R : Hp) (s1 : ApiNeed) (x9 : Bool) (hm : mLineMeets_1 s1 = some x9) :
    CallsG Tryd.prog 85 [.agg #[.int .i64 (s1.Kind), .int .i64 (s1.Place), .int .i64 (s1.Position), .int .i64 (s1.At)]] b (R) (fun v b' hp' => .bool (x9) = v ∧ R = hp') := by
  refine fn_enterG 11 Tryd.func85 rfl Tryd.ntmps85 rfl ?_
  unfold mLineMeets_1 at hm
  refine c_seq ?_
  refine c_region ?_
  refine t_do rfl (u_box _ rfl rfl) ?_
  rintro _ _ ⟨g10, rfl, rfl⟩
  refine t_st rfl (st_assign rfl) ?_
  refine t_nil ?_
  refine x_then_normal ?_
  obtain ⟨x14, hj15, hk15⟩ := bindS hm
  refine c_join (fun b12 e' hp' => [(2, .bool (x14))] = e' ∧ R = hp' ∧ b.Le b12) ?_ ?_
  ·
    have hm := hj15
    refine c_region ?_
    refine t_st rfl (st_field rfl fld52_0) ?_
    refine t_st rfl (st_load 0 rfl one3 rfl rfl) ?_
    refine t_bool rfl (st_eql rfl rfl) (fun hc16 => ?_) (fun hc16 => ?_)
    ·
      rw [if_pos hc16] at hm
      refine t_st rfl (st_move rfl) ?_
      refine t_no 6 rfl rfl rfl rfl rfl ?_
      refine t_no 6 rfl rfl rfl rfl rfl ?_
      refine t_no 6 rfl rfl rfl rfl rfl ?_
      refine t_st rfl (st_pick_t rfl rfl) ?_
      refine t_st rfl (st_assign rfl) ?_
      refine t_nil ?_
      obtain rfl := some1 hm
      exact x_join (e' := [(2, .bool (true))]) (hp' := R) ⟨rfl, trivial⟩ (.cons _ (.refl _)) ⟨rfl, rfl, (Base.Le.refl _)⟩
    ·
      rw [if_neg hc16] at hm
      refine t_st rfl (st_move rfl) ?_
      refine t_yes 6 rfl rfl rfl ?_
      refine t_st rfl (st_field rfl fld52_0) ?_
      refine t_yes 6 rfl rfl rfl ?_
      refine t_st rfl (st_load 0 rfl one3 rfl rfl) ?_
      refine t_yes 6 rfl rfl rfl ?_
      refine t_st rfl (st_eql rfl rfl) ?_
      refine t_st rfl (st_pick_f rfl rfl) ?_
      refine t_st rfl (st_assign rfl) ?_
      refine t_nil ?_
      obtain rfl := some1 hm
      exact x_join (e' := [(2, .bool (decide (s1.Kind = 2)))]) (hp' := R) ⟨rfl, trivial⟩ (.cons _ (.refl _)) ⟨rfl, rfl, (Base.Le.refl _)⟩
  ·
    rintro b12 _ _ ⟨rfl, rfl, hle13⟩
    have hm := hk15
    refine c_ret ?_
    obtain rfl := some1 hm
    exact retM (rs := [.tmp 2]) [.bool (x14)] hle13 (by decide) rfl ⟨rfl, trivial⟩ rfl (hp' := R) (.refl _) ⟨rfl, rfl⟩

set_option maxRecDepth 20000 in
theorem cLineMeets_2 (b : Base) (R : Hp) (s2 : ApiNeed) (s3 : ApiNeed) (g1 : Nat) (x20 : Bool) (hm : mLineMeets_2 s2 s3 = some x20) :
    CallsG Tryd.prog 86 [.agg #[.int .i64 (s2.Kind), .int .i64 (s2.Place), .int .i64 (s2.Position), .int .i64 (s2.At)], .agg #[.int .i64 (s3.Kind), .int .i64 (s3.Place), .int .i64 (s3.Position), .int .i64 (s3.At)], .pointer (some ⟨g1, 0, none⟩)] b ((g1, Cl 161 [.func (.func 85) #[] #[]]) :: R) (fun v b' hp' => .bool (x20) = v ∧ (g1, Cl 161 [.func (.func 85) #[] #[]]) :: R = hp') := by
  refine fn_enterG 26 Tryd.func86 rfl Tryd.ntmps86 rfl ?_
  unfold mLineMeets_2 at hm
  refine c_seq ?_
  refine c_region ?_
  refine t_do rfl (u_box _ rfl rfl) ?_
  rintro _ _ ⟨g21, rfl, rfl⟩
  refine t_do rfl (u_box _ rfl rfl) ?_
  rintro _ _ ⟨g22, rfl, rfl⟩
  refine t_st rfl (st_assign rfl) ?_
  refine t_nil ?_
  refine x_then_normal ?_
  obtain ⟨x30, hj31, hk31⟩ := bindS hm
  refine c_join (fun b28 e' hp' => [(5, .bool (x30))] = e' ∧ (g1, Cl 161 [.func (.func 85) #[] #[]]) :: R = hp' ∧ b.Le b28) ?_ ?_
  ·
    have hm := hj31
    refine c_region ?_
    refine t_st rfl (st_field rfl fld52_0) ?_
    refine t_st rfl (st_load 1 rfl one3 rfl rfl) ?_
    refine t_bool rfl (st_eql rfl rfl) (fun hc32 => ?_) (fun hc32 => ?_)
    ·
      rw [if_pos hc32] at hm
      refine t_st rfl (st_move rfl) ?_
      refine t_yes 9 rfl rfl rfl ?_
      refine t_st rfl (st_field rfl fld52_0) ?_
      refine t_yes 9 rfl rfl rfl ?_
      refine t_st rfl (st_load 0 rfl one3 rfl rfl) ?_
      refine t_yes 9 rfl rfl rfl ?_
      refine t_bool rfl (st_eql rfl rfl) (fun hc33 => ?_) (fun hc33 => ?_)
      ·
        rw [if_pos hc33] at hm
        refine t_yes 9 rfl rfl rfl ?_
        refine t_st rfl (st_move rfl) ?_
        refine t_no 13 rfl rfl rfl rfl rfl ?_
        refine t_no 13 rfl rfl rfl rfl rfl ?_
        refine t_no 13 rfl rfl rfl rfl rfl ?_
        refine t_yes 9 rfl rfl rfl ?_
        refine t_st rfl (st_pick_t rfl rfl) ?_
        refine t_st rfl (st_pick_t rfl rfl) ?_
        refine t_st rfl (st_move rfl) ?_
        refine t_yes 19 rfl rfl rfl ?_
        refine t_st rfl (st_field rfl fld52_2) ?_
        refine t_yes 19 rfl rfl rfl ?_
        refine t_st rfl (st_load 1 rfl one3 rfl rfl) ?_
        refine t_yes 19 rfl rfl rfl ?_
        refine t_st rfl (st_field rfl fld52_2) ?_
        refine t_yes 19 rfl rfl rfl ?_
        refine t_st rfl (st_load 0 rfl one3 rfl rfl) ?_
        refine t_yes 19 rfl rfl rfl ?_
        refine t_st rfl (st_neq rfl rfl) ?_
        refine t_st rfl (st_pick_t rfl rfl) ?_
        refine t_st rfl (st_assign rfl) ?_
        refine t_nil ?_
        obtain rfl := some1 hm
        refine x_pullb 2 rfl ?_
        exact x_join (e' := [(5, .bool (decide (s2.Position ≠ s3.Position)))]) (hp' := (g1, Cl 161 [.func (.func 85) #[] #[]]) :: R) ⟨rfl, trivial⟩ (.cons_cons _ (.cons _ (.cons _ (.refl _)))) ⟨rfl, rfl, (Base.Le.refl _)⟩
      ·
        rw [if_neg hc33] at hm
        refine t_yes 9 rfl rfl rfl ?_
        refine t_st rfl (st_move rfl) ?_
        refine t_yes 13 rfl rfl rfl ?_
        refine t_st rfl (st_load 2 rfl one161 rfl rfl) ?_
        refine t_yes 13 rfl rfl rfl ?_
        refine t_st rfl (st_loadD (vs := [_, _, _, _]) 0 4 rfl agg52 rfl rfl rfl) ?_
        refine t_yes 13 rfl rfl rfl ?_
        obtain ⟨x34, hcl35, hm⟩ := bindS hm
        refine t_do rfl (u_callvW0 #[] #[] [.agg #[.int .i64 (s3.Kind), .int .i64 (s3.Place), .int .i64 (s3.Position), .int .i64 (s3.At)]] rfl call85 rfl (fun w ho => cLineMeets_1 _ [] s3 x34 hcl35) (fun _ _ _ h => h.2.symm)) ?_
        rintro _ _ ⟨⟨_, rfl, _⟩, rfl⟩
        rcases Bool.eq_false_or_eq_true x34 with hc36 | hc36
        ·
          rw [if_pos hc36] at hm
          refine t_resp 16 rfl (v' := .bool true) (by rw [hc36]) ?_
          refine t_yes 9 rfl rfl rfl ?_
          refine t_st rfl (st_pick_f rfl rfl) ?_
          refine t_st rfl (st_pick_t rfl rfl) ?_
          refine t_st rfl (st_move rfl) ?_
          refine t_yes 19 rfl rfl rfl ?_
          refine t_st rfl (st_field rfl fld52_2) ?_
          refine t_yes 19 rfl rfl rfl ?_
          refine t_st rfl (st_load 1 rfl one3 rfl rfl) ?_
          refine t_yes 19 rfl rfl rfl ?_
          refine t_st rfl (st_field rfl fld52_2) ?_
          refine t_yes 19 rfl rfl rfl ?_
          refine t_st rfl (st_load 0 rfl one3 rfl rfl) ?_
          refine t_yes 19 rfl rfl rfl ?_
          refine t_st rfl (st_neq rfl rfl) ?_
          refine t_st rfl (st_pick_t rfl rfl) ?_
          refine t_st rfl (st_assign rfl) ?_
          refine t_nil ?_
          obtain rfl := some1 hm
          refine x_pullb 2 rfl ?_
          exact x_join (e' := [(5, .bool (decide (s2.Position ≠ s3.Position)))]) (hp' := (g1, Cl 161 [.func (.func 85) #[] #[]]) :: R) ⟨rfl, trivial⟩ (.cons_cons _ (.cons _ (.cons _ (.refl _)))) ⟨rfl, rfl, (Base.Le.refl _)⟩
        ·
          rw [if_neg (fun hh => Bool.noConfusion (hh.symm.trans hc36))] at hm
          refine t_resp 16 rfl (v' := .bool false) (by rw [hc36]) ?_
          refine t_yes 9 rfl rfl rfl ?_
          refine t_st rfl (st_pick_f rfl rfl) ?_
          refine t_st rfl (st_pick_t rfl rfl) ?_
          refine t_st rfl (st_move rfl) ?_
          refine t_no 19 rfl rfl rfl rfl rfl ?_
          refine t_no 19 rfl rfl rfl rfl rfl ?_
          refine t_no 19 rfl rfl rfl rfl rfl ?_
          refine t_no 19 rfl rfl rfl rfl rfl ?_
          refine t_no 19 rfl rfl rfl rfl rfl ?_
          refine t_st rfl (st_pick_f rfl rfl) ?_
          refine t_st rfl (st_assign rfl) ?_
          refine t_nil ?_
          obtain rfl := some1 hm
          refine x_pullb 2 rfl ?_
          exact x_join (e' := [(5, .bool (false))]) (hp' := (g1, Cl 161 [.func (.func 85) #[] #[]]) :: R) ⟨rfl, trivial⟩ (.cons_cons _ (.cons _ (.cons _ (.refl _)))) ⟨rfl, rfl, (Base.Le.refl _)⟩
    ·
      rw [if_neg hc32] at hm
      refine t_st rfl (st_move rfl) ?_
      refine t_no 9 rfl rfl rfl rfl rfl ?_
      refine t_no 9 rfl rfl rfl rfl rfl ?_
      refine t_no 9 rfl rfl rfl rfl rfl ?_
      refine t_no 9 rfl rfl rfl rfl rfl ?_
      refine t_no 13 rfl rfl rfl rfl rfl ?_
      refine t_no 13 rfl rfl rfl rfl rfl ?_
      refine t_no 13 rfl rfl rfl rfl rfl ?_
      refine t_no 9 rfl rfl rfl rfl rfl ?_
      refine t_st rfl (st_pick_f rfl rfl) ?_
      refine t_st rfl (st_move rfl) ?_
      refine t_no 19 rfl rfl rfl rfl rfl ?_
      refine t_no 19 rfl rfl rfl rfl rfl ?_
      refine t_no 19 rfl rfl rfl rfl rfl ?_
      refine t_no 19 rfl rfl rfl rfl rfl ?_
      refine t_no 19 rfl rfl rfl rfl rfl ?_
      refine t_st rfl (st_pick_f rfl rfl) ?_
      refine t_st rfl (st_assign rfl) ?_
      refine t_nil ?_
      obtain rfl := some1 hm
      refine x_pullb 2 rfl ?_
      exact x_join (e' := [(5, .bool (false))]) (hp' := (g1, Cl 161 [.func (.func 85) #[] #[]]) :: R) ⟨rfl, trivial⟩ (.cons_cons _ (.cons _ (.cons _ (.refl _)))) ⟨rfl, rfl, (Base.Le.refl _)⟩
  ·
    rintro b28 _ _ ⟨rfl, rfl, hle29⟩
    have hm := hk31
    refine c_ret ?_
    obtain rfl := some1 hm
    exact retM (rs := [.tmp 5]) [.bool (x30)] hle29 (by decide) rfl ⟨rfl, trivial⟩ rfl (hp' := (g1, Cl 161 [.func (.func 85) #[] #[]]) :: R) (.cons_cons _ (.refl _)) ⟨rfl, rfl⟩

set_option maxRecDepth 20000 in
theorem cLineMeets_3 (b : Base) (R : Hp) (s1 : ApiNeed) (s2 : ApiNeed) (x11 : Bool) (hm : mLineMeets_3 s1 s2 = some x11) :
    CallsG Tryd.prog 87 [.agg #[.int .i64 (s1.Kind), .int .i64 (s1.Place), .int .i64 (s1.Position), .int .i64 (s1.At)], .agg #[.int .i64 (s2.Kind), .int .i64 (s2.Place), .int .i64 (s2.Position), .int .i64 (s2.At)]] b (R) (fun v b' hp' => .bool (x11) = v ∧ R = hp') := by
  refine fn_enterG 13 Tryd.func87 rfl Tryd.ntmps87 rfl ?_
  unfold mLineMeets_3 at hm
  refine c_seq ?_
  refine c_region ?_
  refine t_do rfl (u_box _ rfl rfl) ?_
  rintro _ _ ⟨g12, rfl, rfl⟩
  refine t_do rfl (u_box _ rfl rfl) ?_
  rintro _ _ ⟨g13, rfl, rfl⟩
  refine t_st rfl (st_assign rfl) ?_
  refine t_nil ?_
  refine x_then_normal ?_
  obtain ⟨x17, hj18, hk18⟩ := bindS hm
  refine c_join (fun b15 e' hp' => [(4, .bool (x17))] = e' ∧ R = hp' ∧ b.Le b15) ?_ ?_
  ·
    have hm := hj18
    refine c_region ?_
    refine t_st rfl (st_field rfl fld52_0) ?_
    refine t_st rfl (st_load 1 rfl one3 rfl rfl) ?_
    refine t_bool rfl (st_eql rfl rfl) (fun hc19 => ?_) (fun hc19 => ?_)
    ·
      rw [if_pos hc19] at hm
      refine t_st rfl (st_move rfl) ?_
      refine t_yes 8 rfl rfl rfl ?_
      refine t_st rfl (st_field rfl fld52_0) ?_
      refine t_yes 8 rfl rfl rfl ?_
      refine t_st rfl (st_load 0 rfl one3 rfl rfl) ?_
      refine t_yes 8 rfl rfl rfl ?_
      refine t_st rfl (st_eql rfl rfl) ?_
      refine t_st rfl (st_pick_t rfl rfl) ?_
      refine t_st rfl (st_assign rfl) ?_
      refine t_nil ?_
      obtain rfl := some1 hm
      exact x_join (e' := [(4, .bool (decide (s2.Kind = 5)))]) (hp' := R) ⟨rfl, trivial⟩ (.cons _ (.cons _ (.refl _))) ⟨rfl, rfl, (Base.Le.refl _)⟩
    ·
      rw [if_neg hc19] at hm
      refine t_st rfl (st_move rfl) ?_
      refine t_no 8 rfl rfl rfl rfl rfl ?_
      refine t_no 8 rfl rfl rfl rfl rfl ?_
      refine t_no 8 rfl rfl rfl rfl rfl ?_
      refine t_st rfl (st_pick_f rfl rfl) ?_
      refine t_st rfl (st_assign rfl) ?_
      refine t_nil ?_
      obtain rfl := some1 hm
      exact x_join (e' := [(4, .bool (false))]) (hp' := R) ⟨rfl, trivial⟩ (.cons _ (.cons _ (.refl _))) ⟨rfl, rfl, (Base.Le.refl _)⟩
  ·
    rintro b15 _ _ ⟨rfl, rfl, hle16⟩
    have hm := hk18
    refine c_ret ?_
    obtain rfl := some1 hm
    exact retM (rs := [.tmp 4]) [.bool (x17)] hle16 (by decide) rfl ⟨rfl, trivial⟩ rfl (hp' := R) (.refl _) ⟨rfl, rfl⟩

set_option maxRecDepth 20000 in
theorem cLineMeets (b : Base) (R : Hp) (s1 : ApiNeed) (s2 : ApiNeed) (x83 : Bool) (hm : mLineMeets s1 s2 = some x83) :
    CallsG Tryd.prog 61 [.agg #[.int .i64 (s1.Kind), .int .i64 (s1.Place), .int .i64 (s1.Position), .int .i64 (s1.At)], .agg #[.int .i64 (s2.Kind), .int .i64 (s2.Place), .int .i64 (s2.Position), .int .i64 (s2.At)]] b (R) (fun v b' hp' => .bool (x83) = v ∧ R = hp') := by
  refine fn_enterG 46 Tryd.func61 rfl Tryd.ntmps61 rfl ?_
  unfold mLineMeets at hm
  refine c_seq ?_
  refine c_region ?_
  refine t_do rfl (u_box _ rfl rfl) ?_
  rintro _ _ ⟨g84, rfl, rfl⟩
  refine t_do rfl (u_box _ rfl rfl) ?_
  rintro _ _ ⟨g85, rfl, rfl⟩
  refine t_st rfl (st_assign rfl) ?_
  refine t_nil ?_
  refine x_then_normal ?_
  refine c_seq ?_
  refine c_seq ?_
  refine c_region ?_
  refine t_st rfl (st_field rfl fld52_1) ?_
  refine t_st rfl (st_load 1 rfl one3 rfl rfl) ?_
  refine t_st rfl (st_field rfl fld52_1) ?_
  refine t_st rfl (st_load 0 rfl one3 rfl rfl) ?_
  refine t_st rfl (st_neq rfl rfl) ?_
  refine t_nil ?_
  refine x_then_normal ?_
  refine c_cond _ rfl (fun hc86 => ?_) (fun hc86 => ?_)
  ·
    rw [if_pos (of_decide_eq_true hc86)] at hm
    refine c_seq ?_
    refine c_region ?_
    refine t_st rfl (st_assign rfl) ?_
    refine t_nil ?_
    refine x_then_normal ?_
    refine c_ret ?_
    refine x_then_ret ?_
    obtain rfl := some1 hm
    exact retM (rs := [.tmp 4]) [.bool (false)] (Base.Le.refl _) (by decide) rfl ⟨rfl, trivial⟩ rfl (hp' := R) (.cons _ (.cons _ (.refl _))) ⟨rfl, rfl⟩
  ·
    rw [if_neg (of_decide_eq_false hc86)] at hm
    refine c_skip ?_
    refine x_then_normal ?_
    refine c_seq ?_
    refine c_region ?_
    refine t_do rfl (u_alloc [.nilFunc] zero161 rfl) ?_
    rintro _ _ ⟨g87, rfl, rfl⟩
    refine t_do rfl (u_store 0 rfl rfl siz161 rfl rfl (by simp)) ?_
    rintro _ _ rfl
    refine t_nil ?_
    refine x_then_normal ?_
    refine c_seq ?_
    refine c_region ?_
    refine t_st rfl (st_func _ _ rfl rfl) ?_
    refine t_st rfl (st_assign rfl) ?_
    refine t_nil ?_
    refine x_then_normal ?_
    refine c_seq ?_
    refine c_region ?_
    refine t_st rfl (st_assign rfl) ?_
    refine t_nil ?_
    refine x_then_normal ?_
    obtain ⟨x126, hj127, hk127⟩ := bindS hm
    refine c_join (fun b124 e' hp' => [(4, .bool (x126))] = e' ∧ R = hp' ∧ b.Le b124) ?_ ?_
    ·
      have hm := hj127
      refine c_region ?_
      refine t_st rfl (st_load 0 rfl one161 rfl rfl) ?_
      refine t_st rfl (st_loadD (vs := [_, _, _, _]) 2 4 rfl agg52 rfl rfl rfl) ?_
      obtain ⟨x128, hcl129, hm⟩ := bindS hm
      refine t_do rfl (u_callvW0 #[] #[] [.agg #[.int .i64 (s1.Kind), .int .i64 (s1.Place), .int .i64 (s1.Position), .int .i64 (s1.At)]] rfl call85 rfl (fun w ho => cLineMeets_1 _ [] s1 x128 hcl129) (fun _ _ _ h => h.2.symm)) ?_
      rintro _ _ ⟨⟨_, rfl, _⟩, rfl⟩
      rcases Bool.eq_false_or_eq_true x128 with hc130 | hc130
      ·
        rw [if_pos hc130] at hm
        refine t_resp 16 rfl (v' := .bool true) (by rw [hc130]) ?_
        refine t_st rfl (st_move rfl) ?_
        refine t_yes 17 rfl rfl rfl ?_
        refine t_st rfl (st_load 0 rfl one161 rfl rfl) ?_
        refine t_yes 17 rfl rfl rfl ?_
        refine t_st rfl (st_loadD (vs := [_, _, _, _]) 1 4 rfl agg52 rfl rfl rfl) ?_
        refine t_yes 17 rfl rfl rfl ?_
        obtain ⟨x131, hcl132, hm⟩ := bindS hm
        refine t_do rfl (u_callvW0 #[] #[] [.agg #[.int .i64 (s2.Kind), .int .i64 (s2.Place), .int .i64 (s2.Position), .int .i64 (s2.At)]] rfl call85 rfl (fun w ho => cLineMeets_1 _ [] s2 x131 hcl132) (fun _ _ _ h => h.2.symm)) ?_
        rintro _ _ ⟨⟨_, rfl, _⟩, rfl⟩
        rcases Bool.eq_false_or_eq_true x131 with hc133 | hc133
        ·
          rw [if_pos hc133] at hm
          refine t_resp 20 rfl (v' := .bool true) (by rw [hc133]) ?_
          refine t_st rfl (st_pick_t rfl rfl) ?_
          refine t_st rfl (st_move rfl) ?_
          refine t_no 22 rfl rfl rfl rfl rfl ?_
          refine t_no 22 rfl rfl rfl rfl rfl ?_
          refine t_no 22 rfl rfl rfl rfl rfl ?_
          refine t_no 22 rfl rfl rfl rfl rfl ?_
          refine t_st rfl (st_pick_t rfl rfl) ?_
          refine t_st rfl (st_move rfl) ?_
          refine t_no 28 rfl rfl rfl rfl rfl ?_
          refine t_no 28 rfl rfl rfl rfl rfl ?_
          refine t_no 28 rfl rfl rfl rfl rfl ?_
          refine t_no 28 rfl rfl rfl rfl rfl ?_
          refine t_st rfl (st_pick_t rfl rfl) ?_
          refine t_st rfl (st_move rfl) ?_
          refine t_no 34 rfl rfl rfl rfl rfl ?_
          refine t_no 34 rfl rfl rfl rfl rfl ?_
          refine t_no 34 rfl rfl rfl rfl rfl ?_
          refine t_no 34 rfl rfl rfl rfl rfl ?_
          refine t_st rfl (st_pick_t rfl rfl) ?_
          refine t_st rfl (st_move rfl) ?_
          refine t_no 40 rfl rfl rfl rfl rfl ?_
          refine t_no 40 rfl rfl rfl rfl rfl ?_
          refine t_no 40 rfl rfl rfl rfl rfl ?_
          refine t_no 40 rfl rfl rfl rfl rfl ?_
          refine t_st rfl (st_pick_t rfl rfl) ?_
          refine t_st rfl (st_assign rfl) ?_
          refine t_nil ?_
          obtain rfl := some1 hm
          exact x_join (e' := [(4, .bool (true))]) (hp' := R) ⟨rfl, trivial⟩ (.cons _ (.cons _ (.cons _ (.refl _)))) ⟨rfl, rfl, (Base.Le.refl _)⟩
        ·
          rw [if_neg (fun hh => Bool.noConfusion (hh.symm.trans hc133))] at hm
          refine t_resp 20 rfl (v' := .bool false) (by rw [hc133]) ?_
          refine t_st rfl (st_pick_t rfl rfl) ?_
          refine t_st rfl (st_move rfl) ?_
          refine t_yes 22 rfl rfl rfl ?_
          refine t_st rfl (st_move rfl) ?_
          refine t_yes 22 rfl rfl rfl ?_
          refine t_st rfl (st_loadD (vs := [_, _, _, _]) 2 4 rfl agg52 rfl rfl rfl) ?_
          refine t_yes 22 rfl rfl rfl ?_
          refine t_st rfl (st_loadD (vs := [_, _, _, _]) 1 4 rfl agg52 rfl rfl rfl) ?_
          refine t_yes 22 rfl rfl rfl ?_
          obtain ⟨x134, hcl135, hm⟩ := bindS hm
          refine t_callvG #[] #[.pointer (some ⟨g87, 0, none⟩)] [.agg #[.int .i64 (s1.Kind), .int .i64 (s1.Place), .int .i64 (s1.Position), .int .i64 (s1.At)], .agg #[.int .i64 (s2.Kind), .int .i64 (s2.Place), .int .i64 (s2.Position), .int .i64 (s2.At)]] rfl rfl call86 rfl (cLineMeets_2 _ _ s1 s2 g87 x134 hcl135) ?_
          rintro _ b136 _ hle137 ⟨rfl, rfl⟩
          rcases Bool.eq_false_or_eq_true x134 with hc138 | hc138
          ·
            rw [if_pos hc138] at hm
            refine t_resp 26 rfl (v' := .bool true) (by rw [hc138]) ?_
            refine t_st rfl (st_pick_f rfl rfl) ?_
            refine t_st rfl (st_move rfl) ?_
            refine t_no 28 rfl rfl rfl rfl rfl ?_
            refine t_no 28 rfl rfl rfl rfl rfl ?_
            refine t_no 28 rfl rfl rfl rfl rfl ?_
            refine t_no 28 rfl rfl rfl rfl rfl ?_
            refine t_st rfl (st_pick_t rfl rfl) ?_
            refine t_st rfl (st_move rfl) ?_
            refine t_no 34 rfl rfl rfl rfl rfl ?_
            refine t_no 34 rfl rfl rfl rfl rfl ?_
            refine t_no 34 rfl rfl rfl rfl rfl ?_
            refine t_no 34 rfl rfl rfl rfl rfl ?_
            refine t_st rfl (st_pick_t rfl rfl) ?_
            refine t_st rfl (st_move rfl) ?_
            refine t_no 40 rfl rfl rfl rfl rfl ?_
            refine t_no 40 rfl rfl rfl rfl rfl ?_
            refine t_no 40 rfl rfl rfl rfl rfl ?_
            refine t_no 40 rfl rfl rfl rfl rfl ?_
            refine t_st rfl (st_pick_t rfl rfl) ?_
            refine t_st rfl (st_assign rfl) ?_
            refine t_nil ?_
            obtain rfl := some1 hm
            exact x_join (e' := [(4, .bool (true))]) (hp' := R) ⟨rfl, trivial⟩ (.cons _ (.cons _ (.cons _ (.refl _)))) ⟨rfl, rfl, hle137⟩
          ·
            rw [if_neg (fun hh => Bool.noConfusion (hh.symm.trans hc138))] at hm
            refine t_resp 26 rfl (v' := .bool false) (by rw [hc138]) ?_
            refine t_st rfl (st_pick_f rfl rfl) ?_
            refine t_st rfl (st_move rfl) ?_
            refine t_yes 28 rfl rfl rfl ?_
            refine t_st rfl (st_move rfl) ?_
            refine t_yes 28 rfl rfl rfl ?_
            refine t_st rfl (st_loadD (vs := [_, _, _, _]) 1 4 rfl agg52 rfl rfl rfl) ?_
            refine t_yes 28 rfl rfl rfl ?_
            refine t_st rfl (st_loadD (vs := [_, _, _, _]) 2 4 rfl agg52 rfl rfl rfl) ?_
            refine t_yes 28 rfl rfl rfl ?_
            obtain ⟨x139, hcl140, hm⟩ := bindS hm
            refine t_callvG #[] #[.pointer (some ⟨g87, 0, none⟩)] [.agg #[.int .i64 (s2.Kind), .int .i64 (s2.Place), .int .i64 (s2.Position), .int .i64 (s2.At)], .agg #[.int .i64 (s1.Kind), .int .i64 (s1.Place), .int .i64 (s1.Position), .int .i64 (s1.At)]] rfl rfl call86 rfl (cLineMeets_2 _ _ s2 s1 g87 x139 hcl140) ?_
            rintro _ b141 _ hle142 ⟨rfl, rfl⟩
            rcases Bool.eq_false_or_eq_true x139 with hc143 | hc143
            ·
              rw [if_pos hc143] at hm
              refine t_resp 32 rfl (v' := .bool true) (by rw [hc143]) ?_
              refine t_st rfl (st_pick_f rfl rfl) ?_
              refine t_st rfl (st_move rfl) ?_
              refine t_no 34 rfl rfl rfl rfl rfl ?_
              refine t_no 34 rfl rfl rfl rfl rfl ?_
              refine t_no 34 rfl rfl rfl rfl rfl ?_
              refine t_no 34 rfl rfl rfl rfl rfl ?_
              refine t_st rfl (st_pick_t rfl rfl) ?_
              refine t_st rfl (st_move rfl) ?_
              refine t_no 40 rfl rfl rfl rfl rfl ?_
              refine t_no 40 rfl rfl rfl rfl rfl ?_
              refine t_no 40 rfl rfl rfl rfl rfl ?_
              refine t_no 40 rfl rfl rfl rfl rfl ?_
              refine t_st rfl (st_pick_t rfl rfl) ?_
              refine t_st rfl (st_assign rfl) ?_
              refine t_nil ?_
              obtain rfl := some1 hm
              exact x_join (e' := [(4, .bool (true))]) (hp' := R) ⟨rfl, trivial⟩ (.cons _ (.cons _ (.cons _ (.refl _)))) ⟨rfl, rfl, (hle137.trans hle142)⟩
            ·
              rw [if_neg (fun hh => Bool.noConfusion (hh.symm.trans hc143))] at hm
              refine t_resp 32 rfl (v' := .bool false) (by rw [hc143]) ?_
              refine t_st rfl (st_pick_f rfl rfl) ?_
              refine t_st rfl (st_move rfl) ?_
              refine t_yes 34 rfl rfl rfl ?_
              refine t_st rfl (st_move rfl) ?_
              refine t_yes 34 rfl rfl rfl ?_
              refine t_st rfl (st_loadD (vs := [_, _, _, _]) 2 4 rfl agg52 rfl rfl rfl) ?_
              refine t_yes 34 rfl rfl rfl ?_
              refine t_st rfl (st_loadD (vs := [_, _, _, _]) 1 4 rfl agg52 rfl rfl rfl) ?_
              refine t_yes 34 rfl rfl rfl ?_
              obtain ⟨x144, hcl145, hm⟩ := bindS hm
              refine t_do rfl (u_callvW0 #[] #[] [.agg #[.int .i64 (s1.Kind), .int .i64 (s1.Place), .int .i64 (s1.Position), .int .i64 (s1.At)], .agg #[.int .i64 (s2.Kind), .int .i64 (s2.Place), .int .i64 (s2.Position), .int .i64 (s2.At)]] rfl call87 rfl (fun w ho => cLineMeets_3 _ [] s1 s2 x144 hcl145) (fun _ _ _ h => h.2.symm)) ?_
              rintro _ _ ⟨⟨_, rfl, _⟩, rfl⟩
              rcases Bool.eq_false_or_eq_true x144 with hc146 | hc146
              ·
                rw [if_pos hc146] at hm
                refine t_resp 38 rfl (v' := .bool true) (by rw [hc146]) ?_
                refine t_st rfl (st_pick_f rfl rfl) ?_
                refine t_st rfl (st_move rfl) ?_
                refine t_no 40 rfl rfl rfl rfl rfl ?_
                refine t_no 40 rfl rfl rfl rfl rfl ?_
                refine t_no 40 rfl rfl rfl rfl rfl ?_
                refine t_no 40 rfl rfl rfl rfl rfl ?_
                refine t_st rfl (st_pick_t rfl rfl) ?_
                refine t_st rfl (st_assign rfl) ?_
                refine t_nil ?_
                obtain rfl := some1 hm
                exact x_join (e' := [(4, .bool (true))]) (hp' := R) ⟨rfl, trivial⟩ (.cons _ (.cons _ (.cons _ (.refl _)))) ⟨rfl, rfl, (hle137.trans hle142)⟩
              ·
                rw [if_neg (fun hh => Bool.noConfusion (hh.symm.trans hc146))] at hm
                refine t_resp 38 rfl (v' := .bool false) (by rw [hc146]) ?_
                refine t_st rfl (st_pick_f rfl rfl) ?_
                refine t_st rfl (st_move rfl) ?_
                refine t_yes 40 rfl rfl rfl ?_
                refine t_st rfl (st_move rfl) ?_
                refine t_yes 40 rfl rfl rfl ?_
                refine t_st rfl (st_loadD (vs := [_, _, _, _]) 1 4 rfl agg52 rfl rfl rfl) ?_
                refine t_yes 40 rfl rfl rfl ?_
                refine t_st rfl (st_loadD (vs := [_, _, _, _]) 2 4 rfl agg52 rfl rfl rfl) ?_
                refine t_yes 40 rfl rfl rfl ?_
                obtain ⟨x147, hcl148, hm⟩ := bindS hm
                refine t_do rfl (u_callvW0 #[] #[] [.agg #[.int .i64 (s2.Kind), .int .i64 (s2.Place), .int .i64 (s2.Position), .int .i64 (s2.At)], .agg #[.int .i64 (s1.Kind), .int .i64 (s1.Place), .int .i64 (s1.Position), .int .i64 (s1.At)]] rfl call87 rfl (fun w ho => cLineMeets_3 _ [] s2 s1 x147 hcl148) (fun _ _ _ h => h.2.symm)) ?_
                rintro _ _ ⟨⟨_, rfl, _⟩, rfl⟩
                refine t_st rfl (st_pick_f rfl rfl) ?_
                refine t_st rfl (st_assign rfl) ?_
                refine t_nil ?_
                obtain rfl := some1 hm
                exact x_join (e' := [(4, .bool (x147))]) (hp' := R) ⟨rfl, trivial⟩ (.cons _ (.cons _ (.cons _ (.refl _)))) ⟨rfl, rfl, (hle137.trans hle142)⟩
      ·
        rw [if_neg (fun hh => Bool.noConfusion (hh.symm.trans hc130))] at hm
        refine t_resp 16 rfl (v' := .bool false) (by rw [hc130]) ?_
        refine t_st rfl (st_move rfl) ?_
        refine t_no 17 rfl rfl rfl rfl rfl ?_
        refine t_no 17 rfl rfl rfl rfl rfl ?_
        refine t_no 17 rfl rfl rfl rfl rfl ?_
        refine t_st rfl (st_pick_f rfl rfl) ?_
        refine t_st rfl (st_move rfl) ?_
        refine t_yes 22 rfl rfl rfl ?_
        refine t_st rfl (st_move rfl) ?_
        refine t_yes 22 rfl rfl rfl ?_
        refine t_st rfl (st_loadD (vs := [_, _, _, _]) 2 4 rfl agg52 rfl rfl rfl) ?_
        refine t_yes 22 rfl rfl rfl ?_
        refine t_st rfl (st_loadD (vs := [_, _, _, _]) 1 4 rfl agg52 rfl rfl rfl) ?_
        refine t_yes 22 rfl rfl rfl ?_
        obtain ⟨x149, hcl150, hm⟩ := bindS hm
        refine t_callvG #[] #[.pointer (some ⟨g87, 0, none⟩)] [.agg #[.int .i64 (s1.Kind), .int .i64 (s1.Place), .int .i64 (s1.Position), .int .i64 (s1.At)], .agg #[.int .i64 (s2.Kind), .int .i64 (s2.Place), .int .i64 (s2.Position), .int .i64 (s2.At)]] rfl rfl call86 rfl (cLineMeets_2 _ _ s1 s2 g87 x149 hcl150) ?_
        rintro _ b151 _ hle152 ⟨rfl, rfl⟩
        rcases Bool.eq_false_or_eq_true x149 with hc153 | hc153
        ·
          rw [if_pos hc153] at hm
          refine t_resp 26 rfl (v' := .bool true) (by rw [hc153]) ?_
          refine t_st rfl (st_pick_f rfl rfl) ?_
          refine t_st rfl (st_move rfl) ?_
          refine t_no 28 rfl rfl rfl rfl rfl ?_
          refine t_no 28 rfl rfl rfl rfl rfl ?_
          refine t_no 28 rfl rfl rfl rfl rfl ?_
          refine t_no 28 rfl rfl rfl rfl rfl ?_
          refine t_st rfl (st_pick_t rfl rfl) ?_
          refine t_st rfl (st_move rfl) ?_
          refine t_no 34 rfl rfl rfl rfl rfl ?_
          refine t_no 34 rfl rfl rfl rfl rfl ?_
          refine t_no 34 rfl rfl rfl rfl rfl ?_
          refine t_no 34 rfl rfl rfl rfl rfl ?_
          refine t_st rfl (st_pick_t rfl rfl) ?_
          refine t_st rfl (st_move rfl) ?_
          refine t_no 40 rfl rfl rfl rfl rfl ?_
          refine t_no 40 rfl rfl rfl rfl rfl ?_
          refine t_no 40 rfl rfl rfl rfl rfl ?_
          refine t_no 40 rfl rfl rfl rfl rfl ?_
          refine t_st rfl (st_pick_t rfl rfl) ?_
          refine t_st rfl (st_assign rfl) ?_
          refine t_nil ?_
          obtain rfl := some1 hm
          exact x_join (e' := [(4, .bool (true))]) (hp' := R) ⟨rfl, trivial⟩ (.cons _ (.cons _ (.cons _ (.refl _)))) ⟨rfl, rfl, hle152⟩
        ·
          rw [if_neg (fun hh => Bool.noConfusion (hh.symm.trans hc153))] at hm
          refine t_resp 26 rfl (v' := .bool false) (by rw [hc153]) ?_
          refine t_st rfl (st_pick_f rfl rfl) ?_
          refine t_st rfl (st_move rfl) ?_
          refine t_yes 28 rfl rfl rfl ?_
          refine t_st rfl (st_move rfl) ?_
          refine t_yes 28 rfl rfl rfl ?_
          refine t_st rfl (st_loadD (vs := [_, _, _, _]) 1 4 rfl agg52 rfl rfl rfl) ?_
          refine t_yes 28 rfl rfl rfl ?_
          refine t_st rfl (st_loadD (vs := [_, _, _, _]) 2 4 rfl agg52 rfl rfl rfl) ?_
          refine t_yes 28 rfl rfl rfl ?_
          obtain ⟨x154, hcl155, hm⟩ := bindS hm
          refine t_callvG #[] #[.pointer (some ⟨g87, 0, none⟩)] [.agg #[.int .i64 (s2.Kind), .int .i64 (s2.Place), .int .i64 (s2.Position), .int .i64 (s2.At)], .agg #[.int .i64 (s1.Kind), .int .i64 (s1.Place), .int .i64 (s1.Position), .int .i64 (s1.At)]] rfl rfl call86 rfl (cLineMeets_2 _ _ s2 s1 g87 x154 hcl155) ?_
          rintro _ b156 _ hle157 ⟨rfl, rfl⟩
          rcases Bool.eq_false_or_eq_true x154 with hc158 | hc158
          ·
            rw [if_pos hc158] at hm
            refine t_resp 32 rfl (v' := .bool true) (by rw [hc158]) ?_
            refine t_st rfl (st_pick_f rfl rfl) ?_
            refine t_st rfl (st_move rfl) ?_
            refine t_no 34 rfl rfl rfl rfl rfl ?_
            refine t_no 34 rfl rfl rfl rfl rfl ?_
            refine t_no 34 rfl rfl rfl rfl rfl ?_
            refine t_no 34 rfl rfl rfl rfl rfl ?_
            refine t_st rfl (st_pick_t rfl rfl) ?_
            refine t_st rfl (st_move rfl) ?_
            refine t_no 40 rfl rfl rfl rfl rfl ?_
            refine t_no 40 rfl rfl rfl rfl rfl ?_
            refine t_no 40 rfl rfl rfl rfl rfl ?_
            refine t_no 40 rfl rfl rfl rfl rfl ?_
            refine t_st rfl (st_pick_t rfl rfl) ?_
            refine t_st rfl (st_assign rfl) ?_
            refine t_nil ?_
            obtain rfl := some1 hm
            exact x_join (e' := [(4, .bool (true))]) (hp' := R) ⟨rfl, trivial⟩ (.cons _ (.cons _ (.cons _ (.refl _)))) ⟨rfl, rfl, (hle152.trans hle157)⟩
          ·
            rw [if_neg (fun hh => Bool.noConfusion (hh.symm.trans hc158))] at hm
            refine t_resp 32 rfl (v' := .bool false) (by rw [hc158]) ?_
            refine t_st rfl (st_pick_f rfl rfl) ?_
            refine t_st rfl (st_move rfl) ?_
            refine t_yes 34 rfl rfl rfl ?_
            refine t_st rfl (st_move rfl) ?_
            refine t_yes 34 rfl rfl rfl ?_
            refine t_st rfl (st_loadD (vs := [_, _, _, _]) 2 4 rfl agg52 rfl rfl rfl) ?_
            refine t_yes 34 rfl rfl rfl ?_
            refine t_st rfl (st_loadD (vs := [_, _, _, _]) 1 4 rfl agg52 rfl rfl rfl) ?_
            refine t_yes 34 rfl rfl rfl ?_
            obtain ⟨x159, hcl160, hm⟩ := bindS hm
            refine t_do rfl (u_callvW0 #[] #[] [.agg #[.int .i64 (s1.Kind), .int .i64 (s1.Place), .int .i64 (s1.Position), .int .i64 (s1.At)], .agg #[.int .i64 (s2.Kind), .int .i64 (s2.Place), .int .i64 (s2.Position), .int .i64 (s2.At)]] rfl call87 rfl (fun w ho => cLineMeets_3 _ [] s1 s2 x159 hcl160) (fun _ _ _ h => h.2.symm)) ?_
            rintro _ _ ⟨⟨_, rfl, _⟩, rfl⟩
            rcases Bool.eq_false_or_eq_true x159 with hc161 | hc161
            ·
              rw [if_pos hc161] at hm
              refine t_resp 38 rfl (v' := .bool true) (by rw [hc161]) ?_
              refine t_st rfl (st_pick_f rfl rfl) ?_
              refine t_st rfl (st_move rfl) ?_
              refine t_no 40 rfl rfl rfl rfl rfl ?_
              refine t_no 40 rfl rfl rfl rfl rfl ?_
              refine t_no 40 rfl rfl rfl rfl rfl ?_
              refine t_no 40 rfl rfl rfl rfl rfl ?_
              refine t_st rfl (st_pick_t rfl rfl) ?_
              refine t_st rfl (st_assign rfl) ?_
              refine t_nil ?_
              obtain rfl := some1 hm
              exact x_join (e' := [(4, .bool (true))]) (hp' := R) ⟨rfl, trivial⟩ (.cons _ (.cons _ (.cons _ (.refl _)))) ⟨rfl, rfl, (hle152.trans hle157)⟩
            ·
              rw [if_neg (fun hh => Bool.noConfusion (hh.symm.trans hc161))] at hm
              refine t_resp 38 rfl (v' := .bool false) (by rw [hc161]) ?_
              refine t_st rfl (st_pick_f rfl rfl) ?_
              refine t_st rfl (st_move rfl) ?_
              refine t_yes 40 rfl rfl rfl ?_
              refine t_st rfl (st_move rfl) ?_
              refine t_yes 40 rfl rfl rfl ?_
              refine t_st rfl (st_loadD (vs := [_, _, _, _]) 1 4 rfl agg52 rfl rfl rfl) ?_
              refine t_yes 40 rfl rfl rfl ?_
              refine t_st rfl (st_loadD (vs := [_, _, _, _]) 2 4 rfl agg52 rfl rfl rfl) ?_
              refine t_yes 40 rfl rfl rfl ?_
              obtain ⟨x162, hcl163, hm⟩ := bindS hm
              refine t_do rfl (u_callvW0 #[] #[] [.agg #[.int .i64 (s2.Kind), .int .i64 (s2.Place), .int .i64 (s2.Position), .int .i64 (s2.At)], .agg #[.int .i64 (s1.Kind), .int .i64 (s1.Place), .int .i64 (s1.Position), .int .i64 (s1.At)]] rfl call87 rfl (fun w ho => cLineMeets_3 _ [] s2 s1 x162 hcl163) (fun _ _ _ h => h.2.symm)) ?_
              rintro _ _ ⟨⟨_, rfl, _⟩, rfl⟩
              refine t_st rfl (st_pick_f rfl rfl) ?_
              refine t_st rfl (st_assign rfl) ?_
              refine t_nil ?_
              obtain rfl := some1 hm
              exact x_join (e' := [(4, .bool (x162))]) (hp' := R) ⟨rfl, trivial⟩ (.cons _ (.cons _ (.cons _ (.refl _)))) ⟨rfl, rfl, (hle152.trans hle157)⟩
    ·
      rintro b124 _ _ ⟨rfl, rfl, hle125⟩
      have hm := hk127
      refine c_ret ?_
      obtain rfl := some1 hm
      exact retM (rs := [.tmp 4]) [.bool (x126)] hle125 (by decide) rfl ⟨rfl, trivial⟩ rfl (hp' := R) (.refl _) ⟨rfl, rfl⟩

set_option maxRecDepth 20000 in
theorem cRunHeadway (b : Base) (R : Hp) (l4 : (List ApiHold)) (l8 : (List ApiHold)) (A1 : Option Addr) (c2 : Nat) (A5 : Option Addr) (c6 : Nat) (h3 : FZ rApiHold b.w A1 c2 l4) (h7 : FZ rApiHold b.w A5 c6 l8) (x213 : Int) (hm : mRunHeadway l4 l8 = some x213) :
    CallsG Tryd.prog 25 [.slice A1 (l4).length c2, .slice A5 (l8).length c6] b (R) (fun v b' hp' => .int .i64 (x213) = v ∧ R = hp') := by
  refine fn_enterG 37 Tryd.func25 rfl Tryd.ntmps25 rfl ?_
  unfold mRunHeadway at hm
  refine c_seq ?_
  refine c_region ?_
  refine t_st rfl (st_assign rfl) ?_
  refine t_nil ?_
  refine x_then_normal ?_
  refine c_seq ?_
  refine c_region ?_
  refine t_st rfl (st_assign rfl) ?_
  refine t_nil ?_
  refine x_then_normal ?_
  refine c_seq ?_
  refine c_seq ?_
  refine c_region ?_
  refine t_st rfl (st_move rfl) ?_
  refine t_st rfl (st_len rfl sl49) ?_
  refine t_st rfl (st_move rfl) ?_
  refine t_nil ?_
  refine x_then_normal ?_
  refine c_block ?_
  have hb215 := (FZ.bd h3)
  obtain ⟨x349, hl351, hk352⟩ := bindS hm
  refine c_forS (fun k350 => fun x349 => fun b347 e' hp' => [(1, .slice A5 (l8).length c6), (5, .int .i64 (x349)), (10, .slice A1 (l4).length c2), (11, .int .i64 ((l4.length : Int))), (12, .int .i64 ((k350 : Int)))] = e' ∧ R = hp' ∧ b.Le b347) hl351 (e' := [(1, .slice A5 (l8).length c6), (5, .int .i64 (0)), (10, .slice A1 (l4).length c2), (11, .int .i64 ((l4.length : Int))), (12, .int .i64 0)]) (hp' := R) ⟨rfl, rfl, rfl, rfl, rfl, trivial⟩ (.refl _) ⟨rfl, rfl, (Base.Le.refl _)⟩ ?_ ?_
  ·
    rintro k350 x349 b347 _ _ oL214 hknL214 ⟨rfl, rfl, hle348⟩ hstepL214
    unfold mRunHeadway_L214 at hstepL214
    have hm := hstepL214
    refine c_seq ?_
    refine c_region ?_
    refine t_st rfl (st_lss_t rfl rfl (by omega)) ?_
    refine t_nil ?_
    refine x_then_normal ?_
    refine c_seq ?_
    refine c_cond_t rfl ?_
    refine c_skip ?_
    refine x_then_normal ?_
    refine c_seq ?_
    refine c_block ?_
    refine c_seq ?_
    refine c_region ?_
    obtain ⟨x353, h354, hm⟩ := bindS hm
    obtain ⟨j355, hj356, hx357⟩ := idx_some h354
    obtain ⟨cs358, hr359, hcs360, hA361, hlt362⟩ := FZ.get (sz := 6) rfl (by decide) (h3.le hle348) hx357
    obtain ⟨_, _, rfl, ⟨_, _, rfl, rfl, ⟨_, _, rfl, rfl, ⟨_, _, rfl, rfl, rfl⟩⟩⟩, ⟨_, _, rfl, rfl, rfl⟩⟩ := hr359
    refine t_st rfl (st_index_old j355 rfl rfl hj356 hlt362 hA361 sl49) ?_
    refine t_st rfl (st_loadN_old (vs := [.int .i64 (x353.Need.Kind), .int .i64 (x353.Need.Place), .int .i64 (x353.Need.Position), .int .i64 (x353.Need.At), .int .i64 (x353.From), .int .i64 (x353.To)]) 6 rfl agg54 hA361 rfl (fun j u hu => hcs360 j u hu)) ?_
    refine t_do rfl (u_alloc [.int .i64 0, .int .i64 0, .int .i64 0, .int .i64 0, .int .i64 0, .int .i64 0] zero54 rfl) ?_
    rintro _ _ ⟨g363, rfl, rfl⟩
    refine t_do rfl (u_storeN (vs := [_, _, _, _, _, _]) 0 6 rfl rfl rfl siz54 rfl (by intro u hu; simp only [List.mem_cons, List.not_mem_nil, or_false] at hu; rcases hu with rfl | rfl | rfl | rfl | rfl | rfl <;> rfl) rfl (by simp)) ?_
    rintro _ _ rfl
    refine t_nil ?_
    refine x_then_normal ?_
    refine c_seq ?_
    refine c_region ?_
    refine t_st rfl (st_move rfl) ?_
    refine t_st rfl (st_len rfl sl49) ?_
    refine t_st rfl (st_move rfl) ?_
    refine t_nil ?_
    refine x_then_normal ?_
    refine c_block ?_
    have hb365 := (FZ.bd (h7.le hle348))
    obtain ⟨x399, hl401, hk402⟩ := bindS hm
    refine c_forS (fun k400 => fun x399 => fun b397 e' hp' => [(1, .slice A5 (l8).length c6), (5, .int .i64 (x399)), (7, .pointer (some ⟨g363, 0, none⟩)), (10, .slice A1 (l4).length c2), (11, .int .i64 ((l4.length : Int))), (12, .int .i64 ((k350 : Int))), (16, .slice A5 (l8).length c6), (17, .int .i64 ((l8.length : Int))), (18, .int .i64 ((k400 : Int)))] = e' ∧ (g363, Cl 54 [.int .i64 (x353.Need.Kind), .int .i64 (x353.Need.Place), .int .i64 (x353.Need.Position), .int .i64 (x353.Need.At), .int .i64 (x353.From), .int .i64 (x353.To)]) :: R = hp' ∧ b347.Le b397) hl401 (e' := [(1, .slice A5 (l8).length c6), (5, .int .i64 (x349)), (7, .pointer (some ⟨g363, 0, none⟩)), (10, .slice A1 (l4).length c2), (11, .int .i64 ((l4.length : Int))), (12, .int .i64 ((k350 : Int))), (16, .slice A5 (l8).length c6), (17, .int .i64 ((l8.length : Int))), (18, .int .i64 0)]) (hp' := (g363, Cl 54 [.int .i64 (x353.Need.Kind), .int .i64 (x353.Need.Place), .int .i64 (x353.Need.Position), .int .i64 (x353.Need.At), .int .i64 (x353.From), .int .i64 (x353.To)]) :: R) ⟨rfl, rfl, rfl, rfl, rfl, rfl, rfl, rfl, rfl, trivial⟩ (.cons_cons _ (.refl _)) ⟨rfl, rfl, (Base.Le.refl _)⟩ ?_ ?_
    ·
      rintro k400 x399 b397 _ _ oL364 hknL364 ⟨rfl, rfl, hle398⟩ hstepL364
      unfold mRunHeadway_L364 at hstepL364
      have hm := hstepL364
      refine c_seq ?_
      refine c_region ?_
      refine t_st rfl (st_lss_t rfl rfl (by omega)) ?_
      refine t_nil ?_
      refine x_then_normal ?_
      refine c_seq ?_
      refine c_cond_t rfl ?_
      refine c_skip ?_
      refine x_then_normal ?_
      refine c_seq ?_
      refine c_block ?_
      refine c_seq ?_
      refine c_region ?_
      obtain ⟨x403, h404, hm⟩ := bindS hm
      obtain ⟨j405, hj406, hx407⟩ := idx_some h404
      obtain ⟨cs408, hr409, hcs410, hA411, hlt412⟩ := FZ.get (sz := 6) rfl (by decide) (h7.le (hle348.trans hle398)) hx407
      obtain ⟨_, _, rfl, ⟨_, _, rfl, rfl, ⟨_, _, rfl, rfl, ⟨_, _, rfl, rfl, rfl⟩⟩⟩, ⟨_, _, rfl, rfl, rfl⟩⟩ := hr409
      refine t_st rfl (st_index_old j405 rfl rfl hj406 hlt412 hA411 sl49) ?_
      refine t_st rfl (st_loadN_old (vs := [.int .i64 (x403.Need.Kind), .int .i64 (x403.Need.Place), .int .i64 (x403.Need.Position), .int .i64 (x403.Need.At), .int .i64 (x403.From), .int .i64 (x403.To)]) 6 rfl agg54 hA411 rfl (fun j u hu => hcs410 j u hu)) ?_
      refine t_do rfl (u_alloc [.int .i64 0, .int .i64 0, .int .i64 0, .int .i64 0, .int .i64 0, .int .i64 0] zero54 rfl) ?_
      rintro _ _ ⟨g413, rfl, rfl⟩
      refine t_do rfl (u_storeN (vs := [_, _, _, _, _, _]) 0 6 rfl rfl rfl siz54 rfl (by intro u hu; simp only [List.mem_cons, List.not_mem_nil, or_false] at hu; rcases hu with rfl | rfl | rfl | rfl | rfl | rfl <;> rfl) rfl (by simp)) ?_
      rintro _ _ rfl
      refine t_nil ?_
      refine x_then_normal ?_
      refine c_seq ?_
      refine c_region ?_
      refine t_st rfl (st_field rfl fld54_0) ?_
      refine t_st rfl (st_loadD (vs := [_, _, _, _]) 1 4 rfl agg52 rfl rfl rfl) ?_
      refine t_st rfl (st_field rfl fld54_0) ?_
      refine t_st rfl (st_loadD (vs := [_, _, _, _]) 0 4 rfl agg52 rfl rfl rfl) ?_
      obtain ⟨x414, hcl415, hm⟩ := bindS hm
      refine t_do rfl (u_callW0 _ call61 rfl (fun w ho => cLineMeets _ [] x353.Need x403.Need x414 hcl415) (fun _ _ _ h => h.2.symm)) ?_
      rintro _ _ ⟨⟨_, rfl, _⟩, rfl⟩
      refine t_nil ?_
      refine x_then_normal ?_
      refine c_cond _ rfl (fun hc416 => ?_) (fun hc416 => ?_)
      ·
        rw [if_pos hc416] at hm
        refine c_region ?_
        refine t_st rfl (st_move rfl) ?_
        refine t_st rfl (st_field rfl fld54_2) ?_
        refine t_st rfl (st_load 1 rfl one3 rfl rfl) ?_
        refine t_st rfl (st_field rfl fld54_1) ?_
        refine t_st rfl (st_load 0 rfl one3 rfl rfl) ?_
        obtain ⟨_, h417, hm⟩ := bindS hm
        have h417 := (chk_some h417).2
        refine t_st rfl (st_sub rfl rfl h417) ?_
        refine t_st rfl (st_max rfl rfl) ?_
        refine t_st rfl (st_assign rfl) ?_
        refine t_nil ?_
        refine x_block_normal ?_
        refine x_then_normal ?_
        refine c_region ?_
        refine t_st rfl (st_add rfl rfl (by omega)) ?_
        refine t_st rfl (st_move rfl) ?_
        refine t_nil ?_
        refine x_pullb 1 rfl ?_
        obtain rfl := some1 hm
        exact x_againS (e' := [(1, .slice A5 (l8).length c6), (5, .int .i64 (max x399 (x353.To - x403.From))), (7, .pointer (some ⟨g363, 0, none⟩)), (10, .slice A1 (l4).length c2), (11, .int .i64 ((l4.length : Int))), (12, .int .i64 ((k350 : Int))), (16, .slice A5 (l8).length c6), (17, .int .i64 ((l8.length : Int))), (18, .int .i64 ((k400 : Int) + 1))]) (hp' := (g363, Cl 54 [.int .i64 (x353.Need.Kind), .int .i64 (x353.Need.Place), .int .i64 (x353.Need.Position), .int .i64 (x353.Need.At), .int .i64 (x353.From), .int .i64 (x353.To)]) :: R) ⟨rfl, rfl, rfl, rfl, rfl, rfl, rfl, rfl, rfl, trivial⟩ (.cons_cons _ (.cons _ (.refl _))) ⟨rfl, rfl, (hle398)⟩
      ·
        rw [if_neg (fun hh => Bool.noConfusion (hh.symm.trans hc416))] at hm
        refine c_skip ?_
        refine x_block_normal ?_
        refine x_then_normal ?_
        refine c_region ?_
        refine t_st rfl (st_add rfl rfl (by omega)) ?_
        refine t_st rfl (st_move rfl) ?_
        refine t_nil ?_
        refine x_pullb 1 rfl ?_
        obtain rfl := some1 hm
        exact x_againS (e' := [(1, .slice A5 (l8).length c6), (5, .int .i64 (x399)), (7, .pointer (some ⟨g363, 0, none⟩)), (10, .slice A1 (l4).length c2), (11, .int .i64 ((l4.length : Int))), (12, .int .i64 ((k350 : Int))), (16, .slice A5 (l8).length c6), (17, .int .i64 ((l8.length : Int))), (18, .int .i64 ((k400 : Int) + 1))]) (hp' := (g363, Cl 54 [.int .i64 (x353.Need.Kind), .int .i64 (x353.Need.Place), .int .i64 (x353.Need.Position), .int .i64 (x353.Need.At), .int .i64 (x353.From), .int .i64 (x353.To)]) :: R) ⟨rfl, rfl, rfl, rfl, rfl, rfl, rfl, rfl, rfl, trivial⟩ (.cons_cons _ (.cons _ (.refl _))) ⟨rfl, rfl, (hle398)⟩
    ·
      rintro b397 _ _ ⟨rfl, rfl, hle398⟩
      have hm := hk402
      refine c_seq ?_
      refine c_region ?_
      refine t_st rfl (st_lss_f rfl rfl (by omega)) ?_
      refine t_nil ?_
      refine x_then_normal ?_
      refine c_seq ?_
      refine c_cond_f rfl ?_
      refine c_exit ?_
      refine x_then_exit ?_
      refine x_then_exit ?_
      refine x_block_out ?_
      refine x_block_normal ?_
      refine x_then_normal ?_
      refine c_region ?_
      refine t_st rfl (st_add rfl rfl (by omega)) ?_
      refine t_st rfl (st_move rfl) ?_
      refine t_nil ?_
      obtain rfl := some1 hm
      exact x_againS (e' := [(1, .slice A5 (l8).length c6), (5, .int .i64 (x399)), (10, .slice A1 (l4).length c2), (11, .int .i64 ((l4.length : Int))), (12, .int .i64 ((k350 : Int) + 1))]) (hp' := R) ⟨rfl, rfl, rfl, rfl, rfl, trivial⟩ (.cons _ (.refl _)) ⟨rfl, rfl, ((hle348.trans hle398))⟩
  ·
    rintro b347 _ _ ⟨rfl, rfl, hle348⟩
    have hm := hk352
    refine c_seq ?_
    refine c_region ?_
    refine t_st rfl (st_lss_f rfl rfl (by omega)) ?_
    refine t_nil ?_
    refine x_then_normal ?_
    refine c_seq ?_
    refine c_cond_f rfl ?_
    refine c_exit ?_
    refine x_then_exit ?_
    refine x_then_exit ?_
    refine x_block_out ?_
    refine x_then_normal ?_
    refine c_seq ?_
    refine c_region ?_
    refine t_st rfl (st_move rfl) ?_
    refine t_st rfl (st_assign rfl) ?_
    refine t_nil ?_
    refine x_then_normal ?_
    refine c_ret ?_
    obtain rfl := some1 hm
    exact retM (rs := [.tmp 4]) [.int .i64 (x349)] hle348 (by decide) rfl ⟨rfl, trivial⟩ rfl (hp' := R) (.refl _) ⟨rfl, rfl⟩

set_option maxRecDepth 20000 in
theorem cRunConflicts (b : Base) (R : Hp) (l4 : (List ApiHold)) (l8 : (List ApiHold)) (A1 : Option Addr) (c2 : Nat) (A5 : Option Addr) (c6 : Nat) (h3 : FZ rApiHold b.w A1 c2 l4) (h7 : FZ rApiHold b.w A5 c6 l8) (l394 : (List (List Int))) (hm : mRunConflicts l4 l8 = some l394) :
    CallsG Tryd.prog 26 [.slice A1 (l4).length c2, .slice A5 (l8).length c6] b (R) (fun v b' hp' => ∃ (A391 : Option Addr), ∃ (c392 : Nat), ∃ (hs390 : Hp), .slice A391 (l394).length c392 = v ∧ (hs390 ++ R) = hp' ∧ OS 120 (OT.fr (RT.arr 2 (RT.int .i64))) b'.w (.slice A391 l394.length c392) l394 hs390) := by
  refine fn_enterG 52 Tryd.func26 rfl Tryd.ntmps26 rfl ?_
  unfold mRunConflicts at hm
  refine c_seq ?_
  refine c_region ?_
  refine t_st rfl (st_assign rfl) ?_
  refine t_nil ?_
  refine x_then_normal ?_
  refine c_seq ?_
  refine c_region ?_
  refine t_st rfl (st_assign rfl) ?_
  refine t_nil ?_
  refine x_then_normal ?_
  refine c_seq ?_
  refine c_seq ?_
  refine c_region ?_
  refine t_st rfl (st_move rfl) ?_
  refine t_st rfl (st_len rfl sl49) ?_
  refine t_st rfl (st_move rfl) ?_
  refine t_nil ?_
  refine x_then_normal ?_
  refine c_block ?_
  have hb396 := (FZ.bd h3)
  obtain ⟨l651, hl653, hk654⟩ := bindS hm
  refine c_forS (fun k652 => fun l651 => fun b644 e' hp' => ∃ (A648 : Option Addr), ∃ (c649 : Nat), ∃ (hs647 : Hp), [(1, .slice A5 (l8).length c6), (5, .slice A648 (l651).length c649), (10, .slice A1 (l4).length c2), (11, .int .i64 ((l4.length : Int))), (12, .int .i64 ((k652 : Int)))] = e' ∧ (hs647 ++ R) = hp' ∧ b.Le b644 ∧ OS 120 (OT.fr (RT.arr 2 (RT.int .i64))) b644.w (.slice A648 l651.length c649) l651 hs647) hl653 (e' := [(1, .slice A5 (l8).length c6), (5, .slice none 0 0), (10, .slice A1 (l4).length c2), (11, .int .i64 ((l4.length : Int))), (12, .int .i64 0)]) (hp' := ([] ++ R)) ⟨rfl, rfl, rfl, rfl, rfl, trivial⟩ (.refl _) ⟨none, 0, [], rfl, rfl, (Base.Le.refl _), OS.nil⟩ ?_ ?_
  ·
    rintro k652 l651 b644 _ _ oL395 hknL395 ⟨A648, c649, hs647, rfl, rfl, hle645, h650⟩ hstepL395
    unfold mRunConflicts_L395 at hstepL395
    have hm := hstepL395
    refine c_seq ?_
    refine c_region ?_
    refine t_st rfl (st_lss_t rfl rfl (by omega)) ?_
    refine t_nil ?_
    refine x_then_normal ?_
    refine c_seq ?_
    refine c_cond_t rfl ?_
    refine c_skip ?_
    refine x_then_normal ?_
    refine c_seq ?_
    refine c_block ?_
    refine c_seq ?_
    refine c_region ?_
    refine t_st rfl (st_move rfl) ?_
    obtain ⟨x655, h656, hm⟩ := bindS hm
    obtain ⟨j657, hj658, hx659⟩ := idx_some h656
    obtain ⟨cs660, hr661, hcs662, hA663, hlt664⟩ := FZ.get (sz := 6) rfl (by decide) (h3.le hle645) hx659
    obtain ⟨_, _, rfl, ⟨_, _, rfl, rfl, ⟨_, _, rfl, rfl, ⟨_, _, rfl, rfl, rfl⟩⟩⟩, ⟨_, _, rfl, rfl, rfl⟩⟩ := hr661
    refine t_st rfl (st_index_old j657 rfl rfl hj658 hlt664 hA663 sl49) ?_
    refine t_st rfl (st_loadN_old (vs := [.int .i64 (x655.Need.Kind), .int .i64 (x655.Need.Place), .int .i64 (x655.Need.Position), .int .i64 (x655.Need.At), .int .i64 (x655.From), .int .i64 (x655.To)]) 6 rfl agg54 hA663 rfl (fun j u hu => hcs662 j u hu)) ?_
    refine t_do rfl (u_alloc [.int .i64 0, .int .i64 0, .int .i64 0, .int .i64 0, .int .i64 0, .int .i64 0] zero54 rfl) ?_
    rintro _ _ ⟨g665, rfl, rfl⟩
    refine t_st rfl (st_assign rfl) ?_
    refine t_do rfl (u_storeN (vs := [_, _, _, _, _, _]) 0 6 rfl rfl rfl siz54 rfl (by intro u hu; simp only [List.mem_cons, List.not_mem_nil, or_false] at hu; rcases hu with rfl | rfl | rfl | rfl | rfl | rfl <;> rfl) rfl (by simp)) ?_
    rintro _ _ rfl
    refine t_nil ?_
    refine x_then_normal ?_
    refine c_seq ?_
    refine c_region ?_
    refine t_st rfl (st_move rfl) ?_
    refine t_st rfl (st_len rfl sl49) ?_
    refine t_st rfl (st_move rfl) ?_
    refine t_nil ?_
    refine x_then_normal ?_
    refine c_block ?_
    have hb667 := (FZ.bd (h7.le hle645))
    obtain ⟨l741, hl743, hk744⟩ := bindS hm
    refine c_forS (fun k742 => fun l741 => fun b734 e' hp' => ∃ (A738 : Option Addr), ∃ (c739 : Nat), ∃ (hs737 : Hp), [(1, .slice A5 (l8).length c6), (5, .slice A738 (l741).length c739), (6, .int .i64 ((k652 : Int))), (7, .pointer (some ⟨g665, 0, none⟩)), (10, .slice A1 (l4).length c2), (11, .int .i64 ((l4.length : Int))), (12, .int .i64 ((k652 : Int))), (17, .slice A5 (l8).length c6), (18, .int .i64 ((l8.length : Int))), (19, .int .i64 ((k742 : Int)))] = e' ∧ (g665, Cl 54 [.int .i64 (x655.Need.Kind), .int .i64 (x655.Need.Place), .int .i64 (x655.Need.Position), .int .i64 (x655.Need.At), .int .i64 (x655.From), .int .i64 (x655.To)]) :: (hs737 ++ R) = hp' ∧ b644.Le b734 ∧ OS 120 (OT.fr (RT.arr 2 (RT.int .i64))) b734.w (.slice A738 l741.length c739) l741 hs737) hl743 (e' := [(1, .slice A5 (l8).length c6), (5, .slice A648 (l651).length c649), (6, .int .i64 ((k652 : Int))), (7, .pointer (some ⟨g665, 0, none⟩)), (10, .slice A1 (l4).length c2), (11, .int .i64 ((l4.length : Int))), (12, .int .i64 ((k652 : Int))), (17, .slice A5 (l8).length c6), (18, .int .i64 ((l8.length : Int))), (19, .int .i64 0)]) (hp' := (g665, Cl 54 [.int .i64 (x655.Need.Kind), .int .i64 (x655.Need.Place), .int .i64 (x655.Need.Position), .int .i64 (x655.Need.At), .int .i64 (x655.From), .int .i64 (x655.To)]) :: (hs647 ++ R)) ⟨rfl, rfl, rfl, rfl, rfl, rfl, rfl, rfl, rfl, rfl, trivial⟩ (.cons_cons _ (sub_app hs647 (.refl _))) ⟨A648, c649, hs647, rfl, rfl, (Base.Le.refl _), h650⟩ ?_ ?_
    ·
      rintro k742 l741 b734 _ _ oL666 hknL666 ⟨A738, c739, hs737, rfl, rfl, hle735, h740⟩ hstepL666
      unfold mRunConflicts_L666 at hstepL666
      have hm := hstepL666
      refine c_seq ?_
      refine c_region ?_
      refine t_st rfl (st_lss_t rfl rfl (by omega)) ?_
      refine t_nil ?_
      refine x_then_normal ?_
      refine c_seq ?_
      refine c_cond_t rfl ?_
      refine c_skip ?_
      refine x_then_normal ?_
      refine c_seq ?_
      refine c_block ?_
      refine c_seq ?_
      refine c_region ?_
      refine t_st rfl (st_move rfl) ?_
      obtain ⟨x745, h746, hm⟩ := bindS hm
      obtain ⟨j747, hj748, hx749⟩ := idx_some h746
      obtain ⟨cs750, hr751, hcs752, hA753, hlt754⟩ := FZ.get (sz := 6) rfl (by decide) (h7.le (hle645.trans hle735)) hx749
      obtain ⟨_, _, rfl, ⟨_, _, rfl, rfl, ⟨_, _, rfl, rfl, ⟨_, _, rfl, rfl, rfl⟩⟩⟩, ⟨_, _, rfl, rfl, rfl⟩⟩ := hr751
      refine t_st rfl (st_index_old j747 rfl rfl hj748 hlt754 hA753 sl49) ?_
      refine t_st rfl (st_loadN_old (vs := [.int .i64 (x745.Need.Kind), .int .i64 (x745.Need.Place), .int .i64 (x745.Need.Position), .int .i64 (x745.Need.At), .int .i64 (x745.From), .int .i64 (x745.To)]) 6 rfl agg54 hA753 rfl (fun j u hu => hcs752 j u hu)) ?_
      refine t_do rfl (u_alloc [.int .i64 0, .int .i64 0, .int .i64 0, .int .i64 0, .int .i64 0, .int .i64 0] zero54 rfl) ?_
      rintro _ _ ⟨g755, rfl, rfl⟩
      refine t_st rfl (st_assign rfl) ?_
      refine t_do rfl (u_storeN (vs := [_, _, _, _, _, _]) 0 6 rfl rfl rfl siz54 rfl (by intro u hu; simp only [List.mem_cons, List.not_mem_nil, or_false] at hu; rcases hu with rfl | rfl | rfl | rfl | rfl | rfl <;> rfl) rfl (by simp)) ?_
      rintro _ _ rfl
      refine t_nil ?_
      refine x_then_normal ?_
      obtain ⟨x762, hj763, hk763⟩ := bindS hm
      refine c_join (fun b760 e' hp' => [(1, .slice A5 (l8).length c6), (5, .slice A738 (l741).length c739), (6, .int .i64 ((k652 : Int))), (7, .pointer (some ⟨g665, 0, none⟩)), (8, .int .i64 ((k742 : Int))), (10, .slice A1 (l4).length c2), (11, .int .i64 ((l4.length : Int))), (12, .int .i64 ((k652 : Int))), (17, .slice A5 (l8).length c6), (18, .int .i64 ((l8.length : Int))), (19, .int .i64 ((k742 : Int))), (42, .bool (x762))] = e' ∧ (g665, Cl 54 [.int .i64 (x655.Need.Kind), .int .i64 (x655.Need.Place), .int .i64 (x655.Need.Position), .int .i64 (x655.Need.At), .int .i64 (x655.From), .int .i64 (x655.To)]) :: (hs737 ++ R) = hp' ∧ b734.Le b760) ?_ ?_
      ·
        have hm := hj763
        refine c_region ?_
        refine t_st rfl (st_field rfl fld54_0) ?_
        refine t_st rfl (st_loadD (vs := [_, _, _, _]) 1 4 rfl agg52 rfl rfl rfl) ?_
        refine t_st rfl (st_field rfl fld54_0) ?_
        refine t_st rfl (st_loadD (vs := [_, _, _, _]) 0 4 rfl agg52 rfl rfl rfl) ?_
        obtain ⟨x764, hcl765, hm⟩ := bindS hm
        refine t_do rfl (u_callW0 _ call61 rfl (fun w ho => cLineMeets _ [] x655.Need x745.Need x764 hcl765) (fun _ _ _ h => h.2.symm)) ?_
        rintro _ _ ⟨⟨_, rfl, _⟩, rfl⟩
        rcases Bool.eq_false_or_eq_true x764 with hc766 | hc766
        ·
          rw [if_pos hc766] at hm
          refine t_resp 28 rfl (v' := .bool true) (by rw [hc766]) ?_
          refine t_st rfl (st_move rfl) ?_
          refine t_yes 29 rfl rfl rfl ?_
          refine t_st rfl (st_field rfl fld54_1) ?_
          refine t_yes 29 rfl rfl rfl ?_
          refine t_st rfl (st_load 1 rfl one3 rfl rfl) ?_
          refine t_yes 29 rfl rfl rfl ?_
          refine t_st rfl (st_field rfl fld54_2) ?_
          refine t_yes 29 rfl rfl rfl ?_
          refine t_st rfl (st_load 0 rfl one3 rfl rfl) ?_
          refine t_yes 29 rfl rfl rfl ?_
          refine t_bool rfl (st_lss rfl rfl) (fun hc767 => ?_) (fun hc767 => ?_)
          ·
            rw [if_pos hc767] at hm
            refine t_st rfl (st_pick_t rfl rfl) ?_
            refine t_st rfl (st_move rfl) ?_
            refine t_yes 36 rfl rfl rfl ?_
            refine t_st rfl (st_field rfl fld54_1) ?_
            refine t_yes 36 rfl rfl rfl ?_
            refine t_st rfl (st_load 0 rfl one3 rfl rfl) ?_
            refine t_yes 36 rfl rfl rfl ?_
            refine t_st rfl (st_field rfl fld54_2) ?_
            refine t_yes 36 rfl rfl rfl ?_
            refine t_st rfl (st_load 1 rfl one3 rfl rfl) ?_
            refine t_yes 36 rfl rfl rfl ?_
            refine t_st rfl (st_lss rfl rfl) ?_
            refine t_st rfl (st_pick_t rfl rfl) ?_
            refine t_nil ?_
            obtain rfl := some1 hm
            refine x_pullb 1 rfl ?_
            exact x_join (e' := [(1, .slice A5 (l8).length c6), (5, .slice A738 (l741).length c739), (6, .int .i64 ((k652 : Int))), (7, .pointer (some ⟨g665, 0, none⟩)), (8, .int .i64 ((k742 : Int))), (10, .slice A1 (l4).length c2), (11, .int .i64 ((l4.length : Int))), (12, .int .i64 ((k652 : Int))), (17, .slice A5 (l8).length c6), (18, .int .i64 ((l8.length : Int))), (19, .int .i64 ((k742 : Int))), (42, .bool (decide (x745.From < x655.To)))]) (hp' := (g665, Cl 54 [.int .i64 (x655.Need.Kind), .int .i64 (x655.Need.Place), .int .i64 (x655.Need.Position), .int .i64 (x655.Need.At), .int .i64 (x655.From), .int .i64 (x655.To)]) :: (hs737 ++ R)) ⟨rfl, rfl, rfl, rfl, rfl, rfl, rfl, rfl, rfl, rfl, rfl, rfl, trivial⟩ (.cons_cons _ (.cons _ (sub_app hs737 (.refl _)))) ⟨rfl, rfl, (Base.Le.refl _)⟩
          ·
            rw [if_neg hc767] at hm
            refine t_st rfl (st_pick_t rfl rfl) ?_
            refine t_st rfl (st_move rfl) ?_
            refine t_no 36 rfl rfl rfl rfl rfl ?_
            refine t_no 36 rfl rfl rfl rfl rfl ?_
            refine t_no 36 rfl rfl rfl rfl rfl ?_
            refine t_no 36 rfl rfl rfl rfl rfl ?_
            refine t_no 36 rfl rfl rfl rfl rfl ?_
            refine t_st rfl (st_pick_f rfl rfl) ?_
            refine t_nil ?_
            obtain rfl := some1 hm
            refine x_pullb 1 rfl ?_
            exact x_join (e' := [(1, .slice A5 (l8).length c6), (5, .slice A738 (l741).length c739), (6, .int .i64 ((k652 : Int))), (7, .pointer (some ⟨g665, 0, none⟩)), (8, .int .i64 ((k742 : Int))), (10, .slice A1 (l4).length c2), (11, .int .i64 ((l4.length : Int))), (12, .int .i64 ((k652 : Int))), (17, .slice A5 (l8).length c6), (18, .int .i64 ((l8.length : Int))), (19, .int .i64 ((k742 : Int))), (42, .bool (false))]) (hp' := (g665, Cl 54 [.int .i64 (x655.Need.Kind), .int .i64 (x655.Need.Place), .int .i64 (x655.Need.Position), .int .i64 (x655.Need.At), .int .i64 (x655.From), .int .i64 (x655.To)]) :: (hs737 ++ R)) ⟨rfl, rfl, rfl, rfl, rfl, rfl, rfl, rfl, rfl, rfl, rfl, rfl, trivial⟩ (.cons_cons _ (.cons _ (sub_app hs737 (.refl _)))) ⟨rfl, rfl, (Base.Le.refl _)⟩
        ·
          rw [if_neg (fun hh => Bool.noConfusion (hh.symm.trans hc766))] at hm
          refine t_resp 28 rfl (v' := .bool false) (by rw [hc766]) ?_
          refine t_st rfl (st_move rfl) ?_
          refine t_no 29 rfl rfl rfl rfl rfl ?_
          refine t_no 29 rfl rfl rfl rfl rfl ?_
          refine t_no 29 rfl rfl rfl rfl rfl ?_
          refine t_no 29 rfl rfl rfl rfl rfl ?_
          refine t_no 29 rfl rfl rfl rfl rfl ?_
          refine t_st rfl (st_pick_f rfl rfl) ?_
          refine t_st rfl (st_move rfl) ?_
          refine t_no 36 rfl rfl rfl rfl rfl ?_
          refine t_no 36 rfl rfl rfl rfl rfl ?_
          refine t_no 36 rfl rfl rfl rfl rfl ?_
          refine t_no 36 rfl rfl rfl rfl rfl ?_
          refine t_no 36 rfl rfl rfl rfl rfl ?_
          refine t_st rfl (st_pick_f rfl rfl) ?_
          refine t_nil ?_
          obtain rfl := some1 hm
          refine x_pullb 1 rfl ?_
          exact x_join (e' := [(1, .slice A5 (l8).length c6), (5, .slice A738 (l741).length c739), (6, .int .i64 ((k652 : Int))), (7, .pointer (some ⟨g665, 0, none⟩)), (8, .int .i64 ((k742 : Int))), (10, .slice A1 (l4).length c2), (11, .int .i64 ((l4.length : Int))), (12, .int .i64 ((k652 : Int))), (17, .slice A5 (l8).length c6), (18, .int .i64 ((l8.length : Int))), (19, .int .i64 ((k742 : Int))), (42, .bool (false))]) (hp' := (g665, Cl 54 [.int .i64 (x655.Need.Kind), .int .i64 (x655.Need.Place), .int .i64 (x655.Need.Position), .int .i64 (x655.Need.At), .int .i64 (x655.From), .int .i64 (x655.To)]) :: (hs737 ++ R)) ⟨rfl, rfl, rfl, rfl, rfl, rfl, rfl, rfl, rfl, rfl, rfl, rfl, trivial⟩ (.cons_cons _ (.cons _ (sub_app hs737 (.refl _)))) ⟨rfl, rfl, (Base.Le.refl _)⟩
      ·
        rintro b760 _ _ ⟨rfl, rfl, hle761⟩
        have hm := hk763
        refine c_cond _ rfl (fun hc768 => ?_) (fun hc768 => ?_)
        ·
          rw [if_pos hc768] at hm
          refine c_region ?_
          refine t_st rfl (st_move rfl) ?_
          refine t_st rfl (st_move rfl) ?_
          refine t_st rfl (st_move rfl) ?_
          refine t_st rfl (st_build (v := .agg #[.int .i64 ((k652 : Int)), .int .i64 ((k742 : Int))]) [(0, .int .i64 ((k652 : Int))), (1, .int .i64 ((k742 : Int)))] rfl (fun _ => by kernel_rfl)) ?_
          refine t_do rfl (u_bslice (el := 120) [(0, .agg #[.int .i64 ((k652 : Int)), .int .i64 ((k742 : Int))])] [.int .i64 ((k652 : Int)), .int .i64 ((k742 : Int))] rfl (fun _ => by kernel_rfl)) ?_
          rintro _ _ ⟨g769, rfl, rfl⟩
          obtain ⟨_, h770, hm⟩ := bindS hm
          have h770 := room_some h770
          refine t_do rfl (u_appOS (r := (RT.arr 2 (RT.int .i64))) (l := l741) [_, _] R [[.int .i64 ((k652 : Int)), .int .i64 ((k742 : Int))]] [[(k652 : Int), (k742 : Int)]] rfl (by decide) sl56 inf120 rfl rfl rfl rfl (h740.le hle761) rfl (fun w ho => Rd.own (i := 0) ho rfl) ⟨⟨rfl, [[.int .i64 ((k652 : Int))], [.int .i64 ((k742 : Int))]], rfl, ⟨rfl, ⟨rfl, trivial⟩⟩⟩, trivial⟩ h770) ?_
          rintro _ _ ⟨hs771, rfl, h772⟩
          obtain ⟨A773, c774, rfl, _⟩ := h772.form
          refine t_st rfl (st_assign rfl) ?_
          refine t_nil ?_
          refine x_block_normal ?_
          refine x_then_normal ?_
          refine c_region ?_
          refine t_st rfl (st_add rfl rfl (by omega)) ?_
          refine t_st rfl (st_move rfl) ?_
          refine t_nil ?_
          refine x_pullb 1 rfl ?_
          obtain rfl := some1 hm
          exact x_againS (e' := [(1, .slice A5 (l8).length c6), (5, .slice A773 (l741 ++ [[(k652 : Int), (k742 : Int)]]).length c774), (6, .int .i64 ((k652 : Int))), (7, .pointer (some ⟨g665, 0, none⟩)), (10, .slice A1 (l4).length c2), (11, .int .i64 ((l4.length : Int))), (12, .int .i64 ((k652 : Int))), (17, .slice A5 (l8).length c6), (18, .int .i64 ((l8.length : Int))), (19, .int .i64 ((k742 : Int) + 1))]) (hp' := (g665, Cl 54 [.int .i64 (x655.Need.Kind), .int .i64 (x655.Need.Place), .int .i64 (x655.Need.Position), .int .i64 (x655.Need.At), .int .i64 (x655.From), .int .i64 (x655.To)]) :: (hs771 ++ R)) ⟨rfl, rfl, rfl, rfl, rfl, rfl, rfl, rfl, rfl, rfl, trivial⟩ (.cons_cons _ (.cons _ (sub_app hs771 (.refl _)))) ⟨A773, c774, hs771, rfl, rfl, ((hle735.trans hle761)), h772⟩
        ·
          rw [if_neg (fun hh => Bool.noConfusion (hh.symm.trans hc768))] at hm
          refine c_skip ?_
          refine x_block_normal ?_
          refine x_then_normal ?_
          refine c_region ?_
          refine t_st rfl (st_add rfl rfl (by omega)) ?_
          refine t_st rfl (st_move rfl) ?_
          refine t_nil ?_
          obtain rfl := some1 hm
          exact x_againS (e' := [(1, .slice A5 (l8).length c6), (5, .slice A738 (l741).length c739), (6, .int .i64 ((k652 : Int))), (7, .pointer (some ⟨g665, 0, none⟩)), (10, .slice A1 (l4).length c2), (11, .int .i64 ((l4.length : Int))), (12, .int .i64 ((k652 : Int))), (17, .slice A5 (l8).length c6), (18, .int .i64 ((l8.length : Int))), (19, .int .i64 ((k742 : Int) + 1))]) (hp' := (g665, Cl 54 [.int .i64 (x655.Need.Kind), .int .i64 (x655.Need.Place), .int .i64 (x655.Need.Position), .int .i64 (x655.Need.At), .int .i64 (x655.From), .int .i64 (x655.To)]) :: (hs737 ++ R)) ⟨rfl, rfl, rfl, rfl, rfl, rfl, rfl, rfl, rfl, rfl, trivial⟩ (.cons_cons _ (sub_app hs737 (.refl _))) ⟨A738, c739, hs737, rfl, rfl, ((hle735.trans hle761)), (h740.le hle761)⟩
    ·
      rintro b734 _ _ ⟨A738, c739, hs737, rfl, rfl, hle735, h740⟩
      have hm := hk744
      refine c_seq ?_
      refine c_region ?_
      refine t_st rfl (st_lss_f rfl rfl (by omega)) ?_
      refine t_nil ?_
      refine x_then_normal ?_
      refine c_seq ?_
      refine c_cond_f rfl ?_
      refine c_exit ?_
      refine x_then_exit ?_
      refine x_then_exit ?_
      refine x_block_out ?_
      refine x_block_normal ?_
      refine x_then_normal ?_
      refine c_region ?_
      refine t_st rfl (st_add rfl rfl (by omega)) ?_
      refine t_st rfl (st_move rfl) ?_
      refine t_nil ?_
      obtain rfl := some1 hm
      exact x_againS (e' := [(1, .slice A5 (l8).length c6), (5, .slice A738 (l741).length c739), (10, .slice A1 (l4).length c2), (11, .int .i64 ((l4.length : Int))), (12, .int .i64 ((k652 : Int) + 1))]) (hp' := (hs737 ++ R)) ⟨rfl, rfl, rfl, rfl, rfl, trivial⟩ (.cons _ (sub_app hs737 (.refl _))) ⟨A738, c739, hs737, rfl, rfl, ((hle645.trans hle735)), h740⟩
  ·
    rintro b644 _ _ ⟨A648, c649, hs647, rfl, rfl, hle645, h650⟩
    have hm := hk654
    refine c_seq ?_
    refine c_region ?_
    refine t_st rfl (st_lss_f rfl rfl (by omega)) ?_
    refine t_nil ?_
    refine x_then_normal ?_
    refine c_seq ?_
    refine c_cond_f rfl ?_
    refine c_exit ?_
    refine x_then_exit ?_
    refine x_then_exit ?_
    refine x_block_out ?_
    refine x_then_normal ?_
    refine c_seq ?_
    refine c_region ?_
    refine t_st rfl (st_move rfl) ?_
    refine t_st rfl (st_assign rfl) ?_
    refine t_nil ?_
    refine x_then_normal ?_
    refine c_ret ?_
    obtain rfl := some1 hm
    exact retM (rs := [.tmp 4]) [.slice A648 (l651).length c649] hle645 (by decide) rfl ⟨rfl, trivial⟩ rfl (hp' := (hs647 ++ R)) (sub_app hs647 (.refl _)) ⟨A648, c649, hs647, rfl, rfl, h650⟩

end Go.Proofs.YtljcafilceachaaDoor
