/- Contracts: the code computes its model (part 6). -/
import Derived.Test.YtljcafilceachaaDoorP5
set_option linter.unusedVariables false
set_option linter.unusedSimpArgs false
namespace Go.Proofs.YtljcafilceachaaDoor
open Go.RowKit Go.Fp

set_option maxRecDepth 20000 in
theorem cFishkeep1SecondKeeps (b : Base) (R : Hp) (s1 : ApiStock) (l5 : (List ApiPiece)) (s6 : ApiState) (s7 : ApiState) (x8 : Int) (x9 : Bool) (A2 : Option Addr) (c3 : Nat) (h4 : FZ rApiPiece b.w A2 c3 l5) (x167 : Bool) (hm : mFishkeep1SecondKeeps s1 l5 s6 s7 x8 x9 = some x167) :
    CallsG Tryd.prog 43 [.agg #[.string (s1.Name), .int .i64 (s1.Length), .int .i64 (s1.Mass), .int .i64 (s1.Start), .int .i64 (s1.Power), .int .i64 (s1.Roll), .int .i64 (s1.Drag), .int .i64 (s1.Brake), .int .i64 (s1.Top), .int .i64 (s1.Seats)], .slice A2 (l5).length c3, .agg #[.int .i64 (s6.At), .int .i64 (s6.Speed), .int .i64 (s6.Work)], .agg #[.int .i64 (s7.At), .int .i64 (s7.Speed), .int .i64 (s7.Work)], .int .i64 (x8), .bool (x9)] b (R) (fun v b' hp' => .bool (x167) = v ∧ R = hp') := by
  refine fn_enterG 145 Tryd.func43 rfl Tryd.ntmps43 rfl ?_
  unfold mFishkeep1SecondKeeps at hm
  refine c_seq ?_
  refine c_region ?_
  refine t_do rfl (u_box _ rfl rfl) ?_
  rintro _ _ ⟨g168, rfl, rfl⟩
  refine t_do rfl (u_box _ rfl rfl) ?_
  rintro _ _ ⟨g169, rfl, rfl⟩
  refine t_do rfl (u_box _ rfl rfl) ?_
  rintro _ _ ⟨g170, rfl, rfl⟩
  refine t_st rfl (st_assign rfl) ?_
  refine t_nil ?_
  refine x_then_normal ?_
  refine c_seq ?_
  refine c_region ?_
  refine t_st rfl (st_field rfl fld82_0) ?_
  refine t_st rfl (st_load 1 rfl one3 rfl rfl) ?_
  refine t_st rfl (st_field rfl fld82_1) ?_
  refine t_st rfl (st_load 1 rfl one3 rfl rfl) ?_
  refine t_st rfl (st_field rfl fld82_1) ?_
  refine t_st rfl (st_load 0 rfl one3 rfl rfl) ?_
  obtain ⟨_, h171, hm⟩ := bindS hm
  have h171 := (chk_some h171).2
  refine t_st rfl (st_add rfl rfl h171) ?_
  obtain ⟨_, h172, hm⟩ := bindS hm
  have h172 := (chk_some h172).2
  refine t_st rfl (st_add rfl rfl h172) ?_
  obtain ⟨_, h173, hm⟩ := bindS hm
  obtain ⟨_, h174, hm⟩ := bindS hm
  have h174 := (chk_some h174).2
  refine t_st rfl (st_quo rfl rfl (ne0_some h173) h174) ?_
  obtain ⟨_, h175, hm⟩ := bindS hm
  have h175 := (chk_some h175).2
  refine t_st rfl (st_add rfl rfl h175) ?_
  refine t_st rfl (st_assign rfl) ?_
  refine t_nil ?_
  refine x_then_normal ?_
  refine c_seq ?_
  obtain ⟨x185, hj186, hk186⟩ := bindS hm
  refine c_join (fun b183 e' hp' => [(1, .slice A2 (l5).length c3), (6, .pointer (some ⟨g168, 0, none⟩)), (8, .pointer (some ⟨g169, 0, none⟩)), (9, .pointer (some ⟨g170, 0, none⟩)), (13, .int .i64 (s6.At + (Int.tdiv ((s6.Speed + s7.Speed) + 1) 2))), (62, .bool (x185))] = e' ∧ (g168, Cl 43 [.string (s1.Name), .int .i64 (s1.Length), .int .i64 (s1.Mass), .int .i64 (s1.Start), .int .i64 (s1.Power), .int .i64 (s1.Roll), .int .i64 (s1.Drag), .int .i64 (s1.Brake), .int .i64 (s1.Top), .int .i64 (s1.Seats)]) :: (g169, Cl 82 [.int .i64 (s6.At), .int .i64 (s6.Speed), .int .i64 (s6.Work)]) :: (g170, Cl 82 [.int .i64 (s7.At), .int .i64 (s7.Speed), .int .i64 (s7.Work)]) :: R = hp' ∧ b.Le b183) ?_ ?_
  ·
    have hm := hj186
    refine c_region ?_
    refine t_st rfl (st_field rfl fld82_0) ?_
    refine t_st rfl (st_load 0 rfl one3 rfl rfl) ?_
    refine t_st rfl (st_move rfl) ?_
    refine t_bool rfl (st_neq rfl rfl) (fun hc187 => ?_) (fun hc187 => ?_)
    ·
      rw [if_pos hc187] at hm
      refine t_st rfl (st_move rfl) ?_
      refine t_yes 35 rfl rfl rfl ?_
      refine t_st rfl (st_move rfl) ?_
      rcases Bool.eq_false_or_eq_true x9 with hc188 | hc188
      ·
        rw [if_pos hc188] at hm
        refine t_resp 36 rfl (v' := .bool true) (by rw [hc188]) ?_
        refine t_yes 35 rfl rfl rfl ?_
        refine t_st rfl (st_move rfl) ?_
        refine t_yes 37 rfl rfl rfl ?_
        refine t_st rfl (st_move rfl) ?_
        refine t_yes 37 rfl rfl rfl ?_
        refine t_st rfl (st_move rfl) ?_
        refine t_yes 37 rfl rfl rfl ?_
        refine t_bool rfl (st_leq rfl rfl) (fun hc189 => ?_) (fun hc189 => ?_)
        ·
          rw [if_pos hc189] at hm
          refine t_yes 35 rfl rfl rfl ?_
          refine t_st rfl (st_pick_t rfl rfl) ?_
          refine t_yes 35 rfl rfl rfl ?_
          refine t_st rfl (st_move rfl) ?_
          refine t_yes 42 rfl rfl rfl ?_
          refine t_st rfl (st_move rfl) ?_
          refine t_yes 42 rfl rfl rfl ?_
          refine t_st rfl (st_move rfl) ?_
          refine t_yes 42 rfl rfl rfl ?_
          obtain ⟨_, h190, hm⟩ := bindS hm
          have h190 := (chk_some h190).2
          refine t_st rfl (st_sub rfl rfl h190) ?_
          refine t_yes 42 rfl rfl rfl ?_
          refine t_bool rfl (st_leq rfl rfl) (fun hc191 => ?_) (fun hc191 => ?_)
          ·
            rw [if_pos hc191] at hm
            refine t_yes 35 rfl rfl rfl ?_
            refine t_st rfl (st_pick_t rfl rfl) ?_
            refine t_yes 35 rfl rfl rfl ?_
            refine t_st rfl (st_not_t rfl) ?_
            refine t_st rfl (st_pick_t rfl rfl) ?_
            refine t_st rfl (st_move rfl) ?_
            refine t_yes 50 rfl rfl rfl ?_
            refine t_st rfl (st_field rfl fld82_1) ?_
            refine t_yes 50 rfl rfl rfl ?_
            refine t_st rfl (st_load 0 rfl one3 rfl rfl) ?_
            refine t_yes 50 rfl rfl rfl ?_
            refine t_st rfl (st_field rfl fld43_8) ?_
            refine t_yes 50 rfl rfl rfl ?_
            refine t_st rfl (st_load 2 rfl one3 rfl rfl) ?_
            refine t_yes 50 rfl rfl rfl ?_
            refine t_bool rfl (st_gtr rfl rfl) (fun hc192 => ?_) (fun hc192 => ?_)
            ·
              rw [if_pos hc192] at hm
              refine t_st rfl (st_pick_f rfl rfl) ?_
              refine t_st rfl (st_move rfl) ?_
              refine t_no 57 rfl rfl rfl rfl rfl ?_
              refine t_no 57 rfl rfl rfl rfl rfl ?_
              refine t_no 57 rfl rfl rfl rfl rfl ?_
              refine t_no 57 rfl rfl rfl rfl rfl ?_
              refine t_st rfl (st_pick_t rfl rfl) ?_
              refine t_nil ?_
              obtain rfl := some1 hm
              refine x_pullb 1 rfl ?_
              refine x_pullb 2 rfl ?_
              exact x_join (e' := [(1, .slice A2 (l5).length c3), (6, .pointer (some ⟨g168, 0, none⟩)), (8, .pointer (some ⟨g169, 0, none⟩)), (9, .pointer (some ⟨g170, 0, none⟩)), (13, .int .i64 (s6.At + (Int.tdiv ((s6.Speed + s7.Speed) + 1) 2))), (62, .bool (true))]) (hp' := (g168, Cl 43 [.string (s1.Name), .int .i64 (s1.Length), .int .i64 (s1.Mass), .int .i64 (s1.Start), .int .i64 (s1.Power), .int .i64 (s1.Roll), .int .i64 (s1.Drag), .int .i64 (s1.Brake), .int .i64 (s1.Top), .int .i64 (s1.Seats)]) :: (g169, Cl 82 [.int .i64 (s6.At), .int .i64 (s6.Speed), .int .i64 (s6.Work)]) :: (g170, Cl 82 [.int .i64 (s7.At), .int .i64 (s7.Speed), .int .i64 (s7.Work)]) :: R) ⟨rfl, rfl, rfl, rfl, rfl, rfl, trivial⟩ (.cons_cons _ (.cons_cons _ (.cons_cons _ (.refl _)))) ⟨rfl, rfl, (Base.Le.refl _)⟩
            ·
              rw [if_neg hc192] at hm
              refine t_st rfl (st_pick_f rfl rfl) ?_
              refine t_st rfl (st_move rfl) ?_
              refine t_yes 57 rfl rfl rfl ?_
              refine t_st rfl (st_field rfl fld82_0) ?_
              refine t_yes 57 rfl rfl rfl ?_
              refine t_st rfl (st_load 0 rfl one3 rfl rfl) ?_
              refine t_yes 57 rfl rfl rfl ?_
              refine t_st rfl (st_move rfl) ?_
              refine t_yes 57 rfl rfl rfl ?_
              refine t_st rfl (st_gtr rfl rfl) ?_
              refine t_st rfl (st_pick_f rfl rfl) ?_
              refine t_nil ?_
              obtain rfl := some1 hm
              refine x_pullb 1 rfl ?_
              refine x_pullb 2 rfl ?_
              exact x_join (e' := [(1, .slice A2 (l5).length c3), (6, .pointer (some ⟨g168, 0, none⟩)), (8, .pointer (some ⟨g169, 0, none⟩)), (9, .pointer (some ⟨g170, 0, none⟩)), (13, .int .i64 (s6.At + (Int.tdiv ((s6.Speed + s7.Speed) + 1) 2))), (62, .bool (decide (x8 < s7.At)))]) (hp' := (g168, Cl 43 [.string (s1.Name), .int .i64 (s1.Length), .int .i64 (s1.Mass), .int .i64 (s1.Start), .int .i64 (s1.Power), .int .i64 (s1.Roll), .int .i64 (s1.Drag), .int .i64 (s1.Brake), .int .i64 (s1.Top), .int .i64 (s1.Seats)]) :: (g169, Cl 82 [.int .i64 (s6.At), .int .i64 (s6.Speed), .int .i64 (s6.Work)]) :: (g170, Cl 82 [.int .i64 (s7.At), .int .i64 (s7.Speed), .int .i64 (s7.Work)]) :: R) ⟨rfl, rfl, rfl, rfl, rfl, rfl, trivial⟩ (.cons_cons _ (.cons_cons _ (.cons_cons _ (.refl _)))) ⟨rfl, rfl, (Base.Le.refl _)⟩
          ·
            rw [if_neg hc191] at hm
            refine t_yes 35 rfl rfl rfl ?_
            refine t_st rfl (st_pick_t rfl rfl) ?_
            refine t_yes 35 rfl rfl rfl ?_
            refine t_st rfl (st_not_f rfl) ?_
            refine t_st rfl (st_pick_t rfl rfl) ?_
            refine t_st rfl (st_move rfl) ?_
            refine t_no 50 rfl rfl rfl rfl rfl ?_
            refine t_no 50 rfl rfl rfl rfl rfl ?_
            refine t_no 50 rfl rfl rfl rfl rfl ?_
            refine t_no 50 rfl rfl rfl rfl rfl ?_
            refine t_no 50 rfl rfl rfl rfl rfl ?_
            refine t_st rfl (st_pick_t rfl rfl) ?_
            refine t_st rfl (st_move rfl) ?_
            refine t_no 57 rfl rfl rfl rfl rfl ?_
            refine t_no 57 rfl rfl rfl rfl rfl ?_
            refine t_no 57 rfl rfl rfl rfl rfl ?_
            refine t_no 57 rfl rfl rfl rfl rfl ?_
            refine t_st rfl (st_pick_t rfl rfl) ?_
            refine t_nil ?_
            obtain rfl := some1 hm
            refine x_pullb 1 rfl ?_
            refine x_pullb 2 rfl ?_
            exact x_join (e' := [(1, .slice A2 (l5).length c3), (6, .pointer (some ⟨g168, 0, none⟩)), (8, .pointer (some ⟨g169, 0, none⟩)), (9, .pointer (some ⟨g170, 0, none⟩)), (13, .int .i64 (s6.At + (Int.tdiv ((s6.Speed + s7.Speed) + 1) 2))), (62, .bool (true))]) (hp' := (g168, Cl 43 [.string (s1.Name), .int .i64 (s1.Length), .int .i64 (s1.Mass), .int .i64 (s1.Start), .int .i64 (s1.Power), .int .i64 (s1.Roll), .int .i64 (s1.Drag), .int .i64 (s1.Brake), .int .i64 (s1.Top), .int .i64 (s1.Seats)]) :: (g169, Cl 82 [.int .i64 (s6.At), .int .i64 (s6.Speed), .int .i64 (s6.Work)]) :: (g170, Cl 82 [.int .i64 (s7.At), .int .i64 (s7.Speed), .int .i64 (s7.Work)]) :: R) ⟨rfl, rfl, rfl, rfl, rfl, rfl, trivial⟩ (.cons_cons _ (.cons_cons _ (.cons_cons _ (.refl _)))) ⟨rfl, rfl, (Base.Le.refl _)⟩
        ·
          rw [if_neg hc189] at hm
          refine t_yes 35 rfl rfl rfl ?_
          refine t_st rfl (st_pick_t rfl rfl) ?_
          refine t_yes 35 rfl rfl rfl ?_
          refine t_st rfl (st_move rfl) ?_
          refine t_no 42 rfl rfl rfl rfl rfl ?_
          refine t_no 42 rfl rfl rfl rfl rfl ?_
          refine t_no 42 rfl rfl rfl rfl rfl ?_
          refine t_no 42 rfl rfl rfl rfl rfl ?_
          refine t_yes 35 rfl rfl rfl ?_
          refine t_st rfl (st_pick_f rfl rfl) ?_
          refine t_yes 35 rfl rfl rfl ?_
          refine t_st rfl (st_not_f rfl) ?_
          refine t_st rfl (st_pick_t rfl rfl) ?_
          refine t_st rfl (st_move rfl) ?_
          refine t_no 50 rfl rfl rfl rfl rfl ?_
          refine t_no 50 rfl rfl rfl rfl rfl ?_
          refine t_no 50 rfl rfl rfl rfl rfl ?_
          refine t_no 50 rfl rfl rfl rfl rfl ?_
          refine t_no 50 rfl rfl rfl rfl rfl ?_
          refine t_st rfl (st_pick_t rfl rfl) ?_
          refine t_st rfl (st_move rfl) ?_
          refine t_no 57 rfl rfl rfl rfl rfl ?_
          refine t_no 57 rfl rfl rfl rfl rfl ?_
          refine t_no 57 rfl rfl rfl rfl rfl ?_
          refine t_no 57 rfl rfl rfl rfl rfl ?_
          refine t_st rfl (st_pick_t rfl rfl) ?_
          refine t_nil ?_
          obtain rfl := some1 hm
          refine x_pullb 1 rfl ?_
          refine x_pullb 2 rfl ?_
          exact x_join (e' := [(1, .slice A2 (l5).length c3), (6, .pointer (some ⟨g168, 0, none⟩)), (8, .pointer (some ⟨g169, 0, none⟩)), (9, .pointer (some ⟨g170, 0, none⟩)), (13, .int .i64 (s6.At + (Int.tdiv ((s6.Speed + s7.Speed) + 1) 2))), (62, .bool (true))]) (hp' := (g168, Cl 43 [.string (s1.Name), .int .i64 (s1.Length), .int .i64 (s1.Mass), .int .i64 (s1.Start), .int .i64 (s1.Power), .int .i64 (s1.Roll), .int .i64 (s1.Drag), .int .i64 (s1.Brake), .int .i64 (s1.Top), .int .i64 (s1.Seats)]) :: (g169, Cl 82 [.int .i64 (s6.At), .int .i64 (s6.Speed), .int .i64 (s6.Work)]) :: (g170, Cl 82 [.int .i64 (s7.At), .int .i64 (s7.Speed), .int .i64 (s7.Work)]) :: R) ⟨rfl, rfl, rfl, rfl, rfl, rfl, trivial⟩ (.cons_cons _ (.cons_cons _ (.cons_cons _ (.refl _)))) ⟨rfl, rfl, (Base.Le.refl _)⟩
      ·
        rw [if_neg (fun hh => Bool.noConfusion (hh.symm.trans hc188))] at hm
        refine t_resp 36 rfl (v' := .bool false) (by rw [hc188]) ?_
        refine t_yes 35 rfl rfl rfl ?_
        refine t_st rfl (st_move rfl) ?_
        refine t_no 37 rfl rfl rfl rfl rfl ?_
        refine t_no 37 rfl rfl rfl rfl rfl ?_
        refine t_no 37 rfl rfl rfl rfl rfl ?_
        refine t_yes 35 rfl rfl rfl ?_
        refine t_st rfl (st_pick_f rfl rfl) ?_
        refine t_yes 35 rfl rfl rfl ?_
        refine t_st rfl (st_move rfl) ?_
        refine t_no 42 rfl rfl rfl rfl rfl ?_
        refine t_no 42 rfl rfl rfl rfl rfl ?_
        refine t_no 42 rfl rfl rfl rfl rfl ?_
        refine t_no 42 rfl rfl rfl rfl rfl ?_
        refine t_yes 35 rfl rfl rfl ?_
        refine t_st rfl (st_pick_f rfl rfl) ?_
        refine t_yes 35 rfl rfl rfl ?_
        refine t_st rfl (st_not_f rfl) ?_
        refine t_st rfl (st_pick_t rfl rfl) ?_
        refine t_st rfl (st_move rfl) ?_
        refine t_no 50 rfl rfl rfl rfl rfl ?_
        refine t_no 50 rfl rfl rfl rfl rfl ?_
        refine t_no 50 rfl rfl rfl rfl rfl ?_
        refine t_no 50 rfl rfl rfl rfl rfl ?_
        refine t_no 50 rfl rfl rfl rfl rfl ?_
        refine t_st rfl (st_pick_t rfl rfl) ?_
        refine t_st rfl (st_move rfl) ?_
        refine t_no 57 rfl rfl rfl rfl rfl ?_
        refine t_no 57 rfl rfl rfl rfl rfl ?_
        refine t_no 57 rfl rfl rfl rfl rfl ?_
        refine t_no 57 rfl rfl rfl rfl rfl ?_
        refine t_st rfl (st_pick_t rfl rfl) ?_
        refine t_nil ?_
        obtain rfl := some1 hm
        refine x_pullb 1 rfl ?_
        refine x_pullb 2 rfl ?_
        exact x_join (e' := [(1, .slice A2 (l5).length c3), (6, .pointer (some ⟨g168, 0, none⟩)), (8, .pointer (some ⟨g169, 0, none⟩)), (9, .pointer (some ⟨g170, 0, none⟩)), (13, .int .i64 (s6.At + (Int.tdiv ((s6.Speed + s7.Speed) + 1) 2))), (62, .bool (true))]) (hp' := (g168, Cl 43 [.string (s1.Name), .int .i64 (s1.Length), .int .i64 (s1.Mass), .int .i64 (s1.Start), .int .i64 (s1.Power), .int .i64 (s1.Roll), .int .i64 (s1.Drag), .int .i64 (s1.Brake), .int .i64 (s1.Top), .int .i64 (s1.Seats)]) :: (g169, Cl 82 [.int .i64 (s6.At), .int .i64 (s6.Speed), .int .i64 (s6.Work)]) :: (g170, Cl 82 [.int .i64 (s7.At), .int .i64 (s7.Speed), .int .i64 (s7.Work)]) :: R) ⟨rfl, rfl, rfl, rfl, rfl, rfl, trivial⟩ (.cons_cons _ (.cons_cons _ (.cons_cons _ (.refl _)))) ⟨rfl, rfl, (Base.Le.refl _)⟩
    ·
      rw [if_neg hc187] at hm
      refine t_st rfl (st_move rfl) ?_
      refine t_no 35 rfl rfl rfl rfl rfl ?_
      refine t_no 35 rfl rfl rfl rfl rfl ?_
      refine t_no 37 rfl rfl rfl rfl rfl ?_
      refine t_no 37 rfl rfl rfl rfl rfl ?_
      refine t_no 37 rfl rfl rfl rfl rfl ?_
      refine t_no 35 rfl rfl rfl rfl rfl ?_
      refine t_no 35 rfl rfl rfl rfl rfl ?_
      refine t_no 42 rfl rfl rfl rfl rfl ?_
      refine t_no 42 rfl rfl rfl rfl rfl ?_
      refine t_no 42 rfl rfl rfl rfl rfl ?_
      refine t_no 42 rfl rfl rfl rfl rfl ?_
      refine t_no 35 rfl rfl rfl rfl rfl ?_
      refine t_no 35 rfl rfl rfl rfl rfl ?_
      refine t_st rfl (st_pick_f rfl rfl) ?_
      refine t_st rfl (st_move rfl) ?_
      refine t_yes 50 rfl rfl rfl ?_
      refine t_st rfl (st_field rfl fld82_1) ?_
      refine t_yes 50 rfl rfl rfl ?_
      refine t_st rfl (st_load 0 rfl one3 rfl rfl) ?_
      refine t_yes 50 rfl rfl rfl ?_
      refine t_st rfl (st_field rfl fld43_8) ?_
      refine t_yes 50 rfl rfl rfl ?_
      refine t_st rfl (st_load 2 rfl one3 rfl rfl) ?_
      refine t_yes 50 rfl rfl rfl ?_
      refine t_bool rfl (st_gtr rfl rfl) (fun hc193 => ?_) (fun hc193 => ?_)
      ·
        rw [if_pos hc193] at hm
        refine t_st rfl (st_pick_f rfl rfl) ?_
        refine t_st rfl (st_move rfl) ?_
        refine t_no 57 rfl rfl rfl rfl rfl ?_
        refine t_no 57 rfl rfl rfl rfl rfl ?_
        refine t_no 57 rfl rfl rfl rfl rfl ?_
        refine t_no 57 rfl rfl rfl rfl rfl ?_
        refine t_st rfl (st_pick_t rfl rfl) ?_
        refine t_nil ?_
        obtain rfl := some1 hm
        refine x_pullb 1 rfl ?_
        refine x_pullb 2 rfl ?_
        exact x_join (e' := [(1, .slice A2 (l5).length c3), (6, .pointer (some ⟨g168, 0, none⟩)), (8, .pointer (some ⟨g169, 0, none⟩)), (9, .pointer (some ⟨g170, 0, none⟩)), (13, .int .i64 (s6.At + (Int.tdiv ((s6.Speed + s7.Speed) + 1) 2))), (62, .bool (true))]) (hp' := (g168, Cl 43 [.string (s1.Name), .int .i64 (s1.Length), .int .i64 (s1.Mass), .int .i64 (s1.Start), .int .i64 (s1.Power), .int .i64 (s1.Roll), .int .i64 (s1.Drag), .int .i64 (s1.Brake), .int .i64 (s1.Top), .int .i64 (s1.Seats)]) :: (g169, Cl 82 [.int .i64 (s6.At), .int .i64 (s6.Speed), .int .i64 (s6.Work)]) :: (g170, Cl 82 [.int .i64 (s7.At), .int .i64 (s7.Speed), .int .i64 (s7.Work)]) :: R) ⟨rfl, rfl, rfl, rfl, rfl, rfl, trivial⟩ (.cons_cons _ (.cons_cons _ (.cons_cons _ (.refl _)))) ⟨rfl, rfl, (Base.Le.refl _)⟩
      ·
        rw [if_neg hc193] at hm
        refine t_st rfl (st_pick_f rfl rfl) ?_
        refine t_st rfl (st_move rfl) ?_
        refine t_yes 57 rfl rfl rfl ?_
        refine t_st rfl (st_field rfl fld82_0) ?_
        refine t_yes 57 rfl rfl rfl ?_
        refine t_st rfl (st_load 0 rfl one3 rfl rfl) ?_
        refine t_yes 57 rfl rfl rfl ?_
        refine t_st rfl (st_move rfl) ?_
        refine t_yes 57 rfl rfl rfl ?_
        refine t_st rfl (st_gtr rfl rfl) ?_
        refine t_st rfl (st_pick_f rfl rfl) ?_
        refine t_nil ?_
        obtain rfl := some1 hm
        refine x_pullb 1 rfl ?_
        refine x_pullb 2 rfl ?_
        exact x_join (e' := [(1, .slice A2 (l5).length c3), (6, .pointer (some ⟨g168, 0, none⟩)), (8, .pointer (some ⟨g169, 0, none⟩)), (9, .pointer (some ⟨g170, 0, none⟩)), (13, .int .i64 (s6.At + (Int.tdiv ((s6.Speed + s7.Speed) + 1) 2))), (62, .bool (decide (x8 < s7.At)))]) (hp' := (g168, Cl 43 [.string (s1.Name), .int .i64 (s1.Length), .int .i64 (s1.Mass), .int .i64 (s1.Start), .int .i64 (s1.Power), .int .i64 (s1.Roll), .int .i64 (s1.Drag), .int .i64 (s1.Brake), .int .i64 (s1.Top), .int .i64 (s1.Seats)]) :: (g169, Cl 82 [.int .i64 (s6.At), .int .i64 (s6.Speed), .int .i64 (s6.Work)]) :: (g170, Cl 82 [.int .i64 (s7.At), .int .i64 (s7.Speed), .int .i64 (s7.Work)]) :: R) ⟨rfl, rfl, rfl, rfl, rfl, rfl, trivial⟩ (.cons_cons _ (.cons_cons _ (.cons_cons _ (.refl _)))) ⟨rfl, rfl, (Base.Le.refl _)⟩
  ·
    rintro b183 _ _ ⟨rfl, rfl, hle184⟩
    have hm := hk186
    refine c_cond _ rfl (fun hc194 => ?_) (fun hc194 => ?_)
    ·
      rw [if_pos hc194] at hm
      refine c_seq ?_
      refine c_region ?_
      refine t_st rfl (st_assign rfl) ?_
      refine t_nil ?_
      refine x_then_normal ?_
      refine c_ret ?_
      refine x_then_ret ?_
      obtain rfl := some1 hm
      exact retM (rs := [.tmp 12]) [.bool (false)] hle184 (by decide) rfl ⟨rfl, trivial⟩ rfl (hp' := R) (.cons _ (.cons _ (.cons _ (.refl _)))) ⟨rfl, rfl⟩
    ·
      rw [if_neg (fun hh => Bool.noConfusion (hh.symm.trans hc194))] at hm
      refine c_skip ?_
      refine x_then_normal ?_
      refine c_seq ?_
      refine c_region ?_
      refine t_st rfl (st_assign rfl) ?_
      refine t_st rfl (st_assign rfl) ?_
      refine t_nil ?_
      refine x_then_normal ?_
      refine c_seq ?_
      refine c_seq ?_
      refine c_region ?_
      refine t_st rfl (st_move rfl) ?_
      refine t_st rfl (st_len rfl sl80) ?_
      refine t_st rfl (st_move rfl) ?_
      refine t_nil ?_
      refine x_then_normal ?_
      refine c_block ?_
      have hb196 := (FZ.bd (h4.le hle184))
      refine c_pullb 2 rfl ?_
      refine c_pullb 2 rfl ?_
      refine c_pullb 2 rfl ?_
      obtain ⟨t270, hl271, hk272⟩ := bindS hm
      refine c_forM (fun k269 => unc2 fun x267 x268 => fun b265 e' hp' => [(6, .pointer (some ⟨g168, 0, none⟩)), (8, .pointer (some ⟨g169, 0, none⟩)), (9, .pointer (some ⟨g170, 0, none⟩)), (13, .int .i64 (s6.At + (Int.tdiv ((s6.Speed + s7.Speed) + 1) 2))), (14, .int .i64 (x267)), (15, .int .i64 (x268)), (63, .slice A2 (l5).length c3), (64, .int .i64 ((l5.length : Int))), (65, .int .i64 ((k269 : Int)))] = e' ∧ (g168, Cl 43 [.string (s1.Name), .int .i64 (s1.Length), .int .i64 (s1.Mass), .int .i64 (s1.Start), .int .i64 (s1.Power), .int .i64 (s1.Roll), .int .i64 (s1.Drag), .int .i64 (s1.Brake), .int .i64 (s1.Top), .int .i64 (s1.Seats)]) :: (g169, Cl 82 [.int .i64 (s6.At), .int .i64 (s6.Speed), .int .i64 (s6.Work)]) :: (g170, Cl 82 [.int .i64 (s7.At), .int .i64 (s7.Speed), .int .i64 (s7.Work)]) :: R = hp' ∧ b183.Le b265) hl271 (e' := [(6, .pointer (some ⟨g168, 0, none⟩)), (8, .pointer (some ⟨g169, 0, none⟩)), (9, .pointer (some ⟨g170, 0, none⟩)), (13, .int .i64 (s6.At + (Int.tdiv ((s6.Speed + s7.Speed) + 1) 2))), (14, .int .i64 (0)), (15, .int .i64 (0)), (63, .slice A2 (l5).length c3), (64, .int .i64 ((l5.length : Int))), (65, .int .i64 0)]) (hp' := (g168, Cl 43 [.string (s1.Name), .int .i64 (s1.Length), .int .i64 (s1.Mass), .int .i64 (s1.Start), .int .i64 (s1.Power), .int .i64 (s1.Roll), .int .i64 (s1.Drag), .int .i64 (s1.Brake), .int .i64 (s1.Top), .int .i64 (s1.Seats)]) :: (g169, Cl 82 [.int .i64 (s6.At), .int .i64 (s6.Speed), .int .i64 (s6.Work)]) :: (g170, Cl 82 [.int .i64 (s7.At), .int .i64 (s7.Speed), .int .i64 (s7.Work)]) :: R) ⟨rfl, rfl, rfl, rfl, rfl, rfl, rfl, rfl, rfl, trivial⟩ (.cons_cons _ (.cons_cons _ (.cons_cons _ (.refl _)))) ⟨rfl, rfl, (Base.Le.refl _)⟩ ?_ ?_
      ·
        rintro k269 ⟨x267, x268⟩ b265 _ _ oL195 hknL195 ⟨rfl, rfl, hle266⟩ hstepL195 houtL195
        unfold mFishkeep1SecondKeeps_L195 at hstepL195
        have hm := (unc2E hstepL195)
        refine c_seq ?_
        refine c_region ?_
        refine t_st rfl (st_lss_t rfl rfl (by omega)) ?_
        refine t_nil ?_
        refine x_then_normal ?_
        refine c_seq ?_
        refine c_cond_t rfl ?_
        refine c_skip ?_
        refine x_then_normal ?_
        refine c_seq ?_
        refine c_block ?_
        refine c_seq ?_
        refine c_region ?_
        obtain ⟨x273, h274, hm⟩ := bindS hm
        obtain ⟨j275, hj276, hx277⟩ := idx_some h274
        obtain ⟨cs278, hr279, hcs280, hA281, hlt282⟩ := FZ.get (sz := 3) rfl (by decide) (h4.le (hle184.trans hle266)) hx277
        obtain ⟨_, _, rfl, rfl, ⟨_, _, rfl, rfl, rfl⟩⟩ := hr279
        refine t_st rfl (st_index_old j275 rfl rfl hj276 hlt282 hA281 sl80) ?_
        refine t_st rfl (st_loadN_old (vs := [.int .i64 (x273.Length), .int .i64 (x273.Grade), .int .i64 (x273.Speed)]) 3 rfl agg97 hA281 rfl (fun j u hu => hcs280 j u hu)) ?_
        refine t_do rfl (u_alloc [.int .i64 0, .int .i64 0, .int .i64 0] zero97 rfl) ?_
        rintro _ _ ⟨g283, rfl, rfl⟩
        refine t_do rfl (u_storeN (vs := [_, _, _]) 0 3 rfl rfl rfl siz97 rfl (by intro u hu; simp only [List.mem_cons, List.not_mem_nil, or_false] at hu; rcases hu with rfl | rfl | rfl <;> rfl) rfl (by simp)) ?_
        rintro _ _ rfl
        refine t_nil ?_
        refine x_then_normal ?_
        obtain ⟨x287, hj288, hk288⟩ := bindS hm
        refine c_join (fun b285 e' hp' => [(6, .pointer (some ⟨g168, 0, none⟩)), (8, .pointer (some ⟨g169, 0, none⟩)), (9, .pointer (some ⟨g170, 0, none⟩)), (13, .int .i64 (s6.At + (Int.tdiv ((s6.Speed + s7.Speed) + 1) 2))), (14, .int .i64 (x287)), (15, .int .i64 (x268)), (17, .pointer (some ⟨g283, 0, none⟩)), (63, .slice A2 (l5).length c3), (64, .int .i64 ((l5.length : Int))), (65, .int .i64 ((k269 : Int)))] = e' ∧ (g168, Cl 43 [.string (s1.Name), .int .i64 (s1.Length), .int .i64 (s1.Mass), .int .i64 (s1.Start), .int .i64 (s1.Power), .int .i64 (s1.Roll), .int .i64 (s1.Drag), .int .i64 (s1.Brake), .int .i64 (s1.Top), .int .i64 (s1.Seats)]) :: (g169, Cl 82 [.int .i64 (s6.At), .int .i64 (s6.Speed), .int .i64 (s6.Work)]) :: (g170, Cl 82 [.int .i64 (s7.At), .int .i64 (s7.Speed), .int .i64 (s7.Work)]) :: (g283, Cl 97 [.int .i64 (x273.Length), .int .i64 (x273.Grade), .int .i64 (x273.Speed)]) :: R = hp' ∧ b265.Le b285) ?_ ?_
        ·
          have hm := hj288
          refine c_seq ?_
          refine c_region ?_
          refine t_st rfl (st_move rfl) ?_
          refine t_st rfl (st_field rfl fld82_0) ?_
          refine t_st rfl (st_load 2 rfl one3 rfl rfl) ?_
          refine t_st rfl (st_leq rfl rfl) ?_
          refine t_nil ?_
          refine x_then_normal ?_
          refine c_cond _ rfl (fun hc289 => ?_) (fun hc289 => ?_)
          ·
            rw [if_pos (of_decide_eq_true hc289)] at hm
            refine c_region ?_
            refine t_st rfl (st_field rfl fld97_1) ?_
            refine t_st rfl (st_load 0 rfl one3 rfl rfl) ?_
            refine t_st rfl (st_assign rfl) ?_
            refine t_nil ?_
            obtain rfl := some1 hm
            refine x_pullb 3 rfl ?_
            refine x_pullb 3 rfl ?_
            refine x_pullb 3 rfl ?_
            exact x_join (e' := [(6, .pointer (some ⟨g168, 0, none⟩)), (8, .pointer (some ⟨g169, 0, none⟩)), (9, .pointer (some ⟨g170, 0, none⟩)), (13, .int .i64 (s6.At + (Int.tdiv ((s6.Speed + s7.Speed) + 1) 2))), (14, .int .i64 (x273.Grade)), (15, .int .i64 (x268)), (17, .pointer (some ⟨g283, 0, none⟩)), (63, .slice A2 (l5).length c3), (64, .int .i64 ((l5.length : Int))), (65, .int .i64 ((k269 : Int)))]) (hp' := (g168, Cl 43 [.string (s1.Name), .int .i64 (s1.Length), .int .i64 (s1.Mass), .int .i64 (s1.Start), .int .i64 (s1.Power), .int .i64 (s1.Roll), .int .i64 (s1.Drag), .int .i64 (s1.Brake), .int .i64 (s1.Top), .int .i64 (s1.Seats)]) :: (g169, Cl 82 [.int .i64 (s6.At), .int .i64 (s6.Speed), .int .i64 (s6.Work)]) :: (g170, Cl 82 [.int .i64 (s7.At), .int .i64 (s7.Speed), .int .i64 (s7.Work)]) :: (g283, Cl 97 [.int .i64 (x273.Length), .int .i64 (x273.Grade), .int .i64 (x273.Speed)]) :: R) ⟨rfl, rfl, rfl, rfl, rfl, rfl, rfl, rfl, rfl, rfl, trivial⟩ (.cons_cons _ (.cons_cons _ (.cons_cons _ (.cons_cons _ (.refl _))))) ⟨rfl, rfl, (Base.Le.refl _)⟩
          ·
            rw [if_neg (of_decide_eq_false hc289)] at hm
            refine c_skip ?_
            obtain rfl := some1 hm
            refine x_pullb 3 rfl ?_
            refine x_pullb 3 rfl ?_
            refine x_pullb 3 rfl ?_
            exact x_join (e' := [(6, .pointer (some ⟨g168, 0, none⟩)), (8, .pointer (some ⟨g169, 0, none⟩)), (9, .pointer (some ⟨g170, 0, none⟩)), (13, .int .i64 (s6.At + (Int.tdiv ((s6.Speed + s7.Speed) + 1) 2))), (14, .int .i64 (x267)), (15, .int .i64 (x268)), (17, .pointer (some ⟨g283, 0, none⟩)), (63, .slice A2 (l5).length c3), (64, .int .i64 ((l5.length : Int))), (65, .int .i64 ((k269 : Int)))]) (hp' := (g168, Cl 43 [.string (s1.Name), .int .i64 (s1.Length), .int .i64 (s1.Mass), .int .i64 (s1.Start), .int .i64 (s1.Power), .int .i64 (s1.Roll), .int .i64 (s1.Drag), .int .i64 (s1.Brake), .int .i64 (s1.Top), .int .i64 (s1.Seats)]) :: (g169, Cl 82 [.int .i64 (s6.At), .int .i64 (s6.Speed), .int .i64 (s6.Work)]) :: (g170, Cl 82 [.int .i64 (s7.At), .int .i64 (s7.Speed), .int .i64 (s7.Work)]) :: (g283, Cl 97 [.int .i64 (x273.Length), .int .i64 (x273.Grade), .int .i64 (x273.Speed)]) :: R) ⟨rfl, rfl, rfl, rfl, rfl, rfl, rfl, rfl, rfl, rfl, trivial⟩ (.cons_cons _ (.cons_cons _ (.cons_cons _ (.cons_cons _ (.refl _))))) ⟨rfl, rfl, (Base.Le.refl _)⟩
        ·
          rintro b285 _ _ ⟨rfl, rfl, hle286⟩
          have hm := hk288
          refine c_seq ?_
          obtain ⟨x297, hj298, hk298⟩ := bindS hm
          refine c_join (fun b295 e' hp' => [(6, .pointer (some ⟨g168, 0, none⟩)), (8, .pointer (some ⟨g169, 0, none⟩)), (9, .pointer (some ⟨g170, 0, none⟩)), (13, .int .i64 (s6.At + (Int.tdiv ((s6.Speed + s7.Speed) + 1) 2))), (14, .int .i64 (x287)), (15, .int .i64 (x268)), (17, .pointer (some ⟨g283, 0, none⟩)), (63, .slice A2 (l5).length c3), (64, .int .i64 ((l5.length : Int))), (65, .int .i64 ((k269 : Int))), (97, .bool (x297))] = e' ∧ (g168, Cl 43 [.string (s1.Name), .int .i64 (s1.Length), .int .i64 (s1.Mass), .int .i64 (s1.Start), .int .i64 (s1.Power), .int .i64 (s1.Roll), .int .i64 (s1.Drag), .int .i64 (s1.Brake), .int .i64 (s1.Top), .int .i64 (s1.Seats)]) :: (g169, Cl 82 [.int .i64 (s6.At), .int .i64 (s6.Speed), .int .i64 (s6.Work)]) :: (g170, Cl 82 [.int .i64 (s7.At), .int .i64 (s7.Speed), .int .i64 (s7.Work)]) :: (g283, Cl 97 [.int .i64 (x273.Length), .int .i64 (x273.Grade), .int .i64 (x273.Speed)]) :: R = hp' ∧ b285.Le b295) ?_ ?_
          ·
            have hm := hj298
            refine c_region ?_
            refine t_st rfl (st_move rfl) ?_
            refine t_st rfl (st_move rfl) ?_
            refine t_bool rfl (st_lss rfl rfl) (fun hc299 => ?_) (fun hc299 => ?_)
            ·
              rw [if_pos hc299] at hm
              refine t_st rfl (st_move rfl) ?_
              refine t_yes 78 rfl rfl rfl ?_
              refine t_st rfl (st_move rfl) ?_
              refine t_yes 78 rfl rfl rfl ?_
              refine t_st rfl (st_field rfl fld97_0) ?_
              refine t_yes 78 rfl rfl rfl ?_
              refine t_st rfl (st_load 3 rfl one3 rfl rfl) ?_
              refine t_yes 78 rfl rfl rfl ?_
              obtain ⟨_, h300, hm⟩ := bindS hm
              have h300 := (chk_some h300).2
              refine t_st rfl (st_add rfl rfl h300) ?_
              refine t_yes 78 rfl rfl rfl ?_
              refine t_st rfl (st_field rfl fld82_0) ?_
              refine t_yes 78 rfl rfl rfl ?_
              refine t_st rfl (st_load 1 rfl one3 rfl rfl) ?_
              refine t_yes 78 rfl rfl rfl ?_
              refine t_st rfl (st_field rfl fld43_1) ?_
              refine t_yes 78 rfl rfl rfl ?_
              refine t_st rfl (st_load 0 rfl one3 rfl rfl) ?_
              refine t_yes 78 rfl rfl rfl ?_
              obtain ⟨_, h301, hm⟩ := bindS hm
              have h301 := (chk_some h301).2
              refine t_st rfl (st_mul rfl rfl h301) ?_
              refine t_yes 78 rfl rfl rfl ?_
              obtain ⟨_, h302, hm⟩ := bindS hm
              have h302 := (chk_some h302).2
              refine t_st rfl (st_sub rfl rfl h302) ?_
              refine t_yes 78 rfl rfl rfl ?_
              refine t_bool rfl (st_gtr rfl rfl) (fun hc303 => ?_) (fun hc303 => ?_)
              ·
                rw [if_pos hc303] at hm
                refine t_st rfl (st_pick_t rfl rfl) ?_
                refine t_st rfl (st_move rfl) ?_
                refine t_yes 91 rfl rfl rfl ?_
                refine t_st rfl (st_field rfl fld82_1) ?_
                refine t_yes 91 rfl rfl rfl ?_
                refine t_st rfl (st_load 2 rfl one3 rfl rfl) ?_
                refine t_yes 91 rfl rfl rfl ?_
                refine t_st rfl (st_field rfl fld97_2) ?_
                refine t_yes 91 rfl rfl rfl ?_
                refine t_st rfl (st_load 3 rfl one3 rfl rfl) ?_
                refine t_yes 91 rfl rfl rfl ?_
                refine t_st rfl (st_gtr rfl rfl) ?_
                refine t_st rfl (st_pick_t rfl rfl) ?_
                refine t_nil ?_
                obtain rfl := some1 hm
                refine x_pullb 3 rfl ?_
                refine x_pullb 3 rfl ?_
                refine x_pullb 3 rfl ?_
                refine x_pullb 3 rfl ?_
                exact x_join (e' := [(6, .pointer (some ⟨g168, 0, none⟩)), (8, .pointer (some ⟨g169, 0, none⟩)), (9, .pointer (some ⟨g170, 0, none⟩)), (13, .int .i64 (s6.At + (Int.tdiv ((s6.Speed + s7.Speed) + 1) 2))), (14, .int .i64 (x287)), (15, .int .i64 (x268)), (17, .pointer (some ⟨g283, 0, none⟩)), (63, .slice A2 (l5).length c3), (64, .int .i64 ((l5.length : Int))), (65, .int .i64 ((k269 : Int))), (97, .bool (decide (x273.Speed < s7.Speed)))]) (hp' := (g168, Cl 43 [.string (s1.Name), .int .i64 (s1.Length), .int .i64 (s1.Mass), .int .i64 (s1.Start), .int .i64 (s1.Power), .int .i64 (s1.Roll), .int .i64 (s1.Drag), .int .i64 (s1.Brake), .int .i64 (s1.Top), .int .i64 (s1.Seats)]) :: (g169, Cl 82 [.int .i64 (s6.At), .int .i64 (s6.Speed), .int .i64 (s6.Work)]) :: (g170, Cl 82 [.int .i64 (s7.At), .int .i64 (s7.Speed), .int .i64 (s7.Work)]) :: (g283, Cl 97 [.int .i64 (x273.Length), .int .i64 (x273.Grade), .int .i64 (x273.Speed)]) :: R) ⟨rfl, rfl, rfl, rfl, rfl, rfl, rfl, rfl, rfl, rfl, rfl, trivial⟩ (.cons_cons _ (.cons_cons _ (.cons_cons _ (.cons_cons _ (.refl _))))) ⟨rfl, rfl, (Base.Le.refl _)⟩
              ·
                rw [if_neg hc303] at hm
                refine t_st rfl (st_pick_t rfl rfl) ?_
                refine t_st rfl (st_move rfl) ?_
                refine t_no 91 rfl rfl rfl rfl rfl ?_
                refine t_no 91 rfl rfl rfl rfl rfl ?_
                refine t_no 91 rfl rfl rfl rfl rfl ?_
                refine t_no 91 rfl rfl rfl rfl rfl ?_
                refine t_no 91 rfl rfl rfl rfl rfl ?_
                refine t_st rfl (st_pick_f rfl rfl) ?_
                refine t_nil ?_
                obtain rfl := some1 hm
                refine x_pullb 3 rfl ?_
                refine x_pullb 3 rfl ?_
                refine x_pullb 3 rfl ?_
                refine x_pullb 3 rfl ?_
                exact x_join (e' := [(6, .pointer (some ⟨g168, 0, none⟩)), (8, .pointer (some ⟨g169, 0, none⟩)), (9, .pointer (some ⟨g170, 0, none⟩)), (13, .int .i64 (s6.At + (Int.tdiv ((s6.Speed + s7.Speed) + 1) 2))), (14, .int .i64 (x287)), (15, .int .i64 (x268)), (17, .pointer (some ⟨g283, 0, none⟩)), (63, .slice A2 (l5).length c3), (64, .int .i64 ((l5.length : Int))), (65, .int .i64 ((k269 : Int))), (97, .bool (false))]) (hp' := (g168, Cl 43 [.string (s1.Name), .int .i64 (s1.Length), .int .i64 (s1.Mass), .int .i64 (s1.Start), .int .i64 (s1.Power), .int .i64 (s1.Roll), .int .i64 (s1.Drag), .int .i64 (s1.Brake), .int .i64 (s1.Top), .int .i64 (s1.Seats)]) :: (g169, Cl 82 [.int .i64 (s6.At), .int .i64 (s6.Speed), .int .i64 (s6.Work)]) :: (g170, Cl 82 [.int .i64 (s7.At), .int .i64 (s7.Speed), .int .i64 (s7.Work)]) :: (g283, Cl 97 [.int .i64 (x273.Length), .int .i64 (x273.Grade), .int .i64 (x273.Speed)]) :: R) ⟨rfl, rfl, rfl, rfl, rfl, rfl, rfl, rfl, rfl, rfl, rfl, trivial⟩ (.cons_cons _ (.cons_cons _ (.cons_cons _ (.cons_cons _ (.refl _))))) ⟨rfl, rfl, (Base.Le.refl _)⟩
            ·
              rw [if_neg hc299] at hm
              refine t_st rfl (st_move rfl) ?_
              refine t_no 78 rfl rfl rfl rfl rfl ?_
              refine t_no 78 rfl rfl rfl rfl rfl ?_
              refine t_no 78 rfl rfl rfl rfl rfl ?_
              refine t_no 78 rfl rfl rfl rfl rfl ?_
              refine t_no 78 rfl rfl rfl rfl rfl ?_
              refine t_no 78 rfl rfl rfl rfl rfl ?_
              refine t_no 78 rfl rfl rfl rfl rfl ?_
              refine t_no 78 rfl rfl rfl rfl rfl ?_
              refine t_no 78 rfl rfl rfl rfl rfl ?_
              refine t_no 78 rfl rfl rfl rfl rfl ?_
              refine t_no 78 rfl rfl rfl rfl rfl ?_
              refine t_st rfl (st_pick_f rfl rfl) ?_
              refine t_st rfl (st_move rfl) ?_
              refine t_no 91 rfl rfl rfl rfl rfl ?_
              refine t_no 91 rfl rfl rfl rfl rfl ?_
              refine t_no 91 rfl rfl rfl rfl rfl ?_
              refine t_no 91 rfl rfl rfl rfl rfl ?_
              refine t_no 91 rfl rfl rfl rfl rfl ?_
              refine t_st rfl (st_pick_f rfl rfl) ?_
              refine t_nil ?_
              obtain rfl := some1 hm
              refine x_pullb 3 rfl ?_
              refine x_pullb 3 rfl ?_
              refine x_pullb 3 rfl ?_
              refine x_pullb 3 rfl ?_
              exact x_join (e' := [(6, .pointer (some ⟨g168, 0, none⟩)), (8, .pointer (some ⟨g169, 0, none⟩)), (9, .pointer (some ⟨g170, 0, none⟩)), (13, .int .i64 (s6.At + (Int.tdiv ((s6.Speed + s7.Speed) + 1) 2))), (14, .int .i64 (x287)), (15, .int .i64 (x268)), (17, .pointer (some ⟨g283, 0, none⟩)), (63, .slice A2 (l5).length c3), (64, .int .i64 ((l5.length : Int))), (65, .int .i64 ((k269 : Int))), (97, .bool (false))]) (hp' := (g168, Cl 43 [.string (s1.Name), .int .i64 (s1.Length), .int .i64 (s1.Mass), .int .i64 (s1.Start), .int .i64 (s1.Power), .int .i64 (s1.Roll), .int .i64 (s1.Drag), .int .i64 (s1.Brake), .int .i64 (s1.Top), .int .i64 (s1.Seats)]) :: (g169, Cl 82 [.int .i64 (s6.At), .int .i64 (s6.Speed), .int .i64 (s6.Work)]) :: (g170, Cl 82 [.int .i64 (s7.At), .int .i64 (s7.Speed), .int .i64 (s7.Work)]) :: (g283, Cl 97 [.int .i64 (x273.Length), .int .i64 (x273.Grade), .int .i64 (x273.Speed)]) :: R) ⟨rfl, rfl, rfl, rfl, rfl, rfl, rfl, rfl, rfl, rfl, rfl, trivial⟩ (.cons_cons _ (.cons_cons _ (.cons_cons _ (.cons_cons _ (.refl _))))) ⟨rfl, rfl, (Base.Le.refl _)⟩
          ·
            rintro b295 _ _ ⟨rfl, rfl, hle296⟩
            have hm := hk298
            refine c_cond _ rfl (fun hc304 => ?_) (fun hc304 => ?_)
            ·
              rw [if_pos hc304] at hm
              refine c_seq ?_
              refine c_region ?_
              refine t_st rfl (st_assign rfl) ?_
              refine t_nil ?_
              refine x_then_normal ?_
              refine c_ret ?_
              refine x_then_ret ?_
              refine x_block_ret ?_
              refine x_then_ret ?_
              refine x_then_ret ?_
              refine x_block_ret ?_
              refine x_then_ret ?_
              have hq305 := houtL195 _ (Option.some.inj hm).symm
              rw [hq305] at hk272
              have hm := elimR hk272
              obtain rfl := some1 hm
              exact retM (rs := [.tmp 12]) [.bool (false)] (hle184.trans (hle266.trans (hle286.trans hle296))) (by decide) rfl ⟨rfl, trivial⟩ rfl (hp' := R) (.cons _ (.cons _ (.cons _ (.cons _ (.refl _))))) ⟨rfl, rfl⟩
            ·
              rw [if_neg (fun hh => Bool.noConfusion (hh.symm.trans hc304))] at hm
              refine c_skip ?_
              refine x_then_normal ?_
              refine c_region ?_
              refine t_st rfl (st_move rfl) ?_
              refine t_st rfl (st_field rfl fld97_0) ?_
              refine t_st rfl (st_load 3 rfl one3 rfl rfl) ?_
              obtain ⟨_, h306, hm⟩ := bindS hm
              have h306 := (chk_some h306).2
              refine t_st rfl (st_add rfl rfl h306) ?_
              refine t_st rfl (st_assign rfl) ?_
              refine t_nil ?_
              refine x_block_normal ?_
              refine x_then_normal ?_
              refine c_region ?_
              refine t_st rfl (st_add rfl rfl (by omega)) ?_
              refine t_st rfl (st_move rfl) ?_
              refine t_nil ?_
              refine x_pullb 2 rfl ?_
              refine x_pullb 2 rfl ?_
              refine x_pullb 2 rfl ?_
              exact x_againM (x287, x268 + x273.Length) (Option.some.inj hm).symm (e' := [(6, .pointer (some ⟨g168, 0, none⟩)), (8, .pointer (some ⟨g169, 0, none⟩)), (9, .pointer (some ⟨g170, 0, none⟩)), (13, .int .i64 (s6.At + (Int.tdiv ((s6.Speed + s7.Speed) + 1) 2))), (14, .int .i64 (x287)), (15, .int .i64 (x268 + x273.Length)), (63, .slice A2 (l5).length c3), (64, .int .i64 ((l5.length : Int))), (65, .int .i64 ((k269 : Int) + 1))]) (hp' := (g168, Cl 43 [.string (s1.Name), .int .i64 (s1.Length), .int .i64 (s1.Mass), .int .i64 (s1.Start), .int .i64 (s1.Power), .int .i64 (s1.Roll), .int .i64 (s1.Drag), .int .i64 (s1.Brake), .int .i64 (s1.Top), .int .i64 (s1.Seats)]) :: (g169, Cl 82 [.int .i64 (s6.At), .int .i64 (s6.Speed), .int .i64 (s6.Work)]) :: (g170, Cl 82 [.int .i64 (s7.At), .int .i64 (s7.Speed), .int .i64 (s7.Work)]) :: R) ⟨rfl, rfl, rfl, rfl, rfl, rfl, rfl, rfl, rfl, trivial⟩ (.cons_cons _ (.cons_cons _ (.cons_cons _ (.cons _ (.refl _))))) ⟨rfl, rfl, ((hle266.trans (hle286.trans hle296)))⟩
      ·
        rintro ⟨x267, x268⟩ b265 _ _ ⟨rfl, rfl, hle266⟩ hq307
        rw [hq307] at hk272
        have hm := elimL hk272
        have hm := (unc2E hm)
        refine c_seq ?_
        refine c_region ?_
        refine t_st rfl (st_lss_f rfl rfl (by omega)) ?_
        refine t_nil ?_
        refine x_then_normal ?_
        refine c_seq ?_
        refine c_cond_f rfl ?_
        refine c_exit ?_
        refine x_then_exit ?_
        refine x_then_exit ?_
        refine x_block_out ?_
        refine x_then_normal ?_
        refine c_seq ?_
        refine c_region ?_
        refine t_st rfl (st_loadD (vs := [_, _, _, _, _, _, _, _, _, _]) 0 10 rfl agg43 rfl rfl rfl) ?_
        refine t_st rfl (st_field rfl fld82_1) ?_
        refine t_st rfl (st_load 1 rfl one3 rfl rfl) ?_
        refine t_st rfl (st_move rfl) ?_
        obtain ⟨⟨x308, x309⟩, hcl310, hm⟩ := bindS hm
        have hm := (unc2E hm)
        refine t_do rfl (u_callW0 _ call73 rfl (fun w ho => cRunGain_2 _ [] s1 s6.Speed x267 x308 x309 hcl310) (fun _ _ _ h => h.2.symm)) ?_
        rintro _ _ ⟨⟨_, rfl, _⟩, rfl⟩
        refine t_st rfl (st_move rfl) ?_
        refine t_st rfl (st_extract rfl rfl) ?_
        refine t_st rfl (st_extract rfl rfl) ?_
        refine t_st rfl (st_assign rfl) ?_
        refine t_st rfl (st_assign rfl) ?_
        refine t_nil ?_
        refine x_then_normal ?_
        refine c_seq ?_
        refine c_region ?_
        refine t_st rfl (st_field rfl fld82_1) ?_
        refine t_st rfl (st_load 1 rfl one3 rfl rfl) ?_
        refine t_st rfl (st_field rfl fld43_7) ?_
        refine t_st rfl (st_load 0 rfl one3 rfl rfl) ?_
        obtain ⟨_, h311, hm⟩ := bindS hm
        have h311 := (chk_some h311).2
        refine t_st rfl (st_sub rfl rfl h311) ?_
        refine t_st rfl (st_move rfl) ?_
        obtain ⟨_, h312, hm⟩ := bindS hm
        have h312 := (chk_some h312).2
        refine t_st rfl (st_sub rfl rfl h312) ?_
        refine t_st rfl (st_max rfl rfl) ?_
        refine t_st rfl (st_assign rfl) ?_
        refine t_nil ?_
        refine x_then_normal ?_
        obtain ⟨x319, hj320, hk320⟩ := bindS hm
        refine c_join (fun b317 e' hp' => [(12, .bool (x319))] = e' ∧ R = hp' ∧ b265.Le b317) ?_ ?_
        ·
          have hm := hj320
          refine c_region ?_
          refine t_st rfl (st_move rfl) ?_
          refine t_bool rfl (st_eql rfl rfl) (fun hc321 => ?_) (fun hc321 => ?_)
          ·
            rw [if_pos hc321] at hm
            refine t_st rfl (st_move rfl) ?_
            refine t_yes 121 rfl rfl rfl ?_
            refine t_st rfl (st_field rfl fld82_1) ?_
            refine t_yes 121 rfl rfl rfl ?_
            refine t_st rfl (st_load 2 rfl one3 rfl rfl) ?_
            refine t_yes 121 rfl rfl rfl ?_
            refine t_st rfl (st_field rfl fld82_1) ?_
            refine t_yes 121 rfl rfl rfl ?_
            refine t_st rfl (st_load 1 rfl one3 rfl rfl) ?_
            refine t_yes 121 rfl rfl rfl ?_
            refine t_st rfl (st_move rfl) ?_
            refine t_yes 121 rfl rfl rfl ?_
            obtain ⟨_, h322, hm⟩ := bindS hm
            have h322 := (chk_some h322).2
            refine t_st rfl (st_add rfl rfl h322) ?_
            refine t_yes 121 rfl rfl rfl ?_
            refine t_st rfl (st_move rfl) ?_
            refine t_yes 121 rfl rfl rfl ?_
            refine t_st rfl (st_max rfl rfl) ?_
            refine t_yes 121 rfl rfl rfl ?_
            refine t_bool rfl (st_leq rfl rfl) (fun hc323 => ?_) (fun hc323 => ?_)
            ·
              rw [if_pos hc323] at hm
              refine t_st rfl (st_pick_t rfl rfl) ?_
              refine t_st rfl (st_move rfl) ?_
              refine t_yes 132 rfl rfl rfl ?_
              refine t_st rfl (st_field rfl fld82_1) ?_
              refine t_yes 132 rfl rfl rfl ?_
              refine t_st rfl (st_load 2 rfl one3 rfl rfl) ?_
              refine t_yes 132 rfl rfl rfl ?_
              refine t_st rfl (st_move rfl) ?_
              refine t_yes 132 rfl rfl rfl ?_
              refine t_bool rfl (st_geq rfl rfl) (fun hc324 => ?_) (fun hc324 => ?_)
              ·
                rw [if_pos hc324] at hm
                refine t_st rfl (st_pick_t rfl rfl) ?_
                refine t_st rfl (st_move rfl) ?_
                refine t_yes 138 rfl rfl rfl ?_
                refine t_st rfl (st_field rfl fld82_2) ?_
                refine t_yes 138 rfl rfl rfl ?_
                refine t_st rfl (st_load 2 rfl one3 rfl rfl) ?_
                refine t_yes 138 rfl rfl rfl ?_
                refine t_st rfl (st_field rfl fld82_2) ?_
                refine t_yes 138 rfl rfl rfl ?_
                refine t_st rfl (st_load 1 rfl one3 rfl rfl) ?_
                refine t_yes 138 rfl rfl rfl ?_
                refine t_st rfl (st_geq rfl rfl) ?_
                refine t_st rfl (st_pick_t rfl rfl) ?_
                refine t_st rfl (st_assign rfl) ?_
                refine t_nil ?_
                obtain rfl := some1 hm
                exact x_join (e' := [(12, .bool (decide (s6.Work ≤ s7.Work)))]) (hp' := R) ⟨rfl, trivial⟩ (.cons _ (.cons _ (.cons _ (.refl _)))) ⟨rfl, rfl, (Base.Le.refl _)⟩
              ·
                rw [if_neg hc324] at hm
                refine t_st rfl (st_pick_t rfl rfl) ?_
                refine t_st rfl (st_move rfl) ?_
                refine t_no 138 rfl rfl rfl rfl rfl ?_
                refine t_no 138 rfl rfl rfl rfl rfl ?_
                refine t_no 138 rfl rfl rfl rfl rfl ?_
                refine t_no 138 rfl rfl rfl rfl rfl ?_
                refine t_no 138 rfl rfl rfl rfl rfl ?_
                refine t_st rfl (st_pick_f rfl rfl) ?_
                refine t_st rfl (st_assign rfl) ?_
                refine t_nil ?_
                obtain rfl := some1 hm
                exact x_join (e' := [(12, .bool (false))]) (hp' := R) ⟨rfl, trivial⟩ (.cons _ (.cons _ (.cons _ (.refl _)))) ⟨rfl, rfl, (Base.Le.refl _)⟩
            ·
              rw [if_neg hc323] at hm
              refine t_st rfl (st_pick_t rfl rfl) ?_
              refine t_st rfl (st_move rfl) ?_
              refine t_no 132 rfl rfl rfl rfl rfl ?_
              refine t_no 132 rfl rfl rfl rfl rfl ?_
              refine t_no 132 rfl rfl rfl rfl rfl ?_
              refine t_no 132 rfl rfl rfl rfl rfl ?_
              refine t_st rfl (st_pick_f rfl rfl) ?_
              refine t_st rfl (st_move rfl) ?_
              refine t_no 138 rfl rfl rfl rfl rfl ?_
              refine t_no 138 rfl rfl rfl rfl rfl ?_
              refine t_no 138 rfl rfl rfl rfl rfl ?_
              refine t_no 138 rfl rfl rfl rfl rfl ?_
              refine t_no 138 rfl rfl rfl rfl rfl ?_
              refine t_st rfl (st_pick_f rfl rfl) ?_
              refine t_st rfl (st_assign rfl) ?_
              refine t_nil ?_
              obtain rfl := some1 hm
              exact x_join (e' := [(12, .bool (false))]) (hp' := R) ⟨rfl, trivial⟩ (.cons _ (.cons _ (.cons _ (.refl _)))) ⟨rfl, rfl, (Base.Le.refl _)⟩
          ·
            rw [if_neg hc321] at hm
            refine t_st rfl (st_move rfl) ?_
            refine t_no 121 rfl rfl rfl rfl rfl ?_
            refine t_no 121 rfl rfl rfl rfl rfl ?_
            refine t_no 121 rfl rfl rfl rfl rfl ?_
            refine t_no 121 rfl rfl rfl rfl rfl ?_
            refine t_no 121 rfl rfl rfl rfl rfl ?_
            refine t_no 121 rfl rfl rfl rfl rfl ?_
            refine t_no 121 rfl rfl rfl rfl rfl ?_
            refine t_no 121 rfl rfl rfl rfl rfl ?_
            refine t_no 121 rfl rfl rfl rfl rfl ?_
            refine t_st rfl (st_pick_f rfl rfl) ?_
            refine t_st rfl (st_move rfl) ?_
            refine t_no 132 rfl rfl rfl rfl rfl ?_
            refine t_no 132 rfl rfl rfl rfl rfl ?_
            refine t_no 132 rfl rfl rfl rfl rfl ?_
            refine t_no 132 rfl rfl rfl rfl rfl ?_
            refine t_st rfl (st_pick_f rfl rfl) ?_
            refine t_st rfl (st_move rfl) ?_
            refine t_no 138 rfl rfl rfl rfl rfl ?_
            refine t_no 138 rfl rfl rfl rfl rfl ?_
            refine t_no 138 rfl rfl rfl rfl rfl ?_
            refine t_no 138 rfl rfl rfl rfl rfl ?_
            refine t_no 138 rfl rfl rfl rfl rfl ?_
            refine t_st rfl (st_pick_f rfl rfl) ?_
            refine t_st rfl (st_assign rfl) ?_
            refine t_nil ?_
            obtain rfl := some1 hm
            exact x_join (e' := [(12, .bool (false))]) (hp' := R) ⟨rfl, trivial⟩ (.cons _ (.cons _ (.cons _ (.refl _)))) ⟨rfl, rfl, (Base.Le.refl _)⟩
        ·
          rintro b317 _ _ ⟨rfl, rfl, hle318⟩
          have hm := hk320
          refine c_ret ?_
          obtain rfl := some1 hm
          exact retM (rs := [.tmp 12]) [.bool (x319)] (hle184.trans (hle266.trans hle318)) (by decide) rfl ⟨rfl, trivial⟩ rfl (hp' := R) (.refl _) ⟨rfl, rfl⟩

set_option maxRecDepth 20000 in
theorem cFishkeep1RunKeeps (b : Base) (R : Hp) (s1 : ApiStock) (l5 : (List ApiPiece)) (x6 : Int) (x7 : Int) (A2 : Option Addr) (c3 : Nat) (h4 : FZ rApiPiece b.w A2 c3 l5) (x657 : Bool) (hm : mFishkeep1RunKeeps s1 l5 x6 x7 = some x657) :
    CallsG Tryd.prog 11 [.agg #[.string (s1.Name), .int .i64 (s1.Length), .int .i64 (s1.Mass), .int .i64 (s1.Start), .int .i64 (s1.Power), .int .i64 (s1.Roll), .int .i64 (s1.Drag), .int .i64 (s1.Brake), .int .i64 (s1.Top), .int .i64 (s1.Seats)], .slice A2 (l5).length c3, .int .i64 (x6), .int .i64 (x7)] b (R) (fun v b' hp' => .bool (x657) = v ∧ R = hp') := by
  refine fn_enterG 102 Tryd.func11 rfl Tryd.ntmps11 rfl ?_
  unfold mFishkeep1RunKeeps at hm
  refine c_seq ?_
  refine c_region ?_
  refine t_do rfl (u_box _ rfl rfl) ?_
  rintro _ _ ⟨g658, rfl, rfl⟩
  refine t_st rfl (st_assign rfl) ?_
  refine t_nil ?_
  refine x_then_normal ?_
  refine c_seq ?_
  refine c_seq ?_
  refine c_region ?_
  obtain ⟨x659, hcl660, hm⟩ := bindS hm
  refine t_do rfl (u_callW0 _ call21 rfl (fun w ho => cFishkeep1AwakeRun _ [] x659 hcl660) (fun _ _ _ h => h.2.symm)) ?_
  rintro _ _ ⟨⟨_, rfl, _⟩, rfl⟩
  refine t_st rfl (st_not rfl) ?_
  refine t_nil ?_
  refine x_then_normal ?_
  refine c_cond _ rfl (fun hc661 => ?_) (fun hc661 => ?_)
  ·
    rw [if_neg (fun hh => Bool.noConfusion (hh.symm.trans (notT hc661)))] at hm
    refine c_seq ?_
    refine c_region ?_
    refine t_st rfl (st_assign rfl) ?_
    refine t_nil ?_
    refine x_then_normal ?_
    refine c_ret ?_
    refine x_then_ret ?_
    obtain rfl := some1 hm
    exact retM (rs := [.tmp 8]) [.bool (false)] (Base.Le.refl _) (by decide) rfl ⟨rfl, trivial⟩ rfl (hp' := R) (.cons _ (.refl _)) ⟨rfl, rfl⟩
  ·
    rw [if_pos (notF hc661)] at hm
    refine c_skip ?_
    refine x_then_normal ?_
    refine c_seq ?_
    refine c_region ?_
    refine t_st rfl (st_loadD (vs := [_, _, _, _, _, _, _, _, _, _]) 0 10 rfl agg43 rfl rfl rfl) ?_
    refine t_st rfl (st_move rfl) ?_
    refine t_st rfl (st_move rfl) ?_
    refine t_st rfl (st_move rfl) ?_
    obtain ⟨⟨x662, l663⟩, hcl664, hm⟩ := bindS hm
    have hm := (unc2E hm)
    refine t_callG _ rfl call42 rfl (cRunGo _ _ s1 l5 x6 x7 A2 c3 h4 x662 l663 hcl664) ?_
    rintro _ b665 _ hle666 ⟨A667, c668, hs669, rfl, rfl, h670⟩
    refine t_in1 [] [_] hs669 R rfl ?_
    refine t_st rfl (st_move rfl) ?_
    refine t_st rfl (st_extract rfl rfl) ?_
    refine t_st rfl (st_extract rfl rfl) ?_
    refine t_st rfl (st_assign rfl) ?_
    refine t_st rfl (st_assign rfl) ?_
    refine t_nil ?_
    refine x_then_normal ?_
    refine c_seq ?_
    refine c_seq ?_
    refine c_region ?_
    refine t_st rfl (st_move rfl) ?_
    refine t_st rfl (st_neq rfl rfl) ?_
    refine t_nil ?_
    refine x_then_normal ?_
    refine c_cond _ rfl (fun hc671 => ?_) (fun hc671 => ?_)
    ·
      rw [if_pos (of_decide_eq_true hc671)] at hm
      refine c_seq ?_
      refine c_region ?_
      refine t_st rfl (st_move rfl) ?_
      refine t_st rfl (st_len rfl sl87) ?_
      refine t_st rfl (st_eql rfl rfl) ?_
      refine t_st rfl (st_assign rfl) ?_
      refine t_nil ?_
      refine x_then_normal ?_
      refine c_ret ?_
      refine x_then_ret ?_
      obtain rfl := some1 hm
      exact retM (rs := [.tmp 8]) [.bool (decide ((l663.length : Int) = 0))] hle666 (by decide) rfl ⟨rfl, trivial⟩ rfl (hp' := R) (.cons _ (sub_skip hs669 (.refl _))) ⟨rfl, rfl⟩
    ·
      rw [if_neg (of_decide_eq_false hc671)] at hm
      refine c_skip ?_
      refine x_then_normal ?_
      refine c_seq ?_
      refine c_region ?_
      refine t_st rfl (st_move rfl) ?_
      refine t_st rfl (st_len rfl sl87) ?_
      obtain ⟨_, h672, hm⟩ := bindS hm
      have h672 := (chk_some h672).2
      refine t_st rfl (st_sub rfl rfl h672) ?_
      refine t_st rfl (st_assign rfl) ?_
      refine t_nil ?_
      refine x_then_normal ?_
      refine c_seq ?_
      obtain ⟨x762, hj763, hk763⟩ := bindS hm
      refine c_join (fun b760 e' hp' => [(1, .slice A2 (l5).length c3), (3, .int .i64 (x7)), (4, .pointer (some ⟨g658, 0, none⟩)), (9, .slice A667 (l663).length c668), (11, .int .i64 ((l663.length : Int) - 1)), (79, .bool (x762))] = e' ∧ (g658, Cl 43 [.string (s1.Name), .int .i64 (s1.Length), .int .i64 (s1.Mass), .int .i64 (s1.Start), .int .i64 (s1.Power), .int .i64 (s1.Roll), .int .i64 (s1.Drag), .int .i64 (s1.Brake), .int .i64 (s1.Top), .int .i64 (s1.Seats)]) :: (hs669 ++ R) = hp' ∧ b665.Le b760) ?_ ?_
      ·
        have hm := hj763
        refine c_region ?_
        refine t_st rfl (st_move rfl) ?_
        refine t_bool rfl (st_lss rfl rfl) (fun hc764 => ?_) (fun hc764 => ?_)
        ·
          rw [if_pos hc764] at hm
          refine t_st rfl (st_move rfl) ?_
          refine t_no 33 rfl rfl rfl rfl rfl ?_
          refine t_no 33 rfl rfl rfl rfl rfl ?_
          refine t_st rfl (st_pick_t rfl rfl) ?_
          refine t_st rfl (st_move rfl) ?_
          refine t_no 37 rfl rfl rfl rfl rfl ?_
          refine t_no 37 rfl rfl rfl rfl rfl ?_
          refine t_no 37 rfl rfl rfl rfl rfl ?_
          refine t_no 37 rfl rfl rfl rfl rfl ?_
          refine t_no 37 rfl rfl rfl rfl rfl ?_
          refine t_st rfl (st_pick_t rfl rfl) ?_
          refine t_st rfl (st_move rfl) ?_
          refine t_no 44 rfl rfl rfl rfl rfl ?_
          refine t_no 44 rfl rfl rfl rfl rfl ?_
          refine t_no 44 rfl rfl rfl rfl rfl ?_
          refine t_no 44 rfl rfl rfl rfl rfl ?_
          refine t_no 44 rfl rfl rfl rfl rfl ?_
          refine t_st rfl (st_pick_t rfl rfl) ?_
          refine t_st rfl (st_move rfl) ?_
          refine t_no 51 rfl rfl rfl rfl rfl ?_
          refine t_no 51 rfl rfl rfl rfl rfl ?_
          refine t_no 51 rfl rfl rfl rfl rfl ?_
          refine t_no 51 rfl rfl rfl rfl rfl ?_
          refine t_no 51 rfl rfl rfl rfl rfl ?_
          refine t_no 51 rfl rfl rfl rfl rfl ?_
          refine t_st rfl (st_pick_t rfl rfl) ?_
          refine t_st rfl (st_move rfl) ?_
          refine t_no 59 rfl rfl rfl rfl rfl ?_
          refine t_no 59 rfl rfl rfl rfl rfl ?_
          refine t_no 59 rfl rfl rfl rfl rfl ?_
          refine t_no 59 rfl rfl rfl rfl rfl ?_
          refine t_no 59 rfl rfl rfl rfl rfl ?_
          refine t_no 59 rfl rfl rfl rfl rfl ?_
          refine t_no 59 rfl rfl rfl rfl rfl ?_
          refine t_st rfl (st_pick_t rfl rfl) ?_
          refine t_st rfl (st_move rfl) ?_
          refine t_no 68 rfl rfl rfl rfl rfl ?_
          refine t_no 68 rfl rfl rfl rfl rfl ?_
          refine t_no 68 rfl rfl rfl rfl rfl ?_
          refine t_no 71 rfl rfl rfl rfl rfl ?_
          refine t_no 71 rfl rfl rfl rfl rfl ?_
          refine t_no 71 rfl rfl rfl rfl rfl ?_
          refine t_no 71 rfl rfl rfl rfl rfl ?_
          refine t_no 71 rfl rfl rfl rfl rfl ?_
          refine t_no 71 rfl rfl rfl rfl rfl ?_
          refine t_no 68 rfl rfl rfl rfl rfl ?_
          refine t_st rfl (st_pick_t rfl rfl) ?_
          refine t_nil ?_
          obtain rfl := some1 hm
          exact x_join (e' := [(1, .slice A2 (l5).length c3), (3, .int .i64 (x7)), (4, .pointer (some ⟨g658, 0, none⟩)), (9, .slice A667 (l663).length c668), (11, .int .i64 ((l663.length : Int) - 1)), (79, .bool (true))]) (hp' := (g658, Cl 43 [.string (s1.Name), .int .i64 (s1.Length), .int .i64 (s1.Mass), .int .i64 (s1.Start), .int .i64 (s1.Power), .int .i64 (s1.Roll), .int .i64 (s1.Drag), .int .i64 (s1.Brake), .int .i64 (s1.Top), .int .i64 (s1.Seats)]) :: (hs669 ++ R)) ⟨rfl, rfl, rfl, rfl, rfl, rfl, trivial⟩ (.cons_cons _ (sub_app hs669 (.refl _))) ⟨rfl, rfl, (Base.Le.refl _)⟩
        ·
          rw [if_neg hc764] at hm
          refine t_st rfl (st_move rfl) ?_
          refine t_yes 33 rfl rfl rfl ?_
          refine t_st rfl (st_move rfl) ?_
          refine t_yes 33 rfl rfl rfl ?_
          refine t_bool rfl (st_gtr rfl rfl) (fun hc765 => ?_) (fun hc765 => ?_)
          ·
            rw [if_pos hc765] at hm
            refine t_st rfl (st_pick_f rfl rfl) ?_
            refine t_st rfl (st_move rfl) ?_
            refine t_no 37 rfl rfl rfl rfl rfl ?_
            refine t_no 37 rfl rfl rfl rfl rfl ?_
            refine t_no 37 rfl rfl rfl rfl rfl ?_
            refine t_no 37 rfl rfl rfl rfl rfl ?_
            refine t_no 37 rfl rfl rfl rfl rfl ?_
            refine t_st rfl (st_pick_t rfl rfl) ?_
            refine t_st rfl (st_move rfl) ?_
            refine t_no 44 rfl rfl rfl rfl rfl ?_
            refine t_no 44 rfl rfl rfl rfl rfl ?_
            refine t_no 44 rfl rfl rfl rfl rfl ?_
            refine t_no 44 rfl rfl rfl rfl rfl ?_
            refine t_no 44 rfl rfl rfl rfl rfl ?_
            refine t_st rfl (st_pick_t rfl rfl) ?_
            refine t_st rfl (st_move rfl) ?_
            refine t_no 51 rfl rfl rfl rfl rfl ?_
            refine t_no 51 rfl rfl rfl rfl rfl ?_
            refine t_no 51 rfl rfl rfl rfl rfl ?_
            refine t_no 51 rfl rfl rfl rfl rfl ?_
            refine t_no 51 rfl rfl rfl rfl rfl ?_
            refine t_no 51 rfl rfl rfl rfl rfl ?_
            refine t_st rfl (st_pick_t rfl rfl) ?_
            refine t_st rfl (st_move rfl) ?_
            refine t_no 59 rfl rfl rfl rfl rfl ?_
            refine t_no 59 rfl rfl rfl rfl rfl ?_
            refine t_no 59 rfl rfl rfl rfl rfl ?_
            refine t_no 59 rfl rfl rfl rfl rfl ?_
            refine t_no 59 rfl rfl rfl rfl rfl ?_
            refine t_no 59 rfl rfl rfl rfl rfl ?_
            refine t_no 59 rfl rfl rfl rfl rfl ?_
            refine t_st rfl (st_pick_t rfl rfl) ?_
            refine t_st rfl (st_move rfl) ?_
            refine t_no 68 rfl rfl rfl rfl rfl ?_
            refine t_no 68 rfl rfl rfl rfl rfl ?_
            refine t_no 68 rfl rfl rfl rfl rfl ?_
            refine t_no 71 rfl rfl rfl rfl rfl ?_
            refine t_no 71 rfl rfl rfl rfl rfl ?_
            refine t_no 71 rfl rfl rfl rfl rfl ?_
            refine t_no 71 rfl rfl rfl rfl rfl ?_
            refine t_no 71 rfl rfl rfl rfl rfl ?_
            refine t_no 71 rfl rfl rfl rfl rfl ?_
            refine t_no 68 rfl rfl rfl rfl rfl ?_
            refine t_st rfl (st_pick_t rfl rfl) ?_
            refine t_nil ?_
            obtain rfl := some1 hm
            exact x_join (e' := [(1, .slice A2 (l5).length c3), (3, .int .i64 (x7)), (4, .pointer (some ⟨g658, 0, none⟩)), (9, .slice A667 (l663).length c668), (11, .int .i64 ((l663.length : Int) - 1)), (79, .bool (true))]) (hp' := (g658, Cl 43 [.string (s1.Name), .int .i64 (s1.Length), .int .i64 (s1.Mass), .int .i64 (s1.Start), .int .i64 (s1.Power), .int .i64 (s1.Roll), .int .i64 (s1.Drag), .int .i64 (s1.Brake), .int .i64 (s1.Top), .int .i64 (s1.Seats)]) :: (hs669 ++ R)) ⟨rfl, rfl, rfl, rfl, rfl, rfl, trivial⟩ (.cons_cons _ (sub_app hs669 (.refl _))) ⟨rfl, rfl, (Base.Le.refl _)⟩
          ·
            rw [if_neg hc765] at hm
            refine t_st rfl (st_pick_f rfl rfl) ?_
            refine t_st rfl (st_move rfl) ?_
            refine t_yes 37 rfl rfl rfl ?_
            refine t_st rfl (st_move rfl) ?_
            refine t_yes 37 rfl rfl rfl ?_
            obtain ⟨x766, h767, hm⟩ := bindS hm
            obtain ⟨j768, hj769, hx770⟩ := idx_some h767
            obtain ⟨cs771, hs776, P777, P778, hq779, hr772, hcs773, hA774, hlt775, hb780, hho781⟩ := OS.get (sz := 3) rfl (by decide) h670 hx770
            obtain ⟨⟨_, _, rfl, rfl, ⟨_, _, rfl, rfl, rfl⟩⟩, rfl⟩ := hr772
            refine t_st rfl (st_index_old j768 rfl rfl hj769 hlt775 hA774 sl87) ?_
            refine t_yes 37 rfl rfl rfl ?_
            refine t_st rfl (st_field_old rfl hA774 fld82_1) ?_
            refine t_yes 37 rfl rfl rfl ?_
            refine t_st rfl (st_load_rd rfl one3 (fun w ho => hcs773 w _ ho (.cons _ (List.sublist_append_left _ _)) 1 _ rfl)) ?_
            refine t_yes 37 rfl rfl rfl ?_
            refine t_bool rfl (st_neq rfl rfl) (fun hc782 => ?_) (fun hc782 => ?_)
            ·
              rw [if_pos hc782] at hm
              refine t_st rfl (st_pick_f rfl rfl) ?_
              refine t_st rfl (st_move rfl) ?_
              refine t_no 44 rfl rfl rfl rfl rfl ?_
              refine t_no 44 rfl rfl rfl rfl rfl ?_
              refine t_no 44 rfl rfl rfl rfl rfl ?_
              refine t_no 44 rfl rfl rfl rfl rfl ?_
              refine t_no 44 rfl rfl rfl rfl rfl ?_
              refine t_st rfl (st_pick_t rfl rfl) ?_
              refine t_st rfl (st_move rfl) ?_
              refine t_no 51 rfl rfl rfl rfl rfl ?_
              refine t_no 51 rfl rfl rfl rfl rfl ?_
              refine t_no 51 rfl rfl rfl rfl rfl ?_
              refine t_no 51 rfl rfl rfl rfl rfl ?_
              refine t_no 51 rfl rfl rfl rfl rfl ?_
              refine t_no 51 rfl rfl rfl rfl rfl ?_
              refine t_st rfl (st_pick_t rfl rfl) ?_
              refine t_st rfl (st_move rfl) ?_
              refine t_no 59 rfl rfl rfl rfl rfl ?_
              refine t_no 59 rfl rfl rfl rfl rfl ?_
              refine t_no 59 rfl rfl rfl rfl rfl ?_
              refine t_no 59 rfl rfl rfl rfl rfl ?_
              refine t_no 59 rfl rfl rfl rfl rfl ?_
              refine t_no 59 rfl rfl rfl rfl rfl ?_
              refine t_no 59 rfl rfl rfl rfl rfl ?_
              refine t_st rfl (st_pick_t rfl rfl) ?_
              refine t_st rfl (st_move rfl) ?_
              refine t_no 68 rfl rfl rfl rfl rfl ?_
              refine t_no 68 rfl rfl rfl rfl rfl ?_
              refine t_no 68 rfl rfl rfl rfl rfl ?_
              refine t_no 71 rfl rfl rfl rfl rfl ?_
              refine t_no 71 rfl rfl rfl rfl rfl ?_
              refine t_no 71 rfl rfl rfl rfl rfl ?_
              refine t_no 71 rfl rfl rfl rfl rfl ?_
              refine t_no 71 rfl rfl rfl rfl rfl ?_
              refine t_no 71 rfl rfl rfl rfl rfl ?_
              refine t_no 68 rfl rfl rfl rfl rfl ?_
              refine t_st rfl (st_pick_t rfl rfl) ?_
              refine t_nil ?_
              obtain rfl := some1 hm
              exact x_join (e' := [(1, .slice A2 (l5).length c3), (3, .int .i64 (x7)), (4, .pointer (some ⟨g658, 0, none⟩)), (9, .slice A667 (l663).length c668), (11, .int .i64 ((l663.length : Int) - 1)), (79, .bool (true))]) (hp' := (g658, Cl 43 [.string (s1.Name), .int .i64 (s1.Length), .int .i64 (s1.Mass), .int .i64 (s1.Start), .int .i64 (s1.Power), .int .i64 (s1.Roll), .int .i64 (s1.Drag), .int .i64 (s1.Brake), .int .i64 (s1.Top), .int .i64 (s1.Seats)]) :: (hs669 ++ R)) ⟨rfl, rfl, rfl, rfl, rfl, rfl, trivial⟩ (.cons_cons _ (sub_app hs669 (.refl _))) ⟨rfl, rfl, (Base.Le.refl _)⟩
            ·
              rw [if_neg hc782] at hm
              refine t_st rfl (st_pick_f rfl rfl) ?_
              refine t_st rfl (st_move rfl) ?_
              refine t_yes 44 rfl rfl rfl ?_
              refine t_st rfl (st_move rfl) ?_
              refine t_yes 44 rfl rfl rfl ?_
              obtain ⟨x783, h784, hm⟩ := bindS hm
              obtain ⟨j785, hj786, hx787⟩ := idx_some h784
              obtain ⟨cs788, hs793, P794, P795, hq796, hr789, hcs790, hA791, hlt792, hb797, hho798⟩ := OS.get (sz := 3) rfl (by decide) h670 hx787
              obtain ⟨⟨_, _, rfl, rfl, ⟨_, _, rfl, rfl, rfl⟩⟩, rfl⟩ := hr789
              refine t_st rfl (st_index_old j785 rfl rfl hj786 hlt792 hA791 sl87) ?_
              refine t_yes 44 rfl rfl rfl ?_
              refine t_st rfl (st_field_old rfl hA791 fld82_2) ?_
              refine t_yes 44 rfl rfl rfl ?_
              refine t_st rfl (st_load_rd rfl one3 (fun w ho => hcs790 w _ ho (.cons _ (List.sublist_append_left _ _)) 2 _ rfl)) ?_
              refine t_yes 44 rfl rfl rfl ?_
              refine t_bool rfl (st_neq rfl rfl) (fun hc799 => ?_) (fun hc799 => ?_)
              ·
                rw [if_pos hc799] at hm
                refine t_st rfl (st_pick_f rfl rfl) ?_
                refine t_st rfl (st_move rfl) ?_
                refine t_no 51 rfl rfl rfl rfl rfl ?_
                refine t_no 51 rfl rfl rfl rfl rfl ?_
                refine t_no 51 rfl rfl rfl rfl rfl ?_
                refine t_no 51 rfl rfl rfl rfl rfl ?_
                refine t_no 51 rfl rfl rfl rfl rfl ?_
                refine t_no 51 rfl rfl rfl rfl rfl ?_
                refine t_st rfl (st_pick_t rfl rfl) ?_
                refine t_st rfl (st_move rfl) ?_
                refine t_no 59 rfl rfl rfl rfl rfl ?_
                refine t_no 59 rfl rfl rfl rfl rfl ?_
                refine t_no 59 rfl rfl rfl rfl rfl ?_
                refine t_no 59 rfl rfl rfl rfl rfl ?_
                refine t_no 59 rfl rfl rfl rfl rfl ?_
                refine t_no 59 rfl rfl rfl rfl rfl ?_
                refine t_no 59 rfl rfl rfl rfl rfl ?_
                refine t_st rfl (st_pick_t rfl rfl) ?_
                refine t_st rfl (st_move rfl) ?_
                refine t_no 68 rfl rfl rfl rfl rfl ?_
                refine t_no 68 rfl rfl rfl rfl rfl ?_
                refine t_no 68 rfl rfl rfl rfl rfl ?_
                refine t_no 71 rfl rfl rfl rfl rfl ?_
                refine t_no 71 rfl rfl rfl rfl rfl ?_
                refine t_no 71 rfl rfl rfl rfl rfl ?_
                refine t_no 71 rfl rfl rfl rfl rfl ?_
                refine t_no 71 rfl rfl rfl rfl rfl ?_
                refine t_no 71 rfl rfl rfl rfl rfl ?_
                refine t_no 68 rfl rfl rfl rfl rfl ?_
                refine t_st rfl (st_pick_t rfl rfl) ?_
                refine t_nil ?_
                obtain rfl := some1 hm
                exact x_join (e' := [(1, .slice A2 (l5).length c3), (3, .int .i64 (x7)), (4, .pointer (some ⟨g658, 0, none⟩)), (9, .slice A667 (l663).length c668), (11, .int .i64 ((l663.length : Int) - 1)), (79, .bool (true))]) (hp' := (g658, Cl 43 [.string (s1.Name), .int .i64 (s1.Length), .int .i64 (s1.Mass), .int .i64 (s1.Start), .int .i64 (s1.Power), .int .i64 (s1.Roll), .int .i64 (s1.Drag), .int .i64 (s1.Brake), .int .i64 (s1.Top), .int .i64 (s1.Seats)]) :: (hs669 ++ R)) ⟨rfl, rfl, rfl, rfl, rfl, rfl, trivial⟩ (.cons_cons _ (sub_app hs669 (.refl _))) ⟨rfl, rfl, (Base.Le.refl _)⟩
              ·
                rw [if_neg hc799] at hm
                refine t_st rfl (st_pick_f rfl rfl) ?_
                refine t_st rfl (st_move rfl) ?_
                refine t_yes 51 rfl rfl rfl ?_
                refine t_st rfl (st_move rfl) ?_
                refine t_yes 51 rfl rfl rfl ?_
                refine t_st rfl (st_move rfl) ?_
                refine t_yes 51 rfl rfl rfl ?_
                obtain ⟨x800, h801, hm⟩ := bindS hm
                obtain ⟨j802, hj803, hx804⟩ := idx_some h801
                obtain ⟨cs805, hs810, P811, P812, hq813, hr806, hcs807, hA808, hlt809, hb814, hho815⟩ := OS.get (sz := 3) rfl (by decide) h670 hx804
                obtain ⟨⟨_, _, rfl, rfl, ⟨_, _, rfl, rfl, rfl⟩⟩, rfl⟩ := hr806
                refine t_st rfl (st_index_old j802 rfl rfl hj803 hlt809 hA808 sl87) ?_
                refine t_yes 51 rfl rfl rfl ?_
                refine t_st rfl (st_field_old rfl hA808 fld82_1) ?_
                refine t_yes 51 rfl rfl rfl ?_
                refine t_st rfl (st_load_rd rfl one3 (fun w ho => hcs807 w _ ho (.cons _ (List.sublist_append_left _ _)) 1 _ rfl)) ?_
                refine t_yes 51 rfl rfl rfl ?_
                refine t_bool rfl (st_neq rfl rfl) (fun hc816 => ?_) (fun hc816 => ?_)
                ·
                  rw [if_pos hc816] at hm
                  refine t_st rfl (st_pick_f rfl rfl) ?_
                  refine t_st rfl (st_move rfl) ?_
                  refine t_no 59 rfl rfl rfl rfl rfl ?_
                  refine t_no 59 rfl rfl rfl rfl rfl ?_
                  refine t_no 59 rfl rfl rfl rfl rfl ?_
                  refine t_no 59 rfl rfl rfl rfl rfl ?_
                  refine t_no 59 rfl rfl rfl rfl rfl ?_
                  refine t_no 59 rfl rfl rfl rfl rfl ?_
                  refine t_no 59 rfl rfl rfl rfl rfl ?_
                  refine t_st rfl (st_pick_t rfl rfl) ?_
                  refine t_st rfl (st_move rfl) ?_
                  refine t_no 68 rfl rfl rfl rfl rfl ?_
                  refine t_no 68 rfl rfl rfl rfl rfl ?_
                  refine t_no 68 rfl rfl rfl rfl rfl ?_
                  refine t_no 71 rfl rfl rfl rfl rfl ?_
                  refine t_no 71 rfl rfl rfl rfl rfl ?_
                  refine t_no 71 rfl rfl rfl rfl rfl ?_
                  refine t_no 71 rfl rfl rfl rfl rfl ?_
                  refine t_no 71 rfl rfl rfl rfl rfl ?_
                  refine t_no 71 rfl rfl rfl rfl rfl ?_
                  refine t_no 68 rfl rfl rfl rfl rfl ?_
                  refine t_st rfl (st_pick_t rfl rfl) ?_
                  refine t_nil ?_
                  obtain rfl := some1 hm
                  exact x_join (e' := [(1, .slice A2 (l5).length c3), (3, .int .i64 (x7)), (4, .pointer (some ⟨g658, 0, none⟩)), (9, .slice A667 (l663).length c668), (11, .int .i64 ((l663.length : Int) - 1)), (79, .bool (true))]) (hp' := (g658, Cl 43 [.string (s1.Name), .int .i64 (s1.Length), .int .i64 (s1.Mass), .int .i64 (s1.Start), .int .i64 (s1.Power), .int .i64 (s1.Roll), .int .i64 (s1.Drag), .int .i64 (s1.Brake), .int .i64 (s1.Top), .int .i64 (s1.Seats)]) :: (hs669 ++ R)) ⟨rfl, rfl, rfl, rfl, rfl, rfl, trivial⟩ (.cons_cons _ (sub_app hs669 (.refl _))) ⟨rfl, rfl, (Base.Le.refl _)⟩
                ·
                  rw [if_neg hc816] at hm
                  refine t_st rfl (st_pick_f rfl rfl) ?_
                  refine t_st rfl (st_move rfl) ?_
                  refine t_yes 59 rfl rfl rfl ?_
                  refine t_st rfl (st_move rfl) ?_
                  refine t_yes 59 rfl rfl rfl ?_
                  refine t_st rfl (st_move rfl) ?_
                  refine t_yes 59 rfl rfl rfl ?_
                  obtain ⟨x817, h818, hm⟩ := bindS hm
                  obtain ⟨j819, hj820, hx821⟩ := idx_some h818
                  obtain ⟨cs822, hs827, P828, P829, hq830, hr823, hcs824, hA825, hlt826, hb831, hho832⟩ := OS.get (sz := 3) rfl (by decide) h670 hx821
                  obtain ⟨⟨_, _, rfl, rfl, ⟨_, _, rfl, rfl, rfl⟩⟩, rfl⟩ := hr823
                  refine t_st rfl (st_index_old j819 rfl rfl hj820 hlt826 hA825 sl87) ?_
                  refine t_yes 59 rfl rfl rfl ?_
                  refine t_st rfl (st_field_old rfl hA825 fld82_0) ?_
                  refine t_yes 59 rfl rfl rfl ?_
                  refine t_st rfl (st_load_rd rfl one3 (fun w ho => hcs824 w _ ho (.cons _ (List.sublist_append_left _ _)) 0 _ rfl)) ?_
                  refine t_yes 59 rfl rfl rfl ?_
                  refine t_st rfl (st_move rfl) ?_
                  refine t_yes 59 rfl rfl rfl ?_
                  refine t_bool rfl (st_neq rfl rfl) (fun hc833 => ?_) (fun hc833 => ?_)
                  ·
                    rw [if_pos hc833] at hm
                    refine t_st rfl (st_pick_f rfl rfl) ?_
                    refine t_st rfl (st_move rfl) ?_
                    refine t_no 68 rfl rfl rfl rfl rfl ?_
                    refine t_no 68 rfl rfl rfl rfl rfl ?_
                    refine t_no 68 rfl rfl rfl rfl rfl ?_
                    refine t_no 71 rfl rfl rfl rfl rfl ?_
                    refine t_no 71 rfl rfl rfl rfl rfl ?_
                    refine t_no 71 rfl rfl rfl rfl rfl ?_
                    refine t_no 71 rfl rfl rfl rfl rfl ?_
                    refine t_no 71 rfl rfl rfl rfl rfl ?_
                    refine t_no 71 rfl rfl rfl rfl rfl ?_
                    refine t_no 68 rfl rfl rfl rfl rfl ?_
                    refine t_st rfl (st_pick_t rfl rfl) ?_
                    refine t_nil ?_
                    obtain rfl := some1 hm
                    exact x_join (e' := [(1, .slice A2 (l5).length c3), (3, .int .i64 (x7)), (4, .pointer (some ⟨g658, 0, none⟩)), (9, .slice A667 (l663).length c668), (11, .int .i64 ((l663.length : Int) - 1)), (79, .bool (true))]) (hp' := (g658, Cl 43 [.string (s1.Name), .int .i64 (s1.Length), .int .i64 (s1.Mass), .int .i64 (s1.Start), .int .i64 (s1.Power), .int .i64 (s1.Roll), .int .i64 (s1.Drag), .int .i64 (s1.Brake), .int .i64 (s1.Top), .int .i64 (s1.Seats)]) :: (hs669 ++ R)) ⟨rfl, rfl, rfl, rfl, rfl, rfl, trivial⟩ (.cons_cons _ (sub_app hs669 (.refl _))) ⟨rfl, rfl, (Base.Le.refl _)⟩
                  ·
                    rw [if_neg hc833] at hm
                    refine t_st rfl (st_pick_f rfl rfl) ?_
                    refine t_st rfl (st_move rfl) ?_
                    refine t_yes 68 rfl rfl rfl ?_
                    refine t_st rfl (st_move rfl) ?_
                    refine t_yes 68 rfl rfl rfl ?_
                    refine t_bool rfl (st_gtr rfl rfl) (fun hc834 => ?_) (fun hc834 => ?_)
                    ·
                      rw [if_pos hc834] at hm
                      refine t_yes 68 rfl rfl rfl ?_
                      refine t_st rfl (st_move rfl) ?_
                      refine t_yes 71 rfl rfl rfl ?_
                      refine t_st rfl (st_move rfl) ?_
                      refine t_yes 71 rfl rfl rfl ?_
                      obtain ⟨x835, h836, hm⟩ := bindS hm
                      obtain ⟨j837, hj838, hx839⟩ := idx_some h836
                      obtain ⟨cs840, hs845, P846, P847, hq848, hr841, hcs842, hA843, hlt844, hb849, hho850⟩ := OS.get (sz := 3) rfl (by decide) h670 hx839
                      obtain ⟨⟨_, _, rfl, rfl, ⟨_, _, rfl, rfl, rfl⟩⟩, rfl⟩ := hr841
                      refine t_st rfl (st_index_old j837 rfl rfl hj838 hlt844 hA843 sl87) ?_
                      refine t_yes 71 rfl rfl rfl ?_
                      refine t_st rfl (st_field_old rfl hA843 fld82_0) ?_
                      refine t_yes 71 rfl rfl rfl ?_
                      refine t_st rfl (st_load_rd rfl one3 (fun w ho => hcs842 w _ ho (.cons _ (List.sublist_append_left _ _)) 0 _ rfl)) ?_
                      refine t_yes 71 rfl rfl rfl ?_
                      refine t_st rfl (st_move rfl) ?_
                      refine t_yes 71 rfl rfl rfl ?_
                      refine t_st rfl (st_neq rfl rfl) ?_
                      refine t_yes 68 rfl rfl rfl ?_
                      refine t_st rfl (st_pick_t rfl rfl) ?_
                      refine t_st rfl (st_pick_f rfl rfl) ?_
                      refine t_nil ?_
                      obtain rfl := some1 hm
                      exact x_join (e' := [(1, .slice A2 (l5).length c3), (3, .int .i64 (x7)), (4, .pointer (some ⟨g658, 0, none⟩)), (9, .slice A667 (l663).length c668), (11, .int .i64 ((l663.length : Int) - 1)), (79, .bool (decide (x835.At ≠ x6)))]) (hp' := (g658, Cl 43 [.string (s1.Name), .int .i64 (s1.Length), .int .i64 (s1.Mass), .int .i64 (s1.Start), .int .i64 (s1.Power), .int .i64 (s1.Roll), .int .i64 (s1.Drag), .int .i64 (s1.Brake), .int .i64 (s1.Top), .int .i64 (s1.Seats)]) :: (hs669 ++ R)) ⟨rfl, rfl, rfl, rfl, rfl, rfl, trivial⟩ (.cons_cons _ (sub_app hs669 (.refl _))) ⟨rfl, rfl, (Base.Le.refl _)⟩
                    ·
                      rw [if_neg hc834] at hm
                      refine t_yes 68 rfl rfl rfl ?_
                      refine t_st rfl (st_move rfl) ?_
                      refine t_no 71 rfl rfl rfl rfl rfl ?_
                      refine t_no 71 rfl rfl rfl rfl rfl ?_
                      refine t_no 71 rfl rfl rfl rfl rfl ?_
                      refine t_no 71 rfl rfl rfl rfl rfl ?_
                      refine t_no 71 rfl rfl rfl rfl rfl ?_
                      refine t_no 71 rfl rfl rfl rfl rfl ?_
                      refine t_yes 68 rfl rfl rfl ?_
                      refine t_st rfl (st_pick_f rfl rfl) ?_
                      refine t_st rfl (st_pick_f rfl rfl) ?_
                      refine t_nil ?_
                      obtain rfl := some1 hm
                      exact x_join (e' := [(1, .slice A2 (l5).length c3), (3, .int .i64 (x7)), (4, .pointer (some ⟨g658, 0, none⟩)), (9, .slice A667 (l663).length c668), (11, .int .i64 ((l663.length : Int) - 1)), (79, .bool (false))]) (hp' := (g658, Cl 43 [.string (s1.Name), .int .i64 (s1.Length), .int .i64 (s1.Mass), .int .i64 (s1.Start), .int .i64 (s1.Power), .int .i64 (s1.Roll), .int .i64 (s1.Drag), .int .i64 (s1.Brake), .int .i64 (s1.Top), .int .i64 (s1.Seats)]) :: (hs669 ++ R)) ⟨rfl, rfl, rfl, rfl, rfl, rfl, trivial⟩ (.cons_cons _ (sub_app hs669 (.refl _))) ⟨rfl, rfl, (Base.Le.refl _)⟩
      ·
        rintro b760 _ _ ⟨rfl, rfl, hle761⟩
        have hm := hk763
        refine c_cond _ rfl (fun hc851 => ?_) (fun hc851 => ?_)
        ·
          rw [if_pos hc851] at hm
          refine c_seq ?_
          refine c_region ?_
          refine t_st rfl (st_assign rfl) ?_
          refine t_nil ?_
          refine x_then_normal ?_
          refine c_ret ?_
          refine x_then_ret ?_
          obtain rfl := some1 hm
          exact retM (rs := [.tmp 8]) [.bool (false)] (hle666.trans hle761) (by decide) rfl ⟨rfl, trivial⟩ rfl (hp' := R) (.cons _ (sub_skip hs669 (.refl _))) ⟨rfl, rfl⟩
        ·
          rw [if_neg (fun hh => Bool.noConfusion (hh.symm.trans hc851))] at hm
          refine c_skip ?_
          refine x_then_normal ?_
          obtain ⟨t1079, hj1078, hk1078⟩ := bindS hm
          refine c_join (fun b1076 e' hp' => [] = e' ∧ R = hp' ∧ b760.Le b1076 ∧ t1079 = .inl ()) ?_ ?_
          ·
            have hm := hj1078
            refine c_seq ?_
            refine c_region ?_
            refine t_st rfl (st_assign rfl) ?_
            refine t_nil ?_
            refine x_then_normal ?_
            refine c_block ?_
            refine c_loopM (fun x1230 => fun b1228 e' hp' => [(1, .slice A2 (l5).length c3), (3, .int .i64 (x7)), (4, .pointer (some ⟨g658, 0, none⟩)), (9, .slice A667 (l663).length c668), (11, .int .i64 ((l663.length : Int) - 1)), (12, .int .i64 (x1230))] = e' ∧ (g658, Cl 43 [.string (s1.Name), .int .i64 (s1.Length), .int .i64 (s1.Mass), .int .i64 (s1.Start), .int .i64 (s1.Power), .int .i64 (s1.Roll), .int .i64 (s1.Drag), .int .i64 (s1.Brake), .int .i64 (s1.Top), .int .i64 (s1.Seats)]) :: (hs669 ++ R) = hp' ∧ b760.Le b1228) hm (e' := [(1, .slice A2 (l5).length c3), (3, .int .i64 (x7)), (4, .pointer (some ⟨g658, 0, none⟩)), (9, .slice A667 (l663).length c668), (11, .int .i64 ((l663.length : Int) - 1)), (12, .int .i64 (1))]) (hp' := (g658, Cl 43 [.string (s1.Name), .int .i64 (s1.Length), .int .i64 (s1.Mass), .int .i64 (s1.Start), .int .i64 (s1.Power), .int .i64 (s1.Roll), .int .i64 (s1.Drag), .int .i64 (s1.Brake), .int .i64 (s1.Top), .int .i64 (s1.Seats)]) :: (hs669 ++ R)) ⟨rfl, rfl, rfl, rfl, rfl, rfl, trivial⟩ (.cons_cons _ (sub_app hs669 (.refl _))) ⟨rfl, rfl, (Base.Le.refl _)⟩ ?_
            rintro x1230 b1228 _ _ oL1080 ⟨rfl, rfl, hle1229⟩ hstepL1080 houtL1080
            unfold mFishkeep1RunKeeps_L1080 at hstepL1080
            have hm := hstepL1080
            refine c_seq ?_
            refine c_seq ?_
            refine c_region ?_
            refine t_st rfl (st_move rfl) ?_
            refine t_st rfl (st_move rfl) ?_
            refine t_st rfl (st_leq rfl rfl) ?_
            refine t_nil ?_
            refine x_then_normal ?_
            refine c_cond _ rfl (fun hc1231 => ?_) (fun hc1231 => ?_)
            ·
              rw [if_pos (of_decide_eq_true hc1231)] at hm
              refine c_skip ?_
              refine x_then_normal ?_
              refine c_seq ?_
              refine c_block ?_
              refine c_seq ?_
              obtain ⟨_, h1267, hm⟩ := bindS hm
              obtain ⟨x1268, h1269, hm⟩ := bindS hm
              obtain ⟨x1284, h1285, hm⟩ := bindS hm
              obtain ⟨x1300, hcl1301, hm⟩ := bindS hm
              refine D_drawS ((g658, Cl 43 [.string (s1.Name), .int .i64 (s1.Length), .int .i64 (s1.Mass), .int .i64 (s1.Start), .int .i64 (s1.Power), .int .i64 (s1.Roll), .int .i64 (s1.Drag), .int .i64 (s1.Brake), .int .i64 (s1.Top), .int .i64 (s1.Seats)]) :: (hs669 ++ R)) mixed ?_
              refine D_st (Base.Le.refl _) 0 rfl (by kernel_rfl) (by kernel_rfl) (by kernel_rfl) rfl (st_loadD (vs := [_, _, _, _, _, _, _, _, _, _]) 0 10 rfl agg43 rfl rfl rfl) (.cons_cons _ (sub_app hs669 (.refl _))) ?_
              refine D_st (Base.Le.refl _) 1 rfl (by kernel_rfl) (by kernel_rfl) (by kernel_rfl) rfl (st_move rfl) (.cons_cons _ (sub_app hs669 (.refl _))) ?_
              refine D_st (Base.Le.refl _) 2 rfl (by kernel_rfl) (by kernel_rfl) (by kernel_rfl) rfl (st_move rfl) (.cons_cons _ (sub_app hs669 (.refl _))) ?_
              refine D_st (Base.Le.refl _) 3 rfl (by kernel_rfl) (by kernel_rfl) (by kernel_rfl) rfl (st_move rfl) (.cons_cons _ (sub_app hs669 (.refl _))) ?_
              have h1267 := (chk_some h1267).2
              refine D_st (Base.Le.refl _) 4 rfl (by kernel_rfl) (by kernel_rfl) (by kernel_rfl) rfl (st_sub rfl rfl h1267) (.cons_cons _ (sub_app hs669 (.refl _))) ?_
              obtain ⟨j1270, hj1271, hx1272⟩ := idx_some h1269
              obtain ⟨cs1273, hs1278, P1279, P1280, hq1281, hr1274, hcs1275, hA1276, hlt1277, hb1282, hho1283⟩ := OS.get (sz := 3) rfl (by decide) (h670.le (hle761.trans hle1229)) hx1272
              obtain ⟨⟨_, _, rfl, rfl, ⟨_, _, rfl, rfl, rfl⟩⟩, rfl⟩ := hr1274
              refine D_st (Base.Le.refl _) 5 rfl (by kernel_rfl) (by kernel_rfl) (by kernel_rfl) rfl (st_index_old j1270 rfl rfl hj1271 hlt1277 hA1276 sl87) (.cons_cons _ (sub_app hs669 (.refl _))) ?_
              refine D_st (Base.Le.refl _) 6 rfl (by kernel_rfl) (by kernel_rfl) (by kernel_rfl) rfl (st_loadN_rd (vs := [.int .i64 (x1268.At), .int .i64 (x1268.Speed), .int .i64 (x1268.Work)]) 3 rfl agg82 hA1276 rfl (fun w ho j u hu => hcs1275 w _ ho (.cons _ (List.sublist_append_left _ _)) j u hu)) (.cons_cons _ (sub_app hs669 (.refl _))) ?_
              refine D_st (Base.Le.refl _) 7 rfl (by kernel_rfl) (by kernel_rfl) (by kernel_rfl) rfl (st_move rfl) (.cons_cons _ (sub_app hs669 (.refl _))) ?_
              refine D_st (Base.Le.refl _) 8 rfl (by kernel_rfl) (by kernel_rfl) (by kernel_rfl) rfl (st_move rfl) (.cons_cons _ (sub_app hs669 (.refl _))) ?_
              obtain ⟨j1286, hj1287, hx1288⟩ := idx_some h1285
              obtain ⟨cs1289, hs1294, P1295, P1296, hq1297, hr1290, hcs1291, hA1292, hlt1293, hb1298, hho1299⟩ := OS.get (sz := 3) rfl (by decide) (h670.le (hle761.trans hle1229)) hx1288
              obtain ⟨⟨_, _, rfl, rfl, ⟨_, _, rfl, rfl, rfl⟩⟩, rfl⟩ := hr1290
              refine D_st (Base.Le.refl _) 9 rfl (by kernel_rfl) (by kernel_rfl) (by kernel_rfl) rfl (st_index_old j1286 rfl rfl hj1287 hlt1293 hA1292 sl87) (.cons_cons _ (sub_app hs669 (.refl _))) ?_
              refine D_st (Base.Le.refl _) 10 rfl (by kernel_rfl) (by kernel_rfl) (by kernel_rfl) rfl (st_loadN_rd (vs := [.int .i64 (x1284.At), .int .i64 (x1284.Speed), .int .i64 (x1284.Work)]) 3 rfl agg82 hA1292 rfl (fun w ho j u hu => hcs1291 w _ ho (.cons _ (List.sublist_append_left _ _)) j u hu)) (.cons_cons _ (sub_app hs669 (.refl _))) ?_
              refine D_st (Base.Le.refl _) 11 rfl (by kernel_rfl) (by kernel_rfl) (by kernel_rfl) rfl (st_move rfl) (.cons_cons _ (sub_app hs669 (.refl _))) ?_
              refine D_st (Base.Le.refl _) 12 rfl (by kernel_rfl) (by kernel_rfl) (by kernel_rfl) rfl (st_move rfl) (.cons_cons _ (sub_app hs669 (.refl _))) ?_
              refine D_st (Base.Le.refl _) 13 rfl (by kernel_rfl) (by kernel_rfl) (by kernel_rfl) rfl (st_move rfl) (.cons_cons _ (sub_app hs669 (.refl _))) ?_
              refine D_st (Base.Le.refl _) 14 rfl (by kernel_rfl) (by kernel_rfl) (by kernel_rfl) rfl (st_eql rfl rfl) (.cons_cons _ (sub_app hs669 (.refl _))) ?_
              refine D_all [15] (by kernel_rfl) rfl ?_
              refine R_do (Base.Le.refl _) rfl rfl (u_callW0 _ call43 rfl (fun w ho => cFishkeep1SecondKeeps _ [] s1 l5 x1268 x1284 x7 (decide (x1230 = ((l663.length : Int) - 1))) A2 c3 ((h4.le (hle666.trans (hle761.trans hle1229))).old ho) x1300 hcl1301) (fun _ _ _ h => h.2.symm)) ?_ ?_
              ·
                rintro _ _ ⟨⟨_, rfl, _⟩, rfl⟩
                refine ⟨.inr (.cons_cons _ (sub_app hs669 (.refl _))), ?_⟩
                refine D_st (Base.Le.refl _) 16 rfl (by kernel_rfl) (by kernel_rfl) (by kernel_rfl) rfl (st_not rfl) (.cons_cons _ (sub_app hs669 (.refl _))) ?_
                refine D_done (by kernel_rfl) ?_
                refine x_then_normal ?_
                refine c_cond _ rfl (fun hc1302 => ?_) (fun hc1302 => ?_)
                ·
                  rw [if_neg (fun hh => Bool.noConfusion (hh.symm.trans (notT hc1302)))] at hm
                  refine c_seq ?_
                  refine c_region ?_
                  refine t_st rfl (st_assign rfl) ?_
                  refine t_nil ?_
                  refine x_then_normal ?_
                  refine c_ret ?_
                  refine x_block_ret ?_
                  refine x_then_ret ?_
                  refine x_then_ret ?_
                  refine x_block_ret ?_
                  refine x_then_ret ?_
                  have hm := congrArg some (houtL1080 _ (Option.some.inj hm).symm)
                  have hq1303 := (Option.some.inj hm).symm
                  rw [hq1303] at hk1078
                  have hm := elimR hk1078
                  obtain rfl := some1 hm
                  exact retM (rs := [.tmp 8]) [.bool (false)] (hle666.trans (hle761.trans hle1229)) (by decide) rfl ⟨rfl, trivial⟩ rfl (hp' := R) (.cons _ (sub_skip hs669 (.refl _))) ⟨rfl, rfl⟩
                ·
                  rw [if_pos (notF hc1302)] at hm
                  refine c_skip ?_
                  refine x_block_normal ?_
                  refine x_then_normal ?_
                  refine c_region ?_
                  refine t_st rfl (st_move rfl) ?_
                  obtain ⟨_, h1304, hm⟩ := bindS hm
                  have h1304 := (chk_some h1304).2
                  refine t_st rfl (st_add rfl rfl h1304) ?_
                  refine t_st rfl (st_assign rfl) ?_
                  refine t_nil ?_
                  exact x_againM (x1230 + 1) (Option.some.inj hm).symm (e' := [(1, .slice A2 (l5).length c3), (3, .int .i64 (x7)), (4, .pointer (some ⟨g658, 0, none⟩)), (9, .slice A667 (l663).length c668), (11, .int .i64 ((l663.length : Int) - 1)), (12, .int .i64 (x1230 + 1))]) (hp' := (g658, Cl 43 [.string (s1.Name), .int .i64 (s1.Length), .int .i64 (s1.Mass), .int .i64 (s1.Start), .int .i64 (s1.Power), .int .i64 (s1.Roll), .int .i64 (s1.Drag), .int .i64 (s1.Brake), .int .i64 (s1.Top), .int .i64 (s1.Seats)]) :: (hs669 ++ R)) ⟨rfl, rfl, rfl, rfl, rfl, rfl, trivial⟩ (.cons_cons _ (sub_app hs669 (.refl _))) ⟨rfl, rfl, (hle1229)⟩
              exact R_nil
            ·
              rw [if_neg (of_decide_eq_false hc1231)] at hm
              refine c_exit ?_
              refine x_then_exit ?_
              refine x_then_exit ?_
              refine x_block_out ?_
              have hm := congrArg some (houtL1080 _ (Option.some.inj hm).symm)
              have hq := (Option.some.inj hm).symm
              exact x_join (e' := []) (hp' := R) trivial (.cons _ (sub_skip hs669 (.refl _))) ⟨rfl, rfl, hle1229, hq⟩
          ·
            rintro b1076 _ _ ⟨rfl, rfl, hle1077, hq1305⟩
            rw [hq1305] at hk1078
            have hm := elimL hk1078
            refine c_seq ?_
            refine c_region ?_
            refine t_st rfl (st_assign rfl) ?_
            refine t_nil ?_
            refine x_then_normal ?_
            refine c_ret ?_
            obtain rfl := some1 hm
            exact retM (rs := [.tmp 8]) [.bool (true)] (hle666.trans (hle761.trans hle1077)) (by decide) rfl ⟨rfl, trivial⟩ rfl (hp' := R) (.refl _) ⟨rfl, rfl⟩

set_option maxRecDepth 20000 in
theorem cRunSaving (b : Base) (R : Hp) (s1 : ApiStock) (l5 : (List ApiPiece)) (x6 : Int) (x7 : Int) (x8 : Int) (A2 : Option Addr) (c3 : Nat) (h4 : FZ rApiPiece b.w A2 c3 l5) (x126 : Int) (x127 : Int) (hm : mRunSaving s1 l5 x6 x7 x8 = some (x126, x127)) :
    CallsG Tryd.prog 44 [.agg #[.string (s1.Name), .int .i64 (s1.Length), .int .i64 (s1.Mass), .int .i64 (s1.Start), .int .i64 (s1.Power), .int .i64 (s1.Roll), .int .i64 (s1.Drag), .int .i64 (s1.Brake), .int .i64 (s1.Top), .int .i64 (s1.Seats)], .slice A2 (l5).length c3, .int .i64 (x6), .int .i64 (x7), .int .i64 (x8)] b (R) (fun v b' hp' => .tuple #[.int .i64 (x126), .int .i64 (x127)] = v ∧ R = hp') := by
  refine fn_enterG 62 Tryd.func44 rfl Tryd.ntmps44 rfl ?_
  unfold mRunSaving at hm
  refine c_seq ?_
  refine c_region ?_
  refine t_do rfl (u_box _ rfl rfl) ?_
  rintro _ _ ⟨g128, rfl, rfl⟩
  refine t_st rfl (st_assign rfl) ?_
  refine t_st rfl (st_assign rfl) ?_
  refine t_nil ?_
  refine x_then_normal ?_
  refine c_seq ?_
  refine c_seq ?_
  refine c_region ?_
  refine t_st rfl (st_loadD (vs := [_, _, _, _, _, _, _, _, _, _]) 0 10 rfl agg43 rfl rfl rfl) ?_
  refine t_st rfl (st_move rfl) ?_
  refine t_st rfl (st_move rfl) ?_
  refine t_st rfl (st_build (v := .agg #[.int .i64 (x6), .int .i64 (0), .int .i64 (0)]) [(0, .int .i64 (x6))] rfl (fun _ => by kernel_rfl)) ?_
  refine t_st rfl (st_move rfl) ?_
  obtain ⟨x129, hcl130, hm⟩ := bindS hm
  refine t_do rfl (u_callW0 _ call69 rfl (fun w ho => cRunCheck_2 _ [] s1 l5 (⟨x6, 0, 0⟩ : ApiState) x7 A2 c3 (h4.old ho) x129 hcl130) (fun _ _ _ h => h.2.symm)) ?_
  rintro _ _ ⟨⟨_, rfl, _⟩, rfl⟩
  refine t_st rfl (st_assign rfl) ?_
  refine t_nil ?_
  refine x_then_normal ?_
  refine c_seq ?_
  refine c_region ?_
  refine t_st rfl (st_move rfl) ?_
  refine t_st rfl (st_neq rfl rfl) ?_
  refine t_nil ?_
  refine x_then_normal ?_
  refine c_cond _ rfl (fun hc131 => ?_) (fun hc131 => ?_)
  ·
    rw [if_pos (of_decide_eq_true hc131)] at hm
    refine c_seq ?_
    refine c_region ?_
    refine t_st rfl (st_move rfl) ?_
    refine t_st rfl (st_assign rfl) ?_
    refine t_st rfl (st_assign rfl) ?_
    refine t_nil ?_
    refine x_then_normal ?_
    refine c_ret ?_
    refine x_then_ret ?_
    obtain ⟨rfl, rfl⟩ := some2 hm
    exact retM (rs := [.tmp 10, .tmp 11]) [.int .i64 (0), .int .i64 (x129)] (Base.Le.refl _) (by decide) rfl ⟨rfl, ⟨rfl, trivial⟩⟩ rfl (hp' := R) (.cons _ (.refl _)) ⟨rfl, rfl⟩
  ·
    rw [if_neg (of_decide_eq_false hc131)] at hm
    refine c_skip ?_
    refine x_then_normal ?_
    refine c_seq ?_
    refine c_seq ?_
    refine c_region ?_
    refine t_st rfl (st_move rfl) ?_
    obtain ⟨x132, hcl133, hm⟩ := bindS hm
    refine t_do rfl (u_callW0 _ call59 rfl (fun w ho => cRunWithin _ [] x8 0 3600 x132 hcl133) (fun _ _ _ h => h.2.symm)) ?_
    rintro _ _ ⟨⟨_, rfl, _⟩, rfl⟩
    refine t_st rfl (st_not rfl) ?_
    refine t_nil ?_
    refine x_then_normal ?_
    refine c_cond _ rfl (fun hc134 => ?_) (fun hc134 => ?_)
    ·
      rw [if_neg (fun hh => Bool.noConfusion (hh.symm.trans (notT hc134)))] at hm
      refine c_seq ?_
      refine c_region ?_
      refine t_st rfl (st_assign rfl) ?_
      refine t_st rfl (st_assign rfl) ?_
      refine t_nil ?_
      refine x_then_normal ?_
      refine c_ret ?_
      refine x_then_ret ?_
      obtain ⟨rfl, rfl⟩ := some2 hm
      exact retM (rs := [.tmp 10, .tmp 11]) [.int .i64 (0), .int .i64 (2)] (Base.Le.refl _) (by decide) rfl ⟨rfl, ⟨rfl, trivial⟩⟩ rfl (hp' := R) (.cons _ (.refl _)) ⟨rfl, rfl⟩
    ·
      rw [if_pos (notF hc134)] at hm
      refine c_skip ?_
      refine x_then_normal ?_
      obtain ⟨t189, hj188, hk188⟩ := bindS hm
      refine c_join (fun b186 e' hp' => [] = e' ∧ R = hp' ∧ b.Le b186 ∧ t189 = .inl ()) ?_ ?_
      ·
        have hm := hj188
        refine c_seq ?_
        refine c_region ?_
        refine t_st rfl (st_move rfl) ?_
        refine t_nil ?_
        refine x_then_normal ?_
        refine c_block ?_
        obtain ⟨t215, hl216, hk217⟩ := bindS hm
        refine c_forM (fun k214 => fun _ => fun b212 e' hp' => [(1, .slice A2 (l5).length c3), (2, .int .i64 (x6)), (3, .int .i64 (x7)), (4, .int .i64 (x8)), (5, .pointer (some ⟨g128, 0, none⟩)), (29, .int .i64 ((k214 : Int)))] = e' ∧ (g128, Cl 43 [.string (s1.Name), .int .i64 (s1.Length), .int .i64 (s1.Mass), .int .i64 (s1.Start), .int .i64 (s1.Power), .int .i64 (s1.Roll), .int .i64 (s1.Drag), .int .i64 (s1.Brake), .int .i64 (s1.Top), .int .i64 (s1.Seats)]) :: R = hp' ∧ b.Le b212) hl216 (e' := [(1, .slice A2 (l5).length c3), (2, .int .i64 (x6)), (3, .int .i64 (x7)), (4, .int .i64 (x8)), (5, .pointer (some ⟨g128, 0, none⟩)), (29, .int .i64 0)]) (hp' := (g128, Cl 43 [.string (s1.Name), .int .i64 (s1.Length), .int .i64 (s1.Mass), .int .i64 (s1.Start), .int .i64 (s1.Power), .int .i64 (s1.Roll), .int .i64 (s1.Drag), .int .i64 (s1.Brake), .int .i64 (s1.Top), .int .i64 (s1.Seats)]) :: R) ⟨rfl, rfl, rfl, rfl, rfl, rfl, trivial⟩ (.cons_cons _ (.refl _)) ⟨rfl, rfl, (Base.Le.refl _)⟩ ?_ ?_
        ·
          rintro k214 _ b212 _ _ oL190 hknL190 ⟨rfl, rfl, hle213⟩ hstepL190 houtL190
          unfold mRunSaving_L190 at hstepL190
          have hm := hstepL190
          refine c_seq ?_
          refine c_region ?_
          refine t_st rfl (st_lss_t rfl rfl (by omega)) ?_
          refine t_nil ?_
          refine x_then_normal ?_
          refine c_seq ?_
          refine c_cond_t rfl ?_
          refine c_skip ?_
          refine x_then_normal ?_
          refine c_seq ?_
          refine c_block ?_
          refine c_seq ?_
          refine c_region ?_
          refine t_st rfl (st_move rfl) ?_
          refine t_st rfl (st_assign rfl) ?_
          refine t_nil ?_
          refine x_then_normal ?_
          refine c_seq ?_
          refine c_region ?_
          refine t_st rfl (st_move rfl) ?_
          obtain ⟨_, h218, hm⟩ := bindS hm
          have h218 := (chk_some h218).2
          refine t_st rfl (st_mul rfl rfl h218) ?_
          obtain ⟨_, h219, hm⟩ := bindS hm
          have h219 := (chk_some h219).2
          refine t_st rfl (st_add rfl rfl h219) ?_
          refine t_st rfl (st_assign rfl) ?_
          refine t_nil ?_
          refine x_then_normal ?_
          refine c_seq ?_
          refine c_seq ?_
          refine c_region ?_
          refine t_st rfl (st_loadD (vs := [_, _, _, _, _, _, _, _, _, _]) 0 10 rfl agg43 rfl rfl rfl) ?_
          refine t_st rfl (st_move rfl) ?_
          refine t_st rfl (st_move rfl) ?_
          refine t_st rfl (st_move rfl) ?_
          refine t_st rfl (st_field rfl fld43_8) ?_
          refine t_st rfl (st_load 0 rfl one3 rfl rfl) ?_
          refine t_st rfl (st_move rfl) ?_
          refine t_st rfl (st_min rfl rfl) ?_
          obtain ⟨⟨x220, l221⟩, hcl222, hm⟩ := bindS hm
          have hm := (unc2E hm)
          refine t_callG _ rfl call74 rfl (cRunStates _ _ s1 l5 x6 x7 (min s1.Top (500 + (50 * (k214 : Int)))) A2 c3 (h4.le hle213) x220 l221 hcl222) ?_
          rintro _ b223 _ hle224 ⟨A225, c226, hs227, rfl, rfl, h228⟩
          refine t_in1 [] [_] hs227 R rfl ?_
          refine t_st rfl (st_move rfl) ?_
          refine t_st rfl (st_extract rfl rfl) ?_
          refine t_st rfl (st_extract rfl rfl) ?_
          refine t_st rfl (st_assign rfl) ?_
          refine t_st rfl (st_assign rfl) ?_
          refine t_nil ?_
          refine x_then_normal ?_
          obtain ⟨x233, hj234, hk234⟩ := bindS hm
          refine c_join (fun b231 e' hp' => [(1, .slice A2 (l5).length c3), (2, .int .i64 (x6)), (3, .int .i64 (x7)), (4, .int .i64 (x8)), (5, .pointer (some ⟨g128, 0, none⟩)), (14, .int .i64 (500 + (50 * (k214 : Int)))), (29, .int .i64 ((k214 : Int))), (55, .bool (x233))] = e' ∧ (g128, Cl 43 [.string (s1.Name), .int .i64 (s1.Length), .int .i64 (s1.Mass), .int .i64 (s1.Start), .int .i64 (s1.Power), .int .i64 (s1.Roll), .int .i64 (s1.Drag), .int .i64 (s1.Brake), .int .i64 (s1.Top), .int .i64 (s1.Seats)]) :: R = hp' ∧ b223.Le b231) ?_ ?_
          ·
            have hm := hj234
            refine c_region ?_
            refine t_st rfl (st_move rfl) ?_
            refine t_bool rfl (st_eql rfl rfl) (fun hc235 => ?_) (fun hc235 => ?_)
            ·
              rw [if_pos hc235] at hm
              refine t_st rfl (st_move rfl) ?_
              refine t_yes 49 rfl rfl rfl ?_
              refine t_st rfl (st_move rfl) ?_
              refine t_yes 49 rfl rfl rfl ?_
              refine t_st rfl (st_len rfl sl87) ?_
              refine t_yes 49 rfl rfl rfl ?_
              obtain ⟨_, h236, hm⟩ := bindS hm
              have h236 := (chk_some h236).2
              refine t_st rfl (st_sub rfl rfl h236) ?_
              refine t_yes 49 rfl rfl rfl ?_
              refine t_st rfl (st_move rfl) ?_
              refine t_yes 49 rfl rfl rfl ?_
              refine t_st rfl (st_leq rfl rfl) ?_
              refine t_st rfl (st_pick_t rfl rfl) ?_
              refine t_nil ?_
              obtain rfl := some1 hm
              exact x_join (e' := [(1, .slice A2 (l5).length c3), (2, .int .i64 (x6)), (3, .int .i64 (x7)), (4, .int .i64 (x8)), (5, .pointer (some ⟨g128, 0, none⟩)), (14, .int .i64 (500 + (50 * (k214 : Int)))), (29, .int .i64 ((k214 : Int))), (55, .bool (decide (((l221.length : Int) - 1) ≤ x8)))]) (hp' := (g128, Cl 43 [.string (s1.Name), .int .i64 (s1.Length), .int .i64 (s1.Mass), .int .i64 (s1.Start), .int .i64 (s1.Power), .int .i64 (s1.Roll), .int .i64 (s1.Drag), .int .i64 (s1.Brake), .int .i64 (s1.Top), .int .i64 (s1.Seats)]) :: R) ⟨rfl, rfl, rfl, rfl, rfl, rfl, rfl, rfl, trivial⟩ (.cons_cons _ (sub_skip hs227 (.refl _))) ⟨rfl, rfl, (Base.Le.refl _)⟩
            ·
              rw [if_neg hc235] at hm
              refine t_st rfl (st_move rfl) ?_
              refine t_no 49 rfl rfl rfl rfl rfl ?_
              refine t_no 49 rfl rfl rfl rfl rfl ?_
              refine t_no 49 rfl rfl rfl rfl rfl ?_
              refine t_no 49 rfl rfl rfl rfl rfl ?_
              refine t_no 49 rfl rfl rfl rfl rfl ?_
              refine t_st rfl (st_pick_f rfl rfl) ?_
              refine t_nil ?_
              obtain rfl := some1 hm
              exact x_join (e' := [(1, .slice A2 (l5).length c3), (2, .int .i64 (x6)), (3, .int .i64 (x7)), (4, .int .i64 (x8)), (5, .pointer (some ⟨g128, 0, none⟩)), (14, .int .i64 (500 + (50 * (k214 : Int)))), (29, .int .i64 ((k214 : Int))), (55, .bool (false))]) (hp' := (g128, Cl 43 [.string (s1.Name), .int .i64 (s1.Length), .int .i64 (s1.Mass), .int .i64 (s1.Start), .int .i64 (s1.Power), .int .i64 (s1.Roll), .int .i64 (s1.Drag), .int .i64 (s1.Brake), .int .i64 (s1.Top), .int .i64 (s1.Seats)]) :: R) ⟨rfl, rfl, rfl, rfl, rfl, rfl, rfl, rfl, trivial⟩ (.cons_cons _ (sub_skip hs227 (.refl _))) ⟨rfl, rfl, (Base.Le.refl _)⟩
          ·
            rintro b231 _ _ ⟨rfl, rfl, hle232⟩
            have hm := hk234
            refine c_cond _ rfl (fun hc237 => ?_) (fun hc237 => ?_)
            ·
              rw [if_pos hc237] at hm
              refine c_seq ?_
              refine c_region ?_
              refine t_st rfl (st_move rfl) ?_
              refine t_st rfl (st_assign rfl) ?_
              refine t_st rfl (st_assign rfl) ?_
              refine t_nil ?_
              refine x_then_normal ?_
              refine c_ret ?_
              refine x_then_ret ?_
              refine x_block_ret ?_
              refine x_then_ret ?_
              refine x_then_ret ?_
              refine x_block_ret ?_
              refine x_then_ret ?_
              have hq238 := houtL190 _ (Option.some.inj hm).symm
              rw [hq238] at hk217
              have hm := elimR hk217
              have hq239 := (Option.some.inj hm).symm
              rw [hq239] at hk188
              have hm := elimR hk188
              obtain ⟨rfl, rfl⟩ := some2 hm
              exact retM (rs := [.tmp 10, .tmp 11]) [.int .i64 (500 + (50 * (k214 : Int))), .int .i64 (0)] (hle213.trans (hle224.trans hle232)) (by decide) rfl ⟨rfl, ⟨rfl, trivial⟩⟩ rfl (hp' := R) (.cons _ (.refl _)) ⟨rfl, rfl⟩
            ·
              rw [if_neg (fun hh => Bool.noConfusion (hh.symm.trans hc237))] at hm
              refine c_skip ?_
              refine x_then_normal ?_
              refine c_seq ?_
              refine c_region ?_
              refine t_st rfl (st_move rfl) ?_
              refine t_st rfl (st_field rfl fld43_8) ?_
              refine t_st rfl (st_load 0 rfl one3 rfl rfl) ?_
              refine t_st rfl (st_geq rfl rfl) ?_
              refine t_nil ?_
              refine x_then_normal ?_
              refine c_cond _ rfl (fun hc240 => ?_) (fun hc240 => ?_)
              ·
                rw [if_pos (of_decide_eq_true hc240)] at hm
                refine c_exit ?_
                refine x_block_on rfl ?_
                refine x_then_exit ?_
                refine x_then_exit ?_
                refine x_block_out ?_
                have hq241 := houtL190 _ (Option.some.inj hm).symm
                rw [hq241] at hk217
                have hm := elimR hk217
                have hq := (Option.some.inj hm).symm
                exact x_join (e' := []) (hp' := R) trivial (.cons _ (.refl _)) ⟨rfl, rfl, (hle213.trans (hle224.trans hle232)), hq⟩
              ·
                rw [if_neg (of_decide_eq_false hc240)] at hm
                refine c_skip ?_
                refine x_block_normal ?_
                refine x_then_normal ?_
                refine c_region ?_
                refine t_st rfl (st_add rfl rfl (by omega)) ?_
                refine t_st rfl (st_move rfl) ?_
                refine t_nil ?_
                exact x_againM () (Option.some.inj hm).symm (e' := [(1, .slice A2 (l5).length c3), (2, .int .i64 (x6)), (3, .int .i64 (x7)), (4, .int .i64 (x8)), (5, .pointer (some ⟨g128, 0, none⟩)), (29, .int .i64 ((k214 : Int) + 1))]) (hp' := (g128, Cl 43 [.string (s1.Name), .int .i64 (s1.Length), .int .i64 (s1.Mass), .int .i64 (s1.Start), .int .i64 (s1.Power), .int .i64 (s1.Roll), .int .i64 (s1.Drag), .int .i64 (s1.Brake), .int .i64 (s1.Top), .int .i64 (s1.Seats)]) :: R) ⟨rfl, rfl, rfl, rfl, rfl, rfl, trivial⟩ (.cons_cons _ (.refl _)) ⟨rfl, rfl, ((hle213.trans (hle224.trans hle232)))⟩
        ·
          rintro _ b212 _ _ ⟨rfl, rfl, hle213⟩ hq242
          rw [hq242] at hk217
          have hm := elimL hk217
          refine c_seq ?_
          refine c_region ?_
          refine t_st rfl (st_lss_f rfl rfl (by omega)) ?_
          refine t_nil ?_
          refine x_then_normal ?_
          refine c_seq ?_
          refine c_cond_f rfl ?_
          refine c_exit ?_
          refine x_then_exit ?_
          refine x_then_exit ?_
          refine x_block_out ?_
          have hq := (Option.some.inj hm).symm
          exact x_join (e' := []) (hp' := R) trivial (.cons _ (.refl _)) ⟨rfl, rfl, hle213, hq⟩
      ·
        rintro b186 _ _ ⟨rfl, rfl, hle187, hq243⟩
        rw [hq243] at hk188
        have hm := elimL hk188
        refine c_seq ?_
        refine c_region ?_
        refine t_st rfl (st_assign rfl) ?_
        refine t_st rfl (st_assign rfl) ?_
        refine t_nil ?_
        refine x_then_normal ?_
        refine c_ret ?_
        obtain ⟨rfl, rfl⟩ := some2 hm
        exact retM (rs := [.tmp 10, .tmp 11]) [.int .i64 (0), .int .i64 (9)] hle187 (by decide) rfl ⟨rfl, ⟨rfl, trivial⟩⟩ rfl (hp' := R) (.refl _) ⟨rfl, rfl⟩

set_option maxRecDepth 20000 in
theorem cRunCapped (b : Base) (R : Hp) (s1 : ApiStock) (l5 : (List ApiPiece)) (x6 : Int) (x7 : Int) (x8 : Int) (A2 : Option Addr) (c3 : Nat) (h4 : FZ rApiPiece b.w A2 c3 l5) (x30 : Int) (l31 : (List ApiState)) (hm : mRunCapped s1 l5 x6 x7 x8 = some (x30, l31)) :
    CallsG Tryd.prog 45 [.agg #[.string (s1.Name), .int .i64 (s1.Length), .int .i64 (s1.Mass), .int .i64 (s1.Start), .int .i64 (s1.Power), .int .i64 (s1.Roll), .int .i64 (s1.Drag), .int .i64 (s1.Brake), .int .i64 (s1.Top), .int .i64 (s1.Seats)], .slice A2 (l5).length c3, .int .i64 (x6), .int .i64 (x7), .int .i64 (x8)] b (R) (fun v b' hp' => ∃ (A27 : Option Addr), ∃ (c28 : Nat), ∃ (hs26 : Hp), .tuple #[.slice A27 (l31).length c28, .int .i64 (x30)] = v ∧ (hs26 ++ R) = hp' ∧ OS 82 (OT.fr rApiState) b'.w (.slice A27 l31.length c28) l31 hs26) := by
  refine fn_enterG 36 Tryd.func45 rfl Tryd.ntmps45 rfl ?_
  unfold mRunCapped at hm
  refine c_seq ?_
  refine c_region ?_
  refine t_do rfl (u_box _ rfl rfl) ?_
  rintro _ _ ⟨g32, rfl, rfl⟩
  refine t_st rfl (st_assign rfl) ?_
  refine t_st rfl (st_assign rfl) ?_
  refine t_nil ?_
  refine x_then_normal ?_
  refine c_seq ?_
  refine c_seq ?_
  refine c_region ?_
  refine t_st rfl (st_loadD (vs := [_, _, _, _, _, _, _, _, _, _]) 0 10 rfl agg43 rfl rfl rfl) ?_
  refine t_st rfl (st_move rfl) ?_
  refine t_st rfl (st_move rfl) ?_
  refine t_st rfl (st_build (v := .agg #[.int .i64 (x6), .int .i64 (0), .int .i64 (0)]) [(0, .int .i64 (x6))] rfl (fun _ => by kernel_rfl)) ?_
  refine t_st rfl (st_move rfl) ?_
  obtain ⟨x33, hcl34, hm⟩ := bindS hm
  refine t_do rfl (u_callW0 _ call69 rfl (fun w ho => cRunCheck_2 _ [] s1 l5 (⟨x6, 0, 0⟩ : ApiState) x7 A2 c3 (h4.old ho) x33 hcl34) (fun _ _ _ h => h.2.symm)) ?_
  rintro _ _ ⟨⟨_, rfl, _⟩, rfl⟩
  refine t_st rfl (st_assign rfl) ?_
  refine t_nil ?_
  refine x_then_normal ?_
  refine c_seq ?_
  refine c_region ?_
  refine t_st rfl (st_move rfl) ?_
  refine t_st rfl (st_neq rfl rfl) ?_
  refine t_nil ?_
  refine x_then_normal ?_
  refine c_cond _ rfl (fun hc35 => ?_) (fun hc35 => ?_)
  ·
    rw [if_pos (of_decide_eq_true hc35)] at hm
    refine c_seq ?_
    refine c_region ?_
    refine t_st rfl (st_move rfl) ?_
    refine t_st rfl (st_assign rfl) ?_
    refine t_st rfl (st_assign rfl) ?_
    refine t_nil ?_
    refine x_then_normal ?_
    refine c_ret ?_
    refine x_then_ret ?_
    obtain ⟨rfl, rfl⟩ := some2 hm
    exact retM (rs := [.tmp 10, .tmp 11]) [.slice none 0 0, .int .i64 (x33)] (Base.Le.refl _) (by decide) rfl ⟨rfl, ⟨rfl, trivial⟩⟩ rfl (hp' := ([] ++ R)) (.cons _ (.refl _)) ⟨none, 0, [], rfl, rfl, OS.nil⟩
  ·
    rw [if_neg (of_decide_eq_false hc35)] at hm
    refine c_skip ?_
    refine x_then_normal ?_
    refine c_seq ?_
    refine c_seq ?_
    refine c_region ?_
    refine t_st rfl (st_move rfl) ?_
    obtain ⟨x36, hcl37, hm⟩ := bindS hm
    refine t_do rfl (u_callW0 _ call59 rfl (fun w ho => cRunWithin _ [] x8 500 6000 x36 hcl37) (fun _ _ _ h => h.2.symm)) ?_
    rintro _ _ ⟨⟨_, rfl, _⟩, rfl⟩
    refine t_st rfl (st_not rfl) ?_
    refine t_nil ?_
    refine x_then_normal ?_
    refine c_cond _ rfl (fun hc38 => ?_) (fun hc38 => ?_)
    ·
      rw [if_neg (fun hh => Bool.noConfusion (hh.symm.trans (notT hc38)))] at hm
      refine c_seq ?_
      refine c_region ?_
      refine t_st rfl (st_assign rfl) ?_
      refine t_st rfl (st_assign rfl) ?_
      refine t_nil ?_
      refine x_then_normal ?_
      refine c_ret ?_
      refine x_then_ret ?_
      obtain ⟨rfl, rfl⟩ := some2 hm
      exact retM (rs := [.tmp 10, .tmp 11]) [.slice none 0 0, .int .i64 (2)] (Base.Le.refl _) (by decide) rfl ⟨rfl, ⟨rfl, trivial⟩⟩ rfl (hp' := ([] ++ R)) (.cons _ (.refl _)) ⟨none, 0, [], rfl, rfl, OS.nil⟩
    ·
      rw [if_pos (notF hc38)] at hm
      refine c_skip ?_
      refine x_then_normal ?_
      refine c_seq ?_
      refine c_region ?_
      refine t_st rfl (st_loadD (vs := [_, _, _, _, _, _, _, _, _, _]) 0 10 rfl agg43 rfl rfl rfl) ?_
      refine t_st rfl (st_move rfl) ?_
      refine t_st rfl (st_move rfl) ?_
      refine t_st rfl (st_move rfl) ?_
      refine t_st rfl (st_field rfl fld43_8) ?_
      refine t_st rfl (st_load 0 rfl one3 rfl rfl) ?_
      refine t_st rfl (st_move rfl) ?_
      refine t_st rfl (st_min rfl rfl) ?_
      obtain ⟨⟨x39, l40⟩, hcl41, hm⟩ := bindS hm
      have hm := (unc2E hm)
      refine t_callG _ rfl call74 rfl (cRunStates _ _ s1 l5 x6 x7 (min s1.Top x8) A2 c3 h4 x39 l40 hcl41) ?_
      rintro _ b42 _ hle43 ⟨A44, c45, hs46, rfl, rfl, h47⟩
      refine t_in1 [] [_] hs46 R rfl ?_
      refine t_st rfl (st_extract rfl rfl) ?_
      refine t_st rfl (st_extract rfl rfl) ?_
      refine t_st rfl (st_assign rfl) ?_
      refine t_st rfl (st_assign rfl) ?_
      refine t_nil ?_
      refine x_then_normal ?_
      refine c_ret ?_
      obtain ⟨rfl, rfl⟩ := some2 hm
      exact retM (rs := [.tmp 10, .tmp 11]) [.slice A44 (l40).length c45, .int .i64 (x39)] hle43 (by decide) rfl ⟨rfl, ⟨rfl, trivial⟩⟩ rfl (hp' := (hs46 ++ R)) (.cons _ (sub_app hs46 (.refl _))) ⟨A44, c45, hs46, rfl, rfl, h47⟩

set_option maxRecDepth 20000 in
theorem cFishkeep1RunSaved (b : Base) (R : Hp) (s1 : ApiStock) (l5 : (List ApiPiece)) (x6 : Int) (x7 : Int) (x8 : Int) (A2 : Option Addr) (c3 : Nat) (h4 : FZ rApiPiece b.w A2 c3 l5) (x102 : Bool) (hm : mFishkeep1RunSaved s1 l5 x6 x7 x8 = some x102) :
    CallsG Tryd.prog 12 [.agg #[.string (s1.Name), .int .i64 (s1.Length), .int .i64 (s1.Mass), .int .i64 (s1.Start), .int .i64 (s1.Power), .int .i64 (s1.Roll), .int .i64 (s1.Drag), .int .i64 (s1.Brake), .int .i64 (s1.Top), .int .i64 (s1.Seats)], .slice A2 (l5).length c3, .int .i64 (x6), .int .i64 (x7), .int .i64 (x8)] b (R) (fun v b' hp' => .bool (x102) = v ∧ R = hp') := by
  refine fn_enterG 85 Tryd.func12 rfl Tryd.ntmps12 rfl ?_
  unfold mFishkeep1RunSaved at hm
  refine c_seq ?_
  refine c_region ?_
  refine t_do rfl (u_box _ rfl rfl) ?_
  rintro _ _ ⟨g103, rfl, rfl⟩
  refine t_st rfl (st_assign rfl) ?_
  refine t_nil ?_
  refine x_then_normal ?_
  refine c_seq ?_
  refine c_seq ?_
  refine c_region ?_
  obtain ⟨x104, hcl105, hm⟩ := bindS hm
  refine t_do rfl (u_callW0 _ call21 rfl (fun w ho => cFishkeep1AwakeRun _ [] x104 hcl105) (fun _ _ _ h => h.2.symm)) ?_
  rintro _ _ ⟨⟨_, rfl, _⟩, rfl⟩
  refine t_st rfl (st_not rfl) ?_
  refine t_nil ?_
  refine x_then_normal ?_
  refine c_cond _ rfl (fun hc106 => ?_) (fun hc106 => ?_)
  ·
    rw [if_neg (fun hh => Bool.noConfusion (hh.symm.trans (notT hc106)))] at hm
    refine c_seq ?_
    refine c_region ?_
    refine t_st rfl (st_assign rfl) ?_
    refine t_nil ?_
    refine x_then_normal ?_
    refine c_ret ?_
    refine x_then_ret ?_
    obtain rfl := some1 hm
    exact retM (rs := [.tmp 10]) [.bool (false)] (Base.Le.refl _) (by decide) rfl ⟨rfl, trivial⟩ rfl (hp' := R) (.cons _ (.refl _)) ⟨rfl, rfl⟩
  ·
    rw [if_pos (notF hc106)] at hm
    refine c_skip ?_
    refine x_then_normal ?_
    refine c_seq ?_
    refine c_region ?_
    refine t_st rfl (st_loadD (vs := [_, _, _, _, _, _, _, _, _, _]) 0 10 rfl agg43 rfl rfl rfl) ?_
    refine t_st rfl (st_move rfl) ?_
    refine t_st rfl (st_move rfl) ?_
    refine t_st rfl (st_move rfl) ?_
    refine t_st rfl (st_move rfl) ?_
    obtain ⟨⟨x107, x108⟩, hcl109, hm⟩ := bindS hm
    have hm := (unc2E hm)
    refine t_do rfl (u_callW0 _ call44 rfl (fun w ho => cRunSaving _ [] s1 l5 x6 x7 x8 A2 c3 (h4.old ho) x107 x108 hcl109) (fun _ _ _ h => h.2.symm)) ?_
    rintro _ _ ⟨⟨_, rfl, _⟩, rfl⟩
    refine t_st rfl (st_move rfl) ?_
    refine t_st rfl (st_extract rfl rfl) ?_
    refine t_st rfl (st_extract rfl rfl) ?_
    refine t_st rfl (st_assign rfl) ?_
    refine t_st rfl (st_assign rfl) ?_
    refine t_nil ?_
    refine x_then_normal ?_
    refine c_seq ?_
    refine c_seq ?_
    refine c_region ?_
    refine t_st rfl (st_move rfl) ?_
    refine t_st rfl (st_neq rfl rfl) ?_
    refine t_nil ?_
    refine x_then_normal ?_
    refine c_cond _ rfl (fun hc110 => ?_) (fun hc110 => ?_)
    ·
      rw [if_pos (of_decide_eq_true hc110)] at hm
      refine c_seq ?_
      refine c_region ?_
      refine t_st rfl (st_move rfl) ?_
      refine t_st rfl (st_eql rfl rfl) ?_
      refine t_st rfl (st_assign rfl) ?_
      refine t_nil ?_
      refine x_then_normal ?_
      refine c_ret ?_
      refine x_then_ret ?_
      obtain rfl := some1 hm
      exact retM (rs := [.tmp 10]) [.bool (decide (x107 = 0))] (Base.Le.refl _) (by decide) rfl ⟨rfl, trivial⟩ rfl (hp' := R) (.cons _ (.refl _)) ⟨rfl, rfl⟩
    ·
      rw [if_neg (of_decide_eq_false hc110)] at hm
      refine c_skip ?_
      refine x_then_normal ?_
      refine c_seq ?_
      refine c_region ?_
      refine t_st rfl (st_loadD (vs := [_, _, _, _, _, _, _, _, _, _]) 0 10 rfl agg43 rfl rfl rfl) ?_
      refine t_st rfl (st_move rfl) ?_
      refine t_st rfl (st_move rfl) ?_
      refine t_st rfl (st_move rfl) ?_
      refine t_st rfl (st_move rfl) ?_
      obtain ⟨⟨x111, l112⟩, hcl113, hm⟩ := bindS hm
      have hm := (unc2E hm)
      refine t_callG _ rfl call45 rfl (cRunCapped _ _ s1 l5 x6 x7 x107 A2 c3 h4 x111 l112 hcl113) ?_
      rintro _ b114 _ hle115 ⟨A116, c117, hs118, rfl, rfl, h119⟩
      refine t_in1 [] [_] hs118 R rfl ?_
      refine t_st rfl (st_move rfl) ?_
      refine t_st rfl (st_extract rfl rfl) ?_
      refine t_st rfl (st_extract rfl rfl) ?_
      refine t_st rfl (st_assign rfl) ?_
      refine t_st rfl (st_assign rfl) ?_
      refine t_nil ?_
      refine x_then_normal ?_
      refine c_seq ?_
      obtain ⟨x124, hj125, hk125⟩ := bindS hm
      refine c_join (fun b122 e' hp' => [(1, .slice A2 (l5).length c3), (2, .int .i64 (x6)), (3, .int .i64 (x7)), (4, .int .i64 (x8)), (5, .pointer (some ⟨g103, 0, none⟩)), (11, .int .i64 (x107)), (13, .slice A116 (l112).length c117), (48, .bool (x124))] = e' ∧ (g103, Cl 43 [.string (s1.Name), .int .i64 (s1.Length), .int .i64 (s1.Mass), .int .i64 (s1.Start), .int .i64 (s1.Power), .int .i64 (s1.Roll), .int .i64 (s1.Drag), .int .i64 (s1.Brake), .int .i64 (s1.Top), .int .i64 (s1.Seats)]) :: (hs118 ++ R) = hp' ∧ b114.Le b122) ?_ ?_
      ·
        have hm := hj125
        refine c_region ?_
        refine t_st rfl (st_move rfl) ?_
        refine t_bool rfl (st_neq rfl rfl) (fun hc126 => ?_) (fun hc126 => ?_)
        ·
          rw [if_pos hc126] at hm
          refine t_st rfl (st_move rfl) ?_
          refine t_no 42 rfl rfl rfl rfl rfl ?_
          refine t_no 42 rfl rfl rfl rfl rfl ?_
          refine t_no 42 rfl rfl rfl rfl rfl ?_
          refine t_no 42 rfl rfl rfl rfl rfl ?_
          refine t_no 42 rfl rfl rfl rfl rfl ?_
          refine t_st rfl (st_pick_t rfl rfl) ?_
          refine t_nil ?_
          obtain rfl := some1 hm
          exact x_join (e' := [(1, .slice A2 (l5).length c3), (2, .int .i64 (x6)), (3, .int .i64 (x7)), (4, .int .i64 (x8)), (5, .pointer (some ⟨g103, 0, none⟩)), (11, .int .i64 (x107)), (13, .slice A116 (l112).length c117), (48, .bool (true))]) (hp' := (g103, Cl 43 [.string (s1.Name), .int .i64 (s1.Length), .int .i64 (s1.Mass), .int .i64 (s1.Start), .int .i64 (s1.Power), .int .i64 (s1.Roll), .int .i64 (s1.Drag), .int .i64 (s1.Brake), .int .i64 (s1.Top), .int .i64 (s1.Seats)]) :: (hs118 ++ R)) ⟨rfl, rfl, rfl, rfl, rfl, rfl, rfl, rfl, trivial⟩ (.cons_cons _ (sub_app hs118 (.refl _))) ⟨rfl, rfl, (Base.Le.refl _)⟩
        ·
          rw [if_neg hc126] at hm
          refine t_st rfl (st_move rfl) ?_
          refine t_yes 42 rfl rfl rfl ?_
          refine t_st rfl (st_move rfl) ?_
          refine t_yes 42 rfl rfl rfl ?_
          refine t_st rfl (st_len rfl sl87) ?_
          refine t_yes 42 rfl rfl rfl ?_
          obtain ⟨_, h127, hm⟩ := bindS hm
          have h127 := (chk_some h127).2
          refine t_st rfl (st_sub rfl rfl h127) ?_
          refine t_yes 42 rfl rfl rfl ?_
          refine t_st rfl (st_move rfl) ?_
          refine t_yes 42 rfl rfl rfl ?_
          refine t_st rfl (st_gtr rfl rfl) ?_
          refine t_st rfl (st_pick_f rfl rfl) ?_
          refine t_nil ?_
          obtain rfl := some1 hm
          exact x_join (e' := [(1, .slice A2 (l5).length c3), (2, .int .i64 (x6)), (3, .int .i64 (x7)), (4, .int .i64 (x8)), (5, .pointer (some ⟨g103, 0, none⟩)), (11, .int .i64 (x107)), (13, .slice A116 (l112).length c117), (48, .bool (decide (x8 < ((l112.length : Int) - 1))))]) (hp' := (g103, Cl 43 [.string (s1.Name), .int .i64 (s1.Length), .int .i64 (s1.Mass), .int .i64 (s1.Start), .int .i64 (s1.Power), .int .i64 (s1.Roll), .int .i64 (s1.Drag), .int .i64 (s1.Brake), .int .i64 (s1.Top), .int .i64 (s1.Seats)]) :: (hs118 ++ R)) ⟨rfl, rfl, rfl, rfl, rfl, rfl, rfl, rfl, trivial⟩ (.cons_cons _ (sub_app hs118 (.refl _))) ⟨rfl, rfl, (Base.Le.refl _)⟩
      ·
        rintro b122 _ _ ⟨rfl, rfl, hle123⟩
        have hm := hk125
        refine c_cond _ rfl (fun hc128 => ?_) (fun hc128 => ?_)
        ·
          rw [if_pos hc128] at hm
          refine c_seq ?_
          refine c_region ?_
          refine t_st rfl (st_assign rfl) ?_
          refine t_nil ?_
          refine x_then_normal ?_
          refine c_ret ?_
          refine x_then_ret ?_
          obtain rfl := some1 hm
          exact retM (rs := [.tmp 10]) [.bool (false)] (hle115.trans hle123) (by decide) rfl ⟨rfl, trivial⟩ rfl (hp' := R) (.cons _ (sub_skip hs118 (.refl _))) ⟨rfl, rfl⟩
        ·
          rw [if_neg (fun hh => Bool.noConfusion (hh.symm.trans hc128))] at hm
          refine c_skip ?_
          refine x_then_normal ?_
          refine c_seq ?_
          refine c_seq ?_
          refine c_region ?_
          refine t_st rfl (st_move rfl) ?_
          refine t_st rfl (st_len rfl sl87) ?_
          refine t_st rfl (st_move rfl) ?_
          refine t_nil ?_
          refine x_then_normal ?_
          refine c_block ?_
          have hb130 := (OS.len h119)
          obtain ⟨t152, hl153, hk154⟩ := bindS hm
          refine c_forM (fun k151 => fun _ => fun b149 e' hp' => [(1, .slice A2 (l5).length c3), (2, .int .i64 (x6)), (3, .int .i64 (x7)), (4, .int .i64 (x8)), (5, .pointer (some ⟨g103, 0, none⟩)), (11, .int .i64 (x107)), (49, .slice A116 (l112).length c117), (50, .int .i64 ((l112.length : Int))), (51, .int .i64 ((k151 : Int)))] = e' ∧ (g103, Cl 43 [.string (s1.Name), .int .i64 (s1.Length), .int .i64 (s1.Mass), .int .i64 (s1.Start), .int .i64 (s1.Power), .int .i64 (s1.Roll), .int .i64 (s1.Drag), .int .i64 (s1.Brake), .int .i64 (s1.Top), .int .i64 (s1.Seats)]) :: (hs118 ++ R) = hp' ∧ b122.Le b149) hl153 (e' := [(1, .slice A2 (l5).length c3), (2, .int .i64 (x6)), (3, .int .i64 (x7)), (4, .int .i64 (x8)), (5, .pointer (some ⟨g103, 0, none⟩)), (11, .int .i64 (x107)), (49, .slice A116 (l112).length c117), (50, .int .i64 ((l112.length : Int))), (51, .int .i64 0)]) (hp' := (g103, Cl 43 [.string (s1.Name), .int .i64 (s1.Length), .int .i64 (s1.Mass), .int .i64 (s1.Start), .int .i64 (s1.Power), .int .i64 (s1.Roll), .int .i64 (s1.Drag), .int .i64 (s1.Brake), .int .i64 (s1.Top), .int .i64 (s1.Seats)]) :: (hs118 ++ R)) ⟨rfl, rfl, rfl, rfl, rfl, rfl, rfl, rfl, rfl, trivial⟩ (.cons_cons _ (sub_app hs118 (.refl _))) ⟨rfl, rfl, (Base.Le.refl _)⟩ ?_ ?_
          ·
            rintro k151 _ b149 _ _ oL129 hknL129 ⟨rfl, rfl, hle150⟩ hstepL129 houtL129
            unfold mFishkeep1RunSaved_L129 at hstepL129
            have hm := hstepL129
            refine c_seq ?_
            refine c_region ?_
            refine t_st rfl (st_lss_t rfl rfl (by omega)) ?_
            refine t_nil ?_
            refine x_then_normal ?_
            refine c_seq ?_
            refine c_cond_t rfl ?_
            refine c_skip ?_
            refine x_then_normal ?_
            refine c_seq ?_
            refine c_block ?_
            refine c_seq ?_
            refine c_region ?_
            obtain ⟨x155, h156, hm⟩ := bindS hm
            obtain ⟨j157, hj158, hx159⟩ := idx_some h156
            obtain ⟨cs160, hs165, P166, P167, hq168, hr161, hcs162, hA163, hlt164, hb169, hho170⟩ := OS.get (sz := 3) rfl (by decide) (h119.le (hle123.trans hle150)) hx159
            obtain ⟨⟨_, _, rfl, rfl, ⟨_, _, rfl, rfl, rfl⟩⟩, rfl⟩ := hr161
            refine t_st rfl (st_index_old j157 rfl rfl hj158 hlt164 hA163 sl87) ?_
            refine t_st rfl (st_loadN_rd (vs := [.int .i64 (x155.At), .int .i64 (x155.Speed), .int .i64 (x155.Work)]) 3 rfl agg82 hA163 rfl (fun w ho j u hu => hcs162 w _ ho (.cons _ (List.sublist_append_left _ _)) j u hu)) ?_
            refine t_do rfl (u_alloc [.int .i64 0, .int .i64 0, .int .i64 0] zero82 rfl) ?_
            rintro _ _ ⟨g171, rfl, rfl⟩
            refine t_do rfl (u_storeN (vs := [_, _, _]) 0 3 rfl rfl rfl siz82 rfl (by intro u hu; simp only [List.mem_cons, List.not_mem_nil, or_false] at hu; rcases hu with rfl | rfl | rfl <;> rfl) rfl (by simp)) ?_
            rintro _ _ rfl
            refine t_nil ?_
            refine x_then_normal ?_
            refine c_seq ?_
            refine c_region ?_
            refine t_st rfl (st_field rfl fld82_1) ?_
            refine t_st rfl (st_load 0 rfl one3 rfl rfl) ?_
            refine t_st rfl (st_move rfl) ?_
            refine t_st rfl (st_gtr rfl rfl) ?_
            refine t_nil ?_
            refine x_then_normal ?_
            refine c_cond _ rfl (fun hc172 => ?_) (fun hc172 => ?_)
            ·
              rw [if_pos (of_decide_eq_true hc172)] at hm
              refine c_seq ?_
              refine c_region ?_
              refine t_st rfl (st_assign rfl) ?_
              refine t_nil ?_
              refine x_then_normal ?_
              refine c_ret ?_
              refine x_block_ret ?_
              refine x_then_ret ?_
              refine x_then_ret ?_
              refine x_block_ret ?_
              refine x_then_ret ?_
              have hq173 := houtL129 _ (Option.some.inj hm).symm
              rw [hq173] at hk154
              have hm := elimR hk154
              obtain rfl := some1 hm
              exact retM (rs := [.tmp 10]) [.bool (false)] (hle115.trans (hle123.trans hle150)) (by decide) rfl ⟨rfl, trivial⟩ rfl (hp' := R) (.cons _ (.cons _ (sub_skip hs118 (.refl _)))) ⟨rfl, rfl⟩
            ·
              rw [if_neg (of_decide_eq_false hc172)] at hm
              refine c_skip ?_
              refine x_block_normal ?_
              refine x_then_normal ?_
              refine c_region ?_
              refine t_st rfl (st_add rfl rfl (by omega)) ?_
              refine t_st rfl (st_move rfl) ?_
              refine t_nil ?_
              refine x_pullb 1 rfl ?_
              exact x_againM () (Option.some.inj hm).symm (e' := [(1, .slice A2 (l5).length c3), (2, .int .i64 (x6)), (3, .int .i64 (x7)), (4, .int .i64 (x8)), (5, .pointer (some ⟨g103, 0, none⟩)), (11, .int .i64 (x107)), (49, .slice A116 (l112).length c117), (50, .int .i64 ((l112.length : Int))), (51, .int .i64 ((k151 : Int) + 1))]) (hp' := (g103, Cl 43 [.string (s1.Name), .int .i64 (s1.Length), .int .i64 (s1.Mass), .int .i64 (s1.Start), .int .i64 (s1.Power), .int .i64 (s1.Roll), .int .i64 (s1.Drag), .int .i64 (s1.Brake), .int .i64 (s1.Top), .int .i64 (s1.Seats)]) :: (hs118 ++ R)) ⟨rfl, rfl, rfl, rfl, rfl, rfl, rfl, rfl, rfl, trivial⟩ (.cons_cons _ (.cons _ (sub_app hs118 (.refl _)))) ⟨rfl, rfl, (hle150)⟩
          ·
            rintro _ b149 _ _ ⟨rfl, rfl, hle150⟩ hq174
            rw [hq174] at hk154
            have hm := elimL hk154
            refine c_seq ?_
            refine c_region ?_
            refine t_st rfl (st_lss_f rfl rfl (by omega)) ?_
            refine t_nil ?_
            refine x_then_normal ?_
            refine c_seq ?_
            refine c_cond_f rfl ?_
            refine c_exit ?_
            refine x_then_exit ?_
            refine x_then_exit ?_
            refine x_block_out ?_
            refine x_then_normal ?_
            refine c_seq ?_
            refine c_seq ?_
            refine c_region ?_
            refine t_st rfl (st_move rfl) ?_
            refine t_st rfl (st_eql rfl rfl) ?_
            refine t_nil ?_
            refine x_then_normal ?_
            refine c_cond _ rfl (fun hc175 => ?_) (fun hc175 => ?_)
            ·
              rw [if_pos (of_decide_eq_true hc175)] at hm
              refine c_seq ?_
              refine c_region ?_
              refine t_st rfl (st_assign rfl) ?_
              refine t_nil ?_
              refine x_then_normal ?_
              refine c_ret ?_
              refine x_then_ret ?_
              obtain rfl := some1 hm
              exact retM (rs := [.tmp 10]) [.bool (true)] (hle115.trans (hle123.trans hle150)) (by decide) rfl ⟨rfl, trivial⟩ rfl (hp' := R) (.cons _ (sub_skip hs118 (.refl _))) ⟨rfl, rfl⟩
            ·
              rw [if_neg (of_decide_eq_false hc175)] at hm
              refine c_skip ?_
              refine x_then_normal ?_
              refine c_seq ?_
              refine c_region ?_
              refine t_st rfl (st_loadD (vs := [_, _, _, _, _, _, _, _, _, _]) 0 10 rfl agg43 rfl rfl rfl) ?_
              refine t_st rfl (st_move rfl) ?_
              refine t_st rfl (st_move rfl) ?_
              refine t_st rfl (st_move rfl) ?_
              refine t_st rfl (st_move rfl) ?_
              obtain ⟨_, h176, hm⟩ := bindS hm
              have h176 := (chk_some h176).2
              refine t_st rfl (st_sub rfl rfl h176) ?_
              obtain ⟨⟨x177, l178⟩, hcl179, hm⟩ := bindS hm
              have hm := (unc2E hm)
              refine t_callG _ rfl call45 rfl (cRunCapped _ _ s1 l5 x6 x7 (x107 - 50) A2 c3 (h4.le (hle115.trans (hle123.trans hle150))) x177 l178 hcl179) ?_
              rintro _ b180 _ hle181 ⟨A182, c183, hs184, rfl, rfl, h185⟩
              refine t_in1 [] [_] hs184 (hs118 ++ R) rfl ?_
              refine t_st rfl (st_move rfl) ?_
              refine t_st rfl (st_extract rfl rfl) ?_
              refine t_st rfl (st_extract rfl rfl) ?_
              refine t_st rfl (st_assign rfl) ?_
              refine t_st rfl (st_assign rfl) ?_
              refine t_nil ?_
              refine x_then_normal ?_
              obtain ⟨x191, hj192, hk192⟩ := bindS hm
              refine c_join (fun b189 e' hp' => [(10, .bool (x191))] = e' ∧ R = hp' ∧ b180.Le b189) ?_ ?_
              ·
                have hm := hj192
                refine c_region ?_
                refine t_st rfl (st_move rfl) ?_
                refine t_bool rfl (st_eql rfl rfl) (fun hc193 => ?_) (fun hc193 => ?_)
                ·
                  rw [if_pos hc193] at hm
                  refine t_st rfl (st_move rfl) ?_
                  refine t_no 74 rfl rfl rfl rfl rfl ?_
                  refine t_no 74 rfl rfl rfl rfl rfl ?_
                  refine t_no 74 rfl rfl rfl rfl rfl ?_
                  refine t_no 77 rfl rfl rfl rfl rfl ?_
                  refine t_no 77 rfl rfl rfl rfl rfl ?_
                  refine t_no 77 rfl rfl rfl rfl rfl ?_
                  refine t_no 77 rfl rfl rfl rfl rfl ?_
                  refine t_no 77 rfl rfl rfl rfl rfl ?_
                  refine t_no 74 rfl rfl rfl rfl rfl ?_
                  refine t_st rfl (st_pick_t rfl rfl) ?_
                  refine t_st rfl (st_assign rfl) ?_
                  refine t_nil ?_
                  obtain rfl := some1 hm
                  exact x_join (e' := [(10, .bool (true))]) (hp' := R) ⟨rfl, trivial⟩ (.cons _ (sub_skip hs184 (sub_skip hs118 (.refl _)))) ⟨rfl, rfl, (Base.Le.refl _)⟩
                ·
                  rw [if_neg hc193] at hm
                  refine t_st rfl (st_move rfl) ?_
                  refine t_yes 74 rfl rfl rfl ?_
                  refine t_st rfl (st_move rfl) ?_
                  refine t_yes 74 rfl rfl rfl ?_
                  refine t_bool rfl (st_eql rfl rfl) (fun hc194 => ?_) (fun hc194 => ?_)
                  ·
                    rw [if_pos hc194] at hm
                    refine t_yes 74 rfl rfl rfl ?_
                    refine t_st rfl (st_move rfl) ?_
                    refine t_yes 77 rfl rfl rfl ?_
                    refine t_st rfl (st_move rfl) ?_
                    refine t_yes 77 rfl rfl rfl ?_
                    refine t_st rfl (st_len rfl sl87) ?_
                    refine t_yes 77 rfl rfl rfl ?_
                    obtain ⟨_, h195, hm⟩ := bindS hm
                    have h195 := (chk_some h195).2
                    refine t_st rfl (st_sub rfl rfl h195) ?_
                    refine t_yes 77 rfl rfl rfl ?_
                    refine t_st rfl (st_move rfl) ?_
                    refine t_yes 77 rfl rfl rfl ?_
                    refine t_st rfl (st_gtr rfl rfl) ?_
                    refine t_yes 74 rfl rfl rfl ?_
                    refine t_st rfl (st_pick_t rfl rfl) ?_
                    refine t_st rfl (st_pick_f rfl rfl) ?_
                    refine t_st rfl (st_assign rfl) ?_
                    refine t_nil ?_
                    obtain rfl := some1 hm
                    exact x_join (e' := [(10, .bool (decide (x8 < ((l178.length : Int) - 1))))]) (hp' := R) ⟨rfl, trivial⟩ (.cons _ (sub_skip hs184 (sub_skip hs118 (.refl _)))) ⟨rfl, rfl, (Base.Le.refl _)⟩
                  ·
                    rw [if_neg hc194] at hm
                    refine t_yes 74 rfl rfl rfl ?_
                    refine t_st rfl (st_move rfl) ?_
                    refine t_no 77 rfl rfl rfl rfl rfl ?_
                    refine t_no 77 rfl rfl rfl rfl rfl ?_
                    refine t_no 77 rfl rfl rfl rfl rfl ?_
                    refine t_no 77 rfl rfl rfl rfl rfl ?_
                    refine t_no 77 rfl rfl rfl rfl rfl ?_
                    refine t_yes 74 rfl rfl rfl ?_
                    refine t_st rfl (st_pick_f rfl rfl) ?_
                    refine t_st rfl (st_pick_f rfl rfl) ?_
                    refine t_st rfl (st_assign rfl) ?_
                    refine t_nil ?_
                    obtain rfl := some1 hm
                    exact x_join (e' := [(10, .bool (false))]) (hp' := R) ⟨rfl, trivial⟩ (.cons _ (sub_skip hs184 (sub_skip hs118 (.refl _)))) ⟨rfl, rfl, (Base.Le.refl _)⟩
              ·
                rintro b189 _ _ ⟨rfl, rfl, hle190⟩
                have hm := hk192
                refine c_ret ?_
                obtain rfl := some1 hm
                exact retM (rs := [.tmp 10]) [.bool (x191)] (hle115.trans (hle123.trans (hle150.trans (hle181.trans hle190)))) (by decide) rfl ⟨rfl, trivial⟩ rfl (hp' := R) (.refl _) ⟨rfl, rfl⟩

end Go.Proofs.YtljcafilceachaaDoor
