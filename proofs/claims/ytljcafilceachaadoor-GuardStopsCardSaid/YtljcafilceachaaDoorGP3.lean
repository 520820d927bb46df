/- Contracts: the code computes its model (part 3). -/
import Derived.Test.YtljcafilceachaaDoorGP2
set_option linter.unusedVariables false
set_option linter.unusedSimpArgs false
namespace Go.Proofs.YtljcafilceachaaDoor
open Go.RowKit Go.Fp

set_option maxRecDepth 20000 in
theorem cGuardPacketCheck (b : Base) (R : Hp) (s1 : GuardPacket) (x108 : Int) (hm : mGuardPacketCheck s1 = some x108) :
    CallsG Tryd.prog 51 [.agg #[.int .i64 (s1.Kind), .int .i64 (s1.Session), .int .i64 (s1.No), .int .i64 (s1.Of), .int .i64 (s1.End), .int .i64 (s1.At), .int .i64 (s1.Speed), .int .i64 (s1.Sent)]] b (R) (fun v b' hp' => .int .i64 (x108) = v ∧ R = hp') := by
  refine fn_enterG 64 Tryd.func51 rfl Tryd.ntmps51 rfl ?_
  unfold mGuardPacketCheck at hm
  refine c_seq ?_
  refine c_region ?_
  refine t_do rfl (u_box _ rfl rfl) ?_
  rintro _ _ ⟨g109, rfl, rfl⟩
  refine t_st rfl (st_assign rfl) ?_
  refine t_nil ?_
  refine x_then_normal ?_
  refine c_seq ?_
  refine c_block ?_
  refine c_seq ?_
  refine c_region ?_
  refine t_st rfl (st_field rfl fld36_0) ?_
  refine t_st rfl (st_load 0 rfl one3 rfl rfl) ?_
  obtain ⟨x110, hcl111, hm⟩ := bindS hm
  refine t_do rfl (u_callW0 _ call63 rfl (fun w ho => cGuardWithin _ [] s1.Kind 1 8 x110 hcl111) (fun _ _ _ h => h.2.symm)) ?_
  rintro _ _ ⟨⟨_, rfl, _⟩, rfl⟩
  refine t_st rfl (st_not rfl) ?_
  refine t_st rfl (st_assign rfl) ?_
  refine t_nil ?_
  refine x_then_normal ?_
  refine c_cond _ rfl (fun hc112 => ?_) (fun hc112 => ?_)
  ·
    rw [if_neg (fun hh => Bool.noConfusion (hh.symm.trans (notT hc112)))] at hm
    refine c_seq ?_
    refine c_region ?_
    refine t_st rfl (st_assign rfl) ?_
    refine t_nil ?_
    refine x_then_normal ?_
    refine c_ret ?_
    refine x_block_ret ?_
    refine x_then_ret ?_
    obtain rfl := some1 hm
    exact retM (rs := [.tmp 2]) [.int .i64 (15)] (Base.Le.refl _) (by decide) rfl ⟨rfl, trivial⟩ rfl (hp' := R) (.cons _ (.refl _)) ⟨rfl, rfl⟩
  ·
    rw [if_pos (notF hc112)] at hm
    obtain ⟨x135, hj136, hk136⟩ := bindS hm
    refine c_join (fun b133 e' hp' => [(1, .pointer (some ⟨g109, 0, none⟩)), (8, .bool (x135))] = e' ∧ (g109, Cl 36 [.int .i64 (s1.Kind), .int .i64 (s1.Session), .int .i64 (s1.No), .int .i64 (s1.Of), .int .i64 (s1.End), .int .i64 (s1.At), .int .i64 (s1.Speed), .int .i64 (s1.Sent)]) :: R = hp' ∧ b.Le b133) ?_ ?_
    ·
      have hm := hj136
      refine c_region ?_
      refine t_st rfl (st_field rfl fld36_1) ?_
      refine t_st rfl (st_load 0 rfl one3 rfl rfl) ?_
      obtain ⟨x137, hcl138, hm⟩ := bindS hm
      refine t_do rfl (u_callW0 _ call63 rfl (fun w ho => cGuardWithin _ [] s1.Session 1 1000000 x137 hcl138) (fun _ _ _ h => h.2.symm)) ?_
      rintro _ _ ⟨⟨_, rfl, _⟩, rfl⟩
      rcases Bool.eq_false_or_eq_true x137 with hc139 | hc139
      ·
        rw [if_pos hc139] at hm
        refine t_resp 11 rfl (v' := .bool true) (by rw [hc139] <;> rfl) ?_
        refine t_st rfl (st_not_t rfl) ?_
        refine t_st rfl (st_move rfl) ?_
        refine t_yes 13 rfl rfl rfl ?_
        refine t_st rfl (st_field rfl fld36_2) ?_
        refine t_yes 13 rfl rfl rfl ?_
        refine t_st rfl (st_load 0 rfl one3 rfl rfl) ?_
        refine t_yes 13 rfl rfl rfl ?_
        obtain ⟨x140, hcl141, hm⟩ := bindS hm
        refine t_do rfl (u_callW0 _ call63 rfl (fun w ho => cGuardWithin _ [] s1.No 1 1000000 x140 hcl141) (fun _ _ _ h => h.2.symm)) ?_
        rintro _ _ ⟨⟨_, rfl, _⟩, rfl⟩
        rcases Bool.eq_false_or_eq_true x140 with hc142 | hc142
        ·
          rw [if_pos hc142] at hm
          refine t_resp 16 rfl (v' := .bool true) (by rw [hc142] <;> rfl) ?_
          refine t_yes 13 rfl rfl rfl ?_
          refine t_st rfl (st_not_t rfl) ?_
          refine t_st rfl (st_pick_f rfl rfl) ?_
          refine t_st rfl (st_move rfl) ?_
          refine t_yes 19 rfl rfl rfl ?_
          refine t_st rfl (st_field rfl fld36_3) ?_
          refine t_yes 19 rfl rfl rfl ?_
          refine t_st rfl (st_load 0 rfl one3 rfl rfl) ?_
          refine t_yes 19 rfl rfl rfl ?_
          obtain ⟨x143, hcl144, hm⟩ := bindS hm
          refine t_do rfl (u_callW0 _ call63 rfl (fun w ho => cGuardWithin _ [] s1.Of 0 1000000 x143 hcl144) (fun _ _ _ h => h.2.symm)) ?_
          rintro _ _ ⟨⟨_, rfl, _⟩, rfl⟩
          rcases Bool.eq_false_or_eq_true x143 with hc145 | hc145
          ·
            rw [if_pos hc145] at hm
            refine t_resp 22 rfl (v' := .bool true) (by rw [hc145] <;> rfl) ?_
            refine t_yes 19 rfl rfl rfl ?_
            refine t_st rfl (st_not_t rfl) ?_
            refine t_st rfl (st_pick_f rfl rfl) ?_
            refine t_st rfl (st_move rfl) ?_
            refine t_yes 25 rfl rfl rfl ?_
            refine t_st rfl (st_field rfl fld36_4) ?_
            refine t_yes 25 rfl rfl rfl ?_
            refine t_st rfl (st_load 0 rfl one3 rfl rfl) ?_
            refine t_yes 25 rfl rfl rfl ?_
            obtain ⟨x146, hcl147, hm⟩ := bindS hm
            refine t_do rfl (u_callW0 _ call63 rfl (fun w ho => cGuardWithin _ [] s1.End 0 20000000 x146 hcl147) (fun _ _ _ h => h.2.symm)) ?_
            rintro _ _ ⟨⟨_, rfl, _⟩, rfl⟩
            rcases Bool.eq_false_or_eq_true x146 with hc148 | hc148
            ·
              rw [if_pos hc148] at hm
              refine t_resp 28 rfl (v' := .bool true) (by rw [hc148] <;> rfl) ?_
              refine t_yes 25 rfl rfl rfl ?_
              refine t_st rfl (st_not_t rfl) ?_
              refine t_st rfl (st_pick_f rfl rfl) ?_
              refine t_st rfl (st_move rfl) ?_
              refine t_yes 31 rfl rfl rfl ?_
              refine t_st rfl (st_field rfl fld36_5) ?_
              refine t_yes 31 rfl rfl rfl ?_
              refine t_st rfl (st_load 0 rfl one3 rfl rfl) ?_
              refine t_yes 31 rfl rfl rfl ?_
              obtain ⟨x149, hcl150, hm⟩ := bindS hm
              refine t_do rfl (u_callW0 _ call63 rfl (fun w ho => cGuardWithin _ [] s1.At 0 20000000 x149 hcl150) (fun _ _ _ h => h.2.symm)) ?_
              rintro _ _ ⟨⟨_, rfl, _⟩, rfl⟩
              rcases Bool.eq_false_or_eq_true x149 with hc151 | hc151
              ·
                rw [if_pos hc151] at hm
                refine t_resp 34 rfl (v' := .bool true) (by rw [hc151] <;> rfl) ?_
                refine t_yes 31 rfl rfl rfl ?_
                refine t_st rfl (st_not_t rfl) ?_
                refine t_st rfl (st_pick_f rfl rfl) ?_
                refine t_st rfl (st_move rfl) ?_
                refine t_yes 37 rfl rfl rfl ?_
                refine t_st rfl (st_field rfl fld36_6) ?_
                refine t_yes 37 rfl rfl rfl ?_
                refine t_st rfl (st_load 0 rfl one3 rfl rfl) ?_
                refine t_yes 37 rfl rfl rfl ?_
                obtain ⟨x152, hcl153, hm⟩ := bindS hm
                refine t_do rfl (u_callW0 _ call63 rfl (fun w ho => cGuardWithin _ [] s1.Speed 0 6000 x152 hcl153) (fun _ _ _ h => h.2.symm)) ?_
                rintro _ _ ⟨⟨_, rfl, _⟩, rfl⟩
                rcases Bool.eq_false_or_eq_true x152 with hc154 | hc154
                ·
                  rw [if_pos hc154] at hm
                  refine t_resp 40 rfl (v' := .bool true) (by rw [hc154] <;> rfl) ?_
                  refine t_yes 37 rfl rfl rfl ?_
                  refine t_st rfl (st_not_t rfl) ?_
                  refine t_st rfl (st_pick_f rfl rfl) ?_
                  refine t_st rfl (st_move rfl) ?_
                  refine t_yes 43 rfl rfl rfl ?_
                  refine t_st rfl (st_field rfl fld36_7) ?_
                  refine t_yes 43 rfl rfl rfl ?_
                  refine t_st rfl (st_load 0 rfl one3 rfl rfl) ?_
                  refine t_yes 43 rfl rfl rfl ?_
                  obtain ⟨x155, hcl156, hm⟩ := bindS hm
                  refine t_do rfl (u_callW0 _ call63 rfl (fun w ho => cGuardWithin _ [] s1.Sent 0 28800 x155 hcl156) (fun _ _ _ h => h.2.symm)) ?_
                  rintro _ _ ⟨⟨_, rfl, _⟩, rfl⟩
                  refine t_yes 43 rfl rfl rfl ?_
                  refine t_st rfl (st_not rfl) ?_
                  refine t_st rfl (st_pick_f rfl rfl) ?_
                  refine t_st rfl (st_assign rfl) ?_
                  refine t_nil ?_
                  obtain rfl := some1 hm
                  exact x_join (e' := [(1, .pointer (some ⟨g109, 0, none⟩)), (8, .bool (!x155))]) (hp' := (g109, Cl 36 [.int .i64 (s1.Kind), .int .i64 (s1.Session), .int .i64 (s1.No), .int .i64 (s1.Of), .int .i64 (s1.End), .int .i64 (s1.At), .int .i64 (s1.Speed), .int .i64 (s1.Sent)]) :: R) ⟨rfl, rfl, trivial⟩ (.cons_cons _ (.refl _)) ⟨rfl, rfl, (Base.Le.refl _)⟩
                ·
                  rw [if_neg (fun hh => Bool.noConfusion (hh.symm.trans hc154))] at hm
                  refine t_resp 40 rfl (v' := .bool false) (by rw [hc154] <;> rfl) ?_
                  refine t_yes 37 rfl rfl rfl ?_
                  refine t_st rfl (st_not_f rfl) ?_
                  refine t_st rfl (st_pick_f rfl rfl) ?_
                  refine t_st rfl (st_move rfl) ?_
                  refine t_no 43 rfl rfl rfl rfl rfl ?_
                  refine t_no 43 rfl rfl rfl rfl rfl ?_
                  refine t_no 43 rfl rfl rfl rfl rfl ?_
                  refine t_no 43 rfl rfl rfl rfl rfl ?_
                  refine t_st rfl (st_pick_t rfl rfl) ?_
                  refine t_st rfl (st_assign rfl) ?_
                  refine t_nil ?_
                  obtain rfl := some1 hm
                  exact x_join (e' := [(1, .pointer (some ⟨g109, 0, none⟩)), (8, .bool (true))]) (hp' := (g109, Cl 36 [.int .i64 (s1.Kind), .int .i64 (s1.Session), .int .i64 (s1.No), .int .i64 (s1.Of), .int .i64 (s1.End), .int .i64 (s1.At), .int .i64 (s1.Speed), .int .i64 (s1.Sent)]) :: R) ⟨rfl, rfl, trivial⟩ (.cons_cons _ (.refl _)) ⟨rfl, rfl, (Base.Le.refl _)⟩
              ·
                rw [if_neg (fun hh => Bool.noConfusion (hh.symm.trans hc151))] at hm
                refine t_resp 34 rfl (v' := .bool false) (by rw [hc151] <;> rfl) ?_
                refine t_yes 31 rfl rfl rfl ?_
                refine t_st rfl (st_not_f rfl) ?_
                refine t_st rfl (st_pick_f rfl rfl) ?_
                refine t_st rfl (st_move rfl) ?_
                refine t_no 37 rfl rfl rfl rfl rfl ?_
                refine t_no 37 rfl rfl rfl rfl rfl ?_
                refine t_no 37 rfl rfl rfl rfl rfl ?_
                refine t_no 37 rfl rfl rfl rfl rfl ?_
                refine t_st rfl (st_pick_t rfl rfl) ?_
                refine t_st rfl (st_move rfl) ?_
                refine t_no 43 rfl rfl rfl rfl rfl ?_
                refine t_no 43 rfl rfl rfl rfl rfl ?_
                refine t_no 43 rfl rfl rfl rfl rfl ?_
                refine t_no 43 rfl rfl rfl rfl rfl ?_
                refine t_st rfl (st_pick_t rfl rfl) ?_
                refine t_st rfl (st_assign rfl) ?_
                refine t_nil ?_
                obtain rfl := some1 hm
                exact x_join (e' := [(1, .pointer (some ⟨g109, 0, none⟩)), (8, .bool (true))]) (hp' := (g109, Cl 36 [.int .i64 (s1.Kind), .int .i64 (s1.Session), .int .i64 (s1.No), .int .i64 (s1.Of), .int .i64 (s1.End), .int .i64 (s1.At), .int .i64 (s1.Speed), .int .i64 (s1.Sent)]) :: R) ⟨rfl, rfl, trivial⟩ (.cons_cons _ (.refl _)) ⟨rfl, rfl, (Base.Le.refl _)⟩
            ·
              rw [if_neg (fun hh => Bool.noConfusion (hh.symm.trans hc148))] at hm
              refine t_resp 28 rfl (v' := .bool false) (by rw [hc148] <;> rfl) ?_
              refine t_yes 25 rfl rfl rfl ?_
              refine t_st rfl (st_not_f rfl) ?_
              refine t_st rfl (st_pick_f rfl rfl) ?_
              refine t_st rfl (st_move rfl) ?_
              refine t_no 31 rfl rfl rfl rfl rfl ?_
              refine t_no 31 rfl rfl rfl rfl rfl ?_
              refine t_no 31 rfl rfl rfl rfl rfl ?_
              refine t_no 31 rfl rfl rfl rfl rfl ?_
              refine t_st rfl (st_pick_t rfl rfl) ?_
              refine t_st rfl (st_move rfl) ?_
              refine t_no 37 rfl rfl rfl rfl rfl ?_
              refine t_no 37 rfl rfl rfl rfl rfl ?_
              refine t_no 37 rfl rfl rfl rfl rfl ?_
              refine t_no 37 rfl rfl rfl rfl rfl ?_
              refine t_st rfl (st_pick_t rfl rfl) ?_
              refine t_st rfl (st_move rfl) ?_
              refine t_no 43 rfl rfl rfl rfl rfl ?_
              refine t_no 43 rfl rfl rfl rfl rfl ?_
              refine t_no 43 rfl rfl rfl rfl rfl ?_
              refine t_no 43 rfl rfl rfl rfl rfl ?_
              refine t_st rfl (st_pick_t rfl rfl) ?_
              refine t_st rfl (st_assign rfl) ?_
              refine t_nil ?_
              obtain rfl := some1 hm
              exact x_join (e' := [(1, .pointer (some ⟨g109, 0, none⟩)), (8, .bool (true))]) (hp' := (g109, Cl 36 [.int .i64 (s1.Kind), .int .i64 (s1.Session), .int .i64 (s1.No), .int .i64 (s1.Of), .int .i64 (s1.End), .int .i64 (s1.At), .int .i64 (s1.Speed), .int .i64 (s1.Sent)]) :: R) ⟨rfl, rfl, trivial⟩ (.cons_cons _ (.refl _)) ⟨rfl, rfl, (Base.Le.refl _)⟩
          ·
            rw [if_neg (fun hh => Bool.noConfusion (hh.symm.trans hc145))] at hm
            refine t_resp 22 rfl (v' := .bool false) (by rw [hc145] <;> rfl) ?_
            refine t_yes 19 rfl rfl rfl ?_
            refine t_st rfl (st_not_f rfl) ?_
            refine t_st rfl (st_pick_f rfl rfl) ?_
            refine t_st rfl (st_move rfl) ?_
            refine t_no 25 rfl rfl rfl rfl rfl ?_
            refine t_no 25 rfl rfl rfl rfl rfl ?_
            refine t_no 25 rfl rfl rfl rfl rfl ?_
            refine t_no 25 rfl rfl rfl rfl rfl ?_
            refine t_st rfl (st_pick_t rfl rfl) ?_
            refine t_st rfl (st_move rfl) ?_
            refine t_no 31 rfl rfl rfl rfl rfl ?_
            refine t_no 31 rfl rfl rfl rfl rfl ?_
            refine t_no 31 rfl rfl rfl rfl rfl ?_
            refine t_no 31 rfl rfl rfl rfl rfl ?_
            refine t_st rfl (st_pick_t rfl rfl) ?_
            refine t_st rfl (st_move rfl) ?_
            refine t_no 37 rfl rfl rfl rfl rfl ?_
            refine t_no 37 rfl rfl rfl rfl rfl ?_
            refine t_no 37 rfl rfl rfl rfl rfl ?_
            refine t_no 37 rfl rfl rfl rfl rfl ?_
            refine t_st rfl (st_pick_t rfl rfl) ?_
            refine t_st rfl (st_move rfl) ?_
            refine t_no 43 rfl rfl rfl rfl rfl ?_
            refine t_no 43 rfl rfl rfl rfl rfl ?_
            refine t_no 43 rfl rfl rfl rfl rfl ?_
            refine t_no 43 rfl rfl rfl rfl rfl ?_
            refine t_st rfl (st_pick_t rfl rfl) ?_
            refine t_st rfl (st_assign rfl) ?_
            refine t_nil ?_
            obtain rfl := some1 hm
            exact x_join (e' := [(1, .pointer (some ⟨g109, 0, none⟩)), (8, .bool (true))]) (hp' := (g109, Cl 36 [.int .i64 (s1.Kind), .int .i64 (s1.Session), .int .i64 (s1.No), .int .i64 (s1.Of), .int .i64 (s1.End), .int .i64 (s1.At), .int .i64 (s1.Speed), .int .i64 (s1.Sent)]) :: R) ⟨rfl, rfl, trivial⟩ (.cons_cons _ (.refl _)) ⟨rfl, rfl, (Base.Le.refl _)⟩
        ·
          rw [if_neg (fun hh => Bool.noConfusion (hh.symm.trans hc142))] at hm
          refine t_resp 16 rfl (v' := .bool false) (by rw [hc142] <;> rfl) ?_
          refine t_yes 13 rfl rfl rfl ?_
          refine t_st rfl (st_not_f rfl) ?_
          refine t_st rfl (st_pick_f rfl rfl) ?_
          refine t_st rfl (st_move rfl) ?_
          refine t_no 19 rfl rfl rfl rfl rfl ?_
          refine t_no 19 rfl rfl rfl rfl rfl ?_
          refine t_no 19 rfl rfl rfl rfl rfl ?_
          refine t_no 19 rfl rfl rfl rfl rfl ?_
          refine t_st rfl (st_pick_t rfl rfl) ?_
          refine t_st rfl (st_move rfl) ?_
          refine t_no 25 rfl rfl rfl rfl rfl ?_
          refine t_no 25 rfl rfl rfl rfl rfl ?_
          refine t_no 25 rfl rfl rfl rfl rfl ?_
          refine t_no 25 rfl rfl rfl rfl rfl ?_
          refine t_st rfl (st_pick_t rfl rfl) ?_
          refine t_st rfl (st_move rfl) ?_
          refine t_no 31 rfl rfl rfl rfl rfl ?_
          refine t_no 31 rfl rfl rfl rfl rfl ?_
          refine t_no 31 rfl rfl rfl rfl rfl ?_
          refine t_no 31 rfl rfl rfl rfl rfl ?_
          refine t_st rfl (st_pick_t rfl rfl) ?_
          refine t_st rfl (st_move rfl) ?_
          refine t_no 37 rfl rfl rfl rfl rfl ?_
          refine t_no 37 rfl rfl rfl rfl rfl ?_
          refine t_no 37 rfl rfl rfl rfl rfl ?_
          refine t_no 37 rfl rfl rfl rfl rfl ?_
          refine t_st rfl (st_pick_t rfl rfl) ?_
          refine t_st rfl (st_move rfl) ?_
          refine t_no 43 rfl rfl rfl rfl rfl ?_
          refine t_no 43 rfl rfl rfl rfl rfl ?_
          refine t_no 43 rfl rfl rfl rfl rfl ?_
          refine t_no 43 rfl rfl rfl rfl rfl ?_
          refine t_st rfl (st_pick_t rfl rfl) ?_
          refine t_st rfl (st_assign rfl) ?_
          refine t_nil ?_
          obtain rfl := some1 hm
          exact x_join (e' := [(1, .pointer (some ⟨g109, 0, none⟩)), (8, .bool (true))]) (hp' := (g109, Cl 36 [.int .i64 (s1.Kind), .int .i64 (s1.Session), .int .i64 (s1.No), .int .i64 (s1.Of), .int .i64 (s1.End), .int .i64 (s1.At), .int .i64 (s1.Speed), .int .i64 (s1.Sent)]) :: R) ⟨rfl, rfl, trivial⟩ (.cons_cons _ (.refl _)) ⟨rfl, rfl, (Base.Le.refl _)⟩
      ·
        rw [if_neg (fun hh => Bool.noConfusion (hh.symm.trans hc139))] at hm
        refine t_resp 11 rfl (v' := .bool false) (by rw [hc139] <;> rfl) ?_
        refine t_st rfl (st_not_f rfl) ?_
        refine t_st rfl (st_move rfl) ?_
        refine t_no 13 rfl rfl rfl rfl rfl ?_
        refine t_no 13 rfl rfl rfl rfl rfl ?_
        refine t_no 13 rfl rfl rfl rfl rfl ?_
        refine t_no 13 rfl rfl rfl rfl rfl ?_
        refine t_st rfl (st_pick_t rfl rfl) ?_
        refine t_st rfl (st_move rfl) ?_
        refine t_no 19 rfl rfl rfl rfl rfl ?_
        refine t_no 19 rfl rfl rfl rfl rfl ?_
        refine t_no 19 rfl rfl rfl rfl rfl ?_
        refine t_no 19 rfl rfl rfl rfl rfl ?_
        refine t_st rfl (st_pick_t rfl rfl) ?_
        refine t_st rfl (st_move rfl) ?_
        refine t_no 25 rfl rfl rfl rfl rfl ?_
        refine t_no 25 rfl rfl rfl rfl rfl ?_
        refine t_no 25 rfl rfl rfl rfl rfl ?_
        refine t_no 25 rfl rfl rfl rfl rfl ?_
        refine t_st rfl (st_pick_t rfl rfl) ?_
        refine t_st rfl (st_move rfl) ?_
        refine t_no 31 rfl rfl rfl rfl rfl ?_
        refine t_no 31 rfl rfl rfl rfl rfl ?_
        refine t_no 31 rfl rfl rfl rfl rfl ?_
        refine t_no 31 rfl rfl rfl rfl rfl ?_
        refine t_st rfl (st_pick_t rfl rfl) ?_
        refine t_st rfl (st_move rfl) ?_
        refine t_no 37 rfl rfl rfl rfl rfl ?_
        refine t_no 37 rfl rfl rfl rfl rfl ?_
        refine t_no 37 rfl rfl rfl rfl rfl ?_
        refine t_no 37 rfl rfl rfl rfl rfl ?_
        refine t_st rfl (st_pick_t rfl rfl) ?_
        refine t_st rfl (st_move rfl) ?_
        refine t_no 43 rfl rfl rfl rfl rfl ?_
        refine t_no 43 rfl rfl rfl rfl rfl ?_
        refine t_no 43 rfl rfl rfl rfl rfl ?_
        refine t_no 43 rfl rfl rfl rfl rfl ?_
        refine t_st rfl (st_pick_t rfl rfl) ?_
        refine t_st rfl (st_assign rfl) ?_
        refine t_nil ?_
        obtain rfl := some1 hm
        exact x_join (e' := [(1, .pointer (some ⟨g109, 0, none⟩)), (8, .bool (true))]) (hp' := (g109, Cl 36 [.int .i64 (s1.Kind), .int .i64 (s1.Session), .int .i64 (s1.No), .int .i64 (s1.Of), .int .i64 (s1.End), .int .i64 (s1.At), .int .i64 (s1.Speed), .int .i64 (s1.Sent)]) :: R) ⟨rfl, rfl, trivial⟩ (.cons_cons _ (.refl _)) ⟨rfl, rfl, (Base.Le.refl _)⟩
    ·
      rintro b133 _ _ ⟨rfl, rfl, hle134⟩
      have hm := hk136
      refine c_cond _ rfl (fun hc157 => ?_) (fun hc157 => ?_)
      ·
        rw [if_pos hc157] at hm
        refine c_seq ?_
        refine c_region ?_
        refine t_st rfl (st_assign rfl) ?_
        refine t_nil ?_
        refine x_then_normal ?_
        refine c_ret ?_
        refine x_block_ret ?_
        refine x_then_ret ?_
        obtain rfl := some1 hm
        exact retM (rs := [.tmp 2]) [.int .i64 (2)] hle134 (by decide) rfl ⟨rfl, trivial⟩ rfl (hp' := R) (.cons _ (.refl _)) ⟨rfl, rfl⟩
      ·
        rw [if_neg (fun hh => Bool.noConfusion (hh.symm.trans hc157))] at hm
        obtain ⟨x186, hj187, hk187⟩ := bindS hm
        refine c_join (fun b184 e' hp' => [(49, .bool (x186))] = e' ∧ R = hp' ∧ b133.Le b184) ?_ ?_
        ·
          have hm := hj187
          obtain ⟨⟨x201, x202, x203, x204, x205, x206, x207, x208⟩, hcl209, hm⟩ := bindS hm
          have hm := (unc8E hm)
          rcases Bool.eq_false_or_eq_true (!(decide (s1.Kind = x201 ∧ s1.Session = x202 ∧ s1.No = x203 ∧ s1.Of = x204 ∧ s1.End = x205 ∧ s1.At = x206 ∧ s1.Speed = x207 ∧ s1.Sent = x208))) with hc212 | hc212
          ·
            rw [if_neg (of_decide_eq_false (notT hc212))] at hm
            refine D_drawS ((g109, Cl 36 [.int .i64 (s1.Kind), .int .i64 (s1.Session), .int .i64 (s1.No), .int .i64 (s1.Of), .int .i64 (s1.End), .int .i64 (s1.At), .int .i64 (s1.Speed), .int .i64 (s1.Sent)]) :: R) mixed ?_
            refine D_st (Base.Le.refl _) 0 rfl (by kernel_rfl) (by kernel_rfl) (by kernel_rfl) rfl (st_loadD (vs := [_, _, _, _, _, _, _, _]) 0 8 rfl agg36 rfl rfl rfl) (.cons_cons _ (.refl _)) ?_
            refine D_st (Base.Le.refl _) 1 rfl (by kernel_rfl) (by kernel_rfl) (by kernel_rfl) rfl (st_loadD (vs := [_, _, _, _, _, _, _, _]) 0 8 rfl agg36 rfl rfl rfl) (.cons_cons _ (.refl _)) ?_
            refine D_all [2] (by kernel_rfl) rfl ?_
            refine R_callGl (Base.Le.refl _) rfl rfl _ call75 rfl (cGuardPacketUsed _ _ s1 x201 x202 x203 x204 x205 x206 x207 x208 hcl209) ?_ ?_
            ·
              rintro _ b210 _ hle211 ⟨rfl, rfl⟩
              refine ⟨.inr (.cons_cons _ (.refl _)), ?_⟩
              refine D_st hle211 3 rfl (by kernel_rfl) (by kernel_rfl) (by kernel_rfl) rfl (stB (st_neqA (xs := [.int .i64 (s1.Kind), .int .i64 (s1.Session), .int .i64 (s1.No), .int .i64 (s1.Of), .int .i64 (s1.End), .int .i64 (s1.At), .int .i64 (s1.Speed), .int .i64 (s1.Sent)]) (ys := [.int .i64 (x201), .int .i64 (x202), .int .i64 (x203), .int .i64 (x204), .int .i64 (x205), .int .i64 (x206), .int .i64 (x207), .int .i64 (x208)]) (p := s1.Kind = x201 ∧ s1.Session = x202 ∧ s1.No = x203 ∧ s1.Of = x204 ∧ s1.End = x205 ∧ s1.At = x206 ∧ s1.Speed = x207 ∧ s1.Sent = x208) rfl rfl eqt36 ⟨⟨_, rfl⟩, ⟨⟨_, rfl⟩, ⟨⟨_, rfl⟩, ⟨⟨_, rfl⟩, ⟨⟨_, rfl⟩, ⟨⟨_, rfl⟩, ⟨⟨_, rfl⟩, ⟨⟨_, rfl⟩, trivial⟩⟩⟩⟩⟩⟩⟩⟩ ⟨⟨_, rfl⟩, ⟨⟨_, rfl⟩, ⟨⟨_, rfl⟩, ⟨⟨_, rfl⟩, ⟨⟨_, rfl⟩, ⟨⟨_, rfl⟩, ⟨⟨_, rfl⟩, ⟨⟨_, rfl⟩, trivial⟩⟩⟩⟩⟩⟩⟩⟩ (by simp [eqCells, eqCell, Bool.decide_and, beq_dec])) hc212) (.cons_cons _ (.refl _)) ?_
              refine D_st hle211 4 rfl (by kernel_rfl) (by kernel_rfl) (by kernel_rfl) rfl (st_move rfl) (.cons_cons _ (.refl _)) ?_
              refine D_no hle211 5 54 rfl (by kernel_rfl) (by kernel_rfl) (by kernel_rfl) rfl rfl rfl rfl rfl (.cons_cons _ (.refl _)) ?_
              refine D_no hle211 6 54 rfl (by kernel_rfl) (by kernel_rfl) (by kernel_rfl) rfl rfl rfl rfl rfl (.cons_cons _ (.refl _)) ?_
              refine D_no hle211 7 54 rfl (by kernel_rfl) (by kernel_rfl) (by kernel_rfl) rfl rfl rfl rfl rfl (.cons_cons _ (.refl _)) ?_
              refine D_no hle211 8 54 rfl (by kernel_rfl) (by kernel_rfl) (by kernel_rfl) rfl rfl rfl rfl rfl (.cons_cons _ (.refl _)) ?_
              refine D_no hle211 9 58 rfl (by kernel_rfl) (by kernel_rfl) (by kernel_rfl) rfl rfl rfl rfl rfl (.cons_cons _ (.refl _)) ?_
              refine D_no hle211 10 58 rfl (by kernel_rfl) (by kernel_rfl) (by kernel_rfl) rfl rfl rfl rfl rfl (.cons_cons _ (.refl _)) ?_
              refine D_no hle211 11 58 rfl (by kernel_rfl) (by kernel_rfl) (by kernel_rfl) rfl rfl rfl rfl rfl (.cons_cons _ (.refl _)) ?_
              refine D_no hle211 12 54 rfl (by kernel_rfl) (by kernel_rfl) (by kernel_rfl) rfl rfl rfl rfl rfl (.cons_cons _ (.refl _)) ?_
              refine D_st hle211 13 rfl (by kernel_rfl) (by kernel_rfl) (by kernel_rfl) rfl (st_pick_t rfl rfl) (.cons_cons _ (.refl _)) ?_
              refine D_st hle211 14 rfl (by kernel_rfl) (by kernel_rfl) (by kernel_rfl) rfl (st_assign rfl) (.cons_cons _ (.refl _)) ?_
              refine D_done (by kernel_rfl) ?_
              obtain rfl := some1 hm
              exact x_join (e' := [(49, .bool (true))]) (hp' := R) ⟨rfl, trivial⟩ (.cons _ (.refl _)) ⟨rfl, rfl, hle211⟩
            exact R_nil
          ·
            rw [if_pos (of_decide_eq_true (notF hc212))] at hm
            by_cases hc213 : s1.Of = 0
            ·
              rw [if_pos hc213] at hm
              refine D_drawS ((g109, Cl 36 [.int .i64 (s1.Kind), .int .i64 (s1.Session), .int .i64 (s1.No), .int .i64 (s1.Of), .int .i64 (s1.End), .int .i64 (s1.At), .int .i64 (s1.Speed), .int .i64 (s1.Sent)]) :: R) mixed ?_
              refine D_st (Base.Le.refl _) 0 rfl (by kernel_rfl) (by kernel_rfl) (by kernel_rfl) rfl (st_loadD (vs := [_, _, _, _, _, _, _, _]) 0 8 rfl agg36 rfl rfl rfl) (.cons_cons _ (.refl _)) ?_
              refine D_st (Base.Le.refl _) 1 rfl (by kernel_rfl) (by kernel_rfl) (by kernel_rfl) rfl (st_loadD (vs := [_, _, _, _, _, _, _, _]) 0 8 rfl agg36 rfl rfl rfl) (.cons_cons _ (.refl _)) ?_
              refine D_all [2] (by kernel_rfl) rfl ?_
              refine R_callGl (Base.Le.refl _) rfl rfl _ call75 rfl (cGuardPacketUsed _ _ s1 x201 x202 x203 x204 x205 x206 x207 x208 hcl209) ?_ ?_
              ·
                rintro _ b210 _ hle211 ⟨rfl, rfl⟩
                refine ⟨.inr (.cons_cons _ (.refl _)), ?_⟩
                refine D_st hle211 3 rfl (by kernel_rfl) (by kernel_rfl) (by kernel_rfl) rfl (stB (st_neqA (xs := [.int .i64 (s1.Kind), .int .i64 (s1.Session), .int .i64 (s1.No), .int .i64 (s1.Of), .int .i64 (s1.End), .int .i64 (s1.At), .int .i64 (s1.Speed), .int .i64 (s1.Sent)]) (ys := [.int .i64 (x201), .int .i64 (x202), .int .i64 (x203), .int .i64 (x204), .int .i64 (x205), .int .i64 (x206), .int .i64 (x207), .int .i64 (x208)]) (p := s1.Kind = x201 ∧ s1.Session = x202 ∧ s1.No = x203 ∧ s1.Of = x204 ∧ s1.End = x205 ∧ s1.At = x206 ∧ s1.Speed = x207 ∧ s1.Sent = x208) rfl rfl eqt36 ⟨⟨_, rfl⟩, ⟨⟨_, rfl⟩, ⟨⟨_, rfl⟩, ⟨⟨_, rfl⟩, ⟨⟨_, rfl⟩, ⟨⟨_, rfl⟩, ⟨⟨_, rfl⟩, ⟨⟨_, rfl⟩, trivial⟩⟩⟩⟩⟩⟩⟩⟩ ⟨⟨_, rfl⟩, ⟨⟨_, rfl⟩, ⟨⟨_, rfl⟩, ⟨⟨_, rfl⟩, ⟨⟨_, rfl⟩, ⟨⟨_, rfl⟩, ⟨⟨_, rfl⟩, ⟨⟨_, rfl⟩, trivial⟩⟩⟩⟩⟩⟩⟩⟩ (by simp [eqCells, eqCell, Bool.decide_and, beq_dec])) hc212) (.cons_cons _ (.refl _)) ?_
                refine D_st hle211 4 rfl (by kernel_rfl) (by kernel_rfl) (by kernel_rfl) rfl (st_move rfl) (.cons_cons _ (.refl _)) ?_
                refine D_yes hle211 5 54 rfl (by kernel_rfl) (by kernel_rfl) (by kernel_rfl) rfl rfl rfl rfl (st_field rfl fld36_3) (.cons_cons _ (.refl _)) ?_
                refine D_yes hle211 6 54 rfl (by kernel_rfl) (by kernel_rfl) (by kernel_rfl) rfl rfl rfl rfl (st_load 0 rfl one3 rfl rfl) (.cons_cons _ (.refl _)) ?_
                refine D_yes hle211 7 54 rfl (by kernel_rfl) (by kernel_rfl) (by kernel_rfl) rfl rfl rfl rfl (st_eql_t rfl rfl hc213) (.cons_cons _ (.refl _)) ?_
                refine D_yes hle211 8 54 rfl (by kernel_rfl) (by kernel_rfl) (by kernel_rfl) rfl rfl rfl rfl (st_move rfl) (.cons_cons _ (.refl _)) ?_
                refine D_yes hle211 9 58 rfl (by kernel_rfl) (by kernel_rfl) (by kernel_rfl) rfl rfl rfl rfl (st_field rfl fld36_0) (.cons_cons _ (.refl _)) ?_
                refine D_yes hle211 10 58 rfl (by kernel_rfl) (by kernel_rfl) (by kernel_rfl) rfl rfl rfl rfl (st_load 0 rfl one3 rfl rfl) (.cons_cons _ (.refl _)) ?_
                refine D_yes hle211 11 58 rfl (by kernel_rfl) (by kernel_rfl) (by kernel_rfl) rfl rfl rfl rfl (st_geq rfl rfl) (.cons_cons _ (.refl _)) ?_
                refine D_yes hle211 12 54 rfl (by kernel_rfl) (by kernel_rfl) (by kernel_rfl) rfl rfl rfl rfl (st_pick_t rfl rfl) (.cons_cons _ (.refl _)) ?_
                refine D_st hle211 13 rfl (by kernel_rfl) (by kernel_rfl) (by kernel_rfl) rfl (st_pick_f rfl rfl) (.cons_cons _ (.refl _)) ?_
                refine D_st hle211 14 rfl (by kernel_rfl) (by kernel_rfl) (by kernel_rfl) rfl (st_assign rfl) (.cons_cons _ (.refl _)) ?_
                refine D_done (by kernel_rfl) ?_
                obtain rfl := some1 hm
                exact x_join (e' := [(49, .bool (decide (7 ≤ s1.Kind)))]) (hp' := R) ⟨rfl, trivial⟩ (.cons _ (.refl _)) ⟨rfl, rfl, hle211⟩
              exact R_nil
            ·
              rw [if_neg hc213] at hm
              refine D_drawS ((g109, Cl 36 [.int .i64 (s1.Kind), .int .i64 (s1.Session), .int .i64 (s1.No), .int .i64 (s1.Of), .int .i64 (s1.End), .int .i64 (s1.At), .int .i64 (s1.Speed), .int .i64 (s1.Sent)]) :: R) mixed ?_
              refine D_st (Base.Le.refl _) 0 rfl (by kernel_rfl) (by kernel_rfl) (by kernel_rfl) rfl (st_loadD (vs := [_, _, _, _, _, _, _, _]) 0 8 rfl agg36 rfl rfl rfl) (.cons_cons _ (.refl _)) ?_
              refine D_st (Base.Le.refl _) 1 rfl (by kernel_rfl) (by kernel_rfl) (by kernel_rfl) rfl (st_loadD (vs := [_, _, _, _, _, _, _, _]) 0 8 rfl agg36 rfl rfl rfl) (.cons_cons _ (.refl _)) ?_
              refine D_all [2] (by kernel_rfl) rfl ?_
              refine R_callGl (Base.Le.refl _) rfl rfl _ call75 rfl (cGuardPacketUsed _ _ s1 x201 x202 x203 x204 x205 x206 x207 x208 hcl209) ?_ ?_
              ·
                rintro _ b210 _ hle211 ⟨rfl, rfl⟩
                refine ⟨.inr (.cons_cons _ (.refl _)), ?_⟩
                refine D_st hle211 3 rfl (by kernel_rfl) (by kernel_rfl) (by kernel_rfl) rfl (stB (st_neqA (xs := [.int .i64 (s1.Kind), .int .i64 (s1.Session), .int .i64 (s1.No), .int .i64 (s1.Of), .int .i64 (s1.End), .int .i64 (s1.At), .int .i64 (s1.Speed), .int .i64 (s1.Sent)]) (ys := [.int .i64 (x201), .int .i64 (x202), .int .i64 (x203), .int .i64 (x204), .int .i64 (x205), .int .i64 (x206), .int .i64 (x207), .int .i64 (x208)]) (p := s1.Kind = x201 ∧ s1.Session = x202 ∧ s1.No = x203 ∧ s1.Of = x204 ∧ s1.End = x205 ∧ s1.At = x206 ∧ s1.Speed = x207 ∧ s1.Sent = x208) rfl rfl eqt36 ⟨⟨_, rfl⟩, ⟨⟨_, rfl⟩, ⟨⟨_, rfl⟩, ⟨⟨_, rfl⟩, ⟨⟨_, rfl⟩, ⟨⟨_, rfl⟩, ⟨⟨_, rfl⟩, ⟨⟨_, rfl⟩, trivial⟩⟩⟩⟩⟩⟩⟩⟩ ⟨⟨_, rfl⟩, ⟨⟨_, rfl⟩, ⟨⟨_, rfl⟩, ⟨⟨_, rfl⟩, ⟨⟨_, rfl⟩, ⟨⟨_, rfl⟩, ⟨⟨_, rfl⟩, ⟨⟨_, rfl⟩, trivial⟩⟩⟩⟩⟩⟩⟩⟩ (by simp [eqCells, eqCell, Bool.decide_and, beq_dec])) hc212) (.cons_cons _ (.refl _)) ?_
                refine D_st hle211 4 rfl (by kernel_rfl) (by kernel_rfl) (by kernel_rfl) rfl (st_move rfl) (.cons_cons _ (.refl _)) ?_
                refine D_yes hle211 5 54 rfl (by kernel_rfl) (by kernel_rfl) (by kernel_rfl) rfl rfl rfl rfl (st_field rfl fld36_3) (.cons_cons _ (.refl _)) ?_
                refine D_yes hle211 6 54 rfl (by kernel_rfl) (by kernel_rfl) (by kernel_rfl) rfl rfl rfl rfl (st_load 0 rfl one3 rfl rfl) (.cons_cons _ (.refl _)) ?_
                refine D_yes hle211 7 54 rfl (by kernel_rfl) (by kernel_rfl) (by kernel_rfl) rfl rfl rfl rfl (st_eql_f rfl rfl hc213) (.cons_cons _ (.refl _)) ?_
                refine D_yes hle211 8 54 rfl (by kernel_rfl) (by kernel_rfl) (by kernel_rfl) rfl rfl rfl rfl (st_move rfl) (.cons_cons _ (.refl _)) ?_
                refine D_no hle211 9 58 rfl (by kernel_rfl) (by kernel_rfl) (by kernel_rfl) rfl rfl rfl rfl rfl (.cons_cons _ (.refl _)) ?_
                refine D_no hle211 10 58 rfl (by kernel_rfl) (by kernel_rfl) (by kernel_rfl) rfl rfl rfl rfl rfl (.cons_cons _ (.refl _)) ?_
                refine D_no hle211 11 58 rfl (by kernel_rfl) (by kernel_rfl) (by kernel_rfl) rfl rfl rfl rfl rfl (.cons_cons _ (.refl _)) ?_
                refine D_yes hle211 12 54 rfl (by kernel_rfl) (by kernel_rfl) (by kernel_rfl) rfl rfl rfl rfl (st_pick_f rfl rfl) (.cons_cons _ (.refl _)) ?_
                refine D_st hle211 13 rfl (by kernel_rfl) (by kernel_rfl) (by kernel_rfl) rfl (st_pick_f rfl rfl) (.cons_cons _ (.refl _)) ?_
                refine D_st hle211 14 rfl (by kernel_rfl) (by kernel_rfl) (by kernel_rfl) rfl (st_assign rfl) (.cons_cons _ (.refl _)) ?_
                refine D_done (by kernel_rfl) ?_
                obtain rfl := some1 hm
                exact x_join (e' := [(49, .bool (false))]) (hp' := R) ⟨rfl, trivial⟩ (.cons _ (.refl _)) ⟨rfl, rfl, hle211⟩
              exact R_nil
        ·
          rintro b184 _ _ ⟨rfl, rfl, hle185⟩
          have hm := hk187
          refine c_cond _ rfl (fun hc214 => ?_) (fun hc214 => ?_)
          ·
            rw [if_pos hc214] at hm
            refine c_seq ?_
            refine c_region ?_
            refine t_st rfl (st_assign rfl) ?_
            refine t_nil ?_
            refine x_then_normal ?_
            refine c_ret ?_
            refine x_block_ret ?_
            refine x_then_ret ?_
            obtain rfl := some1 hm
            exact retM (rs := [.tmp 2]) [.int .i64 (1)] (hle134.trans hle185) (by decide) rfl ⟨rfl, trivial⟩ rfl (hp' := R) (.refl _) ⟨rfl, rfl⟩
          ·
            rw [if_neg (fun hh => Bool.noConfusion (hh.symm.trans hc214))] at hm
            refine c_skip ?_
            refine x_block_normal ?_
            refine x_then_normal ?_
            refine c_seq ?_
            refine c_region ?_
            refine t_st rfl (st_assign rfl) ?_
            refine t_nil ?_
            refine x_then_normal ?_
            refine c_ret ?_
            obtain rfl := some1 hm
            exact retM (rs := [.tmp 2]) [.int .i64 (0)] (hle134.trans hle185) (by decide) rfl ⟨rfl, trivial⟩ rfl (hp' := R) (.refl _) ⟨rfl, rfl⟩

set_option maxRecDepth 20000 in
theorem cGuardUnpack (b : Base) (R : Hp) (hG : GLo 2 3 b.w) (x1 : ByteArray) (x370 : Int) (x371 : Int) (x372 : Int) (x373 : Int) (x374 : Int) (x375 : Int) (x376 : Int) (x377 : Int) (x378 : Int) (hm : mGuardUnpack x1 = some (x370, x371, x372, x373, x374, x375, x376, x377, x378)) :
    CallsG Tryd.prog 20 [.string (x1)] b (R) (fun v b' hp' => .tuple #[.agg #[.int .i64 (x370), .int .i64 (x371), .int .i64 (x372), .int .i64 (x373), .int .i64 (x374), .int .i64 (x375), .int .i64 (x376), .int .i64 (x377)], .int .i64 (x378)] = v ∧ R = hp') := by
  refine fn_enterG 54 Tryd.func20 rfl Tryd.ntmps20 rfl ?_
  unfold mGuardUnpack at hm
  refine c_seq ?_
  refine c_region ?_
  refine t_do rfl (u_alloc [.int .i64 0, .int .i64 0, .int .i64 0, .int .i64 0, .int .i64 0, .int .i64 0, .int .i64 0, .int .i64 0] zero36 rfl) ?_
  rintro _ _ ⟨g379, rfl, rfl⟩
  refine t_st rfl (st_assign rfl) ?_
  refine t_nil ?_
  refine x_then_normal ?_
  refine c_seq ?_
  refine c_region ?_
  refine t_st rfl (st_move rfl) ?_
  obtain ⟨l380, hcl381, hm⟩ := bindS hm
  refine t_callG _ rfl call55 rfl (cStringsSplit _ _ x1 (ByteArray.mk #[32]) l380 hcl381) ?_
  rintro _ b382 _ hle383 ⟨A384, c385, hs386, rfl, rfl, h387⟩
  refine t_in1 [] [_] hs386 R rfl ?_
  refine t_frz [_] hs386 R rfl ?_
  intro b388 hle389 hz390
  have h391 := OS.frz (l := l380) h387 hle389.cells hz390
  obtain ⟨⟨l392, x393⟩, hcl394, hm⟩ := bindS hm
  have hm := (unc2E hm)
  refine t_callG _ rfl call54 rfl (cLineNumbers _ _ (hG.le (hle383.trans hle389)) l380 A384 c385 h391 l392 x393 hcl394) ?_
  rintro _ b395 _ hle396 ⟨A397, c398, rfl, rfl, h399, h400⟩
  refine t_st rfl (st_move rfl) ?_
  refine t_st rfl (st_extract rfl rfl) ?_
  refine t_st rfl (st_extract rfl rfl) ?_
  refine t_st rfl (st_assign rfl) ?_
  refine t_st rfl (st_assign rfl) ?_
  refine t_nil ?_
  refine x_then_normal ?_
  refine c_seq ?_
  obtain ⟨x404, hj405, hk405⟩ := bindS hm
  refine c_join (fun b402 e' hp' => [(2, .pointer (some ⟨g379, 0, none⟩)), (4, .slice A397 (l392).length c398), (20, .bool (x404))] = e' ∧ (g379, Cl 36 [.int .i64 (0), .int .i64 (0), .int .i64 (0), .int .i64 (0), .int .i64 (0), .int .i64 (0), .int .i64 (0), .int .i64 (0)]) :: R = hp' ∧ b395.Le b402) ?_ ?_
  ·
    have hm := hj405
    refine c_region ?_
    refine t_st rfl (st_move rfl) ?_
    rcases Bool.eq_false_or_eq_true x393 with hc406 | hc406
    ·
      rw [if_pos hc406] at hm
      refine t_resp 14 rfl (v' := .bool true) (by rw [hc406] <;> rfl) ?_
      refine t_st rfl (st_not_t rfl) ?_
      refine t_st rfl (st_move rfl) ?_
      refine t_yes 16 rfl rfl rfl ?_
      refine t_st rfl (st_move rfl) ?_
      refine t_yes 16 rfl rfl rfl ?_
      refine t_st rfl (st_len rfl sl24) ?_
      refine t_yes 16 rfl rfl rfl ?_
      refine t_st rfl (st_neq rfl rfl) ?_
      refine t_st rfl (st_pick_f rfl rfl) ?_
      refine t_nil ?_
      obtain rfl := some1 hm
      exact x_join (e' := [(2, .pointer (some ⟨g379, 0, none⟩)), (4, .slice A397 (l392).length c398), (20, .bool (decide ((l392.length : Int) ≠ 8)))]) (hp' := (g379, Cl 36 [.int .i64 (0), .int .i64 (0), .int .i64 (0), .int .i64 (0), .int .i64 (0), .int .i64 (0), .int .i64 (0), .int .i64 (0)]) :: R) ⟨rfl, rfl, rfl, trivial⟩ (.cons_cons _ (.refl _)) ⟨rfl, rfl, (Base.Le.refl _)⟩
    ·
      rw [if_neg (fun hh => Bool.noConfusion (hh.symm.trans hc406))] at hm
      refine t_resp 14 rfl (v' := .bool false) (by rw [hc406] <;> rfl) ?_
      refine t_st rfl (st_not_f rfl) ?_
      refine t_st rfl (st_move rfl) ?_
      refine t_no 16 rfl rfl rfl rfl rfl ?_
      refine t_no 16 rfl rfl rfl rfl rfl ?_
      refine t_no 16 rfl rfl rfl rfl rfl ?_
      refine t_st rfl (st_pick_t rfl rfl) ?_
      refine t_nil ?_
      obtain rfl := some1 hm
      exact x_join (e' := [(2, .pointer (some ⟨g379, 0, none⟩)), (4, .slice A397 (l392).length c398), (20, .bool (true))]) (hp' := (g379, Cl 36 [.int .i64 (0), .int .i64 (0), .int .i64 (0), .int .i64 (0), .int .i64 (0), .int .i64 (0), .int .i64 (0), .int .i64 (0)]) :: R) ⟨rfl, rfl, rfl, trivial⟩ (.cons_cons _ (.refl _)) ⟨rfl, rfl, (Base.Le.refl _)⟩
  ·
    rintro b402 _ _ ⟨rfl, rfl, hle403⟩
    have hm := hk405
    refine c_cond _ rfl (fun hc407 => ?_) (fun hc407 => ?_)
    ·
      rw [if_pos hc407] at hm
      refine c_seq ?_
      refine c_region ?_
      refine t_st rfl (st_build (v := .agg #[.int .i64 (0), .int .i64 (0), .int .i64 (0), .int .i64 (0), .int .i64 (0), .int .i64 (0), .int .i64 (0), .int .i64 (0)]) [] rfl (fun _ => by kernel_rfl)) ?_
      refine t_do rfl (u_storeN (vs := [_, _, _, _, _, _, _, _]) 0 8 rfl rfl rfl siz36 rfl (by intro u hu; simp only [List.mem_cons, List.not_mem_nil, or_false] at hu; rcases hu with rfl | rfl | rfl | rfl | rfl | rfl | rfl | rfl <;> rfl) rfl (by simp)) ?_
      rintro _ _ rfl
      refine t_st rfl (st_assign rfl) ?_
      refine t_nil ?_
      refine x_then_normal ?_
      refine c_ret ?_
      refine x_then_ret ?_
      obtain ⟨rfl, rfl, rfl, rfl, rfl, rfl, rfl, rfl, rfl⟩ := some9 hm
      exact retM (rs := [.cell 2 36, .tmp 3]) [.agg #[.int .i64 (0), .int .i64 (0), .int .i64 (0), .int .i64 (0), .int .i64 (0), .int .i64 (0), .int .i64 (0), .int .i64 (0)], .int .i64 (10)] (hle383.trans (hle389.trans (hle396.trans hle403))) (by decide) rfl ⟨⟨_, rfl, fun w ho => cell_agg (vs := [_, _, _, _, _, _, _, _]) 0 8 agg36 rfl rfl rfl w ho⟩, ⟨rfl, trivial⟩⟩ rfl (hp' := R) (.cons _ (.refl _)) ⟨rfl, rfl⟩
    ·
      rw [if_neg (fun hh => Bool.noConfusion (hh.symm.trans hc407))] at hm
      refine c_skip ?_
      refine x_then_normal ?_
      obtain ⟨⟨x573, x574, x575, x576, x577, x578, x579, x580⟩, hj581, hk581⟩ := bindS hm
      refine c_join (fun b570 e' hp' => ∃ (g572 : Nat), [(2, .pointer (some ⟨g379, 0, none⟩)), (6, .pointer (some ⟨g572, 0, none⟩))] = e' ∧ (g379, Cl 36 [.int .i64 (0), .int .i64 (0), .int .i64 (0), .int .i64 (0), .int .i64 (0), .int .i64 (0), .int .i64 (0), .int .i64 (0)]) :: (g572, Cl 36 [.int .i64 (x573), .int .i64 (x574), .int .i64 (x575), .int .i64 (x576), .int .i64 (x577), .int .i64 (x578), .int .i64 (x579), .int .i64 (x580)]) :: R = hp' ∧ b402.Le b570) ?_ ?_
      ·
        have hm := hj581
        obtain ⟨x663, h664, hm⟩ := bindS hm
        obtain ⟨x673, h674, hm⟩ := bindS hm
        obtain ⟨x683, h684, hm⟩ := bindS hm
        obtain ⟨x693, h694, hm⟩ := bindS hm
        obtain ⟨x703, h704, hm⟩ := bindS hm
        obtain ⟨x713, h714, hm⟩ := bindS hm
        obtain ⟨x723, h724, hm⟩ := bindS hm
        obtain ⟨x733, h734, hm⟩ := bindS hm
        refine D_drawS ((g379, Cl 36 [.int .i64 (0), .int .i64 (0), .int .i64 (0), .int .i64 (0), .int .i64 (0), .int .i64 (0), .int .i64 (0), .int .i64 (0)]) :: R) mixed ?_
        refine D_st (Base.Le.refl _) 0 rfl (by kernel_rfl) (by kernel_rfl) (by kernel_rfl) rfl (st_move rfl) (.cons_cons _ (.refl _)) ?_
        obtain ⟨j665, hj666, hx667⟩ := idx_some h664
        obtain ⟨cs668, hr669, hcs670, hA671, hlt672⟩ := FZ.get (sz := 1) rfl (by decide) (h399.le hle403) hx667
        obtain rfl := hr669
        refine D_st (Base.Le.refl _) 1 rfl (by kernel_rfl) (by kernel_rfl) (by kernel_rfl) rfl (st_index_old j665 rfl rfl hj666 hlt672 hA671 sl24) (.cons_cons _ (.refl _)) ?_
        refine D_st (Base.Le.refl _) 2 rfl (by kernel_rfl) (by kernel_rfl) (by kernel_rfl) rfl (st_load_old rfl one3 (hcs670 0 _ rfl)) (.cons_cons _ (.refl _)) ?_
        refine D_st (Base.Le.refl _) 3 rfl (by kernel_rfl) (by kernel_rfl) (by kernel_rfl) rfl (st_move rfl) (.cons_cons _ (.refl _)) ?_
        obtain ⟨j675, hj676, hx677⟩ := idx_some h674
        obtain ⟨cs678, hr679, hcs680, hA681, hlt682⟩ := FZ.get (sz := 1) rfl (by decide) (h399.le hle403) hx677
        obtain rfl := hr679
        refine D_st (Base.Le.refl _) 4 rfl (by kernel_rfl) (by kernel_rfl) (by kernel_rfl) rfl (st_index_old j675 rfl rfl hj676 hlt682 hA681 sl24) (.cons_cons _ (.refl _)) ?_
        refine D_st (Base.Le.refl _) 5 rfl (by kernel_rfl) (by kernel_rfl) (by kernel_rfl) rfl (st_load_old rfl one3 (hcs680 0 _ rfl)) (.cons_cons _ (.refl _)) ?_
        refine D_st (Base.Le.refl _) 6 rfl (by kernel_rfl) (by kernel_rfl) (by kernel_rfl) rfl (st_move rfl) (.cons_cons _ (.refl _)) ?_
        obtain ⟨j685, hj686, hx687⟩ := idx_some h684
        obtain ⟨cs688, hr689, hcs690, hA691, hlt692⟩ := FZ.get (sz := 1) rfl (by decide) (h399.le hle403) hx687
        obtain rfl := hr689
        refine D_st (Base.Le.refl _) 7 rfl (by kernel_rfl) (by kernel_rfl) (by kernel_rfl) rfl (st_index_old j685 rfl rfl hj686 hlt692 hA691 sl24) (.cons_cons _ (.refl _)) ?_
        refine D_st (Base.Le.refl _) 8 rfl (by kernel_rfl) (by kernel_rfl) (by kernel_rfl) rfl (st_load_old rfl one3 (hcs690 0 _ rfl)) (.cons_cons _ (.refl _)) ?_
        refine D_st (Base.Le.refl _) 9 rfl (by kernel_rfl) (by kernel_rfl) (by kernel_rfl) rfl (st_move rfl) (.cons_cons _ (.refl _)) ?_
        obtain ⟨j695, hj696, hx697⟩ := idx_some h694
        obtain ⟨cs698, hr699, hcs700, hA701, hlt702⟩ := FZ.get (sz := 1) rfl (by decide) (h399.le hle403) hx697
        obtain rfl := hr699
        refine D_st (Base.Le.refl _) 10 rfl (by kernel_rfl) (by kernel_rfl) (by kernel_rfl) rfl (st_index_old j695 rfl rfl hj696 hlt702 hA701 sl24) (.cons_cons _ (.refl _)) ?_
        refine D_st (Base.Le.refl _) 11 rfl (by kernel_rfl) (by kernel_rfl) (by kernel_rfl) rfl (st_load_old rfl one3 (hcs700 0 _ rfl)) (.cons_cons _ (.refl _)) ?_
        refine D_st (Base.Le.refl _) 12 rfl (by kernel_rfl) (by kernel_rfl) (by kernel_rfl) rfl (st_move rfl) (.cons_cons _ (.refl _)) ?_
        obtain ⟨j705, hj706, hx707⟩ := idx_some h704
        obtain ⟨cs708, hr709, hcs710, hA711, hlt712⟩ := FZ.get (sz := 1) rfl (by decide) (h399.le hle403) hx707
        obtain rfl := hr709
        refine D_st (Base.Le.refl _) 13 rfl (by kernel_rfl) (by kernel_rfl) (by kernel_rfl) rfl (st_index_old j705 rfl rfl hj706 hlt712 hA711 sl24) (.cons_cons _ (.refl _)) ?_
        refine D_st (Base.Le.refl _) 14 rfl (by kernel_rfl) (by kernel_rfl) (by kernel_rfl) rfl (st_load_old rfl one3 (hcs710 0 _ rfl)) (.cons_cons _ (.refl _)) ?_
        refine D_st (Base.Le.refl _) 15 rfl (by kernel_rfl) (by kernel_rfl) (by kernel_rfl) rfl (st_move rfl) (.cons_cons _ (.refl _)) ?_
        obtain ⟨j715, hj716, hx717⟩ := idx_some h714
        obtain ⟨cs718, hr719, hcs720, hA721, hlt722⟩ := FZ.get (sz := 1) rfl (by decide) (h399.le hle403) hx717
        obtain rfl := hr719
        refine D_st (Base.Le.refl _) 16 rfl (by kernel_rfl) (by kernel_rfl) (by kernel_rfl) rfl (st_index_old j715 rfl rfl hj716 hlt722 hA721 sl24) (.cons_cons _ (.refl _)) ?_
        refine D_st (Base.Le.refl _) 17 rfl (by kernel_rfl) (by kernel_rfl) (by kernel_rfl) rfl (st_load_old rfl one3 (hcs720 0 _ rfl)) (.cons_cons _ (.refl _)) ?_
        refine D_st (Base.Le.refl _) 18 rfl (by kernel_rfl) (by kernel_rfl) (by kernel_rfl) rfl (st_move rfl) (.cons_cons _ (.refl _)) ?_
        obtain ⟨j725, hj726, hx727⟩ := idx_some h724
        obtain ⟨cs728, hr729, hcs730, hA731, hlt732⟩ := FZ.get (sz := 1) rfl (by decide) (h399.le hle403) hx727
        obtain rfl := hr729
        refine D_st (Base.Le.refl _) 19 rfl (by kernel_rfl) (by kernel_rfl) (by kernel_rfl) rfl (st_index_old j725 rfl rfl hj726 hlt732 hA731 sl24) (.cons_cons _ (.refl _)) ?_
        refine D_st (Base.Le.refl _) 20 rfl (by kernel_rfl) (by kernel_rfl) (by kernel_rfl) rfl (st_load_old rfl one3 (hcs730 0 _ rfl)) (.cons_cons _ (.refl _)) ?_
        refine D_st (Base.Le.refl _) 21 rfl (by kernel_rfl) (by kernel_rfl) (by kernel_rfl) rfl (st_move rfl) (.cons_cons _ (.refl _)) ?_
        obtain ⟨j735, hj736, hx737⟩ := idx_some h734
        obtain ⟨cs738, hr739, hcs740, hA741, hlt742⟩ := FZ.get (sz := 1) rfl (by decide) (h399.le hle403) hx737
        obtain rfl := hr739
        refine D_st (Base.Le.refl _) 22 rfl (by kernel_rfl) (by kernel_rfl) (by kernel_rfl) rfl (st_index_old j735 rfl rfl hj736 hlt742 hA741 sl24) (.cons_cons _ (.refl _)) ?_
        refine D_st (Base.Le.refl _) 23 rfl (by kernel_rfl) (by kernel_rfl) (by kernel_rfl) rfl (st_load_old rfl one3 (hcs740 0 _ rfl)) (.cons_cons _ (.refl _)) ?_
        refine D_st (Base.Le.refl _) 24 rfl (by kernel_rfl) (by kernel_rfl) (by kernel_rfl) rfl (st_build (v := .agg #[.int .i64 (x663), .int .i64 (x673), .int .i64 (x683), .int .i64 (x693), .int .i64 (x703), .int .i64 (x713), .int .i64 (x723), .int .i64 (x733)]) [(0, .int .i64 (x663)), (1, .int .i64 (x673)), (2, .int .i64 (x683)), (3, .int .i64 (x693)), (4, .int .i64 (x703)), (5, .int .i64 (x713)), (6, .int .i64 (x723)), (7, .int .i64 (x733))] rfl (fun _ => by kernel_rfl)) (.cons_cons _ (.refl _)) ?_
        refine D_all [25] (by kernel_rfl) rfl ?_
        refine R_do (Base.Le.refl _) rfl rfl (u_alloc [.int .i64 0, .int .i64 0, .int .i64 0, .int .i64 0, .int .i64 0, .int .i64 0, .int .i64 0, .int .i64 0] zero36 rfl) ?_ ?_
        ·
          rintro _ _ ⟨g743, rfl, rfl⟩
          refine ⟨.inr (.cons _ (.cons_cons _ (.refl _))), ?_⟩
          refine D_all [26] (by kernel_rfl) rfl ?_
          refine R_do (Base.Le.refl _) rfl rfl (u_storeN (vs := [_, _, _, _, _, _, _, _]) 0 8 rfl rfl rfl siz36 rfl (by intro u hu; simp only [List.mem_cons, List.not_mem_nil, or_false] at hu; rcases hu with rfl | rfl | rfl | rfl | rfl | rfl | rfl | rfl <;> rfl) rfl (by simp)) ?_ ?_
          ·
            rintro _ _ rfl
            refine ⟨.inl (by kernel_rfl), ?_⟩
            refine D_done (by kernel_rfl) ?_
            obtain ⟨rfl, rfl, rfl, rfl, rfl, rfl, rfl, rfl⟩ := some8 hm
            refine x_pullb 1 rfl ?_
            exact x_join (e' := [(2, .pointer (some ⟨g379, 0, none⟩)), (6, .pointer (some ⟨g743, 0, none⟩))]) (hp' := (g379, Cl 36 [.int .i64 (0), .int .i64 (0), .int .i64 (0), .int .i64 (0), .int .i64 (0), .int .i64 (0), .int .i64 (0), .int .i64 (0)]) :: (g743, Cl 36 [.int .i64 (x663), .int .i64 (x673), .int .i64 (x683), .int .i64 (x693), .int .i64 (x703), .int .i64 (x713), .int .i64 (x723), .int .i64 (x733)]) :: R) ⟨rfl, rfl, trivial⟩ (.cons_cons _ (.cons_cons _ (.refl _))) ⟨g743, rfl, rfl, (Base.Le.refl _)⟩
          exact R_nil
        exact R_nil
      ·
        rintro b570 _ _ ⟨g572, rfl, rfl, hle571⟩
        have hm := (unc8E hk581)
        refine c_seq ?_
        refine c_seq ?_
        refine c_region ?_
        refine t_st rfl (st_loadD (vs := [_, _, _, _, _, _, _, _]) 1 8 rfl agg36 rfl rfl rfl) ?_
        obtain ⟨x744, hcl745, hm⟩ := bindS hm
        refine t_do rfl (u_callW0 _ call51 rfl (fun w ho => cGuardPacketCheck _ [] (⟨x573, x574, x575, x576, x577, x578, x579, x580⟩ : GuardPacket) x744 hcl745) (fun _ _ _ h => h.2.symm)) ?_
        rintro _ _ ⟨⟨_, rfl, _⟩, rfl⟩
        refine t_st rfl (st_assign rfl) ?_
        refine t_nil ?_
        refine x_then_normal ?_
        refine c_seq ?_
        refine c_region ?_
        refine t_st rfl (st_move rfl) ?_
        refine t_st rfl (st_neq rfl rfl) ?_
        refine t_nil ?_
        refine x_then_normal ?_
        refine c_cond _ rfl (fun hc746 => ?_) (fun hc746 => ?_)
        ·
          rw [if_pos (of_decide_eq_true hc746)] at hm
          refine c_seq ?_
          refine c_region ?_
          refine t_st rfl (st_build (v := .agg #[.int .i64 (0), .int .i64 (0), .int .i64 (0), .int .i64 (0), .int .i64 (0), .int .i64 (0), .int .i64 (0), .int .i64 (0)]) [] rfl (fun _ => by kernel_rfl)) ?_
          refine t_st rfl (st_move rfl) ?_
          refine t_do rfl (u_storeN (vs := [_, _, _, _, _, _, _, _]) 0 8 rfl rfl rfl siz36 rfl (by intro u hu; simp only [List.mem_cons, List.not_mem_nil, or_false] at hu; rcases hu with rfl | rfl | rfl | rfl | rfl | rfl | rfl | rfl <;> rfl) rfl (by simp)) ?_
          rintro _ _ rfl
          refine t_st rfl (st_assign rfl) ?_
          refine t_nil ?_
          refine x_then_normal ?_
          refine c_ret ?_
          refine x_then_ret ?_
          obtain ⟨rfl, rfl, rfl, rfl, rfl, rfl, rfl, rfl, rfl⟩ := some9 hm
          exact retM (rs := [.cell 2 36, .tmp 3]) [.agg #[.int .i64 (0), .int .i64 (0), .int .i64 (0), .int .i64 (0), .int .i64 (0), .int .i64 (0), .int .i64 (0), .int .i64 (0)], .int .i64 (x744)] (hle383.trans (hle389.trans (hle396.trans (hle403.trans hle571)))) (by decide) rfl ⟨⟨_, rfl, fun w ho => cell_agg (vs := [_, _, _, _, _, _, _, _]) 0 8 agg36 rfl rfl rfl w ho⟩, ⟨rfl, trivial⟩⟩ rfl (hp' := R) (.cons _ (.cons _ (.refl _))) ⟨rfl, rfl⟩
        ·
          rw [if_neg (of_decide_eq_false hc746)] at hm
          refine c_skip ?_
          refine x_then_normal ?_
          refine c_seq ?_
          refine c_region ?_
          refine t_st rfl (st_loadD (vs := [_, _, _, _, _, _, _, _]) 1 8 rfl agg36 rfl rfl rfl) ?_
          refine t_do rfl (u_storeN (vs := [_, _, _, _, _, _, _, _]) 0 8 rfl rfl rfl siz36 rfl (by intro u hu; simp only [List.mem_cons, List.not_mem_nil, or_false] at hu; rcases hu with rfl | rfl | rfl | rfl | rfl | rfl | rfl | rfl <;> rfl) rfl (by simp)) ?_
          rintro _ _ rfl
          refine t_st rfl (st_assign rfl) ?_
          refine t_nil ?_
          refine x_then_normal ?_
          refine c_ret ?_
          obtain ⟨rfl, rfl, rfl, rfl, rfl, rfl, rfl, rfl, rfl⟩ := some9 hm
          exact retM (rs := [.cell 2 36, .tmp 3]) [.agg #[.int .i64 (x573), .int .i64 (x574), .int .i64 (x575), .int .i64 (x576), .int .i64 (x577), .int .i64 (x578), .int .i64 (x579), .int .i64 (x580)], .int .i64 (0)] (hle383.trans (hle389.trans (hle396.trans (hle403.trans hle571)))) (by decide) rfl ⟨⟨_, rfl, fun w ho => cell_agg (vs := [_, _, _, _, _, _, _, _]) 0 8 agg36 rfl rfl rfl w ho⟩, ⟨rfl, trivial⟩⟩ rfl (hp' := R) (.cons _ (.cons _ (.refl _))) ⟨rfl, rfl⟩

set_option maxRecDepth 20000 in
theorem cFishkeep1AwakeGuard (b : Base) (R : Hp) (hG : GLo 2 3 b.w) (x14 : Bool) (hm : mFishkeep1AwakeGuard = some x14) :
    CallsG Tryd.prog 14 [] b (R) (fun v b' hp' => .bool (x14) = v ∧ R = hp') := by
  refine fn_enterG 9 Tryd.func14 rfl Tryd.ntmps14 rfl ?_
  unfold mFishkeep1AwakeGuard at hm
  refine c_seq ?_
  refine c_region ?_
  refine t_st rfl (st_assign rfl) ?_
  refine t_nil ?_
  refine x_then_normal ?_
  refine c_seq ?_
  refine c_region ?_
  obtain ⟨⟨x15, x16, x17, x18, x19, x20, x21, x22, x23⟩, hcl24, hm⟩ := bindS hm
  have hm := (unc9E hm)
  refine t_callG _ rfl call20 rfl (cGuardUnpack _ _ (hG.le (Base.Le.refl _)) (ByteArray.mk #[]) x15 x16 x17 x18 x19 x20 x21 x22 x23 hcl24) ?_
  rintro _ b25 _ hle26 ⟨rfl, rfl⟩
  refine t_st rfl (st_move rfl) ?_
  refine t_st rfl (st_extract rfl rfl) ?_
  refine t_st rfl (st_extract rfl rfl) ?_
  refine t_do rfl (u_alloc [.int .i64 0, .int .i64 0, .int .i64 0, .int .i64 0, .int .i64 0, .int .i64 0, .int .i64 0, .int .i64 0] zero36 rfl) ?_
  rintro _ _ ⟨g27, rfl, rfl⟩
  refine t_do rfl (u_storeN (vs := [_, _, _, _, _, _, _, _]) 0 8 rfl rfl rfl siz36 rfl (by intro u hu; simp only [List.mem_cons, List.not_mem_nil, or_false] at hu; rcases hu with rfl | rfl | rfl | rfl | rfl | rfl | rfl | rfl <;> rfl) rfl (by simp)) ?_
  rintro _ _ rfl
  refine t_st rfl (st_assign rfl) ?_
  refine t_nil ?_
  refine x_then_normal ?_
  refine c_seq ?_
  refine c_region ?_
  refine t_st rfl (st_move rfl) ?_
  refine t_st rfl (st_neq rfl rfl) ?_
  refine t_st rfl (st_assign rfl) ?_
  refine t_nil ?_
  refine x_then_normal ?_
  refine c_ret ?_
  obtain rfl := some1 hm
  exact retM (rs := [.tmp 0]) [.bool (decide (x23 ≠ 0))] hle26 (by decide) rfl ⟨rfl, trivial⟩ rfl (hp' := R) (.cons _ (.refl _)) ⟨rfl, rfl⟩

set_option maxRecDepth 20000 in
theorem cRunSecond (b : Base) (R : Hp) (s1 : ApiStock) (l5 : (List ApiPiece)) (s6 : ApiState) (x7 : Int) (A2 : Option Addr) (c3 : Nat) (h4 : FZ rApiPiece b.w A2 c3 l5) (x176 : Int) (x177 : Int) (x178 : Int) (x179 : Int) (hm : mRunSecond s1 l5 s6 x7 = some (x176, x177, x178, x179)) :
    CallsG Tryd.prog 40 [.agg #[.string (s1.Name), .int .i64 (s1.Length), .int .i64 (s1.Mass), .int .i64 (s1.Start), .int .i64 (s1.Power), .int .i64 (s1.Roll), .int .i64 (s1.Drag), .int .i64 (s1.Brake), .int .i64 (s1.Top), .int .i64 (s1.Seats)], .slice A2 (l5).length c3, .agg #[.int .i64 (s6.At), .int .i64 (s6.Speed), .int .i64 (s6.Work)], .int .i64 (x7)] b (R) (fun v b' hp' => .tuple #[.agg #[.int .i64 (x176), .int .i64 (x177), .int .i64 (x178)], .int .i64 (x179)] = v ∧ R = hp') := by
  refine fn_enterG 28 Tryd.func40 rfl Tryd.ntmps40 rfl ?_
  unfold mRunSecond at hm
  refine c_seq ?_
  refine c_region ?_
  refine t_do rfl (u_box _ rfl rfl) ?_
  rintro _ _ ⟨g180, rfl, rfl⟩
  refine t_do rfl (u_box _ rfl rfl) ?_
  rintro _ _ ⟨g181, rfl, rfl⟩
  refine t_do rfl (u_alloc [.int .i64 0, .int .i64 0, .int .i64 0] zero82 rfl) ?_
  rintro _ _ ⟨g182, rfl, rfl⟩
  refine t_st rfl (st_assign rfl) ?_
  refine t_nil ?_
  refine x_then_normal ?_
  refine c_seq ?_
  refine c_seq ?_
  refine c_region ?_
  refine t_st rfl (st_loadD (vs := [_, _, _, _, _, _, _, _, _, _]) 2 10 rfl agg43 rfl rfl rfl) ?_
  refine t_st rfl (st_move rfl) ?_
  refine t_st rfl (st_loadD (vs := [_, _, _]) 1 3 rfl agg82 rfl rfl rfl) ?_
  refine t_st rfl (st_move rfl) ?_
  obtain ⟨x183, hcl184, hm⟩ := bindS hm
  refine t_do rfl (u_callW0 _ call69 rfl (fun w ho => cRunCheck_2 _ [] s1 l5 s6 x7 A2 c3 (h4.old ho) x183 hcl184) (fun _ _ _ h => h.2.symm)) ?_
  rintro _ _ ⟨⟨_, rfl, _⟩, rfl⟩
  refine t_st rfl (st_assign rfl) ?_
  refine t_nil ?_
  refine x_then_normal ?_
  refine c_seq ?_
  refine c_region ?_
  refine t_st rfl (st_move rfl) ?_
  refine t_st rfl (st_neq rfl rfl) ?_
  refine t_nil ?_
  refine x_then_normal ?_
  refine c_cond _ rfl (fun hc185 => ?_) (fun hc185 => ?_)
  ·
    rw [if_pos (of_decide_eq_true hc185)] at hm
    refine c_seq ?_
    refine c_region ?_
    refine t_st rfl (st_build (v := .agg #[.int .i64 (0), .int .i64 (0), .int .i64 (0)]) [] rfl (fun _ => by kernel_rfl)) ?_
    refine t_st rfl (st_move rfl) ?_
    refine t_do rfl (u_storeN (vs := [_, _, _]) 0 3 rfl rfl rfl siz82 rfl (by intro u hu; simp only [List.mem_cons, List.not_mem_nil, or_false] at hu; rcases hu with rfl | rfl | rfl <;> rfl) rfl (by simp)) ?_
    rintro _ _ rfl
    refine t_st rfl (st_assign rfl) ?_
    refine t_nil ?_
    refine x_then_normal ?_
    refine c_ret ?_
    refine x_then_ret ?_
    obtain ⟨rfl, rfl, rfl, rfl⟩ := some4 hm
    exact retM (rs := [.cell 8 82, .tmp 9]) [.agg #[.int .i64 (0), .int .i64 (0), .int .i64 (0)], .int .i64 (x183)] (Base.Le.refl _) (by decide) rfl ⟨⟨_, rfl, fun w ho => cell_agg (vs := [_, _, _]) 0 3 agg82 rfl rfl rfl w ho⟩, ⟨rfl, trivial⟩⟩ rfl (hp' := R) (.cons _ (.cons _ (.cons _ (.refl _)))) ⟨rfl, rfl⟩
  ·
    rw [if_neg (of_decide_eq_false hc185)] at hm
    refine c_skip ?_
    refine x_then_normal ?_
    obtain ⟨⟨x266, x267, x268⟩, hj269, hk269⟩ := bindS hm
    refine c_join (fun b264 e' hp' => [(8, .pointer (some ⟨g182, 0, none⟩)), (9, .int .i64 (0))] = e' ∧ (g182, Cl 82 [.int .i64 (x266), .int .i64 (x267), .int .i64 (x268)]) :: R = hp' ∧ b.Le b264) ?_ ?_
    ·
      have hm := hj269
      obtain ⟨⟨x309, x310, x311, x312, x313, x314, x315, x316, x317, x318, l319, x320, x321, l322, l323⟩, hcl324, hm⟩ := bindS hm
      have hm := (unc15E hm)
      obtain ⟨⟨x338, x339, x340, l341⟩, hcl342, hm⟩ := bindS hm
      have hm := (unc4E hm)
      refine D_drawS ((g181, Cl 82 [.int .i64 (s6.At), .int .i64 (s6.Speed), .int .i64 (s6.Work)]) :: (g180, Cl 43 [.string (s1.Name), .int .i64 (s1.Length), .int .i64 (s1.Mass), .int .i64 (s1.Start), .int .i64 (s1.Power), .int .i64 (s1.Roll), .int .i64 (s1.Drag), .int .i64 (s1.Brake), .int .i64 (s1.Top), .int .i64 (s1.Seats)]) :: R) mixed ?_
      refine D_st (Base.Le.refl _) 0 rfl (by kernel_rfl) (by kernel_rfl) (by kernel_rfl) rfl (st_loadD (vs := [_, _, _, _, _, _, _, _, _, _]) 1 10 rfl agg43 rfl rfl rfl) (.cons _ (.cons_cons _ (.cons_cons _ (.refl _)))) ?_
      refine D_st (Base.Le.refl _) 1 rfl (by kernel_rfl) (by kernel_rfl) (by kernel_rfl) rfl (st_move rfl) (.cons _ (.cons_cons _ (.cons_cons _ (.refl _)))) ?_
      refine D_st (Base.Le.refl _) 2 rfl (by kernel_rfl) (by kernel_rfl) (by kernel_rfl) rfl (st_move rfl) (.cons _ (.cons_cons _ (.cons_cons _ (.refl _)))) ?_
      refine D_st (Base.Le.refl _) 3 rfl (by kernel_rfl) (by kernel_rfl) (by kernel_rfl) rfl (st_field rfl fld43_8) (.cons _ (.cons_cons _ (.cons_cons _ (.refl _)))) ?_
      refine D_st (Base.Le.refl _) 4 rfl (by kernel_rfl) (by kernel_rfl) (by kernel_rfl) rfl (st_load 1 rfl one3 rfl rfl) (.cons _ (.cons_cons _ (.cons_cons _ (.refl _)))) ?_
      refine D_st (Base.Le.refl _) 6 rfl (by kernel_rfl) (by kernel_rfl) (by kernel_rfl) rfl (st_loadD (vs := [_, _, _]) 0 3 rfl agg82 rfl rfl rfl) (.cons _ (.cons_cons _ (.cons_cons _ (.refl _)))) ?_
      refine D_all [5] (by kernel_rfl) rfl ?_
      refine R_callGl (Base.Le.refl _) rfl rfl _ call70 rfl (cRunNewRunner _ _ s1 l5 x7 s1.Top A2 c3 h4 x309 x310 x311 x312 x313 x314 x315 x316 x317 x318 l319 x320 x321 l322 l323 hcl324) ?_ ?_
      ·
        rintro _ b325 _ hle326 ⟨g327, A328, c329, A330, c331, hs332, g333, hs334, rfl, rfl, h335, h336, h337⟩
        refine ⟨.inr (.cons _ (sub_skip hs332 (sub_skip hs334 (.cons _ (.cons_cons _ (.cons_cons _ (.refl _))))))), ?_⟩
        refine d_in2 [_] [_, _, _] hs332 hs334 R rfl ?_
        refine d_front2 [_, _, _, _] hs332 hs334 R rfl ?_
        refine d_front2 [_, _, _, _] hs334 hs332 R rfl ?_
        refine d_out2 [_] [_, _, _] hs332 hs334 R rfl ?_
        refine D_all [7] (by kernel_rfl) rfl ?_
        refine R_callGl hle326 rfl rfl _ call71 rfl (cRunRunnerSecond _ _ s6 x309 x310 x311 x312 x313 x314 x315 x316 x317 x318 l319 x320 x321 l322 l323 g327 A328 c329 A330 c331 hs332 g333 hs334 h335 h336 h337 x338 x339 x340 l341 hcl342) ?_ ?_
        ·
          rintro _ b343 _ hle344 ⟨g345, hs346, rfl, rfl, h347⟩
          refine ⟨.inr (.cons _ (sub_skip hs332 (sub_skip hs346 (.cons _ (.cons_cons _ (.cons_cons _ (.refl _))))))), ?_⟩
          refine d_in2 [_] [_, _, _] hs332 hs346 R rfl ?_
          refine D_all [8] (by kernel_rfl) rfl ?_
          refine R_do (hle326.trans hle344) rfl rfl (u_storeN (vs := [_, _, _]) 1 3 rfl rfl rfl siz82 rfl (by intro u hu; simp only [List.mem_cons, List.not_mem_nil, or_false] at hu; rcases hu with rfl | rfl | rfl <;> rfl) rfl (by simp)) ?_ ?_
          ·
            rintro _ _ rfl
            refine ⟨.inr (.cons _ (.cons _ (.cons_cons _ (.cons_cons _ (sub_skip hs332 (sub_skip hs346 (.refl _))))))), ?_⟩
            refine D_st (hle326.trans hle344) 9 rfl (by kernel_rfl) (by kernel_rfl) (by kernel_rfl) rfl (st_assign rfl) (.cons _ (.cons _ (.cons_cons _ (.cons_cons _ (sub_skip hs332 (sub_skip hs346 (.refl _))))))) ?_
            refine D_done (by kernel_rfl) ?_
            obtain ⟨rfl, rfl, rfl⟩ := some3 hm
            refine x_pullb 1 rfl ?_
            exact x_join (e' := [(8, .pointer (some ⟨g182, 0, none⟩)), (9, .int .i64 (0))]) (hp' := (g182, Cl 82 [.int .i64 (x338), .int .i64 (x339), .int .i64 (x340)]) :: R) ⟨rfl, rfl, trivial⟩ (.cons_cons _ (.cons _ (.cons _ (.cons _ (sub_skip hs332 (sub_skip hs346 (.refl _))))))) ⟨rfl, rfl, (hle326.trans hle344)⟩
          exact R_nil
        exact R_nil
      exact R_nil
    ·
      rintro b264 _ _ ⟨rfl, rfl, hle265⟩
      have hm := (unc3E hk269)
      refine c_ret ?_
      obtain ⟨rfl, rfl, rfl, rfl⟩ := some4 hm
      exact retM (rs := [.cell 8 82, .tmp 9]) [.agg #[.int .i64 (x266), .int .i64 (x267), .int .i64 (x268)], .int .i64 (0)] hle265 (by decide) rfl ⟨⟨_, rfl, fun w ho => cell_agg (vs := [_, _, _]) 0 3 agg82 rfl rfl rfl w ho⟩, ⟨rfl, trivial⟩⟩ rfl (hp' := R) (.cons _ (.refl _)) ⟨rfl, rfl⟩

set_option maxRecDepth 20000 in
theorem cGuardRuleInto (b : Base) (R : Hp) (x6 : Int) (x7 : Int) (x8 : ByteArray) (x9 : Int) (x10 : Int) (x11 : Int) (x12 : Int) (x13 : Int) (x14 : Int) (x15 : Int) (x16 : Int) (x17 : Int) (l21 : (List ApiPiece)) (l22 : (List (Int × (List Int)))) (g5 : Nat) (A18 : Option Addr) (c19 : Nat) (g3 : Nat) (hs2 : Hp) (h20 : FZ rApiPiece b.w A18 c19 l21) (h4 : OM (RT.int .i64) (OT.list 3 (OT.fr (RT.int .i64))) false false b.w g3 l22 hs2) (x457 : Int) (l458 : (List (Int × (List Int)))) (hm : mGuardRuleInto x6 x7 x8 x9 x10 x11 x12 x13 x14 x15 x16 x17 l21 l22 = some (x457, l458)) :
    CallsG Tryd.prog 113 [.pointer (some ⟨g5, 0, none⟩), .int .i64 (x6), .int .i64 (x7)] b ((g5, Cl 174 [.string (x8), .int .i64 (x9), .int .i64 (x10), .int .i64 (x11), .int .i64 (x12), .int .i64 (x13), .int .i64 (x14), .int .i64 (x15), .int .i64 (x16), .int .i64 (x17), .slice A18 (l21).length c19, .map (some g3)]) :: (hs2 ++ R)) (fun v b' hp' => ∃ (hs455 : Hp), .int .i64 (x457) = v ∧ (g5, Cl 174 [.string (x8), .int .i64 (x9), .int .i64 (x10), .int .i64 (x11), .int .i64 (x12), .int .i64 (x13), .int .i64 (x14), .int .i64 (x15), .int .i64 (x16), .int .i64 (x17), .slice A18 (l21).length c19, .map (some g3)]) :: (hs455 ++ R) = hp' ∧ OM (RT.int .i64) (OT.list 3 (OT.fr (RT.int .i64))) false false b'.w g3 l458 hs455) := by
  refine fn_enterG 64 Tryd.func113 rfl Tryd.ntmps113 rfl ?_
  unfold mGuardRuleInto at hm
  refine c_seq ?_
  refine c_region ?_
  refine t_st rfl (st_assign rfl) ?_
  refine t_nil ?_
  refine x_then_normal ?_
  refine c_seq ?_
  refine c_seq ?_
  refine c_region ?_
  refine t_st rfl (st_move rfl) ?_
  refine t_st rfl (st_move rfl) ?_
  refine t_st rfl (st_leq rfl rfl) ?_
  refine t_nil ?_
  refine x_then_normal ?_
  refine c_cond _ rfl (fun hc459 => ?_) (fun hc459 => ?_)
  ·
    rw [if_pos (of_decide_eq_true hc459)] at hm
    refine c_seq ?_
    refine c_region ?_
    refine t_st rfl (st_assign rfl) ?_
    refine t_nil ?_
    refine x_then_normal ?_
    refine c_ret ?_
    refine x_then_ret ?_
    obtain ⟨rfl, rfl⟩ := some2 hm
    exact retM (rs := [.tmp 6]) [.int .i64 (0)] (Base.Le.refl _) (by decide) rfl ⟨rfl, trivial⟩ rfl (hp' := (g5, Cl 174 [.string (x8), .int .i64 (x9), .int .i64 (x10), .int .i64 (x11), .int .i64 (x12), .int .i64 (x13), .int .i64 (x14), .int .i64 (x15), .int .i64 (x16), .int .i64 (x17), .slice A18 (l21).length c19, .map (some g3)]) :: (hs2 ++ R)) (.cons_cons _ (sub_app hs2 (.refl _))) ⟨hs2, rfl, rfl, h4⟩
  ·
    rw [if_neg (of_decide_eq_false hc459)] at hm
    refine c_skip ?_
    refine x_then_normal ?_
    refine c_seq ?_
    refine c_region ?_
    refine t_st rfl (st_move rfl) ?_
    refine t_st rfl (st_nil rfl) ?_
    refine t_st rfl (st_field rfl fld174_2) ?_
    refine t_st rfl (st_load 0 rfl one168 rfl rfl) ?_
    refine t_st rfl (st_move rfl) ?_
    obtain ⟨A460, c461, hs462, hs463, h464, hpm465, h466, hr467⟩ := OM.take kok3 h4 (key := .int .i64 (x7)) (k := x7) rfl mapt168 zero24
    refine t_st rfl (st_mlook (ok := false) rfl rfl (fun w ho => hr467 _ w ho (.cons _ (List.sublist_append_left _ _)))) ?_
    refine t_prm [_] hs2 hs463 hs462 R rfl hpm465 ?_
    refine t_st rfl (st_assign rfl) ?_
    refine t_nil ?_
    refine x_then_normal ?_
    obtain ⟨l672, hj673, hk673⟩ := bindS hm
    refine c_join (fun b665 e' hp' => ∃ (A669 : Option Addr), ∃ (c670 : Nat), ∃ (hs668 : Hp), [(0, .pointer (some ⟨g5, 0, none⟩)), (1, .int .i64 (x6)), (2, .int .i64 (x7)), (7, .slice A669 (l672).length c670)] = e' ∧ (g5, Cl 174 [.string (x8), .int .i64 (x9), .int .i64 (x10), .int .i64 (x11), .int .i64 (x12), .int .i64 (x13), .int .i64 (x14), .int .i64 (x15), .int .i64 (x16), .int .i64 (x17), .slice A18 (l21).length c19, .map (some g3)]) :: (hs668 ++ (hs463 ++ R)) = hp' ∧ b.Le b665 ∧ OS 3 (OT.fr (RT.int .i64)) b665.w (.slice A669 l672.length c670) l672 hs668) ?_ ?_
    ·
      have hm := hj673
      refine c_seq ?_
      refine c_region ?_
      refine t_st rfl (st_move rfl) ?_
      refine t_st rfl (st_len rfl sl24) ?_
      refine t_st rfl (st_assign rfl) ?_
      refine t_nil ?_
      refine x_then_normal ?_
      refine c_block ?_
      refine c_front2 [_] hs462 hs463 R rfl ?_
      refine c_front2 [_] hs463 hs462 R rfl ?_
      refine c_loopM (unc2 fun x809 l810 => fun b802 e' hp' => ∃ (A806 : Option Addr), ∃ (c807 : Nat), ∃ (hs805 : Hp), [(0, .pointer (some ⟨g5, 0, none⟩)), (1, .int .i64 (x6)), (2, .int .i64 (x7)), (7, .slice A806 (l810).length c807), (8, .int .i64 (x809))] = e' ∧ (g5, Cl 174 [.string (x8), .int .i64 (x9), .int .i64 (x10), .int .i64 (x11), .int .i64 (x12), .int .i64 (x13), .int .i64 (x14), .int .i64 (x15), .int .i64 (x16), .int .i64 (x17), .slice A18 (l21).length c19, .map (some g3)]) :: (hs805 ++ (hs463 ++ R)) = hp' ∧ b.Le b802 ∧ OS 3 (OT.fr (RT.int .i64)) b802.w (.slice A806 l810.length c807) l810 hs805) hm (e' := [(0, .pointer (some ⟨g5, 0, none⟩)), (1, .int .i64 (x6)), (2, .int .i64 (x7)), (7, .slice A460 (mgetD l22 x7 []).length c461), (8, .int .i64 (((mgetD l22 x7 []).length : Int)))]) (hp' := (g5, Cl 174 [.string (x8), .int .i64 (x9), .int .i64 (x10), .int .i64 (x11), .int .i64 (x12), .int .i64 (x13), .int .i64 (x14), .int .i64 (x15), .int .i64 (x16), .int .i64 (x17), .slice A18 (l21).length c19, .map (some g3)]) :: (hs462 ++ (hs463 ++ R))) ⟨rfl, rfl, rfl, rfl, rfl, trivial⟩ (.cons_cons _ (sub_app hs462 (sub_app hs463 (.refl _)))) ⟨A460, c461, hs462, rfl, rfl, (Base.Le.refl _), h464⟩ ?_
      rintro ⟨x809, l810⟩ b802 _ _ oL674 ⟨A806, c807, hs805, rfl, rfl, hle803, h808⟩ hstepL674 houtL674
      unfold mGuardRuleInto_L674 at hstepL674
      have hm := (unc2E hstepL674)
      refine c_seq ?_
      refine c_seq ?_
      refine c_region ?_
      refine t_st rfl (st_move rfl) ?_
      refine t_st rfl (st_move rfl) ?_
      refine t_st rfl (st_leq rfl rfl) ?_
      refine t_nil ?_
      refine x_then_normal ?_
      refine c_cond _ rfl (fun hc811 => ?_) (fun hc811 => ?_)
      ·
        rw [if_pos (of_decide_eq_true hc811)] at hm
        refine c_skip ?_
        refine x_then_normal ?_
        refine c_seq ?_
        refine c_block ?_
        refine c_seq ?_
        refine c_region ?_
        refine t_st rfl (st_assign rfl) ?_
        refine t_nil ?_
        refine x_then_normal ?_
        obtain ⟨x838, hj839, hk839⟩ := bindS hm
        refine c_join (fun b836 e' hp' => [(0, .pointer (some ⟨g5, 0, none⟩)), (1, .int .i64 (x6)), (2, .int .i64 (x7)), (7, .slice A806 (l810).length c807), (8, .int .i64 (x809)), (9, .int .i64 (x838))] = e' ∧ (g5, Cl 174 [.string (x8), .int .i64 (x9), .int .i64 (x10), .int .i64 (x11), .int .i64 (x12), .int .i64 (x13), .int .i64 (x14), .int .i64 (x15), .int .i64 (x16), .int .i64 (x17), .slice A18 (l21).length c19, .map (some g3)]) :: (hs805 ++ (hs463 ++ R)) = hp' ∧ b802.Le b836) ?_ ?_
        ·
          have hm := hj839
          refine c_seq ?_
          refine c_region ?_
          refine t_st rfl (st_move rfl) ?_
          refine t_st rfl (st_move rfl) ?_
          refine t_st rfl (st_gtr rfl rfl) ?_
          refine t_nil ?_
          refine x_then_normal ?_
          refine c_cond _ rfl (fun hc840 => ?_) (fun hc840 => ?_)
          ·
            rw [if_pos (of_decide_eq_true hc840)] at hm
            refine c_seq ?_
            refine c_region ?_
            refine t_st rfl (st_move rfl) ?_
            refine t_st rfl (st_move rfl) ?_
            refine t_st rfl (st_move rfl) ?_
            refine t_st rfl (st_nil rfl) ?_
            refine t_st rfl (st_field rfl fld174_0) ?_
            refine t_st rfl (st_field rfl fld43_7) ?_
            refine t_st rfl (st_load 0 rfl one3 rfl rfl) ?_
            obtain ⟨_, h841, hm⟩ := bindS hm
            have h841 := (chk_some h841).2
            refine t_st rfl (st_sub rfl rfl h841) ?_
            obtain ⟨_, h842, hm⟩ := bindS hm
            have h842 := (chk_some h842).2
            refine t_st rfl (st_sub rfl rfl h842) ?_
            refine t_st rfl (st_max rfl rfl) ?_
            refine t_st rfl (st_assign rfl) ?_
            refine t_nil ?_
            refine x_then_normal ?_
            refine c_region ?_
            refine t_st rfl (st_move rfl) ?_
            refine t_st rfl (st_move rfl) ?_
            obtain ⟨_, h843, hm⟩ := bindS hm
            have h843 := (chk_some h843).2
            refine t_st rfl (st_add rfl rfl h843) ?_
            obtain ⟨_, h844, hm⟩ := bindS hm
            have h844 := (chk_some h844).2
            refine t_st rfl (st_add rfl rfl h844) ?_
            obtain ⟨_, h845, hm⟩ := bindS hm
            obtain ⟨_, h846, hm⟩ := bindS hm
            have h846 := (chk_some h846).2
            refine t_st rfl (st_quo rfl rfl (ne0_some h845) h846) ?_
            refine t_st rfl (st_move rfl) ?_
            refine t_st rfl (st_move rfl) ?_
            obtain ⟨x847, h848, hm⟩ := bindS hm
            obtain ⟨j849, hj850, hx851⟩ := idx_some h848
            obtain ⟨cs852, hs857, P858, P859, hq860, hr853, hcs854, hA855, hlt856, hb861, hho862⟩ := OS.get (sz := 1) rfl (by decide) h808 hx851
            obtain ⟨rfl, rfl⟩ := hr853
            refine t_st rfl (st_index_old j849 rfl rfl hj850 hlt856 hA855 sl24) ?_
            refine t_st rfl (st_load_rd rfl one3 (fun w ho => hcs854 w _ ho (.cons _ (List.sublist_append_left _ _)) 0 _ rfl)) ?_
            obtain ⟨_, h863, hm⟩ := bindS hm
            have h863 := (chk_some h863).2
            refine t_st rfl (st_add rfl rfl h863) ?_
            refine t_st rfl (st_assign rfl) ?_
            refine t_nil ?_
            obtain rfl := some1 hm
            refine x_front2 [_] hs805 hs463 R rfl ?_
            refine x_front2 [_] hs463 hs805 R rfl ?_
            exact x_join (e' := [(0, .pointer (some ⟨g5, 0, none⟩)), (1, .int .i64 (x6)), (2, .int .i64 (x7)), (7, .slice A806 (l810).length c807), (8, .int .i64 (x809)), (9, .int .i64 ((Int.tdiv ((x809 + (max x7 (x809 - (x15 - 40)))) + 1) 2) + x847))]) (hp' := (g5, Cl 174 [.string (x8), .int .i64 (x9), .int .i64 (x10), .int .i64 (x11), .int .i64 (x12), .int .i64 (x13), .int .i64 (x14), .int .i64 (x15), .int .i64 (x16), .int .i64 (x17), .slice A18 (l21).length c19, .map (some g3)]) :: (hs805 ++ (hs463 ++ R))) ⟨rfl, rfl, rfl, rfl, rfl, rfl, trivial⟩ (.cons_cons _ (sub_app hs805 (sub_app hs463 (.refl _)))) ⟨rfl, rfl, (Base.Le.refl _)⟩
          ·
            rw [if_neg (of_decide_eq_false hc840)] at hm
            refine c_skip ?_
            obtain rfl := some1 hm
            refine x_front2 [_] hs805 hs463 R rfl ?_
            refine x_front2 [_] hs463 hs805 R rfl ?_
            exact x_join (e' := [(0, .pointer (some ⟨g5, 0, none⟩)), (1, .int .i64 (x6)), (2, .int .i64 (x7)), (7, .slice A806 (l810).length c807), (8, .int .i64 (x809)), (9, .int .i64 (0))]) (hp' := (g5, Cl 174 [.string (x8), .int .i64 (x9), .int .i64 (x10), .int .i64 (x11), .int .i64 (x12), .int .i64 (x13), .int .i64 (x14), .int .i64 (x15), .int .i64 (x16), .int .i64 (x17), .slice A18 (l21).length c19, .map (some g3)]) :: (hs805 ++ (hs463 ++ R))) ⟨rfl, rfl, rfl, rfl, rfl, rfl, trivial⟩ (.cons_cons _ (sub_app hs805 (sub_app hs463 (.refl _)))) ⟨rfl, rfl, (Base.Le.refl _)⟩
        ·
          rintro b836 _ _ ⟨rfl, rfl, hle837⟩
          have hm := hk839
          refine c_region ?_
          refine t_st rfl (st_move rfl) ?_
          refine t_st rfl (st_move rfl) ?_
          refine t_do rfl (u_bslice (el := 3) [(0, .int .i64 (x838))] [.int .i64 (x838)] rfl (fun _ => by kernel_rfl)) ?_
          rintro _ _ ⟨g864, rfl, rfl⟩
          obtain ⟨_, h865, hm⟩ := bindS hm
          have h865 := room_some h865
          refine t_do rfl (u_appOS (r := (RT.int .i64)) (l := l810) [_, _] (hs463 ++ R) [[.int .i64 (x838)]] [x838] rfl (by decide) sl24 inf3 rfl rfl rfl rfl (h808.le hle837) rfl (fun w ho => Rd.own (i := 0) ho rfl) ⟨rfl, trivial⟩ h865) ?_
          rintro _ _ ⟨hs866, rfl, h867⟩
          obtain ⟨A868, c869, rfl, _⟩ := h867.form
          refine t_st rfl (st_assign rfl) ?_
          refine t_nil ?_
          refine x_block_normal ?_
          refine x_then_normal ?_
          refine c_region ?_
          refine t_st rfl (st_move rfl) ?_
          obtain ⟨_, h870, hm⟩ := bindS hm
          have h870 := (chk_some h870).2
          refine t_st rfl (st_add rfl rfl h870) ?_
          refine t_st rfl (st_assign rfl) ?_
          refine t_nil ?_
          refine x_pullb 1 rfl ?_
          refine x_front2 [_, _] hs866 hs463 R rfl ?_
          refine x_front2 [_, _] hs463 hs866 R rfl ?_
          exact x_againM (x809 + 1, l810 ++ [x838]) (Option.some.inj hm).symm (e' := [(0, .pointer (some ⟨g5, 0, none⟩)), (1, .int .i64 (x6)), (2, .int .i64 (x7)), (7, .slice A868 (l810 ++ [x838]).length c869), (8, .int .i64 (x809 + 1))]) (hp' := (g5, Cl 174 [.string (x8), .int .i64 (x9), .int .i64 (x10), .int .i64 (x11), .int .i64 (x12), .int .i64 (x13), .int .i64 (x14), .int .i64 (x15), .int .i64 (x16), .int .i64 (x17), .slice A18 (l21).length c19, .map (some g3)]) :: (hs866 ++ (hs463 ++ R))) ⟨rfl, rfl, rfl, rfl, rfl, trivial⟩ (.cons_cons _ (.cons _ (sub_app hs866 (sub_app hs463 (.refl _))))) ⟨A868, c869, hs866, rfl, rfl, ((hle803.trans hle837)), h867⟩
      ·
        rw [if_neg (of_decide_eq_false hc811)] at hm
        refine c_exit ?_
        refine x_then_exit ?_
        refine x_then_exit ?_
        refine x_block_out ?_
        have hm := congrArg some (houtL674 _ (Option.some.inj hm).symm)
        obtain rfl := some1 hm
        refine x_front2 [_] hs805 hs463 R rfl ?_
        refine x_front2 [_] hs463 hs805 R rfl ?_
        exact x_join (e' := [(0, .pointer (some ⟨g5, 0, none⟩)), (1, .int .i64 (x6)), (2, .int .i64 (x7)), (7, .slice A806 (l810).length c807)]) (hp' := (g5, Cl 174 [.string (x8), .int .i64 (x9), .int .i64 (x10), .int .i64 (x11), .int .i64 (x12), .int .i64 (x13), .int .i64 (x14), .int .i64 (x15), .int .i64 (x16), .int .i64 (x17), .slice A18 (l21).length c19, .map (some g3)]) :: (hs805 ++ (hs463 ++ R))) ⟨rfl, rfl, rfl, rfl, trivial⟩ (.cons_cons _ (sub_app hs805 (sub_app hs463 (.refl _)))) ⟨A806, c807, hs805, rfl, rfl, hle803, h808⟩
    ·
      rintro b665 _ _ ⟨A669, c670, hs668, rfl, rfl, hle666, h671⟩
      have hm := hk673
      refine c_seq ?_
      refine c_region ?_
      refine t_st rfl (st_move rfl) ?_
      refine t_st rfl (st_nil rfl) ?_
      refine t_st rfl (st_field rfl fld174_2) ?_
      refine t_st rfl (st_load 0 rfl one168 rfl rfl) ?_
      refine t_st rfl (st_move rfl) ?_
      refine t_st rfl (st_move rfl) ?_
      refine t_front2 [_] hs668 hs463 R rfl ?_
      refine t_do rfl (u_mput kok3 [_] hs668 R rfl (h466.le hle666) mapt168 rfl rfl rfl rfl ⟨_, rfl, h671⟩ _ (.inl rfl)) ?_
      rintro _ _ ⟨hs871, rfl, hsub872, h873⟩
      refine t_nil ?_
      refine x_then_normal ?_
      refine c_seq ?_
      refine c_region ?_
      refine t_st rfl (st_move rfl) ?_
      refine t_st rfl (st_move rfl) ?_
      obtain ⟨x874, h875, hm⟩ := bindS hm
      obtain ⟨j876, hj877, hx878⟩ := idx_some h875
      obtain ⟨cs879, hs884, P885, P886, hq887, hr880, hcs881, hA882, hlt883, hb888, _⟩ := OS.get (sz := 1) rfl (by decide) h671 hx878
      obtain ⟨rfl, rfl⟩ := hr880
      have hcs889 := fun (w : World) (hp : Hp) (ho : Own b665 hp w) (hh : hs871.Sublist hp) => hcs881 w hp ho (hsub872.trans hh)
      refine t_st rfl (st_index_old j876 rfl rfl hj877 hlt883 hA882 sl24) ?_
      refine t_st rfl (st_load_rd rfl one3 (fun w ho => hcs889 w _ ho (.cons _ (List.sublist_append_left _ _)) 0 _ rfl)) ?_
      refine t_st rfl (st_assign rfl) ?_
      refine t_nil ?_
      refine x_then_normal ?_
      refine c_ret ?_
      obtain ⟨rfl, rfl⟩ := some2 hm
      exact retM (rs := [.tmp 6]) [.int .i64 (x874)] hle666 (by decide) rfl ⟨rfl, trivial⟩ rfl (hp' := (g5, Cl 174 [.string (x8), .int .i64 (x9), .int .i64 (x10), .int .i64 (x11), .int .i64 (x12), .int .i64 (x13), .int .i64 (x14), .int .i64 (x15), .int .i64 (x16), .int .i64 (x17), .slice A18 (l21).length c19, .map (some g3)]) :: (hs871 ++ R)) (.cons_cons _ (sub_app hs871 (.refl _))) ⟨hs871, rfl, rfl, h873⟩

set_option maxRecDepth 20000 in
theorem cGuardRuleMay (b : Base) (R : Hp) (x6 : Int) (x7 : Int) (x8 : Int) (x9 : Int) (x10 : ByteArray) (x11 : Int) (x12 : Int) (x13 : Int) (x14 : Int) (x15 : Int) (x16 : Int) (x17 : Int) (x18 : Int) (x19 : Int) (l23 : (List ApiPiece)) (l24 : (List (Int × (List Int)))) (g5 : Nat) (A20 : Option Addr) (c21 : Nat) (g3 : Nat) (hs2 : Hp) (h22 : FZ rApiPiece b.w A20 c21 l23) (h4 : OM (RT.int .i64) (OT.list 3 (OT.fr (RT.int .i64))) false false b.w g3 l24 hs2) (x313 : Bool) (l314 : (List (Int × (List Int)))) (hm : mGuardRuleMay x6 x7 x8 x9 x10 x11 x12 x13 x14 x15 x16 x17 x18 x19 l23 l24 = some (x313, l314)) :
    CallsG Tryd.prog 98 [.pointer (some ⟨g5, 0, none⟩), .int .i64 (x6), .int .i64 (x7), .int .i64 (x8), .int .i64 (x9)] b ((g5, Cl 174 [.string (x10), .int .i64 (x11), .int .i64 (x12), .int .i64 (x13), .int .i64 (x14), .int .i64 (x15), .int .i64 (x16), .int .i64 (x17), .int .i64 (x18), .int .i64 (x19), .slice A20 (l23).length c21, .map (some g3)]) :: (hs2 ++ R)) (fun v b' hp' => ∃ (g311 : Nat), ∃ (hs310 : Hp), .bool (x313) = v ∧ (g5, Cl 174 [.string (x10), .int .i64 (x11), .int .i64 (x12), .int .i64 (x13), .int .i64 (x14), .int .i64 (x15), .int .i64 (x16), .int .i64 (x17), .int .i64 (x18), .int .i64 (x19), .slice A20 (l23).length c21, .map (some g311)]) :: (hs310 ++ R) = hp' ∧ OM (RT.int .i64) (OT.list 3 (OT.fr (RT.int .i64))) false false b'.w g311 l314 hs310) := by
  refine fn_enterG 68 Tryd.func98 rfl Tryd.ntmps98 rfl ?_
  unfold mGuardRuleMay at hm
  refine c_seq ?_
  refine c_region ?_
  refine t_st rfl (st_assign rfl) ?_
  refine t_nil ?_
  refine x_then_normal ?_
  refine c_seq ?_
  refine c_seq ?_
  refine c_region ?_
  refine t_st rfl (st_move rfl) ?_
  refine t_st rfl (st_move rfl) ?_
  obtain ⟨⟨x315, l316⟩, hcl317, hm⟩ := bindS hm
  have hm := (unc2E hm)
  refine t_out1 [_] [] hs2 R rfl ?_
  refine t_callG _ rfl call113 rfl (cGuardRuleInto _ _ x9 0 x10 x11 x12 x13 x14 x15 x16 x17 x18 x19 l23 l24 g5 A20 c21 g3 hs2 h22 h4 x315 l316 hcl317) ?_
  rintro _ b318 _ hle319 ⟨hs320, rfl, rfl, h321⟩
  refine t_in1 [_] [] hs320 R rfl ?_
  refine t_st rfl (st_move rfl) ?_
  refine t_st rfl (st_move rfl) ?_
  obtain ⟨_, h322, hm⟩ := bindS hm
  have h322 := (chk_some h322).2
  refine t_st rfl (st_sub rfl rfl h322) ?_
  refine t_st rfl (st_gtr rfl rfl) ?_
  refine t_nil ?_
  refine x_then_normal ?_
  refine c_cond _ rfl (fun hc323 => ?_) (fun hc323 => ?_)
  ·
    rw [if_pos (of_decide_eq_true hc323)] at hm
    refine c_seq ?_
    refine c_region ?_
    refine t_st rfl (st_assign rfl) ?_
    refine t_nil ?_
    refine x_then_normal ?_
    refine c_ret ?_
    refine x_then_ret ?_
    obtain ⟨rfl, rfl⟩ := some2 hm
    exact retM (rs := [.tmp 10]) [.bool (false)] hle319 (by decide) rfl ⟨rfl, trivial⟩ rfl (hp' := (g5, Cl 174 [.string (x10), .int .i64 (x11), .int .i64 (x12), .int .i64 (x13), .int .i64 (x14), .int .i64 (x15), .int .i64 (x16), .int .i64 (x17), .int .i64 (x18), .int .i64 (x19), .slice A20 (l23).length c21, .map (some g3)]) :: (hs320 ++ R)) (.cons_cons _ (sub_app hs320 (.refl _))) ⟨g3, hs320, rfl, rfl, h321⟩
  ·
    rw [if_neg (of_decide_eq_false hc323)] at hm
    refine c_skip ?_
    refine x_then_normal ?_
    refine c_seq ?_
    refine c_region ?_
    refine t_st rfl (st_assign rfl) ?_
    refine t_nil ?_
    refine x_then_normal ?_
    refine c_seq ?_
    refine c_seq ?_
    refine c_region ?_
    refine t_st rfl (st_move rfl) ?_
    refine t_st rfl (st_nil rfl) ?_
    refine t_st rfl (st_field rfl fld174_1) ?_
    refine t_st rfl (st_load 0 rfl one80 rfl rfl) ?_
    refine t_st rfl (st_len rfl sl80) ?_
    refine t_st rfl (st_move rfl) ?_
    refine t_nil ?_
    refine x_then_normal ?_
    refine c_block ?_
    have hb325 := (FZ.bd (h22.le hle319))
    obtain ⟨t507, hl508, hk509⟩ := bindS hm
    refine c_forM (fun k506 => unc2 fun x504 l505 => fun b499 e' hp' => ∃ (hs502 : Hp), [(0, .pointer (some ⟨g5, 0, none⟩)), (1, .int .i64 (x6)), (2, .int .i64 (x7)), (4, .int .i64 (x9)), (11, .int .i64 (x504)), (24, .slice A20 (l23).length c21), (25, .int .i64 ((l23.length : Int))), (26, .int .i64 ((k506 : Int)))] = e' ∧ (g5, Cl 174 [.string (x10), .int .i64 (x11), .int .i64 (x12), .int .i64 (x13), .int .i64 (x14), .int .i64 (x15), .int .i64 (x16), .int .i64 (x17), .int .i64 (x18), .int .i64 (x19), .slice A20 (l23).length c21, .map (some g3)]) :: (hs502 ++ R) = hp' ∧ b318.Le b499 ∧ OM (RT.int .i64) (OT.list 3 (OT.fr (RT.int .i64))) false false b499.w g3 l505 hs502) hl508 (e' := [(0, .pointer (some ⟨g5, 0, none⟩)), (1, .int .i64 (x6)), (2, .int .i64 (x7)), (4, .int .i64 (x9)), (11, .int .i64 (0)), (24, .slice A20 (l23).length c21), (25, .int .i64 ((l23.length : Int))), (26, .int .i64 0)]) (hp' := (g5, Cl 174 [.string (x10), .int .i64 (x11), .int .i64 (x12), .int .i64 (x13), .int .i64 (x14), .int .i64 (x15), .int .i64 (x16), .int .i64 (x17), .int .i64 (x18), .int .i64 (x19), .slice A20 (l23).length c21, .map (some g3)]) :: (hs320 ++ R)) ⟨rfl, rfl, rfl, rfl, rfl, rfl, rfl, rfl, trivial⟩ (.cons_cons _ (sub_app hs320 (.refl _))) ⟨hs320, rfl, rfl, (Base.Le.refl _), h321⟩ ?_ ?_
    ·
      rintro k506 ⟨x504, l505⟩ b499 _ _ oL324 hknL324 ⟨hs502, rfl, rfl, hle500, h503⟩ hstepL324 houtL324
      unfold mGuardRuleMay_L324 at hstepL324
      have hm := (unc2E hstepL324)
      refine c_seq ?_
      refine c_region ?_
      refine t_st rfl (st_lss_t rfl rfl (by omega)) ?_
      refine t_nil ?_
      refine x_then_normal ?_
      refine c_seq ?_
      refine c_cond_t rfl ?_
      refine c_skip ?_
      refine x_then_normal ?_
      refine c_seq ?_
      refine c_block ?_
      refine c_seq ?_
      refine c_region ?_
      obtain ⟨x510, h511, hm⟩ := bindS hm
      obtain ⟨j512, hj513, hx514⟩ := idx_some h511
      obtain ⟨cs515, hr516, hcs517, hA518, hlt519⟩ := FZ.get (sz := 3) rfl (by decide) (h22.le (hle319.trans hle500)) hx514
      obtain ⟨_, _, rfl, rfl, ⟨_, _, rfl, rfl, rfl⟩⟩ := hr516
      refine t_st rfl (st_index_old j512 rfl rfl hj513 hlt519 hA518 sl80) ?_
      refine t_st rfl (st_loadN_old (vs := [.int .i64 (x510.Length), .int .i64 (x510.Grade), .int .i64 (x510.Speed)]) 3 rfl agg97 hA518 rfl (fun j u hu => hcs517 j u hu)) ?_
      refine t_do rfl (u_alloc [.int .i64 0, .int .i64 0, .int .i64 0] zero97 rfl) ?_
      rintro _ _ ⟨g520, rfl, rfl⟩
      refine t_do rfl (u_storeN (vs := [_, _, _]) 0 3 rfl rfl rfl siz97 rfl (by intro u hu; simp only [List.mem_cons, List.not_mem_nil, or_false] at hu; rcases hu with rfl | rfl | rfl <;> rfl) rfl (by simp)) ?_
      rintro _ _ rfl
      refine t_nil ?_
      refine x_then_normal ?_
      obtain ⟨t559, hj558, hk558⟩ := bindS hm
      refine c_join (fun b552 e' hp' => ∃ (l557 : (List (Int × (List Int)))), ∃ (hs555 : Hp), [(0, .pointer (some ⟨g5, 0, none⟩)), (1, .int .i64 (x6)), (2, .int .i64 (x7)), (4, .int .i64 (x9)), (11, .int .i64 (x504)), (13, .pointer (some ⟨g520, 0, none⟩)), (24, .slice A20 (l23).length c21), (25, .int .i64 ((l23.length : Int))), (26, .int .i64 ((k506 : Int)))] = e' ∧ (g5, Cl 174 [.string (x10), .int .i64 (x11), .int .i64 (x12), .int .i64 (x13), .int .i64 (x14), .int .i64 (x15), .int .i64 (x16), .int .i64 (x17), .int .i64 (x18), .int .i64 (x19), .slice A20 (l23).length c21, .map (some g3)]) :: (g520, Cl 97 [.int .i64 (x510.Length), .int .i64 (x510.Grade), .int .i64 (x510.Speed)]) :: (hs555 ++ R) = hp' ∧ b499.Le b552 ∧ OM (RT.int .i64) (OT.list 3 (OT.fr (RT.int .i64))) false false b552.w g3 l557 hs555 ∧ t559 = .inl l557) ?_ ?_
      ·
        have hm := hj558
        refine c_block ?_
        refine c_seq ?_
        refine c_region ?_
        refine t_st rfl (st_move rfl) ?_
        refine t_st rfl (st_move rfl) ?_
        refine t_st rfl (st_geq rfl rfl) ?_
        refine t_st rfl (st_assign rfl) ?_
        refine t_nil ?_
        refine x_then_normal ?_
        refine c_cond _ rfl (fun hc560 => ?_) (fun hc560 => ?_)
        ·
          rw [if_pos (of_decide_eq_true hc560)] at hm
          refine c_seq ?_
          refine c_region ?_
          refine t_st rfl (st_move rfl) ?_
          refine t_st rfl (st_move rfl) ?_
          refine t_st rfl (st_field rfl fld97_2) ?_
          refine t_st rfl (st_load 0 rfl one3 rfl rfl) ?_
          obtain ⟨⟨x561, l562⟩, hcl563, hm⟩ := bindS hm
          have hm := (unc2E hm)
          refine t_pullb 1 rfl ?_
          refine t_out1 [_] [_] hs502 R rfl ?_
          refine t_callG _ rfl call113 rfl (cGuardRuleInto _ _ x9 x510.Speed x10 x11 x12 x13 x14 x15 x16 x17 x18 x19 l23 l505 g5 A20 c21 g3 hs502 (h22.le (hle319.trans hle500)) h503 x561 l562 hcl563) ?_
          rintro _ b564 _ hle565 ⟨hs566, rfl, rfl, h567⟩
          refine t_in1 [_] [_] hs566 R rfl ?_
          refine t_st rfl (st_move rfl) ?_
          refine t_st rfl (st_move rfl) ?_
          obtain ⟨_, h568, hm⟩ := bindS hm
          have h568 := (chk_some h568).2
          refine t_st rfl (st_sub rfl rfl h568) ?_
          refine t_st rfl (st_gtr rfl rfl) ?_
          refine t_nil ?_
          refine x_then_normal ?_
          refine c_cond _ rfl (fun hc569 => ?_) (fun hc569 => ?_)
          ·
            rw [if_pos (of_decide_eq_true hc569)] at hm
            refine c_seq ?_
            refine c_region ?_
            refine t_st rfl (st_assign rfl) ?_
            refine t_nil ?_
            refine x_then_normal ?_
            refine c_ret ?_
            refine x_block_ret ?_
            refine x_then_ret ?_
            refine x_block_ret ?_
            refine x_then_ret ?_
            refine x_then_ret ?_
            refine x_block_ret ?_
            refine x_then_ret ?_
            have hq570 := (Option.some.inj hm).symm
            rw [hq570] at hk558
            have hm := elimR hk558
            have hq571 := houtL324 _ (Option.some.inj hm).symm
            rw [hq571] at hk509
            have hm := elimR hk509
            obtain ⟨rfl, rfl⟩ := some2 hm
            exact retM (rs := [.tmp 10]) [.bool (false)] (hle319.trans (hle500.trans hle565)) (by decide) rfl ⟨rfl, trivial⟩ rfl (hp' := (g5, Cl 174 [.string (x10), .int .i64 (x11), .int .i64 (x12), .int .i64 (x13), .int .i64 (x14), .int .i64 (x15), .int .i64 (x16), .int .i64 (x17), .int .i64 (x18), .int .i64 (x19), .slice A20 (l23).length c21, .map (some g3)]) :: (hs566 ++ R)) (.cons_cons _ (.cons _ (sub_app hs566 (.refl _)))) ⟨g3, hs566, rfl, rfl, h567⟩
          ·
            rw [if_neg (of_decide_eq_false hc569)] at hm
            refine c_skip ?_
            refine x_block_normal ?_
            have hq := (Option.some.inj hm).symm
            refine x_pullb 1 rfl ?_
            refine x_pullb 1 rfl ?_
            exact x_join (e' := [(0, .pointer (some ⟨g5, 0, none⟩)), (1, .int .i64 (x6)), (2, .int .i64 (x7)), (4, .int .i64 (x9)), (11, .int .i64 (x504)), (13, .pointer (some ⟨g520, 0, none⟩)), (24, .slice A20 (l23).length c21), (25, .int .i64 ((l23.length : Int))), (26, .int .i64 ((k506 : Int)))]) (hp' := (g5, Cl 174 [.string (x10), .int .i64 (x11), .int .i64 (x12), .int .i64 (x13), .int .i64 (x14), .int .i64 (x15), .int .i64 (x16), .int .i64 (x17), .int .i64 (x18), .int .i64 (x19), .slice A20 (l23).length c21, .map (some g3)]) :: (g520, Cl 97 [.int .i64 (x510.Length), .int .i64 (x510.Grade), .int .i64 (x510.Speed)]) :: (hs566 ++ R)) ⟨rfl, rfl, rfl, rfl, rfl, rfl, rfl, rfl, rfl, trivial⟩ (.cons_cons _ (.cons_cons _ (sub_app hs566 (.refl _)))) ⟨l562, hs566, rfl, rfl, hle565, h567, hq⟩
        ·
          rw [if_neg (of_decide_eq_false hc560)] at hm
          obtain ⟨x582, hj583, hk583⟩ := bindS hm
          refine c_join (fun b580 e' hp' => [(0, .pointer (some ⟨g5, 0, none⟩)), (1, .int .i64 (x6)), (2, .int .i64 (x7)), (4, .int .i64 (x9)), (11, .int .i64 (x504)), (13, .pointer (some ⟨g520, 0, none⟩)), (24, .slice A20 (l23).length c21), (25, .int .i64 ((l23.length : Int))), (26, .int .i64 ((k506 : Int))), (43, .bool (x582))] = e' ∧ (g5, Cl 174 [.string (x10), .int .i64 (x11), .int .i64 (x12), .int .i64 (x13), .int .i64 (x14), .int .i64 (x15), .int .i64 (x16), .int .i64 (x17), .int .i64 (x18), .int .i64 (x19), .slice A20 (l23).length c21, .map (some g3)]) :: (g520, Cl 97 [.int .i64 (x510.Length), .int .i64 (x510.Grade), .int .i64 (x510.Speed)]) :: (hs502 ++ R) = hp' ∧ b499.Le b580) ?_ ?_
          ·
            have hm := hj583
            obtain ⟨_, h588, hm⟩ := bindS hm
            obtain ⟨_, h589, hm⟩ := bindS hm
            obtain ⟨_, h590, hm⟩ := bindS hm
            by_cases hc591 : (x6 - (100 * x11)) < (x504 + x510.Length)
            ·
              rw [if_pos hc591] at hm
              refine D_drawS ((g520, Cl 97 [.int .i64 (x510.Length), .int .i64 (x510.Grade), .int .i64 (x510.Speed)]) :: (g5, Cl 174 [.string (x10), .int .i64 (x11), .int .i64 (x12), .int .i64 (x13), .int .i64 (x14), .int .i64 (x15), .int .i64 (x16), .int .i64 (x17), .int .i64 (x18), .int .i64 (x19), .slice A20 (l23).length c21, .map (some g3)]) :: (hs502 ++ R)) mixed ?_
              refine D_st (Base.Le.refl _) 0 rfl (by kernel_rfl) (by kernel_rfl) (by kernel_rfl) rfl (st_move rfl) (.cons_cons _ (.cons_cons _ (sub_app hs502 (.refl _)))) ?_
              refine D_st (Base.Le.refl _) 1 rfl (by kernel_rfl) (by kernel_rfl) (by kernel_rfl) rfl (st_field rfl fld97_0) (.cons_cons _ (.cons_cons _ (sub_app hs502 (.refl _)))) ?_
              refine D_st (Base.Le.refl _) 2 rfl (by kernel_rfl) (by kernel_rfl) (by kernel_rfl) rfl (st_load 0 rfl one3 rfl rfl) (.cons_cons _ (.cons_cons _ (sub_app hs502 (.refl _)))) ?_
              have h588 := (chk_some h588).2
              refine D_st (Base.Le.refl _) 3 rfl (by kernel_rfl) (by kernel_rfl) (by kernel_rfl) rfl (st_add rfl rfl h588) (.cons_cons _ (.cons_cons _ (sub_app hs502 (.refl _)))) ?_
              refine D_st (Base.Le.refl _) 4 rfl (by kernel_rfl) (by kernel_rfl) (by kernel_rfl) rfl (st_move rfl) (.cons_cons _ (.cons_cons _ (sub_app hs502 (.refl _)))) ?_
              refine D_st (Base.Le.refl _) 5 rfl (by kernel_rfl) (by kernel_rfl) (by kernel_rfl) rfl (st_move rfl) (.cons_cons _ (.cons_cons _ (sub_app hs502 (.refl _)))) ?_
              refine D_st (Base.Le.refl _) 6 rfl (by kernel_rfl) (by kernel_rfl) (by kernel_rfl) rfl (st_nil rfl) (.cons_cons _ (.cons_cons _ (sub_app hs502 (.refl _)))) ?_
              refine D_st (Base.Le.refl _) 7 rfl (by kernel_rfl) (by kernel_rfl) (by kernel_rfl) rfl (st_field rfl fld174_0) (.cons_cons _ (.cons_cons _ (sub_app hs502 (.refl _)))) ?_
              refine D_st (Base.Le.refl _) 8 rfl (by kernel_rfl) (by kernel_rfl) (by kernel_rfl) rfl (st_field rfl fld43_1) (.cons_cons _ (.cons_cons _ (sub_app hs502 (.refl _)))) ?_
              refine D_st (Base.Le.refl _) 9 rfl (by kernel_rfl) (by kernel_rfl) (by kernel_rfl) rfl (st_load 1 rfl one3 rfl rfl) (.cons_cons _ (.cons_cons _ (sub_app hs502 (.refl _)))) ?_
              have h589 := (chk_some h589).2
              refine D_st (Base.Le.refl _) 10 rfl (by kernel_rfl) (by kernel_rfl) (by kernel_rfl) rfl (st_mul rfl rfl h589) (.cons_cons _ (.cons_cons _ (sub_app hs502 (.refl _)))) ?_
              have h590 := (chk_some h590).2
              refine D_st (Base.Le.refl _) 11 rfl (by kernel_rfl) (by kernel_rfl) (by kernel_rfl) rfl (st_sub rfl rfl h590) (.cons_cons _ (.cons_cons _ (sub_app hs502 (.refl _)))) ?_
              refine D_st (Base.Le.refl _) 12 rfl (by kernel_rfl) (by kernel_rfl) (by kernel_rfl) rfl (st_gtr_t rfl rfl hc591) (.cons_cons _ (.cons_cons _ (sub_app hs502 (.refl _)))) ?_
              refine D_st (Base.Le.refl _) 13 rfl (by kernel_rfl) (by kernel_rfl) (by kernel_rfl) rfl (st_move rfl) (.cons_cons _ (.cons_cons _ (sub_app hs502 (.refl _)))) ?_
              refine D_yes (Base.Le.refl _) 14 57 rfl (by kernel_rfl) (by kernel_rfl) (by kernel_rfl) rfl rfl rfl rfl (st_move rfl) (.cons_cons _ (.cons_cons _ (sub_app hs502 (.refl _)))) ?_
              refine D_yes (Base.Le.refl _) 15 57 rfl (by kernel_rfl) (by kernel_rfl) (by kernel_rfl) rfl rfl rfl rfl (st_field rfl fld97_2) (.cons_cons _ (.cons_cons _ (sub_app hs502 (.refl _)))) ?_
              refine D_yes (Base.Le.refl _) 16 57 rfl (by kernel_rfl) (by kernel_rfl) (by kernel_rfl) rfl rfl rfl rfl (st_load 0 rfl one3 rfl rfl) (.cons_cons _ (.cons_cons _ (sub_app hs502 (.refl _)))) ?_
              refine D_yes (Base.Le.refl _) 17 57 rfl (by kernel_rfl) (by kernel_rfl) (by kernel_rfl) rfl rfl rfl rfl (st_gtr rfl rfl) (.cons_cons _ (.cons_cons _ (sub_app hs502 (.refl _)))) ?_
              refine D_st (Base.Le.refl _) 18 rfl (by kernel_rfl) (by kernel_rfl) (by kernel_rfl) rfl (st_pick_t rfl rfl) (.cons_cons _ (.cons_cons _ (sub_app hs502 (.refl _)))) ?_
              refine D_st (Base.Le.refl _) 19 rfl (by kernel_rfl) (by kernel_rfl) (by kernel_rfl) rfl (st_assign rfl) (.cons_cons _ (.cons_cons _ (sub_app hs502 (.refl _)))) ?_
              refine D_done (by kernel_rfl) ?_
              obtain rfl := some1 hm
              refine x_pullb 1 rfl ?_
              exact x_join (e' := [(0, .pointer (some ⟨g5, 0, none⟩)), (1, .int .i64 (x6)), (2, .int .i64 (x7)), (4, .int .i64 (x9)), (11, .int .i64 (x504)), (13, .pointer (some ⟨g520, 0, none⟩)), (24, .slice A20 (l23).length c21), (25, .int .i64 ((l23.length : Int))), (26, .int .i64 ((k506 : Int))), (43, .bool (decide (x510.Speed < x9)))]) (hp' := (g5, Cl 174 [.string (x10), .int .i64 (x11), .int .i64 (x12), .int .i64 (x13), .int .i64 (x14), .int .i64 (x15), .int .i64 (x16), .int .i64 (x17), .int .i64 (x18), .int .i64 (x19), .slice A20 (l23).length c21, .map (some g3)]) :: (g520, Cl 97 [.int .i64 (x510.Length), .int .i64 (x510.Grade), .int .i64 (x510.Speed)]) :: (hs502 ++ R)) ⟨rfl, rfl, rfl, rfl, rfl, rfl, rfl, rfl, rfl, rfl, trivial⟩ (.cons_cons _ (.cons_cons _ (sub_app hs502 (.refl _)))) ⟨rfl, rfl, (Base.Le.refl _)⟩
            ·
              rw [if_neg hc591] at hm
              refine D_drawS ((g520, Cl 97 [.int .i64 (x510.Length), .int .i64 (x510.Grade), .int .i64 (x510.Speed)]) :: (g5, Cl 174 [.string (x10), .int .i64 (x11), .int .i64 (x12), .int .i64 (x13), .int .i64 (x14), .int .i64 (x15), .int .i64 (x16), .int .i64 (x17), .int .i64 (x18), .int .i64 (x19), .slice A20 (l23).length c21, .map (some g3)]) :: (hs502 ++ R)) mixed ?_
              refine D_st (Base.Le.refl _) 0 rfl (by kernel_rfl) (by kernel_rfl) (by kernel_rfl) rfl (st_move rfl) (.cons_cons _ (.cons_cons _ (sub_app hs502 (.refl _)))) ?_
              refine D_st (Base.Le.refl _) 1 rfl (by kernel_rfl) (by kernel_rfl) (by kernel_rfl) rfl (st_field rfl fld97_0) (.cons_cons _ (.cons_cons _ (sub_app hs502 (.refl _)))) ?_
              refine D_st (Base.Le.refl _) 2 rfl (by kernel_rfl) (by kernel_rfl) (by kernel_rfl) rfl (st_load 0 rfl one3 rfl rfl) (.cons_cons _ (.cons_cons _ (sub_app hs502 (.refl _)))) ?_
              have h588 := (chk_some h588).2
              refine D_st (Base.Le.refl _) 3 rfl (by kernel_rfl) (by kernel_rfl) (by kernel_rfl) rfl (st_add rfl rfl h588) (.cons_cons _ (.cons_cons _ (sub_app hs502 (.refl _)))) ?_
              refine D_st (Base.Le.refl _) 4 rfl (by kernel_rfl) (by kernel_rfl) (by kernel_rfl) rfl (st_move rfl) (.cons_cons _ (.cons_cons _ (sub_app hs502 (.refl _)))) ?_
              refine D_st (Base.Le.refl _) 5 rfl (by kernel_rfl) (by kernel_rfl) (by kernel_rfl) rfl (st_move rfl) (.cons_cons _ (.cons_cons _ (sub_app hs502 (.refl _)))) ?_
              refine D_st (Base.Le.refl _) 6 rfl (by kernel_rfl) (by kernel_rfl) (by kernel_rfl) rfl (st_nil rfl) (.cons_cons _ (.cons_cons _ (sub_app hs502 (.refl _)))) ?_
              refine D_st (Base.Le.refl _) 7 rfl (by kernel_rfl) (by kernel_rfl) (by kernel_rfl) rfl (st_field rfl fld174_0) (.cons_cons _ (.cons_cons _ (sub_app hs502 (.refl _)))) ?_
              refine D_st (Base.Le.refl _) 8 rfl (by kernel_rfl) (by kernel_rfl) (by kernel_rfl) rfl (st_field rfl fld43_1) (.cons_cons _ (.cons_cons _ (sub_app hs502 (.refl _)))) ?_
              refine D_st (Base.Le.refl _) 9 rfl (by kernel_rfl) (by kernel_rfl) (by kernel_rfl) rfl (st_load 1 rfl one3 rfl rfl) (.cons_cons _ (.cons_cons _ (sub_app hs502 (.refl _)))) ?_
              have h589 := (chk_some h589).2
              refine D_st (Base.Le.refl _) 10 rfl (by kernel_rfl) (by kernel_rfl) (by kernel_rfl) rfl (st_mul rfl rfl h589) (.cons_cons _ (.cons_cons _ (sub_app hs502 (.refl _)))) ?_
              have h590 := (chk_some h590).2
              refine D_st (Base.Le.refl _) 11 rfl (by kernel_rfl) (by kernel_rfl) (by kernel_rfl) rfl (st_sub rfl rfl h590) (.cons_cons _ (.cons_cons _ (sub_app hs502 (.refl _)))) ?_
              refine D_st (Base.Le.refl _) 12 rfl (by kernel_rfl) (by kernel_rfl) (by kernel_rfl) rfl (st_gtr_f rfl rfl hc591) (.cons_cons _ (.cons_cons _ (sub_app hs502 (.refl _)))) ?_
              refine D_st (Base.Le.refl _) 13 rfl (by kernel_rfl) (by kernel_rfl) (by kernel_rfl) rfl (st_move rfl) (.cons_cons _ (.cons_cons _ (sub_app hs502 (.refl _)))) ?_
              refine D_no (Base.Le.refl _) 14 57 rfl (by kernel_rfl) (by kernel_rfl) (by kernel_rfl) rfl rfl rfl rfl rfl (.cons_cons _ (.cons_cons _ (sub_app hs502 (.refl _)))) ?_
              refine D_no (Base.Le.refl _) 15 57 rfl (by kernel_rfl) (by kernel_rfl) (by kernel_rfl) rfl rfl rfl rfl rfl (.cons_cons _ (.cons_cons _ (sub_app hs502 (.refl _)))) ?_
              refine D_no (Base.Le.refl _) 16 57 rfl (by kernel_rfl) (by kernel_rfl) (by kernel_rfl) rfl rfl rfl rfl rfl (.cons_cons _ (.cons_cons _ (sub_app hs502 (.refl _)))) ?_
              refine D_no (Base.Le.refl _) 17 57 rfl (by kernel_rfl) (by kernel_rfl) (by kernel_rfl) rfl rfl rfl rfl rfl (.cons_cons _ (.cons_cons _ (sub_app hs502 (.refl _)))) ?_
              refine D_st (Base.Le.refl _) 18 rfl (by kernel_rfl) (by kernel_rfl) (by kernel_rfl) rfl (st_pick_f rfl rfl) (.cons_cons _ (.cons_cons _ (sub_app hs502 (.refl _)))) ?_
              refine D_st (Base.Le.refl _) 19 rfl (by kernel_rfl) (by kernel_rfl) (by kernel_rfl) rfl (st_assign rfl) (.cons_cons _ (.cons_cons _ (sub_app hs502 (.refl _)))) ?_
              refine D_done (by kernel_rfl) ?_
              obtain rfl := some1 hm
              refine x_pullb 1 rfl ?_
              exact x_join (e' := [(0, .pointer (some ⟨g5, 0, none⟩)), (1, .int .i64 (x6)), (2, .int .i64 (x7)), (4, .int .i64 (x9)), (11, .int .i64 (x504)), (13, .pointer (some ⟨g520, 0, none⟩)), (24, .slice A20 (l23).length c21), (25, .int .i64 ((l23.length : Int))), (26, .int .i64 ((k506 : Int))), (43, .bool (false))]) (hp' := (g5, Cl 174 [.string (x10), .int .i64 (x11), .int .i64 (x12), .int .i64 (x13), .int .i64 (x14), .int .i64 (x15), .int .i64 (x16), .int .i64 (x17), .int .i64 (x18), .int .i64 (x19), .slice A20 (l23).length c21, .map (some g3)]) :: (g520, Cl 97 [.int .i64 (x510.Length), .int .i64 (x510.Grade), .int .i64 (x510.Speed)]) :: (hs502 ++ R)) ⟨rfl, rfl, rfl, rfl, rfl, rfl, rfl, rfl, rfl, rfl, trivial⟩ (.cons_cons _ (.cons_cons _ (sub_app hs502 (.refl _)))) ⟨rfl, rfl, (Base.Le.refl _)⟩
          ·
            rintro b580 _ _ ⟨rfl, rfl, hle581⟩
            have hm := hk583
            refine c_cond _ rfl (fun hc592 => ?_) (fun hc592 => ?_)
            ·
              rw [if_pos hc592] at hm
              refine c_seq ?_
              refine c_region ?_
              refine t_st rfl (st_assign rfl) ?_
              refine t_nil ?_
              refine x_then_normal ?_
              refine c_ret ?_
              refine x_block_ret ?_
              refine x_then_ret ?_
              refine x_block_ret ?_
              refine x_then_ret ?_
              refine x_then_ret ?_
              refine x_block_ret ?_
              refine x_then_ret ?_
              have hq593 := (Option.some.inj hm).symm
              rw [hq593] at hk558
              have hm := elimR hk558
              have hq594 := houtL324 _ (Option.some.inj hm).symm
              rw [hq594] at hk509
              have hm := elimR hk509
              obtain ⟨rfl, rfl⟩ := some2 hm
              exact retM (rs := [.tmp 10]) [.bool (false)] (hle319.trans (hle500.trans hle581)) (by decide) rfl ⟨rfl, trivial⟩ rfl (hp' := (g5, Cl 174 [.string (x10), .int .i64 (x11), .int .i64 (x12), .int .i64 (x13), .int .i64 (x14), .int .i64 (x15), .int .i64 (x16), .int .i64 (x17), .int .i64 (x18), .int .i64 (x19), .slice A20 (l23).length c21, .map (some g3)]) :: (hs502 ++ R)) (.cons_cons _ (.cons _ (sub_app hs502 (.refl _)))) ⟨g3, hs502, rfl, rfl, (h503.le hle581)⟩
            ·
              rw [if_neg (fun hh => Bool.noConfusion (hh.symm.trans hc592))] at hm
              refine c_skip ?_
              refine x_block_normal ?_
              have hq := (Option.some.inj hm).symm
              refine x_pullb 1 rfl ?_
              refine x_pullb 1 rfl ?_
              exact x_join (e' := [(0, .pointer (some ⟨g5, 0, none⟩)), (1, .int .i64 (x6)), (2, .int .i64 (x7)), (4, .int .i64 (x9)), (11, .int .i64 (x504)), (13, .pointer (some ⟨g520, 0, none⟩)), (24, .slice A20 (l23).length c21), (25, .int .i64 ((l23.length : Int))), (26, .int .i64 ((k506 : Int)))]) (hp' := (g5, Cl 174 [.string (x10), .int .i64 (x11), .int .i64 (x12), .int .i64 (x13), .int .i64 (x14), .int .i64 (x15), .int .i64 (x16), .int .i64 (x17), .int .i64 (x18), .int .i64 (x19), .slice A20 (l23).length c21, .map (some g3)]) :: (g520, Cl 97 [.int .i64 (x510.Length), .int .i64 (x510.Grade), .int .i64 (x510.Speed)]) :: (hs502 ++ R)) ⟨rfl, rfl, rfl, rfl, rfl, rfl, rfl, rfl, rfl, trivial⟩ (.cons_cons _ (.cons_cons _ (sub_app hs502 (.refl _)))) ⟨l505, hs502, rfl, rfl, hle581, (h503.le hle581), hq⟩
      ·
        rintro b552 _ _ ⟨l557, hs555, rfl, rfl, hle553, h556, hq595⟩
        rw [hq595] at hk558
        have hm := elimL hk558
        refine c_region ?_
        refine t_st rfl (st_move rfl) ?_
        refine t_st rfl (st_field rfl fld97_0) ?_
        refine t_st rfl (st_load 1 rfl one3 rfl rfl) ?_
        obtain ⟨_, h596, hm⟩ := bindS hm
        have h596 := (chk_some h596).2
        refine t_st rfl (st_add rfl rfl h596) ?_
        refine t_st rfl (st_assign rfl) ?_
        refine t_nil ?_
        refine x_block_normal ?_
        refine x_then_normal ?_
        refine c_region ?_
        refine t_st rfl (st_add rfl rfl (by omega)) ?_
        refine t_st rfl (st_move rfl) ?_
        refine t_nil ?_
        exact x_againM (x504 + x510.Length, l557) (Option.some.inj hm).symm (e' := [(0, .pointer (some ⟨g5, 0, none⟩)), (1, .int .i64 (x6)), (2, .int .i64 (x7)), (4, .int .i64 (x9)), (11, .int .i64 (x504 + x510.Length)), (24, .slice A20 (l23).length c21), (25, .int .i64 ((l23.length : Int))), (26, .int .i64 ((k506 : Int) + 1))]) (hp' := (g5, Cl 174 [.string (x10), .int .i64 (x11), .int .i64 (x12), .int .i64 (x13), .int .i64 (x14), .int .i64 (x15), .int .i64 (x16), .int .i64 (x17), .int .i64 (x18), .int .i64 (x19), .slice A20 (l23).length c21, .map (some g3)]) :: (hs555 ++ R)) ⟨rfl, rfl, rfl, rfl, rfl, rfl, rfl, rfl, trivial⟩ (.cons_cons _ (.cons _ (sub_app hs555 (.refl _)))) ⟨hs555, rfl, rfl, ((hle500.trans hle553)), h556⟩
    ·
      rintro ⟨x504, l505⟩ b499 _ _ ⟨hs502, rfl, rfl, hle500, h503⟩ hq598
      rw [hq598] at hk509
      have hm := elimL hk509
      have hm := (unc2E hm)
      refine c_seq ?_
      refine c_region ?_
      refine t_st rfl (st_lss_f rfl rfl (by omega)) ?_
      refine t_nil ?_
      refine x_then_normal ?_
      refine c_seq ?_
      refine c_cond_f rfl ?_
      refine c_exit ?_
      refine x_then_exit ?_
      refine x_then_exit ?_
      refine x_block_out ?_
      refine x_then_normal ?_
      refine c_seq ?_
      refine c_region ?_
      refine t_st rfl (st_assign rfl) ?_
      refine t_nil ?_
      refine x_then_normal ?_
      refine c_ret ?_
      obtain ⟨rfl, rfl⟩ := some2 hm
      exact retM (rs := [.tmp 10]) [.bool (true)] (hle319.trans hle500) (by decide) rfl ⟨rfl, trivial⟩ rfl (hp' := (g5, Cl 174 [.string (x10), .int .i64 (x11), .int .i64 (x12), .int .i64 (x13), .int .i64 (x14), .int .i64 (x15), .int .i64 (x16), .int .i64 (x17), .int .i64 (x18), .int .i64 (x19), .slice A20 (l23).length c21, .map (some g3)]) :: (hs502 ++ R)) (.cons_cons _ (sub_app hs502 (.refl _))) ⟨g3, hs502, rfl, rfl, h503⟩

set_option maxRecDepth 20000 in
theorem cGuardPermit (b : Base) (R : Hp) (s1 : ApiStock) (l5 : (List ApiPiece)) (x6 : Int) (x7 : Int) (x8 : Int) (x9 : Int) (A2 : Option Addr) (c3 : Nat) (h4 : FZ rApiPiece b.w A2 c3 l5) (x366 : Int) (x367 : Int) (hm : mGuardPermit s1 l5 x6 x7 x8 x9 = some (x366, x367)) :
    CallsG Tryd.prog 72 [.agg #[.string (s1.Name), .int .i64 (s1.Length), .int .i64 (s1.Mass), .int .i64 (s1.Start), .int .i64 (s1.Power), .int .i64 (s1.Roll), .int .i64 (s1.Drag), .int .i64 (s1.Brake), .int .i64 (s1.Top), .int .i64 (s1.Seats)], .slice A2 (l5).length c3, .int .i64 (x6), .int .i64 (x7), .int .i64 (x8), .int .i64 (x9)] b (R) (fun v b' hp' => .tuple #[.int .i64 (x366), .int .i64 (x367)] = v ∧ R = hp') := by
  refine fn_enterG 97 Tryd.func72 rfl Tryd.ntmps72 rfl ?_
  unfold mGuardPermit at hm
  refine c_seq ?_
  refine c_region ?_
  refine t_do rfl (u_box _ rfl rfl) ?_
  rintro _ _ ⟨g368, rfl, rfl⟩
  refine t_st rfl (st_assign rfl) ?_
  refine t_st rfl (st_assign rfl) ?_
  refine t_nil ?_
  refine x_then_normal ?_
  refine c_seq ?_
  refine c_seq ?_
  refine c_region ?_
  refine t_st rfl (st_loadD (vs := [_, _, _, _, _, _, _, _, _, _]) 0 10 rfl agg43 rfl rfl rfl) ?_
  refine t_st rfl (st_move rfl) ?_
  refine t_st rfl (st_build (v := .agg #[.int .i64 (0), .int .i64 (0), .int .i64 (0)]) [] rfl (fun _ => by kernel_rfl)) ?_
  obtain ⟨⟨x369, x370, x371, x372⟩, hcl373, hm⟩ := bindS hm
  have hm := (unc4E hm)
  refine t_callG _ rfl call40 rfl (cRunSecond _ _ s1 l5 (⟨0, 0, 0⟩ : ApiState) 0 A2 c3 h4 x369 x370 x371 x372 hcl373) ?_
  rintro _ b374 _ hle375 ⟨rfl, rfl⟩
  refine t_st rfl (st_move rfl) ?_
  refine t_st rfl (st_extract rfl rfl) ?_
  refine t_st rfl (st_extract rfl rfl) ?_
  refine t_do rfl (u_alloc [.int .i64 0, .int .i64 0, .int .i64 0] zero82 rfl) ?_
  rintro _ _ ⟨g376, rfl, rfl⟩
  refine t_do rfl (u_storeN (vs := [_, _, _]) 0 3 rfl rfl rfl siz82 rfl (by intro u hu; simp only [List.mem_cons, List.not_mem_nil, or_false] at hu; rcases hu with rfl | rfl | rfl <;> rfl) rfl (by simp)) ?_
  rintro _ _ rfl
  refine t_st rfl (st_assign rfl) ?_
  refine t_nil ?_
  refine x_then_normal ?_
  refine c_seq ?_
  refine c_region ?_
  refine t_st rfl (st_move rfl) ?_
  refine t_st rfl (st_neq rfl rfl) ?_
  refine t_nil ?_
  refine x_then_normal ?_
  refine c_cond _ rfl (fun hc377 => ?_) (fun hc377 => ?_)
  ·
    rw [if_pos (of_decide_eq_true hc377)] at hm
    refine c_seq ?_
    refine c_region ?_
    refine t_st rfl (st_move rfl) ?_
    refine t_st rfl (st_assign rfl) ?_
    refine t_st rfl (st_assign rfl) ?_
    refine t_nil ?_
    refine x_then_normal ?_
    refine c_ret ?_
    refine x_then_ret ?_
    obtain ⟨rfl, rfl⟩ := some2 hm
    exact retM (rs := [.tmp 12, .tmp 13]) [.int .i64 (0), .int .i64 (x372)] hle375 (by decide) rfl ⟨rfl, ⟨rfl, trivial⟩⟩ rfl (hp' := R) (.cons _ (.cons _ (.refl _))) ⟨rfl, rfl⟩
  ·
    rw [if_neg (of_decide_eq_false hc377)] at hm
    refine c_skip ?_
    refine x_then_normal ?_
    refine c_seq ?_
    refine c_region ?_
    refine t_st rfl (st_assign rfl) ?_
    refine t_nil ?_
    refine x_then_normal ?_
    refine c_seq ?_
    refine c_seq ?_
    refine c_region ?_
    refine t_st rfl (st_move rfl) ?_
    refine t_st rfl (st_len rfl sl80) ?_
    refine t_st rfl (st_move rfl) ?_
    refine t_nil ?_
    refine x_then_normal ?_
    refine c_block ?_
    have hb379 := (FZ.bd (h4.le hle375))
    refine c_pullb 1 rfl ?_
    obtain ⟨x407, hl409, hk410⟩ := bindS hm
    refine c_forS (fun k408 => fun x407 => fun b405 e' hp' => [(1, .slice A2 (l5).length c3), (2, .int .i64 (x6)), (3, .int .i64 (x7)), (4, .int .i64 (x8)), (5, .int .i64 (x9)), (6, .pointer (some ⟨g368, 0, none⟩)), (16, .int .i64 (x407)), (31, .slice A2 (l5).length c3), (32, .int .i64 ((l5.length : Int))), (33, .int .i64 ((k408 : Int)))] = e' ∧ (g368, Cl 43 [.string (s1.Name), .int .i64 (s1.Length), .int .i64 (s1.Mass), .int .i64 (s1.Start), .int .i64 (s1.Power), .int .i64 (s1.Roll), .int .i64 (s1.Drag), .int .i64 (s1.Brake), .int .i64 (s1.Top), .int .i64 (s1.Seats)]) :: R = hp' ∧ b374.Le b405) hl409 (e' := [(1, .slice A2 (l5).length c3), (2, .int .i64 (x6)), (3, .int .i64 (x7)), (4, .int .i64 (x8)), (5, .int .i64 (x9)), (6, .pointer (some ⟨g368, 0, none⟩)), (16, .int .i64 (0)), (31, .slice A2 (l5).length c3), (32, .int .i64 ((l5.length : Int))), (33, .int .i64 0)]) (hp' := (g368, Cl 43 [.string (s1.Name), .int .i64 (s1.Length), .int .i64 (s1.Mass), .int .i64 (s1.Start), .int .i64 (s1.Power), .int .i64 (s1.Roll), .int .i64 (s1.Drag), .int .i64 (s1.Brake), .int .i64 (s1.Top), .int .i64 (s1.Seats)]) :: R) ⟨rfl, rfl, rfl, rfl, rfl, rfl, rfl, rfl, rfl, rfl, trivial⟩ (.cons_cons _ (.cons _ (.refl _))) ⟨rfl, rfl, (Base.Le.refl _)⟩ ?_ ?_
    ·
      rintro k408 x407 b405 _ _ oL378 hknL378 ⟨rfl, rfl, hle406⟩ hstepL378
      unfold mGuardPermit_L378 at hstepL378
      have hm := hstepL378
      refine c_seq ?_
      refine c_region ?_
      refine t_st rfl (st_lss_t rfl rfl (by omega)) ?_
      refine t_nil ?_
      refine x_then_normal ?_
      refine c_seq ?_
      refine c_cond_t rfl ?_
      refine c_skip ?_
      refine x_then_normal ?_
      refine c_seq ?_
      refine c_block ?_
      refine c_seq ?_
      refine c_region ?_
      obtain ⟨x411, h412, hm⟩ := bindS hm
      obtain ⟨j413, hj414, hx415⟩ := idx_some h412
      obtain ⟨cs416, hr417, hcs418, hA419, hlt420⟩ := FZ.get (sz := 3) rfl (by decide) (h4.le (hle375.trans hle406)) hx415
      obtain ⟨_, _, rfl, rfl, ⟨_, _, rfl, rfl, rfl⟩⟩ := hr417
      refine t_st rfl (st_index_old j413 rfl rfl hj414 hlt420 hA419 sl80) ?_
      refine t_st rfl (st_loadN_old (vs := [.int .i64 (x411.Length), .int .i64 (x411.Grade), .int .i64 (x411.Speed)]) 3 rfl agg97 hA419 rfl (fun j u hu => hcs418 j u hu)) ?_
      refine t_do rfl (u_alloc [.int .i64 0, .int .i64 0, .int .i64 0] zero97 rfl) ?_
      rintro _ _ ⟨g421, rfl, rfl⟩
      refine t_do rfl (u_storeN (vs := [_, _, _]) 0 3 rfl rfl rfl siz97 rfl (by intro u hu; simp only [List.mem_cons, List.not_mem_nil, or_false] at hu; rcases hu with rfl | rfl | rfl <;> rfl) rfl (by simp)) ?_
      rintro _ _ rfl
      refine t_nil ?_
      refine x_then_normal ?_
      refine c_region ?_
      refine t_st rfl (st_move rfl) ?_
      refine t_st rfl (st_field rfl fld97_0) ?_
      refine t_st rfl (st_load 0 rfl one3 rfl rfl) ?_
      obtain ⟨_, h422, hm⟩ := bindS hm
      have h422 := (chk_some h422).2
      refine t_st rfl (st_add rfl rfl h422) ?_
      refine t_st rfl (st_assign rfl) ?_
      refine t_nil ?_
      refine x_block_normal ?_
      refine x_then_normal ?_
      refine c_region ?_
      refine t_st rfl (st_add rfl rfl (by omega)) ?_
      refine t_st rfl (st_move rfl) ?_
      refine t_nil ?_
      refine x_pullb 1 rfl ?_
      obtain rfl := some1 hm
      exact x_againS (e' := [(1, .slice A2 (l5).length c3), (2, .int .i64 (x6)), (3, .int .i64 (x7)), (4, .int .i64 (x8)), (5, .int .i64 (x9)), (6, .pointer (some ⟨g368, 0, none⟩)), (16, .int .i64 (x407 + x411.Length)), (31, .slice A2 (l5).length c3), (32, .int .i64 ((l5.length : Int))), (33, .int .i64 ((k408 : Int) + 1))]) (hp' := (g368, Cl 43 [.string (s1.Name), .int .i64 (s1.Length), .int .i64 (s1.Mass), .int .i64 (s1.Start), .int .i64 (s1.Power), .int .i64 (s1.Roll), .int .i64 (s1.Drag), .int .i64 (s1.Brake), .int .i64 (s1.Top), .int .i64 (s1.Seats)]) :: R) ⟨rfl, rfl, rfl, rfl, rfl, rfl, rfl, rfl, rfl, rfl, trivial⟩ (.cons_cons _ (.cons _ (.refl _))) ⟨rfl, rfl, (hle406)⟩
    ·
      rintro b405 _ _ ⟨rfl, rfl, hle406⟩
      have hm := hk410
      refine c_seq ?_
      refine c_region ?_
      refine t_st rfl (st_lss_f rfl rfl (by omega)) ?_
      refine t_nil ?_
      refine x_then_normal ?_
      refine c_seq ?_
      refine c_cond_f rfl ?_
      refine c_exit ?_
      refine x_then_exit ?_
      refine x_then_exit ?_
      refine x_block_out ?_
      refine x_then_normal ?_
      refine c_seq ?_
      obtain ⟨x437, hj438, hk438⟩ := bindS hm
      refine c_join (fun b435 e' hp' => [(1, .slice A2 (l5).length c3), (2, .int .i64 (x6)), (3, .int .i64 (x7)), (4, .int .i64 (x8)), (5, .int .i64 (x9)), (6, .pointer (some ⟨g368, 0, none⟩)), (69, .bool (x437))] = e' ∧ (g368, Cl 43 [.string (s1.Name), .int .i64 (s1.Length), .int .i64 (s1.Mass), .int .i64 (s1.Start), .int .i64 (s1.Power), .int .i64 (s1.Roll), .int .i64 (s1.Drag), .int .i64 (s1.Brake), .int .i64 (s1.Top), .int .i64 (s1.Seats)]) :: R = hp' ∧ b405.Le b435) ?_ ?_
      ·
        have hm := hj438
        refine c_region ?_
        refine t_st rfl (st_move rfl) ?_
        refine t_st rfl (st_move rfl) ?_
        obtain ⟨x439, hcl440, hm⟩ := bindS hm
        refine t_do rfl (u_callW0 _ call63 rfl (fun w ho => cGuardWithin _ [] x6 0 x407 x439 hcl440) (fun _ _ _ h => h.2.symm)) ?_
        rintro _ _ ⟨⟨_, rfl, _⟩, rfl⟩
        rcases Bool.eq_false_or_eq_true x439 with hc441 | hc441
        ·
          rw [if_pos hc441] at hm
          refine t_resp 44 rfl (v' := .bool true) (by rw [hc441] <;> rfl) ?_
          refine t_st rfl (st_not_t rfl) ?_
          refine t_st rfl (st_move rfl) ?_
          refine t_yes 46 rfl rfl rfl ?_
          refine t_st rfl (st_move rfl) ?_
          refine t_yes 46 rfl rfl rfl ?_
          refine t_st rfl (st_move rfl) ?_
          refine t_yes 46 rfl rfl rfl ?_
          obtain ⟨x442, hcl443, hm⟩ := bindS hm
          refine t_do rfl (u_callW0 _ call63 rfl (fun w ho => cGuardWithin _ [] x7 0 x407 x442 hcl443) (fun _ _ _ h => h.2.symm)) ?_
          rintro _ _ ⟨⟨_, rfl, _⟩, rfl⟩
          rcases Bool.eq_false_or_eq_true x442 with hc444 | hc444
          ·
            rw [if_pos hc444] at hm
            refine t_resp 49 rfl (v' := .bool true) (by rw [hc444] <;> rfl) ?_
            refine t_yes 46 rfl rfl rfl ?_
            refine t_st rfl (st_not_t rfl) ?_
            refine t_st rfl (st_pick_f rfl rfl) ?_
            refine t_st rfl (st_move rfl) ?_
            refine t_yes 52 rfl rfl rfl ?_
            refine t_st rfl (st_move rfl) ?_
            refine t_yes 52 rfl rfl rfl ?_
            refine t_st rfl (st_move rfl) ?_
            refine t_yes 52 rfl rfl rfl ?_
            refine t_bool rfl (st_gtr rfl rfl) (fun hc445 => ?_) (fun hc445 => ?_)
            ·
              rw [if_pos hc445] at hm
              refine t_st rfl (st_pick_f rfl rfl) ?_
              refine t_st rfl (st_move rfl) ?_
              refine t_no 57 rfl rfl rfl rfl rfl ?_
              refine t_no 57 rfl rfl rfl rfl rfl ?_
              refine t_no 57 rfl rfl rfl rfl rfl ?_
              refine t_no 57 rfl rfl rfl rfl rfl ?_
              refine t_st rfl (st_pick_t rfl rfl) ?_
              refine t_st rfl (st_move rfl) ?_
              refine t_no 63 rfl rfl rfl rfl rfl ?_
              refine t_no 63 rfl rfl rfl rfl rfl ?_
              refine t_no 63 rfl rfl rfl rfl rfl ?_
              refine t_no 63 rfl rfl rfl rfl rfl ?_
              refine t_no 63 rfl rfl rfl rfl rfl ?_
              refine t_st rfl (st_pick_t rfl rfl) ?_
              refine t_nil ?_
              obtain rfl := some1 hm
              exact x_join (e' := [(1, .slice A2 (l5).length c3), (2, .int .i64 (x6)), (3, .int .i64 (x7)), (4, .int .i64 (x8)), (5, .int .i64 (x9)), (6, .pointer (some ⟨g368, 0, none⟩)), (69, .bool (true))]) (hp' := (g368, Cl 43 [.string (s1.Name), .int .i64 (s1.Length), .int .i64 (s1.Mass), .int .i64 (s1.Start), .int .i64 (s1.Power), .int .i64 (s1.Roll), .int .i64 (s1.Drag), .int .i64 (s1.Brake), .int .i64 (s1.Top), .int .i64 (s1.Seats)]) :: R) ⟨rfl, rfl, rfl, rfl, rfl, rfl, rfl, trivial⟩ (.cons_cons _ (.refl _)) ⟨rfl, rfl, (Base.Le.refl _)⟩
            ·
              rw [if_neg hc445] at hm
              refine t_st rfl (st_pick_f rfl rfl) ?_
              refine t_st rfl (st_move rfl) ?_
              refine t_yes 57 rfl rfl rfl ?_
              refine t_st rfl (st_move rfl) ?_
              refine t_yes 57 rfl rfl rfl ?_
              refine t_st rfl (st_move rfl) ?_
              refine t_yes 57 rfl rfl rfl ?_
              obtain ⟨x446, hcl447, hm⟩ := bindS hm
              refine t_do rfl (u_callW0 _ call63 rfl (fun w ho => cGuardWithin _ [] x8 0 x407 x446 hcl447) (fun _ _ _ h => h.2.symm)) ?_
              rintro _ _ ⟨⟨_, rfl, _⟩, rfl⟩
              rcases Bool.eq_false_or_eq_true x446 with hc448 | hc448
              ·
                rw [if_pos hc448] at hm
                refine t_resp 60 rfl (v' := .bool true) (by rw [hc448] <;> rfl) ?_
                refine t_yes 57 rfl rfl rfl ?_
                refine t_st rfl (st_not_t rfl) ?_
                refine t_st rfl (st_pick_f rfl rfl) ?_
                refine t_st rfl (st_move rfl) ?_
                refine t_yes 63 rfl rfl rfl ?_
                refine t_st rfl (st_move rfl) ?_
                refine t_yes 63 rfl rfl rfl ?_
                refine t_st rfl (st_field rfl fld43_8) ?_
                refine t_yes 63 rfl rfl rfl ?_
                refine t_st rfl (st_load 0 rfl one3 rfl rfl) ?_
                refine t_yes 63 rfl rfl rfl ?_
                obtain ⟨x449, hcl450, hm⟩ := bindS hm
                refine t_do rfl (u_callW0 _ call63 rfl (fun w ho => cGuardWithin _ [] x9 0 s1.Top x449 hcl450) (fun _ _ _ h => h.2.symm)) ?_
                rintro _ _ ⟨⟨_, rfl, _⟩, rfl⟩
                refine t_yes 63 rfl rfl rfl ?_
                refine t_st rfl (st_not rfl) ?_
                refine t_st rfl (st_pick_f rfl rfl) ?_
                refine t_nil ?_
                obtain rfl := some1 hm
                exact x_join (e' := [(1, .slice A2 (l5).length c3), (2, .int .i64 (x6)), (3, .int .i64 (x7)), (4, .int .i64 (x8)), (5, .int .i64 (x9)), (6, .pointer (some ⟨g368, 0, none⟩)), (69, .bool (!x449))]) (hp' := (g368, Cl 43 [.string (s1.Name), .int .i64 (s1.Length), .int .i64 (s1.Mass), .int .i64 (s1.Start), .int .i64 (s1.Power), .int .i64 (s1.Roll), .int .i64 (s1.Drag), .int .i64 (s1.Brake), .int .i64 (s1.Top), .int .i64 (s1.Seats)]) :: R) ⟨rfl, rfl, rfl, rfl, rfl, rfl, rfl, trivial⟩ (.cons_cons _ (.refl _)) ⟨rfl, rfl, (Base.Le.refl _)⟩
              ·
                rw [if_neg (fun hh => Bool.noConfusion (hh.symm.trans hc448))] at hm
                refine t_resp 60 rfl (v' := .bool false) (by rw [hc448] <;> rfl) ?_
                refine t_yes 57 rfl rfl rfl ?_
                refine t_st rfl (st_not_f rfl) ?_
                refine t_st rfl (st_pick_f rfl rfl) ?_
                refine t_st rfl (st_move rfl) ?_
                refine t_no 63 rfl rfl rfl rfl rfl ?_
                refine t_no 63 rfl rfl rfl rfl rfl ?_
                refine t_no 63 rfl rfl rfl rfl rfl ?_
                refine t_no 63 rfl rfl rfl rfl rfl ?_
                refine t_no 63 rfl rfl rfl rfl rfl ?_
                refine t_st rfl (st_pick_t rfl rfl) ?_
                refine t_nil ?_
                obtain rfl := some1 hm
                exact x_join (e' := [(1, .slice A2 (l5).length c3), (2, .int .i64 (x6)), (3, .int .i64 (x7)), (4, .int .i64 (x8)), (5, .int .i64 (x9)), (6, .pointer (some ⟨g368, 0, none⟩)), (69, .bool (true))]) (hp' := (g368, Cl 43 [.string (s1.Name), .int .i64 (s1.Length), .int .i64 (s1.Mass), .int .i64 (s1.Start), .int .i64 (s1.Power), .int .i64 (s1.Roll), .int .i64 (s1.Drag), .int .i64 (s1.Brake), .int .i64 (s1.Top), .int .i64 (s1.Seats)]) :: R) ⟨rfl, rfl, rfl, rfl, rfl, rfl, rfl, trivial⟩ (.cons_cons _ (.refl _)) ⟨rfl, rfl, (Base.Le.refl _)⟩
          ·
            rw [if_neg (fun hh => Bool.noConfusion (hh.symm.trans hc444))] at hm
            refine t_resp 49 rfl (v' := .bool false) (by rw [hc444] <;> rfl) ?_
            refine t_yes 46 rfl rfl rfl ?_
            refine t_st rfl (st_not_f rfl) ?_
            refine t_st rfl (st_pick_f rfl rfl) ?_
            refine t_st rfl (st_move rfl) ?_
            refine t_no 52 rfl rfl rfl rfl rfl ?_
            refine t_no 52 rfl rfl rfl rfl rfl ?_
            refine t_no 52 rfl rfl rfl rfl rfl ?_
            refine t_st rfl (st_pick_t rfl rfl) ?_
            refine t_st rfl (st_move rfl) ?_
            refine t_no 57 rfl rfl rfl rfl rfl ?_
            refine t_no 57 rfl rfl rfl rfl rfl ?_
            refine t_no 57 rfl rfl rfl rfl rfl ?_
            refine t_no 57 rfl rfl rfl rfl rfl ?_
            refine t_st rfl (st_pick_t rfl rfl) ?_
            refine t_st rfl (st_move rfl) ?_
            refine t_no 63 rfl rfl rfl rfl rfl ?_
            refine t_no 63 rfl rfl rfl rfl rfl ?_
            refine t_no 63 rfl rfl rfl rfl rfl ?_
            refine t_no 63 rfl rfl rfl rfl rfl ?_
            refine t_no 63 rfl rfl rfl rfl rfl ?_
            refine t_st rfl (st_pick_t rfl rfl) ?_
            refine t_nil ?_
            obtain rfl := some1 hm
            exact x_join (e' := [(1, .slice A2 (l5).length c3), (2, .int .i64 (x6)), (3, .int .i64 (x7)), (4, .int .i64 (x8)), (5, .int .i64 (x9)), (6, .pointer (some ⟨g368, 0, none⟩)), (69, .bool (true))]) (hp' := (g368, Cl 43 [.string (s1.Name), .int .i64 (s1.Length), .int .i64 (s1.Mass), .int .i64 (s1.Start), .int .i64 (s1.Power), .int .i64 (s1.Roll), .int .i64 (s1.Drag), .int .i64 (s1.Brake), .int .i64 (s1.Top), .int .i64 (s1.Seats)]) :: R) ⟨rfl, rfl, rfl, rfl, rfl, rfl, rfl, trivial⟩ (.cons_cons _ (.refl _)) ⟨rfl, rfl, (Base.Le.refl _)⟩
        ·
          rw [if_neg (fun hh => Bool.noConfusion (hh.symm.trans hc441))] at hm
          refine t_resp 44 rfl (v' := .bool false) (by rw [hc441] <;> rfl) ?_
          refine t_st rfl (st_not_f rfl) ?_
          refine t_st rfl (st_move rfl) ?_
          refine t_no 46 rfl rfl rfl rfl rfl ?_
          refine t_no 46 rfl rfl rfl rfl rfl ?_
          refine t_no 46 rfl rfl rfl rfl rfl ?_
          refine t_no 46 rfl rfl rfl rfl rfl ?_
          refine t_st rfl (st_pick_t rfl rfl) ?_
          refine t_st rfl (st_move rfl) ?_
          refine t_no 52 rfl rfl rfl rfl rfl ?_
          refine t_no 52 rfl rfl rfl rfl rfl ?_
          refine t_no 52 rfl rfl rfl rfl rfl ?_
          refine t_st rfl (st_pick_t rfl rfl) ?_
          refine t_st rfl (st_move rfl) ?_
          refine t_no 57 rfl rfl rfl rfl rfl ?_
          refine t_no 57 rfl rfl rfl rfl rfl ?_
          refine t_no 57 rfl rfl rfl rfl rfl ?_
          refine t_no 57 rfl rfl rfl rfl rfl ?_
          refine t_st rfl (st_pick_t rfl rfl) ?_
          refine t_st rfl (st_move rfl) ?_
          refine t_no 63 rfl rfl rfl rfl rfl ?_
          refine t_no 63 rfl rfl rfl rfl rfl ?_
          refine t_no 63 rfl rfl rfl rfl rfl ?_
          refine t_no 63 rfl rfl rfl rfl rfl ?_
          refine t_no 63 rfl rfl rfl rfl rfl ?_
          refine t_st rfl (st_pick_t rfl rfl) ?_
          refine t_nil ?_
          obtain rfl := some1 hm
          exact x_join (e' := [(1, .slice A2 (l5).length c3), (2, .int .i64 (x6)), (3, .int .i64 (x7)), (4, .int .i64 (x8)), (5, .int .i64 (x9)), (6, .pointer (some ⟨g368, 0, none⟩)), (69, .bool (true))]) (hp' := (g368, Cl 43 [.string (s1.Name), .int .i64 (s1.Length), .int .i64 (s1.Mass), .int .i64 (s1.Start), .int .i64 (s1.Power), .int .i64 (s1.Roll), .int .i64 (s1.Drag), .int .i64 (s1.Brake), .int .i64 (s1.Top), .int .i64 (s1.Seats)]) :: R) ⟨rfl, rfl, rfl, rfl, rfl, rfl, rfl, trivial⟩ (.cons_cons _ (.refl _)) ⟨rfl, rfl, (Base.Le.refl _)⟩
      ·
        rintro b435 _ _ ⟨rfl, rfl, hle436⟩
        have hm := hk438
        refine c_cond _ rfl (fun hc451 => ?_) (fun hc451 => ?_)
        ·
          rw [if_pos hc451] at hm
          refine c_seq ?_
          refine c_region ?_
          refine t_st rfl (st_assign rfl) ?_
          refine t_st rfl (st_assign rfl) ?_
          refine t_nil ?_
          refine x_then_normal ?_
          refine c_ret ?_
          refine x_then_ret ?_
          obtain ⟨rfl, rfl⟩ := some2 hm
          exact retM (rs := [.tmp 12, .tmp 13]) [.int .i64 (0), .int .i64 (2)] (hle375.trans (hle406.trans hle436)) (by decide) rfl ⟨rfl, ⟨rfl, trivial⟩⟩ rfl (hp' := R) (.cons _ (.refl _)) ⟨rfl, rfl⟩
        ·
          rw [if_neg (fun hh => Bool.noConfusion (hh.symm.trans hc451))] at hm
          refine c_skip ?_
          refine x_then_normal ?_
          refine c_seq ?_
          refine c_region ?_
          refine t_st rfl (st_loadD (vs := [_, _, _, _, _, _, _, _, _, _]) 0 10 rfl agg43 rfl rfl rfl) ?_
          refine t_st rfl (st_move rfl) ?_
          refine t_do rfl (u_mmap (RT.int .i64) (OT.list 3 (OT.fr (RT.int .i64))) false false [_] R rfl) ?_
          rintro _ _ ⟨g452, hs453, rfl, rfl, h454⟩
          refine t_st rfl (st_build (v := .agg #[.string (s1.Name), .int .i64 (s1.Length), .int .i64 (s1.Mass), .int .i64 (s1.Start), .int .i64 (s1.Power), .int .i64 (s1.Roll), .int .i64 (s1.Drag), .int .i64 (s1.Brake), .int .i64 (s1.Top), .int .i64 (s1.Seats), .slice A2 (l5).length c3, .map (some g452)]) [(0, .agg #[.string (s1.Name), .int .i64 (s1.Length), .int .i64 (s1.Mass), .int .i64 (s1.Start), .int .i64 (s1.Power), .int .i64 (s1.Roll), .int .i64 (s1.Drag), .int .i64 (s1.Brake), .int .i64 (s1.Top), .int .i64 (s1.Seats)]), (1, .slice A2 (l5).length c3), (2, .map (some g452))] rfl (fun _ => by kernel_rfl)) ?_
          refine t_do rfl (u_box _ rfl rfl) ?_
          rintro _ _ ⟨g455, rfl, rfl⟩
          refine t_st rfl (st_assign rfl) ?_
          refine t_nil ?_
          refine x_then_normal ?_
          refine c_seq ?_
          refine c_region ?_
          refine t_st rfl (st_field rfl fld43_8) ?_
          refine t_st rfl (st_load 1 rfl one3 rfl rfl) ?_
          refine t_st rfl (st_assign rfl) ?_
          refine t_nil ?_
          refine x_then_normal ?_
          obtain ⟨x590, hj591, hk591⟩ := bindS hm
          refine c_join (fun b588 e' hp' => [(20, .int .i64 (x590))] = e' ∧ R = hp' ∧ b435.Le b588) ?_ ?_
          ·
            have hm := hj591
            refine c_block ?_
            refine c_loopM (unc2 fun x683 l684 => fun b677 e' hp' => ∃ (g681 : Nat), ∃ (hs680 : Hp), [(2, .int .i64 (x6)), (3, .int .i64 (x7)), (4, .int .i64 (x8)), (5, .int .i64 (x9)), (19, .pointer (some ⟨g455, 0, none⟩)), (20, .int .i64 (x683))] = e' ∧ (g455, Cl 174 [.string (s1.Name), .int .i64 (s1.Length), .int .i64 (s1.Mass), .int .i64 (s1.Start), .int .i64 (s1.Power), .int .i64 (s1.Roll), .int .i64 (s1.Drag), .int .i64 (s1.Brake), .int .i64 (s1.Top), .int .i64 (s1.Seats), .slice A2 (l5).length c3, .map (some g681)]) :: (hs680 ++ R) = hp' ∧ b435.Le b677 ∧ OM (RT.int .i64) (OT.list 3 (OT.fr (RT.int .i64))) false false b677.w g681 l684 hs680) hm (e' := [(2, .int .i64 (x6)), (3, .int .i64 (x7)), (4, .int .i64 (x8)), (5, .int .i64 (x9)), (19, .pointer (some ⟨g455, 0, none⟩)), (20, .int .i64 (s1.Top))]) (hp' := (g455, Cl 174 [.string (s1.Name), .int .i64 (s1.Length), .int .i64 (s1.Mass), .int .i64 (s1.Start), .int .i64 (s1.Power), .int .i64 (s1.Roll), .int .i64 (s1.Drag), .int .i64 (s1.Brake), .int .i64 (s1.Top), .int .i64 (s1.Seats), .slice A2 (l5).length c3, .map (some g452)]) :: (hs453 ++ R)) ⟨rfl, rfl, rfl, rfl, rfl, rfl, trivial⟩ (.cons_cons _ (.cons _ (sub_app hs453 (.refl _)))) ⟨g452, hs453, rfl, rfl, (Base.Le.refl _), h454⟩ ?_
            rintro ⟨x683, l684⟩ b677 _ _ oL592 ⟨g681, hs680, rfl, rfl, hle678, h682⟩ hstepL592 houtL592
            unfold mGuardPermit_L592 at hstepL592
            have hm := (unc2E hstepL592)
            refine c_seq ?_
            obtain ⟨⟨x705, l706⟩, hj707, hk707⟩ := bindS hm
            refine c_join (fun b699 e' hp' => ∃ (g703 : Nat), ∃ (hs702 : Hp), [(2, .int .i64 (x6)), (3, .int .i64 (x7)), (4, .int .i64 (x8)), (5, .int .i64 (x9)), (19, .pointer (some ⟨g455, 0, none⟩)), (20, .int .i64 (x683)), (93, .bool (x705))] = e' ∧ (g455, Cl 174 [.string (s1.Name), .int .i64 (s1.Length), .int .i64 (s1.Mass), .int .i64 (s1.Start), .int .i64 (s1.Power), .int .i64 (s1.Roll), .int .i64 (s1.Drag), .int .i64 (s1.Brake), .int .i64 (s1.Top), .int .i64 (s1.Seats), .slice A2 (l5).length c3, .map (some g703)]) :: (hs702 ++ R) = hp' ∧ b677.Le b699 ∧ OM (RT.int .i64) (OT.list 3 (OT.fr (RT.int .i64))) false false b699.w g703 l706 hs702) ?_ ?_
            ·
              have hm := hj707
              refine c_region ?_
              refine t_st rfl (st_move rfl) ?_
              refine t_bool rfl (st_geq rfl rfl) (fun hc708 => ?_) (fun hc708 => ?_)
              ·
                rw [if_pos hc708] at hm
                refine t_st rfl (st_move rfl) ?_
                refine t_yes 79 rfl rfl rfl ?_
                refine t_st rfl (st_move rfl) ?_
                refine t_yes 79 rfl rfl rfl ?_
                refine t_st rfl (st_move rfl) ?_
                refine t_yes 79 rfl rfl rfl ?_
                refine t_st rfl (st_move rfl) ?_
                refine t_yes 79 rfl rfl rfl ?_
                refine t_st rfl (st_move rfl) ?_
                refine t_yes 79 rfl rfl rfl ?_
                refine t_st rfl (st_move rfl) ?_
                refine t_yes 79 rfl rfl rfl ?_
                obtain ⟨_, h709, hm⟩ := bindS hm
                have h709 := (chk_some h709).2
                refine t_st rfl (st_add rfl rfl h709) ?_
                refine t_yes 79 rfl rfl rfl ?_
                obtain ⟨_, h710, hm⟩ := bindS hm
                have h710 := (chk_some h710).2
                refine t_st rfl (st_add rfl rfl h710) ?_
                refine t_yes 79 rfl rfl rfl ?_
                obtain ⟨_, h711, hm⟩ := bindS hm
                obtain ⟨_, h712, hm⟩ := bindS hm
                have h712 := (chk_some h712).2
                refine t_st rfl (st_quo rfl rfl (ne0_some h711) h712) ?_
                refine t_yes 79 rfl rfl rfl ?_
                obtain ⟨_, h713, hm⟩ := bindS hm
                have h713 := (chk_some h713).2
                refine t_st rfl (st_add rfl rfl h713) ?_
                refine t_yes 79 rfl rfl rfl ?_
                refine t_st rfl (st_move rfl) ?_
                refine t_yes 79 rfl rfl rfl ?_
                refine t_st rfl (st_move rfl) ?_
                refine t_yes 79 rfl rfl rfl ?_
                obtain ⟨⟨x714, l715⟩, hcl716, hm⟩ := bindS hm
                have hm := (unc2E hm)
                refine t_out1 [_] [] hs680 R rfl ?_
                refine t_callG _ rfl call98 rfl (cGuardRuleMay _ _ x6 (x7 + (Int.tdiv ((x9 + x683) + 1) 2)) x8 x683 s1.Name s1.Length s1.Mass s1.Start s1.Power s1.Roll s1.Drag s1.Brake s1.Top s1.Seats l5 l684 g455 A2 c3 g681 hs680 (h4.le (hle375.trans (hle406.trans (hle436.trans hle678)))) h682 x714 l715 hcl716) ?_
                rintro _ b717 _ hle718 ⟨g719, hs720, rfl, rfl, h721⟩
                refine t_in1 [_] [] hs720 R rfl ?_
                refine t_yes 79 rfl rfl rfl ?_
                refine t_st rfl (st_not rfl) ?_
                refine t_st rfl (st_pick_t rfl rfl) ?_
                refine t_nil ?_
                obtain ⟨rfl, rfl⟩ := some2 hm
                exact x_join (e' := [(2, .int .i64 (x6)), (3, .int .i64 (x7)), (4, .int .i64 (x8)), (5, .int .i64 (x9)), (19, .pointer (some ⟨g455, 0, none⟩)), (20, .int .i64 (x683)), (93, .bool (!x714))]) (hp' := (g455, Cl 174 [.string (s1.Name), .int .i64 (s1.Length), .int .i64 (s1.Mass), .int .i64 (s1.Start), .int .i64 (s1.Power), .int .i64 (s1.Roll), .int .i64 (s1.Drag), .int .i64 (s1.Brake), .int .i64 (s1.Top), .int .i64 (s1.Seats), .slice A2 (l5).length c3, .map (some g719)]) :: (hs720 ++ R)) ⟨rfl, rfl, rfl, rfl, rfl, rfl, rfl, trivial⟩ (.cons_cons _ (sub_app hs720 (.refl _))) ⟨g719, hs720, rfl, rfl, hle718, h721⟩
              ·
                rw [if_neg hc708] at hm
                refine t_st rfl (st_move rfl) ?_
                refine t_no 79 rfl rfl rfl rfl rfl ?_
                refine t_no 79 rfl rfl rfl rfl rfl ?_
                refine t_no 79 rfl rfl rfl rfl rfl ?_
                refine t_no 79 rfl rfl rfl rfl rfl ?_
                refine t_no 79 rfl rfl rfl rfl rfl ?_
                refine t_no 79 rfl rfl rfl rfl rfl ?_
                refine t_no 79 rfl rfl rfl rfl rfl ?_
                refine t_no 79 rfl rfl rfl rfl rfl ?_
                refine t_no 79 rfl rfl rfl rfl rfl ?_
                refine t_no 79 rfl rfl rfl rfl rfl ?_
                refine t_no 79 rfl rfl rfl rfl rfl ?_
                refine t_no 79 rfl rfl rfl rfl rfl ?_
                refine t_no 79 rfl rfl rfl rfl rfl ?_
                refine t_st rfl (st_pick_f rfl rfl) ?_
                refine t_nil ?_
                obtain ⟨rfl, rfl⟩ := some2 hm
                exact x_join (e' := [(2, .int .i64 (x6)), (3, .int .i64 (x7)), (4, .int .i64 (x8)), (5, .int .i64 (x9)), (19, .pointer (some ⟨g455, 0, none⟩)), (20, .int .i64 (x683)), (93, .bool (false))]) (hp' := (g455, Cl 174 [.string (s1.Name), .int .i64 (s1.Length), .int .i64 (s1.Mass), .int .i64 (s1.Start), .int .i64 (s1.Power), .int .i64 (s1.Roll), .int .i64 (s1.Drag), .int .i64 (s1.Brake), .int .i64 (s1.Top), .int .i64 (s1.Seats), .slice A2 (l5).length c3, .map (some g681)]) :: (hs680 ++ R)) ⟨rfl, rfl, rfl, rfl, rfl, rfl, rfl, trivial⟩ (.cons_cons _ (sub_app hs680 (.refl _))) ⟨g681, hs680, rfl, rfl, (Base.Le.refl _), h682⟩
            ·
              rintro b699 _ _ ⟨g703, hs702, rfl, rfl, hle700, h704⟩
              have hm := (unc2E hk707)
              refine c_cond _ rfl (fun hc722 => ?_) (fun hc722 => ?_)
              ·
                rw [if_pos hc722] at hm
                refine c_skip ?_
                refine x_then_normal ?_
                refine c_block ?_
                refine c_region ?_
                refine t_st rfl (st_move rfl) ?_
                obtain ⟨_, h723, hm⟩ := bindS hm
                have h723 := (chk_some h723).2
                refine t_st rfl (st_sub rfl rfl h723) ?_
                refine t_st rfl (st_assign rfl) ?_
                refine t_nil ?_
                refine x_block_normal ?_
                exact x_againM (x683 - 1, l706) (Option.some.inj hm).symm (e' := [(2, .int .i64 (x6)), (3, .int .i64 (x7)), (4, .int .i64 (x8)), (5, .int .i64 (x9)), (19, .pointer (some ⟨g455, 0, none⟩)), (20, .int .i64 (x683 - 1))]) (hp' := (g455, Cl 174 [.string (s1.Name), .int .i64 (s1.Length), .int .i64 (s1.Mass), .int .i64 (s1.Start), .int .i64 (s1.Power), .int .i64 (s1.Roll), .int .i64 (s1.Drag), .int .i64 (s1.Brake), .int .i64 (s1.Top), .int .i64 (s1.Seats), .slice A2 (l5).length c3, .map (some g703)]) :: (hs702 ++ R)) ⟨rfl, rfl, rfl, rfl, rfl, rfl, trivial⟩ (.cons_cons _ (sub_app hs702 (.refl _))) ⟨g703, hs702, rfl, rfl, ((hle678.trans hle700)), h704⟩
              ·
                rw [if_neg (fun hh => Bool.noConfusion (hh.symm.trans hc722))] at hm
                refine c_exit ?_
                refine x_then_exit ?_
                refine x_then_exit ?_
                refine x_block_out ?_
                have hm := congrArg some (houtL592 _ (Option.some.inj hm).symm)
                obtain rfl := some1 hm
                exact x_join (e' := [(20, .int .i64 (x683))]) (hp' := R) ⟨rfl, trivial⟩ (.cons _ (sub_skip hs702 (.refl _))) ⟨rfl, rfl, (hle678.trans hle700)⟩
          ·
            rintro b588 _ _ ⟨rfl, rfl, hle589⟩
            have hm := hk591
            refine c_seq ?_
            refine c_region ?_
            refine t_st rfl (st_move rfl) ?_
            refine t_st rfl (st_assign rfl) ?_
            refine t_st rfl (st_assign rfl) ?_
            refine t_nil ?_
            refine x_then_normal ?_
            refine c_ret ?_
            obtain ⟨rfl, rfl⟩ := some2 hm
            exact retM (rs := [.tmp 12, .tmp 13]) [.int .i64 (x590), .int .i64 (0)] (hle375.trans (hle406.trans (hle436.trans hle589))) (by decide) rfl ⟨rfl, ⟨rfl, trivial⟩⟩ rfl (hp' := R) (.refl _) ⟨rfl, rfl⟩

end Go.Proofs.YtljcafilceachaaDoor
