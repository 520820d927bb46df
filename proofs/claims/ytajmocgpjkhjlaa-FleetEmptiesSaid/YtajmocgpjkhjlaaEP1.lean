/- Contracts: the code computes its model (part 1). -/
import Derived.Test.YtajmocgpjkhjlaaET
set_option linter.unusedVariables false
set_option linter.unusedSimpArgs false
namespace Go.Proofs.Ytajmocgpjkhjlaa
open Go.RowKit Go.Fp

set_option maxRecDepth 20000 in
theorem cFleetWithin (b : Base) (R : Hp) (x1 : Int) (x2 : Int) (x3 : Int) (x10 : Bool) (hm : mFleetWithin x1 x2 x3 = some x10) :
    CallsG Try.prog 46 [.int .i64 (x1), .int .i64 (x2), .int .i64 (x3)] b (R) (fun v b' hp' => .bool (x10) = v ∧ R = hp') := by
  refine fn_enterG 15 Try.func46 rfl Try.ntmps46 rfl ?_
  unfold mFleetWithin at hm
  refine c_seq ?_
  refine c_region ?_
  refine t_st rfl (st_assign rfl) ?_
  refine t_nil ?_
  refine x_then_normal ?_
  obtain ⟨x14, hj15, hk15⟩ := bindS hm
  refine c_join (fun b12 e' hp' => [(6, .bool (x14))] = e' ∧ R = hp' ∧ b.Le b12) ?_ ?_
  ·
    have hm := hj15
    refine c_region ?_
    refine t_st rfl (st_move rfl) ?_
    refine t_st rfl (st_move rfl) ?_
    refine t_bool rfl (st_geq rfl rfl) (fun hc16 => ?_) (fun hc16 => ?_)
    ·
      rw [if_pos hc16] at hm
      refine t_st rfl (st_move rfl) ?_
      refine t_yes 10 rfl rfl rfl ?_
      refine t_st rfl (st_move rfl) ?_
      refine t_yes 10 rfl rfl rfl ?_
      refine t_st rfl (st_move rfl) ?_
      refine t_yes 10 rfl rfl rfl ?_
      refine t_st rfl (st_leq rfl rfl) ?_
      refine t_st rfl (st_pick_t rfl rfl) ?_
      refine t_st rfl (st_assign rfl) ?_
      refine t_nil ?_
      obtain rfl := some1 hm
      exact x_join (e' := [(6, .bool (decide (x1 ≤ x3)))]) (hp' := R) ⟨rfl, trivial⟩ (.refl _) ⟨rfl, rfl, (Base.Le.refl _)⟩
    ·
      rw [if_neg hc16] at hm
      refine t_st rfl (st_move rfl) ?_
      refine t_no 10 rfl rfl rfl rfl rfl ?_
      refine t_no 10 rfl rfl rfl rfl rfl ?_
      refine t_no 10 rfl rfl rfl rfl rfl ?_
      refine t_st rfl (st_pick_f rfl rfl) ?_
      refine t_st rfl (st_assign rfl) ?_
      refine t_nil ?_
      obtain rfl := some1 hm
      exact x_join (e' := [(6, .bool (false))]) (hp' := R) ⟨rfl, trivial⟩ (.refl _) ⟨rfl, rfl, (Base.Le.refl _)⟩
  ·
    rintro b12 _ _ ⟨rfl, rfl, hle13⟩
    have hm := hk15
    refine c_ret ?_
    obtain rfl := some1 hm
    exact retM (rs := [.tmp 6]) [.bool (x14)] hle13 (by decide) rfl ⟨rfl, trivial⟩ rfl (hp' := R) (.refl _) ⟨rfl, rfl⟩

set_option maxRecDepth 20000 in
theorem cFleetCheckTasks (b : Base) (R : Hp) (l4 : (List FleetTask)) (A1 : Option Addr) (c2 : Nat) (h3 : FZ rFleetTask b.w A1 c2 l4) (x126 : Int) (hm : mFleetCheckTasks l4 = some x126) :
    CallsG Try.prog 47 [.slice A1 (l4).length c2] b (R) (fun v b' hp' => .int .i64 (x126) = v ∧ R = hp') := by
  refine fn_enterG 55 Try.func47 rfl Try.ntmps47 rfl ?_
  unfold mFleetCheckTasks at hm
  refine c_seq ?_
  refine c_region ?_
  refine t_st rfl (st_assign rfl) ?_
  refine t_nil ?_
  refine x_then_normal ?_
  refine c_seq ?_
  refine c_seq ?_
  refine c_region ?_
  refine t_st rfl (st_move rfl) ?_
  refine t_st rfl (st_len rfl sl22) ?_
  refine t_st rfl (st_gtr rfl rfl) ?_
  refine t_nil ?_
  refine x_then_normal ?_
  refine c_cond _ rfl (fun hc127 => ?_) (fun hc127 => ?_)
  ·
    rw [if_pos (of_decide_eq_true hc127)] at hm
    refine c_seq ?_
    refine c_region ?_
    refine t_st rfl (st_assign rfl) ?_
    refine t_nil ?_
    refine x_then_normal ?_
    refine c_ret ?_
    refine x_then_ret ?_
    obtain rfl := some1 hm
    exact retM (rs := [.tmp 2]) [.int .i64 (4)] (Base.Le.refl _) (by decide) rfl ⟨rfl, trivial⟩ rfl (hp' := R) (.refl _) ⟨rfl, rfl⟩
  ·
    rw [if_neg (of_decide_eq_false hc127)] at hm
    refine c_skip ?_
    refine x_then_normal ?_
    refine c_seq ?_
    refine c_seq ?_
    refine c_region ?_
    refine t_st rfl (st_move rfl) ?_
    refine t_st rfl (st_len rfl sl22) ?_
    refine t_st rfl (st_move rfl) ?_
    refine t_nil ?_
    refine x_then_normal ?_
    refine c_block ?_
    have hb129 := (FZ.bd h3)
    obtain ⟨t187, hl188, hk189⟩ := bindS hm
    refine c_forM (fun k186 => fun _ => fun b184 e' hp' => [(8, .slice A1 (l4).length c2), (9, .int .i64 ((l4.length : Int))), (10, .int .i64 ((k186 : Int)))] = e' ∧ R = hp' ∧ b.Le b184) hl188 (e' := [(8, .slice A1 (l4).length c2), (9, .int .i64 ((l4.length : Int))), (10, .int .i64 0)]) (hp' := R) ⟨rfl, rfl, rfl, trivial⟩ (.refl _) ⟨rfl, rfl, (Base.Le.refl _)⟩ ?_ ?_
    ·
      rintro k186 _ b184 _ _ oL128 hknL128 ⟨rfl, rfl, hle185⟩ hstepL128 houtL128
      unfold mFleetCheckTasks_L128 at hstepL128
      have hm := hstepL128
      refine c_seq ?_
      refine c_region ?_
      refine t_st rfl (st_lss_t rfl rfl (by omega)) ?_
      refine t_nil ?_
      refine x_then_normal ?_
      refine c_seq ?_
      refine c_cond_t rfl ?_
      refine c_skip ?_
      refine x_then_normal ?_
      refine c_seq ?_
      refine c_block ?_
      refine c_seq ?_
      refine c_region ?_
      obtain ⟨x190, h191, hm⟩ := bindS hm
      obtain ⟨j192, hj193, hx194⟩ := idx_some h191
      obtain ⟨cs195, hr196, hcs197, hA198, hlt199⟩ := FZ.get (sz := 6) rfl (by decide) (h3.le hle185) hx194
      obtain ⟨_, _, rfl, rfl, ⟨_, _, rfl, rfl, ⟨_, _, rfl, rfl, ⟨_, _, rfl, rfl, ⟨_, _, rfl, rfl, rfl⟩⟩⟩⟩⟩ := hr196
      refine t_st rfl (st_index_old j192 rfl rfl hj193 hlt199 hA198 sl22) ?_
      refine t_st rfl (st_loadN_old (vs := [.int .i64 (x190.From), .int .i64 (x190.To), .int .i64 (x190.Dep), .int .i64 (x190.Arr), .int .i64 (x190.Km), .int .i64 (x190.Units)]) 6 rfl agg36 hA198 rfl (fun j u hu => hcs197 j u hu)) ?_
      refine t_do rfl (u_alloc [.int .i64 0, .int .i64 0, .int .i64 0, .int .i64 0, .int .i64 0, .int .i64 0] zero36 rfl) ?_
      rintro _ _ ⟨g200, rfl, rfl⟩
      refine t_do rfl (u_storeN (vs := [_, _, _, _, _, _]) 0 6 rfl rfl rfl siz36 rfl (by intro u hu; simp only [List.mem_cons, List.not_mem_nil, or_false] at hu; rcases hu with rfl | rfl | rfl | rfl | rfl | rfl <;> rfl) rfl (by simp)) ?_
      rintro _ _ rfl
      refine t_nil ?_
      refine x_then_normal ?_
      refine c_block ?_
      obtain ⟨x214, hj215, hk215⟩ := bindS hm
      refine c_join (fun b212 e' hp' => [(4, .pointer (some ⟨g200, 0, none⟩)), (8, .slice A1 (l4).length c2), (9, .int .i64 ((l4.length : Int))), (10, .int .i64 ((k186 : Int))), (14, .bool (x214))] = e' ∧ (g200, Cl 36 [.int .i64 (x190.From), .int .i64 (x190.To), .int .i64 (x190.Dep), .int .i64 (x190.Arr), .int .i64 (x190.Km), .int .i64 (x190.Units)]) :: R = hp' ∧ b184.Le b212) ?_ ?_
      ·
        have hm := hj215
        refine c_region ?_
        refine t_st rfl (st_field rfl fld36_0) ?_
        refine t_st rfl (st_load 0 rfl one3 rfl rfl) ?_
        obtain ⟨x216, hcl217, hm⟩ := bindS hm
        refine t_do rfl (u_callW0 _ call46 rfl (fun w ho => cFleetWithin _ [] x190.From 0 11 x216 hcl217) (fun _ _ _ h => h.2.symm)) ?_
        rintro _ _ ⟨⟨_, rfl, _⟩, rfl⟩
        rcases Bool.eq_false_or_eq_true x216 with hc218 | hc218
        ·
          rw [if_pos hc218] at hm
          refine t_resp 17 rfl (v' := .bool true) (by rw [hc218] <;> rfl) ?_
          refine t_st rfl (st_not_t rfl) ?_
          refine t_st rfl (st_move rfl) ?_
          refine t_yes 19 rfl rfl rfl ?_
          refine t_st rfl (st_field rfl fld36_1) ?_
          refine t_yes 19 rfl rfl rfl ?_
          refine t_st rfl (st_load 0 rfl one3 rfl rfl) ?_
          refine t_yes 19 rfl rfl rfl ?_
          obtain ⟨x219, hcl220, hm⟩ := bindS hm
          refine t_do rfl (u_callW0 _ call46 rfl (fun w ho => cFleetWithin _ [] x190.To 0 11 x219 hcl220) (fun _ _ _ h => h.2.symm)) ?_
          rintro _ _ ⟨⟨_, rfl, _⟩, rfl⟩
          rcases Bool.eq_false_or_eq_true x219 with hc221 | hc221
          ·
            rw [if_pos hc221] at hm
            refine t_resp 22 rfl (v' := .bool true) (by rw [hc221] <;> rfl) ?_
            refine t_yes 19 rfl rfl rfl ?_
            refine t_st rfl (st_not_t rfl) ?_
            refine t_st rfl (st_pick_f rfl rfl) ?_
            refine t_st rfl (st_move rfl) ?_
            refine t_yes 25 rfl rfl rfl ?_
            refine t_st rfl (st_field rfl fld36_2) ?_
            refine t_yes 25 rfl rfl rfl ?_
            refine t_st rfl (st_load 0 rfl one3 rfl rfl) ?_
            refine t_yes 25 rfl rfl rfl ?_
            obtain ⟨x222, hcl223, hm⟩ := bindS hm
            refine t_do rfl (u_callW0 _ call46 rfl (fun w ho => cFleetWithin _ [] x190.Dep 0 28800 x222 hcl223) (fun _ _ _ h => h.2.symm)) ?_
            rintro _ _ ⟨⟨_, rfl, _⟩, rfl⟩
            rcases Bool.eq_false_or_eq_true x222 with hc224 | hc224
            ·
              rw [if_pos hc224] at hm
              refine t_resp 28 rfl (v' := .bool true) (by rw [hc224] <;> rfl) ?_
              refine t_yes 25 rfl rfl rfl ?_
              refine t_st rfl (st_not_t rfl) ?_
              refine t_st rfl (st_pick_f rfl rfl) ?_
              refine t_st rfl (st_move rfl) ?_
              refine t_yes 31 rfl rfl rfl ?_
              refine t_st rfl (st_field rfl fld36_3) ?_
              refine t_yes 31 rfl rfl rfl ?_
              refine t_st rfl (st_load 0 rfl one3 rfl rfl) ?_
              refine t_yes 31 rfl rfl rfl ?_
              obtain ⟨x225, hcl226, hm⟩ := bindS hm
              refine t_do rfl (u_callW0 _ call46 rfl (fun w ho => cFleetWithin _ [] x190.Arr 0 28800 x225 hcl226) (fun _ _ _ h => h.2.symm)) ?_
              rintro _ _ ⟨⟨_, rfl, _⟩, rfl⟩
              refine t_yes 31 rfl rfl rfl ?_
              refine t_st rfl (st_not rfl) ?_
              refine t_st rfl (st_pick_f rfl rfl) ?_
              refine t_st rfl (st_assign rfl) ?_
              refine t_nil ?_
              obtain rfl := some1 hm
              exact x_join (e' := [(4, .pointer (some ⟨g200, 0, none⟩)), (8, .slice A1 (l4).length c2), (9, .int .i64 ((l4.length : Int))), (10, .int .i64 ((k186 : Int))), (14, .bool (!x225))]) (hp' := (g200, Cl 36 [.int .i64 (x190.From), .int .i64 (x190.To), .int .i64 (x190.Dep), .int .i64 (x190.Arr), .int .i64 (x190.Km), .int .i64 (x190.Units)]) :: R) ⟨rfl, rfl, rfl, rfl, rfl, trivial⟩ (.cons_cons _ (.refl _)) ⟨rfl, rfl, (Base.Le.refl _)⟩
            ·
              rw [if_neg (fun hh => Bool.noConfusion (hh.symm.trans hc224))] at hm
              refine t_resp 28 rfl (v' := .bool false) (by rw [hc224] <;> rfl) ?_
              refine t_yes 25 rfl rfl rfl ?_
              refine t_st rfl (st_not_f rfl) ?_
              refine t_st rfl (st_pick_f rfl rfl) ?_
              refine t_st rfl (st_move rfl) ?_
              refine t_no 31 rfl rfl rfl rfl rfl ?_
              refine t_no 31 rfl rfl rfl rfl rfl ?_
              refine t_no 31 rfl rfl rfl rfl rfl ?_
              refine t_no 31 rfl rfl rfl rfl rfl ?_
              refine t_st rfl (st_pick_t rfl rfl) ?_
              refine t_st rfl (st_assign rfl) ?_
              refine t_nil ?_
              obtain rfl := some1 hm
              exact x_join (e' := [(4, .pointer (some ⟨g200, 0, none⟩)), (8, .slice A1 (l4).length c2), (9, .int .i64 ((l4.length : Int))), (10, .int .i64 ((k186 : Int))), (14, .bool (true))]) (hp' := (g200, Cl 36 [.int .i64 (x190.From), .int .i64 (x190.To), .int .i64 (x190.Dep), .int .i64 (x190.Arr), .int .i64 (x190.Km), .int .i64 (x190.Units)]) :: R) ⟨rfl, rfl, rfl, rfl, rfl, trivial⟩ (.cons_cons _ (.refl _)) ⟨rfl, rfl, (Base.Le.refl _)⟩
          ·
            rw [if_neg (fun hh => Bool.noConfusion (hh.symm.trans hc221))] at hm
            refine t_resp 22 rfl (v' := .bool false) (by rw [hc221] <;> rfl) ?_
            refine t_yes 19 rfl rfl rfl ?_
            refine t_st rfl (st_not_f rfl) ?_
            refine t_st rfl (st_pick_f rfl rfl) ?_
            refine t_st rfl (st_move rfl) ?_
            refine t_no 25 rfl rfl rfl rfl rfl ?_
            refine t_no 25 rfl rfl rfl rfl rfl ?_
            refine t_no 25 rfl rfl rfl rfl rfl ?_
            refine t_no 25 rfl rfl rfl rfl rfl ?_
            refine t_st rfl (st_pick_t rfl rfl) ?_
            refine t_st rfl (st_move rfl) ?_
            refine t_no 31 rfl rfl rfl rfl rfl ?_
            refine t_no 31 rfl rfl rfl rfl rfl ?_
            refine t_no 31 rfl rfl rfl rfl rfl ?_
            refine t_no 31 rfl rfl rfl rfl rfl ?_
            refine t_st rfl (st_pick_t rfl rfl) ?_
            refine t_st rfl (st_assign rfl) ?_
            refine t_nil ?_
            obtain rfl := some1 hm
            exact x_join (e' := [(4, .pointer (some ⟨g200, 0, none⟩)), (8, .slice A1 (l4).length c2), (9, .int .i64 ((l4.length : Int))), (10, .int .i64 ((k186 : Int))), (14, .bool (true))]) (hp' := (g200, Cl 36 [.int .i64 (x190.From), .int .i64 (x190.To), .int .i64 (x190.Dep), .int .i64 (x190.Arr), .int .i64 (x190.Km), .int .i64 (x190.Units)]) :: R) ⟨rfl, rfl, rfl, rfl, rfl, trivial⟩ (.cons_cons _ (.refl _)) ⟨rfl, rfl, (Base.Le.refl _)⟩
        ·
          rw [if_neg (fun hh => Bool.noConfusion (hh.symm.trans hc218))] at hm
          refine t_resp 17 rfl (v' := .bool false) (by rw [hc218] <;> rfl) ?_
          refine t_st rfl (st_not_f rfl) ?_
          refine t_st rfl (st_move rfl) ?_
          refine t_no 19 rfl rfl rfl rfl rfl ?_
          refine t_no 19 rfl rfl rfl rfl rfl ?_
          refine t_no 19 rfl rfl rfl rfl rfl ?_
          refine t_no 19 rfl rfl rfl rfl rfl ?_
          refine t_st rfl (st_pick_t rfl rfl) ?_
          refine t_st rfl (st_move rfl) ?_
          refine t_no 25 rfl rfl rfl rfl rfl ?_
          refine t_no 25 rfl rfl rfl rfl rfl ?_
          refine t_no 25 rfl rfl rfl rfl rfl ?_
          refine t_no 25 rfl rfl rfl rfl rfl ?_
          refine t_st rfl (st_pick_t rfl rfl) ?_
          refine t_st rfl (st_move rfl) ?_
          refine t_no 31 rfl rfl rfl rfl rfl ?_
          refine t_no 31 rfl rfl rfl rfl rfl ?_
          refine t_no 31 rfl rfl rfl rfl rfl ?_
          refine t_no 31 rfl rfl rfl rfl rfl ?_
          refine t_st rfl (st_pick_t rfl rfl) ?_
          refine t_st rfl (st_assign rfl) ?_
          refine t_nil ?_
          obtain rfl := some1 hm
          exact x_join (e' := [(4, .pointer (some ⟨g200, 0, none⟩)), (8, .slice A1 (l4).length c2), (9, .int .i64 ((l4.length : Int))), (10, .int .i64 ((k186 : Int))), (14, .bool (true))]) (hp' := (g200, Cl 36 [.int .i64 (x190.From), .int .i64 (x190.To), .int .i64 (x190.Dep), .int .i64 (x190.Arr), .int .i64 (x190.Km), .int .i64 (x190.Units)]) :: R) ⟨rfl, rfl, rfl, rfl, rfl, trivial⟩ (.cons_cons _ (.refl _)) ⟨rfl, rfl, (Base.Le.refl _)⟩
      ·
        rintro b212 _ _ ⟨rfl, rfl, hle213⟩
        have hm := hk215
        refine c_cond _ rfl (fun hc227 => ?_) (fun hc227 => ?_)
        ·
          rw [if_pos hc227] at hm
          refine c_seq ?_
          refine c_region ?_
          refine t_st rfl (st_assign rfl) ?_
          refine t_nil ?_
          refine x_then_normal ?_
          refine c_ret ?_
          refine x_block_ret ?_
          refine x_block_ret ?_
          refine x_then_ret ?_
          refine x_then_ret ?_
          refine x_block_ret ?_
          refine x_then_ret ?_
          have hq228 := houtL128 _ (Option.some.inj hm).symm
          rw [hq228] at hk189
          have hm := elimR hk189
          obtain rfl := some1 hm
          exact retM (rs := [.tmp 2]) [.int .i64 (2)] (hle185.trans hle213) (by decide) rfl ⟨rfl, trivial⟩ rfl (hp' := R) (.cons _ (.refl _)) ⟨rfl, rfl⟩
        ·
          rw [if_neg (fun hh => Bool.noConfusion (hh.symm.trans hc227))] at hm
          refine c_seq ?_
          refine c_region ?_
          refine t_st rfl (st_field rfl fld36_3) ?_
          refine t_st rfl (st_load 0 rfl one3 rfl rfl) ?_
          refine t_st rfl (st_field rfl fld36_2) ?_
          refine t_st rfl (st_load 0 rfl one3 rfl rfl) ?_
          refine t_st rfl (st_leq rfl rfl) ?_
          refine t_st rfl (st_assign rfl) ?_
          refine t_nil ?_
          refine x_then_normal ?_
          refine c_cond _ rfl (fun hc229 => ?_) (fun hc229 => ?_)
          ·
            rw [if_pos (of_decide_eq_true hc229)] at hm
            refine c_seq ?_
            refine c_region ?_
            refine t_st rfl (st_assign rfl) ?_
            refine t_nil ?_
            refine x_then_normal ?_
            refine c_ret ?_
            refine x_block_ret ?_
            refine x_block_ret ?_
            refine x_then_ret ?_
            refine x_then_ret ?_
            refine x_block_ret ?_
            refine x_then_ret ?_
            have hq230 := houtL128 _ (Option.some.inj hm).symm
            rw [hq230] at hk189
            have hm := elimR hk189
            obtain rfl := some1 hm
            exact retM (rs := [.tmp 2]) [.int .i64 (13)] (hle185.trans hle213) (by decide) rfl ⟨rfl, trivial⟩ rfl (hp' := R) (.cons _ (.refl _)) ⟨rfl, rfl⟩
          ·
            rw [if_neg (of_decide_eq_false hc229)] at hm
            obtain ⟨x238, hj239, hk239⟩ := bindS hm
            refine c_join (fun b236 e' hp' => [(8, .slice A1 (l4).length c2), (9, .int .i64 ((l4.length : Int))), (10, .int .i64 ((k186 : Int))), (43, .bool (x238))] = e' ∧ R = hp' ∧ b212.Le b236) ?_ ?_
            ·
              have hm := hj239
              refine c_region ?_
              refine t_st rfl (st_field rfl fld36_4) ?_
              refine t_st rfl (st_load 0 rfl one3 rfl rfl) ?_
              obtain ⟨x240, hcl241, hm⟩ := bindS hm
              refine t_do rfl (u_callW0 _ call46 rfl (fun w ho => cFleetWithin _ [] x190.Km 0 10000 x240 hcl241) (fun _ _ _ h => h.2.symm)) ?_
              rintro _ _ ⟨⟨_, rfl, _⟩, rfl⟩
              rcases Bool.eq_false_or_eq_true x240 with hc242 | hc242
              ·
                rw [if_pos hc242] at hm
                refine t_resp 46 rfl (v' := .bool true) (by rw [hc242] <;> rfl) ?_
                refine t_st rfl (st_not_t rfl) ?_
                refine t_st rfl (st_move rfl) ?_
                refine t_yes 48 rfl rfl rfl ?_
                refine t_st rfl (st_field rfl fld36_5) ?_
                refine t_yes 48 rfl rfl rfl ?_
                refine t_st rfl (st_load 0 rfl one3 rfl rfl) ?_
                refine t_yes 48 rfl rfl rfl ?_
                obtain ⟨x243, hcl244, hm⟩ := bindS hm
                refine t_do rfl (u_callW0 _ call46 rfl (fun w ho => cFleetWithin _ [] x190.Units 1 4 x243 hcl244) (fun _ _ _ h => h.2.symm)) ?_
                rintro _ _ ⟨⟨_, rfl, _⟩, rfl⟩
                refine t_yes 48 rfl rfl rfl ?_
                refine t_st rfl (st_not rfl) ?_
                refine t_st rfl (st_pick_f rfl rfl) ?_
                refine t_st rfl (st_assign rfl) ?_
                refine t_nil ?_
                obtain rfl := some1 hm
                exact x_join (e' := [(8, .slice A1 (l4).length c2), (9, .int .i64 ((l4.length : Int))), (10, .int .i64 ((k186 : Int))), (43, .bool (!x243))]) (hp' := R) ⟨rfl, rfl, rfl, rfl, trivial⟩ (.cons _ (.refl _)) ⟨rfl, rfl, (Base.Le.refl _)⟩
              ·
                rw [if_neg (fun hh => Bool.noConfusion (hh.symm.trans hc242))] at hm
                refine t_resp 46 rfl (v' := .bool false) (by rw [hc242] <;> rfl) ?_
                refine t_st rfl (st_not_f rfl) ?_
                refine t_st rfl (st_move rfl) ?_
                refine t_no 48 rfl rfl rfl rfl rfl ?_
                refine t_no 48 rfl rfl rfl rfl rfl ?_
                refine t_no 48 rfl rfl rfl rfl rfl ?_
                refine t_no 48 rfl rfl rfl rfl rfl ?_
                refine t_st rfl (st_pick_t rfl rfl) ?_
                refine t_st rfl (st_assign rfl) ?_
                refine t_nil ?_
                obtain rfl := some1 hm
                exact x_join (e' := [(8, .slice A1 (l4).length c2), (9, .int .i64 ((l4.length : Int))), (10, .int .i64 ((k186 : Int))), (43, .bool (true))]) (hp' := R) ⟨rfl, rfl, rfl, rfl, trivial⟩ (.cons _ (.refl _)) ⟨rfl, rfl, (Base.Le.refl _)⟩
            ·
              rintro b236 _ _ ⟨rfl, rfl, hle237⟩
              have hm := hk239
              refine c_cond _ rfl (fun hc245 => ?_) (fun hc245 => ?_)
              ·
                rw [if_pos hc245] at hm
                refine c_seq ?_
                refine c_region ?_
                refine t_st rfl (st_assign rfl) ?_
                refine t_nil ?_
                refine x_then_normal ?_
                refine c_ret ?_
                refine x_block_ret ?_
                refine x_block_ret ?_
                refine x_then_ret ?_
                refine x_then_ret ?_
                refine x_block_ret ?_
                refine x_then_ret ?_
                have hq246 := houtL128 _ (Option.some.inj hm).symm
                rw [hq246] at hk189
                have hm := elimR hk189
                obtain rfl := some1 hm
                exact retM (rs := [.tmp 2]) [.int .i64 (2)] (hle185.trans (hle213.trans hle237)) (by decide) rfl ⟨rfl, trivial⟩ rfl (hp' := R) (.refl _) ⟨rfl, rfl⟩
              ·
                rw [if_neg (fun hh => Bool.noConfusion (hh.symm.trans hc245))] at hm
                refine c_skip ?_
                refine x_block_normal ?_
                refine x_block_normal ?_
                refine x_then_normal ?_
                refine c_region ?_
                refine t_st rfl (st_add rfl rfl (by omega)) ?_
                refine t_st rfl (st_move rfl) ?_
                refine t_nil ?_
                exact x_againM () (Option.some.inj hm).symm (e' := [(8, .slice A1 (l4).length c2), (9, .int .i64 ((l4.length : Int))), (10, .int .i64 ((k186 : Int) + 1))]) (hp' := R) ⟨rfl, rfl, rfl, trivial⟩ (.refl _) ⟨rfl, rfl, ((hle185.trans (hle213.trans hle237)))⟩
    ·
      rintro _ b184 _ _ ⟨rfl, rfl, hle185⟩ hq247
      rw [hq247] at hk189
      have hm := elimL hk189
      refine c_seq ?_
      refine c_region ?_
      refine t_st rfl (st_lss_f rfl rfl (by omega)) ?_
      refine t_nil ?_
      refine x_then_normal ?_
      refine c_seq ?_
      refine c_cond_f rfl ?_
      refine c_exit ?_
      refine x_then_exit ?_
      refine x_then_exit ?_
      refine x_block_out ?_
      refine x_then_normal ?_
      refine c_seq ?_
      refine c_region ?_
      refine t_st rfl (st_assign rfl) ?_
      refine t_nil ?_
      refine x_then_normal ?_
      refine c_ret ?_
      obtain rfl := some1 hm
      exact retM (rs := [.tmp 2]) [.int .i64 (0)] hle185 (by decide) rfl ⟨rfl, trivial⟩ rfl (hp' := R) (.refl _) ⟨rfl, rfl⟩

set_option maxRecDepth 20000 in
theorem cFleetCheckTurn (b : Base) (R : Hp) (l4 : (List FleetTask)) (x5 : Int) (A1 : Option Addr) (c2 : Nat) (h3 : FZ rFleetTask b.w A1 c2 l4) (x12 : Int) (hm : mFleetCheckTurn l4 x5 = some x12) :
    CallsG Try.prog 43 [.slice A1 (l4).length c2, .int .i64 (x5)] b (R) (fun v b' hp' => .int .i64 (x12) = v ∧ R = hp') := by
  refine fn_enterG 14 Try.func43 rfl Try.ntmps43 rfl ?_
  unfold mFleetCheckTurn at hm
  refine c_seq ?_
  refine c_region ?_
  refine t_st rfl (st_assign rfl) ?_
  refine t_nil ?_
  refine x_then_normal ?_
  refine c_seq ?_
  refine c_seq ?_
  refine c_region ?_
  refine t_st rfl (st_move rfl) ?_
  obtain ⟨x13, hcl14, hm⟩ := bindS hm
  refine t_do rfl (u_callW0 _ call47 rfl (fun w ho => cFleetCheckTasks _ [] l4 A1 c2 (h3.old ho) x13 hcl14) (fun _ _ _ h => h.2.symm)) ?_
  rintro _ _ ⟨⟨_, rfl, _⟩, rfl⟩
  refine t_st rfl (st_assign rfl) ?_
  refine t_nil ?_
  refine x_then_normal ?_
  refine c_seq ?_
  refine c_region ?_
  refine t_st rfl (st_move rfl) ?_
  refine t_st rfl (st_neq rfl rfl) ?_
  refine t_nil ?_
  refine x_then_normal ?_
  refine c_cond _ rfl (fun hc15 => ?_) (fun hc15 => ?_)
  ·
    rw [if_pos (of_decide_eq_true hc15)] at hm
    refine c_seq ?_
    refine c_region ?_
    refine t_st rfl (st_move rfl) ?_
    refine t_st rfl (st_assign rfl) ?_
    refine t_nil ?_
    refine x_then_normal ?_
    refine c_ret ?_
    refine x_then_ret ?_
    obtain rfl := some1 hm
    exact retM (rs := [.tmp 4]) [.int .i64 (x13)] (Base.Le.refl _) (by decide) rfl ⟨rfl, trivial⟩ rfl (hp' := R) (.refl _) ⟨rfl, rfl⟩
  ·
    rw [if_neg (of_decide_eq_false hc15)] at hm
    refine c_skip ?_
    refine x_then_normal ?_
    refine c_seq ?_
    refine c_seq ?_
    refine c_region ?_
    refine t_st rfl (st_move rfl) ?_
    obtain ⟨x16, hcl17, hm⟩ := bindS hm
    refine t_do rfl (u_callW0 _ call46 rfl (fun w ho => cFleetWithin _ [] x5 0 28800 x16 hcl17) (fun _ _ _ h => h.2.symm)) ?_
    rintro _ _ ⟨⟨_, rfl, _⟩, rfl⟩
    refine t_st rfl (st_not rfl) ?_
    refine t_nil ?_
    refine x_then_normal ?_
    refine c_cond _ rfl (fun hc18 => ?_) (fun hc18 => ?_)
    ·
      rw [if_neg (fun hh => Bool.noConfusion (hh.symm.trans (notT hc18)))] at hm
      refine c_seq ?_
      refine c_region ?_
      refine t_st rfl (st_assign rfl) ?_
      refine t_nil ?_
      refine x_then_normal ?_
      refine c_ret ?_
      refine x_then_ret ?_
      obtain rfl := some1 hm
      exact retM (rs := [.tmp 4]) [.int .i64 (2)] (Base.Le.refl _) (by decide) rfl ⟨rfl, trivial⟩ rfl (hp' := R) (.refl _) ⟨rfl, rfl⟩
    ·
      rw [if_pos (notF hc18)] at hm
      refine c_skip ?_
      refine x_then_normal ?_
      refine c_seq ?_
      refine c_region ?_
      refine t_st rfl (st_assign rfl) ?_
      refine t_nil ?_
      refine x_then_normal ?_
      refine c_ret ?_
      obtain rfl := some1 hm
      exact retM (rs := [.tmp 4]) [.int .i64 (0)] (Base.Le.refl _) (by decide) rfl ⟨rfl, trivial⟩ rfl (hp' := R) (.refl _) ⟨rfl, rfl⟩

set_option maxRecDepth 20000 in
theorem cCmpIsNaN (b : Base) (R : Hp) (x1 : Int) (x2 : Bool) (hm : mCmpIsNaN x1 = some x2) :
    CallsG Try.prog 103 [.int .i64 (x1)] b (R) (fun v b' hp' => .bool (x2) = v ∧ R = hp') := by
  refine fn_enterG 6 Try.func103 rfl Try.ntmps103 rfl ?_
  unfold mCmpIsNaN at hm
  refine c_seq ?_
  refine c_region ?_
  refine t_st rfl (st_assign rfl) ?_
  refine t_nil ?_
  refine x_then_normal ?_
  refine c_seq ?_
  refine c_region ?_
  refine t_st rfl (st_move rfl) ?_
  refine t_st rfl (st_move rfl) ?_
  refine t_st rfl (st_neq rfl rfl) ?_
  refine t_st rfl (st_assign rfl) ?_
  refine t_nil ?_
  refine x_then_normal ?_
  refine c_ret ?_
  obtain rfl := some1 hm
  exact retM (rs := [.tmp 2]) [.bool (decide (x1 ≠ x1))] (Base.Le.refl _) (by decide) rfl ⟨rfl, trivial⟩ rfl (hp' := R) (.refl _) ⟨rfl, rfl⟩

set_option maxRecDepth 20000 in
theorem cCmpCompare (b : Base) (R : Hp) (x1 : Int) (x2 : Int) (x12 : Int) (hm : mCmpCompare x1 x2 = some x12) :
    CallsG Try.prog 81 [.int .i64 (x1), .int .i64 (x2)] b (R) (fun v b' hp' => .int .i64 (x12) = v ∧ R = hp') := by
  refine fn_enterG 20 Try.func81 rfl Try.ntmps81 rfl ?_
  unfold mCmpCompare at hm
  refine c_seq ?_
  refine c_region ?_
  refine t_st rfl (st_assign rfl) ?_
  refine t_nil ?_
  refine x_then_normal ?_
  refine c_seq ?_
  refine c_region ?_
  refine t_st rfl (st_move rfl) ?_
  obtain ⟨x13, hcl14, hm⟩ := bindS hm
  refine t_do rfl (u_callW0 _ call103 rfl (fun w ho => cCmpIsNaN _ [] x1 x13 hcl14) (fun _ _ _ h => h.2.symm)) ?_
  rintro _ _ ⟨⟨_, rfl, _⟩, rfl⟩
  refine t_st rfl (st_assign rfl) ?_
  refine t_nil ?_
  refine x_then_normal ?_
  refine c_seq ?_
  refine c_region ?_
  refine t_st rfl (st_move rfl) ?_
  obtain ⟨x15, hcl16, hm⟩ := bindS hm
  refine t_do rfl (u_callW0 _ call103 rfl (fun w ho => cCmpIsNaN _ [] x2 x15 hcl16) (fun _ _ _ h => h.2.symm)) ?_
  rintro _ _ ⟨⟨_, rfl, _⟩, rfl⟩
  refine t_st rfl (st_assign rfl) ?_
  refine t_nil ?_
  refine x_then_normal ?_
  refine c_seq ?_
  refine c_seq ?_
  refine c_region ?_
  refine t_st rfl (st_move rfl) ?_
  refine t_nil ?_
  refine x_then_normal ?_
  refine c_cond _ rfl (fun hc17 => ?_) (fun hc17 => ?_)
  ·
    rw [if_pos hc17] at hm
    refine c_seq ?_
    refine c_seq ?_
    refine c_region ?_
    refine t_st rfl (st_move rfl) ?_
    refine t_nil ?_
    refine x_then_normal ?_
    refine c_cond _ rfl (fun hc18 => ?_) (fun hc18 => ?_)
    ·
      rw [if_pos hc18] at hm
      refine c_seq ?_
      refine c_region ?_
      refine t_st rfl (st_assign rfl) ?_
      refine t_nil ?_
      refine x_then_normal ?_
      refine c_ret ?_
      refine x_then_ret ?_
      refine x_then_ret ?_
      obtain rfl := some1 hm
      exact retM (rs := [.tmp 4]) [.int .i64 (0)] (Base.Le.refl _) (by decide) rfl ⟨rfl, trivial⟩ rfl (hp' := R) (.refl _) ⟨rfl, rfl⟩
    ·
      rw [if_neg (fun hh => Bool.noConfusion (hh.symm.trans hc18))] at hm
      refine c_skip ?_
      refine x_then_normal ?_
      refine c_seq ?_
      refine c_region ?_
      refine t_st rfl (st_assign rfl) ?_
      refine t_nil ?_
      refine x_then_normal ?_
      refine c_ret ?_
      refine x_then_ret ?_
      obtain rfl := some1 hm
      exact retM (rs := [.tmp 4]) [.int .i64 ((-1))] (Base.Le.refl _) (by decide) rfl ⟨rfl, trivial⟩ rfl (hp' := R) (.refl _) ⟨rfl, rfl⟩
  ·
    rw [if_neg (fun hh => Bool.noConfusion (hh.symm.trans hc17))] at hm
    refine c_skip ?_
    refine x_then_normal ?_
    refine c_seq ?_
    refine c_seq ?_
    refine c_region ?_
    refine t_st rfl (st_move rfl) ?_
    refine t_nil ?_
    refine x_then_normal ?_
    refine c_cond _ rfl (fun hc19 => ?_) (fun hc19 => ?_)
    ·
      rw [if_pos hc19] at hm
      refine c_seq ?_
      refine c_region ?_
      refine t_st rfl (st_assign rfl) ?_
      refine t_nil ?_
      refine x_then_normal ?_
      refine c_ret ?_
      refine x_then_ret ?_
      obtain rfl := some1 hm
      exact retM (rs := [.tmp 4]) [.int .i64 (1)] (Base.Le.refl _) (by decide) rfl ⟨rfl, trivial⟩ rfl (hp' := R) (.refl _) ⟨rfl, rfl⟩
    ·
      rw [if_neg (fun hh => Bool.noConfusion (hh.symm.trans hc19))] at hm
      refine c_skip ?_
      refine x_then_normal ?_
      refine c_seq ?_
      refine c_seq ?_
      refine c_region ?_
      refine t_st rfl (st_move rfl) ?_
      refine t_st rfl (st_move rfl) ?_
      refine t_st rfl (st_lss rfl rfl) ?_
      refine t_nil ?_
      refine x_then_normal ?_
      refine c_cond _ rfl (fun hc20 => ?_) (fun hc20 => ?_)
      ·
        rw [if_pos (of_decide_eq_true hc20)] at hm
        refine c_seq ?_
        refine c_region ?_
        refine t_st rfl (st_assign rfl) ?_
        refine t_nil ?_
        refine x_then_normal ?_
        refine c_ret ?_
        refine x_then_ret ?_
        obtain rfl := some1 hm
        exact retM (rs := [.tmp 4]) [.int .i64 ((-1))] (Base.Le.refl _) (by decide) rfl ⟨rfl, trivial⟩ rfl (hp' := R) (.refl _) ⟨rfl, rfl⟩
      ·
        rw [if_neg (of_decide_eq_false hc20)] at hm
        refine c_skip ?_
        refine x_then_normal ?_
        refine c_seq ?_
        refine c_seq ?_
        refine c_region ?_
        refine t_st rfl (st_move rfl) ?_
        refine t_st rfl (st_move rfl) ?_
        refine t_st rfl (st_gtr rfl rfl) ?_
        refine t_nil ?_
        refine x_then_normal ?_
        refine c_cond _ rfl (fun hc21 => ?_) (fun hc21 => ?_)
        ·
          rw [if_pos (of_decide_eq_true hc21)] at hm
          refine c_seq ?_
          refine c_region ?_
          refine t_st rfl (st_assign rfl) ?_
          refine t_nil ?_
          refine x_then_normal ?_
          refine c_ret ?_
          refine x_then_ret ?_
          obtain rfl := some1 hm
          exact retM (rs := [.tmp 4]) [.int .i64 (1)] (Base.Le.refl _) (by decide) rfl ⟨rfl, trivial⟩ rfl (hp' := R) (.refl _) ⟨rfl, rfl⟩
        ·
          rw [if_neg (of_decide_eq_false hc21)] at hm
          refine c_skip ?_
          refine x_then_normal ?_
          refine c_seq ?_
          refine c_region ?_
          refine t_st rfl (st_assign rfl) ?_
          refine t_nil ?_
          refine x_then_normal ?_
          refine c_ret ?_
          obtain rfl := some1 hm
          exact retM (rs := [.tmp 4]) [.int .i64 (0)] (Base.Le.refl _) (by decide) rfl ⟨rfl, trivial⟩ rfl (hp' := R) (.refl _) ⟨rfl, rfl⟩

set_option maxRecDepth 20000 in
theorem cFleetOrder_1 (b : Base) (R : Hp) (x2 : Int) (x3 : Int) (l7 : (List FleetTask)) (g1 : Nat) (A4 : Option Addr) (c5 : Nat) (h6 : FZ rFleetTask b.w A4 c5 l7) (x52 : Int) (hm : mFleetOrder_1 x2 x3 l7 = some x52) :
    CallsG Try.prog 80 [.int .i64 (x2), .int .i64 (x3), .pointer (some ⟨g1, 0, none⟩)] b ((g1, Cl 22 [.slice A4 (l7).length c5]) :: R) (fun v b' hp' => .int .i64 (x52) = v ∧ (g1, Cl 22 [.slice A4 (l7).length c5]) :: R = hp') := by
  refine fn_enterG 17 Try.func80 rfl Try.ntmps80 rfl ?_
  unfold mFleetOrder_1 at hm
  refine c_seq ?_
  refine c_region ?_
  refine t_st rfl (st_assign rfl) ?_
  refine t_nil ?_
  refine x_then_normal ?_
  refine c_seq ?_
  obtain ⟨x75, h76, hm⟩ := bindS hm
  obtain ⟨x85, h86, hm⟩ := bindS hm
  obtain ⟨x95, hcl96, hm⟩ := bindS hm
  refine D_drawS ((g1, Cl 22 [.slice A4 (l7).length c5]) :: R) mixed ?_
  refine D_st (Base.Le.refl _) 0 rfl (by kernel_rfl) (by kernel_rfl) (by kernel_rfl) rfl (st_load 0 rfl one22 rfl rfl) (.cons_cons _ (.refl _)) ?_
  refine D_st (Base.Le.refl _) 1 rfl (by kernel_rfl) (by kernel_rfl) (by kernel_rfl) rfl (st_move rfl) (.cons_cons _ (.refl _)) ?_
  obtain ⟨j77, hj78, hx79⟩ := idx_some h76
  obtain ⟨cs80, hr81, hcs82, hA83, hlt84⟩ := FZ.get (sz := 6) rfl (by decide) h6 hx79
  obtain ⟨_, _, rfl, rfl, ⟨_, _, rfl, rfl, ⟨_, _, rfl, rfl, ⟨_, _, rfl, rfl, ⟨_, _, rfl, rfl, rfl⟩⟩⟩⟩⟩ := hr81
  refine D_st (Base.Le.refl _) 2 rfl (by kernel_rfl) (by kernel_rfl) (by kernel_rfl) rfl (st_index_old j77 rfl rfl hj78 hlt84 hA83 sl22) (.cons_cons _ (.refl _)) ?_
  refine D_st (Base.Le.refl _) 3 rfl (by kernel_rfl) (by kernel_rfl) (by kernel_rfl) rfl (st_field_old rfl hA83 fld36_2) (.cons_cons _ (.refl _)) ?_
  refine D_st (Base.Le.refl _) 4 rfl (by kernel_rfl) (by kernel_rfl) (by kernel_rfl) rfl (st_load_old rfl one3 (hcs82 2 _ rfl)) (.cons_cons _ (.refl _)) ?_
  refine D_st (Base.Le.refl _) 5 rfl (by kernel_rfl) (by kernel_rfl) (by kernel_rfl) rfl (st_load 0 rfl one22 rfl rfl) (.cons_cons _ (.refl _)) ?_
  refine D_st (Base.Le.refl _) 6 rfl (by kernel_rfl) (by kernel_rfl) (by kernel_rfl) rfl (st_move rfl) (.cons_cons _ (.refl _)) ?_
  obtain ⟨j87, hj88, hx89⟩ := idx_some h86
  obtain ⟨cs90, hr91, hcs92, hA93, hlt94⟩ := FZ.get (sz := 6) rfl (by decide) h6 hx89
  obtain ⟨_, _, rfl, rfl, ⟨_, _, rfl, rfl, ⟨_, _, rfl, rfl, ⟨_, _, rfl, rfl, ⟨_, _, rfl, rfl, rfl⟩⟩⟩⟩⟩ := hr91
  refine D_st (Base.Le.refl _) 7 rfl (by kernel_rfl) (by kernel_rfl) (by kernel_rfl) rfl (st_index_old j87 rfl rfl hj88 hlt94 hA93 sl22) (.cons_cons _ (.refl _)) ?_
  refine D_st (Base.Le.refl _) 8 rfl (by kernel_rfl) (by kernel_rfl) (by kernel_rfl) rfl (st_field_old rfl hA93 fld36_2) (.cons_cons _ (.refl _)) ?_
  refine D_st (Base.Le.refl _) 9 rfl (by kernel_rfl) (by kernel_rfl) (by kernel_rfl) rfl (st_load_old rfl one3 (hcs92 2 _ rfl)) (.cons_cons _ (.refl _)) ?_
  refine D_all [10] (by kernel_rfl) rfl ?_
  refine R_do (Base.Le.refl _) rfl rfl (u_callW0 _ call81 rfl (fun w ho => cCmpCompare _ [] x75.Dep x85.Dep x95 hcl96) (fun _ _ _ h => h.2.symm)) ?_ ?_
  ·
    rintro _ _ ⟨⟨_, rfl, _⟩, rfl⟩
    refine ⟨.inr (.cons_cons _ (.refl _)), ?_⟩
    refine D_st (Base.Le.refl _) 11 rfl (by kernel_rfl) (by kernel_rfl) (by kernel_rfl) rfl (st_assign rfl) (.cons_cons _ (.refl _)) ?_
    refine D_done (by kernel_rfl) ?_
    refine x_then_normal ?_
    refine c_ret ?_
    obtain rfl := some1 hm
    exact retM (rs := [.tmp 5]) [.int .i64 (x95)] (Base.Le.refl _) (by decide) rfl ⟨rfl, trivial⟩ rfl (hp' := (g1, Cl 22 [.slice A4 (l7).length c5]) :: R) (.cons_cons _ (.refl _)) ⟨rfl, rfl⟩
  exact R_nil

set_option maxRecDepth 20000 in
theorem cSlicesInsertionSortCmpFunc (b : Base) (R : Hp) (x7 : Int) (x8 : Int) (l12 : (List FleetTask)) (l13 : (List Int)) (g6 : Nat) (A9 : Option Addr) (c10 : Nat) (A3 : Option Addr) (c4 : Nat) (hs2 : Hp) (h11 : FZ rFleetTask b.w A9 c10 l12) (h5 : OS 3 (OT.fr (RT.int .i64)) b.w (.slice A3 l13.length c4) l13 hs2) (l5535 : (List Int)) (hm : mSlicesInsertionSortCmpFunc x7 x8 l12 l13 = some l5535) :
    CallsG Try.prog 119 [.slice A3 (l13).length c4, .int .i64 (x7), .int .i64 (x8), .func (.func 80) #[] #[.pointer (some ⟨g6, 0, none⟩)]] b ((g6, Cl 22 [.slice A9 (l12).length c10]) :: (hs2 ++ R)) (fun v b' hp' => ∃ (hs5533 : Hp), .tuple #[] = v ∧ (g6, Cl 22 [.slice A9 (l12).length c10]) :: (hs5533 ++ R) = hp' ∧ OS 3 (OT.fr (RT.int .i64)) b'.w (.slice A3 l5535.length c4) l5535 hs5533 ∧ l5535.length = l13.length) := by
  refine fn_enterG 53 Try.func119 rfl Try.ntmps119 rfl ?_
  unfold mSlicesInsertionSortCmpFunc at hm
  refine c_seq ?_
  refine c_region ?_
  refine t_st rfl (st_move rfl) ?_
  obtain ⟨_, h5537, hm⟩ := bindS hm
  have h5537 := (chk_some h5537).2
  refine t_st rfl (st_add rfl rfl h5537) ?_
  refine t_st rfl (st_assign rfl) ?_
  refine t_nil ?_
  refine x_then_normal ?_
  refine c_block ?_
  refine c_loopM (unc2 fun x9218 l9219 => fun b9213 e' hp' => ∃ (hs9216 : Hp), [(0, .slice A3 (l9219).length c4), (1, .int .i64 (x7)), (2, .int .i64 (x8)), (3, .func (.func 80) #[] #[.pointer (some ⟨g6, 0, none⟩)]), (8, .int .i64 (x9218))] = e' ∧ (g6, Cl 22 [.slice A9 (l12).length c10]) :: (hs9216 ++ R) = hp' ∧ b.Le b9213 ∧ OS 3 (OT.fr (RT.int .i64)) b9213.w (.slice A3 l9219.length c4) l9219 hs9216 ∧ l9219.length = l13.length) hm (e' := [(0, .slice A3 (l13).length c4), (1, .int .i64 (x7)), (2, .int .i64 (x8)), (3, .func (.func 80) #[] #[.pointer (some ⟨g6, 0, none⟩)]), (8, .int .i64 (x7 + 1))]) (hp' := (g6, Cl 22 [.slice A9 (l12).length c10]) :: (hs2 ++ R)) ⟨rfl, rfl, rfl, rfl, rfl, trivial⟩ (.cons_cons _ (sub_app hs2 (.refl _))) ⟨hs2, rfl, rfl, (Base.Le.refl _), h5, rfl⟩ ?_
  rintro ⟨x9218, l9219⟩ b9213 _ _ oL5538 ⟨hs9216, rfl, rfl, hle9214, h9217, hln9220⟩ hstepL5538 houtL5538
  unfold mSlicesInsertionSortCmpFunc_L5538 at hstepL5538
  have hm := (unc2E hstepL5538)
  refine c_seq ?_
  refine c_seq ?_
  refine c_region ?_
  refine t_st rfl (st_move rfl) ?_
  refine t_st rfl (st_move rfl) ?_
  refine t_st rfl (st_lss rfl rfl) ?_
  refine t_nil ?_
  refine x_then_normal ?_
  refine c_cond _ rfl (fun hc9221 => ?_) (fun hc9221 => ?_)
  ·
    rw [if_pos (of_decide_eq_true hc9221)] at hm
    refine c_skip ?_
    refine x_then_normal ?_
    obtain ⟨l10139, hj10141, hk10141⟩ := bindS hm
    refine c_join (fun b10134 e' hp' => ∃ (hs10137 : Hp), [(0, .slice A3 (l10139).length c4), (1, .int .i64 (x7)), (2, .int .i64 (x8)), (3, .func (.func 80) #[] #[.pointer (some ⟨g6, 0, none⟩)]), (8, .int .i64 (x9218))] = e' ∧ (g6, Cl 22 [.slice A9 (l12).length c10]) :: (hs10137 ++ R) = hp' ∧ b9213.Le b10134 ∧ OS 3 (OT.fr (RT.int .i64)) b10134.w (.slice A3 l10139.length c4) l10139 hs10137 ∧ l10139.length = l13.length) ?_ ?_
    ·
      have hm := hj10141
      refine c_block ?_
      refine c_seq ?_
      refine c_region ?_
      refine t_st rfl (st_move rfl) ?_
      refine t_st rfl (st_assign rfl) ?_
      refine t_nil ?_
      refine x_then_normal ?_
      refine c_block ?_
      refine c_loopM (unc2 fun x10752 l10753 => fun b10747 e' hp' => ∃ (hs10750 : Hp), [(0, .slice A3 (l10753).length c4), (1, .int .i64 (x7)), (2, .int .i64 (x8)), (3, .func (.func 80) #[] #[.pointer (some ⟨g6, 0, none⟩)]), (8, .int .i64 (x9218)), (9, .int .i64 (x10752))] = e' ∧ (g6, Cl 22 [.slice A9 (l12).length c10]) :: (hs10750 ++ R) = hp' ∧ b9213.Le b10747 ∧ OS 3 (OT.fr (RT.int .i64)) b10747.w (.slice A3 l10753.length c4) l10753 hs10750 ∧ l10753.length = l13.length) hm (e' := [(0, .slice A3 (l9219).length c4), (1, .int .i64 (x7)), (2, .int .i64 (x8)), (3, .func (.func 80) #[] #[.pointer (some ⟨g6, 0, none⟩)]), (8, .int .i64 (x9218)), (9, .int .i64 (x9218))]) (hp' := (g6, Cl 22 [.slice A9 (l12).length c10]) :: (hs9216 ++ R)) ⟨rfl, rfl, rfl, rfl, rfl, rfl, trivial⟩ (.cons_cons _ (sub_app hs9216 (.refl _))) ⟨hs9216, rfl, rfl, (Base.Le.refl _), h9217, hln9220⟩ ?_
      rintro ⟨x10752, l10753⟩ b10747 _ _ oL10142 ⟨hs10750, rfl, rfl, hle10748, h10751, hln10754⟩ hstepL10142 houtL10142
      unfold mSlicesInsertionSortCmpFunc_L10142 at hstepL10142
      have hm := (unc2E hstepL10142)
      refine c_seq ?_
      obtain ⟨x10833, hj10834, hk10834⟩ := bindS hm
      refine c_join (fun b10831 e' hp' => [(0, .slice A3 (l10753).length c4), (1, .int .i64 (x7)), (2, .int .i64 (x8)), (3, .func (.func 80) #[] #[.pointer (some ⟨g6, 0, none⟩)]), (8, .int .i64 (x9218)), (9, .int .i64 (x10752)), (34, .bool (x10833))] = e' ∧ (g6, Cl 22 [.slice A9 (l12).length c10]) :: (hs10750 ++ R) = hp' ∧ b10747.Le b10831) ?_ ?_
      ·
        have hm := hj10834
        by_cases hc10873 : x7 < x10752
        ·
          rw [if_pos hc10873] at hm
          obtain ⟨x10874, h10875, hm⟩ := bindS hm
          obtain ⟨_, h10890, hm⟩ := bindS hm
          obtain ⟨x10891, h10892, hm⟩ := bindS hm
          obtain ⟨x10907, hcl10908, hm⟩ := bindS hm
          refine D_drawS ((hs10750 ++ R)) mixed ?_
          refine D_st (Base.Le.refl _) 0 rfl (by kernel_rfl) (by kernel_rfl) (by kernel_rfl) rfl (st_move rfl) (.cons _ (sub_app hs10750 (.refl _))) ?_
          refine D_st (Base.Le.refl _) 1 rfl (by kernel_rfl) (by kernel_rfl) (by kernel_rfl) rfl (st_move rfl) (.cons _ (sub_app hs10750 (.refl _))) ?_
          refine D_st (Base.Le.refl _) 2 rfl (by kernel_rfl) (by kernel_rfl) (by kernel_rfl) rfl (st_gtr_t rfl rfl hc10873) (.cons _ (sub_app hs10750 (.refl _))) ?_
          refine D_st (Base.Le.refl _) 3 rfl (by kernel_rfl) (by kernel_rfl) (by kernel_rfl) rfl (st_move rfl) (.cons _ (sub_app hs10750 (.refl _))) ?_
          refine D_yes (Base.Le.refl _) 4 21 rfl (by kernel_rfl) (by kernel_rfl) (by kernel_rfl) rfl rfl rfl rfl (st_move rfl) (.cons _ (sub_app hs10750 (.refl _))) ?_
          refine D_yes (Base.Le.refl _) 5 21 rfl (by kernel_rfl) (by kernel_rfl) (by kernel_rfl) rfl rfl rfl rfl (st_move rfl) (.cons _ (sub_app hs10750 (.refl _))) ?_
          refine D_yes (Base.Le.refl _) 6 21 rfl (by kernel_rfl) (by kernel_rfl) (by kernel_rfl) rfl rfl rfl rfl (st_move rfl) (.cons _ (sub_app hs10750 (.refl _))) ?_
          obtain ⟨j10876, hj10877, hx10878⟩ := idx_some h10875
          obtain ⟨cs10879, hs10884, P10885, P10886, hq10887, hr10880, hcs10881, hA10882, hlt10883, hb10888, hho10889⟩ := OS.get (sz := 1) rfl (by decide) h10751 hx10878
          obtain ⟨rfl, rfl⟩ := hr10880
          refine D_yes (Base.Le.refl _) 7 21 rfl (by kernel_rfl) (by kernel_rfl) (by kernel_rfl) rfl rfl rfl rfl (st_index_old j10876 rfl rfl hj10877 hlt10883 hA10882 sl45) (.cons _ (sub_app hs10750 (.refl _))) ?_
          refine D_yes (Base.Le.refl _) 8 21 rfl (by kernel_rfl) (by kernel_rfl) (by kernel_rfl) rfl rfl rfl rfl (st_load_rd rfl one3 (fun w ho => hcs10881 w _ ho (List.sublist_append_left _ _) 0 _ rfl)) (.cons _ (sub_app hs10750 (.refl _))) ?_
          refine D_yes (Base.Le.refl _) 9 21 rfl (by kernel_rfl) (by kernel_rfl) (by kernel_rfl) rfl rfl rfl rfl (st_move rfl) (.cons _ (sub_app hs10750 (.refl _))) ?_
          refine D_yes (Base.Le.refl _) 10 21 rfl (by kernel_rfl) (by kernel_rfl) (by kernel_rfl) rfl rfl rfl rfl (st_move rfl) (.cons _ (sub_app hs10750 (.refl _))) ?_
          have h10890 := (chk_some h10890).2
          refine D_yes (Base.Le.refl _) 11 21 rfl (by kernel_rfl) (by kernel_rfl) (by kernel_rfl) rfl rfl rfl rfl (st_sub rfl rfl h10890) (.cons _ (sub_app hs10750 (.refl _))) ?_
          obtain ⟨j10893, hj10894, hx10895⟩ := idx_some h10892
          obtain ⟨cs10896, hs10901, P10902, P10903, hq10904, hr10897, hcs10898, hA10899, hlt10900, hb10905, hho10906⟩ := OS.get (sz := 1) rfl (by decide) h10751 hx10895
          obtain ⟨rfl, rfl⟩ := hr10897
          refine D_yes (Base.Le.refl _) 12 21 rfl (by kernel_rfl) (by kernel_rfl) (by kernel_rfl) rfl rfl rfl rfl (st_index_old j10893 rfl rfl hj10894 hlt10900 hA10899 sl45) (.cons _ (sub_app hs10750 (.refl _))) ?_
          refine D_yes (Base.Le.refl _) 13 21 rfl (by kernel_rfl) (by kernel_rfl) (by kernel_rfl) rfl rfl rfl rfl (st_load_rd rfl one3 (fun w ho => hcs10898 w _ ho (List.sublist_append_left _ _) 0 _ rfl)) (.cons _ (sub_app hs10750 (.refl _))) ?_
          refine D_all [14] (by kernel_rfl) rfl ?_
          refine R_callvGY (Base.Le.refl _) rfl rfl 21 rfl rfl rfl #[] #[.pointer (some ⟨g6, 0, none⟩)] [.int .i64 (x10874), .int .i64 (x10891)] rfl call80 rfl (cFleetOrder_1 _ _ x10874 x10891 l12 g6 A9 c10 (h11.le (hle9214.trans hle10748)) x10907 hcl10908) ?_ ?_
          ·
            rintro _ b10909 _ hle10910 ⟨rfl, rfl⟩
            refine ⟨.inr (.cons _ (sub_app hs10750 (.refl _))), ?_⟩
            refine D_yes hle10910 15 21 rfl (by kernel_rfl) (by kernel_rfl) (by kernel_rfl) rfl rfl rfl rfl (st_lss rfl rfl) (.cons _ (sub_app hs10750 (.refl _))) ?_
            refine D_st hle10910 16 rfl (by kernel_rfl) (by kernel_rfl) (by kernel_rfl) rfl (st_pick_t rfl rfl) (.cons _ (sub_app hs10750 (.refl _))) ?_
            refine D_done (by kernel_rfl) ?_
            obtain rfl := some1 hm
            exact x_join (e' := [(0, .slice A3 (l10753).length c4), (1, .int .i64 (x7)), (2, .int .i64 (x8)), (3, .func (.func 80) #[] #[.pointer (some ⟨g6, 0, none⟩)]), (8, .int .i64 (x9218)), (9, .int .i64 (x10752)), (34, .bool (decide (x10907 < 0)))]) (hp' := (g6, Cl 22 [.slice A9 (l12).length c10]) :: (hs10750 ++ R)) ⟨rfl, rfl, rfl, rfl, rfl, rfl, rfl, trivial⟩ (.cons_cons _ (sub_app hs10750 (.refl _))) ⟨rfl, rfl, hle10910⟩
          exact R_nil
        ·
          rw [if_neg hc10873] at hm
          refine D_drawS ((g6, Cl 22 [.slice A9 (l12).length c10]) :: (hs10750 ++ R)) mixed ?_
          refine D_st (Base.Le.refl _) 0 rfl (by kernel_rfl) (by kernel_rfl) (by kernel_rfl) rfl (st_move rfl) (.cons_cons _ (sub_app hs10750 (.refl _))) ?_
          refine D_st (Base.Le.refl _) 1 rfl (by kernel_rfl) (by kernel_rfl) (by kernel_rfl) rfl (st_move rfl) (.cons_cons _ (sub_app hs10750 (.refl _))) ?_
          refine D_st (Base.Le.refl _) 2 rfl (by kernel_rfl) (by kernel_rfl) (by kernel_rfl) rfl (st_gtr_f rfl rfl hc10873) (.cons_cons _ (sub_app hs10750 (.refl _))) ?_
          refine D_st (Base.Le.refl _) 3 rfl (by kernel_rfl) (by kernel_rfl) (by kernel_rfl) rfl (st_move rfl) (.cons_cons _ (sub_app hs10750 (.refl _))) ?_
          refine D_no (Base.Le.refl _) 4 21 rfl (by kernel_rfl) (by kernel_rfl) (by kernel_rfl) rfl rfl rfl rfl rfl (.cons_cons _ (sub_app hs10750 (.refl _))) ?_
          refine D_no (Base.Le.refl _) 5 21 rfl (by kernel_rfl) (by kernel_rfl) (by kernel_rfl) rfl rfl rfl rfl rfl (.cons_cons _ (sub_app hs10750 (.refl _))) ?_
          refine D_no (Base.Le.refl _) 6 21 rfl (by kernel_rfl) (by kernel_rfl) (by kernel_rfl) rfl rfl rfl rfl rfl (.cons_cons _ (sub_app hs10750 (.refl _))) ?_
          refine D_no (Base.Le.refl _) 7 21 rfl (by kernel_rfl) (by kernel_rfl) (by kernel_rfl) rfl rfl rfl rfl rfl (.cons_cons _ (sub_app hs10750 (.refl _))) ?_
          refine D_no (Base.Le.refl _) 8 21 rfl (by kernel_rfl) (by kernel_rfl) (by kernel_rfl) rfl rfl rfl rfl rfl (.cons_cons _ (sub_app hs10750 (.refl _))) ?_
          refine D_no (Base.Le.refl _) 9 21 rfl (by kernel_rfl) (by kernel_rfl) (by kernel_rfl) rfl rfl rfl rfl rfl (.cons_cons _ (sub_app hs10750 (.refl _))) ?_
          refine D_no (Base.Le.refl _) 10 21 rfl (by kernel_rfl) (by kernel_rfl) (by kernel_rfl) rfl rfl rfl rfl rfl (.cons_cons _ (sub_app hs10750 (.refl _))) ?_
          refine D_no (Base.Le.refl _) 11 21 rfl (by kernel_rfl) (by kernel_rfl) (by kernel_rfl) rfl rfl rfl rfl rfl (.cons_cons _ (sub_app hs10750 (.refl _))) ?_
          refine D_no (Base.Le.refl _) 12 21 rfl (by kernel_rfl) (by kernel_rfl) (by kernel_rfl) rfl rfl rfl rfl rfl (.cons_cons _ (sub_app hs10750 (.refl _))) ?_
          refine D_no (Base.Le.refl _) 13 21 rfl (by kernel_rfl) (by kernel_rfl) (by kernel_rfl) rfl rfl rfl rfl rfl (.cons_cons _ (sub_app hs10750 (.refl _))) ?_
          refine D_no (Base.Le.refl _) 14 21 rfl (by kernel_rfl) (by kernel_rfl) (by kernel_rfl) rfl rfl rfl rfl rfl (.cons_cons _ (sub_app hs10750 (.refl _))) ?_
          refine D_no (Base.Le.refl _) 15 21 rfl (by kernel_rfl) (by kernel_rfl) (by kernel_rfl) rfl rfl rfl rfl rfl (.cons_cons _ (sub_app hs10750 (.refl _))) ?_
          refine D_st (Base.Le.refl _) 16 rfl (by kernel_rfl) (by kernel_rfl) (by kernel_rfl) rfl (st_pick_f rfl rfl) (.cons_cons _ (sub_app hs10750 (.refl _))) ?_
          refine D_done (by kernel_rfl) ?_
          obtain rfl := some1 hm
          exact x_join (e' := [(0, .slice A3 (l10753).length c4), (1, .int .i64 (x7)), (2, .int .i64 (x8)), (3, .func (.func 80) #[] #[.pointer (some ⟨g6, 0, none⟩)]), (8, .int .i64 (x9218)), (9, .int .i64 (x10752)), (34, .bool (false))]) (hp' := (g6, Cl 22 [.slice A9 (l12).length c10]) :: (hs10750 ++ R)) ⟨rfl, rfl, rfl, rfl, rfl, rfl, rfl, trivial⟩ (.cons_cons _ (sub_app hs10750 (.refl _))) ⟨rfl, rfl, (Base.Le.refl _)⟩
      ·
        rintro b10831 _ _ ⟨rfl, rfl, hle10832⟩
        have hm := hk10834
        refine c_cond _ rfl (fun hc10911 => ?_) (fun hc10911 => ?_)
        ·
          rw [if_pos hc10911] at hm
          refine c_skip ?_
          refine x_then_normal ?_
          refine c_seq ?_
          refine c_block ?_
          obtain ⟨_, h10982, hm⟩ := bindS hm
          obtain ⟨_, h10983, hm⟩ := bindS hm
          obtain ⟨x10984, h10985, hm⟩ := bindS hm
          obtain ⟨x11000, h11001, hm⟩ := bindS hm
          obtain ⟨x11016, h11017, hm⟩ := bindS hm
          obtain ⟨x11034, h11035, hm⟩ := bindS hm
          refine D_drawS ((g6, Cl 22 [.slice A9 (l12).length c10]) :: R) mixed ?_
          refine D_st (Base.Le.refl _) 0 rfl (by kernel_rfl) (by kernel_rfl) (by kernel_rfl) rfl (st_move rfl) (.cons_cons _ (sub_skip hs10750 (.refl _))) ?_
          refine D_st (Base.Le.refl _) 1 rfl (by kernel_rfl) (by kernel_rfl) (by kernel_rfl) rfl (st_move rfl) (.cons_cons _ (sub_skip hs10750 (.refl _))) ?_
          refine D_st (Base.Le.refl _) 2 rfl (by kernel_rfl) (by kernel_rfl) (by kernel_rfl) rfl (st_move rfl) (.cons_cons _ (sub_skip hs10750 (.refl _))) ?_
          refine D_st (Base.Le.refl _) 3 rfl (by kernel_rfl) (by kernel_rfl) (by kernel_rfl) rfl (st_move rfl) (.cons_cons _ (sub_skip hs10750 (.refl _))) ?_
          have h10982 := (chk_some h10982).2
          refine D_st (Base.Le.refl _) 4 rfl (by kernel_rfl) (by kernel_rfl) (by kernel_rfl) rfl (st_sub rfl rfl h10982) (.cons_cons _ (sub_skip hs10750 (.refl _))) ?_
          refine D_st (Base.Le.refl _) 5 rfl (by kernel_rfl) (by kernel_rfl) (by kernel_rfl) rfl (st_move rfl) (.cons_cons _ (sub_skip hs10750 (.refl _))) ?_
          refine D_st (Base.Le.refl _) 6 rfl (by kernel_rfl) (by kernel_rfl) (by kernel_rfl) rfl (st_move rfl) (.cons_cons _ (sub_skip hs10750 (.refl _))) ?_
          have h10983 := (chk_some h10983).2
          refine D_st (Base.Le.refl _) 7 rfl (by kernel_rfl) (by kernel_rfl) (by kernel_rfl) rfl (st_sub rfl rfl h10983) (.cons_cons _ (sub_skip hs10750 (.refl _))) ?_
          obtain ⟨j10986, hj10987, hx10988⟩ := idx_some h10985
          obtain ⟨cs10989, hs10994, P10995, P10996, hq10997, hr10990, hcs10991, hA10992, hlt10993, hb10998, hho10999⟩ := OS.get (sz := 1) rfl (by decide) (h10751.le hle10832) hx10988
          obtain ⟨rfl, rfl⟩ := hr10990
          refine D_st (Base.Le.refl _) 8 rfl (by kernel_rfl) (by kernel_rfl) (by kernel_rfl) rfl (st_index_old j10986 rfl rfl hj10987 hlt10993 hA10992 sl45) (.cons_cons _ (sub_skip hs10750 (.refl _))) ?_
          refine D_st (Base.Le.refl _) 10 rfl (by kernel_rfl) (by kernel_rfl) (by kernel_rfl) rfl (st_move rfl) (.cons_cons _ (sub_skip hs10750 (.refl _))) ?_
          refine D_st (Base.Le.refl _) 11 rfl (by kernel_rfl) (by kernel_rfl) (by kernel_rfl) rfl (st_move rfl) (.cons_cons _ (sub_skip hs10750 (.refl _))) ?_
          obtain ⟨j11002, hj11003, hx11004⟩ := idx_some h11001
          obtain ⟨cs11005, hs11010, P11011, P11012, hq11013, hr11006, hcs11007, hA11008, hlt11009, hb11014, hho11015⟩ := OS.get (sz := 1) rfl (by decide) (h10751.le hle10832) hx11004
          obtain ⟨rfl, rfl⟩ := hr11006
          refine D_st (Base.Le.refl _) 12 rfl (by kernel_rfl) (by kernel_rfl) (by kernel_rfl) rfl (st_index_old j11002 rfl rfl hj11003 hlt11009 hA11008 sl45) (.cons_cons _ (sub_skip hs10750 (.refl _))) ?_
          refine D_all [9, 13] (by kernel_rfl) rfl ?_
          refine R_do (Base.Le.refl _) rfl rfl (Stable.does (st_load_rd rfl one3 (fun w ho => hcs10991 w _ ho (.cons _ (List.sublist_append_left _ _)) 0 _ rfl))) ?_ ?_
          ·
            rintro _ _ ⟨rfl, rfl⟩
            refine ⟨.inr (.cons_cons _ (sub_skip hs10750 (.refl _))), ?_⟩
            refine D_all [13] (by kernel_rfl) rfl ?_
            refine R_do (Base.Le.refl _) rfl rfl (Stable.does (st_load_rd rfl one3 (fun w ho => hcs11007 w _ ho (.cons _ (List.sublist_append_left _ _)) 0 _ rfl))) ?_ ?_
            ·
              rintro _ _ ⟨rfl, rfl⟩
              refine ⟨.inr (.cons_cons _ (sub_skip hs10750 (.refl _))), ?_⟩
              obtain ⟨j11018, hj11019, hx11020⟩ := idx_some h11017
              obtain ⟨cs11021, hs11026, P11027, P11028, hq11029, hr11022, hcs11023, hA11024, hlt11025, hb11030, hho11031⟩ := OS.get (sz := 1) rfl (by decide) (h10751.le hle10832) hx11020
              obtain ⟨rfl, rfl⟩ := hr11022
              refine D_st (Base.Le.refl _) 14 rfl (by kernel_rfl) (by kernel_rfl) (by kernel_rfl) rfl (st_index_old j11018 rfl rfl hj11019 hlt11025 hA11024 sl45) (.cons_cons _ (sub_skip hs10750 (.refl _))) ?_
              refine D_all [15] (by kernel_rfl) rfl ?_
              refine R_do (Base.Le.refl _) rfl rfl (u_putOS hj11019 (sz := 1) (a' := x10984) rfl [_] R 0 1 [.int .i64 (x10984)] rfl (h10751.le hle10832) hx11020 rfl rfl rfl siz3 rfl (by intro u hu; simp only [List.mem_cons, List.not_mem_nil, or_false] at hu; subst hu; rfl) (fun cs hsj hh => by obtain ⟨rfl, rfl⟩ := hh; exact ⟨by decide, rfl, rfl⟩)) ?_ ?_
              ·
                rintro _ _ ⟨hs11032, rfl, h11033⟩
                refine ⟨.inr (.cons_cons _ (sub_skip hs11032 (.refl _))), ?_⟩
                refine d_resp 0 rfl (v' := .slice A3 (put l10753 x10752 x10984).length c4) (by simp only [put_length]) ?_
                refine d_resp 39 rfl (v' := .slice A3 (put l10753 x10752 x10984).length c4) (by simp only [put_length]) ?_
                obtain ⟨j11036, hj11037, hx11038⟩ := idx_some h11035
                obtain ⟨cs11039, hs11044, P11045, P11046, hq11047, hr11040, hcs11041, hA11042, hlt11043, hb11048, hho11049⟩ := OS.get (sz := 1) rfl (by decide) h11033 hx11038
                obtain ⟨rfl, rfl⟩ := hr11040
                refine D_st (Base.Le.refl _) 16 rfl (by kernel_rfl) (by kernel_rfl) (by kernel_rfl) rfl (st_index_old j11036 rfl rfl hj11037 hlt11043 hA11042 sl45) (.cons_cons _ (sub_skip hs11032 (.refl _))) ?_
                refine D_all [17] (by kernel_rfl) rfl ?_
                refine R_do (Base.Le.refl _) rfl rfl (u_putOS hj11037 (sz := 1) (a' := x11000) rfl [_] R 0 1 [.int .i64 (x11000)] rfl h11033 hx11038 rfl rfl rfl siz3 rfl (by intro u hu; simp only [List.mem_cons, List.not_mem_nil, or_false] at hu; subst hu; rfl) (fun cs hsj hh => by obtain ⟨rfl, rfl⟩ := hh; exact ⟨by decide, rfl, rfl⟩)) ?_ ?_
                ·
                  rintro _ _ ⟨hs11050, rfl, h11051⟩
                  refine ⟨.inl (by kernel_rfl), ?_⟩
                  refine d_resp 0 rfl (v' := .slice A3 (put (put l10753 x10752 x10984) (x10752 - 1) x11000).length c4) (by simp only [put_length]) ?_
                  refine D_done (by kernel_rfl) ?_
                  refine x_block_normal ?_
                  refine x_then_normal ?_
                  refine c_region ?_
                  refine t_st rfl (st_move rfl) ?_
                  obtain ⟨_, h11052, hm⟩ := bindS hm
                  have h11052 := (chk_some h11052).2
                  refine t_st rfl (st_sub rfl rfl h11052) ?_
                  refine t_st rfl (st_assign rfl) ?_
                  refine t_nil ?_
                  exact x_againM (x10752 - 1, put (put l10753 x10752 x10984) (x10752 - 1) x11000) (Option.some.inj hm).symm (e' := [(0, .slice A3 (put (put l10753 x10752 x10984) (x10752 - 1) x11000).length c4), (1, .int .i64 (x7)), (2, .int .i64 (x8)), (3, .func (.func 80) #[] #[.pointer (some ⟨g6, 0, none⟩)]), (8, .int .i64 (x9218)), (9, .int .i64 (x10752 - 1))]) (hp' := (g6, Cl 22 [.slice A9 (l12).length c10]) :: (hs11050 ++ R)) ⟨rfl, rfl, rfl, rfl, rfl, rfl, trivial⟩ (.cons_cons _ (sub_app hs11050 (.refl _))) ⟨hs11050, rfl, rfl, ((hle10748.trans hle10832)), h11051, ((put_length _ _ _).trans ((put_length _ _ _).trans hln10754))⟩
                exact R_nil
              exact R_nil
            exact R_nil
          refine R_do (Base.Le.refl _) rfl rfl (Stable.does (st_load_rd rfl one3 (fun w ho => hcs11007 w _ ho (.cons _ (List.sublist_append_left _ _)) 0 _ rfl))) ?_ ?_
          ·
            rintro _ _ ⟨rfl, rfl⟩
            refine ⟨.inr (.cons_cons _ (sub_skip hs10750 (.refl _))), ?_⟩
            refine D_all [9] (by kernel_rfl) rfl ?_
            refine R_do (Base.Le.refl _) rfl rfl (Stable.does (st_load_rd rfl one3 (fun w ho => hcs10991 w _ ho (.cons _ (List.sublist_append_left _ _)) 0 _ rfl))) ?_ ?_
            ·
              rintro _ _ ⟨rfl, rfl⟩
              refine ⟨.inr (.cons_cons _ (sub_skip hs10750 (.refl _))), ?_⟩
              obtain ⟨j11018, hj11019, hx11020⟩ := idx_some h11017
              obtain ⟨cs11021, hs11026, P11027, P11028, hq11029, hr11022, hcs11023, hA11024, hlt11025, hb11030, hho11031⟩ := OS.get (sz := 1) rfl (by decide) (h10751.le hle10832) hx11020
              obtain ⟨rfl, rfl⟩ := hr11022
              refine D_st (Base.Le.refl _) 14 rfl (by kernel_rfl) (by kernel_rfl) (by kernel_rfl) rfl (st_index_old j11018 rfl rfl hj11019 hlt11025 hA11024 sl45) (.cons_cons _ (sub_skip hs10750 (.refl _))) ?_
              refine D_all [15] (by kernel_rfl) rfl ?_
              refine R_do (Base.Le.refl _) rfl rfl (u_putOS hj11019 (sz := 1) (a' := x10984) rfl [_] R 0 1 [.int .i64 (x10984)] rfl (h10751.le hle10832) hx11020 rfl rfl rfl siz3 rfl (by intro u hu; simp only [List.mem_cons, List.not_mem_nil, or_false] at hu; subst hu; rfl) (fun cs hsj hh => by obtain ⟨rfl, rfl⟩ := hh; exact ⟨by decide, rfl, rfl⟩)) ?_ ?_
              ·
                rintro _ _ ⟨hs11032, rfl, h11033⟩
                refine ⟨.inr (.cons_cons _ (sub_skip hs11032 (.refl _))), ?_⟩
                refine d_resp 0 rfl (v' := .slice A3 (put l10753 x10752 x10984).length c4) (by simp only [put_length]) ?_
                refine d_resp 39 rfl (v' := .slice A3 (put l10753 x10752 x10984).length c4) (by simp only [put_length]) ?_
                obtain ⟨j11036, hj11037, hx11038⟩ := idx_some h11035
                obtain ⟨cs11039, hs11044, P11045, P11046, hq11047, hr11040, hcs11041, hA11042, hlt11043, hb11048, hho11049⟩ := OS.get (sz := 1) rfl (by decide) h11033 hx11038
                obtain ⟨rfl, rfl⟩ := hr11040
                refine D_st (Base.Le.refl _) 16 rfl (by kernel_rfl) (by kernel_rfl) (by kernel_rfl) rfl (st_index_old j11036 rfl rfl hj11037 hlt11043 hA11042 sl45) (.cons_cons _ (sub_skip hs11032 (.refl _))) ?_
                refine D_all [17] (by kernel_rfl) rfl ?_
                refine R_do (Base.Le.refl _) rfl rfl (u_putOS hj11037 (sz := 1) (a' := x11000) rfl [_] R 0 1 [.int .i64 (x11000)] rfl h11033 hx11038 rfl rfl rfl siz3 rfl (by intro u hu; simp only [List.mem_cons, List.not_mem_nil, or_false] at hu; subst hu; rfl) (fun cs hsj hh => by obtain ⟨rfl, rfl⟩ := hh; exact ⟨by decide, rfl, rfl⟩)) ?_ ?_
                ·
                  rintro _ _ ⟨hs11050, rfl, h11051⟩
                  refine ⟨.inl (by kernel_rfl), ?_⟩
                  refine d_resp 0 rfl (v' := .slice A3 (put (put l10753 x10752 x10984) (x10752 - 1) x11000).length c4) (by simp only [put_length]) ?_
                  refine D_done (by kernel_rfl) ?_
                  refine x_block_normal ?_
                  refine x_then_normal ?_
                  refine c_region ?_
                  refine t_st rfl (st_move rfl) ?_
                  obtain ⟨_, h11053, hm⟩ := bindS hm
                  have h11053 := (chk_some h11053).2
                  refine t_st rfl (st_sub rfl rfl h11053) ?_
                  refine t_st rfl (st_assign rfl) ?_
                  refine t_nil ?_
                  exact x_againM (x10752 - 1, put (put l10753 x10752 x10984) (x10752 - 1) x11000) (Option.some.inj hm).symm (e' := [(0, .slice A3 (put (put l10753 x10752 x10984) (x10752 - 1) x11000).length c4), (1, .int .i64 (x7)), (2, .int .i64 (x8)), (3, .func (.func 80) #[] #[.pointer (some ⟨g6, 0, none⟩)]), (8, .int .i64 (x9218)), (9, .int .i64 (x10752 - 1))]) (hp' := (g6, Cl 22 [.slice A9 (l12).length c10]) :: (hs11050 ++ R)) ⟨rfl, rfl, rfl, rfl, rfl, rfl, trivial⟩ (.cons_cons _ (sub_app hs11050 (.refl _))) ⟨hs11050, rfl, rfl, ((hle10748.trans hle10832)), h11051, ((put_length _ _ _).trans ((put_length _ _ _).trans hln10754))⟩
                exact R_nil
              exact R_nil
            exact R_nil
          exact R_nil
        ·
          rw [if_neg (fun hh => Bool.noConfusion (hh.symm.trans hc10911))] at hm
          refine c_exit ?_
          refine x_then_exit ?_
          refine x_then_exit ?_
          refine x_block_out ?_
          have hm := congrArg some (houtL10142 _ (Option.some.inj hm).symm)
          refine x_block_normal ?_
          obtain rfl := some1 hm
          exact x_join (e' := [(0, .slice A3 (l10753).length c4), (1, .int .i64 (x7)), (2, .int .i64 (x8)), (3, .func (.func 80) #[] #[.pointer (some ⟨g6, 0, none⟩)]), (8, .int .i64 (x9218))]) (hp' := (g6, Cl 22 [.slice A9 (l12).length c10]) :: (hs10750 ++ R)) ⟨rfl, rfl, rfl, rfl, rfl, trivial⟩ (.cons_cons _ (sub_app hs10750 (.refl _))) ⟨hs10750, rfl, rfl, (hle10748.trans hle10832), (h10751.le hle10832), hln10754⟩
    ·
      rintro b10134 _ _ ⟨hs10137, rfl, rfl, hle10135, h10138, hln10140⟩
      have hm := hk10141
      refine c_region ?_
      refine t_st rfl (st_move rfl) ?_
      obtain ⟨_, h11054, hm⟩ := bindS hm
      have h11054 := (chk_some h11054).2
      refine t_st rfl (st_add rfl rfl h11054) ?_
      refine t_st rfl (st_assign rfl) ?_
      refine t_nil ?_
      exact x_againM (x9218 + 1, l10139) (Option.some.inj hm).symm (e' := [(0, .slice A3 (l10139).length c4), (1, .int .i64 (x7)), (2, .int .i64 (x8)), (3, .func (.func 80) #[] #[.pointer (some ⟨g6, 0, none⟩)]), (8, .int .i64 (x9218 + 1))]) (hp' := (g6, Cl 22 [.slice A9 (l12).length c10]) :: (hs10137 ++ R)) ⟨rfl, rfl, rfl, rfl, rfl, trivial⟩ (.cons_cons _ (sub_app hs10137 (.refl _))) ⟨hs10137, rfl, rfl, ((hle9214.trans hle10135)), h10138, hln10140⟩
  ·
    rw [if_neg (of_decide_eq_false hc9221)] at hm
    refine c_exit ?_
    refine x_then_exit ?_
    refine x_then_exit ?_
    refine x_block_out ?_
    have hm := congrArg some (houtL5538 _ (Option.some.inj hm).symm)
    obtain rfl := some1 hm
    exact endM hle9214 rfl (.cons_cons _ (sub_app hs9216 (.refl _))) ⟨hs9216, rfl, rfl, h9217, hln9220⟩

set_option maxRecDepth 20000 in
theorem cSlicesSwapRangeCmpFunc (b : Base) (R : Hp) (x7 : Int) (x8 : Int) (x9 : Int) (l13 : (List FleetTask)) (l14 : (List Int)) (g6 : Nat) (A10 : Option Addr) (c11 : Nat) (A3 : Option Addr) (c4 : Nat) (hs2 : Hp) (h12 : FZ rFleetTask b.w A10 c11 l13) (h5 : OS 3 (OT.fr (RT.int .i64)) b.w (.slice A3 l14.length c4) l14 hs2) (l474 : (List Int)) (hm : mSlicesSwapRangeCmpFunc x7 x8 x9 l13 l14 = some l474) :
    CallsG Try.prog 130 [.slice A3 (l14).length c4, .int .i64 (x7), .int .i64 (x8), .int .i64 (x9), .func (.func 80) #[] #[.pointer (some ⟨g6, 0, none⟩)]] b ((g6, Cl 22 [.slice A10 (l13).length c11]) :: (hs2 ++ R)) (fun v b' hp' => ∃ (hs472 : Hp), .tuple #[] = v ∧ (g6, Cl 22 [.slice A10 (l13).length c11]) :: (hs472 ++ R) = hp' ∧ OS 3 (OT.fr (RT.int .i64)) b'.w (.slice A3 l474.length c4) l474 hs472 ∧ l474.length = l14.length) := by
  refine fn_enterG 38 Try.func130 rfl Try.ntmps130 rfl ?_
  unfold mSlicesSwapRangeCmpFunc at hm
  refine c_seq ?_
  refine c_region ?_
  refine t_st rfl (st_assign rfl) ?_
  refine t_nil ?_
  refine x_then_normal ?_
  refine c_block ?_
  refine c_loopM (unc2 fun x782 l783 => fun b777 e' hp' => ∃ (hs780 : Hp), [(0, .slice A3 (l783).length c4), (1, .int .i64 (x7)), (2, .int .i64 (x8)), (3, .int .i64 (x9)), (10, .int .i64 (x782))] = e' ∧ (g6, Cl 22 [.slice A10 (l13).length c11]) :: (hs780 ++ R) = hp' ∧ b.Le b777 ∧ OS 3 (OT.fr (RT.int .i64)) b777.w (.slice A3 l783.length c4) l783 hs780 ∧ l783.length = l14.length) hm (e' := [(0, .slice A3 (l14).length c4), (1, .int .i64 (x7)), (2, .int .i64 (x8)), (3, .int .i64 (x9)), (10, .int .i64 (0))]) (hp' := (g6, Cl 22 [.slice A10 (l13).length c11]) :: (hs2 ++ R)) ⟨rfl, rfl, rfl, rfl, rfl, trivial⟩ (.cons_cons _ (sub_app hs2 (.refl _))) ⟨hs2, rfl, rfl, (Base.Le.refl _), h5, rfl⟩ ?_
  rintro ⟨x782, l783⟩ b777 _ _ oL476 ⟨hs780, rfl, rfl, hle778, h781, hln784⟩ hstepL476 houtL476
  unfold mSlicesSwapRangeCmpFunc_L476 at hstepL476
  have hm := (unc2E hstepL476)
  refine c_seq ?_
  refine c_seq ?_
  refine c_region ?_
  refine t_st rfl (st_move rfl) ?_
  refine t_st rfl (st_move rfl) ?_
  refine t_st rfl (st_lss rfl rfl) ?_
  refine t_nil ?_
  refine x_then_normal ?_
  refine c_cond _ rfl (fun hc785 => ?_) (fun hc785 => ?_)
  ·
    rw [if_pos (of_decide_eq_true hc785)] at hm
    refine c_skip ?_
    refine x_then_normal ?_
    refine c_seq ?_
    refine c_block ?_
    obtain ⟨_, h858, hm⟩ := bindS hm
    obtain ⟨_, h859, hm⟩ := bindS hm
    obtain ⟨_, h860, hm⟩ := bindS hm
    obtain ⟨x861, h862, hm⟩ := bindS hm
    obtain ⟨_, h877, hm⟩ := bindS hm
    obtain ⟨x878, h879, hm⟩ := bindS hm
    obtain ⟨x894, h895, hm⟩ := bindS hm
    obtain ⟨x912, h913, hm⟩ := bindS hm
    refine D_drawS ((g6, Cl 22 [.slice A10 (l13).length c11]) :: R) mixed ?_
    refine D_st (Base.Le.refl _) 0 rfl (by kernel_rfl) (by kernel_rfl) (by kernel_rfl) rfl (st_move rfl) (.cons_cons _ (sub_skip hs780 (.refl _))) ?_
    refine D_st (Base.Le.refl _) 1 rfl (by kernel_rfl) (by kernel_rfl) (by kernel_rfl) rfl (st_move rfl) (.cons_cons _ (sub_skip hs780 (.refl _))) ?_
    refine D_st (Base.Le.refl _) 2 rfl (by kernel_rfl) (by kernel_rfl) (by kernel_rfl) rfl (st_move rfl) (.cons_cons _ (sub_skip hs780 (.refl _))) ?_
    have h858 := (chk_some h858).2
    refine D_st (Base.Le.refl _) 3 rfl (by kernel_rfl) (by kernel_rfl) (by kernel_rfl) rfl (st_add rfl rfl h858) (.cons_cons _ (sub_skip hs780 (.refl _))) ?_
    refine D_st (Base.Le.refl _) 4 rfl (by kernel_rfl) (by kernel_rfl) (by kernel_rfl) rfl (st_move rfl) (.cons_cons _ (sub_skip hs780 (.refl _))) ?_
    refine D_st (Base.Le.refl _) 5 rfl (by kernel_rfl) (by kernel_rfl) (by kernel_rfl) rfl (st_move rfl) (.cons_cons _ (sub_skip hs780 (.refl _))) ?_
    refine D_st (Base.Le.refl _) 6 rfl (by kernel_rfl) (by kernel_rfl) (by kernel_rfl) rfl (st_move rfl) (.cons_cons _ (sub_skip hs780 (.refl _))) ?_
    have h859 := (chk_some h859).2
    refine D_st (Base.Le.refl _) 7 rfl (by kernel_rfl) (by kernel_rfl) (by kernel_rfl) rfl (st_add rfl rfl h859) (.cons_cons _ (sub_skip hs780 (.refl _))) ?_
    refine D_st (Base.Le.refl _) 8 rfl (by kernel_rfl) (by kernel_rfl) (by kernel_rfl) rfl (st_move rfl) (.cons_cons _ (sub_skip hs780 (.refl _))) ?_
    refine D_st (Base.Le.refl _) 9 rfl (by kernel_rfl) (by kernel_rfl) (by kernel_rfl) rfl (st_move rfl) (.cons_cons _ (sub_skip hs780 (.refl _))) ?_
    refine D_st (Base.Le.refl _) 10 rfl (by kernel_rfl) (by kernel_rfl) (by kernel_rfl) rfl (st_move rfl) (.cons_cons _ (sub_skip hs780 (.refl _))) ?_
    have h860 := (chk_some h860).2
    refine D_st (Base.Le.refl _) 11 rfl (by kernel_rfl) (by kernel_rfl) (by kernel_rfl) rfl (st_add rfl rfl h860) (.cons_cons _ (sub_skip hs780 (.refl _))) ?_
    obtain ⟨j863, hj864, hx865⟩ := idx_some h862
    obtain ⟨cs866, hs871, P872, P873, hq874, hr867, hcs868, hA869, hlt870, hb875, hho876⟩ := OS.get (sz := 1) rfl (by decide) h781 hx865
    obtain ⟨rfl, rfl⟩ := hr867
    refine D_st (Base.Le.refl _) 12 rfl (by kernel_rfl) (by kernel_rfl) (by kernel_rfl) rfl (st_index_old j863 rfl rfl hj864 hlt870 hA869 sl45) (.cons_cons _ (sub_skip hs780 (.refl _))) ?_
    refine D_st (Base.Le.refl _) 14 rfl (by kernel_rfl) (by kernel_rfl) (by kernel_rfl) rfl (st_move rfl) (.cons_cons _ (sub_skip hs780 (.refl _))) ?_
    refine D_st (Base.Le.refl _) 15 rfl (by kernel_rfl) (by kernel_rfl) (by kernel_rfl) rfl (st_move rfl) (.cons_cons _ (sub_skip hs780 (.refl _))) ?_
    refine D_st (Base.Le.refl _) 16 rfl (by kernel_rfl) (by kernel_rfl) (by kernel_rfl) rfl (st_move rfl) (.cons_cons _ (sub_skip hs780 (.refl _))) ?_
    have h877 := (chk_some h877).2
    refine D_st (Base.Le.refl _) 17 rfl (by kernel_rfl) (by kernel_rfl) (by kernel_rfl) rfl (st_add rfl rfl h877) (.cons_cons _ (sub_skip hs780 (.refl _))) ?_
    obtain ⟨j880, hj881, hx882⟩ := idx_some h879
    obtain ⟨cs883, hs888, P889, P890, hq891, hr884, hcs885, hA886, hlt887, hb892, hho893⟩ := OS.get (sz := 1) rfl (by decide) h781 hx882
    obtain ⟨rfl, rfl⟩ := hr884
    refine D_st (Base.Le.refl _) 18 rfl (by kernel_rfl) (by kernel_rfl) (by kernel_rfl) rfl (st_index_old j880 rfl rfl hj881 hlt887 hA886 sl45) (.cons_cons _ (sub_skip hs780 (.refl _))) ?_
    refine D_all [13, 19] (by kernel_rfl) rfl ?_
    refine R_do (Base.Le.refl _) rfl rfl (Stable.does (st_load_rd rfl one3 (fun w ho => hcs868 w _ ho (.cons _ (List.sublist_append_left _ _)) 0 _ rfl))) ?_ ?_
    ·
      rintro _ _ ⟨rfl, rfl⟩
      refine ⟨.inr (.cons_cons _ (sub_skip hs780 (.refl _))), ?_⟩
      refine D_all [19] (by kernel_rfl) rfl ?_
      refine R_do (Base.Le.refl _) rfl rfl (Stable.does (st_load_rd rfl one3 (fun w ho => hcs885 w _ ho (.cons _ (List.sublist_append_left _ _)) 0 _ rfl))) ?_ ?_
      ·
        rintro _ _ ⟨rfl, rfl⟩
        refine ⟨.inr (.cons_cons _ (sub_skip hs780 (.refl _))), ?_⟩
        obtain ⟨j896, hj897, hx898⟩ := idx_some h895
        obtain ⟨cs899, hs904, P905, P906, hq907, hr900, hcs901, hA902, hlt903, hb908, hho909⟩ := OS.get (sz := 1) rfl (by decide) h781 hx898
        obtain ⟨rfl, rfl⟩ := hr900
        refine D_st (Base.Le.refl _) 20 rfl (by kernel_rfl) (by kernel_rfl) (by kernel_rfl) rfl (st_index_old j896 rfl rfl hj897 hlt903 hA902 sl45) (.cons_cons _ (sub_skip hs780 (.refl _))) ?_
        refine D_all [21] (by kernel_rfl) rfl ?_
        refine R_do (Base.Le.refl _) rfl rfl (u_putOS hj897 (sz := 1) (a' := x861) rfl [_] R 0 1 [.int .i64 (x861)] rfl h781 hx898 rfl rfl rfl siz3 rfl (by intro u hu; simp only [List.mem_cons, List.not_mem_nil, or_false] at hu; subst hu; rfl) (fun cs hsj hh => by obtain ⟨rfl, rfl⟩ := hh; exact ⟨by decide, rfl, rfl⟩)) ?_ ?_
        ·
          rintro _ _ ⟨hs910, rfl, h911⟩
          refine ⟨.inr (.cons_cons _ (sub_skip hs910 (.refl _))), ?_⟩
          refine d_resp 0 rfl (v' := .slice A3 (put l783 (x7 + x782) x861).length c4) (by simp only [put_length]) ?_
          refine d_resp 20 rfl (v' := .slice A3 (put l783 (x7 + x782) x861).length c4) (by simp only [put_length]) ?_
          obtain ⟨j914, hj915, hx916⟩ := idx_some h913
          obtain ⟨cs917, hs922, P923, P924, hq925, hr918, hcs919, hA920, hlt921, hb926, hho927⟩ := OS.get (sz := 1) rfl (by decide) h911 hx916
          obtain ⟨rfl, rfl⟩ := hr918
          refine D_st (Base.Le.refl _) 22 rfl (by kernel_rfl) (by kernel_rfl) (by kernel_rfl) rfl (st_index_old j914 rfl rfl hj915 hlt921 hA920 sl45) (.cons_cons _ (sub_skip hs910 (.refl _))) ?_
          refine D_all [23] (by kernel_rfl) rfl ?_
          refine R_do (Base.Le.refl _) rfl rfl (u_putOS hj915 (sz := 1) (a' := x878) rfl [_] R 0 1 [.int .i64 (x878)] rfl h911 hx916 rfl rfl rfl siz3 rfl (by intro u hu; simp only [List.mem_cons, List.not_mem_nil, or_false] at hu; subst hu; rfl) (fun cs hsj hh => by obtain ⟨rfl, rfl⟩ := hh; exact ⟨by decide, rfl, rfl⟩)) ?_ ?_
          ·
            rintro _ _ ⟨hs928, rfl, h929⟩
            refine ⟨.inl (by kernel_rfl), ?_⟩
            refine d_resp 0 rfl (v' := .slice A3 (put (put l783 (x7 + x782) x861) (x8 + x782) x878).length c4) (by simp only [put_length]) ?_
            refine D_done (by kernel_rfl) ?_
            refine x_block_normal ?_
            refine x_then_normal ?_
            refine c_region ?_
            refine t_st rfl (st_move rfl) ?_
            obtain ⟨_, h930, hm⟩ := bindS hm
            have h930 := (chk_some h930).2
            refine t_st rfl (st_add rfl rfl h930) ?_
            refine t_st rfl (st_assign rfl) ?_
            refine t_nil ?_
            exact x_againM (x782 + 1, put (put l783 (x7 + x782) x861) (x8 + x782) x878) (Option.some.inj hm).symm (e' := [(0, .slice A3 (put (put l783 (x7 + x782) x861) (x8 + x782) x878).length c4), (1, .int .i64 (x7)), (2, .int .i64 (x8)), (3, .int .i64 (x9)), (10, .int .i64 (x782 + 1))]) (hp' := (g6, Cl 22 [.slice A10 (l13).length c11]) :: (hs928 ++ R)) ⟨rfl, rfl, rfl, rfl, rfl, trivial⟩ (.cons_cons _ (sub_app hs928 (.refl _))) ⟨hs928, rfl, rfl, (hle778), h929, ((put_length _ _ _).trans ((put_length _ _ _).trans hln784))⟩
          exact R_nil
        exact R_nil
      exact R_nil
    refine R_do (Base.Le.refl _) rfl rfl (Stable.does (st_load_rd rfl one3 (fun w ho => hcs885 w _ ho (.cons _ (List.sublist_append_left _ _)) 0 _ rfl))) ?_ ?_
    ·
      rintro _ _ ⟨rfl, rfl⟩
      refine ⟨.inr (.cons_cons _ (sub_skip hs780 (.refl _))), ?_⟩
      refine D_all [13] (by kernel_rfl) rfl ?_
      refine R_do (Base.Le.refl _) rfl rfl (Stable.does (st_load_rd rfl one3 (fun w ho => hcs868 w _ ho (.cons _ (List.sublist_append_left _ _)) 0 _ rfl))) ?_ ?_
      ·
        rintro _ _ ⟨rfl, rfl⟩
        refine ⟨.inr (.cons_cons _ (sub_skip hs780 (.refl _))), ?_⟩
        obtain ⟨j896, hj897, hx898⟩ := idx_some h895
        obtain ⟨cs899, hs904, P905, P906, hq907, hr900, hcs901, hA902, hlt903, hb908, hho909⟩ := OS.get (sz := 1) rfl (by decide) h781 hx898
        obtain ⟨rfl, rfl⟩ := hr900
        refine D_st (Base.Le.refl _) 20 rfl (by kernel_rfl) (by kernel_rfl) (by kernel_rfl) rfl (st_index_old j896 rfl rfl hj897 hlt903 hA902 sl45) (.cons_cons _ (sub_skip hs780 (.refl _))) ?_
        refine D_all [21] (by kernel_rfl) rfl ?_
        refine R_do (Base.Le.refl _) rfl rfl (u_putOS hj897 (sz := 1) (a' := x861) rfl [_] R 0 1 [.int .i64 (x861)] rfl h781 hx898 rfl rfl rfl siz3 rfl (by intro u hu; simp only [List.mem_cons, List.not_mem_nil, or_false] at hu; subst hu; rfl) (fun cs hsj hh => by obtain ⟨rfl, rfl⟩ := hh; exact ⟨by decide, rfl, rfl⟩)) ?_ ?_
        ·
          rintro _ _ ⟨hs910, rfl, h911⟩
          refine ⟨.inr (.cons_cons _ (sub_skip hs910 (.refl _))), ?_⟩
          refine d_resp 0 rfl (v' := .slice A3 (put l783 (x7 + x782) x861).length c4) (by simp only [put_length]) ?_
          refine d_resp 20 rfl (v' := .slice A3 (put l783 (x7 + x782) x861).length c4) (by simp only [put_length]) ?_
          obtain ⟨j914, hj915, hx916⟩ := idx_some h913
          obtain ⟨cs917, hs922, P923, P924, hq925, hr918, hcs919, hA920, hlt921, hb926, hho927⟩ := OS.get (sz := 1) rfl (by decide) h911 hx916
          obtain ⟨rfl, rfl⟩ := hr918
          refine D_st (Base.Le.refl _) 22 rfl (by kernel_rfl) (by kernel_rfl) (by kernel_rfl) rfl (st_index_old j914 rfl rfl hj915 hlt921 hA920 sl45) (.cons_cons _ (sub_skip hs910 (.refl _))) ?_
          refine D_all [23] (by kernel_rfl) rfl ?_
          refine R_do (Base.Le.refl _) rfl rfl (u_putOS hj915 (sz := 1) (a' := x878) rfl [_] R 0 1 [.int .i64 (x878)] rfl h911 hx916 rfl rfl rfl siz3 rfl (by intro u hu; simp only [List.mem_cons, List.not_mem_nil, or_false] at hu; subst hu; rfl) (fun cs hsj hh => by obtain ⟨rfl, rfl⟩ := hh; exact ⟨by decide, rfl, rfl⟩)) ?_ ?_
          ·
            rintro _ _ ⟨hs928, rfl, h929⟩
            refine ⟨.inl (by kernel_rfl), ?_⟩
            refine d_resp 0 rfl (v' := .slice A3 (put (put l783 (x7 + x782) x861) (x8 + x782) x878).length c4) (by simp only [put_length]) ?_
            refine D_done (by kernel_rfl) ?_
            refine x_block_normal ?_
            refine x_then_normal ?_
            refine c_region ?_
            refine t_st rfl (st_move rfl) ?_
            obtain ⟨_, h931, hm⟩ := bindS hm
            have h931 := (chk_some h931).2
            refine t_st rfl (st_add rfl rfl h931) ?_
            refine t_st rfl (st_assign rfl) ?_
            refine t_nil ?_
            exact x_againM (x782 + 1, put (put l783 (x7 + x782) x861) (x8 + x782) x878) (Option.some.inj hm).symm (e' := [(0, .slice A3 (put (put l783 (x7 + x782) x861) (x8 + x782) x878).length c4), (1, .int .i64 (x7)), (2, .int .i64 (x8)), (3, .int .i64 (x9)), (10, .int .i64 (x782 + 1))]) (hp' := (g6, Cl 22 [.slice A10 (l13).length c11]) :: (hs928 ++ R)) ⟨rfl, rfl, rfl, rfl, rfl, trivial⟩ (.cons_cons _ (sub_app hs928 (.refl _))) ⟨hs928, rfl, rfl, (hle778), h929, ((put_length _ _ _).trans ((put_length _ _ _).trans hln784))⟩
          exact R_nil
        exact R_nil
      exact R_nil
    exact R_nil
  ·
    rw [if_neg (of_decide_eq_false hc785)] at hm
    refine c_exit ?_
    refine x_then_exit ?_
    refine x_then_exit ?_
    refine x_block_out ?_
    have hm := congrArg some (houtL476 _ (Option.some.inj hm).symm)
    obtain rfl := some1 hm
    exact endM hle778 rfl (.cons_cons _ (sub_app hs780 (.refl _))) ⟨hs780, rfl, rfl, h781, hln784⟩

set_option maxRecDepth 20000 in
theorem cSlicesRotateCmpFunc (b : Base) (R : Hp) (x7 : Int) (x8 : Int) (x9 : Int) (l13 : (List FleetTask)) (l14 : (List Int)) (g6 : Nat) (A10 : Option Addr) (c11 : Nat) (A3 : Option Addr) (c4 : Nat) (hs2 : Hp) (h12 : FZ rFleetTask b.w A10 c11 l13) (h5 : OS 3 (OT.fr (RT.int .i64)) b.w (.slice A3 l14.length c4) l14 hs2) (l203 : (List Int)) (hm : mSlicesRotateCmpFunc x7 x8 x9 l13 l14 = some l203) :
    CallsG Try.prog 128 [.slice A3 (l14).length c4, .int .i64 (x7), .int .i64 (x8), .int .i64 (x9), .func (.func 80) #[] #[.pointer (some ⟨g6, 0, none⟩)]] b ((g6, Cl 22 [.slice A10 (l13).length c11]) :: (hs2 ++ R)) (fun v b' hp' => ∃ (hs201 : Hp), .tuple #[] = v ∧ (g6, Cl 22 [.slice A10 (l13).length c11]) :: (hs201 ++ R) = hp' ∧ OS 3 (OT.fr (RT.int .i64)) b'.w (.slice A3 l203.length c4) l203 hs201 ∧ l203.length = l14.length) := by
  refine fn_enterG 58 Try.func128 rfl Try.ntmps128 rfl ?_
  unfold mSlicesRotateCmpFunc at hm
  refine c_seq ?_
  refine c_region ?_
  refine t_st rfl (st_move rfl) ?_
  refine t_st rfl (st_move rfl) ?_
  obtain ⟨_, h205, hm⟩ := bindS hm
  have h205 := (chk_some h205).2
  refine t_st rfl (st_sub rfl rfl h205) ?_
  refine t_st rfl (st_assign rfl) ?_
  refine t_nil ?_
  refine x_then_normal ?_
  refine c_seq ?_
  refine c_region ?_
  refine t_st rfl (st_move rfl) ?_
  refine t_st rfl (st_move rfl) ?_
  obtain ⟨_, h206, hm⟩ := bindS hm
  have h206 := (chk_some h206).2
  refine t_st rfl (st_sub rfl rfl h206) ?_
  refine t_st rfl (st_assign rfl) ?_
  refine t_nil ?_
  refine x_then_normal ?_
  obtain ⟨⟨x295, l296⟩, hj298, hk298⟩ := bindS hm
  refine c_join (fun b290 e' hp' => ∃ (hs293 : Hp), [(0, .slice A3 (l296).length c4), (2, .int .i64 (x8)), (4, .func (.func 80) #[] #[.pointer (some ⟨g6, 0, none⟩)]), (10, .int .i64 (x295))] = e' ∧ (g6, Cl 22 [.slice A10 (l13).length c11]) :: (hs293 ++ R) = hp' ∧ b.Le b290 ∧ OS 3 (OT.fr (RT.int .i64)) b290.w (.slice A3 l296.length c4) l296 hs293 ∧ l296.length = l14.length) ?_ ?_
  ·
    have hm := hj298
    refine c_block ?_
    refine c_loopM (unc3 fun x356 x357 l358 => fun b351 e' hp' => ∃ (hs354 : Hp), [(0, .slice A3 (l358).length c4), (2, .int .i64 (x8)), (4, .func (.func 80) #[] #[.pointer (some ⟨g6, 0, none⟩)]), (10, .int .i64 (x356)), (11, .int .i64 (x357))] = e' ∧ (g6, Cl 22 [.slice A10 (l13).length c11]) :: (hs354 ++ R) = hp' ∧ b.Le b351 ∧ OS 3 (OT.fr (RT.int .i64)) b351.w (.slice A3 l358.length c4) l358 hs354 ∧ l358.length = l14.length) hm (e' := [(0, .slice A3 (l14).length c4), (2, .int .i64 (x8)), (4, .func (.func 80) #[] #[.pointer (some ⟨g6, 0, none⟩)]), (10, .int .i64 (x8 - x7)), (11, .int .i64 (x9 - x8))]) (hp' := (g6, Cl 22 [.slice A10 (l13).length c11]) :: (hs2 ++ R)) ⟨rfl, rfl, rfl, rfl, rfl, trivial⟩ (.cons_cons _ (sub_app hs2 (.refl _))) ⟨hs2, rfl, rfl, (Base.Le.refl _), h5, rfl⟩ ?_
    rintro ⟨x356, x357, l358⟩ b351 _ _ oL299 ⟨hs354, rfl, rfl, hle352, h355, hln359⟩ hstepL299 houtL299
    unfold mSlicesRotateCmpFunc_L299 at hstepL299
    have hm := (unc3E hstepL299)
    refine c_seq ?_
    refine c_seq ?_
    refine c_region ?_
    refine t_st rfl (st_move rfl) ?_
    refine t_st rfl (st_move rfl) ?_
    refine t_st rfl (st_neq rfl rfl) ?_
    refine t_nil ?_
    refine x_then_normal ?_
    refine c_cond _ rfl (fun hc360 => ?_) (fun hc360 => ?_)
    ·
      rw [if_pos (of_decide_eq_true hc360)] at hm
      refine c_skip ?_
      refine x_then_normal ?_
      refine c_block ?_
      refine c_seq ?_
      refine c_region ?_
      refine t_st rfl (st_move rfl) ?_
      refine t_st rfl (st_move rfl) ?_
      refine t_st rfl (st_gtr rfl rfl) ?_
      refine t_nil ?_
      refine x_then_normal ?_
      refine c_cond _ rfl (fun hc361 => ?_) (fun hc361 => ?_)
      ·
        rw [if_pos (of_decide_eq_true hc361)] at hm
        refine c_seq ?_
        refine c_region ?_
        refine t_st rfl (st_move rfl) ?_
        refine t_st rfl (st_move rfl) ?_
        refine t_st rfl (st_move rfl) ?_
        obtain ⟨_, h362, hm⟩ := bindS hm
        have h362 := (chk_some h362).2
        refine t_st rfl (st_sub rfl rfl h362) ?_
        refine t_st rfl (st_move rfl) ?_
        refine t_st rfl (st_move rfl) ?_
        refine t_st rfl (st_move rfl) ?_
        obtain ⟨l363, hcl364, hm⟩ := bindS hm
        refine t_out1 [_] [] hs354 R rfl ?_
        refine t_callG _ rfl call130 rfl (cSlicesSwapRangeCmpFunc _ _ (x8 - x356) x8 x357 l13 l358 g6 A10 c11 A3 c4 hs354 (h12.le hle352) h355 l363 hcl364) ?_
        rintro _ b365 _ hle366 ⟨hs367, rfl, rfl, h368, h369⟩
        refine t_in1 [_] [] hs367 R rfl ?_
        refine t_resp 0 rfl (v' := .slice A3 (l363).length c4) (by rw [h369]) ?_
        refine t_nil ?_
        refine x_then_normal ?_
        refine c_region ?_
        refine t_st rfl (st_move rfl) ?_
        refine t_st rfl (st_move rfl) ?_
        obtain ⟨_, h370, hm⟩ := bindS hm
        have h370 := (chk_some h370).2
        refine t_st rfl (st_sub rfl rfl h370) ?_
        refine t_st rfl (st_assign rfl) ?_
        refine t_nil ?_
        refine x_block_normal ?_
        exact x_againM (x356 - x357, x357, l363) (Option.some.inj hm).symm (e' := [(0, .slice A3 (l363).length c4), (2, .int .i64 (x8)), (4, .func (.func 80) #[] #[.pointer (some ⟨g6, 0, none⟩)]), (10, .int .i64 (x356 - x357)), (11, .int .i64 (x357))]) (hp' := (g6, Cl 22 [.slice A10 (l13).length c11]) :: (hs367 ++ R)) ⟨rfl, rfl, rfl, rfl, rfl, trivial⟩ (.cons_cons _ (sub_app hs367 (.refl _))) ⟨hs367, rfl, rfl, ((hle352.trans hle366)), h368, (h369.trans hln359)⟩
      ·
        rw [if_neg (of_decide_eq_false hc361)] at hm
        refine c_seq ?_
        refine c_region ?_
        refine t_st rfl (st_move rfl) ?_
        refine t_st rfl (st_move rfl) ?_
        refine t_st rfl (st_move rfl) ?_
        obtain ⟨_, h371, hm⟩ := bindS hm
        have h371 := (chk_some h371).2
        refine t_st rfl (st_sub rfl rfl h371) ?_
        refine t_st rfl (st_move rfl) ?_
        refine t_st rfl (st_move rfl) ?_
        obtain ⟨_, h372, hm⟩ := bindS hm
        have h372 := (chk_some h372).2
        refine t_st rfl (st_add rfl rfl h372) ?_
        refine t_st rfl (st_move rfl) ?_
        obtain ⟨_, h373, hm⟩ := bindS hm
        have h373 := (chk_some h373).2
        refine t_st rfl (st_sub rfl rfl h373) ?_
        refine t_st rfl (st_move rfl) ?_
        refine t_st rfl (st_move rfl) ?_
        obtain ⟨l374, hcl375, hm⟩ := bindS hm
        refine t_out1 [_] [] hs354 R rfl ?_
        refine t_callG _ rfl call130 rfl (cSlicesSwapRangeCmpFunc _ _ (x8 - x356) ((x8 + x357) - x356) x356 l13 l358 g6 A10 c11 A3 c4 hs354 (h12.le hle352) h355 l374 hcl375) ?_
        rintro _ b376 _ hle377 ⟨hs378, rfl, rfl, h379, h380⟩
        refine t_in1 [_] [] hs378 R rfl ?_
        refine t_resp 0 rfl (v' := .slice A3 (l374).length c4) (by rw [h380]) ?_
        refine t_nil ?_
        refine x_then_normal ?_
        refine c_region ?_
        refine t_st rfl (st_move rfl) ?_
        refine t_st rfl (st_move rfl) ?_
        obtain ⟨_, h381, hm⟩ := bindS hm
        have h381 := (chk_some h381).2
        refine t_st rfl (st_sub rfl rfl h381) ?_
        refine t_st rfl (st_assign rfl) ?_
        refine t_nil ?_
        refine x_block_normal ?_
        exact x_againM (x356, x357 - x356, l374) (Option.some.inj hm).symm (e' := [(0, .slice A3 (l374).length c4), (2, .int .i64 (x8)), (4, .func (.func 80) #[] #[.pointer (some ⟨g6, 0, none⟩)]), (10, .int .i64 (x356)), (11, .int .i64 (x357 - x356))]) (hp' := (g6, Cl 22 [.slice A10 (l13).length c11]) :: (hs378 ++ R)) ⟨rfl, rfl, rfl, rfl, rfl, trivial⟩ (.cons_cons _ (sub_app hs378 (.refl _))) ⟨hs378, rfl, rfl, ((hle352.trans hle377)), h379, (h380.trans hln359)⟩
    ·
      rw [if_neg (of_decide_eq_false hc360)] at hm
      refine c_exit ?_
      refine x_then_exit ?_
      refine x_then_exit ?_
      refine x_block_out ?_
      have hm := congrArg some (houtL299 _ (Option.some.inj hm).symm)
      obtain ⟨rfl, rfl⟩ := some2 hm
      exact x_join (e' := [(0, .slice A3 (l358).length c4), (2, .int .i64 (x8)), (4, .func (.func 80) #[] #[.pointer (some ⟨g6, 0, none⟩)]), (10, .int .i64 (x356))]) (hp' := (g6, Cl 22 [.slice A10 (l13).length c11]) :: (hs354 ++ R)) ⟨rfl, rfl, rfl, rfl, trivial⟩ (.cons_cons _ (sub_app hs354 (.refl _))) ⟨hs354, rfl, rfl, hle352, h355, hln359⟩
  ·
    rintro b290 _ _ ⟨hs293, rfl, rfl, hle291, h294, hln297⟩
    have hm := (unc2E hk298)
    refine c_region ?_
    refine t_st rfl (st_move rfl) ?_
    refine t_st rfl (st_move rfl) ?_
    refine t_st rfl (st_move rfl) ?_
    obtain ⟨_, h382, hm⟩ := bindS hm
    have h382 := (chk_some h382).2
    refine t_st rfl (st_sub rfl rfl h382) ?_
    refine t_st rfl (st_move rfl) ?_
    refine t_st rfl (st_move rfl) ?_
    refine t_st rfl (st_move rfl) ?_
    obtain ⟨l383, hcl384, hm⟩ := bindS hm
    refine t_out1 [_] [] hs293 R rfl ?_
    refine t_callG _ rfl call130 rfl (cSlicesSwapRangeCmpFunc _ _ (x8 - x295) x8 x295 l13 l296 g6 A10 c11 A3 c4 hs293 (h12.le hle291) h294 l383 hcl384) ?_
    rintro _ b385 _ hle386 ⟨hs387, rfl, rfl, h388, h389⟩
    refine t_in1 [_] [] hs387 R rfl ?_
    refine t_nil ?_
    obtain rfl := some1 hm
    exact endM (hle291.trans hle386) rfl (.cons_cons _ (sub_app hs387 (.refl _))) ⟨hs387, rfl, rfl, h388, (h389.trans hln297)⟩

end Go.Proofs.Ytajmocgpjkhjlaa
