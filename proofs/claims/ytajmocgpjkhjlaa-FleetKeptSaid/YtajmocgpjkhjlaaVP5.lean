/- Contracts: the code computes its model (part 5). -/
import Derived.Test.YtajmocgpjkhjlaaVP4
set_option linter.unusedVariables false
set_option linter.unusedSimpArgs false
namespace Go.Proofs.Ytajmocgpjkhjlaa
open Go.RowKit Go.Fp

set_option maxRecDepth 20000 in
theorem cFleetJudge_2 (b : Base) (R : Hp) (l4 : (List FleetTask)) (l8 : (List Int)) (s9 : FleetLimits) (A1 : Option Addr) (c2 : Nat) (A5 : Option Addr) (c6 : Nat) (h3 : FZ rFleetTask b.w A1 c2 l4) (h7 : FZ (RT.int .i64) b.w A5 c6 l8) (x92 : Int) (x93 : Int) (hm : mFleetJudge_2 l4 l8 s9 = some (x92, x93)) :
    CallsG Try.prog 26 [.slice A1 (l4).length c2, .slice A5 (l8).length c6, .agg #[.int .i64 (s9.Change), .int .i64 (s9.Long), .int .i64 (s9.Work), .int .i64 (s9.After), .int .i64 (s9.Break), .int .i64 (s9.Rest), .int .i64 (s9.Row)]] b (R) (fun v b' hp' => .tuple #[.int .i64 (x92), .int .i64 (x93)] = v ∧ R = hp') := by
  refine fn_enterG 45 Try.func26 rfl Try.ntmps26 rfl ?_
  unfold mFleetJudge_2 at hm
  refine c_seq ?_
  refine c_region ?_
  refine t_do rfl (u_box _ rfl rfl) ?_
  rintro _ _ ⟨g94, rfl, rfl⟩
  refine t_st rfl (st_assign rfl) ?_
  refine t_st rfl (st_assign rfl) ?_
  refine t_nil ?_
  refine x_then_normal ?_
  refine c_seq ?_
  refine c_seq ?_
  refine c_region ?_
  refine t_st rfl (st_move rfl) ?_
  refine t_st rfl (st_loadD (vs := [_, _, _, _, _, _, _]) 0 7 rfl agg55 rfl rfl rfl) ?_
  obtain ⟨x95, hcl96, hm⟩ := bindS hm
  refine t_do rfl (u_callW0 _ call54 rfl (fun w ho => cFleetCheckTasks_2 _ [] l4 s9 A1 c2 (h3.old ho) x95 hcl96) (fun _ _ _ h => h.2.symm)) ?_
  rintro _ _ ⟨⟨_, rfl, _⟩, rfl⟩
  refine t_st rfl (st_assign rfl) ?_
  refine t_nil ?_
  refine x_then_normal ?_
  refine c_seq ?_
  refine c_region ?_
  refine t_st rfl (st_move rfl) ?_
  refine t_st rfl (st_neq rfl rfl) ?_
  refine t_nil ?_
  refine x_then_normal ?_
  refine c_cond _ rfl (fun hc97 => ?_) (fun hc97 => ?_)
  ·
    rw [if_pos (of_decide_eq_true hc97)] at hm
    refine c_seq ?_
    refine c_region ?_
    refine t_st rfl (st_move rfl) ?_
    refine t_st rfl (st_assign rfl) ?_
    refine t_st rfl (st_assign rfl) ?_
    refine t_nil ?_
    refine x_then_normal ?_
    refine c_ret ?_
    refine x_then_ret ?_
    obtain ⟨rfl, rfl⟩ := some2 hm
    exact retM (rs := [.tmp 6, .tmp 7]) [.int .i64 (0), .int .i64 (x95)] (Base.Le.refl _) (by decide) rfl ⟨rfl, ⟨rfl, trivial⟩⟩ rfl (hp' := R) (.cons _ (.refl _)) ⟨rfl, rfl⟩
  ·
    rw [if_neg (of_decide_eq_false hc97)] at hm
    refine c_skip ?_
    refine x_then_normal ?_
    refine c_seq ?_
    refine c_seq ?_
    refine c_region ?_
    refine t_st rfl (st_move rfl) ?_
    refine t_st rfl (st_len rfl sl45) ?_
    refine t_st rfl (st_eql rfl rfl) ?_
    refine t_nil ?_
    refine x_then_normal ?_
    refine c_cond _ rfl (fun hc98 => ?_) (fun hc98 => ?_)
    ·
      rw [if_pos (of_decide_eq_true hc98)] at hm
      refine c_seq ?_
      refine c_region ?_
      refine t_st rfl (st_assign rfl) ?_
      refine t_st rfl (st_assign rfl) ?_
      refine t_nil ?_
      refine x_then_normal ?_
      refine c_ret ?_
      refine x_then_ret ?_
      obtain ⟨rfl, rfl⟩ := some2 hm
      exact retM (rs := [.tmp 6, .tmp 7]) [.int .i64 (0), .int .i64 (1)] (Base.Le.refl _) (by decide) rfl ⟨rfl, ⟨rfl, trivial⟩⟩ rfl (hp' := R) (.cons _ (.refl _)) ⟨rfl, rfl⟩
    ·
      rw [if_neg (of_decide_eq_false hc98)] at hm
      refine c_skip ?_
      refine x_then_normal ?_
      refine c_seq ?_
      refine c_seq ?_
      refine c_region ?_
      refine t_st rfl (st_move rfl) ?_
      refine t_st rfl (st_len rfl sl45) ?_
      refine t_st rfl (st_move rfl) ?_
      refine t_nil ?_
      refine x_then_normal ?_
      refine c_block ?_
      have hb100 := (FZ.bd h7)
      obtain ⟨t136, hl137, hk138⟩ := bindS hm
      refine c_forM (fun k135 => fun _ => fun b133 e' hp' => [(0, .slice A1 (l4).length c2), (1, .slice A5 (l8).length c6), (5, .pointer (some ⟨g94, 0, none⟩)), (20, .slice A5 (l8).length c6), (21, .int .i64 ((l8.length : Int))), (22, .int .i64 ((k135 : Int)))] = e' ∧ (g94, Cl 55 [.int .i64 (s9.Change), .int .i64 (s9.Long), .int .i64 (s9.Work), .int .i64 (s9.After), .int .i64 (s9.Break), .int .i64 (s9.Rest), .int .i64 (s9.Row)]) :: R = hp' ∧ b.Le b133) hl137 (e' := [(0, .slice A1 (l4).length c2), (1, .slice A5 (l8).length c6), (5, .pointer (some ⟨g94, 0, none⟩)), (20, .slice A5 (l8).length c6), (21, .int .i64 ((l8.length : Int))), (22, .int .i64 0)]) (hp' := (g94, Cl 55 [.int .i64 (s9.Change), .int .i64 (s9.Long), .int .i64 (s9.Work), .int .i64 (s9.After), .int .i64 (s9.Break), .int .i64 (s9.Rest), .int .i64 (s9.Row)]) :: R) ⟨rfl, rfl, rfl, rfl, rfl, rfl, trivial⟩ (.cons_cons _ (.refl _)) ⟨rfl, rfl, (Base.Le.refl _)⟩ ?_ ?_
      ·
        rintro k135 _ b133 _ _ oL99 hknL99 ⟨rfl, rfl, hle134⟩ hstepL99 houtL99
        unfold mFleetJudge_2_L99 at hstepL99
        have hm := hstepL99
        refine c_seq ?_
        refine c_region ?_
        refine t_st rfl (st_lss_t rfl rfl (by omega)) ?_
        refine t_nil ?_
        refine x_then_normal ?_
        refine c_seq ?_
        refine c_cond_t rfl ?_
        refine c_skip ?_
        refine x_then_normal ?_
        refine c_seq ?_
        refine c_block ?_
        refine c_seq ?_
        refine c_region ?_
        refine t_st rfl (st_move rfl) ?_
        obtain ⟨x139, h140, hm⟩ := bindS hm
        obtain ⟨j141, hj142, hx143⟩ := idx_some h140
        obtain ⟨cs144, hr145, hcs146, hA147, hlt148⟩ := FZ.get (sz := 1) rfl (by decide) (h7.le hle134) hx143
        obtain rfl := hr145
        refine t_st rfl (st_index_old j141 rfl rfl hj142 hlt148 hA147 sl45) ?_
        refine t_st rfl (st_load_old rfl one3 (hcs146 0 _ rfl)) ?_
        refine t_st rfl (st_assign rfl) ?_
        refine t_st rfl (st_assign rfl) ?_
        refine t_nil ?_
        refine x_then_normal ?_
        refine c_block ?_
        refine c_seq ?_
        refine c_region ?_
        refine t_st rfl (st_move rfl) ?_
        refine t_st rfl (st_move rfl) ?_
        refine t_st rfl (st_len rfl sl22) ?_
        obtain ⟨_, h149, hm⟩ := bindS hm
        have h149 := (chk_some h149).2
        refine t_st rfl (st_sub rfl rfl h149) ?_
        obtain ⟨x150, hcl151, hm⟩ := bindS hm
        refine t_do rfl (u_callW0 _ call46 rfl (fun w ho => cFleetWithin _ [] x139 0 ((l4.length : Int) - 1) x150 hcl151) (fun _ _ _ h => h.2.symm)) ?_
        rintro _ _ ⟨⟨_, rfl, _⟩, rfl⟩
        refine t_st rfl (st_not rfl) ?_
        refine t_st rfl (st_assign rfl) ?_
        refine t_nil ?_
        refine x_then_normal ?_
        refine c_cond _ rfl (fun hc152 => ?_) (fun hc152 => ?_)
        ·
          rw [if_neg (fun hh => Bool.noConfusion (hh.symm.trans (notT hc152)))] at hm
          refine c_seq ?_
          refine c_region ?_
          refine t_st rfl (st_assign rfl) ?_
          refine t_st rfl (st_assign rfl) ?_
          refine t_nil ?_
          refine x_then_normal ?_
          refine c_ret ?_
          refine x_block_ret ?_
          refine x_block_ret ?_
          refine x_then_ret ?_
          refine x_then_ret ?_
          refine x_block_ret ?_
          refine x_then_ret ?_
          have hq153 := houtL99 _ (Option.some.inj hm).symm
          rw [hq153] at hk138
          have hm := elimR hk138
          obtain ⟨rfl, rfl⟩ := some2 hm
          exact retM (rs := [.tmp 6, .tmp 7]) [.int .i64 (0), .int .i64 (2)] hle134 (by decide) rfl ⟨rfl, ⟨rfl, trivial⟩⟩ rfl (hp' := R) (.cons _ (.refl _)) ⟨rfl, rfl⟩
        ·
          rw [if_pos (notF hc152)] at hm
          refine c_seq ?_
          refine c_region ?_
          refine t_st rfl (st_move rfl) ?_
          refine t_st rfl (st_move rfl) ?_
          obtain ⟨l154, h155, hm⟩ := bindS hm
          obtain ⟨j156, j157, hj158, hj159, hj160, hj161, hx162⟩ := cutS_some h155
          have h163 := FZ.sub (sz := 1) rfl (h7.le hle134) hj160 hj161
          have h164 := (h7.le hle134).1.1
          rw [← hx162] at h163
          refine t_st rfl (hx162 ▸ st_part (l := l8) j156 j157 rfl (.inl ⟨rfl, by omega⟩) (.inr ⟨_, _, _, rfl, rfl, hj159⟩) hj160 hj161 h164 sl45) ?_
          refine t_st rfl (st_move rfl) ?_
          obtain ⟨x169, hcl170, hm⟩ := bindS hm
          refine t_do rfl (u_callW0 _ call20 rfl (fun w ho => cSlicesContains_2 _ [] l154 x139 (subA A5 c6 j156 1) (c6 - j156) (h163.old ho) x169 hcl170) (fun _ _ _ h => h.2.symm)) ?_
          rintro _ _ ⟨⟨_, rfl, _⟩, rfl⟩
          refine t_st rfl (st_assign rfl) ?_
          refine t_nil ?_
          refine x_then_normal ?_
          refine c_cond _ rfl (fun hc171 => ?_) (fun hc171 => ?_)
          ·
            rw [if_pos hc171] at hm
            refine c_seq ?_
            refine c_region ?_
            refine t_st rfl (st_assign rfl) ?_
            refine t_st rfl (st_assign rfl) ?_
            refine t_nil ?_
            refine x_then_normal ?_
            refine c_ret ?_
            refine x_block_ret ?_
            refine x_block_ret ?_
            refine x_then_ret ?_
            refine x_then_ret ?_
            refine x_block_ret ?_
            refine x_then_ret ?_
            have hq172 := houtL99 _ (Option.some.inj hm).symm
            rw [hq172] at hk138
            have hm := elimR hk138
            obtain ⟨rfl, rfl⟩ := some2 hm
            exact retM (rs := [.tmp 6, .tmp 7]) [.int .i64 (0), .int .i64 (6)] hle134 (by decide) rfl ⟨rfl, ⟨rfl, trivial⟩⟩ rfl (hp' := R) (.cons _ (.refl _)) ⟨rfl, rfl⟩
          ·
            rw [if_neg (fun hh => Bool.noConfusion (hh.symm.trans hc171))] at hm
            refine c_skip ?_
            refine x_block_normal ?_
            refine x_block_normal ?_
            refine x_then_normal ?_
            refine c_region ?_
            refine t_st rfl (st_add rfl rfl (by omega)) ?_
            refine t_st rfl (st_move rfl) ?_
            refine t_nil ?_
            exact x_againM () (Option.some.inj hm).symm (e' := [(0, .slice A1 (l4).length c2), (1, .slice A5 (l8).length c6), (5, .pointer (some ⟨g94, 0, none⟩)), (20, .slice A5 (l8).length c6), (21, .int .i64 ((l8.length : Int))), (22, .int .i64 ((k135 : Int) + 1))]) (hp' := (g94, Cl 55 [.int .i64 (s9.Change), .int .i64 (s9.Long), .int .i64 (s9.Work), .int .i64 (s9.After), .int .i64 (s9.Break), .int .i64 (s9.Rest), .int .i64 (s9.Row)]) :: R) ⟨rfl, rfl, rfl, rfl, rfl, rfl, trivial⟩ (.cons_cons _ (.refl _)) ⟨rfl, rfl, (hle134)⟩
      ·
        rintro _ b133 _ _ ⟨rfl, rfl, hle134⟩ hq173
        rw [hq173] at hk138
        have hm := elimL hk138
        refine c_seq ?_
        refine c_region ?_
        refine t_st rfl (st_lss_f rfl rfl (by omega)) ?_
        refine t_nil ?_
        refine x_then_normal ?_
        refine c_seq ?_
        refine c_cond_f rfl ?_
        refine c_exit ?_
        refine x_then_exit ?_
        refine x_then_exit ?_
        refine x_block_out ?_
        refine x_then_normal ?_
        refine c_seq ?_
        refine c_region ?_
        refine t_st rfl (st_move rfl) ?_
        refine t_st rfl (st_move rfl) ?_
        refine t_st rfl (st_loadD (vs := [_, _, _, _, _, _, _]) 0 7 rfl agg55 rfl rfl rfl) ?_
        obtain ⟨x174, hcl175, hm⟩ := bindS hm
        refine t_do rfl (u_callW0 _ call56 rfl (fun w ho => cFleetJudge _ [] l4 l8 s9 A1 c2 A5 c6 ((h3.le hle134).old ho) ((h7.le hle134).old ho) x174 hcl175) (fun _ _ _ h => h.2.symm)) ?_
        rintro _ _ ⟨⟨_, rfl, _⟩, rfl⟩
        refine t_st rfl (st_assign rfl) ?_
        refine t_st rfl (st_assign rfl) ?_
        refine t_nil ?_
        refine x_then_normal ?_
        refine c_ret ?_
        obtain ⟨rfl, rfl⟩ := some2 hm
        exact retM (rs := [.tmp 6, .tmp 7]) [.int .i64 (x174), .int .i64 (0)] hle134 (by decide) rfl ⟨rfl, ⟨rfl, trivial⟩⟩ rfl (hp' := R) (.cons _ (.refl _)) ⟨rfl, rfl⟩

set_option maxRecDepth 20000 in
theorem cFishkeep2FleetKept_1 (b : Base) (R : Hp) (x1 : Int) (x2 : Bool) (hm : mFishkeep2FleetKept_1 x1 = some x2) :
    CallsG Try.prog 28 [.int .i64 (x1)] b (R) (fun v b' hp' => .bool (x2) = v ∧ R = hp') := by
  refine fn_enterG 5 Try.func28 rfl Try.ntmps28 rfl ?_
  unfold mFishkeep2FleetKept_1 at hm
  refine c_seq ?_
  refine c_region ?_
  refine t_st rfl (st_assign rfl) ?_
  refine t_nil ?_
  refine x_then_normal ?_
  refine c_seq ?_
  refine c_region ?_
  refine t_st rfl (st_move rfl) ?_
  refine t_st rfl (st_neq rfl rfl) ?_
  refine t_st rfl (st_assign rfl) ?_
  refine t_nil ?_
  refine x_then_normal ?_
  refine c_ret ?_
  obtain rfl := some1 hm
  exact retM (rs := [.tmp 2]) [.bool (decide (x1 ≠ 1))] (Base.Le.refl _) (by decide) rfl ⟨rfl, trivial⟩ rfl (hp' := R) (.refl _) ⟨rfl, rfl⟩

set_option maxRecDepth 20000 in
theorem cSlicesIndexFunc (b : Base) (R : Hp) (l4 : (List Int)) (A1 : Option Addr) (c2 : Nat) (h3 : FZ (RT.int .i64) b.w A1 c2 l4) (x41 : Int) (hm : mSlicesIndexFunc l4 = some x41) :
    CallsG Try.prog 57 [.slice A1 (l4).length c2, .func (.func 28) #[] #[]] b (R) (fun v b' hp' => .int .i64 (x41) = v ∧ R = hp') := by
  refine fn_enterG 19 Try.func57 rfl Try.ntmps57 rfl ?_
  unfold mSlicesIndexFunc at hm
  refine c_seq ?_
  refine c_region ?_
  refine t_st rfl (st_assign rfl) ?_
  refine t_nil ?_
  refine x_then_normal ?_
  refine c_seq ?_
  refine c_seq ?_
  refine c_region ?_
  refine t_st rfl (st_move rfl) ?_
  refine t_st rfl (st_len rfl sl45) ?_
  refine t_st rfl (st_move rfl) ?_
  refine t_nil ?_
  refine x_then_normal ?_
  refine c_block ?_
  have hb43 := (FZ.bd h3)
  obtain ⟨t60, hl61, hk62⟩ := bindS hm
  refine c_forM (fun k59 => fun _ => fun b57 e' hp' => [(0, .slice A1 (l4).length c2), (1, .func (.func 28) #[] #[]), (7, .int .i64 ((l4.length : Int))), (8, .int .i64 ((k59 : Int)))] = e' ∧ R = hp' ∧ b.Le b57) hl61 (e' := [(0, .slice A1 (l4).length c2), (1, .func (.func 28) #[] #[]), (7, .int .i64 ((l4.length : Int))), (8, .int .i64 0)]) (hp' := R) ⟨rfl, rfl, rfl, rfl, trivial⟩ (.refl _) ⟨rfl, rfl, (Base.Le.refl _)⟩ ?_ ?_
  ·
    rintro k59 _ b57 _ _ oL42 hknL42 ⟨rfl, rfl, hle58⟩ hstepL42 houtL42
    unfold mSlicesIndexFunc_L42 at hstepL42
    have hm := hstepL42
    refine c_seq ?_
    refine c_region ?_
    refine t_st rfl (st_lss_t rfl rfl (by omega)) ?_
    refine t_nil ?_
    refine x_then_normal ?_
    refine c_seq ?_
    refine c_cond_t rfl ?_
    refine c_skip ?_
    refine x_then_normal ?_
    refine c_seq ?_
    refine c_block ?_
    refine c_seq ?_
    refine c_region ?_
    refine t_st rfl (st_move rfl) ?_
    refine t_st rfl (st_assign rfl) ?_
    refine t_nil ?_
    refine x_then_normal ?_
    refine c_seq ?_
    refine c_region ?_
    refine t_st rfl (st_move rfl) ?_
    refine t_st rfl (st_move rfl) ?_
    refine t_st rfl (st_move rfl) ?_
    obtain ⟨x63, h64, hm⟩ := bindS hm
    obtain ⟨j65, hj66, hx67⟩ := idx_some h64
    obtain ⟨cs68, hr69, hcs70, hA71, hlt72⟩ := FZ.get (sz := 1) rfl (by decide) (h3.le hle58) hx67
    obtain rfl := hr69
    refine t_st rfl (st_index_old j65 rfl rfl hj66 hlt72 hA71 sl45) ?_
    refine t_st rfl (st_load_old rfl one3 (hcs70 0 _ rfl)) ?_
    obtain ⟨x73, hcl74, hm⟩ := bindS hm
    refine t_do rfl (u_callvW0 #[] #[] [.int .i64 (x63)] rfl call28 rfl (fun w ho => cFishkeep2FleetKept_1 _ [] x63 x73 hcl74) (fun _ _ _ h => h.2.symm)) ?_
    rintro _ _ ⟨⟨_, rfl, _⟩, rfl⟩
    refine t_nil ?_
    refine x_then_normal ?_
    refine c_cond _ rfl (fun hc75 => ?_) (fun hc75 => ?_)
    ·
      rw [if_pos hc75] at hm
      refine c_seq ?_
      refine c_region ?_
      refine t_st rfl (st_move rfl) ?_
      refine t_st rfl (st_assign rfl) ?_
      refine t_nil ?_
      refine x_then_normal ?_
      refine c_ret ?_
      refine x_block_ret ?_
      refine x_then_ret ?_
      refine x_then_ret ?_
      refine x_block_ret ?_
      refine x_then_ret ?_
      have hq76 := houtL42 _ (Option.some.inj hm).symm
      rw [hq76] at hk62
      have hm := elimR hk62
      obtain rfl := some1 hm
      exact retM (rs := [.tmp 4]) [.int .i64 ((k59 : Int))] hle58 (by decide) rfl ⟨rfl, trivial⟩ rfl (hp' := R) (.refl _) ⟨rfl, rfl⟩
    ·
      rw [if_neg (fun hh => Bool.noConfusion (hh.symm.trans hc75))] at hm
      refine c_skip ?_
      refine x_block_normal ?_
      refine x_then_normal ?_
      refine c_region ?_
      refine t_st rfl (st_add rfl rfl (by omega)) ?_
      refine t_st rfl (st_move rfl) ?_
      refine t_nil ?_
      exact x_againM () (Option.some.inj hm).symm (e' := [(0, .slice A1 (l4).length c2), (1, .func (.func 28) #[] #[]), (7, .int .i64 ((l4.length : Int))), (8, .int .i64 ((k59 : Int) + 1))]) (hp' := R) ⟨rfl, rfl, rfl, rfl, trivial⟩ (.refl _) ⟨rfl, rfl, (hle58)⟩
  ·
    rintro _ b57 _ _ ⟨rfl, rfl, hle58⟩ hq77
    rw [hq77] at hk62
    have hm := elimL hk62
    refine c_seq ?_
    refine c_region ?_
    refine t_st rfl (st_lss_f rfl rfl (by omega)) ?_
    refine t_nil ?_
    refine x_then_normal ?_
    refine c_seq ?_
    refine c_cond_f rfl ?_
    refine c_exit ?_
    refine x_then_exit ?_
    refine x_then_exit ?_
    refine x_block_out ?_
    refine x_then_normal ?_
    refine c_seq ?_
    refine c_region ?_
    refine t_st rfl (st_assign rfl) ?_
    refine t_nil ?_
    refine x_then_normal ?_
    refine c_ret ?_
    obtain rfl := some1 hm
    exact retM (rs := [.tmp 4]) [.int .i64 ((-1))] hle58 (by decide) rfl ⟨rfl, trivial⟩ rfl (hp' := R) (.refl _) ⟨rfl, rfl⟩

set_option maxRecDepth 20000 in
theorem cSlicesContainsFunc (b : Base) (R : Hp) (l4 : (List Int)) (A1 : Option Addr) (c2 : Nat) (h3 : FZ (RT.int .i64) b.w A1 c2 l4) (x7 : Bool) (hm : mSlicesContainsFunc l4 = some x7) :
    CallsG Try.prog 27 [.slice A1 (l4).length c2, .func (.func 28) #[] #[]] b (R) (fun v b' hp' => .bool (x7) = v ∧ R = hp') := by
  refine fn_enterG 9 Try.func27 rfl Try.ntmps27 rfl ?_
  unfold mSlicesContainsFunc at hm
  refine c_seq ?_
  refine c_region ?_
  refine t_st rfl (st_assign rfl) ?_
  refine t_nil ?_
  refine x_then_normal ?_
  refine c_seq ?_
  refine c_region ?_
  refine t_st rfl (st_move rfl) ?_
  refine t_st rfl (st_move rfl) ?_
  obtain ⟨x8, hcl9, hm⟩ := bindS hm
  refine t_do rfl (u_callW0 _ call57 rfl (fun w ho => cSlicesIndexFunc _ [] l4 A1 c2 (h3.old ho) x8 hcl9) (fun _ _ _ h => h.2.symm)) ?_
  rintro _ _ ⟨⟨_, rfl, _⟩, rfl⟩
  refine t_st rfl (st_geq rfl rfl) ?_
  refine t_st rfl (st_assign rfl) ?_
  refine t_nil ?_
  refine x_then_normal ?_
  refine c_ret ?_
  obtain rfl := some1 hm
  exact retM (rs := [.tmp 4]) [.bool (decide (0 ≤ x8))] (Base.Le.refl _) (by decide) rfl ⟨rfl, trivial⟩ rfl (hp' := R) (.refl _) ⟨rfl, rfl⟩

set_option maxRecDepth 20000 in
theorem cFishkeep2FleetKept (b : Base) (R : Hp) (l4 : (List FleetTask)) (s5 : FleetLimits) (x6 : Int) (A1 : Option Addr) (c2 : Nat) (h3 : FZ rFleetTask b.w A1 c2 l4) (x697 : Bool) (hm : mFishkeep2FleetKept l4 s5 x6 = some x697) :
    CallsG Try.prog 6 [.slice A1 (l4).length c2, .agg #[.int .i64 (s5.Change), .int .i64 (s5.Long), .int .i64 (s5.Work), .int .i64 (s5.After), .int .i64 (s5.Break), .int .i64 (s5.Rest), .int .i64 (s5.Row)], .int .i64 (x6)] b (R) (fun v b' hp' => .bool (x697) = v ∧ R = hp') := by
  refine fn_enterG 137 Try.func6 rfl Try.ntmps6 rfl ?_
  unfold mFishkeep2FleetKept at hm
  refine c_seq ?_
  refine c_region ?_
  refine t_do rfl (u_box _ rfl rfl) ?_
  rintro _ _ ⟨g698, rfl, rfl⟩
  refine t_st rfl (st_assign rfl) ?_
  refine t_nil ?_
  refine x_then_normal ?_
  refine c_seq ?_
  refine c_seq ?_
  refine c_region ?_
  obtain ⟨x699, hcl700, hm⟩ := bindS hm
  refine t_do rfl (u_callW0 _ call10 rfl (fun w ho => cFishkeep2AwakeFleet _ [] x699 hcl700) (fun _ _ _ h => h.2.symm)) ?_
  rintro _ _ ⟨⟨_, rfl, _⟩, rfl⟩
  refine t_st rfl (st_not rfl) ?_
  refine t_nil ?_
  refine x_then_normal ?_
  refine c_cond _ rfl (fun hc701 => ?_) (fun hc701 => ?_)
  ·
    rw [if_neg (fun hh => Bool.noConfusion (hh.symm.trans (notT hc701)))] at hm
    refine c_seq ?_
    refine c_region ?_
    refine t_st rfl (st_assign rfl) ?_
    refine t_nil ?_
    refine x_then_normal ?_
    refine c_ret ?_
    refine x_then_ret ?_
    obtain rfl := some1 hm
    exact retM (rs := [.tmp 6]) [.bool (false)] (Base.Le.refl _) (by decide) rfl ⟨rfl, trivial⟩ rfl (hp' := R) (.cons _ (.refl _)) ⟨rfl, rfl⟩
  ·
    rw [if_pos (notF hc701)] at hm
    refine c_skip ?_
    refine x_then_normal ?_
    refine c_seq ?_
    refine c_seq ?_
    refine c_region ?_
    obtain ⟨x702, hcl703, hm⟩ := bindS hm
    refine t_do rfl (u_callW0 _ call11 rfl (fun w ho => cFishkeep2Sets _ [] x702 hcl703) (fun _ _ _ h => h.2.symm)) ?_
    rintro _ _ ⟨⟨_, rfl, _⟩, rfl⟩
    refine t_st rfl (st_not rfl) ?_
    refine t_nil ?_
    refine x_then_normal ?_
    refine c_cond _ rfl (fun hc704 => ?_) (fun hc704 => ?_)
    ·
      rw [if_neg (fun hh => Bool.noConfusion (hh.symm.trans (notT hc704)))] at hm
      refine c_seq ?_
      refine c_region ?_
      refine t_st rfl (st_assign rfl) ?_
      refine t_nil ?_
      refine x_then_normal ?_
      refine c_ret ?_
      refine x_then_ret ?_
      obtain rfl := some1 hm
      exact retM (rs := [.tmp 6]) [.bool (false)] (Base.Le.refl _) (by decide) rfl ⟨rfl, trivial⟩ rfl (hp' := R) (.cons _ (.refl _)) ⟨rfl, rfl⟩
    ·
      rw [if_pos (notF hc704)] at hm
      refine c_skip ?_
      refine x_then_normal ?_
      refine c_seq ?_
      refine c_region ?_
      refine t_st rfl (st_move rfl) ?_
      refine t_st rfl (st_loadD (vs := [_, _, _, _, _, _, _]) 0 7 rfl agg55 rfl rfl rfl) ?_
      obtain ⟨⟨x705, l706⟩, hcl707, hm⟩ := bindS hm
      have hm := (unc2E hm)
      refine t_callG _ rfl call25 rfl (cFleetDuties _ _ l4 s5 A1 c2 h3 x705 l706 hcl707) ?_
      rintro _ b708 _ hle709 ⟨A710, c711, hs712, rfl, rfl, h713⟩
      refine t_in1 [] [_] hs712 R rfl ?_
      refine t_st rfl (st_move rfl) ?_
      refine t_st rfl (st_extract rfl rfl) ?_
      refine t_st rfl (st_extract rfl rfl) ?_
      refine t_st rfl (st_assign rfl) ?_
      refine t_st rfl (st_assign rfl) ?_
      refine t_nil ?_
      refine x_then_normal ?_
      refine c_seq ?_
      refine c_seq ?_
      refine c_region ?_
      refine t_st rfl (st_move rfl) ?_
      refine t_st rfl (st_neq rfl rfl) ?_
      refine t_nil ?_
      refine x_then_normal ?_
      refine c_cond _ rfl (fun hc714 => ?_) (fun hc714 => ?_)
      ·
        rw [if_pos (of_decide_eq_true hc714)] at hm
        refine c_seq ?_
        refine c_region ?_
        refine t_st rfl (st_move rfl) ?_
        refine t_st rfl (st_len rfl sl26) ?_
        refine t_st rfl (st_eql rfl rfl) ?_
        refine t_st rfl (st_assign rfl) ?_
        refine t_nil ?_
        refine x_then_normal ?_
        refine c_ret ?_
        refine x_then_ret ?_
        obtain rfl := some1 hm
        exact retM (rs := [.tmp 6]) [.bool (decide ((l706.length : Int) = 0))] hle709 (by decide) rfl ⟨rfl, trivial⟩ rfl (hp' := R) (.cons _ (sub_skip hs712 (.refl _))) ⟨rfl, rfl⟩
      ·
        rw [if_neg (of_decide_eq_false hc714)] at hm
        refine c_skip ?_
        refine x_then_normal ?_
        refine c_seq ?_
        refine c_region ?_
        refine t_st rfl (st_move rfl) ?_
        refine t_st rfl (st_len rfl sl22) ?_
        obtain ⟨m715, h716, hm⟩ := bindS hm
        have h716 := mkLen_some h716
        refine t_do rfl (u_mkOS (r := (RT.int .i64)) [_] (hs712 ++ R) [.int .i64 (0)] 0 m715 rfl h716.1 rfl rfl sl45 inf3 rfl rfl rfl (by decide) rfl h716.2.1 h716.2.2) ?_
        rintro _ _ ⟨hs717, rfl, h718⟩
        obtain ⟨A719, c720, rfl, _⟩ := h718.form
        refine t_st rfl (st_assign rfl) ?_
        refine t_nil ?_
        refine x_then_normal ?_
        refine c_seq ?_
        refine c_seq ?_
        refine c_region ?_
        refine t_st rfl (st_move rfl) ?_
        refine t_st rfl (st_len rfl sl26) ?_
        refine t_st rfl (st_move rfl) ?_
        refine t_nil ?_
        refine x_then_normal ?_
        refine c_block ?_
        have hb722 := (OS.len h713)
        refine c_front2 [_] hs717 hs712 R rfl ?_
        obtain ⟨t1144, hl1145, hk1146⟩ := bindS hm
        refine c_forM (fun k1143 => fun l1141 => fun b1136 e' hp' => ∃ (hs1139 : Hp), [(0, .slice A1 (l4).length c2), (2, .int .i64 (x6)), (4, .pointer (some ⟨g698, 0, none⟩)), (7, .slice A710 (l706).length c711), (9, .slice A719 (l1141).length c720), (37, .slice A710 (l706).length c711), (38, .int .i64 ((l706.length : Int))), (39, .int .i64 ((k1143 : Int)))] = e' ∧ (g698, Cl 55 [.int .i64 (s5.Change), .int .i64 (s5.Long), .int .i64 (s5.Work), .int .i64 (s5.After), .int .i64 (s5.Break), .int .i64 (s5.Rest), .int .i64 (s5.Row)]) :: (hs712 ++ (hs1139 ++ R)) = hp' ∧ b708.Le b1136 ∧ OS 3 (OT.fr (RT.int .i64)) b1136.w (.slice A719 l1141.length c720) l1141 hs1139 ∧ l1141.length = m715) hl1145 (e' := [(0, .slice A1 (l4).length c2), (2, .int .i64 (x6)), (4, .pointer (some ⟨g698, 0, none⟩)), (7, .slice A710 (l706).length c711), (9, .slice A719 (List.replicate m715 (0 : Int)).length c720), (37, .slice A710 (l706).length c711), (38, .int .i64 ((l706.length : Int))), (39, .int .i64 0)]) (hp' := (g698, Cl 55 [.int .i64 (s5.Change), .int .i64 (s5.Long), .int .i64 (s5.Work), .int .i64 (s5.After), .int .i64 (s5.Break), .int .i64 (s5.Rest), .int .i64 (s5.Row)]) :: (hs712 ++ (hs717 ++ R))) ⟨rfl, rfl, rfl, rfl, rfl, rfl, rfl, rfl, trivial⟩ (.cons_cons _ (sub_app hs712 (sub_app hs717 (.refl _)))) ⟨hs717, rfl, rfl, (Base.Le.refl _), h718, List.length_replicate⟩ ?_ ?_
        ·
          rintro k1143 l1141 b1136 _ _ oL721 hknL721 ⟨hs1139, rfl, rfl, hle1137, h1140, hln1142⟩ hstepL721 houtL721
          unfold mFishkeep2FleetKept_L721 at hstepL721
          have hm := hstepL721
          refine c_seq ?_
          refine c_region ?_
          refine t_st rfl (st_lss_t rfl rfl (by omega)) ?_
          refine t_nil ?_
          refine x_then_normal ?_
          refine c_seq ?_
          refine c_cond_t rfl ?_
          refine c_skip ?_
          refine x_then_normal ?_
          refine c_seq ?_
          refine c_block ?_
          refine c_seq ?_
          refine c_region ?_
          obtain ⟨x1147, h1148, hm⟩ := bindS hm
          obtain ⟨j1149, hj1150, hx1151⟩ := idx_some h1148
          obtain ⟨cs1152, hs1157, P1158, P1159, hq1160, hr1153, hcs1154, hA1155, hlt1156, hb1161, hho1162⟩ := OS.get (sz := 1) rfl (by decide) (h713.le hle1137) hx1151
          obtain ⟨⟨A1163, c1164, rfl, h1165⟩, rfl⟩ := hr1153
          refine t_st rfl (st_index_old j1149 rfl rfl hj1150 hlt1156 hA1155 sl26) ?_
          refine t_st rfl (st_load_rd rfl one45 (fun w ho => hcs1154 w _ ho (.cons _ (List.sublist_append_left _ _)) 0 _ rfl)) ?_
          refine t_st rfl (st_assign rfl) ?_
          refine t_nil ?_
          refine x_then_normal ?_
          refine c_seq ?_
          refine c_seq ?_
          refine c_region ?_
          refine t_st rfl (st_move rfl) ?_
          refine t_st rfl (st_move rfl) ?_
          refine t_st rfl (st_loadD (vs := [_, _, _, _, _, _, _]) 0 7 rfl agg55 rfl rfl rfl) ?_
          obtain ⟨⟨x1166, x1167⟩, hcl1168, hm⟩ := bindS hm
          have hm := (unc2E hm)
          refine t_do rfl (u_callW0 _ call26 rfl (fun w ho => cFleetJudge_2 _ [] l4 x1147 s5 A1 c2 A1163 c1164 ((h3.le (hle709.trans hle1137)).old ho) (h1165.old ho) x1166 x1167 hcl1168) (fun _ _ _ h => h.2.symm)) ?_
          rintro _ _ ⟨⟨_, rfl, _⟩, rfl⟩
          refine t_st rfl (st_move rfl) ?_
          refine t_st rfl (st_extract rfl rfl) ?_
          refine t_st rfl (st_extract rfl rfl) ?_
          refine t_st rfl (st_assign rfl) ?_
          refine t_st rfl (st_assign rfl) ?_
          refine t_nil ?_
          refine x_then_normal ?_
          obtain ⟨x1172, hj1173, hk1173⟩ := bindS hm
          refine c_join (fun b1170 e' hp' => [(0, .slice A1 (l4).length c2), (2, .int .i64 (x6)), (4, .pointer (some ⟨g698, 0, none⟩)), (7, .slice A710 (l706).length c711), (9, .slice A719 (l1141).length c720), (11, .slice A1163 (x1147).length c1164), (37, .slice A710 (l706).length c711), (38, .int .i64 ((l706.length : Int))), (39, .int .i64 ((k1143 : Int))), (55, .bool (x1172))] = e' ∧ (g698, Cl 55 [.int .i64 (s5.Change), .int .i64 (s5.Long), .int .i64 (s5.Work), .int .i64 (s5.After), .int .i64 (s5.Break), .int .i64 (s5.Rest), .int .i64 (s5.Row)]) :: (hs712 ++ (hs1139 ++ R)) = hp' ∧ b1136.Le b1170) ?_ ?_
          ·
            have hm := hj1173
            refine c_region ?_
            refine t_st rfl (st_move rfl) ?_
            refine t_bool rfl (st_neq rfl rfl) (fun hc1174 => ?_) (fun hc1174 => ?_)
            ·
              rw [if_pos hc1174] at hm
              refine t_st rfl (st_move rfl) ?_
              refine t_no 52 rfl rfl rfl rfl rfl ?_
              refine t_no 52 rfl rfl rfl rfl rfl ?_
              refine t_st rfl (st_pick_t rfl rfl) ?_
              refine t_nil ?_
              obtain rfl := some1 hm
              refine x_front2 [_] hs712 hs1139 R rfl ?_
              refine x_front2 [_] hs1139 hs712 R rfl ?_
              exact x_join (e' := [(0, .slice A1 (l4).length c2), (2, .int .i64 (x6)), (4, .pointer (some ⟨g698, 0, none⟩)), (7, .slice A710 (l706).length c711), (9, .slice A719 (l1141).length c720), (11, .slice A1163 (x1147).length c1164), (37, .slice A710 (l706).length c711), (38, .int .i64 ((l706.length : Int))), (39, .int .i64 ((k1143 : Int))), (55, .bool (true))]) (hp' := (g698, Cl 55 [.int .i64 (s5.Change), .int .i64 (s5.Long), .int .i64 (s5.Work), .int .i64 (s5.After), .int .i64 (s5.Break), .int .i64 (s5.Rest), .int .i64 (s5.Row)]) :: (hs712 ++ (hs1139 ++ R))) ⟨rfl, rfl, rfl, rfl, rfl, rfl, rfl, rfl, rfl, rfl, trivial⟩ (.cons_cons _ (sub_app hs712 (sub_app hs1139 (.refl _)))) ⟨rfl, rfl, (Base.Le.refl _)⟩
            ·
              rw [if_neg hc1174] at hm
              refine t_st rfl (st_move rfl) ?_
              refine t_yes 52 rfl rfl rfl ?_
              refine t_st rfl (st_move rfl) ?_
              refine t_yes 52 rfl rfl rfl ?_
              refine t_st rfl (st_neq rfl rfl) ?_
              refine t_st rfl (st_pick_f rfl rfl) ?_
              refine t_nil ?_
              obtain rfl := some1 hm
              refine x_front2 [_] hs712 hs1139 R rfl ?_
              refine x_front2 [_] hs1139 hs712 R rfl ?_
              exact x_join (e' := [(0, .slice A1 (l4).length c2), (2, .int .i64 (x6)), (4, .pointer (some ⟨g698, 0, none⟩)), (7, .slice A710 (l706).length c711), (9, .slice A719 (l1141).length c720), (11, .slice A1163 (x1147).length c1164), (37, .slice A710 (l706).length c711), (38, .int .i64 ((l706.length : Int))), (39, .int .i64 ((k1143 : Int))), (55, .bool (decide (x1167 ≠ 0)))]) (hp' := (g698, Cl 55 [.int .i64 (s5.Change), .int .i64 (s5.Long), .int .i64 (s5.Work), .int .i64 (s5.After), .int .i64 (s5.Break), .int .i64 (s5.Rest), .int .i64 (s5.Row)]) :: (hs712 ++ (hs1139 ++ R))) ⟨rfl, rfl, rfl, rfl, rfl, rfl, rfl, rfl, rfl, rfl, trivial⟩ (.cons_cons _ (sub_app hs712 (sub_app hs1139 (.refl _)))) ⟨rfl, rfl, (Base.Le.refl _)⟩
          ·
            rintro b1170 _ _ ⟨rfl, rfl, hle1171⟩
            have hm := hk1173
            refine c_cond _ rfl (fun hc1175 => ?_) (fun hc1175 => ?_)
            ·
              rw [if_pos hc1175] at hm
              refine c_seq ?_
              refine c_region ?_
              refine t_st rfl (st_assign rfl) ?_
              refine t_nil ?_
              refine x_then_normal ?_
              refine c_ret ?_
              refine x_then_ret ?_
              refine x_block_ret ?_
              refine x_then_ret ?_
              refine x_then_ret ?_
              refine x_block_ret ?_
              refine x_then_ret ?_
              have hq1176 := houtL721 _ (Option.some.inj hm).symm
              rw [hq1176] at hk1146
              have hm := elimR hk1146
              obtain rfl := some1 hm
              exact retM (rs := [.tmp 6]) [.bool (false)] (hle709.trans (hle1137.trans hle1171)) (by decide) rfl ⟨rfl, trivial⟩ rfl (hp' := R) (.cons _ (sub_skip hs712 (sub_skip hs1139 (.refl _)))) ⟨rfl, rfl⟩
            ·
              rw [if_neg (fun hh => Bool.noConfusion (hh.symm.trans hc1175))] at hm
              refine c_skip ?_
              refine x_then_normal ?_
              refine c_seq ?_
              refine c_region ?_
              refine t_st rfl (st_move rfl) ?_
              refine t_st rfl (st_len rfl sl45) ?_
              refine t_st rfl (st_move rfl) ?_
              refine t_nil ?_
              refine x_then_normal ?_
              refine c_block ?_
              have hb1178 := (FZ.bd (h1165.le hle1171))
              refine c_front2 [_] hs712 hs1139 R rfl ?_
              refine c_front2 [_] hs1139 hs712 R rfl ?_
              obtain ⟨t1296, hl1297, hk1298⟩ := bindS hm
              refine c_forM (fun k1295 => fun l1293 => fun b1288 e' hp' => ∃ (hs1291 : Hp), [(0, .slice A1 (l4).length c2), (2, .int .i64 (x6)), (4, .pointer (some ⟨g698, 0, none⟩)), (7, .slice A710 (l706).length c711), (9, .slice A719 (l1293).length c720), (37, .slice A710 (l706).length c711), (38, .int .i64 ((l706.length : Int))), (39, .int .i64 ((k1143 : Int))), (56, .slice A1163 (x1147).length c1164), (57, .int .i64 ((x1147.length : Int))), (58, .int .i64 ((k1295 : Int)))] = e' ∧ (g698, Cl 55 [.int .i64 (s5.Change), .int .i64 (s5.Long), .int .i64 (s5.Work), .int .i64 (s5.After), .int .i64 (s5.Break), .int .i64 (s5.Rest), .int .i64 (s5.Row)]) :: (hs712 ++ (hs1291 ++ R)) = hp' ∧ b1170.Le b1288 ∧ OS 3 (OT.fr (RT.int .i64)) b1288.w (.slice A719 l1293.length c720) l1293 hs1291 ∧ l1293.length = m715) hl1297 (e' := [(0, .slice A1 (l4).length c2), (2, .int .i64 (x6)), (4, .pointer (some ⟨g698, 0, none⟩)), (7, .slice A710 (l706).length c711), (9, .slice A719 (l1141).length c720), (37, .slice A710 (l706).length c711), (38, .int .i64 ((l706.length : Int))), (39, .int .i64 ((k1143 : Int))), (56, .slice A1163 (x1147).length c1164), (57, .int .i64 ((x1147.length : Int))), (58, .int .i64 0)]) (hp' := (g698, Cl 55 [.int .i64 (s5.Change), .int .i64 (s5.Long), .int .i64 (s5.Work), .int .i64 (s5.After), .int .i64 (s5.Break), .int .i64 (s5.Rest), .int .i64 (s5.Row)]) :: (hs712 ++ (hs1139 ++ R))) ⟨rfl, rfl, rfl, rfl, rfl, rfl, rfl, rfl, rfl, rfl, rfl, trivial⟩ (.cons_cons _ (sub_app hs712 (sub_app hs1139 (.refl _)))) ⟨hs1139, rfl, rfl, (Base.Le.refl _), (h1140.le hle1171), hln1142⟩ ?_ ?_
              ·
                rintro k1295 l1293 b1288 _ _ oL1177 hknL1177 ⟨hs1291, rfl, rfl, hle1289, h1292, hln1294⟩ hstepL1177 houtL1177
                unfold mFishkeep2FleetKept_L1177 at hstepL1177
                have hm := hstepL1177
                refine c_seq ?_
                refine c_region ?_
                refine t_st rfl (st_lss_t rfl rfl (by omega)) ?_
                refine t_nil ?_
                refine x_then_normal ?_
                refine c_seq ?_
                refine c_cond_t rfl ?_
                refine c_skip ?_
                refine x_then_normal ?_
                refine c_seq ?_
                refine c_block ?_
                refine c_seq ?_
                refine c_region ?_
                obtain ⟨x1299, h1300, hm⟩ := bindS hm
                obtain ⟨j1301, hj1302, hx1303⟩ := idx_some h1300
                obtain ⟨cs1304, hr1305, hcs1306, hA1307, hlt1308⟩ := FZ.get (sz := 1) rfl (by decide) (h1165.le (hle1171.trans hle1289)) hx1303
                obtain rfl := hr1305
                refine t_st rfl (st_index_old j1301 rfl rfl hj1302 hlt1308 hA1307 sl45) ?_
                refine t_st rfl (st_load_old rfl one3 (hcs1306 0 _ rfl)) ?_
                refine t_st rfl (st_assign rfl) ?_
                refine t_nil ?_
                refine x_then_normal ?_
                refine c_seq ?_
                obtain ⟨x1312, hj1313, hk1313⟩ := bindS hm
                refine c_join (fun b1310 e' hp' => [(0, .slice A1 (l4).length c2), (2, .int .i64 (x6)), (4, .pointer (some ⟨g698, 0, none⟩)), (7, .slice A710 (l706).length c711), (9, .slice A719 (l1293).length c720), (15, .int .i64 (x1299)), (37, .slice A710 (l706).length c711), (38, .int .i64 ((l706.length : Int))), (39, .int .i64 ((k1143 : Int))), (56, .slice A1163 (x1147).length c1164), (57, .int .i64 ((x1147.length : Int))), (58, .int .i64 ((k1295 : Int))), (69, .bool (x1312))] = e' ∧ (g698, Cl 55 [.int .i64 (s5.Change), .int .i64 (s5.Long), .int .i64 (s5.Work), .int .i64 (s5.After), .int .i64 (s5.Break), .int .i64 (s5.Rest), .int .i64 (s5.Row)]) :: (hs712 ++ (hs1291 ++ R)) = hp' ∧ b1288.Le b1310) ?_ ?_
                ·
                  have hm := hj1313
                  refine c_region ?_
                  refine t_st rfl (st_move rfl) ?_
                  refine t_bool rfl (st_lss rfl rfl) (fun hc1314 => ?_) (fun hc1314 => ?_)
                  ·
                    rw [if_pos hc1314] at hm
                    refine t_st rfl (st_move rfl) ?_
                    refine t_no 64 rfl rfl rfl rfl rfl ?_
                    refine t_no 64 rfl rfl rfl rfl rfl ?_
                    refine t_no 64 rfl rfl rfl rfl rfl ?_
                    refine t_no 64 rfl rfl rfl rfl rfl ?_
                    refine t_st rfl (st_pick_t rfl rfl) ?_
                    refine t_nil ?_
                    obtain rfl := some1 hm
                    refine x_front2 [_] hs712 hs1291 R rfl ?_
                    refine x_front2 [_] hs1291 hs712 R rfl ?_
                    exact x_join (e' := [(0, .slice A1 (l4).length c2), (2, .int .i64 (x6)), (4, .pointer (some ⟨g698, 0, none⟩)), (7, .slice A710 (l706).length c711), (9, .slice A719 (l1293).length c720), (15, .int .i64 (x1299)), (37, .slice A710 (l706).length c711), (38, .int .i64 ((l706.length : Int))), (39, .int .i64 ((k1143 : Int))), (56, .slice A1163 (x1147).length c1164), (57, .int .i64 ((x1147.length : Int))), (58, .int .i64 ((k1295 : Int))), (69, .bool (true))]) (hp' := (g698, Cl 55 [.int .i64 (s5.Change), .int .i64 (s5.Long), .int .i64 (s5.Work), .int .i64 (s5.After), .int .i64 (s5.Break), .int .i64 (s5.Rest), .int .i64 (s5.Row)]) :: (hs712 ++ (hs1291 ++ R))) ⟨rfl, rfl, rfl, rfl, rfl, rfl, rfl, rfl, rfl, rfl, rfl, rfl, rfl, trivial⟩ (.cons_cons _ (sub_app hs712 (sub_app hs1291 (.refl _)))) ⟨rfl, rfl, (Base.Le.refl _)⟩
                  ·
                    rw [if_neg hc1314] at hm
                    refine t_st rfl (st_move rfl) ?_
                    refine t_yes 64 rfl rfl rfl ?_
                    refine t_st rfl (st_move rfl) ?_
                    refine t_yes 64 rfl rfl rfl ?_
                    refine t_st rfl (st_move rfl) ?_
                    refine t_yes 64 rfl rfl rfl ?_
                    refine t_st rfl (st_len rfl sl22) ?_
                    refine t_yes 64 rfl rfl rfl ?_
                    refine t_st rfl (st_geq rfl rfl) ?_
                    refine t_st rfl (st_pick_f rfl rfl) ?_
                    refine t_nil ?_
                    obtain rfl := some1 hm
                    refine x_front2 [_] hs712 hs1291 R rfl ?_
                    refine x_front2 [_] hs1291 hs712 R rfl ?_
                    exact x_join (e' := [(0, .slice A1 (l4).length c2), (2, .int .i64 (x6)), (4, .pointer (some ⟨g698, 0, none⟩)), (7, .slice A710 (l706).length c711), (9, .slice A719 (l1293).length c720), (15, .int .i64 (x1299)), (37, .slice A710 (l706).length c711), (38, .int .i64 ((l706.length : Int))), (39, .int .i64 ((k1143 : Int))), (56, .slice A1163 (x1147).length c1164), (57, .int .i64 ((x1147.length : Int))), (58, .int .i64 ((k1295 : Int))), (69, .bool (decide ((l4.length : Int) ≤ x1299)))]) (hp' := (g698, Cl 55 [.int .i64 (s5.Change), .int .i64 (s5.Long), .int .i64 (s5.Work), .int .i64 (s5.After), .int .i64 (s5.Break), .int .i64 (s5.Rest), .int .i64 (s5.Row)]) :: (hs712 ++ (hs1291 ++ R))) ⟨rfl, rfl, rfl, rfl, rfl, rfl, rfl, rfl, rfl, rfl, rfl, rfl, rfl, trivial⟩ (.cons_cons _ (sub_app hs712 (sub_app hs1291 (.refl _)))) ⟨rfl, rfl, (Base.Le.refl _)⟩
                ·
                  rintro b1310 _ _ ⟨rfl, rfl, hle1311⟩
                  have hm := hk1313
                  refine c_cond _ rfl (fun hc1315 => ?_) (fun hc1315 => ?_)
                  ·
                    rw [if_pos hc1315] at hm
                    refine c_seq ?_
                    refine c_region ?_
                    refine t_st rfl (st_assign rfl) ?_
                    refine t_nil ?_
                    refine x_then_normal ?_
                    refine c_ret ?_
                    refine x_then_ret ?_
                    refine x_block_ret ?_
                    refine x_then_ret ?_
                    refine x_then_ret ?_
                    refine x_block_ret ?_
                    refine x_block_ret ?_
                    refine x_then_ret ?_
                    refine x_then_ret ?_
                    refine x_block_ret ?_
                    refine x_then_ret ?_
                    have hq1316 := houtL1177 _ (Option.some.inj hm).symm
                    rw [hq1316] at hk1298
                    have hm := elimR hk1298
                    have hq1317 := houtL721 _ (Option.some.inj hm).symm
                    rw [hq1317] at hk1146
                    have hm := elimR hk1146
                    obtain rfl := some1 hm
                    exact retM (rs := [.tmp 6]) [.bool (false)] (hle709.trans (hle1137.trans (hle1171.trans (hle1289.trans hle1311)))) (by decide) rfl ⟨rfl, trivial⟩ rfl (hp' := R) (.cons _ (sub_skip hs712 (sub_skip hs1291 (.refl _)))) ⟨rfl, rfl⟩
                  ·
                    rw [if_neg (fun hh => Bool.noConfusion (hh.symm.trans hc1315))] at hm
                    refine c_skip ?_
                    refine x_then_normal ?_
                    refine c_region ?_
                    refine t_st rfl (st_move rfl) ?_
                    refine t_st rfl (st_move rfl) ?_
                    obtain ⟨x1318, h1319, hm⟩ := bindS hm
                    obtain ⟨j1320, hj1321, hx1322⟩ := idx_some h1319
                    obtain ⟨cs1323, hs1328, P1329, P1330, hq1331, hr1324, hcs1325, hA1326, hlt1327, hb1332, hho1333⟩ := OS.get (sz := 1) rfl (by decide) (h1292.le hle1311) hx1322
                    obtain ⟨rfl, rfl⟩ := hr1324
                    refine t_st rfl (st_index_old j1320 rfl rfl hj1321 hlt1327 hA1326 sl45) ?_
                    refine t_st rfl (st_load_rd rfl one3 (fun w ho => hcs1325 w _ ho (.cons _ (sub_skip hs712 (List.sublist_append_left _ _))) 0 _ rfl)) ?_
                    obtain ⟨_, h1334, hm⟩ := bindS hm
                    have h1334 := (chk_some h1334).2
                    refine t_st rfl (st_add rfl rfl h1334) ?_
                    obtain ⟨x1335, h1336, hm⟩ := bindS hm
                    obtain ⟨j1337, hj1338, hx1339⟩ := idx_some h1336
                    obtain ⟨cs1340, hs1345, P1346, P1347, hq1348, hr1341, hcs1342, hA1343, hlt1344, hb1349, hho1350⟩ := OS.get (sz := 1) rfl (by decide) (h1292.le hle1311) hx1339
                    obtain ⟨rfl, rfl⟩ := hr1341
                    refine t_st rfl (st_index_old j1337 rfl rfl hj1338 hlt1344 hA1343 sl45) ?_
                    refine t_front2 [_] hs712 hs1291 R rfl ?_
                    refine t_do rfl (u_putOS hj1338 (sz := 1) (a' := x1318 + 1) rfl [_] (hs712 ++ R) 0 1 [.int .i64 (x1318 + 1)] rfl (h1292.le hle1311) hx1339 rfl rfl rfl siz3 rfl (by intro u hu; simp only [List.mem_cons, List.not_mem_nil, or_false] at hu; subst hu; rfl) (fun cs hsj hh => by obtain ⟨rfl, rfl⟩ := hh; exact ⟨by decide, rfl, rfl⟩)) ?_
                    rintro _ _ ⟨hs1351, rfl, h1352⟩
                    refine t_resp 9 rfl (v' := .slice A719 (put l1293 x1299 (x1318 + 1)).length c720) (by simp only [put_length]) ?_
                    refine t_nil ?_
                    refine x_block_normal ?_
                    refine x_then_normal ?_
                    refine c_region ?_
                    refine t_st rfl (st_add rfl rfl (by omega)) ?_
                    refine t_st rfl (st_move rfl) ?_
                    refine t_nil ?_
                    refine x_front2 [_] hs1351 hs712 R rfl ?_
                    exact x_againM (put l1293 x1299 (x1318 + 1)) (Option.some.inj hm).symm (e' := [(0, .slice A1 (l4).length c2), (2, .int .i64 (x6)), (4, .pointer (some ⟨g698, 0, none⟩)), (7, .slice A710 (l706).length c711), (9, .slice A719 (put l1293 x1299 (x1318 + 1)).length c720), (37, .slice A710 (l706).length c711), (38, .int .i64 ((l706.length : Int))), (39, .int .i64 ((k1143 : Int))), (56, .slice A1163 (x1147).length c1164), (57, .int .i64 ((x1147.length : Int))), (58, .int .i64 ((k1295 : Int) + 1))]) (hp' := (g698, Cl 55 [.int .i64 (s5.Change), .int .i64 (s5.Long), .int .i64 (s5.Work), .int .i64 (s5.After), .int .i64 (s5.Break), .int .i64 (s5.Rest), .int .i64 (s5.Row)]) :: (hs712 ++ (hs1351 ++ R))) ⟨rfl, rfl, rfl, rfl, rfl, rfl, rfl, rfl, rfl, rfl, rfl, trivial⟩ (.cons_cons _ (sub_app hs712 (sub_app hs1351 (.refl _)))) ⟨hs1351, rfl, rfl, ((hle1289.trans hle1311)), h1352, ((put_length _ _ _).trans hln1294)⟩
              ·
                rintro l1293 b1288 _ _ ⟨hs1291, rfl, rfl, hle1289, h1292, hln1294⟩ hq1353
                rw [hq1353] at hk1298
                have hm := elimL hk1298
                refine c_seq ?_
                refine c_region ?_
                refine t_st rfl (st_lss_f rfl rfl (by omega)) ?_
                refine t_nil ?_
                refine x_then_normal ?_
                refine c_seq ?_
                refine c_cond_f rfl ?_
                refine c_exit ?_
                refine x_then_exit ?_
                refine x_then_exit ?_
                refine x_block_out ?_
                refine x_block_normal ?_
                refine x_then_normal ?_
                refine c_region ?_
                refine t_st rfl (st_add rfl rfl (by omega)) ?_
                refine t_st rfl (st_move rfl) ?_
                refine t_nil ?_
                refine x_front2 [_] hs712 hs1291 R rfl ?_
                refine x_front2 [_] hs1291 hs712 R rfl ?_
                exact x_againM l1293 (Option.some.inj hm).symm (e' := [(0, .slice A1 (l4).length c2), (2, .int .i64 (x6)), (4, .pointer (some ⟨g698, 0, none⟩)), (7, .slice A710 (l706).length c711), (9, .slice A719 (l1293).length c720), (37, .slice A710 (l706).length c711), (38, .int .i64 ((l706.length : Int))), (39, .int .i64 ((k1143 : Int) + 1))]) (hp' := (g698, Cl 55 [.int .i64 (s5.Change), .int .i64 (s5.Long), .int .i64 (s5.Work), .int .i64 (s5.After), .int .i64 (s5.Break), .int .i64 (s5.Rest), .int .i64 (s5.Row)]) :: (hs712 ++ (hs1291 ++ R))) ⟨rfl, rfl, rfl, rfl, rfl, rfl, rfl, rfl, trivial⟩ (.cons_cons _ (sub_app hs712 (sub_app hs1291 (.refl _)))) ⟨hs1291, rfl, rfl, ((hle1137.trans (hle1171.trans hle1289))), h1292, hln1294⟩
        ·
          rintro l1141 b1136 _ _ ⟨hs1139, rfl, rfl, hle1137, h1140, hln1142⟩ hq1354
          rw [hq1354] at hk1146
          have hm := elimL hk1146
          refine c_seq ?_
          refine c_region ?_
          refine t_st rfl (st_lss_f rfl rfl (by omega)) ?_
          refine t_nil ?_
          refine x_then_normal ?_
          refine c_seq ?_
          refine c_cond_f rfl ?_
          refine c_exit ?_
          refine x_then_exit ?_
          refine x_then_exit ?_
          refine x_block_out ?_
          refine x_then_normal ?_
          refine c_seq ?_
          refine c_seq ?_
          refine c_region ?_
          refine t_st rfl (st_move rfl) ?_
          obtain ⟨x1355, hcl1356, hm⟩ := bindS hm
          refine t_do rfl (u_callW0 _ call27 rfl (fun w ho => cSlicesContainsFunc _ [] l1141 A719 c720 (OS.now (o := (OT.fr (RT.int .i64))) (l := l1141) (hs := hs1139) h1140 ho (.cons _ (sub_skip hs712 (List.sublist_append_left _ _)))) x1355 hcl1356) (fun _ _ _ h => h.2.symm)) ?_
          rintro _ _ ⟨⟨_, rfl, _⟩, rfl⟩
          refine t_nil ?_
          refine x_then_normal ?_
          refine c_cond _ rfl (fun hc1357 => ?_) (fun hc1357 => ?_)
          ·
            rw [if_pos hc1357] at hm
            refine c_seq ?_
            refine c_region ?_
            refine t_st rfl (st_assign rfl) ?_
            refine t_nil ?_
            refine x_then_normal ?_
            refine c_ret ?_
            refine x_then_ret ?_
            obtain rfl := some1 hm
            exact retM (rs := [.tmp 6]) [.bool (false)] (hle709.trans hle1137) (by decide) rfl ⟨rfl, trivial⟩ rfl (hp' := R) (.cons _ (sub_skip hs712 (sub_skip hs1139 (.refl _)))) ⟨rfl, rfl⟩
          ·
            rw [if_neg (fun hh => Bool.noConfusion (hh.symm.trans hc1357))] at hm
            refine c_skip ?_
            refine x_then_normal ?_
            refine c_seq ?_
            refine c_region ?_
            refine t_st rfl (st_field rfl fld55_1) ?_
            refine t_st rfl (st_load 0 rfl one3 rfl rfl) ?_
            obtain ⟨_, h1358, hm⟩ := bindS hm
            have h1358 := (chk_some h1358).2
            refine t_st rfl (st_sub rfl rfl h1358) ?_
            refine t_st rfl (st_field rfl fld55_2) ?_
            refine t_st rfl (st_load 0 rfl one3 rfl rfl) ?_
            obtain ⟨_, h1359, hm⟩ := bindS hm
            have h1359 := (chk_some h1359).2
            refine t_st rfl (st_sub rfl rfl h1359) ?_
            refine t_st rfl (st_field rfl fld55_3) ?_
            refine t_st rfl (st_load 0 rfl one3 rfl rfl) ?_
            obtain ⟨_, h1360, hm⟩ := bindS hm
            have h1360 := (chk_some h1360).2
            refine t_st rfl (st_sub rfl rfl h1360) ?_
            refine t_st rfl (st_field rfl fld55_0) ?_
            refine t_st rfl (st_load 0 rfl one3 rfl rfl) ?_
            refine t_st rfl (st_min4 rfl rfl rfl rfl) ?_
            refine t_st rfl (st_assign rfl) ?_
            refine t_nil ?_
            refine x_then_normal ?_
            refine c_seq ?_
            obtain ⟨x1364, hj1365, hk1365⟩ := bindS hm
            refine c_join (fun b1362 e' hp' => [(0, .slice A1 (l4).length c2), (2, .int .i64 (x6)), (4, .pointer (some ⟨g698, 0, none⟩)), (7, .slice A710 (l706).length c711), (98, .bool (x1364))] = e' ∧ (g698, Cl 55 [.int .i64 (s5.Change), .int .i64 (s5.Long), .int .i64 (s5.Work), .int .i64 (s5.After), .int .i64 (s5.Break), .int .i64 (s5.Rest), .int .i64 (s5.Row)]) :: (hs712 ++ R) = hp' ∧ b1136.Le b1362) ?_ ?_
            ·
              have hm := hj1365
              refine c_region ?_
              refine t_st rfl (st_move rfl) ?_
              refine t_bool rfl (st_lss rfl rfl) (fun hc1366 => ?_) (fun hc1366 => ?_)
              ·
                rw [if_pos hc1366] at hm
                refine t_st rfl (st_move rfl) ?_
                refine t_no 94 rfl rfl rfl rfl rfl ?_
                refine t_no 94 rfl rfl rfl rfl rfl ?_
                refine t_no 94 rfl rfl rfl rfl rfl ?_
                refine t_st rfl (st_pick_t rfl rfl) ?_
                refine t_nil ?_
                obtain rfl := some1 hm
                exact x_join (e' := [(0, .slice A1 (l4).length c2), (2, .int .i64 (x6)), (4, .pointer (some ⟨g698, 0, none⟩)), (7, .slice A710 (l706).length c711), (98, .bool (true))]) (hp' := (g698, Cl 55 [.int .i64 (s5.Change), .int .i64 (s5.Long), .int .i64 (s5.Work), .int .i64 (s5.After), .int .i64 (s5.Break), .int .i64 (s5.Rest), .int .i64 (s5.Row)]) :: (hs712 ++ R)) ⟨rfl, rfl, rfl, rfl, rfl, trivial⟩ (.cons_cons _ (sub_app hs712 (sub_skip hs1139 (.refl _)))) ⟨rfl, rfl, (Base.Le.refl _)⟩
              ·
                rw [if_neg hc1366] at hm
                refine t_st rfl (st_move rfl) ?_
                refine t_yes 94 rfl rfl rfl ?_
                refine t_st rfl (st_move rfl) ?_
                refine t_yes 94 rfl rfl rfl ?_
                refine t_st rfl (st_move rfl) ?_
                refine t_yes 94 rfl rfl rfl ?_
                refine t_st rfl (st_gtr rfl rfl) ?_
                refine t_st rfl (st_pick_f rfl rfl) ?_
                refine t_nil ?_
                obtain rfl := some1 hm
                exact x_join (e' := [(0, .slice A1 (l4).length c2), (2, .int .i64 (x6)), (4, .pointer (some ⟨g698, 0, none⟩)), (7, .slice A710 (l706).length c711), (98, .bool (decide ((min (min (min (86400 - s5.Long) (86400 - s5.Work)) (86400 - s5.After)) s5.Change) < x6)))]) (hp' := (g698, Cl 55 [.int .i64 (s5.Change), .int .i64 (s5.Long), .int .i64 (s5.Work), .int .i64 (s5.After), .int .i64 (s5.Break), .int .i64 (s5.Rest), .int .i64 (s5.Row)]) :: (hs712 ++ R)) ⟨rfl, rfl, rfl, rfl, rfl, trivial⟩ (.cons_cons _ (sub_app hs712 (sub_skip hs1139 (.refl _)))) ⟨rfl, rfl, (Base.Le.refl _)⟩
            ·
              rintro b1362 _ _ ⟨rfl, rfl, hle1363⟩
              have hm := hk1365
              refine c_cond _ rfl (fun hc1367 => ?_) (fun hc1367 => ?_)
              ·
                rw [if_pos hc1367] at hm
                refine c_seq ?_
                refine c_region ?_
                refine t_st rfl (st_assign rfl) ?_
                refine t_nil ?_
                refine x_then_normal ?_
                refine c_ret ?_
                refine x_then_ret ?_
                obtain rfl := some1 hm
                exact retM (rs := [.tmp 6]) [.bool (true)] (hle709.trans (hle1137.trans hle1363)) (by decide) rfl ⟨rfl, trivial⟩ rfl (hp' := R) (.cons _ (sub_skip hs712 (.refl _))) ⟨rfl, rfl⟩
              ·
                rw [if_neg (fun hh => Bool.noConfusion (hh.symm.trans hc1367))] at hm
                refine c_skip ?_
                refine x_then_normal ?_
                refine c_seq ?_
                refine c_region ?_
                refine t_st rfl (st_field rfl fld55_0) ?_
                refine t_st rfl (st_load 0 rfl one3 rfl rfl) ?_
                refine t_st rfl (st_move rfl) ?_
                obtain ⟨_, h1368, hm⟩ := bindS hm
                have h1368 := (chk_some h1368).2
                refine t_st rfl (st_sub rfl rfl h1368) ?_
                refine t_st rfl (st_field rfl fld55_1) ?_
                refine t_st rfl (st_load 0 rfl one3 rfl rfl) ?_
                refine t_st rfl (st_move rfl) ?_
                obtain ⟨_, h1369, hm⟩ := bindS hm
                have h1369 := (chk_some h1369).2
                refine t_st rfl (st_add rfl rfl h1369) ?_
                refine t_st rfl (st_field rfl fld55_2) ?_
                refine t_st rfl (st_load 0 rfl one3 rfl rfl) ?_
                refine t_st rfl (st_move rfl) ?_
                obtain ⟨_, h1370, hm⟩ := bindS hm
                have h1370 := (chk_some h1370).2
                refine t_st rfl (st_add rfl rfl h1370) ?_
                refine t_st rfl (st_field rfl fld55_3) ?_
                refine t_st rfl (st_load 0 rfl one3 rfl rfl) ?_
                refine t_st rfl (st_move rfl) ?_
                obtain ⟨_, h1371, hm⟩ := bindS hm
                have h1371 := (chk_some h1371).2
                refine t_st rfl (st_add rfl rfl h1371) ?_
                refine t_st rfl (st_field rfl fld55_4) ?_
                refine t_st rfl (st_load 0 rfl one3 rfl rfl) ?_
                refine t_st rfl (st_field rfl fld55_5) ?_
                refine t_st rfl (st_load 0 rfl one3 rfl rfl) ?_
                refine t_st rfl (st_field rfl fld55_6) ?_
                refine t_st rfl (st_load 0 rfl one3 rfl rfl) ?_
                refine t_st rfl (st_build (v := .agg #[.int .i64 (s5.Change - x6), .int .i64 (s5.Long + x6), .int .i64 (s5.Work + x6), .int .i64 (s5.After + x6), .int .i64 (s5.Break), .int .i64 (s5.Rest), .int .i64 (s5.Row)]) [(0, .int .i64 (s5.Change - x6)), (1, .int .i64 (s5.Long + x6)), (2, .int .i64 (s5.Work + x6)), (3, .int .i64 (s5.After + x6)), (4, .int .i64 (s5.Break)), (5, .int .i64 (s5.Rest)), (6, .int .i64 (s5.Row))] rfl (fun _ => by kernel_rfl)) ?_
                refine t_do rfl (u_alloc [.int .i64 0, .int .i64 0, .int .i64 0, .int .i64 0, .int .i64 0, .int .i64 0, .int .i64 0] zero55 rfl) ?_
                rintro _ _ ⟨g1372, rfl, rfl⟩
                refine t_do rfl (u_storeN (vs := [_, _, _, _, _, _, _]) 0 7 rfl rfl rfl siz55 rfl (by intro u hu; simp only [List.mem_cons, List.not_mem_nil, or_false] at hu; rcases hu with rfl | rfl | rfl | rfl | rfl | rfl | rfl <;> rfl) rfl (by simp)) ?_
                rintro _ _ rfl
                refine t_nil ?_
                refine x_then_normal ?_
                refine c_seq ?_
                refine c_region ?_
                refine t_st rfl (st_move rfl) ?_
                refine t_st rfl (st_loadD (vs := [_, _, _, _, _, _, _]) 0 7 rfl agg55 rfl rfl rfl) ?_
                obtain ⟨⟨x1373, l1374⟩, hcl1375, hm⟩ := bindS hm
                have hm := (unc2E hm)
                refine t_callG _ rfl call25 rfl (cFleetDuties _ _ l4 (⟨s5.Change - x6, s5.Long + x6, s5.Work + x6, s5.After + x6, s5.Break, s5.Rest, s5.Row⟩ : FleetLimits) A1 c2 (h3.le (hle709.trans (hle1137.trans hle1363))) x1373 l1374 hcl1375) ?_
                rintro _ b1376 _ hle1377 ⟨A1378, c1379, hs1380, rfl, rfl, h1381⟩
                refine t_in1 [] [_, _] hs1380 (hs712 ++ R) rfl ?_
                refine t_st rfl (st_move rfl) ?_
                refine t_st rfl (st_extract rfl rfl) ?_
                refine t_st rfl (st_extract rfl rfl) ?_
                refine t_st rfl (st_assign rfl) ?_
                refine t_st rfl (st_assign rfl) ?_
                refine t_nil ?_
                refine x_then_normal ?_
                obtain ⟨x1385, hj1386, hk1386⟩ := bindS hm
                refine c_join (fun b1383 e' hp' => [(6, .bool (x1385))] = e' ∧ R = hp' ∧ b1376.Le b1383) ?_ ?_
                ·
                  have hm := hj1386
                  refine c_region ?_
                  refine t_st rfl (st_move rfl) ?_
                  refine t_bool rfl (st_eql rfl rfl) (fun hc1387 => ?_) (fun hc1387 => ?_)
                  ·
                    rw [if_pos hc1387] at hm
                    refine t_st rfl (st_move rfl) ?_
                    refine t_yes 130 rfl rfl rfl ?_
                    refine t_st rfl (st_move rfl) ?_
                    refine t_yes 130 rfl rfl rfl ?_
                    refine t_st rfl (st_len rfl sl26) ?_
                    refine t_yes 130 rfl rfl rfl ?_
                    refine t_st rfl (st_move rfl) ?_
                    refine t_yes 130 rfl rfl rfl ?_
                    refine t_st rfl (st_len rfl sl26) ?_
                    refine t_yes 130 rfl rfl rfl ?_
                    refine t_st rfl (st_leq rfl rfl) ?_
                    refine t_st rfl (st_pick_t rfl rfl) ?_
                    refine t_st rfl (st_assign rfl) ?_
                    refine t_nil ?_
                    obtain rfl := some1 hm
                    exact x_join (e' := [(6, .bool (decide ((l1374.length : Int) ≤ (l706.length : Int))))]) (hp' := R) ⟨rfl, trivial⟩ (.cons _ (.cons _ (sub_skip hs1380 (sub_skip hs712 (.refl _))))) ⟨rfl, rfl, (Base.Le.refl _)⟩
                  ·
                    rw [if_neg hc1387] at hm
                    refine t_st rfl (st_move rfl) ?_
                    refine t_no 130 rfl rfl rfl rfl rfl ?_
                    refine t_no 130 rfl rfl rfl rfl rfl ?_
                    refine t_no 130 rfl rfl rfl rfl rfl ?_
                    refine t_no 130 rfl rfl rfl rfl rfl ?_
                    refine t_no 130 rfl rfl rfl rfl rfl ?_
                    refine t_st rfl (st_pick_f rfl rfl) ?_
                    refine t_st rfl (st_assign rfl) ?_
                    refine t_nil ?_
                    obtain rfl := some1 hm
                    exact x_join (e' := [(6, .bool (false))]) (hp' := R) ⟨rfl, trivial⟩ (.cons _ (.cons _ (sub_skip hs1380 (sub_skip hs712 (.refl _))))) ⟨rfl, rfl, (Base.Le.refl _)⟩
                ·
                  rintro b1383 _ _ ⟨rfl, rfl, hle1384⟩
                  have hm := hk1386
                  refine c_ret ?_
                  obtain rfl := some1 hm
                  exact retM (rs := [.tmp 6]) [.bool (x1385)] (hle709.trans (hle1137.trans (hle1363.trans (hle1377.trans hle1384)))) (by decide) rfl ⟨rfl, trivial⟩ rfl (hp' := R) (.refl _) ⟨rfl, rfl⟩

end Go.Proofs.Ytajmocgpjkhjlaa
