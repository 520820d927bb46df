/- Contracts: the code computes its model (part 5). -/
import Derived.Test.YtcibjjhanafojaaDoorNP4
set_option linter.unusedVariables false
set_option linter.unusedSimpArgs false
namespace Go.Proofs.YtcibjjhanafojaaDoor
open Go.RowKit Go.Fp

set_option maxRecDepth 20000 in
theorem cFishkeep1RouteRuns (b : Base) (R : Hp) (s1 : ApiNet) (s17 : ApiRoute) (A2 : Option Addr) (c3 : Nat) (A5 : Option Addr) (c6 : Nat) (A8 : Option Addr) (c9 : Nat) (A11 : Option Addr) (c12 : Nat) (A14 : Option Addr) (c15 : Nat) (A18 : Option Addr) (c19 : Nat) (h4 : FZ RT.str b.w A2 c3 s1.Stations) (h7 : FZ rApiSection b.w A5 c6 s1.Sections) (h10 : FZ rApiLink b.w A8 c9 s1.Links) (h13 : FZ rApiSignal b.w A11 c12 s1.Signals) (h16 : FZ rApiGate b.w A14 c15 s1.Gates) (h20 : FZ rApiStep b.w A18 c19 s17.Steps) (x206 : Bool) (hm : mFishkeep1RouteRuns s1 s17 = some x206) :
    CallsG Tryd.prog 23 [.agg #[.slice A2 (s1.Stations).length c3, .slice A5 (s1.Sections).length c6, .slice A8 (s1.Links).length c9, .slice A11 (s1.Signals).length c12, .slice A14 (s1.Gates).length c15], .agg #[.int .i64 (s17.From), .int .i64 (s17.To), .slice A18 (s17.Steps).length c19]] b (R) (fun v b' hp' => .bool (x206) = v ∧ R = hp') := by
  refine fn_enterG 155 Tryd.func23 rfl Tryd.ntmps23 rfl ?_
  unfold mFishkeep1RouteRuns at hm
  refine c_seq ?_
  refine c_region ?_
  refine t_do rfl (u_box _ rfl rfl) ?_
  rintro _ _ ⟨g207, rfl, rfl⟩
  refine t_do rfl (u_box _ rfl rfl) ?_
  rintro _ _ ⟨g208, rfl, rfl⟩
  refine t_st rfl (st_assign rfl) ?_
  refine t_nil ?_
  refine x_then_normal ?_
  refine c_seq ?_
  obtain ⟨x216, hj217, hk217⟩ := bindS hm
  refine c_join (fun b214 e' hp' => [(2, .pointer (some ⟨g207, 0, none⟩)), (3, .pointer (some ⟨g208, 0, none⟩)), (38, .bool (x216))] = e' ∧ (g207, Cl 28 [.slice A2 (s1.Stations).length c3, .slice A5 (s1.Sections).length c6, .slice A8 (s1.Links).length c9, .slice A11 (s1.Signals).length c12, .slice A14 (s1.Gates).length c15]) :: (g208, Cl 72 [.int .i64 (s17.From), .int .i64 (s17.To), .slice A18 (s17.Steps).length c19]) :: R = hp' ∧ b.Le b214) ?_ ?_
  ·
   have hm := hj217
   refine c_region ?_
   refine t_st rfl (st_field rfl fld72_0) ?_
   refine t_st rfl (st_load 0 rfl one3 rfl rfl) ?_
   refine t_bool rfl (st_lss rfl rfl) (fun hc218 => ?_) (fun hc218 => ?_)
   ·
    rw [if_pos hc218] at hm
    refine t_st rfl (st_move rfl) ?_
    refine t_no 18 rfl rfl rfl rfl rfl ?_
    refine t_no 18 rfl rfl rfl rfl rfl ?_
    refine t_no 18 rfl rfl rfl rfl rfl ?_
    refine t_no 18 rfl rfl rfl rfl rfl ?_
    refine t_no 18 rfl rfl rfl rfl rfl ?_
    refine t_no 18 rfl rfl rfl rfl rfl ?_
    refine t_st rfl (st_pick_t rfl rfl) ?_
    refine t_st rfl (st_move rfl) ?_
    refine t_no 26 rfl rfl rfl rfl rfl ?_
    refine t_no 26 rfl rfl rfl rfl rfl ?_
    refine t_no 26 rfl rfl rfl rfl rfl ?_
    refine t_no 26 rfl rfl rfl rfl rfl ?_
    refine t_st rfl (st_pick_t rfl rfl) ?_
    refine t_st rfl (st_move rfl) ?_
    refine t_no 32 rfl rfl rfl rfl rfl ?_
    refine t_no 32 rfl rfl rfl rfl rfl ?_
    refine t_no 32 rfl rfl rfl rfl rfl ?_
    refine t_no 32 rfl rfl rfl rfl rfl ?_
    refine t_no 32 rfl rfl rfl rfl rfl ?_
    refine t_st rfl (st_pick_t rfl rfl) ?_
    refine t_nil ?_
    obtain rfl := some1 hm
    refine x_pullb 1 rfl ?_
    exact x_join (e' := [(2, .pointer (some ⟨g207, 0, none⟩)), (3, .pointer (some ⟨g208, 0, none⟩)), (38, .bool (true))]) (hp' := (g207, Cl 28 [.slice A2 (s1.Stations).length c3, .slice A5 (s1.Sections).length c6, .slice A8 (s1.Links).length c9, .slice A11 (s1.Signals).length c12, .slice A14 (s1.Gates).length c15]) :: (g208, Cl 72 [.int .i64 (s17.From), .int .i64 (s17.To), .slice A18 (s17.Steps).length c19]) :: R) ⟨rfl, rfl, rfl, trivial⟩ (.cons_cons _ (.cons_cons _ (.refl _))) ⟨rfl, rfl, (Base.Le.refl _)⟩
   ·
    rw [if_neg hc218] at hm
    refine t_st rfl (st_move rfl) ?_
    refine t_yes 18 rfl rfl rfl ?_
    refine t_st rfl (st_field rfl fld72_0) ?_
    refine t_yes 18 rfl rfl rfl ?_
    refine t_st rfl (st_load 0 rfl one3 rfl rfl) ?_
    refine t_yes 18 rfl rfl rfl ?_
    refine t_st rfl (st_field rfl fld28_3) ?_
    refine t_yes 18 rfl rfl rfl ?_
    refine t_st rfl (st_load 1 rfl one25 rfl rfl) ?_
    refine t_yes 18 rfl rfl rfl ?_
    refine t_st rfl (st_len rfl sl25) ?_
    refine t_yes 18 rfl rfl rfl ?_
    refine t_bool rfl (st_geq rfl rfl) (fun hc219 => ?_) (fun hc219 => ?_)
    ·
     rw [if_pos hc219] at hm
     refine t_st rfl (st_pick_f rfl rfl) ?_
     refine t_st rfl (st_move rfl) ?_
     refine t_no 26 rfl rfl rfl rfl rfl ?_
     refine t_no 26 rfl rfl rfl rfl rfl ?_
     refine t_no 26 rfl rfl rfl rfl rfl ?_
     refine t_no 26 rfl rfl rfl rfl rfl ?_
     refine t_st rfl (st_pick_t rfl rfl) ?_
     refine t_st rfl (st_move rfl) ?_
     refine t_no 32 rfl rfl rfl rfl rfl ?_
     refine t_no 32 rfl rfl rfl rfl rfl ?_
     refine t_no 32 rfl rfl rfl rfl rfl ?_
     refine t_no 32 rfl rfl rfl rfl rfl ?_
     refine t_no 32 rfl rfl rfl rfl rfl ?_
     refine t_st rfl (st_pick_t rfl rfl) ?_
     refine t_nil ?_
     obtain rfl := some1 hm
     refine x_pullb 1 rfl ?_
     exact x_join (e' := [(2, .pointer (some ⟨g207, 0, none⟩)), (3, .pointer (some ⟨g208, 0, none⟩)), (38, .bool (true))]) (hp' := (g207, Cl 28 [.slice A2 (s1.Stations).length c3, .slice A5 (s1.Sections).length c6, .slice A8 (s1.Links).length c9, .slice A11 (s1.Signals).length c12, .slice A14 (s1.Gates).length c15]) :: (g208, Cl 72 [.int .i64 (s17.From), .int .i64 (s17.To), .slice A18 (s17.Steps).length c19]) :: R) ⟨rfl, rfl, rfl, trivial⟩ (.cons_cons _ (.cons_cons _ (.refl _))) ⟨rfl, rfl, (Base.Le.refl _)⟩
    ·
     rw [if_neg hc219] at hm
     refine t_st rfl (st_pick_f rfl rfl) ?_
     refine t_st rfl (st_move rfl) ?_
     refine t_yes 26 rfl rfl rfl ?_
     refine t_st rfl (st_field rfl fld72_2) ?_
     refine t_yes 26 rfl rfl rfl ?_
     refine t_st rfl (st_load 0 rfl one29 rfl rfl) ?_
     refine t_yes 26 rfl rfl rfl ?_
     refine t_st rfl (st_len rfl sl29) ?_
     refine t_yes 26 rfl rfl rfl ?_
     refine t_bool rfl (st_eql rfl rfl) (fun hc220 => ?_) (fun hc220 => ?_)
     ·
      rw [if_pos hc220] at hm
      refine t_st rfl (st_pick_f rfl rfl) ?_
      refine t_st rfl (st_move rfl) ?_
      refine t_no 32 rfl rfl rfl rfl rfl ?_
      refine t_no 32 rfl rfl rfl rfl rfl ?_
      refine t_no 32 rfl rfl rfl rfl rfl ?_
      refine t_no 32 rfl rfl rfl rfl rfl ?_
      refine t_no 32 rfl rfl rfl rfl rfl ?_
      refine t_st rfl (st_pick_t rfl rfl) ?_
      refine t_nil ?_
      obtain rfl := some1 hm
      refine x_pullb 1 rfl ?_
      exact x_join (e' := [(2, .pointer (some ⟨g207, 0, none⟩)), (3, .pointer (some ⟨g208, 0, none⟩)), (38, .bool (true))]) (hp' := (g207, Cl 28 [.slice A2 (s1.Stations).length c3, .slice A5 (s1.Sections).length c6, .slice A8 (s1.Links).length c9, .slice A11 (s1.Signals).length c12, .slice A14 (s1.Gates).length c15]) :: (g208, Cl 72 [.int .i64 (s17.From), .int .i64 (s17.To), .slice A18 (s17.Steps).length c19]) :: R) ⟨rfl, rfl, rfl, trivial⟩ (.cons_cons _ (.cons_cons _ (.refl _))) ⟨rfl, rfl, (Base.Le.refl _)⟩
     ·
      rw [if_neg hc220] at hm
      refine t_st rfl (st_pick_f rfl rfl) ?_
      refine t_st rfl (st_move rfl) ?_
      refine t_yes 32 rfl rfl rfl ?_
      refine t_st rfl (st_loadD (vs := [_, _, _, _, _]) 1 5 rfl agg28 rfl rfl rfl) ?_
      refine t_yes 32 rfl rfl rfl ?_
      refine t_st rfl (st_field rfl fld72_2) ?_
      refine t_yes 32 rfl rfl rfl ?_
      refine t_st rfl (st_load 0 rfl one29 rfl rfl) ?_
      refine t_yes 32 rfl rfl rfl ?_
      obtain ⟨x221, hcl222, hm⟩ := bindS hm
      refine t_do rfl (u_callW0 _ call8 rfl (fun w ho => cLineCheckPath _ [] s1 s17.Steps A2 c3 A5 c6 A8 c9 A11 c12 A14 c15 A18 c19 (h4.old ho) (h7.old ho) (h10.old ho) (h13.old ho) (h16.old ho) (h20.old ho) x221 hcl222) (fun _ _ _ h => h.2.symm)) ?_
      rintro _ _ ⟨⟨_, rfl, _⟩, rfl⟩
      refine t_yes 32 rfl rfl rfl ?_
      refine t_st rfl (st_neq rfl rfl) ?_
      refine t_st rfl (st_pick_f rfl rfl) ?_
      refine t_nil ?_
      obtain rfl := some1 hm
      refine x_pullb 1 rfl ?_
      exact x_join (e' := [(2, .pointer (some ⟨g207, 0, none⟩)), (3, .pointer (some ⟨g208, 0, none⟩)), (38, .bool (decide (x221 ≠ 0)))]) (hp' := (g207, Cl 28 [.slice A2 (s1.Stations).length c3, .slice A5 (s1.Sections).length c6, .slice A8 (s1.Links).length c9, .slice A11 (s1.Signals).length c12, .slice A14 (s1.Gates).length c15]) :: (g208, Cl 72 [.int .i64 (s17.From), .int .i64 (s17.To), .slice A18 (s17.Steps).length c19]) :: R) ⟨rfl, rfl, rfl, trivial⟩ (.cons_cons _ (.cons_cons _ (.refl _))) ⟨rfl, rfl, (Base.Le.refl _)⟩
  ·
   rintro b214 _ _ ⟨rfl, rfl, hle215⟩
   have hm := hk217
   refine c_cond _ rfl (fun hc223 => ?_) (fun hc223 => ?_)
   ·
    rw [if_pos hc223] at hm
    refine c_seq ?_
    refine c_region ?_
    refine t_st rfl (st_assign rfl) ?_
    refine t_nil ?_
    refine x_then_normal ?_
    refine c_ret ?_
    refine x_then_ret ?_
    obtain rfl := some1 hm
    exact retM (rs := [.tmp 4]) [.bool (false)] hle215 (by decide) rfl ⟨rfl, trivial⟩ rfl (hp' := R) (.cons _ (.cons _ (.refl _))) ⟨rfl, rfl⟩
   ·
    rw [if_neg (fun hh => Bool.noConfusion (hh.symm.trans hc223))] at hm
    refine c_skip ?_
    refine x_then_normal ?_
    refine c_seq ?_
    refine c_region ?_
    refine t_st rfl (st_field rfl fld28_3) ?_
    refine t_st rfl (st_load 0 rfl one25 rfl rfl) ?_
    refine t_st rfl (st_field rfl fld72_0) ?_
    refine t_st rfl (st_load 1 rfl one3 rfl rfl) ?_
    obtain ⟨x224, h225, hm⟩ := bindS hm
    obtain ⟨j226, hj227, hx228⟩ := idx_some h225
    obtain ⟨cs229, hr230, hcs231, hA232, hlt233⟩ := FZ.get (sz := 2) rfl (by decide) (h13.le hle215) hx228
    obtain ⟨_, _, rfl, rfl, rfl⟩ := hr230
    refine t_st rfl (st_index_old j226 rfl rfl hj227 hlt233 hA232 sl25) ?_
    refine t_st rfl (st_loadN_old (vs := [.int .i64 (x224.Section), .int .i64 (x224.End)]) 2 rfl agg64 hA232 rfl (fun j u hu => hcs231 j u hu)) ?_
    refine t_do rfl (u_alloc [.int .i64 0, .int .i64 0] zero64 rfl) ?_
    rintro _ _ ⟨g234, rfl, rfl⟩
    refine t_do rfl (u_storeN (vs := [_, _]) 0 2 rfl rfl rfl siz64 rfl (by intro u hu; simp only [List.mem_cons, List.not_mem_nil, or_false] at hu; rcases hu with rfl | rfl <;> rfl) rfl (by simp)) ?_
    rintro _ _ rfl
    refine t_nil ?_
    refine x_then_normal ?_
    refine c_seq ?_
    refine c_region ?_
    refine t_st rfl (st_loadD (vs := [_, _, _, _, _]) 1 5 rfl agg28 rfl rfl rfl) ?_
    refine t_st rfl (st_field rfl fld64_0) ?_
    refine t_st rfl (st_load 0 rfl one3 rfl rfl) ?_
    refine t_st rfl (st_field rfl fld64_1) ?_
    refine t_st rfl (st_load 0 rfl one3 rfl rfl) ?_
    obtain ⟨⟨x235, x236, x237⟩, hcl238, hm⟩ := bindS hm
    have hm := (unc3E hm)
    refine t_do rfl (u_callW0 _ call44 rfl (fun w ho => cLineNext _ [] s1 x224.Section x224.End A2 c3 A5 c6 A8 c9 A11 c12 A14 c15 ((h4.le hle215).old ho) ((h7.le hle215).old ho) ((h10.le hle215).old ho) ((h13.le hle215).old ho) ((h16.le hle215).old ho) x235 x236 x237 hcl238) (fun _ _ _ h => h.2.symm)) ?_
    rintro _ _ ⟨⟨_, rfl, _⟩, rfl⟩
    refine t_st rfl (st_move rfl) ?_
    refine t_st rfl (st_extract rfl rfl) ?_
    refine t_st rfl (st_extract rfl rfl) ?_
    refine t_st rfl (st_extract rfl rfl) ?_
    refine t_st rfl (st_assign rfl) ?_
    refine t_st rfl (st_assign rfl) ?_
    refine t_st rfl (st_assign rfl) ?_
    refine t_nil ?_
    refine x_then_normal ?_
    refine c_seq ?_
    obtain ⟨x263, hj264, hk264⟩ := bindS hm
    refine c_join (fun b261 e' hp' => [(2, .pointer (some ⟨g207, 0, none⟩)), (3, .pointer (some ⟨g208, 0, none⟩)), (5, .pointer (some ⟨g234, 0, none⟩)), (74, .bool (x263))] = e' ∧ (g207, Cl 28 [.slice A2 (s1.Stations).length c3, .slice A5 (s1.Sections).length c6, .slice A8 (s1.Links).length c9, .slice A11 (s1.Signals).length c12, .slice A14 (s1.Gates).length c15]) :: (g208, Cl 72 [.int .i64 (s17.From), .int .i64 (s17.To), .slice A18 (s17.Steps).length c19]) :: (g234, Cl 64 [.int .i64 (x224.Section), .int .i64 (x224.End)]) :: R = hp' ∧ b214.Le b261) ?_ ?_
    ·
     have hm := hj264
     refine c_region ?_
     refine t_st rfl (st_move rfl) ?_
     refine t_bool rfl (st_neq rfl rfl) (fun hc265 => ?_) (fun hc265 => ?_)
     ·
      rw [if_pos hc265] at hm
      refine t_st rfl (st_move rfl) ?_
      refine t_no 57 rfl rfl rfl rfl rfl ?_
      refine t_no 57 rfl rfl rfl rfl rfl ?_
      refine t_no 57 rfl rfl rfl rfl rfl ?_
      refine t_no 57 rfl rfl rfl rfl rfl ?_
      refine t_no 57 rfl rfl rfl rfl rfl ?_
      refine t_no 57 rfl rfl rfl rfl rfl ?_
      refine t_no 57 rfl rfl rfl rfl rfl ?_
      refine t_st rfl (st_pick_t rfl rfl) ?_
      refine t_st rfl (st_move rfl) ?_
      refine t_no 66 rfl rfl rfl rfl rfl ?_
      refine t_no 66 rfl rfl rfl rfl rfl ?_
      refine t_no 66 rfl rfl rfl rfl rfl ?_
      refine t_no 66 rfl rfl rfl rfl rfl ?_
      refine t_no 66 rfl rfl rfl rfl rfl ?_
      refine t_no 66 rfl rfl rfl rfl rfl ?_
      refine t_no 66 rfl rfl rfl rfl rfl ?_
      refine t_st rfl (st_pick_t rfl rfl) ?_
      refine t_nil ?_
      obtain rfl := some1 hm
      refine x_pullb 2 rfl ?_
      refine x_pullb 2 rfl ?_
      exact x_join (e' := [(2, .pointer (some ⟨g207, 0, none⟩)), (3, .pointer (some ⟨g208, 0, none⟩)), (5, .pointer (some ⟨g234, 0, none⟩)), (74, .bool (true))]) (hp' := (g207, Cl 28 [.slice A2 (s1.Stations).length c3, .slice A5 (s1.Sections).length c6, .slice A8 (s1.Links).length c9, .slice A11 (s1.Signals).length c12, .slice A14 (s1.Gates).length c15]) :: (g208, Cl 72 [.int .i64 (s17.From), .int .i64 (s17.To), .slice A18 (s17.Steps).length c19]) :: (g234, Cl 64 [.int .i64 (x224.Section), .int .i64 (x224.End)]) :: R) ⟨rfl, rfl, rfl, rfl, trivial⟩ (.cons_cons _ (.cons_cons _ (.cons_cons _ (.refl _)))) ⟨rfl, rfl, (Base.Le.refl _)⟩
     ·
      rw [if_neg hc265] at hm
      refine t_st rfl (st_move rfl) ?_
      refine t_yes 57 rfl rfl rfl ?_
      refine t_st rfl (st_field rfl fld72_2) ?_
      refine t_yes 57 rfl rfl rfl ?_
      refine t_st rfl (st_load 2 rfl one29 rfl rfl) ?_
      refine t_yes 57 rfl rfl rfl ?_
      obtain ⟨x266, h267, hm⟩ := bindS hm
      obtain ⟨j268, hj269, hx270⟩ := idx_some h267
      obtain ⟨cs271, hr272, hcs273, hA274, hlt275⟩ := FZ.get (sz := 3) rfl (by decide) (h20.le hle215) hx270
      obtain ⟨_, _, rfl, rfl, ⟨_, _, rfl, rfl, rfl⟩⟩ := hr272
      refine t_st rfl (st_index_old j268 rfl rfl hj269 hlt275 hA274 sl29) ?_
      refine t_yes 57 rfl rfl rfl ?_
      refine t_st rfl (st_field_old rfl hA274 fld43_0) ?_
      refine t_yes 57 rfl rfl rfl ?_
      refine t_st rfl (st_load_old rfl one3 (hcs273 0 _ rfl)) ?_
      refine t_yes 57 rfl rfl rfl ?_
      refine t_st rfl (st_move rfl) ?_
      refine t_yes 57 rfl rfl rfl ?_
      refine t_bool rfl (st_neq rfl rfl) (fun hc276 => ?_) (fun hc276 => ?_)
      ·
       rw [if_pos hc276] at hm
       refine t_st rfl (st_pick_f rfl rfl) ?_
       refine t_st rfl (st_move rfl) ?_
       refine t_no 66 rfl rfl rfl rfl rfl ?_
       refine t_no 66 rfl rfl rfl rfl rfl ?_
       refine t_no 66 rfl rfl rfl rfl rfl ?_
       refine t_no 66 rfl rfl rfl rfl rfl ?_
       refine t_no 66 rfl rfl rfl rfl rfl ?_
       refine t_no 66 rfl rfl rfl rfl rfl ?_
       refine t_no 66 rfl rfl rfl rfl rfl ?_
       refine t_st rfl (st_pick_t rfl rfl) ?_
       refine t_nil ?_
       obtain rfl := some1 hm
       refine x_pullb 2 rfl ?_
       refine x_pullb 2 rfl ?_
       exact x_join (e' := [(2, .pointer (some ⟨g207, 0, none⟩)), (3, .pointer (some ⟨g208, 0, none⟩)), (5, .pointer (some ⟨g234, 0, none⟩)), (74, .bool (true))]) (hp' := (g207, Cl 28 [.slice A2 (s1.Stations).length c3, .slice A5 (s1.Sections).length c6, .slice A8 (s1.Links).length c9, .slice A11 (s1.Signals).length c12, .slice A14 (s1.Gates).length c15]) :: (g208, Cl 72 [.int .i64 (s17.From), .int .i64 (s17.To), .slice A18 (s17.Steps).length c19]) :: (g234, Cl 64 [.int .i64 (x224.Section), .int .i64 (x224.End)]) :: R) ⟨rfl, rfl, rfl, rfl, trivial⟩ (.cons_cons _ (.cons_cons _ (.cons_cons _ (.refl _)))) ⟨rfl, rfl, (Base.Le.refl _)⟩
      ·
       rw [if_neg hc276] at hm
       refine t_st rfl (st_pick_f rfl rfl) ?_
       refine t_st rfl (st_move rfl) ?_
       refine t_yes 66 rfl rfl rfl ?_
       refine t_st rfl (st_field rfl fld72_2) ?_
       refine t_yes 66 rfl rfl rfl ?_
       refine t_st rfl (st_load 2 rfl one29 rfl rfl) ?_
       refine t_yes 66 rfl rfl rfl ?_
       obtain ⟨x277, h278, hm⟩ := bindS hm
       obtain ⟨j279, hj280, hx281⟩ := idx_some h278
       obtain ⟨cs282, hr283, hcs284, hA285, hlt286⟩ := FZ.get (sz := 3) rfl (by decide) (h20.le hle215) hx281
       obtain ⟨_, _, rfl, rfl, ⟨_, _, rfl, rfl, rfl⟩⟩ := hr283
       refine t_st rfl (st_index_old j279 rfl rfl hj280 hlt286 hA285 sl29) ?_
       refine t_yes 66 rfl rfl rfl ?_
       refine t_st rfl (st_field_old rfl hA285 fld43_1) ?_
       refine t_yes 66 rfl rfl rfl ?_
       refine t_st rfl (st_load_old rfl one3 (hcs284 1 _ rfl)) ?_
       refine t_yes 66 rfl rfl rfl ?_
       refine t_st rfl (st_move rfl) ?_
       refine t_yes 66 rfl rfl rfl ?_
       refine t_st rfl (st_neq rfl rfl) ?_
       refine t_st rfl (st_pick_f rfl rfl) ?_
       refine t_nil ?_
       obtain rfl := some1 hm
       refine x_pullb 2 rfl ?_
       refine x_pullb 2 rfl ?_
       exact x_join (e' := [(2, .pointer (some ⟨g207, 0, none⟩)), (3, .pointer (some ⟨g208, 0, none⟩)), (5, .pointer (some ⟨g234, 0, none⟩)), (74, .bool (decide (x277.In ≠ x236)))]) (hp' := (g207, Cl 28 [.slice A2 (s1.Stations).length c3, .slice A5 (s1.Sections).length c6, .slice A8 (s1.Links).length c9, .slice A11 (s1.Signals).length c12, .slice A14 (s1.Gates).length c15]) :: (g208, Cl 72 [.int .i64 (s17.From), .int .i64 (s17.To), .slice A18 (s17.Steps).length c19]) :: (g234, Cl 64 [.int .i64 (x224.Section), .int .i64 (x224.End)]) :: R) ⟨rfl, rfl, rfl, rfl, trivial⟩ (.cons_cons _ (.cons_cons _ (.cons_cons _ (.refl _)))) ⟨rfl, rfl, (Base.Le.refl _)⟩
    ·
     rintro b261 _ _ ⟨rfl, rfl, hle262⟩
     have hm := hk264
     refine c_cond _ rfl (fun hc287 => ?_) (fun hc287 => ?_)
     ·
      rw [if_pos hc287] at hm
      refine c_seq ?_
      refine c_region ?_
      refine t_st rfl (st_assign rfl) ?_
      refine t_nil ?_
      refine x_then_normal ?_
      refine c_ret ?_
      refine x_then_ret ?_
      obtain rfl := some1 hm
      exact retM (rs := [.tmp 4]) [.bool (false)] (hle215.trans hle262) (by decide) rfl ⟨rfl, trivial⟩ rfl (hp' := R) (.cons _ (.cons _ (.cons _ (.refl _)))) ⟨rfl, rfl⟩
     ·
      rw [if_neg (fun hh => Bool.noConfusion (hh.symm.trans hc287))] at hm
      refine c_skip ?_
      refine x_then_normal ?_
      refine c_seq ?_
      refine c_seq ?_
      refine c_region ?_
      refine t_st rfl (st_field rfl fld72_2) ?_
      refine t_st rfl (st_load 1 rfl one29 rfl rfl) ?_
      refine t_st rfl (st_len rfl sl29) ?_
      refine t_st rfl (st_move rfl) ?_
      refine t_nil ?_
      refine x_then_normal ?_
      refine c_block ?_
      have hb289 : s17.Steps.length ≤ 9223372036854775807 := (FZ.bd (h20.le (hle215.trans hle262)))
      refine c_pullb 2 rfl ?_
      refine c_pullb 2 rfl ?_
      refine c_pullb 2 rfl ?_
      obtain ⟨t329, hl330, hk331⟩ := bindS hm
      refine c_forM (fun k328 => fun _ => fun b326 e' hp' => [(2, .pointer (some ⟨g207, 0, none⟩)), (3, .pointer (some ⟨g208, 0, none⟩)), (5, .pointer (some ⟨g234, 0, none⟩)), (76, .slice A18 (s17.Steps).length c19), (77, .int .i64 ((s17.Steps.length : Int))), (78, .int .i64 ((k328 : Int)))] = e' ∧ (g207, Cl 28 [.slice A2 (s1.Stations).length c3, .slice A5 (s1.Sections).length c6, .slice A8 (s1.Links).length c9, .slice A11 (s1.Signals).length c12, .slice A14 (s1.Gates).length c15]) :: (g208, Cl 72 [.int .i64 (s17.From), .int .i64 (s17.To), .slice A18 (s17.Steps).length c19]) :: (g234, Cl 64 [.int .i64 (x224.Section), .int .i64 (x224.End)]) :: R = hp' ∧ b261.Le b326) hl330 (e' := [(2, .pointer (some ⟨g207, 0, none⟩)), (3, .pointer (some ⟨g208, 0, none⟩)), (5, .pointer (some ⟨g234, 0, none⟩)), (76, .slice A18 (s17.Steps).length c19), (77, .int .i64 ((s17.Steps.length : Int))), (78, .int .i64 0)]) (hp' := (g207, Cl 28 [.slice A2 (s1.Stations).length c3, .slice A5 (s1.Sections).length c6, .slice A8 (s1.Links).length c9, .slice A11 (s1.Signals).length c12, .slice A14 (s1.Gates).length c15]) :: (g208, Cl 72 [.int .i64 (s17.From), .int .i64 (s17.To), .slice A18 (s17.Steps).length c19]) :: (g234, Cl 64 [.int .i64 (x224.Section), .int .i64 (x224.End)]) :: R) ⟨rfl, rfl, rfl, rfl, rfl, rfl, trivial⟩ (.cons_cons _ (.cons_cons _ (.cons_cons _ (.refl _)))) ⟨rfl, rfl, (Base.Le.refl _)⟩ ?_ ?_
      ·
       rintro k328 _ b326 _ _ oL288 hknL288 ⟨rfl, rfl, hle327⟩ hstepL288 houtL288
       unfold mFishkeep1RouteRuns_L288 at hstepL288
       have hm := hstepL288
       refine c_seq ?_
       refine c_region ?_
       refine t_st rfl (st_lss_t rfl rfl (by omega)) ?_
       refine t_nil ?_
       refine x_then_normal ?_
       refine c_seq ?_
       refine c_cond_t rfl ?_
       refine c_skip ?_
       refine x_then_normal ?_
       refine c_seq ?_
       refine c_block ?_
       refine c_seq ?_
       refine c_region ?_
       refine t_st rfl (st_move rfl) ?_
       obtain ⟨x332, h333, hm⟩ := bindS hm
       obtain ⟨j334, hj335, hx336⟩ := idx_some h333
       obtain ⟨cs337, hr338, hcs339, hA340, hlt341⟩ := FZ.get (sz := 3) rfl (by decide) (h20.le (hle215.trans (hle262.trans hle327))) hx336
       obtain ⟨_, _, rfl, rfl, ⟨_, _, rfl, rfl, rfl⟩⟩ := hr338
       refine t_st rfl (st_index_old j334 rfl rfl hj335 hlt341 hA340 sl29) ?_
       refine t_st rfl (st_loadN_old (vs := [.int .i64 (x332.Section), .int .i64 (x332.In), .int .i64 (x332.Out)]) 3 rfl agg43 hA340 rfl (fun j u hu => hcs339 j u hu)) ?_
       refine t_do rfl (u_alloc [.int .i64 0, .int .i64 0, .int .i64 0] zero43 rfl) ?_
       rintro _ _ ⟨g342, rfl, rfl⟩
       refine t_st rfl (st_assign rfl) ?_
       refine t_do rfl (u_storeN (vs := [_, _, _]) 0 3 rfl rfl rfl siz43 rfl (by intro u hu; simp only [List.mem_cons, List.not_mem_nil, or_false] at hu; rcases hu with rfl | rfl | rfl <;> rfl) rfl (by simp)) ?_
       rintro _ _ rfl
       refine t_nil ?_
       refine x_then_normal ?_
       refine c_seq ?_
       refine c_region ?_
       refine t_st rfl (st_loadD (vs := [_, _, _, _, _]) 1 5 rfl agg28 rfl rfl rfl) ?_
       refine t_st rfl (st_field rfl fld43_0) ?_
       refine t_st rfl (st_load 0 rfl one3 rfl rfl) ?_
       refine t_st rfl (st_field rfl fld43_2) ?_
       refine t_st rfl (st_load 0 rfl one3 rfl rfl) ?_
       obtain ⟨⟨x343, x344⟩, hcl345, hm⟩ := bindS hm
       have hm := (unc2E hm)
       refine t_do rfl (u_callW0 _ call45 rfl (fun w ho => cLineSignalAt _ [] s1 x332.Section x332.Out A2 c3 A5 c6 A8 c9 A11 c12 A14 c15 ((h4.le (hle215.trans (hle262.trans hle327))).old ho) ((h7.le (hle215.trans (hle262.trans hle327))).old ho) ((h10.le (hle215.trans (hle262.trans hle327))).old ho) ((h13.le (hle215.trans (hle262.trans hle327))).old ho) ((h16.le (hle215.trans (hle262.trans hle327))).old ho) x343 x344 hcl345) (fun _ _ _ h => h.2.symm)) ?_
       rintro _ _ ⟨⟨_, rfl, _⟩, rfl⟩
       refine t_st rfl (st_move rfl) ?_
       refine t_st rfl (st_extract rfl rfl) ?_
       refine t_st rfl (st_extract rfl rfl) ?_
       refine t_st rfl (st_assign rfl) ?_
       refine t_st rfl (st_assign rfl) ?_
       refine t_nil ?_
       refine x_then_normal ?_
       refine c_seq ?_
       refine c_region ?_
       refine t_st rfl (st_move rfl) ?_
       refine t_st rfl (st_field rfl fld72_2) ?_
       refine t_st rfl (st_load 2 rfl one29 rfl rfl) ?_
       refine t_st rfl (st_len rfl sl29) ?_
       obtain ⟨_, h346, hm⟩ := bindS hm
       have h346 := (chk_some h346).2
       refine t_st rfl (st_sub rfl rfl h346) ?_
       refine t_st rfl (st_eql rfl rfl) ?_
       refine t_st rfl (st_assign rfl) ?_
       refine t_nil ?_
       refine x_then_normal ?_
       obtain ⟨x357, hj358, hk358⟩ := bindS hm
       refine c_join (fun b355 e' hp' => [(2, .pointer (some ⟨g207, 0, none⟩)), (3, .pointer (some ⟨g208, 0, none⟩)), (5, .pointer (some ⟨g234, 0, none⟩)), (76, .slice A18 (s17.Steps).length c19), (77, .int .i64 ((s17.Steps.length : Int))), (78, .int .i64 ((k328 : Int))), (128, .bool (x357))] = e' ∧ (g207, Cl 28 [.slice A2 (s1.Stations).length c3, .slice A5 (s1.Sections).length c6, .slice A8 (s1.Links).length c9, .slice A11 (s1.Signals).length c12, .slice A14 (s1.Gates).length c15]) :: (g208, Cl 72 [.int .i64 (s17.From), .int .i64 (s17.To), .slice A18 (s17.Steps).length c19]) :: (g234, Cl 64 [.int .i64 (x224.Section), .int .i64 (x224.End)]) :: R = hp' ∧ b326.Le b355) ?_ ?_
       ·
        have hm := hj358
        refine c_region ?_
        refine t_st rfl (st_field rfl fld43_0) ?_
        refine t_st rfl (st_load 0 rfl one3 rfl rfl) ?_
        refine t_st rfl (st_field rfl fld64_0) ?_
        refine t_st rfl (st_load 3 rfl one3 rfl rfl) ?_
        refine t_bool rfl (st_eql rfl rfl) (fun hc359 => ?_) (fun hc359 => ?_)
        ·
         rw [if_pos hc359] at hm
         refine t_st rfl (st_move rfl) ?_
         refine t_no 103 rfl rfl rfl rfl rfl ?_
         refine t_no 103 rfl rfl rfl rfl rfl ?_
         refine t_no 103 rfl rfl rfl rfl rfl ?_
         refine t_no 106 rfl rfl rfl rfl rfl ?_
         refine t_no 106 rfl rfl rfl rfl rfl ?_
         refine t_no 106 rfl rfl rfl rfl rfl ?_
         refine t_no 109 rfl rfl rfl rfl rfl ?_
         refine t_no 109 rfl rfl rfl rfl rfl ?_
         refine t_no 109 rfl rfl rfl rfl rfl ?_
         refine t_no 109 rfl rfl rfl rfl rfl ?_
         refine t_no 106 rfl rfl rfl rfl rfl ?_
         refine t_no 103 rfl rfl rfl rfl rfl ?_
         refine t_st rfl (st_pick_t rfl rfl) ?_
         refine t_st rfl (st_move rfl) ?_
         refine t_no 117 rfl rfl rfl rfl rfl ?_
         refine t_no 117 rfl rfl rfl rfl rfl ?_
         refine t_no 117 rfl rfl rfl rfl rfl ?_
         refine t_no 120 rfl rfl rfl rfl rfl ?_
         refine t_no 117 rfl rfl rfl rfl rfl ?_
         refine t_no 117 rfl rfl rfl rfl rfl ?_
         refine t_no 123 rfl rfl rfl rfl rfl ?_
         refine t_no 123 rfl rfl rfl rfl rfl ?_
         refine t_no 123 rfl rfl rfl rfl rfl ?_
         refine t_no 117 rfl rfl rfl rfl rfl ?_
         refine t_st rfl (st_pick_t rfl rfl) ?_
         refine t_nil ?_
         obtain rfl := some1 hm
         refine x_pullb 3 rfl ?_
         refine x_pullb 3 rfl ?_
         refine x_pullb 3 rfl ?_
         exact x_join (e' := [(2, .pointer (some ⟨g207, 0, none⟩)), (3, .pointer (some ⟨g208, 0, none⟩)), (5, .pointer (some ⟨g234, 0, none⟩)), (76, .slice A18 (s17.Steps).length c19), (77, .int .i64 ((s17.Steps.length : Int))), (78, .int .i64 ((k328 : Int))), (128, .bool (true))]) (hp' := (g207, Cl 28 [.slice A2 (s1.Stations).length c3, .slice A5 (s1.Sections).length c6, .slice A8 (s1.Links).length c9, .slice A11 (s1.Signals).length c12, .slice A14 (s1.Gates).length c15]) :: (g208, Cl 72 [.int .i64 (s17.From), .int .i64 (s17.To), .slice A18 (s17.Steps).length c19]) :: (g234, Cl 64 [.int .i64 (x224.Section), .int .i64 (x224.End)]) :: R) ⟨rfl, rfl, rfl, rfl, rfl, rfl, rfl, trivial⟩ (.cons_cons _ (.cons_cons _ (.cons_cons _ (.cons _ (.refl _))))) ⟨rfl, rfl, (Base.Le.refl _)⟩
        ·
         rw [if_neg hc359] at hm
         refine t_st rfl (st_move rfl) ?_
         refine t_yes 103 rfl rfl rfl ?_
         refine t_st rfl (st_move rfl) ?_
         refine t_yes 103 rfl rfl rfl ?_
         refine t_bool rfl (st_eql rfl rfl) (fun hc360 => ?_) (fun hc360 => ?_)
         ·
          rw [if_pos hc360] at hm
          refine t_yes 103 rfl rfl rfl ?_
          refine t_st rfl (st_move rfl) ?_
          refine t_yes 106 rfl rfl rfl ?_
          refine t_bool rfl (st_move rfl) (fun hc361 => ?_) (fun hc361 => ?_)
          ·
           rw [if_pos hc361] at hm
           refine t_yes 106 rfl rfl rfl ?_
           refine t_st rfl (st_not_t rfl) ?_
           refine t_yes 106 rfl rfl rfl ?_
           refine t_st rfl (st_move rfl) ?_
           refine t_yes 109 rfl rfl rfl ?_
           refine t_st rfl (st_move rfl) ?_
           refine t_yes 109 rfl rfl rfl ?_
           refine t_st rfl (st_field rfl fld72_1) ?_
           refine t_yes 109 rfl rfl rfl ?_
           refine t_st rfl (st_load 2 rfl one3 rfl rfl) ?_
           refine t_yes 109 rfl rfl rfl ?_
           refine t_bool rfl (st_neq rfl rfl) (fun hc362 => ?_) (fun hc362 => ?_)
           ·
            rw [if_pos hc362] at hm
            refine t_yes 106 rfl rfl rfl ?_
            refine t_st rfl (st_pick_f rfl rfl) ?_
            refine t_yes 103 rfl rfl rfl ?_
            refine t_st rfl (st_pick_t rfl rfl) ?_
            refine t_st rfl (st_pick_f rfl rfl) ?_
            refine t_st rfl (st_move rfl) ?_
            refine t_no 117 rfl rfl rfl rfl rfl ?_
            refine t_no 117 rfl rfl rfl rfl rfl ?_
            refine t_no 117 rfl rfl rfl rfl rfl ?_
            refine t_no 120 rfl rfl rfl rfl rfl ?_
            refine t_no 117 rfl rfl rfl rfl rfl ?_
            refine t_no 117 rfl rfl rfl rfl rfl ?_
            refine t_no 123 rfl rfl rfl rfl rfl ?_
            refine t_no 123 rfl rfl rfl rfl rfl ?_
            refine t_no 123 rfl rfl rfl rfl rfl ?_
            refine t_no 117 rfl rfl rfl rfl rfl ?_
            refine t_st rfl (st_pick_t rfl rfl) ?_
            refine t_nil ?_
            obtain rfl := some1 hm
            refine x_pullb 3 rfl ?_
            refine x_pullb 3 rfl ?_
            refine x_pullb 3 rfl ?_
            exact x_join (e' := [(2, .pointer (some ⟨g207, 0, none⟩)), (3, .pointer (some ⟨g208, 0, none⟩)), (5, .pointer (some ⟨g234, 0, none⟩)), (76, .slice A18 (s17.Steps).length c19), (77, .int .i64 ((s17.Steps.length : Int))), (78, .int .i64 ((k328 : Int))), (128, .bool (true))]) (hp' := (g207, Cl 28 [.slice A2 (s1.Stations).length c3, .slice A5 (s1.Sections).length c6, .slice A8 (s1.Links).length c9, .slice A11 (s1.Signals).length c12, .slice A14 (s1.Gates).length c15]) :: (g208, Cl 72 [.int .i64 (s17.From), .int .i64 (s17.To), .slice A18 (s17.Steps).length c19]) :: (g234, Cl 64 [.int .i64 (x224.Section), .int .i64 (x224.End)]) :: R) ⟨rfl, rfl, rfl, rfl, rfl, rfl, rfl, trivial⟩ (.cons_cons _ (.cons_cons _ (.cons_cons _ (.cons _ (.refl _))))) ⟨rfl, rfl, (Base.Le.refl _)⟩
           ·
            rw [if_neg hc362] at hm
            refine t_yes 106 rfl rfl rfl ?_
            refine t_st rfl (st_pick_f rfl rfl) ?_
            refine t_yes 103 rfl rfl rfl ?_
            refine t_st rfl (st_pick_t rfl rfl) ?_
            refine t_st rfl (st_pick_f rfl rfl) ?_
            refine t_st rfl (st_move rfl) ?_
            refine t_yes 117 rfl rfl rfl ?_
            refine t_st rfl (st_move rfl) ?_
            refine t_yes 117 rfl rfl rfl ?_
            refine t_bool rfl (st_neq rfl rfl) (fun hc363 => ?_) (fun hc363 => ?_)
            ·
             rw [if_pos hc363] at hm
             refine t_yes 117 rfl rfl rfl ?_
             refine t_st rfl (st_move rfl) ?_
             refine t_yes 120 rfl rfl rfl ?_
             refine t_bool rfl (st_move rfl) (fun hc364 => ?_) (fun hc364 => ?_)
             ·
              rw [if_pos hc364] at hm
              refine t_yes 117 rfl rfl rfl ?_
              refine t_st rfl (st_pick_t rfl rfl) ?_
              refine t_yes 117 rfl rfl rfl ?_
              refine t_st rfl (st_move rfl) ?_
              refine t_yes 123 rfl rfl rfl ?_
              refine t_st rfl (st_field rfl fld72_1) ?_
              refine t_yes 123 rfl rfl rfl ?_
              refine t_st rfl (st_load 2 rfl one3 rfl rfl) ?_
              refine t_yes 123 rfl rfl rfl ?_
              refine t_st rfl (st_neq rfl rfl) ?_
              refine t_yes 117 rfl rfl rfl ?_
              refine t_st rfl (st_pick_t rfl rfl) ?_
              refine t_st rfl (st_pick_f rfl rfl) ?_
              refine t_nil ?_
              obtain rfl := some1 hm
              refine x_pullb 3 rfl ?_
              refine x_pullb 3 rfl ?_
              refine x_pullb 3 rfl ?_
              exact x_join (e' := [(2, .pointer (some ⟨g207, 0, none⟩)), (3, .pointer (some ⟨g208, 0, none⟩)), (5, .pointer (some ⟨g234, 0, none⟩)), (76, .slice A18 (s17.Steps).length c19), (77, .int .i64 ((s17.Steps.length : Int))), (78, .int .i64 ((k328 : Int))), (128, .bool (decide (s17.To ≠ (-1))))]) (hp' := (g207, Cl 28 [.slice A2 (s1.Stations).length c3, .slice A5 (s1.Sections).length c6, .slice A8 (s1.Links).length c9, .slice A11 (s1.Signals).length c12, .slice A14 (s1.Gates).length c15]) :: (g208, Cl 72 [.int .i64 (s17.From), .int .i64 (s17.To), .slice A18 (s17.Steps).length c19]) :: (g234, Cl 64 [.int .i64 (x224.Section), .int .i64 (x224.End)]) :: R) ⟨rfl, rfl, rfl, rfl, rfl, rfl, rfl, trivial⟩ (.cons_cons _ (.cons_cons _ (.cons_cons _ (.cons _ (.refl _))))) ⟨rfl, rfl, (Base.Le.refl _)⟩
             ·
              rw [if_neg hc364] at hm
              refine t_yes 117 rfl rfl rfl ?_
              refine t_st rfl (st_pick_t rfl rfl) ?_
              refine t_yes 117 rfl rfl rfl ?_
              refine t_st rfl (st_move rfl) ?_
              refine t_no 123 rfl rfl rfl rfl rfl ?_
              refine t_no 123 rfl rfl rfl rfl rfl ?_
              refine t_no 123 rfl rfl rfl rfl rfl ?_
              refine t_yes 117 rfl rfl rfl ?_
              refine t_st rfl (st_pick_f rfl rfl) ?_
              refine t_st rfl (st_pick_f rfl rfl) ?_
              refine t_nil ?_
              obtain rfl := some1 hm
              refine x_pullb 3 rfl ?_
              refine x_pullb 3 rfl ?_
              refine x_pullb 3 rfl ?_
              exact x_join (e' := [(2, .pointer (some ⟨g207, 0, none⟩)), (3, .pointer (some ⟨g208, 0, none⟩)), (5, .pointer (some ⟨g234, 0, none⟩)), (76, .slice A18 (s17.Steps).length c19), (77, .int .i64 ((s17.Steps.length : Int))), (78, .int .i64 ((k328 : Int))), (128, .bool (false))]) (hp' := (g207, Cl 28 [.slice A2 (s1.Stations).length c3, .slice A5 (s1.Sections).length c6, .slice A8 (s1.Links).length c9, .slice A11 (s1.Signals).length c12, .slice A14 (s1.Gates).length c15]) :: (g208, Cl 72 [.int .i64 (s17.From), .int .i64 (s17.To), .slice A18 (s17.Steps).length c19]) :: (g234, Cl 64 [.int .i64 (x224.Section), .int .i64 (x224.End)]) :: R) ⟨rfl, rfl, rfl, rfl, rfl, rfl, rfl, trivial⟩ (.cons_cons _ (.cons_cons _ (.cons_cons _ (.cons _ (.refl _))))) ⟨rfl, rfl, (Base.Le.refl _)⟩
            ·
             rw [if_neg hc363] at hm
             refine t_yes 117 rfl rfl rfl ?_
             refine t_st rfl (st_move rfl) ?_
             refine t_no 120 rfl rfl rfl rfl rfl ?_
             refine t_yes 117 rfl rfl rfl ?_
             refine t_st rfl (st_pick_f rfl rfl) ?_
             refine t_yes 117 rfl rfl rfl ?_
             refine t_st rfl (st_move rfl) ?_
             refine t_no 123 rfl rfl rfl rfl rfl ?_
             refine t_no 123 rfl rfl rfl rfl rfl ?_
             refine t_no 123 rfl rfl rfl rfl rfl ?_
             refine t_yes 117 rfl rfl rfl ?_
             refine t_st rfl (st_pick_f rfl rfl) ?_
             refine t_st rfl (st_pick_f rfl rfl) ?_
             refine t_nil ?_
             obtain rfl := some1 hm
             refine x_pullb 3 rfl ?_
             refine x_pullb 3 rfl ?_
             refine x_pullb 3 rfl ?_
             exact x_join (e' := [(2, .pointer (some ⟨g207, 0, none⟩)), (3, .pointer (some ⟨g208, 0, none⟩)), (5, .pointer (some ⟨g234, 0, none⟩)), (76, .slice A18 (s17.Steps).length c19), (77, .int .i64 ((s17.Steps.length : Int))), (78, .int .i64 ((k328 : Int))), (128, .bool (false))]) (hp' := (g207, Cl 28 [.slice A2 (s1.Stations).length c3, .slice A5 (s1.Sections).length c6, .slice A8 (s1.Links).length c9, .slice A11 (s1.Signals).length c12, .slice A14 (s1.Gates).length c15]) :: (g208, Cl 72 [.int .i64 (s17.From), .int .i64 (s17.To), .slice A18 (s17.Steps).length c19]) :: (g234, Cl 64 [.int .i64 (x224.Section), .int .i64 (x224.End)]) :: R) ⟨rfl, rfl, rfl, rfl, rfl, rfl, rfl, trivial⟩ (.cons_cons _ (.cons_cons _ (.cons_cons _ (.cons _ (.refl _))))) ⟨rfl, rfl, (Base.Le.refl _)⟩
          ·
           rw [if_neg hc361] at hm
           refine t_yes 106 rfl rfl rfl ?_
           refine t_st rfl (st_not_f rfl) ?_
           refine t_yes 106 rfl rfl rfl ?_
           refine t_st rfl (st_move rfl) ?_
           refine t_no 109 rfl rfl rfl rfl rfl ?_
           refine t_no 109 rfl rfl rfl rfl rfl ?_
           refine t_no 109 rfl rfl rfl rfl rfl ?_
           refine t_no 109 rfl rfl rfl rfl rfl ?_
           refine t_yes 106 rfl rfl rfl ?_
           refine t_st rfl (st_pick_t rfl rfl) ?_
           refine t_yes 103 rfl rfl rfl ?_
           refine t_st rfl (st_pick_t rfl rfl) ?_
           refine t_st rfl (st_pick_f rfl rfl) ?_
           refine t_st rfl (st_move rfl) ?_
           refine t_no 117 rfl rfl rfl rfl rfl ?_
           refine t_no 117 rfl rfl rfl rfl rfl ?_
           refine t_no 117 rfl rfl rfl rfl rfl ?_
           refine t_no 120 rfl rfl rfl rfl rfl ?_
           refine t_no 117 rfl rfl rfl rfl rfl ?_
           refine t_no 117 rfl rfl rfl rfl rfl ?_
           refine t_no 123 rfl rfl rfl rfl rfl ?_
           refine t_no 123 rfl rfl rfl rfl rfl ?_
           refine t_no 123 rfl rfl rfl rfl rfl ?_
           refine t_no 117 rfl rfl rfl rfl rfl ?_
           refine t_st rfl (st_pick_t rfl rfl) ?_
           refine t_nil ?_
           obtain rfl := some1 hm
           refine x_pullb 3 rfl ?_
           refine x_pullb 3 rfl ?_
           refine x_pullb 3 rfl ?_
           exact x_join (e' := [(2, .pointer (some ⟨g207, 0, none⟩)), (3, .pointer (some ⟨g208, 0, none⟩)), (5, .pointer (some ⟨g234, 0, none⟩)), (76, .slice A18 (s17.Steps).length c19), (77, .int .i64 ((s17.Steps.length : Int))), (78, .int .i64 ((k328 : Int))), (128, .bool (true))]) (hp' := (g207, Cl 28 [.slice A2 (s1.Stations).length c3, .slice A5 (s1.Sections).length c6, .slice A8 (s1.Links).length c9, .slice A11 (s1.Signals).length c12, .slice A14 (s1.Gates).length c15]) :: (g208, Cl 72 [.int .i64 (s17.From), .int .i64 (s17.To), .slice A18 (s17.Steps).length c19]) :: (g234, Cl 64 [.int .i64 (x224.Section), .int .i64 (x224.End)]) :: R) ⟨rfl, rfl, rfl, rfl, rfl, rfl, rfl, trivial⟩ (.cons_cons _ (.cons_cons _ (.cons_cons _ (.cons _ (.refl _))))) ⟨rfl, rfl, (Base.Le.refl _)⟩
         ·
          rw [if_neg hc360] at hm
          refine t_yes 103 rfl rfl rfl ?_
          refine t_st rfl (st_move rfl) ?_
          refine t_no 106 rfl rfl rfl rfl rfl ?_
          refine t_no 106 rfl rfl rfl rfl rfl ?_
          refine t_no 106 rfl rfl rfl rfl rfl ?_
          refine t_no 109 rfl rfl rfl rfl rfl ?_
          refine t_no 109 rfl rfl rfl rfl rfl ?_
          refine t_no 109 rfl rfl rfl rfl rfl ?_
          refine t_no 109 rfl rfl rfl rfl rfl ?_
          refine t_no 106 rfl rfl rfl rfl rfl ?_
          refine t_yes 103 rfl rfl rfl ?_
          refine t_st rfl (st_pick_f rfl rfl) ?_
          refine t_st rfl (st_pick_f rfl rfl) ?_
          refine t_st rfl (st_move rfl) ?_
          refine t_yes 117 rfl rfl rfl ?_
          refine t_st rfl (st_move rfl) ?_
          refine t_yes 117 rfl rfl rfl ?_
          refine t_bool rfl (st_neq rfl rfl) (fun hc365 => ?_) (fun hc365 => ?_)
          ·
           rw [if_pos hc365] at hm
           refine t_yes 117 rfl rfl rfl ?_
           refine t_st rfl (st_move rfl) ?_
           refine t_yes 120 rfl rfl rfl ?_
           refine t_bool rfl (st_move rfl) (fun hc366 => ?_) (fun hc366 => ?_)
           ·
            rw [if_pos hc366] at hm
            refine t_yes 117 rfl rfl rfl ?_
            refine t_st rfl (st_pick_t rfl rfl) ?_
            refine t_yes 117 rfl rfl rfl ?_
            refine t_st rfl (st_move rfl) ?_
            refine t_yes 123 rfl rfl rfl ?_
            refine t_st rfl (st_field rfl fld72_1) ?_
            refine t_yes 123 rfl rfl rfl ?_
            refine t_st rfl (st_load 2 rfl one3 rfl rfl) ?_
            refine t_yes 123 rfl rfl rfl ?_
            refine t_st rfl (st_neq rfl rfl) ?_
            refine t_yes 117 rfl rfl rfl ?_
            refine t_st rfl (st_pick_t rfl rfl) ?_
            refine t_st rfl (st_pick_f rfl rfl) ?_
            refine t_nil ?_
            obtain rfl := some1 hm
            refine x_pullb 3 rfl ?_
            refine x_pullb 3 rfl ?_
            refine x_pullb 3 rfl ?_
            exact x_join (e' := [(2, .pointer (some ⟨g207, 0, none⟩)), (3, .pointer (some ⟨g208, 0, none⟩)), (5, .pointer (some ⟨g234, 0, none⟩)), (76, .slice A18 (s17.Steps).length c19), (77, .int .i64 ((s17.Steps.length : Int))), (78, .int .i64 ((k328 : Int))), (128, .bool (decide (s17.To ≠ (-1))))]) (hp' := (g207, Cl 28 [.slice A2 (s1.Stations).length c3, .slice A5 (s1.Sections).length c6, .slice A8 (s1.Links).length c9, .slice A11 (s1.Signals).length c12, .slice A14 (s1.Gates).length c15]) :: (g208, Cl 72 [.int .i64 (s17.From), .int .i64 (s17.To), .slice A18 (s17.Steps).length c19]) :: (g234, Cl 64 [.int .i64 (x224.Section), .int .i64 (x224.End)]) :: R) ⟨rfl, rfl, rfl, rfl, rfl, rfl, rfl, trivial⟩ (.cons_cons _ (.cons_cons _ (.cons_cons _ (.cons _ (.refl _))))) ⟨rfl, rfl, (Base.Le.refl _)⟩
           ·
            rw [if_neg hc366] at hm
            refine t_yes 117 rfl rfl rfl ?_
            refine t_st rfl (st_pick_t rfl rfl) ?_
            refine t_yes 117 rfl rfl rfl ?_
            refine t_st rfl (st_move rfl) ?_
            refine t_no 123 rfl rfl rfl rfl rfl ?_
            refine t_no 123 rfl rfl rfl rfl rfl ?_
            refine t_no 123 rfl rfl rfl rfl rfl ?_
            refine t_yes 117 rfl rfl rfl ?_
            refine t_st rfl (st_pick_f rfl rfl) ?_
            refine t_st rfl (st_pick_f rfl rfl) ?_
            refine t_nil ?_
            obtain rfl := some1 hm
            refine x_pullb 3 rfl ?_
            refine x_pullb 3 rfl ?_
            refine x_pullb 3 rfl ?_
            exact x_join (e' := [(2, .pointer (some ⟨g207, 0, none⟩)), (3, .pointer (some ⟨g208, 0, none⟩)), (5, .pointer (some ⟨g234, 0, none⟩)), (76, .slice A18 (s17.Steps).length c19), (77, .int .i64 ((s17.Steps.length : Int))), (78, .int .i64 ((k328 : Int))), (128, .bool (false))]) (hp' := (g207, Cl 28 [.slice A2 (s1.Stations).length c3, .slice A5 (s1.Sections).length c6, .slice A8 (s1.Links).length c9, .slice A11 (s1.Signals).length c12, .slice A14 (s1.Gates).length c15]) :: (g208, Cl 72 [.int .i64 (s17.From), .int .i64 (s17.To), .slice A18 (s17.Steps).length c19]) :: (g234, Cl 64 [.int .i64 (x224.Section), .int .i64 (x224.End)]) :: R) ⟨rfl, rfl, rfl, rfl, rfl, rfl, rfl, trivial⟩ (.cons_cons _ (.cons_cons _ (.cons_cons _ (.cons _ (.refl _))))) ⟨rfl, rfl, (Base.Le.refl _)⟩
          ·
           rw [if_neg hc365] at hm
           refine t_yes 117 rfl rfl rfl ?_
           refine t_st rfl (st_move rfl) ?_
           refine t_no 120 rfl rfl rfl rfl rfl ?_
           refine t_yes 117 rfl rfl rfl ?_
           refine t_st rfl (st_pick_f rfl rfl) ?_
           refine t_yes 117 rfl rfl rfl ?_
           refine t_st rfl (st_move rfl) ?_
           refine t_no 123 rfl rfl rfl rfl rfl ?_
           refine t_no 123 rfl rfl rfl rfl rfl ?_
           refine t_no 123 rfl rfl rfl rfl rfl ?_
           refine t_yes 117 rfl rfl rfl ?_
           refine t_st rfl (st_pick_f rfl rfl) ?_
           refine t_st rfl (st_pick_f rfl rfl) ?_
           refine t_nil ?_
           obtain rfl := some1 hm
           refine x_pullb 3 rfl ?_
           refine x_pullb 3 rfl ?_
           refine x_pullb 3 rfl ?_
           exact x_join (e' := [(2, .pointer (some ⟨g207, 0, none⟩)), (3, .pointer (some ⟨g208, 0, none⟩)), (5, .pointer (some ⟨g234, 0, none⟩)), (76, .slice A18 (s17.Steps).length c19), (77, .int .i64 ((s17.Steps.length : Int))), (78, .int .i64 ((k328 : Int))), (128, .bool (false))]) (hp' := (g207, Cl 28 [.slice A2 (s1.Stations).length c3, .slice A5 (s1.Sections).length c6, .slice A8 (s1.Links).length c9, .slice A11 (s1.Signals).length c12, .slice A14 (s1.Gates).length c15]) :: (g208, Cl 72 [.int .i64 (s17.From), .int .i64 (s17.To), .slice A18 (s17.Steps).length c19]) :: (g234, Cl 64 [.int .i64 (x224.Section), .int .i64 (x224.End)]) :: R) ⟨rfl, rfl, rfl, rfl, rfl, rfl, rfl, trivial⟩ (.cons_cons _ (.cons_cons _ (.cons_cons _ (.cons _ (.refl _))))) ⟨rfl, rfl, (Base.Le.refl _)⟩
       ·
        rintro b355 _ _ ⟨rfl, rfl, hle356⟩
        have hm := hk358
        refine c_cond _ rfl (fun hc367 => ?_) (fun hc367 => ?_)
        ·
         rw [if_pos hc367] at hm
         refine c_seq ?_
         refine c_region ?_
         refine t_st rfl (st_assign rfl) ?_
         refine t_nil ?_
         refine x_then_normal ?_
         refine c_ret ?_
         refine x_block_ret ?_
         refine x_then_ret ?_
         refine x_then_ret ?_
         refine x_block_ret ?_
         refine x_then_ret ?_
         have hq368 := houtL288 _ (Option.some.inj hm).symm
         rw [hq368] at hk331
         have hm := elimR hk331
         obtain rfl := some1 hm
         exact retM (rs := [.tmp 4]) [.bool (false)] (hle215.trans (hle262.trans (hle327.trans hle356))) (by decide) rfl ⟨rfl, trivial⟩ rfl (hp' := R) (.cons _ (.cons _ (.cons _ (.refl _)))) ⟨rfl, rfl⟩
        ·
         rw [if_neg (fun hh => Bool.noConfusion (hh.symm.trans hc367))] at hm
         refine c_skip ?_
         refine x_block_normal ?_
         refine x_then_normal ?_
         refine c_region ?_
         refine t_st rfl (st_add rfl rfl (by omega)) ?_
         refine t_st rfl (st_move rfl) ?_
         refine t_nil ?_
         refine x_pullb 2 rfl ?_
         refine x_pullb 2 rfl ?_
         refine x_pullb 2 rfl ?_
         exact x_againM () (Option.some.inj hm).symm (e' := [(2, .pointer (some ⟨g207, 0, none⟩)), (3, .pointer (some ⟨g208, 0, none⟩)), (5, .pointer (some ⟨g234, 0, none⟩)), (76, .slice A18 (s17.Steps).length c19), (77, .int .i64 ((s17.Steps.length : Int))), (78, .int .i64 ((k328 : Int) + 1))]) (hp' := (g207, Cl 28 [.slice A2 (s1.Stations).length c3, .slice A5 (s1.Sections).length c6, .slice A8 (s1.Links).length c9, .slice A11 (s1.Signals).length c12, .slice A14 (s1.Gates).length c15]) :: (g208, Cl 72 [.int .i64 (s17.From), .int .i64 (s17.To), .slice A18 (s17.Steps).length c19]) :: (g234, Cl 64 [.int .i64 (x224.Section), .int .i64 (x224.End)]) :: R) ⟨rfl, rfl, rfl, rfl, rfl, rfl, trivial⟩ (.cons_cons _ (.cons_cons _ (.cons_cons _ (.refl _)))) ⟨rfl, rfl, ((hle327.trans hle356))⟩
      ·
       rintro _ b326 _ _ ⟨rfl, rfl, hle327⟩ hq369
       rw [hq369] at hk331
       have hm := elimL hk331
       refine c_seq ?_
       refine c_region ?_
       refine t_st rfl (st_lss_f rfl rfl (by omega)) ?_
       refine t_nil ?_
       refine x_then_normal ?_
       refine c_seq ?_
       refine c_cond_f rfl ?_
       refine c_exit ?_
       refine x_then_exit ?_
       refine x_then_exit ?_
       refine x_block_out ?_
       refine x_then_normal ?_
       refine c_seq ?_
       refine c_region ?_
       refine t_st rfl (st_field rfl fld72_2) ?_
       refine t_st rfl (st_load 1 rfl one29 rfl rfl) ?_
       refine t_st rfl (st_field rfl fld72_2) ?_
       refine t_st rfl (st_load 1 rfl one29 rfl rfl) ?_
       refine t_st rfl (st_len rfl sl29) ?_
       obtain ⟨_, h370, hm⟩ := bindS hm
       have h370 := (chk_some h370).2
       refine t_st rfl (st_sub rfl rfl h370) ?_
       obtain ⟨x371, h372, hm⟩ := bindS hm
       obtain ⟨j373, hj374, hx375⟩ := idx_some h372
       obtain ⟨cs376, hr377, hcs378, hA379, hlt380⟩ := FZ.get (sz := 3) rfl (by decide) (h20.le (hle215.trans (hle262.trans hle327))) hx375
       obtain ⟨_, _, rfl, rfl, ⟨_, _, rfl, rfl, rfl⟩⟩ := hr377
       refine t_st rfl (st_index_old j373 rfl rfl hj374 hlt380 hA379 sl29) ?_
       refine t_st rfl (st_loadN_old (vs := [.int .i64 (x371.Section), .int .i64 (x371.In), .int .i64 (x371.Out)]) 3 rfl agg43 hA379 rfl (fun j u hu => hcs378 j u hu)) ?_
       refine t_do rfl (u_alloc [.int .i64 0, .int .i64 0, .int .i64 0] zero43 rfl) ?_
       rintro _ _ ⟨g381, rfl, rfl⟩
       refine t_do rfl (u_storeN (vs := [_, _, _]) 0 3 rfl rfl rfl siz43 rfl (by intro u hu; simp only [List.mem_cons, List.not_mem_nil, or_false] at hu; rcases hu with rfl | rfl | rfl <;> rfl) rfl (by simp)) ?_
       rintro _ _ rfl
       refine t_nil ?_
       refine x_then_normal ?_
       refine c_seq ?_
       refine c_region ?_
       refine t_st rfl (st_loadD (vs := [_, _, _, _, _]) 1 5 rfl agg28 rfl rfl rfl) ?_
       refine t_st rfl (st_field rfl fld43_0) ?_
       refine t_st rfl (st_load 0 rfl one3 rfl rfl) ?_
       refine t_st rfl (st_field rfl fld43_2) ?_
       refine t_st rfl (st_load 0 rfl one3 rfl rfl) ?_
       obtain ⟨⟨x382, x383, x384⟩, hcl385, hm⟩ := bindS hm
       have hm := (unc3E hm)
       refine t_do rfl (u_callW0 _ call44 rfl (fun w ho => cLineNext _ [] s1 x371.Section x371.Out A2 c3 A5 c6 A8 c9 A11 c12 A14 c15 ((h4.le (hle215.trans (hle262.trans hle327))).old ho) ((h7.le (hle215.trans (hle262.trans hle327))).old ho) ((h10.le (hle215.trans (hle262.trans hle327))).old ho) ((h13.le (hle215.trans (hle262.trans hle327))).old ho) ((h16.le (hle215.trans (hle262.trans hle327))).old ho) x382 x383 x384 hcl385) (fun _ _ _ h => h.2.symm)) ?_
       rintro _ _ ⟨⟨_, rfl, _⟩, rfl⟩
       refine t_st rfl (st_move rfl) ?_
       refine t_st rfl (st_extract rfl rfl) ?_
       refine t_st rfl (st_extract rfl rfl) ?_
       refine t_st rfl (st_extract rfl rfl) ?_
       refine t_st rfl (st_assign rfl) ?_
       refine t_nil ?_
       refine x_then_normal ?_
       obtain ⟨x389, hj390, hk390⟩ := bindS hm
       refine c_join (fun b387 e' hp' => [(4, .bool (x389))] = e' ∧ R = hp' ∧ b326.Le b387) ?_ ?_
       ·
        have hm := hj390
        refine c_region ?_
        refine t_st rfl (st_field rfl fld72_1) ?_
        refine t_st rfl (st_load 2 rfl one3 rfl rfl) ?_
        refine t_bool rfl (st_geq rfl rfl) (fun hc391 => ?_) (fun hc391 => ?_)
        ·
         rw [if_pos hc391] at hm
         refine t_st rfl (st_move rfl) ?_
         refine t_no 151 rfl rfl rfl rfl rfl ?_
         refine t_no 151 rfl rfl rfl rfl rfl ?_
         refine t_st rfl (st_pick_t rfl rfl) ?_
         refine t_st rfl (st_assign rfl) ?_
         refine t_nil ?_
         obtain rfl := some1 hm
         exact x_join (e' := [(4, .bool (true))]) (hp' := R) ⟨rfl, trivial⟩ (.cons _ (.cons _ (.cons _ (.cons _ (.refl _))))) ⟨rfl, rfl, (Base.Le.refl _)⟩
        ·
         rw [if_neg hc391] at hm
         refine t_st rfl (st_move rfl) ?_
         refine t_yes 151 rfl rfl rfl ?_
         refine t_st rfl (st_move rfl) ?_
         refine t_yes 151 rfl rfl rfl ?_
         refine t_st rfl (st_eql rfl rfl) ?_
         refine t_st rfl (st_pick_f rfl rfl) ?_
         refine t_st rfl (st_assign rfl) ?_
         refine t_nil ?_
         obtain rfl := some1 hm
         exact x_join (e' := [(4, .bool (decide (x384 = 9)))]) (hp' := R) ⟨rfl, trivial⟩ (.cons _ (.cons _ (.cons _ (.cons _ (.refl _))))) ⟨rfl, rfl, (Base.Le.refl _)⟩
       ·
        rintro b387 _ _ ⟨rfl, rfl, hle388⟩
        have hm := hk390
        refine c_ret ?_
        obtain rfl := some1 hm
        exact retM (rs := [.tmp 4]) [.bool (x389)] (hle215.trans (hle262.trans (hle327.trans hle388))) (by decide) rfl ⟨rfl, trivial⟩ rfl (hp' := R) (.refl _) ⟨rfl, rfl⟩

set_option maxRecDepth 20000 in
theorem cFishkeep1LineRuns (b : Base) (R : Hp) (s1 : ApiNet) (A2 : Option Addr) (c3 : Nat) (A5 : Option Addr) (c6 : Nat) (A8 : Option Addr) (c9 : Nat) (A11 : Option Addr) (c12 : Nat) (A14 : Option Addr) (c15 : Nat) (h4 : FZ RT.str b.w A2 c3 s1.Stations) (h7 : FZ rApiSection b.w A5 c6 s1.Sections) (h10 : FZ rApiLink b.w A8 c9 s1.Links) (h13 : FZ rApiSignal b.w A11 c12 s1.Signals) (h16 : FZ rApiGate b.w A14 c15 s1.Gates) (x284 : Bool) (hm : mFishkeep1LineRuns s1 = some x284) :
    CallsG Tryd.prog 6 [.agg #[.slice A2 (s1.Stations).length c3, .slice A5 (s1.Sections).length c6, .slice A8 (s1.Links).length c9, .slice A11 (s1.Signals).length c12, .slice A14 (s1.Gates).length c15]] b (R) (fun v b' hp' => .bool (x284) = v ∧ R = hp') := by
  refine fn_enterG 46 Tryd.func6 rfl Tryd.ntmps6 rfl ?_
  unfold mFishkeep1LineRuns at hm
  refine c_seq ?_
  refine c_region ?_
  refine t_do rfl (u_box _ rfl rfl) ?_
  rintro _ _ ⟨g285, rfl, rfl⟩
  refine t_st rfl (st_assign rfl) ?_
  refine t_nil ?_
  refine x_then_normal ?_
  refine c_seq ?_
  refine c_seq ?_
  refine c_region ?_
  obtain ⟨x286, hcl287, hm⟩ := bindS hm
  refine t_do rfl (u_callW0 _ call7 rfl (fun w ho => cFishkeep1AwakeLine _ [] x286 hcl287) (fun _ _ _ h => h.2.symm)) ?_
  rintro _ _ ⟨⟨_, rfl, _⟩, rfl⟩
  refine t_st rfl (st_not rfl) ?_
  refine t_nil ?_
  refine x_then_normal ?_
  refine c_cond _ rfl (fun hc288 => ?_) (fun hc288 => ?_)
  ·
   rw [if_neg (fun hh => Bool.noConfusion (hh.symm.trans (notT hc288)))] at hm
   refine c_seq ?_
   refine c_region ?_
   refine t_st rfl (st_assign rfl) ?_
   refine t_nil ?_
   refine x_then_normal ?_
   refine c_ret ?_
   refine x_then_ret ?_
   obtain rfl := some1 hm
   exact retM (rs := [.tmp 2]) [.bool (false)] (Base.Le.refl _) (by decide) rfl ⟨rfl, trivial⟩ rfl (hp' := R) (.cons _ (.refl _)) ⟨rfl, rfl⟩
  ·
   rw [if_pos (notF hc288)] at hm
   refine c_skip ?_
   refine x_then_normal ?_
   refine c_seq ?_
   refine c_region ?_
   refine t_st rfl (st_loadD (vs := [_, _, _, _, _]) 0 5 rfl agg28 rfl rfl rfl) ?_
   obtain ⟨⟨x289, l290⟩, hcl291, hm⟩ := bindS hm
   have hm := (unc2E hm)
   refine t_callG _ rfl call22 rfl (cLineRoutes _ _ s1 A2 c3 A5 c6 A8 c9 A11 c12 A14 c15 h4 h7 h10 h13 h16 x289 l290 hcl291) ?_
   rintro _ b292 _ hle293 ⟨A294, c295, hs296, rfl, rfl, h297, h298⟩
   refine t_in1 [] [_] hs296 R rfl ?_
   refine t_st rfl (st_move rfl) ?_
   refine t_st rfl (st_extract rfl rfl) ?_
   refine t_st rfl (st_extract rfl rfl) ?_
   refine t_st rfl (st_assign rfl) ?_
   refine t_st rfl (st_assign rfl) ?_
   refine t_nil ?_
   refine x_then_normal ?_
   refine c_seq ?_
   refine c_seq ?_
   refine c_region ?_
   refine t_st rfl (st_move rfl) ?_
   refine t_st rfl (st_neq rfl rfl) ?_
   refine t_nil ?_
   refine x_then_normal ?_
   refine c_cond _ rfl (fun hc299 => ?_) (fun hc299 => ?_)
   ·
    rw [if_pos (of_decide_eq_true hc299)] at hm
    refine c_seq ?_
    refine c_region ?_
    refine t_st rfl (st_move rfl) ?_
    refine t_st rfl (st_len rfl sl68) ?_
    refine t_st rfl (st_eql rfl rfl) ?_
    refine t_st rfl (st_assign rfl) ?_
    refine t_nil ?_
    refine x_then_normal ?_
    refine c_ret ?_
    refine x_then_ret ?_
    obtain rfl := some1 hm
    exact retM (rs := [.tmp 2]) [.bool (decide ((l290.length : Int) = 0))] hle293 (by decide) rfl ⟨rfl, trivial⟩ rfl (hp' := R) (.cons _ (sub_skip hs296 (.refl _))) ⟨rfl, rfl⟩
   ·
    rw [if_neg (of_decide_eq_false hc299)] at hm
    refine c_skip ?_
    refine x_then_normal ?_
    refine c_seq ?_
    refine c_seq ?_
    refine c_region ?_
    refine t_st rfl (st_move rfl) ?_
    refine t_st rfl (st_len rfl sl68) ?_
    refine t_st rfl (st_move rfl) ?_
    refine t_nil ?_
    refine x_then_normal ?_
    refine c_block ?_
    have hb301 : l290.length ≤ 9223372036854775807 := (OS.len h297)
    obtain ⟨t426, hl427, hk428⟩ := bindS hm
    refine c_forM (fun k425 => fun _ => fun b423 e' hp' => [(1, .pointer (some ⟨g285, 0, none⟩)), (3, .slice A294 (l290).length c295), (19, .slice A294 (l290).length c295), (20, .int .i64 ((l290.length : Int))), (21, .int .i64 ((k425 : Int)))] = e' ∧ (g285, Cl 28 [.slice A2 (s1.Stations).length c3, .slice A5 (s1.Sections).length c6, .slice A8 (s1.Links).length c9, .slice A11 (s1.Signals).length c12, .slice A14 (s1.Gates).length c15]) :: (hs296 ++ R) = hp' ∧ b292.Le b423) hl427 (e' := [(1, .pointer (some ⟨g285, 0, none⟩)), (3, .slice A294 (l290).length c295), (19, .slice A294 (l290).length c295), (20, .int .i64 ((l290.length : Int))), (21, .int .i64 0)]) (hp' := (g285, Cl 28 [.slice A2 (s1.Stations).length c3, .slice A5 (s1.Sections).length c6, .slice A8 (s1.Links).length c9, .slice A11 (s1.Signals).length c12, .slice A14 (s1.Gates).length c15]) :: (hs296 ++ R)) ⟨rfl, rfl, rfl, rfl, rfl, trivial⟩ (.cons_cons _ (sub_app hs296 (.refl _))) ⟨rfl, rfl, (Base.Le.refl _)⟩ ?_ ?_
    ·
     rintro k425 _ b423 _ _ oL300 hknL300 ⟨rfl, rfl, hle424⟩ hstepL300 houtL300
     unfold mFishkeep1LineRuns_L300 at hstepL300
     have hm := hstepL300
     refine c_seq ?_
     refine c_region ?_
     refine t_st rfl (st_lss_t rfl rfl (by omega)) ?_
     refine t_nil ?_
     refine x_then_normal ?_
     refine c_seq ?_
     refine c_cond_t rfl ?_
     refine c_skip ?_
     refine x_then_normal ?_
     refine c_seq ?_
     refine c_block ?_
     refine c_seq ?_
     refine c_region ?_
     refine t_st rfl (st_move rfl) ?_
     obtain ⟨x429, h430, hm⟩ := bindS hm
     obtain ⟨j431, hj432, hx433⟩ := idx_some h430
     obtain ⟨cs434, hs439, P440, P441, hq442, hr435, hcs436, hA437, hlt438, hb443, hho444⟩ := OS.get (sz := 3) rfl (by decide) (h297.le hle424) hx433
     obtain ⟨⟨_, _, rfl, rfl, ⟨_, _, rfl, rfl, ⟨A445, c446, rfl, h447⟩⟩⟩, rfl⟩ := hr435
     refine t_st rfl (st_index_old j431 rfl rfl hj432 hlt438 hA437 sl68) ?_
     refine t_st rfl (st_loadN_rd (vs := [.int .i64 (x429.From), .int .i64 (x429.To), .slice A445 (x429.Steps).length c446]) 3 rfl agg72 hA437 rfl (fun w ho j u hu => hcs436 w _ ho (.cons _ (List.sublist_append_left _ _)) j u hu)) ?_
     refine t_do rfl (u_alloc [.int .i64 0, .int .i64 0, .slice none 0 0] zero72 rfl) ?_
     rintro _ _ ⟨g448, rfl, rfl⟩
     refine t_st rfl (st_assign rfl) ?_
     refine t_do rfl (u_storeN (vs := [_, _, _]) 0 3 rfl rfl rfl siz72 rfl (by intro u hu; simp only [List.mem_cons, List.not_mem_nil, or_false] at hu; rcases hu with rfl | rfl | rfl <;> rfl) rfl (by simp)) ?_
     rintro _ _ rfl
     refine t_nil ?_
     refine x_then_normal ?_
     obtain ⟨x499, hj500, hk500⟩ := bindS hm
     refine c_join (fun b497 e' hp' => [(1, .pointer (some ⟨g285, 0, none⟩)), (3, .slice A294 (l290).length c295), (19, .slice A294 (l290).length c295), (20, .int .i64 ((l290.length : Int))), (21, .int .i64 ((k425 : Int))), (44, .bool (x499))] = e' ∧ (g285, Cl 28 [.slice A2 (s1.Stations).length c3, .slice A5 (s1.Sections).length c6, .slice A8 (s1.Links).length c9, .slice A11 (s1.Signals).length c12, .slice A14 (s1.Gates).length c15]) :: (hs296 ++ R) = hp' ∧ b423.Le b497) ?_ ?_
     ·
      have hm := hj500
      obtain ⟨x525, hcl526, hm⟩ := bindS hm
      rcases Bool.eq_false_or_eq_true x525 with hc527 | hc527
      ·
       rw [if_pos hc527] at hm
       by_cases hc528 : 0 < (k425 : Int)
       ·
        rw [if_pos hc528] at hm
        obtain ⟨_, h529, hm⟩ := bindS hm
        obtain ⟨x530, h531, hm⟩ := bindS hm
        refine D_drawS ((g448, Cl 72 [.int .i64 (x429.From), .int .i64 (x429.To), .slice A445 (x429.Steps).length c446]) :: (g285, Cl 28 [.slice A2 (s1.Stations).length c3, .slice A5 (s1.Sections).length c6, .slice A8 (s1.Links).length c9, .slice A11 (s1.Signals).length c12, .slice A14 (s1.Gates).length c15]) :: (hs296 ++ R)) mixed ?_
        refine E_in (.cons_cons _ (.cons_cons _ (sub_app hs296 (.refl _)))) ?_
        refine E_st 0 rfl (st_loadD (vs := [_, _, _, _, _]) 1 5 rfl agg28 rfl rfl rfl) ?_
        refine E_st 1 rfl (st_loadD (vs := [_, _, _]) 0 3 rfl agg72 rfl rfl rfl) ?_
        refine E_out ?_
        refine D_all [2] (by kernel_rfl) rfl ?_
        refine R_do (Base.Le.refl _) rfl rfl (u_callW0 _ call23 rfl (fun w ho => cFishkeep1RouteRuns _ [] s1 x429 A2 c3 A5 c6 A8 c9 A11 c12 A14 c15 A445 c446 ((h4.le (hle293.trans hle424)).old ho) ((h7.le (hle293.trans hle424)).old ho) ((h10.le (hle293.trans hle424)).old ho) ((h13.le (hle293.trans hle424)).old ho) ((h16.le (hle293.trans hle424)).old ho) (h447.old ho) x525 hcl526) (fun _ _ _ h => h.2.symm)) ?_ ?_
        ·
         rintro _ _ ⟨⟨_, rfl, _⟩, rfl⟩
         refine ⟨.inr (.cons_cons _ (.cons_cons _ (sub_app hs296 (.refl _)))), ?_⟩
         refine d_resp 28 rfl (v' := .bool true) (by rw [hc527]) ?_
         refine E_in (.cons_cons _ (.cons_cons _ (sub_app hs296 (.refl _)))) ?_
         refine E_st 3 rfl (st_not_t rfl) ?_
         refine E_st 4 rfl (st_move rfl) ?_
         refine E_yes 5 30 rfl (st_move rfl) ?_
         refine E_yes 6 30 rfl (st_gtr_t rfl rfl hc528) ?_
         refine E_yes 7 30 rfl (st_move rfl) ?_
         refine E_yes 8 33 rfl (st_move rfl) ?_
         refine E_yes 9 33 rfl (st_move rfl) ?_
         have h529 := (chk_some h529).2
         refine E_yes 10 33 rfl (st_sub rfl rfl h529) ?_
         obtain ⟨j532, hj533, hx534⟩ := idx_some h531
         obtain ⟨cs535, hs540, P541, P542, hq543, hr536, hcs537, hA538, hlt539, hb544, hho545⟩ := OS.get (sz := 3) rfl (by decide) (h297.le hle424) hx534
         obtain ⟨⟨_, _, rfl, rfl, ⟨_, _, rfl, rfl, ⟨A546, c547, rfl, h548⟩⟩⟩, rfl⟩ := hr536
         refine E_yes 11 33 rfl (st_index_old j532 rfl rfl hj533 hlt539 hA538 sl68) ?_
         refine E_yes 12 33 rfl (st_field_old rfl hA538 fld72_0) ?_
         refine E_yes 13 33 rfl (st_load_rd rfl one3 (fun w ho => hcs537 w _ ho (.cons _ (.cons _ (List.sublist_append_left _ _))) 0 _ rfl)) ?_
         refine E_yes 14 33 rfl (st_field rfl fld72_0) ?_
         refine E_yes 15 33 rfl (st_load 0 rfl one3 rfl rfl) ?_
         refine E_yes 16 33 rfl (st_gtr rfl rfl) ?_
         refine E_yes 17 30 rfl (st_pick_t rfl rfl) ?_
         refine E_st 18 rfl (st_pick_f rfl rfl) ?_
         refine E_out ?_
         refine D_done (by kernel_rfl) ?_
         obtain rfl := some1 hm
         refine x_pullb 1 rfl ?_
         exact x_join (e' := [(1, .pointer (some ⟨g285, 0, none⟩)), (3, .slice A294 (l290).length c295), (19, .slice A294 (l290).length c295), (20, .int .i64 ((l290.length : Int))), (21, .int .i64 ((k425 : Int))), (44, .bool (decide (x429.From < x530.From)))]) (hp' := (g285, Cl 28 [.slice A2 (s1.Stations).length c3, .slice A5 (s1.Sections).length c6, .slice A8 (s1.Links).length c9, .slice A11 (s1.Signals).length c12, .slice A14 (s1.Gates).length c15]) :: (hs296 ++ R)) ⟨rfl, rfl, rfl, rfl, rfl, rfl, trivial⟩ (.cons_cons _ (.cons _ (sub_app hs296 (.refl _)))) ⟨rfl, rfl, (Base.Le.refl _)⟩
        exact R_nil
       ·
        rw [if_neg hc528] at hm
        refine D_drawS ((g448, Cl 72 [.int .i64 (x429.From), .int .i64 (x429.To), .slice A445 (x429.Steps).length c446]) :: (g285, Cl 28 [.slice A2 (s1.Stations).length c3, .slice A5 (s1.Sections).length c6, .slice A8 (s1.Links).length c9, .slice A11 (s1.Signals).length c12, .slice A14 (s1.Gates).length c15]) :: (hs296 ++ R)) mixed ?_
        refine E_in (.cons_cons _ (.cons_cons _ (sub_app hs296 (.refl _)))) ?_
        refine E_st 0 rfl (st_loadD (vs := [_, _, _, _, _]) 1 5 rfl agg28 rfl rfl rfl) ?_
        refine E_st 1 rfl (st_loadD (vs := [_, _, _]) 0 3 rfl agg72 rfl rfl rfl) ?_
        refine E_out ?_
        refine D_all [2] (by kernel_rfl) rfl ?_
        refine R_do (Base.Le.refl _) rfl rfl (u_callW0 _ call23 rfl (fun w ho => cFishkeep1RouteRuns _ [] s1 x429 A2 c3 A5 c6 A8 c9 A11 c12 A14 c15 A445 c446 ((h4.le (hle293.trans hle424)).old ho) ((h7.le (hle293.trans hle424)).old ho) ((h10.le (hle293.trans hle424)).old ho) ((h13.le (hle293.trans hle424)).old ho) ((h16.le (hle293.trans hle424)).old ho) (h447.old ho) x525 hcl526) (fun _ _ _ h => h.2.symm)) ?_ ?_
        ·
         rintro _ _ ⟨⟨_, rfl, _⟩, rfl⟩
         refine ⟨.inr (.cons_cons _ (.cons_cons _ (sub_app hs296 (.refl _)))), ?_⟩
         refine d_resp 28 rfl (v' := .bool true) (by rw [hc527]) ?_
         refine E_in (.cons_cons _ (.cons_cons _ (sub_app hs296 (.refl _)))) ?_
         refine E_st 3 rfl (st_not_t rfl) ?_
         refine E_st 4 rfl (st_move rfl) ?_
         refine E_yes 5 30 rfl (st_move rfl) ?_
         refine E_yes 6 30 rfl (st_gtr_f rfl rfl hc528) ?_
         refine E_yes 7 30 rfl (st_move rfl) ?_
         refine E_no 8 33 rfl rfl rfl ?_
         refine E_no 9 33 rfl rfl rfl ?_
         refine E_no 10 33 rfl rfl rfl ?_
         refine E_no 11 33 rfl rfl rfl ?_
         refine E_no 12 33 rfl rfl rfl ?_
         refine E_no 13 33 rfl rfl rfl ?_
         refine E_no 14 33 rfl rfl rfl ?_
         refine E_no 15 33 rfl rfl rfl ?_
         refine E_no 16 33 rfl rfl rfl ?_
         refine E_yes 17 30 rfl (st_pick_f rfl rfl) ?_
         refine E_st 18 rfl (st_pick_f rfl rfl) ?_
         refine E_out ?_
         refine D_done (by kernel_rfl) ?_
         obtain rfl := some1 hm
         refine x_pullb 1 rfl ?_
         exact x_join (e' := [(1, .pointer (some ⟨g285, 0, none⟩)), (3, .slice A294 (l290).length c295), (19, .slice A294 (l290).length c295), (20, .int .i64 ((l290.length : Int))), (21, .int .i64 ((k425 : Int))), (44, .bool (false))]) (hp' := (g285, Cl 28 [.slice A2 (s1.Stations).length c3, .slice A5 (s1.Sections).length c6, .slice A8 (s1.Links).length c9, .slice A11 (s1.Signals).length c12, .slice A14 (s1.Gates).length c15]) :: (hs296 ++ R)) ⟨rfl, rfl, rfl, rfl, rfl, rfl, trivial⟩ (.cons_cons _ (.cons _ (sub_app hs296 (.refl _)))) ⟨rfl, rfl, (Base.Le.refl _)⟩
        exact R_nil
      ·
       rw [if_neg (fun hh => Bool.noConfusion (hh.symm.trans hc527))] at hm
       refine D_drawS ((g448, Cl 72 [.int .i64 (x429.From), .int .i64 (x429.To), .slice A445 (x429.Steps).length c446]) :: (g285, Cl 28 [.slice A2 (s1.Stations).length c3, .slice A5 (s1.Sections).length c6, .slice A8 (s1.Links).length c9, .slice A11 (s1.Signals).length c12, .slice A14 (s1.Gates).length c15]) :: (hs296 ++ R)) mixed ?_
       refine E_in (.cons_cons _ (.cons_cons _ (sub_app hs296 (.refl _)))) ?_
       refine E_st 0 rfl (st_loadD (vs := [_, _, _, _, _]) 1 5 rfl agg28 rfl rfl rfl) ?_
       refine E_st 1 rfl (st_loadD (vs := [_, _, _]) 0 3 rfl agg72 rfl rfl rfl) ?_
       refine E_out ?_
       refine D_all [2] (by kernel_rfl) rfl ?_
       refine R_do (Base.Le.refl _) rfl rfl (u_callW0 _ call23 rfl (fun w ho => cFishkeep1RouteRuns _ [] s1 x429 A2 c3 A5 c6 A8 c9 A11 c12 A14 c15 A445 c446 ((h4.le (hle293.trans hle424)).old ho) ((h7.le (hle293.trans hle424)).old ho) ((h10.le (hle293.trans hle424)).old ho) ((h13.le (hle293.trans hle424)).old ho) ((h16.le (hle293.trans hle424)).old ho) (h447.old ho) x525 hcl526) (fun _ _ _ h => h.2.symm)) ?_ ?_
       ·
        rintro _ _ ⟨⟨_, rfl, _⟩, rfl⟩
        refine ⟨.inr (.cons_cons _ (.cons_cons _ (sub_app hs296 (.refl _)))), ?_⟩
        refine d_resp 28 rfl (v' := .bool false) (by rw [hc527]) ?_
        refine E_in (.cons_cons _ (.cons_cons _ (sub_app hs296 (.refl _)))) ?_
        refine E_st 3 rfl (st_not_f rfl) ?_
        refine E_st 4 rfl (st_move rfl) ?_
        refine E_no 5 30 rfl rfl rfl ?_
        refine E_no 6 30 rfl rfl rfl ?_
        refine E_no 7 30 rfl rfl rfl ?_
        refine E_no 8 33 rfl rfl rfl ?_
        refine E_no 9 33 rfl rfl rfl ?_
        refine E_no 10 33 rfl rfl rfl ?_
        refine E_no 11 33 rfl rfl rfl ?_
        refine E_no 12 33 rfl rfl rfl ?_
        refine E_no 13 33 rfl rfl rfl ?_
        refine E_no 14 33 rfl rfl rfl ?_
        refine E_no 15 33 rfl rfl rfl ?_
        refine E_no 16 33 rfl rfl rfl ?_
        refine E_no 17 30 rfl rfl rfl ?_
        refine E_st 18 rfl (st_pick_t rfl rfl) ?_
        refine E_out ?_
        refine D_done (by kernel_rfl) ?_
        obtain rfl := some1 hm
        refine x_pullb 1 rfl ?_
        exact x_join (e' := [(1, .pointer (some ⟨g285, 0, none⟩)), (3, .slice A294 (l290).length c295), (19, .slice A294 (l290).length c295), (20, .int .i64 ((l290.length : Int))), (21, .int .i64 ((k425 : Int))), (44, .bool (true))]) (hp' := (g285, Cl 28 [.slice A2 (s1.Stations).length c3, .slice A5 (s1.Sections).length c6, .slice A8 (s1.Links).length c9, .slice A11 (s1.Signals).length c12, .slice A14 (s1.Gates).length c15]) :: (hs296 ++ R)) ⟨rfl, rfl, rfl, rfl, rfl, rfl, trivial⟩ (.cons_cons _ (.cons _ (sub_app hs296 (.refl _)))) ⟨rfl, rfl, (Base.Le.refl _)⟩
       exact R_nil
     ·
      rintro b497 _ _ ⟨rfl, rfl, hle498⟩
      have hm := hk500
      refine c_cond _ rfl (fun hc549 => ?_) (fun hc549 => ?_)
      ·
       rw [if_pos hc549] at hm
       refine c_seq ?_
       refine c_region ?_
       refine t_st rfl (st_assign rfl) ?_
       refine t_nil ?_
       refine x_then_normal ?_
       refine c_ret ?_
       refine x_block_ret ?_
       refine x_then_ret ?_
       refine x_then_ret ?_
       refine x_block_ret ?_
       refine x_then_ret ?_
       have hq550 := houtL300 _ (Option.some.inj hm).symm
       rw [hq550] at hk428
       have hm := elimR hk428
       obtain rfl := some1 hm
       exact retM (rs := [.tmp 2]) [.bool (false)] (hle293.trans (hle424.trans hle498)) (by decide) rfl ⟨rfl, trivial⟩ rfl (hp' := R) (.cons _ (sub_skip hs296 (.refl _))) ⟨rfl, rfl⟩
      ·
       rw [if_neg (fun hh => Bool.noConfusion (hh.symm.trans hc549))] at hm
       refine c_skip ?_
       refine x_block_normal ?_
       refine x_then_normal ?_
       refine c_region ?_
       refine t_st rfl (st_add rfl rfl (by omega)) ?_
       refine t_st rfl (st_move rfl) ?_
       refine t_nil ?_
       exact x_againM () (Option.some.inj hm).symm (e' := [(1, .pointer (some ⟨g285, 0, none⟩)), (3, .slice A294 (l290).length c295), (19, .slice A294 (l290).length c295), (20, .int .i64 ((l290.length : Int))), (21, .int .i64 ((k425 : Int) + 1))]) (hp' := (g285, Cl 28 [.slice A2 (s1.Stations).length c3, .slice A5 (s1.Sections).length c6, .slice A8 (s1.Links).length c9, .slice A11 (s1.Signals).length c12, .slice A14 (s1.Gates).length c15]) :: (hs296 ++ R)) ⟨rfl, rfl, rfl, rfl, rfl, trivial⟩ (.cons_cons _ (sub_app hs296 (.refl _))) ⟨rfl, rfl, ((hle424.trans hle498))⟩
    ·
     rintro _ b423 _ _ ⟨rfl, rfl, hle424⟩ hq551
     rw [hq551] at hk428
     have hm := elimL hk428
     refine c_seq ?_
     refine c_region ?_
     refine t_st rfl (st_lss_f rfl rfl (by omega)) ?_
     refine t_nil ?_
     refine x_then_normal ?_
     refine c_seq ?_
     refine c_cond_f rfl ?_
     refine c_exit ?_
     refine x_then_exit ?_
     refine x_then_exit ?_
     refine x_block_out ?_
     refine x_then_normal ?_
     refine c_seq ?_
     refine c_region ?_
     refine t_st rfl (st_assign rfl) ?_
     refine t_nil ?_
     refine x_then_normal ?_
     refine c_ret ?_
     obtain rfl := some1 hm
     exact retM (rs := [.tmp 2]) [.bool (true)] (hle293.trans hle424) (by decide) rfl ⟨rfl, trivial⟩ rfl (hp' := R) (.cons _ (sub_skip hs296 (.refl _))) ⟨rfl, rfl⟩

end Go.Proofs.YtcibjjhanafojaaDoor
