/- Contracts: the code computes its model (part 2). -/
import Derived.Test.YtajmocgpjkhjlaaHP1
set_option linter.unusedVariables false
set_option linter.unusedSimpArgs false
namespace Go.Proofs.Ytajmocgpjkhjlaa
open Go.RowKit Go.Fp

set_option maxRecDepth 20000 in
theorem cSlicesSortStableFunc (b : Base) (R : Hp) (l10 : (List FleetTask)) (l11 : (List Int)) (g6 : Nat) (A7 : Option Addr) (c8 : Nat) (A3 : Option Addr) (c4 : Nat) (hs2 : Hp) (h9 : FZ rFleetTask b.w A7 c8 l10) (h5 : OS 3 (OT.fr (RT.int .i64)) b.w (.slice A3 l11.length c4) l11 hs2) (l22 : (List Int)) (hm : mSlicesSortStableFunc l10 l11 = some l22) :
    CallsG Try.prog 79 [.slice A3 (l11).length c4, .func (.func 80) #[] #[.pointer (some ⟨g6, 0, none⟩)]] b ((g6, Cl 22 [.slice A7 (l10).length c8]) :: (hs2 ++ R)) (fun v b' hp' => ∃ (hs20 : Hp), .tuple #[] = v ∧ (g6, Cl 22 [.slice A7 (l10).length c8]) :: (hs20 ++ R) = hp' ∧ OS 3 (OT.fr (RT.int .i64)) b'.w (.slice A3 l22.length c4) l22 hs20 ∧ l22.length = l11.length) := by
  refine fn_enterG 9 Try.func79 rfl Try.ntmps79 rfl ?_
  unfold mSlicesSortStableFunc at hm
  refine c_region ?_
  refine t_mv rfl rfl ?_
  refine t_mv rfl rfl ?_
  refine t_st rfl (st_len rfl sl45) ?_
  refine t_mv rfl rfl ?_
  obtain ⟨l24, hcl25, hm⟩ := bindS hm
  refine t_out1 [_] [] hs2 R rfl ?_
  refine t_callG _ rfl call102 rfl (cSlicesStableCmpFunc _ _ (l11.length : Int) l10 l11 g6 A7 c8 A3 c4 hs2 h9 h5 l24 hcl25) ?_
  rintro _ b26 _ hle27 ⟨hs28, rfl, rfl, h29, h30⟩
  refine t_in1 [_] [] hs28 R rfl ?_
  refine t_nil ?_
  obtain rfl := some1 hm
  exact endM hle27 rfl (.refl _) ⟨hs28, rfl, rfl, h29, (h30.trans rfl)⟩

set_option maxRecDepth 20000 in
theorem cFleetOrder (b : Base) (R : Hp) (l4 : (List FleetTask)) (A1 : Option Addr) (c2 : Nat) (h3 : FZ rFleetTask b.w A1 c2 l4) (l95 : (List Int)) (hm : mFleetOrder l4 = some l95) :
    CallsG Try.prog 44 [.slice A1 (l4).length c2] b (R) (fun v b' hp' => ∃ (A92 : Option Addr), ∃ (c93 : Nat), ∃ (hs91 : Hp), .slice A92 (l95).length c93 = v ∧ (hs91 ++ R) = hp' ∧ OS 3 (OT.fr (RT.int .i64)) b'.w (.slice A92 l95.length c93) l95 hs91) := by
  refine fn_enterG 22 Try.func44 rfl Try.ntmps44 rfl ?_
  unfold mFleetOrder at hm
  refine c_sr ?_
  refine t_do rfl (u_box _ rfl rfl) ?_
  rintro _ _ ⟨g96, rfl, rfl⟩
  refine t_as rfl rfl ?_
  refine t_ne ?_
  refine c_sr ?_
  refine t_st rfl (st_load 0 rfl one22 rfl rfl) ?_
  refine t_st rfl (st_len rfl sl22) ?_
  obtain ⟨m97, h98, hm⟩ := bindS hm
  have h98 := mkLen_some h98
  refine t_do rfl (u_mkOS (r := (RT.int .i64)) [_] R [.int .i64 (0)] 0 m97 rfl h98.1 rfl rfl sl45 inf3 rfl rfl rfl (by decide) rfl h98.2.1 h98.2.2) ?_
  rintro _ _ ⟨hs99, rfl, h100⟩
  obtain ⟨A101, c102, rfl, _⟩ := h100.form
  refine t_as rfl rfl ?_
  refine t_ne ?_
  refine c_seq ?_
  refine c_sr ?_
  refine t_mv rfl rfl ?_
  refine t_st rfl (st_len rfl sl45) ?_
  refine t_mv rfl rfl ?_
  refine t_ne ?_
  refine c_block ?_
  have hb104 : (List.replicate m97 (0 : Int)).length ≤ 9223372036854775807 := (OS.len h100)
  obtain ⟨l151, hl154, hk155⟩ := bindS hm
  refine c_forS (fun k153 => fun l151 => fun b146 e' hp' => ∃ (hs149 : Hp), [(1, .pointer (some ⟨g96, 0, none⟩)), (3, .slice A101 (l151).length c102), (9, .int .i64 (((List.replicate m97 (0 : Int)).length : Int))), (10, .int .i64 ((k153 : Int)))] = e' ∧ (g96, Cl 22 [.slice A1 (l4).length c2]) :: (hs149 ++ R) = hp' ∧ b.Le b146 ∧ OS 3 (OT.fr (RT.int .i64)) b146.w (.slice A101 l151.length c102) l151 hs149 ∧ l151.length = m97) hl154 (e' := [(1, .pointer (some ⟨g96, 0, none⟩)), (3, .slice A101 (List.replicate m97 (0 : Int)).length c102), (9, .int .i64 (((List.replicate m97 (0 : Int)).length : Int))), (10, .int .i64 0)]) ⟨rfl, rfl, rfl, rfl, trivial⟩ (.refl _) ⟨hs99, rfl, rfl, (Base.Le.refl _), h100, List.length_replicate⟩ ?_ ?_
  ·
   rintro k153 l151 b146 _ _ oL103 hknL103 ⟨hs149, rfl, rfl, hle147, h150, hln152⟩ hstepL103
   unfold mFleetOrder_L103 at hstepL103
   have hm := hstepL103
   refine c_sr ?_
   refine t_st rfl (st_lss_t rfl rfl (by omega)) ?_
   refine t_ne ?_
   refine c_seq ?_
   refine c_cond_t rfl ?_
   refine c_skip ?_
   refine x_then_normal ?_
   refine c_seq ?_
   refine c_block ?_
   refine c_sr ?_
   refine t_mv rfl rfl ?_
   refine t_as rfl rfl ?_
   refine t_ne ?_
   refine c_region ?_
   refine t_mv rfl rfl ?_
   refine t_mv rfl rfl ?_
   refine t_mv rfl rfl ?_
   obtain ⟨x156, h157, hm⟩ := bindS hm
   obtain ⟨j158, hj159, hx160⟩ := idx_some h157
   obtain ⟨cs161, hs166, P167, P168, hq169, hr162, hcs163, hA164, hlt165, hb170, hho171⟩ := OS.get (sz := 1) rfl (by decide) h150 hx160
   obtain ⟨rfl, rfl⟩ := hr162
   refine t_st rfl (st_index_old j158 rfl rfl hj159 hlt165 hA164 sl45) ?_
   refine t_do rfl (u_putOS hj159 (sz := 1) (a' := (k153 : Int)) rfl [_] R 0 1 [.int .i64 ((k153 : Int))] rfl h150 hx160 rfl rfl rfl siz3 rfl (mem_c rfl mem_n) (fun cs hsj hh => by obtain ⟨rfl, rfl⟩ := hh; exact ⟨by decide, rfl, rfl⟩)) ?_
   rintro _ _ ⟨hs172, rfl, h173⟩
   refine t_resp 3 rfl (v' := .slice A101 (put l151 (k153 : Int) (k153 : Int)).length c102) (by simp only [put_length]) ?_
   refine t_nil ?_
   refine x_block_normal ?_
   refine x_then_normal ?_
   refine c_region ?_
   refine t_st rfl (st_add rfl rfl (by omega)) ?_
   refine t_mv rfl rfl ?_
   refine t_nil ?_
   obtain rfl := some1 hm
   exact x_againS (e' := [(1, .pointer (some ⟨g96, 0, none⟩)), (3, .slice A101 (put l151 (k153 : Int) (k153 : Int)).length c102), (9, .int .i64 (((List.replicate m97 (0 : Int)).length : Int))), (10, .int .i64 ((k153 : Int) + 1))]) ⟨rfl, rfl, rfl, rfl, trivial⟩ (.refl _) ⟨hs172, rfl, rfl, (hle147), h173, ((put_length _ _ _).trans hln152)⟩
  ·
   rintro b146 _ _ ⟨hs149, rfl, rfl, hle147, h150, hln152⟩
   have hm := hk155
   refine c_sr ?_
   refine t_st rfl (st_lss_f rfl rfl (by omega)) ?_
   refine t_ne ?_
   refine c_seq ?_
   refine c_cond_f rfl ?_
   refine c_exit ?_
   refine x_then_exit ?_
   refine x_then_exit ?_
   refine x_block_out ?_
   refine x_then_normal ?_
   refine c_sr ?_
   refine t_mv rfl rfl ?_
   refine t_st rfl (st_func _ _ rfl rfl) ?_
   obtain ⟨l174, hcl175, hm⟩ := bindS hm
   refine t_out1 [_] [] hs149 R rfl ?_
   refine t_callG _ rfl call79 rfl (cSlicesSortStableFunc _ _ l4 l151 g96 A1 c2 A101 c102 hs149 (h3.le hle147) h150 l174 hcl175) ?_
   rintro _ b176 _ hle177 ⟨hs178, rfl, rfl, h179, h180⟩
   refine t_in1 [_] [] hs178 R rfl ?_
   refine t_resp 3 rfl (v' := .slice A101 (l174).length c102) (by rw [h180]) ?_
   refine t_ne ?_
   refine c_sr ?_
   refine t_mv rfl rfl ?_
   refine t_as rfl rfl ?_
   refine t_ne ?_
   refine c_ret ?_
   obtain rfl := some1 hm
   exact retM (rs := [.tmp 2]) [.slice A101 (l174).length c102] (hle147.trans hle177) (by decide) rfl ⟨rfl, trivial⟩ rfl (.cons _ (.refl _)) ⟨A101, c102, hs178, rfl, rfl, h179⟩

set_option maxRecDepth 20000 in
theorem cFleetFollows (b : Base) (R : Hp) (s1 : FleetTask) (s2 : FleetTask) (x3 : Int) (x14 : Bool) (hm : mFleetFollows s1 s2 x3 = some x14) :
    CallsG Try.prog 45 [.agg #[.int .i64 (s1.From), .int .i64 (s1.To), .int .i64 (s1.Dep), .int .i64 (s1.Arr), .int .i64 (s1.Km), .int .i64 (s1.Units)], .agg #[.int .i64 (s2.From), .int .i64 (s2.To), .int .i64 (s2.Dep), .int .i64 (s2.Arr), .int .i64 (s2.Km), .int .i64 (s2.Units)], .int .i64 (x3)] b (R) (fun v b' hp' => .bool (x14) = v ∧ R = hp') := by
  refine fn_enterG 21 Try.func45 rfl Try.ntmps45 rfl ?_
  unfold mFleetFollows at hm
  refine c_sr ?_
  refine t_do rfl (u_box _ rfl rfl) ?_
  rintro _ _ ⟨g15, rfl, rfl⟩
  refine t_do rfl (u_box _ rfl rfl) ?_
  rintro _ _ ⟨g16, rfl, rfl⟩
  refine t_as rfl rfl ?_
  refine t_ne ?_
  obtain ⟨x21, hj22, hk22⟩ := bindS hm
  refine c_join (fun b19 e' hp' => [(6, .bool (x21))] = e' ∧ R = hp' ∧ b.Le b19) ?_ ?_
  ·
   have hm := hj22
   refine c_region ?_
   refine t_st rfl (st_field rfl fld36_0) ?_
   refine t_st rfl (st_load 0 rfl one3 rfl rfl) ?_
   refine t_st rfl (st_field rfl fld36_1) ?_
   refine t_st rfl (st_load 1 rfl one3 rfl rfl) ?_
   refine t_bool rfl (st_eql rfl rfl) (fun hc23 => ?_) (fun hc23 => ?_)
   ·
    rw [if_pos hc23] at hm
    refine t_mv rfl rfl ?_
    refine t_yes 12 rfl rfl rfl ?_
    refine t_st rfl (st_field rfl fld36_2) ?_
    refine t_yes 12 rfl rfl rfl ?_
    refine t_st rfl (st_load 0 rfl one3 rfl rfl) ?_
    refine t_yes 12 rfl rfl rfl ?_
    refine t_st rfl (st_field rfl fld36_3) ?_
    refine t_yes 12 rfl rfl rfl ?_
    refine t_st rfl (st_load 1 rfl one3 rfl rfl) ?_
    refine t_yes 12 rfl rfl rfl ?_
    refine t_mv rfl rfl ?_
    refine t_yes 12 rfl rfl rfl ?_
    obtain ⟨_, h24, hm⟩ := bindS hm
    have h24 := (chk_some h24).2
    refine t_st rfl (st_add rfl rfl h24) ?_
    refine t_yes 12 rfl rfl rfl ?_
    refine t_st rfl (st_geq rfl rfl) ?_
    refine t_st rfl (st_pick_t rfl rfl) ?_
    refine t_as rfl rfl ?_
    refine t_nil ?_
    obtain rfl := some1 hm
    exact x_join (e' := [(6, .bool (decide ((s1.Arr + x3) ≤ s2.Dep)))]) ⟨rfl, trivial⟩ (.cons _ (.cons _ (.refl _))) ⟨rfl, rfl, (Base.Le.refl _)⟩
   ·
    rw [if_neg hc23] at hm
    refine t_mv rfl rfl ?_
    refine t_no 12 rfl rfl rfl rfl rfl ?_
    refine t_no 12 rfl rfl rfl rfl rfl ?_
    refine t_no 12 rfl rfl rfl rfl rfl ?_
    refine t_no 12 rfl rfl rfl rfl rfl ?_
    refine t_no 12 rfl rfl rfl rfl rfl ?_
    refine t_no 12 rfl rfl rfl rfl rfl ?_
    refine t_no 12 rfl rfl rfl rfl rfl ?_
    refine t_st rfl (st_pick_f rfl rfl) ?_
    refine t_as rfl rfl ?_
    refine t_nil ?_
    obtain rfl := some1 hm
    exact x_join (e' := [(6, .bool (false))]) ⟨rfl, trivial⟩ (.cons _ (.cons _ (.refl _))) ⟨rfl, rfl, (Base.Le.refl _)⟩
  ·
   rintro b19 _ _ ⟨rfl, rfl, hle20⟩
   have hm := hk22
   refine c_ret ?_
   obtain rfl := some1 hm
   exact retM (rs := [.tmp 6]) [.bool (x21)] hle20 (by decide) rfl ⟨rfl, trivial⟩ rfl (.refl _) ⟨rfl, rfl⟩

set_option maxRecDepth 20000 in
theorem cFleetTurns (b : Base) (R : Hp) (l4 : (List FleetTask)) (x5 : Int) (A1 : Option Addr) (c2 : Nat) (h3 : FZ rFleetTask b.w A1 c2 l4) (x12705 : Int) (l12706 : (List (List Int))) (hm : mFleetTurns l4 x5 = some (x12705, l12706)) :
    CallsG Try.prog 13 [.slice A1 (l4).length c2, .int .i64 (x5)] b (R) (fun v b' hp' => ∃ (A12702 : Option Addr), ∃ (c12703 : Nat), ∃ (hs12701 : Hp), .tuple #[.slice A12702 (l12706).length c12703, .int .i64 (x12705)] = v ∧ (hs12701 ++ R) = hp' ∧ OS 45 (OT.list 3 (OT.fr (RT.int .i64))) b'.w (.slice A12702 l12706.length c12703) l12706 hs12701) := by
  refine fn_enterG 113 Try.func13 rfl Try.ntmps13 rfl ?_
  unfold mFleetTurns at hm
  refine c_sr ?_
  refine t_as rfl rfl ?_
  refine t_as rfl rfl ?_
  refine t_ne ?_
  refine c_seq ?_
  refine c_sr ?_
  refine t_mv rfl rfl ?_
  refine t_mv rfl rfl ?_
  obtain ⟨x12707, hcl12708, hm⟩ := bindS hm
  refine t_do rfl (u_callW0 _ call43 rfl (fun w ho => cFleetCheckTurn _ [] l4 x5 A1 c2 (h3.old ho) x12707 hcl12708) (fun _ _ _ h => h.2.symm)) ?_
  rintro _ _ ⟨⟨_, rfl, _⟩, rfl⟩
  refine t_as rfl rfl ?_
  refine t_ne ?_
  refine c_sr ?_
  refine t_mv rfl rfl ?_
  refine t_st rfl (st_neq rfl rfl) ?_
  refine t_ne ?_
  refine c_cond _ rfl (fun hc12709 => ?_) (fun hc12709 => ?_)
  ·
   rw [if_pos (of_decide_eq_true hc12709)] at hm
   refine c_sr ?_
   refine t_mv rfl rfl ?_
   refine t_as rfl rfl ?_
   refine t_as rfl rfl ?_
   refine t_ne ?_
   refine c_ret ?_
   refine x_then_ret ?_
   obtain ⟨rfl, rfl⟩ := some2 hm
   exact retM (rs := [.tmp 4, .tmp 5]) [.slice none 0 0, .int .i64 (x12707)] (Base.Le.refl _) (by decide) rfl ⟨rfl, ⟨rfl, trivial⟩⟩ rfl (.refl _) ⟨none, 0, [], rfl, rfl, OS.nil⟩
  ·
   rw [if_neg (of_decide_eq_false hc12709)] at hm
   refine c_skip ?_
   refine x_then_normal ?_
   refine c_sr ?_
   refine t_as rfl rfl ?_
   refine t_ne ?_
   refine c_seq ?_
   refine c_sr ?_
   refine t_mv rfl rfl ?_
   obtain ⟨l12710, hcl12711, hm⟩ := bindS hm
   refine t_callG _ rfl call44 rfl (cFleetOrder _ _ l4 A1 c2 h3 l12710 hcl12711) ?_
   rintro _ b12712 _ hle12713 ⟨A12714, c12715, hs12716, rfl, rfl, h12717⟩
   refine t_in1 [] [] hs12716 R rfl ?_
   refine t_st rfl (st_len rfl sl45) ?_
   refine t_mv rfl rfl ?_
   refine t_ne ?_
   refine c_block ?_
   have hb12719 : l12710.length ≤ 9223372036854775807 := (OS.len h12717)
   obtain ⟨l21083, hl21085, hk21086⟩ := bindS hm
   refine c_forS (fun k21084 => fun l21083 => fun b21076 e' hp' => ∃ (A21080 : Option Addr), ∃ (c21081 : Nat), ∃ (hs21079 : Hp), [(0, .slice A1 (l4).length c2), (1, .int .i64 (x5)), (7, .slice A21080 (l21083).length c21081), (21, .slice A12714 (l12710).length c12715), (22, .int .i64 ((l12710.length : Int))), (23, .int .i64 ((k21084 : Int)))] = e' ∧ (hs21079 ++ (hs12716 ++ R)) = hp' ∧ b12712.Le b21076 ∧ OS 45 (OT.list 3 (OT.fr (RT.int .i64))) b21076.w (.slice A21080 l21083.length c21081) l21083 hs21079) hl21085 (e' := [(0, .slice A1 (l4).length c2), (1, .int .i64 (x5)), (7, .slice none 0 0), (21, .slice A12714 (l12710).length c12715), (22, .int .i64 ((l12710.length : Int))), (23, .int .i64 0)]) ⟨rfl, rfl, rfl, rfl, rfl, rfl, trivial⟩ (.refl _) ⟨none, 0, [], rfl, rfl, (Base.Le.refl _), OS.nil⟩ ?_ ?_
   ·
    rintro k21084 l21083 b21076 _ _ oL12718 hknL12718 ⟨A21080, c21081, hs21079, rfl, rfl, hle21077, h21082⟩ hstepL12718
    unfold mFleetTurns_L12718 at hstepL12718
    have hm := hstepL12718
    refine c_sr ?_
    refine t_st rfl (st_lss_t rfl rfl (by omega)) ?_
    refine t_ne ?_
    refine c_seq ?_
    refine c_cond_t rfl ?_
    refine c_skip ?_
    refine x_then_normal ?_
    refine c_seq ?_
    refine c_block ?_
    refine c_sr ?_
    obtain ⟨x21087, h21088, hm⟩ := bindS hm
    obtain ⟨j21089, hj21090, hx21091⟩ := idx_some h21088
    obtain ⟨cs21092, hs21097, P21098, P21099, hq21100, hr21093, hcs21094, hA21095, hlt21096, hb21101, hho21102⟩ := OS.get (sz := 1) rfl (by decide) (h12717.le hle21077) hx21091
    obtain ⟨rfl, rfl⟩ := hr21093
    refine t_st rfl (st_index_old j21089 rfl rfl hj21090 hlt21096 hA21095 sl45) ?_
    refine t_st rfl (st_load_rd rfl one3 (fun w ho => hcs21094 w _ ho (sub_skip hs21079 (List.sublist_append_left _ _)) 0 _ rfl)) ?_
    refine t_as rfl rfl ?_
    refine t_ne ?_
    refine c_sr ?_
    refine t_mv rfl rfl ?_
    refine t_mv rfl rfl ?_
    obtain ⟨x21103, h21104, hm⟩ := bindS hm
    obtain ⟨j21105, hj21106, hx21107⟩ := idx_some h21104
    obtain ⟨cs21108, hr21109, hcs21110, hA21111, hlt21112⟩ := FZ.get (sz := 6) rfl (by decide) (h3.le (hle12713.trans hle21077)) hx21107
    obtain ⟨_, _, rfl, rfl, ⟨_, _, rfl, rfl, ⟨_, _, rfl, rfl, ⟨_, _, rfl, rfl, ⟨_, _, rfl, rfl, rfl⟩⟩⟩⟩⟩ := hr21109
    refine t_st rfl (st_index_old j21105 rfl rfl hj21106 hlt21112 hA21111 sl22) ?_
    refine t_st rfl (st_field_old rfl hA21111 fld36_5) ?_
    refine t_st rfl (st_load_old rfl one3 (hcs21110 5 _ rfl)) ?_
    refine t_mv rfl rfl ?_
    refine t_ne ?_
    refine c_block ?_
    obtain ⟨_, h21114, hm⟩ := bindS hm
    have h21114 := (chk_some h21114).2
    refine c_front2 [] hs21079 hs12716 R rfl ?_
    refine c_front2 [] hs12716 hs21079 R rfl ?_
    obtain ⟨l23974, hl23976, hk23977⟩ := bindS hm
    refine c_forS (fun k23975 => fun l23974 => fun b23967 e' hp' => ∃ (A23971 : Option Addr), ∃ (c23972 : Nat), ∃ (hs23970 : Hp), [(0, .slice A1 (l4).length c2), (1, .int .i64 (x5)), (7, .slice A23971 (l23974).length c23972), (9, .int .i64 (x21087)), (21, .slice A12714 (l12710).length c12715), (22, .int .i64 ((l12710.length : Int))), (23, .int .i64 ((k21084 : Int))), (31, .int .i64 (x21103.Units)), (32, .int .i64 ((k23975 : Int)))] = e' ∧ (hs23970 ++ (hs12716 ++ R)) = hp' ∧ b21076.Le b23967 ∧ OS 45 (OT.list 3 (OT.fr (RT.int .i64))) b23967.w (.slice A23971 l23974.length c23972) l23974 hs23970) hl23976 (e' := [(0, .slice A1 (l4).length c2), (1, .int .i64 (x5)), (7, .slice A21080 (l21083).length c21081), (9, .int .i64 (x21087)), (21, .slice A12714 (l12710).length c12715), (22, .int .i64 ((l12710.length : Int))), (23, .int .i64 ((k21084 : Int))), (31, .int .i64 (x21103.Units)), (32, .int .i64 0)]) ⟨rfl, rfl, rfl, rfl, rfl, rfl, rfl, rfl, rfl, trivial⟩ (.refl _) ⟨A21080, c21081, hs21079, rfl, rfl, (Base.Le.refl _), h21082⟩ ?_ ?_
    ·
     rintro k23975 l23974 b23967 _ _ oL21113 hknL21113 ⟨A23971, c23972, hs23970, rfl, rfl, hle23968, h23973⟩ hstepL21113
     unfold mFleetTurns_L21113 at hstepL21113
     have hm := hstepL21113
     refine c_sr ?_
     refine t_st rfl (st_lss_t rfl rfl (by omega)) ?_
     refine t_ne ?_
     refine c_seq ?_
     refine c_cond_t rfl ?_
     refine c_skip ?_
     refine x_then_normal ?_
     refine c_seq ?_
     refine c_block ?_
     refine c_sr ?_
     refine t_as rfl rfl ?_
     refine t_ne ?_
     refine c_seq ?_
     refine c_sr ?_
     refine t_mv rfl rfl ?_
     refine t_st rfl (st_len rfl sl26) ?_
     refine t_mv rfl rfl ?_
     refine t_ne ?_
     refine c_block ?_
     have hb23979 : l23974.length ≤ 9223372036854775807 := (OS.len h23973)
     refine c_front2 [] hs23970 hs12716 R rfl ?_
     refine c_front2 [] hs12716 hs23970 R rfl ?_
     obtain ⟨x24883, hl24885, hk24886⟩ := bindS hm
     refine c_forS (fun k24884 => fun x24883 => fun b24881 e' hp' => [(0, .slice A1 (l4).length c2), (1, .int .i64 (x5)), (7, .slice A23971 (l23974).length c23972), (9, .int .i64 (x21087)), (10, .int .i64 (x24883)), (21, .slice A12714 (l12710).length c12715), (22, .int .i64 ((l12710.length : Int))), (23, .int .i64 ((k21084 : Int))), (31, .int .i64 (x21103.Units)), (32, .int .i64 ((k23975 : Int))), (34, .slice A23971 (l23974).length c23972), (35, .int .i64 ((l23974.length : Int))), (36, .int .i64 ((k24884 : Int)))] = e' ∧ (hs23970 ++ (hs12716 ++ R)) = hp' ∧ b23967.Le b24881) hl24885 (e' := [(0, .slice A1 (l4).length c2), (1, .int .i64 (x5)), (7, .slice A23971 (l23974).length c23972), (9, .int .i64 (x21087)), (10, .int .i64 ((-1))), (21, .slice A12714 (l12710).length c12715), (22, .int .i64 ((l12710.length : Int))), (23, .int .i64 ((k21084 : Int))), (31, .int .i64 (x21103.Units)), (32, .int .i64 ((k23975 : Int))), (34, .slice A23971 (l23974).length c23972), (35, .int .i64 ((l23974.length : Int))), (36, .int .i64 0)]) ⟨rfl, rfl, rfl, rfl, rfl, rfl, rfl, rfl, rfl, rfl, rfl, rfl, rfl, trivial⟩ (.refl _) ⟨rfl, rfl, (Base.Le.refl _)⟩ ?_ ?_
     ·
      rintro k24884 x24883 b24881 _ _ oL23978 hknL23978 ⟨rfl, rfl, hle24882⟩ hstepL23978
      unfold mFleetTurns_L23978 at hstepL23978
      have hm := hstepL23978
      refine c_sr ?_
      refine t_st rfl (st_lss_t rfl rfl (by omega)) ?_
      refine t_ne ?_
      refine c_seq ?_
      refine c_cond_t rfl ?_
      refine c_skip ?_
      refine x_then_normal ?_
      refine c_seq ?_
      refine c_block ?_
      refine c_sr ?_
      refine t_mv rfl rfl ?_
      obtain ⟨x24887, h24888, hm⟩ := bindS hm
      obtain ⟨j24889, hj24890, hx24891⟩ := idx_some h24888
      obtain ⟨cs24892, hs24897, P24898, P24899, hq24900, hr24893, hcs24894, hA24895, hlt24896, hb24901, hho24902⟩ := OS.get (sz := 1) rfl (by decide) (h23973.le hle24882) hx24891
      obtain ⟨v24903, rfl, h24904⟩ := hr24893
      obtain ⟨A24905, c24906, rfl, _⟩ := h24904.form
      refine t_st rfl (st_index_old j24889 rfl rfl hj24890 hlt24896 hA24895 sl26) ?_
      refine t_st rfl (st_load_rd rfl one45 (fun w ho => hcs24894 w _ ho (List.sublist_append_left _ _) 0 _ rfl)) ?_
      refine t_as rfl rfl ?_
      refine t_as rfl rfl ?_
      refine t_ne ?_
      refine c_sr ?_
      refine t_mv rfl rfl ?_
      refine t_mv rfl rfl ?_
      refine t_st rfl (st_len rfl sl45) ?_
      obtain ⟨_, h24907, hm⟩ := bindS hm
      have h24907 := (chk_some h24907).2
      refine t_st rfl (st_sub rfl rfl h24907) ?_
      obtain ⟨x24908, h24909, hm⟩ := bindS hm
      obtain ⟨j24910, hj24911, hx24912⟩ := idx_some h24909
      obtain ⟨cs24913, hs24918, P24919, P24920, hq24921, hr24914, hcs24915, hA24916, hlt24917, hb24922, _⟩ := OS.get (sz := 1) rfl (by decide) h24904 hx24912
      obtain ⟨rfl, rfl⟩ := hr24914
      have hcs24923 := fun (w : World) (hp : Hp) (ho : Own b24881 hp w) (hh : hs23970.Sublist hp) => hcs24915 w hp ho ((show hs24897.Sublist hs23970 by rw [hq24900]; exact sub_skip _ (List.sublist_append_left _ _)).trans hh)
      refine t_st rfl (st_index_old j24910 rfl rfl hj24911 hlt24917 hA24916 sl45) ?_
      refine t_st rfl (st_load_rd rfl one3 (fun w ho => hcs24923 w _ ho (List.sublist_append_left _ _) 0 _ rfl)) ?_
      refine t_as rfl rfl ?_
      refine t_ne ?_
      obtain ⟨x25130, hj25131, hk25131⟩ := bindS hm
      refine c_join (fun b25128 e' hp' => [(0, .slice A1 (l4).length c2), (1, .int .i64 (x5)), (7, .slice A23971 (l23974).length c23972), (9, .int .i64 (x21087)), (10, .int .i64 (x24883)), (11, .int .i64 ((k24884 : Int))), (21, .slice A12714 (l12710).length c12715), (22, .int .i64 ((l12710.length : Int))), (23, .int .i64 ((k21084 : Int))), (31, .int .i64 (x21103.Units)), (32, .int .i64 ((k23975 : Int))), (34, .slice A23971 (l23974).length c23972), (35, .int .i64 ((l23974.length : Int))), (36, .int .i64 ((k24884 : Int))), (89, .bool (x25130))] = e' ∧ (hs23970 ++ (hs12716 ++ R)) = hp' ∧ b24881.Le b25128) ?_ ?_
      ·
       have hm := hj25131
       by_cases hc25234 : x24908 ≠ x21087
       ·
        rw [if_pos hc25234] at hm
        obtain ⟨x25235, h25236, hm⟩ := bindS hm
        obtain ⟨x25245, h25246, hm⟩ := bindS hm
        obtain ⟨x25255, hcl25256, hm⟩ := bindS hm
        rcases Bool.eq_false_or_eq_true x25255 with hc25257 | hc25257
        ·
         rw [if_pos hc25257] at hm
         by_cases hc25258 : x24883 < 0
         ·
          rw [if_pos hc25258] at hm
          refine D_drawI mixed (.refl _) ?_
          refine E_st 0 rfl (st_move rfl) ?_
          refine E_st 1 rfl (st_move rfl) ?_
          refine E_st 2 rfl (st_neq_t rfl rfl hc25234) ?_
          refine E_st 3 rfl (st_move rfl) ?_
          refine E_yes 4 50 rfl (st_move rfl) ?_
          refine E_yes 5 50 rfl (st_move rfl) ?_
          obtain ⟨j25237, hj25238, hx25239⟩ := idx_some h25236
          obtain ⟨cs25240, hr25241, hcs25242, hA25243, hlt25244⟩ := FZ.get (sz := 6) rfl (by decide) (h3.le (hle12713.trans (hle21077.trans (hle23968.trans hle24882)))) hx25239
          obtain ⟨_, _, rfl, rfl, ⟨_, _, rfl, rfl, ⟨_, _, rfl, rfl, ⟨_, _, rfl, rfl, ⟨_, _, rfl, rfl, rfl⟩⟩⟩⟩⟩ := hr25241
          refine E_yes 6 50 rfl (st_index_old j25237 rfl rfl hj25238 hlt25244 hA25243 sl22) ?_
          refine E_yes 7 50 rfl (st_loadN_old (vs := [.int .i64 (x25235.From), .int .i64 (x25235.To), .int .i64 (x25235.Dep), .int .i64 (x25235.Arr), .int .i64 (x25235.Km), .int .i64 (x25235.Units)]) 6 rfl agg36 hA25243 rfl (fun j u hu => hcs25242 j u hu)) ?_
          refine E_yes 8 50 rfl (st_move rfl) ?_
          refine E_yes 9 50 rfl (st_move rfl) ?_
          obtain ⟨j25247, hj25248, hx25249⟩ := idx_some h25246
          obtain ⟨cs25250, hr25251, hcs25252, hA25253, hlt25254⟩ := FZ.get (sz := 6) rfl (by decide) (h3.le (hle12713.trans (hle21077.trans (hle23968.trans hle24882)))) hx25249
          obtain ⟨_, _, rfl, rfl, ⟨_, _, rfl, rfl, ⟨_, _, rfl, rfl, ⟨_, _, rfl, rfl, ⟨_, _, rfl, rfl, rfl⟩⟩⟩⟩⟩ := hr25251
          refine E_yes 10 50 rfl (st_index_old j25247 rfl rfl hj25248 hlt25254 hA25253 sl22) ?_
          refine E_yes 11 50 rfl (st_loadN_old (vs := [.int .i64 (x25245.From), .int .i64 (x25245.To), .int .i64 (x25245.Dep), .int .i64 (x25245.Arr), .int .i64 (x25245.Km), .int .i64 (x25245.Units)]) 6 rfl agg36 hA25253 rfl (fun j u hu => hcs25252 j u hu)) ?_
          refine E_yes 12 50 rfl (st_move rfl) ?_
          refine E_out ?_
          refine D_all [13] (by kernel_rfl) rfl ?_
          refine R_doY (Base.Le.refl _) rfl rfl 50 rfl rfl rfl (u_callW0 _ call45 rfl (fun w ho => cFleetFollows _ [] x25235 x25245 x5 x25255 hcl25256) (fun _ _ _ h => h.2.symm)) ?_ ?_
          ·
           rintro _ _ ⟨⟨_, rfl, _⟩, rfl⟩
           refine ⟨.inr (.refl _), ?_⟩
           refine d_resp 60 rfl (v' := .bool true) (by rw [hc25257]) ?_
           refine E_in (.refl _) ?_
           refine E_st 14 rfl (st_pick_t rfl rfl) ?_
           refine E_st 15 rfl (st_move rfl) ?_
           refine E_yes 16 62 rfl (st_move rfl) ?_
           refine E_yes 17 62 rfl (st_lss_t rfl rfl hc25258) ?_
           refine E_yes 18 62 rfl (st_move rfl) ?_
           refine E_no 19 65 rfl rfl rfl ?_
           refine E_no 20 65 rfl rfl rfl ?_
           refine E_no 21 65 rfl rfl rfl ?_
           refine E_no 22 65 rfl rfl rfl ?_
           refine E_no 23 65 rfl rfl rfl ?_
           refine E_no 24 65 rfl rfl rfl ?_
           refine E_no 25 65 rfl rfl rfl ?_
           refine E_no 26 65 rfl rfl rfl ?_
           refine E_no 27 65 rfl rfl rfl ?_
           refine E_no 28 65 rfl rfl rfl ?_
           refine E_no 29 65 rfl rfl rfl ?_
           refine E_no 30 65 rfl rfl rfl ?_
           refine E_no 31 65 rfl rfl rfl ?_
           refine E_no 32 65 rfl rfl rfl ?_
           refine E_no 33 65 rfl rfl rfl ?_
           refine E_no 34 65 rfl rfl rfl ?_
           refine E_no 35 65 rfl rfl rfl ?_
           refine E_no 36 65 rfl rfl rfl ?_
           refine E_no 37 65 rfl rfl rfl ?_
           refine E_no 38 65 rfl rfl rfl ?_
           refine E_no 39 65 rfl rfl rfl ?_
           refine E_no 40 65 rfl rfl rfl ?_
           refine E_yes 41 62 rfl (st_pick_t rfl rfl) ?_
           refine E_st 42 rfl (st_pick_t rfl rfl) ?_
           refine E_out ?_
           refine D_done (by kernel_rfl) ?_
           obtain rfl := some1 hm
           refine x_front2 [] hs23970 hs12716 R rfl ?_
           refine x_front2 [] hs12716 hs23970 R rfl ?_
           exact x_join (e' := [(0, .slice A1 (l4).length c2), (1, .int .i64 (x5)), (7, .slice A23971 (l23974).length c23972), (9, .int .i64 (x21087)), (10, .int .i64 (x24883)), (11, .int .i64 ((k24884 : Int))), (21, .slice A12714 (l12710).length c12715), (22, .int .i64 ((l12710.length : Int))), (23, .int .i64 ((k21084 : Int))), (31, .int .i64 (x21103.Units)), (32, .int .i64 ((k23975 : Int))), (34, .slice A23971 (l23974).length c23972), (35, .int .i64 ((l23974.length : Int))), (36, .int .i64 ((k24884 : Int))), (89, .bool (true))]) ⟨rfl, rfl, rfl, rfl, rfl, rfl, rfl, rfl, rfl, rfl, rfl, rfl, rfl, rfl, rfl, trivial⟩ (.refl _) ⟨rfl, rfl, (Base.Le.refl _)⟩
          exact R_nil
         ·
          rw [if_neg hc25258] at hm
          obtain ⟨x25259, h25260, hm⟩ := bindS hm
          obtain ⟨x25269, h25270, hm⟩ := bindS hm
          obtain ⟨x25289, h25290, hm⟩ := bindS hm
          obtain ⟨_, h25309, hm⟩ := bindS hm
          obtain ⟨x25310, h25311, hm⟩ := bindS hm
          obtain ⟨x25326, h25327, hm⟩ := bindS hm
          refine D_drawI mixed (.refl _) ?_
          refine E_st 0 rfl (st_move rfl) ?_
          refine E_st 1 rfl (st_move rfl) ?_
          refine E_st 2 rfl (st_neq_t rfl rfl hc25234) ?_
          refine E_st 3 rfl (st_move rfl) ?_
          refine E_yes 4 50 rfl (st_move rfl) ?_
          refine E_yes 5 50 rfl (st_move rfl) ?_
          obtain ⟨j25237, hj25238, hx25239⟩ := idx_some h25236
          obtain ⟨cs25240, hr25241, hcs25242, hA25243, hlt25244⟩ := FZ.get (sz := 6) rfl (by decide) (h3.le (hle12713.trans (hle21077.trans (hle23968.trans hle24882)))) hx25239
          obtain ⟨_, _, rfl, rfl, ⟨_, _, rfl, rfl, ⟨_, _, rfl, rfl, ⟨_, _, rfl, rfl, ⟨_, _, rfl, rfl, rfl⟩⟩⟩⟩⟩ := hr25241
          refine E_yes 6 50 rfl (st_index_old j25237 rfl rfl hj25238 hlt25244 hA25243 sl22) ?_
          refine E_yes 7 50 rfl (st_loadN_old (vs := [.int .i64 (x25235.From), .int .i64 (x25235.To), .int .i64 (x25235.Dep), .int .i64 (x25235.Arr), .int .i64 (x25235.Km), .int .i64 (x25235.Units)]) 6 rfl agg36 hA25243 rfl (fun j u hu => hcs25242 j u hu)) ?_
          refine E_yes 8 50 rfl (st_move rfl) ?_
          refine E_yes 9 50 rfl (st_move rfl) ?_
          obtain ⟨j25247, hj25248, hx25249⟩ := idx_some h25246
          obtain ⟨cs25250, hr25251, hcs25252, hA25253, hlt25254⟩ := FZ.get (sz := 6) rfl (by decide) (h3.le (hle12713.trans (hle21077.trans (hle23968.trans hle24882)))) hx25249
          obtain ⟨_, _, rfl, rfl, ⟨_, _, rfl, rfl, ⟨_, _, rfl, rfl, ⟨_, _, rfl, rfl, ⟨_, _, rfl, rfl, rfl⟩⟩⟩⟩⟩ := hr25251
          refine E_yes 10 50 rfl (st_index_old j25247 rfl rfl hj25248 hlt25254 hA25253 sl22) ?_
          refine E_yes 11 50 rfl (st_loadN_old (vs := [.int .i64 (x25245.From), .int .i64 (x25245.To), .int .i64 (x25245.Dep), .int .i64 (x25245.Arr), .int .i64 (x25245.Km), .int .i64 (x25245.Units)]) 6 rfl agg36 hA25253 rfl (fun j u hu => hcs25252 j u hu)) ?_
          refine E_yes 12 50 rfl (st_move rfl) ?_
          refine E_out ?_
          refine D_all [13] (by kernel_rfl) rfl ?_
          refine R_doY (Base.Le.refl _) rfl rfl 50 rfl rfl rfl (u_callW0 _ call45 rfl (fun w ho => cFleetFollows _ [] x25235 x25245 x5 x25255 hcl25256) (fun _ _ _ h => h.2.symm)) ?_ ?_
          ·
           rintro _ _ ⟨⟨_, rfl, _⟩, rfl⟩
           refine ⟨.inr (.refl _), ?_⟩
           refine d_resp 60 rfl (v' := .bool true) (by rw [hc25257]) ?_
           refine E_in (.refl _) ?_
           refine E_st 14 rfl (st_pick_t rfl rfl) ?_
           refine E_st 15 rfl (st_move rfl) ?_
           refine E_yes 16 62 rfl (st_move rfl) ?_
           refine E_yes 17 62 rfl (st_lss_f rfl rfl hc25258) ?_
           refine E_yes 18 62 rfl (st_move rfl) ?_
           refine E_yes 19 65 rfl (st_move rfl) ?_
           refine E_yes 20 65 rfl (st_move rfl) ?_
           obtain ⟨j25261, hj25262, hx25263⟩ := idx_some h25260
           obtain ⟨cs25264, hr25265, hcs25266, hA25267, hlt25268⟩ := FZ.get (sz := 6) rfl (by decide) (h3.le (hle12713.trans (hle21077.trans (hle23968.trans hle24882)))) hx25263
           obtain ⟨_, _, rfl, rfl, ⟨_, _, rfl, rfl, ⟨_, _, rfl, rfl, ⟨_, _, rfl, rfl, ⟨_, _, rfl, rfl, rfl⟩⟩⟩⟩⟩ := hr25265
           refine E_yes 21 65 rfl (st_index_old j25261 rfl rfl hj25262 hlt25268 hA25267 sl22) ?_
           refine E_yes 22 65 rfl (st_field_old rfl hA25267 fld36_3) ?_
           refine E_yes 23 65 rfl (st_load_old rfl one3 (hcs25266 3 _ rfl)) ?_
           refine E_yes 24 65 rfl (st_move rfl) ?_
           refine E_yes 25 65 rfl (st_move rfl) ?_
           refine E_yes 26 65 rfl (st_move rfl) ?_
           obtain ⟨j25271, hj25272, hx25273⟩ := idx_some h25270
           obtain ⟨cs25274, hs25279, P25280, P25281, hq25282, hr25275, hcs25276, hA25277, hlt25278, hb25283, hho25284⟩ := OS.get (sz := 1) rfl (by decide) (h23973.le hle24882) hx25273
           obtain ⟨v25285, rfl, h25286⟩ := hr25275
           obtain ⟨A25287, c25288, rfl, _⟩ := h25286.form
           refine E_yes 27 65 rfl (st_index_old j25271 rfl rfl hj25272 hlt25278 hA25277 sl26) ?_
           refine E_yes 28 65 rfl (st_load_rd rfl one45 (fun w ho => hcs25276 w _ ho (List.sublist_append_left _ _) 0 _ rfl)) ?_
           refine E_yes 29 65 rfl (st_move rfl) ?_
           refine E_yes 30 65 rfl (st_move rfl) ?_
           obtain ⟨j25291, hj25292, hx25293⟩ := idx_some h25290
           obtain ⟨cs25294, hs25299, P25300, P25301, hq25302, hr25295, hcs25296, hA25297, hlt25298, hb25303, hho25304⟩ := OS.get (sz := 1) rfl (by decide) (h23973.le hle24882) hx25293
           obtain ⟨v25305, rfl, h25306⟩ := hr25295
           obtain ⟨A25307, c25308, rfl, _⟩ := h25306.form
           refine E_yes 31 65 rfl (st_index_old j25291 rfl rfl hj25292 hlt25298 hA25297 sl26) ?_
           refine E_yes 32 65 rfl (st_load_rd rfl one45 (fun w ho => hcs25296 w _ ho (List.sublist_append_left _ _) 0 _ rfl)) ?_
           refine E_yes 33 65 rfl (st_len rfl sl45) ?_
           have h25309 := (chk_some h25309).2
           refine E_yes 34 65 rfl (st_sub rfl rfl h25309) ?_
           obtain ⟨j25312, hj25313, hx25314⟩ := idx_some h25311
           obtain ⟨cs25315, hs25320, P25321, P25322, hq25323, hr25316, hcs25317, hA25318, hlt25319, hb25324, _⟩ := OS.get (sz := 1) rfl (by decide) h25286 hx25314
           obtain ⟨rfl, rfl⟩ := hr25316
           have hcs25325 := fun (w : World) (hp : Hp) (ho : Own b24881 hp w) (hh : hs23970.Sublist hp) => hcs25317 w hp ho ((show hs25279.Sublist hs23970 by rw [hq25282]; exact sub_skip _ (List.sublist_append_left _ _)).trans hh)
           refine E_yes 35 65 rfl (st_index_old j25312 rfl rfl hj25313 hlt25319 hA25318 sl45) ?_
           refine E_yes 36 65 rfl (st_load_rd rfl one3 (fun w ho => hcs25325 w _ ho (List.sublist_append_left _ _) 0 _ rfl)) ?_
           obtain ⟨j25328, hj25329, hx25330⟩ := idx_some h25327
           obtain ⟨cs25331, hr25332, hcs25333, hA25334, hlt25335⟩ := FZ.get (sz := 6) rfl (by decide) (h3.le (hle12713.trans (hle21077.trans (hle23968.trans hle24882)))) hx25330
           obtain ⟨_, _, rfl, rfl, ⟨_, _, rfl, rfl, ⟨_, _, rfl, rfl, ⟨_, _, rfl, rfl, ⟨_, _, rfl, rfl, rfl⟩⟩⟩⟩⟩ := hr25332
           refine E_yes 37 65 rfl (st_index_old j25328 rfl rfl hj25329 hlt25335 hA25334 sl22) ?_
           refine E_yes 38 65 rfl (st_field_old rfl hA25334 fld36_3) ?_
           refine E_yes 39 65 rfl (st_load_old rfl one3 (hcs25333 3 _ rfl)) ?_
           refine E_yes 40 65 rfl (st_lss rfl rfl) ?_
           refine E_yes 41 62 rfl (st_pick_f rfl rfl) ?_
           refine E_st 42 rfl (st_pick_t rfl rfl) ?_
           refine E_out ?_
           refine D_done (by kernel_rfl) ?_
           obtain rfl := some1 hm
           refine x_front2 [] hs23970 hs12716 R rfl ?_
           refine x_front2 [] hs12716 hs23970 R rfl ?_
           exact x_join (e' := [(0, .slice A1 (l4).length c2), (1, .int .i64 (x5)), (7, .slice A23971 (l23974).length c23972), (9, .int .i64 (x21087)), (10, .int .i64 (x24883)), (11, .int .i64 ((k24884 : Int))), (21, .slice A12714 (l12710).length c12715), (22, .int .i64 ((l12710.length : Int))), (23, .int .i64 ((k21084 : Int))), (31, .int .i64 (x21103.Units)), (32, .int .i64 ((k23975 : Int))), (34, .slice A23971 (l23974).length c23972), (35, .int .i64 ((l23974.length : Int))), (36, .int .i64 ((k24884 : Int))), (89, .bool (decide (x25259.Arr < x25326.Arr)))]) ⟨rfl, rfl, rfl, rfl, rfl, rfl, rfl, rfl, rfl, rfl, rfl, rfl, rfl, rfl, rfl, trivial⟩ (.refl _) ⟨rfl, rfl, (Base.Le.refl _)⟩
          exact R_nil
        ·
         rw [if_neg (fun hh => Bool.noConfusion (hh.symm.trans hc25257))] at hm
         refine D_drawI mixed (.refl _) ?_
         refine E_st 0 rfl (st_move rfl) ?_
         refine E_st 1 rfl (st_move rfl) ?_
         refine E_st 2 rfl (st_neq_t rfl rfl hc25234) ?_
         refine E_st 3 rfl (st_move rfl) ?_
         refine E_yes 4 50 rfl (st_move rfl) ?_
         refine E_yes 5 50 rfl (st_move rfl) ?_
         obtain ⟨j25237, hj25238, hx25239⟩ := idx_some h25236
         obtain ⟨cs25240, hr25241, hcs25242, hA25243, hlt25244⟩ := FZ.get (sz := 6) rfl (by decide) (h3.le (hle12713.trans (hle21077.trans (hle23968.trans hle24882)))) hx25239
         obtain ⟨_, _, rfl, rfl, ⟨_, _, rfl, rfl, ⟨_, _, rfl, rfl, ⟨_, _, rfl, rfl, ⟨_, _, rfl, rfl, rfl⟩⟩⟩⟩⟩ := hr25241
         refine E_yes 6 50 rfl (st_index_old j25237 rfl rfl hj25238 hlt25244 hA25243 sl22) ?_
         refine E_yes 7 50 rfl (st_loadN_old (vs := [.int .i64 (x25235.From), .int .i64 (x25235.To), .int .i64 (x25235.Dep), .int .i64 (x25235.Arr), .int .i64 (x25235.Km), .int .i64 (x25235.Units)]) 6 rfl agg36 hA25243 rfl (fun j u hu => hcs25242 j u hu)) ?_
         refine E_yes 8 50 rfl (st_move rfl) ?_
         refine E_yes 9 50 rfl (st_move rfl) ?_
         obtain ⟨j25247, hj25248, hx25249⟩ := idx_some h25246
         obtain ⟨cs25250, hr25251, hcs25252, hA25253, hlt25254⟩ := FZ.get (sz := 6) rfl (by decide) (h3.le (hle12713.trans (hle21077.trans (hle23968.trans hle24882)))) hx25249
         obtain ⟨_, _, rfl, rfl, ⟨_, _, rfl, rfl, ⟨_, _, rfl, rfl, ⟨_, _, rfl, rfl, ⟨_, _, rfl, rfl, rfl⟩⟩⟩⟩⟩ := hr25251
         refine E_yes 10 50 rfl (st_index_old j25247 rfl rfl hj25248 hlt25254 hA25253 sl22) ?_
         refine E_yes 11 50 rfl (st_loadN_old (vs := [.int .i64 (x25245.From), .int .i64 (x25245.To), .int .i64 (x25245.Dep), .int .i64 (x25245.Arr), .int .i64 (x25245.Km), .int .i64 (x25245.Units)]) 6 rfl agg36 hA25253 rfl (fun j u hu => hcs25252 j u hu)) ?_
         refine E_yes 12 50 rfl (st_move rfl) ?_
         refine E_out ?_
         refine D_all [13] (by kernel_rfl) rfl ?_
         refine R_doY (Base.Le.refl _) rfl rfl 50 rfl rfl rfl (u_callW0 _ call45 rfl (fun w ho => cFleetFollows _ [] x25235 x25245 x5 x25255 hcl25256) (fun _ _ _ h => h.2.symm)) ?_ ?_
         ·
          rintro _ _ ⟨⟨_, rfl, _⟩, rfl⟩
          refine ⟨.inr (.refl _), ?_⟩
          refine d_resp 60 rfl (v' := .bool false) (by rw [hc25257]) ?_
          refine E_in (.refl _) ?_
          refine E_st 14 rfl (st_pick_t rfl rfl) ?_
          refine E_st 15 rfl (st_move rfl) ?_
          refine E_no 16 62 rfl rfl rfl ?_
          refine E_no 17 62 rfl rfl rfl ?_
          refine E_no 18 62 rfl rfl rfl ?_
          refine E_no 19 65 rfl rfl rfl ?_
          refine E_no 20 65 rfl rfl rfl ?_
          refine E_no 21 65 rfl rfl rfl ?_
          refine E_no 22 65 rfl rfl rfl ?_
          refine E_no 23 65 rfl rfl rfl ?_
          refine E_no 24 65 rfl rfl rfl ?_
          refine E_no 25 65 rfl rfl rfl ?_
          refine E_no 26 65 rfl rfl rfl ?_
          refine E_no 27 65 rfl rfl rfl ?_
          refine E_no 28 65 rfl rfl rfl ?_
          refine E_no 29 65 rfl rfl rfl ?_
          refine E_no 30 65 rfl rfl rfl ?_
          refine E_no 31 65 rfl rfl rfl ?_
          refine E_no 32 65 rfl rfl rfl ?_
          refine E_no 33 65 rfl rfl rfl ?_
          refine E_no 34 65 rfl rfl rfl ?_
          refine E_no 35 65 rfl rfl rfl ?_
          refine E_no 36 65 rfl rfl rfl ?_
          refine E_no 37 65 rfl rfl rfl ?_
          refine E_no 38 65 rfl rfl rfl ?_
          refine E_no 39 65 rfl rfl rfl ?_
          refine E_no 40 65 rfl rfl rfl ?_
          refine E_no 41 62 rfl rfl rfl ?_
          refine E_st 42 rfl (st_pick_f rfl rfl) ?_
          refine E_out ?_
          refine D_done (by kernel_rfl) ?_
          obtain rfl := some1 hm
          refine x_front2 [] hs23970 hs12716 R rfl ?_
          refine x_front2 [] hs12716 hs23970 R rfl ?_
          exact x_join (e' := [(0, .slice A1 (l4).length c2), (1, .int .i64 (x5)), (7, .slice A23971 (l23974).length c23972), (9, .int .i64 (x21087)), (10, .int .i64 (x24883)), (11, .int .i64 ((k24884 : Int))), (21, .slice A12714 (l12710).length c12715), (22, .int .i64 ((l12710.length : Int))), (23, .int .i64 ((k21084 : Int))), (31, .int .i64 (x21103.Units)), (32, .int .i64 ((k23975 : Int))), (34, .slice A23971 (l23974).length c23972), (35, .int .i64 ((l23974.length : Int))), (36, .int .i64 ((k24884 : Int))), (89, .bool (false))]) ⟨rfl, rfl, rfl, rfl, rfl, rfl, rfl, rfl, rfl, rfl, rfl, rfl, rfl, rfl, rfl, trivial⟩ (.refl _) ⟨rfl, rfl, (Base.Le.refl _)⟩
         exact R_nil
       ·
        rw [if_neg hc25234] at hm
        refine D_drawI mixed (.refl _) ?_
        refine E_st 0 rfl (st_move rfl) ?_
        refine E_st 1 rfl (st_move rfl) ?_
        refine E_st 2 rfl (st_neq_f rfl rfl hc25234) ?_
        refine E_st 3 rfl (st_move rfl) ?_
        refine E_no 4 50 rfl rfl rfl ?_
        refine E_no 5 50 rfl rfl rfl ?_
        refine E_no 6 50 rfl rfl rfl ?_
        refine E_no 7 50 rfl rfl rfl ?_
        refine E_no 8 50 rfl rfl rfl ?_
        refine E_no 9 50 rfl rfl rfl ?_
        refine E_no 10 50 rfl rfl rfl ?_
        refine E_no 11 50 rfl rfl rfl ?_
        refine E_no 12 50 rfl rfl rfl ?_
        refine E_no 13 50 rfl rfl rfl ?_
        refine E_st 14 rfl (st_pick_f rfl rfl) ?_
        refine E_st 15 rfl (st_move rfl) ?_
        refine E_no 16 62 rfl rfl rfl ?_
        refine E_no 17 62 rfl rfl rfl ?_
        refine E_no 18 62 rfl rfl rfl ?_
        refine E_no 19 65 rfl rfl rfl ?_
        refine E_no 20 65 rfl rfl rfl ?_
        refine E_no 21 65 rfl rfl rfl ?_
        refine E_no 22 65 rfl rfl rfl ?_
        refine E_no 23 65 rfl rfl rfl ?_
        refine E_no 24 65 rfl rfl rfl ?_
        refine E_no 25 65 rfl rfl rfl ?_
        refine E_no 26 65 rfl rfl rfl ?_
        refine E_no 27 65 rfl rfl rfl ?_
        refine E_no 28 65 rfl rfl rfl ?_
        refine E_no 29 65 rfl rfl rfl ?_
        refine E_no 30 65 rfl rfl rfl ?_
        refine E_no 31 65 rfl rfl rfl ?_
        refine E_no 32 65 rfl rfl rfl ?_
        refine E_no 33 65 rfl rfl rfl ?_
        refine E_no 34 65 rfl rfl rfl ?_
        refine E_no 35 65 rfl rfl rfl ?_
        refine E_no 36 65 rfl rfl rfl ?_
        refine E_no 37 65 rfl rfl rfl ?_
        refine E_no 38 65 rfl rfl rfl ?_
        refine E_no 39 65 rfl rfl rfl ?_
        refine E_no 40 65 rfl rfl rfl ?_
        refine E_no 41 62 rfl rfl rfl ?_
        refine E_st 42 rfl (st_pick_f rfl rfl) ?_
        refine E_out ?_
        refine D_done (by kernel_rfl) ?_
        obtain rfl := some1 hm
        refine x_front2 [] hs23970 hs12716 R rfl ?_
        refine x_front2 [] hs12716 hs23970 R rfl ?_
        exact x_join (e' := [(0, .slice A1 (l4).length c2), (1, .int .i64 (x5)), (7, .slice A23971 (l23974).length c23972), (9, .int .i64 (x21087)), (10, .int .i64 (x24883)), (11, .int .i64 ((k24884 : Int))), (21, .slice A12714 (l12710).length c12715), (22, .int .i64 ((l12710.length : Int))), (23, .int .i64 ((k21084 : Int))), (31, .int .i64 (x21103.Units)), (32, .int .i64 ((k23975 : Int))), (34, .slice A23971 (l23974).length c23972), (35, .int .i64 ((l23974.length : Int))), (36, .int .i64 ((k24884 : Int))), (89, .bool (false))]) ⟨rfl, rfl, rfl, rfl, rfl, rfl, rfl, rfl, rfl, rfl, rfl, rfl, rfl, rfl, rfl, trivial⟩ (.refl _) ⟨rfl, rfl, (Base.Le.refl _)⟩
      ·
       rintro b25128 _ _ ⟨rfl, rfl, hle25129⟩
       have hm := hk25131
       refine c_cond _ rfl (fun hc25336 => ?_) (fun hc25336 => ?_)
       ·
        rw [if_pos hc25336] at hm
        refine c_region ?_
        refine t_mv rfl rfl ?_
        refine t_as rfl rfl ?_
        refine t_nil ?_
        refine x_block_normal ?_
        refine x_then_normal ?_
        refine c_region ?_
        refine t_st rfl (st_add rfl rfl (by omega)) ?_
        refine t_mv rfl rfl ?_
        refine t_nil ?_
        refine x_front2 [] hs23970 hs12716 R rfl ?_
        refine x_front2 [] hs12716 hs23970 R rfl ?_
        obtain rfl := some1 hm
        exact x_againS (e' := [(0, .slice A1 (l4).length c2), (1, .int .i64 (x5)), (7, .slice A23971 (l23974).length c23972), (9, .int .i64 (x21087)), (10, .int .i64 ((k24884 : Int))), (21, .slice A12714 (l12710).length c12715), (22, .int .i64 ((l12710.length : Int))), (23, .int .i64 ((k21084 : Int))), (31, .int .i64 (x21103.Units)), (32, .int .i64 ((k23975 : Int))), (34, .slice A23971 (l23974).length c23972), (35, .int .i64 ((l23974.length : Int))), (36, .int .i64 ((k24884 : Int) + 1))]) ⟨rfl, rfl, rfl, rfl, rfl, rfl, rfl, rfl, rfl, rfl, rfl, rfl, rfl, trivial⟩ (.refl _) ⟨rfl, rfl, ((hle24882.trans hle25129))⟩
       ·
        rw [if_neg (fun hh => Bool.noConfusion (hh.symm.trans hc25336))] at hm
        refine c_skip ?_
        refine x_block_normal ?_
        refine x_then_normal ?_
        refine c_region ?_
        refine t_st rfl (st_add rfl rfl (by omega)) ?_
        refine t_mv rfl rfl ?_
        refine t_nil ?_
        refine x_front2 [] hs23970 hs12716 R rfl ?_
        refine x_front2 [] hs12716 hs23970 R rfl ?_
        obtain rfl := some1 hm
        exact x_againS (e' := [(0, .slice A1 (l4).length c2), (1, .int .i64 (x5)), (7, .slice A23971 (l23974).length c23972), (9, .int .i64 (x21087)), (10, .int .i64 (x24883)), (21, .slice A12714 (l12710).length c12715), (22, .int .i64 ((l12710.length : Int))), (23, .int .i64 ((k21084 : Int))), (31, .int .i64 (x21103.Units)), (32, .int .i64 ((k23975 : Int))), (34, .slice A23971 (l23974).length c23972), (35, .int .i64 ((l23974.length : Int))), (36, .int .i64 ((k24884 : Int) + 1))]) ⟨rfl, rfl, rfl, rfl, rfl, rfl, rfl, rfl, rfl, rfl, rfl, rfl, rfl, trivial⟩ (.refl _) ⟨rfl, rfl, ((hle24882.trans hle25129))⟩
     ·
      rintro b24881 _ _ ⟨rfl, rfl, hle24882⟩
      have hm := hk24886
      refine c_sr ?_
      refine t_st rfl (st_lss_f rfl rfl (by omega)) ?_
      refine t_ne ?_
      refine c_seq ?_
      refine c_cond_f rfl ?_
      refine c_exit ?_
      refine x_then_exit ?_
      refine x_then_exit ?_
      refine x_block_out ?_
      refine x_then_normal ?_
      obtain ⟨⟨x25352, l25353⟩, hj25354, hk25354⟩ := bindS hm
      refine c_join (fun b25345 e' hp' => ∃ (A25349 : Option Addr), ∃ (c25350 : Nat), ∃ (hs25348 : Hp), [(0, .slice A1 (l4).length c2), (1, .int .i64 (x5)), (7, .slice A25349 (l25353).length c25350), (9, .int .i64 (x21087)), (10, .int .i64 (x25352)), (21, .slice A12714 (l12710).length c12715), (22, .int .i64 ((l12710.length : Int))), (23, .int .i64 ((k21084 : Int))), (31, .int .i64 (x21103.Units)), (32, .int .i64 ((k23975 : Int)))] = e' ∧ (hs25348 ++ (hs12716 ++ R)) = hp' ∧ b24881.Le b25345 ∧ OS 45 (OT.list 3 (OT.fr (RT.int .i64))) b25345.w (.slice A25349 l25353.length c25350) l25353 hs25348) ?_ ?_
      ·
       have hm := hj25354
       refine c_sr ?_
       refine t_mv rfl rfl ?_
       refine t_st rfl (st_lss rfl rfl) ?_
       refine t_ne ?_
       refine c_cond _ rfl (fun hc25355 => ?_) (fun hc25355 => ?_)
       ·
        rw [if_pos (of_decide_eq_true hc25355)] at hm
        refine c_sr ?_
        refine t_mv rfl rfl ?_
        refine t_do rfl (u_bslice (el := 45) [(0, .slice none 0 0)] [.slice none 0 0] rfl (fun _ => by kernel_rfl)) ?_
        rintro _ _ ⟨g25356, rfl, rfl⟩
        obtain ⟨_, h25357, hm⟩ := bindS hm
        have h25357 := room_some h25357
        refine t_do rfl (u_appOO (o := (OT.list 3 (OT.fr (RT.int .i64)))) (a := []) [_] [] (hs12716 ++ R) [.slice none 0 0] rfl (by decide) sl26 inf45 rfl rfl rfl (h23973.le hle24882) rfl (fun w ho => Rd.own (i := 0) ho rfl) ⟨_, rfl, OS.nil⟩ h25357) ?_
        rintro _ _ ⟨hs25358, rfl, h25359⟩
        obtain ⟨A25360, c25361, rfl, _⟩ := h25359.form
        refine t_as rfl rfl ?_
        refine t_ne ?_
        refine c_region ?_
        refine t_mv rfl rfl ?_
        refine t_st rfl (st_len rfl sl26) ?_
        obtain ⟨_, h25362, hm⟩ := bindS hm
        have h25362 := (chk_some h25362).2
        refine t_st rfl (st_sub rfl rfl h25362) ?_
        refine t_as rfl rfl ?_
        refine t_nil ?_
        obtain ⟨rfl, rfl⟩ := some2 hm
        refine x_front2 [_] hs25358 hs12716 R rfl ?_
        refine x_front2 [_] hs12716 hs25358 R rfl ?_
        exact x_join (e' := [(0, .slice A1 (l4).length c2), (1, .int .i64 (x5)), (7, .slice A25360 (l23974 ++ [[]]).length c25361), (9, .int .i64 (x21087)), (10, .int .i64 (((l23974 ++ [[]]).length : Int) - 1)), (21, .slice A12714 (l12710).length c12715), (22, .int .i64 ((l12710.length : Int))), (23, .int .i64 ((k21084 : Int))), (31, .int .i64 (x21103.Units)), (32, .int .i64 ((k23975 : Int)))]) ⟨rfl, rfl, rfl, rfl, rfl, rfl, rfl, rfl, rfl, rfl, trivial⟩ (.cons _ (.refl _)) ⟨A25360, c25361, hs25358, rfl, rfl, (Base.Le.refl _), h25359⟩
       ·
        rw [if_neg (of_decide_eq_false hc25355)] at hm
        refine c_skip ?_
        obtain ⟨rfl, rfl⟩ := some2 hm
        refine x_front2 [] hs23970 hs12716 R rfl ?_
        refine x_front2 [] hs12716 hs23970 R rfl ?_
        exact x_join (e' := [(0, .slice A1 (l4).length c2), (1, .int .i64 (x5)), (7, .slice A23971 (l23974).length c23972), (9, .int .i64 (x21087)), (10, .int .i64 (x24883)), (21, .slice A12714 (l12710).length c12715), (22, .int .i64 ((l12710.length : Int))), (23, .int .i64 ((k21084 : Int))), (31, .int .i64 (x21103.Units)), (32, .int .i64 ((k23975 : Int)))]) ⟨rfl, rfl, rfl, rfl, rfl, rfl, rfl, rfl, rfl, rfl, trivial⟩ (.refl _) ⟨A23971, c23972, hs23970, rfl, rfl, (Base.Le.refl _), (h23973.le hle24882)⟩
      ·
       rintro b25345 _ _ ⟨A25349, c25350, hs25348, rfl, rfl, hle25346, h25351⟩
       have hm := (unc2E hk25354)
       refine c_region ?_
       refine t_mv rfl rfl ?_
       refine t_mv rfl rfl ?_
       refine t_mv rfl rfl ?_
       refine t_mv rfl rfl ?_
       obtain ⟨x25363, h25364, hm⟩ := bindS hm
       obtain ⟨j25365, hj25366, hx25367⟩ := idx_some h25364
       obtain ⟨cs25368, hs25373, P25374, P25375, hq25376, hr25369, hcs25370, hA25371, hlt25372, hb25377, hho25378⟩ := OS.get (sz := 1) rfl (by decide) h25351 hx25367
       obtain ⟨v25379, rfl, h25380⟩ := hr25369
       obtain ⟨A25381, c25382, rfl, _⟩ := h25380.form
       refine t_st rfl (st_index_old j25365 rfl rfl hj25366 hlt25372 hA25371 sl26) ?_
       refine t_st rfl (st_load_rd rfl one45 (fun w ho => hcs25370 w _ ho (List.sublist_append_left _ _) 0 _ rfl)) ?_
       refine t_mv rfl rfl ?_
       refine t_do rfl (u_bslice (el := 3) [(0, .int .i64 (x21087))] [.int .i64 (x21087)] rfl (fun _ => by kernel_rfl)) ?_
       rintro _ _ ⟨g25383, rfl, rfl⟩
       obtain ⟨_, h25384, hm⟩ := bindS hm
       have h25384 := room_some h25384
       refine t_do rfl (u_appIn (r := (RT.int .i64)) [_] (hs12716 ++ R) [[.int .i64 (x21087)]] [x21087] rfl (by decide) sl45 inf3 rfl rfl rfl rfl hq25376 h25380 rfl (fun w ho => Rd.own (i := 0) ho rfl) ⟨rfl, trivial⟩ h25384) ?_
       rintro _ _ ⟨hs25385, rfl, h25386⟩
       obtain ⟨A25387, c25388, rfl, _⟩ := h25386.form
       refine t_resp 7 rfl (v' := .slice A25349 (l25353).length c25350) (by simp only [put_length]) ?_
       refine t_resp 100 rfl (v' := .slice A25349 (l25353).length c25350) (by simp only [put_length]) ?_
       obtain ⟨x25389, h25390, hm⟩ := bindS hm
       obtain ⟨j25391, hj25392, hx25393⟩ := idx_some h25390
       obtain rfl : j25365 = j25391 := by omega
       refine t_st rfl (st_index_old j25365 rfl rfl hj25366 hlt25372 hA25371 sl26) ?_
       refine t_front2 [_] hs25385 (P25374 ++ P25375) (hs12716 ++ R) rfl ?_
       refine t_do rfl (u_putHole hj25366 (sz := 1) (a' := x25363 ++ [x21087]) rfl [_] hs25385 (hs12716 ++ R) 1 [.slice A25387 (x25363 ++ [x21087]).length c25388] rfl (hho25378 _ (Base.Le.refl _)) rfl rfl rfl siz45 rfl (by decide) ⟨_, rfl, h25386⟩) ?_
       rintro _ _ ⟨hs25399, rfl, h25400⟩
       refine t_resp 7 rfl (v' := .slice A25349 (put l25353 x25352 (x25363 ++ [x21087])).length c25350) (by simp only [put_length]) ?_
       refine t_nil ?_
       refine x_block_normal ?_
       refine x_then_normal ?_
       refine c_region ?_
       refine t_st rfl (st_add rfl rfl (by omega)) ?_
       refine t_mv rfl rfl ?_
       refine t_nil ?_
       refine x_front2 [_] hs25399 hs12716 R rfl ?_
       refine x_front2 [_] hs12716 hs25399 R rfl ?_
       obtain rfl := some1 hm
       exact x_againS (e' := [(0, .slice A1 (l4).length c2), (1, .int .i64 (x5)), (7, .slice A25349 (put l25353 x25352 (x25363 ++ [x21087])).length c25350), (9, .int .i64 (x21087)), (21, .slice A12714 (l12710).length c12715), (22, .int .i64 ((l12710.length : Int))), (23, .int .i64 ((k21084 : Int))), (31, .int .i64 (x21103.Units)), (32, .int .i64 ((k23975 : Int) + 1))]) ⟨rfl, rfl, rfl, rfl, rfl, rfl, rfl, rfl, rfl, trivial⟩ (.cons _ (.refl _)) ⟨A25349, c25350, hs25399, rfl, rfl, ((hle23968.trans (hle24882.trans hle25346))), h25400⟩
    ·
     rintro b23967 _ _ ⟨A23971, c23972, hs23970, rfl, rfl, hle23968, h23973⟩
     have hm := hk23977
     refine c_sr ?_
     refine t_st rfl (st_lss_f rfl rfl (by omega)) ?_
     refine t_ne ?_
     refine c_seq ?_
     refine c_cond_f rfl ?_
     refine c_exit ?_
     refine x_then_exit ?_
     refine x_then_exit ?_
     refine x_block_out ?_
     refine x_block_normal ?_
     refine x_then_normal ?_
     refine c_region ?_
     refine t_st rfl (st_add rfl rfl (by omega)) ?_
     refine t_mv rfl rfl ?_
     refine t_nil ?_
     refine x_front2 [] hs23970 hs12716 R rfl ?_
     refine x_front2 [] hs12716 hs23970 R rfl ?_
     obtain rfl := some1 hm
     exact x_againS (e' := [(0, .slice A1 (l4).length c2), (1, .int .i64 (x5)), (7, .slice A23971 (l23974).length c23972), (21, .slice A12714 (l12710).length c12715), (22, .int .i64 ((l12710.length : Int))), (23, .int .i64 ((k21084 : Int) + 1))]) ⟨rfl, rfl, rfl, rfl, rfl, rfl, trivial⟩ (.refl _) ⟨A23971, c23972, hs23970, rfl, rfl, ((hle21077.trans hle23968)), h23973⟩
   ·
    rintro b21076 _ _ ⟨A21080, c21081, hs21079, rfl, rfl, hle21077, h21082⟩
    have hm := hk21086
    refine c_sr ?_
    refine t_st rfl (st_lss_f rfl rfl (by omega)) ?_
    refine t_ne ?_
    refine c_seq ?_
    refine c_cond_f rfl ?_
    refine c_exit ?_
    refine x_then_exit ?_
    refine x_then_exit ?_
    refine x_block_out ?_
    refine x_then_normal ?_
    refine c_sr ?_
    refine t_mv rfl rfl ?_
    refine t_as rfl rfl ?_
    refine t_as rfl rfl ?_
    refine t_ne ?_
    refine c_ret ?_
    obtain ⟨rfl, rfl⟩ := some2 hm
    exact retM (rs := [.tmp 4, .tmp 5]) [.slice A21080 (l21083).length c21081, .int .i64 (0)] (hle12713.trans hle21077) (by decide) rfl ⟨rfl, ⟨rfl, trivial⟩⟩ rfl (sub_app hs21079 (sub_skip hs12716 (.refl _))) ⟨A21080, c21081, hs21079, rfl, rfl, h21082⟩

set_option maxRecDepth 20000 in
theorem cFishkeep2AwakeFleet (b : Base) (R : Hp) (x22 : Bool) (hm : mFishkeep2AwakeFleet = some x22) :
    CallsG Try.prog 10 [] b (R) (fun v b' hp' => .bool (x22) = v ∧ R = hp') := by
  refine fn_enterG 11 Try.func10 rfl Try.ntmps10 rfl ?_
  unfold mFishkeep2AwakeFleet at hm
  refine c_sr ?_
  refine t_as rfl rfl ?_
  refine t_ne ?_
  refine c_sr ?_
  refine t_st rfl (st_build (v := .agg #[.int .i64 (0), .int .i64 (0), .int .i64 (0), .int .i64 (0), .int .i64 (0), .int .i64 (0)]) [] rfl (fun _ => by kernel_rfl)) ?_
  refine t_do rfl (u_bslice (el := 36) [(0, .agg #[.int .i64 (0), .int .i64 (0), .int .i64 (0), .int .i64 (0), .int .i64 (0), .int .i64 (0)])] [.int .i64 (0), .int .i64 (0), .int .i64 (0), .int .i64 (0), .int .i64 (0), .int .i64 (0)] rfl (fun _ => by kernel_rfl)) ?_
  rintro _ _ ⟨g23, rfl, rfl⟩
  refine t_seg 0 [] R rfl rfl ?_
  have h25 : OS 36 (OT.fr rFleetTask) b.w (.slice (some ⟨g23, 0, none⟩) 1 1) [(⟨0, 0, 0, 0, 0, 0⟩ : FleetTask)] [(g23, Cl 36 [.int .i64 (0), .int .i64 (0), .int .i64 (0), .int .i64 (0), .int .i64 (0), .int .i64 (0)])] := OS.lit [[.int .i64 (0), .int .i64 (0), .int .i64 (0), .int .i64 (0), .int .i64 (0), .int .i64 (0)]] rfl ⟨⟨[.int .i64 (0)], _, rfl, rfl, ⟨[.int .i64 (0)], _, rfl, rfl, ⟨[.int .i64 (0)], _, rfl, rfl, ⟨[.int .i64 (0)], _, rfl, rfl, ⟨[.int .i64 (0)], _, rfl, rfl, rfl⟩⟩⟩⟩⟩, trivial⟩ rfl (by decide)
  have hnz26 : (((some ⟨g23, 0, none⟩) : Option Addr) = none ↔ [(⟨0, 0, 0, 0, 0, 0⟩ : FleetTask)] = []) := ⟨nofun, nofun⟩
  refine t_frz [] [(g23, Cl 36 [.int .i64 (0), .int .i64 (0), .int .i64 (0), .int .i64 (0), .int .i64 (0), .int .i64 (0)])] R rfl ?_
  intro b27 hle28 hz29
  have h30 := OS.frz (l := [(⟨0, 0, 0, 0, 0, 0⟩ : FleetTask)]) h25 hle28.cells hz29
  obtain ⟨⟨x31, l32⟩, hcl33, hm⟩ := bindS hm
  have hm := (unc2E hm)
  refine t_callG _ rfl call13 rfl (cFleetTurns _ _ [(⟨0, 0, 0, 0, 0, 0⟩ : FleetTask)] (-1) (some ⟨g23, 0, none⟩) 1 h30 x31 l32 hcl33) ?_
  rintro _ b34 _ hle35 ⟨A36, c37, hs38, rfl, rfl, h39⟩
  refine t_in1 [] [] hs38 R rfl ?_
  refine t_mv rfl rfl ?_
  refine t_st rfl (st_extract rfl rfl) ?_
  refine t_st rfl (st_extract rfl rfl) ?_
  refine t_frz [] hs38 R rfl ?_
  intro b40 hle41 hz42
  have h43 := OS.frz (l := l32) h39 hle41.cells hz42
  refine t_as rfl rfl ?_
  refine t_as rfl rfl ?_
  refine t_ne ?_
  refine c_sr ?_
  refine t_mv rfl rfl ?_
  refine t_st rfl (st_neq rfl rfl) ?_
  refine t_as rfl rfl ?_
  refine t_ne ?_
  refine c_ret ?_
  obtain rfl := some1 hm
  exact retM (rs := [.tmp 0]) [.bool (decide (x31 ≠ 0))] (hle28.trans (hle35.trans hle41)) (by decide) rfl ⟨rfl, trivial⟩ rfl (.refl _) ⟨rfl, rfl⟩

set_option maxRecDepth 20000 in
theorem cSlicesEqual (b : Base) (R : Hp) (l4 : (List Int)) (l8 : (List Int)) (A1 : Option Addr) (c2 : Nat) (A5 : Option Addr) (c6 : Nat) (h3 : FZ (RT.int .i64) b.w A1 c2 l4) (h7 : FZ (RT.int .i64) b.w A5 c6 l8) (x102 : Bool) (hm : mSlicesEqual l4 l8 = some x102) :
    CallsG Try.prog 34 [.slice A1 (l4).length c2, .slice A5 (l8).length c6] b (R) (fun v b' hp' => .bool (x102) = v ∧ R = hp') := by
  refine fn_enterG 26 Try.func34 rfl Try.ntmps34 rfl ?_
  unfold mSlicesEqual at hm
  refine c_sr ?_
  refine t_as rfl rfl ?_
  refine t_ne ?_
  refine c_seq ?_
  refine c_sr ?_
  refine t_mv rfl rfl ?_
  refine t_st rfl (st_len rfl sl45) ?_
  refine t_mv rfl rfl ?_
  refine t_st rfl (st_len rfl sl45) ?_
  refine t_st rfl (st_neq rfl rfl) ?_
  refine t_ne ?_
  refine c_cond _ rfl (fun hc103 => ?_) (fun hc103 => ?_)
  ·
   rw [if_pos (of_decide_eq_true hc103)] at hm
   refine c_sr ?_
   refine t_as rfl rfl ?_
   refine t_ne ?_
   refine c_ret ?_
   refine x_then_ret ?_
   obtain rfl := some1 hm
   exact retM (rs := [.tmp 4]) [.bool (false)] (Base.Le.refl _) (by decide) rfl ⟨rfl, trivial⟩ rfl (.refl _) ⟨rfl, rfl⟩
  ·
   rw [if_neg (of_decide_eq_false hc103)] at hm
   refine c_skip ?_
   refine x_then_normal ?_
   refine c_seq ?_
   refine c_sr ?_
   refine t_mv rfl rfl ?_
   refine t_st rfl (st_len rfl sl45) ?_
   refine t_mv rfl rfl ?_
   refine t_ne ?_
   refine c_block ?_
   have hb105 : l4.length ≤ 9223372036854775807 := (FZ.bd h3)
   obtain ⟨t150, hl151, hk152⟩ := bindS hm
   refine c_forM (fun k149 => fun _ => fun b147 e' hp' => [(0, .slice A1 (l4).length c2), (1, .slice A5 (l8).length c6), (12, .int .i64 ((l4.length : Int))), (13, .int .i64 ((k149 : Int)))] = e' ∧ R = hp' ∧ b.Le b147) hl151 (e' := [(0, .slice A1 (l4).length c2), (1, .slice A5 (l8).length c6), (12, .int .i64 ((l4.length : Int))), (13, .int .i64 0)]) ⟨rfl, rfl, rfl, rfl, trivial⟩ (.refl _) ⟨rfl, rfl, (Base.Le.refl _)⟩ ?_ ?_
   ·
    rintro k149 _ b147 _ _ oL104 hknL104 ⟨rfl, rfl, hle148⟩ hstepL104 houtL104
    unfold mSlicesEqual_L104 at hstepL104
    have hm := hstepL104
    refine c_sr ?_
    refine t_st rfl (st_lss_t rfl rfl (by omega)) ?_
    refine t_ne ?_
    refine c_seq ?_
    refine c_cond_t rfl ?_
    refine c_skip ?_
    refine x_then_normal ?_
    refine c_seq ?_
    refine c_block ?_
    refine c_sr ?_
    refine t_mv rfl rfl ?_
    refine t_as rfl rfl ?_
    refine t_ne ?_
    refine c_seq ?_
    obtain ⟨x173, h174, hm⟩ := bindS hm
    obtain ⟨x183, h184, hm⟩ := bindS hm
    refine D_drawI mixed (.refl _) ?_
    refine E_st 0 rfl (st_move rfl) ?_
    refine E_st 1 rfl (st_move rfl) ?_
    obtain ⟨j175, hj176, hx177⟩ := idx_some h174
    obtain ⟨cs178, hr179, hcs180, hA181, hlt182⟩ := FZ.get (sz := 1) rfl (by decide) (h3.le hle148) hx177
    obtain rfl := hr179
    refine E_st 2 rfl (st_index_old j175 rfl rfl hj176 hlt182 hA181 sl45) ?_
    refine E_st 3 rfl (st_load_old rfl one3 (hcs180 0 _ rfl)) ?_
    refine E_st 4 rfl (st_move rfl) ?_
    refine E_st 5 rfl (st_move rfl) ?_
    obtain ⟨j185, hj186, hx187⟩ := idx_some h184
    obtain ⟨cs188, hr189, hcs190, hA191, hlt192⟩ := FZ.get (sz := 1) rfl (by decide) (h7.le hle148) hx187
    obtain rfl := hr189
    refine E_st 6 rfl (st_index_old j185 rfl rfl hj186 hlt192 hA191 sl45) ?_
    refine E_st 7 rfl (st_load_old rfl one3 (hcs190 0 _ rfl)) ?_
    refine E_st 8 rfl (st_neq rfl rfl) ?_
    refine E_out ?_
    refine D_done (by kernel_rfl) ?_
    refine x_then_normal ?_
    refine c_cond _ rfl (fun hc193 => ?_) (fun hc193 => ?_)
    ·
     rw [if_pos (of_decide_eq_true hc193)] at hm
     refine c_sr ?_
     refine t_as rfl rfl ?_
     refine t_ne ?_
     refine c_ret ?_
     refine x_block_ret ?_
     refine x_then_ret ?_
     refine x_then_ret ?_
     refine x_block_ret ?_
     refine x_then_ret ?_
     have hq194 := houtL104 _ (Option.some.inj hm).symm
     rw [hq194] at hk152
     have hm := elimR hk152
     obtain rfl := some1 hm
     exact retM (rs := [.tmp 4]) [.bool (false)] hle148 (by decide) rfl ⟨rfl, trivial⟩ rfl (.refl _) ⟨rfl, rfl⟩
    ·
     rw [if_neg (of_decide_eq_false hc193)] at hm
     refine c_skip ?_
     refine x_block_normal ?_
     refine x_then_normal ?_
     refine c_region ?_
     refine t_st rfl (st_add rfl rfl (by omega)) ?_
     refine t_mv rfl rfl ?_
     refine t_nil ?_
     exact x_againM () (Option.some.inj hm).symm (e' := [(0, .slice A1 (l4).length c2), (1, .slice A5 (l8).length c6), (12, .int .i64 ((l4.length : Int))), (13, .int .i64 ((k149 : Int) + 1))]) ⟨rfl, rfl, rfl, rfl, trivial⟩ (.refl _) ⟨rfl, rfl, (hle148)⟩
   ·
    rintro _ b147 _ _ ⟨rfl, rfl, hle148⟩ hq195
    rw [hq195] at hk152
    have hm := elimL hk152
    refine c_sr ?_
    refine t_st rfl (st_lss_f rfl rfl (by omega)) ?_
    refine t_ne ?_
    refine c_seq ?_
    refine c_cond_f rfl ?_
    refine c_exit ?_
    refine x_then_exit ?_
    refine x_then_exit ?_
    refine x_block_out ?_
    refine x_then_normal ?_
    refine c_sr ?_
    refine t_as rfl rfl ?_
    refine t_ne ?_
    refine c_ret ?_
    obtain rfl := some1 hm
    exact retM (rs := [.tmp 4]) [.bool (true)] hle148 (by decide) rfl ⟨rfl, trivial⟩ rfl (.refl _) ⟨rfl, rfl⟩

set_option maxRecDepth 20000 in
theorem cFishkeep2Sets (b : Base) (R : Hp) (x66 : Bool) (hm : mFishkeep2Sets = some x66) :
    CallsG Try.prog 11 [] b (R) (fun v b' hp' => .bool (x66) = v ∧ R = hp') := by
  refine fn_enterG 26 Try.func11 rfl Try.ntmps11 rfl ?_
  unfold mFishkeep2Sets at hm
  refine c_sr ?_
  refine t_as rfl rfl ?_
  refine t_ne ?_
  refine c_sr ?_
  refine t_st rfl (st_build (v := .agg #[.int .i64 (0), .int .i64 (1), .int .i64 (10), .int .i64 (20), .int .i64 (0), .int .i64 (1)]) [(0, .int .i64 (0)), (1, .int .i64 (1)), (2, .int .i64 (10)), (3, .int .i64 (20)), (5, .int .i64 (1))] rfl (fun _ => by kernel_rfl)) ?_
  refine t_st rfl (st_build (v := .agg #[.int .i64 (1), .int .i64 (0), .int .i64 (25), .int .i64 (29), .int .i64 (0), .int .i64 (1)]) [(0, .int .i64 (1)), (1, .int .i64 (0)), (2, .int .i64 (25)), (3, .int .i64 (29)), (5, .int .i64 (1))] rfl (fun _ => by kernel_rfl)) ?_
  refine t_do rfl (u_bslice (el := 36) [(0, .agg #[.int .i64 (0), .int .i64 (1), .int .i64 (10), .int .i64 (20), .int .i64 (0), .int .i64 (1)]), (1, .agg #[.int .i64 (1), .int .i64 (0), .int .i64 (25), .int .i64 (29), .int .i64 (0), .int .i64 (1)])] [.int .i64 (0), .int .i64 (1), .int .i64 (10), .int .i64 (20), .int .i64 (0), .int .i64 (1), .int .i64 (1), .int .i64 (0), .int .i64 (25), .int .i64 (29), .int .i64 (0), .int .i64 (1)] rfl (fun _ => by kernel_rfl)) ?_
  rintro _ _ ⟨g67, rfl, rfl⟩
  refine t_as rfl rfl ?_
  refine t_ne ?_
  refine c_sr ?_
  refine t_mv rfl rfl ?_
  refine t_seg 0 [] R rfl rfl ?_
  have h69 : OS 36 (OT.fr rFleetTask) b.w (.slice (some ⟨g67, 0, none⟩) 2 2) [(⟨0, 1, 10, 20, 0, 1⟩ : FleetTask), (⟨1, 0, 25, 29, 0, 1⟩ : FleetTask)] [(g67, Cl 36 [.int .i64 (0), .int .i64 (1), .int .i64 (10), .int .i64 (20), .int .i64 (0), .int .i64 (1), .int .i64 (1), .int .i64 (0), .int .i64 (25), .int .i64 (29), .int .i64 (0), .int .i64 (1)])] := OS.lit [[.int .i64 (0), .int .i64 (1), .int .i64 (10), .int .i64 (20), .int .i64 (0), .int .i64 (1)], [.int .i64 (1), .int .i64 (0), .int .i64 (25), .int .i64 (29), .int .i64 (0), .int .i64 (1)]] rfl ⟨⟨[.int .i64 (0)], _, rfl, rfl, ⟨[.int .i64 (1)], _, rfl, rfl, ⟨[.int .i64 (10)], _, rfl, rfl, ⟨[.int .i64 (20)], _, rfl, rfl, ⟨[.int .i64 (0)], _, rfl, rfl, rfl⟩⟩⟩⟩⟩, ⟨⟨[.int .i64 (1)], _, rfl, rfl, ⟨[.int .i64 (0)], _, rfl, rfl, ⟨[.int .i64 (25)], _, rfl, rfl, ⟨[.int .i64 (29)], _, rfl, rfl, ⟨[.int .i64 (0)], _, rfl, rfl, rfl⟩⟩⟩⟩⟩, trivial⟩⟩ rfl (by decide)
  have hnz70 : (((some ⟨g67, 0, none⟩) : Option Addr) = none ↔ [(⟨0, 1, 10, 20, 0, 1⟩ : FleetTask), (⟨1, 0, 25, 29, 0, 1⟩ : FleetTask)] = []) := ⟨nofun, nofun⟩
  refine t_frz [] [(g67, Cl 36 [.int .i64 (0), .int .i64 (1), .int .i64 (10), .int .i64 (20), .int .i64 (0), .int .i64 (1), .int .i64 (1), .int .i64 (0), .int .i64 (25), .int .i64 (29), .int .i64 (0), .int .i64 (1)])] R rfl ?_
  intro b71 hle72 hz73
  have h74 := OS.frz (l := [(⟨0, 1, 10, 20, 0, 1⟩ : FleetTask), (⟨1, 0, 25, 29, 0, 1⟩ : FleetTask)]) h69 hle72.cells hz73
  obtain ⟨⟨x75, l76⟩, hcl77, hm⟩ := bindS hm
  have hm := (unc2E hm)
  refine t_callG _ rfl call13 rfl (cFleetTurns _ _ [(⟨0, 1, 10, 20, 0, 1⟩ : FleetTask), (⟨1, 0, 25, 29, 0, 1⟩ : FleetTask)] 0 (some ⟨g67, 0, none⟩) 2 h74 x75 l76 hcl77) ?_
  rintro _ b78 _ hle79 ⟨A80, c81, hs82, rfl, rfl, h83⟩
  refine t_in1 [] [] hs82 R rfl ?_
  refine t_mv rfl rfl ?_
  refine t_st rfl (st_extract rfl rfl) ?_
  refine t_st rfl (st_extract rfl rfl) ?_
  refine t_frz [] hs82 R rfl ?_
  intro b84 hle85 hz86
  have h87 := OS.frz (l := l76) h83 hle85.cells hz86
  refine t_as rfl rfl ?_
  refine t_as rfl rfl ?_
  refine t_ne ?_
  obtain ⟨x110, hj111, hk111⟩ := bindS hm
  refine c_join (fun b108 e' hp' => [(0, .bool (x110))] = e' ∧ R = hp' ∧ b84.Le b108) ?_ ?_
  ·
   have hm := hj111
   refine c_region ?_
   refine t_mv rfl rfl ?_
   refine t_bool rfl (st_eql rfl rfl) (fun hc112 => ?_) (fun hc112 => ?_)
   ·
    rw [if_pos hc112] at hm
    refine t_mv rfl rfl ?_
    refine t_yes 14 rfl rfl rfl ?_
    refine t_mv rfl rfl ?_
    refine t_yes 14 rfl rfl rfl ?_
    refine t_st rfl (st_len rfl sl26) ?_
    refine t_yes 14 rfl rfl rfl ?_
    refine t_bool rfl (st_eql rfl rfl) (fun hc113 => ?_) (fun hc113 => ?_)
    ·
     rw [if_pos hc113] at hm
     refine t_st rfl (st_pick_t rfl rfl) ?_
     refine t_mv rfl rfl ?_
     refine t_yes 19 rfl rfl rfl ?_
     refine t_mv rfl rfl ?_
     refine t_yes 19 rfl rfl rfl ?_
     obtain ⟨x114, h115, hm⟩ := bindS hm
     obtain ⟨j116, hj117, hx118⟩ := idx_some h115
     obtain ⟨cs119, hr120, hcs121, hA122, hlt123⟩ := FZ.get (sz := 1) rfl (by decide) h87 hx118
     obtain ⟨A124, c125, rfl, h126⟩ := hr120
     refine t_st rfl (st_index_old j116 rfl rfl hj117 hlt123 hA122 sl26) ?_
     refine t_yes 19 rfl rfl rfl ?_
     refine t_st rfl (st_load_old rfl one45 (hcs121 0 _ rfl)) ?_
     refine t_yes 19 rfl rfl rfl ?_
     refine t_do rfl (u_bslice (el := 3) [(0, .int .i64 (0)), (1, .int .i64 (1))] [.int .i64 (0), .int .i64 (1)] rfl (fun _ => by kernel_rfl)) ?_
     rintro _ _ ⟨g127, rfl, rfl⟩
     refine t_yes 19 rfl rfl rfl ?_
     refine t_seg 0 [] R rfl rfl ?_
     have h129 : OS 3 (OT.fr (RT.int .i64)) b84.w (.slice (some ⟨g127, 0, none⟩) 2 2) [0, 1] [(g127, Cl 3 [.int .i64 (0), .int .i64 (1)])] := OS.lit [[.int .i64 (0)], [.int .i64 (1)]] rfl ⟨rfl, ⟨rfl, trivial⟩⟩ rfl (by decide)
     obtain ⟨x130, hcl131, hm⟩ := bindS hm
     refine t_do rfl (u_callW0 _ call34 rfl (fun w ho => cSlicesEqual _ [] x114 [0, 1] A124 c125 (some ⟨g127, 0, none⟩) 2 (h126.old ho) (OS.now (o := (OT.fr (RT.int .i64))) (l := [0, 1]) (hs := [(g127, Cl 3 [.int .i64 (0), .int .i64 (1)])]) h129 ho (List.sublist_append_left _ _)) x130 hcl131) (fun _ _ _ h => h.2.symm)) ?_
     rintro _ _ ⟨⟨_, rfl, _⟩, rfl⟩
     refine t_st rfl (st_pick_t rfl rfl) ?_
     refine t_as rfl rfl ?_
     refine t_nil ?_
     obtain rfl := some1 hm
     exact x_join (e' := [(0, .bool (x130))]) ⟨rfl, trivial⟩ (sub_skip [(g127, Cl 3 [.int .i64 (0), .int .i64 (1)])] (.refl _)) ⟨rfl, rfl, (Base.Le.refl _)⟩
    ·
     rw [if_neg hc113] at hm
     refine t_st rfl (st_pick_t rfl rfl) ?_
     refine t_mv rfl rfl ?_
     refine t_no 19 rfl rfl rfl rfl rfl ?_
     refine t_no 19 rfl rfl rfl rfl rfl ?_
     refine t_no 19 rfl rfl rfl rfl rfl ?_
     refine t_no 19 rfl rfl rfl rfl rfl ?_
     refine t_no 19 rfl rfl rfl rfl rfl ?_
     refine t_st rfl (st_pick_f rfl rfl) ?_
     refine t_as rfl rfl ?_
     refine t_nil ?_
     obtain rfl := some1 hm
     exact x_join (e' := [(0, .bool (false))]) ⟨rfl, trivial⟩ (.refl _) ⟨rfl, rfl, (Base.Le.refl _)⟩
   ·
    rw [if_neg hc112] at hm
    refine t_mv rfl rfl ?_
    refine t_no 14 rfl rfl rfl rfl rfl ?_
    refine t_no 14 rfl rfl rfl rfl rfl ?_
    refine t_no 14 rfl rfl rfl rfl rfl ?_
    refine t_st rfl (st_pick_f rfl rfl) ?_
    refine t_mv rfl rfl ?_
    refine t_no 19 rfl rfl rfl rfl rfl ?_
    refine t_no 19 rfl rfl rfl rfl rfl ?_
    refine t_no 19 rfl rfl rfl rfl rfl ?_
    refine t_no 19 rfl rfl rfl rfl rfl ?_
    refine t_no 19 rfl rfl rfl rfl rfl ?_
    refine t_st rfl (st_pick_f rfl rfl) ?_
    refine t_as rfl rfl ?_
    refine t_nil ?_
    obtain rfl := some1 hm
    exact x_join (e' := [(0, .bool (false))]) ⟨rfl, trivial⟩ (.refl _) ⟨rfl, rfl, (Base.Le.refl _)⟩
  ·
   rintro b108 _ _ ⟨rfl, rfl, hle109⟩
   have hm := hk111
   refine c_ret ?_
   obtain rfl := some1 hm
   exact retM (rs := [.tmp 0]) [.bool (x110)] (hle72.trans (hle79.trans (hle85.trans hle109))) (by decide) rfl ⟨rfl, trivial⟩ rfl (.refl _) ⟨rfl, rfl⟩

set_option maxRecDepth 20000 in
theorem cFishref2Within (b : Base) (R : Hp) (x1 : Int) (x2 : Int) (x3 : Int) (x10 : Bool) (hm : mFishref2Within x1 x2 x3 = some x10) :
    CallsG Try.prog 42 [.int .i64 (x1), .int .i64 (x2), .int .i64 (x3)] b (R) (fun v b' hp' => .bool (x10) = v ∧ R = hp') := by
  refine fn_enterG 15 Try.func42 rfl Try.ntmps42 rfl ?_
  unfold mFishref2Within at hm
  refine c_sr ?_
  refine t_as rfl rfl ?_
  refine t_ne ?_
  obtain ⟨x14, hj15, hk15⟩ := bindS hm
  refine c_join (fun b12 e' hp' => [(6, .bool (x14))] = e' ∧ R = hp' ∧ b.Le b12) ?_ ?_
  ·
   have hm := hj15
   refine c_region ?_
   refine t_mv rfl rfl ?_
   refine t_mv rfl rfl ?_
   refine t_bool rfl (st_geq rfl rfl) (fun hc16 => ?_) (fun hc16 => ?_)
   ·
    rw [if_pos hc16] at hm
    refine t_mv rfl rfl ?_
    refine t_yes 10 rfl rfl rfl ?_
    refine t_mv rfl rfl ?_
    refine t_yes 10 rfl rfl rfl ?_
    refine t_mv rfl rfl ?_
    refine t_yes 10 rfl rfl rfl ?_
    refine t_st rfl (st_leq rfl rfl) ?_
    refine t_st rfl (st_pick_t rfl rfl) ?_
    refine t_as rfl rfl ?_
    refine t_nil ?_
    obtain rfl := some1 hm
    exact x_join (e' := [(6, .bool (decide (x1 ≤ x3)))]) ⟨rfl, trivial⟩ (.refl _) ⟨rfl, rfl, (Base.Le.refl _)⟩
   ·
    rw [if_neg hc16] at hm
    refine t_mv rfl rfl ?_
    refine t_no 10 rfl rfl rfl rfl rfl ?_
    refine t_no 10 rfl rfl rfl rfl rfl ?_
    refine t_no 10 rfl rfl rfl rfl rfl ?_
    refine t_st rfl (st_pick_f rfl rfl) ?_
    refine t_as rfl rfl ?_
    refine t_nil ?_
    obtain rfl := some1 hm
    exact x_join (e' := [(6, .bool (false))]) ⟨rfl, trivial⟩ (.refl _) ⟨rfl, rfl, (Base.Le.refl _)⟩
  ·
   rintro b12 _ _ ⟨rfl, rfl, hle13⟩
   have hm := hk15
   refine c_ret ?_
   obtain rfl := some1 hm
   exact retM (rs := [.tmp 6]) [.bool (x14)] hle13 (by decide) rfl ⟨rfl, trivial⟩ rfl (.refl _) ⟨rfl, rfl⟩

set_option maxRecDepth 20000 in
theorem cSlicesIndex (b : Base) (R : Hp) (l4 : (List Int)) (x5 : Int) (A1 : Option Addr) (c2 : Nat) (h3 : FZ (RT.int .i64) b.w A1 c2 l4) (x38 : Int) (hm : mSlicesIndex l4 x5 = some x38) :
    CallsG Try.prog 51 [.slice A1 (l4).length c2, .int .i64 (x5)] b (R) (fun v b' hp' => .int .i64 (x38) = v ∧ R = hp') := by
  refine fn_enterG 19 Try.func51 rfl Try.ntmps51 rfl ?_
  unfold mSlicesIndex at hm
  refine c_sr ?_
  refine t_as rfl rfl ?_
  refine t_ne ?_
  refine c_seq ?_
  refine c_sr ?_
  refine t_mv rfl rfl ?_
  refine t_st rfl (st_len rfl sl45) ?_
  refine t_mv rfl rfl ?_
  refine t_ne ?_
  refine c_block ?_
  have hb40 : l4.length ≤ 9223372036854775807 := (FZ.bd h3)
  obtain ⟨t55, hl56, hk57⟩ := bindS hm
  refine c_forM (fun k54 => fun _ => fun b52 e' hp' => [(0, .slice A1 (l4).length c2), (1, .int .i64 (x5)), (7, .int .i64 ((l4.length : Int))), (8, .int .i64 ((k54 : Int)))] = e' ∧ R = hp' ∧ b.Le b52) hl56 (e' := [(0, .slice A1 (l4).length c2), (1, .int .i64 (x5)), (7, .int .i64 ((l4.length : Int))), (8, .int .i64 0)]) ⟨rfl, rfl, rfl, rfl, trivial⟩ (.refl _) ⟨rfl, rfl, (Base.Le.refl _)⟩ ?_ ?_
  ·
   rintro k54 _ b52 _ _ oL39 hknL39 ⟨rfl, rfl, hle53⟩ hstepL39 houtL39
   unfold mSlicesIndex_L39 at hstepL39
   have hm := hstepL39
   refine c_sr ?_
   refine t_st rfl (st_lss_t rfl rfl (by omega)) ?_
   refine t_ne ?_
   refine c_seq ?_
   refine c_cond_t rfl ?_
   refine c_skip ?_
   refine x_then_normal ?_
   refine c_seq ?_
   refine c_block ?_
   refine c_sr ?_
   refine t_mv rfl rfl ?_
   refine t_as rfl rfl ?_
   refine t_ne ?_
   refine c_sr ?_
   refine t_mv rfl rfl ?_
   refine t_mv rfl rfl ?_
   refine t_mv rfl rfl ?_
   obtain ⟨x58, h59, hm⟩ := bindS hm
   obtain ⟨j60, hj61, hx62⟩ := idx_some h59
   obtain ⟨cs63, hr64, hcs65, hA66, hlt67⟩ := FZ.get (sz := 1) rfl (by decide) (h3.le hle53) hx62
   obtain rfl := hr64
   refine t_st rfl (st_index_old j60 rfl rfl hj61 hlt67 hA66 sl45) ?_
   refine t_st rfl (st_load_old rfl one3 (hcs65 0 _ rfl)) ?_
   refine t_st rfl (st_eql rfl rfl) ?_
   refine t_ne ?_
   refine c_cond _ rfl (fun hc68 => ?_) (fun hc68 => ?_)
   ·
    rw [if_pos (of_decide_eq_true hc68)] at hm
    refine c_sr ?_
    refine t_mv rfl rfl ?_
    refine t_as rfl rfl ?_
    refine t_ne ?_
    refine c_ret ?_
    refine x_block_ret ?_
    refine x_then_ret ?_
    refine x_then_ret ?_
    refine x_block_ret ?_
    refine x_then_ret ?_
    have hq69 := houtL39 _ (Option.some.inj hm).symm
    rw [hq69] at hk57
    have hm := elimR hk57
    obtain rfl := some1 hm
    exact retM (rs := [.tmp 4]) [.int .i64 ((k54 : Int))] hle53 (by decide) rfl ⟨rfl, trivial⟩ rfl (.refl _) ⟨rfl, rfl⟩
   ·
    rw [if_neg (of_decide_eq_false hc68)] at hm
    refine c_skip ?_
    refine x_block_normal ?_
    refine x_then_normal ?_
    refine c_region ?_
    refine t_st rfl (st_add rfl rfl (by omega)) ?_
    refine t_mv rfl rfl ?_
    refine t_nil ?_
    exact x_againM () (Option.some.inj hm).symm (e' := [(0, .slice A1 (l4).length c2), (1, .int .i64 (x5)), (7, .int .i64 ((l4.length : Int))), (8, .int .i64 ((k54 : Int) + 1))]) ⟨rfl, rfl, rfl, rfl, trivial⟩ (.refl _) ⟨rfl, rfl, (hle53)⟩
  ·
   rintro _ b52 _ _ ⟨rfl, rfl, hle53⟩ hq70
   rw [hq70] at hk57
   have hm := elimL hk57
   refine c_sr ?_
   refine t_st rfl (st_lss_f rfl rfl (by omega)) ?_
   refine t_ne ?_
   refine c_seq ?_
   refine c_cond_f rfl ?_
   refine c_exit ?_
   refine x_then_exit ?_
   refine x_then_exit ?_
   refine x_block_out ?_
   refine x_then_normal ?_
   refine c_sr ?_
   refine t_as rfl rfl ?_
   refine t_ne ?_
   refine c_ret ?_
   obtain rfl := some1 hm
   exact retM (rs := [.tmp 4]) [.int .i64 ((-1))] hle53 (by decide) rfl ⟨rfl, trivial⟩ rfl (.refl _) ⟨rfl, rfl⟩

set_option maxRecDepth 20000 in
theorem cSlicesContains (b : Base) (R : Hp) (l4 : (List Int)) (x5 : Int) (A1 : Option Addr) (c2 : Nat) (h3 : FZ (RT.int .i64) b.w A1 c2 l4) (x8 : Bool) (hm : mSlicesContains l4 x5 = some x8) :
    CallsG Try.prog 20 [.slice A1 (l4).length c2, .int .i64 (x5)] b (R) (fun v b' hp' => .bool (x8) = v ∧ R = hp') := by
  refine fn_enterG 9 Try.func20 rfl Try.ntmps20 rfl ?_
  unfold mSlicesContains at hm
  refine c_sr ?_
  refine t_as rfl rfl ?_
  refine t_ne ?_
  refine c_sr ?_
  refine t_mv rfl rfl ?_
  refine t_mv rfl rfl ?_
  obtain ⟨x9, hcl10, hm⟩ := bindS hm
  refine t_do rfl (u_callW0 _ call51 rfl (fun w ho => cSlicesIndex _ [] l4 x5 A1 c2 (h3.old ho) x9 hcl10) (fun _ _ _ h => h.2.symm)) ?_
  rintro _ _ ⟨⟨_, rfl, _⟩, rfl⟩
  refine t_st rfl (st_geq rfl rfl) ?_
  refine t_as rfl rfl ?_
  refine t_ne ?_
  refine c_ret ?_
  obtain rfl := some1 hm
  exact retM (rs := [.tmp 4]) [.bool (decide (0 ≤ x9))] (Base.Le.refl _) (by decide) rfl ⟨rfl, trivial⟩ rfl (.refl _) ⟨rfl, rfl⟩

set_option maxRecDepth 20000 in
theorem cFishref2DepotFault (b : Base) (R : Hp) (s1 : FleetDepot) (A2 : Option Addr) (c3 : Nat) (A5 : Option Addr) (c6 : Nat) (h4 : FZ (RT.int .i64) b.w A2 c3 s1.Room) (h7 : FZ (RT.list (RT.int .i64)) b.w A5 c6 s1.Tracks) (x422 : Int) (hm : mFishref2DepotFault s1 = some x422) :
    CallsG Try.prog 58 [.agg #[.slice A2 (s1.Room).length c3, .slice A5 (s1.Tracks).length c6]] b (R) (fun v b' hp' => .int .i64 (x422) = v ∧ R = hp') := by
  refine fn_enterG 61 Try.func58 rfl Try.ntmps58 rfl ?_
  unfold mFishref2DepotFault at hm
  refine c_sr ?_
  refine t_do rfl (u_box _ rfl rfl) ?_
  rintro _ _ ⟨g423, rfl, rfl⟩
  refine t_as rfl rfl ?_
  refine t_ne ?_
  refine c_seq ?_
  refine c_sr ?_
  refine t_st rfl (st_field rfl fld63_0) ?_
  refine t_st rfl (st_load 0 rfl one45 rfl rfl) ?_
  refine t_st rfl (st_len rfl sl45) ?_
  obtain ⟨x424, hcl425, hm⟩ := bindS hm
  refine t_do rfl (u_callW0 _ call42 rfl (fun w ho => cFishref2Within _ [] (s1.Room.length : Int) 1 4 x424 hcl425) (fun _ _ _ h => h.2.symm)) ?_
  rintro _ _ ⟨⟨_, rfl, _⟩, rfl⟩
  refine t_st rfl (st_not rfl) ?_
  refine t_ne ?_
  refine c_cond _ rfl (fun hc426 => ?_) (fun hc426 => ?_)
  ·
   rw [if_neg (fun hh => Bool.noConfusion (hh.symm.trans (notT hc426)))] at hm
   refine c_sr ?_
   refine t_as rfl rfl ?_
   refine t_ne ?_
   refine c_ret ?_
   refine x_then_ret ?_
   obtain rfl := some1 hm
   exact retM (rs := [.tmp 2]) [.int .i64 (4)] (Base.Le.refl _) (by decide) rfl ⟨rfl, trivial⟩ rfl (.cons _ (.refl _)) ⟨rfl, rfl⟩
  ·
   rw [if_pos (notF hc426)] at hm
   refine c_skip ?_
   refine x_then_normal ?_
   refine c_seq ?_
   refine c_sr ?_
   refine t_st rfl (st_field rfl fld63_1) ?_
   refine t_st rfl (st_load 0 rfl one26 rfl rfl) ?_
   refine t_st rfl (st_len rfl sl26) ?_
   refine t_st rfl (st_field rfl fld63_0) ?_
   refine t_st rfl (st_load 0 rfl one45 rfl rfl) ?_
   refine t_st rfl (st_len rfl sl45) ?_
   refine t_st rfl (st_neq rfl rfl) ?_
   refine t_ne ?_
   refine c_cond _ rfl (fun hc427 => ?_) (fun hc427 => ?_)
   ·
    rw [if_pos (of_decide_eq_true hc427)] at hm
    refine c_sr ?_
    refine t_as rfl rfl ?_
    refine t_ne ?_
    refine c_ret ?_
    refine x_then_ret ?_
    obtain rfl := some1 hm
    exact retM (rs := [.tmp 2]) [.int .i64 (1)] (Base.Le.refl _) (by decide) rfl ⟨rfl, trivial⟩ rfl (.cons _ (.refl _)) ⟨rfl, rfl⟩
   ·
    rw [if_neg (of_decide_eq_false hc427)] at hm
    refine c_skip ?_
    refine x_then_normal ?_
    refine c_sr ?_
    refine t_as rfl rfl ?_
    refine t_ne ?_
    refine c_seq ?_
    refine c_sr ?_
    refine t_st rfl (st_field rfl fld63_0) ?_
    refine t_st rfl (st_load 0 rfl one45 rfl rfl) ?_
    refine t_st rfl (st_len rfl sl45) ?_
    refine t_mv rfl rfl ?_
    refine t_ne ?_
    refine c_block ?_
    have hb429 : s1.Room.length ≤ 9223372036854775807 := (FZ.bd h4)
    obtain ⟨t700, hl701, hk702⟩ := bindS hm
    refine c_forM (fun k699 => fun l698 => fun b691 e' hp' => ∃ (A695 : Option Addr), ∃ (c696 : Nat), ∃ (hs694 : Hp), [(1, .pointer (some ⟨g423, 0, none⟩)), (3, .slice A695 (l698).length c696), (21, .slice A2 (s1.Room).length c3), (22, .int .i64 ((s1.Room.length : Int))), (23, .int .i64 ((k699 : Int)))] = e' ∧ (g423, Cl 63 [.slice A2 (s1.Room).length c3, .slice A5 (s1.Tracks).length c6]) :: (hs694 ++ R) = hp' ∧ b.Le b691 ∧ OS 3 (OT.fr (RT.int .i64)) b691.w (.slice A695 l698.length c696) l698 hs694) hl701 (e' := [(1, .pointer (some ⟨g423, 0, none⟩)), (3, .slice none 0 0), (21, .slice A2 (s1.Room).length c3), (22, .int .i64 ((s1.Room.length : Int))), (23, .int .i64 0)]) ⟨rfl, rfl, rfl, rfl, rfl, trivial⟩ (.refl _) ⟨none, 0, [], rfl, rfl, (Base.Le.refl _), OS.nil⟩ ?_ ?_
    ·
     rintro k699 l698 b691 _ _ oL428 hknL428 ⟨A695, c696, hs694, rfl, rfl, hle692, h697⟩ hstepL428 houtL428
     unfold mFishref2DepotFault_L428 at hstepL428
     have hm := hstepL428
     refine c_sr ?_
     refine t_st rfl (st_lss_t rfl rfl (by omega)) ?_
     refine t_ne ?_
     refine c_seq ?_
     refine c_cond_t rfl ?_
     refine c_skip ?_
     refine x_then_normal ?_
     refine c_seq ?_
     refine c_block ?_
     refine c_sr ?_
     refine t_mv rfl rfl ?_
     obtain ⟨x703, h704, hm⟩ := bindS hm
     obtain ⟨j705, hj706, hx707⟩ := idx_some h704
     obtain ⟨cs708, hr709, hcs710, hA711, hlt712⟩ := FZ.get (sz := 1) rfl (by decide) (h4.le hle692) hx707
     obtain rfl := hr709
     refine t_st rfl (st_index_old j705 rfl rfl hj706 hlt712 hA711 sl45) ?_
     refine t_st rfl (st_load_old rfl one3 (hcs710 0 _ rfl)) ?_
     refine t_as rfl rfl ?_
     refine t_as rfl rfl ?_
     refine t_ne ?_
     refine c_seq ?_
     refine c_sr ?_
     refine t_mv rfl rfl ?_
     obtain ⟨x713, hcl714, hm⟩ := bindS hm
     refine t_do rfl (u_callW0 _ call42 rfl (fun w ho => cFishref2Within _ [] x703 1 4 x713 hcl714) (fun _ _ _ h => h.2.symm)) ?_
     rintro _ _ ⟨⟨_, rfl, _⟩, rfl⟩
     refine t_st rfl (st_not rfl) ?_
     refine t_ne ?_
     refine c_cond _ rfl (fun hc715 => ?_) (fun hc715 => ?_)
     ·
      rw [if_neg (fun hh => Bool.noConfusion (hh.symm.trans (notT hc715)))] at hm
      refine c_sr ?_
      refine t_as rfl rfl ?_
      refine t_ne ?_
      refine c_ret ?_
      refine x_then_ret ?_
      refine x_block_ret ?_
      refine x_then_ret ?_
      refine x_then_ret ?_
      refine x_block_ret ?_
      refine x_then_ret ?_
      have hq716 := houtL428 _ (Option.some.inj hm).symm
      rw [hq716] at hk702
      have hm := elimR hk702
      obtain rfl := some1 hm
      exact retM (rs := [.tmp 2]) [.int .i64 (2)] hle692 (by decide) rfl ⟨rfl, trivial⟩ rfl (.cons _ (sub_skip hs694 (.refl _))) ⟨rfl, rfl⟩
     ·
      rw [if_pos (notF hc715)] at hm
      refine c_skip ?_
      refine x_then_normal ?_
      refine c_seq ?_
      refine c_sr ?_
      refine t_st rfl (st_field rfl fld63_1) ?_
      refine t_st rfl (st_load 0 rfl one26 rfl rfl) ?_
      refine t_mv rfl rfl ?_
      obtain ⟨x717, h718, hm⟩ := bindS hm
      obtain ⟨j719, hj720, hx721⟩ := idx_some h718
      obtain ⟨cs722, hr723, hcs724, hA725, hlt726⟩ := FZ.get (sz := 1) rfl (by decide) (h7.le hle692) hx721
      obtain ⟨A727, c728, rfl, h729⟩ := hr723
      refine t_st rfl (st_index_old j719 rfl rfl hj720 hlt726 hA725 sl26) ?_
      refine t_st rfl (st_load_old rfl one45 (hcs724 0 _ rfl)) ?_
      refine t_st rfl (st_len rfl sl45) ?_
      refine t_mv rfl rfl ?_
      refine t_st rfl (st_gtr rfl rfl) ?_
      refine t_ne ?_
      refine c_cond _ rfl (fun hc730 => ?_) (fun hc730 => ?_)
      ·
       rw [if_pos (of_decide_eq_true hc730)] at hm
       refine c_sr ?_
       refine t_as rfl rfl ?_
       refine t_ne ?_
       refine c_ret ?_
       refine x_then_ret ?_
       refine x_block_ret ?_
       refine x_then_ret ?_
       refine x_then_ret ?_
       refine x_block_ret ?_
       refine x_then_ret ?_
       have hq731 := houtL428 _ (Option.some.inj hm).symm
       rw [hq731] at hk702
       have hm := elimR hk702
       obtain rfl := some1 hm
       exact retM (rs := [.tmp 2]) [.int .i64 (14)] hle692 (by decide) rfl ⟨rfl, trivial⟩ rfl (.cons _ (sub_skip hs694 (.refl _))) ⟨rfl, rfl⟩
      ·
       rw [if_neg (of_decide_eq_false hc730)] at hm
       refine c_skip ?_
       refine x_then_normal ?_
       refine c_sr ?_
       refine t_st rfl (st_field rfl fld63_1) ?_
       refine t_st rfl (st_load 0 rfl one26 rfl rfl) ?_
       refine t_mv rfl rfl ?_
       obtain ⟨x732, h733, hm⟩ := bindS hm
       obtain ⟨j734, hj735, hx736⟩ := idx_some h733
       obtain ⟨cs737, hr738, hcs739, hA740, hlt741⟩ := FZ.get (sz := 1) rfl (by decide) (h7.le hle692) hx736
       obtain ⟨A742, c743, rfl, h744⟩ := hr738
       refine t_st rfl (st_index_old j734 rfl rfl hj735 hlt741 hA740 sl26) ?_
       refine t_st rfl (st_load_old rfl one45 (hcs739 0 _ rfl)) ?_
       refine t_st rfl (st_len rfl sl45) ?_
       refine t_mv rfl rfl ?_
       refine t_ne ?_
       refine c_block ?_
       have hb746 : x732.length ≤ 9223372036854775807 := (FZ.bd h744)
       obtain ⟨t806, hl807, hk808⟩ := bindS hm
       refine c_forM (fun k805 => fun l804 => fun b797 e' hp' => ∃ (A801 : Option Addr), ∃ (c802 : Nat), ∃ (hs800 : Hp), [(1, .pointer (some ⟨g423, 0, none⟩)), (3, .slice A801 (l804).length c802), (21, .slice A2 (s1.Room).length c3), (22, .int .i64 ((s1.Room.length : Int))), (23, .int .i64 ((k699 : Int))), (43, .slice A742 (x732).length c743), (44, .int .i64 ((x732.length : Int))), (45, .int .i64 ((k805 : Int)))] = e' ∧ (g423, Cl 63 [.slice A2 (s1.Room).length c3, .slice A5 (s1.Tracks).length c6]) :: (hs800 ++ R) = hp' ∧ b691.Le b797 ∧ OS 3 (OT.fr (RT.int .i64)) b797.w (.slice A801 l804.length c802) l804 hs800) hl807 (e' := [(1, .pointer (some ⟨g423, 0, none⟩)), (3, .slice A695 (l698).length c696), (21, .slice A2 (s1.Room).length c3), (22, .int .i64 ((s1.Room.length : Int))), (23, .int .i64 ((k699 : Int))), (43, .slice A742 (x732).length c743), (44, .int .i64 ((x732.length : Int))), (45, .int .i64 0)]) ⟨rfl, rfl, rfl, rfl, rfl, rfl, rfl, rfl, trivial⟩ (.refl _) ⟨A695, c696, hs694, rfl, rfl, (Base.Le.refl _), h697⟩ ?_ ?_
       ·
        rintro k805 l804 b797 _ _ oL745 hknL745 ⟨A801, c802, hs800, rfl, rfl, hle798, h803⟩ hstepL745 houtL745
        unfold mFishref2DepotFault_L745 at hstepL745
        have hm := hstepL745
        refine c_sr ?_
        refine t_st rfl (st_lss_t rfl rfl (by omega)) ?_
        refine t_ne ?_
        refine c_seq ?_
        refine c_cond_t rfl ?_
        refine c_skip ?_
        refine x_then_normal ?_
        refine c_seq ?_
        refine c_block ?_
        refine c_sr ?_
        obtain ⟨x809, h810, hm⟩ := bindS hm
        obtain ⟨j811, hj812, hx813⟩ := idx_some h810
        obtain ⟨cs814, hr815, hcs816, hA817, hlt818⟩ := FZ.get (sz := 1) rfl (by decide) (h744.le hle798) hx813
        obtain rfl := hr815
        refine t_st rfl (st_index_old j811 rfl rfl hj812 hlt818 hA817 sl45) ?_
        refine t_st rfl (st_load_old rfl one3 (hcs816 0 _ rfl)) ?_
        refine t_as rfl rfl ?_
        refine t_ne ?_
        refine c_seq ?_
        refine c_sr ?_
        refine t_mv rfl rfl ?_
        obtain ⟨x819, hcl820, hm⟩ := bindS hm
        refine t_do rfl (u_callW0 _ call42 rfl (fun w ho => cFishref2Within _ [] x809 0 99 x819 hcl820) (fun _ _ _ h => h.2.symm)) ?_
        rintro _ _ ⟨⟨_, rfl, _⟩, rfl⟩
        refine t_st rfl (st_not rfl) ?_
        refine t_ne ?_
        refine c_cond _ rfl (fun hc821 => ?_) (fun hc821 => ?_)
        ·
         rw [if_neg (fun hh => Bool.noConfusion (hh.symm.trans (notT hc821)))] at hm
         refine c_sr ?_
         refine t_as rfl rfl ?_
         refine t_ne ?_
         refine c_ret ?_
         refine x_then_ret ?_
         refine x_block_ret ?_
         refine x_then_ret ?_
         refine x_then_ret ?_
         refine x_block_ret ?_
         refine x_block_ret ?_
         refine x_then_ret ?_
         refine x_then_ret ?_
         refine x_block_ret ?_
         refine x_then_ret ?_
         have hq822 := houtL745 _ (Option.some.inj hm).symm
         rw [hq822] at hk808
         have hm := elimR hk808
         have hq823 := houtL428 _ (Option.some.inj hm).symm
         rw [hq823] at hk702
         have hm := elimR hk702
         obtain rfl := some1 hm
         exact retM (rs := [.tmp 2]) [.int .i64 (2)] (hle692.trans hle798) (by decide) rfl ⟨rfl, trivial⟩ rfl (.cons _ (sub_skip hs800 (.refl _))) ⟨rfl, rfl⟩
        ·
         rw [if_pos (notF hc821)] at hm
         refine c_skip ?_
         refine x_then_normal ?_
         refine c_seq ?_
         refine c_sr ?_
         refine t_mv rfl rfl ?_
         refine t_mv rfl rfl ?_
         obtain ⟨x824, hcl825, hm⟩ := bindS hm
         refine t_do rfl (u_callW0 _ call20 rfl (fun w ho => cSlicesContains _ [] l804 x809 A801 c802 (OS.now (o := (OT.fr (RT.int .i64))) (l := l804) (hs := hs800) h803 ho (.cons _ (List.sublist_append_left _ _))) x824 hcl825) (fun _ _ _ h => h.2.symm)) ?_
         rintro _ _ ⟨⟨_, rfl, _⟩, rfl⟩
         refine t_ne ?_
         refine c_cond _ rfl (fun hc826 => ?_) (fun hc826 => ?_)
         ·
          rw [if_pos hc826] at hm
          refine c_sr ?_
          refine t_as rfl rfl ?_
          refine t_ne ?_
          refine c_ret ?_
          refine x_then_ret ?_
          refine x_block_ret ?_
          refine x_then_ret ?_
          refine x_then_ret ?_
          refine x_block_ret ?_
          refine x_block_ret ?_
          refine x_then_ret ?_
          refine x_then_ret ?_
          refine x_block_ret ?_
          refine x_then_ret ?_
          have hq827 := houtL745 _ (Option.some.inj hm).symm
          rw [hq827] at hk808
          have hm := elimR hk808
          have hq828 := houtL428 _ (Option.some.inj hm).symm
          rw [hq828] at hk702
          have hm := elimR hk702
          obtain rfl := some1 hm
          exact retM (rs := [.tmp 2]) [.int .i64 (6)] (hle692.trans hle798) (by decide) rfl ⟨rfl, trivial⟩ rfl (.cons _ (sub_skip hs800 (.refl _))) ⟨rfl, rfl⟩
         ·
          rw [if_neg (fun hh => Bool.noConfusion (hh.symm.trans hc826))] at hm
          refine c_skip ?_
          refine x_then_normal ?_
          refine c_region ?_
          refine t_mv rfl rfl ?_
          refine t_mv rfl rfl ?_
          refine t_do rfl (u_bslice (el := 3) [(0, .int .i64 (x809))] [.int .i64 (x809)] rfl (fun _ => by kernel_rfl)) ?_
          rintro _ _ ⟨g829, rfl, rfl⟩
          obtain ⟨_, h830, hm⟩ := bindS hm
          have h830 := room_some h830
          refine t_do rfl (u_appOS (r := (RT.int .i64)) (l := l804) [_, _] R [[.int .i64 (x809)]] [x809] rfl (by decide) sl45 inf3 rfl rfl rfl rfl h803 rfl (fun w ho => Rd.own (i := 0) ho rfl) ⟨rfl, trivial⟩ h830) ?_
          rintro _ _ ⟨hs831, rfl, h832⟩
          obtain ⟨A833, c834, rfl, _⟩ := h832.form
          refine t_as rfl rfl ?_
          refine t_nil ?_
          refine x_block_normal ?_
          refine x_then_normal ?_
          refine c_region ?_
          refine t_st rfl (st_add rfl rfl (by omega)) ?_
          refine t_mv rfl rfl ?_
          refine t_nil ?_
          refine x_pullb 1 rfl ?_
          exact x_againM (l804 ++ [x809]) (Option.some.inj hm).symm (e' := [(1, .pointer (some ⟨g423, 0, none⟩)), (3, .slice A833 (l804 ++ [x809]).length c834), (21, .slice A2 (s1.Room).length c3), (22, .int .i64 ((s1.Room.length : Int))), (23, .int .i64 ((k699 : Int))), (43, .slice A742 (x732).length c743), (44, .int .i64 ((x732.length : Int))), (45, .int .i64 ((k805 : Int) + 1))]) ⟨rfl, rfl, rfl, rfl, rfl, rfl, rfl, rfl, trivial⟩ (.cons_cons _ (.cons _ (.refl _))) ⟨A833, c834, hs831, rfl, rfl, (hle798), h832⟩
       ·
        rintro l804 b797 _ _ ⟨A801, c802, hs800, rfl, rfl, hle798, h803⟩ hq835
        rw [hq835] at hk808
        have hm := elimL hk808
        refine c_sr ?_
        refine t_st rfl (st_lss_f rfl rfl (by omega)) ?_
        refine t_ne ?_
        refine c_seq ?_
        refine c_cond_f rfl ?_
        refine c_exit ?_
        refine x_then_exit ?_
        refine x_then_exit ?_
        refine x_block_out ?_
        refine x_block_normal ?_
        refine x_then_normal ?_
        refine c_region ?_
        refine t_st rfl (st_add rfl rfl (by omega)) ?_
        refine t_mv rfl rfl ?_
        refine t_nil ?_
        exact x_againM l804 (Option.some.inj hm).symm (e' := [(1, .pointer (some ⟨g423, 0, none⟩)), (3, .slice A801 (l804).length c802), (21, .slice A2 (s1.Room).length c3), (22, .int .i64 ((s1.Room.length : Int))), (23, .int .i64 ((k699 : Int) + 1))]) ⟨rfl, rfl, rfl, rfl, rfl, trivial⟩ (.refl _) ⟨A801, c802, hs800, rfl, rfl, ((hle692.trans hle798)), h803⟩
    ·
     rintro l698 b691 _ _ ⟨A695, c696, hs694, rfl, rfl, hle692, h697⟩ hq836
     rw [hq836] at hk702
     have hm := elimL hk702
     refine c_sr ?_
     refine t_st rfl (st_lss_f rfl rfl (by omega)) ?_
     refine t_ne ?_
     refine c_seq ?_
     refine c_cond_f rfl ?_
     refine c_exit ?_
     refine x_then_exit ?_
     refine x_then_exit ?_
     refine x_block_out ?_
     refine x_then_normal ?_
     refine c_sr ?_
     refine t_as rfl rfl ?_
     refine t_ne ?_
     refine c_ret ?_
     obtain rfl := some1 hm
     exact retM (rs := [.tmp 2]) [.int .i64 (0)] hle692 (by decide) rfl ⟨rfl, trivial⟩ rfl (.cons _ (sub_skip hs694 (.refl _))) ⟨rfl, rfl⟩

set_option maxRecDepth 20000 in
theorem cFishref2ShuntFault (b : Base) (R : Hp) (s1 : FleetDepot) (l11 : (List Int)) (A2 : Option Addr) (c3 : Nat) (A5 : Option Addr) (c6 : Nat) (A8 : Option Addr) (c9 : Nat) (h4 : FZ (RT.int .i64) b.w A2 c3 s1.Room) (h7 : FZ (RT.list (RT.int .i64)) b.w A5 c6 s1.Tracks) (h10 : FZ (RT.int .i64) b.w A8 c9 l11) (x167 : Int) (hm : mFishref2ShuntFault s1 l11 = some x167) :
    CallsG Try.prog 29 [.agg #[.slice A2 (s1.Room).length c3, .slice A5 (s1.Tracks).length c6], .slice A8 (l11).length c9] b (R) (fun v b' hp' => .int .i64 (x167) = v ∧ R = hp') := by
  refine fn_enterG 51 Try.func29 rfl Try.ntmps29 rfl ?_
  unfold mFishref2ShuntFault at hm
  refine c_sr ?_
  refine t_do rfl (u_box _ rfl rfl) ?_
  rintro _ _ ⟨g168, rfl, rfl⟩
  refine t_as rfl rfl ?_
  refine t_ne ?_
  refine c_seq ?_
  refine c_sr ?_
  refine t_st rfl (st_loadD (vs := [_, _]) 0 2 rfl agg63 rfl rfl rfl) ?_
  obtain ⟨x169, hcl170, hm⟩ := bindS hm
  refine t_do rfl (u_callW0 _ call58 rfl (fun w ho => cFishref2DepotFault _ [] s1 A2 c3 A5 c6 (h4.old ho) (h7.old ho) x169 hcl170) (fun _ _ _ h => h.2.symm)) ?_
  rintro _ _ ⟨⟨_, rfl, _⟩, rfl⟩
  refine t_as rfl rfl ?_
  refine t_ne ?_
  refine c_sr ?_
  refine t_mv rfl rfl ?_
  refine t_st rfl (st_neq rfl rfl) ?_
  refine t_ne ?_
  refine c_cond _ rfl (fun hc171 => ?_) (fun hc171 => ?_)
  ·
   rw [if_pos (of_decide_eq_true hc171)] at hm
   refine c_sr ?_
   refine t_mv rfl rfl ?_
   refine t_as rfl rfl ?_
   refine t_ne ?_
   refine c_ret ?_
   refine x_then_ret ?_
   obtain rfl := some1 hm
   exact retM (rs := [.tmp 4]) [.int .i64 (x169)] (Base.Le.refl _) (by decide) rfl ⟨rfl, trivial⟩ rfl (.cons _ (.refl _)) ⟨rfl, rfl⟩
  ·
   rw [if_neg (of_decide_eq_false hc171)] at hm
   refine c_skip ?_
   refine x_then_normal ?_
   refine c_sr ?_
   refine t_as rfl rfl ?_
   refine t_ne ?_
   refine c_seq ?_
   refine c_sr ?_
   refine t_st rfl (st_field rfl fld63_1) ?_
   refine t_st rfl (st_load 0 rfl one26 rfl rfl) ?_
   refine t_st rfl (st_len rfl sl26) ?_
   refine t_mv rfl rfl ?_
   refine t_ne ?_
   refine c_block ?_
   have hb173 : s1.Tracks.length ≤ 9223372036854775807 := (FZ.bd h7)
   obtain ⟨x205, hl207, hk208⟩ := bindS hm
   refine c_forS (fun k206 => fun x205 => fun b203 e' hp' => [(1, .slice A8 (l11).length c9), (2, .pointer (some ⟨g168, 0, none⟩)), (6, .int .i64 (x205)), (19, .slice A5 (s1.Tracks).length c6), (20, .int .i64 ((s1.Tracks.length : Int))), (21, .int .i64 ((k206 : Int)))] = e' ∧ (g168, Cl 63 [.slice A2 (s1.Room).length c3, .slice A5 (s1.Tracks).length c6]) :: R = hp' ∧ b.Le b203) hl207 (e' := [(1, .slice A8 (l11).length c9), (2, .pointer (some ⟨g168, 0, none⟩)), (6, .int .i64 (0)), (19, .slice A5 (s1.Tracks).length c6), (20, .int .i64 ((s1.Tracks.length : Int))), (21, .int .i64 0)]) ⟨rfl, rfl, rfl, rfl, rfl, rfl, trivial⟩ (.refl _) ⟨rfl, rfl, (Base.Le.refl _)⟩ ?_ ?_
   ·
    rintro k206 x205 b203 _ _ oL172 hknL172 ⟨rfl, rfl, hle204⟩ hstepL172
    unfold mFishref2ShuntFault_L172 at hstepL172
    have hm := hstepL172
    refine c_sr ?_
    refine t_st rfl (st_lss_t rfl rfl (by omega)) ?_
    refine t_ne ?_
    refine c_seq ?_
    refine c_cond_t rfl ?_
    refine c_skip ?_
    refine x_then_normal ?_
    refine c_seq ?_
    refine c_block ?_
    refine c_sr ?_
    obtain ⟨x209, h210, hm⟩ := bindS hm
    obtain ⟨j211, hj212, hx213⟩ := idx_some h210
    obtain ⟨cs214, hr215, hcs216, hA217, hlt218⟩ := FZ.get (sz := 1) rfl (by decide) (h7.le hle204) hx213
    obtain ⟨A219, c220, rfl, h221⟩ := hr215
    refine t_st rfl (st_index_old j211 rfl rfl hj212 hlt218 hA217 sl26) ?_
    refine t_st rfl (st_load_old rfl one45 (hcs216 0 _ rfl)) ?_
    refine t_as rfl rfl ?_
    refine t_ne ?_
    refine c_region ?_
    refine t_mv rfl rfl ?_
    refine t_mv rfl rfl ?_
    refine t_st rfl (st_len rfl sl45) ?_
    obtain ⟨_, h222, hm⟩ := bindS hm
    have h222 := (chk_some h222).2
    refine t_st rfl (st_add rfl rfl h222) ?_
    refine t_as rfl rfl ?_
    refine t_nil ?_
    refine x_block_normal ?_
    refine x_then_normal ?_
    refine c_region ?_
    refine t_st rfl (st_add rfl rfl (by omega)) ?_
    refine t_mv rfl rfl ?_
    refine t_nil ?_
    obtain rfl := some1 hm
    exact x_againS (e' := [(1, .slice A8 (l11).length c9), (2, .pointer (some ⟨g168, 0, none⟩)), (6, .int .i64 (x205 + (x209.length : Int))), (19, .slice A5 (s1.Tracks).length c6), (20, .int .i64 ((s1.Tracks.length : Int))), (21, .int .i64 ((k206 : Int) + 1))]) ⟨rfl, rfl, rfl, rfl, rfl, rfl, trivial⟩ (.refl _) ⟨rfl, rfl, (hle204)⟩
   ·
    rintro b203 _ _ ⟨rfl, rfl, hle204⟩
    have hm := hk208
    refine c_sr ?_
    refine t_st rfl (st_lss_f rfl rfl (by omega)) ?_
    refine t_ne ?_
    refine c_seq ?_
    refine c_cond_f rfl ?_
    refine c_exit ?_
    refine x_then_exit ?_
    refine x_then_exit ?_
    refine x_block_out ?_
    refine x_then_normal ?_
    refine c_seq ?_
    refine c_sr ?_
    refine t_mv rfl rfl ?_
    refine t_st rfl (st_gtr rfl rfl) ?_
    refine t_ne ?_
    refine c_cond _ rfl (fun hc223 => ?_) (fun hc223 => ?_)
    ·
     rw [if_pos (of_decide_eq_true hc223)] at hm
     refine c_sr ?_
     refine t_as rfl rfl ?_
     refine t_ne ?_
     refine c_ret ?_
     refine x_then_ret ?_
     obtain rfl := some1 hm
     exact retM (rs := [.tmp 4]) [.int .i64 (4)] hle204 (by decide) rfl ⟨rfl, trivial⟩ rfl (.cons _ (.refl _)) ⟨rfl, rfl⟩
    ·
     rw [if_neg (of_decide_eq_false hc223)] at hm
     refine c_skip ?_
     refine x_then_normal ?_
     refine c_seq ?_
     refine c_sr ?_
     refine t_st rfl (st_field rfl fld63_1) ?_
     refine t_st rfl (st_load 0 rfl one26 rfl rfl) ?_
     refine t_st rfl (st_len rfl sl26) ?_
     refine t_mv rfl rfl ?_
     refine t_ne ?_
     refine c_block ?_
     have hb225 : s1.Tracks.length ≤ 9223372036854775807 := (FZ.bd (h7.le hle204))
     obtain ⟨t273, hl274, hk275⟩ := bindS hm
     refine c_forM (fun k272 => fun _ => fun b270 e' hp' => [(1, .slice A8 (l11).length c9), (33, .slice A5 (s1.Tracks).length c6), (34, .int .i64 ((s1.Tracks.length : Int))), (35, .int .i64 ((k272 : Int)))] = e' ∧ R = hp' ∧ b203.Le b270) hl274 (e' := [(1, .slice A8 (l11).length c9), (33, .slice A5 (s1.Tracks).length c6), (34, .int .i64 ((s1.Tracks.length : Int))), (35, .int .i64 0)]) ⟨rfl, rfl, rfl, rfl, trivial⟩ (.cons _ (.refl _)) ⟨rfl, rfl, (Base.Le.refl _)⟩ ?_ ?_
     ·
      rintro k272 _ b270 _ _ oL224 hknL224 ⟨rfl, rfl, hle271⟩ hstepL224 houtL224
      unfold mFishref2ShuntFault_L224 at hstepL224
      have hm := hstepL224
      refine c_sr ?_
      refine t_st rfl (st_lss_t rfl rfl (by omega)) ?_
      refine t_ne ?_
      refine c_seq ?_
      refine c_cond_t rfl ?_
      refine c_skip ?_
      refine x_then_normal ?_
      refine c_seq ?_
      refine c_block ?_
      refine c_sr ?_
      obtain ⟨x276, h277, hm⟩ := bindS hm
      obtain ⟨j278, hj279, hx280⟩ := idx_some h277
      obtain ⟨cs281, hr282, hcs283, hA284, hlt285⟩ := FZ.get (sz := 1) rfl (by decide) (h7.le (hle204.trans hle271)) hx280
      obtain ⟨A286, c287, rfl, h288⟩ := hr282
      refine t_st rfl (st_index_old j278 rfl rfl hj279 hlt285 hA284 sl26) ?_
      refine t_st rfl (st_load_old rfl one45 (hcs283 0 _ rfl)) ?_
      refine t_as rfl rfl ?_
      refine t_ne ?_
      refine c_sr ?_
      refine t_mv rfl rfl ?_
      refine t_st rfl (st_len rfl sl45) ?_
      refine t_mv rfl rfl ?_
      refine t_ne ?_
      refine c_block ?_
      have hb290 : x276.length ≤ 9223372036854775807 := (FZ.bd h288)
      obtain ⟨t305, hl306, hk307⟩ := bindS hm
      refine c_forM (fun k304 => fun _ => fun b302 e' hp' => [(1, .slice A8 (l11).length c9), (33, .slice A5 (s1.Tracks).length c6), (34, .int .i64 ((s1.Tracks.length : Int))), (35, .int .i64 ((k272 : Int))), (39, .slice A286 (x276).length c287), (40, .int .i64 ((x276.length : Int))), (41, .int .i64 ((k304 : Int)))] = e' ∧ R = hp' ∧ b270.Le b302) hl306 (e' := [(1, .slice A8 (l11).length c9), (33, .slice A5 (s1.Tracks).length c6), (34, .int .i64 ((s1.Tracks.length : Int))), (35, .int .i64 ((k272 : Int))), (39, .slice A286 (x276).length c287), (40, .int .i64 ((x276.length : Int))), (41, .int .i64 0)]) ⟨rfl, rfl, rfl, rfl, rfl, rfl, rfl, trivial⟩ (.refl _) ⟨rfl, rfl, (Base.Le.refl _)⟩ ?_ ?_
      ·
       rintro k304 _ b302 _ _ oL289 hknL289 ⟨rfl, rfl, hle303⟩ hstepL289 houtL289
       unfold mFishref2ShuntFault_L289 at hstepL289
       have hm := hstepL289
       refine c_sr ?_
       refine t_st rfl (st_lss_t rfl rfl (by omega)) ?_
       refine t_ne ?_
       refine c_seq ?_
       refine c_cond_t rfl ?_
       refine c_skip ?_
       refine x_then_normal ?_
       refine c_seq ?_
       refine c_block ?_
       refine c_sr ?_
       obtain ⟨x308, h309, hm⟩ := bindS hm
       obtain ⟨j310, hj311, hx312⟩ := idx_some h309
       obtain ⟨cs313, hr314, hcs315, hA316, hlt317⟩ := FZ.get (sz := 1) rfl (by decide) (h288.le hle303) hx312
       obtain rfl := hr314
       refine t_st rfl (st_index_old j310 rfl rfl hj311 hlt317 hA316 sl45) ?_
       refine t_st rfl (st_load_old rfl one3 (hcs315 0 _ rfl)) ?_
       refine t_as rfl rfl ?_
       refine t_ne ?_
       refine c_sr ?_
       refine t_mv rfl rfl ?_
       refine t_mv rfl rfl ?_
       refine t_st rfl (st_len rfl sl45) ?_
       refine t_st rfl (st_geq rfl rfl) ?_
       refine t_ne ?_
       refine c_cond _ rfl (fun hc318 => ?_) (fun hc318 => ?_)
       ·
        rw [if_pos (of_decide_eq_true hc318)] at hm
        refine c_sr ?_
        refine t_as rfl rfl ?_
        refine t_ne ?_
        refine c_ret ?_
        refine x_block_ret ?_
        refine x_then_ret ?_
        refine x_then_ret ?_
        refine x_block_ret ?_
        refine x_block_ret ?_
        refine x_then_ret ?_
        refine x_then_ret ?_
        refine x_block_ret ?_
        refine x_then_ret ?_
        have hq319 := houtL289 _ (Option.some.inj hm).symm
        rw [hq319] at hk307
        have hm := elimR hk307
        have hq320 := houtL224 _ (Option.some.inj hm).symm
        rw [hq320] at hk275
        have hm := elimR hk275
        obtain rfl := some1 hm
        exact retM (rs := [.tmp 4]) [.int .i64 (2)] (hle204.trans (hle271.trans hle303)) (by decide) rfl ⟨rfl, trivial⟩ rfl (.refl _) ⟨rfl, rfl⟩
       ·
        rw [if_neg (of_decide_eq_false hc318)] at hm
        refine c_skip ?_
        refine x_block_normal ?_
        refine x_then_normal ?_
        refine c_region ?_
        refine t_st rfl (st_add rfl rfl (by omega)) ?_
        refine t_mv rfl rfl ?_
        refine t_nil ?_
        exact x_againM () (Option.some.inj hm).symm (e' := [(1, .slice A8 (l11).length c9), (33, .slice A5 (s1.Tracks).length c6), (34, .int .i64 ((s1.Tracks.length : Int))), (35, .int .i64 ((k272 : Int))), (39, .slice A286 (x276).length c287), (40, .int .i64 ((x276.length : Int))), (41, .int .i64 ((k304 : Int) + 1))]) ⟨rfl, rfl, rfl, rfl, rfl, rfl, rfl, trivial⟩ (.refl _) ⟨rfl, rfl, (hle303)⟩
      ·
       rintro _ b302 _ _ ⟨rfl, rfl, hle303⟩ hq321
       rw [hq321] at hk307
       have hm := elimL hk307
       refine c_sr ?_
       refine t_st rfl (st_lss_f rfl rfl (by omega)) ?_
       refine t_ne ?_
       refine c_seq ?_
       refine c_cond_f rfl ?_
       refine c_exit ?_
       refine x_then_exit ?_
       refine x_then_exit ?_
       refine x_block_out ?_
       refine x_block_normal ?_
       refine x_then_normal ?_
       refine c_region ?_
       refine t_st rfl (st_add rfl rfl (by omega)) ?_
       refine t_mv rfl rfl ?_
       refine t_nil ?_
       exact x_againM () (Option.some.inj hm).symm (e' := [(1, .slice A8 (l11).length c9), (33, .slice A5 (s1.Tracks).length c6), (34, .int .i64 ((s1.Tracks.length : Int))), (35, .int .i64 ((k272 : Int) + 1))]) ⟨rfl, rfl, rfl, rfl, trivial⟩ (.refl _) ⟨rfl, rfl, ((hle271.trans hle303))⟩
     ·
      rintro _ b270 _ _ ⟨rfl, rfl, hle271⟩ hq322
      rw [hq322] at hk275
      have hm := elimL hk275
      refine c_sr ?_
      refine t_st rfl (st_lss_f rfl rfl (by omega)) ?_
      refine t_ne ?_
      refine c_seq ?_
      refine c_cond_f rfl ?_
      refine c_exit ?_
      refine x_then_exit ?_
      refine x_then_exit ?_
      refine x_block_out ?_
      refine x_then_normal ?_
      refine c_sr ?_
      refine t_as rfl rfl ?_
      refine t_ne ?_
      refine c_ret ?_
      obtain rfl := some1 hm
      exact retM (rs := [.tmp 4]) [.int .i64 (0)] (hle204.trans hle271) (by decide) rfl ⟨rfl, trivial⟩ rfl (.refl _) ⟨rfl, rfl⟩

set_option maxRecDepth 20000 in
theorem cFleetCheckDepot (b : Base) (R : Hp) (s1 : FleetDepot) (A2 : Option Addr) (c3 : Nat) (A5 : Option Addr) (c6 : Nat) (h4 : FZ (RT.int .i64) b.w A2 c3 s1.Room) (h7 : FZ (RT.list (RT.int .i64)) b.w A5 c6 s1.Tracks) (x408 : Int) (hm : mFleetCheckDepot s1 = some x408) :
    CallsG Try.prog 59 [.agg #[.slice A2 (s1.Room).length c3, .slice A5 (s1.Tracks).length c6]] b (R) (fun v b' hp' => .int .i64 (x408) = v ∧ R = hp') := by
  refine fn_enterG 66 Try.func59 rfl Try.ntmps59 rfl ?_
  unfold mFleetCheckDepot at hm
  refine c_sr ?_
  refine t_do rfl (u_box _ rfl rfl) ?_
  rintro _ _ ⟨g409, rfl, rfl⟩
  refine t_as rfl rfl ?_
  refine t_ne ?_
  refine c_seq ?_
  refine c_block ?_
  refine c_sr ?_
  refine t_st rfl (st_field rfl fld63_0) ?_
  refine t_st rfl (st_load 0 rfl one45 rfl rfl) ?_
  refine t_st rfl (st_len rfl sl45) ?_
  obtain ⟨x410, hcl411, hm⟩ := bindS hm
  refine t_do rfl (u_callW0 _ call46 rfl (fun w ho => cFleetWithin _ [] (s1.Room.length : Int) 1 4 x410 hcl411) (fun _ _ _ h => h.2.symm)) ?_
  rintro _ _ ⟨⟨_, rfl, _⟩, rfl⟩
  refine t_st rfl (st_not rfl) ?_
  refine t_as rfl rfl ?_
  refine t_ne ?_
  refine c_cond _ rfl (fun hc412 => ?_) (fun hc412 => ?_)
  ·
   rw [if_neg (fun hh => Bool.noConfusion (hh.symm.trans (notT hc412)))] at hm
   refine c_sr ?_
   refine t_as rfl rfl ?_
   refine t_ne ?_
   refine c_ret ?_
   refine x_block_ret ?_
   refine x_then_ret ?_
   obtain rfl := some1 hm
   exact retM (rs := [.tmp 2]) [.int .i64 (4)] (Base.Le.refl _) (by decide) rfl ⟨rfl, trivial⟩ rfl (.cons _ (.refl _)) ⟨rfl, rfl⟩
  ·
   rw [if_pos (notF hc412)] at hm
   refine c_sr ?_
   refine t_st rfl (st_field rfl fld63_1) ?_
   refine t_st rfl (st_load 0 rfl one26 rfl rfl) ?_
   refine t_st rfl (st_len rfl sl26) ?_
   refine t_st rfl (st_field rfl fld63_0) ?_
   refine t_st rfl (st_load 0 rfl one45 rfl rfl) ?_
   refine t_st rfl (st_len rfl sl45) ?_
   refine t_st rfl (st_neq rfl rfl) ?_
   refine t_as rfl rfl ?_
   refine t_ne ?_
   refine c_cond _ rfl (fun hc413 => ?_) (fun hc413 => ?_)
   ·
    rw [if_pos (of_decide_eq_true hc413)] at hm
    refine c_sr ?_
    refine t_as rfl rfl ?_
    refine t_ne ?_
    refine c_ret ?_
    refine x_block_ret ?_
    refine x_then_ret ?_
    obtain rfl := some1 hm
    exact retM (rs := [.tmp 2]) [.int .i64 (1)] (Base.Le.refl _) (by decide) rfl ⟨rfl, trivial⟩ rfl (.cons _ (.refl _)) ⟨rfl, rfl⟩
   ·
    rw [if_neg (of_decide_eq_false hc413)] at hm
    refine c_skip ?_
    refine x_block_normal ?_
    refine x_then_normal ?_
    refine c_sr ?_
    refine t_do rfl (u_mmap (RT.int .i64) (OT.fr RT.bool) false false [_] R rfl) ?_
    rintro _ _ ⟨g414, hs415, rfl, rfl, h416⟩
    refine t_as rfl rfl ?_
    refine t_ne ?_
    refine c_seq ?_
    refine c_sr ?_
    refine t_st rfl (st_field rfl fld63_1) ?_
    refine t_st rfl (st_load 0 rfl one26 rfl rfl) ?_
    refine t_st rfl (st_len rfl sl26) ?_
    refine t_mv rfl rfl ?_
    refine t_ne ?_
    refine c_block ?_
    have hb418 : s1.Tracks.length ≤ 9223372036854775807 := (FZ.bd h7)
    obtain ⟨t676, hl677, hk678⟩ := bindS hm
    refine c_forM (fun k675 => fun l674 => fun b669 e' hp' => ∃ (hs672 : Hp), [(1, .pointer (some ⟨g409, 0, none⟩)), (3, .map (some g414)), (24, .slice A5 (s1.Tracks).length c6), (25, .int .i64 ((s1.Tracks.length : Int))), (26, .int .i64 ((k675 : Int)))] = e' ∧ (g409, Cl 63 [.slice A2 (s1.Room).length c3, .slice A5 (s1.Tracks).length c6]) :: (hs672 ++ R) = hp' ∧ b.Le b669 ∧ OM (RT.int .i64) (OT.fr RT.bool) false false b669.w g414 l674 hs672) hl677 (e' := [(1, .pointer (some ⟨g409, 0, none⟩)), (3, .map (some g414)), (24, .slice A5 (s1.Tracks).length c6), (25, .int .i64 ((s1.Tracks.length : Int))), (26, .int .i64 0)]) ⟨rfl, rfl, rfl, rfl, rfl, trivial⟩ (.refl _) ⟨hs415, rfl, rfl, (Base.Le.refl _), h416⟩ ?_ ?_
    ·
     rintro k675 l674 b669 _ _ oL417 hknL417 ⟨hs672, rfl, rfl, hle670, h673⟩ hstepL417 houtL417
     unfold mFleetCheckDepot_L417 at hstepL417
     have hm := hstepL417
     refine c_sr ?_
     refine t_st rfl (st_lss_t rfl rfl (by omega)) ?_
     refine t_ne ?_
     refine c_seq ?_
     refine c_cond_t rfl ?_
     refine c_skip ?_
     refine x_then_normal ?_
     refine c_seq ?_
     refine c_block ?_
     refine c_sr ?_
     refine t_mv rfl rfl ?_
     obtain ⟨x679, h680, hm⟩ := bindS hm
     obtain ⟨j681, hj682, hx683⟩ := idx_some h680
     obtain ⟨cs684, hr685, hcs686, hA687, hlt688⟩ := FZ.get (sz := 1) rfl (by decide) (h7.le hle670) hx683
     obtain ⟨A689, c690, rfl, h691⟩ := hr685
     refine t_st rfl (st_index_old j681 rfl rfl hj682 hlt688 hA687 sl26) ?_
     refine t_st rfl (st_load_old rfl one45 (hcs686 0 _ rfl)) ?_
     refine t_as rfl rfl ?_
     refine t_as rfl rfl ?_
     refine t_ne ?_
     refine c_seq ?_
     refine c_block ?_
     refine c_sr ?_
     refine t_st rfl (st_field rfl fld63_0) ?_
     refine t_st rfl (st_load 0 rfl one45 rfl rfl) ?_
     refine t_mv rfl rfl ?_
     obtain ⟨x692, h693, hm⟩ := bindS hm
     obtain ⟨j694, hj695, hx696⟩ := idx_some h693
     obtain ⟨cs697, hr698, hcs699, hA700, hlt701⟩ := FZ.get (sz := 1) rfl (by decide) (h4.le hle670) hx696
     obtain rfl := hr698
     refine t_st rfl (st_index_old j694 rfl rfl hj695 hlt701 hA700 sl45) ?_
     refine t_st rfl (st_load_old rfl one3 (hcs699 0 _ rfl)) ?_
     obtain ⟨x702, hcl703, hm⟩ := bindS hm
     refine t_do rfl (u_callW0 _ call46 rfl (fun w ho => cFleetWithin _ [] x692 1 4 x702 hcl703) (fun _ _ _ h => h.2.symm)) ?_
     rintro _ _ ⟨⟨_, rfl, _⟩, rfl⟩
     refine t_st rfl (st_not rfl) ?_
     refine t_as rfl rfl ?_
     refine t_ne ?_
     refine c_cond _ rfl (fun hc704 => ?_) (fun hc704 => ?_)
     ·
      rw [if_neg (fun hh => Bool.noConfusion (hh.symm.trans (notT hc704)))] at hm
      refine c_sr ?_
      refine t_as rfl rfl ?_
      refine t_ne ?_
      refine c_ret ?_
      refine x_block_ret ?_
      refine x_then_ret ?_
      refine x_block_ret ?_
      refine x_then_ret ?_
      refine x_then_ret ?_
      refine x_block_ret ?_
      refine x_then_ret ?_
      have hq705 := houtL417 _ (Option.some.inj hm).symm
      rw [hq705] at hk678
      have hm := elimR hk678
      obtain rfl := some1 hm
      exact retM (rs := [.tmp 2]) [.int .i64 (2)] hle670 (by decide) rfl ⟨rfl, trivial⟩ rfl (.cons _ (sub_skip hs672 (.refl _))) ⟨rfl, rfl⟩
     ·
      rw [if_pos (notF hc704)] at hm
      refine c_sr ?_
      refine t_mv rfl rfl ?_
      refine t_st rfl (st_len rfl sl45) ?_
      refine t_st rfl (st_field rfl fld63_0) ?_
      refine t_st rfl (st_load 0 rfl one45 rfl rfl) ?_
      refine t_mv rfl rfl ?_
      obtain ⟨x706, h707, hm⟩ := bindS hm
      obtain ⟨j708, hj709, hx710⟩ := idx_some h707
      obtain ⟨cs711, hr712, hcs713, hA714, hlt715⟩ := FZ.get (sz := 1) rfl (by decide) (h4.le hle670) hx710
      obtain rfl := hr712
      refine t_st rfl (st_index_old j708 rfl rfl hj709 hlt715 hA714 sl45) ?_
      refine t_st rfl (st_load_old rfl one3 (hcs713 0 _ rfl)) ?_
      refine t_st rfl (st_gtr rfl rfl) ?_
      refine t_as rfl rfl ?_
      refine t_ne ?_
      refine c_cond _ rfl (fun hc716 => ?_) (fun hc716 => ?_)
      ·
       rw [if_pos (of_decide_eq_true hc716)] at hm
       refine c_sr ?_
       refine t_as rfl rfl ?_
       refine t_ne ?_
       refine c_ret ?_
       refine x_block_ret ?_
       refine x_then_ret ?_
       refine x_block_ret ?_
       refine x_then_ret ?_
       refine x_then_ret ?_
       refine x_block_ret ?_
       refine x_then_ret ?_
       have hq717 := houtL417 _ (Option.some.inj hm).symm
       rw [hq717] at hk678
       have hm := elimR hk678
       obtain rfl := some1 hm
       exact retM (rs := [.tmp 2]) [.int .i64 (14)] hle670 (by decide) rfl ⟨rfl, trivial⟩ rfl (.cons _ (sub_skip hs672 (.refl _))) ⟨rfl, rfl⟩
      ·
       rw [if_neg (of_decide_eq_false hc716)] at hm
       refine c_skip ?_
       refine x_block_normal ?_
       refine x_then_normal ?_
       refine c_sr ?_
       refine t_mv rfl rfl ?_
       refine t_st rfl (st_len rfl sl45) ?_
       refine t_mv rfl rfl ?_
       refine t_ne ?_
       refine c_block ?_
       have hb719 : x679.length ≤ 9223372036854775807 := (FZ.bd h691)
       obtain ⟨t777, hl778, hk779⟩ := bindS hm
       refine c_forM (fun k776 => fun l775 => fun b770 e' hp' => ∃ (hs773 : Hp), [(1, .pointer (some ⟨g409, 0, none⟩)), (3, .map (some g414)), (24, .slice A5 (s1.Tracks).length c6), (25, .int .i64 ((s1.Tracks.length : Int))), (26, .int .i64 ((k675 : Int))), (48, .slice A689 (x679).length c690), (49, .int .i64 ((x679.length : Int))), (50, .int .i64 ((k776 : Int)))] = e' ∧ (g409, Cl 63 [.slice A2 (s1.Room).length c3, .slice A5 (s1.Tracks).length c6]) :: (hs773 ++ R) = hp' ∧ b669.Le b770 ∧ OM (RT.int .i64) (OT.fr RT.bool) false false b770.w g414 l775 hs773) hl778 (e' := [(1, .pointer (some ⟨g409, 0, none⟩)), (3, .map (some g414)), (24, .slice A5 (s1.Tracks).length c6), (25, .int .i64 ((s1.Tracks.length : Int))), (26, .int .i64 ((k675 : Int))), (48, .slice A689 (x679).length c690), (49, .int .i64 ((x679.length : Int))), (50, .int .i64 0)]) ⟨rfl, rfl, rfl, rfl, rfl, rfl, rfl, rfl, trivial⟩ (.refl _) ⟨hs672, rfl, rfl, (Base.Le.refl _), h673⟩ ?_ ?_
       ·
        rintro k776 l775 b770 _ _ oL718 hknL718 ⟨hs773, rfl, rfl, hle771, h774⟩ hstepL718 houtL718
        unfold mFleetCheckDepot_L718 at hstepL718
        have hm := hstepL718
        refine c_sr ?_
        refine t_st rfl (st_lss_t rfl rfl (by omega)) ?_
        refine t_ne ?_
        refine c_seq ?_
        refine c_cond_t rfl ?_
        refine c_skip ?_
        refine x_then_normal ?_
        refine c_seq ?_
        refine c_block ?_
        refine c_sr ?_
        obtain ⟨x780, h781, hm⟩ := bindS hm
        obtain ⟨j782, hj783, hx784⟩ := idx_some h781
        obtain ⟨cs785, hr786, hcs787, hA788, hlt789⟩ := FZ.get (sz := 1) rfl (by decide) (h691.le hle771) hx784
        obtain rfl := hr786
        refine t_st rfl (st_index_old j782 rfl rfl hj783 hlt789 hA788 sl45) ?_
        refine t_st rfl (st_load_old rfl one3 (hcs787 0 _ rfl)) ?_
        refine t_as rfl rfl ?_
        refine t_ne ?_
        refine c_seq ?_
        refine c_block ?_
        refine c_sr ?_
        refine t_mv rfl rfl ?_
        obtain ⟨x790, hcl791, hm⟩ := bindS hm
        refine t_do rfl (u_callW0 _ call46 rfl (fun w ho => cFleetWithin _ [] x780 0 99 x790 hcl791) (fun _ _ _ h => h.2.symm)) ?_
        rintro _ _ ⟨⟨_, rfl, _⟩, rfl⟩
        refine t_st rfl (st_not rfl) ?_
        refine t_as rfl rfl ?_
        refine t_ne ?_
        refine c_cond _ rfl (fun hc792 => ?_) (fun hc792 => ?_)
        ·
         rw [if_neg (fun hh => Bool.noConfusion (hh.symm.trans (notT hc792)))] at hm
         refine c_sr ?_
         refine t_as rfl rfl ?_
         refine t_ne ?_
         refine c_ret ?_
         refine x_block_ret ?_
         refine x_then_ret ?_
         refine x_block_ret ?_
         refine x_then_ret ?_
         refine x_then_ret ?_
         refine x_block_ret ?_
         refine x_block_ret ?_
         refine x_then_ret ?_
         refine x_then_ret ?_
         refine x_block_ret ?_
         refine x_then_ret ?_
         have hq793 := houtL718 _ (Option.some.inj hm).symm
         rw [hq793] at hk779
         have hm := elimR hk779
         have hq794 := houtL417 _ (Option.some.inj hm).symm
         rw [hq794] at hk678
         have hm := elimR hk678
         obtain rfl := some1 hm
         exact retM (rs := [.tmp 2]) [.int .i64 (2)] (hle670.trans hle771) (by decide) rfl ⟨rfl, trivial⟩ rfl (.cons _ (sub_skip hs773 (.refl _))) ⟨rfl, rfl⟩
        ·
         rw [if_pos (notF hc792)] at hm
         refine c_sr ?_
         refine t_mv rfl rfl ?_
         refine t_mv rfl rfl ?_
         obtain ⟨x798, h800, hm⟩ := bindS hm
         have hx799 := Option.some.inj h800
         obtain ⟨v795, hv796, hr797⟩ := OM.lookF kok3 (z0 := false) h774 (key := .int .i64 (x780)) (k := x780) rfl mapt161 zero4 rfl
         rw [hx799] at hv796
         obtain rfl : v795 = .bool (x798) := by have hv796 : [v795] = [.bool (x798)] := hv796; injection hv796
         refine t_st rfl (st_mlook (ok := false) rfl rfl (fun w ho => hr797 _ w ho (.cons _ (List.sublist_append_left _ _)) false)) ?_
         refine t_as rfl rfl ?_
         refine t_ne ?_
         refine c_cond _ rfl (fun hc801 => ?_) (fun hc801 => ?_)
         ·
          rw [if_pos hc801] at hm
          refine c_sr ?_
          refine t_as rfl rfl ?_
          refine t_ne ?_
          refine c_ret ?_
          refine x_block_ret ?_
          refine x_then_ret ?_
          refine x_block_ret ?_
          refine x_then_ret ?_
          refine x_then_ret ?_
          refine x_block_ret ?_
          refine x_block_ret ?_
          refine x_then_ret ?_
          refine x_then_ret ?_
          refine x_block_ret ?_
          refine x_then_ret ?_
          have hq802 := houtL718 _ (Option.some.inj hm).symm
          rw [hq802] at hk779
          have hm := elimR hk779
          have hq803 := houtL417 _ (Option.some.inj hm).symm
          rw [hq803] at hk678
          have hm := elimR hk678
          obtain rfl := some1 hm
          exact retM (rs := [.tmp 2]) [.int .i64 (6)] (hle670.trans hle771) (by decide) rfl ⟨rfl, trivial⟩ rfl (.cons _ (sub_skip hs773 (.refl _))) ⟨rfl, rfl⟩
         ·
          rw [if_neg (fun hh => Bool.noConfusion (hh.symm.trans hc801))] at hm
          refine c_skip ?_
          refine x_block_normal ?_
          refine x_then_normal ?_
          refine c_region ?_
          refine t_mv rfl rfl ?_
          refine t_mv rfl rfl ?_
          refine t_do rfl (u_mputF kok3 [_] [] R rfl h774 mapt161 rfl rfl rfl rfl ⟨rfl, rfl⟩ _ (.inl rfl)) ?_
          rintro _ _ ⟨hs804, rfl, hsub805, h806⟩
          refine t_nil ?_
          refine x_block_normal ?_
          refine x_then_normal ?_
          refine c_region ?_
          refine t_st rfl (st_add rfl rfl (by omega)) ?_
          refine t_mv rfl rfl ?_
          refine t_nil ?_
          exact x_againM (mput l775 x780 true) (Option.some.inj hm).symm (e' := [(1, .pointer (some ⟨g409, 0, none⟩)), (3, .map (some g414)), (24, .slice A5 (s1.Tracks).length c6), (25, .int .i64 ((s1.Tracks.length : Int))), (26, .int .i64 ((k675 : Int))), (48, .slice A689 (x679).length c690), (49, .int .i64 ((x679.length : Int))), (50, .int .i64 ((k776 : Int) + 1))]) ⟨rfl, rfl, rfl, rfl, rfl, rfl, rfl, rfl, trivial⟩ (.refl _) ⟨hs804, rfl, rfl, (hle771), h806⟩
       ·
        rintro l775 b770 _ _ ⟨hs773, rfl, rfl, hle771, h774⟩ hq807
        rw [hq807] at hk779
        have hm := elimL hk779
        refine c_sr ?_
        refine t_st rfl (st_lss_f rfl rfl (by omega)) ?_
        refine t_ne ?_
        refine c_seq ?_
        refine c_cond_f rfl ?_
        refine c_exit ?_
        refine x_then_exit ?_
        refine x_then_exit ?_
        refine x_block_out ?_
        refine x_block_normal ?_
        refine x_then_normal ?_
        refine c_region ?_
        refine t_st rfl (st_add rfl rfl (by omega)) ?_
        refine t_mv rfl rfl ?_
        refine t_nil ?_
        exact x_againM l775 (Option.some.inj hm).symm (e' := [(1, .pointer (some ⟨g409, 0, none⟩)), (3, .map (some g414)), (24, .slice A5 (s1.Tracks).length c6), (25, .int .i64 ((s1.Tracks.length : Int))), (26, .int .i64 ((k675 : Int) + 1))]) ⟨rfl, rfl, rfl, rfl, rfl, trivial⟩ (.refl _) ⟨hs773, rfl, rfl, ((hle670.trans hle771)), h774⟩
    ·
     rintro l674 b669 _ _ ⟨hs672, rfl, rfl, hle670, h673⟩ hq808
     rw [hq808] at hk678
     have hm := elimL hk678
     refine c_sr ?_
     refine t_st rfl (st_lss_f rfl rfl (by omega)) ?_
     refine t_ne ?_
     refine c_seq ?_
     refine c_cond_f rfl ?_
     refine c_exit ?_
     refine x_then_exit ?_
     refine x_then_exit ?_
     refine x_block_out ?_
     refine x_then_normal ?_
     refine c_sr ?_
     refine t_as rfl rfl ?_
     refine t_ne ?_
     refine c_ret ?_
     obtain rfl := some1 hm
     exact retM (rs := [.tmp 2]) [.int .i64 (0)] hle670 (by decide) rfl ⟨rfl, trivial⟩ rfl (.cons _ (sub_skip hs672 (.refl _))) ⟨rfl, rfl⟩

set_option maxRecDepth 20000 in
theorem cFleetShunt_1 (b : Base) (R : Hp) (x2 : Int) (l6 : (List Int)) (g1 : Nat) (A3 : Option Addr) (c4 : Nat) (h5 : FZ (RT.int .i64) b.w A3 c4 l6) (x7 : Bool) (hm : mFleetShunt_1 x2 l6 = some x7) :
    CallsG Try.prog 60 [.int .i64 (x2), .pointer (some ⟨g1, 0, none⟩)] b ((g1, Cl 45 [.slice A3 (l6).length c4]) :: R) (fun v b' hp' => .bool (x7) = v ∧ (g1, Cl 45 [.slice A3 (l6).length c4]) :: R = hp') := by
  refine fn_enterG 8 Try.func60 rfl Try.ntmps60 rfl ?_
  unfold mFleetShunt_1 at hm
  refine c_sr ?_
  refine t_as rfl rfl ?_
  refine t_ne ?_
  refine c_sr ?_
  refine t_mv rfl rfl ?_
  refine t_st rfl (st_load 0 rfl one45 rfl rfl) ?_
  refine t_st rfl (st_len rfl sl45) ?_
  refine t_st rfl (st_geq rfl rfl) ?_
  refine t_as rfl rfl ?_
  refine t_ne ?_
  refine c_ret ?_
  obtain rfl := some1 hm
  exact retM (rs := [.tmp 3]) [.bool (decide ((l6.length : Int) ≤ x2))] (Base.Le.refl _) (by decide) rfl ⟨rfl, trivial⟩ rfl (.refl _) ⟨rfl, rfl⟩

set_option maxRecDepth 20000 in
theorem cSlicesIndexFunc (b : Base) (R : Hp) (l5 : (List Int)) (l9 : (List Int)) (g1 : Nat) (A2 : Option Addr) (c3 : Nat) (A6 : Option Addr) (c7 : Nat) (h4 : FZ (RT.int .i64) b.w A2 c3 l5) (h8 : FZ (RT.int .i64) b.w A6 c7 l9) (x50 : Int) (hm : mSlicesIndexFunc l5 l9 = some x50) :
    CallsG Try.prog 57 [.slice A2 (l5).length c3, .func (.func 60) #[] #[.pointer (some ⟨g1, 0, none⟩)]] b ((g1, Cl 45 [.slice A6 (l9).length c7]) :: R) (fun v b' hp' => .int .i64 (x50) = v ∧ (g1, Cl 45 [.slice A6 (l9).length c7]) :: R = hp') := by
  refine fn_enterG 19 Try.func57 rfl Try.ntmps57 rfl ?_
  unfold mSlicesIndexFunc at hm
  refine c_sr ?_
  refine t_as rfl rfl ?_
  refine t_ne ?_
  refine c_seq ?_
  refine c_sr ?_
  refine t_mv rfl rfl ?_
  refine t_st rfl (st_len rfl sl45) ?_
  refine t_mv rfl rfl ?_
  refine t_ne ?_
  refine c_block ?_
  have hb52 : l5.length ≤ 9223372036854775807 := (FZ.bd h4)
  obtain ⟨t71, hl72, hk73⟩ := bindS hm
  refine c_forM (fun k70 => fun _ => fun b68 e' hp' => [(0, .slice A2 (l5).length c3), (1, .func (.func 60) #[] #[.pointer (some ⟨g1, 0, none⟩)]), (7, .int .i64 ((l5.length : Int))), (8, .int .i64 ((k70 : Int)))] = e' ∧ (g1, Cl 45 [.slice A6 (l9).length c7]) :: R = hp' ∧ b.Le b68) hl72 (e' := [(0, .slice A2 (l5).length c3), (1, .func (.func 60) #[] #[.pointer (some ⟨g1, 0, none⟩)]), (7, .int .i64 ((l5.length : Int))), (8, .int .i64 0)]) ⟨rfl, rfl, rfl, rfl, trivial⟩ (.refl _) ⟨rfl, rfl, (Base.Le.refl _)⟩ ?_ ?_
  ·
   rintro k70 _ b68 _ _ oL51 hknL51 ⟨rfl, rfl, hle69⟩ hstepL51 houtL51
   unfold mSlicesIndexFunc_L51 at hstepL51
   have hm := hstepL51
   refine c_sr ?_
   refine t_st rfl (st_lss_t rfl rfl (by omega)) ?_
   refine t_ne ?_
   refine c_seq ?_
   refine c_cond_t rfl ?_
   refine c_skip ?_
   refine x_then_normal ?_
   refine c_seq ?_
   refine c_block ?_
   refine c_sr ?_
   refine t_mv rfl rfl ?_
   refine t_as rfl rfl ?_
   refine t_ne ?_
   refine c_sr ?_
   refine t_mv rfl rfl ?_
   refine t_mv rfl rfl ?_
   refine t_mv rfl rfl ?_
   obtain ⟨x74, h75, hm⟩ := bindS hm
   obtain ⟨j76, hj77, hx78⟩ := idx_some h75
   obtain ⟨cs79, hr80, hcs81, hA82, hlt83⟩ := FZ.get (sz := 1) rfl (by decide) (h4.le hle69) hx78
   obtain rfl := hr80
   refine t_st rfl (st_index_old j76 rfl rfl hj77 hlt83 hA82 sl45) ?_
   refine t_st rfl (st_load_old rfl one3 (hcs81 0 _ rfl)) ?_
   obtain ⟨x84, hcl85, hm⟩ := bindS hm
   refine t_callvG #[] #[.pointer (some ⟨g1, 0, none⟩)] [.int .i64 (x74)] rfl rfl call60 rfl (cFleetShunt_1 _ _ x74 l9 g1 A6 c7 (h8.le hle69) x84 hcl85) ?_
   rintro _ b86 _ hle87 ⟨rfl, rfl⟩
   refine t_ne ?_
   refine c_cond _ rfl (fun hc88 => ?_) (fun hc88 => ?_)
   ·
    rw [if_pos hc88] at hm
    refine c_sr ?_
    refine t_mv rfl rfl ?_
    refine t_as rfl rfl ?_
    refine t_ne ?_
    refine c_ret ?_
    refine x_block_ret ?_
    refine x_then_ret ?_
    refine x_then_ret ?_
    refine x_block_ret ?_
    refine x_then_ret ?_
    have hq89 := houtL51 _ (Option.some.inj hm).symm
    rw [hq89] at hk73
    have hm := elimR hk73
    obtain rfl := some1 hm
    exact retM (rs := [.tmp 4]) [.int .i64 ((k70 : Int))] (hle69.trans hle87) (by decide) rfl ⟨rfl, trivial⟩ rfl (.refl _) ⟨rfl, rfl⟩
   ·
    rw [if_neg (fun hh => Bool.noConfusion (hh.symm.trans hc88))] at hm
    refine c_skip ?_
    refine x_block_normal ?_
    refine x_then_normal ?_
    refine c_region ?_
    refine t_st rfl (st_add rfl rfl (by omega)) ?_
    refine t_mv rfl rfl ?_
    refine t_nil ?_
    exact x_againM () (Option.some.inj hm).symm (e' := [(0, .slice A2 (l5).length c3), (1, .func (.func 60) #[] #[.pointer (some ⟨g1, 0, none⟩)]), (7, .int .i64 ((l5.length : Int))), (8, .int .i64 ((k70 : Int) + 1))]) ⟨rfl, rfl, rfl, rfl, trivial⟩ (.refl _) ⟨rfl, rfl, ((hle69.trans hle87))⟩
  ·
   rintro _ b68 _ _ ⟨rfl, rfl, hle69⟩ hq90
   rw [hq90] at hk73
   have hm := elimL hk73
   refine c_sr ?_
   refine t_st rfl (st_lss_f rfl rfl (by omega)) ?_
   refine t_ne ?_
   refine c_seq ?_
   refine c_cond_f rfl ?_
   refine c_exit ?_
   refine x_then_exit ?_
   refine x_then_exit ?_
   refine x_block_out ?_
   refine x_then_normal ?_
   refine c_sr ?_
   refine t_as rfl rfl ?_
   refine t_ne ?_
   refine c_ret ?_
   obtain rfl := some1 hm
   exact retM (rs := [.tmp 4]) [.int .i64 ((-1))] hle69 (by decide) rfl ⟨rfl, trivial⟩ rfl (.refl _) ⟨rfl, rfl⟩

set_option maxRecDepth 20000 in
theorem cSlicesContainsFunc (b : Base) (R : Hp) (l5 : (List Int)) (l9 : (List Int)) (g1 : Nat) (A2 : Option Addr) (c3 : Nat) (A6 : Option Addr) (c7 : Nat) (h4 : FZ (RT.int .i64) b.w A2 c3 l5) (h8 : FZ (RT.int .i64) b.w A6 c7 l9) (x14 : Bool) (hm : mSlicesContainsFunc l5 l9 = some x14) :
    CallsG Try.prog 27 [.slice A2 (l5).length c3, .func (.func 60) #[] #[.pointer (some ⟨g1, 0, none⟩)]] b ((g1, Cl 45 [.slice A6 (l9).length c7]) :: R) (fun v b' hp' => .bool (x14) = v ∧ (g1, Cl 45 [.slice A6 (l9).length c7]) :: R = hp') := by
  refine fn_enterG 9 Try.func27 rfl Try.ntmps27 rfl ?_
  unfold mSlicesContainsFunc at hm
  refine c_sr ?_
  refine t_as rfl rfl ?_
  refine t_ne ?_
  refine c_sr ?_
  refine t_mv rfl rfl ?_
  refine t_mv rfl rfl ?_
  obtain ⟨x15, hcl16, hm⟩ := bindS hm
  refine t_callG _ rfl call57 rfl (cSlicesIndexFunc _ _ l5 l9 g1 A2 c3 A6 c7 h4 h8 x15 hcl16) ?_
  rintro _ b17 _ hle18 ⟨rfl, rfl⟩
  refine t_st rfl (st_geq rfl rfl) ?_
  refine t_as rfl rfl ?_
  refine t_ne ?_
  refine c_ret ?_
  obtain rfl := some1 hm
  exact retM (rs := [.tmp 4]) [.bool (decide (0 ≤ x15))] hle18 (by decide) rfl ⟨rfl, trivial⟩ rfl (.refl _) ⟨rfl, rfl⟩

set_option maxRecDepth 20000 in
theorem cFleetStateOf (b : Base) (R : Hp) (s1 : FleetDepot) (A2 : Option Addr) (c3 : Nat) (A5 : Option Addr) (c6 : Nat) (h4 : FZ (RT.int .i64) b.w A2 c3 s1.Room) (h7 : FZ (RT.list (RT.int .i64)) b.w A5 c6 s1.Tracks) (l392 : (List (List Int))) (hm : mFleetStateOf s1 = some l392) :
    CallsG Try.prog 61 [.agg #[.slice A2 (s1.Room).length c3, .slice A5 (s1.Tracks).length c6]] b (R) (fun v b' hp' => ∃ (cs393 : List Value), .agg (cs393).toArray = v ∧ R = hp' ∧ (RT.arr 4 (RT.arr 4 (RT.int .i64))).rep b'.w cs393 l392) := by
  refine fn_enterG 32 Try.func61 rfl Try.ntmps61 rfl ?_
  unfold mFleetStateOf at hm
  refine c_sr ?_
  refine t_do rfl (u_box _ rfl rfl) ?_
  rintro _ _ ⟨g395, rfl, rfl⟩
  have h397 : (RT.arr 4 (RT.arr 4 (RT.int .i64))).rep b.w ((List.replicate 4 ((List.replicate 4 [.int .i64 0]).flatten)).flatten) (List.replicate 4 (List.replicate 4 (0 : Int))) := (arr_zero 4 (arr_zero 4 rfl))
  refine t_do rfl (u_alloc ((List.replicate 4 ((List.replicate 4 [.int .i64 0]).flatten)).flatten) zero113 (by kernel_rfl)) ?_
  rintro _ _ ⟨g396, rfl, rfl⟩
  refine t_ne ?_
  refine c_sr ?_
  have h399 : (RT.arr 4 (RT.arr 4 (RT.int .i64))).rep b.w ((List.replicate 4 ((List.replicate 4 [.int .i64 0]).flatten)).flatten) (List.replicate 4 (List.replicate 4 (0 : Int))) := (arr_zero 4 (arr_zero 4 rfl))
  refine t_do rfl (u_alloc ((List.replicate 4 ((List.replicate 4 [.int .i64 0]).flatten)).flatten) zero113 (by kernel_rfl)) ?_
  rintro _ _ ⟨g398, rfl, rfl⟩
  refine t_ne ?_
  refine c_seq ?_
  refine c_sr ?_
  refine t_st rfl (st_field rfl fld63_1) ?_
  refine t_st rfl (st_load 2 rfl one26 rfl rfl) ?_
  refine t_st rfl (st_len rfl sl26) ?_
  refine t_mv rfl rfl ?_
  refine t_ne ?_
  refine c_block ?_
  have hb401 : s1.Tracks.length ≤ 9223372036854775807 := (FZ.bd h7)
  refine c_pullb 1 rfl ?_
  obtain ⟨l651, hl655, hk656⟩ := bindS hm
  refine c_forS (fun k654 => fun l651 => fun b649 e' hp' => ∃ (cs652 : List Value), [(2, .pointer (some ⟨g396, 0, none⟩)), (3, .pointer (some ⟨g398, 0, none⟩)), (9, .slice A5 (s1.Tracks).length c6), (10, .int .i64 ((s1.Tracks.length : Int))), (11, .int .i64 ((k654 : Int)))] = e' ∧ (g396, Cl 113 ((List.replicate 4 ((List.replicate 4 [.int .i64 0]).flatten)).flatten)) :: (g398, Cl 113 cs652) :: R = hp' ∧ b.Le b649 ∧ (RT.arr 4 (RT.arr 4 (RT.int .i64))).rep b649.w cs652 l651) hl655 (e' := [(2, .pointer (some ⟨g396, 0, none⟩)), (3, .pointer (some ⟨g398, 0, none⟩)), (9, .slice A5 (s1.Tracks).length c6), (10, .int .i64 ((s1.Tracks.length : Int))), (11, .int .i64 0)]) ⟨rfl, rfl, rfl, rfl, rfl, trivial⟩ (.cons_cons _ (.cons_cons _ (.cons _ (.refl _)))) ⟨(List.replicate 4 ((List.replicate 4 [.int .i64 0]).flatten)).flatten, rfl, rfl, (Base.Le.refl _), h399⟩ ?_ ?_
  ·
   rintro k654 l651 b649 _ _ oL400 hknL400 ⟨cs652, rfl, rfl, hle650, h653⟩ hstepL400
   unfold mFleetStateOf_L400 at hstepL400
   have hm := hstepL400
   refine c_sr ?_
   refine t_st rfl (st_lss_t rfl rfl (by omega)) ?_
   refine t_ne ?_
   refine c_seq ?_
   refine c_cond_t rfl ?_
   refine c_skip ?_
   refine x_then_normal ?_
   refine c_seq ?_
   refine c_block ?_
   refine c_sr ?_
   refine t_mv rfl rfl ?_
   obtain ⟨x657, h658, hm⟩ := bindS hm
   obtain ⟨j659, hj660, hx661⟩ := idx_some h658
   obtain ⟨cs662, hr663, hcs664, hA665, hlt666⟩ := FZ.get (sz := 1) rfl (by decide) (h7.le hle650) hx661
   obtain ⟨A667, c668, rfl, h669⟩ := hr663
   refine t_st rfl (st_index_old j659 rfl rfl hj660 hlt666 hA665 sl26) ?_
   refine t_st rfl (st_load_old rfl one45 (hcs664 0 _ rfl)) ?_
   refine t_as rfl rfl ?_
   refine t_as rfl rfl ?_
   refine t_ne ?_
   refine c_sr ?_
   refine t_mv rfl rfl ?_
   refine t_st rfl (st_len rfl sl45) ?_
   refine t_mv rfl rfl ?_
   refine t_ne ?_
   refine c_block ?_
   have hb671 : x657.length ≤ 9223372036854775807 := (FZ.bd h669)
   refine c_pullb 1 rfl ?_
   refine c_pullb 1 rfl ?_
   obtain ⟨l741, hl745, hk746⟩ := bindS hm
   refine c_forS (fun k744 => fun l741 => fun b739 e' hp' => ∃ (cs742 : List Value), [(2, .pointer (some ⟨g396, 0, none⟩)), (3, .pointer (some ⟨g398, 0, none⟩)), (4, .int .i64 ((k654 : Int))), (9, .slice A5 (s1.Tracks).length c6), (10, .int .i64 ((s1.Tracks.length : Int))), (11, .int .i64 ((k654 : Int))), (16, .slice A667 (x657).length c668), (17, .int .i64 ((x657.length : Int))), (18, .int .i64 ((k744 : Int)))] = e' ∧ (g396, Cl 113 ((List.replicate 4 ((List.replicate 4 [.int .i64 0]).flatten)).flatten)) :: (g398, Cl 113 cs742) :: R = hp' ∧ b649.Le b739 ∧ (RT.arr 4 (RT.arr 4 (RT.int .i64))).rep b739.w cs742 l741) hl745 (e' := [(2, .pointer (some ⟨g396, 0, none⟩)), (3, .pointer (some ⟨g398, 0, none⟩)), (4, .int .i64 ((k654 : Int))), (9, .slice A5 (s1.Tracks).length c6), (10, .int .i64 ((s1.Tracks.length : Int))), (11, .int .i64 ((k654 : Int))), (16, .slice A667 (x657).length c668), (17, .int .i64 ((x657.length : Int))), (18, .int .i64 0)]) ⟨rfl, rfl, rfl, rfl, rfl, rfl, rfl, rfl, rfl, trivial⟩ (.refl _) ⟨cs652, rfl, rfl, (Base.Le.refl _), h653⟩ ?_ ?_
   ·
    rintro k744 l741 b739 _ _ oL670 hknL670 ⟨cs742, rfl, rfl, hle740, h743⟩ hstepL670
    unfold mFleetStateOf_L670 at hstepL670
    have hm := hstepL670
    refine c_sr ?_
    refine t_st rfl (st_lss_t rfl rfl (by omega)) ?_
    refine t_ne ?_
    refine c_seq ?_
    refine c_cond_t rfl ?_
    refine c_skip ?_
    refine x_then_normal ?_
    refine c_seq ?_
    refine c_block ?_
    refine c_sr ?_
    refine t_mv rfl rfl ?_
    obtain ⟨x747, h748, hm⟩ := bindS hm
    obtain ⟨j749, hj750, hx751⟩ := idx_some h748
    obtain ⟨cs752, hr753, hcs754, hA755, hlt756⟩ := FZ.get (sz := 1) rfl (by decide) (h669.le hle740) hx751
    obtain rfl := hr753
    refine t_st rfl (st_index_old j749 rfl rfl hj750 hlt756 hA755 sl45) ?_
    refine t_st rfl (st_load_old rfl one3 (hcs754 0 _ rfl)) ?_
    refine t_as rfl rfl ?_
    refine t_as rfl rfl ?_
    refine t_ne ?_
    refine c_region ?_
    refine t_mv rfl rfl ?_
    refine t_mv rfl rfl ?_
    refine t_mv rfl rfl ?_
    obtain ⟨_, h757, hm⟩ := bindS hm
    have h757 := (chk_some h757).2
    refine t_st rfl (st_add rfl rfl h757) ?_
    obtain ⟨x758, h759, hm⟩ := bindS hm
    obtain ⟨j760, hj761, hx762⟩ := idx_some h759
    obtain ⟨cs763, hr764, hcs765, hlt766⟩ := arr_in (sz := 4) rfl h743 hx762
    refine t_st rfl (st_baddr j760 rfl rfl hj761 hlt766 arr113 (Nat.zero_add _)) ?_
    obtain ⟨x767, h768, hm⟩ := bindS hm
    obtain ⟨j769, hj770, hx771⟩ := idx_some h768
    obtain ⟨cs772, hr773, hcs774, hlt775⟩ := arr_in (sz := 1) rfl hr764 hx771
    have hcs776 := fun i u hu => (Nat.add_assoc (j760 * 4) (j769 * 1) i) ▸ hcs765 _ _ (hcs774 i u hu)
    obtain rfl := hr773
    refine t_st rfl (st_baddr j769 rfl rfl hj770 hlt775 arr111 rfl) ?_
    have h777 : (RT.arr 4 (RT.arr 4 (RT.int .i64))).rep b739.w (cs742.set (j760 * 4 + j769 * 1) (.int .i64 (x747 + 1))) (put l741 (k654 : Int) (put x758 (k744 : Int) (x747 + 1))) := arr_put (k := j769 * 1) hj761 h743 hx762 (by show j769 * 1 < 4; omega) rfl (fun _ hd1 => arr_put (k := 0) hj770 hd1 hx771 (by decide) rfl int_set)
    refine t_do rfl (u_storeArr 1 rfl rfl siz3 rfl rfl h743 (by show j760 * 4 + j769 * 1 < 16; omega)) ?_
    rintro _ _ rfl
    refine t_nil ?_
    refine x_block_normal ?_
    refine x_then_normal ?_
    refine c_region ?_
    refine t_st rfl (st_add rfl rfl (by omega)) ?_
    refine t_mv rfl rfl ?_
    refine t_nil ?_
    refine x_pullb 1 rfl ?_
    refine x_pullb 1 rfl ?_
    obtain rfl := some1 hm
    exact x_againS (e' := [(2, .pointer (some ⟨g396, 0, none⟩)), (3, .pointer (some ⟨g398, 0, none⟩)), (4, .int .i64 ((k654 : Int))), (9, .slice A5 (s1.Tracks).length c6), (10, .int .i64 ((s1.Tracks.length : Int))), (11, .int .i64 ((k654 : Int))), (16, .slice A667 (x657).length c668), (17, .int .i64 ((x657.length : Int))), (18, .int .i64 ((k744 : Int) + 1))]) ⟨rfl, rfl, rfl, rfl, rfl, rfl, rfl, rfl, rfl, trivial⟩ (.refl _) ⟨cs742.set (j760 * 4 + j769 * 1) (.int .i64 (x747 + 1)), rfl, rfl, (hle740), h777⟩
   ·
    rintro b739 _ _ ⟨cs742, rfl, rfl, hle740, h743⟩
    have hm := hk746
    refine c_sr ?_
    refine t_st rfl (st_lss_f rfl rfl (by omega)) ?_
    refine t_ne ?_
    refine c_seq ?_
    refine c_cond_f rfl ?_
    refine c_exit ?_
    refine x_then_exit ?_
    refine x_then_exit ?_
    refine x_block_out ?_
    refine x_block_normal ?_
    refine x_then_normal ?_
    refine c_region ?_
    refine t_st rfl (st_add rfl rfl (by omega)) ?_
    refine t_mv rfl rfl ?_
    refine t_nil ?_
    refine x_pullb 1 rfl ?_
    refine x_pullb 1 rfl ?_
    obtain rfl := some1 hm
    exact x_againS (e' := [(2, .pointer (some ⟨g396, 0, none⟩)), (3, .pointer (some ⟨g398, 0, none⟩)), (9, .slice A5 (s1.Tracks).length c6), (10, .int .i64 ((s1.Tracks.length : Int))), (11, .int .i64 ((k654 : Int) + 1))]) ⟨rfl, rfl, rfl, rfl, rfl, trivial⟩ (.refl _) ⟨cs742, rfl, rfl, ((hle650.trans hle740)), h743⟩
  ·
   rintro b649 _ _ ⟨cs652, rfl, rfl, hle650, h653⟩
   have hm := hk656
   refine c_sr ?_
   refine t_st rfl (st_lss_f rfl rfl (by omega)) ?_
   refine t_ne ?_
   refine c_seq ?_
   refine c_cond_f rfl ?_
   refine c_exit ?_
   refine x_then_exit ?_
   refine x_then_exit ?_
   refine x_block_out ?_
   refine x_then_normal ?_
   refine c_sr ?_
   refine t_st rfl (st_loadArr 1 rfl agg113 rfl h653) ?_
   refine t_do rfl (u_storeAll 0 rfl rfl siz113 rfl (RT.le (RT.arr 4 (RT.arr 4 (RT.int .i64))) h397 hle650) h653) ?_
   rintro _ _ rfl
   refine t_ne ?_
   refine c_ret ?_
   obtain rfl := some1 hm
   exact retM (rs := [.cell 2 113]) [.agg (cs652).toArray] hle650 (by decide) rfl ⟨⟨_, rfl, fun w ho => cell_arr 0 agg113 rfl h653 w ho⟩, trivial⟩ rfl (.cons _ (.cons _ (.refl _))) ⟨cs652, rfl, rfl, h653⟩

set_option maxRecDepth 20000 in
theorem cFleetQueuePut (b : Base) (R : Hp) (s7 : FleetTry) (l17 : (List FleetTry)) (g6 : Nat) (A8 : Option Addr) (c9 : Nat) (A11 : Option Addr) (c12 : Nat) (A14 : Option Addr) (c15 : Nat) (A3 : Option Addr) (c4 : Nat) (hs2 : Hp) (h10 : FZ (RT.int .i64) b.w A8 c9 s7.depot.Room) (h13 : FZ (RT.list (RT.int .i64)) b.w A11 c12 s7.depot.Tracks) (h16 : FZ rFleetMove b.w A14 c15 s7.moves) (h5 : OS 122 (OT.fr rFleetTry) b.w (.slice A3 l17.length c4) l17 hs2) (hnz18 : (A3 = none ↔ l17 = [])) (l37 : (List FleetTry)) (hm : mFleetQueuePut s7 l17 = some l37) :
    CallsG Try.prog 62 [.pointer (some ⟨g6, 0, none⟩), .agg #[.slice A8 (s7.depot.Room).length c9, .slice A11 (s7.depot.Tracks).length c12, .int .i64 (s7.left), .slice A14 (s7.moves).length c15]] b ((g6, Cl 119 [.slice A3 (l17).length c4]) :: (hs2 ++ R)) (fun v b' hp' => ∃ (A34 : Option Addr), ∃ (c35 : Nat), ∃ (hs33 : Hp), .tuple #[] = v ∧ (g6, Cl 119 [.slice A34 (l37).length c35]) :: (hs33 ++ R) = hp' ∧ OS 122 (OT.fr rFleetTry) b'.w (.slice A34 l37.length c35) l37 hs33 ∧ (A34 = none ↔ l37 = [])) := by
  refine fn_enterG 14 Try.func62 rfl Try.ntmps62 rfl ?_
  unfold mFleetQueuePut at hm
  refine c_sr ?_
  refine t_do rfl (u_box _ rfl rfl) ?_
  rintro _ _ ⟨g39, rfl, rfl⟩
  refine t_ne ?_
  obtain ⟨_, h47, hm⟩ := bindS hm
  refine D_drawI mixed (.cons_cons _ (.cons _ (sub_skip hs2 (.refl _)))) ?_
  refine E_st 0 rfl (st_move rfl) ?_
  refine E_st 1 rfl (st_move rfl) ?_
  refine E_st 2 rfl (st_nil rfl) ?_
  refine E_st 3 rfl (st_field rfl fld119_0) ?_
  refine E_st 5 rfl (st_loadD (vs := [_, _, _, _]) 0 4 rfl agg122 rfl rfl rfl) ?_
  refine E_out ?_
  refine D_all [4, 6] (by kernel_rfl) rfl ?_
  refine R_do (Base.Le.refl _) rfl rfl (Stable.does (st_load 1 rfl one117 rfl rfl)) ?_ ?_
  ·
   rintro _ _ ⟨rfl, rfl⟩
   refine ⟨.inr (.cons_cons _ (.cons _ (sub_skip hs2 (.refl _)))), ?_⟩
   refine D_all [6] (by kernel_rfl) rfl ?_
   refine R_do (Base.Le.refl _) rfl rfl (u_bslice (el := 122) [(0, .agg #[.slice A8 (s7.depot.Room).length c9, .slice A11 (s7.depot.Tracks).length c12, .int .i64 (s7.left), .slice A14 (s7.moves).length c15])] [.slice A8 (s7.depot.Room).length c9, .slice A11 (s7.depot.Tracks).length c12, .int .i64 (s7.left), .slice A14 (s7.moves).length c15] rfl (fun _ => by kernel_rfl)) ?_ ?_
   ·
    rintro _ _ ⟨g46, rfl, rfl⟩
    refine ⟨.inr (.cons _ (.cons_cons _ (.cons _ (sub_skip hs2 (.refl _))))), ?_⟩
    have h47 := room_some h47
    refine D_all [7] (by kernel_rfl) rfl ?_
    refine R_do (Base.Le.refl _) rfl rfl (u_appOS (r := rFleetTry) (l := l17) [_, _, _] R [[.slice A8 (s7.depot.Room).length c9, .slice A11 (s7.depot.Tracks).length c12, .int .i64 (s7.left), .slice A14 (s7.moves).length c15]] [s7] rfl (by decide) sl117 inf122 rfl rfl rfl rfl h5 rfl (fun w ho => Rd.own (i := 0) ho rfl) ⟨⟨[.slice A8 (s7.depot.Room).length c9, .slice A11 (s7.depot.Tracks).length c12], _, rfl, ⟨[.slice A8 (s7.depot.Room).length c9], _, rfl, (RT.list_mk h10), (RT.list_mk h13)⟩, ⟨[.int .i64 (s7.left)], _, rfl, rfl, (RT.list_mk h16)⟩⟩, trivial⟩ h47) ?_ ?_
    ·
     rintro _ _ ⟨hs48, rfl, h49⟩
     obtain ⟨A50, c51, rfl, _⟩ := h49.form
     refine ⟨.inr (.cons _ (.cons_cons _ (.cons _ (sub_skip hs48 (.refl _))))), ?_⟩
     refine E_in (.cons _ (.cons_cons _ (.cons _ (sub_skip hs48 (.refl _))))) ?_
     refine E_st 8 rfl (st_nil rfl) ?_
     refine E_st 9 rfl (st_field rfl fld119_0) ?_
     refine E_out ?_
     refine D_all [10] (by kernel_rfl) rfl ?_
     refine R_do (Base.Le.refl _) rfl rfl (u_store 2 rfl rfl siz117 rfl rfl (by simp)) ?_ ?_
     ·
      rintro _ _ rfl
      refine ⟨.inr (.cons _ (.cons_cons _ (.cons _ (sub_skip hs48 (.refl _))))), ?_⟩
      refine D_done (by kernel_rfl) ?_
      obtain rfl := some1 hm
      refine x_pullb 2 rfl ?_
      exact endM (Base.Le.refl _) rfl (.cons_cons _ (.cons _ (.cons _ (.refl _)))) ⟨A50, c51, hs48, rfl, rfl, h49, (OS.nz h49 (by simp))⟩
     exact R_nil
    exact R_nil
   exact R_nil
  refine R_do (Base.Le.refl _) rfl rfl (u_bslice (el := 122) [(0, .agg #[.slice A8 (s7.depot.Room).length c9, .slice A11 (s7.depot.Tracks).length c12, .int .i64 (s7.left), .slice A14 (s7.moves).length c15])] [.slice A8 (s7.depot.Room).length c9, .slice A11 (s7.depot.Tracks).length c12, .int .i64 (s7.left), .slice A14 (s7.moves).length c15] rfl (fun _ => by kernel_rfl)) ?_ ?_
  ·
   rintro _ _ ⟨g46, rfl, rfl⟩
   refine ⟨.inr (.cons _ (.cons_cons _ (.cons _ (sub_skip hs2 (.refl _))))), ?_⟩
   refine D_all [4] (by kernel_rfl) rfl ?_
   refine R_do (Base.Le.refl _) rfl rfl (Stable.does (st_load 2 rfl one117 rfl rfl)) ?_ ?_
   ·
    rintro _ _ ⟨rfl, rfl⟩
    refine ⟨.inr (.cons _ (.cons_cons _ (.cons _ (sub_skip hs2 (.refl _))))), ?_⟩
    have h47 := room_some h47
    refine D_all [7] (by kernel_rfl) rfl ?_
    refine R_do (Base.Le.refl _) rfl rfl (u_appOS (r := rFleetTry) (l := l17) [_, _, _] R [[.slice A8 (s7.depot.Room).length c9, .slice A11 (s7.depot.Tracks).length c12, .int .i64 (s7.left), .slice A14 (s7.moves).length c15]] [s7] rfl (by decide) sl117 inf122 rfl rfl rfl rfl h5 rfl (fun w ho => Rd.own (i := 0) ho rfl) ⟨⟨[.slice A8 (s7.depot.Room).length c9, .slice A11 (s7.depot.Tracks).length c12], _, rfl, ⟨[.slice A8 (s7.depot.Room).length c9], _, rfl, (RT.list_mk h10), (RT.list_mk h13)⟩, ⟨[.int .i64 (s7.left)], _, rfl, rfl, (RT.list_mk h16)⟩⟩, trivial⟩ h47) ?_ ?_
    ·
     rintro _ _ ⟨hs48, rfl, h49⟩
     obtain ⟨A50, c51, rfl, _⟩ := h49.form
     refine ⟨.inr (.cons _ (.cons_cons _ (.cons _ (sub_skip hs48 (.refl _))))), ?_⟩
     refine E_in (.cons _ (.cons_cons _ (.cons _ (sub_skip hs48 (.refl _))))) ?_
     refine E_st 8 rfl (st_nil rfl) ?_
     refine E_st 9 rfl (st_field rfl fld119_0) ?_
     refine E_out ?_
     refine D_all [10] (by kernel_rfl) rfl ?_
     refine R_do (Base.Le.refl _) rfl rfl (u_store 2 rfl rfl siz117 rfl rfl (by simp)) ?_ ?_
     ·
      rintro _ _ rfl
      refine ⟨.inr (.cons _ (.cons_cons _ (.cons _ (sub_skip hs48 (.refl _))))), ?_⟩
      refine D_done (by kernel_rfl) ?_
      obtain rfl := some1 hm
      refine x_pullb 2 rfl ?_
      exact endM (Base.Le.refl _) rfl (.cons_cons _ (.cons _ (.cons _ (.refl _)))) ⟨A50, c51, hs48, rfl, rfl, h49, (OS.nz h49 (by simp))⟩
     exact R_nil
    exact R_nil
   exact R_nil
  exact R_nil

set_option maxRecDepth 20000 in
theorem cFleetDo_1 (b : Base) (R : Hp) (x2 : Int) (l6 : (List Int)) (l10 : (List (List Int))) (g1 : Nat) (A3 : Option Addr) (c4 : Nat) (A7 : Option Addr) (c8 : Nat) (h5 : FZ (RT.int .i64) b.w A3 c4 l6) (h9 : FZ (RT.list (RT.int .i64)) b.w A7 c8 l10) (x14 : Bool) (hm : mFleetDo_1 x2 l6 l10 = some x14) :
    CallsG Try.prog 96 [.int .i64 (x2), .pointer (some ⟨g1, 0, none⟩)] b ((g1, Cl 63 [.slice A3 (l6).length c4, .slice A7 (l10).length c8]) :: R) (fun v b' hp' => .bool (x14) = v ∧ (g1, Cl 63 [.slice A3 (l6).length c4, .slice A7 (l10).length c8]) :: R = hp') := by
  refine fn_enterG 10 Try.func96 rfl Try.ntmps96 rfl ?_
  unfold mFleetDo_1 at hm
  refine c_sr ?_
  refine t_as rfl rfl ?_
  refine t_ne ?_
  refine c_sr ?_
  refine t_mv rfl rfl ?_
  refine t_st rfl (st_field rfl fld63_1) ?_
  refine t_st rfl (st_load 0 rfl one26 rfl rfl) ?_
  refine t_st rfl (st_len rfl sl26) ?_
  obtain ⟨_, h15, hm⟩ := bindS hm
  have h15 := (chk_some h15).2
  refine t_st rfl (st_sub rfl rfl h15) ?_
  obtain ⟨x16, hcl17, hm⟩ := bindS hm
  refine t_do rfl (u_callW0 _ call46 rfl (fun w ho => cFleetWithin _ [] x2 0 ((l10.length : Int) - 1) x16 hcl17) (fun _ _ _ h => h.2.symm)) ?_
  rintro _ _ ⟨⟨_, rfl, _⟩, rfl⟩
  refine t_as rfl rfl ?_
  refine t_ne ?_
  refine c_ret ?_
  obtain rfl := some1 hm
  exact retM (rs := [.tmp 3]) [.bool (x16)] (Base.Le.refl _) (by decide) rfl ⟨rfl, trivial⟩ rfl (.refl _) ⟨rfl, rfl⟩

set_option maxRecDepth 20000 in
theorem clSlicesClone (A : Option Addr) (n c : Nat) (xs : List Value) (w : World) (hR : Rd w A xs) (hl : xs.length = n * 1) (hn : n * 8 ≤ 140737488355328 ∧ n ≤ 9223372036854775807) :
    CallsH Try.prog 66 [.slice A n c] w [] (fun v hp' => Seg0 3 1 v n xs hp') := by
  refine fn_enter 8 Try.func66 rfl Try.ntmps66 rfl ?_
  refine c_sr ?_
  refine t_as rfl rfl ?_
  refine t_ne ?_
  refine c_seq ?_
  refine c_sr ?_
  refine t_mv rfl rfl ?_
  refine t_bool rfl (st_eqnil rfl rfl sl45) (fun hc1 => ?_) (fun hc1 => ?_)
  ·
    refine t_ne ?_
    refine c_cond_t rfl ?_
    refine c_sr ?_
    refine t_as rfl rfl ?_
    refine t_ne ?_
    refine c_ret ?_
    refine x_then_ret ?_
    subst hc1
    obtain rfl := hR.none_nil
    obtain rfl : n = 0 := by simp at hl; omega
    refine x_drop (hp' := []) (by repeat (first | exact List.Sublist.refl _ | exact List.nil_sublist _ | exact List.sublist_append_left _ _ | exact List.sublist_append_right _ _ | exact (List.sublist_append_right _ _).trans (List.sublist_append_right _ _) | apply List.Sublist.cons_cons | apply List.Sublist.cons)) ?_
    exact ret1 (Base.Le.refl _) rfl rfl (Seg0.nil)
  ·
    refine t_ne ?_
    refine c_cond_f rfl ?_
    refine c_skip ?_
    refine x_then_normal ?_
    refine c_sr ?_
    refine t_do rfl (u_bslice (el := 3) [] [] rfl (fun _ => by kernel_rfl)) ?_
    rintro _ _ ⟨g0, rfl, rfl⟩
    refine t_mv rfl rfl ?_
    refine t_do rfl (u_app0 xs sl45 inf3 rfl (by decide) rfl rfl hl (fun w ho => hR.old ho) hn.2 hn.1) ?_
    rintro _ _ ⟨hs, rfl, hseg⟩
    refine t_as rfl rfl ?_
    refine t_ne ?_
    refine c_ret ?_
    refine x_drop (hp' := hs) (by repeat (first | exact List.Sublist.refl _ | exact List.nil_sublist _ | exact List.sublist_append_left _ _ | exact List.sublist_append_right _ _ | exact (List.sublist_append_right _ _).trans (List.sublist_append_right _ _) | apply List.Sublist.cons_cons | apply List.Sublist.cons)) ?_
    exact ret1 (Base.Le.refl _) rfl rfl hseg

set_option maxRecDepth 20000 in
theorem cSlicesClone (b : Base) (R : Hp) (l4 : (List Int)) (A1 : Option Addr) (c2 : Nat) (h3 : FZ (RT.int .i64) b.w A1 c2 l4) (l10 : (List Int)) (hm : mSlicesClone l4 = some l10) :
    CallsG Try.prog 66 [.slice A1 (l4).length c2] b (R) (fun v b' hp' => ∃ (A7 : Option Addr), ∃ (c8 : Nat), ∃ (hs6 : Hp), .slice A7 (l10).length c8 = v ∧ (hs6 ++ R) = hp' ∧ OS 3 (OT.fr (RT.int .i64)) b'.w (.slice A7 l10.length c8) l10 hs6) := by
  unfold mSlicesClone at hm
  obtain ⟨_, hroom, hm⟩ := bindS hm
  have hroom := room_some hroom
  obtain rfl := some1 hm
  exact clone_of (r := (RT.int .i64)) (sz := 1) (by_ := 8) rfl (by decide) clSlicesClone h3 hroom

end Go.Proofs.Ytajmocgpjkhjlaa
