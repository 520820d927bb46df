/- Contracts: the code computes its model (part 3). -/
import Derived.Test.YtcibjjhanafojaaDoorUP2
set_option linter.unusedVariables false
set_option linter.unusedSimpArgs false
namespace Go.Proofs.YtcibjjhanafojaaDoor
open Go.RowKit Go.Fp

set_option maxRecDepth 20000 in
theorem cLineOuts (b : Base) (R : Hp) (x1 : Int) (x2 : Int) (l38 : (List Int)) (hm : mLineOuts x1 x2 = some l38) :
    CallsG Tryd.prog 26 [.int .i64 (x1), .int .i64 (x2)] b (R) (fun v b' hp' => ∃ (A35 : Option Addr), ∃ (c36 : Nat), .slice A35 (l38).length c36 = v ∧ R = hp' ∧ FZ (RT.int .i64) b'.w A35 c36 l38) := by
  refine fn_enterG 20 Tryd.func26 rfl Tryd.ntmps26 rfl ?_
  unfold mLineOuts at hm
  refine c_seq ?_
  refine c_region ?_
  refine t_st rfl (st_assign rfl) ?_
  refine t_nil ?_
  refine x_then_normal ?_
  refine c_seq ?_
  refine c_block ?_
  obtain ⟨x42, hj43, hk43⟩ := bindS hm
  refine c_join (fun b40 e' hp' => [(0, .int .i64 (x1)), (1, .int .i64 (x2)), (5, .bool (x42))] = e' ∧ R = hp' ∧ b.Le b40) ?_ ?_
  ·
   have hm := hj43
   refine c_region ?_
   refine t_st rfl (st_move rfl) ?_
   refine t_bool rfl (st_eql rfl rfl) (fun hc44 => ?_) (fun hc44 => ?_)
   ·
    rw [if_pos hc44] at hm
    refine t_st rfl (st_move rfl) ?_
    refine t_yes 8 rfl rfl rfl ?_
    refine t_st rfl (st_move rfl) ?_
    refine t_yes 8 rfl rfl rfl ?_
    refine t_st rfl (st_eql rfl rfl) ?_
    refine t_st rfl (st_pick_t rfl rfl) ?_
    refine t_st rfl (st_assign rfl) ?_
    refine t_nil ?_
    obtain rfl := some1 hm
    exact x_join (e' := [(0, .int .i64 (x1)), (1, .int .i64 (x2)), (5, .bool (decide (x2 = 0)))]) (hp' := R) ⟨rfl, rfl, rfl, trivial⟩ (.refl _) ⟨rfl, rfl, (Base.Le.refl _)⟩
   ·
    rw [if_neg hc44] at hm
    refine t_st rfl (st_move rfl) ?_
    refine t_no 8 rfl rfl rfl rfl rfl ?_
    refine t_no 8 rfl rfl rfl rfl rfl ?_
    refine t_st rfl (st_pick_f rfl rfl) ?_
    refine t_st rfl (st_assign rfl) ?_
    refine t_nil ?_
    obtain rfl := some1 hm
    exact x_join (e' := [(0, .int .i64 (x1)), (1, .int .i64 (x2)), (5, .bool (false))]) (hp' := R) ⟨rfl, rfl, rfl, trivial⟩ (.refl _) ⟨rfl, rfl, (Base.Le.refl _)⟩
  ·
   rintro b40 _ _ ⟨rfl, rfl, hle41⟩
   have hm := hk43
   refine c_cond _ rfl (fun hc45 => ?_) (fun hc45 => ?_)
   ·
    rw [if_pos hc45] at hm
    refine c_seq ?_
    refine c_region ?_
    refine t_do rfl (u_bslice (el := 3) [(0, .int .i64 (1)), (1, .int .i64 (2))] [.int .i64 (1), .int .i64 (2)] rfl (fun _ => by kernel_rfl)) ?_
    rintro _ _ ⟨g46, rfl, rfl⟩
    refine t_st rfl (st_assign rfl) ?_
    refine t_nil ?_
    refine x_then_normal ?_
    refine c_ret ?_
    refine x_block_ret ?_
    refine x_then_ret ?_
    refine x_seg 0 [] R rfl rfl ?_
    have h48 : OS 3 (OT.fr (RT.int .i64)) b40.w (.slice (some ⟨g46, 0, none⟩) 2 2) [1, 2] [(g46, Cl 3 [.int .i64 (1), .int .i64 (2)])] := OS.lit [[.int .i64 (1)], [.int .i64 (2)]] rfl ⟨rfl, ⟨rfl, trivial⟩⟩ rfl (by decide)
    have hnz49 : (((some ⟨g46, 0, none⟩) : Option Addr) = none ↔ [1, 2] = []) := ⟨nofun, nofun⟩
    refine x_frz [] [(g46, Cl 3 [.int .i64 (1), .int .i64 (2)])] R rfl ?_
    intro b50 hle51 hz52
    have h53 := OS.frz (l := [1, 2]) h48 hle51.cells hz52
    obtain rfl := some1 hm
    exact retM (rs := [.tmp 4]) [.slice (some ⟨g46, 0, none⟩) ([1, 2]).length 2] (hle41.trans hle51) (by decide) rfl ⟨rfl, trivial⟩ rfl (hp' := R) (.refl _) ⟨(some ⟨g46, 0, none⟩), 2, rfl, rfl, h53⟩
   ·
    rw [if_neg (fun hh => Bool.noConfusion (hh.symm.trans hc45))] at hm
    refine c_seq ?_
    refine c_region ?_
    refine t_st rfl (st_move rfl) ?_
    refine t_st rfl (st_eql rfl rfl) ?_
    refine t_st rfl (st_assign rfl) ?_
    refine t_nil ?_
    refine x_then_normal ?_
    refine c_cond _ rfl (fun hc54 => ?_) (fun hc54 => ?_)
    ·
     rw [if_pos (of_decide_eq_true hc54)] at hm
     refine c_seq ?_
     refine c_region ?_
     refine t_do rfl (u_bslice (el := 3) [(0, .int .i64 (0))] [.int .i64 (0)] rfl (fun _ => by kernel_rfl)) ?_
     rintro _ _ ⟨g55, rfl, rfl⟩
     refine t_st rfl (st_assign rfl) ?_
     refine t_nil ?_
     refine x_then_normal ?_
     refine c_ret ?_
     refine x_block_ret ?_
     refine x_then_ret ?_
     refine x_seg 0 [] R rfl rfl ?_
     have h57 : OS 3 (OT.fr (RT.int .i64)) b40.w (.slice (some ⟨g55, 0, none⟩) 1 1) [0] [(g55, Cl 3 [.int .i64 (0)])] := OS.lit [[.int .i64 (0)]] rfl ⟨rfl, trivial⟩ rfl (by decide)
     have hnz58 : (((some ⟨g55, 0, none⟩) : Option Addr) = none ↔ [0] = []) := ⟨nofun, nofun⟩
     refine x_frz [] [(g55, Cl 3 [.int .i64 (0)])] R rfl ?_
     intro b59 hle60 hz61
     have h62 := OS.frz (l := [0]) h57 hle60.cells hz61
     obtain rfl := some1 hm
     exact retM (rs := [.tmp 4]) [.slice (some ⟨g55, 0, none⟩) ([0]).length 1] (hle41.trans hle60) (by decide) rfl ⟨rfl, trivial⟩ rfl (hp' := R) (.refl _) ⟨(some ⟨g55, 0, none⟩), 1, rfl, rfl, h62⟩
    ·
     rw [if_neg (of_decide_eq_false hc54)] at hm
     refine c_skip ?_
     refine x_block_normal ?_
     refine x_then_normal ?_
     refine c_seq ?_
     refine c_region ?_
     refine t_st rfl (st_move rfl) ?_
     refine t_st rfl (st_xor rfl rfl) ?_
     refine t_do rfl (u_bslice (el := 3) [(0, .int .i64 (xorI .i64 x2 1))] [.int .i64 (xorI .i64 x2 1)] rfl (fun _ => by kernel_rfl)) ?_
     rintro _ _ ⟨g63, rfl, rfl⟩
     refine t_st rfl (st_assign rfl) ?_
     refine t_nil ?_
     refine x_then_normal ?_
     refine c_ret ?_
     refine x_seg 0 [] R rfl rfl ?_
     have h65 : OS 3 (OT.fr (RT.int .i64)) b40.w (.slice (some ⟨g63, 0, none⟩) 1 1) [xorI .i64 x2 1] [(g63, Cl 3 [.int .i64 (xorI .i64 x2 1)])] := OS.lit [[.int .i64 (xorI .i64 x2 1)]] rfl ⟨rfl, trivial⟩ rfl (by decide)
     have hnz66 : (((some ⟨g63, 0, none⟩) : Option Addr) = none ↔ [xorI .i64 x2 1] = []) := ⟨nofun, nofun⟩
     refine x_frz [] [(g63, Cl 3 [.int .i64 (xorI .i64 x2 1)])] R rfl ?_
     intro b67 hle68 hz69
     have h70 := OS.frz (l := [xorI .i64 x2 1]) h65 hle68.cells hz69
     obtain rfl := some1 hm
     exact retM (rs := [.tmp 4]) [.slice (some ⟨g63, 0, none⟩) ([xorI .i64 x2 1]).length 1] (hle41.trans hle68) (by decide) rfl ⟨rfl, trivial⟩ rfl (hp' := R) (.refl _) ⟨(some ⟨g63, 0, none⟩), 1, rfl, rfl, h70⟩

set_option maxRecDepth 20000 in
theorem cSlicesIndex_2 (b : Base) (R : Hp) (l4 : (List Int)) (x5 : Int) (A1 : Option Addr) (c2 : Nat) (h3 : FZ (RT.int .i64) b.w A1 c2 l4) (x38 : Int) (hm : mSlicesIndex_2 l4 x5 = some x38) :
    CallsG Tryd.prog 48 [.slice A1 (l4).length c2, .int .i64 (x5)] b (R) (fun v b' hp' => .int .i64 (x38) = v ∧ R = hp') := by
  refine fn_enterG 19 Tryd.func48 rfl Tryd.ntmps48 rfl ?_
  unfold mSlicesIndex_2 at hm
  refine c_seq ?_
  refine c_region ?_
  refine t_st rfl (st_assign rfl) ?_
  refine t_nil ?_
  refine x_then_normal ?_
  refine c_seq ?_
  refine c_seq ?_
  refine c_region ?_
  refine t_st rfl (st_move rfl) ?_
  refine t_st rfl (st_len rfl sl48) ?_
  refine t_st rfl (st_move rfl) ?_
  refine t_nil ?_
  refine x_then_normal ?_
  refine c_block ?_
  have hb40 : l4.length ≤ 9223372036854775807 := (FZ.bd h3)
  obtain ⟨t55, hl56, hk57⟩ := bindS hm
  refine c_forM (fun k54 => fun _ => fun b52 e' hp' => [(0, .slice A1 (l4).length c2), (1, .int .i64 (x5)), (7, .int .i64 ((l4.length : Int))), (8, .int .i64 ((k54 : Int)))] = e' ∧ R = hp' ∧ b.Le b52) hl56 (e' := [(0, .slice A1 (l4).length c2), (1, .int .i64 (x5)), (7, .int .i64 ((l4.length : Int))), (8, .int .i64 0)]) (hp' := R) ⟨rfl, rfl, rfl, rfl, trivial⟩ (.refl _) ⟨rfl, rfl, (Base.Le.refl _)⟩ ?_ ?_
  ·
   rintro k54 _ b52 _ _ oL39 hknL39 ⟨rfl, rfl, hle53⟩ hstepL39 houtL39
   unfold mSlicesIndex_2_L39 at hstepL39
   have hm := hstepL39
   refine c_seq ?_
   refine c_region ?_
   refine t_st rfl (st_lss_t rfl rfl (by omega)) ?_
   refine t_nil ?_
   refine x_then_normal ?_
   refine c_seq ?_
   refine c_cond_t rfl ?_
   refine c_skip ?_
   refine x_then_normal ?_
   refine c_seq ?_
   refine c_block ?_
   refine c_seq ?_
   refine c_region ?_
   refine t_st rfl (st_move rfl) ?_
   refine t_st rfl (st_assign rfl) ?_
   refine t_nil ?_
   refine x_then_normal ?_
   refine c_seq ?_
   refine c_region ?_
   refine t_st rfl (st_move rfl) ?_
   refine t_st rfl (st_move rfl) ?_
   refine t_st rfl (st_move rfl) ?_
   obtain ⟨x58, h59, hm⟩ := bindS hm
   obtain ⟨j60, hj61, hx62⟩ := idx_some h59
   obtain ⟨cs63, hr64, hcs65, hA66, hlt67⟩ := FZ.get (sz := 1) rfl (by decide) (h3.le hle53) hx62
   obtain rfl := hr64
   refine t_st rfl (st_index_old j60 rfl rfl hj61 hlt67 hA66 sl48) ?_
   refine t_st rfl (st_load_old rfl one3 (hcs65 0 _ rfl)) ?_
   refine t_st rfl (st_eql rfl rfl) ?_
   refine t_nil ?_
   refine x_then_normal ?_
   refine c_cond _ rfl (fun hc68 => ?_) (fun hc68 => ?_)
   ·
    rw [if_pos (of_decide_eq_true hc68)] at hm
    refine c_seq ?_
    refine c_region ?_
    refine t_st rfl (st_move rfl) ?_
    refine t_st rfl (st_assign rfl) ?_
    refine t_nil ?_
    refine x_then_normal ?_
    refine c_ret ?_
    refine x_block_ret ?_
    refine x_then_ret ?_
    refine x_then_ret ?_
    refine x_block_ret ?_
    refine x_then_ret ?_
    have hq69 := houtL39 _ (Option.some.inj hm).symm
    rw [hq69] at hk57
    have hm := elimR hk57
    obtain rfl := some1 hm
    exact retM (rs := [.tmp 4]) [.int .i64 ((k54 : Int))] hle53 (by decide) rfl ⟨rfl, trivial⟩ rfl (hp' := R) (.refl _) ⟨rfl, rfl⟩
   ·
    rw [if_neg (of_decide_eq_false hc68)] at hm
    refine c_skip ?_
    refine x_block_normal ?_
    refine x_then_normal ?_
    refine c_region ?_
    refine t_st rfl (st_add rfl rfl (by omega)) ?_
    refine t_st rfl (st_move rfl) ?_
    refine t_nil ?_
    exact x_againM () (Option.some.inj hm).symm (e' := [(0, .slice A1 (l4).length c2), (1, .int .i64 (x5)), (7, .int .i64 ((l4.length : Int))), (8, .int .i64 ((k54 : Int) + 1))]) (hp' := R) ⟨rfl, rfl, rfl, rfl, trivial⟩ (.refl _) ⟨rfl, rfl, (hle53)⟩
  ·
   rintro _ b52 _ _ ⟨rfl, rfl, hle53⟩ hq70
   rw [hq70] at hk57
   have hm := elimL hk57
   refine c_seq ?_
   refine c_region ?_
   refine t_st rfl (st_lss_f rfl rfl (by omega)) ?_
   refine t_nil ?_
   refine x_then_normal ?_
   refine c_seq ?_
   refine c_cond_f rfl ?_
   refine c_exit ?_
   refine x_then_exit ?_
   refine x_then_exit ?_
   refine x_block_out ?_
   refine x_then_normal ?_
   refine c_seq ?_
   refine c_region ?_
   refine t_st rfl (st_assign rfl) ?_
   refine t_nil ?_
   refine x_then_normal ?_
   refine c_ret ?_
   obtain rfl := some1 hm
   exact retM (rs := [.tmp 4]) [.int .i64 ((-1))] hle53 (by decide) rfl ⟨rfl, trivial⟩ rfl (hp' := R) (.refl _) ⟨rfl, rfl⟩

set_option maxRecDepth 20000 in
theorem cSlicesContains_2 (b : Base) (R : Hp) (l4 : (List Int)) (x5 : Int) (A1 : Option Addr) (c2 : Nat) (h3 : FZ (RT.int .i64) b.w A1 c2 l4) (x8 : Bool) (hm : mSlicesContains_2 l4 x5 = some x8) :
    CallsG Tryd.prog 25 [.slice A1 (l4).length c2, .int .i64 (x5)] b (R) (fun v b' hp' => .bool (x8) = v ∧ R = hp') := by
  refine fn_enterG 9 Tryd.func25 rfl Tryd.ntmps25 rfl ?_
  unfold mSlicesContains_2 at hm
  refine c_seq ?_
  refine c_region ?_
  refine t_st rfl (st_assign rfl) ?_
  refine t_nil ?_
  refine x_then_normal ?_
  refine c_seq ?_
  refine c_region ?_
  refine t_st rfl (st_move rfl) ?_
  refine t_st rfl (st_move rfl) ?_
  obtain ⟨x9, hcl10, hm⟩ := bindS hm
  refine t_do rfl (u_callW0 _ call48 rfl (fun w ho => cSlicesIndex_2 _ [] l4 x5 A1 c2 (h3.old ho) x9 hcl10) (fun _ _ _ h => h.2.symm)) ?_
  rintro _ _ ⟨⟨_, rfl, _⟩, rfl⟩
  refine t_st rfl (st_geq rfl rfl) ?_
  refine t_st rfl (st_assign rfl) ?_
  refine t_nil ?_
  refine x_then_normal ?_
  refine c_ret ?_
  obtain rfl := some1 hm
  exact retM (rs := [.tmp 4]) [.bool (decide (0 ≤ x9))] (Base.Le.refl _) (by decide) rfl ⟨rfl, trivial⟩ rfl (hp' := R) (.refl _) ⟨rfl, rfl⟩

set_option maxRecDepth 20000 in
theorem cLineCheckPath (b : Base) (R : Hp) (s1 : ApiNet) (l20 : (List ApiStep)) (A2 : Option Addr) (c3 : Nat) (A5 : Option Addr) (c6 : Nat) (A8 : Option Addr) (c9 : Nat) (A11 : Option Addr) (c12 : Nat) (A14 : Option Addr) (c15 : Nat) (A17 : Option Addr) (c18 : Nat) (h4 : FZ RT.str b.w A2 c3 s1.Stations) (h7 : FZ rApiSection b.w A5 c6 s1.Sections) (h10 : FZ rApiLink b.w A8 c9 s1.Links) (h13 : FZ rApiSignal b.w A11 c12 s1.Signals) (h16 : FZ rApiGate b.w A14 c15 s1.Gates) (h19 : FZ rApiStep b.w A17 c18 l20) (x582 : Int) (hm : mLineCheckPath s1 l20 = some x582) :
    CallsG Tryd.prog 8 [.agg #[.slice A2 (s1.Stations).length c3, .slice A5 (s1.Sections).length c6, .slice A8 (s1.Links).length c9, .slice A11 (s1.Signals).length c12, .slice A14 (s1.Gates).length c15], .slice A17 (l20).length c18] b (R) (fun v b' hp' => .int .i64 (x582) = v ∧ R = hp') := by
  refine fn_enterG 98 Tryd.func8 rfl Tryd.ntmps8 rfl ?_
  unfold mLineCheckPath at hm
  refine c_seq ?_
  refine c_region ?_
  refine t_do rfl (u_box _ rfl rfl) ?_
  rintro _ _ ⟨g583, rfl, rfl⟩
  refine t_st rfl (st_assign rfl) ?_
  refine t_nil ?_
  refine x_then_normal ?_
  refine c_seq ?_
  refine c_seq ?_
  refine c_region ?_
  refine t_st rfl (st_loadD (vs := [_, _, _, _, _]) 0 5 rfl agg28 rfl rfl rfl) ?_
  obtain ⟨x584, hcl585, hm⟩ := bindS hm
  refine t_do rfl (u_callW0 _ call15 rfl (fun w ho => cLineCheck _ [] s1 A2 c3 A5 c6 A8 c9 A11 c12 A14 c15 (h4.old ho) (h7.old ho) (h10.old ho) (h13.old ho) (h16.old ho) x584 hcl585) (fun _ _ _ h => h.2.symm)) ?_
  rintro _ _ ⟨⟨_, rfl, _⟩, rfl⟩
  refine t_st rfl (st_assign rfl) ?_
  refine t_nil ?_
  refine x_then_normal ?_
  refine c_seq ?_
  refine c_region ?_
  refine t_st rfl (st_move rfl) ?_
  refine t_st rfl (st_neq rfl rfl) ?_
  refine t_nil ?_
  refine x_then_normal ?_
  refine c_cond _ rfl (fun hc586 => ?_) (fun hc586 => ?_)
  ·
   rw [if_pos (of_decide_eq_true hc586)] at hm
   refine c_seq ?_
   refine c_region ?_
   refine t_st rfl (st_move rfl) ?_
   refine t_st rfl (st_assign rfl) ?_
   refine t_nil ?_
   refine x_then_normal ?_
   refine c_ret ?_
   refine x_then_ret ?_
   obtain rfl := some1 hm
   exact retM (rs := [.tmp 4]) [.int .i64 (x584)] (Base.Le.refl _) (by decide) rfl ⟨rfl, trivial⟩ rfl (hp' := R) (.cons _ (.refl _)) ⟨rfl, rfl⟩
  ·
   rw [if_neg (of_decide_eq_false hc586)] at hm
   refine c_skip ?_
   refine x_then_normal ?_
   refine c_seq ?_
   refine c_seq ?_
   refine c_region ?_
   refine t_st rfl (st_move rfl) ?_
   refine t_st rfl (st_len rfl sl29) ?_
   refine t_st rfl (st_gtr rfl rfl) ?_
   refine t_nil ?_
   refine x_then_normal ?_
   refine c_cond _ rfl (fun hc587 => ?_) (fun hc587 => ?_)
   ·
    rw [if_pos (of_decide_eq_true hc587)] at hm
    refine c_seq ?_
    refine c_region ?_
    refine t_st rfl (st_assign rfl) ?_
    refine t_nil ?_
    refine x_then_normal ?_
    refine c_ret ?_
    refine x_then_ret ?_
    obtain rfl := some1 hm
    exact retM (rs := [.tmp 4]) [.int .i64 (4)] (Base.Le.refl _) (by decide) rfl ⟨rfl, trivial⟩ rfl (hp' := R) (.cons _ (.refl _)) ⟨rfl, rfl⟩
   ·
    rw [if_neg (of_decide_eq_false hc587)] at hm
    refine c_skip ?_
    refine x_then_normal ?_
    refine c_seq ?_
    refine c_region ?_
    refine t_do rfl (u_mmap (RT.int .i64) (OT.fr RT.bool) false false [_] R rfl) ?_
    rintro _ _ ⟨g588, hs589, rfl, rfl, h590⟩
    refine t_st rfl (st_assign rfl) ?_
    refine t_nil ?_
    refine x_then_normal ?_
    refine c_seq ?_
    refine c_seq ?_
    refine c_region ?_
    refine t_st rfl (st_move rfl) ?_
    refine t_st rfl (st_len rfl sl29) ?_
    refine t_st rfl (st_move rfl) ?_
    refine t_nil ?_
    refine x_then_normal ?_
    refine c_block ?_
    have hb592 : l20.length ≤ 9223372036854775807 := (FZ.bd h19)
    obtain ⟨t958, hl959, hk960⟩ := bindS hm
    refine c_forM (fun k957 => fun l956 => fun b951 e' hp' => ∃ (hs954 : Hp), [(1, .slice A17 (l20).length c18), (2, .pointer (some ⟨g583, 0, none⟩)), (6, .map (some g588)), (21, .slice A17 (l20).length c18), (22, .int .i64 ((l20.length : Int))), (23, .int .i64 ((k957 : Int)))] = e' ∧ (g583, Cl 28 [.slice A2 (s1.Stations).length c3, .slice A5 (s1.Sections).length c6, .slice A8 (s1.Links).length c9, .slice A11 (s1.Signals).length c12, .slice A14 (s1.Gates).length c15]) :: (hs954 ++ R) = hp' ∧ b.Le b951 ∧ OM (RT.int .i64) (OT.fr RT.bool) false false b951.w g588 l956 hs954) hl959 (e' := [(1, .slice A17 (l20).length c18), (2, .pointer (some ⟨g583, 0, none⟩)), (6, .map (some g588)), (21, .slice A17 (l20).length c18), (22, .int .i64 ((l20.length : Int))), (23, .int .i64 0)]) (hp' := (g583, Cl 28 [.slice A2 (s1.Stations).length c3, .slice A5 (s1.Sections).length c6, .slice A8 (s1.Links).length c9, .slice A11 (s1.Signals).length c12, .slice A14 (s1.Gates).length c15]) :: (hs589 ++ R)) ⟨rfl, rfl, rfl, rfl, rfl, rfl, trivial⟩ (.cons_cons _ (sub_app hs589 (.refl _))) ⟨hs589, rfl, rfl, (Base.Le.refl _), h590⟩ ?_ ?_
    ·
     rintro k957 l956 b951 _ _ oL591 hknL591 ⟨hs954, rfl, rfl, hle952, h955⟩ hstepL591 houtL591
     unfold mLineCheckPath_L591 at hstepL591
     have hm := hstepL591
     refine c_seq ?_
     refine c_region ?_
     refine t_st rfl (st_lss_t rfl rfl (by omega)) ?_
     refine t_nil ?_
     refine x_then_normal ?_
     refine c_seq ?_
     refine c_cond_t rfl ?_
     refine c_skip ?_
     refine x_then_normal ?_
     refine c_seq ?_
     refine c_block ?_
     refine c_seq ?_
     refine c_region ?_
     refine t_st rfl (st_move rfl) ?_
     obtain ⟨x961, h962, hm⟩ := bindS hm
     obtain ⟨j963, hj964, hx965⟩ := idx_some h962
     obtain ⟨cs966, hr967, hcs968, hA969, hlt970⟩ := FZ.get (sz := 3) rfl (by decide) (h19.le hle952) hx965
     obtain ⟨_, _, rfl, rfl, ⟨_, _, rfl, rfl, rfl⟩⟩ := hr967
     refine t_st rfl (st_index_old j963 rfl rfl hj964 hlt970 hA969 sl29) ?_
     refine t_st rfl (st_loadN_old (vs := [.int .i64 (x961.Section), .int .i64 (x961.In), .int .i64 (x961.Out)]) 3 rfl agg43 hA969 rfl (fun j u hu => hcs968 j u hu)) ?_
     refine t_do rfl (u_alloc [.int .i64 0, .int .i64 0, .int .i64 0] zero43 rfl) ?_
     rintro _ _ ⟨g971, rfl, rfl⟩
     refine t_st rfl (st_assign rfl) ?_
     refine t_do rfl (u_storeN (vs := [_, _, _]) 0 3 rfl rfl rfl siz43 rfl (by intro u hu; simp only [List.mem_cons, List.not_mem_nil, or_false] at hu; rcases hu with rfl | rfl | rfl <;> rfl) rfl (by simp)) ?_
     rintro _ _ rfl
     refine t_nil ?_
     refine x_then_normal ?_
     refine c_seq ?_
     refine c_block ?_
     obtain ⟨x979, hj980, hk980⟩ := bindS hm
     refine c_join (fun b977 e' hp' => [(1, .slice A17 (l20).length c18), (2, .pointer (some ⟨g583, 0, none⟩)), (6, .map (some g588)), (7, .int .i64 ((k957 : Int))), (8, .pointer (some ⟨g971, 0, none⟩)), (21, .slice A17 (l20).length c18), (22, .int .i64 ((l20.length : Int))), (23, .int .i64 ((k957 : Int))), (28, .bool (x979))] = e' ∧ (g583, Cl 28 [.slice A2 (s1.Stations).length c3, .slice A5 (s1.Sections).length c6, .slice A8 (s1.Links).length c9, .slice A11 (s1.Signals).length c12, .slice A14 (s1.Gates).length c15]) :: (g971, Cl 43 [.int .i64 (x961.Section), .int .i64 (x961.In), .int .i64 (x961.Out)]) :: (hs954 ++ R) = hp' ∧ b951.Le b977) ?_ ?_
     ·
      have hm := hj980
      refine c_region ?_
      refine t_st rfl (st_loadD (vs := [_, _, _, _, _]) 1 5 rfl agg28 rfl rfl rfl) ?_
      refine t_st rfl (st_field rfl fld43_0) ?_
      refine t_st rfl (st_load 0 rfl one3 rfl rfl) ?_
      refine t_st rfl (st_field rfl fld43_1) ?_
      refine t_st rfl (st_load 0 rfl one3 rfl rfl) ?_
      refine t_st rfl (st_build (v := .agg #[.int .i64 (x961.Section), .int .i64 (x961.In)]) [(0, .int .i64 (x961.Section)), (1, .int .i64 (x961.In))] rfl (fun _ => by kernel_rfl)) ?_
      obtain ⟨x981, hcl982, hm⟩ := bindS hm
      refine t_do rfl (u_callW0 _ call24 rfl (fun w ho => cLineHas _ [] s1 (⟨x961.Section, x961.In⟩ : LineEnd) A2 c3 A5 c6 A8 c9 A11 c12 A14 c15 ((h4.le hle952).old ho) ((h7.le hle952).old ho) ((h10.le hle952).old ho) ((h13.le hle952).old ho) ((h16.le hle952).old ho) x981 hcl982) (fun _ _ _ h => h.2.symm)) ?_
      rintro _ _ ⟨⟨_, rfl, _⟩, rfl⟩
      rcases Bool.eq_false_or_eq_true x981 with hc983 | hc983
      ·
       rw [if_pos hc983] at hm
       refine t_resp 35 rfl (v' := .bool true) (by rw [hc983] <;> rfl) ?_
       refine t_st rfl (st_not_t rfl) ?_
       refine t_st rfl (st_move rfl) ?_
       refine t_yes 37 rfl rfl rfl ?_
       refine t_st rfl (st_loadD (vs := [_, _, _, _, _]) 1 5 rfl agg28 rfl rfl rfl) ?_
       refine t_yes 37 rfl rfl rfl ?_
       refine t_st rfl (st_field rfl fld43_0) ?_
       refine t_yes 37 rfl rfl rfl ?_
       refine t_st rfl (st_load 0 rfl one3 rfl rfl) ?_
       refine t_yes 37 rfl rfl rfl ?_
       refine t_st rfl (st_field rfl fld43_2) ?_
       refine t_yes 37 rfl rfl rfl ?_
       refine t_st rfl (st_load 0 rfl one3 rfl rfl) ?_
       refine t_yes 37 rfl rfl rfl ?_
       refine t_st rfl (st_build (v := .agg #[.int .i64 (x961.Section), .int .i64 (x961.Out)]) [(0, .int .i64 (x961.Section)), (1, .int .i64 (x961.Out))] rfl (fun _ => by kernel_rfl)) ?_
       refine t_yes 37 rfl rfl rfl ?_
       obtain ⟨x984, hcl985, hm⟩ := bindS hm
       refine t_do rfl (u_callW0 _ call24 rfl (fun w ho => cLineHas _ [] s1 (⟨x961.Section, x961.Out⟩ : LineEnd) A2 c3 A5 c6 A8 c9 A11 c12 A14 c15 ((h4.le hle952).old ho) ((h7.le hle952).old ho) ((h10.le hle952).old ho) ((h13.le hle952).old ho) ((h16.le hle952).old ho) x984 hcl985) (fun _ _ _ h => h.2.symm)) ?_
       rintro _ _ ⟨⟨_, rfl, _⟩, rfl⟩
       refine t_yes 37 rfl rfl rfl ?_
       refine t_st rfl (st_not rfl) ?_
       refine t_st rfl (st_pick_f rfl rfl) ?_
       refine t_st rfl (st_assign rfl) ?_
       refine t_nil ?_
       obtain rfl := some1 hm
       refine x_pullb 1 rfl ?_
       exact x_join (e' := [(1, .slice A17 (l20).length c18), (2, .pointer (some ⟨g583, 0, none⟩)), (6, .map (some g588)), (7, .int .i64 ((k957 : Int))), (8, .pointer (some ⟨g971, 0, none⟩)), (21, .slice A17 (l20).length c18), (22, .int .i64 ((l20.length : Int))), (23, .int .i64 ((k957 : Int))), (28, .bool (!x984))]) (hp' := (g583, Cl 28 [.slice A2 (s1.Stations).length c3, .slice A5 (s1.Sections).length c6, .slice A8 (s1.Links).length c9, .slice A11 (s1.Signals).length c12, .slice A14 (s1.Gates).length c15]) :: (g971, Cl 43 [.int .i64 (x961.Section), .int .i64 (x961.In), .int .i64 (x961.Out)]) :: (hs954 ++ R)) ⟨rfl, rfl, rfl, rfl, rfl, rfl, rfl, rfl, rfl, trivial⟩ (.cons_cons _ (.cons_cons _ (sub_app hs954 (.refl _)))) ⟨rfl, rfl, (Base.Le.refl _)⟩
      ·
       rw [if_neg (fun hh => Bool.noConfusion (hh.symm.trans hc983))] at hm
       refine t_resp 35 rfl (v' := .bool false) (by rw [hc983] <;> rfl) ?_
       refine t_st rfl (st_not_f rfl) ?_
       refine t_st rfl (st_move rfl) ?_
       refine t_no 37 rfl rfl rfl rfl rfl ?_
       refine t_no 37 rfl rfl rfl rfl rfl ?_
       refine t_no 37 rfl rfl rfl rfl rfl ?_
       refine t_no 37 rfl rfl rfl rfl rfl ?_
       refine t_no 37 rfl rfl rfl rfl rfl ?_
       refine t_no 37 rfl rfl rfl rfl rfl ?_
       refine t_no 37 rfl rfl rfl rfl rfl ?_
       refine t_no 37 rfl rfl rfl rfl rfl ?_
       refine t_st rfl (st_pick_t rfl rfl) ?_
       refine t_st rfl (st_assign rfl) ?_
       refine t_nil ?_
       obtain rfl := some1 hm
       refine x_pullb 1 rfl ?_
       exact x_join (e' := [(1, .slice A17 (l20).length c18), (2, .pointer (some ⟨g583, 0, none⟩)), (6, .map (some g588)), (7, .int .i64 ((k957 : Int))), (8, .pointer (some ⟨g971, 0, none⟩)), (21, .slice A17 (l20).length c18), (22, .int .i64 ((l20.length : Int))), (23, .int .i64 ((k957 : Int))), (28, .bool (true))]) (hp' := (g583, Cl 28 [.slice A2 (s1.Stations).length c3, .slice A5 (s1.Sections).length c6, .slice A8 (s1.Links).length c9, .slice A11 (s1.Signals).length c12, .slice A14 (s1.Gates).length c15]) :: (g971, Cl 43 [.int .i64 (x961.Section), .int .i64 (x961.In), .int .i64 (x961.Out)]) :: (hs954 ++ R)) ⟨rfl, rfl, rfl, rfl, rfl, rfl, rfl, rfl, rfl, trivial⟩ (.cons_cons _ (.cons_cons _ (sub_app hs954 (.refl _)))) ⟨rfl, rfl, (Base.Le.refl _)⟩
     ·
      rintro b977 _ _ ⟨rfl, rfl, hle978⟩
      have hm := hk980
      refine c_cond _ rfl (fun hc986 => ?_) (fun hc986 => ?_)
      ·
       rw [if_pos hc986] at hm
       refine c_seq ?_
       refine c_region ?_
       refine t_st rfl (st_assign rfl) ?_
       refine t_nil ?_
       refine x_then_normal ?_
       refine c_ret ?_
       refine x_block_ret ?_
       refine x_then_ret ?_
       refine x_block_ret ?_
       refine x_then_ret ?_
       refine x_then_ret ?_
       refine x_block_ret ?_
       refine x_then_ret ?_
       have hq987 := houtL591 _ (Option.some.inj hm).symm
       rw [hq987] at hk960
       have hm := elimR hk960
       obtain rfl := some1 hm
       exact retM (rs := [.tmp 4]) [.int .i64 (3)] (hle952.trans hle978) (by decide) rfl ⟨rfl, trivial⟩ rfl (hp' := R) (.cons _ (.cons _ (sub_skip hs954 (.refl _)))) ⟨rfl, rfl⟩
      ·
       rw [if_neg (fun hh => Bool.noConfusion (hh.symm.trans hc986))] at hm
       obtain ⟨x1028, hj1029, hk1029⟩ := bindS hm
       refine c_join (fun b1026 e' hp' => [(1, .slice A17 (l20).length c18), (2, .pointer (some ⟨g583, 0, none⟩)), (6, .map (some g588)), (7, .int .i64 ((k957 : Int))), (8, .pointer (some ⟨g971, 0, none⟩)), (21, .slice A17 (l20).length c18), (22, .int .i64 ((l20.length : Int))), (23, .int .i64 ((k957 : Int))), (47, .bool (x1028))] = e' ∧ (g583, Cl 28 [.slice A2 (s1.Stations).length c3, .slice A5 (s1.Sections).length c6, .slice A8 (s1.Links).length c9, .slice A11 (s1.Signals).length c12, .slice A14 (s1.Gates).length c15]) :: (g971, Cl 43 [.int .i64 (x961.Section), .int .i64 (x961.In), .int .i64 (x961.Out)]) :: (hs954 ++ R) = hp' ∧ b977.Le b1026) ?_ ?_
       ·
        have hm := hj1029
        obtain ⟨x1049, h1050, hm⟩ := bindS hm
        obtain ⟨l1059, hcl1060, hm⟩ := bindS hm
        obtain ⟨x1066, hcl1067, hm⟩ := bindS hm
        refine D_drawS ((g583, Cl 28 [.slice A2 (s1.Stations).length c3, .slice A5 (s1.Sections).length c6, .slice A8 (s1.Links).length c9, .slice A11 (s1.Signals).length c12, .slice A14 (s1.Gates).length c15]) :: (g971, Cl 43 [.int .i64 (x961.Section), .int .i64 (x961.In), .int .i64 (x961.Out)]) :: (hs954 ++ R)) mixed ?_
        refine E_in (.cons_cons _ (.cons_cons _ (sub_app hs954 (.refl _)))) ?_
        refine E_st 0 rfl (st_field rfl fld28_1) ?_
        refine E_st 1 rfl (st_load 0 rfl one23 rfl rfl) ?_
        refine E_st 2 rfl (st_field rfl fld43_0) ?_
        refine E_st 3 rfl (st_load 1 rfl one3 rfl rfl) ?_
        obtain ⟨j1051, hj1052, hx1053⟩ := idx_some h1050
        obtain ⟨cs1054, hr1055, hcs1056, hA1057, hlt1058⟩ := FZ.get (sz := 7) rfl (by decide) (h7.le (hle952.trans hle978)) hx1053
        obtain ⟨_, _, rfl, rfl, ⟨_, _, rfl, rfl, ⟨_, _, rfl, rfl, ⟨_, _, rfl, rfl, ⟨_, _, rfl, rfl, ⟨_, _, rfl, rfl, rfl⟩⟩⟩⟩⟩⟩ := hr1055
        refine E_st 4 rfl (st_index_old j1051 rfl rfl hj1052 hlt1058 hA1057 sl23) ?_
        refine E_st 5 rfl (st_field_old rfl hA1057 fld58_0) ?_
        refine E_st 6 rfl (st_load_old rfl one3 (hcs1056 0 _ rfl)) ?_
        refine E_st 7 rfl (st_field rfl fld43_1) ?_
        refine E_st 8 rfl (st_load 1 rfl one3 rfl rfl) ?_
        refine E_st 10 rfl (st_field rfl fld43_2) ?_
        refine E_st 11 rfl (st_load 1 rfl one3 rfl rfl) ?_
        refine E_out ?_
        refine D_all [9] (by kernel_rfl) rfl ?_
        refine R_callGl (Base.Le.refl _) rfl rfl _ call26 rfl (cLineOuts _ _ x1049.Kind x961.In l1059 hcl1060) ?_ ?_
        ·
         rintro _ b1061 _ hle1062 ⟨A1063, c1064, rfl, rfl, h1065⟩
         refine ⟨.inr (.cons_cons _ (.cons_cons _ (sub_app hs954 (.refl _)))), ?_⟩
         refine D_all [12] (by kernel_rfl) rfl ?_
         refine R_do hle1062 rfl rfl (u_callW0 _ call25 rfl (fun w ho => cSlicesContains_2 _ [] l1059 x961.Out A1063 c1064 (h1065.old ho) x1066 hcl1067) (fun _ _ _ h => h.2.symm)) ?_ ?_
         ·
          rintro _ _ ⟨⟨_, rfl, _⟩, rfl⟩
          refine ⟨.inr (.cons_cons _ (.cons_cons _ (sub_app hs954 (.refl _)))), ?_⟩
          refine D_st hle1062 13 rfl (by kernel_rfl) (by kernel_rfl) (by kernel_rfl) rfl (st_not rfl) (.cons_cons _ (.cons_cons _ (sub_app hs954 (.refl _)))) ?_
          refine D_st hle1062 14 rfl (by kernel_rfl) (by kernel_rfl) (by kernel_rfl) rfl (st_assign rfl) (.cons_cons _ (.cons_cons _ (sub_app hs954 (.refl _)))) ?_
          refine D_done (by kernel_rfl) ?_
          obtain rfl := some1 hm
          refine x_pullb 1 rfl ?_
          refine x_pullb 1 rfl ?_
          exact x_join (e' := [(1, .slice A17 (l20).length c18), (2, .pointer (some ⟨g583, 0, none⟩)), (6, .map (some g588)), (7, .int .i64 ((k957 : Int))), (8, .pointer (some ⟨g971, 0, none⟩)), (21, .slice A17 (l20).length c18), (22, .int .i64 ((l20.length : Int))), (23, .int .i64 ((k957 : Int))), (47, .bool (!x1066))]) (hp' := (g583, Cl 28 [.slice A2 (s1.Stations).length c3, .slice A5 (s1.Sections).length c6, .slice A8 (s1.Links).length c9, .slice A11 (s1.Signals).length c12, .slice A14 (s1.Gates).length c15]) :: (g971, Cl 43 [.int .i64 (x961.Section), .int .i64 (x961.In), .int .i64 (x961.Out)]) :: (hs954 ++ R)) ⟨rfl, rfl, rfl, rfl, rfl, rfl, rfl, rfl, rfl, trivial⟩ (.cons_cons _ (.cons_cons _ (sub_app hs954 (.refl _)))) ⟨rfl, rfl, hle1062⟩
         exact R_nil
        exact R_nil
       ·
        rintro b1026 _ _ ⟨rfl, rfl, hle1027⟩
        have hm := hk1029
        refine c_cond _ rfl (fun hc1068 => ?_) (fun hc1068 => ?_)
        ·
         rw [if_pos hc1068] at hm
         refine c_seq ?_
         refine c_region ?_
         refine t_st rfl (st_assign rfl) ?_
         refine t_nil ?_
         refine x_then_normal ?_
         refine c_ret ?_
         refine x_block_ret ?_
         refine x_then_ret ?_
         refine x_block_ret ?_
         refine x_then_ret ?_
         refine x_then_ret ?_
         refine x_block_ret ?_
         refine x_then_ret ?_
         have hq1069 := houtL591 _ (Option.some.inj hm).symm
         rw [hq1069] at hk960
         have hm := elimR hk960
         obtain rfl := some1 hm
         exact retM (rs := [.tmp 4]) [.int .i64 (1)] (hle952.trans (hle978.trans hle1027)) (by decide) rfl ⟨rfl, trivial⟩ rfl (hp' := R) (.cons _ (.cons _ (sub_skip hs954 (.refl _)))) ⟨rfl, rfl⟩
        ·
         rw [if_neg (fun hh => Bool.noConfusion (hh.symm.trans hc1068))] at hm
         refine c_skip ?_
         refine x_block_normal ?_
         refine x_then_normal ?_
         obtain ⟨t1100, hj1099, hk1099⟩ := bindS hm
         refine c_join (fun b1097 e' hp' => [(1, .slice A17 (l20).length c18), (2, .pointer (some ⟨g583, 0, none⟩)), (6, .map (some g588)), (8, .pointer (some ⟨g971, 0, none⟩)), (21, .slice A17 (l20).length c18), (22, .int .i64 ((l20.length : Int))), (23, .int .i64 ((k957 : Int)))] = e' ∧ (g583, Cl 28 [.slice A2 (s1.Stations).length c3, .slice A5 (s1.Sections).length c6, .slice A8 (s1.Links).length c9, .slice A11 (s1.Signals).length c12, .slice A14 (s1.Gates).length c15]) :: (g971, Cl 43 [.int .i64 (x961.Section), .int .i64 (x961.In), .int .i64 (x961.Out)]) :: (hs954 ++ R) = hp' ∧ b1026.Le b1097 ∧ t1100 = .inl ()) ?_ ?_
         ·
          have hm := hj1099
          refine c_seq ?_
          refine c_region ?_
          refine t_st rfl (st_move rfl) ?_
          refine t_st rfl (st_gtr rfl rfl) ?_
          refine t_nil ?_
          refine x_then_normal ?_
          refine c_cond _ rfl (fun hc1101 => ?_) (fun hc1101 => ?_)
          ·
           rw [if_pos (of_decide_eq_true hc1101)] at hm
           refine c_seq ?_
           refine c_region ?_
           refine t_st rfl (st_move rfl) ?_
           refine t_st rfl (st_move rfl) ?_
           obtain ⟨_, h1102, hm⟩ := bindS hm
           have h1102 := (chk_some h1102).2
           refine t_st rfl (st_sub rfl rfl h1102) ?_
           obtain ⟨x1103, h1104, hm⟩ := bindS hm
           obtain ⟨j1105, hj1106, hx1107⟩ := idx_some h1104
           obtain ⟨cs1108, hr1109, hcs1110, hA1111, hlt1112⟩ := FZ.get (sz := 3) rfl (by decide) (h19.le (hle952.trans (hle978.trans hle1027))) hx1107
           obtain ⟨_, _, rfl, rfl, ⟨_, _, rfl, rfl, rfl⟩⟩ := hr1109
           refine t_st rfl (st_index_old j1105 rfl rfl hj1106 hlt1112 hA1111 sl29) ?_
           refine t_st rfl (st_loadN_old (vs := [.int .i64 (x1103.Section), .int .i64 (x1103.In), .int .i64 (x1103.Out)]) 3 rfl agg43 hA1111 rfl (fun j u hu => hcs1110 j u hu)) ?_
           refine t_do rfl (u_alloc [.int .i64 0, .int .i64 0, .int .i64 0] zero43 rfl) ?_
           rintro _ _ ⟨g1113, rfl, rfl⟩
           refine t_do rfl (u_storeN (vs := [_, _, _]) 0 3 rfl rfl rfl siz43 rfl (by intro u hu; simp only [List.mem_cons, List.not_mem_nil, or_false] at hu; rcases hu with rfl | rfl | rfl <;> rfl) rfl (by simp)) ?_
           rintro _ _ rfl
           refine t_nil ?_
           refine x_then_normal ?_
           refine c_seq ?_
           refine c_region ?_
           refine t_st rfl (st_loadD (vs := [_, _, _, _, _]) 1 5 rfl agg28 rfl rfl rfl) ?_
           refine t_st rfl (st_field rfl fld43_0) ?_
           refine t_st rfl (st_load 0 rfl one3 rfl rfl) ?_
           refine t_st rfl (st_field rfl fld43_2) ?_
           refine t_st rfl (st_load 0 rfl one3 rfl rfl) ?_
           refine t_st rfl (st_build (v := .agg #[.int .i64 (x1103.Section), .int .i64 (x1103.Out)]) [(0, .int .i64 (x1103.Section)), (1, .int .i64 (x1103.Out))] rfl (fun _ => by kernel_rfl)) ?_
           obtain ⟨⟨x1114, x1115, x1116⟩, hcl1117, hm⟩ := bindS hm
           have hm := (unc3E hm)
           refine t_callG _ rfl call27 rfl (cLineJoined _ _ s1 (⟨x1103.Section, x1103.Out⟩ : LineEnd) A2 c3 A5 c6 A8 c9 A11 c12 A14 c15 (h4.le (hle952.trans (hle978.trans hle1027))) (h7.le (hle952.trans (hle978.trans hle1027))) (h10.le (hle952.trans (hle978.trans hle1027))) (h13.le (hle952.trans (hle978.trans hle1027))) (h16.le (hle952.trans (hle978.trans hle1027))) x1114 x1115 x1116 hcl1117) ?_
           rintro _ b1118 _ hle1119 ⟨rfl, rfl⟩
           refine t_st rfl (st_move rfl) ?_
           refine t_st rfl (st_extract rfl rfl) ?_
           refine t_st rfl (st_extract rfl rfl) ?_
           refine t_do rfl (u_alloc [.int .i64 0, .int .i64 0] zero77 rfl) ?_
           rintro _ _ ⟨g1120, rfl, rfl⟩
           refine t_do rfl (u_storeN (vs := [_, _]) 0 2 rfl rfl rfl siz77 rfl (by intro u hu; simp only [List.mem_cons, List.not_mem_nil, or_false] at hu; rcases hu with rfl | rfl <;> rfl) rfl (by simp)) ?_
           rintro _ _ rfl
           refine t_st rfl (st_assign rfl) ?_
           refine t_nil ?_
           refine x_then_normal ?_
           obtain ⟨x1124, hj1125, hk1125⟩ := bindS hm
           refine c_join (fun b1122 e' hp' => [(1, .slice A17 (l20).length c18), (2, .pointer (some ⟨g583, 0, none⟩)), (6, .map (some g588)), (8, .pointer (some ⟨g971, 0, none⟩)), (21, .slice A17 (l20).length c18), (22, .int .i64 ((l20.length : Int))), (23, .int .i64 ((k957 : Int))), (89, .bool (x1124))] = e' ∧ (g583, Cl 28 [.slice A2 (s1.Stations).length c3, .slice A5 (s1.Sections).length c6, .slice A8 (s1.Links).length c9, .slice A11 (s1.Signals).length c12, .slice A14 (s1.Gates).length c15]) :: (g971, Cl 43 [.int .i64 (x961.Section), .int .i64 (x961.In), .int .i64 (x961.Out)]) :: (hs954 ++ R) = hp' ∧ b1118.Le b1122) ?_ ?_
           ·
            have hm := hj1125
            refine c_region ?_
            refine t_st rfl (st_move rfl) ?_
            rcases Bool.eq_false_or_eq_true x1116 with hc1126 | hc1126
            ·
             rw [if_pos hc1126] at hm
             refine t_resp 79 rfl (v' := .bool true) (by rw [hc1126] <;> rfl) ?_
             refine t_st rfl (st_not_t rfl) ?_
             refine t_st rfl (st_move rfl) ?_
             refine t_yes 81 rfl rfl rfl ?_
             refine t_st rfl (st_loadD (vs := [_, _]) 0 2 rfl agg77 rfl rfl rfl) ?_
             refine t_yes 81 rfl rfl rfl ?_
             refine t_st rfl (st_field rfl fld43_0) ?_
             refine t_yes 81 rfl rfl rfl ?_
             refine t_st rfl (st_load 3 rfl one3 rfl rfl) ?_
             refine t_yes 81 rfl rfl rfl ?_
             refine t_st rfl (st_field rfl fld43_1) ?_
             refine t_yes 81 rfl rfl rfl ?_
             refine t_st rfl (st_load 3 rfl one3 rfl rfl) ?_
             refine t_yes 81 rfl rfl rfl ?_
             refine t_st rfl (st_build (v := .agg #[.int .i64 (x961.Section), .int .i64 (x961.In)]) [(0, .int .i64 (x961.Section)), (1, .int .i64 (x961.In))] rfl (fun _ => by kernel_rfl)) ?_
             refine t_yes 81 rfl rfl rfl ?_
             refine t_st rfl (st_neqA (xs := [.int .i64 (x1114), .int .i64 (x1115)]) (ys := [.int .i64 (x961.Section), .int .i64 (x961.In)]) (p := x1114 = x961.Section ∧ x1115 = x961.In) rfl rfl eqt77 ⟨⟨_, rfl⟩, ⟨⟨_, rfl⟩, trivial⟩⟩ ⟨⟨_, rfl⟩, ⟨⟨_, rfl⟩, trivial⟩⟩ (by simp [eqCells, eqCell, Bool.decide_and, beq_dec])) ?_
             refine t_st rfl (st_pick_f rfl rfl) ?_
             refine t_nil ?_
             obtain rfl := some1 hm
             refine x_pullb 3 rfl ?_
             refine x_pullb 3 rfl ?_
             exact x_join (e' := [(1, .slice A17 (l20).length c18), (2, .pointer (some ⟨g583, 0, none⟩)), (6, .map (some g588)), (8, .pointer (some ⟨g971, 0, none⟩)), (21, .slice A17 (l20).length c18), (22, .int .i64 ((l20.length : Int))), (23, .int .i64 ((k957 : Int))), (89, .bool (!(decide (x1114 = x961.Section ∧ x1115 = x961.In))))]) (hp' := (g583, Cl 28 [.slice A2 (s1.Stations).length c3, .slice A5 (s1.Sections).length c6, .slice A8 (s1.Links).length c9, .slice A11 (s1.Signals).length c12, .slice A14 (s1.Gates).length c15]) :: (g971, Cl 43 [.int .i64 (x961.Section), .int .i64 (x961.In), .int .i64 (x961.Out)]) :: (hs954 ++ R)) ⟨rfl, rfl, rfl, rfl, rfl, rfl, rfl, rfl, trivial⟩ (.cons_cons _ (.cons_cons _ (.cons _ (.cons _ (sub_app hs954 (.refl _)))))) ⟨rfl, rfl, (Base.Le.refl _)⟩
            ·
             rw [if_neg (fun hh => Bool.noConfusion (hh.symm.trans hc1126))] at hm
             refine t_resp 79 rfl (v' := .bool false) (by rw [hc1126] <;> rfl) ?_
             refine t_st rfl (st_not_f rfl) ?_
             refine t_st rfl (st_move rfl) ?_
             refine t_no 81 rfl rfl rfl rfl rfl ?_
             refine t_no 81 rfl rfl rfl rfl rfl ?_
             refine t_no 81 rfl rfl rfl rfl rfl ?_
             refine t_no 81 rfl rfl rfl rfl rfl ?_
             refine t_no 81 rfl rfl rfl rfl rfl ?_
             refine t_no 81 rfl rfl rfl rfl rfl ?_
             refine t_no 81 rfl rfl rfl rfl rfl ?_
             refine t_st rfl (st_pick_t rfl rfl) ?_
             refine t_nil ?_
             obtain rfl := some1 hm
             refine x_pullb 3 rfl ?_
             refine x_pullb 3 rfl ?_
             exact x_join (e' := [(1, .slice A17 (l20).length c18), (2, .pointer (some ⟨g583, 0, none⟩)), (6, .map (some g588)), (8, .pointer (some ⟨g971, 0, none⟩)), (21, .slice A17 (l20).length c18), (22, .int .i64 ((l20.length : Int))), (23, .int .i64 ((k957 : Int))), (89, .bool (true))]) (hp' := (g583, Cl 28 [.slice A2 (s1.Stations).length c3, .slice A5 (s1.Sections).length c6, .slice A8 (s1.Links).length c9, .slice A11 (s1.Signals).length c12, .slice A14 (s1.Gates).length c15]) :: (g971, Cl 43 [.int .i64 (x961.Section), .int .i64 (x961.In), .int .i64 (x961.Out)]) :: (hs954 ++ R)) ⟨rfl, rfl, rfl, rfl, rfl, rfl, rfl, rfl, trivial⟩ (.cons_cons _ (.cons_cons _ (.cons _ (.cons _ (sub_app hs954 (.refl _)))))) ⟨rfl, rfl, (Base.Le.refl _)⟩
           ·
            rintro b1122 _ _ ⟨rfl, rfl, hle1123⟩
            have hm := hk1125
            refine c_cond _ rfl (fun hc1127 => ?_) (fun hc1127 => ?_)
            ·
             rw [if_pos hc1127] at hm
             refine c_seq ?_
             refine c_region ?_
             refine t_st rfl (st_assign rfl) ?_
             refine t_nil ?_
             refine x_then_normal ?_
             refine c_ret ?_
             refine x_then_ret ?_
             refine x_block_ret ?_
             refine x_then_ret ?_
             refine x_then_ret ?_
             refine x_block_ret ?_
             refine x_then_ret ?_
             have hq1128 := (Option.some.inj hm).symm
             rw [hq1128] at hk1099
             have hm := elimR hk1099
             have hq1129 := houtL591 _ (Option.some.inj hm).symm
             rw [hq1129] at hk960
             have hm := elimR hk960
             obtain rfl := some1 hm
             exact retM (rs := [.tmp 4]) [.int .i64 (5)] (hle952.trans (hle978.trans (hle1027.trans (hle1119.trans hle1123)))) (by decide) rfl ⟨rfl, trivial⟩ rfl (hp' := R) (.cons _ (.cons _ (sub_skip hs954 (.refl _)))) ⟨rfl, rfl⟩
            ·
             rw [if_neg (fun hh => Bool.noConfusion (hh.symm.trans hc1127))] at hm
             refine c_skip ?_
             have hq := (Option.some.inj hm).symm
             refine x_pullb 1 rfl ?_
             refine x_pullb 1 rfl ?_
             exact x_join (e' := [(1, .slice A17 (l20).length c18), (2, .pointer (some ⟨g583, 0, none⟩)), (6, .map (some g588)), (8, .pointer (some ⟨g971, 0, none⟩)), (21, .slice A17 (l20).length c18), (22, .int .i64 ((l20.length : Int))), (23, .int .i64 ((k957 : Int)))]) (hp' := (g583, Cl 28 [.slice A2 (s1.Stations).length c3, .slice A5 (s1.Sections).length c6, .slice A8 (s1.Links).length c9, .slice A11 (s1.Signals).length c12, .slice A14 (s1.Gates).length c15]) :: (g971, Cl 43 [.int .i64 (x961.Section), .int .i64 (x961.In), .int .i64 (x961.Out)]) :: (hs954 ++ R)) ⟨rfl, rfl, rfl, rfl, rfl, rfl, rfl, trivial⟩ (.cons_cons _ (.cons_cons _ (sub_app hs954 (.refl _)))) ⟨rfl, rfl, (hle1119.trans hle1123), hq⟩
          ·
           rw [if_neg (of_decide_eq_false hc1101)] at hm
           refine c_skip ?_
           have hq := (Option.some.inj hm).symm
           refine x_pullb 1 rfl ?_
           refine x_pullb 1 rfl ?_
           exact x_join (e' := [(1, .slice A17 (l20).length c18), (2, .pointer (some ⟨g583, 0, none⟩)), (6, .map (some g588)), (8, .pointer (some ⟨g971, 0, none⟩)), (21, .slice A17 (l20).length c18), (22, .int .i64 ((l20.length : Int))), (23, .int .i64 ((k957 : Int)))]) (hp' := (g583, Cl 28 [.slice A2 (s1.Stations).length c3, .slice A5 (s1.Sections).length c6, .slice A8 (s1.Links).length c9, .slice A11 (s1.Signals).length c12, .slice A14 (s1.Gates).length c15]) :: (g971, Cl 43 [.int .i64 (x961.Section), .int .i64 (x961.In), .int .i64 (x961.Out)]) :: (hs954 ++ R)) ⟨rfl, rfl, rfl, rfl, rfl, rfl, rfl, trivial⟩ (.cons_cons _ (.cons_cons _ (sub_app hs954 (.refl _)))) ⟨rfl, rfl, (Base.Le.refl _), hq⟩
         ·
          rintro b1097 _ _ ⟨rfl, rfl, hle1098, hq1130⟩
          rw [hq1130] at hk1099
          have hm := elimL hk1099
          refine c_seq ?_
          refine c_seq ?_
          refine c_region ?_
          refine t_st rfl (st_move rfl) ?_
          refine t_st rfl (st_field rfl fld43_0) ?_
          refine t_st rfl (st_load 1 rfl one3 rfl rfl) ?_
          obtain ⟨x1134, h1136, hm⟩ := bindS hm
          have hx1135 := Option.some.inj h1136
          obtain ⟨v1131, hv1132, hr1133⟩ := OM.lookF kok3 (z0 := false) (h955.le (hle978.trans (hle1027.trans hle1098))) (key := .int .i64 (x961.Section)) (k := x961.Section) rfl mapt74 zero4 rfl
          rw [hx1135] at hv1132
          obtain rfl : v1131 = .bool (x1134) := by have hv1132 : [v1131] = [.bool (x1134)] := hv1132; injection hv1132
          refine t_st rfl (st_mlook (ok := false) rfl rfl (fun w ho => hr1133 _ w ho (.cons _ (.cons _ (List.sublist_append_left _ _))) false)) ?_
          refine t_nil ?_
          refine x_then_normal ?_
          refine c_cond _ rfl (fun hc1137 => ?_) (fun hc1137 => ?_)
          ·
           rw [if_pos hc1137] at hm
           refine c_seq ?_
           refine c_region ?_
           refine t_st rfl (st_assign rfl) ?_
           refine t_nil ?_
           refine x_then_normal ?_
           refine c_ret ?_
           refine x_then_ret ?_
           refine x_block_ret ?_
           refine x_then_ret ?_
           refine x_then_ret ?_
           refine x_block_ret ?_
           refine x_then_ret ?_
           have hq1138 := houtL591 _ (Option.some.inj hm).symm
           rw [hq1138] at hk960
           have hm := elimR hk960
           obtain rfl := some1 hm
           exact retM (rs := [.tmp 4]) [.int .i64 (6)] (hle952.trans (hle978.trans (hle1027.trans hle1098))) (by decide) rfl ⟨rfl, trivial⟩ rfl (hp' := R) (.cons _ (.cons _ (sub_skip hs954 (.refl _)))) ⟨rfl, rfl⟩
          ·
           rw [if_neg (fun hh => Bool.noConfusion (hh.symm.trans hc1137))] at hm
           refine c_skip ?_
           refine x_then_normal ?_
           refine c_region ?_
           refine t_st rfl (st_move rfl) ?_
           refine t_st rfl (st_field rfl fld43_0) ?_
           refine t_st rfl (st_load 1 rfl one3 rfl rfl) ?_
           refine t_do rfl (u_mputF kok3 [_, _] [] R rfl (h955.le (hle978.trans (hle1027.trans hle1098))) mapt74 rfl rfl rfl rfl ⟨rfl, rfl⟩ _ (.inl rfl)) ?_
           rintro _ _ ⟨hs1139, rfl, hsub1140, h1141⟩
           refine t_nil ?_
           refine x_block_normal ?_
           refine x_then_normal ?_
           refine c_region ?_
           refine t_st rfl (st_add rfl rfl (by omega)) ?_
           refine t_st rfl (st_move rfl) ?_
           refine t_nil ?_
           exact x_againM (mput l956 x961.Section true) (Option.some.inj hm).symm (e' := [(1, .slice A17 (l20).length c18), (2, .pointer (some ⟨g583, 0, none⟩)), (6, .map (some g588)), (21, .slice A17 (l20).length c18), (22, .int .i64 ((l20.length : Int))), (23, .int .i64 ((k957 : Int) + 1))]) (hp' := (g583, Cl 28 [.slice A2 (s1.Stations).length c3, .slice A5 (s1.Sections).length c6, .slice A8 (s1.Links).length c9, .slice A11 (s1.Signals).length c12, .slice A14 (s1.Gates).length c15]) :: (hs1139 ++ R)) ⟨rfl, rfl, rfl, rfl, rfl, rfl, trivial⟩ (.cons_cons _ (.cons _ (sub_app hs1139 (.refl _)))) ⟨hs1139, rfl, rfl, ((hle952.trans (hle978.trans (hle1027.trans hle1098)))), h1141⟩
    ·
     rintro l956 b951 _ _ ⟨hs954, rfl, rfl, hle952, h955⟩ hq1143
     rw [hq1143] at hk960
     have hm := elimL hk960
     refine c_seq ?_
     refine c_region ?_
     refine t_st rfl (st_lss_f rfl rfl (by omega)) ?_
     refine t_nil ?_
     refine x_then_normal ?_
     refine c_seq ?_
     refine c_cond_f rfl ?_
     refine c_exit ?_
     refine x_then_exit ?_
     refine x_then_exit ?_
     refine x_block_out ?_
     refine x_then_normal ?_
     refine c_seq ?_
     refine c_region ?_
     refine t_st rfl (st_assign rfl) ?_
     refine t_nil ?_
     refine x_then_normal ?_
     refine c_ret ?_
     obtain rfl := some1 hm
     exact retM (rs := [.tmp 4]) [.int .i64 (0)] hle952 (by decide) rfl ⟨rfl, trivial⟩ rfl (hp' := R) (.cons _ (sub_skip hs954 (.refl _))) ⟨rfl, rfl⟩

set_option maxRecDepth 20000 in
theorem cLineReverse (b : Base) (R : Hp) (l4 : (List ApiStep)) (A1 : Option Addr) (c2 : Nat) (h3 : FZ rApiStep b.w A1 c2 l4) (l10 : (List ApiStep)) (hm : mLineReverse l4 = some l10) :
    CallsG Tryd.prog 9 [.slice A1 (l4).length c2] b (R) (fun v b' hp' => ∃ (A7 : Option Addr), ∃ (c8 : Nat), ∃ (hs6 : Hp), .slice A7 (l10).length c8 = v ∧ (hs6 ++ R) = hp' ∧ OS 43 (OT.fr rApiStep) b'.w (.slice A7 l10.length c8) l10 hs6) := by
  unfold mLineReverse at hm
  obtain ⟨_, hroom, hm⟩ := bindS hm
  have hroom := room_some hroom
  obtain rfl := some1 hm
  exact reverse_of h3 hroom

set_option maxRecDepth 20000 in
theorem cLineLength (b : Base) (R : Hp) (s1 : ApiNet) (l20 : (List ApiStep)) (A2 : Option Addr) (c3 : Nat) (A5 : Option Addr) (c6 : Nat) (A8 : Option Addr) (c9 : Nat) (A11 : Option Addr) (c12 : Nat) (A14 : Option Addr) (c15 : Nat) (A17 : Option Addr) (c18 : Nat) (h4 : FZ RT.str b.w A2 c3 s1.Stations) (h7 : FZ rApiSection b.w A5 c6 s1.Sections) (h10 : FZ rApiLink b.w A8 c9 s1.Links) (h13 : FZ rApiSignal b.w A11 c12 s1.Signals) (h16 : FZ rApiGate b.w A14 c15 s1.Gates) (h19 : FZ rApiStep b.w A17 c18 l20) (x100 : Int) (x101 : Int) (hm : mLineLength s1 l20 = some (x100, x101)) :
    CallsG Tryd.prog 10 [.agg #[.slice A2 (s1.Stations).length c3, .slice A5 (s1.Sections).length c6, .slice A8 (s1.Links).length c9, .slice A11 (s1.Signals).length c12, .slice A14 (s1.Gates).length c15], .slice A17 (l20).length c18] b (R) (fun v b' hp' => .tuple #[.int .i64 (x100), .int .i64 (x101)] = v ∧ R = hp') := by
  refine fn_enterG 33 Tryd.func10 rfl Tryd.ntmps10 rfl ?_
  unfold mLineLength at hm
  refine c_seq ?_
  refine c_region ?_
  refine t_do rfl (u_box _ rfl rfl) ?_
  rintro _ _ ⟨g102, rfl, rfl⟩
  refine t_st rfl (st_assign rfl) ?_
  refine t_st rfl (st_assign rfl) ?_
  refine t_nil ?_
  refine x_then_normal ?_
  refine c_seq ?_
  refine c_seq ?_
  refine c_region ?_
  refine t_st rfl (st_loadD (vs := [_, _, _, _, _]) 0 5 rfl agg28 rfl rfl rfl) ?_
  refine t_st rfl (st_move rfl) ?_
  obtain ⟨x103, hcl104, hm⟩ := bindS hm
  refine t_do rfl (u_callW0 _ call8 rfl (fun w ho => cLineCheckPath _ [] s1 l20 A2 c3 A5 c6 A8 c9 A11 c12 A14 c15 A17 c18 (h4.old ho) (h7.old ho) (h10.old ho) (h13.old ho) (h16.old ho) (h19.old ho) x103 hcl104) (fun _ _ _ h => h.2.symm)) ?_
  rintro _ _ ⟨⟨_, rfl, _⟩, rfl⟩
  refine t_st rfl (st_assign rfl) ?_
  refine t_nil ?_
  refine x_then_normal ?_
  refine c_seq ?_
  refine c_region ?_
  refine t_st rfl (st_move rfl) ?_
  refine t_st rfl (st_neq rfl rfl) ?_
  refine t_nil ?_
  refine x_then_normal ?_
  refine c_cond _ rfl (fun hc105 => ?_) (fun hc105 => ?_)
  ·
   rw [if_pos (of_decide_eq_true hc105)] at hm
   refine c_seq ?_
   refine c_region ?_
   refine t_st rfl (st_move rfl) ?_
   refine t_st rfl (st_assign rfl) ?_
   refine t_st rfl (st_assign rfl) ?_
   refine t_nil ?_
   refine x_then_normal ?_
   refine c_ret ?_
   refine x_then_ret ?_
   obtain ⟨rfl, rfl⟩ := some2 hm
   exact retM (rs := [.tmp 4, .tmp 5]) [.int .i64 (0), .int .i64 (x103)] (Base.Le.refl _) (by decide) rfl ⟨rfl, ⟨rfl, trivial⟩⟩ rfl (hp' := R) (.cons _ (.refl _)) ⟨rfl, rfl⟩
  ·
   rw [if_neg (of_decide_eq_false hc105)] at hm
   refine c_skip ?_
   refine x_then_normal ?_
   refine c_seq ?_
   refine c_region ?_
   refine t_st rfl (st_assign rfl) ?_
   refine t_nil ?_
   refine x_then_normal ?_
   refine c_seq ?_
   refine c_seq ?_
   refine c_region ?_
   refine t_st rfl (st_move rfl) ?_
   refine t_st rfl (st_len rfl sl29) ?_
   refine t_st rfl (st_move rfl) ?_
   refine t_nil ?_
   refine x_then_normal ?_
   refine c_block ?_
   have hb107 : l20.length ≤ 9223372036854775807 := (FZ.bd h19)
   obtain ⟨x155, hl157, hk158⟩ := bindS hm
   refine c_forS (fun k156 => fun x155 => fun b153 e' hp' => [(2, .pointer (some ⟨g102, 0, none⟩)), (7, .int .i64 (x155)), (16, .slice A17 (l20).length c18), (17, .int .i64 ((l20.length : Int))), (18, .int .i64 ((k156 : Int)))] = e' ∧ (g102, Cl 28 [.slice A2 (s1.Stations).length c3, .slice A5 (s1.Sections).length c6, .slice A8 (s1.Links).length c9, .slice A11 (s1.Signals).length c12, .slice A14 (s1.Gates).length c15]) :: R = hp' ∧ b.Le b153) hl157 (e' := [(2, .pointer (some ⟨g102, 0, none⟩)), (7, .int .i64 (0)), (16, .slice A17 (l20).length c18), (17, .int .i64 ((l20.length : Int))), (18, .int .i64 0)]) (hp' := (g102, Cl 28 [.slice A2 (s1.Stations).length c3, .slice A5 (s1.Sections).length c6, .slice A8 (s1.Links).length c9, .slice A11 (s1.Signals).length c12, .slice A14 (s1.Gates).length c15]) :: R) ⟨rfl, rfl, rfl, rfl, rfl, trivial⟩ (.cons_cons _ (.refl _)) ⟨rfl, rfl, (Base.Le.refl _)⟩ ?_ ?_
   ·
    rintro k156 x155 b153 _ _ oL106 hknL106 ⟨rfl, rfl, hle154⟩ hstepL106
    unfold mLineLength_L106 at hstepL106
    have hm := hstepL106
    refine c_seq ?_
    refine c_region ?_
    refine t_st rfl (st_lss_t rfl rfl (by omega)) ?_
    refine t_nil ?_
    refine x_then_normal ?_
    refine c_seq ?_
    refine c_cond_t rfl ?_
    refine c_skip ?_
    refine x_then_normal ?_
    refine c_seq ?_
    refine c_block ?_
    refine c_seq ?_
    refine c_region ?_
    obtain ⟨x159, h160, hm⟩ := bindS hm
    obtain ⟨j161, hj162, hx163⟩ := idx_some h160
    obtain ⟨cs164, hr165, hcs166, hA167, hlt168⟩ := FZ.get (sz := 3) rfl (by decide) (h19.le hle154) hx163
    obtain ⟨_, _, rfl, rfl, ⟨_, _, rfl, rfl, rfl⟩⟩ := hr165
    refine t_st rfl (st_index_old j161 rfl rfl hj162 hlt168 hA167 sl29) ?_
    refine t_st rfl (st_loadN_old (vs := [.int .i64 (x159.Section), .int .i64 (x159.In), .int .i64 (x159.Out)]) 3 rfl agg43 hA167 rfl (fun j u hu => hcs166 j u hu)) ?_
    refine t_do rfl (u_alloc [.int .i64 0, .int .i64 0, .int .i64 0] zero43 rfl) ?_
    rintro _ _ ⟨g169, rfl, rfl⟩
    refine t_do rfl (u_storeN (vs := [_, _, _]) 0 3 rfl rfl rfl siz43 rfl (by intro u hu; simp only [List.mem_cons, List.not_mem_nil, or_false] at hu; rcases hu with rfl | rfl | rfl <;> rfl) rfl (by simp)) ?_
    rintro _ _ rfl
    refine t_nil ?_
    refine x_then_normal ?_
    refine c_region ?_
    refine t_st rfl (st_move rfl) ?_
    refine t_st rfl (st_field rfl fld28_1) ?_
    refine t_st rfl (st_load 1 rfl one23 rfl rfl) ?_
    refine t_st rfl (st_field rfl fld43_0) ?_
    refine t_st rfl (st_load 0 rfl one3 rfl rfl) ?_
    obtain ⟨x170, h171, hm⟩ := bindS hm
    obtain ⟨j172, hj173, hx174⟩ := idx_some h171
    obtain ⟨cs175, hr176, hcs177, hA178, hlt179⟩ := FZ.get (sz := 7) rfl (by decide) (h7.le hle154) hx174
    obtain ⟨_, _, rfl, rfl, ⟨_, _, rfl, rfl, ⟨_, _, rfl, rfl, ⟨_, _, rfl, rfl, ⟨_, _, rfl, rfl, ⟨_, _, rfl, rfl, rfl⟩⟩⟩⟩⟩⟩ := hr176
    refine t_st rfl (st_index_old j172 rfl rfl hj173 hlt179 hA178 sl23) ?_
    refine t_st rfl (st_field_old rfl hA178 fld58_1) ?_
    refine t_st rfl (st_load_old rfl one3 (hcs177 1 _ rfl)) ?_
    obtain ⟨_, h180, hm⟩ := bindS hm
    have h180 := (chk_some h180).2
    refine t_st rfl (st_add rfl rfl h180) ?_
    refine t_st rfl (st_assign rfl) ?_
    refine t_nil ?_
    refine x_block_normal ?_
    refine x_then_normal ?_
    refine c_region ?_
    refine t_st rfl (st_add rfl rfl (by omega)) ?_
    refine t_st rfl (st_move rfl) ?_
    refine t_nil ?_
    refine x_pullb 1 rfl ?_
    obtain rfl := some1 hm
    exact x_againS (e' := [(2, .pointer (some ⟨g102, 0, none⟩)), (7, .int .i64 (x155 + x170.Length)), (16, .slice A17 (l20).length c18), (17, .int .i64 ((l20.length : Int))), (18, .int .i64 ((k156 : Int) + 1))]) (hp' := (g102, Cl 28 [.slice A2 (s1.Stations).length c3, .slice A5 (s1.Sections).length c6, .slice A8 (s1.Links).length c9, .slice A11 (s1.Signals).length c12, .slice A14 (s1.Gates).length c15]) :: R) ⟨rfl, rfl, rfl, rfl, rfl, trivial⟩ (.cons_cons _ (.cons _ (.refl _))) ⟨rfl, rfl, (hle154)⟩
   ·
    rintro b153 _ _ ⟨rfl, rfl, hle154⟩
    have hm := hk158
    refine c_seq ?_
    refine c_region ?_
    refine t_st rfl (st_lss_f rfl rfl (by omega)) ?_
    refine t_nil ?_
    refine x_then_normal ?_
    refine c_seq ?_
    refine c_cond_f rfl ?_
    refine c_exit ?_
    refine x_then_exit ?_
    refine x_then_exit ?_
    refine x_block_out ?_
    refine x_then_normal ?_
    refine c_seq ?_
    refine c_region ?_
    refine t_st rfl (st_move rfl) ?_
    refine t_st rfl (st_assign rfl) ?_
    refine t_st rfl (st_assign rfl) ?_
    refine t_nil ?_
    refine x_then_normal ?_
    refine c_ret ?_
    obtain ⟨rfl, rfl⟩ := some2 hm
    exact retM (rs := [.tmp 4, .tmp 5]) [.int .i64 (x155), .int .i64 (0)] hle154 (by decide) rfl ⟨rfl, ⟨rfl, trivial⟩⟩ rfl (hp' := R) (.cons _ (.refl _)) ⟨rfl, rfl⟩

set_option maxRecDepth 20000 in
theorem cLineProfile (b : Base) (R : Hp) (s1 : ApiNet) (l20 : (List ApiStep)) (A2 : Option Addr) (c3 : Nat) (A5 : Option Addr) (c6 : Nat) (A8 : Option Addr) (c9 : Nat) (A11 : Option Addr) (c12 : Nat) (A14 : Option Addr) (c15 : Nat) (A17 : Option Addr) (c18 : Nat) (h4 : FZ RT.str b.w A2 c3 s1.Stations) (h7 : FZ rApiSection b.w A5 c6 s1.Sections) (h10 : FZ rApiLink b.w A8 c9 s1.Links) (h13 : FZ rApiSignal b.w A11 c12 s1.Signals) (h16 : FZ rApiGate b.w A14 c15 s1.Gates) (h19 : FZ rApiStep b.w A17 c18 l20) (x230 : Int) (l231 : (List ApiPiece)) (hm : mLineProfile s1 l20 = some (x230, l231)) :
    CallsG Tryd.prog 11 [.agg #[.slice A2 (s1.Stations).length c3, .slice A5 (s1.Sections).length c6, .slice A8 (s1.Links).length c9, .slice A11 (s1.Signals).length c12, .slice A14 (s1.Gates).length c15], .slice A17 (l20).length c18] b (R) (fun v b' hp' => ∃ (A227 : Option Addr), ∃ (c228 : Nat), ∃ (hs226 : Hp), .tuple #[.slice A227 (l231).length c228, .int .i64 (x230)] = v ∧ (hs226 ++ R) = hp' ∧ OS 40 (OT.fr rApiPiece) b'.w (.slice A227 l231.length c228) l231 hs226) := by
  refine fn_enterG 67 Tryd.func11 rfl Tryd.ntmps11 rfl ?_
  unfold mLineProfile at hm
  refine c_seq ?_
  refine c_region ?_
  refine t_do rfl (u_box _ rfl rfl) ?_
  rintro _ _ ⟨g232, rfl, rfl⟩
  refine t_st rfl (st_assign rfl) ?_
  refine t_st rfl (st_assign rfl) ?_
  refine t_nil ?_
  refine x_then_normal ?_
  refine c_seq ?_
  refine c_seq ?_
  refine c_region ?_
  refine t_st rfl (st_loadD (vs := [_, _, _, _, _]) 0 5 rfl agg28 rfl rfl rfl) ?_
  refine t_st rfl (st_move rfl) ?_
  obtain ⟨x233, hcl234, hm⟩ := bindS hm
  refine t_do rfl (u_callW0 _ call8 rfl (fun w ho => cLineCheckPath _ [] s1 l20 A2 c3 A5 c6 A8 c9 A11 c12 A14 c15 A17 c18 (h4.old ho) (h7.old ho) (h10.old ho) (h13.old ho) (h16.old ho) (h19.old ho) x233 hcl234) (fun _ _ _ h => h.2.symm)) ?_
  rintro _ _ ⟨⟨_, rfl, _⟩, rfl⟩
  refine t_st rfl (st_assign rfl) ?_
  refine t_nil ?_
  refine x_then_normal ?_
  refine c_seq ?_
  refine c_region ?_
  refine t_st rfl (st_move rfl) ?_
  refine t_st rfl (st_neq rfl rfl) ?_
  refine t_nil ?_
  refine x_then_normal ?_
  refine c_cond _ rfl (fun hc235 => ?_) (fun hc235 => ?_)
  ·
   rw [if_pos (of_decide_eq_true hc235)] at hm
   refine c_seq ?_
   refine c_region ?_
   refine t_st rfl (st_move rfl) ?_
   refine t_st rfl (st_assign rfl) ?_
   refine t_st rfl (st_assign rfl) ?_
   refine t_nil ?_
   refine x_then_normal ?_
   refine c_ret ?_
   refine x_then_ret ?_
   obtain ⟨rfl, rfl⟩ := some2 hm
   exact retM (rs := [.tmp 4, .tmp 5]) [.slice none 0 0, .int .i64 (x233)] (Base.Le.refl _) (by decide) rfl ⟨rfl, ⟨rfl, trivial⟩⟩ rfl (hp' := ([] ++ R)) (.cons _ (.refl _)) ⟨none, 0, [], rfl, rfl, OS.nil⟩
  ·
   rw [if_neg (of_decide_eq_false hc235)] at hm
   refine c_skip ?_
   refine x_then_normal ?_
   refine c_seq ?_
   refine c_region ?_
   refine t_st rfl (st_assign rfl) ?_
   refine t_nil ?_
   refine x_then_normal ?_
   refine c_seq ?_
   refine c_seq ?_
   refine c_region ?_
   refine t_st rfl (st_move rfl) ?_
   refine t_st rfl (st_len rfl sl29) ?_
   refine t_st rfl (st_move rfl) ?_
   refine t_nil ?_
   refine x_then_normal ?_
   refine c_block ?_
   have hb237 : l20.length ≤ 9223372036854775807 := (FZ.bd h19)
   obtain ⟨l372, hl374, hk375⟩ := bindS hm
   refine c_forS (fun k373 => fun l372 => fun b365 e' hp' => ∃ (A369 : Option Addr), ∃ (c370 : Nat), ∃ (hs368 : Hp), [(2, .pointer (some ⟨g232, 0, none⟩)), (7, .slice A369 (l372).length c370), (18, .slice A17 (l20).length c18), (19, .int .i64 ((l20.length : Int))), (20, .int .i64 ((k373 : Int)))] = e' ∧ (g232, Cl 28 [.slice A2 (s1.Stations).length c3, .slice A5 (s1.Sections).length c6, .slice A8 (s1.Links).length c9, .slice A11 (s1.Signals).length c12, .slice A14 (s1.Gates).length c15]) :: (hs368 ++ R) = hp' ∧ b.Le b365 ∧ OS 40 (OT.fr rApiPiece) b365.w (.slice A369 l372.length c370) l372 hs368) hl374 (e' := [(2, .pointer (some ⟨g232, 0, none⟩)), (7, .slice none 0 0), (18, .slice A17 (l20).length c18), (19, .int .i64 ((l20.length : Int))), (20, .int .i64 0)]) (hp' := (g232, Cl 28 [.slice A2 (s1.Stations).length c3, .slice A5 (s1.Sections).length c6, .slice A8 (s1.Links).length c9, .slice A11 (s1.Signals).length c12, .slice A14 (s1.Gates).length c15]) :: ([] ++ R)) ⟨rfl, rfl, rfl, rfl, rfl, trivial⟩ (.cons_cons _ (.refl _)) ⟨none, 0, [], rfl, rfl, (Base.Le.refl _), OS.nil⟩ ?_ ?_
   ·
    rintro k373 l372 b365 _ _ oL236 hknL236 ⟨A369, c370, hs368, rfl, rfl, hle366, h371⟩ hstepL236
    unfold mLineProfile_L236 at hstepL236
    have hm := hstepL236
    refine c_seq ?_
    refine c_region ?_
    refine t_st rfl (st_lss_t rfl rfl (by omega)) ?_
    refine t_nil ?_
    refine x_then_normal ?_
    refine c_seq ?_
    refine c_cond_t rfl ?_
    refine c_skip ?_
    refine x_then_normal ?_
    refine c_seq ?_
    refine c_block ?_
    refine c_seq ?_
    refine c_region ?_
    obtain ⟨x376, h377, hm⟩ := bindS hm
    obtain ⟨j378, hj379, hx380⟩ := idx_some h377
    obtain ⟨cs381, hr382, hcs383, hA384, hlt385⟩ := FZ.get (sz := 3) rfl (by decide) (h19.le hle366) hx380
    obtain ⟨_, _, rfl, rfl, ⟨_, _, rfl, rfl, rfl⟩⟩ := hr382
    refine t_st rfl (st_index_old j378 rfl rfl hj379 hlt385 hA384 sl29) ?_
    refine t_st rfl (st_loadN_old (vs := [.int .i64 (x376.Section), .int .i64 (x376.In), .int .i64 (x376.Out)]) 3 rfl agg43 hA384 rfl (fun j u hu => hcs383 j u hu)) ?_
    refine t_do rfl (u_alloc [.int .i64 0, .int .i64 0, .int .i64 0] zero43 rfl) ?_
    rintro _ _ ⟨g386, rfl, rfl⟩
    refine t_do rfl (u_storeN (vs := [_, _, _]) 0 3 rfl rfl rfl siz43 rfl (by intro u hu; simp only [List.mem_cons, List.not_mem_nil, or_false] at hu; rcases hu with rfl | rfl | rfl <;> rfl) rfl (by simp)) ?_
    rintro _ _ rfl
    refine t_nil ?_
    refine x_then_normal ?_
    refine c_seq ?_
    refine c_region ?_
    refine t_st rfl (st_field rfl fld28_1) ?_
    refine t_st rfl (st_load 1 rfl one23 rfl rfl) ?_
    refine t_st rfl (st_field rfl fld43_0) ?_
    refine t_st rfl (st_load 0 rfl one3 rfl rfl) ?_
    obtain ⟨x387, h388, hm⟩ := bindS hm
    obtain ⟨j389, hj390, hx391⟩ := idx_some h388
    obtain ⟨cs392, hr393, hcs394, hA395, hlt396⟩ := FZ.get (sz := 7) rfl (by decide) (h7.le hle366) hx391
    obtain ⟨_, _, rfl, rfl, ⟨_, _, rfl, rfl, ⟨_, _, rfl, rfl, ⟨_, _, rfl, rfl, ⟨_, _, rfl, rfl, ⟨_, _, rfl, rfl, rfl⟩⟩⟩⟩⟩⟩ := hr393
    refine t_st rfl (st_index_old j389 rfl rfl hj390 hlt396 hA395 sl23) ?_
    refine t_st rfl (st_loadN_old (vs := [.int .i64 (x387.Kind), .int .i64 (x387.Length), .int .i64 (x387.Grade), .int .i64 (x387.Speed), .int .i64 (x387.Slow), .int .i64 (x387.Station), .bool (x387.Axles)]) 7 rfl agg58 hA395 rfl (fun j u hu => hcs394 j u hu)) ?_
    refine t_do rfl (u_alloc [.int .i64 0, .int .i64 0, .int .i64 0, .int .i64 0, .int .i64 0, .int .i64 0, .bool false] zero58 rfl) ?_
    rintro _ _ ⟨g397, rfl, rfl⟩
    refine t_do rfl (u_storeN (vs := [_, _, _, _, _, _, _]) 0 7 rfl rfl rfl siz58 rfl (by intro u hu; simp only [List.mem_cons, List.not_mem_nil, or_false] at hu; rcases hu with rfl | rfl | rfl | rfl | rfl | rfl | rfl <;> rfl) rfl (by simp)) ?_
    rintro _ _ rfl
    refine t_nil ?_
    refine x_then_normal ?_
    refine c_seq ?_
    refine c_region ?_
    refine t_st rfl (st_field rfl fld58_1) ?_
    refine t_st rfl (st_load 0 rfl one3 rfl rfl) ?_
    obtain ⟨_, h398, hm⟩ := bindS hm
    have h398 := (chk_some h398).2
    refine t_st rfl (st_mul rfl rfl h398) ?_
    refine t_st rfl (st_field rfl fld58_2) ?_
    refine t_st rfl (st_load 0 rfl one3 rfl rfl) ?_
    refine t_st rfl (st_field rfl fld58_3) ?_
    refine t_st rfl (st_load 0 rfl one3 rfl rfl) ?_
    refine t_st rfl (st_build (v := .agg #[.int .i64 (100 * x387.Length), .int .i64 (x387.Grade), .int .i64 (x387.Speed)]) [(0, .int .i64 (100 * x387.Length)), (1, .int .i64 (x387.Grade)), (2, .int .i64 (x387.Speed))] rfl (fun _ => by kernel_rfl)) ?_
    refine t_do rfl (u_alloc [.int .i64 0, .int .i64 0, .int .i64 0] zero40 rfl) ?_
    rintro _ _ ⟨g399, rfl, rfl⟩
    refine t_do rfl (u_storeN (vs := [_, _, _]) 0 3 rfl rfl rfl siz40 rfl (by intro u hu; simp only [List.mem_cons, List.not_mem_nil, or_false] at hu; rcases hu with rfl | rfl | rfl <;> rfl) rfl (by simp)) ?_
    rintro _ _ rfl
    refine t_nil ?_
    refine x_then_normal ?_
    obtain ⟨x404, hj405, hk405⟩ := bindS hm
    refine c_join (fun b402 e' hp' => [(2, .pointer (some ⟨g232, 0, none⟩)), (7, .slice A369 (l372).length c370), (9, .pointer (some ⟨g386, 0, none⟩)), (10, .pointer (some ⟨g397, 0, none⟩)), (11, .pointer (some ⟨g399, 0, none⟩)), (18, .slice A17 (l20).length c18), (19, .int .i64 ((l20.length : Int))), (20, .int .i64 ((k373 : Int)))] = e' ∧ (g232, Cl 28 [.slice A2 (s1.Stations).length c3, .slice A5 (s1.Sections).length c6, .slice A8 (s1.Links).length c9, .slice A11 (s1.Signals).length c12, .slice A14 (s1.Gates).length c15]) :: (g386, Cl 43 [.int .i64 (x376.Section), .int .i64 (x376.In), .int .i64 (x376.Out)]) :: (g397, Cl 58 [.int .i64 (x387.Kind), .int .i64 (x387.Length), .int .i64 (x387.Grade), .int .i64 (x387.Speed), .int .i64 (x387.Slow), .int .i64 (x387.Station), .bool (x387.Axles)]) :: (g399, Cl 40 [.int .i64 (100 * x387.Length), .int .i64 (x404), .int .i64 (x387.Speed)]) :: (hs368 ++ R) = hp' ∧ b365.Le b402) ?_ ?_
    ·
     have hm := hj405
     refine c_seq ?_
     refine c_region ?_
     refine t_st rfl (st_field rfl fld43_1) ?_
     refine t_st rfl (st_load 2 rfl one3 rfl rfl) ?_
     refine t_st rfl (st_neq rfl rfl) ?_
     refine t_nil ?_
     refine x_then_normal ?_
     refine c_cond _ rfl (fun hc406 => ?_) (fun hc406 => ?_)
     ·
      rw [if_pos (of_decide_eq_true hc406)] at hm
      refine c_region ?_
      refine t_st rfl (st_field rfl fld40_1) ?_
      refine t_st rfl (st_load 0 rfl one3 rfl rfl) ?_
      obtain ⟨_, h407, hm⟩ := bindS hm
      have h407 := (chk_some h407).2
      refine t_st rfl (st_negc rfl h407) ?_
      refine t_st rfl (st_field rfl fld40_1) ?_
      refine t_do rfl (u_store 0 rfl rfl siz3 rfl rfl (by simp)) ?_
      rintro _ _ rfl
      refine t_nil ?_
      obtain rfl := some1 hm
      refine x_pullb 1 rfl ?_
      refine x_pullb 2 rfl ?_
      refine x_pullb 3 rfl ?_
      exact x_join (e' := [(2, .pointer (some ⟨g232, 0, none⟩)), (7, .slice A369 (l372).length c370), (9, .pointer (some ⟨g386, 0, none⟩)), (10, .pointer (some ⟨g397, 0, none⟩)), (11, .pointer (some ⟨g399, 0, none⟩)), (18, .slice A17 (l20).length c18), (19, .int .i64 ((l20.length : Int))), (20, .int .i64 ((k373 : Int)))]) (hp' := (g232, Cl 28 [.slice A2 (s1.Stations).length c3, .slice A5 (s1.Sections).length c6, .slice A8 (s1.Links).length c9, .slice A11 (s1.Signals).length c12, .slice A14 (s1.Gates).length c15]) :: (g386, Cl 43 [.int .i64 (x376.Section), .int .i64 (x376.In), .int .i64 (x376.Out)]) :: (g397, Cl 58 [.int .i64 (x387.Kind), .int .i64 (x387.Length), .int .i64 (x387.Grade), .int .i64 (x387.Speed), .int .i64 (x387.Slow), .int .i64 (x387.Station), .bool (x387.Axles)]) :: (g399, Cl 40 [.int .i64 (100 * x387.Length), .int .i64 ((-x387.Grade)), .int .i64 (x387.Speed)]) :: (hs368 ++ R)) ⟨rfl, rfl, rfl, rfl, rfl, rfl, rfl, rfl, trivial⟩ (.cons_cons _ (.cons_cons _ (.cons_cons _ (.cons_cons _ (sub_app hs368 (.refl _)))))) ⟨rfl, rfl, (Base.Le.refl _)⟩
     ·
      rw [if_neg (of_decide_eq_false hc406)] at hm
      refine c_skip ?_
      obtain rfl := some1 hm
      refine x_pullb 1 rfl ?_
      refine x_pullb 2 rfl ?_
      refine x_pullb 3 rfl ?_
      exact x_join (e' := [(2, .pointer (some ⟨g232, 0, none⟩)), (7, .slice A369 (l372).length c370), (9, .pointer (some ⟨g386, 0, none⟩)), (10, .pointer (some ⟨g397, 0, none⟩)), (11, .pointer (some ⟨g399, 0, none⟩)), (18, .slice A17 (l20).length c18), (19, .int .i64 ((l20.length : Int))), (20, .int .i64 ((k373 : Int)))]) (hp' := (g232, Cl 28 [.slice A2 (s1.Stations).length c3, .slice A5 (s1.Sections).length c6, .slice A8 (s1.Links).length c9, .slice A11 (s1.Signals).length c12, .slice A14 (s1.Gates).length c15]) :: (g386, Cl 43 [.int .i64 (x376.Section), .int .i64 (x376.In), .int .i64 (x376.Out)]) :: (g397, Cl 58 [.int .i64 (x387.Kind), .int .i64 (x387.Length), .int .i64 (x387.Grade), .int .i64 (x387.Speed), .int .i64 (x387.Slow), .int .i64 (x387.Station), .bool (x387.Axles)]) :: (g399, Cl 40 [.int .i64 (100 * x387.Length), .int .i64 (x387.Grade), .int .i64 (x387.Speed)]) :: (hs368 ++ R)) ⟨rfl, rfl, rfl, rfl, rfl, rfl, rfl, rfl, trivial⟩ (.cons_cons _ (.cons_cons _ (.cons_cons _ (.cons_cons _ (sub_app hs368 (.refl _)))))) ⟨rfl, rfl, (Base.Le.refl _)⟩
    ·
     rintro b402 _ _ ⟨rfl, rfl, hle403⟩
     have hm := hk405
     obtain ⟨x419, hj420, hk420⟩ := bindS hm
     refine c_join (fun b417 e' hp' => [(2, .pointer (some ⟨g232, 0, none⟩)), (7, .slice A369 (l372).length c370), (11, .pointer (some ⟨g399, 0, none⟩)), (18, .slice A17 (l20).length c18), (19, .int .i64 ((l20.length : Int))), (20, .int .i64 ((k373 : Int)))] = e' ∧ (g232, Cl 28 [.slice A2 (s1.Stations).length c3, .slice A5 (s1.Sections).length c6, .slice A8 (s1.Links).length c9, .slice A11 (s1.Signals).length c12, .slice A14 (s1.Gates).length c15]) :: (g399, Cl 40 [.int .i64 (100 * x387.Length), .int .i64 (x404), .int .i64 (x419)]) :: (hs368 ++ R) = hp' ∧ b402.Le b417) ?_ ?_
     ·
      have hm := hj420
      obtain ⟨x425, hj426, hk426⟩ := bindS hm
      refine c_join (fun b423 e' hp' => [(2, .pointer (some ⟨g232, 0, none⟩)), (7, .slice A369 (l372).length c370), (10, .pointer (some ⟨g397, 0, none⟩)), (11, .pointer (some ⟨g399, 0, none⟩)), (18, .slice A17 (l20).length c18), (19, .int .i64 ((l20.length : Int))), (20, .int .i64 ((k373 : Int))), (57, .bool (x425))] = e' ∧ (g232, Cl 28 [.slice A2 (s1.Stations).length c3, .slice A5 (s1.Sections).length c6, .slice A8 (s1.Links).length c9, .slice A11 (s1.Signals).length c12, .slice A14 (s1.Gates).length c15]) :: (g397, Cl 58 [.int .i64 (x387.Kind), .int .i64 (x387.Length), .int .i64 (x387.Grade), .int .i64 (x387.Speed), .int .i64 (x387.Slow), .int .i64 (x387.Station), .bool (x387.Axles)]) :: (g399, Cl 40 [.int .i64 (100 * x387.Length), .int .i64 (x404), .int .i64 (x387.Speed)]) :: (hs368 ++ R) = hp' ∧ b402.Le b423) ?_ ?_
      ·
       have hm := hj426
       refine c_region ?_
       refine t_st rfl (st_field rfl fld58_0) ?_
       refine t_st rfl (st_load 2 rfl one3 rfl rfl) ?_
       refine t_bool rfl (st_eql rfl rfl) (fun hc427 => ?_) (fun hc427 => ?_)
       ·
        rw [if_pos hc427] at hm
        refine t_st rfl (st_move rfl) ?_
        refine t_yes 48 rfl rfl rfl ?_
        refine t_st rfl (st_field rfl fld43_1) ?_
        refine t_yes 48 rfl rfl rfl ?_
        refine t_st rfl (st_load 1 rfl one3 rfl rfl) ?_
        refine t_yes 48 rfl rfl rfl ?_
        refine t_bool rfl (st_eql rfl rfl) (fun hc428 => ?_) (fun hc428 => ?_)
        ·
         rw [if_pos hc428] at hm
         refine t_yes 48 rfl rfl rfl ?_
         refine t_st rfl (st_move rfl) ?_
         refine t_no 52 rfl rfl rfl rfl rfl ?_
         refine t_no 52 rfl rfl rfl rfl rfl ?_
         refine t_no 52 rfl rfl rfl rfl rfl ?_
         refine t_yes 48 rfl rfl rfl ?_
         refine t_st rfl (st_pick_t rfl rfl) ?_
         refine t_st rfl (st_pick_t rfl rfl) ?_
         refine t_nil ?_
         obtain rfl := some1 hm
         refine x_pullb 3 rfl ?_
         refine x_pullb 3 rfl ?_
         refine x_pullb 2 rfl ?_
         exact x_join (e' := [(2, .pointer (some ⟨g232, 0, none⟩)), (7, .slice A369 (l372).length c370), (10, .pointer (some ⟨g397, 0, none⟩)), (11, .pointer (some ⟨g399, 0, none⟩)), (18, .slice A17 (l20).length c18), (19, .int .i64 ((l20.length : Int))), (20, .int .i64 ((k373 : Int))), (57, .bool (true))]) (hp' := (g232, Cl 28 [.slice A2 (s1.Stations).length c3, .slice A5 (s1.Sections).length c6, .slice A8 (s1.Links).length c9, .slice A11 (s1.Signals).length c12, .slice A14 (s1.Gates).length c15]) :: (g397, Cl 58 [.int .i64 (x387.Kind), .int .i64 (x387.Length), .int .i64 (x387.Grade), .int .i64 (x387.Speed), .int .i64 (x387.Slow), .int .i64 (x387.Station), .bool (x387.Axles)]) :: (g399, Cl 40 [.int .i64 (100 * x387.Length), .int .i64 (x404), .int .i64 (x387.Speed)]) :: (hs368 ++ R)) ⟨rfl, rfl, rfl, rfl, rfl, rfl, rfl, rfl, trivial⟩ (.cons_cons _ (.cons_cons _ (.cons_cons _ (.cons _ (sub_app hs368 (.refl _)))))) ⟨rfl, rfl, (Base.Le.refl _)⟩
        ·
         rw [if_neg hc428] at hm
         refine t_yes 48 rfl rfl rfl ?_
         refine t_st rfl (st_move rfl) ?_
         refine t_yes 52 rfl rfl rfl ?_
         refine t_st rfl (st_field rfl fld43_2) ?_
         refine t_yes 52 rfl rfl rfl ?_
         refine t_st rfl (st_load 1 rfl one3 rfl rfl) ?_
         refine t_yes 52 rfl rfl rfl ?_
         refine t_st rfl (st_eql rfl rfl) ?_
         refine t_yes 48 rfl rfl rfl ?_
         refine t_st rfl (st_pick_f rfl rfl) ?_
         refine t_st rfl (st_pick_t rfl rfl) ?_
         refine t_nil ?_
         obtain rfl := some1 hm
         refine x_pullb 3 rfl ?_
         refine x_pullb 3 rfl ?_
         refine x_pullb 2 rfl ?_
         exact x_join (e' := [(2, .pointer (some ⟨g232, 0, none⟩)), (7, .slice A369 (l372).length c370), (10, .pointer (some ⟨g397, 0, none⟩)), (11, .pointer (some ⟨g399, 0, none⟩)), (18, .slice A17 (l20).length c18), (19, .int .i64 ((l20.length : Int))), (20, .int .i64 ((k373 : Int))), (57, .bool (decide (x376.Out = 2)))]) (hp' := (g232, Cl 28 [.slice A2 (s1.Stations).length c3, .slice A5 (s1.Sections).length c6, .slice A8 (s1.Links).length c9, .slice A11 (s1.Signals).length c12, .slice A14 (s1.Gates).length c15]) :: (g397, Cl 58 [.int .i64 (x387.Kind), .int .i64 (x387.Length), .int .i64 (x387.Grade), .int .i64 (x387.Speed), .int .i64 (x387.Slow), .int .i64 (x387.Station), .bool (x387.Axles)]) :: (g399, Cl 40 [.int .i64 (100 * x387.Length), .int .i64 (x404), .int .i64 (x387.Speed)]) :: (hs368 ++ R)) ⟨rfl, rfl, rfl, rfl, rfl, rfl, rfl, rfl, trivial⟩ (.cons_cons _ (.cons_cons _ (.cons_cons _ (.cons _ (sub_app hs368 (.refl _)))))) ⟨rfl, rfl, (Base.Le.refl _)⟩
       ·
        rw [if_neg hc427] at hm
        refine t_st rfl (st_move rfl) ?_
        refine t_no 48 rfl rfl rfl rfl rfl ?_
        refine t_no 48 rfl rfl rfl rfl rfl ?_
        refine t_no 48 rfl rfl rfl rfl rfl ?_
        refine t_no 48 rfl rfl rfl rfl rfl ?_
        refine t_no 52 rfl rfl rfl rfl rfl ?_
        refine t_no 52 rfl rfl rfl rfl rfl ?_
        refine t_no 52 rfl rfl rfl rfl rfl ?_
        refine t_no 48 rfl rfl rfl rfl rfl ?_
        refine t_st rfl (st_pick_f rfl rfl) ?_
        refine t_nil ?_
        obtain rfl := some1 hm
        refine x_pullb 3 rfl ?_
        refine x_pullb 3 rfl ?_
        refine x_pullb 2 rfl ?_
        exact x_join (e' := [(2, .pointer (some ⟨g232, 0, none⟩)), (7, .slice A369 (l372).length c370), (10, .pointer (some ⟨g397, 0, none⟩)), (11, .pointer (some ⟨g399, 0, none⟩)), (18, .slice A17 (l20).length c18), (19, .int .i64 ((l20.length : Int))), (20, .int .i64 ((k373 : Int))), (57, .bool (false))]) (hp' := (g232, Cl 28 [.slice A2 (s1.Stations).length c3, .slice A5 (s1.Sections).length c6, .slice A8 (s1.Links).length c9, .slice A11 (s1.Signals).length c12, .slice A14 (s1.Gates).length c15]) :: (g397, Cl 58 [.int .i64 (x387.Kind), .int .i64 (x387.Length), .int .i64 (x387.Grade), .int .i64 (x387.Speed), .int .i64 (x387.Slow), .int .i64 (x387.Station), .bool (x387.Axles)]) :: (g399, Cl 40 [.int .i64 (100 * x387.Length), .int .i64 (x404), .int .i64 (x387.Speed)]) :: (hs368 ++ R)) ⟨rfl, rfl, rfl, rfl, rfl, rfl, rfl, rfl, trivial⟩ (.cons_cons _ (.cons_cons _ (.cons_cons _ (.cons _ (sub_app hs368 (.refl _)))))) ⟨rfl, rfl, (Base.Le.refl _)⟩
      ·
       rintro b423 _ _ ⟨rfl, rfl, hle424⟩
       have hm := hk426
       refine c_cond _ rfl (fun hc429 => ?_) (fun hc429 => ?_)
       ·
        rw [if_pos hc429] at hm
        refine c_region ?_
        refine t_st rfl (st_field rfl fld58_4) ?_
        refine t_st rfl (st_load 1 rfl one3 rfl rfl) ?_
        refine t_st rfl (st_field rfl fld40_2) ?_
        refine t_do rfl (u_store 2 rfl rfl siz3 rfl rfl (by simp)) ?_
        rintro _ _ rfl
        refine t_nil ?_
        obtain rfl := some1 hm
        refine x_pullb 2 rfl ?_
        refine x_pullb 1 rfl ?_
        exact x_join (e' := [(2, .pointer (some ⟨g232, 0, none⟩)), (7, .slice A369 (l372).length c370), (11, .pointer (some ⟨g399, 0, none⟩)), (18, .slice A17 (l20).length c18), (19, .int .i64 ((l20.length : Int))), (20, .int .i64 ((k373 : Int)))]) (hp' := (g232, Cl 28 [.slice A2 (s1.Stations).length c3, .slice A5 (s1.Sections).length c6, .slice A8 (s1.Links).length c9, .slice A11 (s1.Signals).length c12, .slice A14 (s1.Gates).length c15]) :: (g399, Cl 40 [.int .i64 (100 * x387.Length), .int .i64 (x404), .int .i64 (x387.Slow)]) :: (hs368 ++ R)) ⟨rfl, rfl, rfl, rfl, rfl, rfl, trivial⟩ (.cons_cons _ (.cons_cons _ (.cons _ (sub_app hs368 (.refl _))))) ⟨rfl, rfl, hle424⟩
       ·
        rw [if_neg (fun hh => Bool.noConfusion (hh.symm.trans hc429))] at hm
        refine c_skip ?_
        obtain rfl := some1 hm
        refine x_pullb 2 rfl ?_
        refine x_pullb 1 rfl ?_
        exact x_join (e' := [(2, .pointer (some ⟨g232, 0, none⟩)), (7, .slice A369 (l372).length c370), (11, .pointer (some ⟨g399, 0, none⟩)), (18, .slice A17 (l20).length c18), (19, .int .i64 ((l20.length : Int))), (20, .int .i64 ((k373 : Int)))]) (hp' := (g232, Cl 28 [.slice A2 (s1.Stations).length c3, .slice A5 (s1.Sections).length c6, .slice A8 (s1.Links).length c9, .slice A11 (s1.Signals).length c12, .slice A14 (s1.Gates).length c15]) :: (g399, Cl 40 [.int .i64 (100 * x387.Length), .int .i64 (x404), .int .i64 (x387.Speed)]) :: (hs368 ++ R)) ⟨rfl, rfl, rfl, rfl, rfl, rfl, trivial⟩ (.cons_cons _ (.cons_cons _ (.cons _ (sub_app hs368 (.refl _))))) ⟨rfl, rfl, hle424⟩
     ·
      rintro b417 _ _ ⟨rfl, rfl, hle418⟩
      have hm := hk420
      refine c_region ?_
      refine t_st rfl (st_move rfl) ?_
      refine t_st rfl (st_loadD (vs := [_, _, _]) 1 3 rfl agg40 rfl rfl rfl) ?_
      refine t_do rfl (u_bslice (el := 40) [(0, .agg #[.int .i64 (100 * x387.Length), .int .i64 (x404), .int .i64 (x419)])] [.int .i64 (100 * x387.Length), .int .i64 (x404), .int .i64 (x419)] rfl (fun _ => by kernel_rfl)) ?_
      rintro _ _ ⟨g430, rfl, rfl⟩
      obtain ⟨_, h431, hm⟩ := bindS hm
      have h431 := room_some h431
      refine t_do rfl (u_appOS (r := rApiPiece) (l := l372) [_, _, _] R [[.int .i64 (100 * x387.Length), .int .i64 (x404), .int .i64 (x419)]] [(⟨100 * x387.Length, x404, x419⟩ : ApiPiece)] rfl (by decide) sl36 inf40 rfl rfl rfl rfl (h371.le (hle403.trans hle418)) rfl (fun w ho => Rd.own (i := 0) ho rfl) ⟨⟨[.int .i64 (100 * x387.Length)], _, rfl, rfl, ⟨[.int .i64 (x404)], _, rfl, rfl, rfl⟩⟩, trivial⟩ h431) ?_
      rintro _ _ ⟨hs432, rfl, h433⟩
      obtain ⟨A434, c435, rfl, _⟩ := h433.form
      refine t_st rfl (st_assign rfl) ?_
      refine t_nil ?_
      refine x_block_normal ?_
      refine x_then_normal ?_
      refine c_region ?_
      refine t_st rfl (st_add rfl rfl (by omega)) ?_
      refine t_st rfl (st_move rfl) ?_
      refine t_nil ?_
      refine x_pullb 1 rfl ?_
      obtain rfl := some1 hm
      exact x_againS (e' := [(2, .pointer (some ⟨g232, 0, none⟩)), (7, .slice A434 (l372 ++ [(⟨100 * x387.Length, x404, x419⟩ : ApiPiece)]).length c435), (18, .slice A17 (l20).length c18), (19, .int .i64 ((l20.length : Int))), (20, .int .i64 ((k373 : Int) + 1))]) (hp' := (g232, Cl 28 [.slice A2 (s1.Stations).length c3, .slice A5 (s1.Sections).length c6, .slice A8 (s1.Links).length c9, .slice A11 (s1.Signals).length c12, .slice A14 (s1.Gates).length c15]) :: (hs432 ++ R)) ⟨rfl, rfl, rfl, rfl, rfl, trivial⟩ (.cons_cons _ (.cons _ (.cons _ (sub_app hs432 (.refl _))))) ⟨A434, c435, hs432, rfl, rfl, ((hle366.trans (hle403.trans hle418))), h433⟩
   ·
    rintro b365 _ _ ⟨A369, c370, hs368, rfl, rfl, hle366, h371⟩
    have hm := hk375
    refine c_seq ?_
    refine c_region ?_
    refine t_st rfl (st_lss_f rfl rfl (by omega)) ?_
    refine t_nil ?_
    refine x_then_normal ?_
    refine c_seq ?_
    refine c_cond_f rfl ?_
    refine c_exit ?_
    refine x_then_exit ?_
    refine x_then_exit ?_
    refine x_block_out ?_
    refine x_then_normal ?_
    refine c_seq ?_
    refine c_region ?_
    refine t_st rfl (st_move rfl) ?_
    refine t_st rfl (st_assign rfl) ?_
    refine t_st rfl (st_assign rfl) ?_
    refine t_nil ?_
    refine x_then_normal ?_
    refine c_ret ?_
    obtain ⟨rfl, rfl⟩ := some2 hm
    exact retM (rs := [.tmp 4, .tmp 5]) [.slice A369 (l372).length c370, .int .i64 (0)] hle366 (by decide) rfl ⟨rfl, ⟨rfl, trivial⟩⟩ rfl (hp' := (hs368 ++ R)) (.cons _ (sub_app hs368 (.refl _))) ⟨A369, c370, hs368, rfl, rfl, h371⟩

set_option maxRecDepth 20000 in
theorem cSlicesEqual (b : Base) (R : Hp) (l4 : (List ApiStep)) (l8 : (List ApiStep)) (A1 : Option Addr) (c2 : Nat) (A5 : Option Addr) (c6 : Nat) (h3 : FZ rApiStep b.w A1 c2 l4) (h7 : FZ rApiStep b.w A5 c6 l8) (x102 : Bool) (hm : mSlicesEqual l4 l8 = some x102) :
    CallsG Tryd.prog 12 [.slice A1 (l4).length c2, .slice A5 (l8).length c6] b (R) (fun v b' hp' => .bool (x102) = v ∧ R = hp') := by
  refine fn_enterG 26 Tryd.func12 rfl Tryd.ntmps12 rfl ?_
  unfold mSlicesEqual at hm
  refine c_seq ?_
  refine c_region ?_
  refine t_st rfl (st_assign rfl) ?_
  refine t_nil ?_
  refine x_then_normal ?_
  refine c_seq ?_
  refine c_seq ?_
  refine c_region ?_
  refine t_st rfl (st_move rfl) ?_
  refine t_st rfl (st_len rfl sl29) ?_
  refine t_st rfl (st_move rfl) ?_
  refine t_st rfl (st_len rfl sl29) ?_
  refine t_st rfl (st_neq rfl rfl) ?_
  refine t_nil ?_
  refine x_then_normal ?_
  refine c_cond _ rfl (fun hc103 => ?_) (fun hc103 => ?_)
  ·
   rw [if_pos (of_decide_eq_true hc103)] at hm
   refine c_seq ?_
   refine c_region ?_
   refine t_st rfl (st_assign rfl) ?_
   refine t_nil ?_
   refine x_then_normal ?_
   refine c_ret ?_
   refine x_then_ret ?_
   obtain rfl := some1 hm
   exact retM (rs := [.tmp 4]) [.bool (false)] (Base.Le.refl _) (by decide) rfl ⟨rfl, trivial⟩ rfl (hp' := R) (.refl _) ⟨rfl, rfl⟩
  ·
   rw [if_neg (of_decide_eq_false hc103)] at hm
   refine c_skip ?_
   refine x_then_normal ?_
   refine c_seq ?_
   refine c_seq ?_
   refine c_region ?_
   refine t_st rfl (st_move rfl) ?_
   refine t_st rfl (st_len rfl sl29) ?_
   refine t_st rfl (st_move rfl) ?_
   refine t_nil ?_
   refine x_then_normal ?_
   refine c_block ?_
   have hb105 : l4.length ≤ 9223372036854775807 := (FZ.bd h3)
   obtain ⟨t150, hl151, hk152⟩ := bindS hm
   refine c_forM (fun k149 => fun _ => fun b147 e' hp' => [(0, .slice A1 (l4).length c2), (1, .slice A5 (l8).length c6), (12, .int .i64 ((l4.length : Int))), (13, .int .i64 ((k149 : Int)))] = e' ∧ R = hp' ∧ b.Le b147) hl151 (e' := [(0, .slice A1 (l4).length c2), (1, .slice A5 (l8).length c6), (12, .int .i64 ((l4.length : Int))), (13, .int .i64 0)]) (hp' := R) ⟨rfl, rfl, rfl, rfl, trivial⟩ (.refl _) ⟨rfl, rfl, (Base.Le.refl _)⟩ ?_ ?_
   ·
    rintro k149 _ b147 _ _ oL104 hknL104 ⟨rfl, rfl, hle148⟩ hstepL104 houtL104
    unfold mSlicesEqual_L104 at hstepL104
    have hm := hstepL104
    refine c_seq ?_
    refine c_region ?_
    refine t_st rfl (st_lss_t rfl rfl (by omega)) ?_
    refine t_nil ?_
    refine x_then_normal ?_
    refine c_seq ?_
    refine c_cond_t rfl ?_
    refine c_skip ?_
    refine x_then_normal ?_
    refine c_seq ?_
    refine c_block ?_
    refine c_seq ?_
    refine c_region ?_
    refine t_st rfl (st_move rfl) ?_
    refine t_st rfl (st_assign rfl) ?_
    refine t_nil ?_
    refine x_then_normal ?_
    refine c_seq ?_
    obtain ⟨x173, h174, hm⟩ := bindS hm
    obtain ⟨x183, h184, hm⟩ := bindS hm
    refine D_drawS (R) mixed ?_
    refine E_in (.refl _) ?_
    refine E_st 0 rfl (st_move rfl) ?_
    refine E_st 1 rfl (st_move rfl) ?_
    obtain ⟨j175, hj176, hx177⟩ := idx_some h174
    obtain ⟨cs178, hr179, hcs180, hA181, hlt182⟩ := FZ.get (sz := 3) rfl (by decide) (h3.le hle148) hx177
    obtain ⟨_, _, rfl, rfl, ⟨_, _, rfl, rfl, rfl⟩⟩ := hr179
    refine E_st 2 rfl (st_index_old j175 rfl rfl hj176 hlt182 hA181 sl29) ?_
    refine E_st 3 rfl (st_loadN_old (vs := [.int .i64 (x173.Section), .int .i64 (x173.In), .int .i64 (x173.Out)]) 3 rfl agg43 hA181 rfl (fun j u hu => hcs180 j u hu)) ?_
    refine E_st 4 rfl (st_move rfl) ?_
    refine E_st 5 rfl (st_move rfl) ?_
    obtain ⟨j185, hj186, hx187⟩ := idx_some h184
    obtain ⟨cs188, hr189, hcs190, hA191, hlt192⟩ := FZ.get (sz := 3) rfl (by decide) (h7.le hle148) hx187
    obtain ⟨_, _, rfl, rfl, ⟨_, _, rfl, rfl, rfl⟩⟩ := hr189
    refine E_st 6 rfl (st_index_old j185 rfl rfl hj186 hlt192 hA191 sl29) ?_
    refine E_st 7 rfl (st_loadN_old (vs := [.int .i64 (x183.Section), .int .i64 (x183.In), .int .i64 (x183.Out)]) 3 rfl agg43 hA191 rfl (fun j u hu => hcs190 j u hu)) ?_
    refine E_st 8 rfl (st_neqA (xs := [.int .i64 (x173.Section), .int .i64 (x173.In), .int .i64 (x173.Out)]) (ys := [.int .i64 (x183.Section), .int .i64 (x183.In), .int .i64 (x183.Out)]) (p := x173.Section = x183.Section ∧ x173.In = x183.In ∧ x173.Out = x183.Out) rfl rfl eqt43 ⟨⟨_, rfl⟩, ⟨⟨_, rfl⟩, ⟨⟨_, rfl⟩, trivial⟩⟩⟩ ⟨⟨_, rfl⟩, ⟨⟨_, rfl⟩, ⟨⟨_, rfl⟩, trivial⟩⟩⟩ (by simp [eqCells, eqCell, Bool.decide_and, beq_dec])) ?_
    refine E_out ?_
    refine D_done (by kernel_rfl) ?_
    refine x_then_normal ?_
    refine c_cond _ rfl (fun hc193 => ?_) (fun hc193 => ?_)
    ·
     rw [if_neg (of_decide_eq_false (notT hc193))] at hm
     refine c_seq ?_
     refine c_region ?_
     refine t_st rfl (st_assign rfl) ?_
     refine t_nil ?_
     refine x_then_normal ?_
     refine c_ret ?_
     refine x_block_ret ?_
     refine x_then_ret ?_
     refine x_then_ret ?_
     refine x_block_ret ?_
     refine x_then_ret ?_
     have hq194 := houtL104 _ (Option.some.inj hm).symm
     rw [hq194] at hk152
     have hm := elimR hk152
     obtain rfl := some1 hm
     exact retM (rs := [.tmp 4]) [.bool (false)] hle148 (by decide) rfl ⟨rfl, trivial⟩ rfl (hp' := R) (.refl _) ⟨rfl, rfl⟩
    ·
     rw [if_pos (of_decide_eq_true (notF hc193))] at hm
     refine c_skip ?_
     refine x_block_normal ?_
     refine x_then_normal ?_
     refine c_region ?_
     refine t_st rfl (st_add rfl rfl (by omega)) ?_
     refine t_st rfl (st_move rfl) ?_
     refine t_nil ?_
     exact x_againM () (Option.some.inj hm).symm (e' := [(0, .slice A1 (l4).length c2), (1, .slice A5 (l8).length c6), (12, .int .i64 ((l4.length : Int))), (13, .int .i64 ((k149 : Int) + 1))]) (hp' := R) ⟨rfl, rfl, rfl, rfl, trivial⟩ (.refl _) ⟨rfl, rfl, (hle148)⟩
   ·
    rintro _ b147 _ _ ⟨rfl, rfl, hle148⟩ hq195
    rw [hq195] at hk152
    have hm := elimL hk152
    refine c_seq ?_
    refine c_region ?_
    refine t_st rfl (st_lss_f rfl rfl (by omega)) ?_
    refine t_nil ?_
    refine x_then_normal ?_
    refine c_seq ?_
    refine c_cond_f rfl ?_
    refine c_exit ?_
    refine x_then_exit ?_
    refine x_then_exit ?_
    refine x_block_out ?_
    refine x_then_normal ?_
    refine c_seq ?_
    refine c_region ?_
    refine t_st rfl (st_assign rfl) ?_
    refine t_nil ?_
    refine x_then_normal ?_
    refine c_ret ?_
    obtain rfl := some1 hm
    exact retM (rs := [.tmp 4]) [.bool (true)] hle148 (by decide) rfl ⟨rfl, trivial⟩ rfl (hp' := R) (.refl _) ⟨rfl, rfl⟩

set_option maxRecDepth 20000 in
theorem cFishkeep1LineTurns (b : Base) (R : Hp) (s1 : ApiNet) (l20 : (List ApiStep)) (A2 : Option Addr) (c3 : Nat) (A5 : Option Addr) (c6 : Nat) (A8 : Option Addr) (c9 : Nat) (A11 : Option Addr) (c12 : Nat) (A14 : Option Addr) (c15 : Nat) (A17 : Option Addr) (c18 : Nat) (h4 : FZ RT.str b.w A2 c3 s1.Stations) (h7 : FZ rApiSection b.w A5 c6 s1.Sections) (h10 : FZ rApiLink b.w A8 c9 s1.Links) (h13 : FZ rApiSignal b.w A11 c12 s1.Signals) (h16 : FZ rApiGate b.w A14 c15 s1.Gates) (h19 : FZ rApiStep b.w A17 c18 l20) (x197 : Bool) (hm : mFishkeep1LineTurns s1 l20 = some x197) :
    CallsG Tryd.prog 3 [.agg #[.slice A2 (s1.Stations).length c3, .slice A5 (s1.Sections).length c6, .slice A8 (s1.Links).length c9, .slice A11 (s1.Signals).length c12, .slice A14 (s1.Gates).length c15], .slice A17 (l20).length c18] b (R) (fun v b' hp' => .bool (x197) = v ∧ R = hp') := by
  refine fn_enterG 128 Tryd.func3 rfl Tryd.ntmps3 rfl ?_
  unfold mFishkeep1LineTurns at hm
  refine c_seq ?_
  refine c_region ?_
  refine t_do rfl (u_box _ rfl rfl) ?_
  rintro _ _ ⟨g198, rfl, rfl⟩
  refine t_st rfl (st_assign rfl) ?_
  refine t_nil ?_
  refine x_then_normal ?_
  refine c_seq ?_
  refine c_seq ?_
  refine c_region ?_
  obtain ⟨x199, hcl200, hm⟩ := bindS hm
  refine t_do rfl (u_callW0 _ call7 rfl (fun w ho => cFishkeep1AwakeLine _ [] x199 hcl200) (fun _ _ _ h => h.2.symm)) ?_
  rintro _ _ ⟨⟨_, rfl, _⟩, rfl⟩
  refine t_st rfl (st_not rfl) ?_
  refine t_nil ?_
  refine x_then_normal ?_
  refine c_cond _ rfl (fun hc201 => ?_) (fun hc201 => ?_)
  ·
   rw [if_neg (fun hh => Bool.noConfusion (hh.symm.trans (notT hc201)))] at hm
   refine c_seq ?_
   refine c_region ?_
   refine t_st rfl (st_assign rfl) ?_
   refine t_nil ?_
   refine x_then_normal ?_
   refine c_ret ?_
   refine x_then_ret ?_
   obtain rfl := some1 hm
   exact retM (rs := [.tmp 4]) [.bool (false)] (Base.Le.refl _) (by decide) rfl ⟨rfl, trivial⟩ rfl (hp' := R) (.cons _ (.refl _)) ⟨rfl, rfl⟩
  ·
   rw [if_pos (notF hc201)] at hm
   refine c_skip ?_
   refine x_then_normal ?_
   refine c_seq ?_
   refine c_seq ?_
   refine c_region ?_
   refine t_st rfl (st_loadD (vs := [_, _, _, _, _]) 0 5 rfl agg28 rfl rfl rfl) ?_
   refine t_st rfl (st_move rfl) ?_
   obtain ⟨x202, hcl203, hm⟩ := bindS hm
   refine t_do rfl (u_callW0 _ call8 rfl (fun w ho => cLineCheckPath _ [] s1 l20 A2 c3 A5 c6 A8 c9 A11 c12 A14 c15 A17 c18 (h4.old ho) (h7.old ho) (h10.old ho) (h13.old ho) (h16.old ho) (h19.old ho) x202 hcl203) (fun _ _ _ h => h.2.symm)) ?_
   rintro _ _ ⟨⟨_, rfl, _⟩, rfl⟩
   refine t_st rfl (st_neq rfl rfl) ?_
   refine t_nil ?_
   refine x_then_normal ?_
   refine c_cond _ rfl (fun hc204 => ?_) (fun hc204 => ?_)
   ·
    rw [if_pos (of_decide_eq_true hc204)] at hm
    refine c_seq ?_
    refine c_region ?_
    refine t_st rfl (st_assign rfl) ?_
    refine t_nil ?_
    refine x_then_normal ?_
    refine c_ret ?_
    refine x_then_ret ?_
    obtain rfl := some1 hm
    exact retM (rs := [.tmp 4]) [.bool (true)] (Base.Le.refl _) (by decide) rfl ⟨rfl, trivial⟩ rfl (hp' := R) (.cons _ (.refl _)) ⟨rfl, rfl⟩
   ·
    rw [if_neg (of_decide_eq_false hc204)] at hm
    refine c_skip ?_
    refine x_then_normal ?_
    refine c_seq ?_
    refine c_region ?_
    refine t_st rfl (st_move rfl) ?_
    obtain ⟨l205, hcl206, hm⟩ := bindS hm
    refine t_callG _ rfl call9 rfl (cLineReverse _ _ l20 A17 c18 h19 l205 hcl206) ?_
    rintro _ b207 _ hle208 ⟨A209, c210, hs211, rfl, rfl, h212⟩
    refine t_in1 [] [_] hs211 R rfl ?_
    refine t_st rfl (st_assign rfl) ?_
    refine t_nil ?_
    refine x_then_normal ?_
    refine c_seq ?_
    refine c_region ?_
    refine t_st rfl (st_loadD (vs := [_, _, _, _, _]) 0 5 rfl agg28 rfl rfl rfl) ?_
    refine t_st rfl (st_move rfl) ?_
    obtain ⟨⟨x213, x214⟩, hcl215, hm⟩ := bindS hm
    have hm := (unc2E hm)
    refine t_do rfl (u_callW0 _ call10 rfl (fun w ho => cLineLength _ [] s1 l20 A2 c3 A5 c6 A8 c9 A11 c12 A14 c15 A17 c18 ((h4.le hle208).old ho) ((h7.le hle208).old ho) ((h10.le hle208).old ho) ((h13.le hle208).old ho) ((h16.le hle208).old ho) ((h19.le hle208).old ho) x213 x214 hcl215) (fun _ _ _ h => h.2.symm)) ?_
    rintro _ _ ⟨⟨_, rfl, _⟩, rfl⟩
    refine t_st rfl (st_move rfl) ?_
    refine t_st rfl (st_extract rfl rfl) ?_
    refine t_st rfl (st_extract rfl rfl) ?_
    refine t_st rfl (st_assign rfl) ?_
    refine t_st rfl (st_assign rfl) ?_
    refine t_nil ?_
    refine x_then_normal ?_
    refine c_seq ?_
    refine c_region ?_
    refine t_st rfl (st_loadD (vs := [_, _, _, _, _]) 0 5 rfl agg28 rfl rfl rfl) ?_
    refine t_st rfl (st_move rfl) ?_
    obtain ⟨⟨x216, x217⟩, hcl218, hm⟩ := bindS hm
    have hm := (unc2E hm)
    refine t_do rfl (u_callW0 _ call10 rfl (fun w ho => cLineLength _ [] s1 l205 A2 c3 A5 c6 A8 c9 A11 c12 A14 c15 A209 c210 ((h4.le hle208).old ho) ((h7.le hle208).old ho) ((h10.le hle208).old ho) ((h13.le hle208).old ho) ((h16.le hle208).old ho) (OS.now (o := (OT.fr rApiStep)) (l := l205) (hs := hs211) h212 ho (.cons _ (List.sublist_append_left _ _))) x216 x217 hcl218) (fun _ _ _ h => h.2.symm)) ?_
    rintro _ _ ⟨⟨_, rfl, _⟩, rfl⟩
    refine t_st rfl (st_move rfl) ?_
    refine t_st rfl (st_extract rfl rfl) ?_
    refine t_st rfl (st_extract rfl rfl) ?_
    refine t_st rfl (st_assign rfl) ?_
    refine t_st rfl (st_assign rfl) ?_
    refine t_nil ?_
    refine x_then_normal ?_
    refine c_seq ?_
    refine c_region ?_
    refine t_st rfl (st_loadD (vs := [_, _, _, _, _]) 0 5 rfl agg28 rfl rfl rfl) ?_
    refine t_st rfl (st_move rfl) ?_
    obtain ⟨⟨x219, l220⟩, hcl221, hm⟩ := bindS hm
    have hm := (unc2E hm)
    refine t_callG _ rfl call11 rfl (cLineProfile _ _ s1 l20 A2 c3 A5 c6 A8 c9 A11 c12 A14 c15 A17 c18 (h4.le hle208) (h7.le hle208) (h10.le hle208) (h13.le hle208) (h16.le hle208) (h19.le hle208) x219 l220 hcl221) ?_
    rintro _ b222 _ hle223 ⟨A224, c225, hs226, rfl, rfl, h227⟩
    refine t_in1 [] [_] hs226 (hs211 ++ R) rfl ?_
    refine t_st rfl (st_move rfl) ?_
    refine t_st rfl (st_extract rfl rfl) ?_
    refine t_st rfl (st_extract rfl rfl) ?_
    refine t_st rfl (st_assign rfl) ?_
    refine t_st rfl (st_assign rfl) ?_
    refine t_nil ?_
    refine x_then_normal ?_
    refine c_seq ?_
    refine c_region ?_
    refine t_st rfl (st_loadD (vs := [_, _, _, _, _]) 0 5 rfl agg28 rfl rfl rfl) ?_
    refine t_st rfl (st_move rfl) ?_
    obtain ⟨⟨x228, l229⟩, hcl230, hm⟩ := bindS hm
    have hm := (unc2E hm)
    refine t_do rfl (u_callWF [_] (hs226 ++ (hs211 ++ R)) _ rfl call11 rfl (fun w ho => cLineProfile _ [] s1 l205 A2 c3 A5 c6 A8 c9 A11 c12 A14 c15 A209 c210 ((h4.le (hle208.trans hle223)).old ho) ((h7.le (hle208.trans hle223)).old ho) ((h10.le (hle208.trans hle223)).old ho) ((h13.le (hle208.trans hle223)).old ho) ((h16.le (hle208.trans hle223)).old ho) (OS.now (o := (OT.fr rApiStep)) (l := l205) (hs := hs211) (h212.le hle223) ho (.cons _ (sub_skip hs226 (List.sublist_append_left _ _)))) x228 l229 hcl230)) ?_
    rintro _ _ ⟨_, _, rfl, A231, c232, hs233, rfl, hq236, h234⟩
    obtain rfl := List.append_cancel_right hq236
    have h235 := flat_fz (w' := b222.w) (cat_flat (fun _ _ _ _ h => h) (cat_flat (fun _ _ _ _ h => h) (fun _ _ _ _ h => h))) h234
    refine t_st rfl (st_move rfl) ?_
    refine t_st rfl (st_extract rfl rfl) ?_
    refine t_st rfl (st_extract rfl rfl) ?_
    refine t_st rfl (st_assign rfl) ?_
    refine t_st rfl (st_assign rfl) ?_
    refine t_nil ?_
    refine x_then_normal ?_
    refine c_seq ?_
    obtain ⟨x248, hj249, hk249⟩ := bindS hm
    refine c_join (fun b246 e' hp' => [(1, .slice A17 (l20).length c18), (5, .slice A209 (l205).length c210), (10, .slice A224 (l220).length c225), (12, .slice A231 (l229).length c232), (87, .bool (x248))] = e' ∧ (hs211 ++ (hs226 ++ (hs233 ++ R))) = hp' ∧ b222.Le b246) ?_ ?_
    ·
     have hm := hj249
     refine c_region ?_
     refine t_st rfl (st_loadD (vs := [_, _, _, _, _]) 0 5 rfl agg28 rfl rfl rfl) ?_
     refine t_st rfl (st_move rfl) ?_
     obtain ⟨x250, hcl251, hm⟩ := bindS hm
     refine t_do rfl (u_callW0 _ call8 rfl (fun w ho => cLineCheckPath _ [] s1 l205 A2 c3 A5 c6 A8 c9 A11 c12 A14 c15 A209 c210 ((h4.le (hle208.trans hle223)).old ho) ((h7.le (hle208.trans hle223)).old ho) ((h10.le (hle208.trans hle223)).old ho) ((h13.le (hle208.trans hle223)).old ho) ((h16.le (hle208.trans hle223)).old ho) (OS.now (o := (OT.fr rApiStep)) (l := l205) (hs := hs211) (h212.le hle223) ho (.cons _ (sub_skip hs233 (sub_skip hs226 (List.sublist_append_left _ _))))) x250 hcl251) (fun _ _ _ h => h.2.symm)) ?_
     rintro _ _ ⟨⟨_, rfl, _⟩, rfl⟩
     refine t_bool rfl (st_neq rfl rfl) (fun hc252 => ?_) (fun hc252 => ?_)
     ·
      rw [if_pos hc252] at hm
      refine t_st rfl (st_move rfl) ?_
      refine t_no 53 rfl rfl rfl rfl rfl ?_
      refine t_no 53 rfl rfl rfl rfl rfl ?_
      refine t_st rfl (st_pick_t rfl rfl) ?_
      refine t_st rfl (st_move rfl) ?_
      refine t_no 57 rfl rfl rfl rfl rfl ?_
      refine t_no 57 rfl rfl rfl rfl rfl ?_
      refine t_st rfl (st_pick_t rfl rfl) ?_
      refine t_st rfl (st_move rfl) ?_
      refine t_no 61 rfl rfl rfl rfl rfl ?_
      refine t_no 61 rfl rfl rfl rfl rfl ?_
      refine t_st rfl (st_pick_t rfl rfl) ?_
      refine t_st rfl (st_move rfl) ?_
      refine t_no 65 rfl rfl rfl rfl rfl ?_
      refine t_no 65 rfl rfl rfl rfl rfl ?_
      refine t_st rfl (st_pick_t rfl rfl) ?_
      refine t_st rfl (st_move rfl) ?_
      refine t_no 69 rfl rfl rfl rfl rfl ?_
      refine t_no 69 rfl rfl rfl rfl rfl ?_
      refine t_no 69 rfl rfl rfl rfl rfl ?_
      refine t_st rfl (st_pick_t rfl rfl) ?_
      refine t_st rfl (st_move rfl) ?_
      refine t_no 74 rfl rfl rfl rfl rfl ?_
      refine t_no 74 rfl rfl rfl rfl rfl ?_
      refine t_no 74 rfl rfl rfl rfl rfl ?_
      refine t_no 74 rfl rfl rfl rfl rfl ?_
      refine t_no 74 rfl rfl rfl rfl rfl ?_
      refine t_st rfl (st_pick_t rfl rfl) ?_
      refine t_st rfl (st_move rfl) ?_
      refine t_no 81 rfl rfl rfl rfl rfl ?_
      refine t_no 81 rfl rfl rfl rfl rfl ?_
      refine t_no 81 rfl rfl rfl rfl rfl ?_
      refine t_no 81 rfl rfl rfl rfl rfl ?_
      refine t_no 81 rfl rfl rfl rfl rfl ?_
      refine t_st rfl (st_pick_t rfl rfl) ?_
      refine t_nil ?_
      obtain rfl := some1 hm
      refine x_front2 [_] hs233 hs226 (hs211 ++ R) rfl ?_
      refine x_front3 [_] hs226 hs233 hs211 R rfl ?_
      exact x_join (e' := [(1, .slice A17 (l20).length c18), (5, .slice A209 (l205).length c210), (10, .slice A224 (l220).length c225), (12, .slice A231 (l229).length c232), (87, .bool (true))]) (hp' := (hs211 ++ (hs226 ++ (hs233 ++ R)))) ⟨rfl, rfl, rfl, rfl, rfl, trivial⟩ (.cons _ (sub_app hs211 (sub_app hs226 (sub_app hs233 (.refl _))))) ⟨rfl, rfl, (Base.Le.refl _)⟩
     ·
      rw [if_neg hc252] at hm
      refine t_st rfl (st_move rfl) ?_
      refine t_yes 53 rfl rfl rfl ?_
      refine t_st rfl (st_move rfl) ?_
      refine t_yes 53 rfl rfl rfl ?_
      refine t_bool rfl (st_neq rfl rfl) (fun hc253 => ?_) (fun hc253 => ?_)
      ·
       rw [if_pos hc253] at hm
       refine t_st rfl (st_pick_f rfl rfl) ?_
       refine t_st rfl (st_move rfl) ?_
       refine t_no 57 rfl rfl rfl rfl rfl ?_
       refine t_no 57 rfl rfl rfl rfl rfl ?_
       refine t_st rfl (st_pick_t rfl rfl) ?_
       refine t_st rfl (st_move rfl) ?_
       refine t_no 61 rfl rfl rfl rfl rfl ?_
       refine t_no 61 rfl rfl rfl rfl rfl ?_
       refine t_st rfl (st_pick_t rfl rfl) ?_
       refine t_st rfl (st_move rfl) ?_
       refine t_no 65 rfl rfl rfl rfl rfl ?_
       refine t_no 65 rfl rfl rfl rfl rfl ?_
       refine t_st rfl (st_pick_t rfl rfl) ?_
       refine t_st rfl (st_move rfl) ?_
       refine t_no 69 rfl rfl rfl rfl rfl ?_
       refine t_no 69 rfl rfl rfl rfl rfl ?_
       refine t_no 69 rfl rfl rfl rfl rfl ?_
       refine t_st rfl (st_pick_t rfl rfl) ?_
       refine t_st rfl (st_move rfl) ?_
       refine t_no 74 rfl rfl rfl rfl rfl ?_
       refine t_no 74 rfl rfl rfl rfl rfl ?_
       refine t_no 74 rfl rfl rfl rfl rfl ?_
       refine t_no 74 rfl rfl rfl rfl rfl ?_
       refine t_no 74 rfl rfl rfl rfl rfl ?_
       refine t_st rfl (st_pick_t rfl rfl) ?_
       refine t_st rfl (st_move rfl) ?_
       refine t_no 81 rfl rfl rfl rfl rfl ?_
       refine t_no 81 rfl rfl rfl rfl rfl ?_
       refine t_no 81 rfl rfl rfl rfl rfl ?_
       refine t_no 81 rfl rfl rfl rfl rfl ?_
       refine t_no 81 rfl rfl rfl rfl rfl ?_
       refine t_st rfl (st_pick_t rfl rfl) ?_
       refine t_nil ?_
       obtain rfl := some1 hm
       refine x_front2 [_] hs233 hs226 (hs211 ++ R) rfl ?_
       refine x_front3 [_] hs226 hs233 hs211 R rfl ?_
       exact x_join (e' := [(1, .slice A17 (l20).length c18), (5, .slice A209 (l205).length c210), (10, .slice A224 (l220).length c225), (12, .slice A231 (l229).length c232), (87, .bool (true))]) (hp' := (hs211 ++ (hs226 ++ (hs233 ++ R)))) ⟨rfl, rfl, rfl, rfl, rfl, trivial⟩ (.cons _ (sub_app hs211 (sub_app hs226 (sub_app hs233 (.refl _))))) ⟨rfl, rfl, (Base.Le.refl _)⟩
      ·
       rw [if_neg hc253] at hm
       refine t_st rfl (st_pick_f rfl rfl) ?_
       refine t_st rfl (st_move rfl) ?_
       refine t_yes 57 rfl rfl rfl ?_
       refine t_st rfl (st_move rfl) ?_
       refine t_yes 57 rfl rfl rfl ?_
       refine t_bool rfl (st_neq rfl rfl) (fun hc254 => ?_) (fun hc254 => ?_)
       ·
        rw [if_pos hc254] at hm
        refine t_st rfl (st_pick_f rfl rfl) ?_
        refine t_st rfl (st_move rfl) ?_
        refine t_no 61 rfl rfl rfl rfl rfl ?_
        refine t_no 61 rfl rfl rfl rfl rfl ?_
        refine t_st rfl (st_pick_t rfl rfl) ?_
        refine t_st rfl (st_move rfl) ?_
        refine t_no 65 rfl rfl rfl rfl rfl ?_
        refine t_no 65 rfl rfl rfl rfl rfl ?_
        refine t_st rfl (st_pick_t rfl rfl) ?_
        refine t_st rfl (st_move rfl) ?_
        refine t_no 69 rfl rfl rfl rfl rfl ?_
        refine t_no 69 rfl rfl rfl rfl rfl ?_
        refine t_no 69 rfl rfl rfl rfl rfl ?_
        refine t_st rfl (st_pick_t rfl rfl) ?_
        refine t_st rfl (st_move rfl) ?_
        refine t_no 74 rfl rfl rfl rfl rfl ?_
        refine t_no 74 rfl rfl rfl rfl rfl ?_
        refine t_no 74 rfl rfl rfl rfl rfl ?_
        refine t_no 74 rfl rfl rfl rfl rfl ?_
        refine t_no 74 rfl rfl rfl rfl rfl ?_
        refine t_st rfl (st_pick_t rfl rfl) ?_
        refine t_st rfl (st_move rfl) ?_
        refine t_no 81 rfl rfl rfl rfl rfl ?_
        refine t_no 81 rfl rfl rfl rfl rfl ?_
        refine t_no 81 rfl rfl rfl rfl rfl ?_
        refine t_no 81 rfl rfl rfl rfl rfl ?_
        refine t_no 81 rfl rfl rfl rfl rfl ?_
        refine t_st rfl (st_pick_t rfl rfl) ?_
        refine t_nil ?_
        obtain rfl := some1 hm
        refine x_front2 [_] hs233 hs226 (hs211 ++ R) rfl ?_
        refine x_front3 [_] hs226 hs233 hs211 R rfl ?_
        exact x_join (e' := [(1, .slice A17 (l20).length c18), (5, .slice A209 (l205).length c210), (10, .slice A224 (l220).length c225), (12, .slice A231 (l229).length c232), (87, .bool (true))]) (hp' := (hs211 ++ (hs226 ++ (hs233 ++ R)))) ⟨rfl, rfl, rfl, rfl, rfl, trivial⟩ (.cons _ (sub_app hs211 (sub_app hs226 (sub_app hs233 (.refl _))))) ⟨rfl, rfl, (Base.Le.refl _)⟩
       ·
        rw [if_neg hc254] at hm
        refine t_st rfl (st_pick_f rfl rfl) ?_
        refine t_st rfl (st_move rfl) ?_
        refine t_yes 61 rfl rfl rfl ?_
        refine t_st rfl (st_move rfl) ?_
        refine t_yes 61 rfl rfl rfl ?_
        refine t_bool rfl (st_neq rfl rfl) (fun hc255 => ?_) (fun hc255 => ?_)
        ·
         rw [if_pos hc255] at hm
         refine t_st rfl (st_pick_f rfl rfl) ?_
         refine t_st rfl (st_move rfl) ?_
         refine t_no 65 rfl rfl rfl rfl rfl ?_
         refine t_no 65 rfl rfl rfl rfl rfl ?_
         refine t_st rfl (st_pick_t rfl rfl) ?_
         refine t_st rfl (st_move rfl) ?_
         refine t_no 69 rfl rfl rfl rfl rfl ?_
         refine t_no 69 rfl rfl rfl rfl rfl ?_
         refine t_no 69 rfl rfl rfl rfl rfl ?_
         refine t_st rfl (st_pick_t rfl rfl) ?_
         refine t_st rfl (st_move rfl) ?_
         refine t_no 74 rfl rfl rfl rfl rfl ?_
         refine t_no 74 rfl rfl rfl rfl rfl ?_
         refine t_no 74 rfl rfl rfl rfl rfl ?_
         refine t_no 74 rfl rfl rfl rfl rfl ?_
         refine t_no 74 rfl rfl rfl rfl rfl ?_
         refine t_st rfl (st_pick_t rfl rfl) ?_
         refine t_st rfl (st_move rfl) ?_
         refine t_no 81 rfl rfl rfl rfl rfl ?_
         refine t_no 81 rfl rfl rfl rfl rfl ?_
         refine t_no 81 rfl rfl rfl rfl rfl ?_
         refine t_no 81 rfl rfl rfl rfl rfl ?_
         refine t_no 81 rfl rfl rfl rfl rfl ?_
         refine t_st rfl (st_pick_t rfl rfl) ?_
         refine t_nil ?_
         obtain rfl := some1 hm
         refine x_front2 [_] hs233 hs226 (hs211 ++ R) rfl ?_
         refine x_front3 [_] hs226 hs233 hs211 R rfl ?_
         exact x_join (e' := [(1, .slice A17 (l20).length c18), (5, .slice A209 (l205).length c210), (10, .slice A224 (l220).length c225), (12, .slice A231 (l229).length c232), (87, .bool (true))]) (hp' := (hs211 ++ (hs226 ++ (hs233 ++ R)))) ⟨rfl, rfl, rfl, rfl, rfl, trivial⟩ (.cons _ (sub_app hs211 (sub_app hs226 (sub_app hs233 (.refl _))))) ⟨rfl, rfl, (Base.Le.refl _)⟩
        ·
         rw [if_neg hc255] at hm
         refine t_st rfl (st_pick_f rfl rfl) ?_
         refine t_st rfl (st_move rfl) ?_
         refine t_yes 65 rfl rfl rfl ?_
         refine t_st rfl (st_move rfl) ?_
         refine t_yes 65 rfl rfl rfl ?_
         refine t_bool rfl (st_neq rfl rfl) (fun hc256 => ?_) (fun hc256 => ?_)
         ·
          rw [if_pos hc256] at hm
          refine t_st rfl (st_pick_f rfl rfl) ?_
          refine t_st rfl (st_move rfl) ?_
          refine t_no 69 rfl rfl rfl rfl rfl ?_
          refine t_no 69 rfl rfl rfl rfl rfl ?_
          refine t_no 69 rfl rfl rfl rfl rfl ?_
          refine t_st rfl (st_pick_t rfl rfl) ?_
          refine t_st rfl (st_move rfl) ?_
          refine t_no 74 rfl rfl rfl rfl rfl ?_
          refine t_no 74 rfl rfl rfl rfl rfl ?_
          refine t_no 74 rfl rfl rfl rfl rfl ?_
          refine t_no 74 rfl rfl rfl rfl rfl ?_
          refine t_no 74 rfl rfl rfl rfl rfl ?_
          refine t_st rfl (st_pick_t rfl rfl) ?_
          refine t_st rfl (st_move rfl) ?_
          refine t_no 81 rfl rfl rfl rfl rfl ?_
          refine t_no 81 rfl rfl rfl rfl rfl ?_
          refine t_no 81 rfl rfl rfl rfl rfl ?_
          refine t_no 81 rfl rfl rfl rfl rfl ?_
          refine t_no 81 rfl rfl rfl rfl rfl ?_
          refine t_st rfl (st_pick_t rfl rfl) ?_
          refine t_nil ?_
          obtain rfl := some1 hm
          refine x_front2 [_] hs233 hs226 (hs211 ++ R) rfl ?_
          refine x_front3 [_] hs226 hs233 hs211 R rfl ?_
          exact x_join (e' := [(1, .slice A17 (l20).length c18), (5, .slice A209 (l205).length c210), (10, .slice A224 (l220).length c225), (12, .slice A231 (l229).length c232), (87, .bool (true))]) (hp' := (hs211 ++ (hs226 ++ (hs233 ++ R)))) ⟨rfl, rfl, rfl, rfl, rfl, trivial⟩ (.cons _ (sub_app hs211 (sub_app hs226 (sub_app hs233 (.refl _))))) ⟨rfl, rfl, (Base.Le.refl _)⟩
         ·
          rw [if_neg hc256] at hm
          refine t_st rfl (st_pick_f rfl rfl) ?_
          refine t_st rfl (st_move rfl) ?_
          refine t_yes 69 rfl rfl rfl ?_
          refine t_st rfl (st_move rfl) ?_
          refine t_yes 69 rfl rfl rfl ?_
          refine t_st rfl (st_move rfl) ?_
          refine t_yes 69 rfl rfl rfl ?_
          refine t_bool rfl (st_neq rfl rfl) (fun hc257 => ?_) (fun hc257 => ?_)
          ·
           rw [if_pos hc257] at hm
           refine t_st rfl (st_pick_f rfl rfl) ?_
           refine t_st rfl (st_move rfl) ?_
           refine t_no 74 rfl rfl rfl rfl rfl ?_
           refine t_no 74 rfl rfl rfl rfl rfl ?_
           refine t_no 74 rfl rfl rfl rfl rfl ?_
           refine t_no 74 rfl rfl rfl rfl rfl ?_
           refine t_no 74 rfl rfl rfl rfl rfl ?_
           refine t_st rfl (st_pick_t rfl rfl) ?_
           refine t_st rfl (st_move rfl) ?_
           refine t_no 81 rfl rfl rfl rfl rfl ?_
           refine t_no 81 rfl rfl rfl rfl rfl ?_
           refine t_no 81 rfl rfl rfl rfl rfl ?_
           refine t_no 81 rfl rfl rfl rfl rfl ?_
           refine t_no 81 rfl rfl rfl rfl rfl ?_
           refine t_st rfl (st_pick_t rfl rfl) ?_
           refine t_nil ?_
           obtain rfl := some1 hm
           refine x_front2 [_] hs233 hs226 (hs211 ++ R) rfl ?_
           refine x_front3 [_] hs226 hs233 hs211 R rfl ?_
           exact x_join (e' := [(1, .slice A17 (l20).length c18), (5, .slice A209 (l205).length c210), (10, .slice A224 (l220).length c225), (12, .slice A231 (l229).length c232), (87, .bool (true))]) (hp' := (hs211 ++ (hs226 ++ (hs233 ++ R)))) ⟨rfl, rfl, rfl, rfl, rfl, trivial⟩ (.cons _ (sub_app hs211 (sub_app hs226 (sub_app hs233 (.refl _))))) ⟨rfl, rfl, (Base.Le.refl _)⟩
          ·
           rw [if_neg hc257] at hm
           refine t_st rfl (st_pick_f rfl rfl) ?_
           refine t_st rfl (st_move rfl) ?_
           refine t_yes 74 rfl rfl rfl ?_
           refine t_st rfl (st_move rfl) ?_
           refine t_yes 74 rfl rfl rfl ?_
           refine t_st rfl (st_len rfl sl36) ?_
           refine t_yes 74 rfl rfl rfl ?_
           refine t_st rfl (st_move rfl) ?_
           refine t_yes 74 rfl rfl rfl ?_
           refine t_st rfl (st_len rfl sl29) ?_
           refine t_yes 74 rfl rfl rfl ?_
           refine t_bool rfl (st_neq rfl rfl) (fun hc258 => ?_) (fun hc258 => ?_)
           ·
            rw [if_pos hc258] at hm
            refine t_st rfl (st_pick_f rfl rfl) ?_
            refine t_st rfl (st_move rfl) ?_
            refine t_no 81 rfl rfl rfl rfl rfl ?_
            refine t_no 81 rfl rfl rfl rfl rfl ?_
            refine t_no 81 rfl rfl rfl rfl rfl ?_
            refine t_no 81 rfl rfl rfl rfl rfl ?_
            refine t_no 81 rfl rfl rfl rfl rfl ?_
            refine t_st rfl (st_pick_t rfl rfl) ?_
            refine t_nil ?_
            obtain rfl := some1 hm
            refine x_front2 [_] hs233 hs226 (hs211 ++ R) rfl ?_
            refine x_front3 [_] hs226 hs233 hs211 R rfl ?_
            exact x_join (e' := [(1, .slice A17 (l20).length c18), (5, .slice A209 (l205).length c210), (10, .slice A224 (l220).length c225), (12, .slice A231 (l229).length c232), (87, .bool (true))]) (hp' := (hs211 ++ (hs226 ++ (hs233 ++ R)))) ⟨rfl, rfl, rfl, rfl, rfl, trivial⟩ (.cons _ (sub_app hs211 (sub_app hs226 (sub_app hs233 (.refl _))))) ⟨rfl, rfl, (Base.Le.refl _)⟩
           ·
            rw [if_neg hc258] at hm
            refine t_st rfl (st_pick_f rfl rfl) ?_
            refine t_st rfl (st_move rfl) ?_
            refine t_yes 81 rfl rfl rfl ?_
            refine t_st rfl (st_move rfl) ?_
            refine t_yes 81 rfl rfl rfl ?_
            refine t_st rfl (st_len rfl sl36) ?_
            refine t_yes 81 rfl rfl rfl ?_
            refine t_st rfl (st_move rfl) ?_
            refine t_yes 81 rfl rfl rfl ?_
            refine t_st rfl (st_len rfl sl29) ?_
            refine t_yes 81 rfl rfl rfl ?_
            refine t_st rfl (st_neq rfl rfl) ?_
            refine t_st rfl (st_pick_f rfl rfl) ?_
            refine t_nil ?_
            obtain rfl := some1 hm
            refine x_front2 [_] hs233 hs226 (hs211 ++ R) rfl ?_
            refine x_front3 [_] hs226 hs233 hs211 R rfl ?_
            exact x_join (e' := [(1, .slice A17 (l20).length c18), (5, .slice A209 (l205).length c210), (10, .slice A224 (l220).length c225), (12, .slice A231 (l229).length c232), (87, .bool (decide ((l229.length : Int) ≠ (l20.length : Int))))]) (hp' := (hs211 ++ (hs226 ++ (hs233 ++ R)))) ⟨rfl, rfl, rfl, rfl, rfl, trivial⟩ (.cons _ (sub_app hs211 (sub_app hs226 (sub_app hs233 (.refl _))))) ⟨rfl, rfl, (Base.Le.refl _)⟩
    ·
     rintro b246 _ _ ⟨rfl, rfl, hle247⟩
     have hm := hk249
     refine c_cond _ rfl (fun hc259 => ?_) (fun hc259 => ?_)
     ·
      rw [if_pos hc259] at hm
      refine c_seq ?_
      refine c_region ?_
      refine t_st rfl (st_assign rfl) ?_
      refine t_nil ?_
      refine x_then_normal ?_
      refine c_ret ?_
      refine x_then_ret ?_
      obtain rfl := some1 hm
      exact retM (rs := [.tmp 4]) [.bool (false)] (hle208.trans (hle223.trans hle247)) (by decide) rfl ⟨rfl, trivial⟩ rfl (hp' := R) (sub_skip hs211 (sub_skip hs226 (sub_skip hs233 (.refl _)))) ⟨rfl, rfl⟩
     ·
      rw [if_neg (fun hh => Bool.noConfusion (hh.symm.trans hc259))] at hm
      refine c_skip ?_
      refine x_then_normal ?_
      refine c_seq ?_
      refine c_seq ?_
      refine c_region ?_
      refine t_st rfl (st_move rfl) ?_
      refine t_st rfl (st_len rfl sl36) ?_
      refine t_st rfl (st_move rfl) ?_
      refine t_nil ?_
      refine x_then_normal ?_
      refine c_block ?_
      have hb261 : l220.length ≤ 9223372036854775807 := (OS.len h227)
      refine c_front2 [] hs211 hs226 (hs233 ++ R) rfl ?_
      refine c_front3 [] hs226 hs211 hs233 R rfl ?_
      refine c_front3 [] hs233 hs226 hs211 R rfl ?_
      obtain ⟨t312, hl313, hk314⟩ := bindS hm
      refine c_forM (fun k311 => fun _ => fun b309 e' hp' => [(1, .slice A17 (l20).length c18), (5, .slice A209 (l205).length c210), (12, .slice A231 (l229).length c232), (88, .slice A224 (l220).length c225), (89, .int .i64 ((l220.length : Int))), (90, .int .i64 ((k311 : Int)))] = e' ∧ (hs211 ++ (hs233 ++ (hs226 ++ R))) = hp' ∧ b246.Le b309) hl313 (e' := [(1, .slice A17 (l20).length c18), (5, .slice A209 (l205).length c210), (12, .slice A231 (l229).length c232), (88, .slice A224 (l220).length c225), (89, .int .i64 ((l220.length : Int))), (90, .int .i64 0)]) (hp' := (hs211 ++ (hs233 ++ (hs226 ++ R)))) ⟨rfl, rfl, rfl, rfl, rfl, rfl, trivial⟩ (sub_app hs211 (sub_app hs233 (sub_app hs226 (.refl _)))) ⟨rfl, rfl, (Base.Le.refl _)⟩ ?_ ?_
      ·
       rintro k311 _ b309 _ _ oL260 hknL260 ⟨rfl, rfl, hle310⟩ hstepL260 houtL260
       unfold mFishkeep1LineTurns_L260 at hstepL260
       have hm := hstepL260
       refine c_seq ?_
       refine c_region ?_
       refine t_st rfl (st_lss_t rfl rfl (by omega)) ?_
       refine t_nil ?_
       refine x_then_normal ?_
       refine c_seq ?_
       refine c_cond_t rfl ?_
       refine c_skip ?_
       refine x_then_normal ?_
       refine c_seq ?_
       refine c_block ?_
       refine c_seq ?_
       refine c_region ?_
       refine t_st rfl (st_move rfl) ?_
       obtain ⟨x315, h316, hm⟩ := bindS hm
       obtain ⟨j317, hj318, hx319⟩ := idx_some h316
       obtain ⟨cs320, hs325, P326, P327, hq328, hr321, hcs322, hA323, hlt324, hb329, hho330⟩ := OS.get (sz := 3) rfl (by decide) (h227.le (hle247.trans hle310)) hx319
       obtain ⟨⟨_, _, rfl, rfl, ⟨_, _, rfl, rfl, rfl⟩⟩, rfl⟩ := hr321
       refine t_st rfl (st_index_old j317 rfl rfl hj318 hlt324 hA323 sl36) ?_
       refine t_st rfl (st_loadN_rd (vs := [.int .i64 (x315.Length), .int .i64 (x315.Grade), .int .i64 (x315.Speed)]) 3 rfl agg40 hA323 rfl (fun w ho j u hu => hcs322 w _ ho (sub_skip hs211 (sub_skip hs233 (List.sublist_append_left _ _))) j u hu)) ?_
       refine t_do rfl (u_alloc [.int .i64 0, .int .i64 0, .int .i64 0] zero40 rfl) ?_
       rintro _ _ ⟨g331, rfl, rfl⟩
       refine t_st rfl (st_assign rfl) ?_
       refine t_do rfl (u_storeN (vs := [_, _, _]) 0 3 rfl rfl rfl siz40 rfl (by intro u hu; simp only [List.mem_cons, List.not_mem_nil, or_false] at hu; rcases hu with rfl | rfl | rfl <;> rfl) rfl (by simp)) ?_
       rintro _ _ rfl
       refine t_nil ?_
       refine x_then_normal ?_
       refine c_seq ?_
       refine c_region ?_
       refine t_st rfl (st_move rfl) ?_
       refine t_st rfl (st_move rfl) ?_
       refine t_st rfl (st_len rfl sl36) ?_
       obtain ⟨_, h332, hm⟩ := bindS hm
       have h332 := (chk_some h332).2
       refine t_st rfl (st_sub rfl rfl h332) ?_
       refine t_st rfl (st_move rfl) ?_
       obtain ⟨_, h333, hm⟩ := bindS hm
       have h333 := (chk_some h333).2
       refine t_st rfl (st_sub rfl rfl h333) ?_
       obtain ⟨x334, h335, hm⟩ := bindS hm
       obtain ⟨j336, hj337, hx338⟩ := idx_some h335
       obtain ⟨cs339, hs344, P345, P346, hq347, hr340, hcs341, hA342, hlt343, hb348, hho349⟩ := OS.get (sz := 3) rfl (by decide) (h235.le (hle247.trans hle310)) hx338
       obtain ⟨⟨_, _, rfl, rfl, ⟨_, _, rfl, rfl, rfl⟩⟩, rfl⟩ := hr340
       refine t_st rfl (st_index_old j336 rfl rfl hj337 hlt343 hA342 sl36) ?_
       refine t_st rfl (st_loadN_rd (vs := [.int .i64 (x334.Length), .int .i64 (x334.Grade), .int .i64 (x334.Speed)]) 3 rfl agg40 hA342 rfl (fun w ho j u hu => hcs341 w _ ho (.cons _ (sub_skip hs211 (List.sublist_append_left _ _))) j u hu)) ?_
       refine t_do rfl (u_alloc [.int .i64 0, .int .i64 0, .int .i64 0] zero40 rfl) ?_
       rintro _ _ ⟨g350, rfl, rfl⟩
       refine t_do rfl (u_storeN (vs := [_, _, _]) 0 3 rfl rfl rfl siz40 rfl (by intro u hu; simp only [List.mem_cons, List.not_mem_nil, or_false] at hu; rcases hu with rfl | rfl | rfl <;> rfl) rfl (by simp)) ?_
       rintro _ _ rfl
       refine t_nil ?_
       refine x_then_normal ?_
       obtain ⟨x356, hj357, hk357⟩ := bindS hm
       refine c_join (fun b354 e' hp' => [(1, .slice A17 (l20).length c18), (5, .slice A209 (l205).length c210), (12, .slice A231 (l229).length c232), (88, .slice A224 (l220).length c225), (89, .int .i64 ((l220.length : Int))), (90, .int .i64 ((k311 : Int))), (122, .bool (x356))] = e' ∧ (hs211 ++ (hs233 ++ (hs226 ++ R))) = hp' ∧ b309.Le b354) ?_ ?_
       ·
        have hm := hj357
        refine c_region ?_
        refine t_st rfl (st_field rfl fld40_0) ?_
        refine t_st rfl (st_load 1 rfl one3 rfl rfl) ?_
        refine t_st rfl (st_field rfl fld40_0) ?_
        refine t_st rfl (st_load 0 rfl one3 rfl rfl) ?_
        refine t_bool rfl (st_neq rfl rfl) (fun hc358 => ?_) (fun hc358 => ?_)
        ·
         rw [if_pos hc358] at hm
         refine t_st rfl (st_move rfl) ?_
         refine t_no 108 rfl rfl rfl rfl rfl ?_
         refine t_no 108 rfl rfl rfl rfl rfl ?_
         refine t_no 108 rfl rfl rfl rfl rfl ?_
         refine t_no 108 rfl rfl rfl rfl rfl ?_
         refine t_no 108 rfl rfl rfl rfl rfl ?_
         refine t_no 108 rfl rfl rfl rfl rfl ?_
         refine t_st rfl (st_pick_t rfl rfl) ?_
         refine t_st rfl (st_move rfl) ?_
         refine t_no 116 rfl rfl rfl rfl rfl ?_
         refine t_no 116 rfl rfl rfl rfl rfl ?_
         refine t_no 116 rfl rfl rfl rfl rfl ?_
         refine t_no 116 rfl rfl rfl rfl rfl ?_
         refine t_no 116 rfl rfl rfl rfl rfl ?_
         refine t_st rfl (st_pick_t rfl rfl) ?_
         refine t_nil ?_
         obtain rfl := some1 hm
         refine x_front3 [_, _] hs211 hs233 hs226 R rfl ?_
         refine x_front3 [_, _] hs226 hs211 hs233 R rfl ?_
         refine x_front3 [_, _] hs233 hs226 hs211 R rfl ?_
         exact x_join (e' := [(1, .slice A17 (l20).length c18), (5, .slice A209 (l205).length c210), (12, .slice A231 (l229).length c232), (88, .slice A224 (l220).length c225), (89, .int .i64 ((l220.length : Int))), (90, .int .i64 ((k311 : Int))), (122, .bool (true))]) (hp' := (hs211 ++ (hs233 ++ (hs226 ++ R)))) ⟨rfl, rfl, rfl, rfl, rfl, rfl, rfl, trivial⟩ (.cons _ (.cons _ (sub_app hs211 (sub_app hs233 (sub_app hs226 (.refl _)))))) ⟨rfl, rfl, (Base.Le.refl _)⟩
        ·
         rw [if_neg hc358] at hm
         refine t_st rfl (st_move rfl) ?_
         refine t_yes 108 rfl rfl rfl ?_
         refine t_st rfl (st_field rfl fld40_1) ?_
         refine t_yes 108 rfl rfl rfl ?_
         refine t_st rfl (st_load 1 rfl one3 rfl rfl) ?_
         refine t_yes 108 rfl rfl rfl ?_
         refine t_st rfl (st_field rfl fld40_1) ?_
         refine t_yes 108 rfl rfl rfl ?_
         refine t_st rfl (st_load 0 rfl one3 rfl rfl) ?_
         refine t_yes 108 rfl rfl rfl ?_
         obtain ⟨_, h359, hm⟩ := bindS hm
         have h359 := (chk_some h359).2
         refine t_st rfl (st_negc rfl h359) ?_
         refine t_yes 108 rfl rfl rfl ?_
         refine t_bool rfl (st_neq rfl rfl) (fun hc360 => ?_) (fun hc360 => ?_)
         ·
          rw [if_pos hc360] at hm
          refine t_st rfl (st_pick_f rfl rfl) ?_
          refine t_st rfl (st_move rfl) ?_
          refine t_no 116 rfl rfl rfl rfl rfl ?_
          refine t_no 116 rfl rfl rfl rfl rfl ?_
          refine t_no 116 rfl rfl rfl rfl rfl ?_
          refine t_no 116 rfl rfl rfl rfl rfl ?_
          refine t_no 116 rfl rfl rfl rfl rfl ?_
          refine t_st rfl (st_pick_t rfl rfl) ?_
          refine t_nil ?_
          obtain rfl := some1 hm
          refine x_front3 [_, _] hs211 hs233 hs226 R rfl ?_
          refine x_front3 [_, _] hs226 hs211 hs233 R rfl ?_
          refine x_front3 [_, _] hs233 hs226 hs211 R rfl ?_
          exact x_join (e' := [(1, .slice A17 (l20).length c18), (5, .slice A209 (l205).length c210), (12, .slice A231 (l229).length c232), (88, .slice A224 (l220).length c225), (89, .int .i64 ((l220.length : Int))), (90, .int .i64 ((k311 : Int))), (122, .bool (true))]) (hp' := (hs211 ++ (hs233 ++ (hs226 ++ R)))) ⟨rfl, rfl, rfl, rfl, rfl, rfl, rfl, trivial⟩ (.cons _ (.cons _ (sub_app hs211 (sub_app hs233 (sub_app hs226 (.refl _)))))) ⟨rfl, rfl, (Base.Le.refl _)⟩
         ·
          rw [if_neg hc360] at hm
          refine t_st rfl (st_pick_f rfl rfl) ?_
          refine t_st rfl (st_move rfl) ?_
          refine t_yes 116 rfl rfl rfl ?_
          refine t_st rfl (st_field rfl fld40_2) ?_
          refine t_yes 116 rfl rfl rfl ?_
          refine t_st rfl (st_load 1 rfl one3 rfl rfl) ?_
          refine t_yes 116 rfl rfl rfl ?_
          refine t_st rfl (st_field rfl fld40_2) ?_
          refine t_yes 116 rfl rfl rfl ?_
          refine t_st rfl (st_load 0 rfl one3 rfl rfl) ?_
          refine t_yes 116 rfl rfl rfl ?_
          refine t_st rfl (st_neq rfl rfl) ?_
          refine t_st rfl (st_pick_f rfl rfl) ?_
          refine t_nil ?_
          obtain rfl := some1 hm
          refine x_front3 [_, _] hs211 hs233 hs226 R rfl ?_
          refine x_front3 [_, _] hs226 hs211 hs233 R rfl ?_
          refine x_front3 [_, _] hs233 hs226 hs211 R rfl ?_
          exact x_join (e' := [(1, .slice A17 (l20).length c18), (5, .slice A209 (l205).length c210), (12, .slice A231 (l229).length c232), (88, .slice A224 (l220).length c225), (89, .int .i64 ((l220.length : Int))), (90, .int .i64 ((k311 : Int))), (122, .bool (decide (x315.Speed ≠ x334.Speed)))]) (hp' := (hs211 ++ (hs233 ++ (hs226 ++ R)))) ⟨rfl, rfl, rfl, rfl, rfl, rfl, rfl, trivial⟩ (.cons _ (.cons _ (sub_app hs211 (sub_app hs233 (sub_app hs226 (.refl _)))))) ⟨rfl, rfl, (Base.Le.refl _)⟩
       ·
        rintro b354 _ _ ⟨rfl, rfl, hle355⟩
        have hm := hk357
        refine c_cond _ rfl (fun hc361 => ?_) (fun hc361 => ?_)
        ·
         rw [if_pos hc361] at hm
         refine c_seq ?_
         refine c_region ?_
         refine t_st rfl (st_assign rfl) ?_
         refine t_nil ?_
         refine x_then_normal ?_
         refine c_ret ?_
         refine x_block_ret ?_
         refine x_then_ret ?_
         refine x_then_ret ?_
         refine x_block_ret ?_
         refine x_then_ret ?_
         have hq362 := houtL260 _ (Option.some.inj hm).symm
         rw [hq362] at hk314
         have hm := elimR hk314
         obtain rfl := some1 hm
         exact retM (rs := [.tmp 4]) [.bool (false)] (hle208.trans (hle223.trans (hle247.trans (hle310.trans hle355)))) (by decide) rfl ⟨rfl, trivial⟩ rfl (hp' := R) (sub_skip hs211 (sub_skip hs233 (sub_skip hs226 (.refl _)))) ⟨rfl, rfl⟩
        ·
         rw [if_neg (fun hh => Bool.noConfusion (hh.symm.trans hc361))] at hm
         refine c_skip ?_
         refine x_block_normal ?_
         refine x_then_normal ?_
         refine c_region ?_
         refine t_st rfl (st_add rfl rfl (by omega)) ?_
         refine t_st rfl (st_move rfl) ?_
         refine t_nil ?_
         refine x_front3 [] hs211 hs233 hs226 R rfl ?_
         refine x_front3 [] hs226 hs211 hs233 R rfl ?_
         refine x_front3 [] hs233 hs226 hs211 R rfl ?_
         exact x_againM () (Option.some.inj hm).symm (e' := [(1, .slice A17 (l20).length c18), (5, .slice A209 (l205).length c210), (12, .slice A231 (l229).length c232), (88, .slice A224 (l220).length c225), (89, .int .i64 ((l220.length : Int))), (90, .int .i64 ((k311 : Int) + 1))]) (hp' := (hs211 ++ (hs233 ++ (hs226 ++ R)))) ⟨rfl, rfl, rfl, rfl, rfl, rfl, trivial⟩ (sub_app hs211 (sub_app hs233 (sub_app hs226 (.refl _)))) ⟨rfl, rfl, ((hle310.trans hle355))⟩
      ·
       rintro _ b309 _ _ ⟨rfl, rfl, hle310⟩ hq363
       rw [hq363] at hk314
       have hm := elimL hk314
       refine c_seq ?_
       refine c_region ?_
       refine t_st rfl (st_lss_f rfl rfl (by omega)) ?_
       refine t_nil ?_
       refine x_then_normal ?_
       refine c_seq ?_
       refine c_cond_f rfl ?_
       refine c_exit ?_
       refine x_then_exit ?_
       refine x_then_exit ?_
       refine x_block_out ?_
       refine x_then_normal ?_
       refine c_seq ?_
       refine c_region ?_
       refine t_st rfl (st_move rfl) ?_
       obtain ⟨l364, hcl365, hm⟩ := bindS hm
       refine t_do rfl (u_callWF [] (hs211 ++ (hs233 ++ (hs226 ++ R))) _ rfl call9 rfl (fun w ho => cLineReverse _ [] l205 A209 c210 (OS.now (o := (OT.fr rApiStep)) (l := l205) (hs := hs211) (h212.le (hle223.trans (hle247.trans hle310))) ho (List.sublist_append_left _ _)) l364 hcl365)) ?_
       rintro _ _ ⟨_, _, rfl, A366, c367, hs368, rfl, hq371, h369⟩
       obtain rfl := List.append_cancel_right hq371
       have h370 := flat_fz (w' := b309.w) (cat_flat (fun _ _ _ _ h => h) (cat_flat (fun _ _ _ _ h => h) (fun _ _ _ _ h => h))) h369
       refine t_st rfl (st_move rfl) ?_
       obtain ⟨x372, hcl373, hm⟩ := bindS hm
       refine t_do rfl (u_callW0 _ call12 rfl (fun w ho => cSlicesEqual _ [] l364 l20 A366 c367 A17 c18 (OS.now (o := (OT.fr rApiStep)) (l := l364) (hs := hs368) h370 ho (List.sublist_append_left _ _)) ((h19.le (hle208.trans (hle223.trans (hle247.trans hle310)))).old ho) x372 hcl373) (fun _ _ _ h => h.2.symm)) ?_
       rintro _ _ ⟨⟨_, rfl, _⟩, rfl⟩
       refine t_st rfl (st_assign rfl) ?_
       refine t_nil ?_
       refine x_then_normal ?_
       refine c_ret ?_
       obtain rfl := some1 hm
       exact retM (rs := [.tmp 4]) [.bool (x372)] (hle208.trans (hle223.trans (hle247.trans hle310))) (by decide) rfl ⟨rfl, trivial⟩ rfl (hp' := R) (sub_skip hs368 (sub_skip hs211 (sub_skip hs233 (sub_skip hs226 (.refl _))))) ⟨rfl, rfl⟩

end Go.Proofs.YtcibjjhanafojaaDoor
