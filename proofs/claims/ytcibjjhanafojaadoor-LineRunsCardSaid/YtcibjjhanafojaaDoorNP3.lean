/- Contracts: the code computes its model (part 3). -/
import Derived.Test.YtcibjjhanafojaaDoorNP2
set_option linter.unusedVariables false
set_option linter.unusedSimpArgs false
namespace Go.Proofs.YtcibjjhanafojaaDoor
open Go.RowKit Go.Fp

set_option maxRecDepth 20000 in
theorem cLineOuts (b : Base) (R : Hp) (x1 : Int) (x2 : Int) (l38 : (List Int)) (hm : mLineOuts x1 x2 = some l38) :
    CallsG Tryd.prog 26 [.int .i64 (x1), .int .i64 (x2)] b (R) (fun v b' hp' => ∃ (A35 : Option Addr), ∃ (c36 : Nat), .slice A35 (l38).length c36 = v ∧ R = hp' ∧ FZ (RT.int .i64) b'.w A35 c36 l38) := by
  refine fn_enterG 20 Tryd.func26 rfl Tryd.ntmps26 rfl ?_
  unfold mLineOuts at hm
  refine c_seq ?_
  refine c_region ?_
  refine t_st rfl (st_assign rfl) ?_
  refine t_nil ?_
  refine x_then_normal ?_
  refine c_seq ?_
  refine c_block ?_
  obtain ⟨x42, hj43, hk43⟩ := bindS hm
  refine c_join (fun b40 e' hp' => [(0, .int .i64 (x1)), (1, .int .i64 (x2)), (5, .bool (x42))] = e' ∧ R = hp' ∧ b.Le b40) ?_ ?_
  ·
   have hm := hj43
   refine c_region ?_
   refine t_st rfl (st_move rfl) ?_
   refine t_bool rfl (st_eql rfl rfl) (fun hc44 => ?_) (fun hc44 => ?_)
   ·
    rw [if_pos hc44] at hm
    refine t_st rfl (st_move rfl) ?_
    refine t_yes 8 rfl rfl rfl ?_
    refine t_st rfl (st_move rfl) ?_
    refine t_yes 8 rfl rfl rfl ?_
    refine t_st rfl (st_eql rfl rfl) ?_
    refine t_st rfl (st_pick_t rfl rfl) ?_
    refine t_st rfl (st_assign rfl) ?_
    refine t_nil ?_
    obtain rfl := some1 hm
    exact x_join (e' := [(0, .int .i64 (x1)), (1, .int .i64 (x2)), (5, .bool (decide (x2 = 0)))]) (hp' := R) ⟨rfl, rfl, rfl, trivial⟩ (.refl _) ⟨rfl, rfl, (Base.Le.refl _)⟩
   ·
    rw [if_neg hc44] at hm
    refine t_st rfl (st_move rfl) ?_
    refine t_no 8 rfl rfl rfl rfl rfl ?_
    refine t_no 8 rfl rfl rfl rfl rfl ?_
    refine t_st rfl (st_pick_f rfl rfl) ?_
    refine t_st rfl (st_assign rfl) ?_
    refine t_nil ?_
    obtain rfl := some1 hm
    exact x_join (e' := [(0, .int .i64 (x1)), (1, .int .i64 (x2)), (5, .bool (false))]) (hp' := R) ⟨rfl, rfl, rfl, trivial⟩ (.refl _) ⟨rfl, rfl, (Base.Le.refl _)⟩
  ·
   rintro b40 _ _ ⟨rfl, rfl, hle41⟩
   have hm := hk43
   refine c_cond _ rfl (fun hc45 => ?_) (fun hc45 => ?_)
   ·
    rw [if_pos hc45] at hm
    refine c_seq ?_
    refine c_region ?_
    refine t_do rfl (u_bslice (el := 3) [(0, .int .i64 (1)), (1, .int .i64 (2))] [.int .i64 (1), .int .i64 (2)] rfl (fun _ => by kernel_rfl)) ?_
    rintro _ _ ⟨g46, rfl, rfl⟩
    refine t_st rfl (st_assign rfl) ?_
    refine t_nil ?_
    refine x_then_normal ?_
    refine c_ret ?_
    refine x_block_ret ?_
    refine x_then_ret ?_
    refine x_seg 0 [] R rfl rfl ?_
    have h48 : OS 3 (OT.fr (RT.int .i64)) b40.w (.slice (some ⟨g46, 0, none⟩) 2 2) [1, 2] [(g46, Cl 3 [.int .i64 (1), .int .i64 (2)])] := OS.lit [[.int .i64 (1)], [.int .i64 (2)]] rfl ⟨rfl, ⟨rfl, trivial⟩⟩ rfl (by decide)
    have hnz49 : (((some ⟨g46, 0, none⟩) : Option Addr) = none ↔ [1, 2] = []) := ⟨nofun, nofun⟩
    refine x_frz [] [(g46, Cl 3 [.int .i64 (1), .int .i64 (2)])] R rfl ?_
    intro b50 hle51 hz52
    have h53 := OS.frz (l := [1, 2]) h48 hle51.cells hz52
    obtain rfl := some1 hm
    exact retM (rs := [.tmp 4]) [.slice (some ⟨g46, 0, none⟩) ([1, 2]).length 2] (hle41.trans hle51) (by decide) rfl ⟨rfl, trivial⟩ rfl (hp' := R) (.refl _) ⟨(some ⟨g46, 0, none⟩), 2, rfl, rfl, h53⟩
   ·
    rw [if_neg (fun hh => Bool.noConfusion (hh.symm.trans hc45))] at hm
    refine c_seq ?_
    refine c_region ?_
    refine t_st rfl (st_move rfl) ?_
    refine t_st rfl (st_eql rfl rfl) ?_
    refine t_st rfl (st_assign rfl) ?_
    refine t_nil ?_
    refine x_then_normal ?_
    refine c_cond _ rfl (fun hc54 => ?_) (fun hc54 => ?_)
    ·
     rw [if_pos (of_decide_eq_true hc54)] at hm
     refine c_seq ?_
     refine c_region ?_
     refine t_do rfl (u_bslice (el := 3) [(0, .int .i64 (0))] [.int .i64 (0)] rfl (fun _ => by kernel_rfl)) ?_
     rintro _ _ ⟨g55, rfl, rfl⟩
     refine t_st rfl (st_assign rfl) ?_
     refine t_nil ?_
     refine x_then_normal ?_
     refine c_ret ?_
     refine x_block_ret ?_
     refine x_then_ret ?_
     refine x_seg 0 [] R rfl rfl ?_
     have h57 : OS 3 (OT.fr (RT.int .i64)) b40.w (.slice (some ⟨g55, 0, none⟩) 1 1) [0] [(g55, Cl 3 [.int .i64 (0)])] := OS.lit [[.int .i64 (0)]] rfl ⟨rfl, trivial⟩ rfl (by decide)
     have hnz58 : (((some ⟨g55, 0, none⟩) : Option Addr) = none ↔ [0] = []) := ⟨nofun, nofun⟩
     refine x_frz [] [(g55, Cl 3 [.int .i64 (0)])] R rfl ?_
     intro b59 hle60 hz61
     have h62 := OS.frz (l := [0]) h57 hle60.cells hz61
     obtain rfl := some1 hm
     exact retM (rs := [.tmp 4]) [.slice (some ⟨g55, 0, none⟩) ([0]).length 1] (hle41.trans hle60) (by decide) rfl ⟨rfl, trivial⟩ rfl (hp' := R) (.refl _) ⟨(some ⟨g55, 0, none⟩), 1, rfl, rfl, h62⟩
    ·
     rw [if_neg (of_decide_eq_false hc54)] at hm
     refine c_skip ?_
     refine x_block_normal ?_
     refine x_then_normal ?_
     refine c_seq ?_
     refine c_region ?_
     refine t_st rfl (st_move rfl) ?_
     refine t_st rfl (st_xor rfl rfl) ?_
     refine t_do rfl (u_bslice (el := 3) [(0, .int .i64 (xorI .i64 x2 1))] [.int .i64 (xorI .i64 x2 1)] rfl (fun _ => by kernel_rfl)) ?_
     rintro _ _ ⟨g63, rfl, rfl⟩
     refine t_st rfl (st_assign rfl) ?_
     refine t_nil ?_
     refine x_then_normal ?_
     refine c_ret ?_
     refine x_seg 0 [] R rfl rfl ?_
     have h65 : OS 3 (OT.fr (RT.int .i64)) b40.w (.slice (some ⟨g63, 0, none⟩) 1 1) [xorI .i64 x2 1] [(g63, Cl 3 [.int .i64 (xorI .i64 x2 1)])] := OS.lit [[.int .i64 (xorI .i64 x2 1)]] rfl ⟨rfl, trivial⟩ rfl (by decide)
     have hnz66 : (((some ⟨g63, 0, none⟩) : Option Addr) = none ↔ [xorI .i64 x2 1] = []) := ⟨nofun, nofun⟩
     refine x_frz [] [(g63, Cl 3 [.int .i64 (xorI .i64 x2 1)])] R rfl ?_
     intro b67 hle68 hz69
     have h70 := OS.frz (l := [xorI .i64 x2 1]) h65 hle68.cells hz69
     obtain rfl := some1 hm
     exact retM (rs := [.tmp 4]) [.slice (some ⟨g63, 0, none⟩) ([xorI .i64 x2 1]).length 1] (hle41.trans hle68) (by decide) rfl ⟨rfl, trivial⟩ rfl (hp' := R) (.refl _) ⟨(some ⟨g63, 0, none⟩), 1, rfl, rfl, h70⟩

set_option maxRecDepth 20000 in
theorem cLineWalk (b : Base) (R : Hp) (s1 : ApiNet) (s17 : LineEnd) (A2 : Option Addr) (c3 : Nat) (A5 : Option Addr) (c6 : Nat) (A8 : Option Addr) (c9 : Nat) (A11 : Option Addr) (c12 : Nat) (A14 : Option Addr) (c15 : Nat) (h4 : FZ RT.str b.w A2 c3 s1.Stations) (h7 : FZ rApiSection b.w A5 c6 s1.Sections) (h10 : FZ rApiLink b.w A8 c9 s1.Links) (h13 : FZ rApiSignal b.w A11 c12 s1.Signals) (h16 : FZ rApiGate b.w A14 c15 s1.Gates) (l18 : (List ApiStep)) (hm : mLineWalk s1 s17 = some l18) :
    CallsG Tryd.prog 73 [.agg #[.slice A2 (s1.Stations).length c3, .slice A5 (s1.Sections).length c6, .slice A8 (s1.Links).length c9, .slice A11 (s1.Signals).length c12, .slice A14 (s1.Gates).length c15], .agg #[.int .i64 (s17.section_), .int .i64 (s17.end_)]] b (R) (fun v b' hp' => ∃ (v19 : Value), v19 = v ∧ R = hp' ∧ IterV Tryd.prog b' v19 (l18.map (fun x : ApiStep => (.agg #[.int .i64 x.Section, .int .i64 x.In, .int .i64 x.Out] : Value)))) := by
  unfold mLineWalk at hm
  exact walk_of (fun b R => cLineJoined b R) (fun b R => cLineOuts b R) h4 h7 h10 h13 h16 hm

set_option maxRecDepth 20000 in
theorem cLineStands_1 (b : Base) (R : Hp) (s2 : ApiStep) (x3 : Int) (g1 : Nat) (x5 : Bool) (hm : mLineStands_1 s2 x3 = some x5) :
    CallsG Tryd.prog 88 [.agg #[.int .i64 (s2.Section), .int .i64 (s2.In), .int .i64 (s2.Out)], .pointer (some ⟨g1, 0, none⟩)] b ((g1, Cl 3 [.int .i64 (x3)]) :: R) (fun v b' hp' => .bool (x5) = v ∧ (g1, Cl 3 [.int .i64 (x3)]) :: R = hp') := by
  refine fn_enterG 8 Tryd.func88 rfl Tryd.ntmps88 rfl ?_
  unfold mLineStands_1 at hm
  refine c_seq ?_
  refine c_region ?_
  refine t_do rfl (u_box _ rfl rfl) ?_
  rintro _ _ ⟨g6, rfl, rfl⟩
  refine t_st rfl (st_assign rfl) ?_
  refine t_nil ?_
  refine x_then_normal ?_
  refine c_seq ?_
  refine c_region ?_
  refine t_st rfl (st_field rfl fld43_0) ?_
  refine t_st rfl (st_load 0 rfl one3 rfl rfl) ?_
  refine t_st rfl (st_load 1 rfl one3 rfl rfl) ?_
  refine t_st rfl (st_eql rfl rfl) ?_
  refine t_st rfl (st_assign rfl) ?_
  refine t_nil ?_
  refine x_then_normal ?_
  refine c_ret ?_
  obtain rfl := some1 hm
  refine x_pullb 1 rfl ?_
  exact retM (rs := [.tmp 3]) [.bool (decide (s2.Section = x3))] (Base.Le.refl _) (by decide) rfl ⟨rfl, trivial⟩ rfl (hp' := (g1, Cl 3 [.int .i64 (x3)]) :: R) (.cons_cons _ (.cons _ (.refl _))) ⟨rfl, rfl⟩

set_option maxRecDepth 20000 in
theorem cSlicesIndexFunc (b : Base) (R : Hp) (l5 : (List ApiStep)) (x6 : Int) (g1 : Nat) (A2 : Option Addr) (c3 : Nat) (h4 : FZ rApiStep b.w A2 c3 l5) (x47 : Int) (hm : mSlicesIndexFunc l5 x6 = some x47) :
    CallsG Tryd.prog 101 [.slice A2 (l5).length c3, .func (.func 88) #[] #[.pointer (some ⟨g1, 0, none⟩)]] b ((g1, Cl 3 [.int .i64 (x6)]) :: R) (fun v b' hp' => .int .i64 (x47) = v ∧ (g1, Cl 3 [.int .i64 (x6)]) :: R = hp') := by
  refine fn_enterG 19 Tryd.func101 rfl Tryd.ntmps101 rfl ?_
  unfold mSlicesIndexFunc at hm
  refine c_seq ?_
  refine c_region ?_
  refine t_st rfl (st_assign rfl) ?_
  refine t_nil ?_
  refine x_then_normal ?_
  refine c_seq ?_
  refine c_seq ?_
  refine c_region ?_
  refine t_st rfl (st_move rfl) ?_
  refine t_st rfl (st_len rfl sl29) ?_
  refine t_st rfl (st_move rfl) ?_
  refine t_nil ?_
  refine x_then_normal ?_
  refine c_block ?_
  have hb49 : l5.length ≤ 9223372036854775807 := (FZ.bd h4)
  obtain ⟨t68, hl69, hk70⟩ := bindS hm
  refine c_forM (fun k67 => fun _ => fun b65 e' hp' => [(0, .slice A2 (l5).length c3), (1, .func (.func 88) #[] #[.pointer (some ⟨g1, 0, none⟩)]), (7, .int .i64 ((l5.length : Int))), (8, .int .i64 ((k67 : Int)))] = e' ∧ (g1, Cl 3 [.int .i64 (x6)]) :: R = hp' ∧ b.Le b65) hl69 (e' := [(0, .slice A2 (l5).length c3), (1, .func (.func 88) #[] #[.pointer (some ⟨g1, 0, none⟩)]), (7, .int .i64 ((l5.length : Int))), (8, .int .i64 0)]) (hp' := (g1, Cl 3 [.int .i64 (x6)]) :: R) ⟨rfl, rfl, rfl, rfl, trivial⟩ (.cons_cons _ (.refl _)) ⟨rfl, rfl, (Base.Le.refl _)⟩ ?_ ?_
  ·
   rintro k67 _ b65 _ _ oL48 hknL48 ⟨rfl, rfl, hle66⟩ hstepL48 houtL48
   unfold mSlicesIndexFunc_L48 at hstepL48
   have hm := hstepL48
   refine c_seq ?_
   refine c_region ?_
   refine t_st rfl (st_lss_t rfl rfl (by omega)) ?_
   refine t_nil ?_
   refine x_then_normal ?_
   refine c_seq ?_
   refine c_cond_t rfl ?_
   refine c_skip ?_
   refine x_then_normal ?_
   refine c_seq ?_
   refine c_block ?_
   refine c_seq ?_
   refine c_region ?_
   refine t_st rfl (st_move rfl) ?_
   refine t_st rfl (st_assign rfl) ?_
   refine t_nil ?_
   refine x_then_normal ?_
   refine c_seq ?_
   refine c_region ?_
   refine t_st rfl (st_move rfl) ?_
   refine t_st rfl (st_move rfl) ?_
   refine t_st rfl (st_move rfl) ?_
   obtain ⟨x71, h72, hm⟩ := bindS hm
   obtain ⟨j73, hj74, hx75⟩ := idx_some h72
   obtain ⟨cs76, hr77, hcs78, hA79, hlt80⟩ := FZ.get (sz := 3) rfl (by decide) (h4.le hle66) hx75
   obtain ⟨_, _, rfl, rfl, ⟨_, _, rfl, rfl, rfl⟩⟩ := hr77
   refine t_st rfl (st_index_old j73 rfl rfl hj74 hlt80 hA79 sl29) ?_
   refine t_st rfl (st_loadN_old (vs := [.int .i64 (x71.Section), .int .i64 (x71.In), .int .i64 (x71.Out)]) 3 rfl agg43 hA79 rfl (fun j u hu => hcs78 j u hu)) ?_
   obtain ⟨x81, hcl82, hm⟩ := bindS hm
   refine t_callvG #[] #[.pointer (some ⟨g1, 0, none⟩)] [.agg #[.int .i64 (x71.Section), .int .i64 (x71.In), .int .i64 (x71.Out)]] rfl rfl call88 rfl (cLineStands_1 _ _ x71 x6 g1 x81 hcl82) ?_
   rintro _ b83 _ hle84 ⟨rfl, rfl⟩
   refine t_nil ?_
   refine x_then_normal ?_
   refine c_cond _ rfl (fun hc85 => ?_) (fun hc85 => ?_)
   ·
    rw [if_pos hc85] at hm
    refine c_seq ?_
    refine c_region ?_
    refine t_st rfl (st_move rfl) ?_
    refine t_st rfl (st_assign rfl) ?_
    refine t_nil ?_
    refine x_then_normal ?_
    refine c_ret ?_
    refine x_block_ret ?_
    refine x_then_ret ?_
    refine x_then_ret ?_
    refine x_block_ret ?_
    refine x_then_ret ?_
    have hq86 := houtL48 _ (Option.some.inj hm).symm
    rw [hq86] at hk70
    have hm := elimR hk70
    obtain rfl := some1 hm
    exact retM (rs := [.tmp 4]) [.int .i64 ((k67 : Int))] (hle66.trans hle84) (by decide) rfl ⟨rfl, trivial⟩ rfl (hp' := (g1, Cl 3 [.int .i64 (x6)]) :: R) (.cons_cons _ (.refl _)) ⟨rfl, rfl⟩
   ·
    rw [if_neg (fun hh => Bool.noConfusion (hh.symm.trans hc85))] at hm
    refine c_skip ?_
    refine x_block_normal ?_
    refine x_then_normal ?_
    refine c_region ?_
    refine t_st rfl (st_add rfl rfl (by omega)) ?_
    refine t_st rfl (st_move rfl) ?_
    refine t_nil ?_
    exact x_againM () (Option.some.inj hm).symm (e' := [(0, .slice A2 (l5).length c3), (1, .func (.func 88) #[] #[.pointer (some ⟨g1, 0, none⟩)]), (7, .int .i64 ((l5.length : Int))), (8, .int .i64 ((k67 : Int) + 1))]) (hp' := (g1, Cl 3 [.int .i64 (x6)]) :: R) ⟨rfl, rfl, rfl, rfl, trivial⟩ (.cons_cons _ (.refl _)) ⟨rfl, rfl, ((hle66.trans hle84))⟩
  ·
   rintro _ b65 _ _ ⟨rfl, rfl, hle66⟩ hq87
   rw [hq87] at hk70
   have hm := elimL hk70
   refine c_seq ?_
   refine c_region ?_
   refine t_st rfl (st_lss_f rfl rfl (by omega)) ?_
   refine t_nil ?_
   refine x_then_normal ?_
   refine c_seq ?_
   refine c_cond_f rfl ?_
   refine c_exit ?_
   refine x_then_exit ?_
   refine x_then_exit ?_
   refine x_block_out ?_
   refine x_then_normal ?_
   refine c_seq ?_
   refine c_region ?_
   refine t_st rfl (st_assign rfl) ?_
   refine t_nil ?_
   refine x_then_normal ?_
   refine c_ret ?_
   obtain rfl := some1 hm
   exact retM (rs := [.tmp 4]) [.int .i64 ((-1))] hle66 (by decide) rfl ⟨rfl, trivial⟩ rfl (hp' := (g1, Cl 3 [.int .i64 (x6)]) :: R) (.cons_cons _ (.refl _)) ⟨rfl, rfl⟩

set_option maxRecDepth 20000 in
theorem cSlicesContainsFunc (b : Base) (R : Hp) (l5 : (List ApiStep)) (x6 : Int) (g1 : Nat) (A2 : Option Addr) (c3 : Nat) (h4 : FZ rApiStep b.w A2 c3 l5) (x11 : Bool) (hm : mSlicesContainsFunc l5 x6 = some x11) :
    CallsG Tryd.prog 87 [.slice A2 (l5).length c3, .func (.func 88) #[] #[.pointer (some ⟨g1, 0, none⟩)]] b ((g1, Cl 3 [.int .i64 (x6)]) :: R) (fun v b' hp' => .bool (x11) = v ∧ (g1, Cl 3 [.int .i64 (x6)]) :: R = hp') := by
  refine fn_enterG 9 Tryd.func87 rfl Tryd.ntmps87 rfl ?_
  unfold mSlicesContainsFunc at hm
  refine c_seq ?_
  refine c_region ?_
  refine t_st rfl (st_assign rfl) ?_
  refine t_nil ?_
  refine x_then_normal ?_
  refine c_seq ?_
  refine c_region ?_
  refine t_st rfl (st_move rfl) ?_
  refine t_st rfl (st_move rfl) ?_
  obtain ⟨x12, hcl13, hm⟩ := bindS hm
  refine t_callG _ rfl call101 rfl (cSlicesIndexFunc _ _ l5 x6 g1 A2 c3 h4 x12 hcl13) ?_
  rintro _ b14 _ hle15 ⟨rfl, rfl⟩
  refine t_st rfl (st_geq rfl rfl) ?_
  refine t_st rfl (st_assign rfl) ?_
  refine t_nil ?_
  refine x_then_normal ?_
  refine c_ret ?_
  obtain rfl := some1 hm
  exact retM (rs := [.tmp 4]) [.bool (decide (0 ≤ x12))] hle15 (by decide) rfl ⟨rfl, trivial⟩ rfl (hp' := (g1, Cl 3 [.int .i64 (x6)]) :: R) (.cons_cons _ (.refl _)) ⟨rfl, rfl⟩

set_option maxRecDepth 20000 in
theorem cLineStands (b : Base) (R : Hp) (l4 : (List ApiStep)) (x5 : Int) (A1 : Option Addr) (c2 : Nat) (h3 : FZ rApiStep b.w A1 c2 l4) (x11 : Bool) (hm : mLineStands l4 x5 = some x11) :
    CallsG Tryd.prog 74 [.slice A1 (l4).length c2, .int .i64 (x5)] b (R) (fun v b' hp' => .bool (x11) = v ∧ R = hp') := by
  refine fn_enterG 8 Tryd.func74 rfl Tryd.ntmps74 rfl ?_
  unfold mLineStands at hm
  refine c_seq ?_
  refine c_region ?_
  refine t_do rfl (u_box _ rfl rfl) ?_
  rintro _ _ ⟨g12, rfl, rfl⟩
  refine t_st rfl (st_assign rfl) ?_
  refine t_nil ?_
  refine x_then_normal ?_
  refine c_seq ?_
  refine c_region ?_
  refine t_st rfl (st_move rfl) ?_
  refine t_st rfl (st_func _ _ rfl rfl) ?_
  obtain ⟨x13, hcl14, hm⟩ := bindS hm
  refine t_callG _ rfl call87 rfl (cSlicesContainsFunc _ _ l4 x5 g12 A1 c2 h3 x13 hcl14) ?_
  rintro _ b15 _ hle16 ⟨rfl, rfl⟩
  refine t_st rfl (st_assign rfl) ?_
  refine t_nil ?_
  refine x_then_normal ?_
  refine c_ret ?_
  obtain rfl := some1 hm
  exact retM (rs := [.tmp 4]) [.bool (x13)] hle16 (by decide) rfl ⟨rfl, trivial⟩ rfl (hp' := R) (.cons _ (.refl _)) ⟨rfl, rfl⟩

set_option maxRecDepth 20000 in
theorem cLineFinderCount (b : Base) (R : Hp) (l10 : (List ByteArray)) (l14 : (List ApiSection)) (l18 : (List ApiLink)) (l22 : (List ApiSignal)) (l26 : (List ApiGate)) (x27 : Int) (x28 : Bool) (l29 : (List ApiRoute)) (g6 : Nat) (A7 : Option Addr) (c8 : Nat) (A11 : Option Addr) (c12 : Nat) (A15 : Option Addr) (c16 : Nat) (A19 : Option Addr) (c20 : Nat) (A23 : Option Addr) (c24 : Nat) (A3 : Option Addr) (c4 : Nat) (hs2 : Hp) (h9 : FZ RT.str b.w A7 c8 l10) (h13 : FZ rApiSection b.w A11 c12 l14) (h17 : FZ rApiLink b.w A15 c16 l18) (h21 : FZ rApiSignal b.w A19 c20 l22) (h25 : FZ rApiGate b.w A23 c24 l26) (h5 : OS 72 (OT.fr rApiRoute) b.w (.slice A3 l29.length c4) l29 hs2) (hnz30 : (A3 = none ↔ l29 = [])) (x33 : Int) (x34 : Bool) (hm : mLineFinderCount l10 l14 l18 l22 l26 x27 x28 l29 = some (x33, x34)) :
    CallsG Tryd.prog 75 [.pointer (some ⟨g6, 0, none⟩)] b ((g6, Cl 138 [.slice A7 (l10).length c8, .slice A11 (l14).length c12, .slice A15 (l18).length c16, .slice A19 (l22).length c20, .slice A23 (l26).length c24, .slice A3 (l29).length c4, .int .i64 (x27), .bool (x28)]) :: (hs2 ++ R)) (fun v b' hp' => .tuple #[] = v ∧ (g6, Cl 138 [.slice A7 (l10).length c8, .slice A11 (l14).length c12, .slice A15 (l18).length c16, .slice A19 (l22).length c20, .slice A23 (l26).length c24, .slice A3 (l29).length c4, .int .i64 (x33), .bool (x34)]) :: (hs2 ++ R) = hp') := by
  refine fn_enterG 23 Tryd.func75 rfl Tryd.ntmps75 rfl ?_
  unfold mLineFinderCount at hm
  refine c_seq ?_
  refine c_region ?_
  refine t_st rfl (st_move rfl) ?_
  refine t_st rfl (st_nil rfl) ?_
  refine t_st rfl (st_field rfl fld138_2) ?_
  refine t_st rfl (st_load 0 rfl one3 rfl rfl) ?_
  obtain ⟨_, h35, hm⟩ := bindS hm
  have h35 := (chk_some h35).2
  refine t_st rfl (st_add rfl rfl h35) ?_
  refine t_st rfl (st_nil rfl) ?_
  refine t_st rfl (st_field rfl fld138_2) ?_
  refine t_do rfl (u_store 0 rfl rfl siz3 rfl rfl (by simp)) ?_
  rintro _ _ rfl
  refine t_nil ?_
  refine x_then_normal ?_
  refine c_region ?_
  refine t_st rfl (st_move rfl) ?_
  refine t_st rfl (st_move rfl) ?_
  refine t_st rfl (st_nil rfl) ?_
  refine t_st rfl (st_field rfl fld138_3) ?_
  refine t_st rfl (st_load 0 rfl one4 rfl rfl) ?_
  rcases Bool.eq_false_or_eq_true x28 with hc36 | hc36
  ·
   rw [if_pos hc36] at hm
   refine t_resp 13 rfl (v' := .bool true) (by rw [hc36] <;> rfl) ?_
   refine t_st rfl (st_move rfl) ?_
   refine t_no 14 rfl rfl rfl rfl rfl ?_
   refine t_no 14 rfl rfl rfl rfl rfl ?_
   refine t_no 14 rfl rfl rfl rfl rfl ?_
   refine t_no 14 rfl rfl rfl rfl rfl ?_
   refine t_no 14 rfl rfl rfl rfl rfl ?_
   refine t_st rfl (st_pick_t rfl rfl) ?_
   refine t_st rfl (st_nil rfl) ?_
   refine t_st rfl (st_field rfl fld138_3) ?_
   refine t_do rfl (u_store 0 rfl rfl siz4 rfl rfl (by simp)) ?_
   rintro _ _ rfl
   refine t_nil ?_
   obtain ⟨rfl, rfl⟩ := some2 hm
   exact endM (Base.Le.refl _) rfl (.cons_cons _ (sub_app hs2 (.refl _))) ⟨rfl, rfl⟩
  ·
   rw [if_neg (fun hh => Bool.noConfusion (hh.symm.trans hc36))] at hm
   refine t_resp 13 rfl (v' := .bool false) (by rw [hc36] <;> rfl) ?_
   refine t_st rfl (st_move rfl) ?_
   refine t_yes 14 rfl rfl rfl ?_
   refine t_st rfl (st_move rfl) ?_
   refine t_yes 14 rfl rfl rfl ?_
   refine t_st rfl (st_nil rfl) ?_
   refine t_yes 14 rfl rfl rfl ?_
   refine t_st rfl (st_field rfl fld138_2) ?_
   refine t_yes 14 rfl rfl rfl ?_
   refine t_st rfl (st_load 0 rfl one3 rfl rfl) ?_
   refine t_yes 14 rfl rfl rfl ?_
   refine t_st rfl (st_gtr rfl rfl) ?_
   refine t_st rfl (st_pick_f rfl rfl) ?_
   refine t_st rfl (st_nil rfl) ?_
   refine t_st rfl (st_field rfl fld138_3) ?_
   refine t_do rfl (u_store 0 rfl rfl siz4 rfl rfl (by simp)) ?_
   rintro _ _ rfl
   refine t_nil ?_
   obtain ⟨rfl, rfl⟩ := some2 hm
   exact endM (Base.Le.refl _) rfl (.cons_cons _ (sub_app hs2 (.refl _))) ⟨rfl, rfl⟩

set_option maxRecDepth 20000 in
theorem clSlicesClone (A : Option Addr) (n c : Nat) (xs : List Value) (w : World) (hR : Rd w A xs) (hl : xs.length = n * 3) (hn : n * 24 ≤ 140737488355328 ∧ n ≤ 9223372036854775807) :
    CallsH Tryd.prog 76 [.slice A n c] w [] (fun v hp' => Seg0 43 3 v n xs hp') := by
  refine fn_enter 8 Tryd.func76 rfl Tryd.ntmps76 rfl ?_
  refine c_seq ?_
  refine c_region ?_
  refine t_st rfl (st_assign rfl) ?_
  refine t_nil ?_
  refine x_then_normal ?_
  refine c_seq ?_
  refine c_seq ?_
  refine c_region ?_
  refine t_st rfl (st_move rfl) ?_
  refine t_bool rfl (st_eqnil rfl rfl sl29) (fun hc1 => ?_) (fun hc1 => ?_)
  ·
    refine t_nil ?_
    refine x_then_normal ?_
    refine c_cond_t rfl ?_
    refine c_seq ?_
    refine c_region ?_
    refine t_st rfl (st_assign rfl) ?_
    refine t_nil ?_
    refine x_then_normal ?_
    refine c_ret ?_
    refine x_then_ret ?_
    subst hc1
    obtain rfl := hR.none_nil
    obtain rfl : n = 0 := by simp at hl; omega
    refine x_drop (hp' := []) (by repeat (first | exact List.Sublist.refl _ | exact List.nil_sublist _ | exact List.sublist_append_left _ _ | exact List.sublist_append_right _ _ | exact (List.sublist_append_right _ _).trans (List.sublist_append_right _ _) | apply List.Sublist.cons_cons | apply List.Sublist.cons)) ?_
    exact ret1 (Base.Le.refl _) rfl rfl (Seg0.nil)
  ·
    refine t_nil ?_
    refine x_then_normal ?_
    refine c_cond_f rfl ?_
    refine c_skip ?_
    refine x_then_normal ?_
    refine c_seq ?_
    refine c_region ?_
    refine t_do rfl (u_bslice (el := 43) [] [] rfl (fun _ => by kernel_rfl)) ?_
    rintro _ _ ⟨g0, rfl, rfl⟩
    refine t_st rfl (st_move rfl) ?_
    refine t_do rfl (u_app0 xs sl29 inf43 rfl (by decide) rfl rfl hl (fun w ho => hR.old ho) hn.2 hn.1) ?_
    rintro _ _ ⟨hs, rfl, hseg⟩
    refine t_st rfl (st_assign rfl) ?_
    refine t_nil ?_
    refine x_then_normal ?_
    refine c_ret ?_
    refine x_drop (hp' := hs) (by repeat (first | exact List.Sublist.refl _ | exact List.nil_sublist _ | exact List.sublist_append_left _ _ | exact List.sublist_append_right _ _ | exact (List.sublist_append_right _ _).trans (List.sublist_append_right _ _) | apply List.Sublist.cons_cons | apply List.Sublist.cons)) ?_
    exact ret1 (Base.Le.refl _) rfl rfl hseg

set_option maxRecDepth 20000 in
theorem cSlicesClone (b : Base) (R : Hp) (l4 : (List ApiStep)) (A1 : Option Addr) (c2 : Nat) (h3 : FZ rApiStep b.w A1 c2 l4) (l10 : (List ApiStep)) (hm : mSlicesClone l4 = some l10) :
    CallsG Tryd.prog 76 [.slice A1 (l4).length c2] b (R) (fun v b' hp' => ∃ (A7 : Option Addr), ∃ (c8 : Nat), ∃ (hs6 : Hp), .slice A7 (l10).length c8 = v ∧ (hs6 ++ R) = hp' ∧ OS 43 (OT.fr rApiStep) b'.w (.slice A7 l10.length c8) l10 hs6) := by
  unfold mSlicesClone at hm
  obtain ⟨_, hroom, hm⟩ := bindS hm
  have hroom := room_some hroom
  obtain rfl := some1 hm
  exact clone_of (r := rApiStep) (sz := 3) (by_ := 24) rfl (by decide) clSlicesClone h3 hroom

set_option maxRecDepth 20000 in
theorem cSlicesIndex_2 (b : Base) (R : Hp) (l4 : (List ApiSignal)) (s5 : ApiSignal) (A1 : Option Addr) (c2 : Nat) (h3 : FZ rApiSignal b.w A1 c2 l4) (x59 : Int) (hm : mSlicesIndex_2 l4 s5 = some x59) :
    CallsG Tryd.prog 77 [.slice A1 (l4).length c2, .agg #[.int .i64 (s5.Section), .int .i64 (s5.End)]] b (R) (fun v b' hp' => .int .i64 (x59) = v ∧ R = hp') := by
  refine fn_enterG 19 Tryd.func77 rfl Tryd.ntmps77 rfl ?_
  unfold mSlicesIndex_2 at hm
  refine c_seq ?_
  refine c_region ?_
  refine t_do rfl (u_box _ rfl rfl) ?_
  rintro _ _ ⟨g60, rfl, rfl⟩
  refine t_st rfl (st_assign rfl) ?_
  refine t_nil ?_
  refine x_then_normal ?_
  refine c_seq ?_
  refine c_seq ?_
  refine c_region ?_
  refine t_st rfl (st_move rfl) ?_
  refine t_st rfl (st_len rfl sl25) ?_
  refine t_st rfl (st_move rfl) ?_
  refine t_nil ?_
  refine x_then_normal ?_
  refine c_block ?_
  have hb62 : l4.length ≤ 9223372036854775807 := (FZ.bd h3)
  obtain ⟨t87, hl88, hk89⟩ := bindS hm
  refine c_forM (fun k86 => fun _ => fun b84 e' hp' => [(0, .slice A1 (l4).length c2), (3, .pointer (some ⟨g60, 0, none⟩)), (7, .int .i64 ((l4.length : Int))), (8, .int .i64 ((k86 : Int)))] = e' ∧ (g60, Cl 64 [.int .i64 (s5.Section), .int .i64 (s5.End)]) :: R = hp' ∧ b.Le b84) hl88 (e' := [(0, .slice A1 (l4).length c2), (3, .pointer (some ⟨g60, 0, none⟩)), (7, .int .i64 ((l4.length : Int))), (8, .int .i64 0)]) (hp' := (g60, Cl 64 [.int .i64 (s5.Section), .int .i64 (s5.End)]) :: R) ⟨rfl, rfl, rfl, rfl, trivial⟩ (.cons_cons _ (.refl _)) ⟨rfl, rfl, (Base.Le.refl _)⟩ ?_ ?_
  ·
   rintro k86 _ b84 _ _ oL61 hknL61 ⟨rfl, rfl, hle85⟩ hstepL61 houtL61
   unfold mSlicesIndex_2_L61 at hstepL61
   have hm := hstepL61
   refine c_seq ?_
   refine c_region ?_
   refine t_st rfl (st_lss_t rfl rfl (by omega)) ?_
   refine t_nil ?_
   refine x_then_normal ?_
   refine c_seq ?_
   refine c_cond_t rfl ?_
   refine c_skip ?_
   refine x_then_normal ?_
   refine c_seq ?_
   refine c_block ?_
   refine c_seq ?_
   refine c_region ?_
   refine t_st rfl (st_move rfl) ?_
   refine t_st rfl (st_assign rfl) ?_
   refine t_nil ?_
   refine x_then_normal ?_
   refine c_seq ?_
   obtain ⟨x100, h101, hm⟩ := bindS hm
   refine D_drawS ((g60, Cl 64 [.int .i64 (s5.Section), .int .i64 (s5.End)]) :: R) mixed ?_
   refine E_in (.cons_cons _ (.refl _)) ?_
   refine E_st 0 rfl (st_loadD (vs := [_, _]) 0 2 rfl agg64 rfl rfl rfl) ?_
   refine E_st 1 rfl (st_move rfl) ?_
   refine E_st 2 rfl (st_move rfl) ?_
   obtain ⟨j102, hj103, hx104⟩ := idx_some h101
   obtain ⟨cs105, hr106, hcs107, hA108, hlt109⟩ := FZ.get (sz := 2) rfl (by decide) (h3.le hle85) hx104
   obtain ⟨_, _, rfl, rfl, rfl⟩ := hr106
   refine E_st 3 rfl (st_index_old j102 rfl rfl hj103 hlt109 hA108 sl25) ?_
   refine E_st 4 rfl (st_loadN_old (vs := [.int .i64 (x100.Section), .int .i64 (x100.End)]) 2 rfl agg64 hA108 rfl (fun j u hu => hcs107 j u hu)) ?_
   refine E_st 5 rfl (st_eqlA (xs := [.int .i64 (s5.Section), .int .i64 (s5.End)]) (ys := [.int .i64 (x100.Section), .int .i64 (x100.End)]) (p := s5.Section = x100.Section ∧ s5.End = x100.End) rfl rfl eqt64 ⟨⟨_, rfl⟩, ⟨⟨_, rfl⟩, trivial⟩⟩ ⟨⟨_, rfl⟩, ⟨⟨_, rfl⟩, trivial⟩⟩ (by simp [eqCells, eqCell, Bool.decide_and, beq_dec])) ?_
   refine E_out ?_
   refine D_done (by kernel_rfl) ?_
   refine x_then_normal ?_
   refine c_cond _ rfl (fun hc110 => ?_) (fun hc110 => ?_)
   ·
    rw [if_pos (of_decide_eq_true hc110)] at hm
    refine c_seq ?_
    refine c_region ?_
    refine t_st rfl (st_move rfl) ?_
    refine t_st rfl (st_assign rfl) ?_
    refine t_nil ?_
    refine x_then_normal ?_
    refine c_ret ?_
    refine x_block_ret ?_
    refine x_then_ret ?_
    refine x_then_ret ?_
    refine x_block_ret ?_
    refine x_then_ret ?_
    have hq111 := houtL61 _ (Option.some.inj hm).symm
    rw [hq111] at hk89
    have hm := elimR hk89
    obtain rfl := some1 hm
    exact retM (rs := [.tmp 4]) [.int .i64 ((k86 : Int))] hle85 (by decide) rfl ⟨rfl, trivial⟩ rfl (hp' := R) (.cons _ (.refl _)) ⟨rfl, rfl⟩
   ·
    rw [if_neg (of_decide_eq_false hc110)] at hm
    refine c_skip ?_
    refine x_block_normal ?_
    refine x_then_normal ?_
    refine c_region ?_
    refine t_st rfl (st_add rfl rfl (by omega)) ?_
    refine t_st rfl (st_move rfl) ?_
    refine t_nil ?_
    exact x_againM () (Option.some.inj hm).symm (e' := [(0, .slice A1 (l4).length c2), (3, .pointer (some ⟨g60, 0, none⟩)), (7, .int .i64 ((l4.length : Int))), (8, .int .i64 ((k86 : Int) + 1))]) (hp' := (g60, Cl 64 [.int .i64 (s5.Section), .int .i64 (s5.End)]) :: R) ⟨rfl, rfl, rfl, rfl, trivial⟩ (.cons_cons _ (.refl _)) ⟨rfl, rfl, (hle85)⟩
  ·
   rintro _ b84 _ _ ⟨rfl, rfl, hle85⟩ hq112
   rw [hq112] at hk89
   have hm := elimL hk89
   refine c_seq ?_
   refine c_region ?_
   refine t_st rfl (st_lss_f rfl rfl (by omega)) ?_
   refine t_nil ?_
   refine x_then_normal ?_
   refine c_seq ?_
   refine c_cond_f rfl ?_
   refine c_exit ?_
   refine x_then_exit ?_
   refine x_then_exit ?_
   refine x_block_out ?_
   refine x_then_normal ?_
   refine c_seq ?_
   refine c_region ?_
   refine t_st rfl (st_assign rfl) ?_
   refine t_nil ?_
   refine x_then_normal ?_
   refine c_ret ?_
   obtain rfl := some1 hm
   exact retM (rs := [.tmp 4]) [.int .i64 ((-1))] hle85 (by decide) rfl ⟨rfl, trivial⟩ rfl (hp' := R) (.cons _ (.refl _)) ⟨rfl, rfl⟩

set_option maxRecDepth 20000 in
theorem cLineSignal (b : Base) (R : Hp) (s1 : ApiNet) (s17 : LineEnd) (A2 : Option Addr) (c3 : Nat) (A5 : Option Addr) (c6 : Nat) (A8 : Option Addr) (c9 : Nat) (A11 : Option Addr) (c12 : Nat) (A14 : Option Addr) (c15 : Nat) (h4 : FZ RT.str b.w A2 c3 s1.Stations) (h7 : FZ rApiSection b.w A5 c6 s1.Sections) (h10 : FZ rApiLink b.w A8 c9 s1.Links) (h13 : FZ rApiSignal b.w A11 c12 s1.Signals) (h16 : FZ rApiGate b.w A14 c15 s1.Gates) (x22 : Int) (hm : mLineSignal s1 s17 = some x22) :
    CallsG Tryd.prog 63 [.agg #[.slice A2 (s1.Stations).length c3, .slice A5 (s1.Sections).length c6, .slice A8 (s1.Links).length c9, .slice A11 (s1.Signals).length c12, .slice A14 (s1.Gates).length c15], .agg #[.int .i64 (s17.section_), .int .i64 (s17.end_)]] b (R) (fun v b' hp' => .int .i64 (x22) = v ∧ R = hp') := by
  refine fn_enterG 13 Tryd.func63 rfl Tryd.ntmps63 rfl ?_
  unfold mLineSignal at hm
  refine c_seq ?_
  refine c_region ?_
  refine t_do rfl (u_box _ rfl rfl) ?_
  rintro _ _ ⟨g23, rfl, rfl⟩
  refine t_do rfl (u_box _ rfl rfl) ?_
  rintro _ _ ⟨g24, rfl, rfl⟩
  refine t_st rfl (st_assign rfl) ?_
  refine t_nil ?_
  refine x_then_normal ?_
  refine c_seq ?_
  refine c_region ?_
  refine t_st rfl (st_field rfl fld28_3) ?_
  refine t_st rfl (st_load 1 rfl one25 rfl rfl) ?_
  refine t_st rfl (st_field rfl fld77_0) ?_
  refine t_st rfl (st_load 0 rfl one3 rfl rfl) ?_
  refine t_st rfl (st_field rfl fld77_1) ?_
  refine t_st rfl (st_load 0 rfl one3 rfl rfl) ?_
  refine t_st rfl (st_build (v := .agg #[.int .i64 (s17.section_), .int .i64 (s17.end_)]) [(0, .int .i64 (s17.section_)), (1, .int .i64 (s17.end_))] rfl (fun _ => by kernel_rfl)) ?_
  obtain ⟨x25, hcl26, hm⟩ := bindS hm
  refine t_do rfl (u_callW0 _ call77 rfl (fun w ho => cSlicesIndex_2 _ [] s1.Signals (⟨s17.section_, s17.end_⟩ : ApiSignal) A11 c12 (h13.old ho) x25 hcl26) (fun _ _ _ h => h.2.symm)) ?_
  rintro _ _ ⟨⟨_, rfl, _⟩, rfl⟩
  refine t_st rfl (st_assign rfl) ?_
  refine t_nil ?_
  refine x_then_normal ?_
  refine c_ret ?_
  obtain rfl := some1 hm
  exact retM (rs := [.tmp 4]) [.int .i64 (x25)] (Base.Le.refl _) (by decide) rfl ⟨rfl, trivial⟩ rfl (hp' := R) (.cons _ (.cons _ (.refl _))) ⟨rfl, rfl⟩

set_option maxRecDepth 20000 in
theorem cLineFinderGrow_2 : ∀ (N : Nat) (b : Base) (R : Hp) (x12 : Int) (s13 : LineEnd) (l17 : (List ByteArray)) (l21 : (List ApiSection)) (l25 : (List ApiLink)) (l29 : (List ApiSignal)) (l33 : (List ApiGate)) (x34 : Int) (x35 : Bool) (l36 : (List ApiStep)) (l38 : (List ApiRoute)) (g11 : Nat) (A14 : Option Addr) (c15 : Nat) (A18 : Option Addr) (c19 : Nat) (A22 : Option Addr) (c23 : Nat) (A26 : Option Addr) (c27 : Nat) (A30 : Option Addr) (c31 : Nat) (A3 : Option Addr) (c4 : Nat) (hs2 : Hp) (A8 : Option Addr) (c9 : Nat) (hs7 : Hp) (h16 : FZ RT.str b.w A14 c15 l17) (h20 : FZ rApiSection b.w A18 c19 l21) (h24 : FZ rApiLink b.w A22 c23 l25) (h28 : FZ rApiSignal b.w A26 c27 l29) (h32 : FZ rApiGate b.w A30 c31 l33) (h5 : OS 43 (OT.fr rApiStep) b.w (.slice A3 l36.length c4) l36 hs2) (hnz37 : (A3 = none ↔ l36 = [])) (h10 : OS 72 (OT.fr rApiRoute) b.w (.slice A8 l38.length c9) l38 hs7) (hnz39 : (A8 = none ↔ l38 = [])) (x1353 : Int) (x1354 : Bool) (l1355 : (List ApiRoute)) (hm : mLineFinderGrow_2 N x12 s13 l17 l21 l25 l29 l33 x34 x35 l36 l38 = some (x1353, x1354, l1355)),
    CallsG Tryd.prog 61 [.pointer (some ⟨g11, 0, none⟩), .int .i64 (x12), .slice A3 (l36).length c4, .agg #[.int .i64 (s13.section_), .int .i64 (s13.end_)]] b ((g11, Cl 138 [.slice A14 (l17).length c15, .slice A18 (l21).length c19, .slice A22 (l25).length c23, .slice A26 (l29).length c27, .slice A30 (l33).length c31, .slice A8 (l38).length c9, .int .i64 (x34), .bool (x35)]) :: (hs2 ++ (hs7 ++ R))) (fun v b' hp' => ∃ (A1350 : Option Addr), ∃ (c1351 : Nat), ∃ (hs1349 : Hp), .tuple #[] = v ∧ (g11, Cl 138 [.slice A14 (l17).length c15, .slice A18 (l21).length c19, .slice A22 (l25).length c23, .slice A26 (l29).length c27, .slice A30 (l33).length c31, .slice A1350 (l1355).length c1351, .int .i64 (x1353), .bool (x1354)]) :: (hs2 ++ (hs1349 ++ R)) = hp' ∧ OS 72 (OT.fr rApiRoute) b'.w (.slice A1350 l1355.length c1351) l1355 hs1349 ∧ (A1350 = none ↔ l1355 = [])) := by
  intro N
  induction N with
  | zero =>
    intro b R x12 s13 l17 l21 l25 l29 l33 x34 x35 l36 l38 g11 A14 c15 A18 c19 A22 c23 A26 c27 A30 c31 A3 c4 hs2 A8 c9 hs7 h16 h20 h24 h28 h32 h5 hnz37 h10 hnz39 x1353 x1354 l1355 hm
    unfold mLineFinderGrow_2 at hm
    cases hm
  | succ N ih =>
    intro b R x12 s13 l17 l21 l25 l29 l33 x34 x35 l36 l38 g11 A14 c15 A18 c19 A22 c23 A26 c27 A30 c31 A3 c4 hs2 A8 c9 hs7 h16 h20 h24 h28 h32 h5 hnz37 h10 hnz39 x1353 x1354 l1355 hm
    refine fn_enterG 103 Tryd.func61 rfl Tryd.ntmps61 rfl ?_
    unfold mLineFinderGrow_2 at hm
    refine c_seq ?_
    refine c_region ?_
    refine t_do rfl (u_box _ rfl rfl) ?_
    rintro _ _ ⟨g1357, rfl, rfl⟩
    refine t_do rfl (u_box _ rfl rfl) ?_
    rintro _ _ ⟨g1358, rfl, rfl⟩
    refine t_do rfl (u_box _ rfl rfl) ?_
    rintro _ _ ⟨g1359, rfl, rfl⟩
    refine t_do rfl (u_box _ rfl rfl) ?_
    rintro _ _ ⟨g1360, rfl, rfl⟩
    refine t_nil ?_
    refine x_then_normal ?_
    obtain ⟨x1386, hj1387, hk1387⟩ := bindS hm
    refine c_join (fun b1383 e' hp' => ∃ (g1385 : Nat), [(4, .pointer (some ⟨g1357, 0, none⟩)), (5, .pointer (some ⟨g1358, 0, none⟩)), (6, .pointer (some ⟨g1359, 0, none⟩)), (7, .pointer (some ⟨g1360, 0, none⟩)), (8, .pointer (some ⟨g1385, 0, none⟩))] = e' ∧ (g1357, Cl 136 [.pointer (some ⟨g11, 0, none⟩)]) :: (g1358, Cl 3 [.int .i64 (x12)]) :: (g1359, Cl 29 [.slice A3 (l36).length c4]) :: (g1360, Cl 77 [.int .i64 (s13.section_), .int .i64 (s13.end_)]) :: (g1385, Cl 3 [.int .i64 (x1386)]) :: (g11, Cl 138 [.slice A14 (l17).length c15, .slice A18 (l21).length c19, .slice A22 (l25).length c23, .slice A26 (l29).length c27, .slice A30 (l33).length c31, .slice A8 (l38).length c9, .int .i64 (x34), .bool (x35)]) :: (hs2 ++ (hs7 ++ R)) = hp' ∧ b.Le b1383) ?_ ?_
    ·
     have hm := hj1387
     obtain ⟨x1399, h1400, hm⟩ := bindS hm
     refine D_drawS ((g1360, Cl 77 [.int .i64 (s13.section_), .int .i64 (s13.end_)]) :: (g1359, Cl 29 [.slice A3 (l36).length c4]) :: (g1358, Cl 3 [.int .i64 (x12)]) :: (g1357, Cl 136 [.pointer (some ⟨g11, 0, none⟩)]) :: (g11, Cl 138 [.slice A14 (l17).length c15, .slice A18 (l21).length c19, .slice A22 (l25).length c23, .slice A26 (l29).length c27, .slice A30 (l33).length c31, .slice A8 (l38).length c9, .int .i64 (x34), .bool (x35)]) :: (hs2 ++ (hs7 ++ R))) mixed ?_
     refine E_in (.cons_cons _ (.cons_cons _ (.cons_cons _ (.cons_cons _ (.cons_cons _ (sub_app hs2 (sub_app hs7 (.refl _)))))))) ?_
     refine E_st 0 rfl (st_load 3 rfl one136 rfl rfl) ?_
     refine E_st 1 rfl (st_nil rfl) ?_
     refine E_st 2 rfl (st_field rfl fld138_0) ?_
     refine E_st 3 rfl (st_field rfl fld28_3) ?_
     refine E_st 4 rfl (st_load 4 rfl one25 rfl rfl) ?_
     refine E_st 5 rfl (st_load 2 rfl one3 rfl rfl) ?_
     obtain ⟨j1401, hj1402, hx1403⟩ := idx_some h1400
     obtain ⟨cs1404, hr1405, hcs1406, hA1407, hlt1408⟩ := FZ.get (sz := 2) rfl (by decide) h28 hx1403
     obtain ⟨_, _, rfl, rfl, rfl⟩ := hr1405
     refine E_st 6 rfl (st_index_old j1401 rfl rfl hj1402 hlt1408 hA1407 sl25) ?_
     refine E_st 7 rfl (st_field_old rfl hA1407 fld64_0) ?_
     refine E_st 8 rfl (st_load_old rfl one3 (hcs1406 0 _ rfl)) ?_
     refine E_out ?_
     refine D_all [9] (by kernel_rfl) rfl ?_
     refine R_do (Base.Le.refl _) rfl rfl (u_alloc [.int .i64 0] zero3 rfl) ?_ ?_
     ·
      rintro _ _ ⟨g1409, rfl, rfl⟩
      refine ⟨.inr (.cons _ (.cons_cons _ (.cons_cons _ (.cons_cons _ (.cons_cons _ (.cons_cons _ (sub_app hs2 (sub_app hs7 (.refl _))))))))), ?_⟩
      refine D_all [10] (by kernel_rfl) rfl ?_
      refine R_do (Base.Le.refl _) rfl rfl (u_store 0 rfl rfl siz3 rfl rfl (by simp)) ?_ ?_
      ·
       rintro _ _ rfl
       refine ⟨.inl (by kernel_rfl), ?_⟩
       refine D_done (by kernel_rfl) ?_
       obtain rfl := some1 hm
       refine x_pullb 5 rfl ?_
       refine x_pullb 1 rfl ?_
       refine x_pullb 2 rfl ?_
       refine x_pullb 3 rfl ?_
       refine x_pullb 4 rfl ?_
       refine x_pullb 5 rfl ?_
       refine x_front2 [_, _, _, _, _, _] hs2 hs7 R rfl ?_
       refine x_front2 [_, _, _, _, _, _] hs7 hs2 R rfl ?_
       exact x_join (e' := [(4, .pointer (some ⟨g1357, 0, none⟩)), (5, .pointer (some ⟨g1358, 0, none⟩)), (6, .pointer (some ⟨g1359, 0, none⟩)), (7, .pointer (some ⟨g1360, 0, none⟩)), (8, .pointer (some ⟨g1409, 0, none⟩))]) (hp' := (g1357, Cl 136 [.pointer (some ⟨g11, 0, none⟩)]) :: (g1358, Cl 3 [.int .i64 (x12)]) :: (g1359, Cl 29 [.slice A3 (l36).length c4]) :: (g1360, Cl 77 [.int .i64 (s13.section_), .int .i64 (s13.end_)]) :: (g1409, Cl 3 [.int .i64 (x1399.Section)]) :: (g11, Cl 138 [.slice A14 (l17).length c15, .slice A18 (l21).length c19, .slice A22 (l25).length c23, .slice A26 (l29).length c27, .slice A30 (l33).length c31, .slice A8 (l38).length c9, .int .i64 (x34), .bool (x35)]) :: (hs2 ++ (hs7 ++ R))) ⟨rfl, rfl, rfl, rfl, rfl, trivial⟩ (.cons_cons _ (.cons_cons _ (.cons_cons _ (.cons_cons _ (.cons_cons _ (.cons_cons _ (sub_app hs2 (sub_app hs7 (.refl _))))))))) ⟨g1409, rfl, rfl, (Base.Le.refl _)⟩
      exact R_nil
     exact R_nil
    ·
     rintro b1383 _ _ ⟨g1385, rfl, rfl, hle1384⟩
     have hm := hk1387
     refine c_seq ?_
     obtain ⟨l1416, hcl1417, hm⟩ := bindS hm
     refine D_drawS ((g1357, Cl 136 [.pointer (some ⟨g11, 0, none⟩)]) :: (g1358, Cl 3 [.int .i64 (x12)]) :: (g1359, Cl 29 [.slice A3 (l36).length c4]) :: (g1360, Cl 77 [.int .i64 (s13.section_), .int .i64 (s13.end_)]) :: (g1385, Cl 3 [.int .i64 (x1386)]) :: (g11, Cl 138 [.slice A14 (l17).length c15, .slice A18 (l21).length c19, .slice A22 (l25).length c23, .slice A26 (l29).length c27, .slice A30 (l33).length c31, .slice A8 (l38).length c9, .int .i64 (x34), .bool (x35)]) :: (hs2 ++ (hs7 ++ R))) mixed ?_
     refine E_in (.cons_cons _ (.cons_cons _ (.cons_cons _ (.cons_cons _ (.cons_cons _ (.cons_cons _ (sub_app hs2 (sub_app hs7 (.refl _))))))))) ?_
     refine E_st 0 rfl (st_load 0 rfl one136 rfl rfl) ?_
     refine E_st 1 rfl (st_nil rfl) ?_
     refine E_st 2 rfl (st_field rfl fld138_0) ?_
     refine E_st 3 rfl (st_loadD (vs := [_, _, _, _, _]) 5 5 rfl agg28 rfl rfl rfl) ?_
     refine E_st 4 rfl (st_loadD (vs := [_, _]) 3 2 rfl agg77 rfl rfl rfl) ?_
     refine E_out ?_
     refine D_all [5] (by kernel_rfl) rfl ?_
     refine R_callGl (Base.Le.refl _) rfl rfl _ call73 rfl (cLineWalk _ _ (⟨l17, l21, l25, l29, l33⟩ : ApiNet) s13 A14 c15 A18 c19 A22 c23 A26 c27 A30 c31 (h16.le hle1384) (h20.le hle1384) (h24.le hle1384) (h28.le hle1384) (h32.le hle1384) l1416 hcl1417) ?_ ?_
     ·
      rintro _ b1418 _ hle1419 ⟨v1420, rfl, rfl, h1421⟩
      refine ⟨.inr (.cons_cons _ (.cons_cons _ (.cons_cons _ (.cons_cons _ (.cons_cons _ (.cons_cons _ (sub_app hs2 (sub_app hs7 (.refl _))))))))), ?_⟩
      refine D_done (by kernel_rfl) ?_
      refine x_then_normal ?_
      refine c_block ?_
      obtain ⟨t1821, hl1822, hk1823⟩ := bindS hm
      refine c_pullb 5 rfl ?_
      refine c_pullb 5 rfl ?_
      refine c_pullb 4 rfl ?_
      refine c_pullb 4 rfl ?_
      refine c_pullb 4 rfl ?_
      refine c_front2 [_, _, _, _, _, _] hs2 hs7 R rfl ?_
      refine c_front2 [_, _, _, _, _, _] hs7 hs2 R rfl ?_
      have he1824 := (h10.le (hle1384.trans hle1419))
      refine c_rangeM (fun x : ApiStep => (.agg #[.int .i64 x.Section, .int .i64 x.In, .int .i64 x.Out] : Value)) (unc3 fun x1817 x1818 l1819 => fun b1810 hp' => ∃ (A1814 : Option Addr), ∃ (c1815 : Nat), ∃ (hs1813 : Hp), (g1357, Cl 136 [.pointer (some ⟨g11, 0, none⟩)]) :: (g1358, Cl 3 [.int .i64 (x12)]) :: (g1359, Cl 29 [.slice A3 (l36).length c4]) :: (g1385, Cl 3 [.int .i64 (x1386)]) :: (g11, Cl 138 [.slice A14 (l17).length c15, .slice A18 (l21).length c19, .slice A22 (l25).length c23, .slice A26 (l29).length c27, .slice A30 (l33).length c31, .slice A1814 (l1819).length c1815, .int .i64 (x1817), .bool (x1818)]) :: (hs2 ++ (hs1813 ++ R)) = hp' ∧ b1418.Le b1810 ∧ OS 72 (OT.fr rApiRoute) b1810.w (.slice A1814 l1819.length c1815) l1819 hs1813 ∧ (A1814 = none ↔ l1819 = [])) rfl h1421 hl1822 (e' := [(4, .pointer (some ⟨g1357, 0, none⟩)), (5, .pointer (some ⟨g1358, 0, none⟩)), (6, .pointer (some ⟨g1359, 0, none⟩)), (8, .pointer (some ⟨g1385, 0, none⟩))]) (hp' := (g1357, Cl 136 [.pointer (some ⟨g11, 0, none⟩)]) :: (g1358, Cl 3 [.int .i64 (x12)]) :: (g1359, Cl 29 [.slice A3 (l36).length c4]) :: (g1385, Cl 3 [.int .i64 (x1386)]) :: (g11, Cl 138 [.slice A14 (l17).length c15, .slice A18 (l21).length c19, .slice A22 (l25).length c23, .slice A26 (l29).length c27, .slice A30 (l33).length c31, .slice A8 (l38).length c9, .int .i64 (x34), .bool (x35)]) :: (hs2 ++ (hs7 ++ R))) ⟨rfl, rfl, rfl, rfl, trivial⟩ (.cons_cons _ (.cons_cons _ (.cons_cons _ (.cons_cons _ (.cons_cons _ (.cons _ (sub_app hs2 (sub_app hs7 (.refl _))))))))) rfl (fun dk hdk => ⟨A8, c9, hs7, rfl, Base.Le.dks hdk, he1824, hnz39⟩) ?_ ?_ (fun x hx => (hle1384.trans hle1419).dk x hx)
      ·
       rintro r1825 l1826 x1827 ⟨x1817, x1818, l1819⟩ b1810 b1828 _ oL1422 ⟨A1814, c1815, hs1813, rfl, hle1811, h1816, hnz1820⟩ hle1829 hstepL1422 houtL1422
       unfold mLineFinderGrow_2_L1422 at hstepL1422
       have hm := (unc3E hstepL1422)
       refine c_region ?_
       refine t_do rfl (u_alloc [.int .i64 0, .int .i64 0, .int .i64 0] zero43 rfl) ?_
       rintro _ _ ⟨g1830, rfl, rfl⟩
       refine t_do rfl (u_storeN (vs := [_, _, _]) 0 3 rfl rfl rfl siz43 rfl (by intro u hu; simp only [List.mem_cons, List.not_mem_nil, or_false] at hu; rcases hu with rfl | rfl | rfl <;> rfl) rfl (by simp)) ?_
       rintro _ _ rfl
       refine t_nil ?_
       refine x_begin 1 rfl ?_
       refine c_block ?_
       refine c_seq ?_
       refine c_seq ?_
       refine c_region ?_
       refine t_st rfl (st_load 2 rfl one136 rfl rfl) ?_
       refine t_st rfl (st_nil rfl) ?_
       refine t_st rfl (st_field rfl fld138_3) ?_
       refine t_st rfl (st_load 6 rfl one4 rfl rfl) ?_
       refine t_nil ?_
       refine x_then_normal ?_
       refine c_cond _ rfl (fun hc1831 => ?_) (fun hc1831 => ?_)
       ·
        rw [if_pos hc1831] at hm
        refine c_ret ?_
        refine x_then_ret ?_
        refine x_block_ret ?_
        refine x_leaveR 0 rfl (Base.Le.refl _) ?_
        refine c_ret ?_
        refine x_block_ret ?_
        have hq1832 := houtL1422 _ (Option.some.inj hm).symm
        rw [hq1832] at hk1823
        have hm := elimR hk1823
        obtain ⟨rfl, rfl, rfl⟩ := some3 hm
        refine x_pullb 5 rfl ?_
        refine x_front2 [_, _, _, _, _, _] hs2 hs1813 R rfl ?_
        refine x_front2 [_, _, _, _, _, _] hs1813 hs2 R rfl ?_
        have he1833 := (h1816.le hle1829)
        exact retM (rs := []) [] (hle1384.trans (hle1419.trans (hle1811.trans hle1829))) (by decide) rfl trivial rfl (hp' := (g11, Cl 138 [.slice A14 (l17).length c15, .slice A18 (l21).length c19, .slice A22 (l25).length c23, .slice A26 (l29).length c27, .slice A30 (l33).length c31, .slice A1814 (l1819).length c1815, .int .i64 (x1817), .bool (x1818)]) :: (hs2 ++ (hs1813 ++ R))) (.cons_cons _ (.cons _ (.cons _ (.cons _ (.cons _ (.cons _ (sub_app hs2 (sub_app hs1813 (.refl _))))))))) ⟨A1814, c1815, hs1813, rfl, rfl, he1833, hnz1820⟩
       ·
        rw [if_neg (fun hh => Bool.noConfusion (hh.symm.trans hc1831))] at hm
        refine c_skip ?_
        refine x_then_normal ?_
        refine c_seq ?_
        obtain ⟨x1839, hj1840, hk1840⟩ := bindS hm
        refine c_join (fun b1837 e' hp' => [(4, .pointer (some ⟨g1357, 0, none⟩)), (5, .pointer (some ⟨g1358, 0, none⟩)), (6, .pointer (some ⟨g1359, 0, none⟩)), (9, .pointer (some ⟨g1830, 0, none⟩)), (44, .bool (x1839))] = e' ∧ (g1357, Cl 136 [.pointer (some ⟨g11, 0, none⟩)]) :: (g1358, Cl 3 [.int .i64 (x12)]) :: (g1359, Cl 29 [.slice A3 (l36).length c4]) :: (g1830, Cl 43 [.int .i64 (x1827.Section), .int .i64 (x1827.In), .int .i64 (x1827.Out)]) :: (g1385, Cl 3 [.int .i64 (x1386)]) :: (g11, Cl 138 [.slice A14 (l17).length c15, .slice A18 (l21).length c19, .slice A22 (l25).length c23, .slice A26 (l29).length c27, .slice A30 (l33).length c31, .slice A1814 (l1819).length c1815, .int .i64 (x1817), .bool (x1818)]) :: (l1826, Lb r1825) :: (hs2 ++ (hs1813 ++ R)) = hp' ∧ b1828.Le b1837) ?_ ?_
        ·
         have hm := hj1840
         refine c_region ?_
         refine t_st rfl (st_field rfl fld43_0) ?_
         refine t_st rfl (st_load 1 rfl one3 rfl rfl) ?_
         refine t_st rfl (st_load 5 rfl one3 rfl rfl) ?_
         refine t_bool rfl (st_eql rfl rfl) (fun hc1841 => ?_) (fun hc1841 => ?_)
         ·
          rw [if_pos hc1841] at hm
          refine t_st rfl (st_move rfl) ?_
          refine t_no 39 rfl rfl rfl rfl rfl ?_
          refine t_no 39 rfl rfl rfl rfl rfl ?_
          refine t_no 39 rfl rfl rfl rfl rfl ?_
          refine t_no 39 rfl rfl rfl rfl rfl ?_
          refine t_st rfl (st_pick_t rfl rfl) ?_
          refine t_nil ?_
          obtain rfl := some1 hm
          refine x_pullb 6 rfl ?_
          refine x_pullb 6 rfl ?_
          refine x_pullb 3 rfl ?_
          refine x_pullb 6 rfl ?_
          refine x_pullb 6 rfl ?_
          refine x_pullb 6 rfl ?_
          refine x_front2 [_, _, _, _, _, _, _] hs2 hs1813 R rfl ?_
          refine x_front2 [_, _, _, _, _, _, _] hs1813 hs2 R rfl ?_
          exact x_join (e' := [(4, .pointer (some ⟨g1357, 0, none⟩)), (5, .pointer (some ⟨g1358, 0, none⟩)), (6, .pointer (some ⟨g1359, 0, none⟩)), (9, .pointer (some ⟨g1830, 0, none⟩)), (44, .bool (true))]) (hp' := (g1357, Cl 136 [.pointer (some ⟨g11, 0, none⟩)]) :: (g1358, Cl 3 [.int .i64 (x12)]) :: (g1359, Cl 29 [.slice A3 (l36).length c4]) :: (g1830, Cl 43 [.int .i64 (x1827.Section), .int .i64 (x1827.In), .int .i64 (x1827.Out)]) :: (g1385, Cl 3 [.int .i64 (x1386)]) :: (g11, Cl 138 [.slice A14 (l17).length c15, .slice A18 (l21).length c19, .slice A22 (l25).length c23, .slice A26 (l29).length c27, .slice A30 (l33).length c31, .slice A1814 (l1819).length c1815, .int .i64 (x1817), .bool (x1818)]) :: (l1826, Lb r1825) :: (hs2 ++ (hs1813 ++ R))) ⟨rfl, rfl, rfl, rfl, rfl, trivial⟩ (.cons_cons _ (.cons_cons _ (.cons_cons _ (.cons_cons _ (.cons_cons _ (.cons_cons _ (.cons_cons _ (sub_app hs2 (sub_app hs1813 (.refl _)))))))))) ⟨rfl, rfl, (Base.Le.refl _)⟩
         ·
          rw [if_neg hc1841] at hm
          refine t_st rfl (st_move rfl) ?_
          refine t_yes 39 rfl rfl rfl ?_
          refine t_st rfl (st_load 4 rfl one29 rfl rfl) ?_
          refine t_yes 39 rfl rfl rfl ?_
          refine t_st rfl (st_field rfl fld43_0) ?_
          refine t_yes 39 rfl rfl rfl ?_
          refine t_st rfl (st_load 1 rfl one3 rfl rfl) ?_
          refine t_yes 39 rfl rfl rfl ?_
          obtain ⟨x1842, hcl1843, hm⟩ := bindS hm
          refine t_do rfl (u_callW0 _ call74 rfl (fun w ho => cLineStands _ [] l36 x1827.Section A3 c4 (OS.now (o := (OT.fr rApiStep)) (l := l36) (hs := hs2) (h5.le (hle1384.trans (hle1419.trans (hle1811.trans hle1829)))) ho (.cons _ (.cons _ (.cons _ (.cons _ (.cons _ (.cons _ (.cons _ (List.sublist_append_left _ _))))))))) x1842 hcl1843) (fun _ _ _ h => h.2.symm)) ?_
          rintro _ _ ⟨⟨_, rfl, _⟩, rfl⟩
          refine t_st rfl (st_pick_f rfl rfl) ?_
          refine t_nil ?_
          obtain rfl := some1 hm
          refine x_pullb 6 rfl ?_
          refine x_pullb 6 rfl ?_
          refine x_pullb 3 rfl ?_
          refine x_pullb 6 rfl ?_
          refine x_pullb 6 rfl ?_
          refine x_pullb 6 rfl ?_
          refine x_front2 [_, _, _, _, _, _, _] hs2 hs1813 R rfl ?_
          refine x_front2 [_, _, _, _, _, _, _] hs1813 hs2 R rfl ?_
          exact x_join (e' := [(4, .pointer (some ⟨g1357, 0, none⟩)), (5, .pointer (some ⟨g1358, 0, none⟩)), (6, .pointer (some ⟨g1359, 0, none⟩)), (9, .pointer (some ⟨g1830, 0, none⟩)), (44, .bool (x1842))]) (hp' := (g1357, Cl 136 [.pointer (some ⟨g11, 0, none⟩)]) :: (g1358, Cl 3 [.int .i64 (x12)]) :: (g1359, Cl 29 [.slice A3 (l36).length c4]) :: (g1830, Cl 43 [.int .i64 (x1827.Section), .int .i64 (x1827.In), .int .i64 (x1827.Out)]) :: (g1385, Cl 3 [.int .i64 (x1386)]) :: (g11, Cl 138 [.slice A14 (l17).length c15, .slice A18 (l21).length c19, .slice A22 (l25).length c23, .slice A26 (l29).length c27, .slice A30 (l33).length c31, .slice A1814 (l1819).length c1815, .int .i64 (x1817), .bool (x1818)]) :: (l1826, Lb r1825) :: (hs2 ++ (hs1813 ++ R))) ⟨rfl, rfl, rfl, rfl, rfl, trivial⟩ (.cons_cons _ (.cons_cons _ (.cons_cons _ (.cons_cons _ (.cons_cons _ (.cons_cons _ (.cons_cons _ (sub_app hs2 (sub_app hs1813 (.refl _)))))))))) ⟨rfl, rfl, (Base.Le.refl _)⟩
        ·
         rintro b1837 _ _ ⟨rfl, rfl, hle1838⟩
         have hm := hk1840
         refine c_cond _ rfl (fun hc1844 => ?_) (fun hc1844 => ?_)
         ·
          rw [if_pos hc1844] at hm
          refine c_seq ?_
          refine c_region ?_
          refine t_st rfl (st_load 0 rfl one136 rfl rfl) ?_
          obtain ⟨⟨x1845, x1846⟩, hcl1847, hm⟩ := bindS hm
          have hm := (unc2E hm)
          refine t_pullb 5 rfl ?_
          refine t_front2 [_, _, _, _, _, _, _] hs2 hs1813 R rfl ?_
          refine t_out1 [_] [_, _, _, _, _, _] hs1813 (hs2 ++ R) rfl ?_
          refine t_callG _ rfl call75 rfl (cLineFinderCount _ _ l17 l21 l25 l29 l33 x1817 x1818 l1819 g11 A14 c15 A18 c19 A22 c23 A26 c27 A30 c31 A1814 c1815 hs1813 (h16.le (hle1384.trans (hle1419.trans (hle1811.trans (hle1829.trans hle1838))))) (h20.le (hle1384.trans (hle1419.trans (hle1811.trans (hle1829.trans hle1838))))) (h24.le (hle1384.trans (hle1419.trans (hle1811.trans (hle1829.trans hle1838))))) (h28.le (hle1384.trans (hle1419.trans (hle1811.trans (hle1829.trans hle1838))))) (h32.le (hle1384.trans (hle1419.trans (hle1811.trans (hle1829.trans hle1838))))) (h1816.le (hle1829.trans hle1838)) hnz1820 x1845 x1846 hcl1847) ?_
          rintro _ b1848 _ hle1849 ⟨rfl, rfl⟩
          refine t_in1 [_] [_, _, _, _, _, _] hs1813 (hs2 ++ R) rfl ?_
          refine t_nil ?_
          refine x_then_normal ?_
          refine c_ret ?_
          refine x_then_ret ?_
          refine x_block_ret ?_
          refine x_leaveR 6 rfl (hle1838.trans hle1849) ?_
          refine c_ret ?_
          refine x_block_ret ?_
          have hq1850 := houtL1422 _ (Option.some.inj hm).symm
          rw [hq1850] at hk1823
          have hm := elimR hk1823
          obtain ⟨rfl, rfl, rfl⟩ := some3 hm
          refine x_front2 [_, _, _, _, _, _] hs1813 hs2 R rfl ?_
          have he1851 := (h1816.le (hle1829.trans (hle1838.trans hle1849)))
          exact retM (rs := []) [] (hle1384.trans (hle1419.trans (hle1811.trans (hle1829.trans (hle1838.trans hle1849))))) (by decide) rfl trivial rfl (hp' := (g11, Cl 138 [.slice A14 (l17).length c15, .slice A18 (l21).length c19, .slice A22 (l25).length c23, .slice A26 (l29).length c27, .slice A30 (l33).length c31, .slice A1814 (l1819).length c1815, .int .i64 (x1845), .bool (x1846)]) :: (hs2 ++ (hs1813 ++ R))) (.cons_cons _ (.cons _ (.cons _ (.cons _ (.cons _ (.cons _ (sub_app hs2 (sub_app hs1813 (.refl _))))))))) ⟨A1814, c1815, hs1813, rfl, rfl, he1851, hnz1820⟩
         ·
          rw [if_neg (fun hh => Bool.noConfusion (hh.symm.trans hc1844))] at hm
          refine c_skip ?_
          refine x_then_normal ?_
          obtain ⟨l1887, hj1889, hk1889⟩ := bindS hm
          refine c_join (fun b1880 e' hp' => ∃ (A1884 : Option Addr), ∃ (c1885 : Nat), ∃ (hs1883 : Hp), [(4, .pointer (some ⟨g1357, 0, none⟩)), (5, .pointer (some ⟨g1358, 0, none⟩)), (9, .pointer (some ⟨g1830, 0, none⟩)), (10, .slice A1884 (l1887).length c1885)] = e' ∧ (g1357, Cl 136 [.pointer (some ⟨g11, 0, none⟩)]) :: (g1358, Cl 3 [.int .i64 (x12)]) :: (g1830, Cl 43 [.int .i64 (x1827.Section), .int .i64 (x1827.In), .int .i64 (x1827.Out)]) :: (g1359, Cl 29 [.slice A3 (l36).length c4]) :: (g1385, Cl 3 [.int .i64 (x1386)]) :: (g11, Cl 138 [.slice A14 (l17).length c15, .slice A18 (l21).length c19, .slice A22 (l25).length c23, .slice A26 (l29).length c27, .slice A30 (l33).length c31, .slice A1814 (l1819).length c1815, .int .i64 (x1817), .bool (x1818)]) :: (l1826, Lb r1825) :: (hs1883 ++ (hs2 ++ (hs1813 ++ R))) = hp' ∧ b1837.Le b1880 ∧ OS 43 (OT.fr rApiStep) b1880.w (.slice A1884 l1887.length c1885) l1887 hs1883 ∧ (A1884 = none ↔ l1887 = [])) ?_ ?_
          ·
           have hm := hj1889
           obtain ⟨l1904, hcl1905, hm⟩ := bindS hm
           obtain ⟨_, h1913, hm⟩ := bindS hm
           refine D_drawS ((g1357, Cl 136 [.pointer (some ⟨g11, 0, none⟩)]) :: (g1358, Cl 3 [.int .i64 (x12)]) :: (g1359, Cl 29 [.slice A3 (l36).length c4]) :: (g1830, Cl 43 [.int .i64 (x1827.Section), .int .i64 (x1827.In), .int .i64 (x1827.Out)]) :: (g1385, Cl 3 [.int .i64 (x1386)]) :: (g11, Cl 138 [.slice A14 (l17).length c15, .slice A18 (l21).length c19, .slice A22 (l25).length c23, .slice A26 (l29).length c27, .slice A30 (l33).length c31, .slice A1814 (l1819).length c1815, .int .i64 (x1817), .bool (x1818)]) :: (l1826, Lb r1825) :: (hs2 ++ (hs1813 ++ R))) mixed ?_
           refine E_in (.cons_cons _ (.cons_cons _ (.cons_cons _ (.cons_cons _ (.cons_cons _ (.cons_cons _ (.cons_cons _ (sub_app hs2 (sub_app hs1813 (.refl _)))))))))) ?_
           refine E_st 0 rfl (st_load 2 rfl one29 rfl rfl) ?_
           refine E_st 2 rfl (st_loadD (vs := [_, _, _]) 3 3 rfl agg43 rfl rfl rfl) ?_
           refine E_out ?_
           refine D_all [1, 3] (by kernel_rfl) rfl ?_
           refine R_do (Base.Le.refl _) rfl rfl (u_callWF [_, _, _, _, _, _, _] (hs2 ++ (hs1813 ++ R)) _ rfl call76 rfl (fun w ho => cSlicesClone _ [] l36 A3 c4 (OS.now (o := (OT.fr rApiStep)) (l := l36) (hs := hs2) (h5.le (hle1384.trans (hle1419.trans (hle1811.trans (hle1829.trans hle1838))))) ho (.cons _ (.cons _ (.cons _ (.cons _ (.cons _ (.cons _ (.cons _ (List.sublist_append_left _ _))))))))) l1904 hcl1905)) ?_ ?_
           ·
            rintro _ _ ⟨_, _, rfl, A1906, c1907, hs1908, rfl, hq1911, h1909⟩
            obtain rfl := List.append_cancel_right hq1911
            have h1910 := flat_fz (w' := b1837.w) (cat_flat (fun _ _ _ _ h => h) (cat_flat (fun _ _ _ _ h => h) (fun _ _ _ _ h => h))) h1909
            refine ⟨.inr (.cons_cons _ (.cons_cons _ (.cons_cons _ (.cons_cons _ (.cons_cons _ (.cons_cons _ (.cons_cons _ (sub_skip hs1908 (sub_app hs2 (sub_app hs1813 (.refl _))))))))))), ?_⟩
            refine D_all [3] (by kernel_rfl) rfl ?_
            refine R_do (Base.Le.refl _) rfl rfl (u_bslice (el := 43) [(0, .agg #[.int .i64 (x1827.Section), .int .i64 (x1827.In), .int .i64 (x1827.Out)])] [.int .i64 (x1827.Section), .int .i64 (x1827.In), .int .i64 (x1827.Out)] rfl (fun _ => by kernel_rfl)) ?_ ?_
            ·
             rintro _ _ ⟨g1912, rfl, rfl⟩
             refine ⟨.inr (.cons _ (.cons_cons _ (.cons_cons _ (.cons_cons _ (.cons_cons _ (.cons_cons _ (.cons_cons _ (.cons_cons _ (sub_skip hs1908 (sub_app hs2 (sub_app hs1813 (.refl _)))))))))))), ?_⟩
             have h1913 := room_some h1913
             refine D_all [4] (by kernel_rfl) rfl ?_
             refine R_do (Base.Le.refl _) rfl rfl (u_appOS (r := rApiStep) (l := l1904) [_, _, _, _, _, _, _, _] (hs2 ++ (hs1813 ++ R)) [[.int .i64 (x1827.Section), .int .i64 (x1827.In), .int .i64 (x1827.Out)]] [x1827] rfl (by decide) sl29 inf43 rfl rfl rfl rfl h1910 rfl (fun w ho => Rd.own (i := 0) ho rfl) ⟨⟨[.int .i64 (x1827.Section)], _, rfl, rfl, ⟨[.int .i64 (x1827.In)], _, rfl, rfl, rfl⟩⟩, trivial⟩ h1913) ?_ ?_
             ·
              rintro _ _ ⟨hs1914, rfl, h1915⟩
              obtain ⟨A1916, c1917, rfl, _⟩ := h1915.form
              refine ⟨.inr (.cons _ (.cons_cons _ (.cons_cons _ (.cons_cons _ (.cons_cons _ (.cons_cons _ (.cons_cons _ (.cons_cons _ (sub_skip hs1914 (sub_app hs2 (sub_app hs1813 (.refl _)))))))))))), ?_⟩
              refine E_in (.cons _ (.cons_cons _ (.cons_cons _ (.cons_cons _ (.cons_cons _ (.cons_cons _ (.cons_cons _ (.cons_cons _ (sub_skip hs1914 (sub_app hs2 (sub_app hs1813 (.refl _)))))))))))) ?_
              refine E_st 5 rfl (st_assign rfl) ?_
              refine E_out ?_
              refine D_done (by kernel_rfl) ?_
              obtain rfl := some1 hm
              refine x_pullb 7 rfl ?_
              refine x_pullb 7 rfl ?_
              refine x_pullb 7 rfl ?_
              refine x_pullb 6 rfl ?_
              refine x_pullb 7 rfl ?_
              refine x_pullb 7 rfl ?_
              refine x_pullb 7 rfl ?_
              refine x_front3 [_, _, _, _, _, _, _, _] hs1914 hs2 hs1813 R rfl ?_
              refine x_front3 [_, _, _, _, _, _, _, _] hs1813 hs1914 hs2 R rfl ?_
              refine x_front3 [_, _, _, _, _, _, _, _] hs2 hs1813 hs1914 R rfl ?_
              exact x_join (e' := [(4, .pointer (some ⟨g1357, 0, none⟩)), (5, .pointer (some ⟨g1358, 0, none⟩)), (9, .pointer (some ⟨g1830, 0, none⟩)), (10, .slice A1916 (l1904 ++ [x1827]).length c1917)]) (hp' := (g1357, Cl 136 [.pointer (some ⟨g11, 0, none⟩)]) :: (g1358, Cl 3 [.int .i64 (x12)]) :: (g1830, Cl 43 [.int .i64 (x1827.Section), .int .i64 (x1827.In), .int .i64 (x1827.Out)]) :: (g1359, Cl 29 [.slice A3 (l36).length c4]) :: (g1385, Cl 3 [.int .i64 (x1386)]) :: (g11, Cl 138 [.slice A14 (l17).length c15, .slice A18 (l21).length c19, .slice A22 (l25).length c23, .slice A26 (l29).length c27, .slice A30 (l33).length c31, .slice A1814 (l1819).length c1815, .int .i64 (x1817), .bool (x1818)]) :: (l1826, Lb r1825) :: (hs1914 ++ (hs2 ++ (hs1813 ++ R)))) ⟨rfl, rfl, rfl, rfl, trivial⟩ (.cons_cons _ (.cons_cons _ (.cons_cons _ (.cons_cons _ (.cons_cons _ (.cons_cons _ (.cons_cons _ (.cons _ (sub_app hs1914 (sub_app hs2 (sub_app hs1813 (.refl _)))))))))))) ⟨A1916, c1917, hs1914, rfl, rfl, (Base.Le.refl _), h1915, (OS.nz h1915 (by simp))⟩
             exact R_nil
            exact R_nil
           refine R_do (Base.Le.refl _) rfl rfl (u_bslice (el := 43) [(0, .agg #[.int .i64 (x1827.Section), .int .i64 (x1827.In), .int .i64 (x1827.Out)])] [.int .i64 (x1827.Section), .int .i64 (x1827.In), .int .i64 (x1827.Out)] rfl (fun _ => by kernel_rfl)) ?_ ?_
           ·
            rintro _ _ ⟨g1912, rfl, rfl⟩
            refine ⟨.inr (.cons _ (.cons_cons _ (.cons_cons _ (.cons_cons _ (.cons_cons _ (.cons_cons _ (.cons_cons _ (.cons_cons _ (sub_app hs2 (sub_app hs1813 (.refl _))))))))))), ?_⟩
            refine D_all [1] (by kernel_rfl) rfl ?_
            refine R_do (Base.Le.refl _) rfl rfl (u_callWF [_, _, _, _, _, _, _, _] (hs2 ++ (hs1813 ++ R)) _ rfl call76 rfl (fun w ho => cSlicesClone _ [] l36 A3 c4 (OS.now (o := (OT.fr rApiStep)) (l := l36) (hs := hs2) (h5.le (hle1384.trans (hle1419.trans (hle1811.trans (hle1829.trans hle1838))))) ho (.cons _ (.cons _ (.cons _ (.cons _ (.cons _ (.cons _ (.cons _ (.cons _ (List.sublist_append_left _ _)))))))))) l1904 hcl1905)) ?_ ?_
            ·
             rintro _ _ ⟨_, _, rfl, A1906, c1907, hs1908, rfl, hq1911, h1909⟩
             obtain rfl := List.append_cancel_right hq1911
             have h1910 := flat_fz (w' := b1837.w) (cat_flat (fun _ _ _ _ h => h) (cat_flat (fun _ _ _ _ h => h) (fun _ _ _ _ h => h))) h1909
             refine ⟨.inr (.cons _ (.cons_cons _ (.cons_cons _ (.cons_cons _ (.cons_cons _ (.cons_cons _ (.cons_cons _ (.cons_cons _ (sub_skip hs1908 (sub_app hs2 (sub_app hs1813 (.refl _)))))))))))), ?_⟩
             have h1913 := room_some h1913
             refine D_all [4] (by kernel_rfl) rfl ?_
             refine R_do (Base.Le.refl _) rfl rfl (u_appOS (r := rApiStep) (l := l1904) [_, _, _, _, _, _, _, _] (hs2 ++ (hs1813 ++ R)) [[.int .i64 (x1827.Section), .int .i64 (x1827.In), .int .i64 (x1827.Out)]] [x1827] rfl (by decide) sl29 inf43 rfl rfl rfl rfl h1910 rfl (fun w ho => Rd.own (i := 0) ho rfl) ⟨⟨[.int .i64 (x1827.Section)], _, rfl, rfl, ⟨[.int .i64 (x1827.In)], _, rfl, rfl, rfl⟩⟩, trivial⟩ h1913) ?_ ?_
             ·
              rintro _ _ ⟨hs1914, rfl, h1915⟩
              obtain ⟨A1916, c1917, rfl, _⟩ := h1915.form
              refine ⟨.inr (.cons _ (.cons_cons _ (.cons_cons _ (.cons_cons _ (.cons_cons _ (.cons_cons _ (.cons_cons _ (.cons_cons _ (sub_skip hs1914 (sub_app hs2 (sub_app hs1813 (.refl _)))))))))))), ?_⟩
              refine E_in (.cons _ (.cons_cons _ (.cons_cons _ (.cons_cons _ (.cons_cons _ (.cons_cons _ (.cons_cons _ (.cons_cons _ (sub_skip hs1914 (sub_app hs2 (sub_app hs1813 (.refl _)))))))))))) ?_
              refine E_st 5 rfl (st_assign rfl) ?_
              refine E_out ?_
              refine D_done (by kernel_rfl) ?_
              obtain rfl := some1 hm
              refine x_pullb 7 rfl ?_
              refine x_pullb 7 rfl ?_
              refine x_pullb 7 rfl ?_
              refine x_pullb 6 rfl ?_
              refine x_pullb 7 rfl ?_
              refine x_pullb 7 rfl ?_
              refine x_pullb 7 rfl ?_
              refine x_front3 [_, _, _, _, _, _, _, _] hs1914 hs2 hs1813 R rfl ?_
              refine x_front3 [_, _, _, _, _, _, _, _] hs1813 hs1914 hs2 R rfl ?_
              refine x_front3 [_, _, _, _, _, _, _, _] hs2 hs1813 hs1914 R rfl ?_
              exact x_join (e' := [(4, .pointer (some ⟨g1357, 0, none⟩)), (5, .pointer (some ⟨g1358, 0, none⟩)), (9, .pointer (some ⟨g1830, 0, none⟩)), (10, .slice A1916 (l1904 ++ [x1827]).length c1917)]) (hp' := (g1357, Cl 136 [.pointer (some ⟨g11, 0, none⟩)]) :: (g1358, Cl 3 [.int .i64 (x12)]) :: (g1830, Cl 43 [.int .i64 (x1827.Section), .int .i64 (x1827.In), .int .i64 (x1827.Out)]) :: (g1359, Cl 29 [.slice A3 (l36).length c4]) :: (g1385, Cl 3 [.int .i64 (x1386)]) :: (g11, Cl 138 [.slice A14 (l17).length c15, .slice A18 (l21).length c19, .slice A22 (l25).length c23, .slice A26 (l29).length c27, .slice A30 (l33).length c31, .slice A1814 (l1819).length c1815, .int .i64 (x1817), .bool (x1818)]) :: (l1826, Lb r1825) :: (hs1914 ++ (hs2 ++ (hs1813 ++ R)))) ⟨rfl, rfl, rfl, rfl, trivial⟩ (.cons_cons _ (.cons_cons _ (.cons_cons _ (.cons_cons _ (.cons_cons _ (.cons_cons _ (.cons_cons _ (.cons _ (sub_app hs1914 (sub_app hs2 (sub_app hs1813 (.refl _)))))))))))) ⟨A1916, c1917, hs1914, rfl, rfl, (Base.Le.refl _), h1915, (OS.nz h1915 (by simp))⟩
             exact R_nil
            exact R_nil
           exact R_nil
          ·
           rintro b1880 _ _ ⟨A1884, c1885, hs1883, rfl, rfl, hle1881, h1886, hnz1888⟩
           have hm := hk1889
           refine c_seq ?_
           refine c_seq ?_
           refine c_region ?_
           refine t_st rfl (st_move rfl) ?_
           refine t_st rfl (st_len rfl sl29) ?_
           refine t_st rfl (st_gtr rfl rfl) ?_
           refine t_nil ?_
           refine x_then_normal ?_
           refine c_cond _ rfl (fun hc1918 => ?_) (fun hc1918 => ?_)
           ·
            rw [if_pos (of_decide_eq_true hc1918)] at hm
            refine c_seq ?_
            refine c_region ?_
            refine t_st rfl (st_load 0 rfl one136 rfl rfl) ?_
            refine t_st rfl (st_nil rfl) ?_
            refine t_st rfl (st_field rfl fld138_3) ?_
            refine t_do rfl (u_store 5 rfl rfl siz4 rfl rfl (by simp)) ?_
            rintro _ _ rfl
            refine t_nil ?_
            refine x_then_normal ?_
            refine c_ret ?_
            refine x_then_ret ?_
            refine x_block_ret ?_
            refine x_leaveR 6 rfl (hle1838.trans hle1881) ?_
            refine c_ret ?_
            refine x_block_ret ?_
            have hq1919 := houtL1422 _ (Option.some.inj hm).symm
            rw [hq1919] at hk1823
            have hm := elimR hk1823
            obtain ⟨rfl, rfl, rfl⟩ := some3 hm
            refine x_pullb 5 rfl ?_
            refine x_front3 [_, _, _, _, _, _] hs1883 hs2 hs1813 R rfl ?_
            refine x_front3 [_, _, _, _, _, _] hs1813 hs1883 hs2 R rfl ?_
            have he1920 := (h1816.le (hle1829.trans (hle1838.trans hle1881)))
            exact retM (rs := []) [] (hle1384.trans (hle1419.trans (hle1811.trans (hle1829.trans (hle1838.trans hle1881))))) (by decide) rfl trivial rfl (hp' := (g11, Cl 138 [.slice A14 (l17).length c15, .slice A18 (l21).length c19, .slice A22 (l25).length c23, .slice A26 (l29).length c27, .slice A30 (l33).length c31, .slice A1814 (l1819).length c1815, .int .i64 (x1817), .bool (true)]) :: (hs2 ++ (hs1813 ++ R))) (.cons_cons _ (.cons _ (.cons _ (.cons _ (.cons _ (.cons _ (sub_app hs2 (sub_app hs1813 (sub_skip hs1883 (.refl _)))))))))) ⟨A1814, c1815, hs1813, rfl, rfl, he1920, hnz1820⟩
           ·
            rw [if_neg (of_decide_eq_false hc1918)] at hm
            refine c_skip ?_
            refine x_then_normal ?_
            refine c_seq ?_
            refine c_region ?_
            refine t_st rfl (st_field rfl fld43_0) ?_
            refine t_st rfl (st_load 2 rfl one3 rfl rfl) ?_
            refine t_st rfl (st_field rfl fld43_2) ?_
            refine t_st rfl (st_load 2 rfl one3 rfl rfl) ?_
            refine t_st rfl (st_build (v := .agg #[.int .i64 (x1827.Section), .int .i64 (x1827.Out)]) [(0, .int .i64 (x1827.Section)), (1, .int .i64 (x1827.Out))] rfl (fun _ => by kernel_rfl)) ?_
            refine t_do rfl (u_alloc [.int .i64 0, .int .i64 0] zero77 rfl) ?_
            rintro _ _ ⟨g1921, rfl, rfl⟩
            refine t_do rfl (u_storeN (vs := [_, _]) 0 2 rfl rfl rfl siz77 rfl (by intro u hu; simp only [List.mem_cons, List.not_mem_nil, or_false] at hu; rcases hu with rfl | rfl <;> rfl) rfl (by simp)) ?_
            rintro _ _ rfl
            refine t_nil ?_
            refine x_then_normal ?_
            refine c_seq ?_
            obtain ⟨x1924, hcl1925, hm⟩ := bindS hm
            refine D_drawS ((g1921, Cl 77 [.int .i64 (x1827.Section), .int .i64 (x1827.Out)]) :: (g1357, Cl 136 [.pointer (some ⟨g11, 0, none⟩)]) :: (g1358, Cl 3 [.int .i64 (x12)]) :: (g1830, Cl 43 [.int .i64 (x1827.Section), .int .i64 (x1827.In), .int .i64 (x1827.Out)]) :: (g1359, Cl 29 [.slice A3 (l36).length c4]) :: (g1385, Cl 3 [.int .i64 (x1386)]) :: (g11, Cl 138 [.slice A14 (l17).length c15, .slice A18 (l21).length c19, .slice A22 (l25).length c23, .slice A26 (l29).length c27, .slice A30 (l33).length c31, .slice A1814 (l1819).length c1815, .int .i64 (x1817), .bool (x1818)]) :: (l1826, Lb r1825) :: (hs1883 ++ (hs2 ++ (hs1813 ++ R)))) mixed ?_
            refine E_in (.cons_cons _ (.cons_cons _ (.cons_cons _ (.cons_cons _ (.cons_cons _ (.cons_cons _ (.cons_cons _ (.cons_cons _ (sub_app hs1883 (sub_app hs2 (sub_app hs1813 (.refl _)))))))))))) ?_
            refine E_st 0 rfl (st_load 1 rfl one136 rfl rfl) ?_
            refine E_st 1 rfl (st_nil rfl) ?_
            refine E_st 2 rfl (st_field rfl fld138_0) ?_
            refine E_st 3 rfl (st_loadD (vs := [_, _, _, _, _]) 6 5 rfl agg28 rfl rfl rfl) ?_
            refine E_st 4 rfl (st_loadD (vs := [_, _]) 0 2 rfl agg77 rfl rfl rfl) ?_
            refine E_out ?_
            refine D_all [5] (by kernel_rfl) rfl ?_
            refine R_do (Base.Le.refl _) rfl rfl (u_callW0 _ call63 rfl (fun w ho => cLineSignal _ [] (⟨l17, l21, l25, l29, l33⟩ : ApiNet) (⟨x1827.Section, x1827.Out⟩ : LineEnd) A14 c15 A18 c19 A22 c23 A26 c27 A30 c31 ((h16.le (hle1384.trans (hle1419.trans (hle1811.trans (hle1829.trans (hle1838.trans hle1881)))))).old ho) ((h20.le (hle1384.trans (hle1419.trans (hle1811.trans (hle1829.trans (hle1838.trans hle1881)))))).old ho) ((h24.le (hle1384.trans (hle1419.trans (hle1811.trans (hle1829.trans (hle1838.trans hle1881)))))).old ho) ((h28.le (hle1384.trans (hle1419.trans (hle1811.trans (hle1829.trans (hle1838.trans hle1881)))))).old ho) ((h32.le (hle1384.trans (hle1419.trans (hle1811.trans (hle1829.trans (hle1838.trans hle1881)))))).old ho) x1924 hcl1925) (fun _ _ _ h => h.2.symm)) ?_ ?_
            ·
             rintro _ _ ⟨⟨_, rfl, _⟩, rfl⟩
             refine ⟨.inr (.cons_cons _ (.cons_cons _ (.cons_cons _ (.cons_cons _ (.cons_cons _ (.cons_cons _ (.cons_cons _ (.cons_cons _ (sub_app hs1883 (sub_app hs2 (sub_app hs1813 (.refl _)))))))))))), ?_⟩
             refine E_in (.cons_cons _ (.cons_cons _ (.cons_cons _ (.cons_cons _ (.cons_cons _ (.cons_cons _ (.cons_cons _ (.cons_cons _ (sub_app hs1883 (sub_app hs2 (sub_app hs1813 (.refl _)))))))))))) ?_
             refine E_st 6 rfl (st_assign rfl) ?_
             refine E_out ?_
             refine D_done (by kernel_rfl) ?_
             refine x_then_normal ?_
             refine c_seq ?_
             obtain ⟨x1942, hj1943, hk1943⟩ := bindS hm
             refine c_join (fun b1940 e' hp' => [(4, .pointer (some ⟨g1357, 0, none⟩)), (5, .pointer (some ⟨g1358, 0, none⟩)), (10, .slice A1884 (l1887).length c1885), (11, .pointer (some ⟨g1921, 0, none⟩)), (12, .int .i64 (x1924)), (14, .bool (x1942))] = e' ∧ (g1357, Cl 136 [.pointer (some ⟨g11, 0, none⟩)]) :: (g1358, Cl 3 [.int .i64 (x12)]) :: (g1921, Cl 77 [.int .i64 (x1827.Section), .int .i64 (x1827.Out)]) :: (g1359, Cl 29 [.slice A3 (l36).length c4]) :: (g1385, Cl 3 [.int .i64 (x1386)]) :: (g11, Cl 138 [.slice A14 (l17).length c15, .slice A18 (l21).length c19, .slice A22 (l25).length c23, .slice A26 (l29).length c27, .slice A30 (l33).length c31, .slice A1814 (l1819).length c1815, .int .i64 (x1817), .bool (x1818)]) :: (l1826, Lb r1825) :: (hs1883 ++ (hs2 ++ (hs1813 ++ R))) = hp' ∧ b1880.Le b1940) ?_ ?_
             ·
              have hm := hj1943
              obtain ⟨⟨x1951, x1952, x1953⟩, hcl1954, hm⟩ := bindS hm
              have hm := (unc3E hm)
              refine D_drawS ((g1921, Cl 77 [.int .i64 (x1827.Section), .int .i64 (x1827.Out)]) :: (g1357, Cl 136 [.pointer (some ⟨g11, 0, none⟩)]) :: (g1358, Cl 3 [.int .i64 (x12)]) :: (g1830, Cl 43 [.int .i64 (x1827.Section), .int .i64 (x1827.In), .int .i64 (x1827.Out)]) :: (g1359, Cl 29 [.slice A3 (l36).length c4]) :: (g1385, Cl 3 [.int .i64 (x1386)]) :: (g11, Cl 138 [.slice A14 (l17).length c15, .slice A18 (l21).length c19, .slice A22 (l25).length c23, .slice A26 (l29).length c27, .slice A30 (l33).length c31, .slice A1814 (l1819).length c1815, .int .i64 (x1817), .bool (x1818)]) :: (l1826, Lb r1825) :: (hs1883 ++ (hs2 ++ (hs1813 ++ R)))) mixed ?_
              refine E_in (.cons_cons _ (.cons_cons _ (.cons_cons _ (.cons_cons _ (.cons_cons _ (.cons_cons _ (.cons_cons _ (.cons_cons _ (sub_app hs1883 (sub_app hs2 (sub_app hs1813 (.refl _)))))))))))) ?_
              refine E_st 0 rfl (st_load 1 rfl one136 rfl rfl) ?_
              refine E_st 1 rfl (st_nil rfl) ?_
              refine E_st 2 rfl (st_field rfl fld138_0) ?_
              refine E_st 3 rfl (st_loadD (vs := [_, _, _, _, _]) 6 5 rfl agg28 rfl rfl rfl) ?_
              refine E_st 4 rfl (st_loadD (vs := [_, _]) 0 2 rfl agg77 rfl rfl rfl) ?_
              refine E_out ?_
              refine D_all [5, 9] (by kernel_rfl) rfl ?_
              refine R_callGl (Base.Le.refl _) rfl rfl _ call27 rfl (cLineJoined _ _ (⟨l17, l21, l25, l29, l33⟩ : ApiNet) (⟨x1827.Section, x1827.Out⟩ : LineEnd) A14 c15 A18 c19 A22 c23 A26 c27 A30 c31 (h16.le (hle1384.trans (hle1419.trans (hle1811.trans (hle1829.trans (hle1838.trans hle1881)))))) (h20.le (hle1384.trans (hle1419.trans (hle1811.trans (hle1829.trans (hle1838.trans hle1881)))))) (h24.le (hle1384.trans (hle1419.trans (hle1811.trans (hle1829.trans (hle1838.trans hle1881)))))) (h28.le (hle1384.trans (hle1419.trans (hle1811.trans (hle1829.trans (hle1838.trans hle1881)))))) (h32.le (hle1384.trans (hle1419.trans (hle1811.trans (hle1829.trans (hle1838.trans hle1881)))))) x1951 x1952 x1953 hcl1954) ?_ ?_
              ·
               rintro _ b1955 _ hle1956 ⟨rfl, rfl⟩
               refine ⟨.inr (.cons_cons _ (.cons_cons _ (.cons_cons _ (.cons_cons _ (.cons_cons _ (.cons_cons _ (.cons_cons _ (.cons_cons _ (sub_app hs1883 (sub_app hs2 (sub_app hs1813 (.refl _)))))))))))), ?_⟩
               refine D_st hle1956 6 rfl (by kernel_rfl) (by kernel_rfl) (by kernel_rfl) rfl (st_move rfl) (.cons_cons _ (.cons_cons _ (.cons_cons _ (.cons_cons _ (.cons_cons _ (.cons_cons _ (.cons_cons _ (.cons_cons _ (sub_app hs1883 (sub_app hs2 (sub_app hs1813 (.refl _)))))))))))) ?_
               refine D_st hle1956 7 rfl (by kernel_rfl) (by kernel_rfl) (by kernel_rfl) rfl (st_extract rfl rfl) (.cons_cons _ (.cons_cons _ (.cons_cons _ (.cons_cons _ (.cons_cons _ (.cons_cons _ (.cons_cons _ (.cons_cons _ (sub_app hs1883 (sub_app hs2 (sub_app hs1813 (.refl _)))))))))))) ?_
               refine D_st hle1956 8 rfl (by kernel_rfl) (by kernel_rfl) (by kernel_rfl) rfl (st_extract rfl rfl) (.cons_cons _ (.cons_cons _ (.cons_cons _ (.cons_cons _ (.cons_cons _ (.cons_cons _ (.cons_cons _ (.cons_cons _ (sub_app hs1883 (sub_app hs2 (sub_app hs1813 (.refl _)))))))))))) ?_
               refine D_all [9] (by kernel_rfl) rfl ?_
               refine R_do hle1956 rfl rfl (u_alloc [.int .i64 0, .int .i64 0] zero77 rfl) ?_ ?_
               ·
                rintro _ _ ⟨g1957, rfl, rfl⟩
                refine ⟨.inr (.cons _ (.cons_cons _ (.cons_cons _ (.cons_cons _ (.cons_cons _ (.cons_cons _ (.cons_cons _ (.cons_cons _ (.cons_cons _ (sub_app hs1883 (sub_app hs2 (sub_app hs1813 (.refl _))))))))))))), ?_⟩
                refine D_all [10] (by kernel_rfl) rfl ?_
                refine R_do hle1956 rfl rfl (u_storeN (vs := [_, _]) 0 2 rfl rfl rfl siz77 rfl (by intro u hu; simp only [List.mem_cons, List.not_mem_nil, or_false] at hu; rcases hu with rfl | rfl <;> rfl) rfl (by simp)) ?_ ?_
                ·
                 rintro _ _ rfl
                 refine ⟨.inr (.cons _ (.cons_cons _ (.cons_cons _ (.cons_cons _ (.cons_cons _ (.cons_cons _ (.cons_cons _ (.cons_cons _ (.cons_cons _ (sub_app hs1883 (sub_app hs2 (sub_app hs1813 (.refl _))))))))))))), ?_⟩
                 refine D_st hle1956 11 rfl (by kernel_rfl) (by kernel_rfl) (by kernel_rfl) rfl (st_assign rfl) (.cons _ (.cons_cons _ (.cons_cons _ (.cons_cons _ (.cons_cons _ (.cons_cons _ (.cons_cons _ (.cons_cons _ (.cons_cons _ (sub_app hs1883 (sub_app hs2 (sub_app hs1813 (.refl _))))))))))))) ?_
                 refine D_done (by kernel_rfl) ?_
                 obtain rfl := some1 hm
                 refine x_pullb 8 rfl ?_
                 refine x_pullb 8 rfl ?_
                 refine x_pullb 8 rfl ?_
                 refine x_pullb 8 rfl ?_
                 refine x_pullb 5 rfl ?_
                 refine x_pullb 7 rfl ?_
                 refine x_pullb 7 rfl ?_
                 refine x_front3 [_, _, _, _, _, _, _, _, _] hs1883 hs2 hs1813 R rfl ?_
                 refine x_front3 [_, _, _, _, _, _, _, _, _] hs1813 hs1883 hs2 R rfl ?_
                 refine x_front3 [_, _, _, _, _, _, _, _, _] hs2 hs1813 hs1883 R rfl ?_
                 exact x_join (e' := [(4, .pointer (some ⟨g1357, 0, none⟩)), (5, .pointer (some ⟨g1358, 0, none⟩)), (10, .slice A1884 (l1887).length c1885), (11, .pointer (some ⟨g1921, 0, none⟩)), (12, .int .i64 (x1924)), (14, .bool (x1953))]) (hp' := (g1357, Cl 136 [.pointer (some ⟨g11, 0, none⟩)]) :: (g1358, Cl 3 [.int .i64 (x12)]) :: (g1921, Cl 77 [.int .i64 (x1827.Section), .int .i64 (x1827.Out)]) :: (g1359, Cl 29 [.slice A3 (l36).length c4]) :: (g1385, Cl 3 [.int .i64 (x1386)]) :: (g11, Cl 138 [.slice A14 (l17).length c15, .slice A18 (l21).length c19, .slice A22 (l25).length c23, .slice A26 (l29).length c27, .slice A30 (l33).length c31, .slice A1814 (l1819).length c1815, .int .i64 (x1817), .bool (x1818)]) :: (l1826, Lb r1825) :: (hs1883 ++ (hs2 ++ (hs1813 ++ R)))) ⟨rfl, rfl, rfl, rfl, rfl, rfl, trivial⟩ (.cons_cons _ (.cons_cons _ (.cons_cons _ (.cons_cons _ (.cons_cons _ (.cons_cons _ (.cons_cons _ (.cons _ (.cons _ (sub_app hs1883 (sub_app hs2 (sub_app hs1813 (.refl _))))))))))))) ⟨rfl, rfl, hle1956⟩
                exact R_nil
               exact R_nil
              refine R_do (Base.Le.refl _) rfl rfl (u_alloc [.int .i64 0, .int .i64 0] zero77 rfl) ?_ ?_
              ·
               rintro _ _ ⟨g1957, rfl, rfl⟩
               refine ⟨.inr (.cons _ (.cons_cons _ (.cons_cons _ (.cons_cons _ (.cons_cons _ (.cons_cons _ (.cons_cons _ (.cons_cons _ (.cons_cons _ (sub_app hs1883 (sub_app hs2 (sub_app hs1813 (.refl _))))))))))))), ?_⟩
               refine D_all [5] (by kernel_rfl) rfl ?_
               refine R_callGl (Base.Le.refl _) rfl rfl _ call27 rfl (cLineJoined _ _ (⟨l17, l21, l25, l29, l33⟩ : ApiNet) (⟨x1827.Section, x1827.Out⟩ : LineEnd) A14 c15 A18 c19 A22 c23 A26 c27 A30 c31 (h16.le (hle1384.trans (hle1419.trans (hle1811.trans (hle1829.trans (hle1838.trans hle1881)))))) (h20.le (hle1384.trans (hle1419.trans (hle1811.trans (hle1829.trans (hle1838.trans hle1881)))))) (h24.le (hle1384.trans (hle1419.trans (hle1811.trans (hle1829.trans (hle1838.trans hle1881)))))) (h28.le (hle1384.trans (hle1419.trans (hle1811.trans (hle1829.trans (hle1838.trans hle1881)))))) (h32.le (hle1384.trans (hle1419.trans (hle1811.trans (hle1829.trans (hle1838.trans hle1881)))))) x1951 x1952 x1953 hcl1954) ?_ ?_
               ·
                rintro _ b1955 _ hle1956 ⟨rfl, rfl⟩
                refine ⟨.inr (.cons _ (.cons_cons _ (.cons_cons _ (.cons_cons _ (.cons_cons _ (.cons_cons _ (.cons_cons _ (.cons_cons _ (.cons_cons _ (sub_app hs1883 (sub_app hs2 (sub_app hs1813 (.refl _))))))))))))), ?_⟩
                refine D_st hle1956 6 rfl (by kernel_rfl) (by kernel_rfl) (by kernel_rfl) rfl (st_move rfl) (.cons _ (.cons_cons _ (.cons_cons _ (.cons_cons _ (.cons_cons _ (.cons_cons _ (.cons_cons _ (.cons_cons _ (.cons_cons _ (sub_app hs1883 (sub_app hs2 (sub_app hs1813 (.refl _))))))))))))) ?_
                refine D_st hle1956 7 rfl (by kernel_rfl) (by kernel_rfl) (by kernel_rfl) rfl (st_extract rfl rfl) (.cons _ (.cons_cons _ (.cons_cons _ (.cons_cons _ (.cons_cons _ (.cons_cons _ (.cons_cons _ (.cons_cons _ (.cons_cons _ (sub_app hs1883 (sub_app hs2 (sub_app hs1813 (.refl _))))))))))))) ?_
                refine D_st hle1956 8 rfl (by kernel_rfl) (by kernel_rfl) (by kernel_rfl) rfl (st_extract rfl rfl) (.cons _ (.cons_cons _ (.cons_cons _ (.cons_cons _ (.cons_cons _ (.cons_cons _ (.cons_cons _ (.cons_cons _ (.cons_cons _ (sub_app hs1883 (sub_app hs2 (sub_app hs1813 (.refl _))))))))))))) ?_
                refine D_all [10] (by kernel_rfl) rfl ?_
                refine R_do hle1956 rfl rfl (u_storeN (vs := [_, _]) 0 2 rfl rfl rfl siz77 rfl (by intro u hu; simp only [List.mem_cons, List.not_mem_nil, or_false] at hu; rcases hu with rfl | rfl <;> rfl) rfl (by simp)) ?_ ?_
                ·
                 rintro _ _ rfl
                 refine ⟨.inr (.cons _ (.cons_cons _ (.cons_cons _ (.cons_cons _ (.cons_cons _ (.cons_cons _ (.cons_cons _ (.cons_cons _ (.cons_cons _ (sub_app hs1883 (sub_app hs2 (sub_app hs1813 (.refl _))))))))))))), ?_⟩
                 refine D_st hle1956 11 rfl (by kernel_rfl) (by kernel_rfl) (by kernel_rfl) rfl (st_assign rfl) (.cons _ (.cons_cons _ (.cons_cons _ (.cons_cons _ (.cons_cons _ (.cons_cons _ (.cons_cons _ (.cons_cons _ (.cons_cons _ (sub_app hs1883 (sub_app hs2 (sub_app hs1813 (.refl _))))))))))))) ?_
                 refine D_done (by kernel_rfl) ?_
                 obtain rfl := some1 hm
                 refine x_pullb 8 rfl ?_
                 refine x_pullb 8 rfl ?_
                 refine x_pullb 8 rfl ?_
                 refine x_pullb 8 rfl ?_
                 refine x_pullb 5 rfl ?_
                 refine x_pullb 7 rfl ?_
                 refine x_pullb 7 rfl ?_
                 refine x_front3 [_, _, _, _, _, _, _, _, _] hs1883 hs2 hs1813 R rfl ?_
                 refine x_front3 [_, _, _, _, _, _, _, _, _] hs1813 hs1883 hs2 R rfl ?_
                 refine x_front3 [_, _, _, _, _, _, _, _, _] hs2 hs1813 hs1883 R rfl ?_
                 exact x_join (e' := [(4, .pointer (some ⟨g1357, 0, none⟩)), (5, .pointer (some ⟨g1358, 0, none⟩)), (10, .slice A1884 (l1887).length c1885), (11, .pointer (some ⟨g1921, 0, none⟩)), (12, .int .i64 (x1924)), (14, .bool (x1953))]) (hp' := (g1357, Cl 136 [.pointer (some ⟨g11, 0, none⟩)]) :: (g1358, Cl 3 [.int .i64 (x12)]) :: (g1921, Cl 77 [.int .i64 (x1827.Section), .int .i64 (x1827.Out)]) :: (g1359, Cl 29 [.slice A3 (l36).length c4]) :: (g1385, Cl 3 [.int .i64 (x1386)]) :: (g11, Cl 138 [.slice A14 (l17).length c15, .slice A18 (l21).length c19, .slice A22 (l25).length c23, .slice A26 (l29).length c27, .slice A30 (l33).length c31, .slice A1814 (l1819).length c1815, .int .i64 (x1817), .bool (x1818)]) :: (l1826, Lb r1825) :: (hs1883 ++ (hs2 ++ (hs1813 ++ R)))) ⟨rfl, rfl, rfl, rfl, rfl, rfl, trivial⟩ (.cons_cons _ (.cons_cons _ (.cons_cons _ (.cons_cons _ (.cons_cons _ (.cons_cons _ (.cons_cons _ (.cons _ (.cons _ (sub_app hs1883 (sub_app hs2 (sub_app hs1813 (.refl _))))))))))))) ⟨rfl, rfl, hle1956⟩
                exact R_nil
               exact R_nil
              exact R_nil
             ·
              rintro b1940 _ _ ⟨rfl, rfl, hle1941⟩
              have hm := hk1943
              obtain ⟨x1961, hj1962, hk1962⟩ := bindS hm
              refine c_join (fun b1959 e' hp' => [(4, .pointer (some ⟨g1357, 0, none⟩)), (5, .pointer (some ⟨g1358, 0, none⟩)), (10, .slice A1884 (l1887).length c1885), (11, .pointer (some ⟨g1921, 0, none⟩)), (12, .int .i64 (x1924)), (82, .bool (x1961))] = e' ∧ (g1357, Cl 136 [.pointer (some ⟨g11, 0, none⟩)]) :: (g1358, Cl 3 [.int .i64 (x12)]) :: (g1921, Cl 77 [.int .i64 (x1827.Section), .int .i64 (x1827.Out)]) :: (g1359, Cl 29 [.slice A3 (l36).length c4]) :: (g1385, Cl 3 [.int .i64 (x1386)]) :: (g11, Cl 138 [.slice A14 (l17).length c15, .slice A18 (l21).length c19, .slice A22 (l25).length c23, .slice A26 (l29).length c27, .slice A30 (l33).length c31, .slice A1814 (l1819).length c1815, .int .i64 (x1817), .bool (x1818)]) :: (l1826, Lb r1825) :: (hs1883 ++ (hs2 ++ (hs1813 ++ R))) = hp' ∧ b1940.Le b1959) ?_ ?_
              ·
               have hm := hj1962
               refine c_region ?_
               refine t_st rfl (st_move rfl) ?_
               rcases Bool.eq_false_or_eq_true x1942 with hc1963 | hc1963
               ·
                rw [if_pos hc1963] at hm
                refine t_resp 78 rfl (v' := .bool true) (by rw [hc1963] <;> rfl) ?_
                refine t_st rfl (st_move rfl) ?_
                refine t_yes 79 rfl rfl rfl ?_
                refine t_st rfl (st_move rfl) ?_
                refine t_yes 79 rfl rfl rfl ?_
                refine t_st rfl (st_lss rfl rfl) ?_
                refine t_st rfl (st_pick_t rfl rfl) ?_
                refine t_nil ?_
                obtain rfl := some1 hm
                refine x_pullb 6 rfl ?_
                refine x_pullb 6 rfl ?_
                refine x_pullb 6 rfl ?_
                refine x_pullb 6 rfl ?_
                refine x_pullb 6 rfl ?_
                refine x_pullb 6 rfl ?_
                refine x_pullb 6 rfl ?_
                refine x_front3 [_, _, _, _, _, _, _] hs1883 hs2 hs1813 R rfl ?_
                refine x_front3 [_, _, _, _, _, _, _] hs1813 hs1883 hs2 R rfl ?_
                refine x_front3 [_, _, _, _, _, _, _] hs2 hs1813 hs1883 R rfl ?_
                exact x_join (e' := [(4, .pointer (some ⟨g1357, 0, none⟩)), (5, .pointer (some ⟨g1358, 0, none⟩)), (10, .slice A1884 (l1887).length c1885), (11, .pointer (some ⟨g1921, 0, none⟩)), (12, .int .i64 (x1924)), (82, .bool (decide (x1924 < 0)))]) (hp' := (g1357, Cl 136 [.pointer (some ⟨g11, 0, none⟩)]) :: (g1358, Cl 3 [.int .i64 (x12)]) :: (g1921, Cl 77 [.int .i64 (x1827.Section), .int .i64 (x1827.Out)]) :: (g1359, Cl 29 [.slice A3 (l36).length c4]) :: (g1385, Cl 3 [.int .i64 (x1386)]) :: (g11, Cl 138 [.slice A14 (l17).length c15, .slice A18 (l21).length c19, .slice A22 (l25).length c23, .slice A26 (l29).length c27, .slice A30 (l33).length c31, .slice A1814 (l1819).length c1815, .int .i64 (x1817), .bool (x1818)]) :: (l1826, Lb r1825) :: (hs1883 ++ (hs2 ++ (hs1813 ++ R)))) ⟨rfl, rfl, rfl, rfl, rfl, rfl, trivial⟩ (.cons_cons _ (.cons_cons _ (.cons_cons _ (.cons_cons _ (.cons_cons _ (.cons_cons _ (.cons_cons _ (sub_app hs1883 (sub_app hs2 (sub_app hs1813 (.refl _))))))))))) ⟨rfl, rfl, (Base.Le.refl _)⟩
               ·
                rw [if_neg (fun hh => Bool.noConfusion (hh.symm.trans hc1963))] at hm
                refine t_resp 78 rfl (v' := .bool false) (by rw [hc1963] <;> rfl) ?_
                refine t_st rfl (st_move rfl) ?_
                refine t_no 79 rfl rfl rfl rfl rfl ?_
                refine t_no 79 rfl rfl rfl rfl rfl ?_
                refine t_st rfl (st_pick_f rfl rfl) ?_
                refine t_nil ?_
                obtain rfl := some1 hm
                refine x_pullb 6 rfl ?_
                refine x_pullb 6 rfl ?_
                refine x_pullb 6 rfl ?_
                refine x_pullb 6 rfl ?_
                refine x_pullb 6 rfl ?_
                refine x_pullb 6 rfl ?_
                refine x_pullb 6 rfl ?_
                refine x_front3 [_, _, _, _, _, _, _] hs1883 hs2 hs1813 R rfl ?_
                refine x_front3 [_, _, _, _, _, _, _] hs1813 hs1883 hs2 R rfl ?_
                refine x_front3 [_, _, _, _, _, _, _] hs2 hs1813 hs1883 R rfl ?_
                exact x_join (e' := [(4, .pointer (some ⟨g1357, 0, none⟩)), (5, .pointer (some ⟨g1358, 0, none⟩)), (10, .slice A1884 (l1887).length c1885), (11, .pointer (some ⟨g1921, 0, none⟩)), (12, .int .i64 (x1924)), (82, .bool (false))]) (hp' := (g1357, Cl 136 [.pointer (some ⟨g11, 0, none⟩)]) :: (g1358, Cl 3 [.int .i64 (x12)]) :: (g1921, Cl 77 [.int .i64 (x1827.Section), .int .i64 (x1827.Out)]) :: (g1359, Cl 29 [.slice A3 (l36).length c4]) :: (g1385, Cl 3 [.int .i64 (x1386)]) :: (g11, Cl 138 [.slice A14 (l17).length c15, .slice A18 (l21).length c19, .slice A22 (l25).length c23, .slice A26 (l29).length c27, .slice A30 (l33).length c31, .slice A1814 (l1819).length c1815, .int .i64 (x1817), .bool (x1818)]) :: (l1826, Lb r1825) :: (hs1883 ++ (hs2 ++ (hs1813 ++ R)))) ⟨rfl, rfl, rfl, rfl, rfl, rfl, trivial⟩ (.cons_cons _ (.cons_cons _ (.cons_cons _ (.cons_cons _ (.cons_cons _ (.cons_cons _ (.cons_cons _ (sub_app hs1883 (sub_app hs2 (sub_app hs1813 (.refl _))))))))))) ⟨rfl, rfl, (Base.Le.refl _)⟩
              ·
               rintro b1959 _ _ ⟨rfl, rfl, hle1960⟩
               have hm := hk1962
               refine c_cond _ rfl (fun hc1964 => ?_) (fun hc1964 => ?_)
               ·
                rw [if_pos hc1964] at hm
                refine c_seq ?_
                refine c_region ?_
                refine t_st rfl (st_load 0 rfl one136 rfl rfl) ?_
                refine t_st rfl (st_load 1 rfl one3 rfl rfl) ?_
                refine t_st rfl (st_move rfl) ?_
                refine t_st rfl (st_loadD (vs := [_, _]) 2 2 rfl agg77 rfl rfl rfl) ?_
                obtain ⟨⟨x1965, x1966, l1967⟩, hcl1968, hm⟩ := bindS hm
                have hm := (unc3E hm)
                refine t_pullb 5 rfl ?_
                refine t_front3 [_, _, _, _, _, _, _] hs1883 hs2 hs1813 R rfl ?_
                refine t_front2 [_, _, _, _, _, _, _] hs1813 hs1883 (hs2 ++ R) rfl ?_
                refine t_out2 [_] [_, _, _, _, _, _] hs1883 hs1813 (hs2 ++ R) rfl ?_
                refine t_callG _ rfl call61 rfl (ih _ _ x12 (⟨x1827.Section, x1827.Out⟩ : LineEnd) l17 l21 l25 l29 l33 x1817 x1818 l1887 l1819 g11 A14 c15 A18 c19 A22 c23 A26 c27 A30 c31 A1884 c1885 hs1883 A1814 c1815 hs1813 (h16.le (hle1384.trans (hle1419.trans (hle1811.trans (hle1829.trans (hle1838.trans (hle1881.trans (hle1941.trans hle1960)))))))) (h20.le (hle1384.trans (hle1419.trans (hle1811.trans (hle1829.trans (hle1838.trans (hle1881.trans (hle1941.trans hle1960)))))))) (h24.le (hle1384.trans (hle1419.trans (hle1811.trans (hle1829.trans (hle1838.trans (hle1881.trans (hle1941.trans hle1960)))))))) (h28.le (hle1384.trans (hle1419.trans (hle1811.trans (hle1829.trans (hle1838.trans (hle1881.trans (hle1941.trans hle1960)))))))) (h32.le (hle1384.trans (hle1419.trans (hle1811.trans (hle1829.trans (hle1838.trans (hle1881.trans (hle1941.trans hle1960)))))))) (h1886.le (hle1941.trans hle1960)) hnz1888 (h1816.le (hle1829.trans (hle1838.trans (hle1881.trans (hle1941.trans hle1960))))) hnz1820 x1965 x1966 l1967 hcl1968) ?_
                rintro _ b1969 _ hle1970 ⟨A1971, c1972, hs1973, rfl, rfl, h1974, h1975⟩
                refine t_in2 [_] [_, _, _, _, _, _] hs1883 hs1973 (hs2 ++ R) rfl ?_
                refine t_nil ?_
                refine x_then_normal ?_
                refine c_exit ?_
                refine x_then_exit ?_
                refine x_block_out ?_
                refine x_pullb 5 rfl ?_
                refine x_pullb 5 rfl ?_
                refine x_pullb 4 rfl ?_
                refine x_pullb 4 rfl ?_
                refine x_front2 [_, _, _, _, _, _, _] hs1883 hs1973 (hs2 ++ R) rfl ?_
                refine x_front3 [_, _, _, _, _, _, _] hs1973 hs1883 hs2 R rfl ?_
                exact x_round 6 rfl (hle1838.trans (hle1881.trans (hle1941.trans (hle1960.trans hle1970)))) (hp' := (g1357, Cl 136 [.pointer (some ⟨g11, 0, none⟩)]) :: (g1358, Cl 3 [.int .i64 (x12)]) :: (g1359, Cl 29 [.slice A3 (l36).length c4]) :: (g1385, Cl 3 [.int .i64 (x1386)]) :: (g11, Cl 138 [.slice A14 (l17).length c15, .slice A18 (l21).length c19, .slice A22 (l25).length c23, .slice A26 (l29).length c27, .slice A30 (l33).length c31, .slice A1971 (l1967).length c1972, .int .i64 (x1965), .bool (x1966)]) :: (hs2 ++ (hs1973 ++ R))) (.cons_cons _ (.cons_cons _ (.cons_cons _ (.cons_cons _ (.cons_cons _ (.cons _ (sub_app hs2 (sub_app hs1973 (sub_skip hs1883 (.refl _)))))))))) ⟨(x1965, x1966, l1967), (Option.some.inj hm).symm, ⟨A1971, c1972, hs1973, rfl, (hle1811.trans (hle1829.trans (hle1838.trans (hle1881.trans (hle1941.trans (hle1960.trans hle1970)))))), h1974, h1975⟩⟩
               ·
                rw [if_neg (fun hh => Bool.noConfusion (hh.symm.trans hc1964))] at hm
                refine c_skip ?_
                refine x_then_normal ?_
                obtain ⟨l2000, hj2002, hk2002⟩ := bindS hm
                refine c_join (fun b1993 e' hp' => ∃ (A1997 : Option Addr), ∃ (c1998 : Nat), ∃ (hs1996 : Hp), [(4, .pointer (some ⟨g1357, 0, none⟩))] = e' ∧ (g1357, Cl 136 [.pointer (some ⟨g11, 0, none⟩)]) :: (g1358, Cl 3 [.int .i64 (x12)]) :: (g1359, Cl 29 [.slice A3 (l36).length c4]) :: (g1385, Cl 3 [.int .i64 (x1386)]) :: (g11, Cl 138 [.slice A14 (l17).length c15, .slice A18 (l21).length c19, .slice A22 (l25).length c23, .slice A26 (l29).length c27, .slice A30 (l33).length c31, .slice A1997 (l2000).length c1998, .int .i64 (x1817), .bool (x1818)]) :: (l1826, Lb r1825) :: (hs2 ++ (hs1996 ++ R)) = hp' ∧ b1959.Le b1993 ∧ OS 72 (OT.fr rApiRoute) b1993.w (.slice A1997 l2000.length c1998) l2000 hs1996 ∧ (A1997 = none ↔ l2000 = [])) ?_ ?_
                ·
                 have hm := hj2002
                 refine c_frz [_, _, _, _, _, _, _] hs1883 (hs2 ++ (hs1813 ++ R)) rfl ?_
                 intro b2004 hle2005 hz2006
                 have h2007 := OS.frz (l := l1887) (h1886.le (hle1941.trans hle1960)) hle2005.cells hz2006
                 obtain ⟨_, h2015, hm⟩ := bindS hm
                 refine D_drawS ((g1357, Cl 136 [.pointer (some ⟨g11, 0, none⟩)]) :: (g1358, Cl 3 [.int .i64 (x12)]) :: (g1921, Cl 77 [.int .i64 (x1827.Section), .int .i64 (x1827.Out)]) :: (g1359, Cl 29 [.slice A3 (l36).length c4]) :: (g1385, Cl 3 [.int .i64 (x1386)]) :: (l1826, Lb r1825) :: (hs2 ++ R)) mixed ?_
                 refine E_in (.cons_cons _ (.cons_cons _ (.cons_cons _ (.cons_cons _ (.cons_cons _ (.cons _ (.cons_cons _ (sub_app hs2 (sub_skip hs1813 (.refl _)))))))))) ?_
                 refine E_st 0 rfl (st_load 0 rfl one136 rfl rfl) ?_
                 refine E_st 1 rfl (st_load 0 rfl one136 rfl rfl) ?_
                 refine E_st 2 rfl (st_nil rfl) ?_
                 refine E_st 3 rfl (st_field rfl fld138_1) ?_
                 refine E_st 5 rfl (st_load 1 rfl one3 rfl rfl) ?_
                 refine E_st 6 rfl (st_move rfl) ?_
                 refine E_st 7 rfl (st_move rfl) ?_
                 refine E_st 8 rfl (st_build (v := .agg #[.int .i64 (x12), .int .i64 (x1924), .slice A1884 (l1887).length c1885]) [(0, .int .i64 (x12)), (1, .int .i64 (x1924)), (2, .slice A1884 (l1887).length c1885)] rfl (fun _ => by kernel_rfl)) ?_
                 refine E_out ?_
                 refine D_all [4, 9] (by kernel_rfl) rfl ?_
                 refine R_do (Base.Le.refl _) rfl rfl (Stable.does (st_load 5 rfl one68 rfl rfl)) ?_ ?_
                 ·
                  rintro _ _ ⟨rfl, rfl⟩
                  refine ⟨.inr (.cons_cons _ (.cons_cons _ (.cons_cons _ (.cons_cons _ (.cons_cons _ (.cons _ (.cons_cons _ (sub_app hs2 (sub_skip hs1813 (.refl _)))))))))), ?_⟩
                  refine D_all [9] (by kernel_rfl) rfl ?_
                  refine R_do (Base.Le.refl _) rfl rfl (u_bslice (el := 72) [(0, .agg #[.int .i64 (x12), .int .i64 (x1924), .slice A1884 (l1887).length c1885])] [.int .i64 (x12), .int .i64 (x1924), .slice A1884 (l1887).length c1885] rfl (fun _ => by kernel_rfl)) ?_ ?_
                  ·
                   rintro _ _ ⟨g2014, rfl, rfl⟩
                   refine ⟨.inr (.cons _ (.cons_cons _ (.cons_cons _ (.cons_cons _ (.cons_cons _ (.cons_cons _ (.cons _ (.cons_cons _ (sub_app hs2 (sub_skip hs1813 (.refl _))))))))))), ?_⟩
                   have h2015 := room_some h2015
                   refine d_front2 [_, _, _, _, _, _, _, _] hs2 hs1813 R rfl ?_
                   refine D_all [10] (by kernel_rfl) rfl ?_
                   refine R_do (Base.Le.refl _) rfl rfl (u_appOS (r := rApiRoute) (l := l1819) [_, _, _, _, _, _, _, _] (hs2 ++ R) [[.int .i64 (x12), .int .i64 (x1924), .slice A1884 (l1887).length c1885]] [(⟨x12, x1924, l1887⟩ : ApiRoute)] rfl (by decide) sl68 inf72 rfl rfl rfl rfl (h1816.le (hle1829.trans (hle1838.trans (hle1881.trans (hle1941.trans (hle1960.trans hle2005)))))) rfl (fun w ho => Rd.own (i := 0) ho rfl) ⟨⟨[.int .i64 (x12)], _, rfl, rfl, ⟨[.int .i64 (x1924)], _, rfl, rfl, (RT.list_mk h2007)⟩⟩, trivial⟩ h2015) ?_ ?_
                   ·
                    rintro _ _ ⟨hs2016, rfl, h2017⟩
                    obtain ⟨A2018, c2019, rfl, _⟩ := h2017.form
                    refine ⟨.inr (.cons _ (.cons_cons _ (.cons_cons _ (.cons_cons _ (.cons_cons _ (.cons_cons _ (.cons _ (.cons_cons _ (sub_skip hs2016 (sub_app hs2 (.refl _))))))))))), ?_⟩
                    refine E_in (.cons _ (.cons_cons _ (.cons_cons _ (.cons_cons _ (.cons_cons _ (.cons_cons _ (.cons _ (.cons_cons _ (sub_skip hs2016 (sub_app hs2 (.refl _))))))))))) ?_
                    refine E_st 11 rfl (st_nil rfl) ?_
                    refine E_st 12 rfl (st_field rfl fld138_1) ?_
                    refine E_out ?_
                    refine D_all [13] (by kernel_rfl) rfl ?_
                    refine R_do (Base.Le.refl _) rfl rfl (u_store 6 rfl rfl siz68 rfl rfl (by simp)) ?_ ?_
                    ·
                     rintro _ _ rfl
                     refine ⟨.inr (.cons _ (.cons_cons _ (.cons_cons _ (.cons_cons _ (.cons_cons _ (.cons_cons _ (.cons _ (.cons_cons _ (sub_skip hs2016 (sub_app hs2 (.refl _))))))))))), ?_⟩
                     refine D_done (by kernel_rfl) ?_
                     obtain rfl := some1 hm
                     refine x_pullb 7 rfl ?_
                     refine x_pullb 7 rfl ?_
                     refine x_pullb 7 rfl ?_
                     refine x_pullb 7 rfl ?_
                     refine x_pullb 6 rfl ?_
                     refine x_pullb 6 rfl ?_
                     refine x_front2 [_, _, _, _, _, _, _, _] hs2016 hs2 R rfl ?_
                     exact x_join (e' := [(4, .pointer (some ⟨g1357, 0, none⟩))]) (hp' := (g1357, Cl 136 [.pointer (some ⟨g11, 0, none⟩)]) :: (g1358, Cl 3 [.int .i64 (x12)]) :: (g1359, Cl 29 [.slice A3 (l36).length c4]) :: (g1385, Cl 3 [.int .i64 (x1386)]) :: (g11, Cl 138 [.slice A14 (l17).length c15, .slice A18 (l21).length c19, .slice A22 (l25).length c23, .slice A26 (l29).length c27, .slice A30 (l33).length c31, .slice A2018 (l1819 ++ [(⟨x12, x1924, l1887⟩ : ApiRoute)]).length c2019, .int .i64 (x1817), .bool (x1818)]) :: (l1826, Lb r1825) :: (hs2 ++ (hs2016 ++ R))) ⟨rfl, trivial⟩ (.cons_cons _ (.cons_cons _ (.cons_cons _ (.cons_cons _ (.cons_cons _ (.cons_cons _ (.cons _ (.cons _ (sub_app hs2 (sub_app hs2016 (.refl _))))))))))) ⟨A2018, c2019, hs2016, rfl, rfl, hle2005, h2017, (OS.nz h2017 (by simp))⟩
                    exact R_nil
                   exact R_nil
                  exact R_nil
                 refine R_do (Base.Le.refl _) rfl rfl (u_bslice (el := 72) [(0, .agg #[.int .i64 (x12), .int .i64 (x1924), .slice A1884 (l1887).length c1885])] [.int .i64 (x12), .int .i64 (x1924), .slice A1884 (l1887).length c1885] rfl (fun _ => by kernel_rfl)) ?_ ?_
                 ·
                  rintro _ _ ⟨g2014, rfl, rfl⟩
                  refine ⟨.inr (.cons _ (.cons_cons _ (.cons_cons _ (.cons_cons _ (.cons_cons _ (.cons_cons _ (.cons _ (.cons_cons _ (sub_app hs2 (sub_skip hs1813 (.refl _))))))))))), ?_⟩
                  refine D_all [4] (by kernel_rfl) rfl ?_
                  refine R_do (Base.Le.refl _) rfl rfl (Stable.does (st_load 6 rfl one68 rfl rfl)) ?_ ?_
                  ·
                   rintro _ _ ⟨rfl, rfl⟩
                   refine ⟨.inr (.cons _ (.cons_cons _ (.cons_cons _ (.cons_cons _ (.cons_cons _ (.cons_cons _ (.cons _ (.cons_cons _ (sub_app hs2 (sub_skip hs1813 (.refl _))))))))))), ?_⟩
                   have h2015 := room_some h2015
                   refine d_front2 [_, _, _, _, _, _, _, _] hs2 hs1813 R rfl ?_
                   refine D_all [10] (by kernel_rfl) rfl ?_
                   refine R_do (Base.Le.refl _) rfl rfl (u_appOS (r := rApiRoute) (l := l1819) [_, _, _, _, _, _, _, _] (hs2 ++ R) [[.int .i64 (x12), .int .i64 (x1924), .slice A1884 (l1887).length c1885]] [(⟨x12, x1924, l1887⟩ : ApiRoute)] rfl (by decide) sl68 inf72 rfl rfl rfl rfl (h1816.le (hle1829.trans (hle1838.trans (hle1881.trans (hle1941.trans (hle1960.trans hle2005)))))) rfl (fun w ho => Rd.own (i := 0) ho rfl) ⟨⟨[.int .i64 (x12)], _, rfl, rfl, ⟨[.int .i64 (x1924)], _, rfl, rfl, (RT.list_mk h2007)⟩⟩, trivial⟩ h2015) ?_ ?_
                   ·
                    rintro _ _ ⟨hs2016, rfl, h2017⟩
                    obtain ⟨A2018, c2019, rfl, _⟩ := h2017.form
                    refine ⟨.inr (.cons _ (.cons_cons _ (.cons_cons _ (.cons_cons _ (.cons_cons _ (.cons_cons _ (.cons _ (.cons_cons _ (sub_skip hs2016 (sub_app hs2 (.refl _))))))))))), ?_⟩
                    refine E_in (.cons _ (.cons_cons _ (.cons_cons _ (.cons_cons _ (.cons_cons _ (.cons_cons _ (.cons _ (.cons_cons _ (sub_skip hs2016 (sub_app hs2 (.refl _))))))))))) ?_
                    refine E_st 11 rfl (st_nil rfl) ?_
                    refine E_st 12 rfl (st_field rfl fld138_1) ?_
                    refine E_out ?_
                    refine D_all [13] (by kernel_rfl) rfl ?_
                    refine R_do (Base.Le.refl _) rfl rfl (u_store 6 rfl rfl siz68 rfl rfl (by simp)) ?_ ?_
                    ·
                     rintro _ _ rfl
                     refine ⟨.inr (.cons _ (.cons_cons _ (.cons_cons _ (.cons_cons _ (.cons_cons _ (.cons_cons _ (.cons _ (.cons_cons _ (sub_skip hs2016 (sub_app hs2 (.refl _))))))))))), ?_⟩
                     refine D_done (by kernel_rfl) ?_
                     obtain rfl := some1 hm
                     refine x_pullb 7 rfl ?_
                     refine x_pullb 7 rfl ?_
                     refine x_pullb 7 rfl ?_
                     refine x_pullb 7 rfl ?_
                     refine x_pullb 6 rfl ?_
                     refine x_pullb 6 rfl ?_
                     refine x_front2 [_, _, _, _, _, _, _, _] hs2016 hs2 R rfl ?_
                     exact x_join (e' := [(4, .pointer (some ⟨g1357, 0, none⟩))]) (hp' := (g1357, Cl 136 [.pointer (some ⟨g11, 0, none⟩)]) :: (g1358, Cl 3 [.int .i64 (x12)]) :: (g1359, Cl 29 [.slice A3 (l36).length c4]) :: (g1385, Cl 3 [.int .i64 (x1386)]) :: (g11, Cl 138 [.slice A14 (l17).length c15, .slice A18 (l21).length c19, .slice A22 (l25).length c23, .slice A26 (l29).length c27, .slice A30 (l33).length c31, .slice A2018 (l1819 ++ [(⟨x12, x1924, l1887⟩ : ApiRoute)]).length c2019, .int .i64 (x1817), .bool (x1818)]) :: (l1826, Lb r1825) :: (hs2 ++ (hs2016 ++ R))) ⟨rfl, trivial⟩ (.cons_cons _ (.cons_cons _ (.cons_cons _ (.cons_cons _ (.cons_cons _ (.cons_cons _ (.cons _ (.cons _ (sub_app hs2 (sub_app hs2016 (.refl _))))))))))) ⟨A2018, c2019, hs2016, rfl, rfl, hle2005, h2017, (OS.nz h2017 (by simp))⟩
                    exact R_nil
                   exact R_nil
                  exact R_nil
                 exact R_nil
                ·
                 rintro b1993 _ _ ⟨A1997, c1998, hs1996, rfl, rfl, hle1994, h1999, hnz2001⟩
                 have hm := hk2002
                 refine c_region ?_
                 refine t_st rfl (st_load 0 rfl one136 rfl rfl) ?_
                 obtain ⟨⟨x2020, x2021⟩, hcl2022, hm⟩ := bindS hm
                 have hm := (unc2E hm)
                 refine t_pullb 4 rfl ?_
                 refine t_front2 [_, _, _, _, _, _] hs2 hs1996 R rfl ?_
                 refine t_out1 [_] [_, _, _, _, _] hs1996 (hs2 ++ R) rfl ?_
                 refine t_callG _ rfl call75 rfl (cLineFinderCount _ _ l17 l21 l25 l29 l33 x1817 x1818 l2000 g11 A14 c15 A18 c19 A22 c23 A26 c27 A30 c31 A1997 c1998 hs1996 (h16.le (hle1384.trans (hle1419.trans (hle1811.trans (hle1829.trans (hle1838.trans (hle1881.trans (hle1941.trans (hle1960.trans hle1994))))))))) (h20.le (hle1384.trans (hle1419.trans (hle1811.trans (hle1829.trans (hle1838.trans (hle1881.trans (hle1941.trans (hle1960.trans hle1994))))))))) (h24.le (hle1384.trans (hle1419.trans (hle1811.trans (hle1829.trans (hle1838.trans (hle1881.trans (hle1941.trans (hle1960.trans hle1994))))))))) (h28.le (hle1384.trans (hle1419.trans (hle1811.trans (hle1829.trans (hle1838.trans (hle1881.trans (hle1941.trans (hle1960.trans hle1994))))))))) (h32.le (hle1384.trans (hle1419.trans (hle1811.trans (hle1829.trans (hle1838.trans (hle1881.trans (hle1941.trans (hle1960.trans hle1994))))))))) h1999 hnz2001 x2020 x2021 hcl2022) ?_
                 rintro _ b2023 _ hle2024 ⟨rfl, rfl⟩
                 refine t_in1 [_] [_, _, _, _, _] hs1996 (hs2 ++ R) rfl ?_
                 refine t_nil ?_
                 refine x_block_normal ?_
                 refine x_pullb 4 rfl ?_
                 refine x_pullb 4 rfl ?_
                 refine x_pullb 4 rfl ?_
                 refine x_pullb 4 rfl ?_
                 refine x_front2 [_, _, _, _, _, _] hs1996 hs2 R rfl ?_
                 exact x_round 5 rfl (hle1838.trans (hle1881.trans (hle1941.trans (hle1960.trans (hle1994.trans hle2024))))) (hp' := (g1357, Cl 136 [.pointer (some ⟨g11, 0, none⟩)]) :: (g1358, Cl 3 [.int .i64 (x12)]) :: (g1359, Cl 29 [.slice A3 (l36).length c4]) :: (g1385, Cl 3 [.int .i64 (x1386)]) :: (g11, Cl 138 [.slice A14 (l17).length c15, .slice A18 (l21).length c19, .slice A22 (l25).length c23, .slice A26 (l29).length c27, .slice A30 (l33).length c31, .slice A1997 (l2000).length c1998, .int .i64 (x2020), .bool (x2021)]) :: (hs2 ++ (hs1996 ++ R))) (.cons_cons _ (.cons_cons _ (.cons_cons _ (.cons_cons _ (.cons_cons _ (sub_app hs2 (sub_app hs1996 (.refl _)))))))) ⟨(x2020, x2021, l2000), (Option.some.inj hm).symm, ⟨A1997, c1998, hs1996, rfl, (hle1811.trans (hle1829.trans (hle1838.trans (hle1881.trans (hle1941.trans (hle1960.trans (hle1994.trans hle2024))))))), (h1999.le hle2024), hnz2001⟩⟩
            exact R_nil
      ·
       rintro ⟨x1817, x1818, l1819⟩ b1810 _ ⟨A1814, c1815, hs1813, rfl, hle1811, h1816, hnz1820⟩ hq2025
       rw [hq2025] at hk1823
       have hm := elimL hk1823
       have hm := (unc3E hm)
       refine x_block_normal ?_
       obtain ⟨rfl, rfl, rfl⟩ := some3 hm
       refine x_pullb 4 rfl ?_
       refine x_front2 [_, _, _, _, _] hs2 hs1813 R rfl ?_
       refine x_front2 [_, _, _, _, _] hs1813 hs2 R rfl ?_
       exact endM (hle1384.trans (hle1419.trans hle1811)) rfl (.cons_cons _ (.cons _ (.cons _ (.cons _ (.cons _ (sub_app hs2 (sub_app hs1813 (.refl _)))))))) ⟨A1814, c1815, hs1813, rfl, rfl, h1816, hnz1820⟩
     exact R_nil

end Go.Proofs.YtcibjjhanafojaaDoor
