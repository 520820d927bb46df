/- Contracts: the code computes its model (part 6). -/
import Derived.Test.YtakehdnblmonlaaCP5
set_option linter.unusedVariables false
set_option linter.unusedSimpArgs false
namespace Go.Proofs.Ytakehdnblmonlaa
open Go.RowKit Go.Fp

set_option maxRecDepth 20000 in
theorem cSlicesIndexFunc (b : Base) (R : Hp) (l5 : (List (List Int))) (l9 : (List (List Int))) (g1 : Nat) (A2 : Option Addr) (c3 : Nat) (A6 : Option Addr) (c7 : Nat) (h4 : FZ (RT.list (RT.int .i64)) b.w A2 c3 l5) (h8 : FZ (RT.list (RT.int .i64)) b.w A6 c7 l9) (x56 : Int) (hm : mSlicesIndexFunc l5 l9 = some x56) :
    CallsG Try.prog 56 [.slice A2 (l5).length c3, .func (.func 43) #[] #[.pointer (some ⟨g1, 0, none⟩)]] b ((g1, Cl 45 [.slice A6 (l9).length c7]) :: R) (fun v b' hp' => .int .i64 (x56) = v ∧ (g1, Cl 45 [.slice A6 (l9).length c7]) :: R = hp') := by
  refine fn_enterG 19 Try.func56 rfl Try.ntmps56 rfl ?_
  unfold mSlicesIndexFunc at hm
  refine c_seq ?_
  refine c_region ?_
  refine t_st rfl (st_assign rfl) ?_
  refine t_nil ?_
  refine x_then_normal ?_
  refine c_seq ?_
  refine c_seq ?_
  refine c_region ?_
  refine t_st rfl (st_move rfl) ?_
  refine t_st rfl (st_len rfl sl45) ?_
  refine t_st rfl (st_move rfl) ?_
  refine t_nil ?_
  refine x_then_normal ?_
  refine c_block ?_
  have hb58 := (FZ.bd h4)
  obtain ⟨t80, hl81, hk82⟩ := bindS hm
  refine c_forM (fun k79 => fun _ => fun b77 e' hp' => [(0, .slice A2 (l5).length c3), (1, .func (.func 43) #[] #[.pointer (some ⟨g1, 0, none⟩)]), (7, .int .i64 ((l5.length : Int))), (8, .int .i64 ((k79 : Int)))] = e' ∧ (g1, Cl 45 [.slice A6 (l9).length c7]) :: R = hp' ∧ b.Le b77) hl81 (e' := [(0, .slice A2 (l5).length c3), (1, .func (.func 43) #[] #[.pointer (some ⟨g1, 0, none⟩)]), (7, .int .i64 ((l5.length : Int))), (8, .int .i64 0)]) (hp' := (g1, Cl 45 [.slice A6 (l9).length c7]) :: R) ⟨rfl, rfl, rfl, rfl, trivial⟩ (.cons_cons _ (.refl _)) ⟨rfl, rfl, (Base.Le.refl _)⟩ ?_ ?_
  ·
    rintro k79 _ b77 _ _ oL57 hknL57 ⟨rfl, rfl, hle78⟩ hstepL57 houtL57
    unfold mSlicesIndexFunc_L57 at hstepL57
    have hm := hstepL57
    refine c_seq ?_
    refine c_region ?_
    refine t_st rfl (st_lss_t rfl rfl (by omega)) ?_
    refine t_nil ?_
    refine x_then_normal ?_
    refine c_seq ?_
    refine c_cond_t rfl ?_
    refine c_skip ?_
    refine x_then_normal ?_
    refine c_seq ?_
    refine c_block ?_
    refine c_seq ?_
    refine c_region ?_
    refine t_st rfl (st_move rfl) ?_
    refine t_st rfl (st_assign rfl) ?_
    refine t_nil ?_
    refine x_then_normal ?_
    refine c_seq ?_
    refine c_region ?_
    refine t_st rfl (st_move rfl) ?_
    refine t_st rfl (st_move rfl) ?_
    refine t_st rfl (st_move rfl) ?_
    obtain ⟨x83, h84, hm⟩ := bindS hm
    obtain ⟨j85, hj86, hx87⟩ := idx_some h84
    obtain ⟨cs88, hr89, hcs90, hA91, hlt92⟩ := FZ.get (sz := 1) rfl (by decide) (h4.le hle78) hx87
    obtain ⟨A93, c94, rfl, h95⟩ := hr89
    refine t_st rfl (st_index_old j85 rfl rfl hj86 hlt92 hA91 sl45) ?_
    refine t_st rfl (st_load_old rfl one22 (hcs90 0 _ rfl)) ?_
    obtain ⟨x96, hcl97, hm⟩ := bindS hm
    refine t_callvG #[] #[.pointer (some ⟨g1, 0, none⟩)] [.slice A93 (x83).length c94] rfl rfl call43 rfl (cMendClosure_1 _ _ x83 l9 g1 A93 c94 A6 c7 h95 (h8.le hle78) x96 hcl97) ?_
    rintro _ b98 _ hle99 ⟨rfl, rfl⟩
    refine t_nil ?_
    refine x_then_normal ?_
    refine c_cond _ rfl (fun hc100 => ?_) (fun hc100 => ?_)
    ·
      rw [if_pos hc100] at hm
      refine c_seq ?_
      refine c_region ?_
      refine t_st rfl (st_move rfl) ?_
      refine t_st rfl (st_assign rfl) ?_
      refine t_nil ?_
      refine x_then_normal ?_
      refine c_ret ?_
      refine x_block_ret ?_
      refine x_then_ret ?_
      refine x_then_ret ?_
      refine x_block_ret ?_
      refine x_then_ret ?_
      have hq101 := houtL57 _ (Option.some.inj hm).symm
      rw [hq101] at hk82
      have hm := elimR hk82
      obtain rfl := some1 hm
      exact retM (rs := [.tmp 4]) [.int .i64 ((k79 : Int))] (hle78.trans hle99) (by decide) rfl ⟨rfl, trivial⟩ rfl (hp' := (g1, Cl 45 [.slice A6 (l9).length c7]) :: R) (.cons_cons _ (.refl _)) ⟨rfl, rfl⟩
    ·
      rw [if_neg (fun hh => Bool.noConfusion (hh.symm.trans hc100))] at hm
      refine c_skip ?_
      refine x_block_normal ?_
      refine x_then_normal ?_
      refine c_region ?_
      refine t_st rfl (st_add rfl rfl (by omega)) ?_
      refine t_st rfl (st_move rfl) ?_
      refine t_nil ?_
      exact x_againM () (Option.some.inj hm).symm (e' := [(0, .slice A2 (l5).length c3), (1, .func (.func 43) #[] #[.pointer (some ⟨g1, 0, none⟩)]), (7, .int .i64 ((l5.length : Int))), (8, .int .i64 ((k79 : Int) + 1))]) (hp' := (g1, Cl 45 [.slice A6 (l9).length c7]) :: R) ⟨rfl, rfl, rfl, rfl, trivial⟩ (.cons_cons _ (.refl _)) ⟨rfl, rfl, ((hle78.trans hle99))⟩
  ·
    rintro _ b77 _ _ ⟨rfl, rfl, hle78⟩ hq102
    rw [hq102] at hk82
    have hm := elimL hk82
    refine c_seq ?_
    refine c_region ?_
    refine t_st rfl (st_lss_f rfl rfl (by omega)) ?_
    refine t_nil ?_
    refine x_then_normal ?_
    refine c_seq ?_
    refine c_cond_f rfl ?_
    refine c_exit ?_
    refine x_then_exit ?_
    refine x_then_exit ?_
    refine x_block_out ?_
    refine x_then_normal ?_
    refine c_seq ?_
    refine c_region ?_
    refine t_st rfl (st_assign rfl) ?_
    refine t_nil ?_
    refine x_then_normal ?_
    refine c_ret ?_
    obtain rfl := some1 hm
    exact retM (rs := [.tmp 4]) [.int .i64 ((-1))] hle78 (by decide) rfl ⟨rfl, trivial⟩ rfl (hp' := (g1, Cl 45 [.slice A6 (l9).length c7]) :: R) (.cons_cons _ (.refl _)) ⟨rfl, rfl⟩

set_option maxRecDepth 20000 in
theorem cSlicesContainsFunc (b : Base) (R : Hp) (l5 : (List (List Int))) (l9 : (List (List Int))) (g1 : Nat) (A2 : Option Addr) (c3 : Nat) (A6 : Option Addr) (c7 : Nat) (h4 : FZ (RT.list (RT.int .i64)) b.w A2 c3 l5) (h8 : FZ (RT.list (RT.int .i64)) b.w A6 c7 l9) (x14 : Bool) (hm : mSlicesContainsFunc l5 l9 = some x14) :
    CallsG Try.prog 29 [.slice A2 (l5).length c3, .func (.func 43) #[] #[.pointer (some ⟨g1, 0, none⟩)]] b ((g1, Cl 45 [.slice A6 (l9).length c7]) :: R) (fun v b' hp' => .bool (x14) = v ∧ (g1, Cl 45 [.slice A6 (l9).length c7]) :: R = hp') := by
  refine fn_enterG 9 Try.func29 rfl Try.ntmps29 rfl ?_
  unfold mSlicesContainsFunc at hm
  refine c_seq ?_
  refine c_region ?_
  refine t_st rfl (st_assign rfl) ?_
  refine t_nil ?_
  refine x_then_normal ?_
  refine c_seq ?_
  refine c_region ?_
  refine t_st rfl (st_move rfl) ?_
  refine t_st rfl (st_move rfl) ?_
  obtain ⟨x15, hcl16, hm⟩ := bindS hm
  refine t_callG _ rfl call56 rfl (cSlicesIndexFunc _ _ l5 l9 g1 A2 c3 A6 c7 h4 h8 x15 hcl16) ?_
  rintro _ b17 _ hle18 ⟨rfl, rfl⟩
  refine t_st rfl (st_geq rfl rfl) ?_
  refine t_st rfl (st_assign rfl) ?_
  refine t_nil ?_
  refine x_then_normal ?_
  refine c_ret ?_
  obtain rfl := some1 hm
  exact retM (rs := [.tmp 4]) [.bool (decide (0 ≤ x15))] hle18 (by decide) rfl ⟨rfl, trivial⟩ rfl (hp' := (g1, Cl 45 [.slice A6 (l9).length c7]) :: R) (.cons_cons _ (.refl _)) ⟨rfl, rfl⟩

set_option maxRecDepth 20000 in
theorem cMendCheckTable_1 (b : Base) (R : Hp) (x1 : Int) (x12 : Bool) (hm : mMendCheckTable_1 x1 = some x12) :
    CallsG Try.prog 64 [.int .i64 (x1)] b (R) (fun v b' hp' => .bool (x12) = v ∧ R = hp') := by
  refine fn_enterG 10 Try.func64 rfl Try.ntmps64 rfl ?_
  unfold mMendCheckTable_1 at hm
  refine c_seq ?_
  refine c_region ?_
  refine t_st rfl (st_assign rfl) ?_
  refine t_nil ?_
  refine x_then_normal ?_
  obtain ⟨x18, hj19, hk19⟩ := bindS hm
  refine c_join (fun b16 e' hp' => [(2, .bool (x18))] = e' ∧ R = hp' ∧ b.Le b16) ?_ ?_
  ·
    have hm := hj19
    refine c_region ?_
    refine t_st rfl (st_move rfl) ?_
    refine t_bool rfl (st_neq rfl rfl) (fun hc20 => ?_) (fun hc20 => ?_)
    ·
      rw [if_pos hc20] at hm
      refine t_st rfl (st_move rfl) ?_
      refine t_yes 5 rfl rfl rfl ?_
      refine t_st rfl (st_move rfl) ?_
      refine t_yes 5 rfl rfl rfl ?_
      obtain ⟨x21, hcl22, hm⟩ := bindS hm
      refine t_do rfl (u_callW0 _ call37 rfl (fun w ho => cMendWithin _ [] x1 (-1099511627776) 1099511627776 x21 hcl22) (fun _ _ _ h => h.2.symm)) ?_
      rintro _ _ ⟨⟨_, rfl, _⟩, rfl⟩
      refine t_yes 5 rfl rfl rfl ?_
      refine t_st rfl (st_not rfl) ?_
      refine t_st rfl (st_pick_t rfl rfl) ?_
      refine t_st rfl (st_assign rfl) ?_
      refine t_nil ?_
      obtain rfl := some1 hm
      exact x_join (e' := [(2, .bool (!x21))]) (hp' := R) ⟨rfl, trivial⟩ (.refl _) ⟨rfl, rfl, (Base.Le.refl _)⟩
    ·
      rw [if_neg hc20] at hm
      refine t_st rfl (st_move rfl) ?_
      refine t_no 5 rfl rfl rfl rfl rfl ?_
      refine t_no 5 rfl rfl rfl rfl rfl ?_
      refine t_no 5 rfl rfl rfl rfl rfl ?_
      refine t_st rfl (st_pick_f rfl rfl) ?_
      refine t_st rfl (st_assign rfl) ?_
      refine t_nil ?_
      obtain rfl := some1 hm
      exact x_join (e' := [(2, .bool (false))]) (hp' := R) ⟨rfl, trivial⟩ (.refl _) ⟨rfl, rfl, (Base.Le.refl _)⟩
  ·
    rintro b16 _ _ ⟨rfl, rfl, hle17⟩
    have hm := hk19
    refine c_ret ?_
    obtain rfl := some1 hm
    exact retM (rs := [.tmp 2]) [.bool (x18)] hle17 (by decide) rfl ⟨rfl, trivial⟩ rfl (hp' := R) (.refl _) ⟨rfl, rfl⟩

set_option maxRecDepth 20000 in
theorem cSlicesIndexFunc_2 (b : Base) (R : Hp) (l4 : (List Int)) (A1 : Option Addr) (c2 : Nat) (h3 : FZ (RT.int .i64) b.w A1 c2 l4) (x41 : Int) (hm : mSlicesIndexFunc_2 l4 = some x41) :
    CallsG Try.prog 69 [.slice A1 (l4).length c2, .func (.func 64) #[] #[]] b (R) (fun v b' hp' => .int .i64 (x41) = v ∧ R = hp') := by
  refine fn_enterG 19 Try.func69 rfl Try.ntmps69 rfl ?_
  unfold mSlicesIndexFunc_2 at hm
  refine c_seq ?_
  refine c_region ?_
  refine t_st rfl (st_assign rfl) ?_
  refine t_nil ?_
  refine x_then_normal ?_
  refine c_seq ?_
  refine c_seq ?_
  refine c_region ?_
  refine t_st rfl (st_move rfl) ?_
  refine t_st rfl (st_len rfl sl22) ?_
  refine t_st rfl (st_move rfl) ?_
  refine t_nil ?_
  refine x_then_normal ?_
  refine c_block ?_
  have hb43 := (FZ.bd h3)
  obtain ⟨t60, hl61, hk62⟩ := bindS hm
  refine c_forM (fun k59 => fun _ => fun b57 e' hp' => [(0, .slice A1 (l4).length c2), (1, .func (.func 64) #[] #[]), (7, .int .i64 ((l4.length : Int))), (8, .int .i64 ((k59 : Int)))] = e' ∧ R = hp' ∧ b.Le b57) hl61 (e' := [(0, .slice A1 (l4).length c2), (1, .func (.func 64) #[] #[]), (7, .int .i64 ((l4.length : Int))), (8, .int .i64 0)]) (hp' := R) ⟨rfl, rfl, rfl, rfl, trivial⟩ (.refl _) ⟨rfl, rfl, (Base.Le.refl _)⟩ ?_ ?_
  ·
    rintro k59 _ b57 _ _ oL42 hknL42 ⟨rfl, rfl, hle58⟩ hstepL42 houtL42
    unfold mSlicesIndexFunc_2_L42 at hstepL42
    have hm := hstepL42
    refine c_seq ?_
    refine c_region ?_
    refine t_st rfl (st_lss_t rfl rfl (by omega)) ?_
    refine t_nil ?_
    refine x_then_normal ?_
    refine c_seq ?_
    refine c_cond_t rfl ?_
    refine c_skip ?_
    refine x_then_normal ?_
    refine c_seq ?_
    refine c_block ?_
    refine c_seq ?_
    refine c_region ?_
    refine t_st rfl (st_move rfl) ?_
    refine t_st rfl (st_assign rfl) ?_
    refine t_nil ?_
    refine x_then_normal ?_
    refine c_seq ?_
    refine c_region ?_
    refine t_st rfl (st_move rfl) ?_
    refine t_st rfl (st_move rfl) ?_
    refine t_st rfl (st_move rfl) ?_
    obtain ⟨x63, h64, hm⟩ := bindS hm
    obtain ⟨j65, hj66, hx67⟩ := idx_some h64
    obtain ⟨cs68, hr69, hcs70, hA71, hlt72⟩ := FZ.get (sz := 1) rfl (by decide) (h3.le hle58) hx67
    obtain rfl := hr69
    refine t_st rfl (st_index_old j65 rfl rfl hj66 hlt72 hA71 sl22) ?_
    refine t_st rfl (st_load_old rfl one3 (hcs70 0 _ rfl)) ?_
    obtain ⟨x73, hcl74, hm⟩ := bindS hm
    refine t_do rfl (u_callvW0 #[] #[] [.int .i64 (x63)] rfl call64 rfl (fun w ho => cMendCheckTable_1 _ [] x63 x73 hcl74) (fun _ _ _ h => h.2.symm)) ?_
    rintro _ _ ⟨⟨_, rfl, _⟩, rfl⟩
    refine t_nil ?_
    refine x_then_normal ?_
    refine c_cond _ rfl (fun hc75 => ?_) (fun hc75 => ?_)
    ·
      rw [if_pos hc75] at hm
      refine c_seq ?_
      refine c_region ?_
      refine t_st rfl (st_move rfl) ?_
      refine t_st rfl (st_assign rfl) ?_
      refine t_nil ?_
      refine x_then_normal ?_
      refine c_ret ?_
      refine x_block_ret ?_
      refine x_then_ret ?_
      refine x_then_ret ?_
      refine x_block_ret ?_
      refine x_then_ret ?_
      have hq76 := houtL42 _ (Option.some.inj hm).symm
      rw [hq76] at hk62
      have hm := elimR hk62
      obtain rfl := some1 hm
      exact retM (rs := [.tmp 4]) [.int .i64 ((k59 : Int))] hle58 (by decide) rfl ⟨rfl, trivial⟩ rfl (hp' := R) (.refl _) ⟨rfl, rfl⟩
    ·
      rw [if_neg (fun hh => Bool.noConfusion (hh.symm.trans hc75))] at hm
      refine c_skip ?_
      refine x_block_normal ?_
      refine x_then_normal ?_
      refine c_region ?_
      refine t_st rfl (st_add rfl rfl (by omega)) ?_
      refine t_st rfl (st_move rfl) ?_
      refine t_nil ?_
      exact x_againM () (Option.some.inj hm).symm (e' := [(0, .slice A1 (l4).length c2), (1, .func (.func 64) #[] #[]), (7, .int .i64 ((l4.length : Int))), (8, .int .i64 ((k59 : Int) + 1))]) (hp' := R) ⟨rfl, rfl, rfl, rfl, trivial⟩ (.refl _) ⟨rfl, rfl, (hle58)⟩
  ·
    rintro _ b57 _ _ ⟨rfl, rfl, hle58⟩ hq77
    rw [hq77] at hk62
    have hm := elimL hk62
    refine c_seq ?_
    refine c_region ?_
    refine t_st rfl (st_lss_f rfl rfl (by omega)) ?_
    refine t_nil ?_
    refine x_then_normal ?_
    refine c_seq ?_
    refine c_cond_f rfl ?_
    refine c_exit ?_
    refine x_then_exit ?_
    refine x_then_exit ?_
    refine x_block_out ?_
    refine x_then_normal ?_
    refine c_seq ?_
    refine c_region ?_
    refine t_st rfl (st_assign rfl) ?_
    refine t_nil ?_
    refine x_then_normal ?_
    refine c_ret ?_
    obtain rfl := some1 hm
    exact retM (rs := [.tmp 4]) [.int .i64 ((-1))] hle58 (by decide) rfl ⟨rfl, trivial⟩ rfl (hp' := R) (.refl _) ⟨rfl, rfl⟩

set_option maxRecDepth 20000 in
theorem cSlicesContainsFunc_2 (b : Base) (R : Hp) (l4 : (List Int)) (A1 : Option Addr) (c2 : Nat) (h3 : FZ (RT.int .i64) b.w A1 c2 l4) (x7 : Bool) (hm : mSlicesContainsFunc_2 l4 = some x7) :
    CallsG Try.prog 63 [.slice A1 (l4).length c2, .func (.func 64) #[] #[]] b (R) (fun v b' hp' => .bool (x7) = v ∧ R = hp') := by
  refine fn_enterG 9 Try.func63 rfl Try.ntmps63 rfl ?_
  unfold mSlicesContainsFunc_2 at hm
  refine c_seq ?_
  refine c_region ?_
  refine t_st rfl (st_assign rfl) ?_
  refine t_nil ?_
  refine x_then_normal ?_
  refine c_seq ?_
  refine c_region ?_
  refine t_st rfl (st_move rfl) ?_
  refine t_st rfl (st_move rfl) ?_
  obtain ⟨x8, hcl9, hm⟩ := bindS hm
  refine t_do rfl (u_callW0 _ call69 rfl (fun w ho => cSlicesIndexFunc_2 _ [] l4 A1 c2 (h3.old ho) x8 hcl9) (fun _ _ _ h => h.2.symm)) ?_
  rintro _ _ ⟨⟨_, rfl, _⟩, rfl⟩
  refine t_st rfl (st_geq rfl rfl) ?_
  refine t_st rfl (st_assign rfl) ?_
  refine t_nil ?_
  refine x_then_normal ?_
  refine c_ret ?_
  obtain rfl := some1 hm
  exact retM (rs := [.tmp 4]) [.bool (decide (0 ≤ x8))] (Base.Le.refl _) (by decide) rfl ⟨rfl, trivial⟩ rfl (hp' := R) (.refl _) ⟨rfl, rfl⟩

set_option maxRecDepth 20000 in
theorem cMendCheckTable (b : Base) (R : Hp) (l4 : (List (List Int))) (A1 : Option Addr) (c2 : Nat) (h3 : FZ (RT.list (RT.int .i64)) b.w A1 c2 l4) (x47 : Int) (hm : mMendCheckTable l4 = some x47) :
    CallsG Try.prog 44 [.slice A1 (l4).length c2] b (R) (fun v b' hp' => .int .i64 (x47) = v ∧ R = hp') := by
  refine fn_enterG 14 Try.func44 rfl Try.ntmps44 rfl ?_
  unfold mMendCheckTable at hm
  refine c_seq ?_
  refine c_region ?_
  refine t_st rfl (st_assign rfl) ?_
  refine t_nil ?_
  refine x_then_normal ?_
  refine c_seq ?_
  refine c_seq ?_
  refine c_region ?_
  refine t_st rfl (st_move rfl) ?_
  refine t_st rfl (st_len rfl sl45) ?_
  refine t_st rfl (st_move rfl) ?_
  refine t_nil ?_
  refine x_then_normal ?_
  refine c_block ?_
  have hb49 := (FZ.bd h3)
  obtain ⟨t69, hl70, hk71⟩ := bindS hm
  refine c_forM (fun k68 => fun _ => fun b66 e' hp' => [(5, .slice A1 (l4).length c2), (6, .int .i64 ((l4.length : Int))), (7, .int .i64 ((k68 : Int)))] = e' ∧ R = hp' ∧ b.Le b66) hl70 (e' := [(5, .slice A1 (l4).length c2), (6, .int .i64 ((l4.length : Int))), (7, .int .i64 0)]) (hp' := R) ⟨rfl, rfl, rfl, trivial⟩ (.refl _) ⟨rfl, rfl, (Base.Le.refl _)⟩ ?_ ?_
  ·
    rintro k68 _ b66 _ _ oL48 hknL48 ⟨rfl, rfl, hle67⟩ hstepL48 houtL48
    unfold mMendCheckTable_L48 at hstepL48
    have hm := hstepL48
    refine c_seq ?_
    refine c_region ?_
    refine t_st rfl (st_lss_t rfl rfl (by omega)) ?_
    refine t_nil ?_
    refine x_then_normal ?_
    refine c_seq ?_
    refine c_cond_t rfl ?_
    refine c_skip ?_
    refine x_then_normal ?_
    refine c_seq ?_
    refine c_block ?_
    refine c_seq ?_
    refine c_region ?_
    obtain ⟨x72, h73, hm⟩ := bindS hm
    obtain ⟨j74, hj75, hx76⟩ := idx_some h73
    obtain ⟨cs77, hr78, hcs79, hA80, hlt81⟩ := FZ.get (sz := 1) rfl (by decide) (h3.le hle67) hx76
    obtain ⟨A82, c83, rfl, h84⟩ := hr78
    refine t_st rfl (st_index_old j74 rfl rfl hj75 hlt81 hA80 sl45) ?_
    refine t_st rfl (st_load_old rfl one22 (hcs79 0 _ rfl)) ?_
    refine t_st rfl (st_assign rfl) ?_
    refine t_nil ?_
    refine x_then_normal ?_
    refine c_seq ?_
    refine c_region ?_
    refine t_st rfl (st_move rfl) ?_
    obtain ⟨x85, hcl86, hm⟩ := bindS hm
    refine t_do rfl (u_callW0 _ call63 rfl (fun w ho => cSlicesContainsFunc_2 _ [] x72 A82 c83 (h84.old ho) x85 hcl86) (fun _ _ _ h => h.2.symm)) ?_
    rintro _ _ ⟨⟨_, rfl, _⟩, rfl⟩
    refine t_nil ?_
    refine x_then_normal ?_
    refine c_cond _ rfl (fun hc87 => ?_) (fun hc87 => ?_)
    ·
      rw [if_pos hc87] at hm
      refine c_seq ?_
      refine c_region ?_
      refine t_st rfl (st_assign rfl) ?_
      refine t_nil ?_
      refine x_then_normal ?_
      refine c_ret ?_
      refine x_block_ret ?_
      refine x_then_ret ?_
      refine x_then_ret ?_
      refine x_block_ret ?_
      refine x_then_ret ?_
      have hq88 := houtL48 _ (Option.some.inj hm).symm
      rw [hq88] at hk71
      have hm := elimR hk71
      obtain rfl := some1 hm
      exact retM (rs := [.tmp 2]) [.int .i64 (2)] hle67 (by decide) rfl ⟨rfl, trivial⟩ rfl (hp' := R) (.refl _) ⟨rfl, rfl⟩
    ·
      rw [if_neg (fun hh => Bool.noConfusion (hh.symm.trans hc87))] at hm
      refine c_skip ?_
      refine x_block_normal ?_
      refine x_then_normal ?_
      refine c_region ?_
      refine t_st rfl (st_add rfl rfl (by omega)) ?_
      refine t_st rfl (st_move rfl) ?_
      refine t_nil ?_
      exact x_againM () (Option.some.inj hm).symm (e' := [(5, .slice A1 (l4).length c2), (6, .int .i64 ((l4.length : Int))), (7, .int .i64 ((k68 : Int) + 1))]) (hp' := R) ⟨rfl, rfl, rfl, trivial⟩ (.refl _) ⟨rfl, rfl, (hle67)⟩
  ·
    rintro _ b66 _ _ ⟨rfl, rfl, hle67⟩ hq89
    rw [hq89] at hk71
    have hm := elimL hk71
    refine c_seq ?_
    refine c_region ?_
    refine t_st rfl (st_lss_f rfl rfl (by omega)) ?_
    refine t_nil ?_
    refine x_then_normal ?_
    refine c_seq ?_
    refine c_cond_f rfl ?_
    refine c_exit ?_
    refine x_then_exit ?_
    refine x_then_exit ?_
    refine x_block_out ?_
    refine x_then_normal ?_
    refine c_seq ?_
    refine c_region ?_
    refine t_st rfl (st_assign rfl) ?_
    refine t_nil ?_
    refine x_then_normal ?_
    refine c_ret ?_
    obtain rfl := some1 hm
    exact retM (rs := [.tmp 2]) [.int .i64 (0)] hle67 (by decide) rfl ⟨rfl, trivial⟩ rfl (hp' := R) (.refl _) ⟨rfl, rfl⟩

set_option maxRecDepth 20000 in
theorem cMendClosure (b : Base) (R : Hp) (l4 : (List (List Int))) (A1 : Option Addr) (c2 : Nat) (h3 : FZ (RT.list (RT.int .i64)) b.w A1 c2 l4) (x12653 : Int) (l12654 : (List (List Int))) (hm : mMendClosure l4 = some (x12653, l12654)) :
    CallsG Try.prog 19 [.slice A1 (l4).length c2] b (R) (fun v b' hp' => ∃ (A12650 : Option Addr), ∃ (c12651 : Nat), ∃ (hs12649 : Hp), .tuple #[.slice A12650 (l12654).length c12651, .int .i64 (x12653)] = v ∧ (hs12649 ++ R) = hp' ∧ OS 22 (OT.list 3 (OT.fr (RT.int .i64))) b'.w (.slice A12650 l12654.length c12651) l12654 hs12649) := by
  refine fn_enterG 125 Try.func19 rfl Try.ntmps19 rfl ?_
  unfold mMendClosure at hm
  refine c_seq ?_
  refine c_region ?_
  refine t_do rfl (u_box _ rfl rfl) ?_
  rintro _ _ ⟨g12655, rfl, rfl⟩
  refine t_st rfl (st_assign rfl) ?_
  refine t_st rfl (st_assign rfl) ?_
  refine t_nil ?_
  refine x_then_normal ?_
  refine c_seq ?_
  refine c_seq ?_
  refine c_region ?_
  refine t_st rfl (st_load 0 rfl one45 rfl rfl) ?_
  refine t_st rfl (st_len rfl sl45) ?_
  refine t_st rfl (st_gtr rfl rfl) ?_
  refine t_nil ?_
  refine x_then_normal ?_
  refine c_cond _ rfl (fun hc12656 => ?_) (fun hc12656 => ?_)
  ·
    rw [if_pos (of_decide_eq_true hc12656)] at hm
    refine c_seq ?_
    refine c_region ?_
    refine t_st rfl (st_assign rfl) ?_
    refine t_st rfl (st_assign rfl) ?_
    refine t_nil ?_
    refine x_then_normal ?_
    refine c_ret ?_
    refine x_then_ret ?_
    obtain ⟨rfl, rfl⟩ := some2 hm
    exact retM (rs := [.tmp 2, .tmp 3]) [.slice none 0 0, .int .i64 (4)] (Base.Le.refl _) (by decide) rfl ⟨rfl, ⟨rfl, trivial⟩⟩ rfl (hp' := ([] ++ R)) (.cons _ (.refl _)) ⟨none, 0, [], rfl, rfl, OS.nil⟩
  ·
    rw [if_neg (of_decide_eq_false hc12656)] at hm
    refine c_skip ?_
    refine x_then_normal ?_
    refine c_seq ?_
    refine c_seq ?_
    refine c_region ?_
    refine t_st rfl (st_load 0 rfl one45 rfl rfl) ?_
    refine t_st rfl (st_func _ _ rfl rfl) ?_
    obtain ⟨x12657, hcl12658, hm⟩ := bindS hm
    refine t_callG _ rfl call29 rfl (cSlicesContainsFunc _ _ l4 l4 g12655 A1 c2 A1 c2 h3 h3 x12657 hcl12658) ?_
    rintro _ b12659 _ hle12660 ⟨rfl, rfl⟩
    refine t_nil ?_
    refine x_then_normal ?_
    refine c_cond _ rfl (fun hc12661 => ?_) (fun hc12661 => ?_)
    ·
      rw [if_pos hc12661] at hm
      refine c_seq ?_
      refine c_region ?_
      refine t_st rfl (st_assign rfl) ?_
      refine t_st rfl (st_assign rfl) ?_
      refine t_nil ?_
      refine x_then_normal ?_
      refine c_ret ?_
      refine x_then_ret ?_
      obtain ⟨rfl, rfl⟩ := some2 hm
      exact retM (rs := [.tmp 2, .tmp 3]) [.slice none 0 0, .int .i64 (1)] hle12660 (by decide) rfl ⟨rfl, ⟨rfl, trivial⟩⟩ rfl (hp' := ([] ++ R)) (.cons _ (.refl _)) ⟨none, 0, [], rfl, rfl, OS.nil⟩
    ·
      rw [if_neg (fun hh => Bool.noConfusion (hh.symm.trans hc12661))] at hm
      refine c_skip ?_
      refine x_then_normal ?_
      refine c_seq ?_
      refine c_seq ?_
      refine c_region ?_
      refine t_st rfl (st_load 0 rfl one45 rfl rfl) ?_
      obtain ⟨x12662, hcl12663, hm⟩ := bindS hm
      refine t_do rfl (u_callW0 _ call44 rfl (fun w ho => cMendCheckTable _ [] l4 A1 c2 ((h3.le hle12660).old ho) x12662 hcl12663) (fun _ _ _ h => h.2.symm)) ?_
      rintro _ _ ⟨⟨_, rfl, _⟩, rfl⟩
      refine t_st rfl (st_assign rfl) ?_
      refine t_nil ?_
      refine x_then_normal ?_
      refine c_seq ?_
      refine c_region ?_
      refine t_st rfl (st_move rfl) ?_
      refine t_st rfl (st_neq rfl rfl) ?_
      refine t_nil ?_
      refine x_then_normal ?_
      refine c_cond _ rfl (fun hc12664 => ?_) (fun hc12664 => ?_)
      ·
        rw [if_pos (of_decide_eq_true hc12664)] at hm
        refine c_seq ?_
        refine c_region ?_
        refine t_st rfl (st_move rfl) ?_
        refine t_st rfl (st_assign rfl) ?_
        refine t_st rfl (st_assign rfl) ?_
        refine t_nil ?_
        refine x_then_normal ?_
        refine c_ret ?_
        refine x_then_ret ?_
        obtain ⟨rfl, rfl⟩ := some2 hm
        exact retM (rs := [.tmp 2, .tmp 3]) [.slice none 0 0, .int .i64 (x12662)] hle12660 (by decide) rfl ⟨rfl, ⟨rfl, trivial⟩⟩ rfl (hp' := ([] ++ R)) (.cons _ (.refl _)) ⟨none, 0, [], rfl, rfl, OS.nil⟩
      ·
        rw [if_neg (of_decide_eq_false hc12664)] at hm
        refine c_skip ?_
        refine x_then_normal ?_
        refine c_seq ?_
        refine c_region ?_
        refine t_st rfl (st_load 0 rfl one45 rfl rfl) ?_
        refine t_st rfl (st_len rfl sl45) ?_
        obtain ⟨m12665, h12666, hm⟩ := bindS hm
        have h12666 := mkLen_some h12666
        refine t_do rfl (u_mkOO (o := (OT.list 3 (OT.fr (RT.int .i64)))) [_] R [.slice none 0 0] ([] : List Int) m12665 rfl h12666.1 rfl rfl sl45 inf22 rfl rfl rfl (by decide) ⟨_, rfl, OS.nil⟩ h12666.2.1 h12666.2.2) ?_
        rintro _ _ ⟨hs12667, rfl, h12668⟩
        obtain ⟨A12669, c12670, rfl, _⟩ := h12668.form
        refine t_st rfl (st_assign rfl) ?_
        refine t_nil ?_
        refine x_then_normal ?_
        refine c_seq ?_
        refine c_seq ?_
        refine c_region ?_
        refine t_st rfl (st_load 0 rfl one45 rfl rfl) ?_
        refine t_st rfl (st_len rfl sl45) ?_
        refine t_st rfl (st_move rfl) ?_
        refine t_nil ?_
        refine x_then_normal ?_
        refine c_block ?_
        have hb12672 := (FZ.bd (h3.le hle12660))
        obtain ⟨l12769, hl12772, hk12773⟩ := bindS hm
        refine c_forS (fun k12771 => fun l12769 => fun b12764 e' hp' => ∃ (hs12767 : Hp), [(5, .slice A12669 (l12769).length c12670), (26, .slice A1 (l4).length c2), (27, .int .i64 ((l4.length : Int))), (28, .int .i64 ((k12771 : Int)))] = e' ∧ (hs12767 ++ R) = hp' ∧ b12659.Le b12764 ∧ OS 22 (OT.list 3 (OT.fr (RT.int .i64))) b12764.w (.slice A12669 l12769.length c12670) l12769 hs12767 ∧ l12769.length = m12665) hl12772 (e' := [(5, .slice A12669 (List.replicate m12665 (([] : List Int) : (List Int))).length c12670), (26, .slice A1 (l4).length c2), (27, .int .i64 ((l4.length : Int))), (28, .int .i64 0)]) (hp' := (hs12667 ++ R)) ⟨rfl, rfl, rfl, rfl, trivial⟩ (.cons _ (sub_app hs12667 (.refl _))) ⟨hs12667, rfl, rfl, (Base.Le.refl _), h12668, List.length_replicate⟩ ?_ ?_
        ·
          rintro k12771 l12769 b12764 _ _ oL12671 hknL12671 ⟨hs12767, rfl, rfl, hle12765, h12768, hln12770⟩ hstepL12671
          unfold mMendClosure_L12671 at hstepL12671
          have hm := hstepL12671
          refine c_seq ?_
          refine c_region ?_
          refine t_st rfl (st_lss_t rfl rfl (by omega)) ?_
          refine t_nil ?_
          refine x_then_normal ?_
          refine c_seq ?_
          refine c_cond_t rfl ?_
          refine c_skip ?_
          refine x_then_normal ?_
          refine c_seq ?_
          refine c_block ?_
          refine c_seq ?_
          refine c_region ?_
          refine t_st rfl (st_move rfl) ?_
          obtain ⟨x12774, h12775, hm⟩ := bindS hm
          obtain ⟨j12776, hj12777, hx12778⟩ := idx_some h12775
          obtain ⟨cs12779, hr12780, hcs12781, hA12782, hlt12783⟩ := FZ.get (sz := 1) rfl (by decide) (h3.le (hle12660.trans hle12765)) hx12778
          obtain ⟨A12784, c12785, rfl, h12786⟩ := hr12780
          refine t_st rfl (st_index_old j12776 rfl rfl hj12777 hlt12783 hA12782 sl45) ?_
          refine t_st rfl (st_load_old rfl one22 (hcs12781 0 _ rfl)) ?_
          refine t_st rfl (st_assign rfl) ?_
          refine t_st rfl (st_assign rfl) ?_
          refine t_nil ?_
          refine x_then_normal ?_
          refine c_region ?_
          refine t_st rfl (st_move rfl) ?_
          refine t_st rfl (st_move rfl) ?_
          refine t_st rfl (st_move rfl) ?_
          obtain ⟨l12787, hcl12788, hm⟩ := bindS hm
          refine t_callG _ rfl call12 rfl (cSlicesClone _ _ x12774 A12784 c12785 h12786 l12787 hcl12788) ?_
          rintro _ b12789 _ hle12790 ⟨A12791, c12792, hs12793, rfl, rfl, h12794⟩
          refine t_in1 [] [] hs12793 (hs12767 ++ R) rfl ?_
          obtain ⟨x12795, h12796, hm⟩ := bindS hm
          obtain ⟨j12797, hj12798, hx12799⟩ := idx_some h12796
          obtain ⟨cs12800, hs12805, P12806, P12807, hq12808, hr12801, hcs12802, hA12803, hlt12804, hb12809, hho12810⟩ := OS.get (sz := 1) rfl (by decide) (h12768.le hle12790) hx12799
          obtain ⟨v12811, rfl, h12812⟩ := hr12801
          obtain ⟨A12813, c12814, rfl, _⟩ := h12812.form
          refine t_st rfl (st_index_old j12797 rfl rfl hj12798 hlt12804 hA12803 sl45) ?_
          refine t_front2 [] hs12793 hs12767 R rfl ?_
          refine t_do rfl (u_putOO hj12798 (sz := 1) (a' := l12787) rfl [] hs12793 R 1 [.slice A12791 (l12787).length c12792] rfl (h12768.le hle12790) hx12799 rfl rfl rfl siz22 rfl (by decide) ⟨_, rfl, h12794⟩) ?_
          rintro _ _ ⟨hs12815, rfl, h12816⟩
          refine t_resp 5 rfl (v' := .slice A12669 (put l12769 (k12771 : Int) l12787).length c12670) (by simp only [put_length]) ?_
          refine t_nil ?_
          refine x_block_normal ?_
          refine x_then_normal ?_
          refine c_region ?_
          refine t_st rfl (st_add rfl rfl (by omega)) ?_
          refine t_st rfl (st_move rfl) ?_
          refine t_nil ?_
          obtain rfl := some1 hm
          exact x_againS (e' := [(5, .slice A12669 (put l12769 (k12771 : Int) l12787).length c12670), (26, .slice A1 (l4).length c2), (27, .int .i64 ((l4.length : Int))), (28, .int .i64 ((k12771 : Int) + 1))]) (hp' := (hs12815 ++ R)) ⟨rfl, rfl, rfl, rfl, trivial⟩ (sub_app hs12815 (.refl _)) ⟨hs12815, rfl, rfl, ((hle12765.trans hle12790)), h12816, ((put_length _ _ _).trans hln12770)⟩
        ·
          rintro b12764 _ _ ⟨hs12767, rfl, rfl, hle12765, h12768, hln12770⟩
          have hm := hk12773
          refine c_seq ?_
          refine c_region ?_
          refine t_st rfl (st_lss_f rfl rfl (by omega)) ?_
          refine t_nil ?_
          refine x_then_normal ?_
          refine c_seq ?_
          refine c_cond_f rfl ?_
          refine c_exit ?_
          refine x_then_exit ?_
          refine x_then_exit ?_
          refine x_block_out ?_
          refine x_then_normal ?_
          refine c_seq ?_
          refine c_seq ?_
          refine c_region ?_
          refine t_st rfl (st_move rfl) ?_
          refine t_st rfl (st_len rfl sl45) ?_
          refine t_st rfl (st_move rfl) ?_
          refine t_nil ?_
          refine x_then_normal ?_
          refine c_block ?_
          have hb12818 := (OS.len h12768)
          obtain ⟨l20975, hl20978, hk20979⟩ := bindS hm
          refine c_forS (fun k20977 => fun l20975 => fun b20970 e' hp' => ∃ (hs20973 : Hp), [(5, .slice A12669 (l20975).length c12670), (40, .int .i64 ((l12769.length : Int))), (41, .int .i64 ((k20977 : Int)))] = e' ∧ (hs20973 ++ R) = hp' ∧ b12764.Le b20970 ∧ OS 22 (OT.list 3 (OT.fr (RT.int .i64))) b20970.w (.slice A12669 l20975.length c12670) l20975 hs20973 ∧ l20975.length = m12665) hl20978 (e' := [(5, .slice A12669 (l12769).length c12670), (40, .int .i64 ((l12769.length : Int))), (41, .int .i64 0)]) (hp' := (hs12767 ++ R)) ⟨rfl, rfl, rfl, trivial⟩ (sub_app hs12767 (.refl _)) ⟨hs12767, rfl, rfl, (Base.Le.refl _), h12768, hln12770⟩ ?_ ?_
          ·
            rintro k20977 l20975 b20970 _ _ oL12817 hknL12817 ⟨hs20973, rfl, rfl, hle20971, h20974, hln20976⟩ hstepL12817
            unfold mMendClosure_L12817 at hstepL12817
            have hm := hstepL12817
            refine c_seq ?_
            refine c_region ?_
            refine t_st rfl (st_lss_t rfl rfl (by omega)) ?_
            refine t_nil ?_
            refine x_then_normal ?_
            refine c_seq ?_
            refine c_cond_t rfl ?_
            refine c_skip ?_
            refine x_then_normal ?_
            refine c_seq ?_
            refine c_block ?_
            refine c_seq ?_
            refine c_region ?_
            refine t_st rfl (st_move rfl) ?_
            refine t_st rfl (st_assign rfl) ?_
            refine t_nil ?_
            refine x_then_normal ?_
            refine c_seq ?_
            refine c_region ?_
            refine t_st rfl (st_move rfl) ?_
            refine t_st rfl (st_len rfl sl45) ?_
            refine t_st rfl (st_move rfl) ?_
            refine t_nil ?_
            refine x_then_normal ?_
            refine c_block ?_
            have hb20981 := (OS.len h20974)
            obtain ⟨l23696, hl23699, hk23700⟩ := bindS hm
            refine c_forS (fun k23698 => fun l23696 => fun b23691 e' hp' => ∃ (hs23694 : Hp), [(5, .slice A12669 (l23696).length c12670), (8, .int .i64 ((k20977 : Int))), (40, .int .i64 ((l12769.length : Int))), (41, .int .i64 ((k20977 : Int))), (45, .int .i64 ((l20975.length : Int))), (46, .int .i64 ((k23698 : Int)))] = e' ∧ (hs23694 ++ R) = hp' ∧ b20970.Le b23691 ∧ OS 22 (OT.list 3 (OT.fr (RT.int .i64))) b23691.w (.slice A12669 l23696.length c12670) l23696 hs23694 ∧ l23696.length = m12665) hl23699 (e' := [(5, .slice A12669 (l20975).length c12670), (8, .int .i64 ((k20977 : Int))), (40, .int .i64 ((l12769.length : Int))), (41, .int .i64 ((k20977 : Int))), (45, .int .i64 ((l20975.length : Int))), (46, .int .i64 0)]) (hp' := (hs20973 ++ R)) ⟨rfl, rfl, rfl, rfl, rfl, rfl, trivial⟩ (sub_app hs20973 (.refl _)) ⟨hs20973, rfl, rfl, (Base.Le.refl _), h20974, hln20976⟩ ?_ ?_
            ·
              rintro k23698 l23696 b23691 _ _ oL20980 hknL20980 ⟨hs23694, rfl, rfl, hle23692, h23695, hln23697⟩ hstepL20980
              unfold mMendClosure_L20980 at hstepL20980
              have hm := hstepL20980
              refine c_seq ?_
              refine c_region ?_
              refine t_st rfl (st_lss_t rfl rfl (by omega)) ?_
              refine t_nil ?_
              refine x_then_normal ?_
              refine c_seq ?_
              refine c_cond_t rfl ?_
              refine c_skip ?_
              refine x_then_normal ?_
              refine c_seq ?_
              refine c_block ?_
              refine c_seq ?_
              refine c_region ?_
              refine t_st rfl (st_move rfl) ?_
              refine t_st rfl (st_assign rfl) ?_
              refine t_nil ?_
              refine x_then_normal ?_
              refine c_seq ?_
              refine c_region ?_
              refine t_st rfl (st_move rfl) ?_
              refine t_st rfl (st_len rfl sl45) ?_
              refine t_st rfl (st_move rfl) ?_
              refine t_nil ?_
              refine x_then_normal ?_
              refine c_block ?_
              have hb23702 := (OS.len h23695)
              obtain ⟨l24603, hl24606, hk24607⟩ := bindS hm
              refine c_forS (fun k24605 => fun l24603 => fun b24598 e' hp' => ∃ (hs24601 : Hp), [(5, .slice A12669 (l24603).length c12670), (8, .int .i64 ((k20977 : Int))), (9, .int .i64 ((k23698 : Int))), (40, .int .i64 ((l12769.length : Int))), (41, .int .i64 ((k20977 : Int))), (45, .int .i64 ((l20975.length : Int))), (46, .int .i64 ((k23698 : Int))), (50, .int .i64 ((l23696.length : Int))), (51, .int .i64 ((k24605 : Int)))] = e' ∧ (hs24601 ++ R) = hp' ∧ b23691.Le b24598 ∧ OS 22 (OT.list 3 (OT.fr (RT.int .i64))) b24598.w (.slice A12669 l24603.length c12670) l24603 hs24601 ∧ l24603.length = m12665) hl24606 (e' := [(5, .slice A12669 (l23696).length c12670), (8, .int .i64 ((k20977 : Int))), (9, .int .i64 ((k23698 : Int))), (40, .int .i64 ((l12769.length : Int))), (41, .int .i64 ((k20977 : Int))), (45, .int .i64 ((l20975.length : Int))), (46, .int .i64 ((k23698 : Int))), (50, .int .i64 ((l23696.length : Int))), (51, .int .i64 0)]) (hp' := (hs23694 ++ R)) ⟨rfl, rfl, rfl, rfl, rfl, rfl, rfl, rfl, rfl, trivial⟩ (sub_app hs23694 (.refl _)) ⟨hs23694, rfl, rfl, (Base.Le.refl _), h23695, hln23697⟩ ?_ ?_
              ·
                rintro k24605 l24603 b24598 _ _ oL23701 hknL23701 ⟨hs24601, rfl, rfl, hle24599, h24602, hln24604⟩ hstepL23701
                unfold mMendClosure_L23701 at hstepL23701
                have hm := hstepL23701
                refine c_seq ?_
                refine c_region ?_
                refine t_st rfl (st_lss_t rfl rfl (by omega)) ?_
                refine t_nil ?_
                refine x_then_normal ?_
                refine c_seq ?_
                refine c_cond_t rfl ?_
                refine c_skip ?_
                refine x_then_normal ?_
                refine c_seq ?_
                refine c_block ?_
                refine c_seq ?_
                refine c_region ?_
                refine t_st rfl (st_move rfl) ?_
                refine t_st rfl (st_assign rfl) ?_
                refine t_nil ?_
                refine x_then_normal ?_
                obtain ⟨x24683, hj24684, hk24684⟩ := bindS hm
                refine c_join (fun b24681 e' hp' => [(5, .slice A12669 (l24603).length c12670), (8, .int .i64 ((k20977 : Int))), (9, .int .i64 ((k23698 : Int))), (10, .int .i64 ((k24605 : Int))), (40, .int .i64 ((l12769.length : Int))), (41, .int .i64 ((k20977 : Int))), (45, .int .i64 ((l20975.length : Int))), (46, .int .i64 ((k23698 : Int))), (50, .int .i64 ((l23696.length : Int))), (51, .int .i64 ((k24605 : Int))), (71, .bool (x24683))] = e' ∧ (hs24601 ++ R) = hp' ∧ b24598.Le b24681) ?_ ?_
                ·
                  have hm := hj24684
                  refine c_region ?_
                  refine t_st rfl (st_move rfl) ?_
                  refine t_st rfl (st_move rfl) ?_
                  obtain ⟨x24685, h24686, hm⟩ := bindS hm
                  obtain ⟨j24687, hj24688, hx24689⟩ := idx_some h24686
                  obtain ⟨cs24690, hs24695, P24696, P24697, hq24698, hr24691, hcs24692, hA24693, hlt24694, hb24699, hho24700⟩ := OS.get (sz := 1) rfl (by decide) h24602 hx24689
                  obtain ⟨v24701, rfl, h24702⟩ := hr24691
                  obtain ⟨A24703, c24704, rfl, _⟩ := h24702.form
                  refine t_st rfl (st_index_old j24687 rfl rfl hj24688 hlt24694 hA24693 sl45) ?_
                  refine t_st rfl (st_load_rd rfl one22 (fun w ho => hcs24692 w _ ho (List.sublist_append_left _ _) 0 _ rfl)) ?_
                  refine t_st rfl (st_move rfl) ?_
                  obtain ⟨x24705, h24706, hm⟩ := bindS hm
                  obtain ⟨j24707, hj24708, hx24709⟩ := idx_some h24706
                  obtain ⟨cs24710, hs24715, P24716, P24717, hq24718, hr24711, hcs24712, hA24713, hlt24714, hb24719, _⟩ := OS.get (sz := 1) rfl (by decide) h24702 hx24709
                  obtain ⟨rfl, rfl⟩ := hr24711
                  have hcs24720 := fun (w : World) (hp : Hp) (ho : Own b24598 hp w) (hh : hs24601.Sublist hp) => hcs24712 w hp ho ((show hs24695.Sublist hs24601 by rw [hq24698]; exact sub_skip _ (List.sublist_append_left _ _)).trans hh)
                  refine t_st rfl (st_index_old j24707 rfl rfl hj24708 hlt24714 hA24713 sl22) ?_
                  refine t_st rfl (st_load_rd rfl one3 (fun w ho => hcs24720 w _ ho (List.sublist_append_left _ _) 0 _ rfl)) ?_
                  refine t_bool rfl (st_neq rfl rfl) (fun hc24721 => ?_) (fun hc24721 => ?_)
                  ·
                    rw [if_pos hc24721] at hm
                    refine t_st rfl (st_move rfl) ?_
                    refine t_yes 62 rfl rfl rfl ?_
                    refine t_st rfl (st_move rfl) ?_
                    refine t_yes 62 rfl rfl rfl ?_
                    refine t_st rfl (st_move rfl) ?_
                    refine t_yes 62 rfl rfl rfl ?_
                    obtain ⟨x24722, h24723, hm⟩ := bindS hm
                    obtain ⟨j24724, hj24725, hx24726⟩ := idx_some h24723
                    obtain ⟨cs24727, hs24732, P24733, P24734, hq24735, hr24728, hcs24729, hA24730, hlt24731, hb24736, hho24737⟩ := OS.get (sz := 1) rfl (by decide) h24602 hx24726
                    obtain ⟨v24738, rfl, h24739⟩ := hr24728
                    obtain ⟨A24740, c24741, rfl, _⟩ := h24739.form
                    refine t_st rfl (st_index_old j24724 rfl rfl hj24725 hlt24731 hA24730 sl45) ?_
                    refine t_yes 62 rfl rfl rfl ?_
                    refine t_st rfl (st_load_rd rfl one22 (fun w ho => hcs24729 w _ ho (List.sublist_append_left _ _) 0 _ rfl)) ?_
                    refine t_yes 62 rfl rfl rfl ?_
                    refine t_st rfl (st_move rfl) ?_
                    refine t_yes 62 rfl rfl rfl ?_
                    obtain ⟨x24742, h24743, hm⟩ := bindS hm
                    obtain ⟨j24744, hj24745, hx24746⟩ := idx_some h24743
                    obtain ⟨cs24747, hs24752, P24753, P24754, hq24755, hr24748, hcs24749, hA24750, hlt24751, hb24756, _⟩ := OS.get (sz := 1) rfl (by decide) h24739 hx24746
                    obtain ⟨rfl, rfl⟩ := hr24748
                    have hcs24757 := fun (w : World) (hp : Hp) (ho : Own b24598 hp w) (hh : hs24601.Sublist hp) => hcs24749 w hp ho ((show hs24732.Sublist hs24601 by rw [hq24735]; exact sub_skip _ (List.sublist_append_left _ _)).trans hh)
                    refine t_st rfl (st_index_old j24744 rfl rfl hj24745 hlt24751 hA24750 sl22) ?_
                    refine t_yes 62 rfl rfl rfl ?_
                    refine t_st rfl (st_load_rd rfl one3 (fun w ho => hcs24757 w _ ho (List.sublist_append_left _ _) 0 _ rfl)) ?_
                    refine t_yes 62 rfl rfl rfl ?_
                    refine t_st rfl (st_neq rfl rfl) ?_
                    refine t_st rfl (st_pick_t rfl rfl) ?_
                    refine t_nil ?_
                    obtain rfl := some1 hm
                    exact x_join (e' := [(5, .slice A12669 (l24603).length c12670), (8, .int .i64 ((k20977 : Int))), (9, .int .i64 ((k23698 : Int))), (10, .int .i64 ((k24605 : Int))), (40, .int .i64 ((l12769.length : Int))), (41, .int .i64 ((k20977 : Int))), (45, .int .i64 ((l20975.length : Int))), (46, .int .i64 ((k23698 : Int))), (50, .int .i64 ((l23696.length : Int))), (51, .int .i64 ((k24605 : Int))), (71, .bool (decide (x24742 ≠ (-4611686018427387904))))]) (hp' := (hs24601 ++ R)) ⟨rfl, rfl, rfl, rfl, rfl, rfl, rfl, rfl, rfl, rfl, rfl, trivial⟩ (sub_app hs24601 (.refl _)) ⟨rfl, rfl, (Base.Le.refl _)⟩
                  ·
                    rw [if_neg hc24721] at hm
                    refine t_st rfl (st_move rfl) ?_
                    refine t_no 62 rfl rfl rfl rfl rfl ?_
                    refine t_no 62 rfl rfl rfl rfl rfl ?_
                    refine t_no 62 rfl rfl rfl rfl rfl ?_
                    refine t_no 62 rfl rfl rfl rfl rfl ?_
                    refine t_no 62 rfl rfl rfl rfl rfl ?_
                    refine t_no 62 rfl rfl rfl rfl rfl ?_
                    refine t_no 62 rfl rfl rfl rfl rfl ?_
                    refine t_no 62 rfl rfl rfl rfl rfl ?_
                    refine t_st rfl (st_pick_f rfl rfl) ?_
                    refine t_nil ?_
                    obtain rfl := some1 hm
                    exact x_join (e' := [(5, .slice A12669 (l24603).length c12670), (8, .int .i64 ((k20977 : Int))), (9, .int .i64 ((k23698 : Int))), (10, .int .i64 ((k24605 : Int))), (40, .int .i64 ((l12769.length : Int))), (41, .int .i64 ((k20977 : Int))), (45, .int .i64 ((l20975.length : Int))), (46, .int .i64 ((k23698 : Int))), (50, .int .i64 ((l23696.length : Int))), (51, .int .i64 ((k24605 : Int))), (71, .bool (false))]) (hp' := (hs24601 ++ R)) ⟨rfl, rfl, rfl, rfl, rfl, rfl, rfl, rfl, rfl, rfl, rfl, trivial⟩ (sub_app hs24601 (.refl _)) ⟨rfl, rfl, (Base.Le.refl _)⟩
                ·
                  rintro b24681 _ _ ⟨rfl, rfl, hle24682⟩
                  have hm := hk24684
                  refine c_cond _ rfl (fun hc24758 => ?_) (fun hc24758 => ?_)
                  ·
                    rw [if_pos hc24758] at hm
                    obtain ⟨x24906, h24907, hm⟩ := bindS hm
                    obtain ⟨x24926, h24927, hm⟩ := bindS hm
                    obtain ⟨x24946, h24947, hm⟩ := bindS hm
                    obtain ⟨x24962, h24963, hm⟩ := bindS hm
                    obtain ⟨x24982, h24983, hm⟩ := bindS hm
                    obtain ⟨x24998, h24999, hm⟩ := bindS hm
                    obtain ⟨x25018, h25019, hm⟩ := bindS hm
                    obtain ⟨_, h25034, hm⟩ := bindS hm
                    obtain ⟨x25035, h25036, hm⟩ := bindS hm
                    refine D_drawS ((hs24601 ++ R)) mixed ?_
                    refine D_st (Base.Le.refl _) 0 rfl (by kernel_rfl) (by kernel_rfl) (by kernel_rfl) rfl (st_move rfl) (sub_app hs24601 (.refl _)) ?_
                    refine D_st (Base.Le.refl _) 1 rfl (by kernel_rfl) (by kernel_rfl) (by kernel_rfl) rfl (st_move rfl) (sub_app hs24601 (.refl _)) ?_
                    obtain ⟨j24908, hj24909, hx24910⟩ := idx_some h24907
                    obtain ⟨cs24911, hs24916, P24917, P24918, hq24919, hr24912, hcs24913, hA24914, hlt24915, hb24920, hho24921⟩ := OS.get (sz := 1) rfl (by decide) (h24602.le hle24682) hx24910
                    obtain ⟨v24922, rfl, h24923⟩ := hr24912
                    obtain ⟨A24924, c24925, rfl, _⟩ := h24923.form
                    refine D_st (Base.Le.refl _) 2 rfl (by kernel_rfl) (by kernel_rfl) (by kernel_rfl) rfl (st_index_old j24908 rfl rfl hj24909 hlt24915 hA24914 sl45) (sub_app hs24601 (.refl _)) ?_
                    refine D_st (Base.Le.refl _) 3 rfl (by kernel_rfl) (by kernel_rfl) (by kernel_rfl) rfl (st_load_rd rfl one22 (fun w ho => hcs24913 w _ ho (List.sublist_append_left _ _) 0 _ rfl)) (sub_app hs24601 (.refl _)) ?_
                    refine D_st (Base.Le.refl _) 4 rfl (by kernel_rfl) (by kernel_rfl) (by kernel_rfl) rfl (st_move rfl) (sub_app hs24601 (.refl _)) ?_
                    refine D_st (Base.Le.refl _) 5 rfl (by kernel_rfl) (by kernel_rfl) (by kernel_rfl) rfl (st_move rfl) (sub_app hs24601 (.refl _)) ?_
                    refine D_st (Base.Le.refl _) 6 rfl (by kernel_rfl) (by kernel_rfl) (by kernel_rfl) rfl (st_move rfl) (sub_app hs24601 (.refl _)) ?_
                    obtain ⟨j24928, hj24929, hx24930⟩ := idx_some h24927
                    obtain ⟨cs24931, hs24936, P24937, P24938, hq24939, hr24932, hcs24933, hA24934, hlt24935, hb24940, hho24941⟩ := OS.get (sz := 1) rfl (by decide) (h24602.le hle24682) hx24930
                    obtain ⟨v24942, rfl, h24943⟩ := hr24932
                    obtain ⟨A24944, c24945, rfl, _⟩ := h24943.form
                    refine D_st (Base.Le.refl _) 7 rfl (by kernel_rfl) (by kernel_rfl) (by kernel_rfl) rfl (st_index_old j24928 rfl rfl hj24929 hlt24935 hA24934 sl45) (sub_app hs24601 (.refl _)) ?_
                    refine D_st (Base.Le.refl _) 8 rfl (by kernel_rfl) (by kernel_rfl) (by kernel_rfl) rfl (st_load_rd rfl one22 (fun w ho => hcs24933 w _ ho (List.sublist_append_left _ _) 0 _ rfl)) (sub_app hs24601 (.refl _)) ?_
                    refine D_st (Base.Le.refl _) 9 rfl (by kernel_rfl) (by kernel_rfl) (by kernel_rfl) rfl (st_move rfl) (sub_app hs24601 (.refl _)) ?_
                    obtain ⟨j24948, hj24949, hx24950⟩ := idx_some h24947
                    obtain ⟨cs24951, hs24956, P24957, P24958, hq24959, hr24952, hcs24953, hA24954, hlt24955, hb24960, _⟩ := OS.get (sz := 1) rfl (by decide) h24943 hx24950
                    obtain ⟨rfl, rfl⟩ := hr24952
                    have hcs24961 := fun (w : World) (hp : Hp) (ho : Own b24681 hp w) (hh : hs24601.Sublist hp) => hcs24953 w hp ho ((show hs24936.Sublist hs24601 by rw [hq24939]; exact sub_skip _ (List.sublist_append_left _ _)).trans hh)
                    refine D_st (Base.Le.refl _) 10 rfl (by kernel_rfl) (by kernel_rfl) (by kernel_rfl) rfl (st_index_old j24948 rfl rfl hj24949 hlt24955 hA24954 sl22) (sub_app hs24601 (.refl _)) ?_
                    refine D_st (Base.Le.refl _) 11 rfl (by kernel_rfl) (by kernel_rfl) (by kernel_rfl) rfl (st_load_rd rfl one3 (fun w ho => hcs24961 w _ ho (List.sublist_append_left _ _) 0 _ rfl)) (sub_app hs24601 (.refl _)) ?_
                    refine D_st (Base.Le.refl _) 12 rfl (by kernel_rfl) (by kernel_rfl) (by kernel_rfl) rfl (st_move rfl) (sub_app hs24601 (.refl _)) ?_
                    refine D_st (Base.Le.refl _) 13 rfl (by kernel_rfl) (by kernel_rfl) (by kernel_rfl) rfl (st_move rfl) (sub_app hs24601 (.refl _)) ?_
                    obtain ⟨j24964, hj24965, hx24966⟩ := idx_some h24963
                    obtain ⟨cs24967, hs24972, P24973, P24974, hq24975, hr24968, hcs24969, hA24970, hlt24971, hb24976, hho24977⟩ := OS.get (sz := 1) rfl (by decide) (h24602.le hle24682) hx24966
                    obtain ⟨v24978, rfl, h24979⟩ := hr24968
                    obtain ⟨A24980, c24981, rfl, _⟩ := h24979.form
                    refine D_st (Base.Le.refl _) 14 rfl (by kernel_rfl) (by kernel_rfl) (by kernel_rfl) rfl (st_index_old j24964 rfl rfl hj24965 hlt24971 hA24970 sl45) (sub_app hs24601 (.refl _)) ?_
                    refine D_st (Base.Le.refl _) 15 rfl (by kernel_rfl) (by kernel_rfl) (by kernel_rfl) rfl (st_load_rd rfl one22 (fun w ho => hcs24969 w _ ho (List.sublist_append_left _ _) 0 _ rfl)) (sub_app hs24601 (.refl _)) ?_
                    refine D_st (Base.Le.refl _) 16 rfl (by kernel_rfl) (by kernel_rfl) (by kernel_rfl) rfl (st_move rfl) (sub_app hs24601 (.refl _)) ?_
                    obtain ⟨j24984, hj24985, hx24986⟩ := idx_some h24983
                    obtain ⟨cs24987, hs24992, P24993, P24994, hq24995, hr24988, hcs24989, hA24990, hlt24991, hb24996, _⟩ := OS.get (sz := 1) rfl (by decide) h24979 hx24986
                    obtain ⟨rfl, rfl⟩ := hr24988
                    have hcs24997 := fun (w : World) (hp : Hp) (ho : Own b24681 hp w) (hh : hs24601.Sublist hp) => hcs24989 w hp ho ((show hs24972.Sublist hs24601 by rw [hq24975]; exact sub_skip _ (List.sublist_append_left _ _)).trans hh)
                    refine D_st (Base.Le.refl _) 17 rfl (by kernel_rfl) (by kernel_rfl) (by kernel_rfl) rfl (st_index_old j24984 rfl rfl hj24985 hlt24991 hA24990 sl22) (sub_app hs24601 (.refl _)) ?_
                    refine D_st (Base.Le.refl _) 18 rfl (by kernel_rfl) (by kernel_rfl) (by kernel_rfl) rfl (st_load_rd rfl one3 (fun w ho => hcs24997 w _ ho (List.sublist_append_left _ _) 0 _ rfl)) (sub_app hs24601 (.refl _)) ?_
                    refine D_st (Base.Le.refl _) 19 rfl (by kernel_rfl) (by kernel_rfl) (by kernel_rfl) rfl (st_move rfl) (sub_app hs24601 (.refl _)) ?_
                    refine D_st (Base.Le.refl _) 20 rfl (by kernel_rfl) (by kernel_rfl) (by kernel_rfl) rfl (st_move rfl) (sub_app hs24601 (.refl _)) ?_
                    obtain ⟨j25000, hj25001, hx25002⟩ := idx_some h24999
                    obtain ⟨cs25003, hs25008, P25009, P25010, hq25011, hr25004, hcs25005, hA25006, hlt25007, hb25012, hho25013⟩ := OS.get (sz := 1) rfl (by decide) (h24602.le hle24682) hx25002
                    obtain ⟨v25014, rfl, h25015⟩ := hr25004
                    obtain ⟨A25016, c25017, rfl, _⟩ := h25015.form
                    refine D_st (Base.Le.refl _) 21 rfl (by kernel_rfl) (by kernel_rfl) (by kernel_rfl) rfl (st_index_old j25000 rfl rfl hj25001 hlt25007 hA25006 sl45) (sub_app hs24601 (.refl _)) ?_
                    refine D_st (Base.Le.refl _) 22 rfl (by kernel_rfl) (by kernel_rfl) (by kernel_rfl) rfl (st_load_rd rfl one22 (fun w ho => hcs25005 w _ ho (List.sublist_append_left _ _) 0 _ rfl)) (sub_app hs24601 (.refl _)) ?_
                    refine D_st (Base.Le.refl _) 23 rfl (by kernel_rfl) (by kernel_rfl) (by kernel_rfl) rfl (st_move rfl) (sub_app hs24601 (.refl _)) ?_
                    obtain ⟨j25020, hj25021, hx25022⟩ := idx_some h25019
                    obtain ⟨cs25023, hs25028, P25029, P25030, hq25031, hr25024, hcs25025, hA25026, hlt25027, hb25032, _⟩ := OS.get (sz := 1) rfl (by decide) h25015 hx25022
                    obtain ⟨rfl, rfl⟩ := hr25024
                    have hcs25033 := fun (w : World) (hp : Hp) (ho : Own b24681 hp w) (hh : hs24601.Sublist hp) => hcs25025 w hp ho ((show hs25008.Sublist hs24601 by rw [hq25011]; exact sub_skip _ (List.sublist_append_left _ _)).trans hh)
                    refine D_st (Base.Le.refl _) 24 rfl (by kernel_rfl) (by kernel_rfl) (by kernel_rfl) rfl (st_index_old j25020 rfl rfl hj25021 hlt25027 hA25026 sl22) (sub_app hs24601 (.refl _)) ?_
                    refine D_st (Base.Le.refl _) 25 rfl (by kernel_rfl) (by kernel_rfl) (by kernel_rfl) rfl (st_load_rd rfl one3 (fun w ho => hcs25033 w _ ho (List.sublist_append_left _ _) 0 _ rfl)) (sub_app hs24601 (.refl _)) ?_
                    have h25034 := (chk_some h25034).2
                    refine D_st (Base.Le.refl _) 26 rfl (by kernel_rfl) (by kernel_rfl) (by kernel_rfl) rfl (st_add rfl rfl h25034) (sub_app hs24601 (.refl _)) ?_
                    refine D_st (Base.Le.refl _) 27 rfl (by kernel_rfl) (by kernel_rfl) (by kernel_rfl) rfl (st_max rfl rfl) (sub_app hs24601 (.refl _)) ?_
                    obtain ⟨j25037, hj25038, hx25039⟩ := idx_some h25036
                    obtain ⟨cs25040, hs25045, P25046, P25047, hq25048, hr25041, hcs25042, hA25043, hlt25044, hb25049, _⟩ := OS.get (sz := 1) rfl (by decide) h24923 hx25039
                    obtain ⟨rfl, rfl⟩ := hr25041
                    have hcs25050 := fun (w : World) (hp : Hp) (ho : Own b24681 hp w) (hh : hs24601.Sublist hp) => hcs25042 w hp ho ((show hs24916.Sublist hs24601 by rw [hq24919]; exact sub_skip _ (List.sublist_append_left _ _)).trans hh)
                    refine D_st (Base.Le.refl _) 28 rfl (by kernel_rfl) (by kernel_rfl) (by kernel_rfl) rfl (st_index_old j25037 rfl rfl hj25038 hlt25044 hA25043 sl22) (sub_app hs24601 (.refl _)) ?_
                    refine D_all [29] (by kernel_rfl) rfl ?_
                    refine R_do (Base.Le.refl _) rfl rfl (u_putIn hj24909 hj25038 (z' := max x24946 (x24982 + x25018)) (sz := 1) rfl [] R 0 1 [.int .i64 (max x24946 (x24982 + x25018))] rfl rfl hq24919 h24923 hb24920 hx25039 rfl rfl rfl siz3 rfl (by intro u hu; simp only [List.mem_cons, List.not_mem_nil, or_false] at hu; subst hu; rfl) (fun cs hsj hh => by obtain ⟨rfl, rfl⟩ := hh; exact ⟨by decide, rfl, rfl⟩)) ?_ ?_
                    ·
                      rintro _ _ ⟨hs25051, rfl, h25052⟩
                      refine ⟨.inl (by kernel_rfl), ?_⟩
                      refine d_resp 5 rfl (v' := .slice A12669 (put l24603 (k23698 : Int) (put x24906 (k24605 : Int) (max x24946 (x24982 + x25018)))).length c12670) (by simp only [put_length]) ?_
                      refine D_done (by kernel_rfl) ?_
                      refine x_block_normal ?_
                      refine x_then_normal ?_
                      refine c_region ?_
                      refine t_st rfl (st_add rfl rfl (by omega)) ?_
                      refine t_st rfl (st_move rfl) ?_
                      refine t_nil ?_
                      obtain rfl := some1 hm
                      exact x_againS (e' := [(5, .slice A12669 (put l24603 (k23698 : Int) (put x24906 (k24605 : Int) (max x24946 (x24982 + x25018)))).length c12670), (8, .int .i64 ((k20977 : Int))), (9, .int .i64 ((k23698 : Int))), (40, .int .i64 ((l12769.length : Int))), (41, .int .i64 ((k20977 : Int))), (45, .int .i64 ((l20975.length : Int))), (46, .int .i64 ((k23698 : Int))), (50, .int .i64 ((l23696.length : Int))), (51, .int .i64 ((k24605 : Int) + 1))]) (hp' := (hs25051 ++ R)) ⟨rfl, rfl, rfl, rfl, rfl, rfl, rfl, rfl, rfl, trivial⟩ (sub_app hs25051 (.refl _)) ⟨hs25051, rfl, rfl, ((hle24599.trans hle24682)), h25052, ((put_length _ _ _).trans hln24604)⟩
                    exact R_nil
                  ·
                    rw [if_neg (fun hh => Bool.noConfusion (hh.symm.trans hc24758))] at hm
                    refine c_skip ?_
                    refine x_block_normal ?_
                    refine x_then_normal ?_
                    refine c_region ?_
                    refine t_st rfl (st_add rfl rfl (by omega)) ?_
                    refine t_st rfl (st_move rfl) ?_
                    refine t_nil ?_
                    obtain rfl := some1 hm
                    exact x_againS (e' := [(5, .slice A12669 (l24603).length c12670), (8, .int .i64 ((k20977 : Int))), (9, .int .i64 ((k23698 : Int))), (40, .int .i64 ((l12769.length : Int))), (41, .int .i64 ((k20977 : Int))), (45, .int .i64 ((l20975.length : Int))), (46, .int .i64 ((k23698 : Int))), (50, .int .i64 ((l23696.length : Int))), (51, .int .i64 ((k24605 : Int) + 1))]) (hp' := (hs24601 ++ R)) ⟨rfl, rfl, rfl, rfl, rfl, rfl, rfl, rfl, rfl, trivial⟩ (sub_app hs24601 (.refl _)) ⟨hs24601, rfl, rfl, ((hle24599.trans hle24682)), (h24602.le hle24682), hln24604⟩
              ·
                rintro b24598 _ _ ⟨hs24601, rfl, rfl, hle24599, h24602, hln24604⟩
                have hm := hk24607
                refine c_seq ?_
                refine c_region ?_
                refine t_st rfl (st_lss_f rfl rfl (by omega)) ?_
                refine t_nil ?_
                refine x_then_normal ?_
                refine c_seq ?_
                refine c_cond_f rfl ?_
                refine c_exit ?_
                refine x_then_exit ?_
                refine x_then_exit ?_
                refine x_block_out ?_
                refine x_block_normal ?_
                refine x_then_normal ?_
                refine c_region ?_
                refine t_st rfl (st_add rfl rfl (by omega)) ?_
                refine t_st rfl (st_move rfl) ?_
                refine t_nil ?_
                obtain rfl := some1 hm
                exact x_againS (e' := [(5, .slice A12669 (l24603).length c12670), (8, .int .i64 ((k20977 : Int))), (40, .int .i64 ((l12769.length : Int))), (41, .int .i64 ((k20977 : Int))), (45, .int .i64 ((l20975.length : Int))), (46, .int .i64 ((k23698 : Int) + 1))]) (hp' := (hs24601 ++ R)) ⟨rfl, rfl, rfl, rfl, rfl, rfl, trivial⟩ (sub_app hs24601 (.refl _)) ⟨hs24601, rfl, rfl, ((hle23692.trans hle24599)), h24602, hln24604⟩
            ·
              rintro b23691 _ _ ⟨hs23694, rfl, rfl, hle23692, h23695, hln23697⟩
              have hm := hk23700
              refine c_seq ?_
              refine c_region ?_
              refine t_st rfl (st_lss_f rfl rfl (by omega)) ?_
              refine t_nil ?_
              refine x_then_normal ?_
              refine c_seq ?_
              refine c_cond_f rfl ?_
              refine c_exit ?_
              refine x_then_exit ?_
              refine x_then_exit ?_
              refine x_block_out ?_
              refine x_block_normal ?_
              refine x_then_normal ?_
              refine c_region ?_
              refine t_st rfl (st_add rfl rfl (by omega)) ?_
              refine t_st rfl (st_move rfl) ?_
              refine t_nil ?_
              obtain rfl := some1 hm
              exact x_againS (e' := [(5, .slice A12669 (l23696).length c12670), (40, .int .i64 ((l12769.length : Int))), (41, .int .i64 ((k20977 : Int) + 1))]) (hp' := (hs23694 ++ R)) ⟨rfl, rfl, rfl, trivial⟩ (sub_app hs23694 (.refl _)) ⟨hs23694, rfl, rfl, ((hle20971.trans hle23692)), h23695, hln23697⟩
          ·
            rintro b20970 _ _ ⟨hs20973, rfl, rfl, hle20971, h20974, hln20976⟩
            have hm := hk20979
            refine c_seq ?_
            refine c_region ?_
            refine t_st rfl (st_lss_f rfl rfl (by omega)) ?_
            refine t_nil ?_
            refine x_then_normal ?_
            refine c_seq ?_
            refine c_cond_f rfl ?_
            refine c_exit ?_
            refine x_then_exit ?_
            refine x_then_exit ?_
            refine x_block_out ?_
            refine x_then_normal ?_
            refine c_seq ?_
            refine c_seq ?_
            refine c_region ?_
            refine t_st rfl (st_move rfl) ?_
            refine t_st rfl (st_len rfl sl45) ?_
            refine t_st rfl (st_move rfl) ?_
            refine t_nil ?_
            refine x_then_normal ?_
            refine c_block ?_
            have hb25054 := (OS.len h20974)
            obtain ⟨t25218, hl25219, hk25220⟩ := bindS hm
            refine c_forM (fun k25217 => fun l25215 => fun b25210 e' hp' => ∃ (hs25213 : Hp), [(5, .slice A12669 (l25215).length c12670), (105, .int .i64 ((l20975.length : Int))), (106, .int .i64 ((k25217 : Int)))] = e' ∧ (hs25213 ++ R) = hp' ∧ b20970.Le b25210 ∧ OS 22 (OT.list 3 (OT.fr (RT.int .i64))) b25210.w (.slice A12669 l25215.length c12670) l25215 hs25213 ∧ l25215.length = m12665) hl25219 (e' := [(5, .slice A12669 (l20975).length c12670), (105, .int .i64 ((l20975.length : Int))), (106, .int .i64 0)]) (hp' := (hs20973 ++ R)) ⟨rfl, rfl, rfl, trivial⟩ (sub_app hs20973 (.refl _)) ⟨hs20973, rfl, rfl, (Base.Le.refl _), h20974, hln20976⟩ ?_ ?_
            ·
              rintro k25217 l25215 b25210 _ _ oL25053 hknL25053 ⟨hs25213, rfl, rfl, hle25211, h25214, hln25216⟩ hstepL25053 houtL25053
              unfold mMendClosure_L25053 at hstepL25053
              have hm := hstepL25053
              refine c_seq ?_
              refine c_region ?_
              refine t_st rfl (st_lss_t rfl rfl (by omega)) ?_
              refine t_nil ?_
              refine x_then_normal ?_
              refine c_seq ?_
              refine c_cond_t rfl ?_
              refine c_skip ?_
              refine x_then_normal ?_
              refine c_seq ?_
              refine c_block ?_
              refine c_seq ?_
              refine c_region ?_
              refine t_st rfl (st_move rfl) ?_
              refine t_st rfl (st_assign rfl) ?_
              refine t_nil ?_
              refine x_then_normal ?_
              refine c_seq ?_
              refine c_seq ?_
              refine c_region ?_
              refine t_st rfl (st_move rfl) ?_
              refine t_st rfl (st_move rfl) ?_
              obtain ⟨x25221, h25222, hm⟩ := bindS hm
              obtain ⟨j25223, hj25224, hx25225⟩ := idx_some h25222
              obtain ⟨cs25226, hs25231, P25232, P25233, hq25234, hr25227, hcs25228, hA25229, hlt25230, hb25235, hho25236⟩ := OS.get (sz := 1) rfl (by decide) h25214 hx25225
              obtain ⟨v25237, rfl, h25238⟩ := hr25227
              obtain ⟨A25239, c25240, rfl, _⟩ := h25238.form
              refine t_st rfl (st_index_old j25223 rfl rfl hj25224 hlt25230 hA25229 sl45) ?_
              refine t_st rfl (st_load_rd rfl one22 (fun w ho => hcs25228 w _ ho (List.sublist_append_left _ _) 0 _ rfl)) ?_
              refine t_st rfl (st_move rfl) ?_
              obtain ⟨x25241, h25242, hm⟩ := bindS hm
              obtain ⟨j25243, hj25244, hx25245⟩ := idx_some h25242
              obtain ⟨cs25246, hs25251, P25252, P25253, hq25254, hr25247, hcs25248, hA25249, hlt25250, hb25255, _⟩ := OS.get (sz := 1) rfl (by decide) h25238 hx25245
              obtain ⟨rfl, rfl⟩ := hr25247
              have hcs25256 := fun (w : World) (hp : Hp) (ho : Own b25210 hp w) (hh : hs25213.Sublist hp) => hcs25248 w hp ho ((show hs25231.Sublist hs25213 by rw [hq25234]; exact sub_skip _ (List.sublist_append_left _ _)).trans hh)
              refine t_st rfl (st_index_old j25243 rfl rfl hj25244 hlt25250 hA25249 sl22) ?_
              refine t_st rfl (st_load_rd rfl one3 (fun w ho => hcs25256 w _ ho (List.sublist_append_left _ _) 0 _ rfl)) ?_
              refine t_st rfl (st_gtr rfl rfl) ?_
              refine t_nil ?_
              refine x_then_normal ?_
              refine c_cond _ rfl (fun hc25257 => ?_) (fun hc25257 => ?_)
              ·
                rw [if_pos (of_decide_eq_true hc25257)] at hm
                refine c_seq ?_
                refine c_region ?_
                refine t_st rfl (st_assign rfl) ?_
                refine t_st rfl (st_assign rfl) ?_
                refine t_nil ?_
                refine x_then_normal ?_
                refine c_ret ?_
                refine x_then_ret ?_
                refine x_block_ret ?_
                refine x_then_ret ?_
                refine x_then_ret ?_
                refine x_block_ret ?_
                refine x_then_ret ?_
                have hq25258 := houtL25053 _ (Option.some.inj hm).symm
                rw [hq25258] at hk25220
                have hm := elimR hk25220
                obtain ⟨rfl, rfl⟩ := some2 hm
                exact retM (rs := [.tmp 2, .tmp 3]) [.slice none 0 0, .int .i64 (5)] (hle12660.trans (hle12765.trans (hle20971.trans hle25211))) (by decide) rfl ⟨rfl, ⟨rfl, trivial⟩⟩ rfl (hp' := ([] ++ R)) (sub_skip hs25213 (.refl _)) ⟨none, 0, [], rfl, rfl, OS.nil⟩
              ·
                rw [if_neg (of_decide_eq_false hc25257)] at hm
                refine c_skip ?_
                refine x_then_normal ?_
                refine c_region ?_
                refine t_st rfl (st_move rfl) ?_
                refine t_st rfl (st_move rfl) ?_
                obtain ⟨x25259, h25260, hm⟩ := bindS hm
                obtain ⟨j25261, hj25262, hx25263⟩ := idx_some h25260
                obtain ⟨cs25264, hs25269, P25270, P25271, hq25272, hr25265, hcs25266, hA25267, hlt25268, hb25273, hho25274⟩ := OS.get (sz := 1) rfl (by decide) h25214 hx25263
                obtain ⟨v25275, rfl, h25276⟩ := hr25265
                obtain ⟨A25277, c25278, rfl, _⟩ := h25276.form
                refine t_st rfl (st_index_old j25261 rfl rfl hj25262 hlt25268 hA25267 sl45) ?_
                refine t_st rfl (st_load_rd rfl one22 (fun w ho => hcs25266 w _ ho (List.sublist_append_left _ _) 0 _ rfl)) ?_
                refine t_st rfl (st_move rfl) ?_
                obtain ⟨x25279, h25280, hm⟩ := bindS hm
                obtain ⟨j25281, hj25282, hx25283⟩ := idx_some h25280
                obtain ⟨cs25284, hs25289, P25290, P25291, hq25292, hr25285, hcs25286, hA25287, hlt25288, hb25293, _⟩ := OS.get (sz := 1) rfl (by decide) h25276 hx25283
                obtain ⟨rfl, rfl⟩ := hr25285
                have hcs25294 := fun (w : World) (hp : Hp) (ho : Own b25210 hp w) (hh : hs25213.Sublist hp) => hcs25286 w hp ho ((show hs25269.Sublist hs25213 by rw [hq25272]; exact sub_skip _ (List.sublist_append_left _ _)).trans hh)
                refine t_st rfl (st_index_old j25281 rfl rfl hj25282 hlt25288 hA25287 sl22) ?_
                refine t_do rfl (u_putIn hj25262 hj25282 (z' := 0) (sz := 1) rfl [] R 0 1 [.int .i64 (0)] rfl rfl hq25272 h25276 hb25273 hx25283 rfl rfl rfl siz3 rfl (by intro u hu; simp only [List.mem_cons, List.not_mem_nil, or_false] at hu; subst hu; rfl) (fun cs hsj hh => by obtain ⟨rfl, rfl⟩ := hh; exact ⟨by decide, rfl, rfl⟩)) ?_
                rintro _ _ ⟨hs25295, rfl, h25296⟩
                refine t_resp 5 rfl (v' := .slice A12669 (put l25215 (k25217 : Int) (put x25259 (k25217 : Int) 0)).length c12670) (by simp only [put_length]) ?_
                refine t_nil ?_
                refine x_block_normal ?_
                refine x_then_normal ?_
                refine c_region ?_
                refine t_st rfl (st_add rfl rfl (by omega)) ?_
                refine t_st rfl (st_move rfl) ?_
                refine t_nil ?_
                exact x_againM (put l25215 (k25217 : Int) (put x25259 (k25217 : Int) 0)) (Option.some.inj hm).symm (e' := [(5, .slice A12669 (put l25215 (k25217 : Int) (put x25259 (k25217 : Int) 0)).length c12670), (105, .int .i64 ((l20975.length : Int))), (106, .int .i64 ((k25217 : Int) + 1))]) (hp' := (hs25295 ++ R)) ⟨rfl, rfl, rfl, trivial⟩ (sub_app hs25295 (.refl _)) ⟨hs25295, rfl, rfl, (hle25211), h25296, ((put_length _ _ _).trans hln25216)⟩
            ·
              rintro l25215 b25210 _ _ ⟨hs25213, rfl, rfl, hle25211, h25214, hln25216⟩ hq25297
              rw [hq25297] at hk25220
              have hm := elimL hk25220
              refine c_seq ?_
              refine c_region ?_
              refine t_st rfl (st_lss_f rfl rfl (by omega)) ?_
              refine t_nil ?_
              refine x_then_normal ?_
              refine c_seq ?_
              refine c_cond_f rfl ?_
              refine c_exit ?_
              refine x_then_exit ?_
              refine x_then_exit ?_
              refine x_block_out ?_
              refine x_then_normal ?_
              refine c_seq ?_
              refine c_region ?_
              refine t_st rfl (st_move rfl) ?_
              refine t_st rfl (st_assign rfl) ?_
              refine t_st rfl (st_assign rfl) ?_
              refine t_nil ?_
              refine x_then_normal ?_
              refine c_ret ?_
              obtain ⟨rfl, rfl⟩ := some2 hm
              exact retM (rs := [.tmp 2, .tmp 3]) [.slice A12669 (l25215).length c12670, .int .i64 (0)] (hle12660.trans (hle12765.trans (hle20971.trans hle25211))) (by decide) rfl ⟨rfl, ⟨rfl, trivial⟩⟩ rfl (hp' := (hs25213 ++ R)) (sub_app hs25213 (.refl _)) ⟨A12669, c12670, hs25213, rfl, rfl, h25214⟩

set_option maxRecDepth 20000 in
theorem cFishkeep2Wide (b : Base) (R : Hp) (l4 : (List (List Int))) (A1 : Option Addr) (c2 : Nat) (h3 : FZ (RT.list (RT.int .i64)) b.w A1 c2 l4) (x136 : Bool) (hm : mFishkeep2Wide l4 = some x136) :
    CallsG Try.prog 20 [.slice A1 (l4).length c2] b (R) (fun v b' hp' => .bool (x136) = v ∧ R = hp') := by
  refine fn_enterG 31 Try.func20 rfl Try.ntmps20 rfl ?_
  unfold mFishkeep2Wide at hm
  refine c_seq ?_
  refine c_region ?_
  refine t_st rfl (st_assign rfl) ?_
  refine t_nil ?_
  refine x_then_normal ?_
  refine c_seq ?_
  refine c_seq ?_
  refine c_region ?_
  refine t_st rfl (st_move rfl) ?_
  refine t_st rfl (st_len rfl sl45) ?_
  refine t_st rfl (st_move rfl) ?_
  refine t_nil ?_
  refine x_then_normal ?_
  refine c_block ?_
  have hb138 := (FZ.bd h3)
  obtain ⟨t202, hl203, hk204⟩ := bindS hm
  refine c_forM (fun k201 => fun _ => fun b199 e' hp' => [(7, .slice A1 (l4).length c2), (8, .int .i64 ((l4.length : Int))), (9, .int .i64 ((k201 : Int)))] = e' ∧ R = hp' ∧ b.Le b199) hl203 (e' := [(7, .slice A1 (l4).length c2), (8, .int .i64 ((l4.length : Int))), (9, .int .i64 0)]) (hp' := R) ⟨rfl, rfl, rfl, trivial⟩ (.refl _) ⟨rfl, rfl, (Base.Le.refl _)⟩ ?_ ?_
  ·
    rintro k201 _ b199 _ _ oL137 hknL137 ⟨rfl, rfl, hle200⟩ hstepL137 houtL137
    unfold mFishkeep2Wide_L137 at hstepL137
    have hm := hstepL137
    refine c_seq ?_
    refine c_region ?_
    refine t_st rfl (st_lss_t rfl rfl (by omega)) ?_
    refine t_nil ?_
    refine x_then_normal ?_
    refine c_seq ?_
    refine c_cond_t rfl ?_
    refine c_skip ?_
    refine x_then_normal ?_
    refine c_seq ?_
    refine c_block ?_
    refine c_seq ?_
    refine c_region ?_
    obtain ⟨x205, h206, hm⟩ := bindS hm
    obtain ⟨j207, hj208, hx209⟩ := idx_some h206
    obtain ⟨cs210, hr211, hcs212, hA213, hlt214⟩ := FZ.get (sz := 1) rfl (by decide) (h3.le hle200) hx209
    obtain ⟨A215, c216, rfl, h217⟩ := hr211
    refine t_st rfl (st_index_old j207 rfl rfl hj208 hlt214 hA213 sl45) ?_
    refine t_st rfl (st_load_old rfl one22 (hcs212 0 _ rfl)) ?_
    refine t_st rfl (st_assign rfl) ?_
    refine t_nil ?_
    refine x_then_normal ?_
    refine c_seq ?_
    refine c_region ?_
    refine t_st rfl (st_move rfl) ?_
    refine t_st rfl (st_len rfl sl22) ?_
    refine t_st rfl (st_move rfl) ?_
    refine t_nil ?_
    refine x_then_normal ?_
    refine c_block ?_
    have hb219 := (FZ.bd h217)
    obtain ⟨t242, hl243, hk244⟩ := bindS hm
    refine c_forM (fun k241 => fun _ => fun b239 e' hp' => [(7, .slice A1 (l4).length c2), (8, .int .i64 ((l4.length : Int))), (9, .int .i64 ((k201 : Int))), (13, .slice A215 (x205).length c216), (14, .int .i64 ((x205.length : Int))), (15, .int .i64 ((k241 : Int)))] = e' ∧ R = hp' ∧ b199.Le b239) hl243 (e' := [(7, .slice A1 (l4).length c2), (8, .int .i64 ((l4.length : Int))), (9, .int .i64 ((k201 : Int))), (13, .slice A215 (x205).length c216), (14, .int .i64 ((x205.length : Int))), (15, .int .i64 0)]) (hp' := R) ⟨rfl, rfl, rfl, rfl, rfl, rfl, trivial⟩ (.refl _) ⟨rfl, rfl, (Base.Le.refl _)⟩ ?_ ?_
    ·
      rintro k241 _ b239 _ _ oL218 hknL218 ⟨rfl, rfl, hle240⟩ hstepL218 houtL218
      unfold mFishkeep2Wide_L218 at hstepL218
      have hm := hstepL218
      refine c_seq ?_
      refine c_region ?_
      refine t_st rfl (st_lss_t rfl rfl (by omega)) ?_
      refine t_nil ?_
      refine x_then_normal ?_
      refine c_seq ?_
      refine c_cond_t rfl ?_
      refine c_skip ?_
      refine x_then_normal ?_
      refine c_seq ?_
      refine c_block ?_
      refine c_seq ?_
      refine c_region ?_
      obtain ⟨x245, h246, hm⟩ := bindS hm
      obtain ⟨j247, hj248, hx249⟩ := idx_some h246
      obtain ⟨cs250, hr251, hcs252, hA253, hlt254⟩ := FZ.get (sz := 1) rfl (by decide) (h217.le hle240) hx249
      obtain rfl := hr251
      refine t_st rfl (st_index_old j247 rfl rfl hj248 hlt254 hA253 sl22) ?_
      refine t_st rfl (st_load_old rfl one3 (hcs252 0 _ rfl)) ?_
      refine t_st rfl (st_assign rfl) ?_
      refine t_nil ?_
      refine x_then_normal ?_
      obtain ⟨x259, hj260, hk260⟩ := bindS hm
      refine c_join (fun b257 e' hp' => [(7, .slice A1 (l4).length c2), (8, .int .i64 ((l4.length : Int))), (9, .int .i64 ((k201 : Int))), (13, .slice A215 (x205).length c216), (14, .int .i64 ((x205.length : Int))), (15, .int .i64 ((k241 : Int))), (28, .bool (x259))] = e' ∧ R = hp' ∧ b239.Le b257) ?_ ?_
      ·
        have hm := hj260
        refine c_region ?_
        refine t_st rfl (st_move rfl) ?_
        refine t_bool rfl (st_neq rfl rfl) (fun hc261 => ?_) (fun hc261 => ?_)
        ·
          rw [if_pos hc261] at hm
          refine t_st rfl (st_move rfl) ?_
          refine t_yes 21 rfl rfl rfl ?_
          refine t_st rfl (st_move rfl) ?_
          refine t_yes 21 rfl rfl rfl ?_
          refine t_bool rfl (st_lss rfl rfl) (fun hc262 => ?_) (fun hc262 => ?_)
          ·
            rw [if_pos hc262] at hm
            refine t_yes 21 rfl rfl rfl ?_
            refine t_st rfl (st_move rfl) ?_
            refine t_no 24 rfl rfl rfl rfl rfl ?_
            refine t_no 24 rfl rfl rfl rfl rfl ?_
            refine t_yes 21 rfl rfl rfl ?_
            refine t_st rfl (st_pick_t rfl rfl) ?_
            refine t_st rfl (st_pick_t rfl rfl) ?_
            refine t_nil ?_
            obtain rfl := some1 hm
            exact x_join (e' := [(7, .slice A1 (l4).length c2), (8, .int .i64 ((l4.length : Int))), (9, .int .i64 ((k201 : Int))), (13, .slice A215 (x205).length c216), (14, .int .i64 ((x205.length : Int))), (15, .int .i64 ((k241 : Int))), (28, .bool (true))]) (hp' := R) ⟨rfl, rfl, rfl, rfl, rfl, rfl, rfl, trivial⟩ (.refl _) ⟨rfl, rfl, (Base.Le.refl _)⟩
          ·
            rw [if_neg hc262] at hm
            refine t_yes 21 rfl rfl rfl ?_
            refine t_st rfl (st_move rfl) ?_
            refine t_yes 24 rfl rfl rfl ?_
            refine t_st rfl (st_move rfl) ?_
            refine t_yes 24 rfl rfl rfl ?_
            refine t_st rfl (st_gtr rfl rfl) ?_
            refine t_yes 21 rfl rfl rfl ?_
            refine t_st rfl (st_pick_f rfl rfl) ?_
            refine t_st rfl (st_pick_t rfl rfl) ?_
            refine t_nil ?_
            obtain rfl := some1 hm
            exact x_join (e' := [(7, .slice A1 (l4).length c2), (8, .int .i64 ((l4.length : Int))), (9, .int .i64 ((k201 : Int))), (13, .slice A215 (x205).length c216), (14, .int .i64 ((x205.length : Int))), (15, .int .i64 ((k241 : Int))), (28, .bool (decide (1099511627776 < x245)))]) (hp' := R) ⟨rfl, rfl, rfl, rfl, rfl, rfl, rfl, trivial⟩ (.refl _) ⟨rfl, rfl, (Base.Le.refl _)⟩
        ·
          rw [if_neg hc261] at hm
          refine t_st rfl (st_move rfl) ?_
          refine t_no 21 rfl rfl rfl rfl rfl ?_
          refine t_no 21 rfl rfl rfl rfl rfl ?_
          refine t_no 21 rfl rfl rfl rfl rfl ?_
          refine t_no 24 rfl rfl rfl rfl rfl ?_
          refine t_no 24 rfl rfl rfl rfl rfl ?_
          refine t_no 21 rfl rfl rfl rfl rfl ?_
          refine t_st rfl (st_pick_f rfl rfl) ?_
          refine t_nil ?_
          obtain rfl := some1 hm
          exact x_join (e' := [(7, .slice A1 (l4).length c2), (8, .int .i64 ((l4.length : Int))), (9, .int .i64 ((k201 : Int))), (13, .slice A215 (x205).length c216), (14, .int .i64 ((x205.length : Int))), (15, .int .i64 ((k241 : Int))), (28, .bool (false))]) (hp' := R) ⟨rfl, rfl, rfl, rfl, rfl, rfl, rfl, trivial⟩ (.refl _) ⟨rfl, rfl, (Base.Le.refl _)⟩
      ·
        rintro b257 _ _ ⟨rfl, rfl, hle258⟩
        have hm := hk260
        refine c_cond _ rfl (fun hc263 => ?_) (fun hc263 => ?_)
        ·
          rw [if_pos hc263] at hm
          refine c_seq ?_
          refine c_region ?_
          refine t_st rfl (st_assign rfl) ?_
          refine t_nil ?_
          refine x_then_normal ?_
          refine c_ret ?_
          refine x_block_ret ?_
          refine x_then_ret ?_
          refine x_then_ret ?_
          refine x_block_ret ?_
          refine x_block_ret ?_
          refine x_then_ret ?_
          refine x_then_ret ?_
          refine x_block_ret ?_
          refine x_then_ret ?_
          have hq264 := houtL218 _ (Option.some.inj hm).symm
          rw [hq264] at hk244
          have hm := elimR hk244
          have hq265 := houtL137 _ (Option.some.inj hm).symm
          rw [hq265] at hk204
          have hm := elimR hk204
          obtain rfl := some1 hm
          exact retM (rs := [.tmp 2]) [.bool (true)] (hle200.trans (hle240.trans hle258)) (by decide) rfl ⟨rfl, trivial⟩ rfl (hp' := R) (.refl _) ⟨rfl, rfl⟩
        ·
          rw [if_neg (fun hh => Bool.noConfusion (hh.symm.trans hc263))] at hm
          refine c_skip ?_
          refine x_block_normal ?_
          refine x_then_normal ?_
          refine c_region ?_
          refine t_st rfl (st_add rfl rfl (by omega)) ?_
          refine t_st rfl (st_move rfl) ?_
          refine t_nil ?_
          exact x_againM () (Option.some.inj hm).symm (e' := [(7, .slice A1 (l4).length c2), (8, .int .i64 ((l4.length : Int))), (9, .int .i64 ((k201 : Int))), (13, .slice A215 (x205).length c216), (14, .int .i64 ((x205.length : Int))), (15, .int .i64 ((k241 : Int) + 1))]) (hp' := R) ⟨rfl, rfl, rfl, rfl, rfl, rfl, trivial⟩ (.refl _) ⟨rfl, rfl, ((hle240.trans hle258))⟩
    ·
      rintro _ b239 _ _ ⟨rfl, rfl, hle240⟩ hq266
      rw [hq266] at hk244
      have hm := elimL hk244
      refine c_seq ?_
      refine c_region ?_
      refine t_st rfl (st_lss_f rfl rfl (by omega)) ?_
      refine t_nil ?_
      refine x_then_normal ?_
      refine c_seq ?_
      refine c_cond_f rfl ?_
      refine c_exit ?_
      refine x_then_exit ?_
      refine x_then_exit ?_
      refine x_block_out ?_
      refine x_block_normal ?_
      refine x_then_normal ?_
      refine c_region ?_
      refine t_st rfl (st_add rfl rfl (by omega)) ?_
      refine t_st rfl (st_move rfl) ?_
      refine t_nil ?_
      exact x_againM () (Option.some.inj hm).symm (e' := [(7, .slice A1 (l4).length c2), (8, .int .i64 ((l4.length : Int))), (9, .int .i64 ((k201 : Int) + 1))]) (hp' := R) ⟨rfl, rfl, rfl, trivial⟩ (.refl _) ⟨rfl, rfl, ((hle200.trans hle240))⟩
  ·
    rintro _ b199 _ _ ⟨rfl, rfl, hle200⟩ hq267
    rw [hq267] at hk204
    have hm := elimL hk204
    refine c_seq ?_
    refine c_region ?_
    refine t_st rfl (st_lss_f rfl rfl (by omega)) ?_
    refine t_nil ?_
    refine x_then_normal ?_
    refine c_seq ?_
    refine c_cond_f rfl ?_
    refine c_exit ?_
    refine x_then_exit ?_
    refine x_then_exit ?_
    refine x_block_out ?_
    refine x_then_normal ?_
    refine c_seq ?_
    refine c_region ?_
    refine t_st rfl (st_assign rfl) ?_
    refine t_nil ?_
    refine x_then_normal ?_
    refine c_ret ?_
    obtain rfl := some1 hm
    exact retM (rs := [.tmp 2]) [.bool (false)] hle200 (by decide) rfl ⟨rfl, trivial⟩ rfl (hp' := R) (.refl _) ⟨rfl, rfl⟩

set_option maxRecDepth 20000 in
theorem cSlicesEqualFunc (b : Base) (R : Hp) (l4 : (List (List Int))) (l8 : (List (List Int))) (A1 : Option Addr) (c2 : Nat) (A5 : Option Addr) (c6 : Nat) (h3 : FZ (RT.list (RT.int .i64)) b.w A1 c2 l4) (h7 : FZ (RT.list (RT.int .i64)) b.w A5 c6 l8) (x78 : Bool) (hm : mSlicesEqualFunc l4 l8 = some x78) :
    CallsG Try.prog 21 [.slice A1 (l4).length c2, .slice A5 (l8).length c6, .func (.func 22) #[] #[]] b (R) (fun v b' hp' => .bool (x78) = v ∧ R = hp') := by
  refine fn_enterG 32 Try.func21 rfl Try.ntmps21 rfl ?_
  unfold mSlicesEqualFunc at hm
  refine c_seq ?_
  refine c_region ?_
  refine t_st rfl (st_assign rfl) ?_
  refine t_nil ?_
  refine x_then_normal ?_
  refine c_seq ?_
  refine c_seq ?_
  refine c_region ?_
  refine t_st rfl (st_move rfl) ?_
  refine t_st rfl (st_len rfl sl45) ?_
  refine t_st rfl (st_move rfl) ?_
  refine t_st rfl (st_len rfl sl45) ?_
  refine t_st rfl (st_neq rfl rfl) ?_
  refine t_nil ?_
  refine x_then_normal ?_
  refine c_cond _ rfl (fun hc79 => ?_) (fun hc79 => ?_)
  ·
    rw [if_pos (of_decide_eq_true hc79)] at hm
    refine c_seq ?_
    refine c_region ?_
    refine t_st rfl (st_assign rfl) ?_
    refine t_nil ?_
    refine x_then_normal ?_
    refine c_ret ?_
    refine x_then_ret ?_
    obtain rfl := some1 hm
    exact retM (rs := [.tmp 6]) [.bool (false)] (Base.Le.refl _) (by decide) rfl ⟨rfl, trivial⟩ rfl (hp' := R) (.refl _) ⟨rfl, rfl⟩
  ·
    rw [if_neg (of_decide_eq_false hc79)] at hm
    refine c_skip ?_
    refine x_then_normal ?_
    refine c_seq ?_
    refine c_seq ?_
    refine c_region ?_
    refine t_st rfl (st_move rfl) ?_
    refine t_st rfl (st_len rfl sl45) ?_
    refine t_st rfl (st_move rfl) ?_
    refine t_nil ?_
    refine x_then_normal ?_
    refine c_block ?_
    have hb81 := (FZ.bd h3)
    obtain ⟨t114, hl115, hk116⟩ := bindS hm
    refine c_forM (fun k113 => fun _ => fun b111 e' hp' => [(1, .slice A5 (l8).length c6), (2, .func (.func 22) #[] #[]), (15, .slice A1 (l4).length c2), (16, .int .i64 ((l4.length : Int))), (17, .int .i64 ((k113 : Int)))] = e' ∧ R = hp' ∧ b.Le b111) hl115 (e' := [(1, .slice A5 (l8).length c6), (2, .func (.func 22) #[] #[]), (15, .slice A1 (l4).length c2), (16, .int .i64 ((l4.length : Int))), (17, .int .i64 0)]) (hp' := R) ⟨rfl, rfl, rfl, rfl, rfl, trivial⟩ (.refl _) ⟨rfl, rfl, (Base.Le.refl _)⟩ ?_ ?_
    ·
      rintro k113 _ b111 _ _ oL80 hknL80 ⟨rfl, rfl, hle112⟩ hstepL80 houtL80
      unfold mSlicesEqualFunc_L80 at hstepL80
      have hm := hstepL80
      refine c_seq ?_
      refine c_region ?_
      refine t_st rfl (st_lss_t rfl rfl (by omega)) ?_
      refine t_nil ?_
      refine x_then_normal ?_
      refine c_seq ?_
      refine c_cond_t rfl ?_
      refine c_skip ?_
      refine x_then_normal ?_
      refine c_seq ?_
      refine c_block ?_
      refine c_seq ?_
      refine c_region ?_
      refine t_st rfl (st_move rfl) ?_
      obtain ⟨x117, h118, hm⟩ := bindS hm
      obtain ⟨j119, hj120, hx121⟩ := idx_some h118
      obtain ⟨cs122, hr123, hcs124, hA125, hlt126⟩ := FZ.get (sz := 1) rfl (by decide) (h3.le hle112) hx121
      obtain ⟨A127, c128, rfl, h129⟩ := hr123
      refine t_st rfl (st_index_old j119 rfl rfl hj120 hlt126 hA125 sl45) ?_
      refine t_st rfl (st_load_old rfl one22 (hcs124 0 _ rfl)) ?_
      refine t_st rfl (st_assign rfl) ?_
      refine t_st rfl (st_assign rfl) ?_
      refine t_nil ?_
      refine x_then_normal ?_
      refine c_seq ?_
      refine c_region ?_
      refine t_st rfl (st_move rfl) ?_
      refine t_st rfl (st_move rfl) ?_
      obtain ⟨x130, h131, hm⟩ := bindS hm
      obtain ⟨j132, hj133, hx134⟩ := idx_some h131
      obtain ⟨cs135, hr136, hcs137, hA138, hlt139⟩ := FZ.get (sz := 1) rfl (by decide) (h7.le hle112) hx134
      obtain ⟨A140, c141, rfl, h142⟩ := hr136
      refine t_st rfl (st_index_old j132 rfl rfl hj133 hlt139 hA138 sl45) ?_
      refine t_st rfl (st_load_old rfl one22 (hcs137 0 _ rfl)) ?_
      refine t_st rfl (st_assign rfl) ?_
      refine t_nil ?_
      refine x_then_normal ?_
      refine c_seq ?_
      refine c_region ?_
      refine t_st rfl (st_move rfl) ?_
      refine t_st rfl (st_move rfl) ?_
      refine t_st rfl (st_move rfl) ?_
      obtain ⟨x143, hcl144, hm⟩ := bindS hm
      refine t_do rfl (u_callvW0 #[] #[] [.slice A127 (x117).length c128, .slice A140 (x130).length c141] rfl call22 rfl (fun w ho => cSlicesEqual _ [] x117 x130 A127 c128 A140 c141 (h129.old ho) (h142.old ho) x143 hcl144) (fun _ _ _ h => h.2.symm)) ?_
      rintro _ _ ⟨⟨_, rfl, _⟩, rfl⟩
      refine t_st rfl (st_not rfl) ?_
      refine t_nil ?_
      refine x_then_normal ?_
      refine c_cond _ rfl (fun hc145 => ?_) (fun hc145 => ?_)
      ·
        rw [if_neg (fun hh => Bool.noConfusion (hh.symm.trans (notT hc145)))] at hm
        refine c_seq ?_
        refine c_region ?_
        refine t_st rfl (st_assign rfl) ?_
        refine t_nil ?_
        refine x_then_normal ?_
        refine c_ret ?_
        refine x_block_ret ?_
        refine x_then_ret ?_
        refine x_then_ret ?_
        refine x_block_ret ?_
        refine x_then_ret ?_
        have hq146 := houtL80 _ (Option.some.inj hm).symm
        rw [hq146] at hk116
        have hm := elimR hk116
        obtain rfl := some1 hm
        exact retM (rs := [.tmp 6]) [.bool (false)] hle112 (by decide) rfl ⟨rfl, trivial⟩ rfl (hp' := R) (.refl _) ⟨rfl, rfl⟩
      ·
        rw [if_pos (notF hc145)] at hm
        refine c_skip ?_
        refine x_block_normal ?_
        refine x_then_normal ?_
        refine c_region ?_
        refine t_st rfl (st_add rfl rfl (by omega)) ?_
        refine t_st rfl (st_move rfl) ?_
        refine t_nil ?_
        exact x_againM () (Option.some.inj hm).symm (e' := [(1, .slice A5 (l8).length c6), (2, .func (.func 22) #[] #[]), (15, .slice A1 (l4).length c2), (16, .int .i64 ((l4.length : Int))), (17, .int .i64 ((k113 : Int) + 1))]) (hp' := R) ⟨rfl, rfl, rfl, rfl, rfl, trivial⟩ (.refl _) ⟨rfl, rfl, (hle112)⟩
    ·
      rintro _ b111 _ _ ⟨rfl, rfl, hle112⟩ hq147
      rw [hq147] at hk116
      have hm := elimL hk116
      refine c_seq ?_
      refine c_region ?_
      refine t_st rfl (st_lss_f rfl rfl (by omega)) ?_
      refine t_nil ?_
      refine x_then_normal ?_
      refine c_seq ?_
      refine c_cond_f rfl ?_
      refine c_exit ?_
      refine x_then_exit ?_
      refine x_then_exit ?_
      refine x_block_out ?_
      refine x_then_normal ?_
      refine c_seq ?_
      refine c_region ?_
      refine t_st rfl (st_assign rfl) ?_
      refine t_nil ?_
      refine x_then_normal ?_
      refine c_ret ?_
      obtain rfl := some1 hm
      exact retM (rs := [.tmp 6]) [.bool (true)] hle112 (by decide) rfl ⟨rfl, trivial⟩ rfl (hp' := R) (.refl _) ⟨rfl, rfl⟩

set_option maxRecDepth 20000 in
theorem cMendProduct_1 (b : Base) (R : Hp) (l5 : (List Int)) (l9 : (List (List Int))) (g1 : Nat) (A2 : Option Addr) (c3 : Nat) (A6 : Option Addr) (c7 : Nat) (h4 : FZ (RT.int .i64) b.w A2 c3 l5) (h8 : FZ (RT.list (RT.int .i64)) b.w A6 c7 l9) (x10 : Bool) (hm : mMendProduct_1 l5 l9 = some x10) :
    CallsG Try.prog 45 [.slice A2 (l5).length c3, .pointer (some ⟨g1, 0, none⟩)] b ((g1, Cl 45 [.slice A6 (l9).length c7]) :: R) (fun v b' hp' => .bool (x10) = v ∧ (g1, Cl 45 [.slice A6 (l9).length c7]) :: R = hp') := by
  refine fn_enterG 9 Try.func45 rfl Try.ntmps45 rfl ?_
  unfold mMendProduct_1 at hm
  refine c_seq ?_
  refine c_region ?_
  refine t_st rfl (st_assign rfl) ?_
  refine t_nil ?_
  refine x_then_normal ?_
  refine c_seq ?_
  refine c_region ?_
  refine t_st rfl (st_move rfl) ?_
  refine t_st rfl (st_len rfl sl22) ?_
  refine t_st rfl (st_load 0 rfl one45 rfl rfl) ?_
  refine t_st rfl (st_len rfl sl45) ?_
  refine t_st rfl (st_neq rfl rfl) ?_
  refine t_st rfl (st_assign rfl) ?_
  refine t_nil ?_
  refine x_then_normal ?_
  refine c_ret ?_
  obtain rfl := some1 hm
  exact retM (rs := [.tmp 3]) [.bool (decide ((l5.length : Int) ≠ (l9.length : Int)))] (Base.Le.refl _) (by decide) rfl ⟨rfl, trivial⟩ rfl (hp' := (g1, Cl 45 [.slice A6 (l9).length c7]) :: R) (.cons_cons _ (.refl _)) ⟨rfl, rfl⟩

set_option maxRecDepth 20000 in
theorem cSlicesIndexFunc_3 (b : Base) (R : Hp) (l5 : (List (List Int))) (l9 : (List (List Int))) (g1 : Nat) (A2 : Option Addr) (c3 : Nat) (A6 : Option Addr) (c7 : Nat) (h4 : FZ (RT.list (RT.int .i64)) b.w A2 c3 l5) (h8 : FZ (RT.list (RT.int .i64)) b.w A6 c7 l9) (x56 : Int) (hm : mSlicesIndexFunc_3 l5 l9 = some x56) :
    CallsG Try.prog 56 [.slice A2 (l5).length c3, .func (.func 45) #[] #[.pointer (some ⟨g1, 0, none⟩)]] b ((g1, Cl 45 [.slice A6 (l9).length c7]) :: R) (fun v b' hp' => .int .i64 (x56) = v ∧ (g1, Cl 45 [.slice A6 (l9).length c7]) :: R = hp') := by
  refine fn_enterG 19 Try.func56 rfl Try.ntmps56 rfl ?_
  unfold mSlicesIndexFunc_3 at hm
  refine c_seq ?_
  refine c_region ?_
  refine t_st rfl (st_assign rfl) ?_
  refine t_nil ?_
  refine x_then_normal ?_
  refine c_seq ?_
  refine c_seq ?_
  refine c_region ?_
  refine t_st rfl (st_move rfl) ?_
  refine t_st rfl (st_len rfl sl45) ?_
  refine t_st rfl (st_move rfl) ?_
  refine t_nil ?_
  refine x_then_normal ?_
  refine c_block ?_
  have hb58 := (FZ.bd h4)
  obtain ⟨t80, hl81, hk82⟩ := bindS hm
  refine c_forM (fun k79 => fun _ => fun b77 e' hp' => [(0, .slice A2 (l5).length c3), (1, .func (.func 45) #[] #[.pointer (some ⟨g1, 0, none⟩)]), (7, .int .i64 ((l5.length : Int))), (8, .int .i64 ((k79 : Int)))] = e' ∧ (g1, Cl 45 [.slice A6 (l9).length c7]) :: R = hp' ∧ b.Le b77) hl81 (e' := [(0, .slice A2 (l5).length c3), (1, .func (.func 45) #[] #[.pointer (some ⟨g1, 0, none⟩)]), (7, .int .i64 ((l5.length : Int))), (8, .int .i64 0)]) (hp' := (g1, Cl 45 [.slice A6 (l9).length c7]) :: R) ⟨rfl, rfl, rfl, rfl, trivial⟩ (.cons_cons _ (.refl _)) ⟨rfl, rfl, (Base.Le.refl _)⟩ ?_ ?_
  ·
    rintro k79 _ b77 _ _ oL57 hknL57 ⟨rfl, rfl, hle78⟩ hstepL57 houtL57
    unfold mSlicesIndexFunc_3_L57 at hstepL57
    have hm := hstepL57
    refine c_seq ?_
    refine c_region ?_
    refine t_st rfl (st_lss_t rfl rfl (by omega)) ?_
    refine t_nil ?_
    refine x_then_normal ?_
    refine c_seq ?_
    refine c_cond_t rfl ?_
    refine c_skip ?_
    refine x_then_normal ?_
    refine c_seq ?_
    refine c_block ?_
    refine c_seq ?_
    refine c_region ?_
    refine t_st rfl (st_move rfl) ?_
    refine t_st rfl (st_assign rfl) ?_
    refine t_nil ?_
    refine x_then_normal ?_
    refine c_seq ?_
    refine c_region ?_
    refine t_st rfl (st_move rfl) ?_
    refine t_st rfl (st_move rfl) ?_
    refine t_st rfl (st_move rfl) ?_
    obtain ⟨x83, h84, hm⟩ := bindS hm
    obtain ⟨j85, hj86, hx87⟩ := idx_some h84
    obtain ⟨cs88, hr89, hcs90, hA91, hlt92⟩ := FZ.get (sz := 1) rfl (by decide) (h4.le hle78) hx87
    obtain ⟨A93, c94, rfl, h95⟩ := hr89
    refine t_st rfl (st_index_old j85 rfl rfl hj86 hlt92 hA91 sl45) ?_
    refine t_st rfl (st_load_old rfl one22 (hcs90 0 _ rfl)) ?_
    obtain ⟨x96, hcl97, hm⟩ := bindS hm
    refine t_callvG #[] #[.pointer (some ⟨g1, 0, none⟩)] [.slice A93 (x83).length c94] rfl rfl call45 rfl (cMendProduct_1 _ _ x83 l9 g1 A93 c94 A6 c7 h95 (h8.le hle78) x96 hcl97) ?_
    rintro _ b98 _ hle99 ⟨rfl, rfl⟩
    refine t_nil ?_
    refine x_then_normal ?_
    refine c_cond _ rfl (fun hc100 => ?_) (fun hc100 => ?_)
    ·
      rw [if_pos hc100] at hm
      refine c_seq ?_
      refine c_region ?_
      refine t_st rfl (st_move rfl) ?_
      refine t_st rfl (st_assign rfl) ?_
      refine t_nil ?_
      refine x_then_normal ?_
      refine c_ret ?_
      refine x_block_ret ?_
      refine x_then_ret ?_
      refine x_then_ret ?_
      refine x_block_ret ?_
      refine x_then_ret ?_
      have hq101 := houtL57 _ (Option.some.inj hm).symm
      rw [hq101] at hk82
      have hm := elimR hk82
      obtain rfl := some1 hm
      exact retM (rs := [.tmp 4]) [.int .i64 ((k79 : Int))] (hle78.trans hle99) (by decide) rfl ⟨rfl, trivial⟩ rfl (hp' := (g1, Cl 45 [.slice A6 (l9).length c7]) :: R) (.cons_cons _ (.refl _)) ⟨rfl, rfl⟩
    ·
      rw [if_neg (fun hh => Bool.noConfusion (hh.symm.trans hc100))] at hm
      refine c_skip ?_
      refine x_block_normal ?_
      refine x_then_normal ?_
      refine c_region ?_
      refine t_st rfl (st_add rfl rfl (by omega)) ?_
      refine t_st rfl (st_move rfl) ?_
      refine t_nil ?_
      exact x_againM () (Option.some.inj hm).symm (e' := [(0, .slice A2 (l5).length c3), (1, .func (.func 45) #[] #[.pointer (some ⟨g1, 0, none⟩)]), (7, .int .i64 ((l5.length : Int))), (8, .int .i64 ((k79 : Int) + 1))]) (hp' := (g1, Cl 45 [.slice A6 (l9).length c7]) :: R) ⟨rfl, rfl, rfl, rfl, trivial⟩ (.cons_cons _ (.refl _)) ⟨rfl, rfl, ((hle78.trans hle99))⟩
  ·
    rintro _ b77 _ _ ⟨rfl, rfl, hle78⟩ hq102
    rw [hq102] at hk82
    have hm := elimL hk82
    refine c_seq ?_
    refine c_region ?_
    refine t_st rfl (st_lss_f rfl rfl (by omega)) ?_
    refine t_nil ?_
    refine x_then_normal ?_
    refine c_seq ?_
    refine c_cond_f rfl ?_
    refine c_exit ?_
    refine x_then_exit ?_
    refine x_then_exit ?_
    refine x_block_out ?_
    refine x_then_normal ?_
    refine c_seq ?_
    refine c_region ?_
    refine t_st rfl (st_assign rfl) ?_
    refine t_nil ?_
    refine x_then_normal ?_
    refine c_ret ?_
    obtain rfl := some1 hm
    exact retM (rs := [.tmp 4]) [.int .i64 ((-1))] hle78 (by decide) rfl ⟨rfl, trivial⟩ rfl (hp' := (g1, Cl 45 [.slice A6 (l9).length c7]) :: R) (.cons_cons _ (.refl _)) ⟨rfl, rfl⟩

set_option maxRecDepth 20000 in
theorem cSlicesContainsFunc_3 (b : Base) (R : Hp) (l5 : (List (List Int))) (l9 : (List (List Int))) (g1 : Nat) (A2 : Option Addr) (c3 : Nat) (A6 : Option Addr) (c7 : Nat) (h4 : FZ (RT.list (RT.int .i64)) b.w A2 c3 l5) (h8 : FZ (RT.list (RT.int .i64)) b.w A6 c7 l9) (x14 : Bool) (hm : mSlicesContainsFunc_3 l5 l9 = some x14) :
    CallsG Try.prog 29 [.slice A2 (l5).length c3, .func (.func 45) #[] #[.pointer (some ⟨g1, 0, none⟩)]] b ((g1, Cl 45 [.slice A6 (l9).length c7]) :: R) (fun v b' hp' => .bool (x14) = v ∧ (g1, Cl 45 [.slice A6 (l9).length c7]) :: R = hp') := by
  refine fn_enterG 9 Try.func29 rfl Try.ntmps29 rfl ?_
  unfold mSlicesContainsFunc_3 at hm
  refine c_seq ?_
  refine c_region ?_
  refine t_st rfl (st_assign rfl) ?_
  refine t_nil ?_
  refine x_then_normal ?_
  refine c_seq ?_
  refine c_region ?_
  refine t_st rfl (st_move rfl) ?_
  refine t_st rfl (st_move rfl) ?_
  obtain ⟨x15, hcl16, hm⟩ := bindS hm
  refine t_callG _ rfl call56 rfl (cSlicesIndexFunc_3 _ _ l5 l9 g1 A2 c3 A6 c7 h4 h8 x15 hcl16) ?_
  rintro _ b17 _ hle18 ⟨rfl, rfl⟩
  refine t_st rfl (st_geq rfl rfl) ?_
  refine t_st rfl (st_assign rfl) ?_
  refine t_nil ?_
  refine x_then_normal ?_
  refine c_ret ?_
  obtain rfl := some1 hm
  exact retM (rs := [.tmp 4]) [.bool (decide (0 ≤ x15))] hle18 (by decide) rfl ⟨rfl, trivial⟩ rfl (hp' := (g1, Cl 45 [.slice A6 (l9).length c7]) :: R) (.cons_cons _ (.refl _)) ⟨rfl, rfl⟩

set_option maxRecDepth 20000 in
theorem cMendProduct_2 (b : Base) (R : Hp) (l5 : (List Int)) (l9 : (List (List Int))) (g1 : Nat) (A2 : Option Addr) (c3 : Nat) (A6 : Option Addr) (c7 : Nat) (h4 : FZ (RT.int .i64) b.w A2 c3 l5) (h8 : FZ (RT.list (RT.int .i64)) b.w A6 c7 l9) (x23 : Bool) (hm : mMendProduct_2 l5 l9 = some x23) :
    CallsG Try.prog 46 [.slice A2 (l5).length c3, .pointer (some ⟨g1, 0, none⟩)] b ((g1, Cl 45 [.slice A6 (l9).length c7]) :: R) (fun v b' hp' => .bool (x23) = v ∧ (g1, Cl 45 [.slice A6 (l9).length c7]) :: R = hp') := by
  refine fn_enterG 11 Try.func46 rfl Try.ntmps46 rfl ?_
  unfold mMendProduct_2 at hm
  refine c_seq ?_
  refine c_region ?_
  refine t_st rfl (st_assign rfl) ?_
  refine t_nil ?_
  refine x_then_normal ?_
  refine c_seq ?_
  refine c_region ?_
  refine t_st rfl (st_move rfl) ?_
  refine t_st rfl (st_len rfl sl22) ?_
  refine t_st rfl (st_load 0 rfl one45 rfl rfl) ?_
  obtain ⟨x24, h25, hm⟩ := bindS hm
  obtain ⟨j26, hj27, hx28⟩ := idx_some h25
  obtain ⟨cs29, hr30, hcs31, hA32, hlt33⟩ := FZ.get (sz := 1) rfl (by decide) h8 hx28
  obtain ⟨A34, c35, rfl, h36⟩ := hr30
  refine t_st rfl (st_index_old j26 rfl rfl hj27 hlt33 hA32 sl45) ?_
  refine t_st rfl (st_load_old rfl one22 (hcs31 0 _ rfl)) ?_
  refine t_st rfl (st_len rfl sl22) ?_
  refine t_st rfl (st_neq rfl rfl) ?_
  refine t_st rfl (st_assign rfl) ?_
  refine t_nil ?_
  refine x_then_normal ?_
  refine c_ret ?_
  obtain rfl := some1 hm
  exact retM (rs := [.tmp 3]) [.bool (decide ((l5.length : Int) ≠ (x24.length : Int)))] (Base.Le.refl _) (by decide) rfl ⟨rfl, trivial⟩ rfl (hp' := (g1, Cl 45 [.slice A6 (l9).length c7]) :: R) (.cons_cons _ (.refl _)) ⟨rfl, rfl⟩

set_option maxRecDepth 20000 in
theorem cSlicesIndexFunc_4 (b : Base) (R : Hp) (l5 : (List (List Int))) (l9 : (List (List Int))) (g1 : Nat) (A2 : Option Addr) (c3 : Nat) (A6 : Option Addr) (c7 : Nat) (h4 : FZ (RT.list (RT.int .i64)) b.w A2 c3 l5) (h8 : FZ (RT.list (RT.int .i64)) b.w A6 c7 l9) (x56 : Int) (hm : mSlicesIndexFunc_4 l5 l9 = some x56) :
    CallsG Try.prog 56 [.slice A2 (l5).length c3, .func (.func 46) #[] #[.pointer (some ⟨g1, 0, none⟩)]] b ((g1, Cl 45 [.slice A6 (l9).length c7]) :: R) (fun v b' hp' => .int .i64 (x56) = v ∧ (g1, Cl 45 [.slice A6 (l9).length c7]) :: R = hp') := by
  refine fn_enterG 19 Try.func56 rfl Try.ntmps56 rfl ?_
  unfold mSlicesIndexFunc_4 at hm
  refine c_seq ?_
  refine c_region ?_
  refine t_st rfl (st_assign rfl) ?_
  refine t_nil ?_
  refine x_then_normal ?_
  refine c_seq ?_
  refine c_seq ?_
  refine c_region ?_
  refine t_st rfl (st_move rfl) ?_
  refine t_st rfl (st_len rfl sl45) ?_
  refine t_st rfl (st_move rfl) ?_
  refine t_nil ?_
  refine x_then_normal ?_
  refine c_block ?_
  have hb58 := (FZ.bd h4)
  obtain ⟨t80, hl81, hk82⟩ := bindS hm
  refine c_forM (fun k79 => fun _ => fun b77 e' hp' => [(0, .slice A2 (l5).length c3), (1, .func (.func 46) #[] #[.pointer (some ⟨g1, 0, none⟩)]), (7, .int .i64 ((l5.length : Int))), (8, .int .i64 ((k79 : Int)))] = e' ∧ (g1, Cl 45 [.slice A6 (l9).length c7]) :: R = hp' ∧ b.Le b77) hl81 (e' := [(0, .slice A2 (l5).length c3), (1, .func (.func 46) #[] #[.pointer (some ⟨g1, 0, none⟩)]), (7, .int .i64 ((l5.length : Int))), (8, .int .i64 0)]) (hp' := (g1, Cl 45 [.slice A6 (l9).length c7]) :: R) ⟨rfl, rfl, rfl, rfl, trivial⟩ (.cons_cons _ (.refl _)) ⟨rfl, rfl, (Base.Le.refl _)⟩ ?_ ?_
  ·
    rintro k79 _ b77 _ _ oL57 hknL57 ⟨rfl, rfl, hle78⟩ hstepL57 houtL57
    unfold mSlicesIndexFunc_4_L57 at hstepL57
    have hm := hstepL57
    refine c_seq ?_
    refine c_region ?_
    refine t_st rfl (st_lss_t rfl rfl (by omega)) ?_
    refine t_nil ?_
    refine x_then_normal ?_
    refine c_seq ?_
    refine c_cond_t rfl ?_
    refine c_skip ?_
    refine x_then_normal ?_
    refine c_seq ?_
    refine c_block ?_
    refine c_seq ?_
    refine c_region ?_
    refine t_st rfl (st_move rfl) ?_
    refine t_st rfl (st_assign rfl) ?_
    refine t_nil ?_
    refine x_then_normal ?_
    refine c_seq ?_
    refine c_region ?_
    refine t_st rfl (st_move rfl) ?_
    refine t_st rfl (st_move rfl) ?_
    refine t_st rfl (st_move rfl) ?_
    obtain ⟨x83, h84, hm⟩ := bindS hm
    obtain ⟨j85, hj86, hx87⟩ := idx_some h84
    obtain ⟨cs88, hr89, hcs90, hA91, hlt92⟩ := FZ.get (sz := 1) rfl (by decide) (h4.le hle78) hx87
    obtain ⟨A93, c94, rfl, h95⟩ := hr89
    refine t_st rfl (st_index_old j85 rfl rfl hj86 hlt92 hA91 sl45) ?_
    refine t_st rfl (st_load_old rfl one22 (hcs90 0 _ rfl)) ?_
    obtain ⟨x96, hcl97, hm⟩ := bindS hm
    refine t_callvG #[] #[.pointer (some ⟨g1, 0, none⟩)] [.slice A93 (x83).length c94] rfl rfl call46 rfl (cMendProduct_2 _ _ x83 l9 g1 A93 c94 A6 c7 h95 (h8.le hle78) x96 hcl97) ?_
    rintro _ b98 _ hle99 ⟨rfl, rfl⟩
    refine t_nil ?_
    refine x_then_normal ?_
    refine c_cond _ rfl (fun hc100 => ?_) (fun hc100 => ?_)
    ·
      rw [if_pos hc100] at hm
      refine c_seq ?_
      refine c_region ?_
      refine t_st rfl (st_move rfl) ?_
      refine t_st rfl (st_assign rfl) ?_
      refine t_nil ?_
      refine x_then_normal ?_
      refine c_ret ?_
      refine x_block_ret ?_
      refine x_then_ret ?_
      refine x_then_ret ?_
      refine x_block_ret ?_
      refine x_then_ret ?_
      have hq101 := houtL57 _ (Option.some.inj hm).symm
      rw [hq101] at hk82
      have hm := elimR hk82
      obtain rfl := some1 hm
      exact retM (rs := [.tmp 4]) [.int .i64 ((k79 : Int))] (hle78.trans hle99) (by decide) rfl ⟨rfl, trivial⟩ rfl (hp' := (g1, Cl 45 [.slice A6 (l9).length c7]) :: R) (.cons_cons _ (.refl _)) ⟨rfl, rfl⟩
    ·
      rw [if_neg (fun hh => Bool.noConfusion (hh.symm.trans hc100))] at hm
      refine c_skip ?_
      refine x_block_normal ?_
      refine x_then_normal ?_
      refine c_region ?_
      refine t_st rfl (st_add rfl rfl (by omega)) ?_
      refine t_st rfl (st_move rfl) ?_
      refine t_nil ?_
      exact x_againM () (Option.some.inj hm).symm (e' := [(0, .slice A2 (l5).length c3), (1, .func (.func 46) #[] #[.pointer (some ⟨g1, 0, none⟩)]), (7, .int .i64 ((l5.length : Int))), (8, .int .i64 ((k79 : Int) + 1))]) (hp' := (g1, Cl 45 [.slice A6 (l9).length c7]) :: R) ⟨rfl, rfl, rfl, rfl, trivial⟩ (.cons_cons _ (.refl _)) ⟨rfl, rfl, ((hle78.trans hle99))⟩
  ·
    rintro _ b77 _ _ ⟨rfl, rfl, hle78⟩ hq102
    rw [hq102] at hk82
    have hm := elimL hk82
    refine c_seq ?_
    refine c_region ?_
    refine t_st rfl (st_lss_f rfl rfl (by omega)) ?_
    refine t_nil ?_
    refine x_then_normal ?_
    refine c_seq ?_
    refine c_cond_f rfl ?_
    refine c_exit ?_
    refine x_then_exit ?_
    refine x_then_exit ?_
    refine x_block_out ?_
    refine x_then_normal ?_
    refine c_seq ?_
    refine c_region ?_
    refine t_st rfl (st_assign rfl) ?_
    refine t_nil ?_
    refine x_then_normal ?_
    refine c_ret ?_
    obtain rfl := some1 hm
    exact retM (rs := [.tmp 4]) [.int .i64 ((-1))] hle78 (by decide) rfl ⟨rfl, trivial⟩ rfl (hp' := (g1, Cl 45 [.slice A6 (l9).length c7]) :: R) (.cons_cons _ (.refl _)) ⟨rfl, rfl⟩

set_option maxRecDepth 20000 in
theorem cSlicesContainsFunc_4 (b : Base) (R : Hp) (l5 : (List (List Int))) (l9 : (List (List Int))) (g1 : Nat) (A2 : Option Addr) (c3 : Nat) (A6 : Option Addr) (c7 : Nat) (h4 : FZ (RT.list (RT.int .i64)) b.w A2 c3 l5) (h8 : FZ (RT.list (RT.int .i64)) b.w A6 c7 l9) (x14 : Bool) (hm : mSlicesContainsFunc_4 l5 l9 = some x14) :
    CallsG Try.prog 29 [.slice A2 (l5).length c3, .func (.func 46) #[] #[.pointer (some ⟨g1, 0, none⟩)]] b ((g1, Cl 45 [.slice A6 (l9).length c7]) :: R) (fun v b' hp' => .bool (x14) = v ∧ (g1, Cl 45 [.slice A6 (l9).length c7]) :: R = hp') := by
  refine fn_enterG 9 Try.func29 rfl Try.ntmps29 rfl ?_
  unfold mSlicesContainsFunc_4 at hm
  refine c_seq ?_
  refine c_region ?_
  refine t_st rfl (st_assign rfl) ?_
  refine t_nil ?_
  refine x_then_normal ?_
  refine c_seq ?_
  refine c_region ?_
  refine t_st rfl (st_move rfl) ?_
  refine t_st rfl (st_move rfl) ?_
  obtain ⟨x15, hcl16, hm⟩ := bindS hm
  refine t_callG _ rfl call56 rfl (cSlicesIndexFunc_4 _ _ l5 l9 g1 A2 c3 A6 c7 h4 h8 x15 hcl16) ?_
  rintro _ b17 _ hle18 ⟨rfl, rfl⟩
  refine t_st rfl (st_geq rfl rfl) ?_
  refine t_st rfl (st_assign rfl) ?_
  refine t_nil ?_
  refine x_then_normal ?_
  refine c_ret ?_
  obtain rfl := some1 hm
  exact retM (rs := [.tmp 4]) [.bool (decide (0 ≤ x15))] hle18 (by decide) rfl ⟨rfl, trivial⟩ rfl (hp' := (g1, Cl 45 [.slice A6 (l9).length c7]) :: R) (.cons_cons _ (.refl _)) ⟨rfl, rfl⟩

end Go.Proofs.Ytakehdnblmonlaa
