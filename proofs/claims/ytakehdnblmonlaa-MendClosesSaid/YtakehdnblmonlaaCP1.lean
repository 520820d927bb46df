/- Contracts: the code computes its model (part 1). -/
import Derived.Test.YtakehdnblmonlaaCT
set_option linter.unusedVariables false
set_option linter.unusedSimpArgs false
namespace Go.Proofs.Ytakehdnblmonlaa
open Go.RowKit Go.Fp

set_option maxRecDepth 20000 in
theorem cMendWithin (b : Base) (R : Hp) (x1 : Int) (x2 : Int) (x3 : Int) (x10 : Bool) (hm : mMendWithin x1 x2 x3 = some x10) :
    CallsG Try.prog 37 [.int .i64 (x1), .int .i64 (x2), .int .i64 (x3)] b (R) (fun v b' hp' => .bool (x10) = v ∧ R = hp') := by
  refine fn_enterG 15 Try.func37 rfl Try.ntmps37 rfl ?_
  unfold mMendWithin at hm
  refine c_seq ?_
  refine c_region ?_
  refine t_st rfl (st_assign rfl) ?_
  refine t_nil ?_
  refine x_then_normal ?_
  obtain ⟨x14, hj15, hk15⟩ := bindS hm
  refine c_join (fun b12 e' hp' => [(6, .bool (x14))] = e' ∧ R = hp' ∧ b.Le b12) ?_ ?_
  ·
    have hm := hj15
    refine c_region ?_
    refine t_st rfl (st_move rfl) ?_
    refine t_st rfl (st_move rfl) ?_
    refine t_bool rfl (st_geq rfl rfl) (fun hc16 => ?_) (fun hc16 => ?_)
    ·
      rw [if_pos hc16] at hm
      refine t_st rfl (st_move rfl) ?_
      refine t_yes 10 rfl rfl rfl ?_
      refine t_st rfl (st_move rfl) ?_
      refine t_yes 10 rfl rfl rfl ?_
      refine t_st rfl (st_move rfl) ?_
      refine t_yes 10 rfl rfl rfl ?_
      refine t_st rfl (st_leq rfl rfl) ?_
      refine t_st rfl (st_pick_t rfl rfl) ?_
      refine t_st rfl (st_assign rfl) ?_
      refine t_nil ?_
      obtain rfl := some1 hm
      exact x_join (e' := [(6, .bool (decide (x1 ≤ x3)))]) (hp' := R) ⟨rfl, trivial⟩ (.refl _) ⟨rfl, rfl, (Base.Le.refl _)⟩
    ·
      rw [if_neg hc16] at hm
      refine t_st rfl (st_move rfl) ?_
      refine t_no 10 rfl rfl rfl rfl rfl ?_
      refine t_no 10 rfl rfl rfl rfl rfl ?_
      refine t_no 10 rfl rfl rfl rfl rfl ?_
      refine t_st rfl (st_pick_f rfl rfl) ?_
      refine t_st rfl (st_assign rfl) ?_
      refine t_nil ?_
      obtain rfl := some1 hm
      exact x_join (e' := [(6, .bool (false))]) (hp' := R) ⟨rfl, trivial⟩ (.refl _) ⟨rfl, rfl, (Base.Le.refl _)⟩
  ·
    rintro b12 _ _ ⟨rfl, rfl, hle13⟩
    have hm := hk15
    refine c_ret ?_
    obtain rfl := some1 hm
    exact retM (rs := [.tmp 6]) [.bool (x14)] hle13 (by decide) rfl ⟨rfl, trivial⟩ rfl (hp' := R) (.refl _) ⟨rfl, rfl⟩

set_option maxRecDepth 20000 in
theorem cMendCheckArcs (b : Base) (R : Hp) (s1 : MendGraph) (l20 : (List MendArc)) (A2 : Option Addr) (c3 : Nat) (A5 : Option Addr) (c6 : Nat) (A8 : Option Addr) (c9 : Nat) (A11 : Option Addr) (c12 : Nat) (A14 : Option Addr) (c15 : Nat) (A17 : Option Addr) (c18 : Nat) (h4 : FZ (RT.int .i64) b.w A2 c3 s1.Ready) (h7 : FZ (RT.int .i64) b.w A5 c6 s1.Last) (h10 : FZ (RT.int .i64) b.w A8 c9 s1.Due) (h13 : FZ rMendArc b.w A11 c12 s1.Arcs) (h16 : FZ rMendChoice b.w A14 c15 s1.Choices) (h19 : FZ rMendArc b.w A17 c18 l20) (x102 : Int) (hm : mMendCheckArcs s1 l20 = some x102) :
    CallsG Try.prog 59 [.agg #[.slice A2 (s1.Ready).length c3, .slice A5 (s1.Last).length c6, .slice A8 (s1.Due).length c9, .slice A11 (s1.Arcs).length c12, .slice A14 (s1.Choices).length c15], .slice A17 (l20).length c18] b (R) (fun v b' hp' => .int .i64 (x102) = v ∧ R = hp') := by
  refine fn_enterG 44 Try.func59 rfl Try.ntmps59 rfl ?_
  unfold mMendCheckArcs at hm
  refine c_seq ?_
  refine c_region ?_
  refine t_do rfl (u_box _ rfl rfl) ?_
  rintro _ _ ⟨g103, rfl, rfl⟩
  refine t_st rfl (st_assign rfl) ?_
  refine t_nil ?_
  refine x_then_normal ?_
  refine c_seq ?_
  refine c_seq ?_
  refine c_region ?_
  refine t_st rfl (st_move rfl) ?_
  refine t_st rfl (st_len rfl sl23) ?_
  refine t_st rfl (st_move rfl) ?_
  refine t_nil ?_
  refine x_then_normal ?_
  refine c_block ?_
  have hb105 := (FZ.bd h19)
  obtain ⟨t143, hl144, hk145⟩ := bindS hm
  refine c_forM (fun k142 => fun _ => fun b140 e' hp' => [(2, .pointer (some ⟨g103, 0, none⟩)), (7, .slice A17 (l20).length c18), (8, .int .i64 ((l20.length : Int))), (9, .int .i64 ((k142 : Int)))] = e' ∧ (g103, Cl 26 [.slice A2 (s1.Ready).length c3, .slice A5 (s1.Last).length c6, .slice A8 (s1.Due).length c9, .slice A11 (s1.Arcs).length c12, .slice A14 (s1.Choices).length c15]) :: R = hp' ∧ b.Le b140) hl144 (e' := [(2, .pointer (some ⟨g103, 0, none⟩)), (7, .slice A17 (l20).length c18), (8, .int .i64 ((l20.length : Int))), (9, .int .i64 0)]) (hp' := (g103, Cl 26 [.slice A2 (s1.Ready).length c3, .slice A5 (s1.Last).length c6, .slice A8 (s1.Due).length c9, .slice A11 (s1.Arcs).length c12, .slice A14 (s1.Choices).length c15]) :: R) ⟨rfl, rfl, rfl, rfl, trivial⟩ (.cons_cons _ (.refl _)) ⟨rfl, rfl, (Base.Le.refl _)⟩ ?_ ?_
  ·
    rintro k142 _ b140 _ _ oL104 hknL104 ⟨rfl, rfl, hle141⟩ hstepL104 houtL104
    unfold mMendCheckArcs_L104 at hstepL104
    have hm := hstepL104
    refine c_seq ?_
    refine c_region ?_
    refine t_st rfl (st_lss_t rfl rfl (by omega)) ?_
    refine t_nil ?_
    refine x_then_normal ?_
    refine c_seq ?_
    refine c_cond_t rfl ?_
    refine c_skip ?_
    refine x_then_normal ?_
    refine c_seq ?_
    refine c_block ?_
    refine c_seq ?_
    refine c_region ?_
    obtain ⟨x146, h147, hm⟩ := bindS hm
    obtain ⟨j148, hj149, hx150⟩ := idx_some h147
    obtain ⟨cs151, hr152, hcs153, hA154, hlt155⟩ := FZ.get (sz := 3) rfl (by decide) (h19.le hle141) hx150
    obtain ⟨_, _, rfl, rfl, ⟨_, _, rfl, rfl, rfl⟩⟩ := hr152
    refine t_st rfl (st_index_old j148 rfl rfl hj149 hlt155 hA154 sl23) ?_
    refine t_st rfl (st_loadN_old (vs := [.int .i64 (x146.From), .int .i64 (x146.To), .int .i64 (x146.Len)]) 3 rfl agg34 hA154 rfl (fun j u hu => hcs153 j u hu)) ?_
    refine t_do rfl (u_alloc [.int .i64 0, .int .i64 0, .int .i64 0] zero34 rfl) ?_
    rintro _ _ ⟨g156, rfl, rfl⟩
    refine t_do rfl (u_storeN (vs := [_, _, _]) 0 3 rfl rfl rfl siz34 rfl (by intro u hu; simp only [List.mem_cons, List.not_mem_nil, or_false] at hu; rcases hu with rfl | rfl | rfl <;> rfl) rfl (by simp)) ?_
    rintro _ _ rfl
    refine t_nil ?_
    refine x_then_normal ?_
    refine c_block ?_
    obtain ⟨x166, hj167, hk167⟩ := bindS hm
    refine c_join (fun b164 e' hp' => [(2, .pointer (some ⟨g103, 0, none⟩)), (6, .pointer (some ⟨g156, 0, none⟩)), (7, .slice A17 (l20).length c18), (8, .int .i64 ((l20.length : Int))), (9, .int .i64 ((k142 : Int))), (13, .bool (x166))] = e' ∧ (g103, Cl 26 [.slice A2 (s1.Ready).length c3, .slice A5 (s1.Last).length c6, .slice A8 (s1.Due).length c9, .slice A11 (s1.Arcs).length c12, .slice A14 (s1.Choices).length c15]) :: (g156, Cl 34 [.int .i64 (x146.From), .int .i64 (x146.To), .int .i64 (x146.Len)]) :: R = hp' ∧ b140.Le b164) ?_ ?_
    ·
      have hm := hj167
      refine c_region ?_
      refine t_st rfl (st_field rfl fld34_0) ?_
      refine t_st rfl (st_load 0 rfl one3 rfl rfl) ?_
      refine t_st rfl (st_field rfl fld26_0) ?_
      refine t_st rfl (st_load 1 rfl one22 rfl rfl) ?_
      refine t_st rfl (st_len rfl sl22) ?_
      obtain ⟨_, h168, hm⟩ := bindS hm
      have h168 := (chk_some h168).2
      refine t_st rfl (st_sub rfl rfl h168) ?_
      obtain ⟨x169, hcl170, hm⟩ := bindS hm
      refine t_do rfl (u_callW0 _ call37 rfl (fun w ho => cMendWithin _ [] x146.From 0 ((s1.Ready.length : Int) - 1) x169 hcl170) (fun _ _ _ h => h.2.symm)) ?_
      rintro _ _ ⟨⟨_, rfl, _⟩, rfl⟩
      rcases Bool.eq_false_or_eq_true x169 with hc171 | hc171
      ·
        rw [if_pos hc171] at hm
        refine t_resp 20 rfl (v' := .bool true) (by rw [hc171] <;> rfl) ?_
        refine t_st rfl (st_not_t rfl) ?_
        refine t_st rfl (st_move rfl) ?_
        refine t_yes 22 rfl rfl rfl ?_
        refine t_st rfl (st_field rfl fld34_1) ?_
        refine t_yes 22 rfl rfl rfl ?_
        refine t_st rfl (st_load 0 rfl one3 rfl rfl) ?_
        refine t_yes 22 rfl rfl rfl ?_
        refine t_st rfl (st_field rfl fld26_0) ?_
        refine t_yes 22 rfl rfl rfl ?_
        refine t_st rfl (st_load 1 rfl one22 rfl rfl) ?_
        refine t_yes 22 rfl rfl rfl ?_
        refine t_st rfl (st_len rfl sl22) ?_
        refine t_yes 22 rfl rfl rfl ?_
        obtain ⟨_, h172, hm⟩ := bindS hm
        have h172 := (chk_some h172).2
        refine t_st rfl (st_sub rfl rfl h172) ?_
        refine t_yes 22 rfl rfl rfl ?_
        obtain ⟨x173, hcl174, hm⟩ := bindS hm
        refine t_do rfl (u_callW0 _ call37 rfl (fun w ho => cMendWithin _ [] x146.To 0 ((s1.Ready.length : Int) - 1) x173 hcl174) (fun _ _ _ h => h.2.symm)) ?_
        rintro _ _ ⟨⟨_, rfl, _⟩, rfl⟩
        refine t_yes 22 rfl rfl rfl ?_
        refine t_st rfl (st_not rfl) ?_
        refine t_st rfl (st_pick_f rfl rfl) ?_
        refine t_st rfl (st_assign rfl) ?_
        refine t_nil ?_
        obtain rfl := some1 hm
        refine x_pullb 1 rfl ?_
        exact x_join (e' := [(2, .pointer (some ⟨g103, 0, none⟩)), (6, .pointer (some ⟨g156, 0, none⟩)), (7, .slice A17 (l20).length c18), (8, .int .i64 ((l20.length : Int))), (9, .int .i64 ((k142 : Int))), (13, .bool (!x173))]) (hp' := (g103, Cl 26 [.slice A2 (s1.Ready).length c3, .slice A5 (s1.Last).length c6, .slice A8 (s1.Due).length c9, .slice A11 (s1.Arcs).length c12, .slice A14 (s1.Choices).length c15]) :: (g156, Cl 34 [.int .i64 (x146.From), .int .i64 (x146.To), .int .i64 (x146.Len)]) :: R) ⟨rfl, rfl, rfl, rfl, rfl, rfl, trivial⟩ (.cons_cons _ (.cons_cons _ (.refl _))) ⟨rfl, rfl, (Base.Le.refl _)⟩
      ·
        rw [if_neg (fun hh => Bool.noConfusion (hh.symm.trans hc171))] at hm
        refine t_resp 20 rfl (v' := .bool false) (by rw [hc171] <;> rfl) ?_
        refine t_st rfl (st_not_f rfl) ?_
        refine t_st rfl (st_move rfl) ?_
        refine t_no 22 rfl rfl rfl rfl rfl ?_
        refine t_no 22 rfl rfl rfl rfl rfl ?_
        refine t_no 22 rfl rfl rfl rfl rfl ?_
        refine t_no 22 rfl rfl rfl rfl rfl ?_
        refine t_no 22 rfl rfl rfl rfl rfl ?_
        refine t_no 22 rfl rfl rfl rfl rfl ?_
        refine t_no 22 rfl rfl rfl rfl rfl ?_
        refine t_no 22 rfl rfl rfl rfl rfl ?_
        refine t_st rfl (st_pick_t rfl rfl) ?_
        refine t_st rfl (st_assign rfl) ?_
        refine t_nil ?_
        obtain rfl := some1 hm
        refine x_pullb 1 rfl ?_
        exact x_join (e' := [(2, .pointer (some ⟨g103, 0, none⟩)), (6, .pointer (some ⟨g156, 0, none⟩)), (7, .slice A17 (l20).length c18), (8, .int .i64 ((l20.length : Int))), (9, .int .i64 ((k142 : Int))), (13, .bool (true))]) (hp' := (g103, Cl 26 [.slice A2 (s1.Ready).length c3, .slice A5 (s1.Last).length c6, .slice A8 (s1.Due).length c9, .slice A11 (s1.Arcs).length c12, .slice A14 (s1.Choices).length c15]) :: (g156, Cl 34 [.int .i64 (x146.From), .int .i64 (x146.To), .int .i64 (x146.Len)]) :: R) ⟨rfl, rfl, rfl, rfl, rfl, rfl, trivial⟩ (.cons_cons _ (.cons_cons _ (.refl _))) ⟨rfl, rfl, (Base.Le.refl _)⟩
    ·
      rintro b164 _ _ ⟨rfl, rfl, hle165⟩
      have hm := hk167
      refine c_cond _ rfl (fun hc175 => ?_) (fun hc175 => ?_)
      ·
        rw [if_pos hc175] at hm
        refine c_seq ?_
        refine c_region ?_
        refine t_st rfl (st_assign rfl) ?_
        refine t_nil ?_
        refine x_then_normal ?_
        refine c_ret ?_
        refine x_block_ret ?_
        refine x_block_ret ?_
        refine x_then_ret ?_
        refine x_then_ret ?_
        refine x_block_ret ?_
        refine x_then_ret ?_
        have hq176 := houtL104 _ (Option.some.inj hm).symm
        rw [hq176] at hk145
        have hm := elimR hk145
        obtain rfl := some1 hm
        exact retM (rs := [.tmp 4]) [.int .i64 (3)] (hle141.trans hle165) (by decide) rfl ⟨rfl, trivial⟩ rfl (hp' := R) (.cons _ (.cons _ (.refl _))) ⟨rfl, rfl⟩
      ·
        rw [if_neg (fun hh => Bool.noConfusion (hh.symm.trans hc175))] at hm
        refine c_seq ?_
        refine c_region ?_
        refine t_st rfl (st_field rfl fld34_0) ?_
        refine t_st rfl (st_load 1 rfl one3 rfl rfl) ?_
        refine t_st rfl (st_field rfl fld34_1) ?_
        refine t_st rfl (st_load 1 rfl one3 rfl rfl) ?_
        refine t_st rfl (st_eql rfl rfl) ?_
        refine t_st rfl (st_assign rfl) ?_
        refine t_nil ?_
        refine x_then_normal ?_
        refine c_cond _ rfl (fun hc177 => ?_) (fun hc177 => ?_)
        ·
          rw [if_pos (of_decide_eq_true hc177)] at hm
          refine c_seq ?_
          refine c_region ?_
          refine t_st rfl (st_assign rfl) ?_
          refine t_nil ?_
          refine x_then_normal ?_
          refine c_ret ?_
          refine x_block_ret ?_
          refine x_block_ret ?_
          refine x_then_ret ?_
          refine x_then_ret ?_
          refine x_block_ret ?_
          refine x_then_ret ?_
          have hq178 := houtL104 _ (Option.some.inj hm).symm
          rw [hq178] at hk145
          have hm := elimR hk145
          obtain rfl := some1 hm
          exact retM (rs := [.tmp 4]) [.int .i64 (1)] (hle141.trans hle165) (by decide) rfl ⟨rfl, trivial⟩ rfl (hp' := R) (.cons _ (.cons _ (.refl _))) ⟨rfl, rfl⟩
        ·
          rw [if_neg (of_decide_eq_false hc177)] at hm
          refine c_seq ?_
          refine c_region ?_
          refine t_st rfl (st_field rfl fld34_2) ?_
          refine t_st rfl (st_load 1 rfl one3 rfl rfl) ?_
          obtain ⟨x179, hcl180, hm⟩ := bindS hm
          refine t_do rfl (u_callW0 _ call37 rfl (fun w ho => cMendWithin _ [] x146.Len (-28800) 28800 x179 hcl180) (fun _ _ _ h => h.2.symm)) ?_
          rintro _ _ ⟨⟨_, rfl, _⟩, rfl⟩
          refine t_st rfl (st_not rfl) ?_
          refine t_st rfl (st_assign rfl) ?_
          refine t_nil ?_
          refine x_then_normal ?_
          refine c_cond _ rfl (fun hc181 => ?_) (fun hc181 => ?_)
          ·
            rw [if_neg (fun hh => Bool.noConfusion (hh.symm.trans (notT hc181)))] at hm
            refine c_seq ?_
            refine c_region ?_
            refine t_st rfl (st_assign rfl) ?_
            refine t_nil ?_
            refine x_then_normal ?_
            refine c_ret ?_
            refine x_block_ret ?_
            refine x_block_ret ?_
            refine x_then_ret ?_
            refine x_then_ret ?_
            refine x_block_ret ?_
            refine x_then_ret ?_
            have hq182 := houtL104 _ (Option.some.inj hm).symm
            rw [hq182] at hk145
            have hm := elimR hk145
            obtain rfl := some1 hm
            exact retM (rs := [.tmp 4]) [.int .i64 (2)] (hle141.trans hle165) (by decide) rfl ⟨rfl, trivial⟩ rfl (hp' := R) (.cons _ (.cons _ (.refl _))) ⟨rfl, rfl⟩
          ·
            rw [if_pos (notF hc181)] at hm
            refine c_skip ?_
            refine x_block_normal ?_
            refine x_block_normal ?_
            refine x_then_normal ?_
            refine c_region ?_
            refine t_st rfl (st_add rfl rfl (by omega)) ?_
            refine t_st rfl (st_move rfl) ?_
            refine t_nil ?_
            exact x_againM () (Option.some.inj hm).symm (e' := [(2, .pointer (some ⟨g103, 0, none⟩)), (7, .slice A17 (l20).length c18), (8, .int .i64 ((l20.length : Int))), (9, .int .i64 ((k142 : Int) + 1))]) (hp' := (g103, Cl 26 [.slice A2 (s1.Ready).length c3, .slice A5 (s1.Last).length c6, .slice A8 (s1.Due).length c9, .slice A11 (s1.Arcs).length c12, .slice A14 (s1.Choices).length c15]) :: R) ⟨rfl, rfl, rfl, rfl, trivial⟩ (.cons_cons _ (.cons _ (.refl _))) ⟨rfl, rfl, ((hle141.trans hle165))⟩
  ·
    rintro _ b140 _ _ ⟨rfl, rfl, hle141⟩ hq183
    rw [hq183] at hk145
    have hm := elimL hk145
    refine c_seq ?_
    refine c_region ?_
    refine t_st rfl (st_lss_f rfl rfl (by omega)) ?_
    refine t_nil ?_
    refine x_then_normal ?_
    refine c_seq ?_
    refine c_cond_f rfl ?_
    refine c_exit ?_
    refine x_then_exit ?_
    refine x_then_exit ?_
    refine x_block_out ?_
    refine x_then_normal ?_
    refine c_seq ?_
    refine c_region ?_
    refine t_st rfl (st_assign rfl) ?_
    refine t_nil ?_
    refine x_then_normal ?_
    refine c_ret ?_
    obtain rfl := some1 hm
    exact retM (rs := [.tmp 4]) [.int .i64 (0)] hle141 (by decide) rfl ⟨rfl, trivial⟩ rfl (hp' := R) (.cons _ (.refl _)) ⟨rfl, rfl⟩

set_option maxRecDepth 20000 in
theorem cMendCheckGraph (b : Base) (R : Hp) (s1 : MendGraph) (A2 : Option Addr) (c3 : Nat) (A5 : Option Addr) (c6 : Nat) (A8 : Option Addr) (c9 : Nat) (A11 : Option Addr) (c12 : Nat) (A14 : Option Addr) (c15 : Nat) (h4 : FZ (RT.int .i64) b.w A2 c3 s1.Ready) (h7 : FZ (RT.int .i64) b.w A5 c6 s1.Last) (h10 : FZ (RT.int .i64) b.w A8 c9 s1.Due) (h13 : FZ rMendArc b.w A11 c12 s1.Arcs) (h16 : FZ rMendChoice b.w A14 c15 s1.Choices) (x339 : Int) (hm : mMendCheckGraph s1 = some x339) :
    CallsG Try.prog 36 [.agg #[.slice A2 (s1.Ready).length c3, .slice A5 (s1.Last).length c6, .slice A8 (s1.Due).length c9, .slice A11 (s1.Arcs).length c12, .slice A14 (s1.Choices).length c15]] b (R) (fun v b' hp' => .int .i64 (x339) = v ∧ R = hp') := by
  refine fn_enterG 112 Try.func36 rfl Try.ntmps36 rfl ?_
  unfold mMendCheckGraph at hm
  refine c_seq ?_
  refine c_region ?_
  refine t_do rfl (u_box _ rfl rfl) ?_
  rintro _ _ ⟨g340, rfl, rfl⟩
  refine t_st rfl (st_assign rfl) ?_
  refine t_nil ?_
  refine x_then_normal ?_
  refine c_seq ?_
  refine c_block ?_
  obtain ⟨x345, hj346, hk346⟩ := bindS hm
  refine c_join (fun b343 e' hp' => [(1, .pointer (some ⟨g340, 0, none⟩)), (10, .bool (x345))] = e' ∧ (g340, Cl 26 [.slice A2 (s1.Ready).length c3, .slice A5 (s1.Last).length c6, .slice A8 (s1.Due).length c9, .slice A11 (s1.Arcs).length c12, .slice A14 (s1.Choices).length c15]) :: R = hp' ∧ b.Le b343) ?_ ?_
  ·
    have hm := hj346
    refine c_region ?_
    refine t_st rfl (st_field rfl fld26_0) ?_
    refine t_st rfl (st_load 0 rfl one22 rfl rfl) ?_
    refine t_st rfl (st_len rfl sl22) ?_
    refine t_bool rfl (st_gtr rfl rfl) (fun hc347 => ?_) (fun hc347 => ?_)
    ·
      rw [if_pos hc347] at hm
      refine t_st rfl (st_move rfl) ?_
      refine t_no 15 rfl rfl rfl rfl rfl ?_
      refine t_no 15 rfl rfl rfl rfl rfl ?_
      refine t_no 15 rfl rfl rfl rfl rfl ?_
      refine t_no 15 rfl rfl rfl rfl rfl ?_
      refine t_st rfl (st_pick_t rfl rfl) ?_
      refine t_st rfl (st_move rfl) ?_
      refine t_no 21 rfl rfl rfl rfl rfl ?_
      refine t_no 21 rfl rfl rfl rfl rfl ?_
      refine t_no 21 rfl rfl rfl rfl rfl ?_
      refine t_no 21 rfl rfl rfl rfl rfl ?_
      refine t_st rfl (st_pick_t rfl rfl) ?_
      refine t_st rfl (st_assign rfl) ?_
      refine t_nil ?_
      obtain rfl := some1 hm
      exact x_join (e' := [(1, .pointer (some ⟨g340, 0, none⟩)), (10, .bool (true))]) (hp' := (g340, Cl 26 [.slice A2 (s1.Ready).length c3, .slice A5 (s1.Last).length c6, .slice A8 (s1.Due).length c9, .slice A11 (s1.Arcs).length c12, .slice A14 (s1.Choices).length c15]) :: R) ⟨rfl, rfl, trivial⟩ (.cons_cons _ (.refl _)) ⟨rfl, rfl, (Base.Le.refl _)⟩
    ·
      rw [if_neg hc347] at hm
      refine t_st rfl (st_move rfl) ?_
      refine t_yes 15 rfl rfl rfl ?_
      refine t_st rfl (st_field rfl fld26_3) ?_
      refine t_yes 15 rfl rfl rfl ?_
      refine t_st rfl (st_load 0 rfl one23 rfl rfl) ?_
      refine t_yes 15 rfl rfl rfl ?_
      refine t_st rfl (st_len rfl sl23) ?_
      refine t_yes 15 rfl rfl rfl ?_
      refine t_bool rfl (st_gtr rfl rfl) (fun hc348 => ?_) (fun hc348 => ?_)
      ·
        rw [if_pos hc348] at hm
        refine t_st rfl (st_pick_f rfl rfl) ?_
        refine t_st rfl (st_move rfl) ?_
        refine t_no 21 rfl rfl rfl rfl rfl ?_
        refine t_no 21 rfl rfl rfl rfl rfl ?_
        refine t_no 21 rfl rfl rfl rfl rfl ?_
        refine t_no 21 rfl rfl rfl rfl rfl ?_
        refine t_st rfl (st_pick_t rfl rfl) ?_
        refine t_st rfl (st_assign rfl) ?_
        refine t_nil ?_
        obtain rfl := some1 hm
        exact x_join (e' := [(1, .pointer (some ⟨g340, 0, none⟩)), (10, .bool (true))]) (hp' := (g340, Cl 26 [.slice A2 (s1.Ready).length c3, .slice A5 (s1.Last).length c6, .slice A8 (s1.Due).length c9, .slice A11 (s1.Arcs).length c12, .slice A14 (s1.Choices).length c15]) :: R) ⟨rfl, rfl, trivial⟩ (.cons_cons _ (.refl _)) ⟨rfl, rfl, (Base.Le.refl _)⟩
      ·
        rw [if_neg hc348] at hm
        refine t_st rfl (st_pick_f rfl rfl) ?_
        refine t_st rfl (st_move rfl) ?_
        refine t_yes 21 rfl rfl rfl ?_
        refine t_st rfl (st_field rfl fld26_4) ?_
        refine t_yes 21 rfl rfl rfl ?_
        refine t_st rfl (st_load 0 rfl one24 rfl rfl) ?_
        refine t_yes 21 rfl rfl rfl ?_
        refine t_st rfl (st_len rfl sl24) ?_
        refine t_yes 21 rfl rfl rfl ?_
        refine t_st rfl (st_gtr rfl rfl) ?_
        refine t_st rfl (st_pick_f rfl rfl) ?_
        refine t_st rfl (st_assign rfl) ?_
        refine t_nil ?_
        obtain rfl := some1 hm
        exact x_join (e' := [(1, .pointer (some ⟨g340, 0, none⟩)), (10, .bool (decide (300 < (s1.Choices.length : Int))))]) (hp' := (g340, Cl 26 [.slice A2 (s1.Ready).length c3, .slice A5 (s1.Last).length c6, .slice A8 (s1.Due).length c9, .slice A11 (s1.Arcs).length c12, .slice A14 (s1.Choices).length c15]) :: R) ⟨rfl, rfl, trivial⟩ (.cons_cons _ (.refl _)) ⟨rfl, rfl, (Base.Le.refl _)⟩
  ·
    rintro b343 _ _ ⟨rfl, rfl, hle344⟩
    have hm := hk346
    refine c_cond _ rfl (fun hc349 => ?_) (fun hc349 => ?_)
    ·
      rw [if_pos hc349] at hm
      refine c_seq ?_
      refine c_region ?_
      refine t_st rfl (st_assign rfl) ?_
      refine t_nil ?_
      refine x_then_normal ?_
      refine c_ret ?_
      refine x_block_ret ?_
      refine x_then_ret ?_
      obtain rfl := some1 hm
      exact retM (rs := [.tmp 2]) [.int .i64 (4)] hle344 (by decide) rfl ⟨rfl, trivial⟩ rfl (hp' := R) (.cons _ (.refl _)) ⟨rfl, rfl⟩
    ·
      rw [if_neg (fun hh => Bool.noConfusion (hh.symm.trans hc349))] at hm
      obtain ⟨x353, hj354, hk354⟩ := bindS hm
      refine c_join (fun b351 e' hp' => [(1, .pointer (some ⟨g340, 0, none⟩)), (27, .bool (x353))] = e' ∧ (g340, Cl 26 [.slice A2 (s1.Ready).length c3, .slice A5 (s1.Last).length c6, .slice A8 (s1.Due).length c9, .slice A11 (s1.Arcs).length c12, .slice A14 (s1.Choices).length c15]) :: R = hp' ∧ b343.Le b351) ?_ ?_
      ·
        have hm := hj354
        refine c_region ?_
        refine t_st rfl (st_field rfl fld26_1) ?_
        refine t_st rfl (st_load 0 rfl one22 rfl rfl) ?_
        refine t_st rfl (st_len rfl sl22) ?_
        refine t_st rfl (st_field rfl fld26_0) ?_
        refine t_st rfl (st_load 0 rfl one22 rfl rfl) ?_
        refine t_st rfl (st_len rfl sl22) ?_
        refine t_bool rfl (st_neq rfl rfl) (fun hc355 => ?_) (fun hc355 => ?_)
        ·
          rw [if_pos hc355] at hm
          refine t_st rfl (st_move rfl) ?_
          refine t_no 35 rfl rfl rfl rfl rfl ?_
          refine t_no 35 rfl rfl rfl rfl rfl ?_
          refine t_no 35 rfl rfl rfl rfl rfl ?_
          refine t_no 35 rfl rfl rfl rfl rfl ?_
          refine t_no 35 rfl rfl rfl rfl rfl ?_
          refine t_no 35 rfl rfl rfl rfl rfl ?_
          refine t_no 35 rfl rfl rfl rfl rfl ?_
          refine t_st rfl (st_pick_t rfl rfl) ?_
          refine t_st rfl (st_assign rfl) ?_
          refine t_nil ?_
          obtain rfl := some1 hm
          exact x_join (e' := [(1, .pointer (some ⟨g340, 0, none⟩)), (27, .bool (true))]) (hp' := (g340, Cl 26 [.slice A2 (s1.Ready).length c3, .slice A5 (s1.Last).length c6, .slice A8 (s1.Due).length c9, .slice A11 (s1.Arcs).length c12, .slice A14 (s1.Choices).length c15]) :: R) ⟨rfl, rfl, trivial⟩ (.cons_cons _ (.refl _)) ⟨rfl, rfl, (Base.Le.refl _)⟩
        ·
          rw [if_neg hc355] at hm
          refine t_st rfl (st_move rfl) ?_
          refine t_yes 35 rfl rfl rfl ?_
          refine t_st rfl (st_field rfl fld26_2) ?_
          refine t_yes 35 rfl rfl rfl ?_
          refine t_st rfl (st_load 0 rfl one22 rfl rfl) ?_
          refine t_yes 35 rfl rfl rfl ?_
          refine t_st rfl (st_len rfl sl22) ?_
          refine t_yes 35 rfl rfl rfl ?_
          refine t_st rfl (st_field rfl fld26_0) ?_
          refine t_yes 35 rfl rfl rfl ?_
          refine t_st rfl (st_load 0 rfl one22 rfl rfl) ?_
          refine t_yes 35 rfl rfl rfl ?_
          refine t_st rfl (st_len rfl sl22) ?_
          refine t_yes 35 rfl rfl rfl ?_
          refine t_st rfl (st_neq rfl rfl) ?_
          refine t_st rfl (st_pick_f rfl rfl) ?_
          refine t_st rfl (st_assign rfl) ?_
          refine t_nil ?_
          obtain rfl := some1 hm
          exact x_join (e' := [(1, .pointer (some ⟨g340, 0, none⟩)), (27, .bool (decide ((s1.Due.length : Int) ≠ (s1.Ready.length : Int))))]) (hp' := (g340, Cl 26 [.slice A2 (s1.Ready).length c3, .slice A5 (s1.Last).length c6, .slice A8 (s1.Due).length c9, .slice A11 (s1.Arcs).length c12, .slice A14 (s1.Choices).length c15]) :: R) ⟨rfl, rfl, trivial⟩ (.cons_cons _ (.refl _)) ⟨rfl, rfl, (Base.Le.refl _)⟩
      ·
        rintro b351 _ _ ⟨rfl, rfl, hle352⟩
        have hm := hk354
        refine c_cond _ rfl (fun hc356 => ?_) (fun hc356 => ?_)
        ·
          rw [if_pos hc356] at hm
          refine c_seq ?_
          refine c_region ?_
          refine t_st rfl (st_assign rfl) ?_
          refine t_nil ?_
          refine x_then_normal ?_
          refine c_ret ?_
          refine x_block_ret ?_
          refine x_then_ret ?_
          obtain rfl := some1 hm
          exact retM (rs := [.tmp 2]) [.int .i64 (1)] (hle344.trans hle352) (by decide) rfl ⟨rfl, trivial⟩ rfl (hp' := R) (.cons _ (.refl _)) ⟨rfl, rfl⟩
        ·
          rw [if_neg (fun hh => Bool.noConfusion (hh.symm.trans hc356))] at hm
          refine c_skip ?_
          refine x_block_normal ?_
          refine x_then_normal ?_
          refine c_seq ?_
          refine c_seq ?_
          refine c_region ?_
          refine t_st rfl (st_field rfl fld26_0) ?_
          refine t_st rfl (st_load 0 rfl one22 rfl rfl) ?_
          refine t_st rfl (st_len rfl sl22) ?_
          refine t_st rfl (st_move rfl) ?_
          refine t_nil ?_
          refine x_then_normal ?_
          refine c_block ?_
          have hb358 := (FZ.bd (h4.le (hle344.trans hle352)))
          obtain ⟨t443, hl444, hk445⟩ := bindS hm
          refine c_forM (fun k442 => fun _ => fun b440 e' hp' => [(1, .pointer (some ⟨g340, 0, none⟩)), (46, .int .i64 ((s1.Ready.length : Int))), (47, .int .i64 ((k442 : Int)))] = e' ∧ (g340, Cl 26 [.slice A2 (s1.Ready).length c3, .slice A5 (s1.Last).length c6, .slice A8 (s1.Due).length c9, .slice A11 (s1.Arcs).length c12, .slice A14 (s1.Choices).length c15]) :: R = hp' ∧ b351.Le b440) hl444 (e' := [(1, .pointer (some ⟨g340, 0, none⟩)), (46, .int .i64 ((s1.Ready.length : Int))), (47, .int .i64 0)]) (hp' := (g340, Cl 26 [.slice A2 (s1.Ready).length c3, .slice A5 (s1.Last).length c6, .slice A8 (s1.Due).length c9, .slice A11 (s1.Arcs).length c12, .slice A14 (s1.Choices).length c15]) :: R) ⟨rfl, rfl, rfl, trivial⟩ (.cons_cons _ (.refl _)) ⟨rfl, rfl, (Base.Le.refl _)⟩ ?_ ?_
          ·
            rintro k442 _ b440 _ _ oL357 hknL357 ⟨rfl, rfl, hle441⟩ hstepL357 houtL357
            unfold mMendCheckGraph_L357 at hstepL357
            have hm := hstepL357
            refine c_seq ?_
            refine c_region ?_
            refine t_st rfl (st_lss_t rfl rfl (by omega)) ?_
            refine t_nil ?_
            refine x_then_normal ?_
            refine c_seq ?_
            refine c_cond_t rfl ?_
            refine c_skip ?_
            refine x_then_normal ?_
            refine c_seq ?_
            refine c_block ?_
            refine c_seq ?_
            refine c_region ?_
            refine t_st rfl (st_move rfl) ?_
            refine t_st rfl (st_assign rfl) ?_
            refine t_nil ?_
            refine x_then_normal ?_
            obtain ⟨x486, hj487, hk487⟩ := bindS hm
            refine c_join (fun b484 e' hp' => [(1, .pointer (some ⟨g340, 0, none⟩)), (46, .int .i64 ((s1.Ready.length : Int))), (47, .int .i64 ((k442 : Int))), (74, .bool (x486))] = e' ∧ (g340, Cl 26 [.slice A2 (s1.Ready).length c3, .slice A5 (s1.Last).length c6, .slice A8 (s1.Due).length c9, .slice A11 (s1.Arcs).length c12, .slice A14 (s1.Choices).length c15]) :: R = hp' ∧ b440.Le b484) ?_ ?_
            ·
              have hm := hj487
              refine c_region ?_
              refine t_st rfl (st_field rfl fld26_0) ?_
              refine t_st rfl (st_load 0 rfl one22 rfl rfl) ?_
              refine t_st rfl (st_move rfl) ?_
              obtain ⟨x488, h489, hm⟩ := bindS hm
              obtain ⟨j490, hj491, hx492⟩ := idx_some h489
              obtain ⟨cs493, hr494, hcs495, hA496, hlt497⟩ := FZ.get (sz := 1) rfl (by decide) (h4.le (hle344.trans (hle352.trans hle441))) hx492
              obtain rfl := hr494
              refine t_st rfl (st_index_old j490 rfl rfl hj491 hlt497 hA496 sl22) ?_
              refine t_st rfl (st_load_old rfl one3 (hcs495 0 _ rfl)) ?_
              obtain ⟨x498, hcl499, hm⟩ := bindS hm
              refine t_do rfl (u_callW0 _ call37 rfl (fun w ho => cMendWithin _ [] x488 0 28800 x498 hcl499) (fun _ _ _ h => h.2.symm)) ?_
              rintro _ _ ⟨⟨_, rfl, _⟩, rfl⟩
              rcases Bool.eq_false_or_eq_true x498 with hc500 | hc500
              ·
                rw [if_pos hc500] at hm
                refine t_resp 55 rfl (v' := .bool true) (by rw [hc500] <;> rfl) ?_
                refine t_st rfl (st_not_t rfl) ?_
                refine t_st rfl (st_move rfl) ?_
                refine t_yes 57 rfl rfl rfl ?_
                refine t_st rfl (st_field rfl fld26_1) ?_
                refine t_yes 57 rfl rfl rfl ?_
                refine t_st rfl (st_load 0 rfl one22 rfl rfl) ?_
                refine t_yes 57 rfl rfl rfl ?_
                refine t_st rfl (st_move rfl) ?_
                refine t_yes 57 rfl rfl rfl ?_
                obtain ⟨x501, h502, hm⟩ := bindS hm
                obtain ⟨j503, hj504, hx505⟩ := idx_some h502
                obtain ⟨cs506, hr507, hcs508, hA509, hlt510⟩ := FZ.get (sz := 1) rfl (by decide) (h7.le (hle344.trans (hle352.trans hle441))) hx505
                obtain rfl := hr507
                refine t_st rfl (st_index_old j503 rfl rfl hj504 hlt510 hA509 sl22) ?_
                refine t_yes 57 rfl rfl rfl ?_
                refine t_st rfl (st_load_old rfl one3 (hcs508 0 _ rfl)) ?_
                refine t_yes 57 rfl rfl rfl ?_
                obtain ⟨x511, hcl512, hm⟩ := bindS hm
                refine t_do rfl (u_callW0 _ call37 rfl (fun w ho => cMendWithin _ [] x501 (-1) 28800 x511 hcl512) (fun _ _ _ h => h.2.symm)) ?_
                rintro _ _ ⟨⟨_, rfl, _⟩, rfl⟩
                rcases Bool.eq_false_or_eq_true x511 with hc513 | hc513
                ·
                  rw [if_pos hc513] at hm
                  refine t_resp 63 rfl (v' := .bool true) (by rw [hc513] <;> rfl) ?_
                  refine t_yes 57 rfl rfl rfl ?_
                  refine t_st rfl (st_not_t rfl) ?_
                  refine t_st rfl (st_pick_f rfl rfl) ?_
                  refine t_st rfl (st_move rfl) ?_
                  refine t_yes 66 rfl rfl rfl ?_
                  refine t_st rfl (st_field rfl fld26_2) ?_
                  refine t_yes 66 rfl rfl rfl ?_
                  refine t_st rfl (st_load 0 rfl one22 rfl rfl) ?_
                  refine t_yes 66 rfl rfl rfl ?_
                  refine t_st rfl (st_move rfl) ?_
                  refine t_yes 66 rfl rfl rfl ?_
                  obtain ⟨x514, h515, hm⟩ := bindS hm
                  obtain ⟨j516, hj517, hx518⟩ := idx_some h515
                  obtain ⟨cs519, hr520, hcs521, hA522, hlt523⟩ := FZ.get (sz := 1) rfl (by decide) (h10.le (hle344.trans (hle352.trans hle441))) hx518
                  obtain rfl := hr520
                  refine t_st rfl (st_index_old j516 rfl rfl hj517 hlt523 hA522 sl22) ?_
                  refine t_yes 66 rfl rfl rfl ?_
                  refine t_st rfl (st_load_old rfl one3 (hcs521 0 _ rfl)) ?_
                  refine t_yes 66 rfl rfl rfl ?_
                  obtain ⟨x524, hcl525, hm⟩ := bindS hm
                  refine t_do rfl (u_callW0 _ call37 rfl (fun w ho => cMendWithin _ [] x514 (-1) 28800 x524 hcl525) (fun _ _ _ h => h.2.symm)) ?_
                  rintro _ _ ⟨⟨_, rfl, _⟩, rfl⟩
                  refine t_yes 66 rfl rfl rfl ?_
                  refine t_st rfl (st_not rfl) ?_
                  refine t_st rfl (st_pick_f rfl rfl) ?_
                  refine t_nil ?_
                  obtain rfl := some1 hm
                  exact x_join (e' := [(1, .pointer (some ⟨g340, 0, none⟩)), (46, .int .i64 ((s1.Ready.length : Int))), (47, .int .i64 ((k442 : Int))), (74, .bool (!x524))]) (hp' := (g340, Cl 26 [.slice A2 (s1.Ready).length c3, .slice A5 (s1.Last).length c6, .slice A8 (s1.Due).length c9, .slice A11 (s1.Arcs).length c12, .slice A14 (s1.Choices).length c15]) :: R) ⟨rfl, rfl, rfl, rfl, trivial⟩ (.cons_cons _ (.refl _)) ⟨rfl, rfl, (Base.Le.refl _)⟩
                ·
                  rw [if_neg (fun hh => Bool.noConfusion (hh.symm.trans hc513))] at hm
                  refine t_resp 63 rfl (v' := .bool false) (by rw [hc513] <;> rfl) ?_
                  refine t_yes 57 rfl rfl rfl ?_
                  refine t_st rfl (st_not_f rfl) ?_
                  refine t_st rfl (st_pick_f rfl rfl) ?_
                  refine t_st rfl (st_move rfl) ?_
                  refine t_no 66 rfl rfl rfl rfl rfl ?_
                  refine t_no 66 rfl rfl rfl rfl rfl ?_
                  refine t_no 66 rfl rfl rfl rfl rfl ?_
                  refine t_no 66 rfl rfl rfl rfl rfl ?_
                  refine t_no 66 rfl rfl rfl rfl rfl ?_
                  refine t_no 66 rfl rfl rfl rfl rfl ?_
                  refine t_no 66 rfl rfl rfl rfl rfl ?_
                  refine t_st rfl (st_pick_t rfl rfl) ?_
                  refine t_nil ?_
                  obtain rfl := some1 hm
                  exact x_join (e' := [(1, .pointer (some ⟨g340, 0, none⟩)), (46, .int .i64 ((s1.Ready.length : Int))), (47, .int .i64 ((k442 : Int))), (74, .bool (true))]) (hp' := (g340, Cl 26 [.slice A2 (s1.Ready).length c3, .slice A5 (s1.Last).length c6, .slice A8 (s1.Due).length c9, .slice A11 (s1.Arcs).length c12, .slice A14 (s1.Choices).length c15]) :: R) ⟨rfl, rfl, rfl, rfl, trivial⟩ (.cons_cons _ (.refl _)) ⟨rfl, rfl, (Base.Le.refl _)⟩
              ·
                rw [if_neg (fun hh => Bool.noConfusion (hh.symm.trans hc500))] at hm
                refine t_resp 55 rfl (v' := .bool false) (by rw [hc500] <;> rfl) ?_
                refine t_st rfl (st_not_f rfl) ?_
                refine t_st rfl (st_move rfl) ?_
                refine t_no 57 rfl rfl rfl rfl rfl ?_
                refine t_no 57 rfl rfl rfl rfl rfl ?_
                refine t_no 57 rfl rfl rfl rfl rfl ?_
                refine t_no 57 rfl rfl rfl rfl rfl ?_
                refine t_no 57 rfl rfl rfl rfl rfl ?_
                refine t_no 57 rfl rfl rfl rfl rfl ?_
                refine t_no 57 rfl rfl rfl rfl rfl ?_
                refine t_st rfl (st_pick_t rfl rfl) ?_
                refine t_st rfl (st_move rfl) ?_
                refine t_no 66 rfl rfl rfl rfl rfl ?_
                refine t_no 66 rfl rfl rfl rfl rfl ?_
                refine t_no 66 rfl rfl rfl rfl rfl ?_
                refine t_no 66 rfl rfl rfl rfl rfl ?_
                refine t_no 66 rfl rfl rfl rfl rfl ?_
                refine t_no 66 rfl rfl rfl rfl rfl ?_
                refine t_no 66 rfl rfl rfl rfl rfl ?_
                refine t_st rfl (st_pick_t rfl rfl) ?_
                refine t_nil ?_
                obtain rfl := some1 hm
                exact x_join (e' := [(1, .pointer (some ⟨g340, 0, none⟩)), (46, .int .i64 ((s1.Ready.length : Int))), (47, .int .i64 ((k442 : Int))), (74, .bool (true))]) (hp' := (g340, Cl 26 [.slice A2 (s1.Ready).length c3, .slice A5 (s1.Last).length c6, .slice A8 (s1.Due).length c9, .slice A11 (s1.Arcs).length c12, .slice A14 (s1.Choices).length c15]) :: R) ⟨rfl, rfl, rfl, rfl, trivial⟩ (.cons_cons _ (.refl _)) ⟨rfl, rfl, (Base.Le.refl _)⟩
            ·
              rintro b484 _ _ ⟨rfl, rfl, hle485⟩
              have hm := hk487
              refine c_cond _ rfl (fun hc526 => ?_) (fun hc526 => ?_)
              ·
                rw [if_pos hc526] at hm
                refine c_seq ?_
                refine c_region ?_
                refine t_st rfl (st_assign rfl) ?_
                refine t_nil ?_
                refine x_then_normal ?_
                refine c_ret ?_
                refine x_block_ret ?_
                refine x_then_ret ?_
                refine x_then_ret ?_
                refine x_block_ret ?_
                refine x_then_ret ?_
                have hq527 := houtL357 _ (Option.some.inj hm).symm
                rw [hq527] at hk445
                have hm := elimR hk445
                obtain rfl := some1 hm
                exact retM (rs := [.tmp 2]) [.int .i64 (2)] (hle344.trans (hle352.trans (hle441.trans hle485))) (by decide) rfl ⟨rfl, trivial⟩ rfl (hp' := R) (.cons _ (.refl _)) ⟨rfl, rfl⟩
              ·
                rw [if_neg (fun hh => Bool.noConfusion (hh.symm.trans hc526))] at hm
                refine c_skip ?_
                refine x_block_normal ?_
                refine x_then_normal ?_
                refine c_region ?_
                refine t_st rfl (st_add rfl rfl (by omega)) ?_
                refine t_st rfl (st_move rfl) ?_
                refine t_nil ?_
                exact x_againM () (Option.some.inj hm).symm (e' := [(1, .pointer (some ⟨g340, 0, none⟩)), (46, .int .i64 ((s1.Ready.length : Int))), (47, .int .i64 ((k442 : Int) + 1))]) (hp' := (g340, Cl 26 [.slice A2 (s1.Ready).length c3, .slice A5 (s1.Last).length c6, .slice A8 (s1.Due).length c9, .slice A11 (s1.Arcs).length c12, .slice A14 (s1.Choices).length c15]) :: R) ⟨rfl, rfl, rfl, trivial⟩ (.cons_cons _ (.refl _)) ⟨rfl, rfl, ((hle441.trans hle485))⟩
          ·
            rintro _ b440 _ _ ⟨rfl, rfl, hle441⟩ hq528
            rw [hq528] at hk445
            have hm := elimL hk445
            refine c_seq ?_
            refine c_region ?_
            refine t_st rfl (st_lss_f rfl rfl (by omega)) ?_
            refine t_nil ?_
            refine x_then_normal ?_
            refine c_seq ?_
            refine c_cond_f rfl ?_
            refine c_exit ?_
            refine x_then_exit ?_
            refine x_then_exit ?_
            refine x_block_out ?_
            refine x_then_normal ?_
            refine c_seq ?_
            refine c_seq ?_
            refine c_region ?_
            refine t_st rfl (st_loadD (vs := [_, _, _, _, _]) 0 5 rfl agg26 rfl rfl rfl) ?_
            refine t_st rfl (st_field rfl fld26_3) ?_
            refine t_st rfl (st_load 0 rfl one23 rfl rfl) ?_
            obtain ⟨x529, hcl530, hm⟩ := bindS hm
            refine t_do rfl (u_callW0 _ call59 rfl (fun w ho => cMendCheckArcs _ [] s1 s1.Arcs A2 c3 A5 c6 A8 c9 A11 c12 A14 c15 A11 c12 ((h4.le (hle344.trans (hle352.trans hle441))).old ho) ((h7.le (hle344.trans (hle352.trans hle441))).old ho) ((h10.le (hle344.trans (hle352.trans hle441))).old ho) ((h13.le (hle344.trans (hle352.trans hle441))).old ho) ((h16.le (hle344.trans (hle352.trans hle441))).old ho) ((h13.le (hle344.trans (hle352.trans hle441))).old ho) x529 hcl530) (fun _ _ _ h => h.2.symm)) ?_
            rintro _ _ ⟨⟨_, rfl, _⟩, rfl⟩
            refine t_st rfl (st_assign rfl) ?_
            refine t_nil ?_
            refine x_then_normal ?_
            refine c_seq ?_
            refine c_region ?_
            refine t_st rfl (st_move rfl) ?_
            refine t_st rfl (st_neq rfl rfl) ?_
            refine t_nil ?_
            refine x_then_normal ?_
            refine c_cond _ rfl (fun hc531 => ?_) (fun hc531 => ?_)
            ·
              rw [if_pos (of_decide_eq_true hc531)] at hm
              refine c_seq ?_
              refine c_region ?_
              refine t_st rfl (st_move rfl) ?_
              refine t_st rfl (st_assign rfl) ?_
              refine t_nil ?_
              refine x_then_normal ?_
              refine c_ret ?_
              refine x_then_ret ?_
              obtain rfl := some1 hm
              exact retM (rs := [.tmp 2]) [.int .i64 (x529)] (hle344.trans (hle352.trans hle441)) (by decide) rfl ⟨rfl, trivial⟩ rfl (hp' := R) (.cons _ (.refl _)) ⟨rfl, rfl⟩
            ·
              rw [if_neg (of_decide_eq_false hc531)] at hm
              refine c_skip ?_
              refine x_then_normal ?_
              refine c_seq ?_
              refine c_seq ?_
              refine c_region ?_
              refine t_st rfl (st_field rfl fld26_4) ?_
              refine t_st rfl (st_load 0 rfl one24 rfl rfl) ?_
              refine t_st rfl (st_len rfl sl24) ?_
              refine t_st rfl (st_move rfl) ?_
              refine t_nil ?_
              refine x_then_normal ?_
              refine c_block ?_
              have hb533 := (FZ.bd (h16.le (hle344.trans (hle352.trans hle441))))
              obtain ⟨t595, hl596, hk597⟩ := bindS hm
              refine c_forM (fun k594 => fun _ => fun b592 e' hp' => [(1, .pointer (some ⟨g340, 0, none⟩)), (84, .slice A14 (s1.Choices).length c15), (85, .int .i64 ((s1.Choices.length : Int))), (86, .int .i64 ((k594 : Int)))] = e' ∧ (g340, Cl 26 [.slice A2 (s1.Ready).length c3, .slice A5 (s1.Last).length c6, .slice A8 (s1.Due).length c9, .slice A11 (s1.Arcs).length c12, .slice A14 (s1.Choices).length c15]) :: R = hp' ∧ b440.Le b592) hl596 (e' := [(1, .pointer (some ⟨g340, 0, none⟩)), (84, .slice A14 (s1.Choices).length c15), (85, .int .i64 ((s1.Choices.length : Int))), (86, .int .i64 0)]) (hp' := (g340, Cl 26 [.slice A2 (s1.Ready).length c3, .slice A5 (s1.Last).length c6, .slice A8 (s1.Due).length c9, .slice A11 (s1.Arcs).length c12, .slice A14 (s1.Choices).length c15]) :: R) ⟨rfl, rfl, rfl, rfl, trivial⟩ (.cons_cons _ (.refl _)) ⟨rfl, rfl, (Base.Le.refl _)⟩ ?_ ?_
              ·
                rintro k594 _ b592 _ _ oL532 hknL532 ⟨rfl, rfl, hle593⟩ hstepL532 houtL532
                unfold mMendCheckGraph_L532 at hstepL532
                have hm := hstepL532
                refine c_seq ?_
                refine c_region ?_
                refine t_st rfl (st_lss_t rfl rfl (by omega)) ?_
                refine t_nil ?_
                refine x_then_normal ?_
                refine c_seq ?_
                refine c_cond_t rfl ?_
                refine c_skip ?_
                refine x_then_normal ?_
                refine c_seq ?_
                refine c_block ?_
                refine c_seq ?_
                refine c_region ?_
                obtain ⟨x598, h599, hm⟩ := bindS hm
                obtain ⟨j600, hj601, hx602⟩ := idx_some h599
                obtain ⟨cs603, hr604, hcs605, hA606, hlt607⟩ := FZ.get (sz := 1) rfl (by decide) (h16.le (hle344.trans (hle352.trans (hle441.trans hle593)))) hx602
                obtain ⟨A608, c609, rfl, h610⟩ := hr604
                refine t_st rfl (st_index_old j600 rfl rfl hj601 hlt607 hA606 sl24) ?_
                refine t_st rfl (st_loadN_old (vs := [.slice A608 (x598.Ways).length c609]) 1 rfl agg37 hA606 rfl (fun j u hu => hcs605 j u hu)) ?_
                refine t_do rfl (u_alloc [.slice none 0 0] zero37 rfl) ?_
                rintro _ _ ⟨g611, rfl, rfl⟩
                refine t_do rfl (u_storeN (vs := [_]) 0 1 rfl rfl rfl siz37 rfl (by intro u hu; simp only [List.mem_cons, List.not_mem_nil, or_false] at hu; rcases hu with rfl <;> rfl) rfl (by simp)) ?_
                rintro _ _ rfl
                refine t_nil ?_
                refine x_then_normal ?_
                refine c_seq ?_
                refine c_seq ?_
                refine c_region ?_
                refine t_st rfl (st_field rfl fld37_0) ?_
                refine t_st rfl (st_load 0 rfl one35 rfl rfl) ?_
                refine t_st rfl (st_len rfl sl35) ?_
                refine t_st rfl (st_gtr rfl rfl) ?_
                refine t_nil ?_
                refine x_then_normal ?_
                refine c_cond _ rfl (fun hc612 => ?_) (fun hc612 => ?_)
                ·
                  rw [if_pos (of_decide_eq_true hc612)] at hm
                  refine c_seq ?_
                  refine c_region ?_
                  refine t_st rfl (st_assign rfl) ?_
                  refine t_nil ?_
                  refine x_then_normal ?_
                  refine c_ret ?_
                  refine x_then_ret ?_
                  refine x_block_ret ?_
                  refine x_then_ret ?_
                  refine x_then_ret ?_
                  refine x_block_ret ?_
                  refine x_then_ret ?_
                  have hq613 := houtL532 _ (Option.some.inj hm).symm
                  rw [hq613] at hk597
                  have hm := elimR hk597
                  obtain rfl := some1 hm
                  exact retM (rs := [.tmp 2]) [.int .i64 (4)] (hle344.trans (hle352.trans (hle441.trans hle593))) (by decide) rfl ⟨rfl, trivial⟩ rfl (hp' := R) (.cons _ (.cons _ (.refl _))) ⟨rfl, rfl⟩
                ·
                  rw [if_neg (of_decide_eq_false hc612)] at hm
                  refine c_skip ?_
                  refine x_then_normal ?_
                  refine c_seq ?_
                  refine c_region ?_
                  refine t_st rfl (st_field rfl fld37_0) ?_
                  refine t_st rfl (st_load 0 rfl one35 rfl rfl) ?_
                  refine t_st rfl (st_len rfl sl35) ?_
                  refine t_st rfl (st_move rfl) ?_
                  refine t_nil ?_
                  refine x_then_normal ?_
                  refine c_block ?_
                  have hb615 := (FZ.bd h610)
                  refine c_pullb 1 rfl ?_
                  obtain ⟨t636, hl637, hk638⟩ := bindS hm
                  refine c_forM (fun k635 => fun _ => fun b633 e' hp' => [(1, .pointer (some ⟨g340, 0, none⟩)), (84, .slice A14 (s1.Choices).length c15), (85, .int .i64 ((s1.Choices.length : Int))), (86, .int .i64 ((k594 : Int))), (95, .slice A608 (x598.Ways).length c609), (96, .int .i64 ((x598.Ways.length : Int))), (97, .int .i64 ((k635 : Int)))] = e' ∧ (g340, Cl 26 [.slice A2 (s1.Ready).length c3, .slice A5 (s1.Last).length c6, .slice A8 (s1.Due).length c9, .slice A11 (s1.Arcs).length c12, .slice A14 (s1.Choices).length c15]) :: R = hp' ∧ b592.Le b633) hl637 (e' := [(1, .pointer (some ⟨g340, 0, none⟩)), (84, .slice A14 (s1.Choices).length c15), (85, .int .i64 ((s1.Choices.length : Int))), (86, .int .i64 ((k594 : Int))), (95, .slice A608 (x598.Ways).length c609), (96, .int .i64 ((x598.Ways.length : Int))), (97, .int .i64 0)]) (hp' := (g340, Cl 26 [.slice A2 (s1.Ready).length c3, .slice A5 (s1.Last).length c6, .slice A8 (s1.Due).length c9, .slice A11 (s1.Arcs).length c12, .slice A14 (s1.Choices).length c15]) :: R) ⟨rfl, rfl, rfl, rfl, rfl, rfl, rfl, trivial⟩ (.cons_cons _ (.cons _ (.refl _))) ⟨rfl, rfl, (Base.Le.refl _)⟩ ?_ ?_
                  ·
                    rintro k635 _ b633 _ _ oL614 hknL614 ⟨rfl, rfl, hle634⟩ hstepL614 houtL614
                    unfold mMendCheckGraph_L614 at hstepL614
                    have hm := hstepL614
                    refine c_seq ?_
                    refine c_region ?_
                    refine t_st rfl (st_lss_t rfl rfl (by omega)) ?_
                    refine t_nil ?_
                    refine x_then_normal ?_
                    refine c_seq ?_
                    refine c_cond_t rfl ?_
                    refine c_skip ?_
                    refine x_then_normal ?_
                    refine c_seq ?_
                    refine c_block ?_
                    refine c_seq ?_
                    refine c_region ?_
                    obtain ⟨x639, h640, hm⟩ := bindS hm
                    obtain ⟨j641, hj642, hx643⟩ := idx_some h640
                    obtain ⟨cs644, hr645, hcs646, hA647, hlt648⟩ := FZ.get (sz := 1) rfl (by decide) (h610.le hle634) hx643
                    obtain ⟨A649, c650, rfl, h651⟩ := hr645
                    refine t_st rfl (st_index_old j641 rfl rfl hj642 hlt648 hA647 sl35) ?_
                    refine t_st rfl (st_load_old rfl one23 (hcs646 0 _ rfl)) ?_
                    refine t_st rfl (st_assign rfl) ?_
                    refine t_nil ?_
                    refine x_then_normal ?_
                    refine c_seq ?_
                    refine c_seq ?_
                    refine c_region ?_
                    refine t_st rfl (st_move rfl) ?_
                    refine t_st rfl (st_len rfl sl23) ?_
                    refine t_st rfl (st_gtr rfl rfl) ?_
                    refine t_nil ?_
                    refine x_then_normal ?_
                    refine c_cond _ rfl (fun hc652 => ?_) (fun hc652 => ?_)
                    ·
                      rw [if_pos (of_decide_eq_true hc652)] at hm
                      refine c_seq ?_
                      refine c_region ?_
                      refine t_st rfl (st_assign rfl) ?_
                      refine t_nil ?_
                      refine x_then_normal ?_
                      refine c_ret ?_
                      refine x_then_ret ?_
                      refine x_block_ret ?_
                      refine x_then_ret ?_
                      refine x_then_ret ?_
                      refine x_block_ret ?_
                      refine x_block_ret ?_
                      refine x_then_ret ?_
                      refine x_then_ret ?_
                      refine x_block_ret ?_
                      refine x_then_ret ?_
                      have hq653 := houtL614 _ (Option.some.inj hm).symm
                      rw [hq653] at hk638
                      have hm := elimR hk638
                      have hq654 := houtL532 _ (Option.some.inj hm).symm
                      rw [hq654] at hk597
                      have hm := elimR hk597
                      obtain rfl := some1 hm
                      exact retM (rs := [.tmp 2]) [.int .i64 (4)] (hle344.trans (hle352.trans (hle441.trans (hle593.trans hle634)))) (by decide) rfl ⟨rfl, trivial⟩ rfl (hp' := R) (.cons _ (.refl _)) ⟨rfl, rfl⟩
                    ·
                      rw [if_neg (of_decide_eq_false hc652)] at hm
                      refine c_skip ?_
                      refine x_then_normal ?_
                      refine c_seq ?_
                      refine c_region ?_
                      refine t_st rfl (st_loadD (vs := [_, _, _, _, _]) 0 5 rfl agg26 rfl rfl rfl) ?_
                      refine t_st rfl (st_move rfl) ?_
                      obtain ⟨x655, hcl656, hm⟩ := bindS hm
                      refine t_do rfl (u_callW0 _ call59 rfl (fun w ho => cMendCheckArcs _ [] s1 x639 A2 c3 A5 c6 A8 c9 A11 c12 A14 c15 A649 c650 ((h4.le (hle344.trans (hle352.trans (hle441.trans (hle593.trans hle634))))).old ho) ((h7.le (hle344.trans (hle352.trans (hle441.trans (hle593.trans hle634))))).old ho) ((h10.le (hle344.trans (hle352.trans (hle441.trans (hle593.trans hle634))))).old ho) ((h13.le (hle344.trans (hle352.trans (hle441.trans (hle593.trans hle634))))).old ho) ((h16.le (hle344.trans (hle352.trans (hle441.trans (hle593.trans hle634))))).old ho) (h651.old ho) x655 hcl656) (fun _ _ _ h => h.2.symm)) ?_
                      rintro _ _ ⟨⟨_, rfl, _⟩, rfl⟩
                      refine t_st rfl (st_assign rfl) ?_
                      refine t_nil ?_
                      refine x_then_normal ?_
                      refine c_seq ?_
                      refine c_region ?_
                      refine t_st rfl (st_move rfl) ?_
                      refine t_st rfl (st_neq rfl rfl) ?_
                      refine t_nil ?_
                      refine x_then_normal ?_
                      refine c_cond _ rfl (fun hc657 => ?_) (fun hc657 => ?_)
                      ·
                        rw [if_pos (of_decide_eq_true hc657)] at hm
                        refine c_seq ?_
                        refine c_region ?_
                        refine t_st rfl (st_move rfl) ?_
                        refine t_st rfl (st_assign rfl) ?_
                        refine t_nil ?_
                        refine x_then_normal ?_
                        refine c_ret ?_
                        refine x_block_ret ?_
                        refine x_then_ret ?_
                        refine x_then_ret ?_
                        refine x_block_ret ?_
                        refine x_block_ret ?_
                        refine x_then_ret ?_
                        refine x_then_ret ?_
                        refine x_block_ret ?_
                        refine x_then_ret ?_
                        have hq658 := houtL614 _ (Option.some.inj hm).symm
                        rw [hq658] at hk638
                        have hm := elimR hk638
                        have hq659 := houtL532 _ (Option.some.inj hm).symm
                        rw [hq659] at hk597
                        have hm := elimR hk597
                        obtain rfl := some1 hm
                        exact retM (rs := [.tmp 2]) [.int .i64 (x655)] (hle344.trans (hle352.trans (hle441.trans (hle593.trans hle634)))) (by decide) rfl ⟨rfl, trivial⟩ rfl (hp' := R) (.cons _ (.refl _)) ⟨rfl, rfl⟩
                      ·
                        rw [if_neg (of_decide_eq_false hc657)] at hm
                        refine c_skip ?_
                        refine x_block_normal ?_
                        refine x_then_normal ?_
                        refine c_region ?_
                        refine t_st rfl (st_add rfl rfl (by omega)) ?_
                        refine t_st rfl (st_move rfl) ?_
                        refine t_nil ?_
                        exact x_againM () (Option.some.inj hm).symm (e' := [(1, .pointer (some ⟨g340, 0, none⟩)), (84, .slice A14 (s1.Choices).length c15), (85, .int .i64 ((s1.Choices.length : Int))), (86, .int .i64 ((k594 : Int))), (95, .slice A608 (x598.Ways).length c609), (96, .int .i64 ((x598.Ways.length : Int))), (97, .int .i64 ((k635 : Int) + 1))]) (hp' := (g340, Cl 26 [.slice A2 (s1.Ready).length c3, .slice A5 (s1.Last).length c6, .slice A8 (s1.Due).length c9, .slice A11 (s1.Arcs).length c12, .slice A14 (s1.Choices).length c15]) :: R) ⟨rfl, rfl, rfl, rfl, rfl, rfl, rfl, trivial⟩ (.cons_cons _ (.refl _)) ⟨rfl, rfl, (hle634)⟩
                  ·
                    rintro _ b633 _ _ ⟨rfl, rfl, hle634⟩ hq660
                    rw [hq660] at hk638
                    have hm := elimL hk638
                    refine c_seq ?_
                    refine c_region ?_
                    refine t_st rfl (st_lss_f rfl rfl (by omega)) ?_
                    refine t_nil ?_
                    refine x_then_normal ?_
                    refine c_seq ?_
                    refine c_cond_f rfl ?_
                    refine c_exit ?_
                    refine x_then_exit ?_
                    refine x_then_exit ?_
                    refine x_block_out ?_
                    refine x_block_normal ?_
                    refine x_then_normal ?_
                    refine c_region ?_
                    refine t_st rfl (st_add rfl rfl (by omega)) ?_
                    refine t_st rfl (st_move rfl) ?_
                    refine t_nil ?_
                    exact x_againM () (Option.some.inj hm).symm (e' := [(1, .pointer (some ⟨g340, 0, none⟩)), (84, .slice A14 (s1.Choices).length c15), (85, .int .i64 ((s1.Choices.length : Int))), (86, .int .i64 ((k594 : Int) + 1))]) (hp' := (g340, Cl 26 [.slice A2 (s1.Ready).length c3, .slice A5 (s1.Last).length c6, .slice A8 (s1.Due).length c9, .slice A11 (s1.Arcs).length c12, .slice A14 (s1.Choices).length c15]) :: R) ⟨rfl, rfl, rfl, rfl, trivial⟩ (.cons_cons _ (.refl _)) ⟨rfl, rfl, ((hle593.trans hle634))⟩
              ·
                rintro _ b592 _ _ ⟨rfl, rfl, hle593⟩ hq661
                rw [hq661] at hk597
                have hm := elimL hk597
                refine c_seq ?_
                refine c_region ?_
                refine t_st rfl (st_lss_f rfl rfl (by omega)) ?_
                refine t_nil ?_
                refine x_then_normal ?_
                refine c_seq ?_
                refine c_cond_f rfl ?_
                refine c_exit ?_
                refine x_then_exit ?_
                refine x_then_exit ?_
                refine x_block_out ?_
                refine x_then_normal ?_
                refine c_seq ?_
                refine c_region ?_
                refine t_st rfl (st_assign rfl) ?_
                refine t_nil ?_
                refine x_then_normal ?_
                refine c_ret ?_
                obtain rfl := some1 hm
                exact retM (rs := [.tmp 2]) [.int .i64 (0)] (hle344.trans (hle352.trans (hle441.trans hle593))) (by decide) rfl ⟨rfl, trivial⟩ rfl (hp' := R) (.cons _ (.refl _)) ⟨rfl, rfl⟩

set_option maxRecDepth 20000 in
theorem cMendCheckPick (b : Base) (R : Hp) (s1 : MendGraph) (l20 : (List Int)) (A2 : Option Addr) (c3 : Nat) (A5 : Option Addr) (c6 : Nat) (A8 : Option Addr) (c9 : Nat) (A11 : Option Addr) (c12 : Nat) (A14 : Option Addr) (c15 : Nat) (A17 : Option Addr) (c18 : Nat) (h4 : FZ (RT.int .i64) b.w A2 c3 s1.Ready) (h7 : FZ (RT.int .i64) b.w A5 c6 s1.Last) (h10 : FZ (RT.int .i64) b.w A8 c9 s1.Due) (h13 : FZ rMendArc b.w A11 c12 s1.Arcs) (h16 : FZ rMendChoice b.w A14 c15 s1.Choices) (h19 : FZ (RT.int .i64) b.w A17 c18 l20) (x88 : Int) (hm : mMendCheckPick s1 l20 = some x88) :
    CallsG Try.prog 33 [.agg #[.slice A2 (s1.Ready).length c3, .slice A5 (s1.Last).length c6, .slice A8 (s1.Due).length c9, .slice A11 (s1.Arcs).length c12, .slice A14 (s1.Choices).length c15], .slice A17 (l20).length c18] b (R) (fun v b' hp' => .int .i64 (x88) = v ∧ R = hp') := by
  refine fn_enterG 37 Try.func33 rfl Try.ntmps33 rfl ?_
  unfold mMendCheckPick at hm
  refine c_seq ?_
  refine c_region ?_
  refine t_do rfl (u_box _ rfl rfl) ?_
  rintro _ _ ⟨g89, rfl, rfl⟩
  refine t_st rfl (st_assign rfl) ?_
  refine t_nil ?_
  refine x_then_normal ?_
  refine c_seq ?_
  refine c_seq ?_
  refine c_region ?_
  refine t_st rfl (st_loadD (vs := [_, _, _, _, _]) 0 5 rfl agg26 rfl rfl rfl) ?_
  obtain ⟨x90, hcl91, hm⟩ := bindS hm
  refine t_do rfl (u_callW0 _ call36 rfl (fun w ho => cMendCheckGraph _ [] s1 A2 c3 A5 c6 A8 c9 A11 c12 A14 c15 (h4.old ho) (h7.old ho) (h10.old ho) (h13.old ho) (h16.old ho) x90 hcl91) (fun _ _ _ h => h.2.symm)) ?_
  rintro _ _ ⟨⟨_, rfl, _⟩, rfl⟩
  refine t_st rfl (st_assign rfl) ?_
  refine t_nil ?_
  refine x_then_normal ?_
  refine c_seq ?_
  refine c_region ?_
  refine t_st rfl (st_move rfl) ?_
  refine t_st rfl (st_neq rfl rfl) ?_
  refine t_nil ?_
  refine x_then_normal ?_
  refine c_cond _ rfl (fun hc92 => ?_) (fun hc92 => ?_)
  ·
    rw [if_pos (of_decide_eq_true hc92)] at hm
    refine c_seq ?_
    refine c_region ?_
    refine t_st rfl (st_move rfl) ?_
    refine t_st rfl (st_assign rfl) ?_
    refine t_nil ?_
    refine x_then_normal ?_
    refine c_ret ?_
    refine x_then_ret ?_
    obtain rfl := some1 hm
    exact retM (rs := [.tmp 4]) [.int .i64 (x90)] (Base.Le.refl _) (by decide) rfl ⟨rfl, trivial⟩ rfl (hp' := R) (.cons _ (.refl _)) ⟨rfl, rfl⟩
  ·
    rw [if_neg (of_decide_eq_false hc92)] at hm
    refine c_skip ?_
    refine x_then_normal ?_
    refine c_seq ?_
    refine c_seq ?_
    refine c_region ?_
    refine t_st rfl (st_move rfl) ?_
    refine t_st rfl (st_len rfl sl22) ?_
    refine t_st rfl (st_field rfl fld26_4) ?_
    refine t_st rfl (st_load 0 rfl one24 rfl rfl) ?_
    refine t_st rfl (st_len rfl sl24) ?_
    refine t_st rfl (st_neq rfl rfl) ?_
    refine t_nil ?_
    refine x_then_normal ?_
    refine c_cond _ rfl (fun hc93 => ?_) (fun hc93 => ?_)
    ·
      rw [if_pos (of_decide_eq_true hc93)] at hm
      refine c_seq ?_
      refine c_region ?_
      refine t_st rfl (st_assign rfl) ?_
      refine t_nil ?_
      refine x_then_normal ?_
      refine c_ret ?_
      refine x_then_ret ?_
      obtain rfl := some1 hm
      exact retM (rs := [.tmp 4]) [.int .i64 (1)] (Base.Le.refl _) (by decide) rfl ⟨rfl, trivial⟩ rfl (hp' := R) (.cons _ (.refl _)) ⟨rfl, rfl⟩
    ·
      rw [if_neg (of_decide_eq_false hc93)] at hm
      refine c_skip ?_
      refine x_then_normal ?_
      refine c_seq ?_
      refine c_seq ?_
      refine c_region ?_
      refine t_st rfl (st_move rfl) ?_
      refine t_st rfl (st_len rfl sl22) ?_
      refine t_st rfl (st_move rfl) ?_
      refine t_nil ?_
      refine x_then_normal ?_
      refine c_block ?_
      have hb95 := (FZ.bd h19)
      obtain ⟨t125, hl126, hk127⟩ := bindS hm
      refine c_forM (fun k124 => fun _ => fun b122 e' hp' => [(2, .pointer (some ⟨g89, 0, none⟩)), (19, .slice A17 (l20).length c18), (20, .int .i64 ((l20.length : Int))), (21, .int .i64 ((k124 : Int)))] = e' ∧ (g89, Cl 26 [.slice A2 (s1.Ready).length c3, .slice A5 (s1.Last).length c6, .slice A8 (s1.Due).length c9, .slice A11 (s1.Arcs).length c12, .slice A14 (s1.Choices).length c15]) :: R = hp' ∧ b.Le b122) hl126 (e' := [(2, .pointer (some ⟨g89, 0, none⟩)), (19, .slice A17 (l20).length c18), (20, .int .i64 ((l20.length : Int))), (21, .int .i64 0)]) (hp' := (g89, Cl 26 [.slice A2 (s1.Ready).length c3, .slice A5 (s1.Last).length c6, .slice A8 (s1.Due).length c9, .slice A11 (s1.Arcs).length c12, .slice A14 (s1.Choices).length c15]) :: R) ⟨rfl, rfl, rfl, rfl, trivial⟩ (.cons_cons _ (.refl _)) ⟨rfl, rfl, (Base.Le.refl _)⟩ ?_ ?_
      ·
        rintro k124 _ b122 _ _ oL94 hknL94 ⟨rfl, rfl, hle123⟩ hstepL94 houtL94
        unfold mMendCheckPick_L94 at hstepL94
        have hm := hstepL94
        refine c_seq ?_
        refine c_region ?_
        refine t_st rfl (st_lss_t rfl rfl (by omega)) ?_
        refine t_nil ?_
        refine x_then_normal ?_
        refine c_seq ?_
        refine c_cond_t rfl ?_
        refine c_skip ?_
        refine x_then_normal ?_
        refine c_seq ?_
        refine c_block ?_
        refine c_seq ?_
        refine c_region ?_
        refine t_st rfl (st_move rfl) ?_
        obtain ⟨x128, h129, hm⟩ := bindS hm
        obtain ⟨j130, hj131, hx132⟩ := idx_some h129
        obtain ⟨cs133, hr134, hcs135, hA136, hlt137⟩ := FZ.get (sz := 1) rfl (by decide) (h19.le hle123) hx132
        obtain rfl := hr134
        refine t_st rfl (st_index_old j130 rfl rfl hj131 hlt137 hA136 sl22) ?_
        refine t_st rfl (st_load_old rfl one3 (hcs135 0 _ rfl)) ?_
        refine t_st rfl (st_assign rfl) ?_
        refine t_st rfl (st_assign rfl) ?_
        refine t_nil ?_
        refine x_then_normal ?_
        refine c_seq ?_
        refine c_region ?_
        refine t_st rfl (st_move rfl) ?_
        refine t_st rfl (st_field rfl fld26_4) ?_
        refine t_st rfl (st_load 0 rfl one24 rfl rfl) ?_
        refine t_st rfl (st_move rfl) ?_
        obtain ⟨x138, h139, hm⟩ := bindS hm
        obtain ⟨j140, hj141, hx142⟩ := idx_some h139
        obtain ⟨cs143, hr144, hcs145, hA146, hlt147⟩ := FZ.get (sz := 1) rfl (by decide) (h16.le hle123) hx142
        obtain ⟨A148, c149, rfl, h150⟩ := hr144
        refine t_st rfl (st_index_old j140 rfl rfl hj141 hlt147 hA146 sl24) ?_
        refine t_st rfl (st_field_old rfl hA146 fld37_0) ?_
        refine t_st rfl (st_load_old rfl one35 (hcs145 0 _ rfl)) ?_
        refine t_st rfl (st_len rfl sl35) ?_
        obtain ⟨x151, hcl152, hm⟩ := bindS hm
        refine t_do rfl (u_callW0 _ call37 rfl (fun w ho => cMendWithin _ [] x128 0 (x138.Ways.length : Int) x151 hcl152) (fun _ _ _ h => h.2.symm)) ?_
        rintro _ _ ⟨⟨_, rfl, _⟩, rfl⟩
        refine t_st rfl (st_not rfl) ?_
        refine t_nil ?_
        refine x_then_normal ?_
        refine c_cond _ rfl (fun hc153 => ?_) (fun hc153 => ?_)
        ·
          rw [if_neg (fun hh => Bool.noConfusion (hh.symm.trans (notT hc153)))] at hm
          refine c_seq ?_
          refine c_region ?_
          refine t_st rfl (st_assign rfl) ?_
          refine t_nil ?_
          refine x_then_normal ?_
          refine c_ret ?_
          refine x_block_ret ?_
          refine x_then_ret ?_
          refine x_then_ret ?_
          refine x_block_ret ?_
          refine x_then_ret ?_
          have hq154 := houtL94 _ (Option.some.inj hm).symm
          rw [hq154] at hk127
          have hm := elimR hk127
          obtain rfl := some1 hm
          exact retM (rs := [.tmp 4]) [.int .i64 (2)] hle123 (by decide) rfl ⟨rfl, trivial⟩ rfl (hp' := R) (.cons _ (.refl _)) ⟨rfl, rfl⟩
        ·
          rw [if_pos (notF hc153)] at hm
          refine c_skip ?_
          refine x_block_normal ?_
          refine x_then_normal ?_
          refine c_region ?_
          refine t_st rfl (st_add rfl rfl (by omega)) ?_
          refine t_st rfl (st_move rfl) ?_
          refine t_nil ?_
          exact x_againM () (Option.some.inj hm).symm (e' := [(2, .pointer (some ⟨g89, 0, none⟩)), (19, .slice A17 (l20).length c18), (20, .int .i64 ((l20.length : Int))), (21, .int .i64 ((k124 : Int) + 1))]) (hp' := (g89, Cl 26 [.slice A2 (s1.Ready).length c3, .slice A5 (s1.Last).length c6, .slice A8 (s1.Due).length c9, .slice A11 (s1.Arcs).length c12, .slice A14 (s1.Choices).length c15]) :: R) ⟨rfl, rfl, rfl, rfl, trivial⟩ (.cons_cons _ (.refl _)) ⟨rfl, rfl, (hle123)⟩
      ·
        rintro _ b122 _ _ ⟨rfl, rfl, hle123⟩ hq155
        rw [hq155] at hk127
        have hm := elimL hk127
        refine c_seq ?_
        refine c_region ?_
        refine t_st rfl (st_lss_f rfl rfl (by omega)) ?_
        refine t_nil ?_
        refine x_then_normal ?_
        refine c_seq ?_
        refine c_cond_f rfl ?_
        refine c_exit ?_
        refine x_then_exit ?_
        refine x_then_exit ?_
        refine x_block_out ?_
        refine x_then_normal ?_
        refine c_seq ?_
        refine c_region ?_
        refine t_st rfl (st_assign rfl) ?_
        refine t_nil ?_
        refine x_then_normal ?_
        refine c_ret ?_
        obtain rfl := some1 hm
        exact retM (rs := [.tmp 4]) [.int .i64 (0)] hle123 (by decide) rfl ⟨rfl, trivial⟩ rfl (hp' := R) (.cons _ (.refl _)) ⟨rfl, rfl⟩

set_option maxRecDepth 20000 in
theorem clSlicesClone (A : Option Addr) (n c : Nat) (xs : List Value) (w : World) (hR : Rd w A xs) (hl : xs.length = n * 1) (hn : n * 8 ≤ 140737488355328 ∧ n ≤ 9223372036854775807) :
    CallsH Try.prog 12 [.slice A n c] w [] (fun v hp' => Seg0 3 1 v n xs hp') := by
  refine fn_enter 8 Try.func12 rfl Try.ntmps12 rfl ?_
  refine c_seq ?_
  refine c_region ?_
  refine t_st rfl (st_assign rfl) ?_
  refine t_nil ?_
  refine x_then_normal ?_
  refine c_seq ?_
  refine c_seq ?_
  refine c_region ?_
  refine t_st rfl (st_move rfl) ?_
  refine t_bool rfl (st_eqnil rfl rfl sl22) (fun hc1 => ?_) (fun hc1 => ?_)
  ·
    refine t_nil ?_
    refine x_then_normal ?_
    refine c_cond_t rfl ?_
    refine c_seq ?_
    refine c_region ?_
    refine t_st rfl (st_assign rfl) ?_
    refine t_nil ?_
    refine x_then_normal ?_
    refine c_ret ?_
    refine x_then_ret ?_
    subst hc1
    obtain rfl := hR.none_nil
    obtain rfl : n = 0 := by simp at hl; omega
    refine x_drop (hp' := []) (by repeat (first | exact List.Sublist.refl _ | exact List.nil_sublist _ | exact List.sublist_append_left _ _ | exact List.sublist_append_right _ _ | exact (List.sublist_append_right _ _).trans (List.sublist_append_right _ _) | apply List.Sublist.cons_cons | apply List.Sublist.cons)) ?_
    exact ret1 (Base.Le.refl _) rfl rfl (Seg0.nil)
  ·
    refine t_nil ?_
    refine x_then_normal ?_
    refine c_cond_f rfl ?_
    refine c_skip ?_
    refine x_then_normal ?_
    refine c_seq ?_
    refine c_region ?_
    refine t_do rfl (u_bslice (el := 3) [] [] rfl (fun _ => by kernel_rfl)) ?_
    rintro _ _ ⟨g0, rfl, rfl⟩
    refine t_st rfl (st_move rfl) ?_
    refine t_do rfl (u_app0 xs sl22 inf3 rfl (by decide) rfl rfl hl (fun w ho => hR.old ho) hn.2 hn.1) ?_
    rintro _ _ ⟨hs, rfl, hseg⟩
    refine t_st rfl (st_assign rfl) ?_
    refine t_nil ?_
    refine x_then_normal ?_
    refine c_ret ?_
    refine x_drop (hp' := hs) (by repeat (first | exact List.Sublist.refl _ | exact List.nil_sublist _ | exact List.sublist_append_left _ _ | exact List.sublist_append_right _ _ | exact (List.sublist_append_right _ _).trans (List.sublist_append_right _ _) | apply List.Sublist.cons_cons | apply List.Sublist.cons)) ?_
    exact ret1 (Base.Le.refl _) rfl rfl hseg

set_option maxRecDepth 20000 in
theorem cSlicesClone (b : Base) (R : Hp) (l4 : (List Int)) (A1 : Option Addr) (c2 : Nat) (h3 : FZ (RT.int .i64) b.w A1 c2 l4) (l10 : (List Int)) (hm : mSlicesClone l4 = some l10) :
    CallsG Try.prog 12 [.slice A1 (l4).length c2] b (R) (fun v b' hp' => ∃ (A7 : Option Addr), ∃ (c8 : Nat), ∃ (hs6 : Hp), .slice A7 (l10).length c8 = v ∧ (hs6 ++ R) = hp' ∧ OS 3 (OT.fr (RT.int .i64)) b'.w (.slice A7 l10.length c8) l10 hs6) := by
  unfold mSlicesClone at hm
  obtain ⟨_, hroom, hm⟩ := bindS hm
  have hroom := room_some hroom
  obtain rfl := some1 hm
  exact clone_of (r := (RT.int .i64)) (sz := 1) (by_ := 8) rfl (by decide) clSlicesClone h3 hroom

set_option maxRecDepth 20000 in
theorem clSlicesClone_2 (A : Option Addr) (n c : Nat) (xs : List Value) (w : World) (hR : Rd w A xs) (hl : xs.length = n * 1) (hn : n * 24 ≤ 140737488355328 ∧ n ≤ 9223372036854775807) :
    CallsH Try.prog 60 [.slice A n c] w [] (fun v hp' => Seg0 23 1 v n xs hp') := by
  refine fn_enter 8 Try.func60 rfl Try.ntmps60 rfl ?_
  refine c_seq ?_
  refine c_region ?_
  refine t_st rfl (st_assign rfl) ?_
  refine t_nil ?_
  refine x_then_normal ?_
  refine c_seq ?_
  refine c_seq ?_
  refine c_region ?_
  refine t_st rfl (st_move rfl) ?_
  refine t_bool rfl (st_eqnil rfl rfl sl35) (fun hc1 => ?_) (fun hc1 => ?_)
  ·
    refine t_nil ?_
    refine x_then_normal ?_
    refine c_cond_t rfl ?_
    refine c_seq ?_
    refine c_region ?_
    refine t_st rfl (st_assign rfl) ?_
    refine t_nil ?_
    refine x_then_normal ?_
    refine c_ret ?_
    refine x_then_ret ?_
    subst hc1
    obtain rfl := hR.none_nil
    obtain rfl : n = 0 := by simp at hl; omega
    refine x_drop (hp' := []) (by repeat (first | exact List.Sublist.refl _ | exact List.nil_sublist _ | exact List.sublist_append_left _ _ | exact List.sublist_append_right _ _ | exact (List.sublist_append_right _ _).trans (List.sublist_append_right _ _) | apply List.Sublist.cons_cons | apply List.Sublist.cons)) ?_
    exact ret1 (Base.Le.refl _) rfl rfl (Seg0.nil)
  ·
    refine t_nil ?_
    refine x_then_normal ?_
    refine c_cond_f rfl ?_
    refine c_skip ?_
    refine x_then_normal ?_
    refine c_seq ?_
    refine c_region ?_
    refine t_do rfl (u_bslice (el := 23) [] [] rfl (fun _ => by kernel_rfl)) ?_
    rintro _ _ ⟨g0, rfl, rfl⟩
    refine t_st rfl (st_move rfl) ?_
    refine t_do rfl (u_app0 xs sl35 inf23 rfl (by decide) rfl rfl hl (fun w ho => hR.old ho) hn.2 hn.1) ?_
    rintro _ _ ⟨hs, rfl, hseg⟩
    refine t_st rfl (st_assign rfl) ?_
    refine t_nil ?_
    refine x_then_normal ?_
    refine c_ret ?_
    refine x_drop (hp' := hs) (by repeat (first | exact List.Sublist.refl _ | exact List.nil_sublist _ | exact List.sublist_append_left _ _ | exact List.sublist_append_right _ _ | exact (List.sublist_append_right _ _).trans (List.sublist_append_right _ _) | apply List.Sublist.cons_cons | apply List.Sublist.cons)) ?_
    exact ret1 (Base.Le.refl _) rfl rfl hseg

set_option maxRecDepth 20000 in
theorem cSlicesClone_2 (b : Base) (R : Hp) (l4 : (List (List MendArc))) (A1 : Option Addr) (c2 : Nat) (h3 : FZ (RT.list rMendArc) b.w A1 c2 l4) (l10 : (List (List MendArc))) (hm : mSlicesClone_2 l4 = some l10) :
    CallsG Try.prog 60 [.slice A1 (l4).length c2] b (R) (fun v b' hp' => ∃ (A7 : Option Addr), ∃ (c8 : Nat), ∃ (hs6 : Hp), .slice A7 (l10).length c8 = v ∧ (hs6 ++ R) = hp' ∧ OS 23 (OT.fr (RT.list rMendArc)) b'.w (.slice A7 l10.length c8) l10 hs6) := by
  unfold mSlicesClone_2 at hm
  obtain ⟨_, hroom, hm⟩ := bindS hm
  have hroom := room_some hroom
  obtain rfl := some1 hm
  exact clone_of (r := (RT.list rMendArc)) (sz := 1) (by_ := 24) rfl (by decide) clSlicesClone_2 h3 hroom

set_option maxRecDepth 20000 in
theorem clSlicesClone_3 (A : Option Addr) (n c : Nat) (xs : List Value) (w : World) (hR : Rd w A xs) (hl : xs.length = n * 3) (hn : n * 24 ≤ 140737488355328 ∧ n ≤ 9223372036854775807) :
    CallsH Try.prog 11 [.slice A n c] w [] (fun v hp' => Seg0 34 3 v n xs hp') := by
  refine fn_enter 8 Try.func11 rfl Try.ntmps11 rfl ?_
  refine c_seq ?_
  refine c_region ?_
  refine t_st rfl (st_assign rfl) ?_
  refine t_nil ?_
  refine x_then_normal ?_
  refine c_seq ?_
  refine c_seq ?_
  refine c_region ?_
  refine t_st rfl (st_move rfl) ?_
  refine t_bool rfl (st_eqnil rfl rfl sl23) (fun hc1 => ?_) (fun hc1 => ?_)
  ·
    refine t_nil ?_
    refine x_then_normal ?_
    refine c_cond_t rfl ?_
    refine c_seq ?_
    refine c_region ?_
    refine t_st rfl (st_assign rfl) ?_
    refine t_nil ?_
    refine x_then_normal ?_
    refine c_ret ?_
    refine x_then_ret ?_
    subst hc1
    obtain rfl := hR.none_nil
    obtain rfl : n = 0 := by simp at hl; omega
    refine x_drop (hp' := []) (by repeat (first | exact List.Sublist.refl _ | exact List.nil_sublist _ | exact List.sublist_append_left _ _ | exact List.sublist_append_right _ _ | exact (List.sublist_append_right _ _).trans (List.sublist_append_right _ _) | apply List.Sublist.cons_cons | apply List.Sublist.cons)) ?_
    exact ret1 (Base.Le.refl _) rfl rfl (Seg0.nil)
  ·
    refine t_nil ?_
    refine x_then_normal ?_
    refine c_cond_f rfl ?_
    refine c_skip ?_
    refine x_then_normal ?_
    refine c_seq ?_
    refine c_region ?_
    refine t_do rfl (u_bslice (el := 34) [] [] rfl (fun _ => by kernel_rfl)) ?_
    rintro _ _ ⟨g0, rfl, rfl⟩
    refine t_st rfl (st_move rfl) ?_
    refine t_do rfl (u_app0 xs sl23 inf34 rfl (by decide) rfl rfl hl (fun w ho => hR.old ho) hn.2 hn.1) ?_
    rintro _ _ ⟨hs, rfl, hseg⟩
    refine t_st rfl (st_assign rfl) ?_
    refine t_nil ?_
    refine x_then_normal ?_
    refine c_ret ?_
    refine x_drop (hp' := hs) (by repeat (first | exact List.Sublist.refl _ | exact List.nil_sublist _ | exact List.sublist_append_left _ _ | exact List.sublist_append_right _ _ | exact (List.sublist_append_right _ _).trans (List.sublist_append_right _ _) | apply List.Sublist.cons_cons | apply List.Sublist.cons)) ?_
    exact ret1 (Base.Le.refl _) rfl rfl hseg

set_option maxRecDepth 20000 in
theorem cSlicesClone_3 (b : Base) (R : Hp) (l4 : (List MendArc)) (A1 : Option Addr) (c2 : Nat) (h3 : FZ rMendArc b.w A1 c2 l4) (l10 : (List MendArc)) (hm : mSlicesClone_3 l4 = some l10) :
    CallsG Try.prog 11 [.slice A1 (l4).length c2] b (R) (fun v b' hp' => ∃ (A7 : Option Addr), ∃ (c8 : Nat), ∃ (hs6 : Hp), .slice A7 (l10).length c8 = v ∧ (hs6 ++ R) = hp' ∧ OS 34 (OT.fr rMendArc) b'.w (.slice A7 l10.length c8) l10 hs6) := by
  unfold mSlicesClone_3 at hm
  obtain ⟨_, hroom, hm⟩ := bindS hm
  have hroom := room_some hroom
  obtain rfl := some1 hm
  exact clone_of (r := rMendArc) (sz := 3) (by_ := 24) rfl (by decide) clSlicesClone_3 h3 hroom

end Go.Proofs.Ytakehdnblmonlaa
