/- Contracts: the code computes its model (part 1). -/
import Derived.Test.YtakehdnblmonlaaDT
set_option linter.unusedVariables false
set_option linter.unusedSimpArgs false
namespace Go.Proofs.Ytakehdnblmonlaa
open Go.RowKit Go.Fp

set_option maxRecDepth 20000 in
theorem cMendWithin (b : Base) (R : Hp) (x1 : Int) (x2 : Int) (x3 : Int) (x10 : Bool) (hm : mMendWithin x1 x2 x3 = some x10) :
    CallsG Try.prog 37 [.int .i64 (x1), .int .i64 (x2), .int .i64 (x3)] b (R) (fun v b' hp' => .bool (x10) = v ∧ R = hp') := by
  refine fn_enterG 15 Try.func37 rfl Try.ntmps37 rfl ?_
  unfold mMendWithin at hm
  refine c_sr ?_
  refine t_as rfl rfl ?_
  refine t_ne ?_
  obtain ⟨x14, hj15, hk15⟩ := bindS hm
  refine c_join (fun b12 e' hp' => [(6, .bool (x14))] = e' ∧ R = hp' ∧ b.Le b12) ?_ ?_
  ·
   have hm := hj15
   refine c_region ?_
   refine t_mv rfl rfl ?_
   refine t_mv rfl rfl ?_
   refine t_bool rfl (st_geq rfl rfl) (fun hc16 => ?_) (fun hc16 => ?_)
   ·
    rw [if_pos hc16] at hm
    refine t_mv rfl rfl ?_
    refine t_yes 10 rfl rfl rfl ?_
    refine t_mv rfl rfl ?_
    refine t_yes 10 rfl rfl rfl ?_
    refine t_mv rfl rfl ?_
    refine t_yes 10 rfl rfl rfl ?_
    refine t_st rfl (st_leq rfl rfl) ?_
    refine t_st rfl (st_pick_t rfl rfl) ?_
    refine t_as rfl rfl ?_
    refine t_nil ?_
    obtain rfl := some1 hm
    exact x_join (e' := [(6, .bool (decide (x1 ≤ x3)))]) ⟨rfl, trivial⟩ (.refl _) ⟨rfl, rfl, (Base.Le.refl _)⟩
   ·
    rw [if_neg hc16] at hm
    refine t_mv rfl rfl ?_
    refine t_no 10 rfl rfl rfl rfl rfl ?_
    refine t_no 10 rfl rfl rfl rfl rfl ?_
    refine t_no 10 rfl rfl rfl rfl rfl ?_
    refine t_st rfl (st_pick_f rfl rfl) ?_
    refine t_as rfl rfl ?_
    refine t_nil ?_
    obtain rfl := some1 hm
    exact x_join (e' := [(6, .bool (false))]) ⟨rfl, trivial⟩ (.refl _) ⟨rfl, rfl, (Base.Le.refl _)⟩
  ·
   rintro b12 _ _ ⟨rfl, rfl, hle13⟩
   have hm := hk15
   refine c_ret ?_
   obtain rfl := some1 hm
   exact retM (rs := [.tmp 6]) [.bool (x14)] hle13 (by decide) rfl ⟨rfl, trivial⟩ rfl (.refl _) ⟨rfl, rfl⟩

set_option maxRecDepth 20000 in
theorem cMendCheckArcs (b : Base) (R : Hp) (s1 : MendGraph) (l20 : (List MendArc)) (A2 : Option Addr) (c3 : Nat) (A5 : Option Addr) (c6 : Nat) (A8 : Option Addr) (c9 : Nat) (A11 : Option Addr) (c12 : Nat) (A14 : Option Addr) (c15 : Nat) (A17 : Option Addr) (c18 : Nat) (h4 : FZ (RT.int .i64) b.w A2 c3 s1.Ready) (h7 : FZ (RT.int .i64) b.w A5 c6 s1.Last) (h10 : FZ (RT.int .i64) b.w A8 c9 s1.Due) (h13 : FZ rMendArc b.w A11 c12 s1.Arcs) (h16 : FZ rMendChoice b.w A14 c15 s1.Choices) (h19 : FZ rMendArc b.w A17 c18 l20) (x102 : Int) (hm : mMendCheckArcs s1 l20 = some x102) :
    CallsG Try.prog 59 [.agg #[.slice A2 (s1.Ready).length c3, .slice A5 (s1.Last).length c6, .slice A8 (s1.Due).length c9, .slice A11 (s1.Arcs).length c12, .slice A14 (s1.Choices).length c15], .slice A17 (l20).length c18] b (R) (fun v b' hp' => .int .i64 (x102) = v ∧ R = hp') := by
  refine fn_enterG 44 Try.func59 rfl Try.ntmps59 rfl ?_
  unfold mMendCheckArcs at hm
  refine c_sr ?_
  refine t_do rfl (u_box _ rfl rfl) ?_
  rintro _ _ ⟨g103, rfl, rfl⟩
  refine t_as rfl rfl ?_
  refine t_ne ?_
  refine c_seq ?_
  refine c_sr ?_
  refine t_mv rfl rfl ?_
  refine t_st rfl (st_len rfl sl23) ?_
  refine t_mv rfl rfl ?_
  refine t_ne ?_
  refine c_block ?_
  have hb105 : l20.length ≤ 9223372036854775807 := (FZ.bd h19)
  obtain ⟨t143, hl144, hk145⟩ := bindS hm
  refine c_forM (fun k142 => fun _ => fun b140 e' hp' => [(2, .pointer (some ⟨g103, 0, none⟩)), (7, .slice A17 (l20).length c18), (8, .int .i64 ((l20.length : Int))), (9, .int .i64 ((k142 : Int)))] = e' ∧ (g103, Cl 26 [.slice A2 (s1.Ready).length c3, .slice A5 (s1.Last).length c6, .slice A8 (s1.Due).length c9, .slice A11 (s1.Arcs).length c12, .slice A14 (s1.Choices).length c15]) :: R = hp' ∧ b.Le b140) hl144 (e' := [(2, .pointer (some ⟨g103, 0, none⟩)), (7, .slice A17 (l20).length c18), (8, .int .i64 ((l20.length : Int))), (9, .int .i64 0)]) ⟨rfl, rfl, rfl, rfl, trivial⟩ (.refl _) ⟨rfl, rfl, (Base.Le.refl _)⟩ ?_ ?_
  ·
   rintro k142 _ b140 _ _ oL104 hknL104 ⟨rfl, rfl, hle141⟩ hstepL104 houtL104
   unfold mMendCheckArcs_L104 at hstepL104
   have hm := hstepL104
   refine c_sr ?_
   refine t_st rfl (st_lss_t rfl rfl (by omega)) ?_
   refine t_ne ?_
   refine c_seq ?_
   refine c_cond_t rfl ?_
   refine c_skip ?_
   refine x_then_normal ?_
   refine c_seq ?_
   refine c_block ?_
   refine c_sr ?_
   obtain ⟨x146, h147, hm⟩ := bindS hm
   obtain ⟨j148, hj149, hx150⟩ := idx_some h147
   obtain ⟨cs151, hr152, hcs153, hA154, hlt155⟩ := FZ.get (sz := 3) rfl (by decide) (h19.le hle141) hx150
   obtain ⟨_, _, rfl, rfl, ⟨_, _, rfl, rfl, rfl⟩⟩ := hr152
   refine t_st rfl (st_index_old j148 rfl rfl hj149 hlt155 hA154 sl23) ?_
   refine t_st rfl (st_loadN_old (vs := [.int .i64 (x146.From), .int .i64 (x146.To), .int .i64 (x146.Len)]) 3 rfl agg34 hA154 rfl (fun j u hu => hcs153 j u hu)) ?_
   refine t_do rfl (u_alloc [.int .i64 0, .int .i64 0, .int .i64 0] zero34 rfl) ?_
   rintro _ _ ⟨g156, rfl, rfl⟩
   refine t_do rfl (u_storeN (vs := [_, _, _]) 0 3 rfl rfl rfl siz34 rfl (mem_c rfl (mem_c rfl (mem_c rfl mem_n))) rfl (by simp)) ?_
   rintro _ _ rfl
   refine t_ne ?_
   refine c_block ?_
   obtain ⟨x166, hj167, hk167⟩ := bindS hm
   refine c_join (fun b164 e' hp' => [(2, .pointer (some ⟨g103, 0, none⟩)), (6, .pointer (some ⟨g156, 0, none⟩)), (7, .slice A17 (l20).length c18), (8, .int .i64 ((l20.length : Int))), (9, .int .i64 ((k142 : Int))), (13, .bool (x166))] = e' ∧ (g103, Cl 26 [.slice A2 (s1.Ready).length c3, .slice A5 (s1.Last).length c6, .slice A8 (s1.Due).length c9, .slice A11 (s1.Arcs).length c12, .slice A14 (s1.Choices).length c15]) :: (g156, Cl 34 [.int .i64 (x146.From), .int .i64 (x146.To), .int .i64 (x146.Len)]) :: R = hp' ∧ b140.Le b164) ?_ ?_
   ·
    have hm := hj167
    refine c_region ?_
    refine t_st rfl (st_field rfl fld34_0) ?_
    refine t_st rfl (st_load 0 rfl one3 rfl rfl) ?_
    refine t_st rfl (st_field rfl fld26_0) ?_
    refine t_st rfl (st_load 1 rfl one22 rfl rfl) ?_
    refine t_st rfl (st_len rfl sl22) ?_
    obtain ⟨_, h168, hm⟩ := bindS hm
    have h168 := (chk_some h168).2
    refine t_st rfl (st_sub rfl rfl h168) ?_
    obtain ⟨x169, hcl170, hm⟩ := bindS hm
    refine t_do rfl (u_callW0 _ call37 rfl (fun w ho => cMendWithin _ [] x146.From 0 ((s1.Ready.length : Int) - 1) x169 hcl170) (fun _ _ _ h => h.2.symm)) ?_
    rintro _ _ ⟨⟨_, rfl, _⟩, rfl⟩
    rcases Bool.eq_false_or_eq_true x169 with hc171 | hc171
    ·
     rw [if_pos hc171] at hm
     refine t_resp 20 rfl (v' := .bool true) (by rw [hc171] <;> rfl) ?_
     refine t_st rfl (st_not_t rfl) ?_
     refine t_mv rfl rfl ?_
     refine t_yes 22 rfl rfl rfl ?_
     refine t_st rfl (st_field rfl fld34_1) ?_
     refine t_yes 22 rfl rfl rfl ?_
     refine t_st rfl (st_load 0 rfl one3 rfl rfl) ?_
     refine t_yes 22 rfl rfl rfl ?_
     refine t_st rfl (st_field rfl fld26_0) ?_
     refine t_yes 22 rfl rfl rfl ?_
     refine t_st rfl (st_load 1 rfl one22 rfl rfl) ?_
     refine t_yes 22 rfl rfl rfl ?_
     refine t_st rfl (st_len rfl sl22) ?_
     refine t_yes 22 rfl rfl rfl ?_
     obtain ⟨_, h172, hm⟩ := bindS hm
     have h172 := (chk_some h172).2
     refine t_st rfl (st_sub rfl rfl h172) ?_
     refine t_yes 22 rfl rfl rfl ?_
     obtain ⟨x173, hcl174, hm⟩ := bindS hm
     refine t_do rfl (u_callW0 _ call37 rfl (fun w ho => cMendWithin _ [] x146.To 0 ((s1.Ready.length : Int) - 1) x173 hcl174) (fun _ _ _ h => h.2.symm)) ?_
     rintro _ _ ⟨⟨_, rfl, _⟩, rfl⟩
     refine t_yes 22 rfl rfl rfl ?_
     refine t_st rfl (st_not rfl) ?_
     refine t_st rfl (st_pick_f rfl rfl) ?_
     refine t_as rfl rfl ?_
     refine t_nil ?_
     obtain rfl := some1 hm
     refine x_pullb 1 rfl ?_
     exact x_join (e' := [(2, .pointer (some ⟨g103, 0, none⟩)), (6, .pointer (some ⟨g156, 0, none⟩)), (7, .slice A17 (l20).length c18), (8, .int .i64 ((l20.length : Int))), (9, .int .i64 ((k142 : Int))), (13, .bool (!x173))]) ⟨rfl, rfl, rfl, rfl, rfl, rfl, trivial⟩ (.refl _) ⟨rfl, rfl, (Base.Le.refl _)⟩
    ·
     rw [if_neg (fun hh => Bool.noConfusion (hh.symm.trans hc171))] at hm
     refine t_resp 20 rfl (v' := .bool false) (by rw [hc171] <;> rfl) ?_
     refine t_st rfl (st_not_f rfl) ?_
     refine t_mv rfl rfl ?_
     refine t_no 22 rfl rfl rfl rfl rfl ?_
     refine t_no 22 rfl rfl rfl rfl rfl ?_
     refine t_no 22 rfl rfl rfl rfl rfl ?_
     refine t_no 22 rfl rfl rfl rfl rfl ?_
     refine t_no 22 rfl rfl rfl rfl rfl ?_
     refine t_no 22 rfl rfl rfl rfl rfl ?_
     refine t_no 22 rfl rfl rfl rfl rfl ?_
     refine t_no 22 rfl rfl rfl rfl rfl ?_
     refine t_st rfl (st_pick_t rfl rfl) ?_
     refine t_as rfl rfl ?_
     refine t_nil ?_
     obtain rfl := some1 hm
     refine x_pullb 1 rfl ?_
     exact x_join (e' := [(2, .pointer (some ⟨g103, 0, none⟩)), (6, .pointer (some ⟨g156, 0, none⟩)), (7, .slice A17 (l20).length c18), (8, .int .i64 ((l20.length : Int))), (9, .int .i64 ((k142 : Int))), (13, .bool (true))]) ⟨rfl, rfl, rfl, rfl, rfl, rfl, trivial⟩ (.refl _) ⟨rfl, rfl, (Base.Le.refl _)⟩
   ·
    rintro b164 _ _ ⟨rfl, rfl, hle165⟩
    have hm := hk167
    refine c_cond _ rfl (fun hc175 => ?_) (fun hc175 => ?_)
    ·
     rw [if_pos hc175] at hm
     refine c_sr ?_
     refine t_as rfl rfl ?_
     refine t_ne ?_
     refine c_ret ?_
     refine x_block_ret ?_
     refine x_block_ret ?_
     refine x_then_ret ?_
     refine x_then_ret ?_
     refine x_block_ret ?_
     refine x_then_ret ?_
     have hq176 := houtL104 _ (Option.some.inj hm).symm
     rw [hq176] at hk145
     have hm := elimR hk145
     obtain rfl := some1 hm
     exact retM (rs := [.tmp 4]) [.int .i64 (3)] (hle141.trans hle165) (by decide) rfl ⟨rfl, trivial⟩ rfl (.cons _ (.cons _ (.refl _))) ⟨rfl, rfl⟩
    ·
     rw [if_neg (fun hh => Bool.noConfusion (hh.symm.trans hc175))] at hm
     refine c_sr ?_
     refine t_st rfl (st_field rfl fld34_0) ?_
     refine t_st rfl (st_load 1 rfl one3 rfl rfl) ?_
     refine t_st rfl (st_field rfl fld34_1) ?_
     refine t_st rfl (st_load 1 rfl one3 rfl rfl) ?_
     refine t_st rfl (st_eql rfl rfl) ?_
     refine t_as rfl rfl ?_
     refine t_ne ?_
     refine c_cond _ rfl (fun hc177 => ?_) (fun hc177 => ?_)
     ·
      rw [if_pos (of_decide_eq_true hc177)] at hm
      refine c_sr ?_
      refine t_as rfl rfl ?_
      refine t_ne ?_
      refine c_ret ?_
      refine x_block_ret ?_
      refine x_block_ret ?_
      refine x_then_ret ?_
      refine x_then_ret ?_
      refine x_block_ret ?_
      refine x_then_ret ?_
      have hq178 := houtL104 _ (Option.some.inj hm).symm
      rw [hq178] at hk145
      have hm := elimR hk145
      obtain rfl := some1 hm
      exact retM (rs := [.tmp 4]) [.int .i64 (1)] (hle141.trans hle165) (by decide) rfl ⟨rfl, trivial⟩ rfl (.cons _ (.cons _ (.refl _))) ⟨rfl, rfl⟩
     ·
      rw [if_neg (of_decide_eq_false hc177)] at hm
      refine c_sr ?_
      refine t_st rfl (st_field rfl fld34_2) ?_
      refine t_st rfl (st_load 1 rfl one3 rfl rfl) ?_
      obtain ⟨x179, hcl180, hm⟩ := bindS hm
      refine t_do rfl (u_callW0 _ call37 rfl (fun w ho => cMendWithin _ [] x146.Len (-28800) 28800 x179 hcl180) (fun _ _ _ h => h.2.symm)) ?_
      rintro _ _ ⟨⟨_, rfl, _⟩, rfl⟩
      refine t_st rfl (st_not rfl) ?_
      refine t_as rfl rfl ?_
      refine t_ne ?_
      refine c_cond _ rfl (fun hc181 => ?_) (fun hc181 => ?_)
      ·
       rw [if_neg (fun hh => Bool.noConfusion (hh.symm.trans (notT hc181)))] at hm
       refine c_sr ?_
       refine t_as rfl rfl ?_
       refine t_ne ?_
       refine c_ret ?_
       refine x_block_ret ?_
       refine x_block_ret ?_
       refine x_then_ret ?_
       refine x_then_ret ?_
       refine x_block_ret ?_
       refine x_then_ret ?_
       have hq182 := houtL104 _ (Option.some.inj hm).symm
       rw [hq182] at hk145
       have hm := elimR hk145
       obtain rfl := some1 hm
       exact retM (rs := [.tmp 4]) [.int .i64 (2)] (hle141.trans hle165) (by decide) rfl ⟨rfl, trivial⟩ rfl (.cons _ (.cons _ (.refl _))) ⟨rfl, rfl⟩
      ·
       rw [if_pos (notF hc181)] at hm
       refine c_skip ?_
       refine x_block_normal ?_
       refine x_block_normal ?_
       refine x_then_normal ?_
       refine c_region ?_
       refine t_st rfl (st_add rfl rfl (by omega)) ?_
       refine t_mv rfl rfl ?_
       refine t_nil ?_
       exact x_againM () (Option.some.inj hm).symm (e' := [(2, .pointer (some ⟨g103, 0, none⟩)), (7, .slice A17 (l20).length c18), (8, .int .i64 ((l20.length : Int))), (9, .int .i64 ((k142 : Int) + 1))]) ⟨rfl, rfl, rfl, rfl, trivial⟩ (.cons_cons _ (.cons _ (.refl _))) ⟨rfl, rfl, ((hle141.trans hle165))⟩
  ·
   rintro _ b140 _ _ ⟨rfl, rfl, hle141⟩ hq183
   rw [hq183] at hk145
   have hm := elimL hk145
   refine c_sr ?_
   refine t_st rfl (st_lss_f rfl rfl (by omega)) ?_
   refine t_ne ?_
   refine c_seq ?_
   refine c_cond_f rfl ?_
   refine c_exit ?_
   refine x_then_exit ?_
   refine x_then_exit ?_
   refine x_block_out ?_
   refine x_then_normal ?_
   refine c_sr ?_
   refine t_as rfl rfl ?_
   refine t_ne ?_
   refine c_ret ?_
   obtain rfl := some1 hm
   exact retM (rs := [.tmp 4]) [.int .i64 (0)] hle141 (by decide) rfl ⟨rfl, trivial⟩ rfl (.cons _ (.refl _)) ⟨rfl, rfl⟩

set_option maxRecDepth 20000 in
theorem cMendCheckGraph (b : Base) (R : Hp) (s1 : MendGraph) (A2 : Option Addr) (c3 : Nat) (A5 : Option Addr) (c6 : Nat) (A8 : Option Addr) (c9 : Nat) (A11 : Option Addr) (c12 : Nat) (A14 : Option Addr) (c15 : Nat) (h4 : FZ (RT.int .i64) b.w A2 c3 s1.Ready) (h7 : FZ (RT.int .i64) b.w A5 c6 s1.Last) (h10 : FZ (RT.int .i64) b.w A8 c9 s1.Due) (h13 : FZ rMendArc b.w A11 c12 s1.Arcs) (h16 : FZ rMendChoice b.w A14 c15 s1.Choices) (x339 : Int) (hm : mMendCheckGraph s1 = some x339) :
    CallsG Try.prog 36 [.agg #[.slice A2 (s1.Ready).length c3, .slice A5 (s1.Last).length c6, .slice A8 (s1.Due).length c9, .slice A11 (s1.Arcs).length c12, .slice A14 (s1.Choices).length c15]] b (R) (fun v b' hp' => .int .i64 (x339) = v ∧ R = hp') := by
  refine fn_enterG 112 Try.func36 rfl Try.ntmps36 rfl ?_
  unfold mMendCheckGraph at hm
  refine c_sr ?_
  refine t_do rfl (u_box _ rfl rfl) ?_
  rintro _ _ ⟨g340, rfl, rfl⟩
  refine t_as rfl rfl ?_
  refine t_ne ?_
  refine c_seq ?_
  refine c_block ?_
  obtain ⟨x345, hj346, hk346⟩ := bindS hm
  refine c_join (fun b343 e' hp' => [(1, .pointer (some ⟨g340, 0, none⟩)), (10, .bool (x345))] = e' ∧ (g340, Cl 26 [.slice A2 (s1.Ready).length c3, .slice A5 (s1.Last).length c6, .slice A8 (s1.Due).length c9, .slice A11 (s1.Arcs).length c12, .slice A14 (s1.Choices).length c15]) :: R = hp' ∧ b.Le b343) ?_ ?_
  ·
   have hm := hj346
   refine c_region ?_
   refine t_st rfl (st_field rfl fld26_0) ?_
   refine t_st rfl (st_load 0 rfl one22 rfl rfl) ?_
   refine t_st rfl (st_len rfl sl22) ?_
   refine t_bool rfl (st_gtr rfl rfl) (fun hc347 => ?_) (fun hc347 => ?_)
   ·
    rw [if_pos hc347] at hm
    refine t_mv rfl rfl ?_
    refine t_no 15 rfl rfl rfl rfl rfl ?_
    refine t_no 15 rfl rfl rfl rfl rfl ?_
    refine t_no 15 rfl rfl rfl rfl rfl ?_
    refine t_no 15 rfl rfl rfl rfl rfl ?_
    refine t_st rfl (st_pick_t rfl rfl) ?_
    refine t_mv rfl rfl ?_
    refine t_no 21 rfl rfl rfl rfl rfl ?_
    refine t_no 21 rfl rfl rfl rfl rfl ?_
    refine t_no 21 rfl rfl rfl rfl rfl ?_
    refine t_no 21 rfl rfl rfl rfl rfl ?_
    refine t_st rfl (st_pick_t rfl rfl) ?_
    refine t_as rfl rfl ?_
    refine t_nil ?_
    obtain rfl := some1 hm
    exact x_join (e' := [(1, .pointer (some ⟨g340, 0, none⟩)), (10, .bool (true))]) ⟨rfl, rfl, trivial⟩ (.refl _) ⟨rfl, rfl, (Base.Le.refl _)⟩
   ·
    rw [if_neg hc347] at hm
    refine t_mv rfl rfl ?_
    refine t_yes 15 rfl rfl rfl ?_
    refine t_st rfl (st_field rfl fld26_3) ?_
    refine t_yes 15 rfl rfl rfl ?_
    refine t_st rfl (st_load 0 rfl one23 rfl rfl) ?_
    refine t_yes 15 rfl rfl rfl ?_
    refine t_st rfl (st_len rfl sl23) ?_
    refine t_yes 15 rfl rfl rfl ?_
    refine t_bool rfl (st_gtr rfl rfl) (fun hc348 => ?_) (fun hc348 => ?_)
    ·
     rw [if_pos hc348] at hm
     refine t_st rfl (st_pick_f rfl rfl) ?_
     refine t_mv rfl rfl ?_
     refine t_no 21 rfl rfl rfl rfl rfl ?_
     refine t_no 21 rfl rfl rfl rfl rfl ?_
     refine t_no 21 rfl rfl rfl rfl rfl ?_
     refine t_no 21 rfl rfl rfl rfl rfl ?_
     refine t_st rfl (st_pick_t rfl rfl) ?_
     refine t_as rfl rfl ?_
     refine t_nil ?_
     obtain rfl := some1 hm
     exact x_join (e' := [(1, .pointer (some ⟨g340, 0, none⟩)), (10, .bool (true))]) ⟨rfl, rfl, trivial⟩ (.refl _) ⟨rfl, rfl, (Base.Le.refl _)⟩
    ·
     rw [if_neg hc348] at hm
     refine t_st rfl (st_pick_f rfl rfl) ?_
     refine t_mv rfl rfl ?_
     refine t_yes 21 rfl rfl rfl ?_
     refine t_st rfl (st_field rfl fld26_4) ?_
     refine t_yes 21 rfl rfl rfl ?_
     refine t_st rfl (st_load 0 rfl one24 rfl rfl) ?_
     refine t_yes 21 rfl rfl rfl ?_
     refine t_st rfl (st_len rfl sl24) ?_
     refine t_yes 21 rfl rfl rfl ?_
     refine t_st rfl (st_gtr rfl rfl) ?_
     refine t_st rfl (st_pick_f rfl rfl) ?_
     refine t_as rfl rfl ?_
     refine t_nil ?_
     obtain rfl := some1 hm
     exact x_join (e' := [(1, .pointer (some ⟨g340, 0, none⟩)), (10, .bool (decide (300 < (s1.Choices.length : Int))))]) ⟨rfl, rfl, trivial⟩ (.refl _) ⟨rfl, rfl, (Base.Le.refl _)⟩
  ·
   rintro b343 _ _ ⟨rfl, rfl, hle344⟩
   have hm := hk346
   refine c_cond _ rfl (fun hc349 => ?_) (fun hc349 => ?_)
   ·
    rw [if_pos hc349] at hm
    refine c_sr ?_
    refine t_as rfl rfl ?_
    refine t_ne ?_
    refine c_ret ?_
    refine x_block_ret ?_
    refine x_then_ret ?_
    obtain rfl := some1 hm
    exact retM (rs := [.tmp 2]) [.int .i64 (4)] hle344 (by decide) rfl ⟨rfl, trivial⟩ rfl (.cons _ (.refl _)) ⟨rfl, rfl⟩
   ·
    rw [if_neg (fun hh => Bool.noConfusion (hh.symm.trans hc349))] at hm
    obtain ⟨x353, hj354, hk354⟩ := bindS hm
    refine c_join (fun b351 e' hp' => [(1, .pointer (some ⟨g340, 0, none⟩)), (27, .bool (x353))] = e' ∧ (g340, Cl 26 [.slice A2 (s1.Ready).length c3, .slice A5 (s1.Last).length c6, .slice A8 (s1.Due).length c9, .slice A11 (s1.Arcs).length c12, .slice A14 (s1.Choices).length c15]) :: R = hp' ∧ b343.Le b351) ?_ ?_
    ·
     have hm := hj354
     refine c_region ?_
     refine t_st rfl (st_field rfl fld26_1) ?_
     refine t_st rfl (st_load 0 rfl one22 rfl rfl) ?_
     refine t_st rfl (st_len rfl sl22) ?_
     refine t_st rfl (st_field rfl fld26_0) ?_
     refine t_st rfl (st_load 0 rfl one22 rfl rfl) ?_
     refine t_st rfl (st_len rfl sl22) ?_
     refine t_bool rfl (st_neq rfl rfl) (fun hc355 => ?_) (fun hc355 => ?_)
     ·
      rw [if_pos hc355] at hm
      refine t_mv rfl rfl ?_
      refine t_no 35 rfl rfl rfl rfl rfl ?_
      refine t_no 35 rfl rfl rfl rfl rfl ?_
      refine t_no 35 rfl rfl rfl rfl rfl ?_
      refine t_no 35 rfl rfl rfl rfl rfl ?_
      refine t_no 35 rfl rfl rfl rfl rfl ?_
      refine t_no 35 rfl rfl rfl rfl rfl ?_
      refine t_no 35 rfl rfl rfl rfl rfl ?_
      refine t_st rfl (st_pick_t rfl rfl) ?_
      refine t_as rfl rfl ?_
      refine t_nil ?_
      obtain rfl := some1 hm
      exact x_join (e' := [(1, .pointer (some ⟨g340, 0, none⟩)), (27, .bool (true))]) ⟨rfl, rfl, trivial⟩ (.refl _) ⟨rfl, rfl, (Base.Le.refl _)⟩
     ·
      rw [if_neg hc355] at hm
      refine t_mv rfl rfl ?_
      refine t_yes 35 rfl rfl rfl ?_
      refine t_st rfl (st_field rfl fld26_2) ?_
      refine t_yes 35 rfl rfl rfl ?_
      refine t_st rfl (st_load 0 rfl one22 rfl rfl) ?_
      refine t_yes 35 rfl rfl rfl ?_
      refine t_st rfl (st_len rfl sl22) ?_
      refine t_yes 35 rfl rfl rfl ?_
      refine t_st rfl (st_field rfl fld26_0) ?_
      refine t_yes 35 rfl rfl rfl ?_
      refine t_st rfl (st_load 0 rfl one22 rfl rfl) ?_
      refine t_yes 35 rfl rfl rfl ?_
      refine t_st rfl (st_len rfl sl22) ?_
      refine t_yes 35 rfl rfl rfl ?_
      refine t_st rfl (st_neq rfl rfl) ?_
      refine t_st rfl (st_pick_f rfl rfl) ?_
      refine t_as rfl rfl ?_
      refine t_nil ?_
      obtain rfl := some1 hm
      exact x_join (e' := [(1, .pointer (some ⟨g340, 0, none⟩)), (27, .bool (decide ((s1.Due.length : Int) ≠ (s1.Ready.length : Int))))]) ⟨rfl, rfl, trivial⟩ (.refl _) ⟨rfl, rfl, (Base.Le.refl _)⟩
    ·
     rintro b351 _ _ ⟨rfl, rfl, hle352⟩
     have hm := hk354
     refine c_cond _ rfl (fun hc356 => ?_) (fun hc356 => ?_)
     ·
      rw [if_pos hc356] at hm
      refine c_sr ?_
      refine t_as rfl rfl ?_
      refine t_ne ?_
      refine c_ret ?_
      refine x_block_ret ?_
      refine x_then_ret ?_
      obtain rfl := some1 hm
      exact retM (rs := [.tmp 2]) [.int .i64 (1)] (hle344.trans hle352) (by decide) rfl ⟨rfl, trivial⟩ rfl (.cons _ (.refl _)) ⟨rfl, rfl⟩
     ·
      rw [if_neg (fun hh => Bool.noConfusion (hh.symm.trans hc356))] at hm
      refine c_skip ?_
      refine x_block_normal ?_
      refine x_then_normal ?_
      refine c_seq ?_
      refine c_sr ?_
      refine t_st rfl (st_field rfl fld26_0) ?_
      refine t_st rfl (st_load 0 rfl one22 rfl rfl) ?_
      refine t_st rfl (st_len rfl sl22) ?_
      refine t_mv rfl rfl ?_
      refine t_ne ?_
      refine c_block ?_
      have hb358 : s1.Ready.length ≤ 9223372036854775807 := (FZ.bd (h4.le (hle344.trans hle352)))
      obtain ⟨t443, hl444, hk445⟩ := bindS hm
      refine c_forM (fun k442 => fun _ => fun b440 e' hp' => [(1, .pointer (some ⟨g340, 0, none⟩)), (46, .int .i64 ((s1.Ready.length : Int))), (47, .int .i64 ((k442 : Int)))] = e' ∧ (g340, Cl 26 [.slice A2 (s1.Ready).length c3, .slice A5 (s1.Last).length c6, .slice A8 (s1.Due).length c9, .slice A11 (s1.Arcs).length c12, .slice A14 (s1.Choices).length c15]) :: R = hp' ∧ b351.Le b440) hl444 (e' := [(1, .pointer (some ⟨g340, 0, none⟩)), (46, .int .i64 ((s1.Ready.length : Int))), (47, .int .i64 0)]) ⟨rfl, rfl, rfl, trivial⟩ (.refl _) ⟨rfl, rfl, (Base.Le.refl _)⟩ ?_ ?_
      ·
       rintro k442 _ b440 _ _ oL357 hknL357 ⟨rfl, rfl, hle441⟩ hstepL357 houtL357
       unfold mMendCheckGraph_L357 at hstepL357
       have hm := hstepL357
       refine c_sr ?_
       refine t_st rfl (st_lss_t rfl rfl (by omega)) ?_
       refine t_ne ?_
       refine c_seq ?_
       refine c_cond_t rfl ?_
       refine c_skip ?_
       refine x_then_normal ?_
       refine c_seq ?_
       refine c_block ?_
       refine c_sr ?_
       refine t_mv rfl rfl ?_
       refine t_as rfl rfl ?_
       refine t_ne ?_
       obtain ⟨x486, hj487, hk487⟩ := bindS hm
       refine c_join (fun b484 e' hp' => [(1, .pointer (some ⟨g340, 0, none⟩)), (46, .int .i64 ((s1.Ready.length : Int))), (47, .int .i64 ((k442 : Int))), (74, .bool (x486))] = e' ∧ (g340, Cl 26 [.slice A2 (s1.Ready).length c3, .slice A5 (s1.Last).length c6, .slice A8 (s1.Due).length c9, .slice A11 (s1.Arcs).length c12, .slice A14 (s1.Choices).length c15]) :: R = hp' ∧ b440.Le b484) ?_ ?_
       ·
        have hm := hj487
        refine c_region ?_
        refine t_st rfl (st_field rfl fld26_0) ?_
        refine t_st rfl (st_load 0 rfl one22 rfl rfl) ?_
        refine t_mv rfl rfl ?_
        obtain ⟨x488, h489, hm⟩ := bindS hm
        obtain ⟨j490, hj491, hx492⟩ := idx_some h489
        obtain ⟨cs493, hr494, hcs495, hA496, hlt497⟩ := FZ.get (sz := 1) rfl (by decide) (h4.le (hle344.trans (hle352.trans hle441))) hx492
        obtain rfl := hr494
        refine t_st rfl (st_index_old j490 rfl rfl hj491 hlt497 hA496 sl22) ?_
        refine t_st rfl (st_load_old rfl one3 (hcs495 0 _ rfl)) ?_
        obtain ⟨x498, hcl499, hm⟩ := bindS hm
        refine t_do rfl (u_callW0 _ call37 rfl (fun w ho => cMendWithin _ [] x488 0 28800 x498 hcl499) (fun _ _ _ h => h.2.symm)) ?_
        rintro _ _ ⟨⟨_, rfl, _⟩, rfl⟩
        rcases Bool.eq_false_or_eq_true x498 with hc500 | hc500
        ·
         rw [if_pos hc500] at hm
         refine t_resp 55 rfl (v' := .bool true) (by rw [hc500] <;> rfl) ?_
         refine t_st rfl (st_not_t rfl) ?_
         refine t_mv rfl rfl ?_
         refine t_yes 57 rfl rfl rfl ?_
         refine t_st rfl (st_field rfl fld26_1) ?_
         refine t_yes 57 rfl rfl rfl ?_
         refine t_st rfl (st_load 0 rfl one22 rfl rfl) ?_
         refine t_yes 57 rfl rfl rfl ?_
         refine t_mv rfl rfl ?_
         refine t_yes 57 rfl rfl rfl ?_
         obtain ⟨x501, h502, hm⟩ := bindS hm
         obtain ⟨j503, hj504, hx505⟩ := idx_some h502
         obtain ⟨cs506, hr507, hcs508, hA509, hlt510⟩ := FZ.get (sz := 1) rfl (by decide) (h7.le (hle344.trans (hle352.trans hle441))) hx505
         obtain rfl := hr507
         refine t_st rfl (st_index_old j503 rfl rfl hj504 hlt510 hA509 sl22) ?_
         refine t_yes 57 rfl rfl rfl ?_
         refine t_st rfl (st_load_old rfl one3 (hcs508 0 _ rfl)) ?_
         refine t_yes 57 rfl rfl rfl ?_
         obtain ⟨x511, hcl512, hm⟩ := bindS hm
         refine t_do rfl (u_callW0 _ call37 rfl (fun w ho => cMendWithin _ [] x501 (-1) 28800 x511 hcl512) (fun _ _ _ h => h.2.symm)) ?_
         rintro _ _ ⟨⟨_, rfl, _⟩, rfl⟩
         rcases Bool.eq_false_or_eq_true x511 with hc513 | hc513
         ·
          rw [if_pos hc513] at hm
          refine t_resp 63 rfl (v' := .bool true) (by rw [hc513] <;> rfl) ?_
          refine t_yes 57 rfl rfl rfl ?_
          refine t_st rfl (st_not_t rfl) ?_
          refine t_st rfl (st_pick_f rfl rfl) ?_
          refine t_mv rfl rfl ?_
          refine t_yes 66 rfl rfl rfl ?_
          refine t_st rfl (st_field rfl fld26_2) ?_
          refine t_yes 66 rfl rfl rfl ?_
          refine t_st rfl (st_load 0 rfl one22 rfl rfl) ?_
          refine t_yes 66 rfl rfl rfl ?_
          refine t_mv rfl rfl ?_
          refine t_yes 66 rfl rfl rfl ?_
          obtain ⟨x514, h515, hm⟩ := bindS hm
          obtain ⟨j516, hj517, hx518⟩ := idx_some h515
          obtain ⟨cs519, hr520, hcs521, hA522, hlt523⟩ := FZ.get (sz := 1) rfl (by decide) (h10.le (hle344.trans (hle352.trans hle441))) hx518
          obtain rfl := hr520
          refine t_st rfl (st_index_old j516 rfl rfl hj517 hlt523 hA522 sl22) ?_
          refine t_yes 66 rfl rfl rfl ?_
          refine t_st rfl (st_load_old rfl one3 (hcs521 0 _ rfl)) ?_
          refine t_yes 66 rfl rfl rfl ?_
          obtain ⟨x524, hcl525, hm⟩ := bindS hm
          refine t_do rfl (u_callW0 _ call37 rfl (fun w ho => cMendWithin _ [] x514 (-1) 28800 x524 hcl525) (fun _ _ _ h => h.2.symm)) ?_
          rintro _ _ ⟨⟨_, rfl, _⟩, rfl⟩
          refine t_yes 66 rfl rfl rfl ?_
          refine t_st rfl (st_not rfl) ?_
          refine t_st rfl (st_pick_f rfl rfl) ?_
          refine t_nil ?_
          obtain rfl := some1 hm
          exact x_join (e' := [(1, .pointer (some ⟨g340, 0, none⟩)), (46, .int .i64 ((s1.Ready.length : Int))), (47, .int .i64 ((k442 : Int))), (74, .bool (!x524))]) ⟨rfl, rfl, rfl, rfl, trivial⟩ (.refl _) ⟨rfl, rfl, (Base.Le.refl _)⟩
         ·
          rw [if_neg (fun hh => Bool.noConfusion (hh.symm.trans hc513))] at hm
          refine t_resp 63 rfl (v' := .bool false) (by rw [hc513] <;> rfl) ?_
          refine t_yes 57 rfl rfl rfl ?_
          refine t_st rfl (st_not_f rfl) ?_
          refine t_st rfl (st_pick_f rfl rfl) ?_
          refine t_mv rfl rfl ?_
          refine t_no 66 rfl rfl rfl rfl rfl ?_
          refine t_no 66 rfl rfl rfl rfl rfl ?_
          refine t_no 66 rfl rfl rfl rfl rfl ?_
          refine t_no 66 rfl rfl rfl rfl rfl ?_
          refine t_no 66 rfl rfl rfl rfl rfl ?_
          refine t_no 66 rfl rfl rfl rfl rfl ?_
          refine t_no 66 rfl rfl rfl rfl rfl ?_
          refine t_st rfl (st_pick_t rfl rfl) ?_
          refine t_nil ?_
          obtain rfl := some1 hm
          exact x_join (e' := [(1, .pointer (some ⟨g340, 0, none⟩)), (46, .int .i64 ((s1.Ready.length : Int))), (47, .int .i64 ((k442 : Int))), (74, .bool (true))]) ⟨rfl, rfl, rfl, rfl, trivial⟩ (.refl _) ⟨rfl, rfl, (Base.Le.refl _)⟩
        ·
         rw [if_neg (fun hh => Bool.noConfusion (hh.symm.trans hc500))] at hm
         refine t_resp 55 rfl (v' := .bool false) (by rw [hc500] <;> rfl) ?_
         refine t_st rfl (st_not_f rfl) ?_
         refine t_mv rfl rfl ?_
         refine t_no 57 rfl rfl rfl rfl rfl ?_
         refine t_no 57 rfl rfl rfl rfl rfl ?_
         refine t_no 57 rfl rfl rfl rfl rfl ?_
         refine t_no 57 rfl rfl rfl rfl rfl ?_
         refine t_no 57 rfl rfl rfl rfl rfl ?_
         refine t_no 57 rfl rfl rfl rfl rfl ?_
         refine t_no 57 rfl rfl rfl rfl rfl ?_
         refine t_st rfl (st_pick_t rfl rfl) ?_
         refine t_mv rfl rfl ?_
         refine t_no 66 rfl rfl rfl rfl rfl ?_
         refine t_no 66 rfl rfl rfl rfl rfl ?_
         refine t_no 66 rfl rfl rfl rfl rfl ?_
         refine t_no 66 rfl rfl rfl rfl rfl ?_
         refine t_no 66 rfl rfl rfl rfl rfl ?_
         refine t_no 66 rfl rfl rfl rfl rfl ?_
         refine t_no 66 rfl rfl rfl rfl rfl ?_
         refine t_st rfl (st_pick_t rfl rfl) ?_
         refine t_nil ?_
         obtain rfl := some1 hm
         exact x_join (e' := [(1, .pointer (some ⟨g340, 0, none⟩)), (46, .int .i64 ((s1.Ready.length : Int))), (47, .int .i64 ((k442 : Int))), (74, .bool (true))]) ⟨rfl, rfl, rfl, rfl, trivial⟩ (.refl _) ⟨rfl, rfl, (Base.Le.refl _)⟩
       ·
        rintro b484 _ _ ⟨rfl, rfl, hle485⟩
        have hm := hk487
        refine c_cond _ rfl (fun hc526 => ?_) (fun hc526 => ?_)
        ·
         rw [if_pos hc526] at hm
         refine c_sr ?_
         refine t_as rfl rfl ?_
         refine t_ne ?_
         refine c_ret ?_
         refine x_block_ret ?_
         refine x_then_ret ?_
         refine x_then_ret ?_
         refine x_block_ret ?_
         refine x_then_ret ?_
         have hq527 := houtL357 _ (Option.some.inj hm).symm
         rw [hq527] at hk445
         have hm := elimR hk445
         obtain rfl := some1 hm
         exact retM (rs := [.tmp 2]) [.int .i64 (2)] (hle344.trans (hle352.trans (hle441.trans hle485))) (by decide) rfl ⟨rfl, trivial⟩ rfl (.cons _ (.refl _)) ⟨rfl, rfl⟩
        ·
         rw [if_neg (fun hh => Bool.noConfusion (hh.symm.trans hc526))] at hm
         refine c_skip ?_
         refine x_block_normal ?_
         refine x_then_normal ?_
         refine c_region ?_
         refine t_st rfl (st_add rfl rfl (by omega)) ?_
         refine t_mv rfl rfl ?_
         refine t_nil ?_
         exact x_againM () (Option.some.inj hm).symm (e' := [(1, .pointer (some ⟨g340, 0, none⟩)), (46, .int .i64 ((s1.Ready.length : Int))), (47, .int .i64 ((k442 : Int) + 1))]) ⟨rfl, rfl, rfl, trivial⟩ (.refl _) ⟨rfl, rfl, ((hle441.trans hle485))⟩
      ·
       rintro _ b440 _ _ ⟨rfl, rfl, hle441⟩ hq528
       rw [hq528] at hk445
       have hm := elimL hk445
       refine c_sr ?_
       refine t_st rfl (st_lss_f rfl rfl (by omega)) ?_
       refine t_ne ?_
       refine c_seq ?_
       refine c_cond_f rfl ?_
       refine c_exit ?_
       refine x_then_exit ?_
       refine x_then_exit ?_
       refine x_block_out ?_
       refine x_then_normal ?_
       refine c_seq ?_
       refine c_sr ?_
       refine t_st rfl (st_loadD (vs := [_, _, _, _, _]) 0 5 rfl agg26 rfl rfl rfl) ?_
       refine t_st rfl (st_field rfl fld26_3) ?_
       refine t_st rfl (st_load 0 rfl one23 rfl rfl) ?_
       obtain ⟨x529, hcl530, hm⟩ := bindS hm
       refine t_do rfl (u_callW0 _ call59 rfl (fun w ho => cMendCheckArcs _ [] s1 s1.Arcs A2 c3 A5 c6 A8 c9 A11 c12 A14 c15 A11 c12 ((h4.le (hle344.trans (hle352.trans hle441))).old ho) ((h7.le (hle344.trans (hle352.trans hle441))).old ho) ((h10.le (hle344.trans (hle352.trans hle441))).old ho) ((h13.le (hle344.trans (hle352.trans hle441))).old ho) ((h16.le (hle344.trans (hle352.trans hle441))).old ho) ((h13.le (hle344.trans (hle352.trans hle441))).old ho) x529 hcl530) (fun _ _ _ h => h.2.symm)) ?_
       rintro _ _ ⟨⟨_, rfl, _⟩, rfl⟩
       refine t_as rfl rfl ?_
       refine t_ne ?_
       refine c_sr ?_
       refine t_mv rfl rfl ?_
       refine t_st rfl (st_neq rfl rfl) ?_
       refine t_ne ?_
       refine c_cond _ rfl (fun hc531 => ?_) (fun hc531 => ?_)
       ·
        rw [if_pos (of_decide_eq_true hc531)] at hm
        refine c_sr ?_
        refine t_mv rfl rfl ?_
        refine t_as rfl rfl ?_
        refine t_ne ?_
        refine c_ret ?_
        refine x_then_ret ?_
        obtain rfl := some1 hm
        exact retM (rs := [.tmp 2]) [.int .i64 (x529)] (hle344.trans (hle352.trans hle441)) (by decide) rfl ⟨rfl, trivial⟩ rfl (.cons _ (.refl _)) ⟨rfl, rfl⟩
       ·
        rw [if_neg (of_decide_eq_false hc531)] at hm
        refine c_skip ?_
        refine x_then_normal ?_
        refine c_seq ?_
        refine c_sr ?_
        refine t_st rfl (st_field rfl fld26_4) ?_
        refine t_st rfl (st_load 0 rfl one24 rfl rfl) ?_
        refine t_st rfl (st_len rfl sl24) ?_
        refine t_mv rfl rfl ?_
        refine t_ne ?_
        refine c_block ?_
        have hb533 : s1.Choices.length ≤ 9223372036854775807 := (FZ.bd (h16.le (hle344.trans (hle352.trans hle441))))
        obtain ⟨t595, hl596, hk597⟩ := bindS hm
        refine c_forM (fun k594 => fun _ => fun b592 e' hp' => [(1, .pointer (some ⟨g340, 0, none⟩)), (84, .slice A14 (s1.Choices).length c15), (85, .int .i64 ((s1.Choices.length : Int))), (86, .int .i64 ((k594 : Int)))] = e' ∧ (g340, Cl 26 [.slice A2 (s1.Ready).length c3, .slice A5 (s1.Last).length c6, .slice A8 (s1.Due).length c9, .slice A11 (s1.Arcs).length c12, .slice A14 (s1.Choices).length c15]) :: R = hp' ∧ b440.Le b592) hl596 (e' := [(1, .pointer (some ⟨g340, 0, none⟩)), (84, .slice A14 (s1.Choices).length c15), (85, .int .i64 ((s1.Choices.length : Int))), (86, .int .i64 0)]) ⟨rfl, rfl, rfl, rfl, trivial⟩ (.refl _) ⟨rfl, rfl, (Base.Le.refl _)⟩ ?_ ?_
        ·
         rintro k594 _ b592 _ _ oL532 hknL532 ⟨rfl, rfl, hle593⟩ hstepL532 houtL532
         unfold mMendCheckGraph_L532 at hstepL532
         have hm := hstepL532
         refine c_sr ?_
         refine t_st rfl (st_lss_t rfl rfl (by omega)) ?_
         refine t_ne ?_
         refine c_seq ?_
         refine c_cond_t rfl ?_
         refine c_skip ?_
         refine x_then_normal ?_
         refine c_seq ?_
         refine c_block ?_
         refine c_sr ?_
         obtain ⟨x598, h599, hm⟩ := bindS hm
         obtain ⟨j600, hj601, hx602⟩ := idx_some h599
         obtain ⟨cs603, hr604, hcs605, hA606, hlt607⟩ := FZ.get (sz := 1) rfl (by decide) (h16.le (hle344.trans (hle352.trans (hle441.trans hle593)))) hx602
         obtain ⟨A608, c609, rfl, h610⟩ := hr604
         refine t_st rfl (st_index_old j600 rfl rfl hj601 hlt607 hA606 sl24) ?_
         refine t_st rfl (st_loadN_old (vs := [.slice A608 (x598.Ways).length c609]) 1 rfl agg37 hA606 rfl (fun j u hu => hcs605 j u hu)) ?_
         refine t_do rfl (u_alloc [.slice none 0 0] zero37 rfl) ?_
         rintro _ _ ⟨g611, rfl, rfl⟩
         refine t_do rfl (u_storeN (vs := [_]) 0 1 rfl rfl rfl siz37 rfl (mem_c rfl mem_n) rfl (by simp)) ?_
         rintro _ _ rfl
         refine t_ne ?_
         refine c_seq ?_
         refine c_sr ?_
         refine t_st rfl (st_field rfl fld37_0) ?_
         refine t_st rfl (st_load 0 rfl one35 rfl rfl) ?_
         refine t_st rfl (st_len rfl sl35) ?_
         refine t_st rfl (st_gtr rfl rfl) ?_
         refine t_ne ?_
         refine c_cond _ rfl (fun hc612 => ?_) (fun hc612 => ?_)
         ·
          rw [if_pos (of_decide_eq_true hc612)] at hm
          refine c_sr ?_
          refine t_as rfl rfl ?_
          refine t_ne ?_
          refine c_ret ?_
          refine x_then_ret ?_
          refine x_block_ret ?_
          refine x_then_ret ?_
          refine x_then_ret ?_
          refine x_block_ret ?_
          refine x_then_ret ?_
          have hq613 := houtL532 _ (Option.some.inj hm).symm
          rw [hq613] at hk597
          have hm := elimR hk597
          obtain rfl := some1 hm
          exact retM (rs := [.tmp 2]) [.int .i64 (4)] (hle344.trans (hle352.trans (hle441.trans hle593))) (by decide) rfl ⟨rfl, trivial⟩ rfl (.cons _ (.cons _ (.refl _))) ⟨rfl, rfl⟩
         ·
          rw [if_neg (of_decide_eq_false hc612)] at hm
          refine c_skip ?_
          refine x_then_normal ?_
          refine c_sr ?_
          refine t_st rfl (st_field rfl fld37_0) ?_
          refine t_st rfl (st_load 0 rfl one35 rfl rfl) ?_
          refine t_st rfl (st_len rfl sl35) ?_
          refine t_mv rfl rfl ?_
          refine t_ne ?_
          refine c_block ?_
          have hb615 : x598.Ways.length ≤ 9223372036854775807 := (FZ.bd h610)
          refine c_pullb 1 rfl ?_
          obtain ⟨t636, hl637, hk638⟩ := bindS hm
          refine c_forM (fun k635 => fun _ => fun b633 e' hp' => [(1, .pointer (some ⟨g340, 0, none⟩)), (84, .slice A14 (s1.Choices).length c15), (85, .int .i64 ((s1.Choices.length : Int))), (86, .int .i64 ((k594 : Int))), (95, .slice A608 (x598.Ways).length c609), (96, .int .i64 ((x598.Ways.length : Int))), (97, .int .i64 ((k635 : Int)))] = e' ∧ (g340, Cl 26 [.slice A2 (s1.Ready).length c3, .slice A5 (s1.Last).length c6, .slice A8 (s1.Due).length c9, .slice A11 (s1.Arcs).length c12, .slice A14 (s1.Choices).length c15]) :: R = hp' ∧ b592.Le b633) hl637 (e' := [(1, .pointer (some ⟨g340, 0, none⟩)), (84, .slice A14 (s1.Choices).length c15), (85, .int .i64 ((s1.Choices.length : Int))), (86, .int .i64 ((k594 : Int))), (95, .slice A608 (x598.Ways).length c609), (96, .int .i64 ((x598.Ways.length : Int))), (97, .int .i64 0)]) ⟨rfl, rfl, rfl, rfl, rfl, rfl, rfl, trivial⟩ (.cons_cons _ (.cons _ (.refl _))) ⟨rfl, rfl, (Base.Le.refl _)⟩ ?_ ?_
          ·
           rintro k635 _ b633 _ _ oL614 hknL614 ⟨rfl, rfl, hle634⟩ hstepL614 houtL614
           unfold mMendCheckGraph_L614 at hstepL614
           have hm := hstepL614
           refine c_sr ?_
           refine t_st rfl (st_lss_t rfl rfl (by omega)) ?_
           refine t_ne ?_
           refine c_seq ?_
           refine c_cond_t rfl ?_
           refine c_skip ?_
           refine x_then_normal ?_
           refine c_seq ?_
           refine c_block ?_
           refine c_sr ?_
           obtain ⟨x639, h640, hm⟩ := bindS hm
           obtain ⟨j641, hj642, hx643⟩ := idx_some h640
           obtain ⟨cs644, hr645, hcs646, hA647, hlt648⟩ := FZ.get (sz := 1) rfl (by decide) (h610.le hle634) hx643
           obtain ⟨A649, c650, rfl, h651⟩ := hr645
           refine t_st rfl (st_index_old j641 rfl rfl hj642 hlt648 hA647 sl35) ?_
           refine t_st rfl (st_load_old rfl one23 (hcs646 0 _ rfl)) ?_
           refine t_as rfl rfl ?_
           refine t_ne ?_
           refine c_seq ?_
           refine c_sr ?_
           refine t_mv rfl rfl ?_
           refine t_st rfl (st_len rfl sl23) ?_
           refine t_st rfl (st_gtr rfl rfl) ?_
           refine t_ne ?_
           refine c_cond _ rfl (fun hc652 => ?_) (fun hc652 => ?_)
           ·
            rw [if_pos (of_decide_eq_true hc652)] at hm
            refine c_sr ?_
            refine t_as rfl rfl ?_
            refine t_ne ?_
            refine c_ret ?_
            refine x_then_ret ?_
            refine x_block_ret ?_
            refine x_then_ret ?_
            refine x_then_ret ?_
            refine x_block_ret ?_
            refine x_block_ret ?_
            refine x_then_ret ?_
            refine x_then_ret ?_
            refine x_block_ret ?_
            refine x_then_ret ?_
            have hq653 := houtL614 _ (Option.some.inj hm).symm
            rw [hq653] at hk638
            have hm := elimR hk638
            have hq654 := houtL532 _ (Option.some.inj hm).symm
            rw [hq654] at hk597
            have hm := elimR hk597
            obtain rfl := some1 hm
            exact retM (rs := [.tmp 2]) [.int .i64 (4)] (hle344.trans (hle352.trans (hle441.trans (hle593.trans hle634)))) (by decide) rfl ⟨rfl, trivial⟩ rfl (.cons _ (.refl _)) ⟨rfl, rfl⟩
           ·
            rw [if_neg (of_decide_eq_false hc652)] at hm
            refine c_skip ?_
            refine x_then_normal ?_
            refine c_sr ?_
            refine t_st rfl (st_loadD (vs := [_, _, _, _, _]) 0 5 rfl agg26 rfl rfl rfl) ?_
            refine t_mv rfl rfl ?_
            obtain ⟨x655, hcl656, hm⟩ := bindS hm
            refine t_do rfl (u_callW0 _ call59 rfl (fun w ho => cMendCheckArcs _ [] s1 x639 A2 c3 A5 c6 A8 c9 A11 c12 A14 c15 A649 c650 ((h4.le (hle344.trans (hle352.trans (hle441.trans (hle593.trans hle634))))).old ho) ((h7.le (hle344.trans (hle352.trans (hle441.trans (hle593.trans hle634))))).old ho) ((h10.le (hle344.trans (hle352.trans (hle441.trans (hle593.trans hle634))))).old ho) ((h13.le (hle344.trans (hle352.trans (hle441.trans (hle593.trans hle634))))).old ho) ((h16.le (hle344.trans (hle352.trans (hle441.trans (hle593.trans hle634))))).old ho) (h651.old ho) x655 hcl656) (fun _ _ _ h => h.2.symm)) ?_
            rintro _ _ ⟨⟨_, rfl, _⟩, rfl⟩
            refine t_as rfl rfl ?_
            refine t_ne ?_
            refine c_sr ?_
            refine t_mv rfl rfl ?_
            refine t_st rfl (st_neq rfl rfl) ?_
            refine t_ne ?_
            refine c_cond _ rfl (fun hc657 => ?_) (fun hc657 => ?_)
            ·
             rw [if_pos (of_decide_eq_true hc657)] at hm
             refine c_sr ?_
             refine t_mv rfl rfl ?_
             refine t_as rfl rfl ?_
             refine t_ne ?_
             refine c_ret ?_
             refine x_block_ret ?_
             refine x_then_ret ?_
             refine x_then_ret ?_
             refine x_block_ret ?_
             refine x_block_ret ?_
             refine x_then_ret ?_
             refine x_then_ret ?_
             refine x_block_ret ?_
             refine x_then_ret ?_
             have hq658 := houtL614 _ (Option.some.inj hm).symm
             rw [hq658] at hk638
             have hm := elimR hk638
             have hq659 := houtL532 _ (Option.some.inj hm).symm
             rw [hq659] at hk597
             have hm := elimR hk597
             obtain rfl := some1 hm
             exact retM (rs := [.tmp 2]) [.int .i64 (x655)] (hle344.trans (hle352.trans (hle441.trans (hle593.trans hle634)))) (by decide) rfl ⟨rfl, trivial⟩ rfl (.cons _ (.refl _)) ⟨rfl, rfl⟩
            ·
             rw [if_neg (of_decide_eq_false hc657)] at hm
             refine c_skip ?_
             refine x_block_normal ?_
             refine x_then_normal ?_
             refine c_region ?_
             refine t_st rfl (st_add rfl rfl (by omega)) ?_
             refine t_mv rfl rfl ?_
             refine t_nil ?_
             exact x_againM () (Option.some.inj hm).symm (e' := [(1, .pointer (some ⟨g340, 0, none⟩)), (84, .slice A14 (s1.Choices).length c15), (85, .int .i64 ((s1.Choices.length : Int))), (86, .int .i64 ((k594 : Int))), (95, .slice A608 (x598.Ways).length c609), (96, .int .i64 ((x598.Ways.length : Int))), (97, .int .i64 ((k635 : Int) + 1))]) ⟨rfl, rfl, rfl, rfl, rfl, rfl, rfl, trivial⟩ (.refl _) ⟨rfl, rfl, (hle634)⟩
          ·
           rintro _ b633 _ _ ⟨rfl, rfl, hle634⟩ hq660
           rw [hq660] at hk638
           have hm := elimL hk638
           refine c_sr ?_
           refine t_st rfl (st_lss_f rfl rfl (by omega)) ?_
           refine t_ne ?_
           refine c_seq ?_
           refine c_cond_f rfl ?_
           refine c_exit ?_
           refine x_then_exit ?_
           refine x_then_exit ?_
           refine x_block_out ?_
           refine x_block_normal ?_
           refine x_then_normal ?_
           refine c_region ?_
           refine t_st rfl (st_add rfl rfl (by omega)) ?_
           refine t_mv rfl rfl ?_
           refine t_nil ?_
           exact x_againM () (Option.some.inj hm).symm (e' := [(1, .pointer (some ⟨g340, 0, none⟩)), (84, .slice A14 (s1.Choices).length c15), (85, .int .i64 ((s1.Choices.length : Int))), (86, .int .i64 ((k594 : Int) + 1))]) ⟨rfl, rfl, rfl, rfl, trivial⟩ (.refl _) ⟨rfl, rfl, ((hle593.trans hle634))⟩
        ·
         rintro _ b592 _ _ ⟨rfl, rfl, hle593⟩ hq661
         rw [hq661] at hk597
         have hm := elimL hk597
         refine c_sr ?_
         refine t_st rfl (st_lss_f rfl rfl (by omega)) ?_
         refine t_ne ?_
         refine c_seq ?_
         refine c_cond_f rfl ?_
         refine c_exit ?_
         refine x_then_exit ?_
         refine x_then_exit ?_
         refine x_block_out ?_
         refine x_then_normal ?_
         refine c_sr ?_
         refine t_as rfl rfl ?_
         refine t_ne ?_
         refine c_ret ?_
         obtain rfl := some1 hm
         exact retM (rs := [.tmp 2]) [.int .i64 (0)] (hle344.trans (hle352.trans (hle441.trans hle593))) (by decide) rfl ⟨rfl, trivial⟩ rfl (.cons _ (.refl _)) ⟨rfl, rfl⟩

set_option maxRecDepth 20000 in
theorem cMendCheckPick (b : Base) (R : Hp) (s1 : MendGraph) (l20 : (List Int)) (A2 : Option Addr) (c3 : Nat) (A5 : Option Addr) (c6 : Nat) (A8 : Option Addr) (c9 : Nat) (A11 : Option Addr) (c12 : Nat) (A14 : Option Addr) (c15 : Nat) (A17 : Option Addr) (c18 : Nat) (h4 : FZ (RT.int .i64) b.w A2 c3 s1.Ready) (h7 : FZ (RT.int .i64) b.w A5 c6 s1.Last) (h10 : FZ (RT.int .i64) b.w A8 c9 s1.Due) (h13 : FZ rMendArc b.w A11 c12 s1.Arcs) (h16 : FZ rMendChoice b.w A14 c15 s1.Choices) (h19 : FZ (RT.int .i64) b.w A17 c18 l20) (x88 : Int) (hm : mMendCheckPick s1 l20 = some x88) :
    CallsG Try.prog 33 [.agg #[.slice A2 (s1.Ready).length c3, .slice A5 (s1.Last).length c6, .slice A8 (s1.Due).length c9, .slice A11 (s1.Arcs).length c12, .slice A14 (s1.Choices).length c15], .slice A17 (l20).length c18] b (R) (fun v b' hp' => .int .i64 (x88) = v ∧ R = hp') := by
  refine fn_enterG 37 Try.func33 rfl Try.ntmps33 rfl ?_
  unfold mMendCheckPick at hm
  refine c_sr ?_
  refine t_do rfl (u_box _ rfl rfl) ?_
  rintro _ _ ⟨g89, rfl, rfl⟩
  refine t_as rfl rfl ?_
  refine t_ne ?_
  refine c_seq ?_
  refine c_sr ?_
  refine t_st rfl (st_loadD (vs := [_, _, _, _, _]) 0 5 rfl agg26 rfl rfl rfl) ?_
  obtain ⟨x90, hcl91, hm⟩ := bindS hm
  refine t_do rfl (u_callW0 _ call36 rfl (fun w ho => cMendCheckGraph _ [] s1 A2 c3 A5 c6 A8 c9 A11 c12 A14 c15 (h4.old ho) (h7.old ho) (h10.old ho) (h13.old ho) (h16.old ho) x90 hcl91) (fun _ _ _ h => h.2.symm)) ?_
  rintro _ _ ⟨⟨_, rfl, _⟩, rfl⟩
  refine t_as rfl rfl ?_
  refine t_ne ?_
  refine c_sr ?_
  refine t_mv rfl rfl ?_
  refine t_st rfl (st_neq rfl rfl) ?_
  refine t_ne ?_
  refine c_cond _ rfl (fun hc92 => ?_) (fun hc92 => ?_)
  ·
   rw [if_pos (of_decide_eq_true hc92)] at hm
   refine c_sr ?_
   refine t_mv rfl rfl ?_
   refine t_as rfl rfl ?_
   refine t_ne ?_
   refine c_ret ?_
   refine x_then_ret ?_
   obtain rfl := some1 hm
   exact retM (rs := [.tmp 4]) [.int .i64 (x90)] (Base.Le.refl _) (by decide) rfl ⟨rfl, trivial⟩ rfl (.cons _ (.refl _)) ⟨rfl, rfl⟩
  ·
   rw [if_neg (of_decide_eq_false hc92)] at hm
   refine c_skip ?_
   refine x_then_normal ?_
   refine c_seq ?_
   refine c_sr ?_
   refine t_mv rfl rfl ?_
   refine t_st rfl (st_len rfl sl22) ?_
   refine t_st rfl (st_field rfl fld26_4) ?_
   refine t_st rfl (st_load 0 rfl one24 rfl rfl) ?_
   refine t_st rfl (st_len rfl sl24) ?_
   refine t_st rfl (st_neq rfl rfl) ?_
   refine t_ne ?_
   refine c_cond _ rfl (fun hc93 => ?_) (fun hc93 => ?_)
   ·
    rw [if_pos (of_decide_eq_true hc93)] at hm
    refine c_sr ?_
    refine t_as rfl rfl ?_
    refine t_ne ?_
    refine c_ret ?_
    refine x_then_ret ?_
    obtain rfl := some1 hm
    exact retM (rs := [.tmp 4]) [.int .i64 (1)] (Base.Le.refl _) (by decide) rfl ⟨rfl, trivial⟩ rfl (.cons _ (.refl _)) ⟨rfl, rfl⟩
   ·
    rw [if_neg (of_decide_eq_false hc93)] at hm
    refine c_skip ?_
    refine x_then_normal ?_
    refine c_seq ?_
    refine c_sr ?_
    refine t_mv rfl rfl ?_
    refine t_st rfl (st_len rfl sl22) ?_
    refine t_mv rfl rfl ?_
    refine t_ne ?_
    refine c_block ?_
    have hb95 : l20.length ≤ 9223372036854775807 := (FZ.bd h19)
    obtain ⟨t125, hl126, hk127⟩ := bindS hm
    refine c_forM (fun k124 => fun _ => fun b122 e' hp' => [(2, .pointer (some ⟨g89, 0, none⟩)), (19, .slice A17 (l20).length c18), (20, .int .i64 ((l20.length : Int))), (21, .int .i64 ((k124 : Int)))] = e' ∧ (g89, Cl 26 [.slice A2 (s1.Ready).length c3, .slice A5 (s1.Last).length c6, .slice A8 (s1.Due).length c9, .slice A11 (s1.Arcs).length c12, .slice A14 (s1.Choices).length c15]) :: R = hp' ∧ b.Le b122) hl126 (e' := [(2, .pointer (some ⟨g89, 0, none⟩)), (19, .slice A17 (l20).length c18), (20, .int .i64 ((l20.length : Int))), (21, .int .i64 0)]) ⟨rfl, rfl, rfl, rfl, trivial⟩ (.refl _) ⟨rfl, rfl, (Base.Le.refl _)⟩ ?_ ?_
    ·
     rintro k124 _ b122 _ _ oL94 hknL94 ⟨rfl, rfl, hle123⟩ hstepL94 houtL94
     unfold mMendCheckPick_L94 at hstepL94
     have hm := hstepL94
     refine c_sr ?_
     refine t_st rfl (st_lss_t rfl rfl (by omega)) ?_
     refine t_ne ?_
     refine c_seq ?_
     refine c_cond_t rfl ?_
     refine c_skip ?_
     refine x_then_normal ?_
     refine c_seq ?_
     refine c_block ?_
     refine c_sr ?_
     refine t_mv rfl rfl ?_
     obtain ⟨x128, h129, hm⟩ := bindS hm
     obtain ⟨j130, hj131, hx132⟩ := idx_some h129
     obtain ⟨cs133, hr134, hcs135, hA136, hlt137⟩ := FZ.get (sz := 1) rfl (by decide) (h19.le hle123) hx132
     obtain rfl := hr134
     refine t_st rfl (st_index_old j130 rfl rfl hj131 hlt137 hA136 sl22) ?_
     refine t_st rfl (st_load_old rfl one3 (hcs135 0 _ rfl)) ?_
     refine t_as rfl rfl ?_
     refine t_as rfl rfl ?_
     refine t_ne ?_
     refine c_sr ?_
     refine t_mv rfl rfl ?_
     refine t_st rfl (st_field rfl fld26_4) ?_
     refine t_st rfl (st_load 0 rfl one24 rfl rfl) ?_
     refine t_mv rfl rfl ?_
     obtain ⟨x138, h139, hm⟩ := bindS hm
     obtain ⟨j140, hj141, hx142⟩ := idx_some h139
     obtain ⟨cs143, hr144, hcs145, hA146, hlt147⟩ := FZ.get (sz := 1) rfl (by decide) (h16.le hle123) hx142
     obtain ⟨A148, c149, rfl, h150⟩ := hr144
     refine t_st rfl (st_index_old j140 rfl rfl hj141 hlt147 hA146 sl24) ?_
     refine t_st rfl (st_field_old rfl hA146 fld37_0) ?_
     refine t_st rfl (st_load_old rfl one35 (hcs145 0 _ rfl)) ?_
     refine t_st rfl (st_len rfl sl35) ?_
     obtain ⟨x151, hcl152, hm⟩ := bindS hm
     refine t_do rfl (u_callW0 _ call37 rfl (fun w ho => cMendWithin _ [] x128 0 (x138.Ways.length : Int) x151 hcl152) (fun _ _ _ h => h.2.symm)) ?_
     rintro _ _ ⟨⟨_, rfl, _⟩, rfl⟩
     refine t_st rfl (st_not rfl) ?_
     refine t_ne ?_
     refine c_cond _ rfl (fun hc153 => ?_) (fun hc153 => ?_)
     ·
      rw [if_neg (fun hh => Bool.noConfusion (hh.symm.trans (notT hc153)))] at hm
      refine c_sr ?_
      refine t_as rfl rfl ?_
      refine t_ne ?_
      refine c_ret ?_
      refine x_block_ret ?_
      refine x_then_ret ?_
      refine x_then_ret ?_
      refine x_block_ret ?_
      refine x_then_ret ?_
      have hq154 := houtL94 _ (Option.some.inj hm).symm
      rw [hq154] at hk127
      have hm := elimR hk127
      obtain rfl := some1 hm
      exact retM (rs := [.tmp 4]) [.int .i64 (2)] hle123 (by decide) rfl ⟨rfl, trivial⟩ rfl (.cons _ (.refl _)) ⟨rfl, rfl⟩
     ·
      rw [if_pos (notF hc153)] at hm
      refine c_skip ?_
      refine x_block_normal ?_
      refine x_then_normal ?_
      refine c_region ?_
      refine t_st rfl (st_add rfl rfl (by omega)) ?_
      refine t_mv rfl rfl ?_
      refine t_nil ?_
      exact x_againM () (Option.some.inj hm).symm (e' := [(2, .pointer (some ⟨g89, 0, none⟩)), (19, .slice A17 (l20).length c18), (20, .int .i64 ((l20.length : Int))), (21, .int .i64 ((k124 : Int) + 1))]) ⟨rfl, rfl, rfl, rfl, trivial⟩ (.refl _) ⟨rfl, rfl, (hle123)⟩
    ·
     rintro _ b122 _ _ ⟨rfl, rfl, hle123⟩ hq155
     rw [hq155] at hk127
     have hm := elimL hk127
     refine c_sr ?_
     refine t_st rfl (st_lss_f rfl rfl (by omega)) ?_
     refine t_ne ?_
     refine c_seq ?_
     refine c_cond_f rfl ?_
     refine c_exit ?_
     refine x_then_exit ?_
     refine x_then_exit ?_
     refine x_block_out ?_
     refine x_then_normal ?_
     refine c_sr ?_
     refine t_as rfl rfl ?_
     refine t_ne ?_
     refine c_ret ?_
     obtain rfl := some1 hm
     exact retM (rs := [.tmp 4]) [.int .i64 (0)] hle123 (by decide) rfl ⟨rfl, trivial⟩ rfl (.cons _ (.refl _)) ⟨rfl, rfl⟩

set_option maxRecDepth 20000 in
theorem clSlicesClone (A : Option Addr) (n c : Nat) (xs : List Value) (w : World) (hR : Rd w A xs) (hl : xs.length = n * 1) (hn : n * 8 ≤ 140737488355328 ∧ n ≤ 9223372036854775807) :
    CallsH Try.prog 12 [.slice A n c] w [] (fun v hp' => Seg0 3 1 v n xs hp') := by
  refine fn_enter 8 Try.func12 rfl Try.ntmps12 rfl ?_
  refine c_sr ?_
  refine t_as rfl rfl ?_
  refine t_ne ?_
  refine c_seq ?_
  refine c_sr ?_
  refine t_mv rfl rfl ?_
  refine t_bool rfl (st_eqnil rfl rfl sl22) (fun hc1 => ?_) (fun hc1 => ?_)
  ·
    refine t_ne ?_
    refine c_cond_t rfl ?_
    refine c_sr ?_
    refine t_as rfl rfl ?_
    refine t_ne ?_
    refine c_ret ?_
    refine x_then_ret ?_
    subst hc1
    obtain rfl := hR.none_nil
    obtain rfl : n = 0 := by simp at hl; omega
    refine x_drop (hp' := []) (by repeat (first | exact List.Sublist.refl _ | exact List.nil_sublist _ | exact List.sublist_append_left _ _ | exact List.sublist_append_right _ _ | exact (List.sublist_append_right _ _).trans (List.sublist_append_right _ _) | apply List.Sublist.cons_cons | apply List.Sublist.cons)) ?_
    exact ret1 (Base.Le.refl _) rfl rfl (Seg0.nil)
  ·
    refine t_ne ?_
    refine c_cond_f rfl ?_
    refine c_skip ?_
    refine x_then_normal ?_
    refine c_sr ?_
    refine t_do rfl (u_bslice (el := 3) [] [] rfl (fun _ => by kernel_rfl)) ?_
    rintro _ _ ⟨g0, rfl, rfl⟩
    refine t_mv rfl rfl ?_
    refine t_do rfl (u_app0 xs sl22 inf3 rfl (by decide) rfl rfl hl (fun w ho => hR.old ho) hn.2 hn.1) ?_
    rintro _ _ ⟨hs, rfl, hseg⟩
    refine t_as rfl rfl ?_
    refine t_ne ?_
    refine c_ret ?_
    refine x_drop (hp' := hs) (by repeat (first | exact List.Sublist.refl _ | exact List.nil_sublist _ | exact List.sublist_append_left _ _ | exact List.sublist_append_right _ _ | exact (List.sublist_append_right _ _).trans (List.sublist_append_right _ _) | apply List.Sublist.cons_cons | apply List.Sublist.cons)) ?_
    exact ret1 (Base.Le.refl _) rfl rfl hseg

set_option maxRecDepth 20000 in
theorem cSlicesClone (b : Base) (R : Hp) (l4 : (List Int)) (A1 : Option Addr) (c2 : Nat) (h3 : FZ (RT.int .i64) b.w A1 c2 l4) (l10 : (List Int)) (hm : mSlicesClone l4 = some l10) :
    CallsG Try.prog 12 [.slice A1 (l4).length c2] b (R) (fun v b' hp' => ∃ (A7 : Option Addr), ∃ (c8 : Nat), ∃ (hs6 : Hp), .slice A7 (l10).length c8 = v ∧ (hs6 ++ R) = hp' ∧ OS 3 (OT.fr (RT.int .i64)) b'.w (.slice A7 l10.length c8) l10 hs6) := by
  unfold mSlicesClone at hm
  obtain ⟨_, hroom, hm⟩ := bindS hm
  have hroom := room_some hroom
  obtain rfl := some1 hm
  exact clone_of (r := (RT.int .i64)) (sz := 1) (by_ := 8) rfl (by decide) clSlicesClone h3 hroom

set_option maxRecDepth 20000 in
theorem clSlicesClone_2 (A : Option Addr) (n c : Nat) (xs : List Value) (w : World) (hR : Rd w A xs) (hl : xs.length = n * 1) (hn : n * 24 ≤ 140737488355328 ∧ n ≤ 9223372036854775807) :
    CallsH Try.prog 60 [.slice A n c] w [] (fun v hp' => Seg0 23 1 v n xs hp') := by
  refine fn_enter 8 Try.func60 rfl Try.ntmps60 rfl ?_
  refine c_sr ?_
  refine t_as rfl rfl ?_
  refine t_ne ?_
  refine c_seq ?_
  refine c_sr ?_
  refine t_mv rfl rfl ?_
  refine t_bool rfl (st_eqnil rfl rfl sl35) (fun hc1 => ?_) (fun hc1 => ?_)
  ·
    refine t_ne ?_
    refine c_cond_t rfl ?_
    refine c_sr ?_
    refine t_as rfl rfl ?_
    refine t_ne ?_
    refine c_ret ?_
    refine x_then_ret ?_
    subst hc1
    obtain rfl := hR.none_nil
    obtain rfl : n = 0 := by simp at hl; omega
    refine x_drop (hp' := []) (by repeat (first | exact List.Sublist.refl _ | exact List.nil_sublist _ | exact List.sublist_append_left _ _ | exact List.sublist_append_right _ _ | exact (List.sublist_append_right _ _).trans (List.sublist_append_right _ _) | apply List.Sublist.cons_cons | apply List.Sublist.cons)) ?_
    exact ret1 (Base.Le.refl _) rfl rfl (Seg0.nil)
  ·
    refine t_ne ?_
    refine c_cond_f rfl ?_
    refine c_skip ?_
    refine x_then_normal ?_
    refine c_sr ?_
    refine t_do rfl (u_bslice (el := 23) [] [] rfl (fun _ => by kernel_rfl)) ?_
    rintro _ _ ⟨g0, rfl, rfl⟩
    refine t_mv rfl rfl ?_
    refine t_do rfl (u_app0 xs sl35 inf23 rfl (by decide) rfl rfl hl (fun w ho => hR.old ho) hn.2 hn.1) ?_
    rintro _ _ ⟨hs, rfl, hseg⟩
    refine t_as rfl rfl ?_
    refine t_ne ?_
    refine c_ret ?_
    refine x_drop (hp' := hs) (by repeat (first | exact List.Sublist.refl _ | exact List.nil_sublist _ | exact List.sublist_append_left _ _ | exact List.sublist_append_right _ _ | exact (List.sublist_append_right _ _).trans (List.sublist_append_right _ _) | apply List.Sublist.cons_cons | apply List.Sublist.cons)) ?_
    exact ret1 (Base.Le.refl _) rfl rfl hseg

set_option maxRecDepth 20000 in
theorem cSlicesClone_2 (b : Base) (R : Hp) (l4 : (List (List MendArc))) (A1 : Option Addr) (c2 : Nat) (h3 : FZ (RT.list rMendArc) b.w A1 c2 l4) (l10 : (List (List MendArc))) (hm : mSlicesClone_2 l4 = some l10) :
    CallsG Try.prog 60 [.slice A1 (l4).length c2] b (R) (fun v b' hp' => ∃ (A7 : Option Addr), ∃ (c8 : Nat), ∃ (hs6 : Hp), .slice A7 (l10).length c8 = v ∧ (hs6 ++ R) = hp' ∧ OS 23 (OT.fr (RT.list rMendArc)) b'.w (.slice A7 l10.length c8) l10 hs6) := by
  unfold mSlicesClone_2 at hm
  obtain ⟨_, hroom, hm⟩ := bindS hm
  have hroom := room_some hroom
  obtain rfl := some1 hm
  exact clone_of (r := (RT.list rMendArc)) (sz := 1) (by_ := 24) rfl (by decide) clSlicesClone_2 h3 hroom

set_option maxRecDepth 20000 in
theorem clSlicesClone_3 (A : Option Addr) (n c : Nat) (xs : List Value) (w : World) (hR : Rd w A xs) (hl : xs.length = n * 3) (hn : n * 24 ≤ 140737488355328 ∧ n ≤ 9223372036854775807) :
    CallsH Try.prog 11 [.slice A n c] w [] (fun v hp' => Seg0 34 3 v n xs hp') := by
  refine fn_enter 8 Try.func11 rfl Try.ntmps11 rfl ?_
  refine c_sr ?_
  refine t_as rfl rfl ?_
  refine t_ne ?_
  refine c_seq ?_
  refine c_sr ?_
  refine t_mv rfl rfl ?_
  refine t_bool rfl (st_eqnil rfl rfl sl23) (fun hc1 => ?_) (fun hc1 => ?_)
  ·
    refine t_ne ?_
    refine c_cond_t rfl ?_
    refine c_sr ?_
    refine t_as rfl rfl ?_
    refine t_ne ?_
    refine c_ret ?_
    refine x_then_ret ?_
    subst hc1
    obtain rfl := hR.none_nil
    obtain rfl : n = 0 := by simp at hl; omega
    refine x_drop (hp' := []) (by repeat (first | exact List.Sublist.refl _ | exact List.nil_sublist _ | exact List.sublist_append_left _ _ | exact List.sublist_append_right _ _ | exact (List.sublist_append_right _ _).trans (List.sublist_append_right _ _) | apply List.Sublist.cons_cons | apply List.Sublist.cons)) ?_
    exact ret1 (Base.Le.refl _) rfl rfl (Seg0.nil)
  ·
    refine t_ne ?_
    refine c_cond_f rfl ?_
    refine c_skip ?_
    refine x_then_normal ?_
    refine c_sr ?_
    refine t_do rfl (u_bslice (el := 34) [] [] rfl (fun _ => by kernel_rfl)) ?_
    rintro _ _ ⟨g0, rfl, rfl⟩
    refine t_mv rfl rfl ?_
    refine t_do rfl (u_app0 xs sl23 inf34 rfl (by decide) rfl rfl hl (fun w ho => hR.old ho) hn.2 hn.1) ?_
    rintro _ _ ⟨hs, rfl, hseg⟩
    refine t_as rfl rfl ?_
    refine t_ne ?_
    refine c_ret ?_
    refine x_drop (hp' := hs) (by repeat (first | exact List.Sublist.refl _ | exact List.nil_sublist _ | exact List.sublist_append_left _ _ | exact List.sublist_append_right _ _ | exact (List.sublist_append_right _ _).trans (List.sublist_append_right _ _) | apply List.Sublist.cons_cons | apply List.Sublist.cons)) ?_
    exact ret1 (Base.Le.refl _) rfl rfl hseg

set_option maxRecDepth 20000 in
theorem cSlicesClone_3 (b : Base) (R : Hp) (l4 : (List MendArc)) (A1 : Option Addr) (c2 : Nat) (h3 : FZ rMendArc b.w A1 c2 l4) (l10 : (List MendArc)) (hm : mSlicesClone_3 l4 = some l10) :
    CallsG Try.prog 11 [.slice A1 (l4).length c2] b (R) (fun v b' hp' => ∃ (A7 : Option Addr), ∃ (c8 : Nat), ∃ (hs6 : Hp), .slice A7 (l10).length c8 = v ∧ (hs6 ++ R) = hp' ∧ OS 34 (OT.fr rMendArc) b'.w (.slice A7 l10.length c8) l10 hs6) := by
  unfold mSlicesClone_3 at hm
  obtain ⟨_, hroom, hm⟩ := bindS hm
  have hroom := room_some hroom
  obtain rfl := some1 hm
  exact clone_of (r := rMendArc) (sz := 3) (by_ := 24) rfl (by decide) clSlicesClone_3 h3 hroom

set_option maxRecDepth 20000 in
theorem cMendSolverWith_1 (b : Base) (R : Hp) (s32 : MendArc) (x33 : Bool) (l37 : (List Int)) (l38 : (List Int)) (l39 : (List Bool)) (l40 : (List Int)) (l42 : (List Int)) (l43 : (List (List MendArc))) (g26 : Nat) (g27 : Nat) (g28 : Nat) (g29 : Nat) (g30 : Nat) (g31 : Nat) (A34 : Option Addr) (c35 : Nat) (A3 : Option Addr) (c4 : Nat) (hs2 : Hp) (A8 : Option Addr) (c9 : Nat) (hs7 : Hp) (A13 : Option Addr) (c14 : Nat) (hs12 : Hp) (A18 : Option Addr) (c19 : Nat) (hs17 : Hp) (A23 : Option Addr) (c24 : Nat) (hs22 : Hp) (h36 : FZ (RT.int .i64) b.w A34 c35 l37) (h5 : OS 3 (OT.fr (RT.int .i64)) b.w (.slice A3 l38.length c4) l38 hs2) (h10 : OS 4 (OT.fr RT.bool) b.w (.slice A8 l39.length c9) l39 hs7) (h15 : OS 3 (OT.fr (RT.int .i64)) b.w (.slice A13 l40.length c14) l40 hs12) (hnz41 : (A13 = none ↔ l40 = [])) (h20 : OS 3 (OT.fr (RT.int .i64)) b.w (.slice A18 l42.length c19) l42 hs17) (h25 : OS 23 (OT.fr (RT.list rMendArc)) b.w (.slice A23 l43.length c24) l43 hs22) (x470 : Bool) (l471 : (List Int)) (l473 : (List Bool)) (l475 : (List Int)) (l477 : (List Int)) (hm : mMendSolverWith_1 s32 x33 l37 l38 l39 l40 l42 l43 = some (x470, l471, l473, l475, l477)) :
    CallsG Try.prog 61 [.agg #[.int .i64 (s32.From), .int .i64 (s32.To), .int .i64 (s32.Len)], .pointer (some ⟨g26, 0, none⟩), .pointer (some ⟨g27, 0, none⟩), .pointer (some ⟨g28, 0, none⟩), .pointer (some ⟨g29, 0, none⟩), .pointer (some ⟨g30, 0, none⟩)] b ((g26, Cl 69 [.pointer (some ⟨g31, 0, none⟩)]) :: (g27, Cl 22 [.slice A3 (l38).length c4]) :: (g28, Cl 4 [.bool (x33)]) :: (g29, Cl 88 [.slice A8 (l39).length c9]) :: (g30, Cl 22 [.slice A13 (l40).length c14]) :: (g31, Cl 73 [.slice A18 (l42).length c19, .slice A34 (l37).length c35, .slice A23 (l43).length c24]) :: (hs2 ++ (hs7 ++ (hs12 ++ (hs17 ++ (hs22 ++ R)))))) (fun v b' hp' => ∃ (hs457 : Hp), ∃ (hs460 : Hp), ∃ (A464 : Option Addr), ∃ (c465 : Nat), ∃ (hs463 : Hp), ∃ (hs468 : Hp), .tuple #[] = v ∧ (g26, Cl 69 [.pointer (some ⟨g31, 0, none⟩)]) :: (g27, Cl 22 [.slice A3 (l471).length c4]) :: (g28, Cl 4 [.bool (x470)]) :: (g29, Cl 88 [.slice A8 (l473).length c9]) :: (g30, Cl 22 [.slice A464 (l475).length c465]) :: (g31, Cl 73 [.slice A18 (l477).length c19, .slice A34 (l37).length c35, .slice A23 (l43).length c24]) :: (hs457 ++ (hs460 ++ (hs463 ++ (hs468 ++ (hs22 ++ R))))) = hp' ∧ OS 3 (OT.fr (RT.int .i64)) b'.w (.slice A3 l471.length c4) l471 hs457 ∧ l471.length = l38.length ∧ OS 4 (OT.fr RT.bool) b'.w (.slice A8 l473.length c9) l473 hs460 ∧ l473.length = l39.length ∧ OS 3 (OT.fr (RT.int .i64)) b'.w (.slice A464 l475.length c465) l475 hs463 ∧ (A464 = none ↔ l475 = []) ∧ OS 3 (OT.fr (RT.int .i64)) b'.w (.slice A18 l477.length c19) l477 hs468 ∧ l477.length = l42.length) := by
  refine fn_enterG 95 Try.func61 rfl Try.ntmps61 rfl ?_
  unfold mMendSolverWith_1 at hm
  refine c_sr ?_
  refine t_do rfl (u_box _ rfl rfl) ?_
  rintro _ _ ⟨g479, rfl, rfl⟩
  refine t_ne ?_
  refine c_seq ?_
  obtain ⟨x497, h498, hm⟩ := bindS hm
  obtain ⟨_, h513, hm⟩ := bindS hm
  refine D_drawI mixed (.refl _) ?_
  refine E_st 0 rfl (st_load 1 rfl one69 rfl rfl) ?_
  refine E_st 1 rfl (st_nil rfl) ?_
  refine E_st 2 rfl (st_field rfl fld73_0) ?_
  refine E_st 3 rfl (st_load 6 rfl one22 rfl rfl) ?_
  refine E_st 4 rfl (st_field rfl fld34_0) ?_
  refine E_st 5 rfl (st_load 0 rfl one3 rfl rfl) ?_
  obtain ⟨j499, hj500, hx501⟩ := idx_some h498
  obtain ⟨cs502, hs507, P508, P509, hq510, hr503, hcs504, hA505, hlt506, hb511, hho512⟩ := OS.get (sz := 1) rfl (by decide) h20 hx501
  obtain ⟨rfl, rfl⟩ := hr503
  refine E_st 6 rfl (st_index_old j499 rfl rfl hj500 hlt506 hA505 sl22) ?_
  refine E_st 7 rfl (st_load_rd rfl one3 (fun w ho => hcs504 w _ ho (.cons _ (.cons _ (.cons _ (.cons _ (.cons _ (.cons _ (.cons _ (sub_skip hs2 (sub_skip hs7 (sub_skip hs12 (List.sublist_append_left _ _))))))))))) 0 _ rfl)) ?_
  refine E_st 8 rfl (st_field rfl fld34_2) ?_
  refine E_st 9 rfl (st_load 0 rfl one3 rfl rfl) ?_
  have h513 := (chk_some h513).2
  refine E_st 10 rfl (st_add rfl rfl h513) ?_
  refine E_st 11 rfl (st_assign rfl) ?_
  refine E_out ?_
  refine D_done (by kernel_rfl) ?_
  refine x_then_normal ?_
  refine c_seq ?_
  refine c_seq ?_
  obtain ⟨x530, h531, hm⟩ := bindS hm
  refine D_drawI mixed (.refl _) ?_
  refine E_st 0 rfl (st_move rfl) ?_
  refine E_st 1 rfl (st_load 1 rfl one69 rfl rfl) ?_
  refine E_st 2 rfl (st_nil rfl) ?_
  refine E_st 3 rfl (st_field rfl fld73_0) ?_
  refine E_st 4 rfl (st_load 6 rfl one22 rfl rfl) ?_
  refine E_st 5 rfl (st_field rfl fld34_1) ?_
  refine E_st 6 rfl (st_load 0 rfl one3 rfl rfl) ?_
  obtain ⟨j532, hj533, hx534⟩ := idx_some h531
  obtain ⟨cs535, hs540, P541, P542, hq543, hr536, hcs537, hA538, hlt539, hb544, hho545⟩ := OS.get (sz := 1) rfl (by decide) h20 hx534
  obtain ⟨rfl, rfl⟩ := hr536
  refine E_st 7 rfl (st_index_old j532 rfl rfl hj533 hlt539 hA538 sl22) ?_
  refine E_st 8 rfl (st_load_rd rfl one3 (fun w ho => hcs537 w _ ho (.cons _ (.cons _ (.cons _ (.cons _ (.cons _ (.cons _ (.cons _ (sub_skip hs2 (sub_skip hs7 (sub_skip hs12 (List.sublist_append_left _ _))))))))))) 0 _ rfl)) ?_
  refine E_st 9 rfl (st_leq rfl rfl) ?_
  refine E_out ?_
  refine D_done (by kernel_rfl) ?_
  refine x_then_normal ?_
  refine c_cond _ rfl (fun hc546 => ?_) (fun hc546 => ?_)
  ·
   rw [if_pos (of_decide_eq_true hc546)] at hm
   refine c_ret ?_
   refine x_then_ret ?_
   obtain ⟨rfl, rfl, rfl, rfl, rfl⟩ := some5 hm
   refine x_pullb 6 rfl ?_
   refine x_pullb 6 rfl ?_
   refine x_pullb 6 rfl ?_
   refine x_pullb 6 rfl ?_
   refine x_pullb 6 rfl ?_
   refine x_pullb 6 rfl ?_
   refine x_front5 [_, _, _, _, _, _, _] hs2 hs7 hs12 hs17 hs22 R rfl ?_
   refine x_front5 [_, _, _, _, _, _, _] hs22 hs2 hs7 hs12 hs17 R rfl ?_
   refine x_front5 [_, _, _, _, _, _, _] hs17 hs22 hs2 hs7 hs12 R rfl ?_
   refine x_front5 [_, _, _, _, _, _, _] hs12 hs17 hs22 hs2 hs7 R rfl ?_
   refine x_front5 [_, _, _, _, _, _, _] hs7 hs12 hs17 hs22 hs2 R rfl ?_
   exact retM (rs := []) [] (Base.Le.refl _) (by decide) rfl trivial rfl (.cons_cons _ (.cons_cons _ (.cons_cons _ (.cons_cons _ (.cons_cons _ (.cons_cons _ (.cons _ (.refl _)))))))) ⟨hs2, hs7, A13, c14, hs12, hs17, rfl, rfl, h5, rfl, h10, rfl, h15, hnz41, h20, rfl⟩
  ·
   rw [if_neg (of_decide_eq_false hc546)] at hm
   refine c_skip ?_
   refine x_then_normal ?_
   refine c_seq ?_
   obtain ⟨x565, h566, hm⟩ := bindS hm
   refine c_front4 [_, _, _, _, _, _, _] hs2 hs7 hs12 hs17 (hs22 ++ R) rfl ?_
   refine D_drawI mixed (.refl _) ?_
   refine E_st 0 rfl (st_load 1 rfl one69 rfl rfl) ?_
   refine E_st 1 rfl (st_nil rfl) ?_
   refine E_st 2 rfl (st_field rfl fld73_0) ?_
   refine E_st 3 rfl (st_load 6 rfl one22 rfl rfl) ?_
   refine E_st 4 rfl (st_field rfl fld34_1) ?_
   refine E_st 5 rfl (st_load 0 rfl one3 rfl rfl) ?_
   refine E_st 6 rfl (st_move rfl) ?_
   obtain ⟨j567, hj568, hx569⟩ := idx_some h566
   obtain ⟨cs570, hs575, P576, P577, hq578, hr571, hcs572, hA573, hlt574, hb579, hho580⟩ := OS.get (sz := 1) rfl (by decide) h20 hx569
   obtain ⟨rfl, rfl⟩ := hr571
   refine E_st 7 rfl (st_index_old j567 rfl rfl hj568 hlt574 hA573 sl22) ?_
   refine E_out ?_
   refine D_all [8] (by kernel_rfl) rfl ?_
   refine R_do (Base.Le.refl _) rfl rfl (u_putOS hj568 (sz := 1) (a' := x497 + s32.Len) rfl [_, _, _, _, _, _, _] (hs2 ++ (hs7 ++ (hs12 ++ (hs22 ++ R)))) 0 1 [.int .i64 (x497 + s32.Len)] rfl h20 hx569 rfl rfl rfl siz3 rfl (mem_c rfl mem_n) (fun cs hsj hh => by obtain ⟨rfl, rfl⟩ := hh; exact ⟨by decide, rfl, rfl⟩)) ?_ ?_
   ·
    rintro _ _ ⟨hs581, rfl, h582⟩
    refine ⟨.inl (by kernel_rfl), ?_⟩
    refine d_hresp 6 rfl (o' := Cl 73 [.slice A18 (put l42 s32.To (x497 + s32.Len)).length c19, .slice A34 (l37).length c35, .slice A23 (l43).length c24]) (by simp only [put_length]) ?_
    refine D_done (by kernel_rfl) ?_
    refine x_then_normal ?_
    refine c_sr ?_
    refine t_st rfl (st_load 2 rfl one22 rfl rfl) ?_
    refine t_st rfl (st_field rfl fld34_1) ?_
    refine t_st rfl (st_load 0 rfl one3 rfl rfl) ?_
    obtain ⟨x583, h584, hm⟩ := bindS hm
    obtain ⟨j585, hj586, hx587⟩ := idx_some h584
    obtain ⟨cs588, hs593, P594, P595, hq596, hr589, hcs590, hA591, hlt592, hb597, hho598⟩ := OS.get (sz := 1) rfl (by decide) h5 hx587
    obtain ⟨rfl, rfl⟩ := hr589
    refine t_st rfl (st_index_old j585 rfl rfl hj586 hlt592 hA591 sl22) ?_
    refine t_st rfl (st_load_rd rfl one3 (fun w ho => hcs590 w _ ho (.cons _ (.cons _ (.cons _ (.cons _ (.cons _ (.cons _ (.cons _ (sub_skip hs581 (List.sublist_append_left _ _))))))))) 0 _ rfl)) ?_
    obtain ⟨_, h599, hm⟩ := bindS hm
    have h599 := (chk_some h599).2
    refine t_st rfl (st_add rfl rfl h599) ?_
    obtain ⟨x600, h601, hm⟩ := bindS hm
    obtain ⟨j602, hj603, hx604⟩ := idx_some h601
    obtain ⟨cs605, hs610, P611, P612, hq613, hr606, hcs607, hA608, hlt609, hb614, hho615⟩ := OS.get (sz := 1) rfl (by decide) h5 hx604
    obtain ⟨rfl, rfl⟩ := hr606
    refine t_st rfl (st_index_old j602 rfl rfl hj603 hlt609 hA608 sl22) ?_
    refine t_front2 [_, _, _, _, _, _, _] hs581 hs2 (hs7 ++ (hs12 ++ (hs22 ++ R))) rfl ?_
    refine t_do rfl (u_putOS hj603 (sz := 1) (a' := x583 + 1) rfl [_, _, _, _, _, _, _] (hs581 ++ (hs7 ++ (hs12 ++ (hs22 ++ R)))) 0 1 [.int .i64 (x583 + 1)] rfl h5 hx604 rfl rfl rfl siz3 rfl (mem_c rfl mem_n) (fun cs hsj hh => by obtain ⟨rfl, rfl⟩ := hh; exact ⟨by decide, rfl, rfl⟩)) ?_
    rintro _ _ ⟨hs616, rfl, h617⟩
    refine t_hresp 2 rfl (o' := Cl 22 [.slice A3 (put l38 s32.To (x583 + 1)).length c4]) (by simp only [put_length]) ?_
    refine t_ne ?_
    obtain ⟨x734, hj735, hk735⟩ := bindS hm
    refine c_join (fun b732 e' hp' => [(4, .pointer (some ⟨g29, 0, none⟩)), (5, .pointer (some ⟨g30, 0, none⟩)), (6, .pointer (some ⟨g479, 0, none⟩))] = e' ∧ (g29, Cl 88 [.slice A8 (l39).length c9]) :: (g30, Cl 22 [.slice A13 (l40).length c14]) :: (g479, Cl 34 [.int .i64 (s32.From), .int .i64 (s32.To), .int .i64 (s32.Len)]) :: (g26, Cl 69 [.pointer (some ⟨g31, 0, none⟩)]) :: (g27, Cl 22 [.slice A3 (put l38 s32.To (x583 + 1)).length c4]) :: (g28, Cl 4 [.bool (x734)]) :: (g31, Cl 73 [.slice A18 (put l42 s32.To (x497 + s32.Len)).length c19, .slice A34 (l37).length c35, .slice A23 (l43).length c24]) :: (hs616 ++ (hs7 ++ (hs12 ++ (hs581 ++ (hs22 ++ R))))) = hp' ∧ b.Le b732) ?_ ?_
    ·
     have hm := hj735
     rcases Bool.eq_false_or_eq_true x33 with hc793 | hc793
     ·
      rw [if_pos hc793] at hm
      obtain ⟨x794, h795, hm⟩ := bindS hm
      by_cases hc804 : x794 < 0
      ·
       rw [if_pos hc804] at hm
       by_cases hc805 : (x497 + s32.Len) ≤ 1099511627776
       ·
        rw [if_pos hc805] at hm
        obtain ⟨x806, h807, hm⟩ := bindS hm
        refine D_drawI mixed (.refl _) ?_
        refine E_st 0 rfl (stB (st_load 3 rfl one4 rfl rfl) hc793) ?_
        refine E_st 1 rfl (st_move rfl) ?_
        refine E_yes 2 45 rfl (st_load 1 rfl one69 rfl rfl) ?_
        refine E_yes 3 45 rfl (st_nil rfl) ?_
        refine E_yes 4 45 rfl (st_field rfl fld73_1) ?_
        refine E_yes 5 45 rfl (st_load 6 rfl one22 rfl rfl) ?_
        refine E_yes 6 45 rfl (st_field rfl fld34_1) ?_
        refine E_yes 7 45 rfl (st_load 0 rfl one3 rfl rfl) ?_
        obtain ⟨j796, hj797, hx798⟩ := idx_some h795
        obtain ⟨cs799, hr800, hcs801, hA802, hlt803⟩ := FZ.get (sz := 1) rfl (by decide) h36 hx798
        obtain rfl := hr800
        refine E_yes 8 45 rfl (st_index_old j796 rfl rfl hj797 hlt803 hA802 sl22) ?_
        refine E_yes 9 45 rfl (st_load_old rfl one3 (hcs801 0 _ rfl)) ?_
        refine E_yes 10 45 rfl (st_lss_t rfl rfl hc804) ?_
        refine E_yes 11 45 rfl (st_move rfl) ?_
        refine E_no 12 55 rfl rfl rfl ?_
        refine E_no 13 55 rfl rfl rfl ?_
        refine E_no 14 55 rfl rfl rfl ?_
        refine E_no 15 55 rfl rfl rfl ?_
        refine E_no 16 55 rfl rfl rfl ?_
        refine E_no 17 55 rfl rfl rfl ?_
        refine E_no 18 55 rfl rfl rfl ?_
        refine E_no 19 55 rfl rfl rfl ?_
        refine E_no 20 55 rfl rfl rfl ?_
        refine E_no 21 55 rfl rfl rfl ?_
        refine E_yes 22 45 rfl (st_pick_t rfl rfl) ?_
        refine E_st 23 rfl (st_pick_t rfl rfl) ?_
        refine E_st 24 rfl (st_move rfl) ?_
        refine E_yes 25 68 rfl (st_move rfl) ?_
        refine E_yes 26 68 rfl (st_leq_t rfl rfl hc805) ?_
        refine E_st 27 rfl (st_pick_t rfl rfl) ?_
        refine E_st 28 rfl (st_move rfl) ?_
        refine E_yes 29 72 rfl (st_load 2 rfl one22 rfl rfl) ?_
        refine E_yes 30 72 rfl (st_field rfl fld34_1) ?_
        refine E_yes 31 72 rfl (st_load 0 rfl one3 rfl rfl) ?_
        obtain ⟨j808, hj809, hx810⟩ := idx_some h807
        obtain ⟨cs811, hs816, P817, P818, hq819, hr812, hcs813, hA814, hlt815, hb820, hho821⟩ := OS.get (sz := 1) rfl (by decide) h617 hx810
        obtain ⟨rfl, rfl⟩ := hr812
        refine E_yes 32 72 rfl (st_index_old j808 rfl rfl hj809 hlt815 hA814 sl22) ?_
        refine E_yes 33 72 rfl (st_load_rd rfl one3 (fun w ho => hcs813 w _ ho (.cons _ (.cons _ (.cons _ (.cons _ (.cons _ (.cons _ (.cons _ (List.sublist_append_left _ _)))))))) 0 _ rfl)) ?_
        refine E_yes 34 72 rfl (st_leq rfl rfl) ?_
        refine E_st 35 rfl (st_pick_t rfl rfl) ?_
        refine E_out ?_
        refine D_all [36] (by kernel_rfl) rfl ?_
        refine R_do (Base.Le.refl _) rfl rfl (u_store 3 rfl rfl siz4 rfl rfl (by simp)) ?_ ?_
        ·
         rintro _ _ rfl
         refine ⟨.inl (by kernel_rfl), ?_⟩
         refine D_done (by kernel_rfl) ?_
         obtain rfl := some1 hm
         refine x_pullb 6 rfl ?_
         refine x_pullb 4 rfl ?_
         refine x_pullb 4 rfl ?_
         refine x_pullb 4 rfl ?_
         refine x_pullb 4 rfl ?_
         refine x_pullb 6 rfl ?_
         refine x_pullb 6 rfl ?_
         refine x_front5 [_, _, _, _, _, _, _] hs616 hs581 hs7 hs12 hs22 R rfl ?_
         refine x_front3 [_, _, _, _, _, _, _] hs22 hs616 hs581 (hs7 ++ (hs12 ++ R)) rfl ?_
         refine x_front5 [_, _, _, _, _, _, _] hs581 hs22 hs616 hs7 hs12 R rfl ?_
         refine x_front5 [_, _, _, _, _, _, _] hs12 hs581 hs22 hs616 hs7 R rfl ?_
         refine x_front5 [_, _, _, _, _, _, _] hs7 hs12 hs581 hs22 hs616 R rfl ?_
         exact x_join (e' := [(4, .pointer (some ⟨g29, 0, none⟩)), (5, .pointer (some ⟨g30, 0, none⟩)), (6, .pointer (some ⟨g479, 0, none⟩))]) ⟨rfl, rfl, rfl, trivial⟩ (.refl _) ⟨rfl, rfl, (Base.Le.refl _)⟩
        exact R_nil
       ·
        rw [if_neg hc805] at hm
        refine D_drawI mixed (.refl _) ?_
        refine E_st 0 rfl (stB (st_load 3 rfl one4 rfl rfl) hc793) ?_
        refine E_st 1 rfl (st_move rfl) ?_
        refine E_yes 2 45 rfl (st_load 1 rfl one69 rfl rfl) ?_
        refine E_yes 3 45 rfl (st_nil rfl) ?_
        refine E_yes 4 45 rfl (st_field rfl fld73_1) ?_
        refine E_yes 5 45 rfl (st_load 6 rfl one22 rfl rfl) ?_
        refine E_yes 6 45 rfl (st_field rfl fld34_1) ?_
        refine E_yes 7 45 rfl (st_load 0 rfl one3 rfl rfl) ?_
        obtain ⟨j796, hj797, hx798⟩ := idx_some h795
        obtain ⟨cs799, hr800, hcs801, hA802, hlt803⟩ := FZ.get (sz := 1) rfl (by decide) h36 hx798
        obtain rfl := hr800
        refine E_yes 8 45 rfl (st_index_old j796 rfl rfl hj797 hlt803 hA802 sl22) ?_
        refine E_yes 9 45 rfl (st_load_old rfl one3 (hcs801 0 _ rfl)) ?_
        refine E_yes 10 45 rfl (st_lss_t rfl rfl hc804) ?_
        refine E_yes 11 45 rfl (st_move rfl) ?_
        refine E_no 12 55 rfl rfl rfl ?_
        refine E_no 13 55 rfl rfl rfl ?_
        refine E_no 14 55 rfl rfl rfl ?_
        refine E_no 15 55 rfl rfl rfl ?_
        refine E_no 16 55 rfl rfl rfl ?_
        refine E_no 17 55 rfl rfl rfl ?_
        refine E_no 18 55 rfl rfl rfl ?_
        refine E_no 19 55 rfl rfl rfl ?_
        refine E_no 20 55 rfl rfl rfl ?_
        refine E_no 21 55 rfl rfl rfl ?_
        refine E_yes 22 45 rfl (st_pick_t rfl rfl) ?_
        refine E_st 23 rfl (st_pick_t rfl rfl) ?_
        refine E_st 24 rfl (st_move rfl) ?_
        refine E_yes 25 68 rfl (st_move rfl) ?_
        refine E_yes 26 68 rfl (st_leq_f rfl rfl hc805) ?_
        refine E_st 27 rfl (st_pick_t rfl rfl) ?_
        refine E_st 28 rfl (st_move rfl) ?_
        refine E_no 29 72 rfl rfl rfl ?_
        refine E_no 30 72 rfl rfl rfl ?_
        refine E_no 31 72 rfl rfl rfl ?_
        refine E_no 32 72 rfl rfl rfl ?_
        refine E_no 33 72 rfl rfl rfl ?_
        refine E_no 34 72 rfl rfl rfl ?_
        refine E_st 35 rfl (st_pick_f rfl rfl) ?_
        refine E_out ?_
        refine D_all [36] (by kernel_rfl) rfl ?_
        refine R_do (Base.Le.refl _) rfl rfl (u_store 3 rfl rfl siz4 rfl rfl (by simp)) ?_ ?_
        ·
         rintro _ _ rfl
         refine ⟨.inl (by kernel_rfl), ?_⟩
         refine D_done (by kernel_rfl) ?_
         obtain rfl := some1 hm
         refine x_pullb 6 rfl ?_
         refine x_pullb 4 rfl ?_
         refine x_pullb 4 rfl ?_
         refine x_pullb 4 rfl ?_
         refine x_pullb 4 rfl ?_
         refine x_pullb 6 rfl ?_
         refine x_pullb 6 rfl ?_
         refine x_front5 [_, _, _, _, _, _, _] hs616 hs581 hs7 hs12 hs22 R rfl ?_
         refine x_front3 [_, _, _, _, _, _, _] hs22 hs616 hs581 (hs7 ++ (hs12 ++ R)) rfl ?_
         refine x_front5 [_, _, _, _, _, _, _] hs581 hs22 hs616 hs7 hs12 R rfl ?_
         refine x_front5 [_, _, _, _, _, _, _] hs12 hs581 hs22 hs616 hs7 R rfl ?_
         refine x_front5 [_, _, _, _, _, _, _] hs7 hs12 hs581 hs22 hs616 R rfl ?_
         exact x_join (e' := [(4, .pointer (some ⟨g29, 0, none⟩)), (5, .pointer (some ⟨g30, 0, none⟩)), (6, .pointer (some ⟨g479, 0, none⟩))]) ⟨rfl, rfl, rfl, trivial⟩ (.refl _) ⟨rfl, rfl, (Base.Le.refl _)⟩
        exact R_nil
      ·
       rw [if_neg hc804] at hm
       obtain ⟨x822, h823, hm⟩ := bindS hm
       by_cases hc832 : (x497 + s32.Len) ≤ x822
       ·
        rw [if_pos hc832] at hm
        by_cases hc833 : (x497 + s32.Len) ≤ 1099511627776
        ·
         rw [if_pos hc833] at hm
         obtain ⟨x834, h835, hm⟩ := bindS hm
         refine D_drawI mixed (.refl _) ?_
         refine E_st 0 rfl (stB (st_load 3 rfl one4 rfl rfl) hc793) ?_
         refine E_st 1 rfl (st_move rfl) ?_
         refine E_yes 2 45 rfl (st_load 1 rfl one69 rfl rfl) ?_
         refine E_yes 3 45 rfl (st_nil rfl) ?_
         refine E_yes 4 45 rfl (st_field rfl fld73_1) ?_
         refine E_yes 5 45 rfl (st_load 6 rfl one22 rfl rfl) ?_
         refine E_yes 6 45 rfl (st_field rfl fld34_1) ?_
         refine E_yes 7 45 rfl (st_load 0 rfl one3 rfl rfl) ?_
         obtain ⟨j796, hj797, hx798⟩ := idx_some h795
         obtain ⟨cs799, hr800, hcs801, hA802, hlt803⟩ := FZ.get (sz := 1) rfl (by decide) h36 hx798
         obtain rfl := hr800
         refine E_yes 8 45 rfl (st_index_old j796 rfl rfl hj797 hlt803 hA802 sl22) ?_
         refine E_yes 9 45 rfl (st_load_old rfl one3 (hcs801 0 _ rfl)) ?_
         refine E_yes 10 45 rfl (st_lss_f rfl rfl hc804) ?_
         refine E_yes 11 45 rfl (st_move rfl) ?_
         refine E_yes 12 55 rfl (st_move rfl) ?_
         refine E_yes 13 55 rfl (st_load 1 rfl one69 rfl rfl) ?_
         refine E_yes 14 55 rfl (st_nil rfl) ?_
         refine E_yes 15 55 rfl (st_field rfl fld73_1) ?_
         refine E_yes 16 55 rfl (st_load 6 rfl one22 rfl rfl) ?_
         refine E_yes 17 55 rfl (st_field rfl fld34_1) ?_
         refine E_yes 18 55 rfl (st_load 0 rfl one3 rfl rfl) ?_
         obtain ⟨j824, hj825, hx826⟩ := idx_some h823
         obtain ⟨cs827, hr828, hcs829, hA830, hlt831⟩ := FZ.get (sz := 1) rfl (by decide) h36 hx826
         obtain rfl := hr828
         refine E_yes 19 55 rfl (st_index_old j824 rfl rfl hj825 hlt831 hA830 sl22) ?_
         refine E_yes 20 55 rfl (st_load_old rfl one3 (hcs829 0 _ rfl)) ?_
         refine E_yes 21 55 rfl (st_leq_t rfl rfl hc832) ?_
         refine E_yes 22 45 rfl (st_pick_f rfl rfl) ?_
         refine E_st 23 rfl (st_pick_t rfl rfl) ?_
         refine E_st 24 rfl (st_move rfl) ?_
         refine E_yes 25 68 rfl (st_move rfl) ?_
         refine E_yes 26 68 rfl (st_leq_t rfl rfl hc833) ?_
         refine E_st 27 rfl (st_pick_t rfl rfl) ?_
         refine E_st 28 rfl (st_move rfl) ?_
         refine E_yes 29 72 rfl (st_load 2 rfl one22 rfl rfl) ?_
         refine E_yes 30 72 rfl (st_field rfl fld34_1) ?_
         refine E_yes 31 72 rfl (st_load 0 rfl one3 rfl rfl) ?_
         obtain ⟨j836, hj837, hx838⟩ := idx_some h835
         obtain ⟨cs839, hs844, P845, P846, hq847, hr840, hcs841, hA842, hlt843, hb848, hho849⟩ := OS.get (sz := 1) rfl (by decide) h617 hx838
         obtain ⟨rfl, rfl⟩ := hr840
         refine E_yes 32 72 rfl (st_index_old j836 rfl rfl hj837 hlt843 hA842 sl22) ?_
         refine E_yes 33 72 rfl (st_load_rd rfl one3 (fun w ho => hcs841 w _ ho (.cons _ (.cons _ (.cons _ (.cons _ (.cons _ (.cons _ (.cons _ (List.sublist_append_left _ _)))))))) 0 _ rfl)) ?_
         refine E_yes 34 72 rfl (st_leq rfl rfl) ?_
         refine E_st 35 rfl (st_pick_t rfl rfl) ?_
         refine E_out ?_
         refine D_all [36] (by kernel_rfl) rfl ?_
         refine R_do (Base.Le.refl _) rfl rfl (u_store 3 rfl rfl siz4 rfl rfl (by simp)) ?_ ?_
         ·
          rintro _ _ rfl
          refine ⟨.inl (by kernel_rfl), ?_⟩
          refine D_done (by kernel_rfl) ?_
          obtain rfl := some1 hm
          refine x_pullb 6 rfl ?_
          refine x_pullb 4 rfl ?_
          refine x_pullb 4 rfl ?_
          refine x_pullb 4 rfl ?_
          refine x_pullb 4 rfl ?_
          refine x_pullb 6 rfl ?_
          refine x_pullb 6 rfl ?_
          refine x_front5 [_, _, _, _, _, _, _] hs616 hs581 hs7 hs12 hs22 R rfl ?_
          refine x_front3 [_, _, _, _, _, _, _] hs22 hs616 hs581 (hs7 ++ (hs12 ++ R)) rfl ?_
          refine x_front5 [_, _, _, _, _, _, _] hs581 hs22 hs616 hs7 hs12 R rfl ?_
          refine x_front5 [_, _, _, _, _, _, _] hs12 hs581 hs22 hs616 hs7 R rfl ?_
          refine x_front5 [_, _, _, _, _, _, _] hs7 hs12 hs581 hs22 hs616 R rfl ?_
          exact x_join (e' := [(4, .pointer (some ⟨g29, 0, none⟩)), (5, .pointer (some ⟨g30, 0, none⟩)), (6, .pointer (some ⟨g479, 0, none⟩))]) ⟨rfl, rfl, rfl, trivial⟩ (.refl _) ⟨rfl, rfl, (Base.Le.refl _)⟩
         exact R_nil
        ·
         rw [if_neg hc833] at hm
         refine D_drawI mixed (.refl _) ?_
         refine E_st 0 rfl (stB (st_load 3 rfl one4 rfl rfl) hc793) ?_
         refine E_st 1 rfl (st_move rfl) ?_
         refine E_yes 2 45 rfl (st_load 1 rfl one69 rfl rfl) ?_
         refine E_yes 3 45 rfl (st_nil rfl) ?_
         refine E_yes 4 45 rfl (st_field rfl fld73_1) ?_
         refine E_yes 5 45 rfl (st_load 6 rfl one22 rfl rfl) ?_
         refine E_yes 6 45 rfl (st_field rfl fld34_1) ?_
         refine E_yes 7 45 rfl (st_load 0 rfl one3 rfl rfl) ?_
         obtain ⟨j796, hj797, hx798⟩ := idx_some h795
         obtain ⟨cs799, hr800, hcs801, hA802, hlt803⟩ := FZ.get (sz := 1) rfl (by decide) h36 hx798
         obtain rfl := hr800
         refine E_yes 8 45 rfl (st_index_old j796 rfl rfl hj797 hlt803 hA802 sl22) ?_
         refine E_yes 9 45 rfl (st_load_old rfl one3 (hcs801 0 _ rfl)) ?_
         refine E_yes 10 45 rfl (st_lss_f rfl rfl hc804) ?_
         refine E_yes 11 45 rfl (st_move rfl) ?_
         refine E_yes 12 55 rfl (st_move rfl) ?_
         refine E_yes 13 55 rfl (st_load 1 rfl one69 rfl rfl) ?_
         refine E_yes 14 55 rfl (st_nil rfl) ?_
         refine E_yes 15 55 rfl (st_field rfl fld73_1) ?_
         refine E_yes 16 55 rfl (st_load 6 rfl one22 rfl rfl) ?_
         refine E_yes 17 55 rfl (st_field rfl fld34_1) ?_
         refine E_yes 18 55 rfl (st_load 0 rfl one3 rfl rfl) ?_
         obtain ⟨j824, hj825, hx826⟩ := idx_some h823
         obtain ⟨cs827, hr828, hcs829, hA830, hlt831⟩ := FZ.get (sz := 1) rfl (by decide) h36 hx826
         obtain rfl := hr828
         refine E_yes 19 55 rfl (st_index_old j824 rfl rfl hj825 hlt831 hA830 sl22) ?_
         refine E_yes 20 55 rfl (st_load_old rfl one3 (hcs829 0 _ rfl)) ?_
         refine E_yes 21 55 rfl (st_leq_t rfl rfl hc832) ?_
         refine E_yes 22 45 rfl (st_pick_f rfl rfl) ?_
         refine E_st 23 rfl (st_pick_t rfl rfl) ?_
         refine E_st 24 rfl (st_move rfl) ?_
         refine E_yes 25 68 rfl (st_move rfl) ?_
         refine E_yes 26 68 rfl (st_leq_f rfl rfl hc833) ?_
         refine E_st 27 rfl (st_pick_t rfl rfl) ?_
         refine E_st 28 rfl (st_move rfl) ?_
         refine E_no 29 72 rfl rfl rfl ?_
         refine E_no 30 72 rfl rfl rfl ?_
         refine E_no 31 72 rfl rfl rfl ?_
         refine E_no 32 72 rfl rfl rfl ?_
         refine E_no 33 72 rfl rfl rfl ?_
         refine E_no 34 72 rfl rfl rfl ?_
         refine E_st 35 rfl (st_pick_f rfl rfl) ?_
         refine E_out ?_
         refine D_all [36] (by kernel_rfl) rfl ?_
         refine R_do (Base.Le.refl _) rfl rfl (u_store 3 rfl rfl siz4 rfl rfl (by simp)) ?_ ?_
         ·
          rintro _ _ rfl
          refine ⟨.inl (by kernel_rfl), ?_⟩
          refine D_done (by kernel_rfl) ?_
          obtain rfl := some1 hm
          refine x_pullb 6 rfl ?_
          refine x_pullb 4 rfl ?_
          refine x_pullb 4 rfl ?_
          refine x_pullb 4 rfl ?_
          refine x_pullb 4 rfl ?_
          refine x_pullb 6 rfl ?_
          refine x_pullb 6 rfl ?_
          refine x_front5 [_, _, _, _, _, _, _] hs616 hs581 hs7 hs12 hs22 R rfl ?_
          refine x_front3 [_, _, _, _, _, _, _] hs22 hs616 hs581 (hs7 ++ (hs12 ++ R)) rfl ?_
          refine x_front5 [_, _, _, _, _, _, _] hs581 hs22 hs616 hs7 hs12 R rfl ?_
          refine x_front5 [_, _, _, _, _, _, _] hs12 hs581 hs22 hs616 hs7 R rfl ?_
          refine x_front5 [_, _, _, _, _, _, _] hs7 hs12 hs581 hs22 hs616 R rfl ?_
          exact x_join (e' := [(4, .pointer (some ⟨g29, 0, none⟩)), (5, .pointer (some ⟨g30, 0, none⟩)), (6, .pointer (some ⟨g479, 0, none⟩))]) ⟨rfl, rfl, rfl, trivial⟩ (.refl _) ⟨rfl, rfl, (Base.Le.refl _)⟩
         exact R_nil
       ·
        rw [if_neg hc832] at hm
        refine D_drawI mixed (.refl _) ?_
        refine E_st 0 rfl (stB (st_load 3 rfl one4 rfl rfl) hc793) ?_
        refine E_st 1 rfl (st_move rfl) ?_
        refine E_yes 2 45 rfl (st_load 1 rfl one69 rfl rfl) ?_
        refine E_yes 3 45 rfl (st_nil rfl) ?_
        refine E_yes 4 45 rfl (st_field rfl fld73_1) ?_
        refine E_yes 5 45 rfl (st_load 6 rfl one22 rfl rfl) ?_
        refine E_yes 6 45 rfl (st_field rfl fld34_1) ?_
        refine E_yes 7 45 rfl (st_load 0 rfl one3 rfl rfl) ?_
        obtain ⟨j796, hj797, hx798⟩ := idx_some h795
        obtain ⟨cs799, hr800, hcs801, hA802, hlt803⟩ := FZ.get (sz := 1) rfl (by decide) h36 hx798
        obtain rfl := hr800
        refine E_yes 8 45 rfl (st_index_old j796 rfl rfl hj797 hlt803 hA802 sl22) ?_
        refine E_yes 9 45 rfl (st_load_old rfl one3 (hcs801 0 _ rfl)) ?_
        refine E_yes 10 45 rfl (st_lss_f rfl rfl hc804) ?_
        refine E_yes 11 45 rfl (st_move rfl) ?_
        refine E_yes 12 55 rfl (st_move rfl) ?_
        refine E_yes 13 55 rfl (st_load 1 rfl one69 rfl rfl) ?_
        refine E_yes 14 55 rfl (st_nil rfl) ?_
        refine E_yes 15 55 rfl (st_field rfl fld73_1) ?_
        refine E_yes 16 55 rfl (st_load 6 rfl one22 rfl rfl) ?_
        refine E_yes 17 55 rfl (st_field rfl fld34_1) ?_
        refine E_yes 18 55 rfl (st_load 0 rfl one3 rfl rfl) ?_
        obtain ⟨j824, hj825, hx826⟩ := idx_some h823
        obtain ⟨cs827, hr828, hcs829, hA830, hlt831⟩ := FZ.get (sz := 1) rfl (by decide) h36 hx826
        obtain rfl := hr828
        refine E_yes 19 55 rfl (st_index_old j824 rfl rfl hj825 hlt831 hA830 sl22) ?_
        refine E_yes 20 55 rfl (st_load_old rfl one3 (hcs829 0 _ rfl)) ?_
        refine E_yes 21 55 rfl (st_leq_f rfl rfl hc832) ?_
        refine E_yes 22 45 rfl (st_pick_f rfl rfl) ?_
        refine E_st 23 rfl (st_pick_t rfl rfl) ?_
        refine E_st 24 rfl (st_move rfl) ?_
        refine E_no 25 68 rfl rfl rfl ?_
        refine E_no 26 68 rfl rfl rfl ?_
        refine E_st 27 rfl (st_pick_f rfl rfl) ?_
        refine E_st 28 rfl (st_move rfl) ?_
        refine E_no 29 72 rfl rfl rfl ?_
        refine E_no 30 72 rfl rfl rfl ?_
        refine E_no 31 72 rfl rfl rfl ?_
        refine E_no 32 72 rfl rfl rfl ?_
        refine E_no 33 72 rfl rfl rfl ?_
        refine E_no 34 72 rfl rfl rfl ?_
        refine E_st 35 rfl (st_pick_f rfl rfl) ?_
        refine E_out ?_
        refine D_all [36] (by kernel_rfl) rfl ?_
        refine R_do (Base.Le.refl _) rfl rfl (u_store 3 rfl rfl siz4 rfl rfl (by simp)) ?_ ?_
        ·
         rintro _ _ rfl
         refine ⟨.inl (by kernel_rfl), ?_⟩
         refine D_done (by kernel_rfl) ?_
         obtain rfl := some1 hm
         refine x_pullb 6 rfl ?_
         refine x_pullb 4 rfl ?_
         refine x_pullb 4 rfl ?_
         refine x_pullb 4 rfl ?_
         refine x_pullb 4 rfl ?_
         refine x_pullb 6 rfl ?_
         refine x_pullb 6 rfl ?_
         refine x_front5 [_, _, _, _, _, _, _] hs616 hs581 hs7 hs12 hs22 R rfl ?_
         refine x_front3 [_, _, _, _, _, _, _] hs22 hs616 hs581 (hs7 ++ (hs12 ++ R)) rfl ?_
         refine x_front5 [_, _, _, _, _, _, _] hs581 hs22 hs616 hs7 hs12 R rfl ?_
         refine x_front5 [_, _, _, _, _, _, _] hs12 hs581 hs22 hs616 hs7 R rfl ?_
         refine x_front5 [_, _, _, _, _, _, _] hs7 hs12 hs581 hs22 hs616 R rfl ?_
         exact x_join (e' := [(4, .pointer (some ⟨g29, 0, none⟩)), (5, .pointer (some ⟨g30, 0, none⟩)), (6, .pointer (some ⟨g479, 0, none⟩))]) ⟨rfl, rfl, rfl, trivial⟩ (.refl _) ⟨rfl, rfl, (Base.Le.refl _)⟩
        exact R_nil
     ·
      rw [if_neg (fun hh => Bool.noConfusion (hh.symm.trans hc793))] at hm
      refine D_drawI mixed (.refl _) ?_
      refine E_st 0 rfl (stB (st_load 3 rfl one4 rfl rfl) hc793) ?_
      refine E_st 1 rfl (st_move rfl) ?_
      refine E_no 2 45 rfl rfl rfl ?_
      refine E_no 3 45 rfl rfl rfl ?_
      refine E_no 4 45 rfl rfl rfl ?_
      refine E_no 5 45 rfl rfl rfl ?_
      refine E_no 6 45 rfl rfl rfl ?_
      refine E_no 7 45 rfl rfl rfl ?_
      refine E_no 8 45 rfl rfl rfl ?_
      refine E_no 9 45 rfl rfl rfl ?_
      refine E_no 10 45 rfl rfl rfl ?_
      refine E_no 11 45 rfl rfl rfl ?_
      refine E_no 12 55 rfl rfl rfl ?_
      refine E_no 13 55 rfl rfl rfl ?_
      refine E_no 14 55 rfl rfl rfl ?_
      refine E_no 15 55 rfl rfl rfl ?_
      refine E_no 16 55 rfl rfl rfl ?_
      refine E_no 17 55 rfl rfl rfl ?_
      refine E_no 18 55 rfl rfl rfl ?_
      refine E_no 19 55 rfl rfl rfl ?_
      refine E_no 20 55 rfl rfl rfl ?_
      refine E_no 21 55 rfl rfl rfl ?_
      refine E_no 22 45 rfl rfl rfl ?_
      refine E_st 23 rfl (st_pick_f rfl rfl) ?_
      refine E_st 24 rfl (st_move rfl) ?_
      refine E_no 25 68 rfl rfl rfl ?_
      refine E_no 26 68 rfl rfl rfl ?_
      refine E_st 27 rfl (st_pick_f rfl rfl) ?_
      refine E_st 28 rfl (st_move rfl) ?_
      refine E_no 29 72 rfl rfl rfl ?_
      refine E_no 30 72 rfl rfl rfl ?_
      refine E_no 31 72 rfl rfl rfl ?_
      refine E_no 32 72 rfl rfl rfl ?_
      refine E_no 33 72 rfl rfl rfl ?_
      refine E_no 34 72 rfl rfl rfl ?_
      refine E_st 35 rfl (st_pick_f rfl rfl) ?_
      refine E_out ?_
      refine D_all [36] (by kernel_rfl) rfl ?_
      refine R_do (Base.Le.refl _) rfl rfl (u_store 3 rfl rfl siz4 rfl rfl (by simp)) ?_ ?_
      ·
       rintro _ _ rfl
       refine ⟨.inl (by kernel_rfl), ?_⟩
       refine D_done (by kernel_rfl) ?_
       obtain rfl := some1 hm
       refine x_pullb 6 rfl ?_
       refine x_pullb 4 rfl ?_
       refine x_pullb 4 rfl ?_
       refine x_pullb 4 rfl ?_
       refine x_pullb 4 rfl ?_
       refine x_pullb 6 rfl ?_
       refine x_pullb 6 rfl ?_
       refine x_front5 [_, _, _, _, _, _, _] hs616 hs581 hs7 hs12 hs22 R rfl ?_
       refine x_front3 [_, _, _, _, _, _, _] hs22 hs616 hs581 (hs7 ++ (hs12 ++ R)) rfl ?_
       refine x_front5 [_, _, _, _, _, _, _] hs581 hs22 hs616 hs7 hs12 R rfl ?_
       refine x_front5 [_, _, _, _, _, _, _] hs12 hs581 hs22 hs616 hs7 R rfl ?_
       refine x_front5 [_, _, _, _, _, _, _] hs7 hs12 hs581 hs22 hs616 R rfl ?_
       exact x_join (e' := [(4, .pointer (some ⟨g29, 0, none⟩)), (5, .pointer (some ⟨g30, 0, none⟩)), (6, .pointer (some ⟨g479, 0, none⟩))]) ⟨rfl, rfl, rfl, trivial⟩ (.refl _) ⟨rfl, rfl, (Base.Le.refl _)⟩
      exact R_nil
    ·
     rintro b732 _ _ ⟨rfl, rfl, hle733⟩
     have hm := hk735
     refine c_sr ?_
     refine t_st rfl (st_load 0 rfl one88 rfl rfl) ?_
     refine t_st rfl (st_field rfl fld34_1) ?_
     refine t_st rfl (st_load 2 rfl one3 rfl rfl) ?_
     obtain ⟨x850, h851, hm⟩ := bindS hm
     obtain ⟨j852, hj853, hx854⟩ := idx_some h851
     obtain ⟨cs855, hs860, P861, P862, hq863, hr856, hcs857, hA858, hlt859, hb864, hho865⟩ := OS.get (sz := 1) rfl (by decide) (h10.le hle733) hx854
     obtain ⟨rfl, rfl⟩ := hr856
     refine t_st rfl (st_index_old j852 rfl rfl hj853 hlt859 hA858 sl88) ?_
     refine t_st rfl (st_load_rd rfl one4 (fun w ho => hcs857 w _ ho (.cons _ (.cons _ (.cons _ (.cons _ (.cons _ (.cons _ (.cons _ (sub_skip hs616 (List.sublist_append_left _ _))))))))) 0 _ rfl)) ?_
     refine t_st rfl (st_not rfl) ?_
     refine t_ne ?_
     refine c_cond _ rfl (fun hc866 => ?_) (fun hc866 => ?_)
     ·
      rw [if_neg (fun hh => Bool.noConfusion (hh.symm.trans (notT hc866)))] at hm
      refine c_sr ?_
      refine t_st rfl (st_load 0 rfl one88 rfl rfl) ?_
      refine t_st rfl (st_field rfl fld34_1) ?_
      refine t_st rfl (st_load 2 rfl one3 rfl rfl) ?_
      obtain ⟨x867, h868, hm⟩ := bindS hm
      obtain ⟨j869, hj870, hx871⟩ := idx_some h868
      obtain ⟨cs872, hs877, P878, P879, hq880, hr873, hcs874, hA875, hlt876, hb881, hho882⟩ := OS.get (sz := 1) rfl (by decide) (h10.le hle733) hx871
      obtain ⟨rfl, rfl⟩ := hr873
      refine t_st rfl (st_index_old j869 rfl rfl hj870 hlt876 hA875 sl88) ?_
      refine t_front2 [_, _, _, _, _, _, _] hs616 hs7 (hs12 ++ (hs581 ++ (hs22 ++ R))) rfl ?_
      refine t_do rfl (u_putOS hj870 (sz := 1) (a' := true) rfl [_, _, _, _, _, _, _] (hs616 ++ (hs12 ++ (hs581 ++ (hs22 ++ R)))) 0 1 [.bool (true)] rfl (h10.le hle733) hx871 rfl rfl rfl siz4 rfl (mem_c rfl mem_n) (fun cs hsj hh => by obtain ⟨rfl, rfl⟩ := hh; exact ⟨by decide, rfl, rfl⟩)) ?_
      rintro _ _ ⟨hs883, rfl, h884⟩
      refine t_hresp 0 rfl (o' := Cl 88 [.slice A8 (put l39 s32.To true).length c9]) (by simp only [put_length]) ?_
      refine t_ne ?_
      refine c_region ?_
      refine t_st rfl (st_load 1 rfl one22 rfl rfl) ?_
      refine t_st rfl (st_field rfl fld34_1) ?_
      refine t_st rfl (st_load 2 rfl one3 rfl rfl) ?_
      refine t_do rfl (u_bslice (el := 3) [(0, .int .i64 (s32.To))] [.int .i64 (s32.To)] rfl (fun _ => by kernel_rfl)) ?_
      rintro _ _ ⟨g885, rfl, rfl⟩
      obtain ⟨_, h886, hm⟩ := bindS hm
      have h886 := room_some h886
      refine t_front3 [_, _, _, _, _, _, _, _] hs883 hs616 hs12 (hs581 ++ (hs22 ++ R)) rfl ?_
      refine t_do rfl (u_appOS (r := (RT.int .i64)) (l := l40) [_, _, _, _, _, _, _, _] (hs883 ++ (hs616 ++ (hs581 ++ (hs22 ++ R)))) [[.int .i64 (s32.To)]] [s32.To] rfl (by decide) sl22 inf3 rfl rfl rfl rfl (h15.le hle733) rfl (fun w ho => Rd.own (i := 0) ho rfl) ⟨rfl, trivial⟩ h886) ?_
      rintro _ _ ⟨hs887, rfl, h888⟩
      obtain ⟨A889, c890, rfl, _⟩ := h888.form
      refine t_do rfl (u_store 2 rfl rfl siz22 rfl rfl (by simp)) ?_
      rintro _ _ rfl
      refine t_nil ?_
      obtain ⟨rfl, rfl, rfl, rfl, rfl⟩ := some5 hm
      refine x_pullb 7 rfl ?_
      refine x_pullb 3 rfl ?_
      refine x_pullb 3 rfl ?_
      refine x_pullb 7 rfl ?_
      refine x_pullb 7 rfl ?_
      refine x_pullb 7 rfl ?_
      refine x_front5 [_, _, _, _, _, _, _, _] hs887 hs883 hs616 hs581 hs22 R rfl ?_
      refine x_front5 [_, _, _, _, _, _, _, _] hs22 hs887 hs883 hs616 hs581 R rfl ?_
      refine x_front3 [_, _, _, _, _, _, _, _] hs581 hs22 hs887 (hs883 ++ (hs616 ++ R)) rfl ?_
      refine x_front4 [_, _, _, _, _, _, _, _] hs887 hs581 hs22 hs883 (hs616 ++ R) rfl ?_
      refine x_front5 [_, _, _, _, _, _, _, _] hs883 hs887 hs581 hs22 hs616 R rfl ?_
      have he891 := (h617.le hle733)
      have he892 := (h582.le hle733)
      exact endM hle733 rfl (.cons_cons _ (.cons_cons _ (.cons_cons _ (.cons_cons _ (.cons_cons _ (.cons_cons _ (.cons _ (.cons _ (.refl _))))))))) ⟨hs616, hs883, A889, c890, hs887, hs581, rfl, rfl, he891, ((put_length _ _ _).trans rfl), h884, ((put_length _ _ _).trans rfl), h888, (OS.nz h888 (by simp)), he892, ((put_length _ _ _).trans rfl)⟩
     ·
      rw [if_pos (notF hc866)] at hm
      refine c_skip ?_
      obtain ⟨rfl, rfl, rfl, rfl, rfl⟩ := some5 hm
      refine x_pullb 6 rfl ?_
      refine x_pullb 2 rfl ?_
      refine x_pullb 2 rfl ?_
      refine x_pullb 6 rfl ?_
      refine x_pullb 6 rfl ?_
      refine x_pullb 6 rfl ?_
      refine x_front5 [_, _, _, _, _, _, _] hs616 hs7 hs12 hs581 hs22 R rfl ?_
      refine x_front5 [_, _, _, _, _, _, _] hs22 hs616 hs7 hs12 hs581 R rfl ?_
      refine x_front5 [_, _, _, _, _, _, _] hs581 hs22 hs616 hs7 hs12 R rfl ?_
      refine x_front5 [_, _, _, _, _, _, _] hs12 hs581 hs22 hs616 hs7 R rfl ?_
      refine x_front5 [_, _, _, _, _, _, _] hs7 hs12 hs581 hs22 hs616 R rfl ?_
      have he893 := (h617.le hle733)
      have he894 := (h10.le hle733)
      have he895 := (h15.le hle733)
      have he896 := (h582.le hle733)
      exact endM hle733 rfl (.cons_cons _ (.cons_cons _ (.cons_cons _ (.cons_cons _ (.cons_cons _ (.cons_cons _ (.cons _ (.refl _)))))))) ⟨hs616, hs7, A13, c14, hs12, hs581, rfl, rfl, he893, ((put_length _ _ _).trans rfl), he894, rfl, he895, hnz41, he896, ((put_length _ _ _).trans rfl)⟩
   exact R_nil

set_option maxRecDepth 20000 in
theorem cMendGreatest (b : Base) (R : Hp) (x1 : Int) (l5 : (List Int)) (A2 : Option Addr) (c3 : Nat) (h4 : FZ (RT.int .i64) b.w A2 c3 l5) (x45 : Int) (hm : mMendGreatest x1 l5 = some x45) :
    CallsG Try.prog 54 [.int .i64 (x1), .slice A2 (l5).length c3] b (R) (fun v b' hp' => .int .i64 (x45) = v ∧ R = hp') := by
  refine fn_enterG 18 Try.func54 rfl Try.ntmps54 rfl ?_
  unfold mMendGreatest at hm
  refine c_sr ?_
  refine t_as rfl rfl ?_
  refine t_ne ?_
  refine c_seq ?_
  refine c_sr ?_
  refine t_mv rfl rfl ?_
  refine t_st rfl (st_len rfl sl22) ?_
  refine t_mv rfl rfl ?_
  refine t_ne ?_
  refine c_block ?_
  have hb47 : l5.length ≤ 9223372036854775807 := (FZ.bd h4)
  obtain ⟨x71, hl73, hk74⟩ := bindS hm
  refine c_forS (fun k72 => fun x71 => fun b69 e' hp' => [(0, .int .i64 (x71)), (7, .slice A2 (l5).length c3), (8, .int .i64 ((l5.length : Int))), (9, .int .i64 ((k72 : Int)))] = e' ∧ R = hp' ∧ b.Le b69) hl73 (e' := [(0, .int .i64 (x1)), (7, .slice A2 (l5).length c3), (8, .int .i64 ((l5.length : Int))), (9, .int .i64 0)]) ⟨rfl, rfl, rfl, rfl, trivial⟩ (.refl _) ⟨rfl, rfl, (Base.Le.refl _)⟩ ?_ ?_
  ·
   rintro k72 x71 b69 _ _ oL46 hknL46 ⟨rfl, rfl, hle70⟩ hstepL46
   unfold mMendGreatest_L46 at hstepL46
   have hm := hstepL46
   refine c_sr ?_
   refine t_st rfl (st_lss_t rfl rfl (by omega)) ?_
   refine t_ne ?_
   refine c_seq ?_
   refine c_cond_t rfl ?_
   refine c_skip ?_
   refine x_then_normal ?_
   refine c_seq ?_
   refine c_block ?_
   refine c_sr ?_
   obtain ⟨x75, h76, hm⟩ := bindS hm
   obtain ⟨j77, hj78, hx79⟩ := idx_some h76
   obtain ⟨cs80, hr81, hcs82, hA83, hlt84⟩ := FZ.get (sz := 1) rfl (by decide) (h4.le hle70) hx79
   obtain rfl := hr81
   refine t_st rfl (st_index_old j77 rfl rfl hj78 hlt84 hA83 sl22) ?_
   refine t_st rfl (st_load_old rfl one3 (hcs82 0 _ rfl)) ?_
   refine t_as rfl rfl ?_
   refine t_ne ?_
   refine c_region ?_
   refine t_mv rfl rfl ?_
   refine t_mv rfl rfl ?_
   refine t_st rfl (st_max rfl rfl) ?_
   refine t_as rfl rfl ?_
   refine t_nil ?_
   refine x_block_normal ?_
   refine x_then_normal ?_
   refine c_region ?_
   refine t_st rfl (st_add rfl rfl (by omega)) ?_
   refine t_mv rfl rfl ?_
   refine t_nil ?_
   obtain rfl := some1 hm
   exact x_againS (e' := [(0, .int .i64 (max x71 x75)), (7, .slice A2 (l5).length c3), (8, .int .i64 ((l5.length : Int))), (9, .int .i64 ((k72 : Int) + 1))]) ⟨rfl, rfl, rfl, rfl, trivial⟩ (.refl _) ⟨rfl, rfl, (hle70)⟩
  ·
   rintro b69 _ _ ⟨rfl, rfl, hle70⟩
   have hm := hk74
   refine c_sr ?_
   refine t_st rfl (st_lss_f rfl rfl (by omega)) ?_
   refine t_ne ?_
   refine c_seq ?_
   refine c_cond_f rfl ?_
   refine c_exit ?_
   refine x_then_exit ?_
   refine x_then_exit ?_
   refine x_block_out ?_
   refine x_then_normal ?_
   refine c_sr ?_
   refine t_mv rfl rfl ?_
   refine t_as rfl rfl ?_
   refine t_ne ?_
   refine c_ret ?_
   obtain rfl := some1 hm
   exact retM (rs := [.tmp 4]) [.int .i64 (x71)] hle70 (by decide) rfl ⟨rfl, trivial⟩ rfl (.refl _) ⟨rfl, rfl⟩

set_option maxRecDepth 20000 in
theorem cMendSolverBound (b : Base) (R : Hp) (l15 : (List Int)) (l16 : (List Int)) (l17 : (List (List MendArc))) (g11 : Nat) (A12 : Option Addr) (c13 : Nat) (A3 : Option Addr) (c4 : Nat) (hs2 : Hp) (A8 : Option Addr) (c9 : Nat) (hs7 : Hp) (h14 : FZ (RT.int .i64) b.w A12 c13 l15) (h5 : OS 3 (OT.fr (RT.int .i64)) b.w (.slice A3 l16.length c4) l16 hs2) (h10 : OS 23 (OT.fr (RT.list rMendArc)) b.w (.slice A8 l17.length c9) l17 hs7) (x215 : Int) (hm : mMendSolverBound l15 l16 l17 = some x215) :
    CallsG Try.prog 62 [.pointer (some ⟨g11, 0, none⟩)] b ((g11, Cl 73 [.slice A3 (l16).length c4, .slice A12 (l15).length c13, .slice A8 (l17).length c9]) :: (hs2 ++ (hs7 ++ R))) (fun v b' hp' => .int .i64 (x215) = v ∧ (g11, Cl 73 [.slice A3 (l16).length c4, .slice A12 (l15).length c13, .slice A8 (l17).length c9]) :: (hs2 ++ (hs7 ++ R)) = hp') := by
  refine fn_enterG 39 Try.func62 rfl Try.ntmps62 rfl ?_
  unfold mMendSolverBound at hm
  refine c_sr ?_
  refine t_as rfl rfl ?_
  refine t_ne ?_
  refine c_sr ?_
  refine t_mv rfl rfl ?_
  refine t_st rfl (st_nil rfl) ?_
  refine t_st rfl (st_field rfl fld73_0) ?_
  refine t_st rfl (st_load 0 rfl one22 rfl rfl) ?_
  obtain ⟨x216, hcl217, hm⟩ := bindS hm
  refine t_do rfl (u_callW0 _ call54 rfl (fun w ho => cMendGreatest _ [] 0 l16 A3 c4 (OS.now (o := (OT.fr (RT.int .i64))) (l := l16) (hs := hs2) h5 ho (.cons _ (List.sublist_append_left _ _))) x216 hcl217) (fun _ _ _ h => h.2.symm)) ?_
  rintro _ _ ⟨⟨_, rfl, _⟩, rfl⟩
  refine t_as rfl rfl ?_
  refine t_ne ?_
  refine c_seq ?_
  refine c_sr ?_
  refine t_mv rfl rfl ?_
  refine t_st rfl (st_nil rfl) ?_
  refine t_st rfl (st_field rfl fld73_2) ?_
  refine t_st rfl (st_load 0 rfl one35 rfl rfl) ?_
  refine t_st rfl (st_len rfl sl35) ?_
  refine t_mv rfl rfl ?_
  refine t_ne ?_
  refine c_block ?_
  have hb219 : l17.length ≤ 9223372036854775807 := (OS.len h10)
  refine c_front2 [_] hs2 hs7 R rfl ?_
  obtain ⟨x347, hl349, hk350⟩ := bindS hm
  refine c_forS (fun k348 => fun x347 => fun b345 e' hp' => [(3, .int .i64 (x347)), (17, .slice A8 (l17).length c9), (18, .int .i64 ((l17.length : Int))), (19, .int .i64 ((k348 : Int)))] = e' ∧ (g11, Cl 73 [.slice A3 (l16).length c4, .slice A12 (l15).length c13, .slice A8 (l17).length c9]) :: (hs7 ++ (hs2 ++ R)) = hp' ∧ b.Le b345) hl349 (e' := [(3, .int .i64 (x216)), (17, .slice A8 (l17).length c9), (18, .int .i64 ((l17.length : Int))), (19, .int .i64 0)]) ⟨rfl, rfl, rfl, rfl, trivial⟩ (.refl _) ⟨rfl, rfl, (Base.Le.refl _)⟩ ?_ ?_
  ·
   rintro k348 x347 b345 _ _ oL218 hknL218 ⟨rfl, rfl, hle346⟩ hstepL218
   unfold mMendSolverBound_L218 at hstepL218
   have hm := hstepL218
   refine c_sr ?_
   refine t_st rfl (st_lss_t rfl rfl (by omega)) ?_
   refine t_ne ?_
   refine c_seq ?_
   refine c_cond_t rfl ?_
   refine c_skip ?_
   refine x_then_normal ?_
   refine c_seq ?_
   refine c_block ?_
   refine c_sr ?_
   obtain ⟨x351, h352, hm⟩ := bindS hm
   obtain ⟨j353, hj354, hx355⟩ := idx_some h352
   obtain ⟨cs356, hs361, P362, P363, hq364, hr357, hcs358, hA359, hlt360, hb365, hho366⟩ := OS.get (sz := 1) rfl (by decide) (h10.le hle346) hx355
   obtain ⟨⟨A367, c368, rfl, h369⟩, rfl⟩ := hr357
   refine t_st rfl (st_index_old j353 rfl rfl hj354 hlt360 hA359 sl35) ?_
   refine t_st rfl (st_load_rd rfl one23 (fun w ho => hcs358 w _ ho (.cons _ (List.sublist_append_left _ _)) 0 _ rfl)) ?_
   refine t_as rfl rfl ?_
   refine t_ne ?_
   refine c_sr ?_
   refine t_as rfl rfl ?_
   refine t_ne ?_
   refine c_seq ?_
   refine c_sr ?_
   refine t_mv rfl rfl ?_
   refine t_st rfl (st_len rfl sl23) ?_
   refine t_mv rfl rfl ?_
   refine t_ne ?_
   refine c_block ?_
   have hb371 : x351.length ≤ 9223372036854775807 := (FZ.bd h369)
   refine c_front2 [_] hs7 hs2 R rfl ?_
   refine c_front2 [_] hs2 hs7 R rfl ?_
   obtain ⟨x397, hl399, hk400⟩ := bindS hm
   refine c_forS (fun k398 => fun x397 => fun b395 e' hp' => [(3, .int .i64 (x347)), (6, .int .i64 (x397)), (17, .slice A8 (l17).length c9), (18, .int .i64 ((l17.length : Int))), (19, .int .i64 ((k348 : Int))), (23, .slice A367 (x351).length c368), (24, .int .i64 ((x351.length : Int))), (25, .int .i64 ((k398 : Int)))] = e' ∧ (g11, Cl 73 [.slice A3 (l16).length c4, .slice A12 (l15).length c13, .slice A8 (l17).length c9]) :: (hs7 ++ (hs2 ++ R)) = hp' ∧ b345.Le b395) hl399 (e' := [(3, .int .i64 (x347)), (6, .int .i64 (0)), (17, .slice A8 (l17).length c9), (18, .int .i64 ((l17.length : Int))), (19, .int .i64 ((k348 : Int))), (23, .slice A367 (x351).length c368), (24, .int .i64 ((x351.length : Int))), (25, .int .i64 0)]) ⟨rfl, rfl, rfl, rfl, rfl, rfl, rfl, rfl, trivial⟩ (.refl _) ⟨rfl, rfl, (Base.Le.refl _)⟩ ?_ ?_
   ·
    rintro k398 x397 b395 _ _ oL370 hknL370 ⟨rfl, rfl, hle396⟩ hstepL370
    unfold mMendSolverBound_L370 at hstepL370
    have hm := hstepL370
    refine c_sr ?_
    refine t_st rfl (st_lss_t rfl rfl (by omega)) ?_
    refine t_ne ?_
    refine c_seq ?_
    refine c_cond_t rfl ?_
    refine c_skip ?_
    refine x_then_normal ?_
    refine c_seq ?_
    refine c_block ?_
    refine c_sr ?_
    obtain ⟨x401, h402, hm⟩ := bindS hm
    obtain ⟨j403, hj404, hx405⟩ := idx_some h402
    obtain ⟨cs406, hr407, hcs408, hA409, hlt410⟩ := FZ.get (sz := 3) rfl (by decide) (h369.le hle396) hx405
    obtain ⟨_, _, rfl, rfl, ⟨_, _, rfl, rfl, rfl⟩⟩ := hr407
    refine t_st rfl (st_index_old j403 rfl rfl hj404 hlt410 hA409 sl23) ?_
    refine t_st rfl (st_loadN_old (vs := [.int .i64 (x401.From), .int .i64 (x401.To), .int .i64 (x401.Len)]) 3 rfl agg34 hA409 rfl (fun j u hu => hcs408 j u hu)) ?_
    refine t_do rfl (u_alloc [.int .i64 0, .int .i64 0, .int .i64 0] zero34 rfl) ?_
    rintro _ _ ⟨g411, rfl, rfl⟩
    refine t_do rfl (u_storeN (vs := [_, _, _]) 0 3 rfl rfl rfl siz34 rfl (mem_c rfl (mem_c rfl (mem_c rfl mem_n))) rfl (by simp)) ?_
    rintro _ _ rfl
    refine t_ne ?_
    refine c_region ?_
    refine t_mv rfl rfl ?_
    refine t_st rfl (st_field rfl fld34_2) ?_
    refine t_st rfl (st_load 0 rfl one3 rfl rfl) ?_
    refine t_st rfl (st_max rfl rfl) ?_
    refine t_as rfl rfl ?_
    refine t_nil ?_
    refine x_block_normal ?_
    refine x_then_normal ?_
    refine c_region ?_
    refine t_st rfl (st_add rfl rfl (by omega)) ?_
    refine t_mv rfl rfl ?_
    refine t_nil ?_
    refine x_pullb 1 rfl ?_
    refine x_front2 [_, _] hs7 hs2 R rfl ?_
    refine x_front2 [_, _] hs2 hs7 R rfl ?_
    obtain rfl := some1 hm
    exact x_againS (e' := [(3, .int .i64 (x347)), (6, .int .i64 (max x397 x401.Len)), (17, .slice A8 (l17).length c9), (18, .int .i64 ((l17.length : Int))), (19, .int .i64 ((k348 : Int))), (23, .slice A367 (x351).length c368), (24, .int .i64 ((x351.length : Int))), (25, .int .i64 ((k398 : Int) + 1))]) ⟨rfl, rfl, rfl, rfl, rfl, rfl, rfl, rfl, trivial⟩ (.cons_cons _ (.cons _ (.refl _))) ⟨rfl, rfl, (hle396)⟩
   ·
    rintro b395 _ _ ⟨rfl, rfl, hle396⟩
    have hm := hk400
    refine c_sr ?_
    refine t_st rfl (st_lss_f rfl rfl (by omega)) ?_
    refine t_ne ?_
    refine c_seq ?_
    refine c_cond_f rfl ?_
    refine c_exit ?_
    refine x_then_exit ?_
    refine x_then_exit ?_
    refine x_block_out ?_
    refine x_then_normal ?_
    refine c_region ?_
    refine t_mv rfl rfl ?_
    refine t_mv rfl rfl ?_
    obtain ⟨_, h412, hm⟩ := bindS hm
    have h412 := (chk_some h412).2
    refine t_st rfl (st_add rfl rfl h412) ?_
    refine t_as rfl rfl ?_
    refine t_nil ?_
    refine x_block_normal ?_
    refine x_then_normal ?_
    refine c_region ?_
    refine t_st rfl (st_add rfl rfl (by omega)) ?_
    refine t_mv rfl rfl ?_
    refine t_nil ?_
    refine x_front2 [_] hs7 hs2 R rfl ?_
    refine x_front2 [_] hs2 hs7 R rfl ?_
    obtain rfl := some1 hm
    exact x_againS (e' := [(3, .int .i64 (x347 + x397)), (17, .slice A8 (l17).length c9), (18, .int .i64 ((l17.length : Int))), (19, .int .i64 ((k348 : Int) + 1))]) ⟨rfl, rfl, rfl, rfl, trivial⟩ (.refl _) ⟨rfl, rfl, ((hle346.trans hle396))⟩
  ·
   rintro b345 _ _ ⟨rfl, rfl, hle346⟩
   have hm := hk350
   refine c_sr ?_
   refine t_st rfl (st_lss_f rfl rfl (by omega)) ?_
   refine t_ne ?_
   refine c_seq ?_
   refine c_cond_f rfl ?_
   refine c_exit ?_
   refine x_then_exit ?_
   refine x_then_exit ?_
   refine x_block_out ?_
   refine x_then_normal ?_
   refine c_sr ?_
   refine t_mv rfl rfl ?_
   refine t_as rfl rfl ?_
   refine t_ne ?_
   refine c_ret ?_
   obtain rfl := some1 hm
   refine x_front2 [_] hs7 hs2 R rfl ?_
   exact retM (rs := [.tmp 2]) [.int .i64 (x347)] hle346 (by decide) rfl ⟨rfl, trivial⟩ rfl (.refl _) ⟨rfl, rfl⟩

set_option maxRecDepth 20000 in
theorem cMendSolverWith_1_2 (b : Base) (R : Hp) (s32 : MendArc) (x33 : Bool) (l37 : (List Int)) (l38 : (List Int)) (l39 : (List Bool)) (l40 : (List Int)) (l41 : (List Int)) (l42 : (List (List MendArc))) (g26 : Nat) (g27 : Nat) (g28 : Nat) (g29 : Nat) (g30 : Nat) (g31 : Nat) (A34 : Option Addr) (c35 : Nat) (A3 : Option Addr) (c4 : Nat) (hs2 : Hp) (A8 : Option Addr) (c9 : Nat) (hs7 : Hp) (A13 : Option Addr) (c14 : Nat) (hs12 : Hp) (A18 : Option Addr) (c19 : Nat) (hs17 : Hp) (A23 : Option Addr) (c24 : Nat) (hs22 : Hp) (h36 : FZ (RT.int .i64) b.w A34 c35 l37) (h5 : OS 3 (OT.fr (RT.int .i64)) b.w (.slice A3 l38.length c4) l38 hs2) (h10 : OS 4 (OT.fr RT.bool) b.w (.slice A8 l39.length c9) l39 hs7) (h15 : OS 3 (OT.fr (RT.int .i64)) b.w (.slice A13 l40.length c14) l40 hs12) (h20 : OS 3 (OT.fr (RT.int .i64)) b.w (.slice A18 l41.length c19) l41 hs17) (h25 : OS 23 (OT.fr (RT.list rMendArc)) b.w (.slice A23 l42.length c24) l42 hs22) (x469 : Bool) (l470 : (List Int)) (l472 : (List Bool)) (l474 : (List Int)) (l475 : (List Int)) (hm : mMendSolverWith_1_2 s32 x33 l37 l38 l39 l40 l41 l42 = some (x469, l470, l472, l474, l475)) :
    CallsG Try.prog 61 [.agg #[.int .i64 (s32.From), .int .i64 (s32.To), .int .i64 (s32.Len)], .pointer (some ⟨g26, 0, none⟩), .pointer (some ⟨g27, 0, none⟩), .pointer (some ⟨g28, 0, none⟩), .pointer (some ⟨g29, 0, none⟩), .pointer (some ⟨g30, 0, none⟩)] b ((g26, Cl 69 [.pointer (some ⟨g31, 0, none⟩)]) :: (g27, Cl 22 [.slice A3 (l38).length c4]) :: (g28, Cl 4 [.bool (x33)]) :: (g29, Cl 88 [.slice A8 (l39).length c9]) :: (g30, Cl 22 [.slice A13 (l40).length c14]) :: (g31, Cl 73 [.slice A18 (l41).length c19, .slice A34 (l37).length c35, .slice A23 (l42).length c24]) :: (hs2 ++ (hs7 ++ (hs12 ++ (hs17 ++ (hs22 ++ R)))))) (fun v b' hp' => ∃ (hs456 : Hp), ∃ (hs459 : Hp), ∃ (A463 : Option Addr), ∃ (c464 : Nat), ∃ (hs462 : Hp), ∃ (hs467 : Hp), .tuple #[] = v ∧ (g26, Cl 69 [.pointer (some ⟨g31, 0, none⟩)]) :: (g27, Cl 22 [.slice A3 (l470).length c4]) :: (g28, Cl 4 [.bool (x469)]) :: (g29, Cl 88 [.slice A8 (l472).length c9]) :: (g30, Cl 22 [.slice A463 (l474).length c464]) :: (g31, Cl 73 [.slice A18 (l475).length c19, .slice A34 (l37).length c35, .slice A23 (l42).length c24]) :: (hs456 ++ (hs459 ++ (hs462 ++ (hs467 ++ (hs22 ++ R))))) = hp' ∧ OS 3 (OT.fr (RT.int .i64)) b'.w (.slice A3 l470.length c4) l470 hs456 ∧ l470.length = l38.length ∧ OS 4 (OT.fr RT.bool) b'.w (.slice A8 l472.length c9) l472 hs459 ∧ l472.length = l39.length ∧ OS 3 (OT.fr (RT.int .i64)) b'.w (.slice A463 l474.length c464) l474 hs462 ∧ OS 3 (OT.fr (RT.int .i64)) b'.w (.slice A18 l475.length c19) l475 hs467 ∧ l475.length = l41.length) := by
  refine fn_enterG 95 Try.func61 rfl Try.ntmps61 rfl ?_
  unfold mMendSolverWith_1_2 at hm
  refine c_sr ?_
  refine t_do rfl (u_box _ rfl rfl) ?_
  rintro _ _ ⟨g477, rfl, rfl⟩
  refine t_ne ?_
  refine c_seq ?_
  obtain ⟨x495, h496, hm⟩ := bindS hm
  obtain ⟨_, h511, hm⟩ := bindS hm
  refine D_drawI mixed (.refl _) ?_
  refine E_st 0 rfl (st_load 1 rfl one69 rfl rfl) ?_
  refine E_st 1 rfl (st_nil rfl) ?_
  refine E_st 2 rfl (st_field rfl fld73_0) ?_
  refine E_st 3 rfl (st_load 6 rfl one22 rfl rfl) ?_
  refine E_st 4 rfl (st_field rfl fld34_0) ?_
  refine E_st 5 rfl (st_load 0 rfl one3 rfl rfl) ?_
  obtain ⟨j497, hj498, hx499⟩ := idx_some h496
  obtain ⟨cs500, hs505, P506, P507, hq508, hr501, hcs502, hA503, hlt504, hb509, hho510⟩ := OS.get (sz := 1) rfl (by decide) h20 hx499
  obtain ⟨rfl, rfl⟩ := hr501
  refine E_st 6 rfl (st_index_old j497 rfl rfl hj498 hlt504 hA503 sl22) ?_
  refine E_st 7 rfl (st_load_rd rfl one3 (fun w ho => hcs502 w _ ho (.cons _ (.cons _ (.cons _ (.cons _ (.cons _ (.cons _ (.cons _ (sub_skip hs2 (sub_skip hs7 (sub_skip hs12 (List.sublist_append_left _ _))))))))))) 0 _ rfl)) ?_
  refine E_st 8 rfl (st_field rfl fld34_2) ?_
  refine E_st 9 rfl (st_load 0 rfl one3 rfl rfl) ?_
  have h511 := (chk_some h511).2
  refine E_st 10 rfl (st_add rfl rfl h511) ?_
  refine E_st 11 rfl (st_assign rfl) ?_
  refine E_out ?_
  refine D_done (by kernel_rfl) ?_
  refine x_then_normal ?_
  refine c_seq ?_
  refine c_seq ?_
  obtain ⟨x528, h529, hm⟩ := bindS hm
  refine D_drawI mixed (.refl _) ?_
  refine E_st 0 rfl (st_move rfl) ?_
  refine E_st 1 rfl (st_load 1 rfl one69 rfl rfl) ?_
  refine E_st 2 rfl (st_nil rfl) ?_
  refine E_st 3 rfl (st_field rfl fld73_0) ?_
  refine E_st 4 rfl (st_load 6 rfl one22 rfl rfl) ?_
  refine E_st 5 rfl (st_field rfl fld34_1) ?_
  refine E_st 6 rfl (st_load 0 rfl one3 rfl rfl) ?_
  obtain ⟨j530, hj531, hx532⟩ := idx_some h529
  obtain ⟨cs533, hs538, P539, P540, hq541, hr534, hcs535, hA536, hlt537, hb542, hho543⟩ := OS.get (sz := 1) rfl (by decide) h20 hx532
  obtain ⟨rfl, rfl⟩ := hr534
  refine E_st 7 rfl (st_index_old j530 rfl rfl hj531 hlt537 hA536 sl22) ?_
  refine E_st 8 rfl (st_load_rd rfl one3 (fun w ho => hcs535 w _ ho (.cons _ (.cons _ (.cons _ (.cons _ (.cons _ (.cons _ (.cons _ (sub_skip hs2 (sub_skip hs7 (sub_skip hs12 (List.sublist_append_left _ _))))))))))) 0 _ rfl)) ?_
  refine E_st 9 rfl (st_leq rfl rfl) ?_
  refine E_out ?_
  refine D_done (by kernel_rfl) ?_
  refine x_then_normal ?_
  refine c_cond _ rfl (fun hc544 => ?_) (fun hc544 => ?_)
  ·
   rw [if_pos (of_decide_eq_true hc544)] at hm
   refine c_ret ?_
   refine x_then_ret ?_
   obtain ⟨rfl, rfl, rfl, rfl, rfl⟩ := some5 hm
   refine x_pullb 6 rfl ?_
   refine x_pullb 6 rfl ?_
   refine x_pullb 6 rfl ?_
   refine x_pullb 6 rfl ?_
   refine x_pullb 6 rfl ?_
   refine x_pullb 6 rfl ?_
   refine x_front5 [_, _, _, _, _, _, _] hs2 hs7 hs12 hs17 hs22 R rfl ?_
   refine x_front5 [_, _, _, _, _, _, _] hs22 hs2 hs7 hs12 hs17 R rfl ?_
   refine x_front5 [_, _, _, _, _, _, _] hs17 hs22 hs2 hs7 hs12 R rfl ?_
   refine x_front5 [_, _, _, _, _, _, _] hs12 hs17 hs22 hs2 hs7 R rfl ?_
   refine x_front5 [_, _, _, _, _, _, _] hs7 hs12 hs17 hs22 hs2 R rfl ?_
   exact retM (rs := []) [] (Base.Le.refl _) (by decide) rfl trivial rfl (.cons_cons _ (.cons_cons _ (.cons_cons _ (.cons_cons _ (.cons_cons _ (.cons_cons _ (.cons _ (.refl _)))))))) ⟨hs2, hs7, A13, c14, hs12, hs17, rfl, rfl, h5, rfl, h10, rfl, h15, h20, rfl⟩
  ·
   rw [if_neg (of_decide_eq_false hc544)] at hm
   refine c_skip ?_
   refine x_then_normal ?_
   refine c_seq ?_
   obtain ⟨x563, h564, hm⟩ := bindS hm
   refine c_front4 [_, _, _, _, _, _, _] hs2 hs7 hs12 hs17 (hs22 ++ R) rfl ?_
   refine D_drawI mixed (.refl _) ?_
   refine E_st 0 rfl (st_load 1 rfl one69 rfl rfl) ?_
   refine E_st 1 rfl (st_nil rfl) ?_
   refine E_st 2 rfl (st_field rfl fld73_0) ?_
   refine E_st 3 rfl (st_load 6 rfl one22 rfl rfl) ?_
   refine E_st 4 rfl (st_field rfl fld34_1) ?_
   refine E_st 5 rfl (st_load 0 rfl one3 rfl rfl) ?_
   refine E_st 6 rfl (st_move rfl) ?_
   obtain ⟨j565, hj566, hx567⟩ := idx_some h564
   obtain ⟨cs568, hs573, P574, P575, hq576, hr569, hcs570, hA571, hlt572, hb577, hho578⟩ := OS.get (sz := 1) rfl (by decide) h20 hx567
   obtain ⟨rfl, rfl⟩ := hr569
   refine E_st 7 rfl (st_index_old j565 rfl rfl hj566 hlt572 hA571 sl22) ?_
   refine E_out ?_
   refine D_all [8] (by kernel_rfl) rfl ?_
   refine R_do (Base.Le.refl _) rfl rfl (u_putOS hj566 (sz := 1) (a' := x495 + s32.Len) rfl [_, _, _, _, _, _, _] (hs2 ++ (hs7 ++ (hs12 ++ (hs22 ++ R)))) 0 1 [.int .i64 (x495 + s32.Len)] rfl h20 hx567 rfl rfl rfl siz3 rfl (mem_c rfl mem_n) (fun cs hsj hh => by obtain ⟨rfl, rfl⟩ := hh; exact ⟨by decide, rfl, rfl⟩)) ?_ ?_
   ·
    rintro _ _ ⟨hs579, rfl, h580⟩
    refine ⟨.inl (by kernel_rfl), ?_⟩
    refine d_hresp 6 rfl (o' := Cl 73 [.slice A18 (put l41 s32.To (x495 + s32.Len)).length c19, .slice A34 (l37).length c35, .slice A23 (l42).length c24]) (by simp only [put_length]) ?_
    refine D_done (by kernel_rfl) ?_
    refine x_then_normal ?_
    refine c_sr ?_
    refine t_st rfl (st_load 2 rfl one22 rfl rfl) ?_
    refine t_st rfl (st_field rfl fld34_1) ?_
    refine t_st rfl (st_load 0 rfl one3 rfl rfl) ?_
    obtain ⟨x581, h582, hm⟩ := bindS hm
    obtain ⟨j583, hj584, hx585⟩ := idx_some h582
    obtain ⟨cs586, hs591, P592, P593, hq594, hr587, hcs588, hA589, hlt590, hb595, hho596⟩ := OS.get (sz := 1) rfl (by decide) h5 hx585
    obtain ⟨rfl, rfl⟩ := hr587
    refine t_st rfl (st_index_old j583 rfl rfl hj584 hlt590 hA589 sl22) ?_
    refine t_st rfl (st_load_rd rfl one3 (fun w ho => hcs588 w _ ho (.cons _ (.cons _ (.cons _ (.cons _ (.cons _ (.cons _ (.cons _ (sub_skip hs579 (List.sublist_append_left _ _))))))))) 0 _ rfl)) ?_
    obtain ⟨_, h597, hm⟩ := bindS hm
    have h597 := (chk_some h597).2
    refine t_st rfl (st_add rfl rfl h597) ?_
    obtain ⟨x598, h599, hm⟩ := bindS hm
    obtain ⟨j600, hj601, hx602⟩ := idx_some h599
    obtain ⟨cs603, hs608, P609, P610, hq611, hr604, hcs605, hA606, hlt607, hb612, hho613⟩ := OS.get (sz := 1) rfl (by decide) h5 hx602
    obtain ⟨rfl, rfl⟩ := hr604
    refine t_st rfl (st_index_old j600 rfl rfl hj601 hlt607 hA606 sl22) ?_
    refine t_front2 [_, _, _, _, _, _, _] hs579 hs2 (hs7 ++ (hs12 ++ (hs22 ++ R))) rfl ?_
    refine t_do rfl (u_putOS hj601 (sz := 1) (a' := x581 + 1) rfl [_, _, _, _, _, _, _] (hs579 ++ (hs7 ++ (hs12 ++ (hs22 ++ R)))) 0 1 [.int .i64 (x581 + 1)] rfl h5 hx602 rfl rfl rfl siz3 rfl (mem_c rfl mem_n) (fun cs hsj hh => by obtain ⟨rfl, rfl⟩ := hh; exact ⟨by decide, rfl, rfl⟩)) ?_
    rintro _ _ ⟨hs614, rfl, h615⟩
    refine t_hresp 2 rfl (o' := Cl 22 [.slice A3 (put l38 s32.To (x581 + 1)).length c4]) (by simp only [put_length]) ?_
    refine t_ne ?_
    obtain ⟨x732, hj733, hk733⟩ := bindS hm
    refine c_join (fun b730 e' hp' => [(4, .pointer (some ⟨g29, 0, none⟩)), (5, .pointer (some ⟨g30, 0, none⟩)), (6, .pointer (some ⟨g477, 0, none⟩))] = e' ∧ (g29, Cl 88 [.slice A8 (l39).length c9]) :: (g30, Cl 22 [.slice A13 (l40).length c14]) :: (g477, Cl 34 [.int .i64 (s32.From), .int .i64 (s32.To), .int .i64 (s32.Len)]) :: (g26, Cl 69 [.pointer (some ⟨g31, 0, none⟩)]) :: (g27, Cl 22 [.slice A3 (put l38 s32.To (x581 + 1)).length c4]) :: (g28, Cl 4 [.bool (x732)]) :: (g31, Cl 73 [.slice A18 (put l41 s32.To (x495 + s32.Len)).length c19, .slice A34 (l37).length c35, .slice A23 (l42).length c24]) :: (hs614 ++ (hs7 ++ (hs12 ++ (hs579 ++ (hs22 ++ R))))) = hp' ∧ b.Le b730) ?_ ?_
    ·
     have hm := hj733
     rcases Bool.eq_false_or_eq_true x33 with hc791 | hc791
     ·
      rw [if_pos hc791] at hm
      obtain ⟨x792, h793, hm⟩ := bindS hm
      by_cases hc802 : x792 < 0
      ·
       rw [if_pos hc802] at hm
       by_cases hc803 : (x495 + s32.Len) ≤ 1099511627776
       ·
        rw [if_pos hc803] at hm
        obtain ⟨x804, h805, hm⟩ := bindS hm
        refine D_drawI mixed (.refl _) ?_
        refine E_st 0 rfl (stB (st_load 3 rfl one4 rfl rfl) hc791) ?_
        refine E_st 1 rfl (st_move rfl) ?_
        refine E_yes 2 45 rfl (st_load 1 rfl one69 rfl rfl) ?_
        refine E_yes 3 45 rfl (st_nil rfl) ?_
        refine E_yes 4 45 rfl (st_field rfl fld73_1) ?_
        refine E_yes 5 45 rfl (st_load 6 rfl one22 rfl rfl) ?_
        refine E_yes 6 45 rfl (st_field rfl fld34_1) ?_
        refine E_yes 7 45 rfl (st_load 0 rfl one3 rfl rfl) ?_
        obtain ⟨j794, hj795, hx796⟩ := idx_some h793
        obtain ⟨cs797, hr798, hcs799, hA800, hlt801⟩ := FZ.get (sz := 1) rfl (by decide) h36 hx796
        obtain rfl := hr798
        refine E_yes 8 45 rfl (st_index_old j794 rfl rfl hj795 hlt801 hA800 sl22) ?_
        refine E_yes 9 45 rfl (st_load_old rfl one3 (hcs799 0 _ rfl)) ?_
        refine E_yes 10 45 rfl (st_lss_t rfl rfl hc802) ?_
        refine E_yes 11 45 rfl (st_move rfl) ?_
        refine E_no 12 55 rfl rfl rfl ?_
        refine E_no 13 55 rfl rfl rfl ?_
        refine E_no 14 55 rfl rfl rfl ?_
        refine E_no 15 55 rfl rfl rfl ?_
        refine E_no 16 55 rfl rfl rfl ?_
        refine E_no 17 55 rfl rfl rfl ?_
        refine E_no 18 55 rfl rfl rfl ?_
        refine E_no 19 55 rfl rfl rfl ?_
        refine E_no 20 55 rfl rfl rfl ?_
        refine E_no 21 55 rfl rfl rfl ?_
        refine E_yes 22 45 rfl (st_pick_t rfl rfl) ?_
        refine E_st 23 rfl (st_pick_t rfl rfl) ?_
        refine E_st 24 rfl (st_move rfl) ?_
        refine E_yes 25 68 rfl (st_move rfl) ?_
        refine E_yes 26 68 rfl (st_leq_t rfl rfl hc803) ?_
        refine E_st 27 rfl (st_pick_t rfl rfl) ?_
        refine E_st 28 rfl (st_move rfl) ?_
        refine E_yes 29 72 rfl (st_load 2 rfl one22 rfl rfl) ?_
        refine E_yes 30 72 rfl (st_field rfl fld34_1) ?_
        refine E_yes 31 72 rfl (st_load 0 rfl one3 rfl rfl) ?_
        obtain ⟨j806, hj807, hx808⟩ := idx_some h805
        obtain ⟨cs809, hs814, P815, P816, hq817, hr810, hcs811, hA812, hlt813, hb818, hho819⟩ := OS.get (sz := 1) rfl (by decide) h615 hx808
        obtain ⟨rfl, rfl⟩ := hr810
        refine E_yes 32 72 rfl (st_index_old j806 rfl rfl hj807 hlt813 hA812 sl22) ?_
        refine E_yes 33 72 rfl (st_load_rd rfl one3 (fun w ho => hcs811 w _ ho (.cons _ (.cons _ (.cons _ (.cons _ (.cons _ (.cons _ (.cons _ (List.sublist_append_left _ _)))))))) 0 _ rfl)) ?_
        refine E_yes 34 72 rfl (st_leq rfl rfl) ?_
        refine E_st 35 rfl (st_pick_t rfl rfl) ?_
        refine E_out ?_
        refine D_all [36] (by kernel_rfl) rfl ?_
        refine R_do (Base.Le.refl _) rfl rfl (u_store 3 rfl rfl siz4 rfl rfl (by simp)) ?_ ?_
        ·
         rintro _ _ rfl
         refine ⟨.inl (by kernel_rfl), ?_⟩
         refine D_done (by kernel_rfl) ?_
         obtain rfl := some1 hm
         refine x_pullb 6 rfl ?_
         refine x_pullb 4 rfl ?_
         refine x_pullb 4 rfl ?_
         refine x_pullb 4 rfl ?_
         refine x_pullb 4 rfl ?_
         refine x_pullb 6 rfl ?_
         refine x_pullb 6 rfl ?_
         refine x_front5 [_, _, _, _, _, _, _] hs614 hs579 hs7 hs12 hs22 R rfl ?_
         refine x_front3 [_, _, _, _, _, _, _] hs22 hs614 hs579 (hs7 ++ (hs12 ++ R)) rfl ?_
         refine x_front5 [_, _, _, _, _, _, _] hs579 hs22 hs614 hs7 hs12 R rfl ?_
         refine x_front5 [_, _, _, _, _, _, _] hs12 hs579 hs22 hs614 hs7 R rfl ?_
         refine x_front5 [_, _, _, _, _, _, _] hs7 hs12 hs579 hs22 hs614 R rfl ?_
         exact x_join (e' := [(4, .pointer (some ⟨g29, 0, none⟩)), (5, .pointer (some ⟨g30, 0, none⟩)), (6, .pointer (some ⟨g477, 0, none⟩))]) ⟨rfl, rfl, rfl, trivial⟩ (.refl _) ⟨rfl, rfl, (Base.Le.refl _)⟩
        exact R_nil
       ·
        rw [if_neg hc803] at hm
        refine D_drawI mixed (.refl _) ?_
        refine E_st 0 rfl (stB (st_load 3 rfl one4 rfl rfl) hc791) ?_
        refine E_st 1 rfl (st_move rfl) ?_
        refine E_yes 2 45 rfl (st_load 1 rfl one69 rfl rfl) ?_
        refine E_yes 3 45 rfl (st_nil rfl) ?_
        refine E_yes 4 45 rfl (st_field rfl fld73_1) ?_
        refine E_yes 5 45 rfl (st_load 6 rfl one22 rfl rfl) ?_
        refine E_yes 6 45 rfl (st_field rfl fld34_1) ?_
        refine E_yes 7 45 rfl (st_load 0 rfl one3 rfl rfl) ?_
        obtain ⟨j794, hj795, hx796⟩ := idx_some h793
        obtain ⟨cs797, hr798, hcs799, hA800, hlt801⟩ := FZ.get (sz := 1) rfl (by decide) h36 hx796
        obtain rfl := hr798
        refine E_yes 8 45 rfl (st_index_old j794 rfl rfl hj795 hlt801 hA800 sl22) ?_
        refine E_yes 9 45 rfl (st_load_old rfl one3 (hcs799 0 _ rfl)) ?_
        refine E_yes 10 45 rfl (st_lss_t rfl rfl hc802) ?_
        refine E_yes 11 45 rfl (st_move rfl) ?_
        refine E_no 12 55 rfl rfl rfl ?_
        refine E_no 13 55 rfl rfl rfl ?_
        refine E_no 14 55 rfl rfl rfl ?_
        refine E_no 15 55 rfl rfl rfl ?_
        refine E_no 16 55 rfl rfl rfl ?_
        refine E_no 17 55 rfl rfl rfl ?_
        refine E_no 18 55 rfl rfl rfl ?_
        refine E_no 19 55 rfl rfl rfl ?_
        refine E_no 20 55 rfl rfl rfl ?_
        refine E_no 21 55 rfl rfl rfl ?_
        refine E_yes 22 45 rfl (st_pick_t rfl rfl) ?_
        refine E_st 23 rfl (st_pick_t rfl rfl) ?_
        refine E_st 24 rfl (st_move rfl) ?_
        refine E_yes 25 68 rfl (st_move rfl) ?_
        refine E_yes 26 68 rfl (st_leq_f rfl rfl hc803) ?_
        refine E_st 27 rfl (st_pick_t rfl rfl) ?_
        refine E_st 28 rfl (st_move rfl) ?_
        refine E_no 29 72 rfl rfl rfl ?_
        refine E_no 30 72 rfl rfl rfl ?_
        refine E_no 31 72 rfl rfl rfl ?_
        refine E_no 32 72 rfl rfl rfl ?_
        refine E_no 33 72 rfl rfl rfl ?_
        refine E_no 34 72 rfl rfl rfl ?_
        refine E_st 35 rfl (st_pick_f rfl rfl) ?_
        refine E_out ?_
        refine D_all [36] (by kernel_rfl) rfl ?_
        refine R_do (Base.Le.refl _) rfl rfl (u_store 3 rfl rfl siz4 rfl rfl (by simp)) ?_ ?_
        ·
         rintro _ _ rfl
         refine ⟨.inl (by kernel_rfl), ?_⟩
         refine D_done (by kernel_rfl) ?_
         obtain rfl := some1 hm
         refine x_pullb 6 rfl ?_
         refine x_pullb 4 rfl ?_
         refine x_pullb 4 rfl ?_
         refine x_pullb 4 rfl ?_
         refine x_pullb 4 rfl ?_
         refine x_pullb 6 rfl ?_
         refine x_pullb 6 rfl ?_
         refine x_front5 [_, _, _, _, _, _, _] hs614 hs579 hs7 hs12 hs22 R rfl ?_
         refine x_front3 [_, _, _, _, _, _, _] hs22 hs614 hs579 (hs7 ++ (hs12 ++ R)) rfl ?_
         refine x_front5 [_, _, _, _, _, _, _] hs579 hs22 hs614 hs7 hs12 R rfl ?_
         refine x_front5 [_, _, _, _, _, _, _] hs12 hs579 hs22 hs614 hs7 R rfl ?_
         refine x_front5 [_, _, _, _, _, _, _] hs7 hs12 hs579 hs22 hs614 R rfl ?_
         exact x_join (e' := [(4, .pointer (some ⟨g29, 0, none⟩)), (5, .pointer (some ⟨g30, 0, none⟩)), (6, .pointer (some ⟨g477, 0, none⟩))]) ⟨rfl, rfl, rfl, trivial⟩ (.refl _) ⟨rfl, rfl, (Base.Le.refl _)⟩
        exact R_nil
      ·
       rw [if_neg hc802] at hm
       obtain ⟨x820, h821, hm⟩ := bindS hm
       by_cases hc830 : (x495 + s32.Len) ≤ x820
       ·
        rw [if_pos hc830] at hm
        by_cases hc831 : (x495 + s32.Len) ≤ 1099511627776
        ·
         rw [if_pos hc831] at hm
         obtain ⟨x832, h833, hm⟩ := bindS hm
         refine D_drawI mixed (.refl _) ?_
         refine E_st 0 rfl (stB (st_load 3 rfl one4 rfl rfl) hc791) ?_
         refine E_st 1 rfl (st_move rfl) ?_
         refine E_yes 2 45 rfl (st_load 1 rfl one69 rfl rfl) ?_
         refine E_yes 3 45 rfl (st_nil rfl) ?_
         refine E_yes 4 45 rfl (st_field rfl fld73_1) ?_
         refine E_yes 5 45 rfl (st_load 6 rfl one22 rfl rfl) ?_
         refine E_yes 6 45 rfl (st_field rfl fld34_1) ?_
         refine E_yes 7 45 rfl (st_load 0 rfl one3 rfl rfl) ?_
         obtain ⟨j794, hj795, hx796⟩ := idx_some h793
         obtain ⟨cs797, hr798, hcs799, hA800, hlt801⟩ := FZ.get (sz := 1) rfl (by decide) h36 hx796
         obtain rfl := hr798
         refine E_yes 8 45 rfl (st_index_old j794 rfl rfl hj795 hlt801 hA800 sl22) ?_
         refine E_yes 9 45 rfl (st_load_old rfl one3 (hcs799 0 _ rfl)) ?_
         refine E_yes 10 45 rfl (st_lss_f rfl rfl hc802) ?_
         refine E_yes 11 45 rfl (st_move rfl) ?_
         refine E_yes 12 55 rfl (st_move rfl) ?_
         refine E_yes 13 55 rfl (st_load 1 rfl one69 rfl rfl) ?_
         refine E_yes 14 55 rfl (st_nil rfl) ?_
         refine E_yes 15 55 rfl (st_field rfl fld73_1) ?_
         refine E_yes 16 55 rfl (st_load 6 rfl one22 rfl rfl) ?_
         refine E_yes 17 55 rfl (st_field rfl fld34_1) ?_
         refine E_yes 18 55 rfl (st_load 0 rfl one3 rfl rfl) ?_
         obtain ⟨j822, hj823, hx824⟩ := idx_some h821
         obtain ⟨cs825, hr826, hcs827, hA828, hlt829⟩ := FZ.get (sz := 1) rfl (by decide) h36 hx824
         obtain rfl := hr826
         refine E_yes 19 55 rfl (st_index_old j822 rfl rfl hj823 hlt829 hA828 sl22) ?_
         refine E_yes 20 55 rfl (st_load_old rfl one3 (hcs827 0 _ rfl)) ?_
         refine E_yes 21 55 rfl (st_leq_t rfl rfl hc830) ?_
         refine E_yes 22 45 rfl (st_pick_f rfl rfl) ?_
         refine E_st 23 rfl (st_pick_t rfl rfl) ?_
         refine E_st 24 rfl (st_move rfl) ?_
         refine E_yes 25 68 rfl (st_move rfl) ?_
         refine E_yes 26 68 rfl (st_leq_t rfl rfl hc831) ?_
         refine E_st 27 rfl (st_pick_t rfl rfl) ?_
         refine E_st 28 rfl (st_move rfl) ?_
         refine E_yes 29 72 rfl (st_load 2 rfl one22 rfl rfl) ?_
         refine E_yes 30 72 rfl (st_field rfl fld34_1) ?_
         refine E_yes 31 72 rfl (st_load 0 rfl one3 rfl rfl) ?_
         obtain ⟨j834, hj835, hx836⟩ := idx_some h833
         obtain ⟨cs837, hs842, P843, P844, hq845, hr838, hcs839, hA840, hlt841, hb846, hho847⟩ := OS.get (sz := 1) rfl (by decide) h615 hx836
         obtain ⟨rfl, rfl⟩ := hr838
         refine E_yes 32 72 rfl (st_index_old j834 rfl rfl hj835 hlt841 hA840 sl22) ?_
         refine E_yes 33 72 rfl (st_load_rd rfl one3 (fun w ho => hcs839 w _ ho (.cons _ (.cons _ (.cons _ (.cons _ (.cons _ (.cons _ (.cons _ (List.sublist_append_left _ _)))))))) 0 _ rfl)) ?_
         refine E_yes 34 72 rfl (st_leq rfl rfl) ?_
         refine E_st 35 rfl (st_pick_t rfl rfl) ?_
         refine E_out ?_
         refine D_all [36] (by kernel_rfl) rfl ?_
         refine R_do (Base.Le.refl _) rfl rfl (u_store 3 rfl rfl siz4 rfl rfl (by simp)) ?_ ?_
         ·
          rintro _ _ rfl
          refine ⟨.inl (by kernel_rfl), ?_⟩
          refine D_done (by kernel_rfl) ?_
          obtain rfl := some1 hm
          refine x_pullb 6 rfl ?_
          refine x_pullb 4 rfl ?_
          refine x_pullb 4 rfl ?_
          refine x_pullb 4 rfl ?_
          refine x_pullb 4 rfl ?_
          refine x_pullb 6 rfl ?_
          refine x_pullb 6 rfl ?_
          refine x_front5 [_, _, _, _, _, _, _] hs614 hs579 hs7 hs12 hs22 R rfl ?_
          refine x_front3 [_, _, _, _, _, _, _] hs22 hs614 hs579 (hs7 ++ (hs12 ++ R)) rfl ?_
          refine x_front5 [_, _, _, _, _, _, _] hs579 hs22 hs614 hs7 hs12 R rfl ?_
          refine x_front5 [_, _, _, _, _, _, _] hs12 hs579 hs22 hs614 hs7 R rfl ?_
          refine x_front5 [_, _, _, _, _, _, _] hs7 hs12 hs579 hs22 hs614 R rfl ?_
          exact x_join (e' := [(4, .pointer (some ⟨g29, 0, none⟩)), (5, .pointer (some ⟨g30, 0, none⟩)), (6, .pointer (some ⟨g477, 0, none⟩))]) ⟨rfl, rfl, rfl, trivial⟩ (.refl _) ⟨rfl, rfl, (Base.Le.refl _)⟩
         exact R_nil
        ·
         rw [if_neg hc831] at hm
         refine D_drawI mixed (.refl _) ?_
         refine E_st 0 rfl (stB (st_load 3 rfl one4 rfl rfl) hc791) ?_
         refine E_st 1 rfl (st_move rfl) ?_
         refine E_yes 2 45 rfl (st_load 1 rfl one69 rfl rfl) ?_
         refine E_yes 3 45 rfl (st_nil rfl) ?_
         refine E_yes 4 45 rfl (st_field rfl fld73_1) ?_
         refine E_yes 5 45 rfl (st_load 6 rfl one22 rfl rfl) ?_
         refine E_yes 6 45 rfl (st_field rfl fld34_1) ?_
         refine E_yes 7 45 rfl (st_load 0 rfl one3 rfl rfl) ?_
         obtain ⟨j794, hj795, hx796⟩ := idx_some h793
         obtain ⟨cs797, hr798, hcs799, hA800, hlt801⟩ := FZ.get (sz := 1) rfl (by decide) h36 hx796
         obtain rfl := hr798
         refine E_yes 8 45 rfl (st_index_old j794 rfl rfl hj795 hlt801 hA800 sl22) ?_
         refine E_yes 9 45 rfl (st_load_old rfl one3 (hcs799 0 _ rfl)) ?_
         refine E_yes 10 45 rfl (st_lss_f rfl rfl hc802) ?_
         refine E_yes 11 45 rfl (st_move rfl) ?_
         refine E_yes 12 55 rfl (st_move rfl) ?_
         refine E_yes 13 55 rfl (st_load 1 rfl one69 rfl rfl) ?_
         refine E_yes 14 55 rfl (st_nil rfl) ?_
         refine E_yes 15 55 rfl (st_field rfl fld73_1) ?_
         refine E_yes 16 55 rfl (st_load 6 rfl one22 rfl rfl) ?_
         refine E_yes 17 55 rfl (st_field rfl fld34_1) ?_
         refine E_yes 18 55 rfl (st_load 0 rfl one3 rfl rfl) ?_
         obtain ⟨j822, hj823, hx824⟩ := idx_some h821
         obtain ⟨cs825, hr826, hcs827, hA828, hlt829⟩ := FZ.get (sz := 1) rfl (by decide) h36 hx824
         obtain rfl := hr826
         refine E_yes 19 55 rfl (st_index_old j822 rfl rfl hj823 hlt829 hA828 sl22) ?_
         refine E_yes 20 55 rfl (st_load_old rfl one3 (hcs827 0 _ rfl)) ?_
         refine E_yes 21 55 rfl (st_leq_t rfl rfl hc830) ?_
         refine E_yes 22 45 rfl (st_pick_f rfl rfl) ?_
         refine E_st 23 rfl (st_pick_t rfl rfl) ?_
         refine E_st 24 rfl (st_move rfl) ?_
         refine E_yes 25 68 rfl (st_move rfl) ?_
         refine E_yes 26 68 rfl (st_leq_f rfl rfl hc831) ?_
         refine E_st 27 rfl (st_pick_t rfl rfl) ?_
         refine E_st 28 rfl (st_move rfl) ?_
         refine E_no 29 72 rfl rfl rfl ?_
         refine E_no 30 72 rfl rfl rfl ?_
         refine E_no 31 72 rfl rfl rfl ?_
         refine E_no 32 72 rfl rfl rfl ?_
         refine E_no 33 72 rfl rfl rfl ?_
         refine E_no 34 72 rfl rfl rfl ?_
         refine E_st 35 rfl (st_pick_f rfl rfl) ?_
         refine E_out ?_
         refine D_all [36] (by kernel_rfl) rfl ?_
         refine R_do (Base.Le.refl _) rfl rfl (u_store 3 rfl rfl siz4 rfl rfl (by simp)) ?_ ?_
         ·
          rintro _ _ rfl
          refine ⟨.inl (by kernel_rfl), ?_⟩
          refine D_done (by kernel_rfl) ?_
          obtain rfl := some1 hm
          refine x_pullb 6 rfl ?_
          refine x_pullb 4 rfl ?_
          refine x_pullb 4 rfl ?_
          refine x_pullb 4 rfl ?_
          refine x_pullb 4 rfl ?_
          refine x_pullb 6 rfl ?_
          refine x_pullb 6 rfl ?_
          refine x_front5 [_, _, _, _, _, _, _] hs614 hs579 hs7 hs12 hs22 R rfl ?_
          refine x_front3 [_, _, _, _, _, _, _] hs22 hs614 hs579 (hs7 ++ (hs12 ++ R)) rfl ?_
          refine x_front5 [_, _, _, _, _, _, _] hs579 hs22 hs614 hs7 hs12 R rfl ?_
          refine x_front5 [_, _, _, _, _, _, _] hs12 hs579 hs22 hs614 hs7 R rfl ?_
          refine x_front5 [_, _, _, _, _, _, _] hs7 hs12 hs579 hs22 hs614 R rfl ?_
          exact x_join (e' := [(4, .pointer (some ⟨g29, 0, none⟩)), (5, .pointer (some ⟨g30, 0, none⟩)), (6, .pointer (some ⟨g477, 0, none⟩))]) ⟨rfl, rfl, rfl, trivial⟩ (.refl _) ⟨rfl, rfl, (Base.Le.refl _)⟩
         exact R_nil
       ·
        rw [if_neg hc830] at hm
        refine D_drawI mixed (.refl _) ?_
        refine E_st 0 rfl (stB (st_load 3 rfl one4 rfl rfl) hc791) ?_
        refine E_st 1 rfl (st_move rfl) ?_
        refine E_yes 2 45 rfl (st_load 1 rfl one69 rfl rfl) ?_
        refine E_yes 3 45 rfl (st_nil rfl) ?_
        refine E_yes 4 45 rfl (st_field rfl fld73_1) ?_
        refine E_yes 5 45 rfl (st_load 6 rfl one22 rfl rfl) ?_
        refine E_yes 6 45 rfl (st_field rfl fld34_1) ?_
        refine E_yes 7 45 rfl (st_load 0 rfl one3 rfl rfl) ?_
        obtain ⟨j794, hj795, hx796⟩ := idx_some h793
        obtain ⟨cs797, hr798, hcs799, hA800, hlt801⟩ := FZ.get (sz := 1) rfl (by decide) h36 hx796
        obtain rfl := hr798
        refine E_yes 8 45 rfl (st_index_old j794 rfl rfl hj795 hlt801 hA800 sl22) ?_
        refine E_yes 9 45 rfl (st_load_old rfl one3 (hcs799 0 _ rfl)) ?_
        refine E_yes 10 45 rfl (st_lss_f rfl rfl hc802) ?_
        refine E_yes 11 45 rfl (st_move rfl) ?_
        refine E_yes 12 55 rfl (st_move rfl) ?_
        refine E_yes 13 55 rfl (st_load 1 rfl one69 rfl rfl) ?_
        refine E_yes 14 55 rfl (st_nil rfl) ?_
        refine E_yes 15 55 rfl (st_field rfl fld73_1) ?_
        refine E_yes 16 55 rfl (st_load 6 rfl one22 rfl rfl) ?_
        refine E_yes 17 55 rfl (st_field rfl fld34_1) ?_
        refine E_yes 18 55 rfl (st_load 0 rfl one3 rfl rfl) ?_
        obtain ⟨j822, hj823, hx824⟩ := idx_some h821
        obtain ⟨cs825, hr826, hcs827, hA828, hlt829⟩ := FZ.get (sz := 1) rfl (by decide) h36 hx824
        obtain rfl := hr826
        refine E_yes 19 55 rfl (st_index_old j822 rfl rfl hj823 hlt829 hA828 sl22) ?_
        refine E_yes 20 55 rfl (st_load_old rfl one3 (hcs827 0 _ rfl)) ?_
        refine E_yes 21 55 rfl (st_leq_f rfl rfl hc830) ?_
        refine E_yes 22 45 rfl (st_pick_f rfl rfl) ?_
        refine E_st 23 rfl (st_pick_t rfl rfl) ?_
        refine E_st 24 rfl (st_move rfl) ?_
        refine E_no 25 68 rfl rfl rfl ?_
        refine E_no 26 68 rfl rfl rfl ?_
        refine E_st 27 rfl (st_pick_f rfl rfl) ?_
        refine E_st 28 rfl (st_move rfl) ?_
        refine E_no 29 72 rfl rfl rfl ?_
        refine E_no 30 72 rfl rfl rfl ?_
        refine E_no 31 72 rfl rfl rfl ?_
        refine E_no 32 72 rfl rfl rfl ?_
        refine E_no 33 72 rfl rfl rfl ?_
        refine E_no 34 72 rfl rfl rfl ?_
        refine E_st 35 rfl (st_pick_f rfl rfl) ?_
        refine E_out ?_
        refine D_all [36] (by kernel_rfl) rfl ?_
        refine R_do (Base.Le.refl _) rfl rfl (u_store 3 rfl rfl siz4 rfl rfl (by simp)) ?_ ?_
        ·
         rintro _ _ rfl
         refine ⟨.inl (by kernel_rfl), ?_⟩
         refine D_done (by kernel_rfl) ?_
         obtain rfl := some1 hm
         refine x_pullb 6 rfl ?_
         refine x_pullb 4 rfl ?_
         refine x_pullb 4 rfl ?_
         refine x_pullb 4 rfl ?_
         refine x_pullb 4 rfl ?_
         refine x_pullb 6 rfl ?_
         refine x_pullb 6 rfl ?_
         refine x_front5 [_, _, _, _, _, _, _] hs614 hs579 hs7 hs12 hs22 R rfl ?_
         refine x_front3 [_, _, _, _, _, _, _] hs22 hs614 hs579 (hs7 ++ (hs12 ++ R)) rfl ?_
         refine x_front5 [_, _, _, _, _, _, _] hs579 hs22 hs614 hs7 hs12 R rfl ?_
         refine x_front5 [_, _, _, _, _, _, _] hs12 hs579 hs22 hs614 hs7 R rfl ?_
         refine x_front5 [_, _, _, _, _, _, _] hs7 hs12 hs579 hs22 hs614 R rfl ?_
         exact x_join (e' := [(4, .pointer (some ⟨g29, 0, none⟩)), (5, .pointer (some ⟨g30, 0, none⟩)), (6, .pointer (some ⟨g477, 0, none⟩))]) ⟨rfl, rfl, rfl, trivial⟩ (.refl _) ⟨rfl, rfl, (Base.Le.refl _)⟩
        exact R_nil
     ·
      rw [if_neg (fun hh => Bool.noConfusion (hh.symm.trans hc791))] at hm
      refine D_drawI mixed (.refl _) ?_
      refine E_st 0 rfl (stB (st_load 3 rfl one4 rfl rfl) hc791) ?_
      refine E_st 1 rfl (st_move rfl) ?_
      refine E_no 2 45 rfl rfl rfl ?_
      refine E_no 3 45 rfl rfl rfl ?_
      refine E_no 4 45 rfl rfl rfl ?_
      refine E_no 5 45 rfl rfl rfl ?_
      refine E_no 6 45 rfl rfl rfl ?_
      refine E_no 7 45 rfl rfl rfl ?_
      refine E_no 8 45 rfl rfl rfl ?_
      refine E_no 9 45 rfl rfl rfl ?_
      refine E_no 10 45 rfl rfl rfl ?_
      refine E_no 11 45 rfl rfl rfl ?_
      refine E_no 12 55 rfl rfl rfl ?_
      refine E_no 13 55 rfl rfl rfl ?_
      refine E_no 14 55 rfl rfl rfl ?_
      refine E_no 15 55 rfl rfl rfl ?_
      refine E_no 16 55 rfl rfl rfl ?_
      refine E_no 17 55 rfl rfl rfl ?_
      refine E_no 18 55 rfl rfl rfl ?_
      refine E_no 19 55 rfl rfl rfl ?_
      refine E_no 20 55 rfl rfl rfl ?_
      refine E_no 21 55 rfl rfl rfl ?_
      refine E_no 22 45 rfl rfl rfl ?_
      refine E_st 23 rfl (st_pick_f rfl rfl) ?_
      refine E_st 24 rfl (st_move rfl) ?_
      refine E_no 25 68 rfl rfl rfl ?_
      refine E_no 26 68 rfl rfl rfl ?_
      refine E_st 27 rfl (st_pick_f rfl rfl) ?_
      refine E_st 28 rfl (st_move rfl) ?_
      refine E_no 29 72 rfl rfl rfl ?_
      refine E_no 30 72 rfl rfl rfl ?_
      refine E_no 31 72 rfl rfl rfl ?_
      refine E_no 32 72 rfl rfl rfl ?_
      refine E_no 33 72 rfl rfl rfl ?_
      refine E_no 34 72 rfl rfl rfl ?_
      refine E_st 35 rfl (st_pick_f rfl rfl) ?_
      refine E_out ?_
      refine D_all [36] (by kernel_rfl) rfl ?_
      refine R_do (Base.Le.refl _) rfl rfl (u_store 3 rfl rfl siz4 rfl rfl (by simp)) ?_ ?_
      ·
       rintro _ _ rfl
       refine ⟨.inl (by kernel_rfl), ?_⟩
       refine D_done (by kernel_rfl) ?_
       obtain rfl := some1 hm
       refine x_pullb 6 rfl ?_
       refine x_pullb 4 rfl ?_
       refine x_pullb 4 rfl ?_
       refine x_pullb 4 rfl ?_
       refine x_pullb 4 rfl ?_
       refine x_pullb 6 rfl ?_
       refine x_pullb 6 rfl ?_
       refine x_front5 [_, _, _, _, _, _, _] hs614 hs579 hs7 hs12 hs22 R rfl ?_
       refine x_front3 [_, _, _, _, _, _, _] hs22 hs614 hs579 (hs7 ++ (hs12 ++ R)) rfl ?_
       refine x_front5 [_, _, _, _, _, _, _] hs579 hs22 hs614 hs7 hs12 R rfl ?_
       refine x_front5 [_, _, _, _, _, _, _] hs12 hs579 hs22 hs614 hs7 R rfl ?_
       refine x_front5 [_, _, _, _, _, _, _] hs7 hs12 hs579 hs22 hs614 R rfl ?_
       exact x_join (e' := [(4, .pointer (some ⟨g29, 0, none⟩)), (5, .pointer (some ⟨g30, 0, none⟩)), (6, .pointer (some ⟨g477, 0, none⟩))]) ⟨rfl, rfl, rfl, trivial⟩ (.refl _) ⟨rfl, rfl, (Base.Le.refl _)⟩
      exact R_nil
    ·
     rintro b730 _ _ ⟨rfl, rfl, hle731⟩
     have hm := hk733
     refine c_sr ?_
     refine t_st rfl (st_load 0 rfl one88 rfl rfl) ?_
     refine t_st rfl (st_field rfl fld34_1) ?_
     refine t_st rfl (st_load 2 rfl one3 rfl rfl) ?_
     obtain ⟨x848, h849, hm⟩ := bindS hm
     obtain ⟨j850, hj851, hx852⟩ := idx_some h849
     obtain ⟨cs853, hs858, P859, P860, hq861, hr854, hcs855, hA856, hlt857, hb862, hho863⟩ := OS.get (sz := 1) rfl (by decide) (h10.le hle731) hx852
     obtain ⟨rfl, rfl⟩ := hr854
     refine t_st rfl (st_index_old j850 rfl rfl hj851 hlt857 hA856 sl88) ?_
     refine t_st rfl (st_load_rd rfl one4 (fun w ho => hcs855 w _ ho (.cons _ (.cons _ (.cons _ (.cons _ (.cons _ (.cons _ (.cons _ (sub_skip hs614 (List.sublist_append_left _ _))))))))) 0 _ rfl)) ?_
     refine t_st rfl (st_not rfl) ?_
     refine t_ne ?_
     refine c_cond _ rfl (fun hc864 => ?_) (fun hc864 => ?_)
     ·
      rw [if_neg (fun hh => Bool.noConfusion (hh.symm.trans (notT hc864)))] at hm
      refine c_sr ?_
      refine t_st rfl (st_load 0 rfl one88 rfl rfl) ?_
      refine t_st rfl (st_field rfl fld34_1) ?_
      refine t_st rfl (st_load 2 rfl one3 rfl rfl) ?_
      obtain ⟨x865, h866, hm⟩ := bindS hm
      obtain ⟨j867, hj868, hx869⟩ := idx_some h866
      obtain ⟨cs870, hs875, P876, P877, hq878, hr871, hcs872, hA873, hlt874, hb879, hho880⟩ := OS.get (sz := 1) rfl (by decide) (h10.le hle731) hx869
      obtain ⟨rfl, rfl⟩ := hr871
      refine t_st rfl (st_index_old j867 rfl rfl hj868 hlt874 hA873 sl88) ?_
      refine t_front2 [_, _, _, _, _, _, _] hs614 hs7 (hs12 ++ (hs579 ++ (hs22 ++ R))) rfl ?_
      refine t_do rfl (u_putOS hj868 (sz := 1) (a' := true) rfl [_, _, _, _, _, _, _] (hs614 ++ (hs12 ++ (hs579 ++ (hs22 ++ R)))) 0 1 [.bool (true)] rfl (h10.le hle731) hx869 rfl rfl rfl siz4 rfl (mem_c rfl mem_n) (fun cs hsj hh => by obtain ⟨rfl, rfl⟩ := hh; exact ⟨by decide, rfl, rfl⟩)) ?_
      rintro _ _ ⟨hs881, rfl, h882⟩
      refine t_hresp 0 rfl (o' := Cl 88 [.slice A8 (put l39 s32.To true).length c9]) (by simp only [put_length]) ?_
      refine t_ne ?_
      refine c_region ?_
      refine t_st rfl (st_load 1 rfl one22 rfl rfl) ?_
      refine t_st rfl (st_field rfl fld34_1) ?_
      refine t_st rfl (st_load 2 rfl one3 rfl rfl) ?_
      refine t_do rfl (u_bslice (el := 3) [(0, .int .i64 (s32.To))] [.int .i64 (s32.To)] rfl (fun _ => by kernel_rfl)) ?_
      rintro _ _ ⟨g883, rfl, rfl⟩
      obtain ⟨_, h884, hm⟩ := bindS hm
      have h884 := room_some h884
      refine t_front3 [_, _, _, _, _, _, _, _] hs881 hs614 hs12 (hs579 ++ (hs22 ++ R)) rfl ?_
      refine t_do rfl (u_appOS (r := (RT.int .i64)) (l := l40) [_, _, _, _, _, _, _, _] (hs881 ++ (hs614 ++ (hs579 ++ (hs22 ++ R)))) [[.int .i64 (s32.To)]] [s32.To] rfl (by decide) sl22 inf3 rfl rfl rfl rfl (h15.le hle731) rfl (fun w ho => Rd.own (i := 0) ho rfl) ⟨rfl, trivial⟩ h884) ?_
      rintro _ _ ⟨hs885, rfl, h886⟩
      obtain ⟨A887, c888, rfl, _⟩ := h886.form
      refine t_do rfl (u_store 2 rfl rfl siz22 rfl rfl (by simp)) ?_
      rintro _ _ rfl
      refine t_nil ?_
      obtain ⟨rfl, rfl, rfl, rfl, rfl⟩ := some5 hm
      refine x_pullb 7 rfl ?_
      refine x_pullb 3 rfl ?_
      refine x_pullb 3 rfl ?_
      refine x_pullb 7 rfl ?_
      refine x_pullb 7 rfl ?_
      refine x_pullb 7 rfl ?_
      refine x_front5 [_, _, _, _, _, _, _, _] hs885 hs881 hs614 hs579 hs22 R rfl ?_
      refine x_front5 [_, _, _, _, _, _, _, _] hs22 hs885 hs881 hs614 hs579 R rfl ?_
      refine x_front3 [_, _, _, _, _, _, _, _] hs579 hs22 hs885 (hs881 ++ (hs614 ++ R)) rfl ?_
      refine x_front4 [_, _, _, _, _, _, _, _] hs885 hs579 hs22 hs881 (hs614 ++ R) rfl ?_
      refine x_front5 [_, _, _, _, _, _, _, _] hs881 hs885 hs579 hs22 hs614 R rfl ?_
      have he889 := (h615.le hle731)
      have he890 := (h580.le hle731)
      exact endM hle731 rfl (.cons_cons _ (.cons_cons _ (.cons_cons _ (.cons_cons _ (.cons_cons _ (.cons_cons _ (.cons _ (.cons _ (.refl _))))))))) ⟨hs614, hs881, A887, c888, hs885, hs579, rfl, rfl, he889, ((put_length _ _ _).trans rfl), h882, ((put_length _ _ _).trans rfl), h886, he890, ((put_length _ _ _).trans rfl)⟩
     ·
      rw [if_pos (notF hc864)] at hm
      refine c_skip ?_
      obtain ⟨rfl, rfl, rfl, rfl, rfl⟩ := some5 hm
      refine x_pullb 6 rfl ?_
      refine x_pullb 2 rfl ?_
      refine x_pullb 2 rfl ?_
      refine x_pullb 6 rfl ?_
      refine x_pullb 6 rfl ?_
      refine x_pullb 6 rfl ?_
      refine x_front5 [_, _, _, _, _, _, _] hs614 hs7 hs12 hs579 hs22 R rfl ?_
      refine x_front5 [_, _, _, _, _, _, _] hs22 hs614 hs7 hs12 hs579 R rfl ?_
      refine x_front5 [_, _, _, _, _, _, _] hs579 hs22 hs614 hs7 hs12 R rfl ?_
      refine x_front5 [_, _, _, _, _, _, _] hs12 hs579 hs22 hs614 hs7 R rfl ?_
      refine x_front5 [_, _, _, _, _, _, _] hs7 hs12 hs579 hs22 hs614 R rfl ?_
      have he891 := (h615.le hle731)
      have he892 := (h10.le hle731)
      have he893 := (h15.le hle731)
      have he894 := (h580.le hle731)
      exact endM hle731 rfl (.cons_cons _ (.cons_cons _ (.cons_cons _ (.cons_cons _ (.cons_cons _ (.cons_cons _ (.cons _ (.refl _)))))))) ⟨hs614, hs7, A13, c14, hs12, hs579, rfl, rfl, he891, ((put_length _ _ _).trans rfl), he892, rfl, he893, he894, ((put_length _ _ _).trans rfl)⟩
   exact R_nil

end Go.Proofs.Ytakehdnblmonlaa
