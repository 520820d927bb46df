/- Contracts: the code computes its model (part 4). -/
import Derived.Test.YtljcafilceachaaDoorP3
set_option linter.unusedVariables false
set_option linter.unusedSimpArgs false
namespace Go.Proofs.YtljcafilceachaaDoor
open Go.RowKit Go.Fp

set_option maxRecDepth 20000 in
theorem cRunCheck_2 (b : Base) (R : Hp) (s1 : ApiStock) (l5 : (List ApiPiece)) (s6 : ApiState) (x7 : Int) (A2 : Option Addr) (c3 : Nat) (h4 : FZ rApiPiece b.w A2 c3 l5) (x153 : Int) (hm : mRunCheck_2 s1 l5 s6 x7 = some x153) :
    CallsG Tryd.prog 69 [.agg #[.string (s1.Name), .int .i64 (s1.Length), .int .i64 (s1.Mass), .int .i64 (s1.Start), .int .i64 (s1.Power), .int .i64 (s1.Roll), .int .i64 (s1.Drag), .int .i64 (s1.Brake), .int .i64 (s1.Top), .int .i64 (s1.Seats)], .slice A2 (l5).length c3, .agg #[.int .i64 (s6.At), .int .i64 (s6.Speed), .int .i64 (s6.Work)], .int .i64 (x7)] b (R) (fun v b' hp' => .int .i64 (x153) = v ∧ R = hp') := by
  refine fn_enterG 78 Tryd.func69 rfl Tryd.ntmps69 rfl ?_
  unfold mRunCheck_2 at hm
  refine c_seq ?_
  refine c_region ?_
  refine t_do rfl (u_box _ rfl rfl) ?_
  rintro _ _ ⟨g154, rfl, rfl⟩
  refine t_do rfl (u_box _ rfl rfl) ?_
  rintro _ _ ⟨g155, rfl, rfl⟩
  refine t_st rfl (st_assign rfl) ?_
  refine t_nil ?_
  refine x_then_normal ?_
  refine c_seq ?_
  refine c_seq ?_
  refine c_region ?_
  refine t_st rfl (st_loadD (vs := [_, _, _, _, _, _, _, _, _, _]) 1 10 rfl agg43 rfl rfl rfl) ?_
  obtain ⟨x156, hcl157, hm⟩ := bindS hm
  refine t_do rfl (u_callW0 _ call22 rfl (fun w ho => cRunCheck _ [] s1 x156 hcl157) (fun _ _ _ h => h.2.symm)) ?_
  rintro _ _ ⟨⟨_, rfl, _⟩, rfl⟩
  refine t_st rfl (st_assign rfl) ?_
  refine t_nil ?_
  refine x_then_normal ?_
  refine c_seq ?_
  refine c_region ?_
  refine t_st rfl (st_move rfl) ?_
  refine t_st rfl (st_neq rfl rfl) ?_
  refine t_nil ?_
  refine x_then_normal ?_
  refine c_cond _ rfl (fun hc158 => ?_) (fun hc158 => ?_)
  ·
    rw [if_pos (of_decide_eq_true hc158)] at hm
    refine c_seq ?_
    refine c_region ?_
    refine t_st rfl (st_move rfl) ?_
    refine t_st rfl (st_assign rfl) ?_
    refine t_nil ?_
    refine x_then_normal ?_
    refine c_ret ?_
    refine x_then_ret ?_
    obtain rfl := some1 hm
    exact retM (rs := [.tmp 8]) [.int .i64 (x156)] (Base.Le.refl _) (by decide) rfl ⟨rfl, trivial⟩ rfl (hp' := R) (.cons _ (.cons _ (.refl _))) ⟨rfl, rfl⟩
  ·
    rw [if_neg (of_decide_eq_false hc158)] at hm
    refine c_skip ?_
    refine x_then_normal ?_
    refine c_seq ?_
    refine c_block ?_
    refine c_seq ?_
    refine c_region ?_
    refine t_st rfl (st_move rfl) ?_
    refine t_st rfl (st_len rfl sl80) ?_
    refine t_st rfl (st_eql rfl rfl) ?_
    refine t_st rfl (st_assign rfl) ?_
    refine t_nil ?_
    refine x_then_normal ?_
    refine c_cond _ rfl (fun hc159 => ?_) (fun hc159 => ?_)
    ·
      rw [if_pos (of_decide_eq_true hc159)] at hm
      refine c_seq ?_
      refine c_region ?_
      refine t_st rfl (st_assign rfl) ?_
      refine t_nil ?_
      refine x_then_normal ?_
      refine c_ret ?_
      refine x_block_ret ?_
      refine x_then_ret ?_
      obtain rfl := some1 hm
      exact retM (rs := [.tmp 8]) [.int .i64 (1)] (Base.Le.refl _) (by decide) rfl ⟨rfl, trivial⟩ rfl (hp' := R) (.cons _ (.cons _ (.refl _))) ⟨rfl, rfl⟩
    ·
      rw [if_neg (of_decide_eq_false hc159)] at hm
      refine c_seq ?_
      refine c_region ?_
      refine t_st rfl (st_move rfl) ?_
      refine t_st rfl (st_len rfl sl80) ?_
      refine t_st rfl (st_gtr rfl rfl) ?_
      refine t_st rfl (st_assign rfl) ?_
      refine t_nil ?_
      refine x_then_normal ?_
      refine c_cond _ rfl (fun hc160 => ?_) (fun hc160 => ?_)
      ·
        rw [if_pos (of_decide_eq_true hc160)] at hm
        refine c_seq ?_
        refine c_region ?_
        refine t_st rfl (st_assign rfl) ?_
        refine t_nil ?_
        refine x_then_normal ?_
        refine c_ret ?_
        refine x_block_ret ?_
        refine x_then_ret ?_
        obtain rfl := some1 hm
        exact retM (rs := [.tmp 8]) [.int .i64 (4)] (Base.Le.refl _) (by decide) rfl ⟨rfl, trivial⟩ rfl (hp' := R) (.cons _ (.cons _ (.refl _))) ⟨rfl, rfl⟩
      ·
        rw [if_neg (of_decide_eq_false hc160)] at hm
        refine c_skip ?_
        refine x_block_normal ?_
        refine x_then_normal ?_
        refine c_seq ?_
        refine c_region ?_
        refine t_st rfl (st_assign rfl) ?_
        refine t_nil ?_
        refine x_then_normal ?_
        refine c_seq ?_
        refine c_seq ?_
        refine c_region ?_
        refine t_st rfl (st_move rfl) ?_
        refine t_st rfl (st_len rfl sl80) ?_
        refine t_st rfl (st_move rfl) ?_
        refine t_nil ?_
        refine x_then_normal ?_
        refine c_block ?_
        have hb162 := (FZ.bd h4)
        refine c_pullb 1 rfl ?_
        obtain ⟨t234, hl235, hk236⟩ := bindS hm
        refine c_forM (fun k233 => fun x232 => fun b230 e' hp' => [(3, .int .i64 (x7)), (4, .pointer (some ⟨g154, 0, none⟩)), (6, .pointer (some ⟨g155, 0, none⟩)), (10, .int .i64 (x232)), (26, .slice A2 (l5).length c3), (27, .int .i64 ((l5.length : Int))), (28, .int .i64 ((k233 : Int)))] = e' ∧ (g154, Cl 43 [.string (s1.Name), .int .i64 (s1.Length), .int .i64 (s1.Mass), .int .i64 (s1.Start), .int .i64 (s1.Power), .int .i64 (s1.Roll), .int .i64 (s1.Drag), .int .i64 (s1.Brake), .int .i64 (s1.Top), .int .i64 (s1.Seats)]) :: (g155, Cl 82 [.int .i64 (s6.At), .int .i64 (s6.Speed), .int .i64 (s6.Work)]) :: R = hp' ∧ b.Le b230) hl235 (e' := [(3, .int .i64 (x7)), (4, .pointer (some ⟨g154, 0, none⟩)), (6, .pointer (some ⟨g155, 0, none⟩)), (10, .int .i64 (0)), (26, .slice A2 (l5).length c3), (27, .int .i64 ((l5.length : Int))), (28, .int .i64 0)]) (hp' := (g154, Cl 43 [.string (s1.Name), .int .i64 (s1.Length), .int .i64 (s1.Mass), .int .i64 (s1.Start), .int .i64 (s1.Power), .int .i64 (s1.Roll), .int .i64 (s1.Drag), .int .i64 (s1.Brake), .int .i64 (s1.Top), .int .i64 (s1.Seats)]) :: (g155, Cl 82 [.int .i64 (s6.At), .int .i64 (s6.Speed), .int .i64 (s6.Work)]) :: R) ⟨rfl, rfl, rfl, rfl, rfl, rfl, rfl, trivial⟩ (.cons_cons _ (.cons_cons _ (.refl _))) ⟨rfl, rfl, (Base.Le.refl _)⟩ ?_ ?_
        ·
          rintro k233 x232 b230 _ _ oL161 hknL161 ⟨rfl, rfl, hle231⟩ hstepL161 houtL161
          unfold mRunCheck_2_L161 at hstepL161
          have hm := hstepL161
          refine c_seq ?_
          refine c_region ?_
          refine t_st rfl (st_lss_t rfl rfl (by omega)) ?_
          refine t_nil ?_
          refine x_then_normal ?_
          refine c_seq ?_
          refine c_cond_t rfl ?_
          refine c_skip ?_
          refine x_then_normal ?_
          refine c_seq ?_
          refine c_block ?_
          refine c_seq ?_
          refine c_region ?_
          obtain ⟨x237, h238, hm⟩ := bindS hm
          obtain ⟨j239, hj240, hx241⟩ := idx_some h238
          obtain ⟨cs242, hr243, hcs244, hA245, hlt246⟩ := FZ.get (sz := 3) rfl (by decide) (h4.le hle231) hx241
          obtain ⟨_, _, rfl, rfl, ⟨_, _, rfl, rfl, rfl⟩⟩ := hr243
          refine t_st rfl (st_index_old j239 rfl rfl hj240 hlt246 hA245 sl80) ?_
          refine t_st rfl (st_loadN_old (vs := [.int .i64 (x237.Length), .int .i64 (x237.Grade), .int .i64 (x237.Speed)]) 3 rfl agg97 hA245 rfl (fun j u hu => hcs244 j u hu)) ?_
          refine t_do rfl (u_alloc [.int .i64 0, .int .i64 0, .int .i64 0] zero97 rfl) ?_
          rintro _ _ ⟨g247, rfl, rfl⟩
          refine t_do rfl (u_storeN (vs := [_, _, _]) 0 3 rfl rfl rfl siz97 rfl (by intro u hu; simp only [List.mem_cons, List.not_mem_nil, or_false] at hu; rcases hu with rfl | rfl | rfl <;> rfl) rfl (by simp)) ?_
          rintro _ _ rfl
          refine t_nil ?_
          refine x_then_normal ?_
          refine c_seq ?_
          obtain ⟨x258, hj259, hk259⟩ := bindS hm
          refine c_join (fun b256 e' hp' => [(3, .int .i64 (x7)), (4, .pointer (some ⟨g154, 0, none⟩)), (6, .pointer (some ⟨g155, 0, none⟩)), (10, .int .i64 (x232)), (12, .pointer (some ⟨g247, 0, none⟩)), (26, .slice A2 (l5).length c3), (27, .int .i64 ((l5.length : Int))), (28, .int .i64 ((k233 : Int))), (47, .bool (x258))] = e' ∧ (g154, Cl 43 [.string (s1.Name), .int .i64 (s1.Length), .int .i64 (s1.Mass), .int .i64 (s1.Start), .int .i64 (s1.Power), .int .i64 (s1.Roll), .int .i64 (s1.Drag), .int .i64 (s1.Brake), .int .i64 (s1.Top), .int .i64 (s1.Seats)]) :: (g155, Cl 82 [.int .i64 (s6.At), .int .i64 (s6.Speed), .int .i64 (s6.Work)]) :: (g247, Cl 97 [.int .i64 (x237.Length), .int .i64 (x237.Grade), .int .i64 (x237.Speed)]) :: R = hp' ∧ b230.Le b256) ?_ ?_
          ·
            have hm := hj259
            refine c_region ?_
            refine t_st rfl (st_field rfl fld97_0) ?_
            refine t_st rfl (st_load 0 rfl one3 rfl rfl) ?_
            obtain ⟨x260, hcl261, hm⟩ := bindS hm
            refine t_do rfl (u_callW0 _ call59 rfl (fun w ho => cRunWithin _ [] x237.Length 1 300000 x260 hcl261) (fun _ _ _ h => h.2.symm)) ?_
            rintro _ _ ⟨⟨_, rfl, _⟩, rfl⟩
            rcases Bool.eq_false_or_eq_true x260 with hc262 | hc262
            ·
              rw [if_pos hc262] at hm
              refine t_resp 34 rfl (v' := .bool true) (by rw [hc262]) ?_
              refine t_st rfl (st_not_t rfl) ?_
              refine t_st rfl (st_move rfl) ?_
              refine t_yes 36 rfl rfl rfl ?_
              refine t_st rfl (st_field rfl fld97_1) ?_
              refine t_yes 36 rfl rfl rfl ?_
              refine t_st rfl (st_load 0 rfl one3 rfl rfl) ?_
              refine t_yes 36 rfl rfl rfl ?_
              obtain ⟨x263, hcl264, hm⟩ := bindS hm
              refine t_do rfl (u_callW0 _ call59 rfl (fun w ho => cRunWithin _ [] x237.Grade (-40) 40 x263 hcl264) (fun _ _ _ h => h.2.symm)) ?_
              rintro _ _ ⟨⟨_, rfl, _⟩, rfl⟩
              rcases Bool.eq_false_or_eq_true x263 with hc265 | hc265
              ·
                rw [if_pos hc265] at hm
                refine t_resp 39 rfl (v' := .bool true) (by rw [hc265]) ?_
                refine t_yes 36 rfl rfl rfl ?_
                refine t_st rfl (st_not_t rfl) ?_
                refine t_st rfl (st_pick_f rfl rfl) ?_
                refine t_st rfl (st_move rfl) ?_
                refine t_yes 42 rfl rfl rfl ?_
                refine t_st rfl (st_field rfl fld97_2) ?_
                refine t_yes 42 rfl rfl rfl ?_
                refine t_st rfl (st_load 0 rfl one3 rfl rfl) ?_
                refine t_yes 42 rfl rfl rfl ?_
                obtain ⟨x266, hcl267, hm⟩ := bindS hm
                refine t_do rfl (u_callW0 _ call59 rfl (fun w ho => cRunWithin _ [] x237.Speed 1 6000 x266 hcl267) (fun _ _ _ h => h.2.symm)) ?_
                rintro _ _ ⟨⟨_, rfl, _⟩, rfl⟩
                refine t_yes 42 rfl rfl rfl ?_
                refine t_st rfl (st_not rfl) ?_
                refine t_st rfl (st_pick_f rfl rfl) ?_
                refine t_nil ?_
                obtain rfl := some1 hm
                refine x_pullb 2 rfl ?_
                refine x_pullb 2 rfl ?_
                exact x_join (e' := [(3, .int .i64 (x7)), (4, .pointer (some ⟨g154, 0, none⟩)), (6, .pointer (some ⟨g155, 0, none⟩)), (10, .int .i64 (x232)), (12, .pointer (some ⟨g247, 0, none⟩)), (26, .slice A2 (l5).length c3), (27, .int .i64 ((l5.length : Int))), (28, .int .i64 ((k233 : Int))), (47, .bool (!x266))]) (hp' := (g154, Cl 43 [.string (s1.Name), .int .i64 (s1.Length), .int .i64 (s1.Mass), .int .i64 (s1.Start), .int .i64 (s1.Power), .int .i64 (s1.Roll), .int .i64 (s1.Drag), .int .i64 (s1.Brake), .int .i64 (s1.Top), .int .i64 (s1.Seats)]) :: (g155, Cl 82 [.int .i64 (s6.At), .int .i64 (s6.Speed), .int .i64 (s6.Work)]) :: (g247, Cl 97 [.int .i64 (x237.Length), .int .i64 (x237.Grade), .int .i64 (x237.Speed)]) :: R) ⟨rfl, rfl, rfl, rfl, rfl, rfl, rfl, rfl, rfl, trivial⟩ (.cons_cons _ (.cons_cons _ (.cons_cons _ (.refl _)))) ⟨rfl, rfl, (Base.Le.refl _)⟩
              ·
                rw [if_neg (fun hh => Bool.noConfusion (hh.symm.trans hc265))] at hm
                refine t_resp 39 rfl (v' := .bool false) (by rw [hc265]) ?_
                refine t_yes 36 rfl rfl rfl ?_
                refine t_st rfl (st_not_f rfl) ?_
                refine t_st rfl (st_pick_f rfl rfl) ?_
                refine t_st rfl (st_move rfl) ?_
                refine t_no 42 rfl rfl rfl rfl rfl ?_
                refine t_no 42 rfl rfl rfl rfl rfl ?_
                refine t_no 42 rfl rfl rfl rfl rfl ?_
                refine t_no 42 rfl rfl rfl rfl rfl ?_
                refine t_st rfl (st_pick_t rfl rfl) ?_
                refine t_nil ?_
                obtain rfl := some1 hm
                refine x_pullb 2 rfl ?_
                refine x_pullb 2 rfl ?_
                exact x_join (e' := [(3, .int .i64 (x7)), (4, .pointer (some ⟨g154, 0, none⟩)), (6, .pointer (some ⟨g155, 0, none⟩)), (10, .int .i64 (x232)), (12, .pointer (some ⟨g247, 0, none⟩)), (26, .slice A2 (l5).length c3), (27, .int .i64 ((l5.length : Int))), (28, .int .i64 ((k233 : Int))), (47, .bool (true))]) (hp' := (g154, Cl 43 [.string (s1.Name), .int .i64 (s1.Length), .int .i64 (s1.Mass), .int .i64 (s1.Start), .int .i64 (s1.Power), .int .i64 (s1.Roll), .int .i64 (s1.Drag), .int .i64 (s1.Brake), .int .i64 (s1.Top), .int .i64 (s1.Seats)]) :: (g155, Cl 82 [.int .i64 (s6.At), .int .i64 (s6.Speed), .int .i64 (s6.Work)]) :: (g247, Cl 97 [.int .i64 (x237.Length), .int .i64 (x237.Grade), .int .i64 (x237.Speed)]) :: R) ⟨rfl, rfl, rfl, rfl, rfl, rfl, rfl, rfl, rfl, trivial⟩ (.cons_cons _ (.cons_cons _ (.cons_cons _ (.refl _)))) ⟨rfl, rfl, (Base.Le.refl _)⟩
            ·
              rw [if_neg (fun hh => Bool.noConfusion (hh.symm.trans hc262))] at hm
              refine t_resp 34 rfl (v' := .bool false) (by rw [hc262]) ?_
              refine t_st rfl (st_not_f rfl) ?_
              refine t_st rfl (st_move rfl) ?_
              refine t_no 36 rfl rfl rfl rfl rfl ?_
              refine t_no 36 rfl rfl rfl rfl rfl ?_
              refine t_no 36 rfl rfl rfl rfl rfl ?_
              refine t_no 36 rfl rfl rfl rfl rfl ?_
              refine t_st rfl (st_pick_t rfl rfl) ?_
              refine t_st rfl (st_move rfl) ?_
              refine t_no 42 rfl rfl rfl rfl rfl ?_
              refine t_no 42 rfl rfl rfl rfl rfl ?_
              refine t_no 42 rfl rfl rfl rfl rfl ?_
              refine t_no 42 rfl rfl rfl rfl rfl ?_
              refine t_st rfl (st_pick_t rfl rfl) ?_
              refine t_nil ?_
              obtain rfl := some1 hm
              refine x_pullb 2 rfl ?_
              refine x_pullb 2 rfl ?_
              exact x_join (e' := [(3, .int .i64 (x7)), (4, .pointer (some ⟨g154, 0, none⟩)), (6, .pointer (some ⟨g155, 0, none⟩)), (10, .int .i64 (x232)), (12, .pointer (some ⟨g247, 0, none⟩)), (26, .slice A2 (l5).length c3), (27, .int .i64 ((l5.length : Int))), (28, .int .i64 ((k233 : Int))), (47, .bool (true))]) (hp' := (g154, Cl 43 [.string (s1.Name), .int .i64 (s1.Length), .int .i64 (s1.Mass), .int .i64 (s1.Start), .int .i64 (s1.Power), .int .i64 (s1.Roll), .int .i64 (s1.Drag), .int .i64 (s1.Brake), .int .i64 (s1.Top), .int .i64 (s1.Seats)]) :: (g155, Cl 82 [.int .i64 (s6.At), .int .i64 (s6.Speed), .int .i64 (s6.Work)]) :: (g247, Cl 97 [.int .i64 (x237.Length), .int .i64 (x237.Grade), .int .i64 (x237.Speed)]) :: R) ⟨rfl, rfl, rfl, rfl, rfl, rfl, rfl, rfl, rfl, trivial⟩ (.cons_cons _ (.cons_cons _ (.cons_cons _ (.refl _)))) ⟨rfl, rfl, (Base.Le.refl _)⟩
          ·
            rintro b256 _ _ ⟨rfl, rfl, hle257⟩
            have hm := hk259
            refine c_cond _ rfl (fun hc268 => ?_) (fun hc268 => ?_)
            ·
              rw [if_pos hc268] at hm
              refine c_seq ?_
              refine c_region ?_
              refine t_st rfl (st_assign rfl) ?_
              refine t_nil ?_
              refine x_then_normal ?_
              refine c_ret ?_
              refine x_then_ret ?_
              refine x_block_ret ?_
              refine x_then_ret ?_
              refine x_then_ret ?_
              refine x_block_ret ?_
              refine x_then_ret ?_
              have hq269 := houtL161 _ (Option.some.inj hm).symm
              rw [hq269] at hk236
              have hm := elimR hk236
              obtain rfl := some1 hm
              exact retM (rs := [.tmp 8]) [.int .i64 (2)] (hle231.trans hle257) (by decide) rfl ⟨rfl, trivial⟩ rfl (hp' := R) (.cons _ (.cons _ (.cons _ (.refl _)))) ⟨rfl, rfl⟩
            ·
              rw [if_neg (fun hh => Bool.noConfusion (hh.symm.trans hc268))] at hm
              refine c_skip ?_
              refine x_then_normal ?_
              refine c_region ?_
              refine t_st rfl (st_move rfl) ?_
              refine t_st rfl (st_field rfl fld97_0) ?_
              refine t_st rfl (st_load 2 rfl one3 rfl rfl) ?_
              obtain ⟨_, h270, hm⟩ := bindS hm
              have h270 := (chk_some h270).2
              refine t_st rfl (st_add rfl rfl h270) ?_
              refine t_st rfl (st_assign rfl) ?_
              refine t_nil ?_
              refine x_block_normal ?_
              refine x_then_normal ?_
              refine c_region ?_
              refine t_st rfl (st_add rfl rfl (by omega)) ?_
              refine t_st rfl (st_move rfl) ?_
              refine t_nil ?_
              refine x_pullb 1 rfl ?_
              refine x_pullb 1 rfl ?_
              exact x_againM (x232 + x237.Length) (Option.some.inj hm).symm (e' := [(3, .int .i64 (x7)), (4, .pointer (some ⟨g154, 0, none⟩)), (6, .pointer (some ⟨g155, 0, none⟩)), (10, .int .i64 (x232 + x237.Length)), (26, .slice A2 (l5).length c3), (27, .int .i64 ((l5.length : Int))), (28, .int .i64 ((k233 : Int) + 1))]) (hp' := (g154, Cl 43 [.string (s1.Name), .int .i64 (s1.Length), .int .i64 (s1.Mass), .int .i64 (s1.Start), .int .i64 (s1.Power), .int .i64 (s1.Roll), .int .i64 (s1.Drag), .int .i64 (s1.Brake), .int .i64 (s1.Top), .int .i64 (s1.Seats)]) :: (g155, Cl 82 [.int .i64 (s6.At), .int .i64 (s6.Speed), .int .i64 (s6.Work)]) :: R) ⟨rfl, rfl, rfl, rfl, rfl, rfl, rfl, trivial⟩ (.cons_cons _ (.cons_cons _ (.cons _ (.refl _)))) ⟨rfl, rfl, ((hle231.trans hle257))⟩
        ·
          rintro x232 b230 _ _ ⟨rfl, rfl, hle231⟩ hq271
          rw [hq271] at hk236
          have hm := elimL hk236
          refine c_seq ?_
          refine c_region ?_
          refine t_st rfl (st_lss_f rfl rfl (by omega)) ?_
          refine t_nil ?_
          refine x_then_normal ?_
          refine c_seq ?_
          refine c_cond_f rfl ?_
          refine c_exit ?_
          refine x_then_exit ?_
          refine x_then_exit ?_
          refine x_block_out ?_
          refine x_then_normal ?_
          refine c_seq ?_
          obtain ⟨x285, hj286, hk286⟩ := bindS hm
          refine c_join (fun b283 e' hp' => [(77, .bool (x285))] = e' ∧ R = hp' ∧ b230.Le b283) ?_ ?_
          ·
            have hm := hj286
            refine c_region ?_
            refine t_st rfl (st_move rfl) ?_
            refine t_st rfl (st_move rfl) ?_
            obtain ⟨x287, hcl288, hm⟩ := bindS hm
            refine t_do rfl (u_callW0 _ call59 rfl (fun w ho => cRunWithin _ [] x7 0 x232 x287 hcl288) (fun _ _ _ h => h.2.symm)) ?_
            rintro _ _ ⟨⟨_, rfl, _⟩, rfl⟩
            rcases Bool.eq_false_or_eq_true x287 with hc289 | hc289
            ·
              rw [if_pos hc289] at hm
              refine t_resp 55 rfl (v' := .bool true) (by rw [hc289]) ?_
              refine t_st rfl (st_not_t rfl) ?_
              refine t_st rfl (st_move rfl) ?_
              refine t_yes 57 rfl rfl rfl ?_
              refine t_st rfl (st_field rfl fld82_0) ?_
              refine t_yes 57 rfl rfl rfl ?_
              refine t_st rfl (st_load 1 rfl one3 rfl rfl) ?_
              refine t_yes 57 rfl rfl rfl ?_
              refine t_st rfl (st_move rfl) ?_
              refine t_yes 57 rfl rfl rfl ?_
              obtain ⟨x290, hcl291, hm⟩ := bindS hm
              refine t_do rfl (u_callW0 _ call59 rfl (fun w ho => cRunWithin _ [] s6.At 0 x7 x290 hcl291) (fun _ _ _ h => h.2.symm)) ?_
              rintro _ _ ⟨⟨_, rfl, _⟩, rfl⟩
              rcases Bool.eq_false_or_eq_true x290 with hc292 | hc292
              ·
                rw [if_pos hc292] at hm
                refine t_resp 61 rfl (v' := .bool true) (by rw [hc292]) ?_
                refine t_yes 57 rfl rfl rfl ?_
                refine t_st rfl (st_not_t rfl) ?_
                refine t_st rfl (st_pick_f rfl rfl) ?_
                refine t_st rfl (st_move rfl) ?_
                refine t_yes 64 rfl rfl rfl ?_
                refine t_st rfl (st_field rfl fld82_1) ?_
                refine t_yes 64 rfl rfl rfl ?_
                refine t_st rfl (st_load 1 rfl one3 rfl rfl) ?_
                refine t_yes 64 rfl rfl rfl ?_
                refine t_st rfl (st_field rfl fld43_8) ?_
                refine t_yes 64 rfl rfl rfl ?_
                refine t_st rfl (st_load 0 rfl one3 rfl rfl) ?_
                refine t_yes 64 rfl rfl rfl ?_
                obtain ⟨x293, hcl294, hm⟩ := bindS hm
                refine t_do rfl (u_callW0 _ call59 rfl (fun w ho => cRunWithin _ [] s6.Speed 0 s1.Top x293 hcl294) (fun _ _ _ h => h.2.symm)) ?_
                rintro _ _ ⟨⟨_, rfl, _⟩, rfl⟩
                rcases Bool.eq_false_or_eq_true x293 with hc295 | hc295
                ·
                  rw [if_pos hc295] at hm
                  refine t_resp 69 rfl (v' := .bool true) (by rw [hc295]) ?_
                  refine t_yes 64 rfl rfl rfl ?_
                  refine t_st rfl (st_not_t rfl) ?_
                  refine t_st rfl (st_pick_f rfl rfl) ?_
                  refine t_st rfl (st_move rfl) ?_
                  refine t_yes 72 rfl rfl rfl ?_
                  refine t_st rfl (st_field rfl fld82_2) ?_
                  refine t_yes 72 rfl rfl rfl ?_
                  refine t_st rfl (st_load 1 rfl one3 rfl rfl) ?_
                  refine t_yes 72 rfl rfl rfl ?_
                  obtain ⟨x296, hcl297, hm⟩ := bindS hm
                  refine t_do rfl (u_callW0 _ call59 rfl (fun w ho => cRunWithin _ [] s6.Work 0 1152921504606846976 x296 hcl297) (fun _ _ _ h => h.2.symm)) ?_
                  rintro _ _ ⟨⟨_, rfl, _⟩, rfl⟩
                  refine t_yes 72 rfl rfl rfl ?_
                  refine t_st rfl (st_not rfl) ?_
                  refine t_st rfl (st_pick_f rfl rfl) ?_
                  refine t_nil ?_
                  obtain rfl := some1 hm
                  exact x_join (e' := [(77, .bool (!x296))]) (hp' := R) ⟨rfl, trivial⟩ (.cons _ (.cons _ (.refl _))) ⟨rfl, rfl, (Base.Le.refl _)⟩
                ·
                  rw [if_neg (fun hh => Bool.noConfusion (hh.symm.trans hc295))] at hm
                  refine t_resp 69 rfl (v' := .bool false) (by rw [hc295]) ?_
                  refine t_yes 64 rfl rfl rfl ?_
                  refine t_st rfl (st_not_f rfl) ?_
                  refine t_st rfl (st_pick_f rfl rfl) ?_
                  refine t_st rfl (st_move rfl) ?_
                  refine t_no 72 rfl rfl rfl rfl rfl ?_
                  refine t_no 72 rfl rfl rfl rfl rfl ?_
                  refine t_no 72 rfl rfl rfl rfl rfl ?_
                  refine t_no 72 rfl rfl rfl rfl rfl ?_
                  refine t_st rfl (st_pick_t rfl rfl) ?_
                  refine t_nil ?_
                  obtain rfl := some1 hm
                  exact x_join (e' := [(77, .bool (true))]) (hp' := R) ⟨rfl, trivial⟩ (.cons _ (.cons _ (.refl _))) ⟨rfl, rfl, (Base.Le.refl _)⟩
              ·
                rw [if_neg (fun hh => Bool.noConfusion (hh.symm.trans hc292))] at hm
                refine t_resp 61 rfl (v' := .bool false) (by rw [hc292]) ?_
                refine t_yes 57 rfl rfl rfl ?_
                refine t_st rfl (st_not_f rfl) ?_
                refine t_st rfl (st_pick_f rfl rfl) ?_
                refine t_st rfl (st_move rfl) ?_
                refine t_no 64 rfl rfl rfl rfl rfl ?_
                refine t_no 64 rfl rfl rfl rfl rfl ?_
                refine t_no 64 rfl rfl rfl rfl rfl ?_
                refine t_no 64 rfl rfl rfl rfl rfl ?_
                refine t_no 64 rfl rfl rfl rfl rfl ?_
                refine t_no 64 rfl rfl rfl rfl rfl ?_
                refine t_st rfl (st_pick_t rfl rfl) ?_
                refine t_st rfl (st_move rfl) ?_
                refine t_no 72 rfl rfl rfl rfl rfl ?_
                refine t_no 72 rfl rfl rfl rfl rfl ?_
                refine t_no 72 rfl rfl rfl rfl rfl ?_
                refine t_no 72 rfl rfl rfl rfl rfl ?_
                refine t_st rfl (st_pick_t rfl rfl) ?_
                refine t_nil ?_
                obtain rfl := some1 hm
                exact x_join (e' := [(77, .bool (true))]) (hp' := R) ⟨rfl, trivial⟩ (.cons _ (.cons _ (.refl _))) ⟨rfl, rfl, (Base.Le.refl _)⟩
            ·
              rw [if_neg (fun hh => Bool.noConfusion (hh.symm.trans hc289))] at hm
              refine t_resp 55 rfl (v' := .bool false) (by rw [hc289]) ?_
              refine t_st rfl (st_not_f rfl) ?_
              refine t_st rfl (st_move rfl) ?_
              refine t_no 57 rfl rfl rfl rfl rfl ?_
              refine t_no 57 rfl rfl rfl rfl rfl ?_
              refine t_no 57 rfl rfl rfl rfl rfl ?_
              refine t_no 57 rfl rfl rfl rfl rfl ?_
              refine t_no 57 rfl rfl rfl rfl rfl ?_
              refine t_st rfl (st_pick_t rfl rfl) ?_
              refine t_st rfl (st_move rfl) ?_
              refine t_no 64 rfl rfl rfl rfl rfl ?_
              refine t_no 64 rfl rfl rfl rfl rfl ?_
              refine t_no 64 rfl rfl rfl rfl rfl ?_
              refine t_no 64 rfl rfl rfl rfl rfl ?_
              refine t_no 64 rfl rfl rfl rfl rfl ?_
              refine t_no 64 rfl rfl rfl rfl rfl ?_
              refine t_st rfl (st_pick_t rfl rfl) ?_
              refine t_st rfl (st_move rfl) ?_
              refine t_no 72 rfl rfl rfl rfl rfl ?_
              refine t_no 72 rfl rfl rfl rfl rfl ?_
              refine t_no 72 rfl rfl rfl rfl rfl ?_
              refine t_no 72 rfl rfl rfl rfl rfl ?_
              refine t_st rfl (st_pick_t rfl rfl) ?_
              refine t_nil ?_
              obtain rfl := some1 hm
              exact x_join (e' := [(77, .bool (true))]) (hp' := R) ⟨rfl, trivial⟩ (.cons _ (.cons _ (.refl _))) ⟨rfl, rfl, (Base.Le.refl _)⟩
          ·
            rintro b283 _ _ ⟨rfl, rfl, hle284⟩
            have hm := hk286
            refine c_cond _ rfl (fun hc298 => ?_) (fun hc298 => ?_)
            ·
              rw [if_pos hc298] at hm
              refine c_seq ?_
              refine c_region ?_
              refine t_st rfl (st_assign rfl) ?_
              refine t_nil ?_
              refine x_then_normal ?_
              refine c_ret ?_
              refine x_then_ret ?_
              obtain rfl := some1 hm
              exact retM (rs := [.tmp 8]) [.int .i64 (2)] (hle231.trans hle284) (by decide) rfl ⟨rfl, trivial⟩ rfl (hp' := R) (.refl _) ⟨rfl, rfl⟩
            ·
              rw [if_neg (fun hh => Bool.noConfusion (hh.symm.trans hc298))] at hm
              refine c_skip ?_
              refine x_then_normal ?_
              refine c_seq ?_
              refine c_region ?_
              refine t_st rfl (st_assign rfl) ?_
              refine t_nil ?_
              refine x_then_normal ?_
              refine c_ret ?_
              obtain rfl := some1 hm
              exact retM (rs := [.tmp 8]) [.int .i64 (0)] (hle231.trans hle284) (by decide) rfl ⟨rfl, trivial⟩ rfl (hp' := R) (.refl _) ⟨rfl, rfl⟩

set_option maxRecDepth 20000 in
theorem cRunNewRunner (b : Base) (R : Hp) (s1 : ApiStock) (l5 : (List ApiPiece)) (x6 : Int) (x7 : Int) (A2 : Option Addr) (c3 : Nat) (h4 : FZ rApiPiece b.w A2 c3 l5) (x216 : ByteArray) (x217 : Int) (x218 : Int) (x219 : Int) (x220 : Int) (x221 : Int) (x222 : Int) (x223 : Int) (x224 : Int) (x225 : Int) (l229 : (List ApiPiece)) (x230 : Int) (x231 : Int) (l232 : (List Int)) (l233 : (List (Int × (List Int)))) (hm : mRunNewRunner s1 l5 x6 x7 = some (x216, x217, x218, x219, x220, x221, x222, x223, x224, x225, l229, x230, x231, l232, l233)) :
    CallsG Tryd.prog 70 [.agg #[.string (s1.Name), .int .i64 (s1.Length), .int .i64 (s1.Mass), .int .i64 (s1.Start), .int .i64 (s1.Power), .int .i64 (s1.Roll), .int .i64 (s1.Drag), .int .i64 (s1.Brake), .int .i64 (s1.Top), .int .i64 (s1.Seats)], .slice A2 (l5).length c3, .int .i64 (x6), .int .i64 (x7)] b (R) (fun v b' hp' => ∃ (g215 : Nat), ∃ (A226 : Option Addr), ∃ (c227 : Nat), ∃ (A208 : Option Addr), ∃ (c209 : Nat), ∃ (hs207 : Hp), ∃ (g213 : Nat), ∃ (hs212 : Hp), .pointer (some ⟨g215, 0, none⟩) = v ∧ (g215, Cl 170 [.string (x216), .int .i64 (x217), .int .i64 (x218), .int .i64 (x219), .int .i64 (x220), .int .i64 (x221), .int .i64 (x222), .int .i64 (x223), .int .i64 (x224), .int .i64 (x225), .slice A226 (l229).length c227, .slice A208 (l232).length c209, .int .i64 (x230), .int .i64 (x231), .map (some g213)]) :: (hs207 ++ (hs212 ++ R)) = hp' ∧ FZ rApiPiece b'.w A226 c227 l229 ∧ OS 3 (OT.fr (RT.int .i64)) b'.w (.slice A208 l232.length c209) l232 hs207 ∧ OM (RT.int .i64) (OT.list 3 (OT.fr (RT.int .i64))) false false b'.w g213 l233 hs212) := by
  refine fn_enterG 48 Tryd.func70 rfl Tryd.ntmps70 rfl ?_
  unfold mRunNewRunner at hm
  refine c_seq ?_
  refine c_region ?_
  refine t_do rfl (u_box _ rfl rfl) ?_
  rintro _ _ ⟨g234, rfl, rfl⟩
  refine t_st rfl (st_assign rfl) ?_
  refine t_nil ?_
  refine x_then_normal ?_
  refine c_seq ?_
  refine c_region ?_
  refine t_st rfl (st_loadD (vs := [_, _, _, _, _, _, _, _, _, _]) 0 10 rfl agg43 rfl rfl rfl) ?_
  refine t_st rfl (st_move rfl) ?_
  refine t_do rfl (u_bslice (el := 3) [(0, .int .i64 (0))] [.int .i64 (0)] rfl (fun _ => by kernel_rfl)) ?_
  rintro _ _ ⟨g235, rfl, rfl⟩
  refine t_st rfl (st_move rfl) ?_
  refine t_st rfl (st_move rfl) ?_
  refine t_do rfl (u_mmap (RT.int .i64) (OT.list 3 (OT.fr (RT.int .i64))) false false [_, _] R rfl) ?_
  rintro _ _ ⟨g236, hs237, rfl, rfl, h238⟩
  refine t_st rfl (st_build (v := .agg #[.string (s1.Name), .int .i64 (s1.Length), .int .i64 (s1.Mass), .int .i64 (s1.Start), .int .i64 (s1.Power), .int .i64 (s1.Roll), .int .i64 (s1.Drag), .int .i64 (s1.Brake), .int .i64 (s1.Top), .int .i64 (s1.Seats), .slice A2 (l5).length c3, .slice (some ⟨g235, 0, none⟩) 1 1, .int .i64 (x6), .int .i64 (x7), .map (some g236)]) [(0, .agg #[.string (s1.Name), .int .i64 (s1.Length), .int .i64 (s1.Mass), .int .i64 (s1.Start), .int .i64 (s1.Power), .int .i64 (s1.Roll), .int .i64 (s1.Drag), .int .i64 (s1.Brake), .int .i64 (s1.Top), .int .i64 (s1.Seats)]), (1, .slice A2 (l5).length c3), (2, .slice (some ⟨g235, 0, none⟩) 1 1), (3, .int .i64 (x6)), (4, .int .i64 (x7)), (5, .map (some g236))] rfl (fun _ => by kernel_rfl)) ?_
  refine t_do rfl (u_box _ rfl rfl) ?_
  rintro _ _ ⟨g239, rfl, rfl⟩
  refine t_st rfl (st_assign rfl) ?_
  refine t_nil ?_
  refine x_then_normal ?_
  refine c_seq ?_
  refine c_seq ?_
  refine c_region ?_
  refine t_st rfl (st_move rfl) ?_
  refine t_st rfl (st_len rfl sl80) ?_
  refine t_st rfl (st_move rfl) ?_
  refine t_nil ?_
  refine x_then_normal ?_
  refine c_block ?_
  have hb241 := (FZ.bd h4)
  refine c_seg 1 [_, _] (hs237 ++ R) rfl rfl ?_
  have h243 : OS 3 (OT.fr (RT.int .i64)) b.w (.slice (some ⟨g235, 0, none⟩) 1 1) [0] [(g235, Cl 3 [.int .i64 (0)])] := OS.lit [[.int .i64 (0)]] rfl ⟨rfl, trivial⟩ rfl (by decide)
  refine c_front2 [_, _] [(g235, Cl 3 [.int .i64 (0)])] hs237 R rfl ?_
  refine c_front2 [_, _] hs237 [(g235, Cl 3 [.int .i64 (0)])] R rfl ?_
  obtain ⟨l371, hl373, hk374⟩ := bindS hm
  refine c_forS (fun k372 => fun l371 => fun b364 e' hp' => ∃ (A368 : Option Addr), ∃ (c369 : Nat), ∃ (hs367 : Hp), [(9, .pointer (some ⟨g239, 0, none⟩)), (20, .slice A2 (l5).length c3), (21, .int .i64 ((l5.length : Int))), (22, .int .i64 ((k372 : Int)))] = e' ∧ (g239, Cl 170 [.string (s1.Name), .int .i64 (s1.Length), .int .i64 (s1.Mass), .int .i64 (s1.Start), .int .i64 (s1.Power), .int .i64 (s1.Roll), .int .i64 (s1.Drag), .int .i64 (s1.Brake), .int .i64 (s1.Top), .int .i64 (s1.Seats), .slice A2 (l5).length c3, .slice A368 (l371).length c369, .int .i64 (x6), .int .i64 (x7), .map (some g236)]) :: (hs367 ++ (hs237 ++ R)) = hp' ∧ b.Le b364 ∧ OS 3 (OT.fr (RT.int .i64)) b364.w (.slice A368 l371.length c369) l371 hs367) hl373 (e' := [(9, .pointer (some ⟨g239, 0, none⟩)), (20, .slice A2 (l5).length c3), (21, .int .i64 ((l5.length : Int))), (22, .int .i64 0)]) (hp' := (g239, Cl 170 [.string (s1.Name), .int .i64 (s1.Length), .int .i64 (s1.Mass), .int .i64 (s1.Start), .int .i64 (s1.Power), .int .i64 (s1.Roll), .int .i64 (s1.Drag), .int .i64 (s1.Brake), .int .i64 (s1.Top), .int .i64 (s1.Seats), .slice A2 (l5).length c3, .slice (some ⟨g235, 0, none⟩) ([0]).length 1, .int .i64 (x6), .int .i64 (x7), .map (some g236)]) :: ([(g235, Cl 3 [.int .i64 (0)])] ++ (hs237 ++ R))) ⟨rfl, rfl, rfl, rfl, trivial⟩ (.cons_cons _ (.cons _ (sub_app [(g235, Cl 3 [.int .i64 (0)])] (sub_app hs237 (.refl _))))) ⟨(some ⟨g235, 0, none⟩), 1, [(g235, Cl 3 [.int .i64 (0)])], rfl, rfl, (Base.Le.refl _), h243⟩ ?_ ?_
  ·
    rintro k372 l371 b364 _ _ oL240 hknL240 ⟨A368, c369, hs367, rfl, rfl, hle365, h370⟩ hstepL240
    unfold mRunNewRunner_L240 at hstepL240
    have hm := hstepL240
    refine c_seq ?_
    refine c_region ?_
    refine t_st rfl (st_lss_t rfl rfl (by omega)) ?_
    refine t_nil ?_
    refine x_then_normal ?_
    refine c_seq ?_
    refine c_cond_t rfl ?_
    refine c_skip ?_
    refine x_then_normal ?_
    refine c_seq ?_
    refine c_block ?_
    refine c_seq ?_
    refine c_region ?_
    refine t_st rfl (st_move rfl) ?_
    obtain ⟨x375, h376, hm⟩ := bindS hm
    obtain ⟨j377, hj378, hx379⟩ := idx_some h376
    obtain ⟨cs380, hr381, hcs382, hA383, hlt384⟩ := FZ.get (sz := 3) rfl (by decide) (h4.le hle365) hx379
    obtain ⟨_, _, rfl, rfl, ⟨_, _, rfl, rfl, rfl⟩⟩ := hr381
    refine t_st rfl (st_index_old j377 rfl rfl hj378 hlt384 hA383 sl80) ?_
    refine t_st rfl (st_loadN_old (vs := [.int .i64 (x375.Length), .int .i64 (x375.Grade), .int .i64 (x375.Speed)]) 3 rfl agg97 hA383 rfl (fun j u hu => hcs382 j u hu)) ?_
    refine t_do rfl (u_alloc [.int .i64 0, .int .i64 0, .int .i64 0] zero97 rfl) ?_
    rintro _ _ ⟨g385, rfl, rfl⟩
    refine t_st rfl (st_assign rfl) ?_
    refine t_do rfl (u_storeN (vs := [_, _, _]) 0 3 rfl rfl rfl siz97 rfl (by intro u hu; simp only [List.mem_cons, List.not_mem_nil, or_false] at hu; rcases hu with rfl | rfl | rfl <;> rfl) rfl (by simp)) ?_
    rintro _ _ rfl
    refine t_nil ?_
    refine x_then_normal ?_
    obtain ⟨x409, h410, hm⟩ := bindS hm
    obtain ⟨_, h425, hm⟩ := bindS hm
    obtain ⟨_, h427, hm⟩ := bindS hm
    refine D_drawS ((g385, Cl 97 [.int .i64 (x375.Length), .int .i64 (x375.Grade), .int .i64 (x375.Speed)]) :: (hs237 ++ R)) mixed ?_
    refine D_st (Base.Le.refl _) 0 rfl (by kernel_rfl) (by kernel_rfl) (by kernel_rfl) rfl (st_move rfl) (.cons_cons _ (.cons _ (sub_skip hs367 (sub_app hs237 (.refl _))))) ?_
    refine D_st (Base.Le.refl _) 1 rfl (by kernel_rfl) (by kernel_rfl) (by kernel_rfl) rfl (st_move rfl) (.cons_cons _ (.cons _ (sub_skip hs367 (sub_app hs237 (.refl _))))) ?_
    refine D_st (Base.Le.refl _) 2 rfl (by kernel_rfl) (by kernel_rfl) (by kernel_rfl) rfl (st_nil rfl) (.cons_cons _ (.cons _ (sub_skip hs367 (sub_app hs237 (.refl _))))) ?_
    refine D_st (Base.Le.refl _) 3 rfl (by kernel_rfl) (by kernel_rfl) (by kernel_rfl) rfl (st_field rfl fld170_2) (.cons_cons _ (.cons _ (sub_skip hs367 (sub_app hs237 (.refl _))))) ?_
    refine D_st (Base.Le.refl _) 5 rfl (by kernel_rfl) (by kernel_rfl) (by kernel_rfl) rfl (st_move rfl) (.cons_cons _ (.cons _ (sub_skip hs367 (sub_app hs237 (.refl _))))) ?_
    refine D_st (Base.Le.refl _) 6 rfl (by kernel_rfl) (by kernel_rfl) (by kernel_rfl) rfl (st_nil rfl) (.cons_cons _ (.cons _ (sub_skip hs367 (sub_app hs237 (.refl _))))) ?_
    refine D_st (Base.Le.refl _) 7 rfl (by kernel_rfl) (by kernel_rfl) (by kernel_rfl) rfl (st_field rfl fld170_2) (.cons_cons _ (.cons _ (sub_skip hs367 (sub_app hs237 (.refl _))))) ?_
    refine D_st (Base.Le.refl _) 9 rfl (by kernel_rfl) (by kernel_rfl) (by kernel_rfl) rfl (st_move rfl) (.cons_cons _ (.cons _ (sub_skip hs367 (sub_app hs237 (.refl _))))) ?_
    refine D_st (Base.Le.refl _) 12 rfl (by kernel_rfl) (by kernel_rfl) (by kernel_rfl) rfl (st_field rfl fld97_0) (.cons_cons _ (.cons _ (sub_skip hs367 (sub_app hs237 (.refl _))))) ?_
    refine D_st (Base.Le.refl _) 13 rfl (by kernel_rfl) (by kernel_rfl) (by kernel_rfl) rfl (st_load 0 rfl one3 rfl rfl) (.cons_cons _ (.cons _ (sub_skip hs367 (sub_app hs237 (.refl _))))) ?_
    refine D_all [4, 8] (by kernel_rfl) rfl ?_
    refine R_do (Base.Le.refl _) rfl rfl (Stable.does (st_load 1 rfl one24 rfl rfl)) ?_ ?_
    ·
      rintro _ _ ⟨rfl, rfl⟩
      refine ⟨.inr (.cons_cons _ (.cons _ (sub_skip hs367 (sub_app hs237 (.refl _))))), ?_⟩
      refine D_all [8] (by kernel_rfl) rfl ?_
      refine R_do (Base.Le.refl _) rfl rfl (Stable.does (st_load 1 rfl one24 rfl rfl)) ?_ ?_
      ·
        rintro _ _ ⟨rfl, rfl⟩
        refine ⟨.inr (.cons_cons _ (.cons _ (sub_skip hs367 (sub_app hs237 (.refl _))))), ?_⟩
        obtain ⟨j411, hj412, hx413⟩ := idx_some h410
        obtain ⟨cs414, hs419, P420, P421, hq422, hr415, hcs416, hA417, hlt418, hb423, hho424⟩ := OS.get (sz := 1) rfl (by decide) h370 hx413
        obtain ⟨rfl, rfl⟩ := hr415
        refine D_st (Base.Le.refl _) 10 rfl (by kernel_rfl) (by kernel_rfl) (by kernel_rfl) rfl (st_index_old j411 rfl rfl hj412 hlt418 hA417 sl24) (.cons_cons _ (.cons _ (sub_skip hs367 (sub_app hs237 (.refl _))))) ?_
        refine D_all [11] (by kernel_rfl) rfl ?_
        refine R_do (Base.Le.refl _) rfl rfl (Stable.does (st_load_rd rfl one3 (fun w ho => hcs416 w _ ho (.cons _ (.cons _ (List.sublist_append_left _ _))) 0 _ rfl))) ?_ ?_
        ·
          rintro _ _ ⟨rfl, rfl⟩
          refine ⟨.inr (.cons_cons _ (.cons _ (sub_skip hs367 (sub_app hs237 (.refl _))))), ?_⟩
          have h425 := (chk_some h425).2
          refine D_st (Base.Le.refl _) 14 rfl (by kernel_rfl) (by kernel_rfl) (by kernel_rfl) rfl (st_add rfl rfl h425) (.cons_cons _ (.cons _ (sub_skip hs367 (sub_app hs237 (.refl _))))) ?_
          refine D_all [15] (by kernel_rfl) rfl ?_
          refine R_do (Base.Le.refl _) rfl rfl (u_bslice (el := 3) [(0, .int .i64 (x409 + x375.Length))] [.int .i64 (x409 + x375.Length)] rfl (fun _ => by kernel_rfl)) ?_ ?_
          ·
            rintro _ _ ⟨g426, rfl, rfl⟩
            refine ⟨.inr (.cons _ (.cons_cons _ (.cons _ (sub_skip hs367 (sub_app hs237 (.refl _)))))), ?_⟩
            have h427 := room_some h427
            refine D_all [16] (by kernel_rfl) rfl ?_
            refine R_do (Base.Le.refl _) rfl rfl (u_appOS (r := (RT.int .i64)) (l := l371) [_, _, _] (hs237 ++ R) [[.int .i64 (x409 + x375.Length)]] [x409 + x375.Length] rfl (by decide) sl24 inf3 rfl rfl rfl rfl h370 rfl (fun w ho => Rd.own (i := 0) ho rfl) ⟨rfl, trivial⟩ h427) ?_ ?_
            ·
              rintro _ _ ⟨hs428, rfl, h429⟩
              obtain ⟨A430, c431, rfl, _⟩ := h429.form
              refine ⟨.inr (.cons _ (.cons_cons _ (.cons _ (sub_skip hs428 (sub_app hs237 (.refl _)))))), ?_⟩
              refine D_st (Base.Le.refl _) 17 rfl (by kernel_rfl) (by kernel_rfl) (by kernel_rfl) rfl (st_nil rfl) (.cons _ (.cons_cons _ (.cons _ (sub_skip hs428 (sub_app hs237 (.refl _)))))) ?_
              refine D_st (Base.Le.refl _) 18 rfl (by kernel_rfl) (by kernel_rfl) (by kernel_rfl) rfl (st_field rfl fld170_2) (.cons _ (.cons_cons _ (.cons _ (sub_skip hs428 (sub_app hs237 (.refl _)))))) ?_
              refine D_all [19] (by kernel_rfl) rfl ?_
              refine R_do (Base.Le.refl _) rfl rfl (u_store 2 rfl rfl siz24 rfl rfl (by simp)) ?_ ?_
              ·
                rintro _ _ rfl
                refine ⟨.inr (.cons _ (.cons_cons _ (.cons _ (sub_skip hs428 (sub_app hs237 (.refl _)))))), ?_⟩
                refine D_done (by kernel_rfl) ?_
                refine x_block_normal ?_
                refine x_then_normal ?_
                refine c_region ?_
                refine t_st rfl (st_add rfl rfl (by omega)) ?_
                refine t_st rfl (st_move rfl) ?_
                refine t_nil ?_
                refine x_pullb 2 rfl ?_
                refine x_front2 [_, _, _] hs428 hs237 R rfl ?_
                refine x_front2 [_, _, _] hs237 hs428 R rfl ?_
                obtain rfl := some1 hm
                exact x_againS (e' := [(9, .pointer (some ⟨g239, 0, none⟩)), (20, .slice A2 (l5).length c3), (21, .int .i64 ((l5.length : Int))), (22, .int .i64 ((k372 : Int) + 1))]) (hp' := (g239, Cl 170 [.string (s1.Name), .int .i64 (s1.Length), .int .i64 (s1.Mass), .int .i64 (s1.Start), .int .i64 (s1.Power), .int .i64 (s1.Roll), .int .i64 (s1.Drag), .int .i64 (s1.Brake), .int .i64 (s1.Top), .int .i64 (s1.Seats), .slice A2 (l5).length c3, .slice A430 (l371 ++ [x409 + x375.Length]).length c431, .int .i64 (x6), .int .i64 (x7), .map (some g236)]) :: (hs428 ++ (hs237 ++ R))) ⟨rfl, rfl, rfl, rfl, trivial⟩ (.cons_cons _ (.cons _ (.cons _ (sub_app hs428 (sub_app hs237 (.refl _)))))) ⟨A430, c431, hs428, rfl, rfl, (hle365), h429⟩
              exact R_nil
            exact R_nil
          exact R_nil
        exact R_nil
      exact R_nil
    refine R_do (Base.Le.refl _) rfl rfl (Stable.does (st_load 1 rfl one24 rfl rfl)) ?_ ?_
    ·
      rintro _ _ ⟨rfl, rfl⟩
      refine ⟨.inr (.cons_cons _ (.cons _ (sub_skip hs367 (sub_app hs237 (.refl _))))), ?_⟩
      obtain ⟨j411, hj412, hx413⟩ := idx_some h410
      obtain ⟨cs414, hs419, P420, P421, hq422, hr415, hcs416, hA417, hlt418, hb423, hho424⟩ := OS.get (sz := 1) rfl (by decide) h370 hx413
      obtain ⟨rfl, rfl⟩ := hr415
      refine D_st (Base.Le.refl _) 10 rfl (by kernel_rfl) (by kernel_rfl) (by kernel_rfl) rfl (st_index_old j411 rfl rfl hj412 hlt418 hA417 sl24) (.cons_cons _ (.cons _ (sub_skip hs367 (sub_app hs237 (.refl _))))) ?_
      refine D_all [4, 11] (by kernel_rfl) rfl ?_
      refine R_do (Base.Le.refl _) rfl rfl (Stable.does (st_load 1 rfl one24 rfl rfl)) ?_ ?_
      ·
        rintro _ _ ⟨rfl, rfl⟩
        refine ⟨.inr (.cons_cons _ (.cons _ (sub_skip hs367 (sub_app hs237 (.refl _))))), ?_⟩
        refine D_all [11] (by kernel_rfl) rfl ?_
        refine R_do (Base.Le.refl _) rfl rfl (Stable.does (st_load_rd rfl one3 (fun w ho => hcs416 w _ ho (.cons _ (.cons _ (List.sublist_append_left _ _))) 0 _ rfl))) ?_ ?_
        ·
          rintro _ _ ⟨rfl, rfl⟩
          refine ⟨.inr (.cons_cons _ (.cons _ (sub_skip hs367 (sub_app hs237 (.refl _))))), ?_⟩
          have h425 := (chk_some h425).2
          refine D_st (Base.Le.refl _) 14 rfl (by kernel_rfl) (by kernel_rfl) (by kernel_rfl) rfl (st_add rfl rfl h425) (.cons_cons _ (.cons _ (sub_skip hs367 (sub_app hs237 (.refl _))))) ?_
          refine D_all [15] (by kernel_rfl) rfl ?_
          refine R_do (Base.Le.refl _) rfl rfl (u_bslice (el := 3) [(0, .int .i64 (x409 + x375.Length))] [.int .i64 (x409 + x375.Length)] rfl (fun _ => by kernel_rfl)) ?_ ?_
          ·
            rintro _ _ ⟨g426, rfl, rfl⟩
            refine ⟨.inr (.cons _ (.cons_cons _ (.cons _ (sub_skip hs367 (sub_app hs237 (.refl _)))))), ?_⟩
            have h427 := room_some h427
            refine D_all [16] (by kernel_rfl) rfl ?_
            refine R_do (Base.Le.refl _) rfl rfl (u_appOS (r := (RT.int .i64)) (l := l371) [_, _, _] (hs237 ++ R) [[.int .i64 (x409 + x375.Length)]] [x409 + x375.Length] rfl (by decide) sl24 inf3 rfl rfl rfl rfl h370 rfl (fun w ho => Rd.own (i := 0) ho rfl) ⟨rfl, trivial⟩ h427) ?_ ?_
            ·
              rintro _ _ ⟨hs428, rfl, h429⟩
              obtain ⟨A430, c431, rfl, _⟩ := h429.form
              refine ⟨.inr (.cons _ (.cons_cons _ (.cons _ (sub_skip hs428 (sub_app hs237 (.refl _)))))), ?_⟩
              refine D_st (Base.Le.refl _) 17 rfl (by kernel_rfl) (by kernel_rfl) (by kernel_rfl) rfl (st_nil rfl) (.cons _ (.cons_cons _ (.cons _ (sub_skip hs428 (sub_app hs237 (.refl _)))))) ?_
              refine D_st (Base.Le.refl _) 18 rfl (by kernel_rfl) (by kernel_rfl) (by kernel_rfl) rfl (st_field rfl fld170_2) (.cons _ (.cons_cons _ (.cons _ (sub_skip hs428 (sub_app hs237 (.refl _)))))) ?_
              refine D_all [19] (by kernel_rfl) rfl ?_
              refine R_do (Base.Le.refl _) rfl rfl (u_store 2 rfl rfl siz24 rfl rfl (by simp)) ?_ ?_
              ·
                rintro _ _ rfl
                refine ⟨.inr (.cons _ (.cons_cons _ (.cons _ (sub_skip hs428 (sub_app hs237 (.refl _)))))), ?_⟩
                refine D_done (by kernel_rfl) ?_
                refine x_block_normal ?_
                refine x_then_normal ?_
                refine c_region ?_
                refine t_st rfl (st_add rfl rfl (by omega)) ?_
                refine t_st rfl (st_move rfl) ?_
                refine t_nil ?_
                refine x_pullb 2 rfl ?_
                refine x_front2 [_, _, _] hs428 hs237 R rfl ?_
                refine x_front2 [_, _, _] hs237 hs428 R rfl ?_
                obtain rfl := some1 hm
                exact x_againS (e' := [(9, .pointer (some ⟨g239, 0, none⟩)), (20, .slice A2 (l5).length c3), (21, .int .i64 ((l5.length : Int))), (22, .int .i64 ((k372 : Int) + 1))]) (hp' := (g239, Cl 170 [.string (s1.Name), .int .i64 (s1.Length), .int .i64 (s1.Mass), .int .i64 (s1.Start), .int .i64 (s1.Power), .int .i64 (s1.Roll), .int .i64 (s1.Drag), .int .i64 (s1.Brake), .int .i64 (s1.Top), .int .i64 (s1.Seats), .slice A2 (l5).length c3, .slice A430 (l371 ++ [x409 + x375.Length]).length c431, .int .i64 (x6), .int .i64 (x7), .map (some g236)]) :: (hs428 ++ (hs237 ++ R))) ⟨rfl, rfl, rfl, rfl, trivial⟩ (.cons_cons _ (.cons _ (.cons _ (sub_app hs428 (sub_app hs237 (.refl _)))))) ⟨A430, c431, hs428, rfl, rfl, (hle365), h429⟩
              exact R_nil
            exact R_nil
          exact R_nil
        exact R_nil
      refine R_do (Base.Le.refl _) rfl rfl (Stable.does (st_load_rd rfl one3 (fun w ho => hcs416 w _ ho (.cons _ (.cons _ (List.sublist_append_left _ _))) 0 _ rfl))) ?_ ?_
      ·
        rintro _ _ ⟨rfl, rfl⟩
        refine ⟨.inr (.cons_cons _ (.cons _ (sub_skip hs367 (sub_app hs237 (.refl _))))), ?_⟩
        have h425 := (chk_some h425).2
        refine D_st (Base.Le.refl _) 14 rfl (by kernel_rfl) (by kernel_rfl) (by kernel_rfl) rfl (st_add rfl rfl h425) (.cons_cons _ (.cons _ (sub_skip hs367 (sub_app hs237 (.refl _))))) ?_
        refine D_all [4, 15] (by kernel_rfl) rfl ?_
        refine R_do (Base.Le.refl _) rfl rfl (Stable.does (st_load 1 rfl one24 rfl rfl)) ?_ ?_
        ·
          rintro _ _ ⟨rfl, rfl⟩
          refine ⟨.inr (.cons_cons _ (.cons _ (sub_skip hs367 (sub_app hs237 (.refl _))))), ?_⟩
          refine D_all [15] (by kernel_rfl) rfl ?_
          refine R_do (Base.Le.refl _) rfl rfl (u_bslice (el := 3) [(0, .int .i64 (x409 + x375.Length))] [.int .i64 (x409 + x375.Length)] rfl (fun _ => by kernel_rfl)) ?_ ?_
          ·
            rintro _ _ ⟨g426, rfl, rfl⟩
            refine ⟨.inr (.cons _ (.cons_cons _ (.cons _ (sub_skip hs367 (sub_app hs237 (.refl _)))))), ?_⟩
            have h427 := room_some h427
            refine D_all [16] (by kernel_rfl) rfl ?_
            refine R_do (Base.Le.refl _) rfl rfl (u_appOS (r := (RT.int .i64)) (l := l371) [_, _, _] (hs237 ++ R) [[.int .i64 (x409 + x375.Length)]] [x409 + x375.Length] rfl (by decide) sl24 inf3 rfl rfl rfl rfl h370 rfl (fun w ho => Rd.own (i := 0) ho rfl) ⟨rfl, trivial⟩ h427) ?_ ?_
            ·
              rintro _ _ ⟨hs428, rfl, h429⟩
              obtain ⟨A430, c431, rfl, _⟩ := h429.form
              refine ⟨.inr (.cons _ (.cons_cons _ (.cons _ (sub_skip hs428 (sub_app hs237 (.refl _)))))), ?_⟩
              refine D_st (Base.Le.refl _) 17 rfl (by kernel_rfl) (by kernel_rfl) (by kernel_rfl) rfl (st_nil rfl) (.cons _ (.cons_cons _ (.cons _ (sub_skip hs428 (sub_app hs237 (.refl _)))))) ?_
              refine D_st (Base.Le.refl _) 18 rfl (by kernel_rfl) (by kernel_rfl) (by kernel_rfl) rfl (st_field rfl fld170_2) (.cons _ (.cons_cons _ (.cons _ (sub_skip hs428 (sub_app hs237 (.refl _)))))) ?_
              refine D_all [19] (by kernel_rfl) rfl ?_
              refine R_do (Base.Le.refl _) rfl rfl (u_store 2 rfl rfl siz24 rfl rfl (by simp)) ?_ ?_
              ·
                rintro _ _ rfl
                refine ⟨.inr (.cons _ (.cons_cons _ (.cons _ (sub_skip hs428 (sub_app hs237 (.refl _)))))), ?_⟩
                refine D_done (by kernel_rfl) ?_
                refine x_block_normal ?_
                refine x_then_normal ?_
                refine c_region ?_
                refine t_st rfl (st_add rfl rfl (by omega)) ?_
                refine t_st rfl (st_move rfl) ?_
                refine t_nil ?_
                refine x_pullb 2 rfl ?_
                refine x_front2 [_, _, _] hs428 hs237 R rfl ?_
                refine x_front2 [_, _, _] hs237 hs428 R rfl ?_
                obtain rfl := some1 hm
                exact x_againS (e' := [(9, .pointer (some ⟨g239, 0, none⟩)), (20, .slice A2 (l5).length c3), (21, .int .i64 ((l5.length : Int))), (22, .int .i64 ((k372 : Int) + 1))]) (hp' := (g239, Cl 170 [.string (s1.Name), .int .i64 (s1.Length), .int .i64 (s1.Mass), .int .i64 (s1.Start), .int .i64 (s1.Power), .int .i64 (s1.Roll), .int .i64 (s1.Drag), .int .i64 (s1.Brake), .int .i64 (s1.Top), .int .i64 (s1.Seats), .slice A2 (l5).length c3, .slice A430 (l371 ++ [x409 + x375.Length]).length c431, .int .i64 (x6), .int .i64 (x7), .map (some g236)]) :: (hs428 ++ (hs237 ++ R))) ⟨rfl, rfl, rfl, rfl, trivial⟩ (.cons_cons _ (.cons _ (.cons _ (sub_app hs428 (sub_app hs237 (.refl _)))))) ⟨A430, c431, hs428, rfl, rfl, (hle365), h429⟩
              exact R_nil
            exact R_nil
          exact R_nil
        refine R_do (Base.Le.refl _) rfl rfl (u_bslice (el := 3) [(0, .int .i64 (x409 + x375.Length))] [.int .i64 (x409 + x375.Length)] rfl (fun _ => by kernel_rfl)) ?_ ?_
        ·
          rintro _ _ ⟨g426, rfl, rfl⟩
          refine ⟨.inr (.cons _ (.cons_cons _ (.cons _ (sub_skip hs367 (sub_app hs237 (.refl _)))))), ?_⟩
          refine D_all [4] (by kernel_rfl) rfl ?_
          refine R_do (Base.Le.refl _) rfl rfl (Stable.does (st_load 2 rfl one24 rfl rfl)) ?_ ?_
          ·
            rintro _ _ ⟨rfl, rfl⟩
            refine ⟨.inr (.cons _ (.cons_cons _ (.cons _ (sub_skip hs367 (sub_app hs237 (.refl _)))))), ?_⟩
            have h427 := room_some h427
            refine D_all [16] (by kernel_rfl) rfl ?_
            refine R_do (Base.Le.refl _) rfl rfl (u_appOS (r := (RT.int .i64)) (l := l371) [_, _, _] (hs237 ++ R) [[.int .i64 (x409 + x375.Length)]] [x409 + x375.Length] rfl (by decide) sl24 inf3 rfl rfl rfl rfl h370 rfl (fun w ho => Rd.own (i := 0) ho rfl) ⟨rfl, trivial⟩ h427) ?_ ?_
            ·
              rintro _ _ ⟨hs428, rfl, h429⟩
              obtain ⟨A430, c431, rfl, _⟩ := h429.form
              refine ⟨.inr (.cons _ (.cons_cons _ (.cons _ (sub_skip hs428 (sub_app hs237 (.refl _)))))), ?_⟩
              refine D_st (Base.Le.refl _) 17 rfl (by kernel_rfl) (by kernel_rfl) (by kernel_rfl) rfl (st_nil rfl) (.cons _ (.cons_cons _ (.cons _ (sub_skip hs428 (sub_app hs237 (.refl _)))))) ?_
              refine D_st (Base.Le.refl _) 18 rfl (by kernel_rfl) (by kernel_rfl) (by kernel_rfl) rfl (st_field rfl fld170_2) (.cons _ (.cons_cons _ (.cons _ (sub_skip hs428 (sub_app hs237 (.refl _)))))) ?_
              refine D_all [19] (by kernel_rfl) rfl ?_
              refine R_do (Base.Le.refl _) rfl rfl (u_store 2 rfl rfl siz24 rfl rfl (by simp)) ?_ ?_
              ·
                rintro _ _ rfl
                refine ⟨.inr (.cons _ (.cons_cons _ (.cons _ (sub_skip hs428 (sub_app hs237 (.refl _)))))), ?_⟩
                refine D_done (by kernel_rfl) ?_
                refine x_block_normal ?_
                refine x_then_normal ?_
                refine c_region ?_
                refine t_st rfl (st_add rfl rfl (by omega)) ?_
                refine t_st rfl (st_move rfl) ?_
                refine t_nil ?_
                refine x_pullb 2 rfl ?_
                refine x_front2 [_, _, _] hs428 hs237 R rfl ?_
                refine x_front2 [_, _, _] hs237 hs428 R rfl ?_
                obtain rfl := some1 hm
                exact x_againS (e' := [(9, .pointer (some ⟨g239, 0, none⟩)), (20, .slice A2 (l5).length c3), (21, .int .i64 ((l5.length : Int))), (22, .int .i64 ((k372 : Int) + 1))]) (hp' := (g239, Cl 170 [.string (s1.Name), .int .i64 (s1.Length), .int .i64 (s1.Mass), .int .i64 (s1.Start), .int .i64 (s1.Power), .int .i64 (s1.Roll), .int .i64 (s1.Drag), .int .i64 (s1.Brake), .int .i64 (s1.Top), .int .i64 (s1.Seats), .slice A2 (l5).length c3, .slice A430 (l371 ++ [x409 + x375.Length]).length c431, .int .i64 (x6), .int .i64 (x7), .map (some g236)]) :: (hs428 ++ (hs237 ++ R))) ⟨rfl, rfl, rfl, rfl, trivial⟩ (.cons_cons _ (.cons _ (.cons _ (sub_app hs428 (sub_app hs237 (.refl _)))))) ⟨A430, c431, hs428, rfl, rfl, (hle365), h429⟩
              exact R_nil
            exact R_nil
          exact R_nil
        exact R_nil
      exact R_nil
    exact R_nil
  ·
    rintro b364 _ _ ⟨A368, c369, hs367, rfl, rfl, hle365, h370⟩
    have hm := hk374
    refine c_seq ?_
    refine c_region ?_
    refine t_st rfl (st_lss_f rfl rfl (by omega)) ?_
    refine t_nil ?_
    refine x_then_normal ?_
    refine c_seq ?_
    refine c_cond_f rfl ?_
    refine c_exit ?_
    refine x_then_exit ?_
    refine x_then_exit ?_
    refine x_block_out ?_
    refine x_then_normal ?_
    refine c_seq ?_
    refine c_region ?_
    refine t_st rfl (st_move rfl) ?_
    refine t_st rfl (st_assign rfl) ?_
    refine t_nil ?_
    refine x_then_normal ?_
    refine c_ret ?_
    obtain ⟨rfl, rfl, rfl, rfl, rfl, rfl, rfl, rfl, rfl, rfl, rfl, rfl, rfl, rfl, rfl⟩ := some15 hm
    refine x_front2 [_] hs367 hs237 R rfl ?_
    refine x_front2 [_] hs237 hs367 R rfl ?_
    exact retM (rs := [.tmp 8]) [.pointer (some ⟨g239, 0, none⟩)] hle365 (by decide) rfl ⟨rfl, trivial⟩ rfl (hp' := (g239, Cl 170 [.string (s1.Name), .int .i64 (s1.Length), .int .i64 (s1.Mass), .int .i64 (s1.Start), .int .i64 (s1.Power), .int .i64 (s1.Roll), .int .i64 (s1.Drag), .int .i64 (s1.Brake), .int .i64 (s1.Top), .int .i64 (s1.Seats), .slice A2 (l5).length c3, .slice A368 (l371).length c369, .int .i64 (x6), .int .i64 (x7), .map (some g236)]) :: (hs367 ++ (hs237 ++ R))) (.cons_cons _ (sub_app hs367 (sub_app hs237 (.refl _)))) ⟨g239, A2, c3, A368, c369, hs367, g236, hs237, rfl, rfl, (h4.le hle365), h370, (h238.le hle365)⟩

set_option maxRecDepth 20000 in
theorem cRunRunnerGrade (b : Base) (R : Hp) (x11 : Int) (x12 : ByteArray) (x13 : Int) (x14 : Int) (x15 : Int) (x16 : Int) (x17 : Int) (x18 : Int) (x19 : Int) (x20 : Int) (x21 : Int) (l25 : (List ApiPiece)) (x26 : Int) (x27 : Int) (l28 : (List Int)) (l29 : (List (Int × (List Int)))) (g10 : Nat) (A22 : Option Addr) (c23 : Nat) (A3 : Option Addr) (c4 : Nat) (hs2 : Hp) (g8 : Nat) (hs7 : Hp) (h24 : FZ rApiPiece b.w A22 c23 l25) (h5 : OS 3 (OT.fr (RT.int .i64)) b.w (.slice A3 l28.length c4) l28 hs2) (h9 : OM (RT.int .i64) (OT.list 3 (OT.fr (RT.int .i64))) false false b.w g8 l29 hs7) (x318 : Int) (hm : mRunRunnerGrade x11 x12 x13 x14 x15 x16 x17 x18 x19 x20 x21 l25 x26 x27 l28 l29 = some x318) :
    CallsG Tryd.prog 95 [.pointer (some ⟨g10, 0, none⟩), .int .i64 (x11)] b ((g10, Cl 170 [.string (x12), .int .i64 (x13), .int .i64 (x14), .int .i64 (x15), .int .i64 (x16), .int .i64 (x17), .int .i64 (x18), .int .i64 (x19), .int .i64 (x20), .int .i64 (x21), .slice A22 (l25).length c23, .slice A3 (l28).length c4, .int .i64 (x26), .int .i64 (x27), .map (some g8)]) :: (hs2 ++ (hs7 ++ R))) (fun v b' hp' => .int .i64 (x318) = v ∧ (g10, Cl 170 [.string (x12), .int .i64 (x13), .int .i64 (x14), .int .i64 (x15), .int .i64 (x16), .int .i64 (x17), .int .i64 (x18), .int .i64 (x19), .int .i64 (x20), .int .i64 (x21), .slice A22 (l25).length c23, .slice A3 (l28).length c4, .int .i64 (x26), .int .i64 (x27), .map (some g8)]) :: (hs2 ++ (hs7 ++ R)) = hp') := by
  refine fn_enterG 36 Tryd.func95 rfl Tryd.ntmps95 rfl ?_
  unfold mRunRunnerGrade at hm
  refine c_seq ?_
  refine c_region ?_
  refine t_st rfl (st_assign rfl) ?_
  refine t_nil ?_
  refine x_then_normal ?_
  refine c_seq ?_
  refine c_region ?_
  refine t_st rfl (st_assign rfl) ?_
  refine t_nil ?_
  refine x_then_normal ?_
  obtain ⟨x458, hj459, hk459⟩ := bindS hm
  refine c_join (fun b456 e' hp' => [(0, .pointer (some ⟨g10, 0, none⟩)), (5, .int .i64 (x458))] = e' ∧ (g10, Cl 170 [.string (x12), .int .i64 (x13), .int .i64 (x14), .int .i64 (x15), .int .i64 (x16), .int .i64 (x17), .int .i64 (x18), .int .i64 (x19), .int .i64 (x20), .int .i64 (x21), .slice A22 (l25).length c23, .slice A3 (l28).length c4, .int .i64 (x26), .int .i64 (x27), .map (some g8)]) :: (hs2 ++ (hs7 ++ R)) = hp' ∧ b.Le b456) ?_ ?_
  ·
    have hm := hj459
    refine c_block ?_
    refine c_front2 [_] hs2 hs7 R rfl ?_
    refine c_front2 [_] hs7 hs2 R rfl ?_
    refine c_loopM (fun x552 => fun b550 e' hp' => [(0, .pointer (some ⟨g10, 0, none⟩)), (1, .int .i64 (x11)), (5, .int .i64 (x552))] = e' ∧ (g10, Cl 170 [.string (x12), .int .i64 (x13), .int .i64 (x14), .int .i64 (x15), .int .i64 (x16), .int .i64 (x17), .int .i64 (x18), .int .i64 (x19), .int .i64 (x20), .int .i64 (x21), .slice A22 (l25).length c23, .slice A3 (l28).length c4, .int .i64 (x26), .int .i64 (x27), .map (some g8)]) :: (hs2 ++ (hs7 ++ R)) = hp' ∧ b.Le b550) hm (e' := [(0, .pointer (some ⟨g10, 0, none⟩)), (1, .int .i64 (x11)), (5, .int .i64 (0))]) (hp' := (g10, Cl 170 [.string (x12), .int .i64 (x13), .int .i64 (x14), .int .i64 (x15), .int .i64 (x16), .int .i64 (x17), .int .i64 (x18), .int .i64 (x19), .int .i64 (x20), .int .i64 (x21), .slice A22 (l25).length c23, .slice A3 (l28).length c4, .int .i64 (x26), .int .i64 (x27), .map (some g8)]) :: (hs2 ++ (hs7 ++ R))) ⟨rfl, rfl, rfl, trivial⟩ (.cons_cons _ (sub_app hs2 (sub_app hs7 (.refl _)))) ⟨rfl, rfl, (Base.Le.refl _)⟩ ?_
    rintro x552 b550 _ _ oL460 ⟨rfl, rfl, hle551⟩ hstepL460 houtL460
    unfold mRunRunnerGrade_L460 at hstepL460
    have hm := hstepL460
    refine c_seq ?_
    obtain ⟨x574, hj575, hk575⟩ := bindS hm
    refine c_join (fun b572 e' hp' => [(0, .pointer (some ⟨g10, 0, none⟩)), (1, .int .i64 (x11)), (5, .int .i64 (x552)), (25, .bool (x574))] = e' ∧ (g10, Cl 170 [.string (x12), .int .i64 (x13), .int .i64 (x14), .int .i64 (x15), .int .i64 (x16), .int .i64 (x17), .int .i64 (x18), .int .i64 (x19), .int .i64 (x20), .int .i64 (x21), .slice A22 (l25).length c23, .slice A3 (l28).length c4, .int .i64 (x26), .int .i64 (x27), .map (some g8)]) :: (hs2 ++ (hs7 ++ R)) = hp' ∧ b550.Le b572) ?_ ?_
    ·
      have hm := hj575
      refine c_region ?_
      refine t_st rfl (st_move rfl) ?_
      obtain ⟨_, h576, hm⟩ := bindS hm
      have h576 := (chk_some h576).2
      refine t_st rfl (st_add rfl rfl h576) ?_
      refine t_st rfl (st_move rfl) ?_
      refine t_st rfl (st_nil rfl) ?_
      refine t_st rfl (st_field rfl fld170_1) ?_
      refine t_st rfl (st_load 0 rfl one80 rfl rfl) ?_
      refine t_st rfl (st_len rfl sl80) ?_
      refine t_bool rfl (st_lss rfl rfl) (fun hc577 => ?_) (fun hc577 => ?_)
      ·
        rw [if_pos hc577] at hm
        refine t_st rfl (st_move rfl) ?_
        refine t_yes 14 rfl rfl rfl ?_
        refine t_st rfl (st_move rfl) ?_
        refine t_yes 14 rfl rfl rfl ?_
        refine t_st rfl (st_nil rfl) ?_
        refine t_yes 14 rfl rfl rfl ?_
        refine t_st rfl (st_field rfl fld170_2) ?_
        refine t_yes 14 rfl rfl rfl ?_
        refine t_st rfl (st_load 0 rfl one24 rfl rfl) ?_
        refine t_yes 14 rfl rfl rfl ?_
        refine t_st rfl (st_move rfl) ?_
        refine t_yes 14 rfl rfl rfl ?_
        obtain ⟨_, h578, hm⟩ := bindS hm
        have h578 := (chk_some h578).2
        refine t_st rfl (st_add rfl rfl h578) ?_
        refine t_yes 14 rfl rfl rfl ?_
        obtain ⟨x579, h580, hm⟩ := bindS hm
        obtain ⟨j581, hj582, hx583⟩ := idx_some h580
        obtain ⟨cs584, hs589, P590, P591, hq592, hr585, hcs586, hA587, hlt588, hb593, hho594⟩ := OS.get (sz := 1) rfl (by decide) (h5.le hle551) hx583
        obtain ⟨rfl, rfl⟩ := hr585
        refine t_st rfl (st_index_old j581 rfl rfl hj582 hlt588 hA587 sl24) ?_
        refine t_yes 14 rfl rfl rfl ?_
        refine t_st rfl (st_load_rd rfl one3 (fun w ho => hcs586 w _ ho (.cons _ (List.sublist_append_left _ _)) 0 _ rfl)) ?_
        refine t_yes 14 rfl rfl rfl ?_
        refine t_st rfl (st_move rfl) ?_
        refine t_yes 14 rfl rfl rfl ?_
        refine t_st rfl (st_leq rfl rfl) ?_
        refine t_st rfl (st_pick_t rfl rfl) ?_
        refine t_nil ?_
        obtain rfl := some1 hm
        refine x_front2 [_] hs2 hs7 R rfl ?_
        refine x_front2 [_] hs7 hs2 R rfl ?_
        exact x_join (e' := [(0, .pointer (some ⟨g10, 0, none⟩)), (1, .int .i64 (x11)), (5, .int .i64 (x552)), (25, .bool (decide (x579 ≤ x11)))]) (hp' := (g10, Cl 170 [.string (x12), .int .i64 (x13), .int .i64 (x14), .int .i64 (x15), .int .i64 (x16), .int .i64 (x17), .int .i64 (x18), .int .i64 (x19), .int .i64 (x20), .int .i64 (x21), .slice A22 (l25).length c23, .slice A3 (l28).length c4, .int .i64 (x26), .int .i64 (x27), .map (some g8)]) :: (hs2 ++ (hs7 ++ R))) ⟨rfl, rfl, rfl, rfl, trivial⟩ (.cons_cons _ (sub_app hs2 (sub_app hs7 (.refl _)))) ⟨rfl, rfl, (Base.Le.refl _)⟩
      ·
        rw [if_neg hc577] at hm
        refine t_st rfl (st_move rfl) ?_
        refine t_no 14 rfl rfl rfl rfl rfl ?_
        refine t_no 14 rfl rfl rfl rfl rfl ?_
        refine t_no 14 rfl rfl rfl rfl rfl ?_
        refine t_no 14 rfl rfl rfl rfl rfl ?_
        refine t_no 14 rfl rfl rfl rfl rfl ?_
        refine t_no 14 rfl rfl rfl rfl rfl ?_
        refine t_no 14 rfl rfl rfl rfl rfl ?_
        refine t_no 14 rfl rfl rfl rfl rfl ?_
        refine t_no 14 rfl rfl rfl rfl rfl ?_
        refine t_no 14 rfl rfl rfl rfl rfl ?_
        refine t_st rfl (st_pick_f rfl rfl) ?_
        refine t_nil ?_
        obtain rfl := some1 hm
        refine x_front2 [_] hs2 hs7 R rfl ?_
        refine x_front2 [_] hs7 hs2 R rfl ?_
        exact x_join (e' := [(0, .pointer (some ⟨g10, 0, none⟩)), (1, .int .i64 (x11)), (5, .int .i64 (x552)), (25, .bool (false))]) (hp' := (g10, Cl 170 [.string (x12), .int .i64 (x13), .int .i64 (x14), .int .i64 (x15), .int .i64 (x16), .int .i64 (x17), .int .i64 (x18), .int .i64 (x19), .int .i64 (x20), .int .i64 (x21), .slice A22 (l25).length c23, .slice A3 (l28).length c4, .int .i64 (x26), .int .i64 (x27), .map (some g8)]) :: (hs2 ++ (hs7 ++ R))) ⟨rfl, rfl, rfl, rfl, trivial⟩ (.cons_cons _ (sub_app hs2 (sub_app hs7 (.refl _)))) ⟨rfl, rfl, (Base.Le.refl _)⟩
    ·
      rintro b572 _ _ ⟨rfl, rfl, hle573⟩
      have hm := hk575
      refine c_cond _ rfl (fun hc595 => ?_) (fun hc595 => ?_)
      ·
        rw [if_pos hc595] at hm
        refine c_skip ?_
        refine x_then_normal ?_
        refine c_block ?_
        refine c_region ?_
        refine t_st rfl (st_move rfl) ?_
        obtain ⟨_, h596, hm⟩ := bindS hm
        have h596 := (chk_some h596).2
        refine t_st rfl (st_add rfl rfl h596) ?_
        refine t_st rfl (st_assign rfl) ?_
        refine t_nil ?_
        refine x_block_normal ?_
        refine x_front2 [_] hs2 hs7 R rfl ?_
        refine x_front2 [_] hs7 hs2 R rfl ?_
        exact x_againM (x552 + 1) (Option.some.inj hm).symm (e' := [(0, .pointer (some ⟨g10, 0, none⟩)), (1, .int .i64 (x11)), (5, .int .i64 (x552 + 1))]) (hp' := (g10, Cl 170 [.string (x12), .int .i64 (x13), .int .i64 (x14), .int .i64 (x15), .int .i64 (x16), .int .i64 (x17), .int .i64 (x18), .int .i64 (x19), .int .i64 (x20), .int .i64 (x21), .slice A22 (l25).length c23, .slice A3 (l28).length c4, .int .i64 (x26), .int .i64 (x27), .map (some g8)]) :: (hs2 ++ (hs7 ++ R))) ⟨rfl, rfl, rfl, trivial⟩ (.cons_cons _ (sub_app hs2 (sub_app hs7 (.refl _)))) ⟨rfl, rfl, ((hle551.trans hle573))⟩
      ·
        rw [if_neg (fun hh => Bool.noConfusion (hh.symm.trans hc595))] at hm
        refine c_exit ?_
        refine x_then_exit ?_
        refine x_then_exit ?_
        refine x_block_out ?_
        have hm := congrArg some (houtL460 _ (Option.some.inj hm).symm)
        obtain rfl := some1 hm
        refine x_front2 [_] hs2 hs7 R rfl ?_
        refine x_front2 [_] hs7 hs2 R rfl ?_
        exact x_join (e' := [(0, .pointer (some ⟨g10, 0, none⟩)), (5, .int .i64 (x552))]) (hp' := (g10, Cl 170 [.string (x12), .int .i64 (x13), .int .i64 (x14), .int .i64 (x15), .int .i64 (x16), .int .i64 (x17), .int .i64 (x18), .int .i64 (x19), .int .i64 (x20), .int .i64 (x21), .slice A22 (l25).length c23, .slice A3 (l28).length c4, .int .i64 (x26), .int .i64 (x27), .map (some g8)]) :: (hs2 ++ (hs7 ++ R))) ⟨rfl, rfl, trivial⟩ (.cons_cons _ (sub_app hs2 (sub_app hs7 (.refl _)))) ⟨rfl, rfl, (hle551.trans hle573)⟩
  ·
    rintro b456 _ _ ⟨rfl, rfl, hle457⟩
    have hm := hk459
    refine c_seq ?_
    refine c_region ?_
    refine t_st rfl (st_move rfl) ?_
    refine t_st rfl (st_nil rfl) ?_
    refine t_st rfl (st_field rfl fld170_1) ?_
    refine t_st rfl (st_load 0 rfl one80 rfl rfl) ?_
    refine t_st rfl (st_move rfl) ?_
    obtain ⟨x597, h598, hm⟩ := bindS hm
    obtain ⟨j599, hj600, hx601⟩ := idx_some h598
    obtain ⟨cs602, hr603, hcs604, hA605, hlt606⟩ := FZ.get (sz := 3) rfl (by decide) (h24.le hle457) hx601
    obtain ⟨_, _, rfl, rfl, ⟨_, _, rfl, rfl, rfl⟩⟩ := hr603
    refine t_st rfl (st_index_old j599 rfl rfl hj600 hlt606 hA605 sl80) ?_
    refine t_st rfl (st_field_old rfl hA605 fld97_1) ?_
    refine t_st rfl (st_load_old rfl one3 (hcs604 1 _ rfl)) ?_
    refine t_st rfl (st_assign rfl) ?_
    refine t_nil ?_
    refine x_then_normal ?_
    refine c_ret ?_
    obtain rfl := some1 hm
    refine x_front2 [_] hs2 hs7 R rfl ?_
    refine x_front2 [_] hs7 hs2 R rfl ?_
    exact retM (rs := [.tmp 4]) [.int .i64 (x597.Grade)] hle457 (by decide) rfl ⟨rfl, trivial⟩ rfl (hp' := (g10, Cl 170 [.string (x12), .int .i64 (x13), .int .i64 (x14), .int .i64 (x15), .int .i64 (x16), .int .i64 (x17), .int .i64 (x18), .int .i64 (x19), .int .i64 (x20), .int .i64 (x21), .slice A22 (l25).length c23, .slice A3 (l28).length c4, .int .i64 (x26), .int .i64 (x27), .map (some g8)]) :: (hs2 ++ (hs7 ++ R))) (.cons_cons _ (sub_app hs2 (sub_app hs7 (.refl _)))) ⟨rfl, rfl⟩

set_option maxRecDepth 20000 in
theorem cRunPull (b : Base) (R : Hp) (s1 : ApiStock) (x2 : Int) (x9 : Int) (hm : mRunPull s1 x2 = some x9) :
    CallsG Tryd.prog 111 [.agg #[.string (s1.Name), .int .i64 (s1.Length), .int .i64 (s1.Mass), .int .i64 (s1.Start), .int .i64 (s1.Power), .int .i64 (s1.Roll), .int .i64 (s1.Drag), .int .i64 (s1.Brake), .int .i64 (s1.Top), .int .i64 (s1.Seats)], .int .i64 (x2)] b (R) (fun v b' hp' => .int .i64 (x9) = v ∧ R = hp') := by
  refine fn_enterG 16 Tryd.func111 rfl Tryd.ntmps111 rfl ?_
  unfold mRunPull at hm
  refine c_seq ?_
  refine c_region ?_
  refine t_do rfl (u_box _ rfl rfl) ?_
  rintro _ _ ⟨g10, rfl, rfl⟩
  refine t_st rfl (st_assign rfl) ?_
  refine t_nil ?_
  refine x_then_normal ?_
  refine c_seq ?_
  refine c_seq ?_
  refine c_region ?_
  refine t_st rfl (st_move rfl) ?_
  refine t_st rfl (st_eql rfl rfl) ?_
  refine t_nil ?_
  refine x_then_normal ?_
  refine c_cond _ rfl (fun hc11 => ?_) (fun hc11 => ?_)
  ·
    rw [if_pos (of_decide_eq_true hc11)] at hm
    refine c_seq ?_
    refine c_region ?_
    refine t_st rfl (st_field rfl fld43_3) ?_
    refine t_st rfl (st_load 0 rfl one3 rfl rfl) ?_
    refine t_st rfl (st_assign rfl) ?_
    refine t_nil ?_
    refine x_then_normal ?_
    refine c_ret ?_
    refine x_then_ret ?_
    obtain rfl := some1 hm
    exact retM (rs := [.tmp 4]) [.int .i64 (s1.Start)] (Base.Le.refl _) (by decide) rfl ⟨rfl, trivial⟩ rfl (hp' := R) (.cons _ (.refl _)) ⟨rfl, rfl⟩
  ·
    rw [if_neg (of_decide_eq_false hc11)] at hm
    refine c_skip ?_
    refine x_then_normal ?_
    refine c_seq ?_
    obtain ⟨_, h14, hm⟩ := bindS hm
    obtain ⟨_, h15, hm⟩ := bindS hm
    refine D_drawS ((g10, Cl 43 [.string (s1.Name), .int .i64 (s1.Length), .int .i64 (s1.Mass), .int .i64 (s1.Start), .int .i64 (s1.Power), .int .i64 (s1.Roll), .int .i64 (s1.Drag), .int .i64 (s1.Brake), .int .i64 (s1.Top), .int .i64 (s1.Seats)]) :: R) mixed ?_
    refine D_st (Base.Le.refl _) 0 rfl (by kernel_rfl) (by kernel_rfl) (by kernel_rfl) rfl (st_field rfl fld43_3) (.cons_cons _ (.refl _)) ?_
    refine D_st (Base.Le.refl _) 1 rfl (by kernel_rfl) (by kernel_rfl) (by kernel_rfl) rfl (st_load 0 rfl one3 rfl rfl) (.cons_cons _ (.refl _)) ?_
    refine D_st (Base.Le.refl _) 2 rfl (by kernel_rfl) (by kernel_rfl) (by kernel_rfl) rfl (st_field rfl fld43_4) (.cons_cons _ (.refl _)) ?_
    refine D_st (Base.Le.refl _) 3 rfl (by kernel_rfl) (by kernel_rfl) (by kernel_rfl) rfl (st_load 0 rfl one3 rfl rfl) (.cons_cons _ (.refl _)) ?_
    refine D_st (Base.Le.refl _) 4 rfl (by kernel_rfl) (by kernel_rfl) (by kernel_rfl) rfl (st_move rfl) (.cons_cons _ (.refl _)) ?_
    have h15 := (chk_some h15).2
    refine D_st (Base.Le.refl _) 5 rfl (by kernel_rfl) (by kernel_rfl) (by kernel_rfl) rfl (st_quo rfl rfl (ne0_some h14) h15) (.cons_cons _ (.refl _)) ?_
    refine D_st (Base.Le.refl _) 6 rfl (by kernel_rfl) (by kernel_rfl) (by kernel_rfl) rfl (st_min rfl rfl) (.cons_cons _ (.refl _)) ?_
    refine D_st (Base.Le.refl _) 7 rfl (by kernel_rfl) (by kernel_rfl) (by kernel_rfl) rfl (st_assign rfl) (.cons_cons _ (.refl _)) ?_
    refine D_done (by kernel_rfl) ?_
    refine x_then_normal ?_
    refine c_ret ?_
    obtain rfl := some1 hm
    exact retM (rs := [.tmp 4]) [.int .i64 (min s1.Start (Int.tdiv s1.Power x2))] (Base.Le.refl _) (by decide) rfl ⟨rfl, trivial⟩ rfl (hp' := R) (.cons _ (.refl _)) ⟨rfl, rfl⟩

set_option maxRecDepth 20000 in
theorem cRunGain (b : Base) (R : Hp) (s1 : ApiStock) (x2 : Int) (x3 : Int) (x21 : Int) (hm : mRunGain s1 x2 x3 = some x21) :
    CallsG Tryd.prog 96 [.agg #[.string (s1.Name), .int .i64 (s1.Length), .int .i64 (s1.Mass), .int .i64 (s1.Start), .int .i64 (s1.Power), .int .i64 (s1.Roll), .int .i64 (s1.Drag), .int .i64 (s1.Brake), .int .i64 (s1.Top), .int .i64 (s1.Seats)], .int .i64 (x2), .int .i64 (x3)] b (R) (fun v b' hp' => .int .i64 (x21) = v ∧ R = hp') := by
  refine fn_enterG 22 Tryd.func96 rfl Tryd.ntmps96 rfl ?_
  unfold mRunGain at hm
  refine c_seq ?_
  refine c_region ?_
  refine t_do rfl (u_box _ rfl rfl) ?_
  rintro _ _ ⟨g22, rfl, rfl⟩
  refine t_st rfl (st_assign rfl) ?_
  refine t_nil ?_
  refine x_then_normal ?_
  refine c_seq ?_
  obtain ⟨x31, hcl32, hm⟩ := bindS hm
  obtain ⟨_, h33, hm⟩ := bindS hm
  obtain ⟨_, h34, hm⟩ := bindS hm
  obtain ⟨_, h35, hm⟩ := bindS hm
  obtain ⟨_, h36, hm⟩ := bindS hm
  obtain ⟨_, h37, hm⟩ := bindS hm
  obtain ⟨_, h38, hm⟩ := bindS hm
  refine D_drawS ((g22, Cl 43 [.string (s1.Name), .int .i64 (s1.Length), .int .i64 (s1.Mass), .int .i64 (s1.Start), .int .i64 (s1.Power), .int .i64 (s1.Roll), .int .i64 (s1.Drag), .int .i64 (s1.Brake), .int .i64 (s1.Top), .int .i64 (s1.Seats)]) :: R) mixed ?_
  refine D_st (Base.Le.refl _) 0 rfl (by kernel_rfl) (by kernel_rfl) (by kernel_rfl) rfl (st_loadD (vs := [_, _, _, _, _, _, _, _, _, _]) 0 10 rfl agg43 rfl rfl rfl) (.cons_cons _ (.refl _)) ?_
  refine D_st (Base.Le.refl _) 1 rfl (by kernel_rfl) (by kernel_rfl) (by kernel_rfl) rfl (st_move rfl) (.cons_cons _ (.refl _)) ?_
  refine D_st (Base.Le.refl _) 3 rfl (by kernel_rfl) (by kernel_rfl) (by kernel_rfl) rfl (st_field rfl fld43_5) (.cons_cons _ (.refl _)) ?_
  refine D_st (Base.Le.refl _) 4 rfl (by kernel_rfl) (by kernel_rfl) (by kernel_rfl) rfl (st_load 0 rfl one3 rfl rfl) (.cons_cons _ (.refl _)) ?_
  refine D_st (Base.Le.refl _) 6 rfl (by kernel_rfl) (by kernel_rfl) (by kernel_rfl) rfl (st_move rfl) (.cons_cons _ (.refl _)) ?_
  refine D_st (Base.Le.refl _) 7 rfl (by kernel_rfl) (by kernel_rfl) (by kernel_rfl) rfl (st_move rfl) (.cons_cons _ (.refl _)) ?_
  have h34 := (chk_some h34).2
  refine D_st (Base.Le.refl _) 8 rfl (by kernel_rfl) (by kernel_rfl) (by kernel_rfl) rfl (st_mul rfl rfl h34) (.cons_cons _ (.refl _)) ?_
  refine D_st (Base.Le.refl _) 9 rfl (by kernel_rfl) (by kernel_rfl) (by kernel_rfl) rfl (st_field rfl fld43_6) (.cons_cons _ (.refl _)) ?_
  refine D_st (Base.Le.refl _) 10 rfl (by kernel_rfl) (by kernel_rfl) (by kernel_rfl) rfl (st_load 0 rfl one3 rfl rfl) (.cons_cons _ (.refl _)) ?_
  have h36 := (chk_some h36).2
  refine D_st (Base.Le.refl _) 11 rfl (by kernel_rfl) (by kernel_rfl) (by kernel_rfl) rfl (st_quo rfl rfl (ne0_some h35) h36) (.cons_cons _ (.refl _)) ?_
  refine D_st (Base.Le.refl _) 13 rfl (by kernel_rfl) (by kernel_rfl) (by kernel_rfl) rfl (st_move rfl) (.cons_cons _ (.refl _)) ?_
  refine D_all [2] (by kernel_rfl) rfl ?_
  refine R_do (Base.Le.refl _) rfl rfl (u_callW0 _ call111 rfl (fun w ho => cRunPull _ [] s1 x2 x31 hcl32) (fun _ _ _ h => h.2.symm)) ?_ ?_
  ·
    rintro _ _ ⟨⟨_, rfl, _⟩, rfl⟩
    refine ⟨.inr (.cons_cons _ (.refl _)), ?_⟩
    have h33 := (chk_some h33).2
    refine D_st (Base.Le.refl _) 5 rfl (by kernel_rfl) (by kernel_rfl) (by kernel_rfl) rfl (st_sub rfl rfl h33) (.cons_cons _ (.refl _)) ?_
    have h37 := (chk_some h37).2
    refine D_st (Base.Le.refl _) 12 rfl (by kernel_rfl) (by kernel_rfl) (by kernel_rfl) rfl (st_sub rfl rfl h37) (.cons_cons _ (.refl _)) ?_
    have h38 := (chk_some h38).2
    refine D_st (Base.Le.refl _) 14 rfl (by kernel_rfl) (by kernel_rfl) (by kernel_rfl) rfl (st_sub rfl rfl h38) (.cons_cons _ (.refl _)) ?_
    refine D_st (Base.Le.refl _) 15 rfl (by kernel_rfl) (by kernel_rfl) (by kernel_rfl) rfl (st_assign rfl) (.cons_cons _ (.refl _)) ?_
    refine D_done (by kernel_rfl) ?_
    refine x_then_normal ?_
    refine c_ret ?_
    obtain rfl := some1 hm
    exact retM (rs := [.tmp 6]) [.int .i64 (((x31 - s1.Roll) - (Int.tdiv (x2 * x2) s1.Drag)) - x3)] (Base.Le.refl _) (by decide) rfl ⟨rfl, trivial⟩ rfl (hp' := R) (.cons _ (.refl _)) ⟨rfl, rfl⟩
  exact R_nil

set_option maxRecDepth 20000 in
theorem cRunRunnerInto (b : Base) (R : Hp) (x11 : Int) (x12 : Int) (x13 : ByteArray) (x14 : Int) (x15 : Int) (x16 : Int) (x17 : Int) (x18 : Int) (x19 : Int) (x20 : Int) (x21 : Int) (x22 : Int) (l26 : (List ApiPiece)) (x27 : Int) (x28 : Int) (l29 : (List Int)) (l30 : (List (Int × (List Int)))) (g10 : Nat) (A23 : Option Addr) (c24 : Nat) (A3 : Option Addr) (c4 : Nat) (hs2 : Hp) (g8 : Nat) (hs7 : Hp) (h25 : FZ rApiPiece b.w A23 c24 l26) (h5 : OS 3 (OT.fr (RT.int .i64)) b.w (.slice A3 l29.length c4) l29 hs2) (h9 : OM (RT.int .i64) (OT.list 3 (OT.fr (RT.int .i64))) false false b.w g8 l30 hs7) (x669 : Int) (l670 : (List (Int × (List Int)))) (hm : mRunRunnerInto x11 x12 x13 x14 x15 x16 x17 x18 x19 x20 x21 x22 l26 x27 x28 l29 l30 = some (x669, l670)) :
    CallsG Tryd.prog 112 [.pointer (some ⟨g10, 0, none⟩), .int .i64 (x11), .int .i64 (x12)] b ((g10, Cl 170 [.string (x13), .int .i64 (x14), .int .i64 (x15), .int .i64 (x16), .int .i64 (x17), .int .i64 (x18), .int .i64 (x19), .int .i64 (x20), .int .i64 (x21), .int .i64 (x22), .slice A23 (l26).length c24, .slice A3 (l29).length c4, .int .i64 (x27), .int .i64 (x28), .map (some g8)]) :: (hs2 ++ (hs7 ++ R))) (fun v b' hp' => ∃ (hs667 : Hp), .int .i64 (x669) = v ∧ (g10, Cl 170 [.string (x13), .int .i64 (x14), .int .i64 (x15), .int .i64 (x16), .int .i64 (x17), .int .i64 (x18), .int .i64 (x19), .int .i64 (x20), .int .i64 (x21), .int .i64 (x22), .slice A23 (l26).length c24, .slice A3 (l29).length c4, .int .i64 (x27), .int .i64 (x28), .map (some g8)]) :: (hs2 ++ (hs667 ++ R)) = hp' ∧ OM (RT.int .i64) (OT.list 3 (OT.fr (RT.int .i64))) false false b'.w g8 l670 hs667) := by
  refine fn_enterG 62 Tryd.func112 rfl Tryd.ntmps112 rfl ?_
  unfold mRunRunnerInto at hm
  refine c_seq ?_
  refine c_region ?_
  refine t_st rfl (st_assign rfl) ?_
  refine t_nil ?_
  refine x_then_normal ?_
  refine c_seq ?_
  refine c_seq ?_
  refine c_region ?_
  refine t_st rfl (st_move rfl) ?_
  refine t_st rfl (st_move rfl) ?_
  refine t_st rfl (st_leq rfl rfl) ?_
  refine t_nil ?_
  refine x_then_normal ?_
  refine c_cond _ rfl (fun hc671 => ?_) (fun hc671 => ?_)
  ·
    rw [if_pos (of_decide_eq_true hc671)] at hm
    refine c_seq ?_
    refine c_region ?_
    refine t_st rfl (st_assign rfl) ?_
    refine t_nil ?_
    refine x_then_normal ?_
    refine c_ret ?_
    refine x_then_ret ?_
    obtain ⟨rfl, rfl⟩ := some2 hm
    refine x_front2 [_] hs2 hs7 R rfl ?_
    refine x_front2 [_] hs7 hs2 R rfl ?_
    exact retM (rs := [.tmp 6]) [.int .i64 (0)] (Base.Le.refl _) (by decide) rfl ⟨rfl, trivial⟩ rfl (hp' := (g10, Cl 170 [.string (x13), .int .i64 (x14), .int .i64 (x15), .int .i64 (x16), .int .i64 (x17), .int .i64 (x18), .int .i64 (x19), .int .i64 (x20), .int .i64 (x21), .int .i64 (x22), .slice A23 (l26).length c24, .slice A3 (l29).length c4, .int .i64 (x27), .int .i64 (x28), .map (some g8)]) :: (hs2 ++ (hs7 ++ R))) (.cons_cons _ (sub_app hs2 (sub_app hs7 (.refl _)))) ⟨hs7, rfl, rfl, h9⟩
  ·
    rw [if_neg (of_decide_eq_false hc671)] at hm
    refine c_skip ?_
    refine x_then_normal ?_
    refine c_seq ?_
    refine c_region ?_
    refine t_st rfl (st_move rfl) ?_
    refine t_st rfl (st_nil rfl) ?_
    refine t_st rfl (st_field rfl fld170_5) ?_
    refine t_st rfl (st_load 0 rfl one168 rfl rfl) ?_
    refine t_st rfl (st_move rfl) ?_
    obtain ⟨A672, c673, hs674, hs675, h676, hpm677, h678, hr679⟩ := OM.take kok3 h9 (key := .int .i64 (x12)) (k := x12) rfl mapt168 zero24
    refine t_st rfl (st_mlook (ok := false) rfl rfl (fun w ho => hr679 _ w ho (.cons _ (sub_skip hs2 (List.sublist_append_left _ _))))) ?_
    refine t_front2 [_] hs2 hs7 R rfl ?_
    refine t_prm [_] hs7 hs675 hs674 (hs2 ++ R) rfl hpm677 ?_
    refine t_st rfl (st_assign rfl) ?_
    refine t_nil ?_
    refine x_then_normal ?_
    obtain ⟨l986, hj987, hk987⟩ := bindS hm
    refine c_join (fun b979 e' hp' => ∃ (A983 : Option Addr), ∃ (c984 : Nat), ∃ (hs982 : Hp), [(0, .pointer (some ⟨g10, 0, none⟩)), (1, .int .i64 (x11)), (2, .int .i64 (x12)), (7, .slice A983 (l986).length c984)] = e' ∧ (g10, Cl 170 [.string (x13), .int .i64 (x14), .int .i64 (x15), .int .i64 (x16), .int .i64 (x17), .int .i64 (x18), .int .i64 (x19), .int .i64 (x20), .int .i64 (x21), .int .i64 (x22), .slice A23 (l26).length c24, .slice A3 (l29).length c4, .int .i64 (x27), .int .i64 (x28), .map (some g8)]) :: (hs982 ++ (hs2 ++ (hs675 ++ R))) = hp' ∧ b.Le b979 ∧ OS 3 (OT.fr (RT.int .i64)) b979.w (.slice A983 l986.length c984) l986 hs982) ?_ ?_
    ·
      have hm := hj987
      refine c_seq ?_
      refine c_region ?_
      refine t_st rfl (st_move rfl) ?_
      refine t_st rfl (st_len rfl sl24) ?_
      refine t_st rfl (st_assign rfl) ?_
      refine t_nil ?_
      refine x_then_normal ?_
      refine c_block ?_
      refine c_front2 [_] hs674 hs675 (hs2 ++ R) rfl ?_
      refine c_front3 [_] hs675 hs674 hs2 R rfl ?_
      refine c_front3 [_] hs2 hs675 hs674 R rfl ?_
      refine c_loopM (unc2 fun x1191 l1192 => fun b1184 e' hp' => ∃ (A1188 : Option Addr), ∃ (c1189 : Nat), ∃ (hs1187 : Hp), [(0, .pointer (some ⟨g10, 0, none⟩)), (1, .int .i64 (x11)), (2, .int .i64 (x12)), (7, .slice A1188 (l1192).length c1189), (8, .int .i64 (x1191))] = e' ∧ (g10, Cl 170 [.string (x13), .int .i64 (x14), .int .i64 (x15), .int .i64 (x16), .int .i64 (x17), .int .i64 (x18), .int .i64 (x19), .int .i64 (x20), .int .i64 (x21), .int .i64 (x22), .slice A23 (l26).length c24, .slice A3 (l29).length c4, .int .i64 (x27), .int .i64 (x28), .map (some g8)]) :: (hs1187 ++ (hs2 ++ (hs675 ++ R))) = hp' ∧ b.Le b1184 ∧ OS 3 (OT.fr (RT.int .i64)) b1184.w (.slice A1188 l1192.length c1189) l1192 hs1187) hm (e' := [(0, .pointer (some ⟨g10, 0, none⟩)), (1, .int .i64 (x11)), (2, .int .i64 (x12)), (7, .slice A672 (mgetD l30 x12 []).length c673), (8, .int .i64 (((mgetD l30 x12 []).length : Int)))]) (hp' := (g10, Cl 170 [.string (x13), .int .i64 (x14), .int .i64 (x15), .int .i64 (x16), .int .i64 (x17), .int .i64 (x18), .int .i64 (x19), .int .i64 (x20), .int .i64 (x21), .int .i64 (x22), .slice A23 (l26).length c24, .slice A3 (l29).length c4, .int .i64 (x27), .int .i64 (x28), .map (some g8)]) :: (hs674 ++ (hs2 ++ (hs675 ++ R)))) ⟨rfl, rfl, rfl, rfl, rfl, trivial⟩ (.cons_cons _ (sub_app hs674 (sub_app hs2 (sub_app hs675 (.refl _))))) ⟨A672, c673, hs674, rfl, rfl, (Base.Le.refl _), h676⟩ ?_
      rintro ⟨x1191, l1192⟩ b1184 _ _ oL988 ⟨A1188, c1189, hs1187, rfl, rfl, hle1185, h1190⟩ hstepL988 houtL988
      unfold mRunRunnerInto_L988 at hstepL988
      have hm := (unc2E hstepL988)
      refine c_seq ?_
      refine c_seq ?_
      refine c_region ?_
      refine t_st rfl (st_move rfl) ?_
      refine t_st rfl (st_move rfl) ?_
      refine t_st rfl (st_leq rfl rfl) ?_
      refine t_nil ?_
      refine x_then_normal ?_
      refine c_cond _ rfl (fun hc1193 => ?_) (fun hc1193 => ?_)
      ·
        rw [if_pos (of_decide_eq_true hc1193)] at hm
        refine c_skip ?_
        refine x_then_normal ?_
        refine c_seq ?_
        refine c_block ?_
        refine c_seq ?_
        refine c_region ?_
        refine t_st rfl (st_assign rfl) ?_
        refine t_nil ?_
        refine x_then_normal ?_
        obtain ⟨x1237, hj1238, hk1238⟩ := bindS hm
        refine c_join (fun b1235 e' hp' => [(0, .pointer (some ⟨g10, 0, none⟩)), (1, .int .i64 (x11)), (2, .int .i64 (x12)), (7, .slice A1188 (l1192).length c1189), (8, .int .i64 (x1191)), (9, .int .i64 (x1237))] = e' ∧ (g10, Cl 170 [.string (x13), .int .i64 (x14), .int .i64 (x15), .int .i64 (x16), .int .i64 (x17), .int .i64 (x18), .int .i64 (x19), .int .i64 (x20), .int .i64 (x21), .int .i64 (x22), .slice A23 (l26).length c24, .slice A3 (l29).length c4, .int .i64 (x27), .int .i64 (x28), .map (some g8)]) :: (hs1187 ++ (hs2 ++ (hs675 ++ R))) = hp' ∧ b1184.Le b1235) ?_ ?_
        ·
          have hm := hj1238
          refine c_seq ?_
          refine c_region ?_
          refine t_st rfl (st_move rfl) ?_
          refine t_st rfl (st_move rfl) ?_
          refine t_st rfl (st_gtr rfl rfl) ?_
          refine t_nil ?_
          refine x_then_normal ?_
          refine c_cond _ rfl (fun hc1239 => ?_) (fun hc1239 => ?_)
          ·
            rw [if_pos (of_decide_eq_true hc1239)] at hm
            refine c_seq ?_
            refine c_region ?_
            refine t_st rfl (st_move rfl) ?_
            refine t_st rfl (st_move rfl) ?_
            refine t_st rfl (st_move rfl) ?_
            refine t_st rfl (st_nil rfl) ?_
            refine t_st rfl (st_field rfl fld170_0) ?_
            refine t_st rfl (st_field rfl fld43_7) ?_
            refine t_st rfl (st_load 0 rfl one3 rfl rfl) ?_
            obtain ⟨_, h1240, hm⟩ := bindS hm
            have h1240 := (chk_some h1240).2
            refine t_st rfl (st_sub rfl rfl h1240) ?_
            obtain ⟨_, h1241, hm⟩ := bindS hm
            have h1241 := (chk_some h1241).2
            refine t_st rfl (st_sub rfl rfl h1241) ?_
            refine t_st rfl (st_max rfl rfl) ?_
            refine t_st rfl (st_assign rfl) ?_
            refine t_nil ?_
            refine x_then_normal ?_
            obtain ⟨x1261, hcl1262, hm⟩ := bindS hm
            obtain ⟨x1263, h1264, hm⟩ := bindS hm
            obtain ⟨_, h1279, hm⟩ := bindS hm
            refine D_drawS ((g10, Cl 170 [.string (x13), .int .i64 (x14), .int .i64 (x15), .int .i64 (x16), .int .i64 (x17), .int .i64 (x18), .int .i64 (x19), .int .i64 (x20), .int .i64 (x21), .int .i64 (x22), .slice A23 (l26).length c24, .slice A3 (l29).length c4, .int .i64 (x27), .int .i64 (x28), .map (some g8)]) :: (hs1187 ++ (hs2 ++ (hs675 ++ R)))) mixed ?_
            refine D_st (Base.Le.refl _) 0 rfl (by kernel_rfl) (by kernel_rfl) (by kernel_rfl) rfl (st_move rfl) (.cons_cons _ (sub_app hs1187 (sub_app hs2 (sub_app hs675 (.refl _))))) ?_
            refine D_st (Base.Le.refl _) 1 rfl (by kernel_rfl) (by kernel_rfl) (by kernel_rfl) rfl (st_move rfl) (.cons_cons _ (sub_app hs1187 (sub_app hs2 (sub_app hs675 (.refl _))))) ?_
            refine D_st (Base.Le.refl _) 3 rfl (by kernel_rfl) (by kernel_rfl) (by kernel_rfl) rfl (st_move rfl) (.cons_cons _ (sub_app hs1187 (sub_app hs2 (sub_app hs675 (.refl _))))) ?_
            refine D_st (Base.Le.refl _) 4 rfl (by kernel_rfl) (by kernel_rfl) (by kernel_rfl) rfl (st_move rfl) (.cons_cons _ (sub_app hs1187 (sub_app hs2 (sub_app hs675 (.refl _))))) ?_
            obtain ⟨j1265, hj1266, hx1267⟩ := idx_some h1264
            obtain ⟨cs1268, hs1273, P1274, P1275, hq1276, hr1269, hcs1270, hA1271, hlt1272, hb1277, hho1278⟩ := OS.get (sz := 1) rfl (by decide) h1190 hx1267
            obtain ⟨rfl, rfl⟩ := hr1269
            refine D_st (Base.Le.refl _) 5 rfl (by kernel_rfl) (by kernel_rfl) (by kernel_rfl) rfl (st_index_old j1265 rfl rfl hj1266 hlt1272 hA1271 sl24) (.cons_cons _ (sub_app hs1187 (sub_app hs2 (sub_app hs675 (.refl _))))) ?_
            refine D_st (Base.Le.refl _) 6 rfl (by kernel_rfl) (by kernel_rfl) (by kernel_rfl) rfl (st_load_rd rfl one3 (fun w ho => hcs1270 w _ ho (.cons _ (List.sublist_append_left _ _)) 0 _ rfl)) (.cons_cons _ (sub_app hs1187 (sub_app hs2 (sub_app hs675 (.refl _))))) ?_
            refine D_all [2] (by kernel_rfl) rfl ?_
            refine R_do (Base.Le.refl _) rfl rfl (u_callW0 _ call84 rfl (fun w ho => cRunGone _ [] x1191 (max x12 (x1191 - (x20 - 40))) x1261 hcl1262) (fun _ _ _ h => h.2.symm)) ?_ ?_
            ·
              rintro _ _ ⟨⟨_, rfl, _⟩, rfl⟩
              refine ⟨.inr (.cons_cons _ (sub_app hs1187 (sub_app hs2 (sub_app hs675 (.refl _))))), ?_⟩
              have h1279 := (chk_some h1279).2
              refine D_st (Base.Le.refl _) 7 rfl (by kernel_rfl) (by kernel_rfl) (by kernel_rfl) rfl (st_add rfl rfl h1279) (.cons_cons _ (sub_app hs1187 (sub_app hs2 (sub_app hs675 (.refl _))))) ?_
              refine D_st (Base.Le.refl _) 8 rfl (by kernel_rfl) (by kernel_rfl) (by kernel_rfl) rfl (st_assign rfl) (.cons_cons _ (sub_app hs1187 (sub_app hs2 (sub_app hs675 (.refl _))))) ?_
              refine D_done (by kernel_rfl) ?_
              obtain rfl := some1 hm
              refine x_front3 [_] hs1187 hs2 hs675 R rfl ?_
              refine x_front3 [_] hs675 hs1187 hs2 R rfl ?_
              refine x_front3 [_] hs2 hs675 hs1187 R rfl ?_
              exact x_join (e' := [(0, .pointer (some ⟨g10, 0, none⟩)), (1, .int .i64 (x11)), (2, .int .i64 (x12)), (7, .slice A1188 (l1192).length c1189), (8, .int .i64 (x1191)), (9, .int .i64 (x1261 + x1263))]) (hp' := (g10, Cl 170 [.string (x13), .int .i64 (x14), .int .i64 (x15), .int .i64 (x16), .int .i64 (x17), .int .i64 (x18), .int .i64 (x19), .int .i64 (x20), .int .i64 (x21), .int .i64 (x22), .slice A23 (l26).length c24, .slice A3 (l29).length c4, .int .i64 (x27), .int .i64 (x28), .map (some g8)]) :: (hs1187 ++ (hs2 ++ (hs675 ++ R)))) ⟨rfl, rfl, rfl, rfl, rfl, rfl, trivial⟩ (.cons_cons _ (sub_app hs1187 (sub_app hs2 (sub_app hs675 (.refl _))))) ⟨rfl, rfl, (Base.Le.refl _)⟩
            exact R_nil
          ·
            rw [if_neg (of_decide_eq_false hc1239)] at hm
            refine c_skip ?_
            obtain rfl := some1 hm
            refine x_front3 [_] hs1187 hs2 hs675 R rfl ?_
            refine x_front3 [_] hs675 hs1187 hs2 R rfl ?_
            refine x_front3 [_] hs2 hs675 hs1187 R rfl ?_
            exact x_join (e' := [(0, .pointer (some ⟨g10, 0, none⟩)), (1, .int .i64 (x11)), (2, .int .i64 (x12)), (7, .slice A1188 (l1192).length c1189), (8, .int .i64 (x1191)), (9, .int .i64 (0))]) (hp' := (g10, Cl 170 [.string (x13), .int .i64 (x14), .int .i64 (x15), .int .i64 (x16), .int .i64 (x17), .int .i64 (x18), .int .i64 (x19), .int .i64 (x20), .int .i64 (x21), .int .i64 (x22), .slice A23 (l26).length c24, .slice A3 (l29).length c4, .int .i64 (x27), .int .i64 (x28), .map (some g8)]) :: (hs1187 ++ (hs2 ++ (hs675 ++ R)))) ⟨rfl, rfl, rfl, rfl, rfl, rfl, trivial⟩ (.cons_cons _ (sub_app hs1187 (sub_app hs2 (sub_app hs675 (.refl _))))) ⟨rfl, rfl, (Base.Le.refl _)⟩
        ·
          rintro b1235 _ _ ⟨rfl, rfl, hle1236⟩
          have hm := hk1238
          refine c_region ?_
          refine t_st rfl (st_move rfl) ?_
          refine t_st rfl (st_move rfl) ?_
          refine t_do rfl (u_bslice (el := 3) [(0, .int .i64 (x1237))] [.int .i64 (x1237)] rfl (fun _ => by kernel_rfl)) ?_
          rintro _ _ ⟨g1280, rfl, rfl⟩
          obtain ⟨_, h1281, hm⟩ := bindS hm
          have h1281 := room_some h1281
          refine t_do rfl (u_appOS (r := (RT.int .i64)) (l := l1192) [_, _] (hs2 ++ (hs675 ++ R)) [[.int .i64 (x1237)]] [x1237] rfl (by decide) sl24 inf3 rfl rfl rfl rfl (h1190.le hle1236) rfl (fun w ho => Rd.own (i := 0) ho rfl) ⟨rfl, trivial⟩ h1281) ?_
          rintro _ _ ⟨hs1282, rfl, h1283⟩
          obtain ⟨A1284, c1285, rfl, _⟩ := h1283.form
          refine t_st rfl (st_assign rfl) ?_
          refine t_nil ?_
          refine x_block_normal ?_
          refine x_then_normal ?_
          refine c_region ?_
          refine t_st rfl (st_move rfl) ?_
          obtain ⟨_, h1286, hm⟩ := bindS hm
          have h1286 := (chk_some h1286).2
          refine t_st rfl (st_add rfl rfl h1286) ?_
          refine t_st rfl (st_assign rfl) ?_
          refine t_nil ?_
          refine x_pullb 1 rfl ?_
          refine x_front3 [_, _] hs1282 hs2 hs675 R rfl ?_
          refine x_front3 [_, _] hs675 hs1282 hs2 R rfl ?_
          refine x_front3 [_, _] hs2 hs675 hs1282 R rfl ?_
          exact x_againM (x1191 + 1, l1192 ++ [x1237]) (Option.some.inj hm).symm (e' := [(0, .pointer (some ⟨g10, 0, none⟩)), (1, .int .i64 (x11)), (2, .int .i64 (x12)), (7, .slice A1284 (l1192 ++ [x1237]).length c1285), (8, .int .i64 (x1191 + 1))]) (hp' := (g10, Cl 170 [.string (x13), .int .i64 (x14), .int .i64 (x15), .int .i64 (x16), .int .i64 (x17), .int .i64 (x18), .int .i64 (x19), .int .i64 (x20), .int .i64 (x21), .int .i64 (x22), .slice A23 (l26).length c24, .slice A3 (l29).length c4, .int .i64 (x27), .int .i64 (x28), .map (some g8)]) :: (hs1282 ++ (hs2 ++ (hs675 ++ R)))) ⟨rfl, rfl, rfl, rfl, rfl, trivial⟩ (.cons_cons _ (.cons _ (sub_app hs1282 (sub_app hs2 (sub_app hs675 (.refl _)))))) ⟨A1284, c1285, hs1282, rfl, rfl, ((hle1185.trans hle1236)), h1283⟩
      ·
        rw [if_neg (of_decide_eq_false hc1193)] at hm
        refine c_exit ?_
        refine x_then_exit ?_
        refine x_then_exit ?_
        refine x_block_out ?_
        have hm := congrArg some (houtL988 _ (Option.some.inj hm).symm)
        obtain rfl := some1 hm
        refine x_front3 [_] hs1187 hs2 hs675 R rfl ?_
        refine x_front3 [_] hs675 hs1187 hs2 R rfl ?_
        refine x_front3 [_] hs2 hs675 hs1187 R rfl ?_
        exact x_join (e' := [(0, .pointer (some ⟨g10, 0, none⟩)), (1, .int .i64 (x11)), (2, .int .i64 (x12)), (7, .slice A1188 (l1192).length c1189)]) (hp' := (g10, Cl 170 [.string (x13), .int .i64 (x14), .int .i64 (x15), .int .i64 (x16), .int .i64 (x17), .int .i64 (x18), .int .i64 (x19), .int .i64 (x20), .int .i64 (x21), .int .i64 (x22), .slice A23 (l26).length c24, .slice A3 (l29).length c4, .int .i64 (x27), .int .i64 (x28), .map (some g8)]) :: (hs1187 ++ (hs2 ++ (hs675 ++ R)))) ⟨rfl, rfl, rfl, rfl, trivial⟩ (.cons_cons _ (sub_app hs1187 (sub_app hs2 (sub_app hs675 (.refl _))))) ⟨A1188, c1189, hs1187, rfl, rfl, hle1185, h1190⟩
    ·
      rintro b979 _ _ ⟨A983, c984, hs982, rfl, rfl, hle980, h985⟩
      have hm := hk987
      refine c_seq ?_
      refine c_region ?_
      refine t_st rfl (st_move rfl) ?_
      refine t_st rfl (st_nil rfl) ?_
      refine t_st rfl (st_field rfl fld170_5) ?_
      refine t_st rfl (st_load 0 rfl one168 rfl rfl) ?_
      refine t_st rfl (st_move rfl) ?_
      refine t_st rfl (st_move rfl) ?_
      refine t_front3 [_] hs982 hs2 hs675 R rfl ?_
      refine t_do rfl (u_mput kok3 [_] hs982 (hs2 ++ R) rfl (h678.le hle980) mapt168 rfl rfl rfl rfl ⟨_, rfl, h985⟩ _ (.inl rfl)) ?_
      rintro _ _ ⟨hs1287, rfl, hsub1288, h1289⟩
      refine t_nil ?_
      refine x_then_normal ?_
      refine c_seq ?_
      refine c_region ?_
      refine t_st rfl (st_move rfl) ?_
      refine t_st rfl (st_move rfl) ?_
      obtain ⟨x1290, h1291, hm⟩ := bindS hm
      obtain ⟨j1292, hj1293, hx1294⟩ := idx_some h1291
      obtain ⟨cs1295, hs1300, P1301, P1302, hq1303, hr1296, hcs1297, hA1298, hlt1299, hb1304, _⟩ := OS.get (sz := 1) rfl (by decide) h985 hx1294
      obtain ⟨rfl, rfl⟩ := hr1296
      have hcs1305 := fun (w : World) (hp : Hp) (ho : Own b979 hp w) (hh : hs1287.Sublist hp) => hcs1297 w hp ho (hsub1288.trans hh)
      refine t_st rfl (st_index_old j1292 rfl rfl hj1293 hlt1299 hA1298 sl24) ?_
      refine t_st rfl (st_load_rd rfl one3 (fun w ho => hcs1305 w _ ho (.cons _ (List.sublist_append_left _ _)) 0 _ rfl)) ?_
      refine t_st rfl (st_assign rfl) ?_
      refine t_nil ?_
      refine x_then_normal ?_
      refine c_ret ?_
      obtain ⟨rfl, rfl⟩ := some2 hm
      refine x_front2 [_] hs1287 hs2 R rfl ?_
      exact retM (rs := [.tmp 6]) [.int .i64 (x1290)] hle980 (by decide) rfl ⟨rfl, trivial⟩ rfl (hp' := (g10, Cl 170 [.string (x13), .int .i64 (x14), .int .i64 (x15), .int .i64 (x16), .int .i64 (x17), .int .i64 (x18), .int .i64 (x19), .int .i64 (x20), .int .i64 (x21), .int .i64 (x22), .slice A23 (l26).length c24, .slice A3 (l29).length c4, .int .i64 (x27), .int .i64 (x28), .map (some g8)]) :: (hs2 ++ (hs1287 ++ R))) (.cons_cons _ (sub_app hs2 (sub_app hs1287 (.refl _)))) ⟨hs1287, rfl, rfl, h1289⟩

set_option maxRecDepth 20000 in
theorem cRunRunnerMay (b : Base) (R : Hp) (x11 : Int) (x12 : Int) (x13 : Int) (x14 : ByteArray) (x15 : Int) (x16 : Int) (x17 : Int) (x18 : Int) (x19 : Int) (x20 : Int) (x21 : Int) (x22 : Int) (x23 : Int) (l27 : (List ApiPiece)) (x28 : Int) (x29 : Int) (l30 : (List Int)) (l31 : (List (Int × (List Int)))) (g10 : Nat) (A24 : Option Addr) (c25 : Nat) (A3 : Option Addr) (c4 : Nat) (hs2 : Hp) (g8 : Nat) (hs7 : Hp) (h26 : FZ rApiPiece b.w A24 c25 l27) (h5 : OS 3 (OT.fr (RT.int .i64)) b.w (.slice A3 l30.length c4) l30 hs2) (h9 : OM (RT.int .i64) (OT.list 3 (OT.fr (RT.int .i64))) false false b.w g8 l31 hs7) (x330 : Bool) (l331 : (List (Int × (List Int)))) (hm : mRunRunnerMay x11 x12 x13 x14 x15 x16 x17 x18 x19 x20 x21 x22 x23 l27 x28 x29 l30 l31 = some (x330, l331)) :
    CallsG Tryd.prog 97 [.pointer (some ⟨g10, 0, none⟩), .int .i64 (x11), .int .i64 (x12), .int .i64 (x13)] b ((g10, Cl 170 [.string (x14), .int .i64 (x15), .int .i64 (x16), .int .i64 (x17), .int .i64 (x18), .int .i64 (x19), .int .i64 (x20), .int .i64 (x21), .int .i64 (x22), .int .i64 (x23), .slice A24 (l27).length c25, .slice A3 (l30).length c4, .int .i64 (x28), .int .i64 (x29), .map (some g8)]) :: (hs2 ++ (hs7 ++ R))) (fun v b' hp' => ∃ (g328 : Nat), ∃ (hs327 : Hp), .bool (x330) = v ∧ (g10, Cl 170 [.string (x14), .int .i64 (x15), .int .i64 (x16), .int .i64 (x17), .int .i64 (x18), .int .i64 (x19), .int .i64 (x20), .int .i64 (x21), .int .i64 (x22), .int .i64 (x23), .slice A24 (l27).length c25, .slice A3 (l30).length c4, .int .i64 (x28), .int .i64 (x29), .map (some g328)]) :: (hs2 ++ (hs327 ++ R)) = hp' ∧ OM (RT.int .i64) (OT.list 3 (OT.fr (RT.int .i64))) false false b'.w g328 l331 hs327) := by
  refine fn_enterG 70 Tryd.func97 rfl Tryd.ntmps97 rfl ?_
  unfold mRunRunnerMay at hm
  refine c_seq ?_
  refine c_region ?_
  refine t_st rfl (st_assign rfl) ?_
  refine t_nil ?_
  refine x_then_normal ?_
  refine c_seq ?_
  obtain ⟨⟨x353, l354⟩, hj355, hk355⟩ := bindS hm
  refine c_join (fun b348 e' hp' => ∃ (hs351 : Hp), [(0, .pointer (some ⟨g10, 0, none⟩)), (1, .int .i64 (x11)), (2, .int .i64 (x12)), (3, .int .i64 (x13)), (21, .bool (x353))] = e' ∧ (g10, Cl 170 [.string (x14), .int .i64 (x15), .int .i64 (x16), .int .i64 (x17), .int .i64 (x18), .int .i64 (x19), .int .i64 (x20), .int .i64 (x21), .int .i64 (x22), .int .i64 (x23), .slice A24 (l27).length c25, .slice A3 (l30).length c4, .int .i64 (x28), .int .i64 (x29), .map (some g8)]) :: (hs2 ++ (hs351 ++ R)) = hp' ∧ b.Le b348 ∧ OM (RT.int .i64) (OT.list 3 (OT.fr (RT.int .i64))) false false b348.w g8 l354 hs351) ?_ ?_
  ·
    have hm := hj355
    obtain ⟨⟨x364, l365⟩, hcl366, hm⟩ := bindS hm
    have hm := (unc2E hm)
    obtain ⟨_, h371, hm⟩ := bindS hm
    refine D_drawS (R) mixed ?_
    refine D_st (Base.Le.refl _) 0 rfl (by kernel_rfl) (by kernel_rfl) (by kernel_rfl) rfl (st_move rfl) (.cons _ (sub_skip hs2 (sub_skip hs7 (.refl _)))) ?_
    refine D_st (Base.Le.refl _) 1 rfl (by kernel_rfl) (by kernel_rfl) (by kernel_rfl) rfl (st_move rfl) (.cons _ (sub_skip hs2 (sub_skip hs7 (.refl _)))) ?_
    refine D_st (Base.Le.refl _) 3 rfl (by kernel_rfl) (by kernel_rfl) (by kernel_rfl) rfl (st_move rfl) (.cons _ (sub_skip hs2 (sub_skip hs7 (.refl _)))) ?_
    refine D_st (Base.Le.refl _) 4 rfl (by kernel_rfl) (by kernel_rfl) (by kernel_rfl) rfl (st_nil rfl) (.cons _ (sub_skip hs2 (sub_skip hs7 (.refl _)))) ?_
    refine D_st (Base.Le.refl _) 5 rfl (by kernel_rfl) (by kernel_rfl) (by kernel_rfl) rfl (st_field rfl fld170_3) (.cons _ (sub_skip hs2 (sub_skip hs7 (.refl _)))) ?_
    refine D_st (Base.Le.refl _) 7 rfl (by kernel_rfl) (by kernel_rfl) (by kernel_rfl) rfl (st_move rfl) (.cons _ (sub_skip hs2 (sub_skip hs7 (.refl _)))) ?_
    refine d_front2 [_] hs2 hs7 R rfl ?_
    refine d_front2 [_] hs7 hs2 R rfl ?_
    refine d_out2 [_] [] hs2 hs7 R rfl ?_
    refine D_all [2, 6] (by kernel_rfl) rfl ?_
    refine R_callGl (Base.Le.refl _) rfl rfl _ call112 rfl (cRunRunnerInto _ _ x13 0 x14 x15 x16 x17 x18 x19 x20 x21 x22 x23 l27 x28 x29 l30 l31 g10 A24 c25 A3 c4 hs2 g8 hs7 h26 h5 h9 x364 l365 hcl366) ?_ ?_
    ·
      rintro _ b367 _ hle368 ⟨hs369, rfl, rfl, h370⟩
      refine ⟨.inr (.cons _ (sub_skip hs2 (sub_skip hs369 (.refl _)))), ?_⟩
      refine d_in2 [_] [] hs2 hs369 R rfl ?_
      refine D_all [6] (by kernel_rfl) rfl ?_
      refine R_do hle368 rfl rfl (Stable.does (st_load 0 rfl one3 rfl rfl)) ?_ ?_
      ·
        rintro _ _ ⟨rfl, rfl⟩
        refine ⟨.inr (.cons _ (sub_skip hs2 (sub_skip hs369 (.refl _)))), ?_⟩
        have h371 := (chk_some h371).2
        refine D_st hle368 8 rfl (by kernel_rfl) (by kernel_rfl) (by kernel_rfl) rfl (st_sub rfl rfl h371) (.cons _ (sub_skip hs2 (sub_skip hs369 (.refl _)))) ?_
        refine D_st hle368 9 rfl (by kernel_rfl) (by kernel_rfl) (by kernel_rfl) rfl (st_gtr rfl rfl) (.cons _ (sub_skip hs2 (sub_skip hs369 (.refl _)))) ?_
        refine D_done (by kernel_rfl) ?_
        obtain ⟨rfl, rfl⟩ := some2 hm
        refine x_front2 [_] hs2 hs369 R rfl ?_
        refine x_front2 [_] hs369 hs2 R rfl ?_
        exact x_join (e' := [(0, .pointer (some ⟨g10, 0, none⟩)), (1, .int .i64 (x11)), (2, .int .i64 (x12)), (3, .int .i64 (x13)), (21, .bool (decide ((x28 - x12) < x364)))]) (hp' := (g10, Cl 170 [.string (x14), .int .i64 (x15), .int .i64 (x16), .int .i64 (x17), .int .i64 (x18), .int .i64 (x19), .int .i64 (x20), .int .i64 (x21), .int .i64 (x22), .int .i64 (x23), .slice A24 (l27).length c25, .slice A3 (l30).length c4, .int .i64 (x28), .int .i64 (x29), .map (some g8)]) :: (hs2 ++ (hs369 ++ R))) ⟨rfl, rfl, rfl, rfl, rfl, trivial⟩ (.cons_cons _ (sub_app hs2 (sub_app hs369 (.refl _)))) ⟨hs369, rfl, rfl, hle368, h370⟩
      exact R_nil
    refine R_do (Base.Le.refl _) rfl rfl (Stable.does (st_load 0 rfl one3 rfl rfl)) ?_ ?_
    ·
      rintro _ _ ⟨rfl, rfl⟩
      refine ⟨.inr (.cons _ (sub_skip hs2 (sub_skip hs7 (.refl _)))), ?_⟩
      have h371 := (chk_some h371).2
      refine D_st (Base.Le.refl _) 8 rfl (by kernel_rfl) (by kernel_rfl) (by kernel_rfl) rfl (st_sub rfl rfl h371) (.cons _ (sub_skip hs2 (sub_skip hs7 (.refl _)))) ?_
      refine d_front2 [_] hs2 hs7 R rfl ?_
      refine d_front2 [_] hs7 hs2 R rfl ?_
      refine d_out2 [_] [] hs2 hs7 R rfl ?_
      refine D_all [2] (by kernel_rfl) rfl ?_
      refine R_callGl (Base.Le.refl _) rfl rfl _ call112 rfl (cRunRunnerInto _ _ x13 0 x14 x15 x16 x17 x18 x19 x20 x21 x22 x23 l27 x28 x29 l30 l31 g10 A24 c25 A3 c4 hs2 g8 hs7 h26 h5 h9 x364 l365 hcl366) ?_ ?_
      ·
        rintro _ b367 _ hle368 ⟨hs369, rfl, rfl, h370⟩
        refine ⟨.inr (.cons _ (sub_skip hs2 (sub_skip hs369 (.refl _)))), ?_⟩
        refine d_in2 [_] [] hs2 hs369 R rfl ?_
        refine D_st hle368 9 rfl (by kernel_rfl) (by kernel_rfl) (by kernel_rfl) rfl (st_gtr rfl rfl) (.cons _ (sub_skip hs2 (sub_skip hs369 (.refl _)))) ?_
        refine D_done (by kernel_rfl) ?_
        obtain ⟨rfl, rfl⟩ := some2 hm
        refine x_front2 [_] hs2 hs369 R rfl ?_
        refine x_front2 [_] hs369 hs2 R rfl ?_
        exact x_join (e' := [(0, .pointer (some ⟨g10, 0, none⟩)), (1, .int .i64 (x11)), (2, .int .i64 (x12)), (3, .int .i64 (x13)), (21, .bool (decide ((x28 - x12) < x364)))]) (hp' := (g10, Cl 170 [.string (x14), .int .i64 (x15), .int .i64 (x16), .int .i64 (x17), .int .i64 (x18), .int .i64 (x19), .int .i64 (x20), .int .i64 (x21), .int .i64 (x22), .int .i64 (x23), .slice A24 (l27).length c25, .slice A3 (l30).length c4, .int .i64 (x28), .int .i64 (x29), .map (some g8)]) :: (hs2 ++ (hs369 ++ R))) ⟨rfl, rfl, rfl, rfl, rfl, trivial⟩ (.cons_cons _ (sub_app hs2 (sub_app hs369 (.refl _)))) ⟨hs369, rfl, rfl, hle368, h370⟩
      exact R_nil
    exact R_nil
  ·
    rintro b348 _ _ ⟨hs351, rfl, rfl, hle349, h352⟩
    have hm := (unc2E hk355)
    refine c_cond _ rfl (fun hc372 => ?_) (fun hc372 => ?_)
    ·
      rw [if_pos hc372] at hm
      refine c_seq ?_
      refine c_region ?_
      refine t_st rfl (st_assign rfl) ?_
      refine t_nil ?_
      refine x_then_normal ?_
      refine c_ret ?_
      refine x_then_ret ?_
      obtain ⟨rfl, rfl⟩ := some2 hm
      refine x_front2 [_] hs2 hs351 R rfl ?_
      refine x_front2 [_] hs351 hs2 R rfl ?_
      exact retM (rs := [.tmp 8]) [.bool (false)] hle349 (by decide) rfl ⟨rfl, trivial⟩ rfl (hp' := (g10, Cl 170 [.string (x14), .int .i64 (x15), .int .i64 (x16), .int .i64 (x17), .int .i64 (x18), .int .i64 (x19), .int .i64 (x20), .int .i64 (x21), .int .i64 (x22), .int .i64 (x23), .slice A24 (l27).length c25, .slice A3 (l30).length c4, .int .i64 (x28), .int .i64 (x29), .map (some g8)]) :: (hs2 ++ (hs351 ++ R))) (.cons_cons _ (sub_app hs2 (sub_app hs351 (.refl _)))) ⟨g8, hs351, rfl, rfl, h352⟩
    ·
      rw [if_neg (fun hh => Bool.noConfusion (hh.symm.trans hc372))] at hm
      refine c_skip ?_
      refine x_then_normal ?_
      refine c_seq ?_
      refine c_seq ?_
      refine c_region ?_
      refine t_st rfl (st_move rfl) ?_
      refine t_st rfl (st_nil rfl) ?_
      refine t_st rfl (st_field rfl fld170_1) ?_
      refine t_st rfl (st_load 0 rfl one80 rfl rfl) ?_
      refine t_st rfl (st_len rfl sl80) ?_
      refine t_st rfl (st_move rfl) ?_
      refine t_nil ?_
      refine x_then_normal ?_
      refine c_block ?_
      have hb374 := (FZ.bd (h26.le hle349))
      refine c_front2 [_] hs2 hs351 R rfl ?_
      refine c_front2 [_] hs351 hs2 R rfl ?_
      obtain ⟨t542, hl543, hk544⟩ := bindS hm
      refine c_forM (fun k541 => fun l540 => fun b535 e' hp' => ∃ (hs538 : Hp), [(0, .pointer (some ⟨g10, 0, none⟩)), (1, .int .i64 (x11)), (2, .int .i64 (x12)), (3, .int .i64 (x13)), (25, .slice A24 (l27).length c25), (26, .int .i64 ((l27.length : Int))), (27, .int .i64 ((k541 : Int)))] = e' ∧ (g10, Cl 170 [.string (x14), .int .i64 (x15), .int .i64 (x16), .int .i64 (x17), .int .i64 (x18), .int .i64 (x19), .int .i64 (x20), .int .i64 (x21), .int .i64 (x22), .int .i64 (x23), .slice A24 (l27).length c25, .slice A3 (l30).length c4, .int .i64 (x28), .int .i64 (x29), .map (some g8)]) :: (hs2 ++ (hs538 ++ R)) = hp' ∧ b348.Le b535 ∧ OM (RT.int .i64) (OT.list 3 (OT.fr (RT.int .i64))) false false b535.w g8 l540 hs538) hl543 (e' := [(0, .pointer (some ⟨g10, 0, none⟩)), (1, .int .i64 (x11)), (2, .int .i64 (x12)), (3, .int .i64 (x13)), (25, .slice A24 (l27).length c25), (26, .int .i64 ((l27.length : Int))), (27, .int .i64 0)]) (hp' := (g10, Cl 170 [.string (x14), .int .i64 (x15), .int .i64 (x16), .int .i64 (x17), .int .i64 (x18), .int .i64 (x19), .int .i64 (x20), .int .i64 (x21), .int .i64 (x22), .int .i64 (x23), .slice A24 (l27).length c25, .slice A3 (l30).length c4, .int .i64 (x28), .int .i64 (x29), .map (some g8)]) :: (hs2 ++ (hs351 ++ R))) ⟨rfl, rfl, rfl, rfl, rfl, rfl, rfl, trivial⟩ (.cons_cons _ (sub_app hs2 (sub_app hs351 (.refl _)))) ⟨hs351, rfl, rfl, (Base.Le.refl _), h352⟩ ?_ ?_
      ·
        rintro k541 l540 b535 _ _ oL373 hknL373 ⟨hs538, rfl, rfl, hle536, h539⟩ hstepL373 houtL373
        unfold mRunRunnerMay_L373 at hstepL373
        have hm := hstepL373
        refine c_seq ?_
        refine c_region ?_
        refine t_st rfl (st_lss_t rfl rfl (by omega)) ?_
        refine t_nil ?_
        refine x_then_normal ?_
        refine c_seq ?_
        refine c_cond_t rfl ?_
        refine c_skip ?_
        refine x_then_normal ?_
        refine c_seq ?_
        refine c_block ?_
        refine c_seq ?_
        refine c_region ?_
        refine t_st rfl (st_move rfl) ?_
        obtain ⟨x545, h546, hm⟩ := bindS hm
        obtain ⟨j547, hj548, hx549⟩ := idx_some h546
        obtain ⟨cs550, hr551, hcs552, hA553, hlt554⟩ := FZ.get (sz := 3) rfl (by decide) (h26.le (hle349.trans hle536)) hx549
        obtain ⟨_, _, rfl, rfl, ⟨_, _, rfl, rfl, rfl⟩⟩ := hr551
        refine t_st rfl (st_index_old j547 rfl rfl hj548 hlt554 hA553 sl80) ?_
        refine t_st rfl (st_loadN_old (vs := [.int .i64 (x545.Length), .int .i64 (x545.Grade), .int .i64 (x545.Speed)]) 3 rfl agg97 hA553 rfl (fun j u hu => hcs552 j u hu)) ?_
        refine t_do rfl (u_alloc [.int .i64 0, .int .i64 0, .int .i64 0] zero97 rfl) ?_
        rintro _ _ ⟨g555, rfl, rfl⟩
        refine t_st rfl (st_assign rfl) ?_
        refine t_do rfl (u_storeN (vs := [_, _, _]) 0 3 rfl rfl rfl siz97 rfl (by intro u hu; simp only [List.mem_cons, List.not_mem_nil, or_false] at hu; rcases hu with rfl | rfl | rfl <;> rfl) rfl (by simp)) ?_
        rintro _ _ rfl
        refine t_nil ?_
        refine x_then_normal ?_
        refine c_seq ?_
        refine c_region ?_
        refine t_st rfl (st_move rfl) ?_
        refine t_st rfl (st_nil rfl) ?_
        refine t_st rfl (st_field rfl fld170_2) ?_
        refine t_st rfl (st_load 1 rfl one24 rfl rfl) ?_
        refine t_st rfl (st_move rfl) ?_
        obtain ⟨x556, h557, hm⟩ := bindS hm
        obtain ⟨j558, hj559, hx560⟩ := idx_some h557
        obtain ⟨cs561, hs566, P567, P568, hq569, hr562, hcs563, hA564, hlt565, hb570, hho571⟩ := OS.get (sz := 1) rfl (by decide) (h5.le (hle349.trans hle536)) hx560
        obtain ⟨rfl, rfl⟩ := hr562
        refine t_st rfl (st_index_old j558 rfl rfl hj559 hlt565 hA564 sl24) ?_
        refine t_st rfl (st_load_rd rfl one3 (fun w ho => hcs563 w _ ho (.cons _ (.cons _ (List.sublist_append_left _ _))) 0 _ rfl)) ?_
        refine t_st rfl (st_assign rfl) ?_
        refine t_nil ?_
        refine x_then_normal ?_
        refine c_block ?_
        refine c_seq ?_
        refine c_region ?_
        refine t_st rfl (st_move rfl) ?_
        refine t_st rfl (st_move rfl) ?_
        refine t_st rfl (st_geq rfl rfl) ?_
        refine t_st rfl (st_assign rfl) ?_
        refine t_nil ?_
        refine x_then_normal ?_
        refine c_cond _ rfl (fun hc572 => ?_) (fun hc572 => ?_)
        ·
          rw [if_pos (of_decide_eq_true hc572)] at hm
          refine c_seq ?_
          refine c_region ?_
          refine t_st rfl (st_move rfl) ?_
          refine t_st rfl (st_move rfl) ?_
          refine t_st rfl (st_field rfl fld97_2) ?_
          refine t_st rfl (st_load 0 rfl one3 rfl rfl) ?_
          obtain ⟨⟨x573, l574⟩, hcl575, hm⟩ := bindS hm
          have hm := (unc2E hm)
          refine t_pullb 1 rfl ?_
          refine t_front2 [_, _] hs2 hs538 R rfl ?_
          refine t_front2 [_, _] hs538 hs2 R rfl ?_
          refine t_out2 [_] [_] hs2 hs538 R rfl ?_
          refine t_callG _ rfl call112 rfl (cRunRunnerInto _ _ x13 x545.Speed x14 x15 x16 x17 x18 x19 x20 x21 x22 x23 l27 x28 x29 l30 l540 g10 A24 c25 A3 c4 hs2 g8 hs538 (h26.le (hle349.trans hle536)) (h5.le (hle349.trans hle536)) h539 x573 l574 hcl575) ?_
          rintro _ b576 _ hle577 ⟨hs578, rfl, rfl, h579⟩
          refine t_in2 [_] [_] hs2 hs578 R rfl ?_
          refine t_st rfl (st_move rfl) ?_
          refine t_st rfl (st_move rfl) ?_
          obtain ⟨_, h580, hm⟩ := bindS hm
          have h580 := (chk_some h580).2
          refine t_st rfl (st_sub rfl rfl h580) ?_
          refine t_st rfl (st_gtr rfl rfl) ?_
          refine t_nil ?_
          refine x_then_normal ?_
          refine c_cond _ rfl (fun hc581 => ?_) (fun hc581 => ?_)
          ·
            rw [if_pos (of_decide_eq_true hc581)] at hm
            refine c_seq ?_
            refine c_region ?_
            refine t_st rfl (st_assign rfl) ?_
            refine t_nil ?_
            refine x_then_normal ?_
            refine c_ret ?_
            refine x_block_ret ?_
            refine x_block_ret ?_
            refine x_then_ret ?_
            refine x_then_ret ?_
            refine x_block_ret ?_
            refine x_then_ret ?_
            have hq582 := houtL373 _ (Option.some.inj hm).symm
            rw [hq582] at hk544
            have hm := elimR hk544
            obtain ⟨rfl, rfl⟩ := some2 hm
            refine x_front2 [_, _] hs2 hs578 R rfl ?_
            refine x_front2 [_, _] hs578 hs2 R rfl ?_
            exact retM (rs := [.tmp 8]) [.bool (false)] (hle349.trans (hle536.trans hle577)) (by decide) rfl ⟨rfl, trivial⟩ rfl (hp' := (g10, Cl 170 [.string (x14), .int .i64 (x15), .int .i64 (x16), .int .i64 (x17), .int .i64 (x18), .int .i64 (x19), .int .i64 (x20), .int .i64 (x21), .int .i64 (x22), .int .i64 (x23), .slice A24 (l27).length c25, .slice A3 (l30).length c4, .int .i64 (x28), .int .i64 (x29), .map (some g8)]) :: (hs2 ++ (hs578 ++ R))) (.cons_cons _ (.cons _ (sub_app hs2 (sub_app hs578 (.refl _))))) ⟨g8, hs578, rfl, rfl, h579⟩
          ·
            rw [if_neg (of_decide_eq_false hc581)] at hm
            refine c_skip ?_
            refine x_block_normal ?_
            refine x_block_normal ?_
            refine x_then_normal ?_
            refine c_region ?_
            refine t_st rfl (st_add rfl rfl (by omega)) ?_
            refine t_st rfl (st_move rfl) ?_
            refine t_nil ?_
            refine x_front2 [_, _] hs2 hs578 R rfl ?_
            refine x_front2 [_, _] hs578 hs2 R rfl ?_
            exact x_againM l574 (Option.some.inj hm).symm (e' := [(0, .pointer (some ⟨g10, 0, none⟩)), (1, .int .i64 (x11)), (2, .int .i64 (x12)), (3, .int .i64 (x13)), (25, .slice A24 (l27).length c25), (26, .int .i64 ((l27.length : Int))), (27, .int .i64 ((k541 : Int) + 1))]) (hp' := (g10, Cl 170 [.string (x14), .int .i64 (x15), .int .i64 (x16), .int .i64 (x17), .int .i64 (x18), .int .i64 (x19), .int .i64 (x20), .int .i64 (x21), .int .i64 (x22), .int .i64 (x23), .slice A24 (l27).length c25, .slice A3 (l30).length c4, .int .i64 (x28), .int .i64 (x29), .map (some g8)]) :: (hs2 ++ (hs578 ++ R))) ⟨rfl, rfl, rfl, rfl, rfl, rfl, rfl, trivial⟩ (.cons_cons _ (.cons _ (sub_app hs2 (sub_app hs578 (.refl _))))) ⟨hs578, rfl, rfl, ((hle536.trans hle577)), h579⟩
        ·
          rw [if_neg (of_decide_eq_false hc572)] at hm
          obtain ⟨x603, hj604, hk604⟩ := bindS hm
          refine c_join (fun b601 e' hp' => [(0, .pointer (some ⟨g10, 0, none⟩)), (1, .int .i64 (x11)), (2, .int .i64 (x12)), (3, .int .i64 (x13)), (25, .slice A24 (l27).length c25), (26, .int .i64 ((l27.length : Int))), (27, .int .i64 ((k541 : Int))), (52, .bool (x603))] = e' ∧ (g10, Cl 170 [.string (x14), .int .i64 (x15), .int .i64 (x16), .int .i64 (x17), .int .i64 (x18), .int .i64 (x19), .int .i64 (x20), .int .i64 (x21), .int .i64 (x22), .int .i64 (x23), .slice A24 (l27).length c25, .slice A3 (l30).length c4, .int .i64 (x28), .int .i64 (x29), .map (some g8)]) :: (hs2 ++ (hs538 ++ R)) = hp' ∧ b535.Le b601) ?_ ?_
          ·
            have hm := hj604
            refine c_region ?_
            refine t_st rfl (st_move rfl) ?_
            refine t_st rfl (st_nil rfl) ?_
            refine t_st rfl (st_field rfl fld170_2) ?_
            refine t_st rfl (st_load 1 rfl one24 rfl rfl) ?_
            refine t_st rfl (st_move rfl) ?_
            obtain ⟨_, h605, hm⟩ := bindS hm
            have h605 := (chk_some h605).2
            refine t_st rfl (st_add rfl rfl h605) ?_
            obtain ⟨x606, h607, hm⟩ := bindS hm
            obtain ⟨j608, hj609, hx610⟩ := idx_some h607
            obtain ⟨cs611, hs616, P617, P618, hq619, hr612, hcs613, hA614, hlt615, hb620, hho621⟩ := OS.get (sz := 1) rfl (by decide) (h5.le (hle349.trans hle536)) hx610
            obtain ⟨rfl, rfl⟩ := hr612
            refine t_st rfl (st_index_old j608 rfl rfl hj609 hlt615 hA614 sl24) ?_
            refine t_st rfl (st_load_rd rfl one3 (fun w ho => hcs613 w _ ho (.cons _ (.cons _ (List.sublist_append_left _ _))) 0 _ rfl)) ?_
            refine t_st rfl (st_move rfl) ?_
            refine t_bool rfl (st_gtr rfl rfl) (fun hc622 => ?_) (fun hc622 => ?_)
            ·
              rw [if_pos hc622] at hm
              refine t_st rfl (st_move rfl) ?_
              refine t_yes 63 rfl rfl rfl ?_
              refine t_st rfl (st_move rfl) ?_
              refine t_yes 63 rfl rfl rfl ?_
              refine t_st rfl (st_field rfl fld97_2) ?_
              refine t_yes 63 rfl rfl rfl ?_
              refine t_st rfl (st_load 0 rfl one3 rfl rfl) ?_
              refine t_yes 63 rfl rfl rfl ?_
              refine t_st rfl (st_gtr rfl rfl) ?_
              refine t_st rfl (st_pick_t rfl rfl) ?_
              refine t_st rfl (st_assign rfl) ?_
              refine t_nil ?_
              obtain rfl := some1 hm
              refine x_pullb 1 rfl ?_
              refine x_front2 [_, _] hs2 hs538 R rfl ?_
              refine x_front2 [_, _] hs538 hs2 R rfl ?_
              exact x_join (e' := [(0, .pointer (some ⟨g10, 0, none⟩)), (1, .int .i64 (x11)), (2, .int .i64 (x12)), (3, .int .i64 (x13)), (25, .slice A24 (l27).length c25), (26, .int .i64 ((l27.length : Int))), (27, .int .i64 ((k541 : Int))), (52, .bool (decide (x545.Speed < x13)))]) (hp' := (g10, Cl 170 [.string (x14), .int .i64 (x15), .int .i64 (x16), .int .i64 (x17), .int .i64 (x18), .int .i64 (x19), .int .i64 (x20), .int .i64 (x21), .int .i64 (x22), .int .i64 (x23), .slice A24 (l27).length c25, .slice A3 (l30).length c4, .int .i64 (x28), .int .i64 (x29), .map (some g8)]) :: (hs2 ++ (hs538 ++ R))) ⟨rfl, rfl, rfl, rfl, rfl, rfl, rfl, rfl, trivial⟩ (.cons_cons _ (.cons _ (sub_app hs2 (sub_app hs538 (.refl _))))) ⟨rfl, rfl, (Base.Le.refl _)⟩
            ·
              rw [if_neg hc622] at hm
              refine t_st rfl (st_move rfl) ?_
              refine t_no 63 rfl rfl rfl rfl rfl ?_
              refine t_no 63 rfl rfl rfl rfl rfl ?_
              refine t_no 63 rfl rfl rfl rfl rfl ?_
              refine t_no 63 rfl rfl rfl rfl rfl ?_
              refine t_st rfl (st_pick_f rfl rfl) ?_
              refine t_st rfl (st_assign rfl) ?_
              refine t_nil ?_
              obtain rfl := some1 hm
              refine x_pullb 1 rfl ?_
              refine x_front2 [_, _] hs2 hs538 R rfl ?_
              refine x_front2 [_, _] hs538 hs2 R rfl ?_
              exact x_join (e' := [(0, .pointer (some ⟨g10, 0, none⟩)), (1, .int .i64 (x11)), (2, .int .i64 (x12)), (3, .int .i64 (x13)), (25, .slice A24 (l27).length c25), (26, .int .i64 ((l27.length : Int))), (27, .int .i64 ((k541 : Int))), (52, .bool (false))]) (hp' := (g10, Cl 170 [.string (x14), .int .i64 (x15), .int .i64 (x16), .int .i64 (x17), .int .i64 (x18), .int .i64 (x19), .int .i64 (x20), .int .i64 (x21), .int .i64 (x22), .int .i64 (x23), .slice A24 (l27).length c25, .slice A3 (l30).length c4, .int .i64 (x28), .int .i64 (x29), .map (some g8)]) :: (hs2 ++ (hs538 ++ R))) ⟨rfl, rfl, rfl, rfl, rfl, rfl, rfl, rfl, trivial⟩ (.cons_cons _ (.cons _ (sub_app hs2 (sub_app hs538 (.refl _))))) ⟨rfl, rfl, (Base.Le.refl _)⟩
          ·
            rintro b601 _ _ ⟨rfl, rfl, hle602⟩
            have hm := hk604
            refine c_cond _ rfl (fun hc623 => ?_) (fun hc623 => ?_)
            ·
              rw [if_pos hc623] at hm
              refine c_seq ?_
              refine c_region ?_
              refine t_st rfl (st_assign rfl) ?_
              refine t_nil ?_
              refine x_then_normal ?_
              refine c_ret ?_
              refine x_block_ret ?_
              refine x_block_ret ?_
              refine x_then_ret ?_
              refine x_then_ret ?_
              refine x_block_ret ?_
              refine x_then_ret ?_
              have hq624 := houtL373 _ (Option.some.inj hm).symm
              rw [hq624] at hk544
              have hm := elimR hk544
              obtain ⟨rfl, rfl⟩ := some2 hm
              refine x_front2 [_] hs2 hs538 R rfl ?_
              refine x_front2 [_] hs538 hs2 R rfl ?_
              exact retM (rs := [.tmp 8]) [.bool (false)] (hle349.trans (hle536.trans hle602)) (by decide) rfl ⟨rfl, trivial⟩ rfl (hp' := (g10, Cl 170 [.string (x14), .int .i64 (x15), .int .i64 (x16), .int .i64 (x17), .int .i64 (x18), .int .i64 (x19), .int .i64 (x20), .int .i64 (x21), .int .i64 (x22), .int .i64 (x23), .slice A24 (l27).length c25, .slice A3 (l30).length c4, .int .i64 (x28), .int .i64 (x29), .map (some g8)]) :: (hs2 ++ (hs538 ++ R))) (.cons_cons _ (sub_app hs2 (sub_app hs538 (.refl _)))) ⟨g8, hs538, rfl, rfl, (h539.le hle602)⟩
            ·
              rw [if_neg (fun hh => Bool.noConfusion (hh.symm.trans hc623))] at hm
              refine c_skip ?_
              refine x_block_normal ?_
              refine x_block_normal ?_
              refine x_then_normal ?_
              refine c_region ?_
              refine t_st rfl (st_add rfl rfl (by omega)) ?_
              refine t_st rfl (st_move rfl) ?_
              refine t_nil ?_
              refine x_front2 [_] hs2 hs538 R rfl ?_
              refine x_front2 [_] hs538 hs2 R rfl ?_
              exact x_againM l540 (Option.some.inj hm).symm (e' := [(0, .pointer (some ⟨g10, 0, none⟩)), (1, .int .i64 (x11)), (2, .int .i64 (x12)), (3, .int .i64 (x13)), (25, .slice A24 (l27).length c25), (26, .int .i64 ((l27.length : Int))), (27, .int .i64 ((k541 : Int) + 1))]) (hp' := (g10, Cl 170 [.string (x14), .int .i64 (x15), .int .i64 (x16), .int .i64 (x17), .int .i64 (x18), .int .i64 (x19), .int .i64 (x20), .int .i64 (x21), .int .i64 (x22), .int .i64 (x23), .slice A24 (l27).length c25, .slice A3 (l30).length c4, .int .i64 (x28), .int .i64 (x29), .map (some g8)]) :: (hs2 ++ (hs538 ++ R))) ⟨rfl, rfl, rfl, rfl, rfl, rfl, rfl, trivial⟩ (.cons_cons _ (sub_app hs2 (sub_app hs538 (.refl _)))) ⟨hs538, rfl, rfl, ((hle536.trans hle602)), (h539.le hle602)⟩
      ·
        rintro l540 b535 _ _ ⟨hs538, rfl, rfl, hle536, h539⟩ hq625
        rw [hq625] at hk544
        have hm := elimL hk544
        refine c_seq ?_
        refine c_region ?_
        refine t_st rfl (st_lss_f rfl rfl (by omega)) ?_
        refine t_nil ?_
        refine x_then_normal ?_
        refine c_seq ?_
        refine c_cond_f rfl ?_
        refine c_exit ?_
        refine x_then_exit ?_
        refine x_then_exit ?_
        refine x_block_out ?_
        refine x_then_normal ?_
        refine c_seq ?_
        refine c_region ?_
        refine t_st rfl (st_assign rfl) ?_
        refine t_nil ?_
        refine x_then_normal ?_
        refine c_ret ?_
        obtain ⟨rfl, rfl⟩ := some2 hm
        refine x_front2 [_] hs2 hs538 R rfl ?_
        refine x_front2 [_] hs538 hs2 R rfl ?_
        exact retM (rs := [.tmp 8]) [.bool (true)] (hle349.trans hle536) (by decide) rfl ⟨rfl, trivial⟩ rfl (hp' := (g10, Cl 170 [.string (x14), .int .i64 (x15), .int .i64 (x16), .int .i64 (x17), .int .i64 (x18), .int .i64 (x19), .int .i64 (x20), .int .i64 (x21), .int .i64 (x22), .int .i64 (x23), .slice A24 (l27).length c25, .slice A3 (l30).length c4, .int .i64 (x28), .int .i64 (x29), .map (some g8)]) :: (hs2 ++ (hs538 ++ R))) (.cons_cons _ (sub_app hs2 (sub_app hs538 (.refl _)))) ⟨g8, hs538, rfl, rfl, h539⟩

end Go.Proofs.YtljcafilceachaaDoor
