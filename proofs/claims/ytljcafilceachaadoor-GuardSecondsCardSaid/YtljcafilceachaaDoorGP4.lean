/- Contracts: the code computes its model (part 4). -/
import Derived.Test.YtljcafilceachaaDoorGP3
set_option linter.unusedVariables false
set_option linter.unusedSimpArgs false
namespace Go.Proofs.YtljcafilceachaaDoor
open Go.RowKit Go.Fp

set_option maxRecDepth 20000 in
theorem cGuardNext (b : Base) (R : Hp) (s1 : ApiStock) (l5 : (List ApiPiece)) (s6 : ApiState) (x7 : Int) (x8 : Int) (x9 : Int) (x10 : Int) (A2 : Option Addr) (c3 : Nat) (h4 : FZ rApiPiece b.w A2 c3 l5) (x158 : Int) (x159 : Int) (x160 : Int) (x161 : Int) (hm : mGuardNext s1 l5 s6 x7 x8 x9 x10 = some (x158, x159, x160, x161)) :
    CallsG Tryd.prog 41 [.agg #[.string (s1.Name), .int .i64 (s1.Length), .int .i64 (s1.Mass), .int .i64 (s1.Start), .int .i64 (s1.Power), .int .i64 (s1.Roll), .int .i64 (s1.Drag), .int .i64 (s1.Brake), .int .i64 (s1.Top), .int .i64 (s1.Seats)], .slice A2 (l5).length c3, .agg #[.int .i64 (s6.At), .int .i64 (s6.Speed), .int .i64 (s6.Work)], .int .i64 (x7), .int .i64 (x8), .int .i64 (x9), .int .i64 (x10)] b (R) (fun v b' hp' => .tuple #[.agg #[.int .i64 (x158), .int .i64 (x159), .int .i64 (x160)], .int .i64 (x161)] = v ∧ R = hp') := by
  refine fn_enterG 147 Tryd.func41 rfl Tryd.ntmps41 rfl ?_
  unfold mGuardNext at hm
  refine c_seq ?_
  refine c_region ?_
  refine t_do rfl (u_box _ rfl rfl) ?_
  rintro _ _ ⟨g162, rfl, rfl⟩
  refine t_do rfl (u_box _ rfl rfl) ?_
  rintro _ _ ⟨g163, rfl, rfl⟩
  refine t_do rfl (u_alloc [.int .i64 0, .int .i64 0, .int .i64 0] zero82 rfl) ?_
  rintro _ _ ⟨g164, rfl, rfl⟩
  refine t_st rfl (st_assign rfl) ?_
  refine t_nil ?_
  refine x_then_normal ?_
  refine c_seq ?_
  refine c_region ?_
  refine t_st rfl (st_loadD (vs := [_, _, _, _, _, _, _, _, _, _]) 2 10 rfl agg43 rfl rfl rfl) ?_
  refine t_st rfl (st_move rfl) ?_
  refine t_st rfl (st_move rfl) ?_
  refine t_st rfl (st_move rfl) ?_
  refine t_st rfl (st_move rfl) ?_
  refine t_st rfl (st_field rfl fld82_1) ?_
  refine t_st rfl (st_load 1 rfl one3 rfl rfl) ?_
  obtain ⟨⟨x165, x166⟩, hcl167, hm⟩ := bindS hm
  have hm := (unc2E hm)
  refine t_do rfl (u_callW0 _ call72 rfl (fun w ho => cGuardPermit _ [] s1 l5 x7 x8 x9 s6.Speed A2 c3 (h4.old ho) x165 x166 hcl167) (fun _ _ _ h => h.2.symm)) ?_
  rintro _ _ ⟨⟨_, rfl, _⟩, rfl⟩
  refine t_st rfl (st_move rfl) ?_
  refine t_st rfl (st_extract rfl rfl) ?_
  refine t_st rfl (st_extract rfl rfl) ?_
  refine t_st rfl (st_assign rfl) ?_
  refine t_st rfl (st_assign rfl) ?_
  refine t_nil ?_
  refine x_then_normal ?_
  refine c_seq ?_
  refine c_seq ?_
  refine c_region ?_
  refine t_st rfl (st_move rfl) ?_
  refine t_st rfl (st_neq rfl rfl) ?_
  refine t_nil ?_
  refine x_then_normal ?_
  refine c_cond _ rfl (fun hc168 => ?_) (fun hc168 => ?_)
  ·
    rw [if_pos (of_decide_eq_true hc168)] at hm
    refine c_seq ?_
    refine c_region ?_
    refine t_st rfl (st_build (v := .agg #[.int .i64 (0), .int .i64 (0), .int .i64 (0)]) [] rfl (fun _ => by kernel_rfl)) ?_
    refine t_st rfl (st_move rfl) ?_
    refine t_do rfl (u_storeN (vs := [_, _, _]) 0 3 rfl rfl rfl siz82 rfl (by intro u hu; simp only [List.mem_cons, List.not_mem_nil, or_false] at hu; rcases hu with rfl | rfl | rfl <;> rfl) rfl (by simp)) ?_
    rintro _ _ rfl
    refine t_st rfl (st_assign rfl) ?_
    refine t_nil ?_
    refine x_then_normal ?_
    refine c_ret ?_
    refine x_then_ret ?_
    obtain ⟨rfl, rfl, rfl, rfl⟩ := some4 hm
    exact retM (rs := [.cell 14 82, .tmp 15]) [.agg #[.int .i64 (0), .int .i64 (0), .int .i64 (0)], .int .i64 (x166)] (Base.Le.refl _) (by decide) rfl ⟨⟨_, rfl, fun w ho => cell_agg (vs := [_, _, _]) 0 3 agg82 rfl rfl rfl w ho⟩, ⟨rfl, trivial⟩⟩ rfl (hp' := R) (.cons _ (.cons _ (.cons _ (.refl _)))) ⟨rfl, rfl⟩
  ·
    rw [if_neg (of_decide_eq_false hc168)] at hm
    refine c_skip ?_
    refine x_then_normal ?_
    refine c_seq ?_
    obtain ⟨x179, hj180, hk180⟩ := bindS hm
    refine c_join (fun b177 e' hp' => [(1, .slice A2 (l5).length c3), (6, .int .i64 (x10)), (7, .pointer (some ⟨g162, 0, none⟩)), (9, .pointer (some ⟨g163, 0, none⟩)), (14, .pointer (some ⟨g164, 0, none⟩)), (16, .int .i64 (x165)), (59, .bool (x179))] = e' ∧ (g162, Cl 43 [.string (s1.Name), .int .i64 (s1.Length), .int .i64 (s1.Mass), .int .i64 (s1.Start), .int .i64 (s1.Power), .int .i64 (s1.Roll), .int .i64 (s1.Drag), .int .i64 (s1.Brake), .int .i64 (s1.Top), .int .i64 (s1.Seats)]) :: (g163, Cl 82 [.int .i64 (s6.At), .int .i64 (s6.Speed), .int .i64 (s6.Work)]) :: (g164, Cl 82 [.int .i64 (0), .int .i64 (0), .int .i64 (0)]) :: R = hp' ∧ b.Le b177) ?_ ?_
    ·
      have hm := hj180
      refine c_region ?_
      refine t_st rfl (st_field rfl fld82_0) ?_
      refine t_st rfl (st_load 1 rfl one3 rfl rfl) ?_
      refine t_st rfl (st_move rfl) ?_
      refine t_st rfl (st_move rfl) ?_
      obtain ⟨x181, hcl182, hm⟩ := bindS hm
      refine t_do rfl (u_callW0 _ call63 rfl (fun w ho => cGuardWithin _ [] s6.At x7 x8 x181 hcl182) (fun _ _ _ h => h.2.symm)) ?_
      rintro _ _ ⟨⟨_, rfl, _⟩, rfl⟩
      rcases Bool.eq_false_or_eq_true x181 with hc183 | hc183
      ·
        rw [if_pos hc183] at hm
        refine t_resp 47 rfl (v' := .bool true) (by rw [hc183] <;> rfl) ?_
        refine t_st rfl (st_not_t rfl) ?_
        refine t_st rfl (st_move rfl) ?_
        refine t_yes 49 rfl rfl rfl ?_
        refine t_st rfl (st_field rfl fld82_2) ?_
        refine t_yes 49 rfl rfl rfl ?_
        refine t_st rfl (st_load 1 rfl one3 rfl rfl) ?_
        refine t_yes 49 rfl rfl rfl ?_
        obtain ⟨x184, hcl185, hm⟩ := bindS hm
        refine t_do rfl (u_callW0 _ call63 rfl (fun w ho => cGuardWithin _ [] s6.Work 0 1152921504606846976 x184 hcl185) (fun _ _ _ h => h.2.symm)) ?_
        rintro _ _ ⟨⟨_, rfl, _⟩, rfl⟩
        rcases Bool.eq_false_or_eq_true x184 with hc186 | hc186
        ·
          rw [if_pos hc186] at hm
          refine t_resp 52 rfl (v' := .bool true) (by rw [hc186] <;> rfl) ?_
          refine t_yes 49 rfl rfl rfl ?_
          refine t_st rfl (st_not_t rfl) ?_
          refine t_st rfl (st_pick_f rfl rfl) ?_
          refine t_st rfl (st_move rfl) ?_
          refine t_yes 55 rfl rfl rfl ?_
          refine t_st rfl (st_move rfl) ?_
          refine t_yes 55 rfl rfl rfl ?_
          obtain ⟨x187, hcl188, hm⟩ := bindS hm
          refine t_do rfl (u_callW0 _ call63 rfl (fun w ho => cGuardWithin _ [] x10 0 6000 x187 hcl188) (fun _ _ _ h => h.2.symm)) ?_
          rintro _ _ ⟨⟨_, rfl, _⟩, rfl⟩
          refine t_yes 55 rfl rfl rfl ?_
          refine t_st rfl (st_not rfl) ?_
          refine t_st rfl (st_pick_f rfl rfl) ?_
          refine t_nil ?_
          obtain rfl := some1 hm
          refine x_pullb 1 rfl ?_
          refine x_pullb 2 rfl ?_
          exact x_join (e' := [(1, .slice A2 (l5).length c3), (6, .int .i64 (x10)), (7, .pointer (some ⟨g162, 0, none⟩)), (9, .pointer (some ⟨g163, 0, none⟩)), (14, .pointer (some ⟨g164, 0, none⟩)), (16, .int .i64 (x165)), (59, .bool (!x187))]) (hp' := (g162, Cl 43 [.string (s1.Name), .int .i64 (s1.Length), .int .i64 (s1.Mass), .int .i64 (s1.Start), .int .i64 (s1.Power), .int .i64 (s1.Roll), .int .i64 (s1.Drag), .int .i64 (s1.Brake), .int .i64 (s1.Top), .int .i64 (s1.Seats)]) :: (g163, Cl 82 [.int .i64 (s6.At), .int .i64 (s6.Speed), .int .i64 (s6.Work)]) :: (g164, Cl 82 [.int .i64 (0), .int .i64 (0), .int .i64 (0)]) :: R) ⟨rfl, rfl, rfl, rfl, rfl, rfl, rfl, trivial⟩ (.cons_cons _ (.cons_cons _ (.cons_cons _ (.refl _)))) ⟨rfl, rfl, (Base.Le.refl _)⟩
        ·
          rw [if_neg (fun hh => Bool.noConfusion (hh.symm.trans hc186))] at hm
          refine t_resp 52 rfl (v' := .bool false) (by rw [hc186] <;> rfl) ?_
          refine t_yes 49 rfl rfl rfl ?_
          refine t_st rfl (st_not_f rfl) ?_
          refine t_st rfl (st_pick_f rfl rfl) ?_
          refine t_st rfl (st_move rfl) ?_
          refine t_no 55 rfl rfl rfl rfl rfl ?_
          refine t_no 55 rfl rfl rfl rfl rfl ?_
          refine t_no 55 rfl rfl rfl rfl rfl ?_
          refine t_st rfl (st_pick_t rfl rfl) ?_
          refine t_nil ?_
          obtain rfl := some1 hm
          refine x_pullb 1 rfl ?_
          refine x_pullb 2 rfl ?_
          exact x_join (e' := [(1, .slice A2 (l5).length c3), (6, .int .i64 (x10)), (7, .pointer (some ⟨g162, 0, none⟩)), (9, .pointer (some ⟨g163, 0, none⟩)), (14, .pointer (some ⟨g164, 0, none⟩)), (16, .int .i64 (x165)), (59, .bool (true))]) (hp' := (g162, Cl 43 [.string (s1.Name), .int .i64 (s1.Length), .int .i64 (s1.Mass), .int .i64 (s1.Start), .int .i64 (s1.Power), .int .i64 (s1.Roll), .int .i64 (s1.Drag), .int .i64 (s1.Brake), .int .i64 (s1.Top), .int .i64 (s1.Seats)]) :: (g163, Cl 82 [.int .i64 (s6.At), .int .i64 (s6.Speed), .int .i64 (s6.Work)]) :: (g164, Cl 82 [.int .i64 (0), .int .i64 (0), .int .i64 (0)]) :: R) ⟨rfl, rfl, rfl, rfl, rfl, rfl, rfl, trivial⟩ (.cons_cons _ (.cons_cons _ (.cons_cons _ (.refl _)))) ⟨rfl, rfl, (Base.Le.refl _)⟩
      ·
        rw [if_neg (fun hh => Bool.noConfusion (hh.symm.trans hc183))] at hm
        refine t_resp 47 rfl (v' := .bool false) (by rw [hc183] <;> rfl) ?_
        refine t_st rfl (st_not_f rfl) ?_
        refine t_st rfl (st_move rfl) ?_
        refine t_no 49 rfl rfl rfl rfl rfl ?_
        refine t_no 49 rfl rfl rfl rfl rfl ?_
        refine t_no 49 rfl rfl rfl rfl rfl ?_
        refine t_no 49 rfl rfl rfl rfl rfl ?_
        refine t_st rfl (st_pick_t rfl rfl) ?_
        refine t_st rfl (st_move rfl) ?_
        refine t_no 55 rfl rfl rfl rfl rfl ?_
        refine t_no 55 rfl rfl rfl rfl rfl ?_
        refine t_no 55 rfl rfl rfl rfl rfl ?_
        refine t_st rfl (st_pick_t rfl rfl) ?_
        refine t_nil ?_
        obtain rfl := some1 hm
        refine x_pullb 1 rfl ?_
        refine x_pullb 2 rfl ?_
        exact x_join (e' := [(1, .slice A2 (l5).length c3), (6, .int .i64 (x10)), (7, .pointer (some ⟨g162, 0, none⟩)), (9, .pointer (some ⟨g163, 0, none⟩)), (14, .pointer (some ⟨g164, 0, none⟩)), (16, .int .i64 (x165)), (59, .bool (true))]) (hp' := (g162, Cl 43 [.string (s1.Name), .int .i64 (s1.Length), .int .i64 (s1.Mass), .int .i64 (s1.Start), .int .i64 (s1.Power), .int .i64 (s1.Roll), .int .i64 (s1.Drag), .int .i64 (s1.Brake), .int .i64 (s1.Top), .int .i64 (s1.Seats)]) :: (g163, Cl 82 [.int .i64 (s6.At), .int .i64 (s6.Speed), .int .i64 (s6.Work)]) :: (g164, Cl 82 [.int .i64 (0), .int .i64 (0), .int .i64 (0)]) :: R) ⟨rfl, rfl, rfl, rfl, rfl, rfl, rfl, trivial⟩ (.cons_cons _ (.cons_cons _ (.cons_cons _ (.refl _)))) ⟨rfl, rfl, (Base.Le.refl _)⟩
    ·
      rintro b177 _ _ ⟨rfl, rfl, hle178⟩
      have hm := hk180
      refine c_cond _ rfl (fun hc189 => ?_) (fun hc189 => ?_)
      ·
        rw [if_pos hc189] at hm
        refine c_seq ?_
        refine c_region ?_
        refine t_st rfl (st_build (v := .agg #[.int .i64 (0), .int .i64 (0), .int .i64 (0)]) [] rfl (fun _ => by kernel_rfl)) ?_
        refine t_do rfl (u_storeN (vs := [_, _, _]) 2 3 rfl rfl rfl siz82 rfl (by intro u hu; simp only [List.mem_cons, List.not_mem_nil, or_false] at hu; rcases hu with rfl | rfl | rfl <;> rfl) rfl (by simp)) ?_
        rintro _ _ rfl
        refine t_st rfl (st_assign rfl) ?_
        refine t_nil ?_
        refine x_then_normal ?_
        refine c_ret ?_
        refine x_then_ret ?_
        obtain ⟨rfl, rfl, rfl, rfl⟩ := some4 hm
        exact retM (rs := [.cell 14 82, .tmp 15]) [.agg #[.int .i64 (0), .int .i64 (0), .int .i64 (0)], .int .i64 (2)] hle178 (by decide) rfl ⟨⟨_, rfl, fun w ho => cell_agg (vs := [_, _, _]) 2 3 agg82 rfl rfl rfl w ho⟩, ⟨rfl, trivial⟩⟩ rfl (hp' := R) (.cons _ (.cons _ (.cons _ (.refl _)))) ⟨rfl, rfl⟩
      ·
        rw [if_neg (fun hh => Bool.noConfusion (hh.symm.trans hc189))] at hm
        refine c_skip ?_
        refine x_then_normal ?_
        refine c_seq ?_
        refine c_region ?_
        refine t_st rfl (st_assign rfl) ?_
        refine t_st rfl (st_assign rfl) ?_
        refine t_nil ?_
        refine x_then_normal ?_
        refine c_seq ?_
        refine c_seq ?_
        refine c_region ?_
        refine t_st rfl (st_move rfl) ?_
        refine t_st rfl (st_len rfl sl80) ?_
        refine t_st rfl (st_move rfl) ?_
        refine t_nil ?_
        refine x_then_normal ?_
        refine c_block ?_
        have hb191 := (FZ.bd (h4.le hle178))
        refine c_pullb 2 rfl ?_
        refine c_pullb 2 rfl ?_
        refine c_pullb 2 rfl ?_
        obtain ⟨⟨x232, x233⟩, hl235, hk236⟩ := bindS hm
        refine c_forS (fun k234 => unc2 fun x232 x233 => fun b230 e' hp' => [(6, .int .i64 (x10)), (7, .pointer (some ⟨g162, 0, none⟩)), (9, .pointer (some ⟨g163, 0, none⟩)), (14, .pointer (some ⟨g164, 0, none⟩)), (16, .int .i64 (x165)), (18, .int .i64 (x232)), (19, .int .i64 (x233)), (61, .slice A2 (l5).length c3), (62, .int .i64 ((l5.length : Int))), (63, .int .i64 ((k234 : Int)))] = e' ∧ (g162, Cl 43 [.string (s1.Name), .int .i64 (s1.Length), .int .i64 (s1.Mass), .int .i64 (s1.Start), .int .i64 (s1.Power), .int .i64 (s1.Roll), .int .i64 (s1.Drag), .int .i64 (s1.Brake), .int .i64 (s1.Top), .int .i64 (s1.Seats)]) :: (g163, Cl 82 [.int .i64 (s6.At), .int .i64 (s6.Speed), .int .i64 (s6.Work)]) :: (g164, Cl 82 [.int .i64 (0), .int .i64 (0), .int .i64 (0)]) :: R = hp' ∧ b177.Le b230) hl235 (e' := [(6, .int .i64 (x10)), (7, .pointer (some ⟨g162, 0, none⟩)), (9, .pointer (some ⟨g163, 0, none⟩)), (14, .pointer (some ⟨g164, 0, none⟩)), (16, .int .i64 (x165)), (18, .int .i64 (0)), (19, .int .i64 (0)), (61, .slice A2 (l5).length c3), (62, .int .i64 ((l5.length : Int))), (63, .int .i64 0)]) (hp' := (g162, Cl 43 [.string (s1.Name), .int .i64 (s1.Length), .int .i64 (s1.Mass), .int .i64 (s1.Start), .int .i64 (s1.Power), .int .i64 (s1.Roll), .int .i64 (s1.Drag), .int .i64 (s1.Brake), .int .i64 (s1.Top), .int .i64 (s1.Seats)]) :: (g163, Cl 82 [.int .i64 (s6.At), .int .i64 (s6.Speed), .int .i64 (s6.Work)]) :: (g164, Cl 82 [.int .i64 (0), .int .i64 (0), .int .i64 (0)]) :: R) ⟨rfl, rfl, rfl, rfl, rfl, rfl, rfl, rfl, rfl, rfl, trivial⟩ (.cons_cons _ (.cons_cons _ (.cons_cons _ (.refl _)))) ⟨rfl, rfl, (Base.Le.refl _)⟩ ?_ ?_
        ·
          rintro k234 ⟨x232, x233⟩ b230 _ _ oL190 hknL190 ⟨rfl, rfl, hle231⟩ hstepL190
          unfold mGuardNext_L190 at hstepL190
          have hm := (unc2E hstepL190)
          refine c_seq ?_
          refine c_region ?_
          refine t_st rfl (st_lss_t rfl rfl (by omega)) ?_
          refine t_nil ?_
          refine x_then_normal ?_
          refine c_seq ?_
          refine c_cond_t rfl ?_
          refine c_skip ?_
          refine x_then_normal ?_
          refine c_seq ?_
          refine c_block ?_
          refine c_seq ?_
          refine c_region ?_
          obtain ⟨x237, h238, hm⟩ := bindS hm
          obtain ⟨j239, hj240, hx241⟩ := idx_some h238
          obtain ⟨cs242, hr243, hcs244, hA245, hlt246⟩ := FZ.get (sz := 3) rfl (by decide) (h4.le (hle178.trans hle231)) hx241
          obtain ⟨_, _, rfl, rfl, ⟨_, _, rfl, rfl, rfl⟩⟩ := hr243
          refine t_st rfl (st_index_old j239 rfl rfl hj240 hlt246 hA245 sl80) ?_
          refine t_st rfl (st_loadN_old (vs := [.int .i64 (x237.Length), .int .i64 (x237.Grade), .int .i64 (x237.Speed)]) 3 rfl agg97 hA245 rfl (fun j u hu => hcs244 j u hu)) ?_
          refine t_do rfl (u_alloc [.int .i64 0, .int .i64 0, .int .i64 0] zero97 rfl) ?_
          rintro _ _ ⟨g247, rfl, rfl⟩
          refine t_do rfl (u_storeN (vs := [_, _, _]) 0 3 rfl rfl rfl siz97 rfl (by intro u hu; simp only [List.mem_cons, List.not_mem_nil, or_false] at hu; rcases hu with rfl | rfl | rfl <;> rfl) rfl (by simp)) ?_
          rintro _ _ rfl
          refine t_nil ?_
          refine x_then_normal ?_
          obtain ⟨x251, hj252, hk252⟩ := bindS hm
          refine c_join (fun b249 e' hp' => [(6, .int .i64 (x10)), (7, .pointer (some ⟨g162, 0, none⟩)), (9, .pointer (some ⟨g163, 0, none⟩)), (14, .pointer (some ⟨g164, 0, none⟩)), (16, .int .i64 (x165)), (18, .int .i64 (x251)), (19, .int .i64 (x233)), (21, .pointer (some ⟨g247, 0, none⟩)), (61, .slice A2 (l5).length c3), (62, .int .i64 ((l5.length : Int))), (63, .int .i64 ((k234 : Int)))] = e' ∧ (g162, Cl 43 [.string (s1.Name), .int .i64 (s1.Length), .int .i64 (s1.Mass), .int .i64 (s1.Start), .int .i64 (s1.Power), .int .i64 (s1.Roll), .int .i64 (s1.Drag), .int .i64 (s1.Brake), .int .i64 (s1.Top), .int .i64 (s1.Seats)]) :: (g163, Cl 82 [.int .i64 (s6.At), .int .i64 (s6.Speed), .int .i64 (s6.Work)]) :: (g164, Cl 82 [.int .i64 (0), .int .i64 (0), .int .i64 (0)]) :: (g247, Cl 97 [.int .i64 (x237.Length), .int .i64 (x237.Grade), .int .i64 (x237.Speed)]) :: R = hp' ∧ b230.Le b249) ?_ ?_
          ·
            have hm := hj252
            refine c_seq ?_
            refine c_region ?_
            refine t_st rfl (st_move rfl) ?_
            refine t_st rfl (st_field rfl fld82_0) ?_
            refine t_st rfl (st_load 2 rfl one3 rfl rfl) ?_
            refine t_st rfl (st_leq rfl rfl) ?_
            refine t_nil ?_
            refine x_then_normal ?_
            refine c_cond _ rfl (fun hc253 => ?_) (fun hc253 => ?_)
            ·
              rw [if_pos (of_decide_eq_true hc253)] at hm
              refine c_region ?_
              refine t_st rfl (st_field rfl fld97_1) ?_
              refine t_st rfl (st_load 0 rfl one3 rfl rfl) ?_
              refine t_st rfl (st_assign rfl) ?_
              refine t_nil ?_
              obtain rfl := some1 hm
              refine x_pullb 3 rfl ?_
              refine x_pullb 3 rfl ?_
              refine x_pullb 3 rfl ?_
              exact x_join (e' := [(6, .int .i64 (x10)), (7, .pointer (some ⟨g162, 0, none⟩)), (9, .pointer (some ⟨g163, 0, none⟩)), (14, .pointer (some ⟨g164, 0, none⟩)), (16, .int .i64 (x165)), (18, .int .i64 (x237.Grade)), (19, .int .i64 (x233)), (21, .pointer (some ⟨g247, 0, none⟩)), (61, .slice A2 (l5).length c3), (62, .int .i64 ((l5.length : Int))), (63, .int .i64 ((k234 : Int)))]) (hp' := (g162, Cl 43 [.string (s1.Name), .int .i64 (s1.Length), .int .i64 (s1.Mass), .int .i64 (s1.Start), .int .i64 (s1.Power), .int .i64 (s1.Roll), .int .i64 (s1.Drag), .int .i64 (s1.Brake), .int .i64 (s1.Top), .int .i64 (s1.Seats)]) :: (g163, Cl 82 [.int .i64 (s6.At), .int .i64 (s6.Speed), .int .i64 (s6.Work)]) :: (g164, Cl 82 [.int .i64 (0), .int .i64 (0), .int .i64 (0)]) :: (g247, Cl 97 [.int .i64 (x237.Length), .int .i64 (x237.Grade), .int .i64 (x237.Speed)]) :: R) ⟨rfl, rfl, rfl, rfl, rfl, rfl, rfl, rfl, rfl, rfl, rfl, trivial⟩ (.cons_cons _ (.cons_cons _ (.cons_cons _ (.cons_cons _ (.refl _))))) ⟨rfl, rfl, (Base.Le.refl _)⟩
            ·
              rw [if_neg (of_decide_eq_false hc253)] at hm
              refine c_skip ?_
              obtain rfl := some1 hm
              refine x_pullb 3 rfl ?_
              refine x_pullb 3 rfl ?_
              refine x_pullb 3 rfl ?_
              exact x_join (e' := [(6, .int .i64 (x10)), (7, .pointer (some ⟨g162, 0, none⟩)), (9, .pointer (some ⟨g163, 0, none⟩)), (14, .pointer (some ⟨g164, 0, none⟩)), (16, .int .i64 (x165)), (18, .int .i64 (x232)), (19, .int .i64 (x233)), (21, .pointer (some ⟨g247, 0, none⟩)), (61, .slice A2 (l5).length c3), (62, .int .i64 ((l5.length : Int))), (63, .int .i64 ((k234 : Int)))]) (hp' := (g162, Cl 43 [.string (s1.Name), .int .i64 (s1.Length), .int .i64 (s1.Mass), .int .i64 (s1.Start), .int .i64 (s1.Power), .int .i64 (s1.Roll), .int .i64 (s1.Drag), .int .i64 (s1.Brake), .int .i64 (s1.Top), .int .i64 (s1.Seats)]) :: (g163, Cl 82 [.int .i64 (s6.At), .int .i64 (s6.Speed), .int .i64 (s6.Work)]) :: (g164, Cl 82 [.int .i64 (0), .int .i64 (0), .int .i64 (0)]) :: (g247, Cl 97 [.int .i64 (x237.Length), .int .i64 (x237.Grade), .int .i64 (x237.Speed)]) :: R) ⟨rfl, rfl, rfl, rfl, rfl, rfl, rfl, rfl, rfl, rfl, rfl, trivial⟩ (.cons_cons _ (.cons_cons _ (.cons_cons _ (.cons_cons _ (.refl _))))) ⟨rfl, rfl, (Base.Le.refl _)⟩
          ·
            rintro b249 _ _ ⟨rfl, rfl, hle250⟩
            have hm := hk252
            refine c_region ?_
            refine t_st rfl (st_move rfl) ?_
            refine t_st rfl (st_field rfl fld97_0) ?_
            refine t_st rfl (st_load 3 rfl one3 rfl rfl) ?_
            obtain ⟨_, h254, hm⟩ := bindS hm
            have h254 := (chk_some h254).2
            refine t_st rfl (st_add rfl rfl h254) ?_
            refine t_st rfl (st_assign rfl) ?_
            refine t_nil ?_
            refine x_block_normal ?_
            refine x_then_normal ?_
            refine c_region ?_
            refine t_st rfl (st_add rfl rfl (by omega)) ?_
            refine t_st rfl (st_move rfl) ?_
            refine t_nil ?_
            refine x_pullb 2 rfl ?_
            refine x_pullb 2 rfl ?_
            refine x_pullb 2 rfl ?_
            obtain rfl := some1 hm
            exact x_againS (e' := [(6, .int .i64 (x10)), (7, .pointer (some ⟨g162, 0, none⟩)), (9, .pointer (some ⟨g163, 0, none⟩)), (14, .pointer (some ⟨g164, 0, none⟩)), (16, .int .i64 (x165)), (18, .int .i64 (x251)), (19, .int .i64 (x233 + x237.Length)), (61, .slice A2 (l5).length c3), (62, .int .i64 ((l5.length : Int))), (63, .int .i64 ((k234 : Int) + 1))]) (hp' := (g162, Cl 43 [.string (s1.Name), .int .i64 (s1.Length), .int .i64 (s1.Mass), .int .i64 (s1.Start), .int .i64 (s1.Power), .int .i64 (s1.Roll), .int .i64 (s1.Drag), .int .i64 (s1.Brake), .int .i64 (s1.Top), .int .i64 (s1.Seats)]) :: (g163, Cl 82 [.int .i64 (s6.At), .int .i64 (s6.Speed), .int .i64 (s6.Work)]) :: (g164, Cl 82 [.int .i64 (0), .int .i64 (0), .int .i64 (0)]) :: R) ⟨rfl, rfl, rfl, rfl, rfl, rfl, rfl, rfl, rfl, rfl, trivial⟩ (.cons_cons _ (.cons_cons _ (.cons_cons _ (.cons _ (.refl _))))) ⟨rfl, rfl, ((hle231.trans hle250))⟩
        ·
          rintro b230 _ _ ⟨rfl, rfl, hle231⟩
          have hm := (unc2E hk236)
          refine c_seq ?_
          refine c_region ?_
          refine t_st rfl (st_lss_f rfl rfl (by omega)) ?_
          refine t_nil ?_
          refine x_then_normal ?_
          refine c_seq ?_
          refine c_cond_f rfl ?_
          refine c_exit ?_
          refine x_then_exit ?_
          refine x_then_exit ?_
          refine x_block_out ?_
          refine x_then_normal ?_
          refine c_seq ?_
          refine c_region ?_
          refine t_st rfl (st_field rfl fld82_1) ?_
          refine t_st rfl (st_load 1 rfl one3 rfl rfl) ?_
          refine t_st rfl (st_assign rfl) ?_
          refine t_nil ?_
          refine x_then_normal ?_
          refine c_seq ?_
          refine c_region ?_
          refine t_st rfl (st_loadD (vs := [_, _, _, _, _, _, _, _, _, _]) 0 10 rfl agg43 rfl rfl rfl) ?_
          refine t_st rfl (st_move rfl) ?_
          refine t_st rfl (st_move rfl) ?_
          obtain ⟨⟨x255, x256⟩, hcl257, hm⟩ := bindS hm
          have hm := (unc2E hm)
          refine t_do rfl (u_callW0 _ call73 rfl (fun w ho => cRunGain_2 _ [] s1 s6.Speed x232 x255 x256 hcl257) (fun _ _ _ h => h.2.symm)) ?_
          rintro _ _ ⟨⟨_, rfl, _⟩, rfl⟩
          refine t_st rfl (st_move rfl) ?_
          refine t_st rfl (st_extract rfl rfl) ?_
          refine t_st rfl (st_extract rfl rfl) ?_
          refine t_st rfl (st_assign rfl) ?_
          refine t_st rfl (st_assign rfl) ?_
          refine t_nil ?_
          refine x_then_normal ?_
          refine c_seq ?_
          refine c_region ?_
          refine t_st rfl (st_move rfl) ?_
          refine t_st rfl (st_move rfl) ?_
          refine t_st rfl (st_move rfl) ?_
          refine t_st rfl (st_move rfl) ?_
          obtain ⟨_, h258, hm⟩ := bindS hm
          have h258 := (chk_some h258).2
          refine t_st rfl (st_add rfl rfl h258) ?_
          refine t_st rfl (st_field rfl fld43_8) ?_
          refine t_st rfl (st_load 0 rfl one3 rfl rfl) ?_
          refine t_st rfl (st_min4 rfl rfl rfl rfl) ?_
          refine t_st rfl (st_move rfl) ?_
          refine t_st rfl (st_field rfl fld43_7) ?_
          refine t_st rfl (st_load 0 rfl one3 rfl rfl) ?_
          refine t_st rfl (st_move rfl) ?_
          obtain ⟨_, h259, hm⟩ := bindS hm
          have h259 := (chk_some h259).2
          refine t_st rfl (st_add rfl rfl h259) ?_
          obtain ⟨_, h260, hm⟩ := bindS hm
          have h260 := (chk_some h260).2
          refine t_st rfl (st_sub rfl rfl h260) ?_
          refine t_st rfl (st_max rfl rfl) ?_
          refine t_st rfl (st_max rfl rfl) ?_
          refine t_st rfl (st_assign rfl) ?_
          refine t_nil ?_
          refine x_then_normal ?_
          refine c_seq ?_
          refine c_region ?_
          refine t_st rfl (st_field rfl fld82_0) ?_
          refine t_st rfl (st_load 1 rfl one3 rfl rfl) ?_
          refine t_st rfl (st_move rfl) ?_
          refine t_st rfl (st_move rfl) ?_
          obtain ⟨_, h261, hm⟩ := bindS hm
          have h261 := (chk_some h261).2
          refine t_st rfl (st_add rfl rfl h261) ?_
          obtain ⟨_, h262, hm⟩ := bindS hm
          have h262 := (chk_some h262).2
          refine t_st rfl (st_add rfl rfl h262) ?_
          obtain ⟨_, h263, hm⟩ := bindS hm
          obtain ⟨_, h264, hm⟩ := bindS hm
          have h264 := (chk_some h264).2
          refine t_st rfl (st_quo rfl rfl (ne0_some h263) h264) ?_
          obtain ⟨_, h265, hm⟩ := bindS hm
          have h265 := (chk_some h265).2
          refine t_st rfl (st_add rfl rfl h265) ?_
          refine t_st rfl (st_move rfl) ?_
          refine t_st rfl (st_field rfl fld82_2) ?_
          refine t_st rfl (st_load 1 rfl one3 rfl rfl) ?_
          refine t_st rfl (st_build (v := .agg #[.int .i64 (s6.At + (Int.tdiv ((s6.Speed + (max (min (min (min x10 x165) (s6.Speed + x255)) s1.Top) (max 0 (s6.Speed - (s1.Brake + x232))))) + 1) 2)), .int .i64 (max (min (min (min x10 x165) (s6.Speed + x255)) s1.Top) (max 0 (s6.Speed - (s1.Brake + x232)))), .int .i64 (s6.Work)]) [(0, .int .i64 (s6.At + (Int.tdiv ((s6.Speed + (max (min (min (min x10 x165) (s6.Speed + x255)) s1.Top) (max 0 (s6.Speed - (s1.Brake + x232))))) + 1) 2))), (1, .int .i64 (max (min (min (min x10 x165) (s6.Speed + x255)) s1.Top) (max 0 (s6.Speed - (s1.Brake + x232))))), (2, .int .i64 (s6.Work))] rfl (fun _ => by kernel_rfl)) ?_
          refine t_do rfl (u_alloc [.int .i64 0, .int .i64 0, .int .i64 0] zero82 rfl) ?_
          rintro _ _ ⟨g266, rfl, rfl⟩
          refine t_do rfl (u_storeN (vs := [_, _, _]) 0 3 rfl rfl rfl siz82 rfl (by intro u hu; simp only [List.mem_cons, List.not_mem_nil, or_false] at hu; rcases hu with rfl | rfl | rfl <;> rfl) rfl (by simp)) ?_
          rintro _ _ rfl
          refine t_nil ?_
          refine x_then_normal ?_
          obtain ⟨x288, hj289, hk289⟩ := bindS hm
          refine c_join (fun b286 e' hp' => [(14, .pointer (some ⟨g164, 0, none⟩)), (26, .pointer (some ⟨g266, 0, none⟩))] = e' ∧ (g164, Cl 82 [.int .i64 (0), .int .i64 (0), .int .i64 (0)]) :: (g266, Cl 82 [.int .i64 (s6.At + (Int.tdiv ((s6.Speed + (max (min (min (min x10 x165) (s6.Speed + x255)) s1.Top) (max 0 (s6.Speed - (s1.Brake + x232))))) + 1) 2)), .int .i64 (max (min (min (min x10 x165) (s6.Speed + x255)) s1.Top) (max 0 (s6.Speed - (s1.Brake + x232)))), .int .i64 (x288)]) :: R = hp' ∧ b230.Le b286) ?_ ?_
          ·
            have hm := hj289
            refine c_seq ?_
            obtain ⟨_, h297, hm⟩ := bindS hm
            obtain ⟨_, h298, hm⟩ := bindS hm
            obtain ⟨_, h299, hm⟩ := bindS hm
            obtain ⟨_, h300, hm⟩ := bindS hm
            obtain ⟨_, h301, hm⟩ := bindS hm
            obtain ⟨_, h302, hm⟩ := bindS hm
            obtain ⟨_, h303, hm⟩ := bindS hm
            refine D_drawS ((g266, Cl 82 [.int .i64 (s6.At + (Int.tdiv ((s6.Speed + (max (min (min (min x10 x165) (s6.Speed + x255)) s1.Top) (max 0 (s6.Speed - (s1.Brake + x232))))) + 1) 2)), .int .i64 (max (min (min (min x10 x165) (s6.Speed + x255)) s1.Top) (max 0 (s6.Speed - (s1.Brake + x232)))), .int .i64 (s6.Work)]) :: (g162, Cl 43 [.string (s1.Name), .int .i64 (s1.Length), .int .i64 (s1.Mass), .int .i64 (s1.Start), .int .i64 (s1.Power), .int .i64 (s1.Roll), .int .i64 (s1.Drag), .int .i64 (s1.Brake), .int .i64 (s1.Top), .int .i64 (s1.Seats)]) :: (g163, Cl 82 [.int .i64 (s6.At), .int .i64 (s6.Speed), .int .i64 (s6.Work)]) :: (g164, Cl 82 [.int .i64 (0), .int .i64 (0), .int .i64 (0)]) :: R) mixed ?_
            refine D_st (Base.Le.refl _) 0 rfl (by kernel_rfl) (by kernel_rfl) (by kernel_rfl) rfl (st_move rfl) (.cons_cons _ (.cons_cons _ (.cons_cons _ (.cons_cons _ (.refl _))))) ?_
            refine D_st (Base.Le.refl _) 1 rfl (by kernel_rfl) (by kernel_rfl) (by kernel_rfl) rfl (st_move rfl) (.cons_cons _ (.cons_cons _ (.cons_cons _ (.cons_cons _ (.refl _))))) ?_
            have h297 := (chk_some h297).2
            refine D_st (Base.Le.refl _) 2 rfl (by kernel_rfl) (by kernel_rfl) (by kernel_rfl) rfl (st_sub rfl rfl h297) (.cons_cons _ (.cons_cons _ (.cons_cons _ (.cons_cons _ (.refl _))))) ?_
            refine D_st (Base.Le.refl _) 3 rfl (by kernel_rfl) (by kernel_rfl) (by kernel_rfl) rfl (st_field rfl fld43_5) (.cons_cons _ (.cons_cons _ (.cons_cons _ (.cons_cons _ (.refl _))))) ?_
            refine D_st (Base.Le.refl _) 4 rfl (by kernel_rfl) (by kernel_rfl) (by kernel_rfl) rfl (st_load 1 rfl one3 rfl rfl) (.cons_cons _ (.cons_cons _ (.cons_cons _ (.cons_cons _ (.refl _))))) ?_
            have h298 := (chk_some h298).2
            refine D_st (Base.Le.refl _) 5 rfl (by kernel_rfl) (by kernel_rfl) (by kernel_rfl) rfl (st_add rfl rfl h298) (.cons_cons _ (.cons_cons _ (.cons_cons _ (.cons_cons _ (.refl _))))) ?_
            refine D_st (Base.Le.refl _) 6 rfl (by kernel_rfl) (by kernel_rfl) (by kernel_rfl) rfl (st_move rfl) (.cons_cons _ (.cons_cons _ (.cons_cons _ (.cons_cons _ (.refl _))))) ?_
            refine D_st (Base.Le.refl _) 7 rfl (by kernel_rfl) (by kernel_rfl) (by kernel_rfl) rfl (st_move rfl) (.cons_cons _ (.cons_cons _ (.cons_cons _ (.cons_cons _ (.refl _))))) ?_
            have h299 := (chk_some h299).2
            refine D_st (Base.Le.refl _) 8 rfl (by kernel_rfl) (by kernel_rfl) (by kernel_rfl) rfl (st_mul rfl rfl h299) (.cons_cons _ (.cons_cons _ (.cons_cons _ (.cons_cons _ (.refl _))))) ?_
            refine D_st (Base.Le.refl _) 9 rfl (by kernel_rfl) (by kernel_rfl) (by kernel_rfl) rfl (st_field rfl fld43_6) (.cons_cons _ (.cons_cons _ (.cons_cons _ (.cons_cons _ (.refl _))))) ?_
            refine D_st (Base.Le.refl _) 10 rfl (by kernel_rfl) (by kernel_rfl) (by kernel_rfl) rfl (st_load 1 rfl one3 rfl rfl) (.cons_cons _ (.cons_cons _ (.cons_cons _ (.cons_cons _ (.refl _))))) ?_
            have h301 := (chk_some h301).2
            refine D_st (Base.Le.refl _) 11 rfl (by kernel_rfl) (by kernel_rfl) (by kernel_rfl) rfl (st_quo rfl rfl (ne0_some h300) h301) (.cons_cons _ (.cons_cons _ (.cons_cons _ (.cons_cons _ (.refl _))))) ?_
            have h302 := (chk_some h302).2
            refine D_st (Base.Le.refl _) 12 rfl (by kernel_rfl) (by kernel_rfl) (by kernel_rfl) rfl (st_add rfl rfl h302) (.cons_cons _ (.cons_cons _ (.cons_cons _ (.cons_cons _ (.refl _))))) ?_
            refine D_st (Base.Le.refl _) 13 rfl (by kernel_rfl) (by kernel_rfl) (by kernel_rfl) rfl (st_move rfl) (.cons_cons _ (.cons_cons _ (.cons_cons _ (.cons_cons _ (.refl _))))) ?_
            have h303 := (chk_some h303).2
            refine D_st (Base.Le.refl _) 14 rfl (by kernel_rfl) (by kernel_rfl) (by kernel_rfl) rfl (st_add rfl rfl h303) (.cons_cons _ (.cons_cons _ (.cons_cons _ (.cons_cons _ (.refl _))))) ?_
            refine D_st (Base.Le.refl _) 15 rfl (by kernel_rfl) (by kernel_rfl) (by kernel_rfl) rfl (st_assign rfl) (.cons_cons _ (.cons_cons _ (.cons_cons _ (.cons_cons _ (.refl _))))) ?_
            refine D_done (by kernel_rfl) ?_
            refine x_then_normal ?_
            refine c_seq ?_
            refine c_region ?_
            refine t_st rfl (st_move rfl) ?_
            refine t_st rfl (st_gtr rfl rfl) ?_
            refine t_nil ?_
            refine x_then_normal ?_
            refine c_cond _ rfl (fun hc304 => ?_) (fun hc304 => ?_)
            ·
              rw [if_pos (of_decide_eq_true hc304)] at hm
              refine c_region ?_
              refine t_st rfl (st_field rfl fld82_2) ?_
              refine t_st rfl (st_load 0 rfl one3 rfl rfl) ?_
              refine t_st rfl (st_field rfl fld43_2) ?_
              refine t_st rfl (st_load 1 rfl one3 rfl rfl) ?_
              refine t_st rfl (st_move rfl) ?_
              obtain ⟨_, h305, hm⟩ := bindS hm
              have h305 := (chk_some h305).2
              refine t_st rfl (st_mul rfl rfl h305) ?_
              refine t_st rfl (st_field rfl fld82_0) ?_
              refine t_st rfl (st_load 0 rfl one3 rfl rfl) ?_
              refine t_st rfl (st_field rfl fld82_0) ?_
              refine t_st rfl (st_load 2 rfl one3 rfl rfl) ?_
              obtain ⟨_, h306, hm⟩ := bindS hm
              have h306 := (chk_some h306).2
              refine t_st rfl (st_sub rfl rfl h306) ?_
              obtain ⟨_, h307, hm⟩ := bindS hm
              have h307 := (chk_some h307).2
              refine t_st rfl (st_mul rfl rfl h307) ?_
              obtain ⟨_, h308, hm⟩ := bindS hm
              have h308 := (chk_some h308).2
              refine t_st rfl (st_add rfl rfl h308) ?_
              refine t_st rfl (st_field rfl fld82_2) ?_
              refine t_do rfl (u_store 0 rfl rfl siz3 rfl rfl (by simp)) ?_
              rintro _ _ rfl
              refine t_nil ?_
              obtain rfl := some1 hm
              refine x_pullb 3 rfl ?_
              exact x_join (e' := [(14, .pointer (some ⟨g164, 0, none⟩)), (26, .pointer (some ⟨g266, 0, none⟩))]) (hp' := (g164, Cl 82 [.int .i64 (0), .int .i64 (0), .int .i64 (0)]) :: (g266, Cl 82 [.int .i64 (s6.At + (Int.tdiv ((s6.Speed + (max (min (min (min x10 x165) (s6.Speed + x255)) s1.Top) (max 0 (s6.Speed - (s1.Brake + x232))))) + 1) 2)), .int .i64 (max (min (min (min x10 x165) (s6.Speed + x255)) s1.Top) (max 0 (s6.Speed - (s1.Brake + x232)))), .int .i64 (s6.Work + ((s1.Mass * (((((max (min (min (min x10 x165) (s6.Speed + x255)) s1.Top) (max 0 (s6.Speed - (s1.Brake + x232)))) - s6.Speed) + s1.Roll) + (Int.tdiv (s6.Speed * s6.Speed) s1.Drag)) + x232)) * ((s6.At + (Int.tdiv ((s6.Speed + (max (min (min (min x10 x165) (s6.Speed + x255)) s1.Top) (max 0 (s6.Speed - (s1.Brake + x232))))) + 1) 2)) - s6.At)))]) :: R) ⟨rfl, rfl, trivial⟩ (.cons_cons _ (.cons_cons _ (.cons _ (.cons _ (.refl _))))) ⟨rfl, rfl, (Base.Le.refl _)⟩
            ·
              rw [if_neg (of_decide_eq_false hc304)] at hm
              refine c_skip ?_
              obtain rfl := some1 hm
              refine x_pullb 3 rfl ?_
              exact x_join (e' := [(14, .pointer (some ⟨g164, 0, none⟩)), (26, .pointer (some ⟨g266, 0, none⟩))]) (hp' := (g164, Cl 82 [.int .i64 (0), .int .i64 (0), .int .i64 (0)]) :: (g266, Cl 82 [.int .i64 (s6.At + (Int.tdiv ((s6.Speed + (max (min (min (min x10 x165) (s6.Speed + x255)) s1.Top) (max 0 (s6.Speed - (s1.Brake + x232))))) + 1) 2)), .int .i64 (max (min (min (min x10 x165) (s6.Speed + x255)) s1.Top) (max 0 (s6.Speed - (s1.Brake + x232)))), .int .i64 (s6.Work)]) :: R) ⟨rfl, rfl, trivial⟩ (.cons_cons _ (.cons_cons _ (.cons _ (.cons _ (.refl _))))) ⟨rfl, rfl, (Base.Le.refl _)⟩
          ·
            rintro b286 _ _ ⟨rfl, rfl, hle287⟩
            have hm := hk289
            refine c_seq ?_
            refine c_region ?_
            refine t_st rfl (st_loadD (vs := [_, _, _]) 1 3 rfl agg82 rfl rfl rfl) ?_
            refine t_do rfl (u_storeN (vs := [_, _, _]) 0 3 rfl rfl rfl siz82 rfl (by intro u hu; simp only [List.mem_cons, List.not_mem_nil, or_false] at hu; rcases hu with rfl | rfl | rfl <;> rfl) rfl (by simp)) ?_
            rintro _ _ rfl
            refine t_st rfl (st_assign rfl) ?_
            refine t_nil ?_
            refine x_then_normal ?_
            refine c_ret ?_
            obtain ⟨rfl, rfl, rfl, rfl⟩ := some4 hm
            exact retM (rs := [.cell 14 82, .tmp 15]) [.agg #[.int .i64 (s6.At + (Int.tdiv ((s6.Speed + (max (min (min (min x10 x165) (s6.Speed + x255)) s1.Top) (max 0 (s6.Speed - (s1.Brake + x232))))) + 1) 2)), .int .i64 (max (min (min (min x10 x165) (s6.Speed + x255)) s1.Top) (max 0 (s6.Speed - (s1.Brake + x232)))), .int .i64 (x288)], .int .i64 (0)] (hle178.trans (hle231.trans hle287)) (by decide) rfl ⟨⟨_, rfl, fun w ho => cell_agg (vs := [_, _, _]) 0 3 agg82 rfl rfl rfl w ho⟩, ⟨rfl, trivial⟩⟩ rfl (hp' := R) (.cons _ (.cons _ (.refl _))) ⟨rfl, rfl⟩

set_option maxRecDepth 20000 in
theorem cFishkeep1GuardSeconds (b : Base) (R : Hp) (hG : GLo 2 3 b.w) (s1 : ApiStock) (l5 : (List ApiPiece)) (s6 : ApiState) (x7 : Int) (A2 : Option Addr) (c3 : Nat) (h4 : FZ rApiPiece b.w A2 c3 l5) (x36 : Bool) (hm : mFishkeep1GuardSeconds s1 l5 s6 x7 = some x36) :
    CallsG Tryd.prog 10 [.agg #[.string (s1.Name), .int .i64 (s1.Length), .int .i64 (s1.Mass), .int .i64 (s1.Start), .int .i64 (s1.Power), .int .i64 (s1.Roll), .int .i64 (s1.Drag), .int .i64 (s1.Brake), .int .i64 (s1.Top), .int .i64 (s1.Seats)], .slice A2 (l5).length c3, .agg #[.int .i64 (s6.At), .int .i64 (s6.Speed), .int .i64 (s6.Work)], .int .i64 (x7)] b (R) (fun v b' hp' => .bool (x36) = v ∧ R = hp') := by
  refine fn_enterG 43 Tryd.func10 rfl Tryd.ntmps10 rfl ?_
  unfold mFishkeep1GuardSeconds at hm
  refine c_seq ?_
  refine c_region ?_
  refine t_do rfl (u_box _ rfl rfl) ?_
  rintro _ _ ⟨g37, rfl, rfl⟩
  refine t_do rfl (u_box _ rfl rfl) ?_
  rintro _ _ ⟨g38, rfl, rfl⟩
  refine t_st rfl (st_assign rfl) ?_
  refine t_nil ?_
  refine x_then_normal ?_
  refine c_seq ?_
  refine c_seq ?_
  refine c_region ?_
  obtain ⟨x39, hcl40, hm⟩ := bindS hm
  refine t_do rfl (u_callW0 _ call14 rfl (fun w ho => cFishkeep1AwakeGuard _ [] ((hG.le (Base.Le.refl _)).old ho) x39 hcl40) (fun _ _ _ h => h.2.symm)) ?_
  rintro _ _ ⟨⟨_, rfl, _⟩, rfl⟩
  refine t_st rfl (st_not rfl) ?_
  refine t_nil ?_
  refine x_then_normal ?_
  refine c_cond _ rfl (fun hc41 => ?_) (fun hc41 => ?_)
  ·
    rw [if_neg (fun hh => Bool.noConfusion (hh.symm.trans (notT hc41)))] at hm
    refine c_seq ?_
    refine c_region ?_
    refine t_st rfl (st_assign rfl) ?_
    refine t_nil ?_
    refine x_then_normal ?_
    refine c_ret ?_
    refine x_then_ret ?_
    obtain rfl := some1 hm
    exact retM (rs := [.tmp 8]) [.bool (false)] (Base.Le.refl _) (by decide) rfl ⟨rfl, trivial⟩ rfl (hp' := R) (.cons _ (.cons _ (.refl _))) ⟨rfl, rfl⟩
  ·
    rw [if_pos (notF hc41)] at hm
    refine c_skip ?_
    refine x_then_normal ?_
    refine c_seq ?_
    refine c_region ?_
    refine t_st rfl (st_loadD (vs := [_, _, _, _, _, _, _, _, _, _]) 1 10 rfl agg43 rfl rfl rfl) ?_
    refine t_st rfl (st_move rfl) ?_
    refine t_st rfl (st_loadD (vs := [_, _, _]) 0 3 rfl agg82 rfl rfl rfl) ?_
    refine t_st rfl (st_move rfl) ?_
    obtain ⟨⟨x42, x43, x44, x45⟩, hcl46, hm⟩ := bindS hm
    have hm := (unc4E hm)
    refine t_callG _ rfl call40 rfl (cRunSecond _ _ s1 l5 s6 x7 A2 c3 h4 x42 x43 x44 x45 hcl46) ?_
    rintro _ b47 _ hle48 ⟨rfl, rfl⟩
    refine t_st rfl (st_move rfl) ?_
    refine t_st rfl (st_extract rfl rfl) ?_
    refine t_st rfl (st_extract rfl rfl) ?_
    refine t_do rfl (u_alloc [.int .i64 0, .int .i64 0, .int .i64 0] zero82 rfl) ?_
    rintro _ _ ⟨g49, rfl, rfl⟩
    refine t_do rfl (u_storeN (vs := [_, _, _]) 0 3 rfl rfl rfl siz82 rfl (by intro u hu; simp only [List.mem_cons, List.not_mem_nil, or_false] at hu; rcases hu with rfl | rfl | rfl <;> rfl) rfl (by simp)) ?_
    rintro _ _ rfl
    refine t_st rfl (st_assign rfl) ?_
    refine t_nil ?_
    refine x_then_normal ?_
    refine c_seq ?_
    refine c_seq ?_
    refine c_region ?_
    refine t_st rfl (st_move rfl) ?_
    refine t_st rfl (st_neq rfl rfl) ?_
    refine t_nil ?_
    refine x_then_normal ?_
    refine c_cond _ rfl (fun hc50 => ?_) (fun hc50 => ?_)
    ·
      rw [if_pos (of_decide_eq_true hc50)] at hm
      refine c_seq ?_
      refine c_region ?_
      refine t_st rfl (st_assign rfl) ?_
      refine t_nil ?_
      refine x_then_normal ?_
      refine c_ret ?_
      refine x_then_ret ?_
      obtain rfl := some1 hm
      exact retM (rs := [.tmp 8]) [.bool (true)] hle48 (by decide) rfl ⟨rfl, trivial⟩ rfl (hp' := R) (.cons _ (.cons _ (.cons _ (.refl _)))) ⟨rfl, rfl⟩
    ·
      rw [if_neg (of_decide_eq_false hc50)] at hm
      refine c_skip ?_
      refine x_then_normal ?_
      refine c_seq ?_
      refine c_region ?_
      refine t_st rfl (st_loadD (vs := [_, _, _, _, _, _, _, _, _, _]) 2 10 rfl agg43 rfl rfl rfl) ?_
      refine t_st rfl (st_move rfl) ?_
      refine t_st rfl (st_loadD (vs := [_, _, _]) 1 3 rfl agg82 rfl rfl rfl) ?_
      refine t_st rfl (st_field rfl fld82_0) ?_
      refine t_st rfl (st_load 1 rfl one3 rfl rfl) ?_
      refine t_st rfl (st_field rfl fld82_0) ?_
      refine t_st rfl (st_load 1 rfl one3 rfl rfl) ?_
      refine t_st rfl (st_move rfl) ?_
      obtain ⟨⟨x51, x52, x53, x54⟩, hcl55, hm⟩ := bindS hm
      have hm := (unc4E hm)
      refine t_callG _ rfl call41 rfl (cGuardNext _ _ s1 l5 s6 s6.At s6.At x7 6000 A2 c3 (h4.le hle48) x51 x52 x53 x54 hcl55) ?_
      rintro _ b56 _ hle57 ⟨rfl, rfl⟩
      refine t_st rfl (st_move rfl) ?_
      refine t_st rfl (st_extract rfl rfl) ?_
      refine t_st rfl (st_extract rfl rfl) ?_
      refine t_do rfl (u_alloc [.int .i64 0, .int .i64 0, .int .i64 0] zero82 rfl) ?_
      rintro _ _ ⟨g58, rfl, rfl⟩
      refine t_do rfl (u_storeN (vs := [_, _, _]) 0 3 rfl rfl rfl siz82 rfl (by intro u hu; simp only [List.mem_cons, List.not_mem_nil, or_false] at hu; rcases hu with rfl | rfl | rfl <;> rfl) rfl (by simp)) ?_
      rintro _ _ rfl
      refine t_st rfl (st_assign rfl) ?_
      refine t_nil ?_
      refine x_then_normal ?_
      obtain ⟨x62, hj63, hk63⟩ := bindS hm
      refine c_join (fun b60 e' hp' => [(8, .bool (x62))] = e' ∧ R = hp' ∧ b56.Le b60) ?_ ?_
      ·
        have hm := hj63
        refine c_region ?_
        refine t_st rfl (st_move rfl) ?_
        refine t_bool rfl (st_eql rfl rfl) (fun hc64 => ?_) (fun hc64 => ?_)
        ·
          rw [if_pos hc64] at hm
          refine t_st rfl (st_move rfl) ?_
          refine t_yes 38 rfl rfl rfl ?_
          refine t_st rfl (st_loadD (vs := [_, _, _]) 1 3 rfl agg82 rfl rfl rfl) ?_
          refine t_yes 38 rfl rfl rfl ?_
          refine t_st rfl (st_loadD (vs := [_, _, _]) 0 3 rfl agg82 rfl rfl rfl) ?_
          refine t_yes 38 rfl rfl rfl ?_
          refine t_st rfl (st_eqlA (xs := [.int .i64 (x42), .int .i64 (x43), .int .i64 (x44)]) (ys := [.int .i64 (x51), .int .i64 (x52), .int .i64 (x53)]) (p := x42 = x51 ∧ x43 = x52 ∧ x44 = x53) rfl rfl eqt82 ⟨⟨_, rfl⟩, ⟨⟨_, rfl⟩, ⟨⟨_, rfl⟩, trivial⟩⟩⟩ ⟨⟨_, rfl⟩, ⟨⟨_, rfl⟩, ⟨⟨_, rfl⟩, trivial⟩⟩⟩ (by simp [eqCells, eqCell, Bool.decide_and, beq_dec])) ?_
          refine t_st rfl (st_pick_t rfl rfl) ?_
          refine t_st rfl (st_assign rfl) ?_
          refine t_nil ?_
          obtain rfl := some1 hm
          exact x_join (e' := [(8, .bool (decide (x42 = x51 ∧ x43 = x52 ∧ x44 = x53)))]) (hp' := R) ⟨rfl, trivial⟩ (.cons _ (.cons _ (.cons _ (.cons _ (.refl _))))) ⟨rfl, rfl, (Base.Le.refl _)⟩
        ·
          rw [if_neg hc64] at hm
          refine t_st rfl (st_move rfl) ?_
          refine t_no 38 rfl rfl rfl rfl rfl ?_
          refine t_no 38 rfl rfl rfl rfl rfl ?_
          refine t_no 38 rfl rfl rfl rfl rfl ?_
          refine t_st rfl (st_pick_f rfl rfl) ?_
          refine t_st rfl (st_assign rfl) ?_
          refine t_nil ?_
          obtain rfl := some1 hm
          exact x_join (e' := [(8, .bool (false))]) (hp' := R) ⟨rfl, trivial⟩ (.cons _ (.cons _ (.cons _ (.cons _ (.refl _))))) ⟨rfl, rfl, (Base.Le.refl _)⟩
      ·
        rintro b60 _ _ ⟨rfl, rfl, hle61⟩
        have hm := hk63
        refine c_ret ?_
        obtain rfl := some1 hm
        exact retM (rs := [.tmp 8]) [.bool (x62)] (hle48.trans (hle57.trans hle61)) (by decide) rfl ⟨rfl, trivial⟩ rfl (hp' := R) (.refl _) ⟨rfl, rfl⟩

set_option maxRecDepth 20000 in
theorem cGuardSpan (b : Base) (R : Hp) (x1 : Int) (x2 : Int) (x3 : Bool) (x26 : Int) (x27 : Int) (x28 : Int) (hm : mGuardSpan x1 x2 x3 = some (x26, x27, x28)) :
    CallsG Tryd.prog 46 [.int .i64 (x1), .int .i64 (x2), .bool (x3)] b (R) (fun v b' hp' => .tuple #[.int .i64 (x26), .int .i64 (x27), .int .i64 (x28)] = v ∧ R = hp') := by
  refine fn_enterG 37 Tryd.func46 rfl Tryd.ntmps46 rfl ?_
  unfold mGuardSpan at hm
  refine c_seq ?_
  refine c_region ?_
  refine t_st rfl (st_assign rfl) ?_
  refine t_st rfl (st_assign rfl) ?_
  refine t_st rfl (st_assign rfl) ?_
  refine t_nil ?_
  refine x_then_normal ?_
  refine c_seq ?_
  obtain ⟨x36, hj37, hk37⟩ := bindS hm
  refine c_join (fun b34 e' hp' => [(0, .int .i64 (x1)), (1, .int .i64 (x2)), (2, .bool (x3)), (18, .bool (x36))] = e' ∧ R = hp' ∧ b.Le b34) ?_ ?_
  ·
    have hm := hj37
    refine c_region ?_
    refine t_st rfl (st_move rfl) ?_
    obtain ⟨x38, hcl39, hm⟩ := bindS hm
    refine t_do rfl (u_callW0 _ call63 rfl (fun w ho => cGuardWithin _ [] x1 0 20000000 x38 hcl39) (fun _ _ _ h => h.2.symm)) ?_
    rintro _ _ ⟨⟨_, rfl, _⟩, rfl⟩
    rcases Bool.eq_false_or_eq_true x38 with hc40 | hc40
    ·
      rw [if_pos hc40] at hm
      refine t_resp 12 rfl (v' := .bool true) (by rw [hc40] <;> rfl) ?_
      refine t_st rfl (st_not_t rfl) ?_
      refine t_st rfl (st_move rfl) ?_
      refine t_yes 14 rfl rfl rfl ?_
      refine t_st rfl (st_move rfl) ?_
      refine t_yes 14 rfl rfl rfl ?_
      obtain ⟨x41, hcl42, hm⟩ := bindS hm
      refine t_do rfl (u_callW0 _ call63 rfl (fun w ho => cGuardWithin _ [] x2 0 20000000 x41 hcl42) (fun _ _ _ h => h.2.symm)) ?_
      rintro _ _ ⟨⟨_, rfl, _⟩, rfl⟩
      refine t_yes 14 rfl rfl rfl ?_
      refine t_st rfl (st_not rfl) ?_
      refine t_st rfl (st_pick_f rfl rfl) ?_
      refine t_nil ?_
      obtain rfl := some1 hm
      exact x_join (e' := [(0, .int .i64 (x1)), (1, .int .i64 (x2)), (2, .bool (x3)), (18, .bool (!x41))]) (hp' := R) ⟨rfl, rfl, rfl, rfl, trivial⟩ (.refl _) ⟨rfl, rfl, (Base.Le.refl _)⟩
    ·
      rw [if_neg (fun hh => Bool.noConfusion (hh.symm.trans hc40))] at hm
      refine t_resp 12 rfl (v' := .bool false) (by rw [hc40] <;> rfl) ?_
      refine t_st rfl (st_not_f rfl) ?_
      refine t_st rfl (st_move rfl) ?_
      refine t_no 14 rfl rfl rfl rfl rfl ?_
      refine t_no 14 rfl rfl rfl rfl rfl ?_
      refine t_no 14 rfl rfl rfl rfl rfl ?_
      refine t_st rfl (st_pick_t rfl rfl) ?_
      refine t_nil ?_
      obtain rfl := some1 hm
      exact x_join (e' := [(0, .int .i64 (x1)), (1, .int .i64 (x2)), (2, .bool (x3)), (18, .bool (true))]) (hp' := R) ⟨rfl, rfl, rfl, rfl, trivial⟩ (.refl _) ⟨rfl, rfl, (Base.Le.refl _)⟩
  ·
    rintro b34 _ _ ⟨rfl, rfl, hle35⟩
    have hm := hk37
    refine c_cond _ rfl (fun hc43 => ?_) (fun hc43 => ?_)
    ·
      rw [if_pos hc43] at hm
      refine c_seq ?_
      refine c_region ?_
      refine t_st rfl (st_assign rfl) ?_
      refine t_st rfl (st_assign rfl) ?_
      refine t_st rfl (st_assign rfl) ?_
      refine t_nil ?_
      refine x_then_normal ?_
      refine c_ret ?_
      refine x_then_ret ?_
      obtain ⟨rfl, rfl, rfl⟩ := some3 hm
      exact retM (rs := [.tmp 6, .tmp 7, .tmp 8]) [.int .i64 (0), .int .i64 (0), .int .i64 (2)] hle35 (by decide) rfl ⟨rfl, ⟨rfl, ⟨rfl, trivial⟩⟩⟩ rfl (hp' := R) (.refl _) ⟨rfl, rfl⟩
    ·
      rw [if_neg (fun hh => Bool.noConfusion (hh.symm.trans hc43))] at hm
      refine c_skip ?_
      refine x_then_normal ?_
      refine c_seq ?_
      refine c_region ?_
      refine t_st rfl (st_move rfl) ?_
      refine t_st rfl (st_move rfl) ?_
      obtain ⟨_, h44, hm⟩ := bindS hm
      have h44 := (chk_some h44).2
      refine t_st rfl (st_add rfl rfl h44) ?_
      refine t_st rfl (st_assign rfl) ?_
      refine t_nil ?_
      refine x_then_normal ?_
      refine c_seq ?_
      refine c_seq ?_
      refine c_region ?_
      refine t_st rfl (st_move rfl) ?_
      refine t_st rfl (st_not rfl) ?_
      refine t_nil ?_
      refine x_then_normal ?_
      refine c_cond _ rfl (fun hc45 => ?_) (fun hc45 => ?_)
      ·
        rw [if_neg (fun hh => Bool.noConfusion (hh.symm.trans (notT hc45)))] at hm
        refine c_seq ?_
        refine c_region ?_
        refine t_st rfl (st_move rfl) ?_
        refine t_st rfl (st_move rfl) ?_
        refine t_st rfl (st_assign rfl) ?_
        refine t_st rfl (st_assign rfl) ?_
        refine t_st rfl (st_assign rfl) ?_
        refine t_nil ?_
        refine x_then_normal ?_
        refine c_ret ?_
        refine x_then_ret ?_
        obtain ⟨rfl, rfl, rfl⟩ := some3 hm
        exact retM (rs := [.tmp 6, .tmp 7, .tmp 8]) [.int .i64 (x1 + x2), .int .i64 (x1 + x2), .int .i64 (0)] hle35 (by decide) rfl ⟨rfl, ⟨rfl, ⟨rfl, trivial⟩⟩⟩ rfl (hp' := R) (.refl _) ⟨rfl, rfl⟩
      ·
        rw [if_pos (notF hc45)] at hm
        refine c_skip ?_
        refine x_then_normal ?_
        refine c_seq ?_
        refine c_region ?_
        refine t_st rfl (st_move rfl) ?_
        obtain ⟨_, h46, hm⟩ := bindS hm
        obtain ⟨_, h47, hm⟩ := bindS hm
        have h47 := (chk_some h47).2
        refine t_st rfl (st_quo rfl rfl (ne0_some h46) h47) ?_
        obtain ⟨_, h48, hm⟩ := bindS hm
        have h48 := (chk_some h48).2
        refine t_st rfl (st_add rfl rfl h48) ?_
        refine t_st rfl (st_assign rfl) ?_
        refine t_nil ?_
        refine x_then_normal ?_
        refine c_seq ?_
        refine c_region ?_
        refine t_st rfl (st_move rfl) ?_
        refine t_st rfl (st_move rfl) ?_
        refine t_st rfl (st_move rfl) ?_
        obtain ⟨_, h49, hm⟩ := bindS hm
        have h49 := (chk_some h49).2
        refine t_st rfl (st_sub rfl rfl h49) ?_
        refine t_st rfl (st_max rfl rfl) ?_
        refine t_st rfl (st_move rfl) ?_
        refine t_st rfl (st_move rfl) ?_
        obtain ⟨_, h50, hm⟩ := bindS hm
        have h50 := (chk_some h50).2
        refine t_st rfl (st_add rfl rfl h50) ?_
        refine t_st rfl (st_assign rfl) ?_
        refine t_st rfl (st_assign rfl) ?_
        refine t_st rfl (st_assign rfl) ?_
        refine t_nil ?_
        refine x_then_normal ?_
        refine c_ret ?_
        obtain ⟨rfl, rfl, rfl⟩ := some3 hm
        exact retM (rs := [.tmp 6, .tmp 7, .tmp 8]) [.int .i64 (max x1 ((x1 + x2) - (200 + (Int.tdiv x2 20)))), .int .i64 ((x1 + x2) + (200 + (Int.tdiv x2 20))), .int .i64 (0)] hle35 (by decide) rfl ⟨rfl, ⟨rfl, ⟨rfl, trivial⟩⟩⟩ rfl (hp' := R) (.refl _) ⟨rfl, rfl⟩

set_option maxRecDepth 20000 in
theorem cFishkeep1LimitsKept (b : Base) (R : Hp) (s1 : ApiStock) (l5 : (List ApiPiece)) (s6 : ApiState) (s7 : ApiState) (A2 : Option Addr) (c3 : Nat) (h4 : FZ rApiPiece b.w A2 c3 l5) (x104 : Bool) (hm : mFishkeep1LimitsKept s1 l5 s6 s7 = some x104) :
    CallsG Tryd.prog 47 [.agg #[.string (s1.Name), .int .i64 (s1.Length), .int .i64 (s1.Mass), .int .i64 (s1.Start), .int .i64 (s1.Power), .int .i64 (s1.Roll), .int .i64 (s1.Drag), .int .i64 (s1.Brake), .int .i64 (s1.Top), .int .i64 (s1.Seats)], .slice A2 (l5).length c3, .agg #[.int .i64 (s6.At), .int .i64 (s6.Speed), .int .i64 (s6.Work)], .agg #[.int .i64 (s7.At), .int .i64 (s7.Speed), .int .i64 (s7.Work)]] b (R) (fun v b' hp' => .bool (x104) = v ∧ R = hp') := by
  refine fn_enterG 47 Tryd.func47 rfl Tryd.ntmps47 rfl ?_
  unfold mFishkeep1LimitsKept at hm
  refine c_seq ?_
  refine c_region ?_
  refine t_do rfl (u_box _ rfl rfl) ?_
  rintro _ _ ⟨g105, rfl, rfl⟩
  refine t_do rfl (u_box _ rfl rfl) ?_
  rintro _ _ ⟨g106, rfl, rfl⟩
  refine t_do rfl (u_box _ rfl rfl) ?_
  rintro _ _ ⟨g107, rfl, rfl⟩
  refine t_st rfl (st_assign rfl) ?_
  refine t_nil ?_
  refine x_then_normal ?_
  refine c_seq ?_
  refine c_region ?_
  refine t_st rfl (st_assign rfl) ?_
  refine t_nil ?_
  refine x_then_normal ?_
  refine c_seq ?_
  refine c_seq ?_
  refine c_region ?_
  refine t_st rfl (st_move rfl) ?_
  refine t_st rfl (st_len rfl sl80) ?_
  refine t_st rfl (st_move rfl) ?_
  refine t_nil ?_
  refine x_then_normal ?_
  refine c_block ?_
  have hb109 := (FZ.bd h4)
  refine c_pullb 1 rfl ?_
  refine c_pullb 2 rfl ?_
  obtain ⟨t169, hl170, hk171⟩ := bindS hm
  refine c_forM (fun k168 => fun x167 => fun b165 e' hp' => [(4, .pointer (some ⟨g105, 0, none⟩)), (6, .pointer (some ⟨g106, 0, none⟩)), (7, .pointer (some ⟨g107, 0, none⟩)), (9, .int .i64 (x167)), (12, .slice A2 (l5).length c3), (13, .int .i64 ((l5.length : Int))), (14, .int .i64 ((k168 : Int)))] = e' ∧ (g105, Cl 43 [.string (s1.Name), .int .i64 (s1.Length), .int .i64 (s1.Mass), .int .i64 (s1.Start), .int .i64 (s1.Power), .int .i64 (s1.Roll), .int .i64 (s1.Drag), .int .i64 (s1.Brake), .int .i64 (s1.Top), .int .i64 (s1.Seats)]) :: (g106, Cl 82 [.int .i64 (s6.At), .int .i64 (s6.Speed), .int .i64 (s6.Work)]) :: (g107, Cl 82 [.int .i64 (s7.At), .int .i64 (s7.Speed), .int .i64 (s7.Work)]) :: R = hp' ∧ b.Le b165) hl170 (e' := [(4, .pointer (some ⟨g105, 0, none⟩)), (6, .pointer (some ⟨g106, 0, none⟩)), (7, .pointer (some ⟨g107, 0, none⟩)), (9, .int .i64 (0)), (12, .slice A2 (l5).length c3), (13, .int .i64 ((l5.length : Int))), (14, .int .i64 0)]) (hp' := (g105, Cl 43 [.string (s1.Name), .int .i64 (s1.Length), .int .i64 (s1.Mass), .int .i64 (s1.Start), .int .i64 (s1.Power), .int .i64 (s1.Roll), .int .i64 (s1.Drag), .int .i64 (s1.Brake), .int .i64 (s1.Top), .int .i64 (s1.Seats)]) :: (g106, Cl 82 [.int .i64 (s6.At), .int .i64 (s6.Speed), .int .i64 (s6.Work)]) :: (g107, Cl 82 [.int .i64 (s7.At), .int .i64 (s7.Speed), .int .i64 (s7.Work)]) :: R) ⟨rfl, rfl, rfl, rfl, rfl, rfl, rfl, trivial⟩ (.cons_cons _ (.cons_cons _ (.cons_cons _ (.refl _)))) ⟨rfl, rfl, (Base.Le.refl _)⟩ ?_ ?_
  ·
    rintro k168 x167 b165 _ _ oL108 hknL108 ⟨rfl, rfl, hle166⟩ hstepL108 houtL108
    unfold mFishkeep1LimitsKept_L108 at hstepL108
    have hm := hstepL108
    refine c_seq ?_
    refine c_region ?_
    refine t_st rfl (st_lss_t rfl rfl (by omega)) ?_
    refine t_nil ?_
    refine x_then_normal ?_
    refine c_seq ?_
    refine c_cond_t rfl ?_
    refine c_skip ?_
    refine x_then_normal ?_
    refine c_seq ?_
    refine c_block ?_
    refine c_seq ?_
    refine c_region ?_
    obtain ⟨x172, h173, hm⟩ := bindS hm
    obtain ⟨j174, hj175, hx176⟩ := idx_some h173
    obtain ⟨cs177, hr178, hcs179, hA180, hlt181⟩ := FZ.get (sz := 3) rfl (by decide) (h4.le hle166) hx176
    obtain ⟨_, _, rfl, rfl, ⟨_, _, rfl, rfl, rfl⟩⟩ := hr178
    refine t_st rfl (st_index_old j174 rfl rfl hj175 hlt181 hA180 sl80) ?_
    refine t_st rfl (st_loadN_old (vs := [.int .i64 (x172.Length), .int .i64 (x172.Grade), .int .i64 (x172.Speed)]) 3 rfl agg97 hA180 rfl (fun j u hu => hcs179 j u hu)) ?_
    refine t_do rfl (u_alloc [.int .i64 0, .int .i64 0, .int .i64 0] zero97 rfl) ?_
    rintro _ _ ⟨g182, rfl, rfl⟩
    refine t_do rfl (u_storeN (vs := [_, _, _]) 0 3 rfl rfl rfl siz97 rfl (by intro u hu; simp only [List.mem_cons, List.not_mem_nil, or_false] at hu; rcases hu with rfl | rfl | rfl <;> rfl) rfl (by simp)) ?_
    rintro _ _ rfl
    refine t_nil ?_
    refine x_then_normal ?_
    refine c_seq ?_
    obtain ⟨x190, hj191, hk191⟩ := bindS hm
    refine c_join (fun b188 e' hp' => [(4, .pointer (some ⟨g105, 0, none⟩)), (6, .pointer (some ⟨g106, 0, none⟩)), (7, .pointer (some ⟨g107, 0, none⟩)), (9, .int .i64 (x167)), (11, .pointer (some ⟨g182, 0, none⟩)), (12, .slice A2 (l5).length c3), (13, .int .i64 ((l5.length : Int))), (14, .int .i64 ((k168 : Int))), (41, .bool (x190))] = e' ∧ (g105, Cl 43 [.string (s1.Name), .int .i64 (s1.Length), .int .i64 (s1.Mass), .int .i64 (s1.Start), .int .i64 (s1.Power), .int .i64 (s1.Roll), .int .i64 (s1.Drag), .int .i64 (s1.Brake), .int .i64 (s1.Top), .int .i64 (s1.Seats)]) :: (g106, Cl 82 [.int .i64 (s6.At), .int .i64 (s6.Speed), .int .i64 (s6.Work)]) :: (g107, Cl 82 [.int .i64 (s7.At), .int .i64 (s7.Speed), .int .i64 (s7.Work)]) :: (g182, Cl 97 [.int .i64 (x172.Length), .int .i64 (x172.Grade), .int .i64 (x172.Speed)]) :: R = hp' ∧ b165.Le b188) ?_ ?_
    ·
      have hm := hj191
      refine c_region ?_
      refine t_st rfl (st_move rfl) ?_
      refine t_st rfl (st_field rfl fld82_0) ?_
      refine t_st rfl (st_load 3 rfl one3 rfl rfl) ?_
      refine t_bool rfl (st_lss rfl rfl) (fun hc192 => ?_) (fun hc192 => ?_)
      ·
        rw [if_pos hc192] at hm
        refine t_st rfl (st_move rfl) ?_
        refine t_yes 22 rfl rfl rfl ?_
        refine t_st rfl (st_move rfl) ?_
        refine t_yes 22 rfl rfl rfl ?_
        refine t_st rfl (st_field rfl fld97_0) ?_
        refine t_yes 22 rfl rfl rfl ?_
        refine t_st rfl (st_load 0 rfl one3 rfl rfl) ?_
        refine t_yes 22 rfl rfl rfl ?_
        obtain ⟨_, h193, hm⟩ := bindS hm
        have h193 := (chk_some h193).2
        refine t_st rfl (st_add rfl rfl h193) ?_
        refine t_yes 22 rfl rfl rfl ?_
        refine t_st rfl (st_field rfl fld82_0) ?_
        refine t_yes 22 rfl rfl rfl ?_
        refine t_st rfl (st_load 2 rfl one3 rfl rfl) ?_
        refine t_yes 22 rfl rfl rfl ?_
        refine t_st rfl (st_field rfl fld43_1) ?_
        refine t_yes 22 rfl rfl rfl ?_
        refine t_st rfl (st_load 1 rfl one3 rfl rfl) ?_
        refine t_yes 22 rfl rfl rfl ?_
        obtain ⟨_, h194, hm⟩ := bindS hm
        have h194 := (chk_some h194).2
        refine t_st rfl (st_mul rfl rfl h194) ?_
        refine t_yes 22 rfl rfl rfl ?_
        obtain ⟨_, h195, hm⟩ := bindS hm
        have h195 := (chk_some h195).2
        refine t_st rfl (st_sub rfl rfl h195) ?_
        refine t_yes 22 rfl rfl rfl ?_
        refine t_bool rfl (st_gtr rfl rfl) (fun hc196 => ?_) (fun hc196 => ?_)
        ·
          rw [if_pos hc196] at hm
          refine t_st rfl (st_pick_t rfl rfl) ?_
          refine t_st rfl (st_move rfl) ?_
          refine t_yes 35 rfl rfl rfl ?_
          refine t_st rfl (st_field rfl fld82_1) ?_
          refine t_yes 35 rfl rfl rfl ?_
          refine t_st rfl (st_load 3 rfl one3 rfl rfl) ?_
          refine t_yes 35 rfl rfl rfl ?_
          refine t_st rfl (st_field rfl fld97_2) ?_
          refine t_yes 35 rfl rfl rfl ?_
          refine t_st rfl (st_load 0 rfl one3 rfl rfl) ?_
          refine t_yes 35 rfl rfl rfl ?_
          refine t_st rfl (st_gtr rfl rfl) ?_
          refine t_st rfl (st_pick_t rfl rfl) ?_
          refine t_nil ?_
          obtain rfl := some1 hm
          refine x_pullb 3 rfl ?_
          refine x_pullb 3 rfl ?_
          refine x_pullb 3 rfl ?_
          exact x_join (e' := [(4, .pointer (some ⟨g105, 0, none⟩)), (6, .pointer (some ⟨g106, 0, none⟩)), (7, .pointer (some ⟨g107, 0, none⟩)), (9, .int .i64 (x167)), (11, .pointer (some ⟨g182, 0, none⟩)), (12, .slice A2 (l5).length c3), (13, .int .i64 ((l5.length : Int))), (14, .int .i64 ((k168 : Int))), (41, .bool (decide (x172.Speed < s7.Speed)))]) (hp' := (g105, Cl 43 [.string (s1.Name), .int .i64 (s1.Length), .int .i64 (s1.Mass), .int .i64 (s1.Start), .int .i64 (s1.Power), .int .i64 (s1.Roll), .int .i64 (s1.Drag), .int .i64 (s1.Brake), .int .i64 (s1.Top), .int .i64 (s1.Seats)]) :: (g106, Cl 82 [.int .i64 (s6.At), .int .i64 (s6.Speed), .int .i64 (s6.Work)]) :: (g107, Cl 82 [.int .i64 (s7.At), .int .i64 (s7.Speed), .int .i64 (s7.Work)]) :: (g182, Cl 97 [.int .i64 (x172.Length), .int .i64 (x172.Grade), .int .i64 (x172.Speed)]) :: R) ⟨rfl, rfl, rfl, rfl, rfl, rfl, rfl, rfl, rfl, trivial⟩ (.cons_cons _ (.cons_cons _ (.cons_cons _ (.cons_cons _ (.refl _))))) ⟨rfl, rfl, (Base.Le.refl _)⟩
        ·
          rw [if_neg hc196] at hm
          refine t_st rfl (st_pick_t rfl rfl) ?_
          refine t_st rfl (st_move rfl) ?_
          refine t_no 35 rfl rfl rfl rfl rfl ?_
          refine t_no 35 rfl rfl rfl rfl rfl ?_
          refine t_no 35 rfl rfl rfl rfl rfl ?_
          refine t_no 35 rfl rfl rfl rfl rfl ?_
          refine t_no 35 rfl rfl rfl rfl rfl ?_
          refine t_st rfl (st_pick_f rfl rfl) ?_
          refine t_nil ?_
          obtain rfl := some1 hm
          refine x_pullb 3 rfl ?_
          refine x_pullb 3 rfl ?_
          refine x_pullb 3 rfl ?_
          exact x_join (e' := [(4, .pointer (some ⟨g105, 0, none⟩)), (6, .pointer (some ⟨g106, 0, none⟩)), (7, .pointer (some ⟨g107, 0, none⟩)), (9, .int .i64 (x167)), (11, .pointer (some ⟨g182, 0, none⟩)), (12, .slice A2 (l5).length c3), (13, .int .i64 ((l5.length : Int))), (14, .int .i64 ((k168 : Int))), (41, .bool (false))]) (hp' := (g105, Cl 43 [.string (s1.Name), .int .i64 (s1.Length), .int .i64 (s1.Mass), .int .i64 (s1.Start), .int .i64 (s1.Power), .int .i64 (s1.Roll), .int .i64 (s1.Drag), .int .i64 (s1.Brake), .int .i64 (s1.Top), .int .i64 (s1.Seats)]) :: (g106, Cl 82 [.int .i64 (s6.At), .int .i64 (s6.Speed), .int .i64 (s6.Work)]) :: (g107, Cl 82 [.int .i64 (s7.At), .int .i64 (s7.Speed), .int .i64 (s7.Work)]) :: (g182, Cl 97 [.int .i64 (x172.Length), .int .i64 (x172.Grade), .int .i64 (x172.Speed)]) :: R) ⟨rfl, rfl, rfl, rfl, rfl, rfl, rfl, rfl, rfl, trivial⟩ (.cons_cons _ (.cons_cons _ (.cons_cons _ (.cons_cons _ (.refl _))))) ⟨rfl, rfl, (Base.Le.refl _)⟩
      ·
        rw [if_neg hc192] at hm
        refine t_st rfl (st_move rfl) ?_
        refine t_no 22 rfl rfl rfl rfl rfl ?_
        refine t_no 22 rfl rfl rfl rfl rfl ?_
        refine t_no 22 rfl rfl rfl rfl rfl ?_
        refine t_no 22 rfl rfl rfl rfl rfl ?_
        refine t_no 22 rfl rfl rfl rfl rfl ?_
        refine t_no 22 rfl rfl rfl rfl rfl ?_
        refine t_no 22 rfl rfl rfl rfl rfl ?_
        refine t_no 22 rfl rfl rfl rfl rfl ?_
        refine t_no 22 rfl rfl rfl rfl rfl ?_
        refine t_no 22 rfl rfl rfl rfl rfl ?_
        refine t_no 22 rfl rfl rfl rfl rfl ?_
        refine t_st rfl (st_pick_f rfl rfl) ?_
        refine t_st rfl (st_move rfl) ?_
        refine t_no 35 rfl rfl rfl rfl rfl ?_
        refine t_no 35 rfl rfl rfl rfl rfl ?_
        refine t_no 35 rfl rfl rfl rfl rfl ?_
        refine t_no 35 rfl rfl rfl rfl rfl ?_
        refine t_no 35 rfl rfl rfl rfl rfl ?_
        refine t_st rfl (st_pick_f rfl rfl) ?_
        refine t_nil ?_
        obtain rfl := some1 hm
        refine x_pullb 3 rfl ?_
        refine x_pullb 3 rfl ?_
        refine x_pullb 3 rfl ?_
        exact x_join (e' := [(4, .pointer (some ⟨g105, 0, none⟩)), (6, .pointer (some ⟨g106, 0, none⟩)), (7, .pointer (some ⟨g107, 0, none⟩)), (9, .int .i64 (x167)), (11, .pointer (some ⟨g182, 0, none⟩)), (12, .slice A2 (l5).length c3), (13, .int .i64 ((l5.length : Int))), (14, .int .i64 ((k168 : Int))), (41, .bool (false))]) (hp' := (g105, Cl 43 [.string (s1.Name), .int .i64 (s1.Length), .int .i64 (s1.Mass), .int .i64 (s1.Start), .int .i64 (s1.Power), .int .i64 (s1.Roll), .int .i64 (s1.Drag), .int .i64 (s1.Brake), .int .i64 (s1.Top), .int .i64 (s1.Seats)]) :: (g106, Cl 82 [.int .i64 (s6.At), .int .i64 (s6.Speed), .int .i64 (s6.Work)]) :: (g107, Cl 82 [.int .i64 (s7.At), .int .i64 (s7.Speed), .int .i64 (s7.Work)]) :: (g182, Cl 97 [.int .i64 (x172.Length), .int .i64 (x172.Grade), .int .i64 (x172.Speed)]) :: R) ⟨rfl, rfl, rfl, rfl, rfl, rfl, rfl, rfl, rfl, trivial⟩ (.cons_cons _ (.cons_cons _ (.cons_cons _ (.cons_cons _ (.refl _))))) ⟨rfl, rfl, (Base.Le.refl _)⟩
    ·
      rintro b188 _ _ ⟨rfl, rfl, hle189⟩
      have hm := hk191
      refine c_cond _ rfl (fun hc197 => ?_) (fun hc197 => ?_)
      ·
        rw [if_pos hc197] at hm
        refine c_seq ?_
        refine c_region ?_
        refine t_st rfl (st_assign rfl) ?_
        refine t_nil ?_
        refine x_then_normal ?_
        refine c_ret ?_
        refine x_then_ret ?_
        refine x_block_ret ?_
        refine x_then_ret ?_
        refine x_then_ret ?_
        refine x_block_ret ?_
        refine x_then_ret ?_
        have hq198 := houtL108 _ (Option.some.inj hm).symm
        rw [hq198] at hk171
        have hm := elimR hk171
        obtain rfl := some1 hm
        exact retM (rs := [.tmp 8]) [.bool (false)] (hle166.trans hle189) (by decide) rfl ⟨rfl, trivial⟩ rfl (hp' := R) (.cons _ (.cons _ (.cons _ (.cons _ (.refl _))))) ⟨rfl, rfl⟩
      ·
        rw [if_neg (fun hh => Bool.noConfusion (hh.symm.trans hc197))] at hm
        refine c_skip ?_
        refine x_then_normal ?_
        refine c_region ?_
        refine t_st rfl (st_move rfl) ?_
        refine t_st rfl (st_field rfl fld97_0) ?_
        refine t_st rfl (st_load 3 rfl one3 rfl rfl) ?_
        obtain ⟨_, h199, hm⟩ := bindS hm
        have h199 := (chk_some h199).2
        refine t_st rfl (st_add rfl rfl h199) ?_
        refine t_st rfl (st_assign rfl) ?_
        refine t_nil ?_
        refine x_block_normal ?_
        refine x_then_normal ?_
        refine c_region ?_
        refine t_st rfl (st_add rfl rfl (by omega)) ?_
        refine t_st rfl (st_move rfl) ?_
        refine t_nil ?_
        refine x_pullb 2 rfl ?_
        refine x_pullb 2 rfl ?_
        refine x_pullb 2 rfl ?_
        exact x_againM (x167 + x172.Length) (Option.some.inj hm).symm (e' := [(4, .pointer (some ⟨g105, 0, none⟩)), (6, .pointer (some ⟨g106, 0, none⟩)), (7, .pointer (some ⟨g107, 0, none⟩)), (9, .int .i64 (x167 + x172.Length)), (12, .slice A2 (l5).length c3), (13, .int .i64 ((l5.length : Int))), (14, .int .i64 ((k168 : Int) + 1))]) (hp' := (g105, Cl 43 [.string (s1.Name), .int .i64 (s1.Length), .int .i64 (s1.Mass), .int .i64 (s1.Start), .int .i64 (s1.Power), .int .i64 (s1.Roll), .int .i64 (s1.Drag), .int .i64 (s1.Brake), .int .i64 (s1.Top), .int .i64 (s1.Seats)]) :: (g106, Cl 82 [.int .i64 (s6.At), .int .i64 (s6.Speed), .int .i64 (s6.Work)]) :: (g107, Cl 82 [.int .i64 (s7.At), .int .i64 (s7.Speed), .int .i64 (s7.Work)]) :: R) ⟨rfl, rfl, rfl, rfl, rfl, rfl, rfl, trivial⟩ (.cons_cons _ (.cons_cons _ (.cons_cons _ (.cons _ (.refl _))))) ⟨rfl, rfl, ((hle166.trans hle189))⟩
  ·
    rintro x167 b165 _ _ ⟨rfl, rfl, hle166⟩ hq200
    rw [hq200] at hk171
    have hm := elimL hk171
    refine c_seq ?_
    refine c_region ?_
    refine t_st rfl (st_lss_f rfl rfl (by omega)) ?_
    refine t_nil ?_
    refine x_then_normal ?_
    refine c_seq ?_
    refine c_cond_f rfl ?_
    refine c_exit ?_
    refine x_then_exit ?_
    refine x_then_exit ?_
    refine x_block_out ?_
    refine x_then_normal ?_
    refine c_seq ?_
    refine c_region ?_
    refine t_st rfl (st_assign rfl) ?_
    refine t_nil ?_
    refine x_then_normal ?_
    refine c_ret ?_
    obtain rfl := some1 hm
    exact retM (rs := [.tmp 8]) [.bool (true)] hle166 (by decide) rfl ⟨rfl, trivial⟩ rfl (hp' := R) (.cons _ (.cons _ (.cons _ (.refl _)))) ⟨rfl, rfl⟩

set_option maxRecDepth 20000 in
theorem cFishkeep1GuardStops (b : Base) (R : Hp) (hG : GLo 2 3 b.w) (s1 : ApiStock) (l5 : (List ApiPiece)) (x6 : Int) (x7 : Int) (l11 : (List Fishkeep1Ride)) (A2 : Option Addr) (c3 : Nat) (A8 : Option Addr) (c9 : Nat) (h4 : FZ rApiPiece b.w A2 c3 l5) (h10 : FZ rFishkeep1Ride b.w A8 c9 l11) (x555 : Bool) (hm : mFishkeep1GuardStops s1 l5 x6 x7 l11 = some x555) :
    CallsG Tryd.prog 13 [.agg #[.string (s1.Name), .int .i64 (s1.Length), .int .i64 (s1.Mass), .int .i64 (s1.Start), .int .i64 (s1.Power), .int .i64 (s1.Roll), .int .i64 (s1.Drag), .int .i64 (s1.Brake), .int .i64 (s1.Top), .int .i64 (s1.Seats)], .slice A2 (l5).length c3, .int .i64 (x6), .int .i64 (x7), .slice A8 (l11).length c9] b (R) (fun v b' hp' => .bool (x555) = v ∧ R = hp') := by
  refine fn_enterG 191 Tryd.func13 rfl Tryd.ntmps13 rfl ?_
  unfold mFishkeep1GuardStops at hm
  refine c_seq ?_
  refine c_region ?_
  refine t_do rfl (u_box _ rfl rfl) ?_
  rintro _ _ ⟨g556, rfl, rfl⟩
  refine t_st rfl (st_assign rfl) ?_
  refine t_nil ?_
  refine x_then_normal ?_
  refine c_seq ?_
  refine c_seq ?_
  refine c_region ?_
  obtain ⟨x557, hcl558, hm⟩ := bindS hm
  refine t_do rfl (u_callW0 _ call14 rfl (fun w ho => cFishkeep1AwakeGuard _ [] ((hG.le (Base.Le.refl _)).old ho) x557 hcl558) (fun _ _ _ h => h.2.symm)) ?_
  rintro _ _ ⟨⟨_, rfl, _⟩, rfl⟩
  refine t_st rfl (st_not rfl) ?_
  refine t_nil ?_
  refine x_then_normal ?_
  refine c_cond _ rfl (fun hc559 => ?_) (fun hc559 => ?_)
  ·
    rw [if_neg (fun hh => Bool.noConfusion (hh.symm.trans (notT hc559)))] at hm
    refine c_seq ?_
    refine c_region ?_
    refine t_st rfl (st_assign rfl) ?_
    refine t_nil ?_
    refine x_then_normal ?_
    refine c_ret ?_
    refine x_then_ret ?_
    obtain rfl := some1 hm
    exact retM (rs := [.tmp 10]) [.bool (false)] (Base.Le.refl _) (by decide) rfl ⟨rfl, trivial⟩ rfl (hp' := R) (.cons _ (.refl _)) ⟨rfl, rfl⟩
  ·
    rw [if_pos (notF hc559)] at hm
    refine c_skip ?_
    refine x_then_normal ?_
    refine c_seq ?_
    refine c_region ?_
    refine t_st rfl (st_move rfl) ?_
    refine t_st rfl (st_build (v := .agg #[.int .i64 (x6), .int .i64 (0), .int .i64 (0)]) [(0, .int .i64 (x6))] rfl (fun _ => by kernel_rfl)) ?_
    refine t_do rfl (u_alloc [.int .i64 0, .int .i64 0, .int .i64 0] zero82 rfl) ?_
    rintro _ _ ⟨g560, rfl, rfl⟩
    refine t_do rfl (u_storeN (vs := [_, _, _]) 0 3 rfl rfl rfl siz82 rfl (by intro u hu; simp only [List.mem_cons, List.not_mem_nil, or_false] at hu; rcases hu with rfl | rfl | rfl <;> rfl) rfl (by simp)) ?_
    rintro _ _ rfl
    refine t_nil ?_
    refine x_then_normal ?_
    refine c_seq ?_
    refine c_seq ?_
    refine c_region ?_
    refine t_st rfl (st_loadD (vs := [_, _, _, _, _, _, _, _, _, _]) 1 10 rfl agg43 rfl rfl rfl) ?_
    refine t_st rfl (st_move rfl) ?_
    refine t_st rfl (st_loadD (vs := [_, _, _]) 0 3 rfl agg82 rfl rfl rfl) ?_
    refine t_st rfl (st_move rfl) ?_
    obtain ⟨⟨x561, x562, x563, x564⟩, hcl565, hm⟩ := bindS hm
    have hm := (unc4E hm)
    refine t_callG _ rfl call40 rfl (cRunSecond _ _ s1 l5 (⟨x6, 0, 0⟩ : ApiState) x7 A2 c3 h4 x561 x562 x563 x564 hcl565) ?_
    rintro _ b566 _ hle567 ⟨rfl, rfl⟩
    refine t_st rfl (st_move rfl) ?_
    refine t_st rfl (st_extract rfl rfl) ?_
    refine t_st rfl (st_extract rfl rfl) ?_
    refine t_do rfl (u_alloc [.int .i64 0, .int .i64 0, .int .i64 0] zero82 rfl) ?_
    rintro _ _ ⟨g568, rfl, rfl⟩
    refine t_do rfl (u_storeN (vs := [_, _, _]) 0 3 rfl rfl rfl siz82 rfl (by intro u hu; simp only [List.mem_cons, List.not_mem_nil, or_false] at hu; rcases hu with rfl | rfl | rfl <;> rfl) rfl (by simp)) ?_
    rintro _ _ rfl
    refine t_st rfl (st_assign rfl) ?_
    refine t_nil ?_
    refine x_then_normal ?_
    refine c_seq ?_
    refine c_region ?_
    refine t_st rfl (st_move rfl) ?_
    refine t_st rfl (st_neq rfl rfl) ?_
    refine t_nil ?_
    refine x_then_normal ?_
    refine c_cond _ rfl (fun hc569 => ?_) (fun hc569 => ?_)
    ·
      rw [if_pos (of_decide_eq_true hc569)] at hm
      refine c_seq ?_
      refine c_region ?_
      refine t_st rfl (st_assign rfl) ?_
      refine t_nil ?_
      refine x_then_normal ?_
      refine c_ret ?_
      refine x_then_ret ?_
      obtain rfl := some1 hm
      exact retM (rs := [.tmp 10]) [.bool (true)] hle567 (by decide) rfl ⟨rfl, trivial⟩ rfl (hp' := R) (.cons _ (.cons _ (.cons _ (.refl _)))) ⟨rfl, rfl⟩
    ·
      rw [if_neg (of_decide_eq_false hc569)] at hm
      refine c_skip ?_
      refine x_then_normal ?_
      refine c_seq ?_
      refine c_region ?_
      refine t_st rfl (st_assign rfl) ?_
      refine t_nil ?_
      refine x_then_normal ?_
      refine c_seq ?_
      refine c_seq ?_
      refine c_region ?_
      refine t_st rfl (st_move rfl) ?_
      refine t_st rfl (st_len rfl sl80) ?_
      refine t_st rfl (st_move rfl) ?_
      refine t_nil ?_
      refine x_then_normal ?_
      refine c_block ?_
      have hb571 := (FZ.bd (h4.le hle567))
      refine c_pullb 1 rfl ?_
      refine c_pullb 2 rfl ?_
      obtain ⟨x599, hl601, hk602⟩ := bindS hm
      refine c_forS (fun k600 => fun x599 => fun b597 e' hp' => [(1, .slice A2 (l5).length c3), (2, .int .i64 (x6)), (3, .int .i64 (x7)), (4, .slice A8 (l11).length c9), (5, .pointer (some ⟨g556, 0, none⟩)), (11, .pointer (some ⟨g560, 0, none⟩)), (14, .int .i64 (x599)), (41, .slice A2 (l5).length c3), (42, .int .i64 ((l5.length : Int))), (43, .int .i64 ((k600 : Int)))] = e' ∧ (g556, Cl 43 [.string (s1.Name), .int .i64 (s1.Length), .int .i64 (s1.Mass), .int .i64 (s1.Start), .int .i64 (s1.Power), .int .i64 (s1.Roll), .int .i64 (s1.Drag), .int .i64 (s1.Brake), .int .i64 (s1.Top), .int .i64 (s1.Seats)]) :: (g560, Cl 82 [.int .i64 (x6), .int .i64 (0), .int .i64 (0)]) :: R = hp' ∧ b566.Le b597) hl601 (e' := [(1, .slice A2 (l5).length c3), (2, .int .i64 (x6)), (3, .int .i64 (x7)), (4, .slice A8 (l11).length c9), (5, .pointer (some ⟨g556, 0, none⟩)), (11, .pointer (some ⟨g560, 0, none⟩)), (14, .int .i64 (0)), (41, .slice A2 (l5).length c3), (42, .int .i64 ((l5.length : Int))), (43, .int .i64 0)]) (hp' := (g556, Cl 43 [.string (s1.Name), .int .i64 (s1.Length), .int .i64 (s1.Mass), .int .i64 (s1.Start), .int .i64 (s1.Power), .int .i64 (s1.Roll), .int .i64 (s1.Drag), .int .i64 (s1.Brake), .int .i64 (s1.Top), .int .i64 (s1.Seats)]) :: (g560, Cl 82 [.int .i64 (x6), .int .i64 (0), .int .i64 (0)]) :: R) ⟨rfl, rfl, rfl, rfl, rfl, rfl, rfl, rfl, rfl, rfl, trivial⟩ (.cons_cons _ (.cons_cons _ (.cons _ (.refl _)))) ⟨rfl, rfl, (Base.Le.refl _)⟩ ?_ ?_
      ·
        rintro k600 x599 b597 _ _ oL570 hknL570 ⟨rfl, rfl, hle598⟩ hstepL570
        unfold mFishkeep1GuardStops_L570 at hstepL570
        have hm := hstepL570
        refine c_seq ?_
        refine c_region ?_
        refine t_st rfl (st_lss_t rfl rfl (by omega)) ?_
        refine t_nil ?_
        refine x_then_normal ?_
        refine c_seq ?_
        refine c_cond_t rfl ?_
        refine c_skip ?_
        refine x_then_normal ?_
        refine c_seq ?_
        refine c_block ?_
        refine c_seq ?_
        refine c_region ?_
        obtain ⟨x603, h604, hm⟩ := bindS hm
        obtain ⟨j605, hj606, hx607⟩ := idx_some h604
        obtain ⟨cs608, hr609, hcs610, hA611, hlt612⟩ := FZ.get (sz := 3) rfl (by decide) (h4.le (hle567.trans hle598)) hx607
        obtain ⟨_, _, rfl, rfl, ⟨_, _, rfl, rfl, rfl⟩⟩ := hr609
        refine t_st rfl (st_index_old j605 rfl rfl hj606 hlt612 hA611 sl80) ?_
        refine t_st rfl (st_loadN_old (vs := [.int .i64 (x603.Length), .int .i64 (x603.Grade), .int .i64 (x603.Speed)]) 3 rfl agg97 hA611 rfl (fun j u hu => hcs610 j u hu)) ?_
        refine t_do rfl (u_alloc [.int .i64 0, .int .i64 0, .int .i64 0] zero97 rfl) ?_
        rintro _ _ ⟨g613, rfl, rfl⟩
        refine t_do rfl (u_storeN (vs := [_, _, _]) 0 3 rfl rfl rfl siz97 rfl (by intro u hu; simp only [List.mem_cons, List.not_mem_nil, or_false] at hu; rcases hu with rfl | rfl | rfl <;> rfl) rfl (by simp)) ?_
        rintro _ _ rfl
        refine t_nil ?_
        refine x_then_normal ?_
        refine c_region ?_
        refine t_st rfl (st_move rfl) ?_
        refine t_st rfl (st_field rfl fld97_0) ?_
        refine t_st rfl (st_load 0 rfl one3 rfl rfl) ?_
        obtain ⟨_, h614, hm⟩ := bindS hm
        have h614 := (chk_some h614).2
        refine t_st rfl (st_add rfl rfl h614) ?_
        refine t_st rfl (st_assign rfl) ?_
        refine t_nil ?_
        refine x_block_normal ?_
        refine x_then_normal ?_
        refine c_region ?_
        refine t_st rfl (st_add rfl rfl (by omega)) ?_
        refine t_st rfl (st_move rfl) ?_
        refine t_nil ?_
        refine x_pullb 2 rfl ?_
        refine x_pullb 2 rfl ?_
        obtain rfl := some1 hm
        exact x_againS (e' := [(1, .slice A2 (l5).length c3), (2, .int .i64 (x6)), (3, .int .i64 (x7)), (4, .slice A8 (l11).length c9), (5, .pointer (some ⟨g556, 0, none⟩)), (11, .pointer (some ⟨g560, 0, none⟩)), (14, .int .i64 (x599 + x603.Length)), (41, .slice A2 (l5).length c3), (42, .int .i64 ((l5.length : Int))), (43, .int .i64 ((k600 : Int) + 1))]) (hp' := (g556, Cl 43 [.string (s1.Name), .int .i64 (s1.Length), .int .i64 (s1.Mass), .int .i64 (s1.Start), .int .i64 (s1.Power), .int .i64 (s1.Roll), .int .i64 (s1.Drag), .int .i64 (s1.Brake), .int .i64 (s1.Top), .int .i64 (s1.Seats)]) :: (g560, Cl 82 [.int .i64 (x6), .int .i64 (0), .int .i64 (0)]) :: R) ⟨rfl, rfl, rfl, rfl, rfl, rfl, rfl, rfl, rfl, rfl, trivial⟩ (.cons_cons _ (.cons_cons _ (.cons _ (.refl _)))) ⟨rfl, rfl, (hle598)⟩
      ·
        rintro b597 _ _ ⟨rfl, rfl, hle598⟩
        have hm := hk602
        refine c_seq ?_
        refine c_region ?_
        refine t_st rfl (st_lss_f rfl rfl (by omega)) ?_
        refine t_nil ?_
        refine x_then_normal ?_
        refine c_seq ?_
        refine c_cond_f rfl ?_
        refine c_exit ?_
        refine x_then_exit ?_
        refine x_then_exit ?_
        refine x_block_out ?_
        refine x_then_normal ?_
        refine c_seq ?_
        refine c_region ?_
        refine t_st rfl (st_move rfl) ?_
        refine t_st rfl (st_assign rfl) ?_
        refine t_nil ?_
        refine x_then_normal ?_
        refine c_seq ?_
        refine c_seq ?_
        refine c_region ?_
        refine t_st rfl (st_move rfl) ?_
        refine t_st rfl (st_move rfl) ?_
        refine t_st rfl (st_len rfl sl95) ?_
        refine t_st rfl (st_min rfl rfl) ?_
        obtain ⟨l615, h616, hm⟩ := bindS hm
        obtain ⟨j617, j618, hj619, hj620, hj621, hj622, hx623⟩ := cutS_some h616
        have h624 := FZ.sub (sz := 3) rfl (h10.le (hle567.trans hle598)) hj621 hj622
        have h625 := (h10.le (hle567.trans hle598)).1.1
        rw [← hx623] at h624
        refine t_st rfl (hx623 ▸ st_part (l := l11) j617 j618 rfl (.inl ⟨rfl, by omega⟩) (.inr ⟨_, _, _, rfl, rfl, hj620⟩) hj621 hj622 h625 sl95) ?_
        refine t_st rfl (st_len rfl sl95) ?_
        refine t_st rfl (st_move rfl) ?_
        refine t_nil ?_
        refine x_then_normal ?_
        refine c_block ?_
        have hb631 := (FZ.bd h624)
        refine c_pullb 1 rfl ?_
        refine c_pullb 1 rfl ?_
        obtain ⟨t981, hl982, hk983⟩ := bindS hm
        refine c_forM (fun k980 => unc5 fun x975 x976 x977 x978 x979 => fun b973 e' hp' => [(1, .slice A2 (l5).length c3), (3, .int .i64 (x975)), (5, .pointer (some ⟨g556, 0, none⟩)), (11, .pointer (some ⟨g560, 0, none⟩)), (14, .int .i64 (x599)), (17, .int .i64 (x976)), (57, .slice (subA A8 c9 j617 3) (l615).length (c9 - j617)), (58, .int .i64 ((l615.length : Int))), (59, .int .i64 ((k980 : Int)))] = e' ∧ (g556, Cl 43 [.string (s1.Name), .int .i64 (s1.Length), .int .i64 (s1.Mass), .int .i64 (s1.Start), .int .i64 (s1.Power), .int .i64 (s1.Roll), .int .i64 (s1.Drag), .int .i64 (s1.Brake), .int .i64 (s1.Top), .int .i64 (s1.Seats)]) :: (g560, Cl 82 [.int .i64 (x977), .int .i64 (x978), .int .i64 (x979)]) :: R = hp' ∧ b597.Le b973) hl982 (e' := [(1, .slice A2 (l5).length c3), (3, .int .i64 (x7)), (5, .pointer (some ⟨g556, 0, none⟩)), (11, .pointer (some ⟨g560, 0, none⟩)), (14, .int .i64 (x599)), (17, .int .i64 (x6)), (57, .slice (subA A8 c9 j617 3) (l615).length (c9 - j617)), (58, .int .i64 ((l615.length : Int))), (59, .int .i64 0)]) (hp' := (g556, Cl 43 [.string (s1.Name), .int .i64 (s1.Length), .int .i64 (s1.Mass), .int .i64 (s1.Start), .int .i64 (s1.Power), .int .i64 (s1.Roll), .int .i64 (s1.Drag), .int .i64 (s1.Brake), .int .i64 (s1.Top), .int .i64 (s1.Seats)]) :: (g560, Cl 82 [.int .i64 (x6), .int .i64 (0), .int .i64 (0)]) :: R) ⟨rfl, rfl, rfl, rfl, rfl, rfl, rfl, rfl, rfl, trivial⟩ (.cons_cons _ (.cons_cons _ (.refl _))) ⟨rfl, rfl, (Base.Le.refl _)⟩ ?_ ?_
        ·
          rintro k980 ⟨x975, x976, x977, x978, x979⟩ b973 _ _ oL630 hknL630 ⟨rfl, rfl, hle974⟩ hstepL630 houtL630
          unfold mFishkeep1GuardStops_L630 at hstepL630
          have hm := (unc5E hstepL630)
          refine c_seq ?_
          refine c_region ?_
          refine t_st rfl (st_lss_t rfl rfl (by omega)) ?_
          refine t_nil ?_
          refine x_then_normal ?_
          refine c_seq ?_
          refine c_cond_t rfl ?_
          refine c_skip ?_
          refine x_then_normal ?_
          refine c_seq ?_
          refine c_block ?_
          refine c_seq ?_
          refine c_region ?_
          obtain ⟨x984, h985, hm⟩ := bindS hm
          obtain ⟨j986, hj987, hx988⟩ := idx_some h985
          obtain ⟨cs989, hr990, hcs991, hA992, hlt993⟩ := FZ.get (sz := 3) rfl (by decide) (h624.le hle974) hx988
          obtain ⟨_, _, rfl, rfl, ⟨_, _, rfl, rfl, rfl⟩⟩ := hr990
          refine t_st rfl (st_index_old j986 rfl rfl hj987 hlt993 hA992 sl95) ?_
          refine t_st rfl (st_loadN_old (vs := [.int .i64 (x984.Demand), .int .i64 (x984.Err), .int .i64 (x984.End)]) 3 rfl agg99 hA992 rfl (fun j u hu => hcs991 j u hu)) ?_
          refine t_do rfl (u_alloc [.int .i64 0, .int .i64 0, .int .i64 0] zero99 rfl) ?_
          rintro _ _ ⟨g994, rfl, rfl⟩
          refine t_do rfl (u_storeN (vs := [_, _, _]) 0 3 rfl rfl rfl siz99 rfl (by intro u hu; simp only [List.mem_cons, List.not_mem_nil, or_false] at hu; rcases hu with rfl | rfl | rfl <;> rfl) rfl (by simp)) ?_
          rintro _ _ rfl
          refine t_nil ?_
          refine x_then_normal ?_
          obtain ⟨x998, hj999, hk999⟩ := bindS hm
          refine c_join (fun b996 e' hp' => [(1, .slice A2 (l5).length c3), (3, .int .i64 (x975)), (5, .pointer (some ⟨g556, 0, none⟩)), (11, .pointer (some ⟨g560, 0, none⟩)), (14, .int .i64 (x599)), (17, .int .i64 (x998)), (19, .pointer (some ⟨g994, 0, none⟩)), (57, .slice (subA A8 c9 j617 3) (l615).length (c9 - j617)), (58, .int .i64 ((l615.length : Int))), (59, .int .i64 ((k980 : Int)))] = e' ∧ (g556, Cl 43 [.string (s1.Name), .int .i64 (s1.Length), .int .i64 (s1.Mass), .int .i64 (s1.Start), .int .i64 (s1.Power), .int .i64 (s1.Roll), .int .i64 (s1.Drag), .int .i64 (s1.Brake), .int .i64 (s1.Top), .int .i64 (s1.Seats)]) :: (g560, Cl 82 [.int .i64 (x977), .int .i64 (x978), .int .i64 (x979)]) :: (g994, Cl 99 [.int .i64 (x984.Demand), .int .i64 (x984.Err), .int .i64 (x984.End)]) :: R = hp' ∧ b973.Le b996) ?_ ?_
          ·
            have hm := hj999
            refine c_seq ?_
            refine c_region ?_
            refine t_st rfl (st_field rfl fld82_1) ?_
            refine t_st rfl (st_load 2 rfl one3 rfl rfl) ?_
            refine t_st rfl (st_eql rfl rfl) ?_
            refine t_nil ?_
            refine x_then_normal ?_
            refine c_cond _ rfl (fun hc1000 => ?_) (fun hc1000 => ?_)
            ·
              rw [if_pos (of_decide_eq_true hc1000)] at hm
              refine c_region ?_
              refine t_st rfl (st_field rfl fld82_0) ?_
              refine t_st rfl (st_load 2 rfl one3 rfl rfl) ?_
              refine t_st rfl (st_assign rfl) ?_
              refine t_nil ?_
              obtain rfl := some1 hm
              refine x_pullb 2 rfl ?_
              refine x_pullb 2 rfl ?_
              exact x_join (e' := [(1, .slice A2 (l5).length c3), (3, .int .i64 (x975)), (5, .pointer (some ⟨g556, 0, none⟩)), (11, .pointer (some ⟨g560, 0, none⟩)), (14, .int .i64 (x599)), (17, .int .i64 (x977)), (19, .pointer (some ⟨g994, 0, none⟩)), (57, .slice (subA A8 c9 j617 3) (l615).length (c9 - j617)), (58, .int .i64 ((l615.length : Int))), (59, .int .i64 ((k980 : Int)))]) (hp' := (g556, Cl 43 [.string (s1.Name), .int .i64 (s1.Length), .int .i64 (s1.Mass), .int .i64 (s1.Start), .int .i64 (s1.Power), .int .i64 (s1.Roll), .int .i64 (s1.Drag), .int .i64 (s1.Brake), .int .i64 (s1.Top), .int .i64 (s1.Seats)]) :: (g560, Cl 82 [.int .i64 (x977), .int .i64 (x978), .int .i64 (x979)]) :: (g994, Cl 99 [.int .i64 (x984.Demand), .int .i64 (x984.Err), .int .i64 (x984.End)]) :: R) ⟨rfl, rfl, rfl, rfl, rfl, rfl, rfl, rfl, rfl, rfl, trivial⟩ (.cons_cons _ (.cons_cons _ (.cons_cons _ (.refl _)))) ⟨rfl, rfl, (Base.Le.refl _)⟩
            ·
              rw [if_neg (of_decide_eq_false hc1000)] at hm
              refine c_skip ?_
              obtain rfl := some1 hm
              refine x_pullb 2 rfl ?_
              refine x_pullb 2 rfl ?_
              exact x_join (e' := [(1, .slice A2 (l5).length c3), (3, .int .i64 (x975)), (5, .pointer (some ⟨g556, 0, none⟩)), (11, .pointer (some ⟨g560, 0, none⟩)), (14, .int .i64 (x599)), (17, .int .i64 (x976)), (19, .pointer (some ⟨g994, 0, none⟩)), (57, .slice (subA A8 c9 j617 3) (l615).length (c9 - j617)), (58, .int .i64 ((l615.length : Int))), (59, .int .i64 ((k980 : Int)))]) (hp' := (g556, Cl 43 [.string (s1.Name), .int .i64 (s1.Length), .int .i64 (s1.Mass), .int .i64 (s1.Start), .int .i64 (s1.Power), .int .i64 (s1.Roll), .int .i64 (s1.Drag), .int .i64 (s1.Brake), .int .i64 (s1.Top), .int .i64 (s1.Seats)]) :: (g560, Cl 82 [.int .i64 (x977), .int .i64 (x978), .int .i64 (x979)]) :: (g994, Cl 99 [.int .i64 (x984.Demand), .int .i64 (x984.Err), .int .i64 (x984.End)]) :: R) ⟨rfl, rfl, rfl, rfl, rfl, rfl, rfl, rfl, rfl, rfl, trivial⟩ (.cons_cons _ (.cons_cons _ (.cons_cons _ (.refl _)))) ⟨rfl, rfl, (Base.Le.refl _)⟩
          ·
            rintro b996 _ _ ⟨rfl, rfl, hle997⟩
            have hm := hk999
            refine c_seq ?_
            refine c_region ?_
            refine t_st rfl (st_move rfl) ?_
            refine t_st rfl (st_field rfl fld82_0) ?_
            refine t_st rfl (st_load 1 rfl one3 rfl rfl) ?_
            refine t_st rfl (st_move rfl) ?_
            obtain ⟨_, h1001, hm⟩ := bindS hm
            have h1001 := (chk_some h1001).2
            refine t_st rfl (st_sub rfl rfl h1001) ?_
            obtain ⟨⟨x1002, x1003, x1004⟩, hcl1005, hm⟩ := bindS hm
            have hm := (unc3E hm)
            refine t_do rfl (u_callW0 _ call46 rfl (fun w ho => cGuardSpan _ [] x998 (x977 - x998) true x1002 x1003 x1004 hcl1005) (fun _ _ _ h => h.2.symm)) ?_
            rintro _ _ ⟨⟨_, rfl, _⟩, rfl⟩
            refine t_st rfl (st_move rfl) ?_
            refine t_st rfl (st_extract rfl rfl) ?_
            refine t_st rfl (st_extract rfl rfl) ?_
            refine t_st rfl (st_extract rfl rfl) ?_
            refine t_st rfl (st_assign rfl) ?_
            refine t_st rfl (st_assign rfl) ?_
            refine t_st rfl (st_assign rfl) ?_
            refine t_nil ?_
            refine x_then_normal ?_
            refine c_seq ?_
            obtain ⟨x1010, hj1011, hk1011⟩ := bindS hm
            refine c_join (fun b1008 e' hp' => [(1, .slice A2 (l5).length c3), (3, .int .i64 (x975)), (5, .pointer (some ⟨g556, 0, none⟩)), (11, .pointer (some ⟨g560, 0, none⟩)), (14, .int .i64 (x599)), (17, .int .i64 (x998)), (19, .pointer (some ⟨g994, 0, none⟩)), (20, .int .i64 (x1002)), (21, .int .i64 (x1003)), (57, .slice (subA A8 c9 j617 3) (l615).length (c9 - j617)), (58, .int .i64 ((l615.length : Int))), (59, .int .i64 ((k980 : Int))), (89, .bool (x1010))] = e' ∧ (g556, Cl 43 [.string (s1.Name), .int .i64 (s1.Length), .int .i64 (s1.Mass), .int .i64 (s1.Start), .int .i64 (s1.Power), .int .i64 (s1.Roll), .int .i64 (s1.Drag), .int .i64 (s1.Brake), .int .i64 (s1.Top), .int .i64 (s1.Seats)]) :: (g560, Cl 82 [.int .i64 (x977), .int .i64 (x978), .int .i64 (x979)]) :: (g994, Cl 99 [.int .i64 (x984.Demand), .int .i64 (x984.Err), .int .i64 (x984.End)]) :: R = hp' ∧ b996.Le b1008) ?_ ?_
            ·
              have hm := hj1011
              refine c_region ?_
              refine t_st rfl (st_move rfl) ?_
              refine t_bool rfl (st_neq rfl rfl) (fun hc1012 => ?_) (fun hc1012 => ?_)
              ·
                rw [if_pos hc1012] at hm
                refine t_st rfl (st_move rfl) ?_
                refine t_no 80 rfl rfl rfl rfl rfl ?_
                refine t_no 80 rfl rfl rfl rfl rfl ?_
                refine t_no 80 rfl rfl rfl rfl rfl ?_
                refine t_st rfl (st_pick_t rfl rfl) ?_
                refine t_st rfl (st_move rfl) ?_
                refine t_no 85 rfl rfl rfl rfl rfl ?_
                refine t_no 85 rfl rfl rfl rfl rfl ?_
                refine t_no 85 rfl rfl rfl rfl rfl ?_
                refine t_st rfl (st_pick_t rfl rfl) ?_
                refine t_nil ?_
                obtain rfl := some1 hm
                refine x_pullb 2 rfl ?_
                refine x_pullb 2 rfl ?_
                refine x_pullb 2 rfl ?_
                exact x_join (e' := [(1, .slice A2 (l5).length c3), (3, .int .i64 (x975)), (5, .pointer (some ⟨g556, 0, none⟩)), (11, .pointer (some ⟨g560, 0, none⟩)), (14, .int .i64 (x599)), (17, .int .i64 (x998)), (19, .pointer (some ⟨g994, 0, none⟩)), (20, .int .i64 (x1002)), (21, .int .i64 (x1003)), (57, .slice (subA A8 c9 j617 3) (l615).length (c9 - j617)), (58, .int .i64 ((l615.length : Int))), (59, .int .i64 ((k980 : Int))), (89, .bool (true))]) (hp' := (g556, Cl 43 [.string (s1.Name), .int .i64 (s1.Length), .int .i64 (s1.Mass), .int .i64 (s1.Start), .int .i64 (s1.Power), .int .i64 (s1.Roll), .int .i64 (s1.Drag), .int .i64 (s1.Brake), .int .i64 (s1.Top), .int .i64 (s1.Seats)]) :: (g560, Cl 82 [.int .i64 (x977), .int .i64 (x978), .int .i64 (x979)]) :: (g994, Cl 99 [.int .i64 (x984.Demand), .int .i64 (x984.Err), .int .i64 (x984.End)]) :: R) ⟨rfl, rfl, rfl, rfl, rfl, rfl, rfl, rfl, rfl, rfl, rfl, rfl, rfl, trivial⟩ (.cons_cons _ (.cons_cons _ (.cons_cons _ (.refl _)))) ⟨rfl, rfl, (Base.Le.refl _)⟩
              ·
                rw [if_neg hc1012] at hm
                refine t_st rfl (st_move rfl) ?_
                refine t_yes 80 rfl rfl rfl ?_
                refine t_st rfl (st_field rfl fld99_1) ?_
                refine t_yes 80 rfl rfl rfl ?_
                refine t_st rfl (st_load 2 rfl one3 rfl rfl) ?_
                refine t_yes 80 rfl rfl rfl ?_
                refine t_bool rfl (st_lss rfl rfl) (fun hc1013 => ?_) (fun hc1013 => ?_)
                ·
                  rw [if_pos hc1013] at hm
                  refine t_st rfl (st_pick_f rfl rfl) ?_
                  refine t_st rfl (st_move rfl) ?_
                  refine t_no 85 rfl rfl rfl rfl rfl ?_
                  refine t_no 85 rfl rfl rfl rfl rfl ?_
                  refine t_no 85 rfl rfl rfl rfl rfl ?_
                  refine t_st rfl (st_pick_t rfl rfl) ?_
                  refine t_nil ?_
                  obtain rfl := some1 hm
                  refine x_pullb 2 rfl ?_
                  refine x_pullb 2 rfl ?_
                  refine x_pullb 2 rfl ?_
                  exact x_join (e' := [(1, .slice A2 (l5).length c3), (3, .int .i64 (x975)), (5, .pointer (some ⟨g556, 0, none⟩)), (11, .pointer (some ⟨g560, 0, none⟩)), (14, .int .i64 (x599)), (17, .int .i64 (x998)), (19, .pointer (some ⟨g994, 0, none⟩)), (20, .int .i64 (x1002)), (21, .int .i64 (x1003)), (57, .slice (subA A8 c9 j617 3) (l615).length (c9 - j617)), (58, .int .i64 ((l615.length : Int))), (59, .int .i64 ((k980 : Int))), (89, .bool (true))]) (hp' := (g556, Cl 43 [.string (s1.Name), .int .i64 (s1.Length), .int .i64 (s1.Mass), .int .i64 (s1.Start), .int .i64 (s1.Power), .int .i64 (s1.Roll), .int .i64 (s1.Drag), .int .i64 (s1.Brake), .int .i64 (s1.Top), .int .i64 (s1.Seats)]) :: (g560, Cl 82 [.int .i64 (x977), .int .i64 (x978), .int .i64 (x979)]) :: (g994, Cl 99 [.int .i64 (x984.Demand), .int .i64 (x984.Err), .int .i64 (x984.End)]) :: R) ⟨rfl, rfl, rfl, rfl, rfl, rfl, rfl, rfl, rfl, rfl, rfl, rfl, rfl, trivial⟩ (.cons_cons _ (.cons_cons _ (.cons_cons _ (.refl _)))) ⟨rfl, rfl, (Base.Le.refl _)⟩
                ·
                  rw [if_neg hc1013] at hm
                  refine t_st rfl (st_pick_f rfl rfl) ?_
                  refine t_st rfl (st_move rfl) ?_
                  refine t_yes 85 rfl rfl rfl ?_
                  refine t_st rfl (st_field rfl fld99_1) ?_
                  refine t_yes 85 rfl rfl rfl ?_
                  refine t_st rfl (st_load 2 rfl one3 rfl rfl) ?_
                  refine t_yes 85 rfl rfl rfl ?_
                  refine t_st rfl (st_gtr rfl rfl) ?_
                  refine t_st rfl (st_pick_f rfl rfl) ?_
                  refine t_nil ?_
                  obtain rfl := some1 hm
                  refine x_pullb 2 rfl ?_
                  refine x_pullb 2 rfl ?_
                  refine x_pullb 2 rfl ?_
                  exact x_join (e' := [(1, .slice A2 (l5).length c3), (3, .int .i64 (x975)), (5, .pointer (some ⟨g556, 0, none⟩)), (11, .pointer (some ⟨g560, 0, none⟩)), (14, .int .i64 (x599)), (17, .int .i64 (x998)), (19, .pointer (some ⟨g994, 0, none⟩)), (20, .int .i64 (x1002)), (21, .int .i64 (x1003)), (57, .slice (subA A8 c9 j617 3) (l615).length (c9 - j617)), (58, .int .i64 ((l615.length : Int))), (59, .int .i64 ((k980 : Int))), (89, .bool (decide (1000 < x984.Err)))]) (hp' := (g556, Cl 43 [.string (s1.Name), .int .i64 (s1.Length), .int .i64 (s1.Mass), .int .i64 (s1.Start), .int .i64 (s1.Power), .int .i64 (s1.Roll), .int .i64 (s1.Drag), .int .i64 (s1.Brake), .int .i64 (s1.Top), .int .i64 (s1.Seats)]) :: (g560, Cl 82 [.int .i64 (x977), .int .i64 (x978), .int .i64 (x979)]) :: (g994, Cl 99 [.int .i64 (x984.Demand), .int .i64 (x984.Err), .int .i64 (x984.End)]) :: R) ⟨rfl, rfl, rfl, rfl, rfl, rfl, rfl, rfl, rfl, rfl, rfl, rfl, rfl, trivial⟩ (.cons_cons _ (.cons_cons _ (.cons_cons _ (.refl _)))) ⟨rfl, rfl, (Base.Le.refl _)⟩
            ·
              rintro b1008 _ _ ⟨rfl, rfl, hle1009⟩
              have hm := hk1011
              refine c_cond _ rfl (fun hc1014 => ?_) (fun hc1014 => ?_)
              ·
                rw [if_pos hc1014] at hm
                refine c_seq ?_
                refine c_region ?_
                refine t_st rfl (st_assign rfl) ?_
                refine t_nil ?_
                refine x_then_normal ?_
                refine c_ret ?_
                refine x_then_ret ?_
                refine x_block_ret ?_
                refine x_then_ret ?_
                refine x_then_ret ?_
                refine x_block_ret ?_
                refine x_then_ret ?_
                have hq1015 := houtL630 _ (Option.some.inj hm).symm
                rw [hq1015] at hk983
                have hm := elimR hk983
                obtain rfl := some1 hm
                exact retM (rs := [.tmp 10]) [.bool (true)] (hle567.trans (hle598.trans (hle974.trans (hle997.trans hle1009)))) (by decide) rfl ⟨rfl, trivial⟩ rfl (hp' := R) (.cons _ (.cons _ (.cons _ (.refl _)))) ⟨rfl, rfl⟩
              ·
                rw [if_neg (fun hh => Bool.noConfusion (hh.symm.trans hc1014))] at hm
                refine c_skip ?_
                refine x_then_normal ?_
                refine c_seq ?_
                refine c_region ?_
                refine t_st rfl (st_move rfl) ?_
                refine t_st rfl (st_move rfl) ?_
                obtain ⟨_, h1016, hm⟩ := bindS hm
                have h1016 := (chk_some h1016).2
                refine t_st rfl (st_sub rfl rfl h1016) ?_
                obtain ⟨_, h1017, hm⟩ := bindS hm
                obtain ⟨_, h1018, hm⟩ := bindS hm
                have h1018 := (chk_some h1018).2
                refine t_st rfl (st_quo rfl rfl (ne0_some h1017) h1018) ?_
                refine t_st rfl (st_assign rfl) ?_
                refine t_nil ?_
                refine x_then_normal ?_
                refine c_seq ?_
                obtain ⟨_, h1029, hm⟩ := bindS hm
                obtain ⟨_, h1030, hm⟩ := bindS hm
                obtain ⟨_, h1031, hm⟩ := bindS hm
                obtain ⟨_, h1032, hm⟩ := bindS hm
                obtain ⟨_, h1033, hm⟩ := bindS hm
                obtain ⟨_, h1034, hm⟩ := bindS hm
                obtain ⟨_, h1035, hm⟩ := bindS hm
                obtain ⟨_, h1036, hm⟩ := bindS hm
                obtain ⟨_, h1037, hm⟩ := bindS hm
                obtain ⟨_, h1038, hm⟩ := bindS hm
                refine D_drawS ((g556, Cl 43 [.string (s1.Name), .int .i64 (s1.Length), .int .i64 (s1.Mass), .int .i64 (s1.Start), .int .i64 (s1.Power), .int .i64 (s1.Roll), .int .i64 (s1.Drag), .int .i64 (s1.Brake), .int .i64 (s1.Top), .int .i64 (s1.Seats)]) :: (g560, Cl 82 [.int .i64 (x977), .int .i64 (x978), .int .i64 (x979)]) :: (g994, Cl 99 [.int .i64 (x984.Demand), .int .i64 (x984.Err), .int .i64 (x984.End)]) :: R) mixed ?_
                refine D_st (Base.Le.refl _) 0 rfl (by kernel_rfl) (by kernel_rfl) (by kernel_rfl) rfl (st_field rfl fld82_0) (.cons_cons _ (.cons_cons _ (.cons_cons _ (.refl _)))) ?_
                refine D_st (Base.Le.refl _) 1 rfl (by kernel_rfl) (by kernel_rfl) (by kernel_rfl) rfl (st_load 1 rfl one3 rfl rfl) (.cons_cons _ (.cons_cons _ (.cons_cons _ (.refl _)))) ?_
                refine D_st (Base.Le.refl _) 2 rfl (by kernel_rfl) (by kernel_rfl) (by kernel_rfl) rfl (st_move rfl) (.cons_cons _ (.cons_cons _ (.cons_cons _ (.refl _)))) ?_
                refine D_st (Base.Le.refl _) 3 rfl (by kernel_rfl) (by kernel_rfl) (by kernel_rfl) rfl (st_field rfl fld99_1) (.cons_cons _ (.cons_cons _ (.cons_cons _ (.refl _)))) ?_
                refine D_st (Base.Le.refl _) 4 rfl (by kernel_rfl) (by kernel_rfl) (by kernel_rfl) rfl (st_load 2 rfl one3 rfl rfl) (.cons_cons _ (.cons_cons _ (.cons_cons _ (.refl _)))) ?_
                have h1029 := (chk_some h1029).2
                refine D_st (Base.Le.refl _) 5 rfl (by kernel_rfl) (by kernel_rfl) (by kernel_rfl) rfl (st_sub rfl rfl h1029) (.cons_cons _ (.cons_cons _ (.cons_cons _ (.refl _)))) ?_
                have h1030 := (chk_some h1030).2
                refine D_st (Base.Le.refl _) 6 rfl (by kernel_rfl) (by kernel_rfl) (by kernel_rfl) rfl (st_mul rfl rfl h1030) (.cons_cons _ (.cons_cons _ (.cons_cons _ (.refl _)))) ?_
                have h1032 := (chk_some h1032).2
                refine D_st (Base.Le.refl _) 7 rfl (by kernel_rfl) (by kernel_rfl) (by kernel_rfl) rfl (st_quo rfl rfl (ne0_some h1031) h1032) (.cons_cons _ (.cons_cons _ (.cons_cons _ (.refl _)))) ?_
                have h1033 := (chk_some h1033).2
                refine D_st (Base.Le.refl _) 8 rfl (by kernel_rfl) (by kernel_rfl) (by kernel_rfl) rfl (st_sub rfl rfl h1033) (.cons_cons _ (.cons_cons _ (.cons_cons _ (.refl _)))) ?_
                refine D_st (Base.Le.refl _) 9 rfl (by kernel_rfl) (by kernel_rfl) (by kernel_rfl) rfl (st_max rfl rfl) (.cons_cons _ (.cons_cons _ (.cons_cons _ (.refl _)))) ?_
                refine D_st (Base.Le.refl _) 10 rfl (by kernel_rfl) (by kernel_rfl) (by kernel_rfl) rfl (st_field rfl fld82_0) (.cons_cons _ (.cons_cons _ (.cons_cons _ (.refl _)))) ?_
                refine D_st (Base.Le.refl _) 11 rfl (by kernel_rfl) (by kernel_rfl) (by kernel_rfl) rfl (st_load 1 rfl one3 rfl rfl) (.cons_cons _ (.cons_cons _ (.cons_cons _ (.refl _)))) ?_
                refine D_st (Base.Le.refl _) 12 rfl (by kernel_rfl) (by kernel_rfl) (by kernel_rfl) rfl (st_move rfl) (.cons_cons _ (.cons_cons _ (.cons_cons _ (.refl _)))) ?_
                refine D_st (Base.Le.refl _) 13 rfl (by kernel_rfl) (by kernel_rfl) (by kernel_rfl) rfl (st_field rfl fld99_1) (.cons_cons _ (.cons_cons _ (.cons_cons _ (.refl _)))) ?_
                refine D_st (Base.Le.refl _) 14 rfl (by kernel_rfl) (by kernel_rfl) (by kernel_rfl) rfl (st_load 2 rfl one3 rfl rfl) (.cons_cons _ (.cons_cons _ (.cons_cons _ (.refl _)))) ?_
                have h1034 := (chk_some h1034).2
                refine D_st (Base.Le.refl _) 15 rfl (by kernel_rfl) (by kernel_rfl) (by kernel_rfl) rfl (st_add rfl rfl h1034) (.cons_cons _ (.cons_cons _ (.cons_cons _ (.refl _)))) ?_
                have h1035 := (chk_some h1035).2
                refine D_st (Base.Le.refl _) 16 rfl (by kernel_rfl) (by kernel_rfl) (by kernel_rfl) rfl (st_mul rfl rfl h1035) (.cons_cons _ (.cons_cons _ (.cons_cons _ (.refl _)))) ?_
                have h1037 := (chk_some h1037).2
                refine D_st (Base.Le.refl _) 17 rfl (by kernel_rfl) (by kernel_rfl) (by kernel_rfl) rfl (st_quo rfl rfl (ne0_some h1036) h1037) (.cons_cons _ (.cons_cons _ (.cons_cons _ (.refl _)))) ?_
                have h1038 := (chk_some h1038).2
                refine D_st (Base.Le.refl _) 18 rfl (by kernel_rfl) (by kernel_rfl) (by kernel_rfl) rfl (st_add rfl rfl h1038) (.cons_cons _ (.cons_cons _ (.cons_cons _ (.refl _)))) ?_
                refine D_st (Base.Le.refl _) 19 rfl (by kernel_rfl) (by kernel_rfl) (by kernel_rfl) rfl (st_move rfl) (.cons_cons _ (.cons_cons _ (.cons_cons _ (.refl _)))) ?_
                refine D_st (Base.Le.refl _) 20 rfl (by kernel_rfl) (by kernel_rfl) (by kernel_rfl) rfl (st_min rfl rfl) (.cons_cons _ (.cons_cons _ (.cons_cons _ (.refl _)))) ?_
                refine D_st (Base.Le.refl _) 21 rfl (by kernel_rfl) (by kernel_rfl) (by kernel_rfl) rfl (st_assign rfl) (.cons_cons _ (.cons_cons _ (.cons_cons _ (.refl _)))) ?_
                refine D_st (Base.Le.refl _) 22 rfl (by kernel_rfl) (by kernel_rfl) (by kernel_rfl) rfl (st_assign rfl) (.cons_cons _ (.cons_cons _ (.cons_cons _ (.refl _)))) ?_
                refine D_done (by kernel_rfl) ?_
                refine x_then_normal ?_
                refine c_seq ?_
                refine c_region ?_
                refine t_st rfl (st_loadD (vs := [_, _, _, _, _, _, _, _, _, _]) 0 10 rfl agg43 rfl rfl rfl) ?_
                refine t_st rfl (st_field rfl fld82_1) ?_
                refine t_st rfl (st_load 1 rfl one3 rfl rfl) ?_
                obtain ⟨⟨x1039, x1040⟩, hcl1041, hm⟩ := bindS hm
                have hm := (unc2E hm)
                refine t_do rfl (u_callW0 _ call23 rfl (fun w ho => cRunStop _ [] s1 x978 x1039 x1040 hcl1041) (fun _ _ _ h => h.2.symm)) ?_
                rintro _ _ ⟨⟨_, rfl, _⟩, rfl⟩
                refine t_st rfl (st_move rfl) ?_
                refine t_st rfl (st_extract rfl rfl) ?_
                refine t_st rfl (st_extract rfl rfl) ?_
                refine t_st rfl (st_assign rfl) ?_
                refine t_st rfl (st_assign rfl) ?_
                refine t_nil ?_
                refine x_then_normal ?_
                obtain ⟨x1053, hj1054, hk1054⟩ := bindS hm
                refine c_join (fun b1051 e' hp' => [(1, .slice A2 (l5).length c3), (3, .int .i64 (x1053)), (5, .pointer (some ⟨g556, 0, none⟩)), (11, .pointer (some ⟨g560, 0, none⟩)), (14, .int .i64 (x599)), (17, .int .i64 (x998)), (19, .pointer (some ⟨g994, 0, none⟩)), (20, .int .i64 (max (x977 - (Int.tdiv ((Int.tdiv (x1003 - x1002) 2) * (1000 - x984.Err)) 1000)) 0)), (21, .int .i64 (min (x977 + (Int.tdiv ((Int.tdiv (x1003 - x1002) 2) * (1000 + x984.Err)) 1000)) x599)), (57, .slice (subA A8 c9 j617 3) (l615).length (c9 - j617)), (58, .int .i64 ((l615.length : Int))), (59, .int .i64 ((k980 : Int)))] = e' ∧ (g556, Cl 43 [.string (s1.Name), .int .i64 (s1.Length), .int .i64 (s1.Mass), .int .i64 (s1.Start), .int .i64 (s1.Power), .int .i64 (s1.Roll), .int .i64 (s1.Drag), .int .i64 (s1.Brake), .int .i64 (s1.Top), .int .i64 (s1.Seats)]) :: (g560, Cl 82 [.int .i64 (x977), .int .i64 (x978), .int .i64 (x979)]) :: (g994, Cl 99 [.int .i64 (x984.Demand), .int .i64 (x984.Err), .int .i64 (x984.End)]) :: R = hp' ∧ b1008.Le b1051) ?_ ?_
                ·
                  have hm := hj1054
                  obtain ⟨x1059, hj1060, hk1060⟩ := bindS hm
                  refine c_join (fun b1057 e' hp' => [(1, .slice A2 (l5).length c3), (3, .int .i64 (x975)), (5, .pointer (some ⟨g556, 0, none⟩)), (11, .pointer (some ⟨g560, 0, none⟩)), (14, .int .i64 (x599)), (17, .int .i64 (x998)), (19, .pointer (some ⟨g994, 0, none⟩)), (20, .int .i64 (max (x977 - (Int.tdiv ((Int.tdiv (x1003 - x1002) 2) * (1000 - x984.Err)) 1000)) 0)), (21, .int .i64 (min (x977 + (Int.tdiv ((Int.tdiv (x1003 - x1002) 2) * (1000 + x984.Err)) 1000)) x599)), (57, .slice (subA A8 c9 j617 3) (l615).length (c9 - j617)), (58, .int .i64 ((l615.length : Int))), (59, .int .i64 ((k980 : Int))), (133, .bool (x1059))] = e' ∧ (g556, Cl 43 [.string (s1.Name), .int .i64 (s1.Length), .int .i64 (s1.Mass), .int .i64 (s1.Start), .int .i64 (s1.Power), .int .i64 (s1.Roll), .int .i64 (s1.Drag), .int .i64 (s1.Brake), .int .i64 (s1.Top), .int .i64 (s1.Seats)]) :: (g560, Cl 82 [.int .i64 (x977), .int .i64 (x978), .int .i64 (x979)]) :: (g994, Cl 99 [.int .i64 (x984.Demand), .int .i64 (x984.Err), .int .i64 (x984.End)]) :: R = hp' ∧ b1008.Le b1057) ?_ ?_
                  ·
                    have hm := hj1060
                    refine c_region ?_
                    refine t_st rfl (st_field rfl fld99_2) ?_
                    refine t_st rfl (st_load 2 rfl one3 rfl rfl) ?_
                    refine t_st rfl (st_move rfl) ?_
                    refine t_st rfl (st_move rfl) ?_
                    obtain ⟨_, h1061, hm⟩ := bindS hm
                    have h1061 := (chk_some h1061).2
                    refine t_st rfl (st_add rfl rfl h1061) ?_
                    refine t_bool rfl (st_geq rfl rfl) (fun hc1062 => ?_) (fun hc1062 => ?_)
                    ·
                      rw [if_pos hc1062] at hm
                      refine t_st rfl (st_move rfl) ?_
                      refine t_yes 128 rfl rfl rfl ?_
                      refine t_st rfl (st_field rfl fld99_2) ?_
                      refine t_yes 128 rfl rfl rfl ?_
                      refine t_st rfl (st_load 2 rfl one3 rfl rfl) ?_
                      refine t_yes 128 rfl rfl rfl ?_
                      refine t_st rfl (st_move rfl) ?_
                      refine t_yes 128 rfl rfl rfl ?_
                      refine t_st rfl (st_leq rfl rfl) ?_
                      refine t_st rfl (st_pick_t rfl rfl) ?_
                      refine t_nil ?_
                      obtain rfl := some1 hm
                      refine x_pullb 2 rfl ?_
                      refine x_pullb 2 rfl ?_
                      refine x_pullb 2 rfl ?_
                      exact x_join (e' := [(1, .slice A2 (l5).length c3), (3, .int .i64 (x975)), (5, .pointer (some ⟨g556, 0, none⟩)), (11, .pointer (some ⟨g560, 0, none⟩)), (14, .int .i64 (x599)), (17, .int .i64 (x998)), (19, .pointer (some ⟨g994, 0, none⟩)), (20, .int .i64 (max (x977 - (Int.tdiv ((Int.tdiv (x1003 - x1002) 2) * (1000 - x984.Err)) 1000)) 0)), (21, .int .i64 (min (x977 + (Int.tdiv ((Int.tdiv (x1003 - x1002) 2) * (1000 + x984.Err)) 1000)) x599)), (57, .slice (subA A8 c9 j617 3) (l615).length (c9 - j617)), (58, .int .i64 ((l615.length : Int))), (59, .int .i64 ((k980 : Int))), (133, .bool (decide (x984.End ≤ x599)))]) (hp' := (g556, Cl 43 [.string (s1.Name), .int .i64 (s1.Length), .int .i64 (s1.Mass), .int .i64 (s1.Start), .int .i64 (s1.Power), .int .i64 (s1.Roll), .int .i64 (s1.Drag), .int .i64 (s1.Brake), .int .i64 (s1.Top), .int .i64 (s1.Seats)]) :: (g560, Cl 82 [.int .i64 (x977), .int .i64 (x978), .int .i64 (x979)]) :: (g994, Cl 99 [.int .i64 (x984.Demand), .int .i64 (x984.Err), .int .i64 (x984.End)]) :: R) ⟨rfl, rfl, rfl, rfl, rfl, rfl, rfl, rfl, rfl, rfl, rfl, rfl, rfl, trivial⟩ (.cons_cons _ (.cons_cons _ (.cons_cons _ (.refl _)))) ⟨rfl, rfl, (Base.Le.refl _)⟩
                    ·
                      rw [if_neg hc1062] at hm
                      refine t_st rfl (st_move rfl) ?_
                      refine t_no 128 rfl rfl rfl rfl rfl ?_
                      refine t_no 128 rfl rfl rfl rfl rfl ?_
                      refine t_no 128 rfl rfl rfl rfl rfl ?_
                      refine t_no 128 rfl rfl rfl rfl rfl ?_
                      refine t_st rfl (st_pick_f rfl rfl) ?_
                      refine t_nil ?_
                      obtain rfl := some1 hm
                      refine x_pullb 2 rfl ?_
                      refine x_pullb 2 rfl ?_
                      refine x_pullb 2 rfl ?_
                      exact x_join (e' := [(1, .slice A2 (l5).length c3), (3, .int .i64 (x975)), (5, .pointer (some ⟨g556, 0, none⟩)), (11, .pointer (some ⟨g560, 0, none⟩)), (14, .int .i64 (x599)), (17, .int .i64 (x998)), (19, .pointer (some ⟨g994, 0, none⟩)), (20, .int .i64 (max (x977 - (Int.tdiv ((Int.tdiv (x1003 - x1002) 2) * (1000 - x984.Err)) 1000)) 0)), (21, .int .i64 (min (x977 + (Int.tdiv ((Int.tdiv (x1003 - x1002) 2) * (1000 + x984.Err)) 1000)) x599)), (57, .slice (subA A8 c9 j617 3) (l615).length (c9 - j617)), (58, .int .i64 ((l615.length : Int))), (59, .int .i64 ((k980 : Int))), (133, .bool (false))]) (hp' := (g556, Cl 43 [.string (s1.Name), .int .i64 (s1.Length), .int .i64 (s1.Mass), .int .i64 (s1.Start), .int .i64 (s1.Power), .int .i64 (s1.Roll), .int .i64 (s1.Drag), .int .i64 (s1.Brake), .int .i64 (s1.Top), .int .i64 (s1.Seats)]) :: (g560, Cl 82 [.int .i64 (x977), .int .i64 (x978), .int .i64 (x979)]) :: (g994, Cl 99 [.int .i64 (x984.Demand), .int .i64 (x984.Err), .int .i64 (x984.End)]) :: R) ⟨rfl, rfl, rfl, rfl, rfl, rfl, rfl, rfl, rfl, rfl, rfl, rfl, rfl, trivial⟩ (.cons_cons _ (.cons_cons _ (.cons_cons _ (.refl _)))) ⟨rfl, rfl, (Base.Le.refl _)⟩
                  ·
                    rintro b1057 _ _ ⟨rfl, rfl, hle1058⟩
                    have hm := hk1060
                    refine c_cond _ rfl (fun hc1063 => ?_) (fun hc1063 => ?_)
                    ·
                      rw [if_pos hc1063] at hm
                      refine c_region ?_
                      refine t_st rfl (st_field rfl fld99_2) ?_
                      refine t_st rfl (st_load 2 rfl one3 rfl rfl) ?_
                      refine t_st rfl (st_assign rfl) ?_
                      refine t_nil ?_
                      obtain rfl := some1 hm
                      refine x_pullb 2 rfl ?_
                      refine x_pullb 2 rfl ?_
                      refine x_pullb 2 rfl ?_
                      exact x_join (e' := [(1, .slice A2 (l5).length c3), (3, .int .i64 (x984.End)), (5, .pointer (some ⟨g556, 0, none⟩)), (11, .pointer (some ⟨g560, 0, none⟩)), (14, .int .i64 (x599)), (17, .int .i64 (x998)), (19, .pointer (some ⟨g994, 0, none⟩)), (20, .int .i64 (max (x977 - (Int.tdiv ((Int.tdiv (x1003 - x1002) 2) * (1000 - x984.Err)) 1000)) 0)), (21, .int .i64 (min (x977 + (Int.tdiv ((Int.tdiv (x1003 - x1002) 2) * (1000 + x984.Err)) 1000)) x599)), (57, .slice (subA A8 c9 j617 3) (l615).length (c9 - j617)), (58, .int .i64 ((l615.length : Int))), (59, .int .i64 ((k980 : Int)))]) (hp' := (g556, Cl 43 [.string (s1.Name), .int .i64 (s1.Length), .int .i64 (s1.Mass), .int .i64 (s1.Start), .int .i64 (s1.Power), .int .i64 (s1.Roll), .int .i64 (s1.Drag), .int .i64 (s1.Brake), .int .i64 (s1.Top), .int .i64 (s1.Seats)]) :: (g560, Cl 82 [.int .i64 (x977), .int .i64 (x978), .int .i64 (x979)]) :: (g994, Cl 99 [.int .i64 (x984.Demand), .int .i64 (x984.Err), .int .i64 (x984.End)]) :: R) ⟨rfl, rfl, rfl, rfl, rfl, rfl, rfl, rfl, rfl, rfl, rfl, rfl, trivial⟩ (.cons_cons _ (.cons_cons _ (.cons_cons _ (.refl _)))) ⟨rfl, rfl, hle1058⟩
                    ·
                      rw [if_neg (fun hh => Bool.noConfusion (hh.symm.trans hc1063))] at hm
                      refine c_skip ?_
                      obtain rfl := some1 hm
                      refine x_pullb 2 rfl ?_
                      refine x_pullb 2 rfl ?_
                      refine x_pullb 2 rfl ?_
                      exact x_join (e' := [(1, .slice A2 (l5).length c3), (3, .int .i64 (x975)), (5, .pointer (some ⟨g556, 0, none⟩)), (11, .pointer (some ⟨g560, 0, none⟩)), (14, .int .i64 (x599)), (17, .int .i64 (x998)), (19, .pointer (some ⟨g994, 0, none⟩)), (20, .int .i64 (max (x977 - (Int.tdiv ((Int.tdiv (x1003 - x1002) 2) * (1000 - x984.Err)) 1000)) 0)), (21, .int .i64 (min (x977 + (Int.tdiv ((Int.tdiv (x1003 - x1002) 2) * (1000 + x984.Err)) 1000)) x599)), (57, .slice (subA A8 c9 j617 3) (l615).length (c9 - j617)), (58, .int .i64 ((l615.length : Int))), (59, .int .i64 ((k980 : Int)))]) (hp' := (g556, Cl 43 [.string (s1.Name), .int .i64 (s1.Length), .int .i64 (s1.Mass), .int .i64 (s1.Start), .int .i64 (s1.Power), .int .i64 (s1.Roll), .int .i64 (s1.Drag), .int .i64 (s1.Brake), .int .i64 (s1.Top), .int .i64 (s1.Seats)]) :: (g560, Cl 82 [.int .i64 (x977), .int .i64 (x978), .int .i64 (x979)]) :: (g994, Cl 99 [.int .i64 (x984.Demand), .int .i64 (x984.Err), .int .i64 (x984.End)]) :: R) ⟨rfl, rfl, rfl, rfl, rfl, rfl, rfl, rfl, rfl, rfl, rfl, rfl, trivial⟩ (.cons_cons _ (.cons_cons _ (.cons_cons _ (.refl _)))) ⟨rfl, rfl, hle1058⟩
                ·
                  rintro b1051 _ _ ⟨rfl, rfl, hle1052⟩
                  have hm := hk1054
                  refine c_seq ?_
                  obtain ⟨x1067, hj1068, hk1068⟩ := bindS hm
                  refine c_join (fun b1065 e' hp' => [(1, .slice A2 (l5).length c3), (3, .int .i64 (x1053)), (5, .pointer (some ⟨g556, 0, none⟩)), (11, .pointer (some ⟨g560, 0, none⟩)), (14, .int .i64 (x599)), (17, .int .i64 (x998)), (19, .pointer (some ⟨g994, 0, none⟩)), (20, .int .i64 (max (x977 - (Int.tdiv ((Int.tdiv (x1003 - x1002) 2) * (1000 - x984.Err)) 1000)) 0)), (21, .int .i64 (min (x977 + (Int.tdiv ((Int.tdiv (x1003 - x1002) 2) * (1000 + x984.Err)) 1000)) x599)), (57, .slice (subA A8 c9 j617 3) (l615).length (c9 - j617)), (58, .int .i64 ((l615.length : Int))), (59, .int .i64 ((k980 : Int))), (143, .bool (x1067))] = e' ∧ (g556, Cl 43 [.string (s1.Name), .int .i64 (s1.Length), .int .i64 (s1.Mass), .int .i64 (s1.Start), .int .i64 (s1.Power), .int .i64 (s1.Roll), .int .i64 (s1.Drag), .int .i64 (s1.Brake), .int .i64 (s1.Top), .int .i64 (s1.Seats)]) :: (g560, Cl 82 [.int .i64 (x977), .int .i64 (x978), .int .i64 (x979)]) :: (g994, Cl 99 [.int .i64 (x984.Demand), .int .i64 (x984.Err), .int .i64 (x984.End)]) :: R = hp' ∧ b1051.Le b1065) ?_ ?_
                  ·
                    have hm := hj1068
                    refine c_region ?_
                    refine t_st rfl (st_field rfl fld99_0) ?_
                    refine t_st rfl (st_load 2 rfl one3 rfl rfl) ?_
                    refine t_bool rfl (st_lss rfl rfl) (fun hc1069 => ?_) (fun hc1069 => ?_)
                    ·
                      rw [if_pos hc1069] at hm
                      refine t_st rfl (st_move rfl) ?_
                      refine t_no 139 rfl rfl rfl rfl rfl ?_
                      refine t_no 139 rfl rfl rfl rfl rfl ?_
                      refine t_no 139 rfl rfl rfl rfl rfl ?_
                      refine t_st rfl (st_pick_t rfl rfl) ?_
                      refine t_nil ?_
                      obtain rfl := some1 hm
                      refine x_pullb 2 rfl ?_
                      refine x_pullb 2 rfl ?_
                      refine x_pullb 2 rfl ?_
                      exact x_join (e' := [(1, .slice A2 (l5).length c3), (3, .int .i64 (x1053)), (5, .pointer (some ⟨g556, 0, none⟩)), (11, .pointer (some ⟨g560, 0, none⟩)), (14, .int .i64 (x599)), (17, .int .i64 (x998)), (19, .pointer (some ⟨g994, 0, none⟩)), (20, .int .i64 (max (x977 - (Int.tdiv ((Int.tdiv (x1003 - x1002) 2) * (1000 - x984.Err)) 1000)) 0)), (21, .int .i64 (min (x977 + (Int.tdiv ((Int.tdiv (x1003 - x1002) 2) * (1000 + x984.Err)) 1000)) x599)), (57, .slice (subA A8 c9 j617 3) (l615).length (c9 - j617)), (58, .int .i64 ((l615.length : Int))), (59, .int .i64 ((k980 : Int))), (143, .bool (true))]) (hp' := (g556, Cl 43 [.string (s1.Name), .int .i64 (s1.Length), .int .i64 (s1.Mass), .int .i64 (s1.Start), .int .i64 (s1.Power), .int .i64 (s1.Roll), .int .i64 (s1.Drag), .int .i64 (s1.Brake), .int .i64 (s1.Top), .int .i64 (s1.Seats)]) :: (g560, Cl 82 [.int .i64 (x977), .int .i64 (x978), .int .i64 (x979)]) :: (g994, Cl 99 [.int .i64 (x984.Demand), .int .i64 (x984.Err), .int .i64 (x984.End)]) :: R) ⟨rfl, rfl, rfl, rfl, rfl, rfl, rfl, rfl, rfl, rfl, rfl, rfl, rfl, trivial⟩ (.cons_cons _ (.cons_cons _ (.cons_cons _ (.refl _)))) ⟨rfl, rfl, (Base.Le.refl _)⟩
                    ·
                      rw [if_neg hc1069] at hm
                      refine t_st rfl (st_move rfl) ?_
                      refine t_yes 139 rfl rfl rfl ?_
                      refine t_st rfl (st_field rfl fld99_0) ?_
                      refine t_yes 139 rfl rfl rfl ?_
                      refine t_st rfl (st_load 2 rfl one3 rfl rfl) ?_
                      refine t_yes 139 rfl rfl rfl ?_
                      refine t_st rfl (st_gtr rfl rfl) ?_
                      refine t_st rfl (st_pick_f rfl rfl) ?_
                      refine t_nil ?_
                      obtain rfl := some1 hm
                      refine x_pullb 2 rfl ?_
                      refine x_pullb 2 rfl ?_
                      refine x_pullb 2 rfl ?_
                      exact x_join (e' := [(1, .slice A2 (l5).length c3), (3, .int .i64 (x1053)), (5, .pointer (some ⟨g556, 0, none⟩)), (11, .pointer (some ⟨g560, 0, none⟩)), (14, .int .i64 (x599)), (17, .int .i64 (x998)), (19, .pointer (some ⟨g994, 0, none⟩)), (20, .int .i64 (max (x977 - (Int.tdiv ((Int.tdiv (x1003 - x1002) 2) * (1000 - x984.Err)) 1000)) 0)), (21, .int .i64 (min (x977 + (Int.tdiv ((Int.tdiv (x1003 - x1002) 2) * (1000 + x984.Err)) 1000)) x599)), (57, .slice (subA A8 c9 j617 3) (l615).length (c9 - j617)), (58, .int .i64 ((l615.length : Int))), (59, .int .i64 ((k980 : Int))), (143, .bool (decide (6000 < x984.Demand)))]) (hp' := (g556, Cl 43 [.string (s1.Name), .int .i64 (s1.Length), .int .i64 (s1.Mass), .int .i64 (s1.Start), .int .i64 (s1.Power), .int .i64 (s1.Roll), .int .i64 (s1.Drag), .int .i64 (s1.Brake), .int .i64 (s1.Top), .int .i64 (s1.Seats)]) :: (g560, Cl 82 [.int .i64 (x977), .int .i64 (x978), .int .i64 (x979)]) :: (g994, Cl 99 [.int .i64 (x984.Demand), .int .i64 (x984.Err), .int .i64 (x984.End)]) :: R) ⟨rfl, rfl, rfl, rfl, rfl, rfl, rfl, rfl, rfl, rfl, rfl, rfl, rfl, trivial⟩ (.cons_cons _ (.cons_cons _ (.cons_cons _ (.refl _)))) ⟨rfl, rfl, (Base.Le.refl _)⟩
                  ·
                    rintro b1065 _ _ ⟨rfl, rfl, hle1066⟩
                    have hm := hk1068
                    refine c_cond _ rfl (fun hc1070 => ?_) (fun hc1070 => ?_)
                    ·
                      rw [if_pos hc1070] at hm
                      refine c_seq ?_
                      refine c_region ?_
                      refine t_st rfl (st_assign rfl) ?_
                      refine t_nil ?_
                      refine x_then_normal ?_
                      refine c_ret ?_
                      refine x_then_ret ?_
                      refine x_block_ret ?_
                      refine x_then_ret ?_
                      refine x_then_ret ?_
                      refine x_block_ret ?_
                      refine x_then_ret ?_
                      have hq1071 := houtL630 _ (Option.some.inj hm).symm
                      rw [hq1071] at hk983
                      have hm := elimR hk983
                      obtain rfl := some1 hm
                      exact retM (rs := [.tmp 10]) [.bool (true)] (hle567.trans (hle598.trans (hle974.trans (hle997.trans (hle1009.trans (hle1052.trans hle1066)))))) (by decide) rfl ⟨rfl, trivial⟩ rfl (hp' := R) (.cons _ (.cons _ (.cons _ (.refl _)))) ⟨rfl, rfl⟩
                    ·
                      rw [if_neg (fun hh => Bool.noConfusion (hh.symm.trans hc1070))] at hm
                      refine c_skip ?_
                      refine x_then_normal ?_
                      refine c_seq ?_
                      refine c_region ?_
                      refine t_st rfl (st_loadD (vs := [_, _, _, _, _, _, _, _, _, _]) 0 10 rfl agg43 rfl rfl rfl) ?_
                      refine t_st rfl (st_move rfl) ?_
                      refine t_st rfl (st_loadD (vs := [_, _, _]) 1 3 rfl agg82 rfl rfl rfl) ?_
                      refine t_st rfl (st_move rfl) ?_
                      refine t_st rfl (st_move rfl) ?_
                      refine t_st rfl (st_move rfl) ?_
                      refine t_st rfl (st_field rfl fld99_0) ?_
                      refine t_st rfl (st_load 2 rfl one3 rfl rfl) ?_
                      obtain ⟨⟨x1072, x1073, x1074, x1075⟩, hcl1076, hm⟩ := bindS hm
                      have hm := (unc4E hm)
                      refine t_callG _ rfl call41 rfl (cGuardNext _ _ s1 l5 (⟨x977, x978, x979⟩ : ApiState) (max (x977 - (Int.tdiv ((Int.tdiv (x1003 - x1002) 2) * (1000 - x984.Err)) 1000)) 0) (min (x977 + (Int.tdiv ((Int.tdiv (x1003 - x1002) 2) * (1000 + x984.Err)) 1000)) x599) x1053 x984.Demand A2 c3 (h4.le (hle567.trans (hle598.trans (hle974.trans (hle997.trans (hle1009.trans (hle1052.trans hle1066))))))) x1072 x1073 x1074 x1075 hcl1076) ?_
                      rintro _ b1077 _ hle1078 ⟨rfl, rfl⟩
                      refine t_st rfl (st_move rfl) ?_
                      refine t_st rfl (st_extract rfl rfl) ?_
                      refine t_st rfl (st_extract rfl rfl) ?_
                      refine t_do rfl (u_alloc [.int .i64 0, .int .i64 0, .int .i64 0] zero82 rfl) ?_
                      rintro _ _ ⟨g1079, rfl, rfl⟩
                      refine t_do rfl (u_storeN (vs := [_, _, _]) 0 3 rfl rfl rfl siz82 rfl (by intro u hu; simp only [List.mem_cons, List.not_mem_nil, or_false] at hu; rcases hu with rfl | rfl | rfl <;> rfl) rfl (by simp)) ?_
                      rintro _ _ rfl
                      refine t_st rfl (st_assign rfl) ?_
                      refine t_nil ?_
                      refine x_then_normal ?_
                      refine c_seq ?_
                      obtain ⟨x1088, hj1089, hk1089⟩ := bindS hm
                      refine c_join (fun b1086 e' hp' => [(1, .slice A2 (l5).length c3), (3, .int .i64 (x1053)), (5, .pointer (some ⟨g556, 0, none⟩)), (11, .pointer (some ⟨g560, 0, none⟩)), (14, .int .i64 (x599)), (17, .int .i64 (x998)), (26, .pointer (some ⟨g1079, 0, none⟩)), (57, .slice (subA A8 c9 j617 3) (l615).length (c9 - j617)), (58, .int .i64 ((l615.length : Int))), (59, .int .i64 ((k980 : Int))), (188, .bool (x1088))] = e' ∧ (g556, Cl 43 [.string (s1.Name), .int .i64 (s1.Length), .int .i64 (s1.Mass), .int .i64 (s1.Start), .int .i64 (s1.Power), .int .i64 (s1.Roll), .int .i64 (s1.Drag), .int .i64 (s1.Brake), .int .i64 (s1.Top), .int .i64 (s1.Seats)]) :: (g560, Cl 82 [.int .i64 (x977), .int .i64 (x978), .int .i64 (x979)]) :: (g1079, Cl 82 [.int .i64 (x1072), .int .i64 (x1073), .int .i64 (x1074)]) :: R = hp' ∧ b1077.Le b1086) ?_ ?_
                      ·
                        have hm := hj1089
                        refine c_region ?_
                        refine t_st rfl (st_move rfl) ?_
                        refine t_bool rfl (st_neq rfl rfl) (fun hc1090 => ?_) (fun hc1090 => ?_)
                        ·
                          rw [if_pos hc1090] at hm
                          refine t_st rfl (st_move rfl) ?_
                          refine t_no 158 rfl rfl rfl rfl rfl ?_
                          refine t_no 158 rfl rfl rfl rfl rfl ?_
                          refine t_no 158 rfl rfl rfl rfl rfl ?_
                          refine t_no 158 rfl rfl rfl rfl rfl ?_
                          refine t_st rfl (st_pick_t rfl rfl) ?_
                          refine t_st rfl (st_move rfl) ?_
                          refine t_no 164 rfl rfl rfl rfl rfl ?_
                          refine t_no 164 rfl rfl rfl rfl rfl ?_
                          refine t_no 164 rfl rfl rfl rfl rfl ?_
                          refine t_no 164 rfl rfl rfl rfl rfl ?_
                          refine t_no 164 rfl rfl rfl rfl rfl ?_
                          refine t_st rfl (st_pick_t rfl rfl) ?_
                          refine t_st rfl (st_move rfl) ?_
                          refine t_no 171 rfl rfl rfl rfl rfl ?_
                          refine t_no 171 rfl rfl rfl rfl rfl ?_
                          refine t_no 171 rfl rfl rfl rfl rfl ?_
                          refine t_no 171 rfl rfl rfl rfl rfl ?_
                          refine t_no 171 rfl rfl rfl rfl rfl ?_
                          refine t_no 171 rfl rfl rfl rfl rfl ?_
                          refine t_no 171 rfl rfl rfl rfl rfl ?_
                          refine t_no 171 rfl rfl rfl rfl rfl ?_
                          refine t_st rfl (st_pick_t rfl rfl) ?_
                          refine t_st rfl (st_move rfl) ?_
                          refine t_no 181 rfl rfl rfl rfl rfl ?_
                          refine t_no 181 rfl rfl rfl rfl rfl ?_
                          refine t_no 181 rfl rfl rfl rfl rfl ?_
                          refine t_no 181 rfl rfl rfl rfl rfl ?_
                          refine t_no 181 rfl rfl rfl rfl rfl ?_
                          refine t_no 181 rfl rfl rfl rfl rfl ?_
                          refine t_st rfl (st_pick_t rfl rfl) ?_
                          refine t_nil ?_
                          obtain rfl := some1 hm
                          refine x_pullb 2 rfl ?_
                          refine x_pullb 2 rfl ?_
                          exact x_join (e' := [(1, .slice A2 (l5).length c3), (3, .int .i64 (x1053)), (5, .pointer (some ⟨g556, 0, none⟩)), (11, .pointer (some ⟨g560, 0, none⟩)), (14, .int .i64 (x599)), (17, .int .i64 (x998)), (26, .pointer (some ⟨g1079, 0, none⟩)), (57, .slice (subA A8 c9 j617 3) (l615).length (c9 - j617)), (58, .int .i64 ((l615.length : Int))), (59, .int .i64 ((k980 : Int))), (188, .bool (true))]) (hp' := (g556, Cl 43 [.string (s1.Name), .int .i64 (s1.Length), .int .i64 (s1.Mass), .int .i64 (s1.Start), .int .i64 (s1.Power), .int .i64 (s1.Roll), .int .i64 (s1.Drag), .int .i64 (s1.Brake), .int .i64 (s1.Top), .int .i64 (s1.Seats)]) :: (g560, Cl 82 [.int .i64 (x977), .int .i64 (x978), .int .i64 (x979)]) :: (g1079, Cl 82 [.int .i64 (x1072), .int .i64 (x1073), .int .i64 (x1074)]) :: R) ⟨rfl, rfl, rfl, rfl, rfl, rfl, rfl, rfl, rfl, rfl, rfl, trivial⟩ (.cons_cons _ (.cons_cons _ (.cons_cons _ (.cons _ (.refl _))))) ⟨rfl, rfl, (Base.Le.refl _)⟩
                        ·
                          rw [if_neg hc1090] at hm
                          refine t_st rfl (st_move rfl) ?_
                          refine t_yes 158 rfl rfl rfl ?_
                          refine t_st rfl (st_field rfl fld82_0) ?_
                          refine t_yes 158 rfl rfl rfl ?_
                          refine t_st rfl (st_load 0 rfl one3 rfl rfl) ?_
                          refine t_yes 158 rfl rfl rfl ?_
                          refine t_st rfl (st_move rfl) ?_
                          refine t_yes 158 rfl rfl rfl ?_
                          refine t_bool rfl (st_gtr rfl rfl) (fun hc1091 => ?_) (fun hc1091 => ?_)
                          ·
                            rw [if_pos hc1091] at hm
                            refine t_st rfl (st_pick_f rfl rfl) ?_
                            refine t_st rfl (st_move rfl) ?_
                            refine t_no 164 rfl rfl rfl rfl rfl ?_
                            refine t_no 164 rfl rfl rfl rfl rfl ?_
                            refine t_no 164 rfl rfl rfl rfl rfl ?_
                            refine t_no 164 rfl rfl rfl rfl rfl ?_
                            refine t_no 164 rfl rfl rfl rfl rfl ?_
                            refine t_st rfl (st_pick_t rfl rfl) ?_
                            refine t_st rfl (st_move rfl) ?_
                            refine t_no 171 rfl rfl rfl rfl rfl ?_
                            refine t_no 171 rfl rfl rfl rfl rfl ?_
                            refine t_no 171 rfl rfl rfl rfl rfl ?_
                            refine t_no 171 rfl rfl rfl rfl rfl ?_
                            refine t_no 171 rfl rfl rfl rfl rfl ?_
                            refine t_no 171 rfl rfl rfl rfl rfl ?_
                            refine t_no 171 rfl rfl rfl rfl rfl ?_
                            refine t_no 171 rfl rfl rfl rfl rfl ?_
                            refine t_st rfl (st_pick_t rfl rfl) ?_
                            refine t_st rfl (st_move rfl) ?_
                            refine t_no 181 rfl rfl rfl rfl rfl ?_
                            refine t_no 181 rfl rfl rfl rfl rfl ?_
                            refine t_no 181 rfl rfl rfl rfl rfl ?_
                            refine t_no 181 rfl rfl rfl rfl rfl ?_
                            refine t_no 181 rfl rfl rfl rfl rfl ?_
                            refine t_no 181 rfl rfl rfl rfl rfl ?_
                            refine t_st rfl (st_pick_t rfl rfl) ?_
                            refine t_nil ?_
                            obtain rfl := some1 hm
                            refine x_pullb 2 rfl ?_
                            refine x_pullb 2 rfl ?_
                            exact x_join (e' := [(1, .slice A2 (l5).length c3), (3, .int .i64 (x1053)), (5, .pointer (some ⟨g556, 0, none⟩)), (11, .pointer (some ⟨g560, 0, none⟩)), (14, .int .i64 (x599)), (17, .int .i64 (x998)), (26, .pointer (some ⟨g1079, 0, none⟩)), (57, .slice (subA A8 c9 j617 3) (l615).length (c9 - j617)), (58, .int .i64 ((l615.length : Int))), (59, .int .i64 ((k980 : Int))), (188, .bool (true))]) (hp' := (g556, Cl 43 [.string (s1.Name), .int .i64 (s1.Length), .int .i64 (s1.Mass), .int .i64 (s1.Start), .int .i64 (s1.Power), .int .i64 (s1.Roll), .int .i64 (s1.Drag), .int .i64 (s1.Brake), .int .i64 (s1.Top), .int .i64 (s1.Seats)]) :: (g560, Cl 82 [.int .i64 (x977), .int .i64 (x978), .int .i64 (x979)]) :: (g1079, Cl 82 [.int .i64 (x1072), .int .i64 (x1073), .int .i64 (x1074)]) :: R) ⟨rfl, rfl, rfl, rfl, rfl, rfl, rfl, rfl, rfl, rfl, rfl, trivial⟩ (.cons_cons _ (.cons_cons _ (.cons_cons _ (.cons _ (.refl _))))) ⟨rfl, rfl, (Base.Le.refl _)⟩
                          ·
                            rw [if_neg hc1091] at hm
                            refine t_st rfl (st_pick_f rfl rfl) ?_
                            refine t_st rfl (st_move rfl) ?_
                            refine t_yes 164 rfl rfl rfl ?_
                            refine t_st rfl (st_field rfl fld82_0) ?_
                            refine t_yes 164 rfl rfl rfl ?_
                            refine t_st rfl (st_load 0 rfl one3 rfl rfl) ?_
                            refine t_yes 164 rfl rfl rfl ?_
                            refine t_st rfl (st_field rfl fld82_0) ?_
                            refine t_yes 164 rfl rfl rfl ?_
                            refine t_st rfl (st_load 2 rfl one3 rfl rfl) ?_
                            refine t_yes 164 rfl rfl rfl ?_
                            refine t_bool rfl (st_lss rfl rfl) (fun hc1092 => ?_) (fun hc1092 => ?_)
                            ·
                              rw [if_pos hc1092] at hm
                              refine t_st rfl (st_pick_f rfl rfl) ?_
                              refine t_st rfl (st_move rfl) ?_
                              refine t_no 171 rfl rfl rfl rfl rfl ?_
                              refine t_no 171 rfl rfl rfl rfl rfl ?_
                              refine t_no 171 rfl rfl rfl rfl rfl ?_
                              refine t_no 171 rfl rfl rfl rfl rfl ?_
                              refine t_no 171 rfl rfl rfl rfl rfl ?_
                              refine t_no 171 rfl rfl rfl rfl rfl ?_
                              refine t_no 171 rfl rfl rfl rfl rfl ?_
                              refine t_no 171 rfl rfl rfl rfl rfl ?_
                              refine t_st rfl (st_pick_t rfl rfl) ?_
                              refine t_st rfl (st_move rfl) ?_
                              refine t_no 181 rfl rfl rfl rfl rfl ?_
                              refine t_no 181 rfl rfl rfl rfl rfl ?_
                              refine t_no 181 rfl rfl rfl rfl rfl ?_
                              refine t_no 181 rfl rfl rfl rfl rfl ?_
                              refine t_no 181 rfl rfl rfl rfl rfl ?_
                              refine t_no 181 rfl rfl rfl rfl rfl ?_
                              refine t_st rfl (st_pick_t rfl rfl) ?_
                              refine t_nil ?_
                              obtain rfl := some1 hm
                              refine x_pullb 2 rfl ?_
                              refine x_pullb 2 rfl ?_
                              exact x_join (e' := [(1, .slice A2 (l5).length c3), (3, .int .i64 (x1053)), (5, .pointer (some ⟨g556, 0, none⟩)), (11, .pointer (some ⟨g560, 0, none⟩)), (14, .int .i64 (x599)), (17, .int .i64 (x998)), (26, .pointer (some ⟨g1079, 0, none⟩)), (57, .slice (subA A8 c9 j617 3) (l615).length (c9 - j617)), (58, .int .i64 ((l615.length : Int))), (59, .int .i64 ((k980 : Int))), (188, .bool (true))]) (hp' := (g556, Cl 43 [.string (s1.Name), .int .i64 (s1.Length), .int .i64 (s1.Mass), .int .i64 (s1.Start), .int .i64 (s1.Power), .int .i64 (s1.Roll), .int .i64 (s1.Drag), .int .i64 (s1.Brake), .int .i64 (s1.Top), .int .i64 (s1.Seats)]) :: (g560, Cl 82 [.int .i64 (x977), .int .i64 (x978), .int .i64 (x979)]) :: (g1079, Cl 82 [.int .i64 (x1072), .int .i64 (x1073), .int .i64 (x1074)]) :: R) ⟨rfl, rfl, rfl, rfl, rfl, rfl, rfl, rfl, rfl, rfl, rfl, trivial⟩ (.cons_cons _ (.cons_cons _ (.cons_cons _ (.cons _ (.refl _))))) ⟨rfl, rfl, (Base.Le.refl _)⟩
                            ·
                              rw [if_neg hc1092] at hm
                              refine t_st rfl (st_pick_f rfl rfl) ?_
                              refine t_st rfl (st_move rfl) ?_
                              refine t_yes 171 rfl rfl rfl ?_
                              refine t_st rfl (st_field rfl fld82_1) ?_
                              refine t_yes 171 rfl rfl rfl ?_
                              refine t_st rfl (st_load 0 rfl one3 rfl rfl) ?_
                              refine t_yes 171 rfl rfl rfl ?_
                              refine t_st rfl (st_field rfl fld99_0) ?_
                              refine t_yes 171 rfl rfl rfl ?_
                              refine t_st rfl (st_load 3 rfl one3 rfl rfl) ?_
                              refine t_yes 171 rfl rfl rfl ?_
                              refine t_st rfl (st_field rfl fld82_1) ?_
                              refine t_yes 171 rfl rfl rfl ?_
                              refine t_st rfl (st_load 2 rfl one3 rfl rfl) ?_
                              refine t_yes 171 rfl rfl rfl ?_
                              refine t_st rfl (st_max rfl rfl) ?_
                              refine t_yes 171 rfl rfl rfl ?_
                              refine t_bool rfl (st_gtr rfl rfl) (fun hc1093 => ?_) (fun hc1093 => ?_)
                              ·
                                rw [if_pos hc1093] at hm
                                refine t_st rfl (st_pick_f rfl rfl) ?_
                                refine t_st rfl (st_move rfl) ?_
                                refine t_no 181 rfl rfl rfl rfl rfl ?_
                                refine t_no 181 rfl rfl rfl rfl rfl ?_
                                refine t_no 181 rfl rfl rfl rfl rfl ?_
                                refine t_no 181 rfl rfl rfl rfl rfl ?_
                                refine t_no 181 rfl rfl rfl rfl rfl ?_
                                refine t_no 181 rfl rfl rfl rfl rfl ?_
                                refine t_st rfl (st_pick_t rfl rfl) ?_
                                refine t_nil ?_
                                obtain rfl := some1 hm
                                refine x_pullb 2 rfl ?_
                                refine x_pullb 2 rfl ?_
                                exact x_join (e' := [(1, .slice A2 (l5).length c3), (3, .int .i64 (x1053)), (5, .pointer (some ⟨g556, 0, none⟩)), (11, .pointer (some ⟨g560, 0, none⟩)), (14, .int .i64 (x599)), (17, .int .i64 (x998)), (26, .pointer (some ⟨g1079, 0, none⟩)), (57, .slice (subA A8 c9 j617 3) (l615).length (c9 - j617)), (58, .int .i64 ((l615.length : Int))), (59, .int .i64 ((k980 : Int))), (188, .bool (true))]) (hp' := (g556, Cl 43 [.string (s1.Name), .int .i64 (s1.Length), .int .i64 (s1.Mass), .int .i64 (s1.Start), .int .i64 (s1.Power), .int .i64 (s1.Roll), .int .i64 (s1.Drag), .int .i64 (s1.Brake), .int .i64 (s1.Top), .int .i64 (s1.Seats)]) :: (g560, Cl 82 [.int .i64 (x977), .int .i64 (x978), .int .i64 (x979)]) :: (g1079, Cl 82 [.int .i64 (x1072), .int .i64 (x1073), .int .i64 (x1074)]) :: R) ⟨rfl, rfl, rfl, rfl, rfl, rfl, rfl, rfl, rfl, rfl, rfl, trivial⟩ (.cons_cons _ (.cons_cons _ (.cons_cons _ (.cons _ (.refl _))))) ⟨rfl, rfl, (Base.Le.refl _)⟩
                              ·
                                rw [if_neg hc1093] at hm
                                refine t_st rfl (st_pick_f rfl rfl) ?_
                                refine t_st rfl (st_move rfl) ?_
                                refine t_yes 181 rfl rfl rfl ?_
                                refine t_st rfl (st_loadD (vs := [_, _, _, _, _, _, _, _, _, _]) 1 10 rfl agg43 rfl rfl rfl) ?_
                                refine t_yes 181 rfl rfl rfl ?_
                                refine t_st rfl (st_move rfl) ?_
                                refine t_yes 181 rfl rfl rfl ?_
                                refine t_st rfl (st_loadD (vs := [_, _, _]) 2 3 rfl agg82 rfl rfl rfl) ?_
                                refine t_yes 181 rfl rfl rfl ?_
                                refine t_st rfl (st_loadD (vs := [_, _, _]) 0 3 rfl agg82 rfl rfl rfl) ?_
                                refine t_yes 181 rfl rfl rfl ?_
                                obtain ⟨x1094, hcl1095, hm⟩ := bindS hm
                                refine t_do rfl (u_callW0 _ call47 rfl (fun w ho => cFishkeep1LimitsKept _ [] s1 l5 (⟨x977, x978, x979⟩ : ApiState) (⟨x1072, x1073, x1074⟩ : ApiState) A2 c3 ((h4.le (hle567.trans (hle598.trans (hle974.trans (hle997.trans (hle1009.trans (hle1052.trans (hle1066.trans hle1078)))))))).old ho) x1094 hcl1095) (fun _ _ _ h => h.2.symm)) ?_
                                rintro _ _ ⟨⟨_, rfl, _⟩, rfl⟩
                                refine t_yes 181 rfl rfl rfl ?_
                                refine t_st rfl (st_not rfl) ?_
                                refine t_st rfl (st_pick_f rfl rfl) ?_
                                refine t_nil ?_
                                obtain rfl := some1 hm
                                refine x_pullb 2 rfl ?_
                                refine x_pullb 2 rfl ?_
                                exact x_join (e' := [(1, .slice A2 (l5).length c3), (3, .int .i64 (x1053)), (5, .pointer (some ⟨g556, 0, none⟩)), (11, .pointer (some ⟨g560, 0, none⟩)), (14, .int .i64 (x599)), (17, .int .i64 (x998)), (26, .pointer (some ⟨g1079, 0, none⟩)), (57, .slice (subA A8 c9 j617 3) (l615).length (c9 - j617)), (58, .int .i64 ((l615.length : Int))), (59, .int .i64 ((k980 : Int))), (188, .bool (!x1094))]) (hp' := (g556, Cl 43 [.string (s1.Name), .int .i64 (s1.Length), .int .i64 (s1.Mass), .int .i64 (s1.Start), .int .i64 (s1.Power), .int .i64 (s1.Roll), .int .i64 (s1.Drag), .int .i64 (s1.Brake), .int .i64 (s1.Top), .int .i64 (s1.Seats)]) :: (g560, Cl 82 [.int .i64 (x977), .int .i64 (x978), .int .i64 (x979)]) :: (g1079, Cl 82 [.int .i64 (x1072), .int .i64 (x1073), .int .i64 (x1074)]) :: R) ⟨rfl, rfl, rfl, rfl, rfl, rfl, rfl, rfl, rfl, rfl, rfl, trivial⟩ (.cons_cons _ (.cons_cons _ (.cons_cons _ (.cons _ (.refl _))))) ⟨rfl, rfl, (Base.Le.refl _)⟩
                      ·
                        rintro b1086 _ _ ⟨rfl, rfl, hle1087⟩
                        have hm := hk1089
                        refine c_cond _ rfl (fun hc1096 => ?_) (fun hc1096 => ?_)
                        ·
                          rw [if_pos hc1096] at hm
                          refine c_seq ?_
                          refine c_region ?_
                          refine t_st rfl (st_assign rfl) ?_
                          refine t_nil ?_
                          refine x_then_normal ?_
                          refine c_ret ?_
                          refine x_then_ret ?_
                          refine x_block_ret ?_
                          refine x_then_ret ?_
                          refine x_then_ret ?_
                          refine x_block_ret ?_
                          refine x_then_ret ?_
                          have hq1097 := houtL630 _ (Option.some.inj hm).symm
                          rw [hq1097] at hk983
                          have hm := elimR hk983
                          obtain rfl := some1 hm
                          exact retM (rs := [.tmp 10]) [.bool (false)] (hle567.trans (hle598.trans (hle974.trans (hle997.trans (hle1009.trans (hle1052.trans (hle1066.trans (hle1078.trans hle1087)))))))) (by decide) rfl ⟨rfl, trivial⟩ rfl (hp' := R) (.cons _ (.cons _ (.cons _ (.refl _)))) ⟨rfl, rfl⟩
                        ·
                          rw [if_neg (fun hh => Bool.noConfusion (hh.symm.trans hc1096))] at hm
                          refine c_skip ?_
                          refine x_then_normal ?_
                          refine c_region ?_
                          refine t_st rfl (st_loadD (vs := [_, _, _]) 2 3 rfl agg82 rfl rfl rfl) ?_
                          refine t_do rfl (u_storeN (vs := [_, _, _]) 1 3 rfl rfl rfl siz82 rfl (by intro u hu; simp only [List.mem_cons, List.not_mem_nil, or_false] at hu; rcases hu with rfl | rfl | rfl <;> rfl) rfl (by simp)) ?_
                          rintro _ _ rfl
                          refine t_nil ?_
                          refine x_block_normal ?_
                          refine x_then_normal ?_
                          refine c_region ?_
                          refine t_st rfl (st_add rfl rfl (by omega)) ?_
                          refine t_st rfl (st_move rfl) ?_
                          refine t_nil ?_
                          refine x_pullb 1 rfl ?_
                          refine x_pullb 1 rfl ?_
                          exact x_againM (x1053, x998, x1072, x1073, x1074) (Option.some.inj hm).symm (e' := [(1, .slice A2 (l5).length c3), (3, .int .i64 (x1053)), (5, .pointer (some ⟨g556, 0, none⟩)), (11, .pointer (some ⟨g560, 0, none⟩)), (14, .int .i64 (x599)), (17, .int .i64 (x998)), (57, .slice (subA A8 c9 j617 3) (l615).length (c9 - j617)), (58, .int .i64 ((l615.length : Int))), (59, .int .i64 ((k980 : Int) + 1))]) (hp' := (g556, Cl 43 [.string (s1.Name), .int .i64 (s1.Length), .int .i64 (s1.Mass), .int .i64 (s1.Start), .int .i64 (s1.Power), .int .i64 (s1.Roll), .int .i64 (s1.Drag), .int .i64 (s1.Brake), .int .i64 (s1.Top), .int .i64 (s1.Seats)]) :: (g560, Cl 82 [.int .i64 (x1072), .int .i64 (x1073), .int .i64 (x1074)]) :: R) ⟨rfl, rfl, rfl, rfl, rfl, rfl, rfl, rfl, rfl, trivial⟩ (.cons_cons _ (.cons_cons _ (.cons _ (.refl _)))) ⟨rfl, rfl, ((hle974.trans (hle997.trans (hle1009.trans (hle1052.trans (hle1066.trans (hle1078.trans hle1087)))))))⟩
        ·
          rintro ⟨x975, x976, x977, x978, x979⟩ b973 _ _ ⟨rfl, rfl, hle974⟩ hq1098
          rw [hq1098] at hk983
          have hm := elimL hk983
          have hm := (unc5E hm)
          refine c_seq ?_
          refine c_region ?_
          refine t_st rfl (st_lss_f rfl rfl (by omega)) ?_
          refine t_nil ?_
          refine x_then_normal ?_
          refine c_seq ?_
          refine c_cond_f rfl ?_
          refine c_exit ?_
          refine x_then_exit ?_
          refine x_then_exit ?_
          refine x_block_out ?_
          refine x_then_normal ?_
          refine c_seq ?_
          refine c_region ?_
          refine t_st rfl (st_assign rfl) ?_
          refine t_nil ?_
          refine x_then_normal ?_
          refine c_ret ?_
          obtain rfl := some1 hm
          exact retM (rs := [.tmp 10]) [.bool (true)] (hle567.trans (hle598.trans hle974)) (by decide) rfl ⟨rfl, trivial⟩ rfl (hp' := R) (.cons _ (.cons _ (.refl _))) ⟨rfl, rfl⟩

end Go.Proofs.YtljcafilceachaaDoor
