/- Contracts: the code computes its model (part 3). -/
import Derived.Test.YtljcafilceachaaDoorP2
set_option linter.unusedVariables false
set_option linter.unusedSimpArgs false
namespace Go.Proofs.YtljcafilceachaaDoor
open Go.RowKit Go.Fp

set_option maxRecDepth 20000 in
theorem cFishkeep1RunApart (b : Base) (R : Hp) (l4 : (List ApiHold)) (l8 : (List ApiHold)) (x9 : Int) (A1 : Option Addr) (c2 : Nat) (A5 : Option Addr) (c6 : Nat) (h3 : FZ rApiHold b.w A1 c2 l4) (h7 : FZ rApiHold b.w A5 c6 l8) (x340 : Bool) (hm : mFishkeep1RunApart l4 l8 x9 = some x340) :
    CallsG Tryd.prog 6 [.slice A1 (l4).length c2, .slice A5 (l8).length c6, .int .i64 (x9)] b (R) (fun v b' hp' => .bool (x340) = v ∧ R = hp') := by
  refine fn_enterG 110 Tryd.func6 rfl Tryd.ntmps6 rfl ?_
  unfold mFishkeep1RunApart at hm
  refine c_seq ?_
  refine c_region ?_
  refine t_st rfl (st_assign rfl) ?_
  refine t_nil ?_
  refine x_then_normal ?_
  refine c_seq ?_
  refine c_seq ?_
  refine c_region ?_
  obtain ⟨x341, hcl342, hm⟩ := bindS hm
  refine t_do rfl (u_callW0 _ call21 rfl (fun w ho => cFishkeep1AwakeRun _ [] x341 hcl342) (fun _ _ _ h => h.2.symm)) ?_
  rintro _ _ ⟨⟨_, rfl, _⟩, rfl⟩
  refine t_st rfl (st_not rfl) ?_
  refine t_nil ?_
  refine x_then_normal ?_
  refine c_cond _ rfl (fun hc343 => ?_) (fun hc343 => ?_)
  ·
    rw [if_neg (fun hh => Bool.noConfusion (hh.symm.trans (notT hc343)))] at hm
    refine c_seq ?_
    refine c_region ?_
    refine t_st rfl (st_assign rfl) ?_
    refine t_nil ?_
    refine x_then_normal ?_
    refine c_ret ?_
    refine x_then_ret ?_
    obtain rfl := some1 hm
    exact retM (rs := [.tmp 6]) [.bool (false)] (Base.Le.refl _) (by decide) rfl ⟨rfl, trivial⟩ rfl (hp' := R) (.refl _) ⟨rfl, rfl⟩
  ·
    rw [if_pos (notF hc343)] at hm
    refine c_skip ?_
    refine x_then_normal ?_
    refine c_seq ?_
    obtain ⟨x347, hj348, hk348⟩ := bindS hm
    refine c_join (fun b345 e' hp' => [(0, .slice A1 (l4).length c2), (1, .slice A5 (l8).length c6), (2, .int .i64 (x9)), (22, .bool (x347))] = e' ∧ R = hp' ∧ b.Le b345) ?_ ?_
    ·
      have hm := hj348
      refine c_region ?_
      refine t_st rfl (st_move rfl) ?_
      refine t_bool rfl (st_lss rfl rfl) (fun hc349 => ?_) (fun hc349 => ?_)
      ·
        rw [if_pos hc349] at hm
        refine t_st rfl (st_move rfl) ?_
        refine t_no 19 rfl rfl rfl rfl rfl ?_
        refine t_no 19 rfl rfl rfl rfl rfl ?_
        refine t_st rfl (st_pick_t rfl rfl) ?_
        refine t_nil ?_
        obtain rfl := some1 hm
        exact x_join (e' := [(0, .slice A1 (l4).length c2), (1, .slice A5 (l8).length c6), (2, .int .i64 (x9)), (22, .bool (true))]) (hp' := R) ⟨rfl, rfl, rfl, rfl, trivial⟩ (.refl _) ⟨rfl, rfl, (Base.Le.refl _)⟩
      ·
        rw [if_neg hc349] at hm
        refine t_st rfl (st_move rfl) ?_
        refine t_yes 19 rfl rfl rfl ?_
        refine t_st rfl (st_move rfl) ?_
        refine t_yes 19 rfl rfl rfl ?_
        refine t_st rfl (st_gtr rfl rfl) ?_
        refine t_st rfl (st_pick_f rfl rfl) ?_
        refine t_nil ?_
        obtain rfl := some1 hm
        exact x_join (e' := [(0, .slice A1 (l4).length c2), (1, .slice A5 (l8).length c6), (2, .int .i64 (x9)), (22, .bool (decide (1099511627776 < x9)))]) (hp' := R) ⟨rfl, rfl, rfl, rfl, trivial⟩ (.refl _) ⟨rfl, rfl, (Base.Le.refl _)⟩
    ·
      rintro b345 _ _ ⟨rfl, rfl, hle346⟩
      have hm := hk348
      refine c_cond _ rfl (fun hc350 => ?_) (fun hc350 => ?_)
      ·
        rw [if_pos hc350] at hm
        refine c_seq ?_
        refine c_region ?_
        refine t_st rfl (st_assign rfl) ?_
        refine t_nil ?_
        refine x_then_normal ?_
        refine c_ret ?_
        refine x_then_ret ?_
        obtain rfl := some1 hm
        exact retM (rs := [.tmp 6]) [.bool (true)] hle346 (by decide) rfl ⟨rfl, trivial⟩ rfl (hp' := R) (.refl _) ⟨rfl, rfl⟩
      ·
        rw [if_neg (fun hh => Bool.noConfusion (hh.symm.trans hc350))] at hm
        refine c_skip ?_
        refine x_then_normal ?_
        refine c_seq ?_
        refine c_seq ?_
        refine c_region ?_
        refine t_st rfl (st_move rfl) ?_
        refine t_st rfl (st_move rfl) ?_
        refine t_do rfl (u_bslice (el := 49) [(0, .slice A1 (l4).length c2), (1, .slice A5 (l8).length c6)] [.slice A1 (l4).length c2, .slice A5 (l8).length c6] rfl (fun _ => by kernel_rfl)) ?_
        rintro _ _ ⟨g351, rfl, rfl⟩
        refine t_st rfl (st_len rfl sl50) ?_
        refine t_st rfl (st_move rfl) ?_
        refine t_nil ?_
        refine x_then_normal ?_
        refine c_block ?_
        refine c_seg 0 [] R rfl rfl ?_
        have h354 : OS 49 (OT.fr (RT.list rApiHold)) b345.w (.slice (some ⟨g351, 0, none⟩) 2 2) [l4, l8] [(g351, Cl 49 [.slice A1 (l4).length c2, .slice A5 (l8).length c6])] := OS.lit [[.slice A1 (l4).length c2], [.slice A5 (l8).length c6]] rfl ⟨(RT.list_mk (h3.le hle346)), ⟨(RT.list_mk (h7.le hle346)), trivial⟩⟩ rfl (by decide)
        obtain ⟨t430, hl431, hk432⟩ := bindS hm
        refine c_forM (fun k429 => fun _ => fun b427 e' hp' => [(0, .slice A1 (l4).length c2), (1, .slice A5 (l8).length c6), (2, .int .i64 (x9)), (25, .slice (some ⟨g351, 0, none⟩) ([l4, l8]).length 2), (26, .int .i64 (2)), (27, .int .i64 ((k429 : Int)))] = e' ∧ ([(g351, Cl 49 [.slice A1 (l4).length c2, .slice A5 (l8).length c6])] ++ R) = hp' ∧ b345.Le b427) hl431 (e' := [(0, .slice A1 (l4).length c2), (1, .slice A5 (l8).length c6), (2, .int .i64 (x9)), (25, .slice (some ⟨g351, 0, none⟩) ([l4, l8]).length 2), (26, .int .i64 (2)), (27, .int .i64 0)]) (hp' := ([(g351, Cl 49 [.slice A1 (l4).length c2, .slice A5 (l8).length c6])] ++ R)) ⟨rfl, rfl, rfl, rfl, rfl, rfl, trivial⟩ (sub_app [(g351, Cl 49 [.slice A1 (l4).length c2, .slice A5 (l8).length c6])] (.refl _)) ⟨rfl, rfl, (Base.Le.refl _)⟩ ?_ ?_
        ·
          rintro k429 _ b427 _ _ oL352 hknL352 ⟨rfl, rfl, hle428⟩ hstepL352 houtL352
          unfold mFishkeep1RunApart_L352 at hstepL352
          have hm := hstepL352
          refine c_seq ?_
          refine c_region ?_
          refine t_st rfl (st_lss_t rfl rfl (by omega)) ?_
          refine t_nil ?_
          refine x_then_normal ?_
          refine c_seq ?_
          refine c_cond_t rfl ?_
          refine c_skip ?_
          refine x_then_normal ?_
          refine c_seq ?_
          refine c_block ?_
          refine c_seq ?_
          refine c_region ?_
          obtain ⟨x433, h434, hm⟩ := bindS hm
          obtain ⟨j435, hj436, hx437⟩ := idx_some h434
          obtain ⟨cs438, hs443, P444, P445, hq446, hr439, hcs440, hA441, hlt442, hb447, hho448⟩ := OS.get (sz := 1) rfl (by decide) (h354.le hle428) hx437
          obtain ⟨⟨A449, c450, rfl, h451⟩, rfl⟩ := hr439
          refine t_st rfl (st_index_old j435 rfl rfl hj436 hlt442 hA441 sl50) ?_
          refine t_st rfl (st_load_rd rfl one49 (fun w ho => hcs440 w _ ho (List.sublist_append_left _ _) 0 _ rfl)) ?_
          refine t_st rfl (st_assign rfl) ?_
          refine t_nil ?_
          refine x_then_normal ?_
          refine c_seq ?_
          refine c_region ?_
          refine t_st rfl (st_move rfl) ?_
          refine t_st rfl (st_len rfl sl49) ?_
          refine t_st rfl (st_move rfl) ?_
          refine t_nil ?_
          refine x_then_normal ?_
          refine c_block ?_
          have hb453 := (FZ.bd h451)
          obtain ⟨t479, hl480, hk481⟩ := bindS hm
          refine c_forM (fun k478 => fun _ => fun b476 e' hp' => [(0, .slice A1 (l4).length c2), (1, .slice A5 (l8).length c6), (2, .int .i64 (x9)), (25, .slice (some ⟨g351, 0, none⟩) ([l4, l8]).length 2), (26, .int .i64 (2)), (27, .int .i64 ((k429 : Int))), (31, .slice A449 (x433).length c450), (32, .int .i64 ((x433.length : Int))), (33, .int .i64 ((k478 : Int)))] = e' ∧ ([(g351, Cl 49 [.slice A1 (l4).length c2, .slice A5 (l8).length c6])] ++ R) = hp' ∧ b427.Le b476) hl480 (e' := [(0, .slice A1 (l4).length c2), (1, .slice A5 (l8).length c6), (2, .int .i64 (x9)), (25, .slice (some ⟨g351, 0, none⟩) ([l4, l8]).length 2), (26, .int .i64 (2)), (27, .int .i64 ((k429 : Int))), (31, .slice A449 (x433).length c450), (32, .int .i64 ((x433.length : Int))), (33, .int .i64 0)]) (hp' := ([(g351, Cl 49 [.slice A1 (l4).length c2, .slice A5 (l8).length c6])] ++ R)) ⟨rfl, rfl, rfl, rfl, rfl, rfl, rfl, rfl, rfl, trivial⟩ (sub_app [(g351, Cl 49 [.slice A1 (l4).length c2, .slice A5 (l8).length c6])] (.refl _)) ⟨rfl, rfl, (Base.Le.refl _)⟩ ?_ ?_
          ·
            rintro k478 _ b476 _ _ oL452 hknL452 ⟨rfl, rfl, hle477⟩ hstepL452 houtL452
            unfold mFishkeep1RunApart_L452 at hstepL452
            have hm := hstepL452
            refine c_seq ?_
            refine c_region ?_
            refine t_st rfl (st_lss_t rfl rfl (by omega)) ?_
            refine t_nil ?_
            refine x_then_normal ?_
            refine c_seq ?_
            refine c_cond_t rfl ?_
            refine c_skip ?_
            refine x_then_normal ?_
            refine c_seq ?_
            refine c_block ?_
            refine c_seq ?_
            refine c_region ?_
            obtain ⟨x482, h483, hm⟩ := bindS hm
            obtain ⟨j484, hj485, hx486⟩ := idx_some h483
            obtain ⟨cs487, hr488, hcs489, hA490, hlt491⟩ := FZ.get (sz := 6) rfl (by decide) (h451.le hle477) hx486
            obtain ⟨_, _, rfl, ⟨_, _, rfl, rfl, ⟨_, _, rfl, rfl, ⟨_, _, rfl, rfl, rfl⟩⟩⟩, ⟨_, _, rfl, rfl, rfl⟩⟩ := hr488
            refine t_st rfl (st_index_old j484 rfl rfl hj485 hlt491 hA490 sl49) ?_
            refine t_st rfl (st_loadN_old (vs := [.int .i64 (x482.Need.Kind), .int .i64 (x482.Need.Place), .int .i64 (x482.Need.Position), .int .i64 (x482.Need.At), .int .i64 (x482.From), .int .i64 (x482.To)]) 6 rfl agg54 hA490 rfl (fun j u hu => hcs489 j u hu)) ?_
            refine t_do rfl (u_alloc [.int .i64 0, .int .i64 0, .int .i64 0, .int .i64 0, .int .i64 0, .int .i64 0] zero54 rfl) ?_
            rintro _ _ ⟨g492, rfl, rfl⟩
            refine t_do rfl (u_storeN (vs := [_, _, _, _, _, _]) 0 6 rfl rfl rfl siz54 rfl (by intro u hu; simp only [List.mem_cons, List.not_mem_nil, or_false] at hu; rcases hu with rfl | rfl | rfl | rfl | rfl | rfl <;> rfl) rfl (by simp)) ?_
            rintro _ _ rfl
            refine t_nil ?_
            refine x_then_normal ?_
            obtain ⟨x498, hj499, hk499⟩ := bindS hm
            refine c_join (fun b496 e' hp' => [(0, .slice A1 (l4).length c2), (1, .slice A5 (l8).length c6), (2, .int .i64 (x9)), (25, .slice (some ⟨g351, 0, none⟩) ([l4, l8]).length 2), (26, .int .i64 (2)), (27, .int .i64 ((k429 : Int))), (31, .slice A449 (x433).length c450), (32, .int .i64 ((x433.length : Int))), (33, .int .i64 ((k478 : Int))), (54, .bool (x498))] = e' ∧ ([(g351, Cl 49 [.slice A1 (l4).length c2, .slice A5 (l8).length c6])] ++ R) = hp' ∧ b476.Le b496) ?_ ?_
            ·
              have hm := hj499
              refine c_region ?_
              refine t_st rfl (st_field rfl fld54_1) ?_
              refine t_st rfl (st_load 0 rfl one3 rfl rfl) ?_
              refine t_bool rfl (st_lss rfl rfl) (fun hc500 => ?_) (fun hc500 => ?_)
              ·
                rw [if_pos hc500] at hm
                refine t_st rfl (st_move rfl) ?_
                refine t_no 40 rfl rfl rfl rfl rfl ?_
                refine t_no 40 rfl rfl rfl rfl rfl ?_
                refine t_no 40 rfl rfl rfl rfl rfl ?_
                refine t_st rfl (st_pick_t rfl rfl) ?_
                refine t_st rfl (st_move rfl) ?_
                refine t_no 45 rfl rfl rfl rfl rfl ?_
                refine t_no 45 rfl rfl rfl rfl rfl ?_
                refine t_no 45 rfl rfl rfl rfl rfl ?_
                refine t_st rfl (st_pick_t rfl rfl) ?_
                refine t_st rfl (st_move rfl) ?_
                refine t_no 50 rfl rfl rfl rfl rfl ?_
                refine t_no 50 rfl rfl rfl rfl rfl ?_
                refine t_no 50 rfl rfl rfl rfl rfl ?_
                refine t_st rfl (st_pick_t rfl rfl) ?_
                refine t_nil ?_
                obtain rfl := some1 hm
                exact x_join (e' := [(0, .slice A1 (l4).length c2), (1, .slice A5 (l8).length c6), (2, .int .i64 (x9)), (25, .slice (some ⟨g351, 0, none⟩) ([l4, l8]).length 2), (26, .int .i64 (2)), (27, .int .i64 ((k429 : Int))), (31, .slice A449 (x433).length c450), (32, .int .i64 ((x433.length : Int))), (33, .int .i64 ((k478 : Int))), (54, .bool (true))]) (hp' := ([(g351, Cl 49 [.slice A1 (l4).length c2, .slice A5 (l8).length c6])] ++ R)) ⟨rfl, rfl, rfl, rfl, rfl, rfl, rfl, rfl, rfl, rfl, trivial⟩ (.cons _ (sub_app [(g351, Cl 49 [.slice A1 (l4).length c2, .slice A5 (l8).length c6])] (.refl _))) ⟨rfl, rfl, (Base.Le.refl _)⟩
              ·
                rw [if_neg hc500] at hm
                refine t_st rfl (st_move rfl) ?_
                refine t_yes 40 rfl rfl rfl ?_
                refine t_st rfl (st_field rfl fld54_1) ?_
                refine t_yes 40 rfl rfl rfl ?_
                refine t_st rfl (st_load 0 rfl one3 rfl rfl) ?_
                refine t_yes 40 rfl rfl rfl ?_
                refine t_bool rfl (st_gtr rfl rfl) (fun hc501 => ?_) (fun hc501 => ?_)
                ·
                  rw [if_pos hc501] at hm
                  refine t_st rfl (st_pick_f rfl rfl) ?_
                  refine t_st rfl (st_move rfl) ?_
                  refine t_no 45 rfl rfl rfl rfl rfl ?_
                  refine t_no 45 rfl rfl rfl rfl rfl ?_
                  refine t_no 45 rfl rfl rfl rfl rfl ?_
                  refine t_st rfl (st_pick_t rfl rfl) ?_
                  refine t_st rfl (st_move rfl) ?_
                  refine t_no 50 rfl rfl rfl rfl rfl ?_
                  refine t_no 50 rfl rfl rfl rfl rfl ?_
                  refine t_no 50 rfl rfl rfl rfl rfl ?_
                  refine t_st rfl (st_pick_t rfl rfl) ?_
                  refine t_nil ?_
                  obtain rfl := some1 hm
                  exact x_join (e' := [(0, .slice A1 (l4).length c2), (1, .slice A5 (l8).length c6), (2, .int .i64 (x9)), (25, .slice (some ⟨g351, 0, none⟩) ([l4, l8]).length 2), (26, .int .i64 (2)), (27, .int .i64 ((k429 : Int))), (31, .slice A449 (x433).length c450), (32, .int .i64 ((x433.length : Int))), (33, .int .i64 ((k478 : Int))), (54, .bool (true))]) (hp' := ([(g351, Cl 49 [.slice A1 (l4).length c2, .slice A5 (l8).length c6])] ++ R)) ⟨rfl, rfl, rfl, rfl, rfl, rfl, rfl, rfl, rfl, rfl, trivial⟩ (.cons _ (sub_app [(g351, Cl 49 [.slice A1 (l4).length c2, .slice A5 (l8).length c6])] (.refl _))) ⟨rfl, rfl, (Base.Le.refl _)⟩
                ·
                  rw [if_neg hc501] at hm
                  refine t_st rfl (st_pick_f rfl rfl) ?_
                  refine t_st rfl (st_move rfl) ?_
                  refine t_yes 45 rfl rfl rfl ?_
                  refine t_st rfl (st_field rfl fld54_2) ?_
                  refine t_yes 45 rfl rfl rfl ?_
                  refine t_st rfl (st_load 0 rfl one3 rfl rfl) ?_
                  refine t_yes 45 rfl rfl rfl ?_
                  refine t_bool rfl (st_lss rfl rfl) (fun hc502 => ?_) (fun hc502 => ?_)
                  ·
                    rw [if_pos hc502] at hm
                    refine t_st rfl (st_pick_f rfl rfl) ?_
                    refine t_st rfl (st_move rfl) ?_
                    refine t_no 50 rfl rfl rfl rfl rfl ?_
                    refine t_no 50 rfl rfl rfl rfl rfl ?_
                    refine t_no 50 rfl rfl rfl rfl rfl ?_
                    refine t_st rfl (st_pick_t rfl rfl) ?_
                    refine t_nil ?_
                    obtain rfl := some1 hm
                    exact x_join (e' := [(0, .slice A1 (l4).length c2), (1, .slice A5 (l8).length c6), (2, .int .i64 (x9)), (25, .slice (some ⟨g351, 0, none⟩) ([l4, l8]).length 2), (26, .int .i64 (2)), (27, .int .i64 ((k429 : Int))), (31, .slice A449 (x433).length c450), (32, .int .i64 ((x433.length : Int))), (33, .int .i64 ((k478 : Int))), (54, .bool (true))]) (hp' := ([(g351, Cl 49 [.slice A1 (l4).length c2, .slice A5 (l8).length c6])] ++ R)) ⟨rfl, rfl, rfl, rfl, rfl, rfl, rfl, rfl, rfl, rfl, trivial⟩ (.cons _ (sub_app [(g351, Cl 49 [.slice A1 (l4).length c2, .slice A5 (l8).length c6])] (.refl _))) ⟨rfl, rfl, (Base.Le.refl _)⟩
                  ·
                    rw [if_neg hc502] at hm
                    refine t_st rfl (st_pick_f rfl rfl) ?_
                    refine t_st rfl (st_move rfl) ?_
                    refine t_yes 50 rfl rfl rfl ?_
                    refine t_st rfl (st_field rfl fld54_2) ?_
                    refine t_yes 50 rfl rfl rfl ?_
                    refine t_st rfl (st_load 0 rfl one3 rfl rfl) ?_
                    refine t_yes 50 rfl rfl rfl ?_
                    refine t_st rfl (st_gtr rfl rfl) ?_
                    refine t_st rfl (st_pick_f rfl rfl) ?_
                    refine t_nil ?_
                    obtain rfl := some1 hm
                    exact x_join (e' := [(0, .slice A1 (l4).length c2), (1, .slice A5 (l8).length c6), (2, .int .i64 (x9)), (25, .slice (some ⟨g351, 0, none⟩) ([l4, l8]).length 2), (26, .int .i64 (2)), (27, .int .i64 ((k429 : Int))), (31, .slice A449 (x433).length c450), (32, .int .i64 ((x433.length : Int))), (33, .int .i64 ((k478 : Int))), (54, .bool (decide (1099511627776 < x482.To)))]) (hp' := ([(g351, Cl 49 [.slice A1 (l4).length c2, .slice A5 (l8).length c6])] ++ R)) ⟨rfl, rfl, rfl, rfl, rfl, rfl, rfl, rfl, rfl, rfl, trivial⟩ (.cons _ (sub_app [(g351, Cl 49 [.slice A1 (l4).length c2, .slice A5 (l8).length c6])] (.refl _))) ⟨rfl, rfl, (Base.Le.refl _)⟩
            ·
              rintro b496 _ _ ⟨rfl, rfl, hle497⟩
              have hm := hk499
              refine c_cond _ rfl (fun hc503 => ?_) (fun hc503 => ?_)
              ·
                rw [if_pos hc503] at hm
                refine c_seq ?_
                refine c_region ?_
                refine t_st rfl (st_assign rfl) ?_
                refine t_nil ?_
                refine x_then_normal ?_
                refine c_ret ?_
                refine x_block_ret ?_
                refine x_then_ret ?_
                refine x_then_ret ?_
                refine x_block_ret ?_
                refine x_block_ret ?_
                refine x_then_ret ?_
                refine x_then_ret ?_
                refine x_block_ret ?_
                refine x_then_ret ?_
                have hq504 := houtL452 _ (Option.some.inj hm).symm
                rw [hq504] at hk481
                have hm := elimR hk481
                have hq505 := houtL352 _ (Option.some.inj hm).symm
                rw [hq505] at hk432
                have hm := elimR hk432
                obtain rfl := some1 hm
                exact retM (rs := [.tmp 6]) [.bool (true)] (hle346.trans (hle428.trans (hle477.trans hle497))) (by decide) rfl ⟨rfl, trivial⟩ rfl (hp' := R) (sub_skip [(g351, Cl 49 [.slice A1 (l4).length c2, .slice A5 (l8).length c6])] (.refl _)) ⟨rfl, rfl⟩
              ·
                rw [if_neg (fun hh => Bool.noConfusion (hh.symm.trans hc503))] at hm
                refine c_skip ?_
                refine x_block_normal ?_
                refine x_then_normal ?_
                refine c_region ?_
                refine t_st rfl (st_add rfl rfl (by omega)) ?_
                refine t_st rfl (st_move rfl) ?_
                refine t_nil ?_
                exact x_againM () (Option.some.inj hm).symm (e' := [(0, .slice A1 (l4).length c2), (1, .slice A5 (l8).length c6), (2, .int .i64 (x9)), (25, .slice (some ⟨g351, 0, none⟩) ([l4, l8]).length 2), (26, .int .i64 (2)), (27, .int .i64 ((k429 : Int))), (31, .slice A449 (x433).length c450), (32, .int .i64 ((x433.length : Int))), (33, .int .i64 ((k478 : Int) + 1))]) (hp' := ([(g351, Cl 49 [.slice A1 (l4).length c2, .slice A5 (l8).length c6])] ++ R)) ⟨rfl, rfl, rfl, rfl, rfl, rfl, rfl, rfl, rfl, trivial⟩ (sub_app [(g351, Cl 49 [.slice A1 (l4).length c2, .slice A5 (l8).length c6])] (.refl _)) ⟨rfl, rfl, ((hle477.trans hle497))⟩
          ·
            rintro _ b476 _ _ ⟨rfl, rfl, hle477⟩ hq506
            rw [hq506] at hk481
            have hm := elimL hk481
            refine c_seq ?_
            refine c_region ?_
            refine t_st rfl (st_lss_f rfl rfl (by omega)) ?_
            refine t_nil ?_
            refine x_then_normal ?_
            refine c_seq ?_
            refine c_cond_f rfl ?_
            refine c_exit ?_
            refine x_then_exit ?_
            refine x_then_exit ?_
            refine x_block_out ?_
            refine x_block_normal ?_
            refine x_then_normal ?_
            refine c_region ?_
            refine t_st rfl (st_add rfl rfl (by omega)) ?_
            refine t_st rfl (st_move rfl) ?_
            refine t_nil ?_
            exact x_againM () (Option.some.inj hm).symm (e' := [(0, .slice A1 (l4).length c2), (1, .slice A5 (l8).length c6), (2, .int .i64 (x9)), (25, .slice (some ⟨g351, 0, none⟩) ([l4, l8]).length 2), (26, .int .i64 (2)), (27, .int .i64 ((k429 : Int) + 1))]) (hp' := ([(g351, Cl 49 [.slice A1 (l4).length c2, .slice A5 (l8).length c6])] ++ R)) ⟨rfl, rfl, rfl, rfl, rfl, rfl, trivial⟩ (sub_app [(g351, Cl 49 [.slice A1 (l4).length c2, .slice A5 (l8).length c6])] (.refl _)) ⟨rfl, rfl, ((hle428.trans hle477))⟩
        ·
          rintro _ b427 _ _ ⟨rfl, rfl, hle428⟩ hq507
          rw [hq507] at hk432
          have hm := elimL hk432
          refine c_seq ?_
          refine c_region ?_
          refine t_st rfl (st_lss_f rfl rfl (by omega)) ?_
          refine t_nil ?_
          refine x_then_normal ?_
          refine c_seq ?_
          refine c_cond_f rfl ?_
          refine c_exit ?_
          refine x_then_exit ?_
          refine x_then_exit ?_
          refine x_block_out ?_
          refine x_then_normal ?_
          refine c_seq ?_
          refine c_region ?_
          refine t_st rfl (st_move rfl) ?_
          refine t_st rfl (st_move rfl) ?_
          obtain ⟨x508, hcl509, hm⟩ := bindS hm
          refine t_do rfl (u_callW0 _ call25 rfl (fun w ho => cRunHeadway _ [] l4 l8 A1 c2 A5 c6 ((h3.le (hle346.trans hle428)).old ho) ((h7.le (hle346.trans hle428)).old ho) x508 hcl509) (fun _ _ _ h => h.2.symm)) ?_
          rintro _ _ ⟨⟨_, rfl, _⟩, rfl⟩
          refine t_st rfl (st_assign rfl) ?_
          refine t_nil ?_
          refine x_then_normal ?_
          refine c_seq ?_
          refine c_region ?_
          refine t_st rfl (st_assign rfl) ?_
          refine t_nil ?_
          refine x_then_normal ?_
          refine c_seq ?_
          refine c_seq ?_
          refine c_region ?_
          refine t_st rfl (st_move rfl) ?_
          refine t_st rfl (st_len rfl sl49) ?_
          refine t_st rfl (st_move rfl) ?_
          refine t_nil ?_
          refine x_then_normal ?_
          refine c_block ?_
          have hb511 := (FZ.bd (h7.le (hle346.trans hle428)))
          obtain ⟨t600, hl601, hk602⟩ := bindS hm
          refine c_forM (fun k599 => fun l598 => fun b591 e' hp' => ∃ (A595 : Option Addr), ∃ (c596 : Nat), ∃ (hs594 : Hp), [(0, .slice A1 (l4).length c2), (2, .int .i64 (x9)), (11, .int .i64 (x508)), (12, .slice A595 (l598).length c596), (60, .slice A5 (l8).length c6), (61, .int .i64 ((l8.length : Int))), (62, .int .i64 ((k599 : Int)))] = e' ∧ (hs594 ++ R) = hp' ∧ b427.Le b591 ∧ OS 54 (OT.fr rApiHold) b591.w (.slice A595 l598.length c596) l598 hs594) hl601 (e' := [(0, .slice A1 (l4).length c2), (2, .int .i64 (x9)), (11, .int .i64 (x508)), (12, .slice none 0 0), (60, .slice A5 (l8).length c6), (61, .int .i64 ((l8.length : Int))), (62, .int .i64 0)]) (hp' := ([] ++ R)) ⟨rfl, rfl, rfl, rfl, rfl, rfl, rfl, trivial⟩ (sub_skip [(g351, Cl 49 [.slice A1 (l4).length c2, .slice A5 (l8).length c6])] (.refl _)) ⟨none, 0, [], rfl, rfl, (Base.Le.refl _), OS.nil⟩ ?_ ?_
          ·
            rintro k599 l598 b591 _ _ oL510 hknL510 ⟨A595, c596, hs594, rfl, rfl, hle592, h597⟩ hstepL510 houtL510
            unfold mFishkeep1RunApart_L510 at hstepL510
            have hm := hstepL510
            refine c_seq ?_
            refine c_region ?_
            refine t_st rfl (st_lss_t rfl rfl (by omega)) ?_
            refine t_nil ?_
            refine x_then_normal ?_
            refine c_seq ?_
            refine c_cond_t rfl ?_
            refine c_skip ?_
            refine x_then_normal ?_
            refine c_seq ?_
            refine c_block ?_
            refine c_seq ?_
            refine c_region ?_
            obtain ⟨x603, h604, hm⟩ := bindS hm
            obtain ⟨j605, hj606, hx607⟩ := idx_some h604
            obtain ⟨cs608, hr609, hcs610, hA611, hlt612⟩ := FZ.get (sz := 6) rfl (by decide) (h7.le (hle346.trans (hle428.trans hle592))) hx607
            obtain ⟨_, _, rfl, ⟨_, _, rfl, rfl, ⟨_, _, rfl, rfl, ⟨_, _, rfl, rfl, rfl⟩⟩⟩, ⟨_, _, rfl, rfl, rfl⟩⟩ := hr609
            refine t_st rfl (st_index_old j605 rfl rfl hj606 hlt612 hA611 sl49) ?_
            refine t_st rfl (st_loadN_old (vs := [.int .i64 (x603.Need.Kind), .int .i64 (x603.Need.Place), .int .i64 (x603.Need.Position), .int .i64 (x603.Need.At), .int .i64 (x603.From), .int .i64 (x603.To)]) 6 rfl agg54 hA611 rfl (fun j u hu => hcs610 j u hu)) ?_
            refine t_do rfl (u_alloc [.int .i64 0, .int .i64 0, .int .i64 0, .int .i64 0, .int .i64 0, .int .i64 0] zero54 rfl) ?_
            rintro _ _ ⟨g613, rfl, rfl⟩
            refine t_do rfl (u_storeN (vs := [_, _, _, _, _, _]) 0 6 rfl rfl rfl siz54 rfl (by intro u hu; simp only [List.mem_cons, List.not_mem_nil, or_false] at hu; rcases hu with rfl | rfl | rfl | rfl | rfl | rfl <;> rfl) rfl (by simp)) ?_
            rintro _ _ rfl
            refine t_nil ?_
            refine x_then_normal ?_
            refine c_seq ?_
            obtain ⟨x621, hj622, hk622⟩ := bindS hm
            refine c_join (fun b619 e' hp' => [(0, .slice A1 (l4).length c2), (2, .int .i64 (x9)), (11, .int .i64 (x508)), (12, .slice A595 (l598).length c596), (14, .pointer (some ⟨g613, 0, none⟩)), (60, .slice A5 (l8).length c6), (61, .int .i64 ((l8.length : Int))), (62, .int .i64 ((k599 : Int))), (81, .bool (x621))] = e' ∧ (g613, Cl 54 [.int .i64 (x603.Need.Kind), .int .i64 (x603.Need.Place), .int .i64 (x603.Need.Position), .int .i64 (x603.Need.At), .int .i64 (x603.From), .int .i64 (x603.To)]) :: (hs594 ++ R) = hp' ∧ b591.Le b619) ?_ ?_
            ·
              have hm := hj622
              refine c_region ?_
              refine t_st rfl (st_field rfl fld54_1) ?_
              refine t_st rfl (st_load 0 rfl one3 rfl rfl) ?_
              refine t_st rfl (st_move rfl) ?_
              obtain ⟨_, h623, hm⟩ := bindS hm
              have h623 := (chk_some h623).2
              refine t_st rfl (st_add rfl rfl h623) ?_
              refine t_st rfl (st_move rfl) ?_
              obtain ⟨_, h624, hm⟩ := bindS hm
              have h624 := (chk_some h624).2
              refine t_st rfl (st_add rfl rfl h624) ?_
              refine t_bool rfl (st_gtr rfl rfl) (fun hc625 => ?_) (fun hc625 => ?_)
              ·
                rw [if_pos hc625] at hm
                refine t_st rfl (st_move rfl) ?_
                refine t_no 73 rfl rfl rfl rfl rfl ?_
                refine t_no 73 rfl rfl rfl rfl rfl ?_
                refine t_no 73 rfl rfl rfl rfl rfl ?_
                refine t_no 73 rfl rfl rfl rfl rfl ?_
                refine t_no 73 rfl rfl rfl rfl rfl ?_
                refine t_no 73 rfl rfl rfl rfl rfl ?_
                refine t_no 73 rfl rfl rfl rfl rfl ?_
                refine t_st rfl (st_pick_t rfl rfl) ?_
                refine t_nil ?_
                obtain rfl := some1 hm
                exact x_join (e' := [(0, .slice A1 (l4).length c2), (2, .int .i64 (x9)), (11, .int .i64 (x508)), (12, .slice A595 (l598).length c596), (14, .pointer (some ⟨g613, 0, none⟩)), (60, .slice A5 (l8).length c6), (61, .int .i64 ((l8.length : Int))), (62, .int .i64 ((k599 : Int))), (81, .bool (true))]) (hp' := (g613, Cl 54 [.int .i64 (x603.Need.Kind), .int .i64 (x603.Need.Place), .int .i64 (x603.Need.Position), .int .i64 (x603.Need.At), .int .i64 (x603.From), .int .i64 (x603.To)]) :: (hs594 ++ R)) ⟨rfl, rfl, rfl, rfl, rfl, rfl, rfl, rfl, rfl, trivial⟩ (.cons_cons _ (sub_app hs594 (.refl _))) ⟨rfl, rfl, (Base.Le.refl _)⟩
              ·
                rw [if_neg hc625] at hm
                refine t_st rfl (st_move rfl) ?_
                refine t_yes 73 rfl rfl rfl ?_
                refine t_st rfl (st_field rfl fld54_2) ?_
                refine t_yes 73 rfl rfl rfl ?_
                refine t_st rfl (st_load 0 rfl one3 rfl rfl) ?_
                refine t_yes 73 rfl rfl rfl ?_
                refine t_st rfl (st_move rfl) ?_
                refine t_yes 73 rfl rfl rfl ?_
                obtain ⟨_, h626, hm⟩ := bindS hm
                have h626 := (chk_some h626).2
                refine t_st rfl (st_add rfl rfl h626) ?_
                refine t_yes 73 rfl rfl rfl ?_
                refine t_st rfl (st_move rfl) ?_
                refine t_yes 73 rfl rfl rfl ?_
                obtain ⟨_, h627, hm⟩ := bindS hm
                have h627 := (chk_some h627).2
                refine t_st rfl (st_add rfl rfl h627) ?_
                refine t_yes 73 rfl rfl rfl ?_
                refine t_st rfl (st_gtr rfl rfl) ?_
                refine t_st rfl (st_pick_f rfl rfl) ?_
                refine t_nil ?_
                obtain rfl := some1 hm
                exact x_join (e' := [(0, .slice A1 (l4).length c2), (2, .int .i64 (x9)), (11, .int .i64 (x508)), (12, .slice A595 (l598).length c596), (14, .pointer (some ⟨g613, 0, none⟩)), (60, .slice A5 (l8).length c6), (61, .int .i64 ((l8.length : Int))), (62, .int .i64 ((k599 : Int))), (81, .bool (decide (1099511627776 < ((x603.To + x508) + x9))))]) (hp' := (g613, Cl 54 [.int .i64 (x603.Need.Kind), .int .i64 (x603.Need.Place), .int .i64 (x603.Need.Position), .int .i64 (x603.Need.At), .int .i64 (x603.From), .int .i64 (x603.To)]) :: (hs594 ++ R)) ⟨rfl, rfl, rfl, rfl, rfl, rfl, rfl, rfl, rfl, trivial⟩ (.cons_cons _ (sub_app hs594 (.refl _))) ⟨rfl, rfl, (Base.Le.refl _)⟩
            ·
              rintro b619 _ _ ⟨rfl, rfl, hle620⟩
              have hm := hk622
              refine c_cond _ rfl (fun hc628 => ?_) (fun hc628 => ?_)
              ·
                rw [if_pos hc628] at hm
                refine c_seq ?_
                refine c_region ?_
                refine t_st rfl (st_assign rfl) ?_
                refine t_nil ?_
                refine x_then_normal ?_
                refine c_ret ?_
                refine x_then_ret ?_
                refine x_block_ret ?_
                refine x_then_ret ?_
                refine x_then_ret ?_
                refine x_block_ret ?_
                refine x_then_ret ?_
                have hq629 := houtL510 _ (Option.some.inj hm).symm
                rw [hq629] at hk602
                have hm := elimR hk602
                obtain rfl := some1 hm
                exact retM (rs := [.tmp 6]) [.bool (true)] (hle346.trans (hle428.trans (hle592.trans hle620))) (by decide) rfl ⟨rfl, trivial⟩ rfl (hp' := R) (.cons _ (sub_skip hs594 (.refl _))) ⟨rfl, rfl⟩
              ·
                rw [if_neg (fun hh => Bool.noConfusion (hh.symm.trans hc628))] at hm
                refine c_skip ?_
                refine x_then_normal ?_
                refine c_region ?_
                refine t_st rfl (st_move rfl) ?_
                refine t_st rfl (st_field rfl fld54_0) ?_
                refine t_st rfl (st_loadD (vs := [_, _, _, _]) 0 4 rfl agg52 rfl rfl rfl) ?_
                refine t_st rfl (st_field rfl fld54_1) ?_
                refine t_st rfl (st_load 0 rfl one3 rfl rfl) ?_
                refine t_st rfl (st_move rfl) ?_
                obtain ⟨_, h630, hm⟩ := bindS hm
                have h630 := (chk_some h630).2
                refine t_st rfl (st_add rfl rfl h630) ?_
                refine t_st rfl (st_move rfl) ?_
                obtain ⟨_, h631, hm⟩ := bindS hm
                have h631 := (chk_some h631).2
                refine t_st rfl (st_add rfl rfl h631) ?_
                refine t_st rfl (st_field rfl fld54_2) ?_
                refine t_st rfl (st_load 0 rfl one3 rfl rfl) ?_
                refine t_st rfl (st_move rfl) ?_
                obtain ⟨_, h632, hm⟩ := bindS hm
                have h632 := (chk_some h632).2
                refine t_st rfl (st_add rfl rfl h632) ?_
                refine t_st rfl (st_move rfl) ?_
                obtain ⟨_, h633, hm⟩ := bindS hm
                have h633 := (chk_some h633).2
                refine t_st rfl (st_add rfl rfl h633) ?_
                refine t_st rfl (st_build (v := .agg #[.int .i64 (x603.Need.Kind), .int .i64 (x603.Need.Place), .int .i64 (x603.Need.Position), .int .i64 (x603.Need.At), .int .i64 ((x603.From + x508) + x9), .int .i64 ((x603.To + x508) + x9)]) [(0, .agg #[.int .i64 (x603.Need.Kind), .int .i64 (x603.Need.Place), .int .i64 (x603.Need.Position), .int .i64 (x603.Need.At)]), (1, .int .i64 ((x603.From + x508) + x9)), (2, .int .i64 ((x603.To + x508) + x9))] rfl (fun _ => by kernel_rfl)) ?_
                refine t_do rfl (u_bslice (el := 54) [(0, .agg #[.int .i64 (x603.Need.Kind), .int .i64 (x603.Need.Place), .int .i64 (x603.Need.Position), .int .i64 (x603.Need.At), .int .i64 ((x603.From + x508) + x9), .int .i64 ((x603.To + x508) + x9)])] [.int .i64 (x603.Need.Kind), .int .i64 (x603.Need.Place), .int .i64 (x603.Need.Position), .int .i64 (x603.Need.At), .int .i64 ((x603.From + x508) + x9), .int .i64 ((x603.To + x508) + x9)] rfl (fun _ => by kernel_rfl)) ?_
                rintro _ _ ⟨g634, rfl, rfl⟩
                obtain ⟨_, h635, hm⟩ := bindS hm
                have h635 := room_some h635
                refine t_do rfl (u_appOS (r := rApiHold) (l := l598) [_, _] R [[.int .i64 (x603.Need.Kind), .int .i64 (x603.Need.Place), .int .i64 (x603.Need.Position), .int .i64 (x603.Need.At), .int .i64 ((x603.From + x508) + x9), .int .i64 ((x603.To + x508) + x9)]] [(⟨x603.Need, (x603.From + x508) + x9, (x603.To + x508) + x9⟩ : ApiHold)] rfl (by decide) sl49 inf54 rfl rfl rfl rfl (h597.le hle620) rfl (fun w ho => Rd.own (i := 0) ho rfl) ⟨⟨[.int .i64 (x603.Need.Kind), .int .i64 (x603.Need.Place), .int .i64 (x603.Need.Position), .int .i64 (x603.Need.At)], _, rfl, ⟨[.int .i64 (x603.Need.Kind)], _, rfl, rfl, ⟨[.int .i64 (x603.Need.Place)], _, rfl, rfl, ⟨[.int .i64 (x603.Need.Position)], _, rfl, rfl, rfl⟩⟩⟩, ⟨[.int .i64 ((x603.From + x508) + x9)], _, rfl, rfl, rfl⟩⟩, trivial⟩ h635) ?_
                rintro _ _ ⟨hs636, rfl, h637⟩
                obtain ⟨A638, c639, rfl, _⟩ := h637.form
                refine t_st rfl (st_assign rfl) ?_
                refine t_nil ?_
                refine x_block_normal ?_
                refine x_then_normal ?_
                refine c_region ?_
                refine t_st rfl (st_add rfl rfl (by omega)) ?_
                refine t_st rfl (st_move rfl) ?_
                refine t_nil ?_
                exact x_againM (l598 ++ [(⟨x603.Need, (x603.From + x508) + x9, (x603.To + x508) + x9⟩ : ApiHold)]) (Option.some.inj hm).symm (e' := [(0, .slice A1 (l4).length c2), (2, .int .i64 (x9)), (11, .int .i64 (x508)), (12, .slice A638 (l598 ++ [(⟨x603.Need, (x603.From + x508) + x9, (x603.To + x508) + x9⟩ : ApiHold)]).length c639), (60, .slice A5 (l8).length c6), (61, .int .i64 ((l8.length : Int))), (62, .int .i64 ((k599 : Int) + 1))]) (hp' := (hs636 ++ R)) ⟨rfl, rfl, rfl, rfl, rfl, rfl, rfl, trivial⟩ (.cons _ (.cons _ (sub_app hs636 (.refl _)))) ⟨A638, c639, hs636, rfl, rfl, ((hle592.trans hle620)), h637⟩
          ·
            rintro l598 b591 _ _ ⟨A595, c596, hs594, rfl, rfl, hle592, h597⟩ hq640
            rw [hq640] at hk602
            have hm := elimL hk602
            refine c_seq ?_
            refine c_region ?_
            refine t_st rfl (st_lss_f rfl rfl (by omega)) ?_
            refine t_nil ?_
            refine x_then_normal ?_
            refine c_seq ?_
            refine c_cond_f rfl ?_
            refine c_exit ?_
            refine x_then_exit ?_
            refine x_then_exit ?_
            refine x_block_out ?_
            refine x_then_normal ?_
            obtain ⟨x656, hj657, hk657⟩ := bindS hm
            refine c_join (fun b654 e' hp' => [(6, .bool (x656))] = e' ∧ R = hp' ∧ b591.Le b654) ?_ ?_
            ·
              have hm := hj657
              refine c_region ?_
              refine t_st rfl (st_move rfl) ?_
              refine t_bool rfl (st_geq rfl rfl) (fun hc658 => ?_) (fun hc658 => ?_)
              ·
                rw [if_pos hc658] at hm
                refine t_st rfl (st_move rfl) ?_
                refine t_yes 103 rfl rfl rfl ?_
                refine t_st rfl (st_move rfl) ?_
                refine t_yes 103 rfl rfl rfl ?_
                refine t_st rfl (st_move rfl) ?_
                refine t_yes 103 rfl rfl rfl ?_
                refine t_frz [] hs594 R rfl ?_
                intro b659 hle660 hz661
                have h662 := OS.frz (l := l598) h597 hle660.cells hz661
                obtain ⟨l663, hcl664, hm⟩ := bindS hm
                refine t_callG _ rfl call26 rfl (cRunConflicts _ _ l4 l598 A1 c2 A595 c596 (h3.le (hle346.trans (hle428.trans (hle592.trans hle660)))) h662 l663 hcl664) ?_
                rintro _ b665 _ hle666 ⟨A667, c668, hs669, rfl, rfl, h670⟩
                refine t_in1 [] [] hs669 R rfl ?_
                refine t_yes 103 rfl rfl rfl ?_
                refine t_st rfl (st_len rfl sl56) ?_
                refine t_yes 103 rfl rfl rfl ?_
                refine t_st rfl (st_eql rfl rfl) ?_
                refine t_st rfl (st_pick_t rfl rfl) ?_
                refine t_st rfl (st_assign rfl) ?_
                refine t_nil ?_
                obtain rfl := some1 hm
                exact x_join (e' := [(6, .bool (decide ((l663.length : Int) = 0)))]) (hp' := R) ⟨rfl, trivial⟩ (sub_skip hs669 (.refl _)) ⟨rfl, rfl, (hle660.trans hle666)⟩
              ·
                rw [if_neg hc658] at hm
                refine t_st rfl (st_move rfl) ?_
                refine t_no 103 rfl rfl rfl rfl rfl ?_
                refine t_no 103 rfl rfl rfl rfl rfl ?_
                refine t_no 103 rfl rfl rfl rfl rfl ?_
                refine t_no 103 rfl rfl rfl rfl rfl ?_
                refine t_no 103 rfl rfl rfl rfl rfl ?_
                refine t_st rfl (st_pick_f rfl rfl) ?_
                refine t_st rfl (st_assign rfl) ?_
                refine t_nil ?_
                obtain rfl := some1 hm
                exact x_join (e' := [(6, .bool (false))]) (hp' := R) ⟨rfl, trivial⟩ (sub_skip hs594 (.refl _)) ⟨rfl, rfl, (Base.Le.refl _)⟩
            ·
              rintro b654 _ _ ⟨rfl, rfl, hle655⟩
              have hm := hk657
              refine c_ret ?_
              obtain rfl := some1 hm
              exact retM (rs := [.tmp 6]) [.bool (x656)] (hle346.trans (hle428.trans (hle592.trans hle655))) (by decide) rfl ⟨rfl, trivial⟩ rfl (hp' := R) (.refl _) ⟨rfl, rfl⟩

set_option maxRecDepth 20000 in
theorem cRunSmooth_1 (b : Base) (R : Hp) (x9 : Int) (l13 : (List Int)) (x14 : Int) (l15 : (List Int)) (g6 : Nat) (g7 : Nat) (g8 : Nat) (A10 : Option Addr) (c11 : Nat) (A3 : Option Addr) (c4 : Nat) (hs2 : Hp) (h12 : FZ (RT.int .i64) b.w A10 c11 l13) (h5 : OS 3 (OT.fr (RT.int .i64)) b.w (.slice A3 l15.length c4) l15 hs2) (x120 : Bool) (hm : mRunSmooth_1 x9 l13 x14 l15 = some x120) :
    CallsG Tryd.prog 62 [.int .i64 (x9), .pointer (some ⟨g6, 0, none⟩), .pointer (some ⟨g7, 0, none⟩), .pointer (some ⟨g8, 0, none⟩)] b ((g6, Cl 24 [.slice A10 (l13).length c11]) :: (g7, Cl 24 [.slice A3 (l15).length c4]) :: (g8, Cl 3 [.int .i64 (x14)]) :: (hs2 ++ R)) (fun v b' hp' => .bool (x120) = v ∧ (g6, Cl 24 [.slice A10 (l13).length c11]) :: (g7, Cl 24 [.slice A3 (l15).length c4]) :: (g8, Cl 3 [.int .i64 (x14)]) :: (hs2 ++ R) = hp') := by
  refine fn_enterG 26 Tryd.func62 rfl Tryd.ntmps62 rfl ?_
  unfold mRunSmooth_1 at hm
  refine c_seq ?_
  refine c_region ?_
  refine t_st rfl (st_assign rfl) ?_
  refine t_nil ?_
  refine x_then_normal ?_
  refine c_seq ?_
  refine c_seq ?_
  refine c_region ?_
  refine t_st rfl (st_load 0 rfl one24 rfl rfl) ?_
  refine t_st rfl (st_len rfl sl24) ?_
  refine t_st rfl (st_move rfl) ?_
  refine t_nil ?_
  refine x_then_normal ?_
  refine c_block ?_
  have hb122 := (FZ.bd h12)
  refine c_pullb 2 rfl ?_
  refine c_pullb 2 rfl ?_
  obtain ⟨t173, hl174, hk175⟩ := bindS hm
  refine c_forM (fun k172 => fun _ => fun b170 e' hp' => [(0, .int .i64 (x9)), (2, .pointer (some ⟨g7, 0, none⟩)), (3, .pointer (some ⟨g8, 0, none⟩)), (8, .slice A10 (l13).length c11), (9, .int .i64 ((l13.length : Int))), (10, .int .i64 ((k172 : Int)))] = e' ∧ (g7, Cl 24 [.slice A3 (l15).length c4]) :: (g8, Cl 3 [.int .i64 (x14)]) :: (g6, Cl 24 [.slice A10 (l13).length c11]) :: (hs2 ++ R) = hp' ∧ b.Le b170) hl174 (e' := [(0, .int .i64 (x9)), (2, .pointer (some ⟨g7, 0, none⟩)), (3, .pointer (some ⟨g8, 0, none⟩)), (8, .slice A10 (l13).length c11), (9, .int .i64 ((l13.length : Int))), (10, .int .i64 0)]) (hp' := (g7, Cl 24 [.slice A3 (l15).length c4]) :: (g8, Cl 3 [.int .i64 (x14)]) :: (g6, Cl 24 [.slice A10 (l13).length c11]) :: (hs2 ++ R)) ⟨rfl, rfl, rfl, rfl, rfl, rfl, trivial⟩ (.cons_cons _ (.cons_cons _ (.cons_cons _ (sub_app hs2 (.refl _))))) ⟨rfl, rfl, (Base.Le.refl _)⟩ ?_ ?_
  ·
    rintro k172 _ b170 _ _ oL121 hknL121 ⟨rfl, rfl, hle171⟩ hstepL121 houtL121
    unfold mRunSmooth_1_L121 at hstepL121
    have hm := hstepL121
    refine c_seq ?_
    refine c_region ?_
    refine t_st rfl (st_lss_t rfl rfl (by omega)) ?_
    refine t_nil ?_
    refine x_then_normal ?_
    refine c_seq ?_
    refine c_cond_t rfl ?_
    refine c_skip ?_
    refine x_then_normal ?_
    refine c_seq ?_
    refine c_block ?_
    refine c_seq ?_
    refine c_region ?_
    refine t_st rfl (st_move rfl) ?_
    obtain ⟨x176, h177, hm⟩ := bindS hm
    obtain ⟨j178, hj179, hx180⟩ := idx_some h177
    obtain ⟨cs181, hr182, hcs183, hA184, hlt185⟩ := FZ.get (sz := 1) rfl (by decide) (h12.le hle171) hx180
    obtain rfl := hr182
    refine t_st rfl (st_index_old j178 rfl rfl hj179 hlt185 hA184 sl24) ?_
    refine t_st rfl (st_load_old rfl one3 (hcs183 0 _ rfl)) ?_
    refine t_st rfl (st_assign rfl) ?_
    refine t_st rfl (st_assign rfl) ?_
    refine t_nil ?_
    refine x_then_normal ?_
    refine c_seq ?_
    obtain ⟨_, h204, hm⟩ := bindS hm
    obtain ⟨x205, h206, hm⟩ := bindS hm
    obtain ⟨_, h221, hm⟩ := bindS hm
    refine D_drawS ((g7, Cl 24 [.slice A3 (l15).length c4]) :: (g8, Cl 3 [.int .i64 (x14)]) :: (g6, Cl 24 [.slice A10 (l13).length c11]) :: (hs2 ++ R)) mixed ?_
    refine D_st (Base.Le.refl _) 0 rfl (by kernel_rfl) (by kernel_rfl) (by kernel_rfl) rfl (st_load 0 rfl one24 rfl rfl) (.cons_cons _ (.cons_cons _ (.cons_cons _ (sub_app hs2 (.refl _))))) ?_
    refine D_st (Base.Le.refl _) 1 rfl (by kernel_rfl) (by kernel_rfl) (by kernel_rfl) rfl (st_move rfl) (.cons_cons _ (.cons_cons _ (.cons_cons _ (sub_app hs2 (.refl _))))) ?_
    refine D_st (Base.Le.refl _) 2 rfl (by kernel_rfl) (by kernel_rfl) (by kernel_rfl) rfl (st_move rfl) (.cons_cons _ (.cons_cons _ (.cons_cons _ (sub_app hs2 (.refl _))))) ?_
    have h204 := (chk_some h204).2
    refine D_st (Base.Le.refl _) 3 rfl (by kernel_rfl) (by kernel_rfl) (by kernel_rfl) rfl (st_add rfl rfl h204) (.cons_cons _ (.cons_cons _ (.cons_cons _ (sub_app hs2 (.refl _))))) ?_
    obtain ⟨j207, hj208, hx209⟩ := idx_some h206
    obtain ⟨cs210, hs215, P216, P217, hq218, hr211, hcs212, hA213, hlt214, hb219, hho220⟩ := OS.get (sz := 1) rfl (by decide) (h5.le hle171) hx209
    obtain ⟨rfl, rfl⟩ := hr211
    refine D_st (Base.Le.refl _) 4 rfl (by kernel_rfl) (by kernel_rfl) (by kernel_rfl) rfl (st_index_old j207 rfl rfl hj208 hlt214 hA213 sl24) (.cons_cons _ (.cons_cons _ (.cons_cons _ (sub_app hs2 (.refl _))))) ?_
    refine D_st (Base.Le.refl _) 5 rfl (by kernel_rfl) (by kernel_rfl) (by kernel_rfl) rfl (st_load_rd rfl one3 (fun w ho => hcs212 w _ ho (.cons _ (.cons _ (.cons _ (List.sublist_append_left _ _)))) 0 _ rfl)) (.cons_cons _ (.cons_cons _ (.cons_cons _ (sub_app hs2 (.refl _))))) ?_
    refine D_st (Base.Le.refl _) 6 rfl (by kernel_rfl) (by kernel_rfl) (by kernel_rfl) rfl (st_move rfl) (.cons_cons _ (.cons_cons _ (.cons_cons _ (sub_app hs2 (.refl _))))) ?_
    have h221 := (chk_some h221).2
    refine D_st (Base.Le.refl _) 7 rfl (by kernel_rfl) (by kernel_rfl) (by kernel_rfl) rfl (st_add rfl rfl h221) (.cons_cons _ (.cons_cons _ (.cons_cons _ (sub_app hs2 (.refl _))))) ?_
    refine D_st (Base.Le.refl _) 8 rfl (by kernel_rfl) (by kernel_rfl) (by kernel_rfl) rfl (st_load 1 rfl one3 rfl rfl) (.cons_cons _ (.cons_cons _ (.cons_cons _ (sub_app hs2 (.refl _))))) ?_
    refine D_st (Base.Le.refl _) 9 rfl (by kernel_rfl) (by kernel_rfl) (by kernel_rfl) rfl (st_gtr rfl rfl) (.cons_cons _ (.cons_cons _ (.cons_cons _ (sub_app hs2 (.refl _))))) ?_
    refine D_done (by kernel_rfl) ?_
    refine x_then_normal ?_
    refine c_cond _ rfl (fun hc222 => ?_) (fun hc222 => ?_)
    ·
      rw [if_pos (of_decide_eq_true hc222)] at hm
      refine c_seq ?_
      refine c_region ?_
      refine t_st rfl (st_assign rfl) ?_
      refine t_nil ?_
      refine x_then_normal ?_
      refine c_ret ?_
      refine x_block_ret ?_
      refine x_then_ret ?_
      refine x_then_ret ?_
      refine x_block_ret ?_
      refine x_then_ret ?_
      have hq223 := houtL121 _ (Option.some.inj hm).symm
      rw [hq223] at hk175
      have hm := elimR hk175
      obtain rfl := some1 hm
      refine x_pullb 1 rfl ?_
      refine x_pullb 1 rfl ?_
      refine x_pullb 2 rfl ?_
      exact retM (rs := [.tmp 5]) [.bool (false)] hle171 (by decide) rfl ⟨rfl, trivial⟩ rfl (hp' := (g6, Cl 24 [.slice A10 (l13).length c11]) :: (g7, Cl 24 [.slice A3 (l15).length c4]) :: (g8, Cl 3 [.int .i64 (x14)]) :: (hs2 ++ R)) (.cons_cons _ (.cons_cons _ (.cons_cons _ (sub_app hs2 (.refl _))))) ⟨rfl, rfl⟩
    ·
      rw [if_neg (of_decide_eq_false hc222)] at hm
      refine c_skip ?_
      refine x_block_normal ?_
      refine x_then_normal ?_
      refine c_region ?_
      refine t_st rfl (st_add rfl rfl (by omega)) ?_
      refine t_st rfl (st_move rfl) ?_
      refine t_nil ?_
      refine x_pullb 2 rfl ?_
      refine x_pullb 2 rfl ?_
      refine x_pullb 2 rfl ?_
      exact x_againM () (Option.some.inj hm).symm (e' := [(0, .int .i64 (x9)), (2, .pointer (some ⟨g7, 0, none⟩)), (3, .pointer (some ⟨g8, 0, none⟩)), (8, .slice A10 (l13).length c11), (9, .int .i64 ((l13.length : Int))), (10, .int .i64 ((k172 : Int) + 1))]) (hp' := (g7, Cl 24 [.slice A3 (l15).length c4]) :: (g8, Cl 3 [.int .i64 (x14)]) :: (g6, Cl 24 [.slice A10 (l13).length c11]) :: (hs2 ++ R)) ⟨rfl, rfl, rfl, rfl, rfl, rfl, trivial⟩ (.cons_cons _ (.cons_cons _ (.cons_cons _ (sub_app hs2 (.refl _))))) ⟨rfl, rfl, (hle171)⟩
  ·
    rintro _ b170 _ _ ⟨rfl, rfl, hle171⟩ hq224
    rw [hq224] at hk175
    have hm := elimL hk175
    refine c_seq ?_
    refine c_region ?_
    refine t_st rfl (st_lss_f rfl rfl (by omega)) ?_
    refine t_nil ?_
    refine x_then_normal ?_
    refine c_seq ?_
    refine c_cond_f rfl ?_
    refine c_exit ?_
    refine x_then_exit ?_
    refine x_then_exit ?_
    refine x_block_out ?_
    refine x_then_normal ?_
    refine c_seq ?_
    refine c_region ?_
    refine t_st rfl (st_assign rfl) ?_
    refine t_nil ?_
    refine x_then_normal ?_
    refine c_ret ?_
    obtain rfl := some1 hm
    refine x_pullb 1 rfl ?_
    refine x_pullb 1 rfl ?_
    refine x_pullb 2 rfl ?_
    exact retM (rs := [.tmp 5]) [.bool (true)] hle171 (by decide) rfl ⟨rfl, trivial⟩ rfl (hp' := (g6, Cl 24 [.slice A10 (l13).length c11]) :: (g7, Cl 24 [.slice A3 (l15).length c4]) :: (g8, Cl 3 [.int .i64 (x14)]) :: (hs2 ++ R)) (.cons_cons _ (.cons_cons _ (.cons_cons _ (sub_app hs2 (.refl _))))) ⟨rfl, rfl⟩

set_option maxRecDepth 20000 in
theorem cRunSmooth (b : Base) (R : Hp) (l4 : (List (List Int))) (x5 : Int) (x6 : Int) (A1 : Option Addr) (c2 : Nat) (h3 : FZ (RT.list (RT.int .i64)) b.w A1 c2 l4) (x1073 : Int) (l1074 : (List Int)) (hm : mRunSmooth l4 x5 x6 = some (x1073, l1074)) :
    CallsG Tryd.prog 28 [.slice A1 (l4).length c2, .int .i64 (x5), .int .i64 (x6)] b (R) (fun v b' hp' => ∃ (A1070 : Option Addr), ∃ (c1071 : Nat), ∃ (hs1069 : Hp), .tuple #[.slice A1070 (l1074).length c1071, .int .i64 (x1073)] = v ∧ (hs1069 ++ R) = hp' ∧ OS 3 (OT.fr (RT.int .i64)) b'.w (.slice A1070 l1074.length c1071) l1074 hs1069) := by
  refine fn_enterG 107 Tryd.func28 rfl Tryd.ntmps28 rfl ?_
  unfold mRunSmooth at hm
  refine c_seq ?_
  refine c_region ?_
  refine t_do rfl (u_box _ rfl rfl) ?_
  rintro _ _ ⟨g1075, rfl, rfl⟩
  refine t_st rfl (st_assign rfl) ?_
  refine t_st rfl (st_assign rfl) ?_
  refine t_nil ?_
  refine x_then_normal ?_
  refine c_seq ?_
  refine c_seq ?_
  refine c_region ?_
  refine t_st rfl (st_move rfl) ?_
  refine t_st rfl (st_len rfl sl59) ?_
  refine t_st rfl (st_gtr rfl rfl) ?_
  refine t_nil ?_
  refine x_then_normal ?_
  refine c_cond _ rfl (fun hc1076 => ?_) (fun hc1076 => ?_)
  ·
    rw [if_pos (of_decide_eq_true hc1076)] at hm
    refine c_seq ?_
    refine c_region ?_
    refine t_st rfl (st_assign rfl) ?_
    refine t_st rfl (st_assign rfl) ?_
    refine t_nil ?_
    refine x_then_normal ?_
    refine c_ret ?_
    refine x_then_ret ?_
    obtain ⟨rfl, rfl⟩ := some2 hm
    exact retM (rs := [.tmp 6, .tmp 7]) [.slice none 0 0, .int .i64 (4)] (Base.Le.refl _) (by decide) rfl ⟨rfl, ⟨rfl, trivial⟩⟩ rfl (hp' := ([] ++ R)) (.cons _ (.refl _)) ⟨none, 0, [], rfl, rfl, OS.nil⟩
  ·
    rw [if_neg (of_decide_eq_false hc1076)] at hm
    refine c_skip ?_
    refine x_then_normal ?_
    refine c_seq ?_
    refine c_seq ?_
    refine c_region ?_
    refine t_st rfl (st_move rfl) ?_
    refine t_st rfl (st_len rfl sl59) ?_
    refine t_st rfl (st_move rfl) ?_
    refine t_nil ?_
    refine x_then_normal ?_
    refine c_block ?_
    have hb1078 := (FZ.bd h3)
    obtain ⟨t1096, hl1097, hk1098⟩ := bindS hm
    refine c_forM (fun k1095 => fun _ => fun b1093 e' hp' => [(0, .slice A1 (l4).length c2), (2, .int .i64 (x6)), (4, .pointer (some ⟨g1075, 0, none⟩)), (25, .slice A1 (l4).length c2), (26, .int .i64 ((l4.length : Int))), (27, .int .i64 ((k1095 : Int)))] = e' ∧ (g1075, Cl 3 [.int .i64 (x5)]) :: R = hp' ∧ b.Le b1093) hl1097 (e' := [(0, .slice A1 (l4).length c2), (2, .int .i64 (x6)), (4, .pointer (some ⟨g1075, 0, none⟩)), (25, .slice A1 (l4).length c2), (26, .int .i64 ((l4.length : Int))), (27, .int .i64 0)]) (hp' := (g1075, Cl 3 [.int .i64 (x5)]) :: R) ⟨rfl, rfl, rfl, rfl, rfl, rfl, trivial⟩ (.cons_cons _ (.refl _)) ⟨rfl, rfl, (Base.Le.refl _)⟩ ?_ ?_
    ·
      rintro k1095 _ b1093 _ _ oL1077 hknL1077 ⟨rfl, rfl, hle1094⟩ hstepL1077 houtL1077
      unfold mRunSmooth_L1077 at hstepL1077
      have hm := hstepL1077
      refine c_seq ?_
      refine c_region ?_
      refine t_st rfl (st_lss_t rfl rfl (by omega)) ?_
      refine t_nil ?_
      refine x_then_normal ?_
      refine c_seq ?_
      refine c_cond_t rfl ?_
      refine c_skip ?_
      refine x_then_normal ?_
      refine c_seq ?_
      refine c_block ?_
      refine c_seq ?_
      refine c_region ?_
      obtain ⟨x1099, h1100, hm⟩ := bindS hm
      obtain ⟨j1101, hj1102, hx1103⟩ := idx_some h1100
      obtain ⟨cs1104, hr1105, hcs1106, hA1107, hlt1108⟩ := FZ.get (sz := 1) rfl (by decide) (h3.le hle1094) hx1103
      obtain ⟨A1109, c1110, rfl, h1111⟩ := hr1105
      refine t_st rfl (st_index_old j1101 rfl rfl hj1102 hlt1108 hA1107 sl59) ?_
      refine t_st rfl (st_load_old rfl one24 (hcs1106 0 _ rfl)) ?_
      refine t_st rfl (st_assign rfl) ?_
      refine t_nil ?_
      refine x_then_normal ?_
      refine c_seq ?_
      refine c_region ?_
      refine t_st rfl (st_move rfl) ?_
      refine t_st rfl (st_len rfl sl24) ?_
      refine t_st rfl (st_gtr rfl rfl) ?_
      refine t_nil ?_
      refine x_then_normal ?_
      refine c_cond _ rfl (fun hc1112 => ?_) (fun hc1112 => ?_)
      ·
        rw [if_pos (of_decide_eq_true hc1112)] at hm
        refine c_seq ?_
        refine c_region ?_
        refine t_st rfl (st_assign rfl) ?_
        refine t_st rfl (st_assign rfl) ?_
        refine t_nil ?_
        refine x_then_normal ?_
        refine c_ret ?_
        refine x_block_ret ?_
        refine x_then_ret ?_
        refine x_then_ret ?_
        refine x_block_ret ?_
        refine x_then_ret ?_
        have hq1113 := houtL1077 _ (Option.some.inj hm).symm
        rw [hq1113] at hk1098
        have hm := elimR hk1098
        obtain ⟨rfl, rfl⟩ := some2 hm
        exact retM (rs := [.tmp 6, .tmp 7]) [.slice none 0 0, .int .i64 (4)] hle1094 (by decide) rfl ⟨rfl, ⟨rfl, trivial⟩⟩ rfl (hp' := ([] ++ R)) (.cons _ (.refl _)) ⟨none, 0, [], rfl, rfl, OS.nil⟩
      ·
        rw [if_neg (of_decide_eq_false hc1112)] at hm
        refine c_skip ?_
        refine x_block_normal ?_
        refine x_then_normal ?_
        refine c_region ?_
        refine t_st rfl (st_add rfl rfl (by omega)) ?_
        refine t_st rfl (st_move rfl) ?_
        refine t_nil ?_
        exact x_againM () (Option.some.inj hm).symm (e' := [(0, .slice A1 (l4).length c2), (2, .int .i64 (x6)), (4, .pointer (some ⟨g1075, 0, none⟩)), (25, .slice A1 (l4).length c2), (26, .int .i64 ((l4.length : Int))), (27, .int .i64 ((k1095 : Int) + 1))]) (hp' := (g1075, Cl 3 [.int .i64 (x5)]) :: R) ⟨rfl, rfl, rfl, rfl, rfl, rfl, trivial⟩ (.cons_cons _ (.refl _)) ⟨rfl, rfl, (hle1094)⟩
    ·
      rintro _ b1093 _ _ ⟨rfl, rfl, hle1094⟩ hq1114
      rw [hq1114] at hk1098
      have hm := elimL hk1098
      refine c_seq ?_
      refine c_region ?_
      refine t_st rfl (st_lss_f rfl rfl (by omega)) ?_
      refine t_nil ?_
      refine x_then_normal ?_
      refine c_seq ?_
      refine c_cond_f rfl ?_
      refine c_exit ?_
      refine x_then_exit ?_
      refine x_then_exit ?_
      refine x_block_out ?_
      refine x_then_normal ?_
      refine c_seq ?_
      refine c_seq ?_
      refine c_region ?_
      refine t_st rfl (st_move rfl) ?_
      refine t_st rfl (st_len rfl sl59) ?_
      refine t_st rfl (st_move rfl) ?_
      refine t_nil ?_
      refine x_then_normal ?_
      refine c_block ?_
      have hb1116 := (FZ.bd (h3.le hle1094))
      obtain ⟨t1168, hl1169, hk1170⟩ := bindS hm
      refine c_forM (fun k1167 => fun _ => fun b1165 e' hp' => [(0, .slice A1 (l4).length c2), (2, .int .i64 (x6)), (4, .pointer (some ⟨g1075, 0, none⟩)), (35, .slice A1 (l4).length c2), (36, .int .i64 ((l4.length : Int))), (37, .int .i64 ((k1167 : Int)))] = e' ∧ (g1075, Cl 3 [.int .i64 (x5)]) :: R = hp' ∧ b1093.Le b1165) hl1169 (e' := [(0, .slice A1 (l4).length c2), (2, .int .i64 (x6)), (4, .pointer (some ⟨g1075, 0, none⟩)), (35, .slice A1 (l4).length c2), (36, .int .i64 ((l4.length : Int))), (37, .int .i64 0)]) (hp' := (g1075, Cl 3 [.int .i64 (x5)]) :: R) ⟨rfl, rfl, rfl, rfl, rfl, rfl, trivial⟩ (.cons_cons _ (.refl _)) ⟨rfl, rfl, (Base.Le.refl _)⟩ ?_ ?_
      ·
        rintro k1167 _ b1165 _ _ oL1115 hknL1115 ⟨rfl, rfl, hle1166⟩ hstepL1115 houtL1115
        unfold mRunSmooth_L1115 at hstepL1115
        have hm := hstepL1115
        refine c_seq ?_
        refine c_region ?_
        refine t_st rfl (st_lss_t rfl rfl (by omega)) ?_
        refine t_nil ?_
        refine x_then_normal ?_
        refine c_seq ?_
        refine c_cond_t rfl ?_
        refine c_skip ?_
        refine x_then_normal ?_
        refine c_seq ?_
        refine c_block ?_
        refine c_seq ?_
        refine c_region ?_
        obtain ⟨x1171, h1172, hm⟩ := bindS hm
        obtain ⟨j1173, hj1174, hx1175⟩ := idx_some h1172
        obtain ⟨cs1176, hr1177, hcs1178, hA1179, hlt1180⟩ := FZ.get (sz := 1) rfl (by decide) (h3.le (hle1094.trans hle1166)) hx1175
        obtain ⟨A1181, c1182, rfl, h1183⟩ := hr1177
        refine t_st rfl (st_index_old j1173 rfl rfl hj1174 hlt1180 hA1179 sl59) ?_
        refine t_st rfl (st_load_old rfl one24 (hcs1178 0 _ rfl)) ?_
        refine t_st rfl (st_assign rfl) ?_
        refine t_nil ?_
        refine x_then_normal ?_
        refine c_seq ?_
        refine c_region ?_
        refine t_st rfl (st_move rfl) ?_
        refine t_st rfl (st_len rfl sl24) ?_
        refine t_st rfl (st_move rfl) ?_
        refine t_nil ?_
        refine x_then_normal ?_
        refine c_block ?_
        have hb1185 := (FZ.bd h1183)
        obtain ⟨t1202, hl1203, hk1204⟩ := bindS hm
        refine c_forM (fun k1201 => fun _ => fun b1199 e' hp' => [(0, .slice A1 (l4).length c2), (2, .int .i64 (x6)), (4, .pointer (some ⟨g1075, 0, none⟩)), (35, .slice A1 (l4).length c2), (36, .int .i64 ((l4.length : Int))), (37, .int .i64 ((k1167 : Int))), (41, .slice A1181 (x1171).length c1182), (42, .int .i64 ((x1171.length : Int))), (43, .int .i64 ((k1201 : Int)))] = e' ∧ (g1075, Cl 3 [.int .i64 (x5)]) :: R = hp' ∧ b1165.Le b1199) hl1203 (e' := [(0, .slice A1 (l4).length c2), (2, .int .i64 (x6)), (4, .pointer (some ⟨g1075, 0, none⟩)), (35, .slice A1 (l4).length c2), (36, .int .i64 ((l4.length : Int))), (37, .int .i64 ((k1167 : Int))), (41, .slice A1181 (x1171).length c1182), (42, .int .i64 ((x1171.length : Int))), (43, .int .i64 0)]) (hp' := (g1075, Cl 3 [.int .i64 (x5)]) :: R) ⟨rfl, rfl, rfl, rfl, rfl, rfl, rfl, rfl, rfl, trivial⟩ (.cons_cons _ (.refl _)) ⟨rfl, rfl, (Base.Le.refl _)⟩ ?_ ?_
        ·
          rintro k1201 _ b1199 _ _ oL1184 hknL1184 ⟨rfl, rfl, hle1200⟩ hstepL1184 houtL1184
          unfold mRunSmooth_L1184 at hstepL1184
          have hm := hstepL1184
          refine c_seq ?_
          refine c_region ?_
          refine t_st rfl (st_lss_t rfl rfl (by omega)) ?_
          refine t_nil ?_
          refine x_then_normal ?_
          refine c_seq ?_
          refine c_cond_t rfl ?_
          refine c_skip ?_
          refine x_then_normal ?_
          refine c_seq ?_
          refine c_block ?_
          refine c_seq ?_
          refine c_region ?_
          obtain ⟨x1205, h1206, hm⟩ := bindS hm
          obtain ⟨j1207, hj1208, hx1209⟩ := idx_some h1206
          obtain ⟨cs1210, hr1211, hcs1212, hA1213, hlt1214⟩ := FZ.get (sz := 1) rfl (by decide) (h1183.le hle1200) hx1209
          obtain rfl := hr1211
          refine t_st rfl (st_index_old j1207 rfl rfl hj1208 hlt1214 hA1213 sl24) ?_
          refine t_st rfl (st_load_old rfl one3 (hcs1212 0 _ rfl)) ?_
          refine t_st rfl (st_assign rfl) ?_
          refine t_nil ?_
          refine x_then_normal ?_
          refine c_seq ?_
          refine c_region ?_
          refine t_st rfl (st_move rfl) ?_
          obtain ⟨x1215, hcl1216, hm⟩ := bindS hm
          refine t_do rfl (u_callW0 _ call59 rfl (fun w ho => cRunWithin _ [] x1205 0 1125899906842624 x1215 hcl1216) (fun _ _ _ h => h.2.symm)) ?_
          rintro _ _ ⟨⟨_, rfl, _⟩, rfl⟩
          refine t_st rfl (st_not rfl) ?_
          refine t_nil ?_
          refine x_then_normal ?_
          refine c_cond _ rfl (fun hc1217 => ?_) (fun hc1217 => ?_)
          ·
            rw [if_neg (fun hh => Bool.noConfusion (hh.symm.trans (notT hc1217)))] at hm
            refine c_seq ?_
            refine c_region ?_
            refine t_st rfl (st_assign rfl) ?_
            refine t_st rfl (st_assign rfl) ?_
            refine t_nil ?_
            refine x_then_normal ?_
            refine c_ret ?_
            refine x_block_ret ?_
            refine x_then_ret ?_
            refine x_then_ret ?_
            refine x_block_ret ?_
            refine x_block_ret ?_
            refine x_then_ret ?_
            refine x_then_ret ?_
            refine x_block_ret ?_
            refine x_then_ret ?_
            have hq1218 := houtL1184 _ (Option.some.inj hm).symm
            rw [hq1218] at hk1204
            have hm := elimR hk1204
            have hq1219 := houtL1115 _ (Option.some.inj hm).symm
            rw [hq1219] at hk1170
            have hm := elimR hk1170
            obtain ⟨rfl, rfl⟩ := some2 hm
            exact retM (rs := [.tmp 6, .tmp 7]) [.slice none 0 0, .int .i64 (2)] (hle1094.trans (hle1166.trans hle1200)) (by decide) rfl ⟨rfl, ⟨rfl, trivial⟩⟩ rfl (hp' := ([] ++ R)) (.cons _ (.refl _)) ⟨none, 0, [], rfl, rfl, OS.nil⟩
          ·
            rw [if_pos (notF hc1217)] at hm
            refine c_skip ?_
            refine x_block_normal ?_
            refine x_then_normal ?_
            refine c_region ?_
            refine t_st rfl (st_add rfl rfl (by omega)) ?_
            refine t_st rfl (st_move rfl) ?_
            refine t_nil ?_
            exact x_againM () (Option.some.inj hm).symm (e' := [(0, .slice A1 (l4).length c2), (2, .int .i64 (x6)), (4, .pointer (some ⟨g1075, 0, none⟩)), (35, .slice A1 (l4).length c2), (36, .int .i64 ((l4.length : Int))), (37, .int .i64 ((k1167 : Int))), (41, .slice A1181 (x1171).length c1182), (42, .int .i64 ((x1171.length : Int))), (43, .int .i64 ((k1201 : Int) + 1))]) (hp' := (g1075, Cl 3 [.int .i64 (x5)]) :: R) ⟨rfl, rfl, rfl, rfl, rfl, rfl, rfl, rfl, rfl, trivial⟩ (.cons_cons _ (.refl _)) ⟨rfl, rfl, (hle1200)⟩
        ·
          rintro _ b1199 _ _ ⟨rfl, rfl, hle1200⟩ hq1220
          rw [hq1220] at hk1204
          have hm := elimL hk1204
          refine c_seq ?_
          refine c_region ?_
          refine t_st rfl (st_lss_f rfl rfl (by omega)) ?_
          refine t_nil ?_
          refine x_then_normal ?_
          refine c_seq ?_
          refine c_cond_f rfl ?_
          refine c_exit ?_
          refine x_then_exit ?_
          refine x_then_exit ?_
          refine x_block_out ?_
          refine x_block_normal ?_
          refine x_then_normal ?_
          refine c_region ?_
          refine t_st rfl (st_add rfl rfl (by omega)) ?_
          refine t_st rfl (st_move rfl) ?_
          refine t_nil ?_
          exact x_againM () (Option.some.inj hm).symm (e' := [(0, .slice A1 (l4).length c2), (2, .int .i64 (x6)), (4, .pointer (some ⟨g1075, 0, none⟩)), (35, .slice A1 (l4).length c2), (36, .int .i64 ((l4.length : Int))), (37, .int .i64 ((k1167 : Int) + 1))]) (hp' := (g1075, Cl 3 [.int .i64 (x5)]) :: R) ⟨rfl, rfl, rfl, rfl, rfl, rfl, trivial⟩ (.cons_cons _ (.refl _)) ⟨rfl, rfl, ((hle1166.trans hle1200))⟩
      ·
        rintro _ b1165 _ _ ⟨rfl, rfl, hle1166⟩ hq1221
        rw [hq1221] at hk1170
        have hm := elimL hk1170
        refine c_seq ?_
        refine c_region ?_
        refine t_st rfl (st_lss_f rfl rfl (by omega)) ?_
        refine t_nil ?_
        refine x_then_normal ?_
        refine c_seq ?_
        refine c_cond_f rfl ?_
        refine c_exit ?_
        refine x_then_exit ?_
        refine x_then_exit ?_
        refine x_block_out ?_
        refine x_then_normal ?_
        refine c_seq ?_
        obtain ⟨x1229, hj1230, hk1230⟩ := bindS hm
        refine c_join (fun b1227 e' hp' => [(0, .slice A1 (l4).length c2), (2, .int .i64 (x6)), (4, .pointer (some ⟨g1075, 0, none⟩)), (59, .bool (x1229))] = e' ∧ (g1075, Cl 3 [.int .i64 (x5)]) :: R = hp' ∧ b1165.Le b1227) ?_ ?_
        ·
          have hm := hj1230
          refine c_region ?_
          refine t_st rfl (st_load 0 rfl one3 rfl rfl) ?_
          obtain ⟨x1231, hcl1232, hm⟩ := bindS hm
          refine t_do rfl (u_callW0 _ call59 rfl (fun w ho => cRunWithin _ [] x5 0 36028797018963968 x1231 hcl1232) (fun _ _ _ h => h.2.symm)) ?_
          rintro _ _ ⟨⟨_, rfl, _⟩, rfl⟩
          rcases Bool.eq_false_or_eq_true x1231 with hc1233 | hc1233
          ·
            rw [if_pos hc1233] at hm
            refine t_resp 53 rfl (v' := .bool true) (by rw [hc1233]) ?_
            refine t_st rfl (st_not_t rfl) ?_
            refine t_st rfl (st_move rfl) ?_
            refine t_yes 55 rfl rfl rfl ?_
            refine t_st rfl (st_move rfl) ?_
            refine t_yes 55 rfl rfl rfl ?_
            obtain ⟨x1234, hcl1235, hm⟩ := bindS hm
            refine t_do rfl (u_callW0 _ call59 rfl (fun w ho => cRunWithin _ [] x6 0 3600 x1234 hcl1235) (fun _ _ _ h => h.2.symm)) ?_
            rintro _ _ ⟨⟨_, rfl, _⟩, rfl⟩
            refine t_yes 55 rfl rfl rfl ?_
            refine t_st rfl (st_not rfl) ?_
            refine t_st rfl (st_pick_f rfl rfl) ?_
            refine t_nil ?_
            obtain rfl := some1 hm
            exact x_join (e' := [(0, .slice A1 (l4).length c2), (2, .int .i64 (x6)), (4, .pointer (some ⟨g1075, 0, none⟩)), (59, .bool (!x1234))]) (hp' := (g1075, Cl 3 [.int .i64 (x5)]) :: R) ⟨rfl, rfl, rfl, rfl, trivial⟩ (.cons_cons _ (.refl _)) ⟨rfl, rfl, (Base.Le.refl _)⟩
          ·
            rw [if_neg (fun hh => Bool.noConfusion (hh.symm.trans hc1233))] at hm
            refine t_resp 53 rfl (v' := .bool false) (by rw [hc1233]) ?_
            refine t_st rfl (st_not_f rfl) ?_
            refine t_st rfl (st_move rfl) ?_
            refine t_no 55 rfl rfl rfl rfl rfl ?_
            refine t_no 55 rfl rfl rfl rfl rfl ?_
            refine t_no 55 rfl rfl rfl rfl rfl ?_
            refine t_st rfl (st_pick_t rfl rfl) ?_
            refine t_nil ?_
            obtain rfl := some1 hm
            exact x_join (e' := [(0, .slice A1 (l4).length c2), (2, .int .i64 (x6)), (4, .pointer (some ⟨g1075, 0, none⟩)), (59, .bool (true))]) (hp' := (g1075, Cl 3 [.int .i64 (x5)]) :: R) ⟨rfl, rfl, rfl, rfl, trivial⟩ (.cons_cons _ (.refl _)) ⟨rfl, rfl, (Base.Le.refl _)⟩
        ·
          rintro b1227 _ _ ⟨rfl, rfl, hle1228⟩
          have hm := hk1230
          refine c_cond _ rfl (fun hc1236 => ?_) (fun hc1236 => ?_)
          ·
            rw [if_pos hc1236] at hm
            refine c_seq ?_
            refine c_region ?_
            refine t_st rfl (st_assign rfl) ?_
            refine t_st rfl (st_assign rfl) ?_
            refine t_nil ?_
            refine x_then_normal ?_
            refine c_ret ?_
            refine x_then_ret ?_
            obtain ⟨rfl, rfl⟩ := some2 hm
            exact retM (rs := [.tmp 6, .tmp 7]) [.slice none 0 0, .int .i64 (2)] (hle1094.trans (hle1166.trans hle1228)) (by decide) rfl ⟨rfl, ⟨rfl, trivial⟩⟩ rfl (hp' := ([] ++ R)) (.cons _ (.refl _)) ⟨none, 0, [], rfl, rfl, OS.nil⟩
          ·
            rw [if_neg (fun hh => Bool.noConfusion (hh.symm.trans hc1236))] at hm
            refine c_skip ?_
            refine x_then_normal ?_
            refine c_seq ?_
            refine c_region ?_
            refine t_st rfl (st_move rfl) ?_
            obtain ⟨_, h1237, hm⟩ := bindS hm
            have h1237 := (chk_some h1237).2
            refine t_st rfl (st_add rfl rfl h1237) ?_
            obtain ⟨m1238, h1239, hm⟩ := bindS hm
            have h1239 := mkLen_some h1239
            refine t_do rfl (u_mkOS (r := (RT.int .i64)) [_] R [.int .i64 (0)] 0 m1238 rfl h1239.1 rfl rfl sl24 inf3 rfl rfl rfl (by decide) rfl h1239.2.1 h1239.2.2) ?_
            rintro _ _ ⟨hs1240, rfl, h1241⟩
            obtain ⟨A1242, c1243, rfl, _⟩ := h1241.form
            refine t_do rfl (u_alloc [.slice none 0 0] zero24 rfl) ?_
            rintro _ _ ⟨g1244, rfl, rfl⟩
            refine t_do rfl (u_store 0 rfl rfl siz24 rfl rfl (by simp)) ?_
            rintro _ _ rfl
            refine t_nil ?_
            refine x_then_normal ?_
            refine c_seq ?_
            refine c_region ?_
            refine t_st rfl (st_assign rfl) ?_
            refine t_nil ?_
            refine x_then_normal ?_
            refine c_seq ?_
            refine c_seq ?_
            refine c_region ?_
            refine t_st rfl (st_move rfl) ?_
            refine t_st rfl (st_len rfl sl59) ?_
            refine t_st rfl (st_move rfl) ?_
            refine t_nil ?_
            refine x_then_normal ?_
            refine c_block ?_
            have hb1246 := (FZ.bd (h3.le (hle1094.trans (hle1166.trans hle1228))))
            refine c_pullb 1 rfl ?_
            obtain ⟨t1845, hl1846, hk1847⟩ := bindS hm
            refine c_forM (fun k1844 => unc2 fun l1841 l1842 => fun b1831 e' hp' => ∃ (A1835 : Option Addr), ∃ (c1836 : Nat), ∃ (hs1834 : Hp), ∃ (hs1839 : Hp), [(2, .int .i64 (x6)), (4, .pointer (some ⟨g1075, 0, none⟩)), (14, .pointer (some ⟨g1244, 0, none⟩)), (15, .slice A1835 (l1841).length c1836), (63, .slice A1 (l4).length c2), (64, .int .i64 ((l4.length : Int))), (65, .int .i64 ((k1844 : Int)))] = e' ∧ (g1075, Cl 3 [.int .i64 (x5)]) :: (g1244, Cl 24 [.slice A1242 (l1842).length c1243]) :: (hs1834 ++ (hs1839 ++ R)) = hp' ∧ b1227.Le b1831 ∧ OS 3 (OT.fr (RT.int .i64)) b1831.w (.slice A1835 l1841.length c1836) l1841 hs1834 ∧ OS 3 (OT.fr (RT.int .i64)) b1831.w (.slice A1242 l1842.length c1243) l1842 hs1839 ∧ l1842.length = m1238) hl1846 (e' := [(2, .int .i64 (x6)), (4, .pointer (some ⟨g1075, 0, none⟩)), (14, .pointer (some ⟨g1244, 0, none⟩)), (15, .slice none 0 0), (63, .slice A1 (l4).length c2), (64, .int .i64 ((l4.length : Int))), (65, .int .i64 0)]) (hp' := (g1075, Cl 3 [.int .i64 (x5)]) :: (g1244, Cl 24 [.slice A1242 (List.replicate m1238 (0 : Int)).length c1243]) :: ([] ++ (hs1240 ++ R))) ⟨rfl, rfl, rfl, rfl, rfl, rfl, rfl, trivial⟩ (.cons_cons _ (.cons_cons _ (sub_app hs1240 (.refl _)))) ⟨none, 0, [], hs1240, rfl, rfl, (Base.Le.refl _), OS.nil, h1241, List.length_replicate⟩ ?_ ?_
            ·
              rintro k1844 ⟨l1841, l1842⟩ b1831 _ _ oL1245 hknL1245 ⟨A1835, c1836, hs1834, hs1839, rfl, rfl, hle1832, h1837, h1840, hln1843⟩ hstepL1245 houtL1245
              unfold mRunSmooth_L1245 at hstepL1245
              have hm := (unc2E hstepL1245)
              refine c_seq ?_
              refine c_region ?_
              refine t_st rfl (st_lss_t rfl rfl (by omega)) ?_
              refine t_nil ?_
              refine x_then_normal ?_
              refine c_seq ?_
              refine c_cond_t rfl ?_
              refine c_skip ?_
              refine x_then_normal ?_
              refine c_seq ?_
              refine c_block ?_
              refine c_seq ?_
              refine c_region ?_
              obtain ⟨x1848, h1849, hm⟩ := bindS hm
              obtain ⟨j1850, hj1851, hx1852⟩ := idx_some h1849
              obtain ⟨cs1853, hr1854, hcs1855, hA1856, hlt1857⟩ := FZ.get (sz := 1) rfl (by decide) (h3.le (hle1094.trans (hle1166.trans (hle1228.trans hle1832)))) hx1852
              obtain ⟨A1858, c1859, rfl, h1860⟩ := hr1854
              refine t_st rfl (st_index_old j1850 rfl rfl hj1851 hlt1857 hA1856 sl59) ?_
              refine t_st rfl (st_load_old rfl one24 (hcs1855 0 _ rfl)) ?_
              refine t_do rfl (u_alloc [.slice none 0 0] zero24 rfl) ?_
              rintro _ _ ⟨g1861, rfl, rfl⟩
              refine t_do rfl (u_store 0 rfl rfl siz24 rfl rfl (by simp)) ?_
              rintro _ _ rfl
              refine t_nil ?_
              refine x_then_normal ?_
              refine c_seq ?_
              refine c_region ?_
              refine t_st rfl (st_func _ _ rfl rfl) ?_
              refine t_st rfl (st_assign rfl) ?_
              refine t_nil ?_
              refine x_then_normal ?_
              refine c_seq ?_
              refine c_region ?_
              refine t_st rfl (st_assign rfl) ?_
              refine t_nil ?_
              refine x_then_normal ?_
              obtain ⟨x1917, hj1918, hk1918⟩ := bindS hm
              refine c_join (fun b1915 e' hp' => [(2, .int .i64 (x6)), (4, .pointer (some ⟨g1075, 0, none⟩)), (14, .pointer (some ⟨g1244, 0, none⟩)), (15, .slice A1835 (l1841).length c1836), (17, .pointer (some ⟨g1861, 0, none⟩)), (19, .int .i64 (x1917)), (63, .slice A1 (l4).length c2), (64, .int .i64 ((l4.length : Int))), (65, .int .i64 ((k1844 : Int)))] = e' ∧ (g1075, Cl 3 [.int .i64 (x5)]) :: (g1244, Cl 24 [.slice A1242 (l1842).length c1243]) :: (g1861, Cl 24 [.slice A1858 (x1848).length c1859]) :: (hs1834 ++ (hs1839 ++ R)) = hp' ∧ b1831.Le b1915) ?_ ?_
              ·
                have hm := hj1918
                refine c_block ?_
                refine c_pullb 2 rfl ?_
                refine c_pullb 2 rfl ?_
                refine c_front2 [_, _, _] hs1834 hs1839 R rfl ?_
                refine c_front2 [_, _, _] hs1839 hs1834 R rfl ?_
                refine c_loopM (fun x1955 => fun b1953 e' hp' => [(2, .int .i64 (x6)), (4, .pointer (some ⟨g1075, 0, none⟩)), (14, .pointer (some ⟨g1244, 0, none⟩)), (15, .slice A1835 (l1841).length c1836), (17, .pointer (some ⟨g1861, 0, none⟩)), (18, .func (.func 62) #[] #[.pointer (some ⟨g1861, 0, none⟩), .pointer (some ⟨g1244, 0, none⟩), .pointer (some ⟨g1075, 0, none⟩)]), (19, .int .i64 (x1955)), (63, .slice A1 (l4).length c2), (64, .int .i64 ((l4.length : Int))), (65, .int .i64 ((k1844 : Int)))] = e' ∧ (g1075, Cl 3 [.int .i64 (x5)]) :: (g1244, Cl 24 [.slice A1242 (l1842).length c1243]) :: (g1861, Cl 24 [.slice A1858 (x1848).length c1859]) :: (hs1834 ++ (hs1839 ++ R)) = hp' ∧ b1831.Le b1953) hm (e' := [(2, .int .i64 (x6)), (4, .pointer (some ⟨g1075, 0, none⟩)), (14, .pointer (some ⟨g1244, 0, none⟩)), (15, .slice A1835 (l1841).length c1836), (17, .pointer (some ⟨g1861, 0, none⟩)), (18, .func (.func 62) #[] #[.pointer (some ⟨g1861, 0, none⟩), .pointer (some ⟨g1244, 0, none⟩), .pointer (some ⟨g1075, 0, none⟩)]), (19, .int .i64 (0)), (63, .slice A1 (l4).length c2), (64, .int .i64 ((l4.length : Int))), (65, .int .i64 ((k1844 : Int)))]) (hp' := (g1075, Cl 3 [.int .i64 (x5)]) :: (g1244, Cl 24 [.slice A1242 (l1842).length c1243]) :: (g1861, Cl 24 [.slice A1858 (x1848).length c1859]) :: (hs1834 ++ (hs1839 ++ R))) ⟨rfl, rfl, rfl, rfl, rfl, rfl, rfl, rfl, rfl, rfl, trivial⟩ (.cons_cons _ (.cons_cons _ (.cons_cons _ (sub_app hs1834 (sub_app hs1839 (.refl _)))))) ⟨rfl, rfl, (Base.Le.refl _)⟩ ?_
                rintro x1955 b1953 _ _ oL1919 ⟨rfl, rfl, hle1954⟩ hstepL1919 houtL1919
                unfold mRunSmooth_L1919 at hstepL1919
                have hm := hstepL1919
                refine c_seq ?_
                obtain ⟨x1963, hj1964, hk1964⟩ := bindS hm
                refine c_join (fun b1961 e' hp' => [(2, .int .i64 (x6)), (4, .pointer (some ⟨g1075, 0, none⟩)), (14, .pointer (some ⟨g1244, 0, none⟩)), (15, .slice A1835 (l1841).length c1836), (17, .pointer (some ⟨g1861, 0, none⟩)), (18, .func (.func 62) #[] #[.pointer (some ⟨g1861, 0, none⟩), .pointer (some ⟨g1244, 0, none⟩), .pointer (some ⟨g1075, 0, none⟩)]), (19, .int .i64 (x1955)), (63, .slice A1 (l4).length c2), (64, .int .i64 ((l4.length : Int))), (65, .int .i64 ((k1844 : Int))), (78, .bool (x1963))] = e' ∧ (g1075, Cl 3 [.int .i64 (x5)]) :: (g1244, Cl 24 [.slice A1242 (l1842).length c1243]) :: (g1861, Cl 24 [.slice A1858 (x1848).length c1859]) :: (hs1834 ++ (hs1839 ++ R)) = hp' ∧ b1953.Le b1961) ?_ ?_
                ·
                  have hm := hj1964
                  refine c_region ?_
                  refine t_st rfl (st_move rfl) ?_
                  refine t_st rfl (st_move rfl) ?_
                  refine t_bool rfl (st_leq rfl rfl) (fun hc1965 => ?_) (fun hc1965 => ?_)
                  ·
                    rw [if_pos hc1965] at hm
                    refine t_st rfl (st_move rfl) ?_
                    refine t_yes 73 rfl rfl rfl ?_
                    refine t_st rfl (st_move rfl) ?_
                    refine t_yes 73 rfl rfl rfl ?_
                    refine t_st rfl (st_move rfl) ?_
                    refine t_yes 73 rfl rfl rfl ?_
                    obtain ⟨x1966, hcl1967, hm⟩ := bindS hm
                    refine t_pullb 1 rfl ?_
                    refine t_pullb 2 rfl ?_
                    refine t_front2 [_, _, _] hs1834 hs1839 R rfl ?_
                    refine t_out1 [_, _, _] [] hs1839 (hs1834 ++ R) rfl ?_
                    refine t_callvG #[] #[.pointer (some ⟨g1861, 0, none⟩), .pointer (some ⟨g1244, 0, none⟩), .pointer (some ⟨g1075, 0, none⟩)] [.int .i64 (x1955)] rfl rfl call62 rfl (cRunSmooth_1 _ _ x1955 x1848 x5 l1842 g1861 g1244 g1075 A1858 c1859 A1242 c1243 hs1839 (h1860.le hle1954) (h1840.le hle1954) x1966 hcl1967) ?_
                    rintro _ b1968 _ hle1969 ⟨rfl, rfl⟩
                    refine t_in1 [_, _, _] [] hs1839 (hs1834 ++ R) rfl ?_
                    refine t_yes 73 rfl rfl rfl ?_
                    refine t_st rfl (st_not rfl) ?_
                    refine t_st rfl (st_pick_t rfl rfl) ?_
                    refine t_nil ?_
                    obtain rfl := some1 hm
                    refine x_pullb 1 rfl ?_
                    refine x_pullb 2 rfl ?_
                    refine x_front2 [_, _, _] hs1839 hs1834 R rfl ?_
                    exact x_join (e' := [(2, .int .i64 (x6)), (4, .pointer (some ⟨g1075, 0, none⟩)), (14, .pointer (some ⟨g1244, 0, none⟩)), (15, .slice A1835 (l1841).length c1836), (17, .pointer (some ⟨g1861, 0, none⟩)), (18, .func (.func 62) #[] #[.pointer (some ⟨g1861, 0, none⟩), .pointer (some ⟨g1244, 0, none⟩), .pointer (some ⟨g1075, 0, none⟩)]), (19, .int .i64 (x1955)), (63, .slice A1 (l4).length c2), (64, .int .i64 ((l4.length : Int))), (65, .int .i64 ((k1844 : Int))), (78, .bool (!x1966))]) (hp' := (g1075, Cl 3 [.int .i64 (x5)]) :: (g1244, Cl 24 [.slice A1242 (l1842).length c1243]) :: (g1861, Cl 24 [.slice A1858 (x1848).length c1859]) :: (hs1834 ++ (hs1839 ++ R))) ⟨rfl, rfl, rfl, rfl, rfl, rfl, rfl, rfl, rfl, rfl, rfl, trivial⟩ (.cons_cons _ (.cons_cons _ (.cons_cons _ (sub_app hs1834 (sub_app hs1839 (.refl _)))))) ⟨rfl, rfl, hle1969⟩
                  ·
                    rw [if_neg hc1965] at hm
                    refine t_st rfl (st_move rfl) ?_
                    refine t_no 73 rfl rfl rfl rfl rfl ?_
                    refine t_no 73 rfl rfl rfl rfl rfl ?_
                    refine t_no 73 rfl rfl rfl rfl rfl ?_
                    refine t_no 73 rfl rfl rfl rfl rfl ?_
                    refine t_st rfl (st_pick_f rfl rfl) ?_
                    refine t_nil ?_
                    obtain rfl := some1 hm
                    refine x_pullb 2 rfl ?_
                    refine x_pullb 2 rfl ?_
                    refine x_pullb 2 rfl ?_
                    refine x_front2 [_, _, _] hs1834 hs1839 R rfl ?_
                    refine x_front2 [_, _, _] hs1839 hs1834 R rfl ?_
                    exact x_join (e' := [(2, .int .i64 (x6)), (4, .pointer (some ⟨g1075, 0, none⟩)), (14, .pointer (some ⟨g1244, 0, none⟩)), (15, .slice A1835 (l1841).length c1836), (17, .pointer (some ⟨g1861, 0, none⟩)), (18, .func (.func 62) #[] #[.pointer (some ⟨g1861, 0, none⟩), .pointer (some ⟨g1244, 0, none⟩), .pointer (some ⟨g1075, 0, none⟩)]), (19, .int .i64 (x1955)), (63, .slice A1 (l4).length c2), (64, .int .i64 ((l4.length : Int))), (65, .int .i64 ((k1844 : Int))), (78, .bool (false))]) (hp' := (g1075, Cl 3 [.int .i64 (x5)]) :: (g1244, Cl 24 [.slice A1242 (l1842).length c1243]) :: (g1861, Cl 24 [.slice A1858 (x1848).length c1859]) :: (hs1834 ++ (hs1839 ++ R))) ⟨rfl, rfl, rfl, rfl, rfl, rfl, rfl, rfl, rfl, rfl, rfl, trivial⟩ (.cons_cons _ (.cons_cons _ (.cons_cons _ (sub_app hs1834 (sub_app hs1839 (.refl _)))))) ⟨rfl, rfl, (Base.Le.refl _)⟩
                ·
                  rintro b1961 _ _ ⟨rfl, rfl, hle1962⟩
                  have hm := hk1964
                  refine c_cond _ rfl (fun hc1970 => ?_) (fun hc1970 => ?_)
                  ·
                    rw [if_pos hc1970] at hm
                    refine c_skip ?_
                    refine x_then_normal ?_
                    refine c_block ?_
                    refine c_region ?_
                    refine t_st rfl (st_move rfl) ?_
                    obtain ⟨_, h1971, hm⟩ := bindS hm
                    have h1971 := (chk_some h1971).2
                    refine t_st rfl (st_add rfl rfl h1971) ?_
                    refine t_st rfl (st_assign rfl) ?_
                    refine t_nil ?_
                    refine x_block_normal ?_
                    refine x_pullb 2 rfl ?_
                    refine x_pullb 2 rfl ?_
                    refine x_pullb 2 rfl ?_
                    refine x_front2 [_, _, _] hs1834 hs1839 R rfl ?_
                    refine x_front2 [_, _, _] hs1839 hs1834 R rfl ?_
                    exact x_againM (x1955 + 1) (Option.some.inj hm).symm (e' := [(2, .int .i64 (x6)), (4, .pointer (some ⟨g1075, 0, none⟩)), (14, .pointer (some ⟨g1244, 0, none⟩)), (15, .slice A1835 (l1841).length c1836), (17, .pointer (some ⟨g1861, 0, none⟩)), (18, .func (.func 62) #[] #[.pointer (some ⟨g1861, 0, none⟩), .pointer (some ⟨g1244, 0, none⟩), .pointer (some ⟨g1075, 0, none⟩)]), (19, .int .i64 (x1955 + 1)), (63, .slice A1 (l4).length c2), (64, .int .i64 ((l4.length : Int))), (65, .int .i64 ((k1844 : Int)))]) (hp' := (g1075, Cl 3 [.int .i64 (x5)]) :: (g1244, Cl 24 [.slice A1242 (l1842).length c1243]) :: (g1861, Cl 24 [.slice A1858 (x1848).length c1859]) :: (hs1834 ++ (hs1839 ++ R))) ⟨rfl, rfl, rfl, rfl, rfl, rfl, rfl, rfl, rfl, rfl, trivial⟩ (.cons_cons _ (.cons_cons _ (.cons_cons _ (sub_app hs1834 (sub_app hs1839 (.refl _)))))) ⟨rfl, rfl, ((hle1954.trans hle1962))⟩
                  ·
                    rw [if_neg (fun hh => Bool.noConfusion (hh.symm.trans hc1970))] at hm
                    refine c_exit ?_
                    refine x_then_exit ?_
                    refine x_then_exit ?_
                    refine x_block_out ?_
                    have hm := congrArg some (houtL1919 _ (Option.some.inj hm).symm)
                    obtain rfl := some1 hm
                    refine x_pullb 2 rfl ?_
                    refine x_pullb 2 rfl ?_
                    refine x_pullb 2 rfl ?_
                    refine x_front2 [_, _, _] hs1834 hs1839 R rfl ?_
                    refine x_front2 [_, _, _] hs1839 hs1834 R rfl ?_
                    exact x_join (e' := [(2, .int .i64 (x6)), (4, .pointer (some ⟨g1075, 0, none⟩)), (14, .pointer (some ⟨g1244, 0, none⟩)), (15, .slice A1835 (l1841).length c1836), (17, .pointer (some ⟨g1861, 0, none⟩)), (19, .int .i64 (x1955)), (63, .slice A1 (l4).length c2), (64, .int .i64 ((l4.length : Int))), (65, .int .i64 ((k1844 : Int)))]) (hp' := (g1075, Cl 3 [.int .i64 (x5)]) :: (g1244, Cl 24 [.slice A1242 (l1842).length c1243]) :: (g1861, Cl 24 [.slice A1858 (x1848).length c1859]) :: (hs1834 ++ (hs1839 ++ R))) ⟨rfl, rfl, rfl, rfl, rfl, rfl, rfl, rfl, rfl, trivial⟩ (.cons_cons _ (.cons_cons _ (.cons_cons _ (sub_app hs1834 (sub_app hs1839 (.refl _)))))) ⟨rfl, rfl, (hle1954.trans hle1962)⟩
              ·
                rintro b1915 _ _ ⟨rfl, rfl, hle1916⟩
                have hm := hk1918
                refine c_seq ?_
                refine c_seq ?_
                refine c_region ?_
                refine t_st rfl (st_move rfl) ?_
                refine t_st rfl (st_move rfl) ?_
                refine t_st rfl (st_gtr rfl rfl) ?_
                refine t_nil ?_
                refine x_then_normal ?_
                refine c_cond _ rfl (fun hc1972 => ?_) (fun hc1972 => ?_)
                ·
                  rw [if_pos (of_decide_eq_true hc1972)] at hm
                  refine c_seq ?_
                  refine c_region ?_
                  refine t_st rfl (st_assign rfl) ?_
                  refine t_st rfl (st_assign rfl) ?_
                  refine t_nil ?_
                  refine x_then_normal ?_
                  refine c_ret ?_
                  refine x_then_ret ?_
                  refine x_block_ret ?_
                  refine x_then_ret ?_
                  refine x_then_ret ?_
                  refine x_block_ret ?_
                  refine x_then_ret ?_
                  have hq1973 := houtL1245 _ (Option.some.inj hm).symm
                  rw [hq1973] at hk1847
                  have hm := elimR hk1847
                  obtain ⟨rfl, rfl⟩ := some2 hm
                  exact retM (rs := [.tmp 6, .tmp 7]) [.slice none 0 0, .int .i64 (9)] (hle1094.trans (hle1166.trans (hle1228.trans (hle1832.trans hle1916)))) (by decide) rfl ⟨rfl, ⟨rfl, trivial⟩⟩ rfl (hp' := ([] ++ R)) (.cons _ (.cons _ (.cons _ (sub_skip hs1834 (sub_skip hs1839 (.refl _)))))) ⟨none, 0, [], rfl, rfl, OS.nil⟩
                ·
                  rw [if_neg (of_decide_eq_false hc1972)] at hm
                  refine c_skip ?_
                  refine x_then_normal ?_
                  refine c_seq ?_
                  refine c_seq ?_
                  refine c_region ?_
                  refine t_st rfl (st_load 2 rfl one24 rfl rfl) ?_
                  refine t_st rfl (st_len rfl sl24) ?_
                  refine t_st rfl (st_move rfl) ?_
                  refine t_nil ?_
                  refine x_then_normal ?_
                  refine c_block ?_
                  have hb1975 := (FZ.bd (h1860.le hle1916))
                  refine c_pullb 1 rfl ?_
                  refine c_pullb 1 rfl ?_
                  refine c_front2 [_, _, _] hs1834 hs1839 R rfl ?_
                  refine c_front2 [_, _, _] hs1839 hs1834 R rfl ?_
                  obtain ⟨l2078, hl2081, hk2082⟩ := bindS hm
                  refine c_forS (fun k2080 => fun l2078 => fun b2073 e' hp' => ∃ (hs2076 : Hp), [(2, .int .i64 (x6)), (4, .pointer (some ⟨g1075, 0, none⟩)), (14, .pointer (some ⟨g1244, 0, none⟩)), (15, .slice A1835 (l1841).length c1836), (19, .int .i64 (x1917)), (63, .slice A1 (l4).length c2), (64, .int .i64 ((l4.length : Int))), (65, .int .i64 ((k1844 : Int))), (84, .slice A1858 (x1848).length c1859), (85, .int .i64 ((x1848.length : Int))), (86, .int .i64 ((k2080 : Int)))] = e' ∧ (g1075, Cl 3 [.int .i64 (x5)]) :: (g1244, Cl 24 [.slice A1242 (l2078).length c1243]) :: (hs1834 ++ (hs2076 ++ R)) = hp' ∧ b1915.Le b2073 ∧ OS 3 (OT.fr (RT.int .i64)) b2073.w (.slice A1242 l2078.length c1243) l2078 hs2076 ∧ l2078.length = m1238) hl2081 (e' := [(2, .int .i64 (x6)), (4, .pointer (some ⟨g1075, 0, none⟩)), (14, .pointer (some ⟨g1244, 0, none⟩)), (15, .slice A1835 (l1841).length c1836), (19, .int .i64 (x1917)), (63, .slice A1 (l4).length c2), (64, .int .i64 ((l4.length : Int))), (65, .int .i64 ((k1844 : Int))), (84, .slice A1858 (x1848).length c1859), (85, .int .i64 ((x1848.length : Int))), (86, .int .i64 0)]) (hp' := (g1075, Cl 3 [.int .i64 (x5)]) :: (g1244, Cl 24 [.slice A1242 (l1842).length c1243]) :: (hs1834 ++ (hs1839 ++ R))) ⟨rfl, rfl, rfl, rfl, rfl, rfl, rfl, rfl, rfl, rfl, rfl, trivial⟩ (.cons_cons _ (.cons_cons _ (.cons _ (sub_app hs1834 (sub_app hs1839 (.refl _)))))) ⟨hs1839, rfl, rfl, (Base.Le.refl _), (h1840.le hle1916), hln1843⟩ ?_ ?_
                  ·
                    rintro k2080 l2078 b2073 _ _ oL1974 hknL1974 ⟨hs2076, rfl, rfl, hle2074, h2077, hln2079⟩ hstepL1974
                    unfold mRunSmooth_L1974 at hstepL1974
                    have hm := hstepL1974
                    refine c_seq ?_
                    refine c_region ?_
                    refine t_st rfl (st_lss_t rfl rfl (by omega)) ?_
                    refine t_nil ?_
                    refine x_then_normal ?_
                    refine c_seq ?_
                    refine c_cond_t rfl ?_
                    refine c_skip ?_
                    refine x_then_normal ?_
                    refine c_seq ?_
                    refine c_block ?_
                    refine c_seq ?_
                    refine c_region ?_
                    refine t_st rfl (st_move rfl) ?_
                    obtain ⟨x2083, h2084, hm⟩ := bindS hm
                    obtain ⟨j2085, hj2086, hx2087⟩ := idx_some h2084
                    obtain ⟨cs2088, hr2089, hcs2090, hA2091, hlt2092⟩ := FZ.get (sz := 1) rfl (by decide) (h1860.le (hle1916.trans hle2074)) hx2087
                    obtain rfl := hr2089
                    refine t_st rfl (st_index_old j2085 rfl rfl hj2086 hlt2092 hA2091 sl24) ?_
                    refine t_st rfl (st_load_old rfl one3 (hcs2090 0 _ rfl)) ?_
                    refine t_st rfl (st_assign rfl) ?_
                    refine t_st rfl (st_assign rfl) ?_
                    refine t_nil ?_
                    refine x_then_normal ?_
                    refine c_region ?_
                    refine t_st rfl (st_load 1 rfl one24 rfl rfl) ?_
                    refine t_st rfl (st_move rfl) ?_
                    refine t_st rfl (st_move rfl) ?_
                    obtain ⟨_, h2093, hm⟩ := bindS hm
                    have h2093 := (chk_some h2093).2
                    refine t_st rfl (st_add rfl rfl h2093) ?_
                    obtain ⟨x2094, h2095, hm⟩ := bindS hm
                    obtain ⟨j2096, hj2097, hx2098⟩ := idx_some h2095
                    obtain ⟨cs2099, hs2104, P2105, P2106, hq2107, hr2100, hcs2101, hA2102, hlt2103, hb2108, hho2109⟩ := OS.get (sz := 1) rfl (by decide) h2077 hx2098
                    obtain ⟨rfl, rfl⟩ := hr2100
                    refine t_st rfl (st_index_old j2096 rfl rfl hj2097 hlt2103 hA2102 sl24) ?_
                    refine t_st rfl (st_load_rd rfl one3 (fun w ho => hcs2101 w _ ho (.cons _ (.cons _ (sub_skip hs1834 (List.sublist_append_left _ _)))) 0 _ rfl)) ?_
                    refine t_st rfl (st_move rfl) ?_
                    obtain ⟨_, h2110, hm⟩ := bindS hm
                    have h2110 := (chk_some h2110).2
                    refine t_st rfl (st_add rfl rfl h2110) ?_
                    obtain ⟨x2111, h2112, hm⟩ := bindS hm
                    obtain ⟨j2113, hj2114, hx2115⟩ := idx_some h2112
                    obtain ⟨cs2116, hs2121, P2122, P2123, hq2124, hr2117, hcs2118, hA2119, hlt2120, hb2125, hho2126⟩ := OS.get (sz := 1) rfl (by decide) h2077 hx2115
                    obtain ⟨rfl, rfl⟩ := hr2117
                    refine t_st rfl (st_index_old j2113 rfl rfl hj2114 hlt2120 hA2119 sl24) ?_
                    refine t_front2 [_, _] hs1834 hs2076 R rfl ?_
                    refine t_do rfl (u_putOS hj2114 (sz := 1) (a' := x2094 + x2083) rfl [_, _] (hs1834 ++ R) 0 1 [.int .i64 (x2094 + x2083)] rfl h2077 hx2115 rfl rfl rfl siz3 rfl (by intro u hu; simp only [List.mem_cons, List.not_mem_nil, or_false] at hu; subst hu; rfl) (fun cs hsj hh => by obtain ⟨rfl, rfl⟩ := hh; exact ⟨by decide, rfl, rfl⟩)) ?_
                    rintro _ _ ⟨hs2127, rfl, h2128⟩
                    refine t_hresp 1 rfl (o' := Cl 24 [.slice A1242 (put l2078 (x1917 + (k2080 : Int)) (x2094 + x2083)).length c1243]) (by simp only [put_length]) ?_
                    refine t_nil ?_
                    refine x_block_normal ?_
                    refine x_then_normal ?_
                    refine c_region ?_
                    refine t_st rfl (st_add rfl rfl (by omega)) ?_
                    refine t_st rfl (st_move rfl) ?_
                    refine t_nil ?_
                    refine x_pullb 1 rfl ?_
                    refine x_pullb 1 rfl ?_
                    refine x_front2 [_, _] hs2127 hs1834 R rfl ?_
                    obtain rfl := some1 hm
                    exact x_againS (e' := [(2, .int .i64 (x6)), (4, .pointer (some ⟨g1075, 0, none⟩)), (14, .pointer (some ⟨g1244, 0, none⟩)), (15, .slice A1835 (l1841).length c1836), (19, .int .i64 (x1917)), (63, .slice A1 (l4).length c2), (64, .int .i64 ((l4.length : Int))), (65, .int .i64 ((k1844 : Int))), (84, .slice A1858 (x1848).length c1859), (85, .int .i64 ((x1848.length : Int))), (86, .int .i64 ((k2080 : Int) + 1))]) (hp' := (g1075, Cl 3 [.int .i64 (x5)]) :: (g1244, Cl 24 [.slice A1242 (put l2078 (x1917 + (k2080 : Int)) (x2094 + x2083)).length c1243]) :: (hs1834 ++ (hs2127 ++ R))) ⟨rfl, rfl, rfl, rfl, rfl, rfl, rfl, rfl, rfl, rfl, rfl, trivial⟩ (.cons_cons _ (.cons_cons _ (sub_app hs1834 (sub_app hs2127 (.refl _))))) ⟨hs2127, rfl, rfl, (hle2074), h2128, ((put_length _ _ _).trans hln2079)⟩
                  ·
                    rintro b2073 _ _ ⟨hs2076, rfl, rfl, hle2074, h2077, hln2079⟩
                    have hm := hk2082
                    refine c_seq ?_
                    refine c_region ?_
                    refine t_st rfl (st_lss_f rfl rfl (by omega)) ?_
                    refine t_nil ?_
                    refine x_then_normal ?_
                    refine c_seq ?_
                    refine c_cond_f rfl ?_
                    refine c_exit ?_
                    refine x_then_exit ?_
                    refine x_then_exit ?_
                    refine x_block_out ?_
                    refine x_then_normal ?_
                    refine c_region ?_
                    refine t_st rfl (st_move rfl) ?_
                    refine t_st rfl (st_move rfl) ?_
                    refine t_do rfl (u_bslice (el := 3) [(0, .int .i64 (x1917))] [.int .i64 (x1917)] rfl (fun _ => by kernel_rfl)) ?_
                    rintro _ _ ⟨g2129, rfl, rfl⟩
                    obtain ⟨_, h2130, hm⟩ := bindS hm
                    have h2130 := room_some h2130
                    refine t_do rfl (u_appOS (r := (RT.int .i64)) (l := l1841) [_, _, _] (hs2076 ++ R) [[.int .i64 (x1917)]] [x1917] rfl (by decide) sl24 inf3 rfl rfl rfl rfl (h1837.le (hle1916.trans hle2074)) rfl (fun w ho => Rd.own (i := 0) ho rfl) ⟨rfl, trivial⟩ h2130) ?_
                    rintro _ _ ⟨hs2131, rfl, h2132⟩
                    obtain ⟨A2133, c2134, rfl, _⟩ := h2132.form
                    refine t_st rfl (st_assign rfl) ?_
                    refine t_nil ?_
                    refine x_block_normal ?_
                    refine x_then_normal ?_
                    refine c_region ?_
                    refine t_st rfl (st_add rfl rfl (by omega)) ?_
                    refine t_st rfl (st_move rfl) ?_
                    refine t_nil ?_
                    refine x_pullb 2 rfl ?_
                    refine x_pullb 2 rfl ?_
                    refine x_front2 [_, _, _] hs2131 hs2076 R rfl ?_
                    refine x_front2 [_, _, _] hs2076 hs2131 R rfl ?_
                    exact x_againM (l1841 ++ [x1917], l2078) (Option.some.inj hm).symm (e' := [(2, .int .i64 (x6)), (4, .pointer (some ⟨g1075, 0, none⟩)), (14, .pointer (some ⟨g1244, 0, none⟩)), (15, .slice A2133 (l1841 ++ [x1917]).length c2134), (63, .slice A1 (l4).length c2), (64, .int .i64 ((l4.length : Int))), (65, .int .i64 ((k1844 : Int) + 1))]) (hp' := (g1075, Cl 3 [.int .i64 (x5)]) :: (g1244, Cl 24 [.slice A1242 (l2078).length c1243]) :: (hs2131 ++ (hs2076 ++ R))) ⟨rfl, rfl, rfl, rfl, rfl, rfl, rfl, trivial⟩ (.cons_cons _ (.cons_cons _ (.cons _ (sub_app hs2131 (sub_app hs2076 (.refl _)))))) ⟨A2133, c2134, hs2131, hs2076, rfl, rfl, ((hle1832.trans (hle1916.trans hle2074))), h2132, h2077, hln2079⟩
            ·
              rintro ⟨l1841, l1842⟩ b1831 _ _ ⟨A1835, c1836, hs1834, hs1839, rfl, rfl, hle1832, h1837, h1840, hln1843⟩ hq2135
              rw [hq2135] at hk1847
              have hm := elimL hk1847
              have hm := (unc2E hm)
              refine c_seq ?_
              refine c_region ?_
              refine t_st rfl (st_lss_f rfl rfl (by omega)) ?_
              refine t_nil ?_
              refine x_then_normal ?_
              refine c_seq ?_
              refine c_cond_f rfl ?_
              refine c_exit ?_
              refine x_then_exit ?_
              refine x_then_exit ?_
              refine x_block_out ?_
              refine x_then_normal ?_
              refine c_seq ?_
              refine c_region ?_
              refine t_st rfl (st_move rfl) ?_
              refine t_st rfl (st_assign rfl) ?_
              refine t_st rfl (st_assign rfl) ?_
              refine t_nil ?_
              refine x_then_normal ?_
              refine c_ret ?_
              obtain ⟨rfl, rfl⟩ := some2 hm
              exact retM (rs := [.tmp 6, .tmp 7]) [.slice A1835 (l1841).length c1836, .int .i64 (0)] (hle1094.trans (hle1166.trans (hle1228.trans hle1832))) (by decide) rfl ⟨rfl, ⟨rfl, trivial⟩⟩ rfl (hp' := (hs1834 ++ R)) (.cons _ (.cons _ (sub_app hs1834 (sub_skip hs1839 (.refl _))))) ⟨A1835, c1836, hs1834, rfl, rfl, h1837⟩

set_option maxRecDepth 20000 in
theorem cFishkeep1Fits (b : Base) (R : Hp) (l4 : (List Int)) (l8 : (List Int)) (x9 : Int) (x10 : Int) (A1 : Option Addr) (c2 : Nat) (A5 : Option Addr) (c6 : Nat) (h3 : FZ (RT.int .i64) b.w A1 c2 l4) (h7 : FZ (RT.int .i64) b.w A5 c6 l8) (x67 : Bool) (hm : mFishkeep1Fits l4 l8 x9 x10 = some x67) :
    CallsG Tryd.prog 29 [.slice A1 (l4).length c2, .slice A5 (l8).length c6, .int .i64 (x9), .int .i64 (x10)] b (R) (fun v b' hp' => .bool (x67) = v ∧ R = hp') := by
  refine fn_enterG 29 Tryd.func29 rfl Tryd.ntmps29 rfl ?_
  unfold mFishkeep1Fits at hm
  refine c_seq ?_
  refine c_region ?_
  refine t_st rfl (st_assign rfl) ?_
  refine t_nil ?_
  refine x_then_normal ?_
  refine c_seq ?_
  refine c_seq ?_
  refine c_region ?_
  refine t_st rfl (st_move rfl) ?_
  refine t_st rfl (st_len rfl sl24) ?_
  refine t_st rfl (st_move rfl) ?_
  refine t_nil ?_
  refine x_then_normal ?_
  refine c_block ?_
  have hb69 := (FZ.bd h7)
  obtain ⟨t96, hl97, hk98⟩ := bindS hm
  refine c_forM (fun k95 => fun _ => fun b93 e' hp' => [(0, .slice A1 (l4).length c2), (2, .int .i64 (x9)), (3, .int .i64 (x10)), (11, .slice A5 (l8).length c6), (12, .int .i64 ((l8.length : Int))), (13, .int .i64 ((k95 : Int)))] = e' ∧ R = hp' ∧ b.Le b93) hl97 (e' := [(0, .slice A1 (l4).length c2), (2, .int .i64 (x9)), (3, .int .i64 (x10)), (11, .slice A5 (l8).length c6), (12, .int .i64 ((l8.length : Int))), (13, .int .i64 0)]) (hp' := R) ⟨rfl, rfl, rfl, rfl, rfl, rfl, trivial⟩ (.refl _) ⟨rfl, rfl, (Base.Le.refl _)⟩ ?_ ?_
  ·
    rintro k95 _ b93 _ _ oL68 hknL68 ⟨rfl, rfl, hle94⟩ hstepL68 houtL68
    unfold mFishkeep1Fits_L68 at hstepL68
    have hm := hstepL68
    refine c_seq ?_
    refine c_region ?_
    refine t_st rfl (st_lss_t rfl rfl (by omega)) ?_
    refine t_nil ?_
    refine x_then_normal ?_
    refine c_seq ?_
    refine c_cond_t rfl ?_
    refine c_skip ?_
    refine x_then_normal ?_
    refine c_seq ?_
    refine c_block ?_
    refine c_seq ?_
    refine c_region ?_
    refine t_st rfl (st_move rfl) ?_
    obtain ⟨x99, h100, hm⟩ := bindS hm
    obtain ⟨j101, hj102, hx103⟩ := idx_some h100
    obtain ⟨cs104, hr105, hcs106, hA107, hlt108⟩ := FZ.get (sz := 1) rfl (by decide) (h7.le hle94) hx103
    obtain rfl := hr105
    refine t_st rfl (st_index_old j101 rfl rfl hj102 hlt108 hA107 sl24) ?_
    refine t_st rfl (st_load_old rfl one3 (hcs106 0 _ rfl)) ?_
    refine t_st rfl (st_assign rfl) ?_
    refine t_st rfl (st_assign rfl) ?_
    refine t_nil ?_
    refine x_then_normal ?_
    refine c_seq ?_
    refine c_region ?_
    refine t_st rfl (st_move rfl) ?_
    refine t_st rfl (st_move rfl) ?_
    refine t_st rfl (st_move rfl) ?_
    obtain ⟨_, h109, hm⟩ := bindS hm
    have h109 := (chk_some h109).2
    refine t_st rfl (st_add rfl rfl h109) ?_
    obtain ⟨x110, h111, hm⟩ := bindS hm
    obtain ⟨j112, hj113, hx114⟩ := idx_some h111
    obtain ⟨cs115, hr116, hcs117, hA118, hlt119⟩ := FZ.get (sz := 1) rfl (by decide) (h3.le hle94) hx114
    obtain rfl := hr116
    refine t_st rfl (st_index_old j112 rfl rfl hj113 hlt119 hA118 sl24) ?_
    refine t_st rfl (st_load_old rfl one3 (hcs117 0 _ rfl)) ?_
    refine t_st rfl (st_move rfl) ?_
    obtain ⟨_, h120, hm⟩ := bindS hm
    have h120 := (chk_some h120).2
    refine t_st rfl (st_add rfl rfl h120) ?_
    refine t_st rfl (st_move rfl) ?_
    refine t_st rfl (st_gtr rfl rfl) ?_
    refine t_nil ?_
    refine x_then_normal ?_
    refine c_cond _ rfl (fun hc121 => ?_) (fun hc121 => ?_)
    ·
      rw [if_pos (of_decide_eq_true hc121)] at hm
      refine c_seq ?_
      refine c_region ?_
      refine t_st rfl (st_assign rfl) ?_
      refine t_nil ?_
      refine x_then_normal ?_
      refine c_ret ?_
      refine x_block_ret ?_
      refine x_then_ret ?_
      refine x_then_ret ?_
      refine x_block_ret ?_
      refine x_then_ret ?_
      have hq122 := houtL68 _ (Option.some.inj hm).symm
      rw [hq122] at hk98
      have hm := elimR hk98
      obtain rfl := some1 hm
      exact retM (rs := [.tmp 8]) [.bool (false)] hle94 (by decide) rfl ⟨rfl, trivial⟩ rfl (hp' := R) (.refl _) ⟨rfl, rfl⟩
    ·
      rw [if_neg (of_decide_eq_false hc121)] at hm
      refine c_skip ?_
      refine x_block_normal ?_
      refine x_then_normal ?_
      refine c_region ?_
      refine t_st rfl (st_add rfl rfl (by omega)) ?_
      refine t_st rfl (st_move rfl) ?_
      refine t_nil ?_
      exact x_againM () (Option.some.inj hm).symm (e' := [(0, .slice A1 (l4).length c2), (2, .int .i64 (x9)), (3, .int .i64 (x10)), (11, .slice A5 (l8).length c6), (12, .int .i64 ((l8.length : Int))), (13, .int .i64 ((k95 : Int) + 1))]) (hp' := R) ⟨rfl, rfl, rfl, rfl, rfl, rfl, trivial⟩ (.refl _) ⟨rfl, rfl, (hle94)⟩
  ·
    rintro _ b93 _ _ ⟨rfl, rfl, hle94⟩ hq123
    rw [hq123] at hk98
    have hm := elimL hk98
    refine c_seq ?_
    refine c_region ?_
    refine t_st rfl (st_lss_f rfl rfl (by omega)) ?_
    refine t_nil ?_
    refine x_then_normal ?_
    refine c_seq ?_
    refine c_cond_f rfl ?_
    refine c_exit ?_
    refine x_then_exit ?_
    refine x_then_exit ?_
    refine x_block_out ?_
    refine x_then_normal ?_
    refine c_seq ?_
    refine c_region ?_
    refine t_st rfl (st_assign rfl) ?_
    refine t_nil ?_
    refine x_then_normal ?_
    refine c_ret ?_
    obtain rfl := some1 hm
    exact retM (rs := [.tmp 8]) [.bool (true)] hle94 (by decide) rfl ⟨rfl, trivial⟩ rfl (hp' := R) (.refl _) ⟨rfl, rfl⟩

set_option maxRecDepth 20000 in
theorem cFishkeep1RunSmooth (b : Base) (R : Hp) (l4 : (List (List Int))) (x5 : Int) (x6 : Int) (A1 : Option Addr) (c2 : Nat) (h3 : FZ (RT.list (RT.int .i64)) b.w A1 c2 l4) (x1244 : Bool) (hm : mFishkeep1RunSmooth l4 x5 x6 = some x1244) :
    CallsG Tryd.prog 8 [.slice A1 (l4).length c2, .int .i64 (x5), .int .i64 (x6)] b (R) (fun v b' hp' => .bool (x1244) = v ∧ R = hp') := by
  refine fn_enterG 104 Tryd.func8 rfl Tryd.ntmps8 rfl ?_
  unfold mFishkeep1RunSmooth at hm
  refine c_seq ?_
  refine c_region ?_
  refine t_st rfl (st_assign rfl) ?_
  refine t_nil ?_
  refine x_then_normal ?_
  refine c_seq ?_
  refine c_seq ?_
  refine c_region ?_
  obtain ⟨x1245, hcl1246, hm⟩ := bindS hm
  refine t_do rfl (u_callW0 _ call21 rfl (fun w ho => cFishkeep1AwakeRun _ [] x1245 hcl1246) (fun _ _ _ h => h.2.symm)) ?_
  rintro _ _ ⟨⟨_, rfl, _⟩, rfl⟩
  refine t_st rfl (st_not rfl) ?_
  refine t_nil ?_
  refine x_then_normal ?_
  refine c_cond _ rfl (fun hc1247 => ?_) (fun hc1247 => ?_)
  ·
    rw [if_neg (fun hh => Bool.noConfusion (hh.symm.trans (notT hc1247)))] at hm
    refine c_seq ?_
    refine c_region ?_
    refine t_st rfl (st_assign rfl) ?_
    refine t_nil ?_
    refine x_then_normal ?_
    refine c_ret ?_
    refine x_then_ret ?_
    obtain rfl := some1 hm
    exact retM (rs := [.tmp 6]) [.bool (false)] (Base.Le.refl _) (by decide) rfl ⟨rfl, trivial⟩ rfl (hp' := R) (.refl _) ⟨rfl, rfl⟩
  ·
    rw [if_pos (notF hc1247)] at hm
    refine c_skip ?_
    refine x_then_normal ?_
    refine c_seq ?_
    refine c_region ?_
    refine t_st rfl (st_move rfl) ?_
    refine t_st rfl (st_move rfl) ?_
    refine t_st rfl (st_move rfl) ?_
    obtain ⟨⟨x1248, l1249⟩, hcl1250, hm⟩ := bindS hm
    have hm := (unc2E hm)
    refine t_callG _ rfl call28 rfl (cRunSmooth _ _ l4 x5 x6 A1 c2 h3 x1248 l1249 hcl1250) ?_
    rintro _ b1251 _ hle1252 ⟨A1253, c1254, hs1255, rfl, rfl, h1256⟩
    refine t_in1 [] [] hs1255 R rfl ?_
    refine t_st rfl (st_move rfl) ?_
    refine t_st rfl (st_extract rfl rfl) ?_
    refine t_st rfl (st_extract rfl rfl) ?_
    refine t_st rfl (st_assign rfl) ?_
    refine t_st rfl (st_assign rfl) ?_
    refine t_nil ?_
    refine x_then_normal ?_
    refine c_seq ?_
    refine c_seq ?_
    refine c_region ?_
    refine t_st rfl (st_move rfl) ?_
    refine t_st rfl (st_neq rfl rfl) ?_
    refine t_nil ?_
    refine x_then_normal ?_
    refine c_cond _ rfl (fun hc1257 => ?_) (fun hc1257 => ?_)
    ·
      rw [if_pos (of_decide_eq_true hc1257)] at hm
      refine c_seq ?_
      refine c_region ?_
      refine t_st rfl (st_move rfl) ?_
      refine t_st rfl (st_len rfl sl24) ?_
      refine t_st rfl (st_eql rfl rfl) ?_
      refine t_st rfl (st_assign rfl) ?_
      refine t_nil ?_
      refine x_then_normal ?_
      refine c_ret ?_
      refine x_then_ret ?_
      obtain rfl := some1 hm
      exact retM (rs := [.tmp 6]) [.bool (decide ((l1249.length : Int) = 0))] hle1252 (by decide) rfl ⟨rfl, trivial⟩ rfl (hp' := R) (sub_skip hs1255 (.refl _)) ⟨rfl, rfl⟩
    ·
      rw [if_neg (of_decide_eq_false hc1257)] at hm
      refine c_skip ?_
      refine x_then_normal ?_
      refine c_seq ?_
      refine c_seq ?_
      refine c_region ?_
      refine t_st rfl (st_move rfl) ?_
      refine t_st rfl (st_len rfl sl24) ?_
      refine t_st rfl (st_move rfl) ?_
      refine t_st rfl (st_len rfl sl59) ?_
      refine t_st rfl (st_neq rfl rfl) ?_
      refine t_nil ?_
      refine x_then_normal ?_
      refine c_cond _ rfl (fun hc1258 => ?_) (fun hc1258 => ?_)
      ·
        rw [if_pos (of_decide_eq_true hc1258)] at hm
        refine c_seq ?_
        refine c_region ?_
        refine t_st rfl (st_assign rfl) ?_
        refine t_nil ?_
        refine x_then_normal ?_
        refine c_ret ?_
        refine x_then_ret ?_
        obtain rfl := some1 hm
        exact retM (rs := [.tmp 6]) [.bool (false)] hle1252 (by decide) rfl ⟨rfl, trivial⟩ rfl (hp' := R) (sub_skip hs1255 (.refl _)) ⟨rfl, rfl⟩
      ·
        rw [if_neg (of_decide_eq_false hc1258)] at hm
        refine c_skip ?_
        refine x_then_normal ?_
        refine c_seq ?_
        refine c_region ?_
        obtain ⟨m1259, h1260, hm⟩ := bindS hm
        have h1260 := mkLen_some h1260
        refine t_do rfl (u_mkOS (r := (RT.int .i64)) [] (hs1255 ++ R) [.int .i64 (0)] 0 m1259 rfl h1260.1 rfl rfl sl24 inf3 rfl rfl rfl (by decide) rfl h1260.2.1 h1260.2.2) ?_
        rintro _ _ ⟨hs1261, rfl, h1262⟩
        obtain ⟨A1263, c1264, rfl, _⟩ := h1262.form
        refine t_st rfl (st_assign rfl) ?_
        refine t_nil ?_
        refine x_then_normal ?_
        refine c_seq ?_
        refine c_seq ?_
        refine c_region ?_
        refine t_st rfl (st_move rfl) ?_
        refine t_st rfl (st_len rfl sl59) ?_
        refine t_st rfl (st_move rfl) ?_
        refine t_nil ?_
        refine x_then_normal ?_
        refine c_block ?_
        have hb1266 := (FZ.bd (h3.le hle1252))
        refine c_front2 [] hs1261 hs1255 R rfl ?_
        obtain ⟨t2078, hl2079, hk2080⟩ := bindS hm
        refine c_forM (fun k2077 => fun l2075 => fun b2070 e' hp' => ∃ (hs2073 : Hp), [(1, .int .i64 (x5)), (2, .int .i64 (x6)), (7, .slice A1253 (l1249).length c1254), (9, .slice A1263 (l2075).length c1264), (34, .slice A1 (l4).length c2), (35, .int .i64 ((l4.length : Int))), (36, .int .i64 ((k2077 : Int)))] = e' ∧ (hs1255 ++ (hs2073 ++ R)) = hp' ∧ b1251.Le b2070 ∧ OS 3 (OT.fr (RT.int .i64)) b2070.w (.slice A1263 l2075.length c1264) l2075 hs2073 ∧ l2075.length = m1259) hl2079 (e' := [(1, .int .i64 (x5)), (2, .int .i64 (x6)), (7, .slice A1253 (l1249).length c1254), (9, .slice A1263 (List.replicate m1259 (0 : Int)).length c1264), (34, .slice A1 (l4).length c2), (35, .int .i64 ((l4.length : Int))), (36, .int .i64 0)]) (hp' := (hs1255 ++ (hs1261 ++ R))) ⟨rfl, rfl, rfl, rfl, rfl, rfl, rfl, trivial⟩ (sub_app hs1255 (sub_app hs1261 (.refl _))) ⟨hs1261, rfl, rfl, (Base.Le.refl _), h1262, List.length_replicate⟩ ?_ ?_
        ·
          rintro k2077 l2075 b2070 _ _ oL1265 hknL1265 ⟨hs2073, rfl, rfl, hle2071, h2074, hln2076⟩ hstepL1265 houtL1265
          unfold mFishkeep1RunSmooth_L1265 at hstepL1265
          have hm := hstepL1265
          refine c_seq ?_
          refine c_region ?_
          refine t_st rfl (st_lss_t rfl rfl (by omega)) ?_
          refine t_nil ?_
          refine x_then_normal ?_
          refine c_seq ?_
          refine c_cond_t rfl ?_
          refine c_skip ?_
          refine x_then_normal ?_
          refine c_seq ?_
          refine c_block ?_
          refine c_seq ?_
          refine c_region ?_
          refine t_st rfl (st_move rfl) ?_
          obtain ⟨x2081, h2082, hm⟩ := bindS hm
          obtain ⟨j2083, hj2084, hx2085⟩ := idx_some h2082
          obtain ⟨cs2086, hr2087, hcs2088, hA2089, hlt2090⟩ := FZ.get (sz := 1) rfl (by decide) (h3.le (hle1252.trans hle2071)) hx2085
          obtain ⟨A2091, c2092, rfl, h2093⟩ := hr2087
          refine t_st rfl (st_index_old j2083 rfl rfl hj2084 hlt2090 hA2089 sl59) ?_
          refine t_st rfl (st_load_old rfl one24 (hcs2088 0 _ rfl)) ?_
          refine t_st rfl (st_assign rfl) ?_
          refine t_st rfl (st_assign rfl) ?_
          refine t_nil ?_
          refine x_then_normal ?_
          refine c_seq ?_
          obtain ⟨x2185, hj2186, hk2186⟩ := bindS hm
          refine c_join (fun b2183 e' hp' => [(1, .int .i64 (x5)), (2, .int .i64 (x6)), (7, .slice A1253 (l1249).length c1254), (9, .slice A1263 (l2075).length c1264), (10, .int .i64 ((k2077 : Int))), (11, .slice A2091 (x2081).length c2092), (34, .slice A1 (l4).length c2), (35, .int .i64 ((l4.length : Int))), (36, .int .i64 ((k2077 : Int))), (82, .bool (x2185))] = e' ∧ (hs1255 ++ (hs2073 ++ R)) = hp' ∧ b2070.Le b2183) ?_ ?_
          ·
            have hm := hj2186
            refine c_region ?_
            refine t_st rfl (st_move rfl) ?_
            refine t_st rfl (st_move rfl) ?_
            obtain ⟨x2187, h2188, hm⟩ := bindS hm
            obtain ⟨j2189, hj2190, hx2191⟩ := idx_some h2188
            obtain ⟨cs2192, hs2197, P2198, P2199, hq2200, hr2193, hcs2194, hA2195, hlt2196, hb2201, hho2202⟩ := OS.get (sz := 1) rfl (by decide) (h1256.le hle2071) hx2191
            obtain ⟨rfl, rfl⟩ := hr2193
            refine t_st rfl (st_index_old j2189 rfl rfl hj2190 hlt2196 hA2195 sl24) ?_
            refine t_st rfl (st_load_rd rfl one3 (fun w ho => hcs2194 w _ ho (List.sublist_append_left _ _) 0 _ rfl)) ?_
            refine t_bool rfl (st_lss rfl rfl) (fun hc2203 => ?_) (fun hc2203 => ?_)
            ·
              rw [if_pos hc2203] at hm
              refine t_st rfl (st_move rfl) ?_
              refine t_no 46 rfl rfl rfl rfl rfl ?_
              refine t_no 46 rfl rfl rfl rfl rfl ?_
              refine t_no 46 rfl rfl rfl rfl rfl ?_
              refine t_no 46 rfl rfl rfl rfl rfl ?_
              refine t_no 46 rfl rfl rfl rfl rfl ?_
              refine t_no 46 rfl rfl rfl rfl rfl ?_
              refine t_st rfl (st_pick_t rfl rfl) ?_
              refine t_st rfl (st_move rfl) ?_
              refine t_no 54 rfl rfl rfl rfl rfl ?_
              refine t_no 54 rfl rfl rfl rfl rfl ?_
              refine t_no 54 rfl rfl rfl rfl rfl ?_
              refine t_no 54 rfl rfl rfl rfl rfl ?_
              refine t_no 54 rfl rfl rfl rfl rfl ?_
              refine t_no 54 rfl rfl rfl rfl rfl ?_
              refine t_no 54 rfl rfl rfl rfl rfl ?_
              refine t_no 54 rfl rfl rfl rfl rfl ?_
              refine t_no 54 rfl rfl rfl rfl rfl ?_
              refine t_st rfl (st_pick_t rfl rfl) ?_
              refine t_st rfl (st_move rfl) ?_
              refine t_no 65 rfl rfl rfl rfl rfl ?_
              refine t_no 65 rfl rfl rfl rfl rfl ?_
              refine t_no 65 rfl rfl rfl rfl rfl ?_
              refine t_no 65 rfl rfl rfl rfl rfl ?_
              refine t_no 65 rfl rfl rfl rfl rfl ?_
              refine t_no 65 rfl rfl rfl rfl rfl ?_
              refine t_no 71 rfl rfl rfl rfl rfl ?_
              refine t_no 71 rfl rfl rfl rfl rfl ?_
              refine t_no 71 rfl rfl rfl rfl rfl ?_
              refine t_no 71 rfl rfl rfl rfl rfl ?_
              refine t_no 71 rfl rfl rfl rfl rfl ?_
              refine t_no 71 rfl rfl rfl rfl rfl ?_
              refine t_no 71 rfl rfl rfl rfl rfl ?_
              refine t_no 71 rfl rfl rfl rfl rfl ?_
              refine t_no 71 rfl rfl rfl rfl rfl ?_
              refine t_no 65 rfl rfl rfl rfl rfl ?_
              refine t_st rfl (st_pick_t rfl rfl) ?_
              refine t_nil ?_
              obtain rfl := some1 hm
              refine x_front2 [] hs1255 hs2073 R rfl ?_
              refine x_front2 [] hs2073 hs1255 R rfl ?_
              exact x_join (e' := [(1, .int .i64 (x5)), (2, .int .i64 (x6)), (7, .slice A1253 (l1249).length c1254), (9, .slice A1263 (l2075).length c1264), (10, .int .i64 ((k2077 : Int))), (11, .slice A2091 (x2081).length c2092), (34, .slice A1 (l4).length c2), (35, .int .i64 ((l4.length : Int))), (36, .int .i64 ((k2077 : Int))), (82, .bool (true))]) (hp' := (hs1255 ++ (hs2073 ++ R))) ⟨rfl, rfl, rfl, rfl, rfl, rfl, rfl, rfl, rfl, rfl, trivial⟩ (sub_app hs1255 (sub_app hs2073 (.refl _))) ⟨rfl, rfl, (Base.Le.refl _)⟩
            ·
              rw [if_neg hc2203] at hm
              refine t_st rfl (st_move rfl) ?_
              refine t_yes 46 rfl rfl rfl ?_
              refine t_st rfl (st_move rfl) ?_
              refine t_yes 46 rfl rfl rfl ?_
              refine t_st rfl (st_move rfl) ?_
              refine t_yes 46 rfl rfl rfl ?_
              obtain ⟨x2204, h2205, hm⟩ := bindS hm
              obtain ⟨j2206, hj2207, hx2208⟩ := idx_some h2205
              obtain ⟨cs2209, hs2214, P2215, P2216, hq2217, hr2210, hcs2211, hA2212, hlt2213, hb2218, hho2219⟩ := OS.get (sz := 1) rfl (by decide) (h1256.le hle2071) hx2208
              obtain ⟨rfl, rfl⟩ := hr2210
              refine t_st rfl (st_index_old j2206 rfl rfl hj2207 hlt2213 hA2212 sl24) ?_
              refine t_yes 46 rfl rfl rfl ?_
              refine t_st rfl (st_load_rd rfl one3 (fun w ho => hcs2211 w _ ho (List.sublist_append_left _ _) 0 _ rfl)) ?_
              refine t_yes 46 rfl rfl rfl ?_
              refine t_st rfl (st_move rfl) ?_
              refine t_yes 46 rfl rfl rfl ?_
              refine t_bool rfl (st_gtr rfl rfl) (fun hc2220 => ?_) (fun hc2220 => ?_)
              ·
                rw [if_pos hc2220] at hm
                refine t_st rfl (st_pick_f rfl rfl) ?_
                refine t_st rfl (st_move rfl) ?_
                refine t_no 54 rfl rfl rfl rfl rfl ?_
                refine t_no 54 rfl rfl rfl rfl rfl ?_
                refine t_no 54 rfl rfl rfl rfl rfl ?_
                refine t_no 54 rfl rfl rfl rfl rfl ?_
                refine t_no 54 rfl rfl rfl rfl rfl ?_
                refine t_no 54 rfl rfl rfl rfl rfl ?_
                refine t_no 54 rfl rfl rfl rfl rfl ?_
                refine t_no 54 rfl rfl rfl rfl rfl ?_
                refine t_no 54 rfl rfl rfl rfl rfl ?_
                refine t_st rfl (st_pick_t rfl rfl) ?_
                refine t_st rfl (st_move rfl) ?_
                refine t_no 65 rfl rfl rfl rfl rfl ?_
                refine t_no 65 rfl rfl rfl rfl rfl ?_
                refine t_no 65 rfl rfl rfl rfl rfl ?_
                refine t_no 65 rfl rfl rfl rfl rfl ?_
                refine t_no 65 rfl rfl rfl rfl rfl ?_
                refine t_no 65 rfl rfl rfl rfl rfl ?_
                refine t_no 71 rfl rfl rfl rfl rfl ?_
                refine t_no 71 rfl rfl rfl rfl rfl ?_
                refine t_no 71 rfl rfl rfl rfl rfl ?_
                refine t_no 71 rfl rfl rfl rfl rfl ?_
                refine t_no 71 rfl rfl rfl rfl rfl ?_
                refine t_no 71 rfl rfl rfl rfl rfl ?_
                refine t_no 71 rfl rfl rfl rfl rfl ?_
                refine t_no 71 rfl rfl rfl rfl rfl ?_
                refine t_no 71 rfl rfl rfl rfl rfl ?_
                refine t_no 65 rfl rfl rfl rfl rfl ?_
                refine t_st rfl (st_pick_t rfl rfl) ?_
                refine t_nil ?_
                obtain rfl := some1 hm
                refine x_front2 [] hs1255 hs2073 R rfl ?_
                refine x_front2 [] hs2073 hs1255 R rfl ?_
                exact x_join (e' := [(1, .int .i64 (x5)), (2, .int .i64 (x6)), (7, .slice A1253 (l1249).length c1254), (9, .slice A1263 (l2075).length c1264), (10, .int .i64 ((k2077 : Int))), (11, .slice A2091 (x2081).length c2092), (34, .slice A1 (l4).length c2), (35, .int .i64 ((l4.length : Int))), (36, .int .i64 ((k2077 : Int))), (82, .bool (true))]) (hp' := (hs1255 ++ (hs2073 ++ R))) ⟨rfl, rfl, rfl, rfl, rfl, rfl, rfl, rfl, rfl, rfl, trivial⟩ (sub_app hs1255 (sub_app hs2073 (.refl _))) ⟨rfl, rfl, (Base.Le.refl _)⟩
              ·
                rw [if_neg hc2220] at hm
                refine t_st rfl (st_pick_f rfl rfl) ?_
                refine t_st rfl (st_move rfl) ?_
                refine t_yes 54 rfl rfl rfl ?_
                refine t_st rfl (st_move rfl) ?_
                refine t_yes 54 rfl rfl rfl ?_
                refine t_st rfl (st_move rfl) ?_
                refine t_yes 54 rfl rfl rfl ?_
                refine t_st rfl (st_move rfl) ?_
                refine t_yes 54 rfl rfl rfl ?_
                refine t_st rfl (st_move rfl) ?_
                refine t_yes 54 rfl rfl rfl ?_
                obtain ⟨x2221, h2222, hm⟩ := bindS hm
                obtain ⟨j2223, hj2224, hx2225⟩ := idx_some h2222
                obtain ⟨cs2226, hs2231, P2232, P2233, hq2234, hr2227, hcs2228, hA2229, hlt2230, hb2235, hho2236⟩ := OS.get (sz := 1) rfl (by decide) (h1256.le hle2071) hx2225
                obtain ⟨rfl, rfl⟩ := hr2227
                refine t_st rfl (st_index_old j2223 rfl rfl hj2224 hlt2230 hA2229 sl24) ?_
                refine t_yes 54 rfl rfl rfl ?_
                refine t_st rfl (st_load_rd rfl one3 (fun w ho => hcs2228 w _ ho (List.sublist_append_left _ _) 0 _ rfl)) ?_
                refine t_yes 54 rfl rfl rfl ?_
                refine t_st rfl (st_move rfl) ?_
                refine t_yes 54 rfl rfl rfl ?_
                obtain ⟨x2237, hcl2238, hm⟩ := bindS hm
                refine t_do rfl (u_callW0 _ call29 rfl (fun w ho => cFishkeep1Fits _ [] l2075 x2081 x2221 x5 A1263 c1264 A2091 c2092 (OS.now (o := (OT.fr (RT.int .i64))) (l := l2075) (hs := hs2073) h2074 ho (sub_skip hs1255 (List.sublist_append_left _ _))) (h2093.old ho) x2237 hcl2238) (fun _ _ _ h => h.2.symm)) ?_
                rintro _ _ ⟨⟨_, rfl, _⟩, rfl⟩
                rcases Bool.eq_false_or_eq_true x2237 with hc2239 | hc2239
                ·
                  rw [if_pos hc2239] at hm
                  refine t_resp 62 rfl (v' := .bool true) (by rw [hc2239]) ?_
                  refine t_yes 54 rfl rfl rfl ?_
                  refine t_st rfl (st_not_t rfl) ?_
                  refine t_st rfl (st_pick_f rfl rfl) ?_
                  refine t_st rfl (st_move rfl) ?_
                  refine t_yes 65 rfl rfl rfl ?_
                  refine t_st rfl (st_move rfl) ?_
                  refine t_yes 65 rfl rfl rfl ?_
                  refine t_st rfl (st_move rfl) ?_
                  refine t_yes 65 rfl rfl rfl ?_
                  obtain ⟨x2240, h2241, hm⟩ := bindS hm
                  obtain ⟨j2242, hj2243, hx2244⟩ := idx_some h2241
                  obtain ⟨cs2245, hs2250, P2251, P2252, hq2253, hr2246, hcs2247, hA2248, hlt2249, hb2254, hho2255⟩ := OS.get (sz := 1) rfl (by decide) (h1256.le hle2071) hx2244
                  obtain ⟨rfl, rfl⟩ := hr2246
                  refine t_st rfl (st_index_old j2242 rfl rfl hj2243 hlt2249 hA2248 sl24) ?_
                  refine t_yes 65 rfl rfl rfl ?_
                  refine t_st rfl (st_load_rd rfl one3 (fun w ho => hcs2247 w _ ho (List.sublist_append_left _ _) 0 _ rfl)) ?_
                  refine t_yes 65 rfl rfl rfl ?_
                  refine t_bool rfl (st_gtr rfl rfl) (fun hc2256 => ?_) (fun hc2256 => ?_)
                  ·
                    rw [if_pos hc2256] at hm
                    refine t_yes 65 rfl rfl rfl ?_
                    refine t_st rfl (st_move rfl) ?_
                    refine t_yes 71 rfl rfl rfl ?_
                    refine t_st rfl (st_move rfl) ?_
                    refine t_yes 71 rfl rfl rfl ?_
                    refine t_st rfl (st_move rfl) ?_
                    refine t_yes 71 rfl rfl rfl ?_
                    refine t_st rfl (st_move rfl) ?_
                    refine t_yes 71 rfl rfl rfl ?_
                    refine t_st rfl (st_move rfl) ?_
                    refine t_yes 71 rfl rfl rfl ?_
                    obtain ⟨x2257, h2258, hm⟩ := bindS hm
                    obtain ⟨j2259, hj2260, hx2261⟩ := idx_some h2258
                    obtain ⟨cs2262, hs2267, P2268, P2269, hq2270, hr2263, hcs2264, hA2265, hlt2266, hb2271, hho2272⟩ := OS.get (sz := 1) rfl (by decide) (h1256.le hle2071) hx2261
                    obtain ⟨rfl, rfl⟩ := hr2263
                    refine t_st rfl (st_index_old j2259 rfl rfl hj2260 hlt2266 hA2265 sl24) ?_
                    refine t_yes 71 rfl rfl rfl ?_
                    refine t_st rfl (st_load_rd rfl one3 (fun w ho => hcs2264 w _ ho (List.sublist_append_left _ _) 0 _ rfl)) ?_
                    refine t_yes 71 rfl rfl rfl ?_
                    obtain ⟨_, h2273, hm⟩ := bindS hm
                    have h2273 := (chk_some h2273).2
                    refine t_st rfl (st_sub rfl rfl h2273) ?_
                    refine t_yes 71 rfl rfl rfl ?_
                    refine t_st rfl (st_move rfl) ?_
                    refine t_yes 71 rfl rfl rfl ?_
                    obtain ⟨x2274, hcl2275, hm⟩ := bindS hm
                    refine t_do rfl (u_callW0 _ call29 rfl (fun w ho => cFishkeep1Fits _ [] l2075 x2081 (x2257 - 1) x5 A1263 c1264 A2091 c2092 (OS.now (o := (OT.fr (RT.int .i64))) (l := l2075) (hs := hs2073) h2074 ho (sub_skip hs1255 (List.sublist_append_left _ _))) (h2093.old ho) x2274 hcl2275) (fun _ _ _ h => h.2.symm)) ?_
                    rintro _ _ ⟨⟨_, rfl, _⟩, rfl⟩
                    refine t_yes 65 rfl rfl rfl ?_
                    refine t_st rfl (st_pick_t rfl rfl) ?_
                    refine t_st rfl (st_pick_f rfl rfl) ?_
                    refine t_nil ?_
                    obtain rfl := some1 hm
                    refine x_front2 [] hs1255 hs2073 R rfl ?_
                    refine x_front2 [] hs2073 hs1255 R rfl ?_
                    exact x_join (e' := [(1, .int .i64 (x5)), (2, .int .i64 (x6)), (7, .slice A1253 (l1249).length c1254), (9, .slice A1263 (l2075).length c1264), (10, .int .i64 ((k2077 : Int))), (11, .slice A2091 (x2081).length c2092), (34, .slice A1 (l4).length c2), (35, .int .i64 ((l4.length : Int))), (36, .int .i64 ((k2077 : Int))), (82, .bool (x2274))]) (hp' := (hs1255 ++ (hs2073 ++ R))) ⟨rfl, rfl, rfl, rfl, rfl, rfl, rfl, rfl, rfl, rfl, trivial⟩ (sub_app hs1255 (sub_app hs2073 (.refl _))) ⟨rfl, rfl, (Base.Le.refl _)⟩
                  ·
                    rw [if_neg hc2256] at hm
                    refine t_yes 65 rfl rfl rfl ?_
                    refine t_st rfl (st_move rfl) ?_
                    refine t_no 71 rfl rfl rfl rfl rfl ?_
                    refine t_no 71 rfl rfl rfl rfl rfl ?_
                    refine t_no 71 rfl rfl rfl rfl rfl ?_
                    refine t_no 71 rfl rfl rfl rfl rfl ?_
                    refine t_no 71 rfl rfl rfl rfl rfl ?_
                    refine t_no 71 rfl rfl rfl rfl rfl ?_
                    refine t_no 71 rfl rfl rfl rfl rfl ?_
                    refine t_no 71 rfl rfl rfl rfl rfl ?_
                    refine t_no 71 rfl rfl rfl rfl rfl ?_
                    refine t_yes 65 rfl rfl rfl ?_
                    refine t_st rfl (st_pick_f rfl rfl) ?_
                    refine t_st rfl (st_pick_f rfl rfl) ?_
                    refine t_nil ?_
                    obtain rfl := some1 hm
                    refine x_front2 [] hs1255 hs2073 R rfl ?_
                    refine x_front2 [] hs2073 hs1255 R rfl ?_
                    exact x_join (e' := [(1, .int .i64 (x5)), (2, .int .i64 (x6)), (7, .slice A1253 (l1249).length c1254), (9, .slice A1263 (l2075).length c1264), (10, .int .i64 ((k2077 : Int))), (11, .slice A2091 (x2081).length c2092), (34, .slice A1 (l4).length c2), (35, .int .i64 ((l4.length : Int))), (36, .int .i64 ((k2077 : Int))), (82, .bool (false))]) (hp' := (hs1255 ++ (hs2073 ++ R))) ⟨rfl, rfl, rfl, rfl, rfl, rfl, rfl, rfl, rfl, rfl, trivial⟩ (sub_app hs1255 (sub_app hs2073 (.refl _))) ⟨rfl, rfl, (Base.Le.refl _)⟩
                ·
                  rw [if_neg (fun hh => Bool.noConfusion (hh.symm.trans hc2239))] at hm
                  refine t_resp 62 rfl (v' := .bool false) (by rw [hc2239]) ?_
                  refine t_yes 54 rfl rfl rfl ?_
                  refine t_st rfl (st_not_f rfl) ?_
                  refine t_st rfl (st_pick_f rfl rfl) ?_
                  refine t_st rfl (st_move rfl) ?_
                  refine t_no 65 rfl rfl rfl rfl rfl ?_
                  refine t_no 65 rfl rfl rfl rfl rfl ?_
                  refine t_no 65 rfl rfl rfl rfl rfl ?_
                  refine t_no 65 rfl rfl rfl rfl rfl ?_
                  refine t_no 65 rfl rfl rfl rfl rfl ?_
                  refine t_no 65 rfl rfl rfl rfl rfl ?_
                  refine t_no 71 rfl rfl rfl rfl rfl ?_
                  refine t_no 71 rfl rfl rfl rfl rfl ?_
                  refine t_no 71 rfl rfl rfl rfl rfl ?_
                  refine t_no 71 rfl rfl rfl rfl rfl ?_
                  refine t_no 71 rfl rfl rfl rfl rfl ?_
                  refine t_no 71 rfl rfl rfl rfl rfl ?_
                  refine t_no 71 rfl rfl rfl rfl rfl ?_
                  refine t_no 71 rfl rfl rfl rfl rfl ?_
                  refine t_no 71 rfl rfl rfl rfl rfl ?_
                  refine t_no 65 rfl rfl rfl rfl rfl ?_
                  refine t_st rfl (st_pick_t rfl rfl) ?_
                  refine t_nil ?_
                  obtain rfl := some1 hm
                  refine x_front2 [] hs1255 hs2073 R rfl ?_
                  refine x_front2 [] hs2073 hs1255 R rfl ?_
                  exact x_join (e' := [(1, .int .i64 (x5)), (2, .int .i64 (x6)), (7, .slice A1253 (l1249).length c1254), (9, .slice A1263 (l2075).length c1264), (10, .int .i64 ((k2077 : Int))), (11, .slice A2091 (x2081).length c2092), (34, .slice A1 (l4).length c2), (35, .int .i64 ((l4.length : Int))), (36, .int .i64 ((k2077 : Int))), (82, .bool (true))]) (hp' := (hs1255 ++ (hs2073 ++ R))) ⟨rfl, rfl, rfl, rfl, rfl, rfl, rfl, rfl, rfl, rfl, trivial⟩ (sub_app hs1255 (sub_app hs2073 (.refl _))) ⟨rfl, rfl, (Base.Le.refl _)⟩
          ·
            rintro b2183 _ _ ⟨rfl, rfl, hle2184⟩
            have hm := hk2186
            refine c_cond _ rfl (fun hc2276 => ?_) (fun hc2276 => ?_)
            ·
              rw [if_pos hc2276] at hm
              refine c_seq ?_
              refine c_region ?_
              refine t_st rfl (st_assign rfl) ?_
              refine t_nil ?_
              refine x_then_normal ?_
              refine c_ret ?_
              refine x_then_ret ?_
              refine x_block_ret ?_
              refine x_then_ret ?_
              refine x_then_ret ?_
              refine x_block_ret ?_
              refine x_then_ret ?_
              have hq2277 := houtL1265 _ (Option.some.inj hm).symm
              rw [hq2277] at hk2080
              have hm := elimR hk2080
              obtain rfl := some1 hm
              exact retM (rs := [.tmp 6]) [.bool (false)] (hle1252.trans (hle2071.trans hle2184)) (by decide) rfl ⟨rfl, trivial⟩ rfl (hp' := R) (sub_skip hs1255 (sub_skip hs2073 (.refl _))) ⟨rfl, rfl⟩
            ·
              rw [if_neg (fun hh => Bool.noConfusion (hh.symm.trans hc2276))] at hm
              refine c_skip ?_
              refine x_then_normal ?_
              refine c_seq ?_
              refine c_region ?_
              refine t_st rfl (st_move rfl) ?_
              refine t_st rfl (st_len rfl sl24) ?_
              refine t_st rfl (st_move rfl) ?_
              refine t_nil ?_
              refine x_then_normal ?_
              refine c_block ?_
              have hb2279 := (FZ.bd (h2093.le hle2184))
              refine c_front2 [] hs1255 hs2073 R rfl ?_
              refine c_front2 [] hs2073 hs1255 R rfl ?_
              obtain ⟨l2414, hl2417, hk2418⟩ := bindS hm
              refine c_forS (fun k2416 => fun l2414 => fun b2409 e' hp' => ∃ (hs2412 : Hp), [(1, .int .i64 (x5)), (2, .int .i64 (x6)), (7, .slice A1253 (l1249).length c1254), (9, .slice A1263 (l2414).length c1264), (10, .int .i64 ((k2077 : Int))), (34, .slice A1 (l4).length c2), (35, .int .i64 ((l4.length : Int))), (36, .int .i64 ((k2077 : Int))), (83, .slice A2091 (x2081).length c2092), (84, .int .i64 ((x2081.length : Int))), (85, .int .i64 ((k2416 : Int)))] = e' ∧ (hs1255 ++ (hs2412 ++ R)) = hp' ∧ b2183.Le b2409 ∧ OS 3 (OT.fr (RT.int .i64)) b2409.w (.slice A1263 l2414.length c1264) l2414 hs2412 ∧ l2414.length = m1259) hl2417 (e' := [(1, .int .i64 (x5)), (2, .int .i64 (x6)), (7, .slice A1253 (l1249).length c1254), (9, .slice A1263 (l2075).length c1264), (10, .int .i64 ((k2077 : Int))), (34, .slice A1 (l4).length c2), (35, .int .i64 ((l4.length : Int))), (36, .int .i64 ((k2077 : Int))), (83, .slice A2091 (x2081).length c2092), (84, .int .i64 ((x2081.length : Int))), (85, .int .i64 0)]) (hp' := (hs1255 ++ (hs2073 ++ R))) ⟨rfl, rfl, rfl, rfl, rfl, rfl, rfl, rfl, rfl, rfl, rfl, trivial⟩ (sub_app hs1255 (sub_app hs2073 (.refl _))) ⟨hs2073, rfl, rfl, (Base.Le.refl _), (h2074.le hle2184), hln2076⟩ ?_ ?_
              ·
                rintro k2416 l2414 b2409 _ _ oL2278 hknL2278 ⟨hs2412, rfl, rfl, hle2410, h2413, hln2415⟩ hstepL2278
                unfold mFishkeep1RunSmooth_L2278 at hstepL2278
                have hm := hstepL2278
                refine c_seq ?_
                refine c_region ?_
                refine t_st rfl (st_lss_t rfl rfl (by omega)) ?_
                refine t_nil ?_
                refine x_then_normal ?_
                refine c_seq ?_
                refine c_cond_t rfl ?_
                refine c_skip ?_
                refine x_then_normal ?_
                refine c_seq ?_
                refine c_block ?_
                refine c_seq ?_
                refine c_region ?_
                refine t_st rfl (st_move rfl) ?_
                obtain ⟨x2419, h2420, hm⟩ := bindS hm
                obtain ⟨j2421, hj2422, hx2423⟩ := idx_some h2420
                obtain ⟨cs2424, hr2425, hcs2426, hA2427, hlt2428⟩ := FZ.get (sz := 1) rfl (by decide) (h2093.le (hle2184.trans hle2410)) hx2423
                obtain rfl := hr2425
                refine t_st rfl (st_index_old j2421 rfl rfl hj2422 hlt2428 hA2427 sl24) ?_
                refine t_st rfl (st_load_old rfl one3 (hcs2426 0 _ rfl)) ?_
                refine t_st rfl (st_assign rfl) ?_
                refine t_st rfl (st_assign rfl) ?_
                refine t_nil ?_
                refine x_then_normal ?_
                refine c_region ?_
                refine t_st rfl (st_move rfl) ?_
                refine t_st rfl (st_move rfl) ?_
                refine t_st rfl (st_move rfl) ?_
                obtain ⟨x2429, h2430, hm⟩ := bindS hm
                obtain ⟨j2431, hj2432, hx2433⟩ := idx_some h2430
                obtain ⟨cs2434, hs2439, P2440, P2441, hq2442, hr2435, hcs2436, hA2437, hlt2438, hb2443, hho2444⟩ := OS.get (sz := 1) rfl (by decide) (h1256.le (hle2071.trans (hle2184.trans hle2410))) hx2433
                obtain ⟨rfl, rfl⟩ := hr2435
                refine t_st rfl (st_index_old j2431 rfl rfl hj2432 hlt2438 hA2437 sl24) ?_
                refine t_st rfl (st_load_rd rfl one3 (fun w ho => hcs2436 w _ ho (List.sublist_append_left _ _) 0 _ rfl)) ?_
                refine t_st rfl (st_move rfl) ?_
                obtain ⟨_, h2445, hm⟩ := bindS hm
                have h2445 := (chk_some h2445).2
                refine t_st rfl (st_add rfl rfl h2445) ?_
                obtain ⟨x2446, h2447, hm⟩ := bindS hm
                obtain ⟨j2448, hj2449, hx2450⟩ := idx_some h2447
                obtain ⟨cs2451, hs2456, P2457, P2458, hq2459, hr2452, hcs2453, hA2454, hlt2455, hb2460, hho2461⟩ := OS.get (sz := 1) rfl (by decide) h2413 hx2450
                obtain ⟨rfl, rfl⟩ := hr2452
                refine t_st rfl (st_index_old j2448 rfl rfl hj2449 hlt2455 hA2454 sl24) ?_
                refine t_st rfl (st_load_rd rfl one3 (fun w ho => hcs2453 w _ ho (sub_skip hs1255 (List.sublist_append_left _ _)) 0 _ rfl)) ?_
                refine t_st rfl (st_move rfl) ?_
                obtain ⟨_, h2462, hm⟩ := bindS hm
                have h2462 := (chk_some h2462).2
                refine t_st rfl (st_add rfl rfl h2462) ?_
                obtain ⟨x2463, h2464, hm⟩ := bindS hm
                obtain ⟨j2465, hj2466, hx2467⟩ := idx_some h2464
                obtain ⟨cs2468, hs2473, P2474, P2475, hq2476, hr2469, hcs2470, hA2471, hlt2472, hb2477, hho2478⟩ := OS.get (sz := 1) rfl (by decide) h2413 hx2467
                obtain ⟨rfl, rfl⟩ := hr2469
                refine t_st rfl (st_index_old j2465 rfl rfl hj2466 hlt2472 hA2471 sl24) ?_
                refine t_front2 [] hs1255 hs2412 R rfl ?_
                refine t_do rfl (u_putOS hj2466 (sz := 1) (a' := x2446 + x2419) rfl [] (hs1255 ++ R) 0 1 [.int .i64 (x2446 + x2419)] rfl h2413 hx2467 rfl rfl rfl siz3 rfl (by intro u hu; simp only [List.mem_cons, List.not_mem_nil, or_false] at hu; subst hu; rfl) (fun cs hsj hh => by obtain ⟨rfl, rfl⟩ := hh; exact ⟨by decide, rfl, rfl⟩)) ?_
                rintro _ _ ⟨hs2479, rfl, h2480⟩
                refine t_resp 9 rfl (v' := .slice A1263 (put l2414 (x2429 + (k2416 : Int)) (x2446 + x2419)).length c1264) (by simp only [put_length]) ?_
                refine t_nil ?_
                refine x_block_normal ?_
                refine x_then_normal ?_
                refine c_region ?_
                refine t_st rfl (st_add rfl rfl (by omega)) ?_
                refine t_st rfl (st_move rfl) ?_
                refine t_nil ?_
                refine x_front2 [] hs2479 hs1255 R rfl ?_
                obtain rfl := some1 hm
                exact x_againS (e' := [(1, .int .i64 (x5)), (2, .int .i64 (x6)), (7, .slice A1253 (l1249).length c1254), (9, .slice A1263 (put l2414 (x2429 + (k2416 : Int)) (x2446 + x2419)).length c1264), (10, .int .i64 ((k2077 : Int))), (34, .slice A1 (l4).length c2), (35, .int .i64 ((l4.length : Int))), (36, .int .i64 ((k2077 : Int))), (83, .slice A2091 (x2081).length c2092), (84, .int .i64 ((x2081.length : Int))), (85, .int .i64 ((k2416 : Int) + 1))]) (hp' := (hs1255 ++ (hs2479 ++ R))) ⟨rfl, rfl, rfl, rfl, rfl, rfl, rfl, rfl, rfl, rfl, rfl, trivial⟩ (sub_app hs1255 (sub_app hs2479 (.refl _))) ⟨hs2479, rfl, rfl, (hle2410), h2480, ((put_length _ _ _).trans hln2415)⟩
              ·
                rintro b2409 _ _ ⟨hs2412, rfl, rfl, hle2410, h2413, hln2415⟩
                have hm := hk2418
                refine c_seq ?_
                refine c_region ?_
                refine t_st rfl (st_lss_f rfl rfl (by omega)) ?_
                refine t_nil ?_
                refine x_then_normal ?_
                refine c_seq ?_
                refine c_cond_f rfl ?_
                refine c_exit ?_
                refine x_then_exit ?_
                refine x_then_exit ?_
                refine x_block_out ?_
                refine x_block_normal ?_
                refine x_then_normal ?_
                refine c_region ?_
                refine t_st rfl (st_add rfl rfl (by omega)) ?_
                refine t_st rfl (st_move rfl) ?_
                refine t_nil ?_
                refine x_front2 [] hs1255 hs2412 R rfl ?_
                refine x_front2 [] hs2412 hs1255 R rfl ?_
                exact x_againM l2414 (Option.some.inj hm).symm (e' := [(1, .int .i64 (x5)), (2, .int .i64 (x6)), (7, .slice A1253 (l1249).length c1254), (9, .slice A1263 (l2414).length c1264), (34, .slice A1 (l4).length c2), (35, .int .i64 ((l4.length : Int))), (36, .int .i64 ((k2077 : Int) + 1))]) (hp' := (hs1255 ++ (hs2412 ++ R))) ⟨rfl, rfl, rfl, rfl, rfl, rfl, rfl, trivial⟩ (sub_app hs1255 (sub_app hs2412 (.refl _))) ⟨hs2412, rfl, rfl, ((hle2071.trans (hle2184.trans hle2410))), h2413, hln2415⟩
        ·
          rintro l2075 b2070 _ _ ⟨hs2073, rfl, rfl, hle2071, h2074, hln2076⟩ hq2481
          rw [hq2481] at hk2080
          have hm := elimL hk2080
          refine c_seq ?_
          refine c_region ?_
          refine t_st rfl (st_lss_f rfl rfl (by omega)) ?_
          refine t_nil ?_
          refine x_then_normal ?_
          refine c_seq ?_
          refine c_cond_f rfl ?_
          refine c_exit ?_
          refine x_then_exit ?_
          refine x_then_exit ?_
          refine x_block_out ?_
          refine x_then_normal ?_
          refine c_seq ?_
          refine c_region ?_
          refine t_st rfl (st_assign rfl) ?_
          refine t_nil ?_
          refine x_then_normal ?_
          refine c_ret ?_
          obtain rfl := some1 hm
          exact retM (rs := [.tmp 6]) [.bool (true)] (hle1252.trans hle2071) (by decide) rfl ⟨rfl, trivial⟩ rfl (hp' := R) (sub_skip hs1255 (sub_skip hs2073 (.refl _))) ⟨rfl, rfl⟩

end Go.Proofs.YtljcafilceachaaDoor
