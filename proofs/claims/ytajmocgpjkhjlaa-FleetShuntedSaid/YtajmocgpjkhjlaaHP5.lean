/- Contracts: the code computes its model (part 5). -/
import Derived.Test.YtajmocgpjkhjlaaHP4
set_option linter.unusedVariables false
set_option linter.unusedSimpArgs false
namespace Go.Proofs.Ytajmocgpjkhjlaa
open Go.RowKit Go.Fp

set_option maxRecDepth 20000 in
theorem cFishkeep2FleetShunted (b : Base) (R : Hp) (s1 : FleetDepot) (l11 : (List Int)) (l15 : (List Int)) (A2 : Option Addr) (c3 : Nat) (A5 : Option Addr) (c6 : Nat) (A8 : Option Addr) (c9 : Nat) (A12 : Option Addr) (c13 : Nat) (h4 : FZ (RT.int .i64) b.w A2 c3 s1.Room) (h7 : FZ (RT.list (RT.int .i64)) b.w A5 c6 s1.Tracks) (h10 : FZ (RT.int .i64) b.w A8 c9 l11) (h14 : FZ (RT.int .i64) b.w A12 c13 l15) (x360 : Bool) (hm : mFishkeep2FleetShunted s1 l11 l15 = some x360) :
    CallsG Try.prog 7 [.agg #[.slice A2 (s1.Room).length c3, .slice A5 (s1.Tracks).length c6], .slice A8 (l11).length c9, .slice A12 (l15).length c13] b (R) (fun v b' hp' => .bool (x360) = v ∧ R = hp') := by
  refine fn_enterG 113 Try.func7 rfl Try.ntmps7 rfl ?_
  unfold mFishkeep2FleetShunted at hm
  refine c_sr ?_
  refine t_do rfl (u_box _ rfl rfl) ?_
  rintro _ _ ⟨g361, rfl, rfl⟩
  refine t_as rfl rfl ?_
  refine t_ne ?_
  refine c_seq ?_
  refine c_sr ?_
  obtain ⟨x362, hcl363, hm⟩ := bindS hm
  refine t_do rfl (u_callW0 _ call10 rfl (fun w ho => cFishkeep2AwakeFleet _ [] x362 hcl363) (fun _ _ _ h => h.2.symm)) ?_
  rintro _ _ ⟨⟨_, rfl, _⟩, rfl⟩
  refine t_st rfl (st_not rfl) ?_
  refine t_ne ?_
  refine c_cond _ rfl (fun hc364 => ?_) (fun hc364 => ?_)
  ·
   rw [if_neg (fun hh => Bool.noConfusion (hh.symm.trans (notT hc364)))] at hm
   refine c_sr ?_
   refine t_as rfl rfl ?_
   refine t_ne ?_
   refine c_ret ?_
   refine x_then_ret ?_
   obtain rfl := some1 hm
   exact retM (rs := [.tmp 6]) [.bool (false)] (Base.Le.refl _) (by decide) rfl ⟨rfl, trivial⟩ rfl (.cons _ (.refl _)) ⟨rfl, rfl⟩
  ·
   rw [if_pos (notF hc364)] at hm
   refine c_skip ?_
   refine x_then_normal ?_
   refine c_seq ?_
   refine c_sr ?_
   obtain ⟨x365, hcl366, hm⟩ := bindS hm
   refine t_do rfl (u_callW0 _ call11 rfl (fun w ho => cFishkeep2Sets _ [] x365 hcl366) (fun _ _ _ h => h.2.symm)) ?_
   rintro _ _ ⟨⟨_, rfl, _⟩, rfl⟩
   refine t_st rfl (st_not rfl) ?_
   refine t_ne ?_
   refine c_cond _ rfl (fun hc367 => ?_) (fun hc367 => ?_)
   ·
    rw [if_neg (fun hh => Bool.noConfusion (hh.symm.trans (notT hc367)))] at hm
    refine c_sr ?_
    refine t_as rfl rfl ?_
    refine t_ne ?_
    refine c_ret ?_
    refine x_then_ret ?_
    obtain rfl := some1 hm
    exact retM (rs := [.tmp 6]) [.bool (false)] (Base.Le.refl _) (by decide) rfl ⟨rfl, trivial⟩ rfl (.cons _ (.refl _)) ⟨rfl, rfl⟩
   ·
    rw [if_pos (notF hc367)] at hm
    refine c_skip ?_
    refine x_then_normal ?_
    refine c_seq ?_
    obtain ⟨x373, hj374, hk374⟩ := bindS hm
    refine c_join (fun b371 e' hp' => [(1, .slice A8 (l11).length c9), (2, .slice A12 (l15).length c13), (3, .pointer (some ⟨g361, 0, none⟩)), (27, .bool (x373))] = e' ∧ (g361, Cl 63 [.slice A2 (s1.Room).length c3, .slice A5 (s1.Tracks).length c6]) :: R = hp' ∧ b.Le b371) ?_ ?_
    ·
     have hm := hj374
     refine c_region ?_
     refine t_st rfl (st_loadD (vs := [_, _]) 0 2 rfl agg63 rfl rfl rfl) ?_
     refine t_mv rfl rfl ?_
     obtain ⟨x375, hcl376, hm⟩ := bindS hm
     refine t_do rfl (u_callW0 _ call29 rfl (fun w ho => cFishref2ShuntFault _ [] s1 l11 A2 c3 A5 c6 A8 c9 (h4.old ho) (h7.old ho) (h10.old ho) x375 hcl376) (fun _ _ _ h => h.2.symm)) ?_
     rintro _ _ ⟨⟨_, rfl, _⟩, rfl⟩
     refine t_bool rfl (st_neq rfl rfl) (fun hc377 => ?_) (fun hc377 => ?_)
     ·
      rw [if_pos hc377] at hm
      refine t_mv rfl rfl ?_
      refine t_no 23 rfl rfl rfl rfl rfl ?_
      refine t_no 23 rfl rfl rfl rfl rfl ?_
      refine t_no 23 rfl rfl rfl rfl rfl ?_
      refine t_st rfl (st_pick_t rfl rfl) ?_
      refine t_nil ?_
      obtain rfl := some1 hm
      exact x_join (e' := [(1, .slice A8 (l11).length c9), (2, .slice A12 (l15).length c13), (3, .pointer (some ⟨g361, 0, none⟩)), (27, .bool (true))]) ⟨rfl, rfl, rfl, rfl, trivial⟩ (.refl _) ⟨rfl, rfl, (Base.Le.refl _)⟩
     ·
      rw [if_neg hc377] at hm
      refine t_mv rfl rfl ?_
      refine t_yes 23 rfl rfl rfl ?_
      refine t_mv rfl rfl ?_
      refine t_yes 23 rfl rfl rfl ?_
      refine t_st rfl (st_len rfl sl45) ?_
      refine t_yes 23 rfl rfl rfl ?_
      refine t_st rfl (st_gtr rfl rfl) ?_
      refine t_st rfl (st_pick_f rfl rfl) ?_
      refine t_nil ?_
      obtain rfl := some1 hm
      exact x_join (e' := [(1, .slice A8 (l11).length c9), (2, .slice A12 (l15).length c13), (3, .pointer (some ⟨g361, 0, none⟩)), (27, .bool (decide (6 < (l15.length : Int))))]) ⟨rfl, rfl, rfl, rfl, trivial⟩ (.refl _) ⟨rfl, rfl, (Base.Le.refl _)⟩
    ·
     rintro b371 _ _ ⟨rfl, rfl, hle372⟩
     have hm := hk374
     refine c_cond _ rfl (fun hc378 => ?_) (fun hc378 => ?_)
     ·
      rw [if_pos hc378] at hm
      refine c_sr ?_
      refine t_as rfl rfl ?_
      refine t_ne ?_
      refine c_ret ?_
      refine x_then_ret ?_
      obtain rfl := some1 hm
      exact retM (rs := [.tmp 6]) [.bool (true)] hle372 (by decide) rfl ⟨rfl, trivial⟩ rfl (.cons _ (.refl _)) ⟨rfl, rfl⟩
     ·
      rw [if_neg (fun hh => Bool.noConfusion (hh.symm.trans hc378))] at hm
      refine c_skip ?_
      refine x_then_normal ?_
      refine c_sr ?_
      refine t_st rfl (st_loadD (vs := [_, _]) 0 2 rfl agg63 rfl rfl rfl) ?_
      refine t_mv rfl rfl ?_
      refine t_mv rfl rfl ?_
      obtain ⟨⟨l379, x380⟩, hcl381, hm⟩ := bindS hm
      have hm := (unc2E hm)
      refine t_callG _ rfl call30 rfl (cFleetShunt _ _ s1 l11 l15 A2 c3 A5 c6 A8 c9 A12 c13 (h4.le hle372) (h7.le hle372) (h10.le hle372) (h14.le hle372) l379 x380 hcl381) ?_
      rintro _ b382 _ hle383 ⟨A384, c385, rfl, rfl, h386⟩
      refine t_mv rfl rfl ?_
      refine t_st rfl (st_extract rfl rfl) ?_
      refine t_st rfl (st_extract rfl rfl) ?_
      refine t_as rfl rfl ?_
      refine t_as rfl rfl ?_
      refine t_ne ?_
      refine c_seq ?_
      refine c_sr ?_
      refine t_mv rfl rfl ?_
      refine t_st rfl (st_neq rfl rfl) ?_
      refine t_ne ?_
      refine c_cond _ rfl (fun hc387 => ?_) (fun hc387 => ?_)
      ·
       rw [if_pos (of_decide_eq_true hc387)] at hm
       obtain ⟨x391, hj392, hk392⟩ := bindS hm
       refine c_join (fun b389 e' hp' => [(6, .bool (x391))] = e' ∧ R = hp' ∧ b382.Le b389) ?_ ?_
       ·
        have hm := hj392
        refine c_region ?_
        refine t_mv rfl rfl ?_
        refine t_bool rfl (st_eql rfl rfl) (fun hc393 => ?_) (fun hc393 => ?_)
        ·
         rw [if_pos hc393] at hm
         refine t_mv rfl rfl ?_
         refine t_yes 39 rfl rfl rfl ?_
         refine t_mv rfl rfl ?_
         refine t_yes 39 rfl rfl rfl ?_
         refine t_st rfl (st_len rfl sl65) ?_
         refine t_yes 39 rfl rfl rfl ?_
         refine t_st rfl (st_eql rfl rfl) ?_
         refine t_st rfl (st_pick_t rfl rfl) ?_
         refine t_as rfl rfl ?_
         refine t_nil ?_
         obtain rfl := some1 hm
         exact x_join (e' := [(6, .bool (decide ((l379.length : Int) = 0)))]) ⟨rfl, trivial⟩ (.cons _ (.refl _)) ⟨rfl, rfl, (Base.Le.refl _)⟩
        ·
         rw [if_neg hc393] at hm
         refine t_mv rfl rfl ?_
         refine t_no 39 rfl rfl rfl rfl rfl ?_
         refine t_no 39 rfl rfl rfl rfl rfl ?_
         refine t_no 39 rfl rfl rfl rfl rfl ?_
         refine t_st rfl (st_pick_f rfl rfl) ?_
         refine t_as rfl rfl ?_
         refine t_nil ?_
         obtain rfl := some1 hm
         exact x_join (e' := [(6, .bool (false))]) ⟨rfl, trivial⟩ (.cons _ (.refl _)) ⟨rfl, rfl, (Base.Le.refl _)⟩
       ·
        rintro b389 _ _ ⟨rfl, rfl, hle390⟩
        have hm := hk392
        refine c_ret ?_
        refine x_then_ret ?_
        obtain rfl := some1 hm
        exact retM (rs := [.tmp 6]) [.bool (x391)] (hle372.trans (hle383.trans hle390)) (by decide) rfl ⟨rfl, trivial⟩ rfl (.refl _) ⟨rfl, rfl⟩
      ·
       rw [if_neg (of_decide_eq_false hc387)] at hm
       refine c_skip ?_
       refine x_then_normal ?_
       refine c_sr ?_
       refine t_st rfl (st_loadD (vs := [_, _]) 0 2 rfl agg63 rfl rfl rfl) ?_
       refine t_mv rfl rfl ?_
       obtain ⟨⟨x394, l395, l396, l397⟩, hcl398, hm⟩ := bindS hm
       have hm := (unc4E hm)
       refine t_callG _ rfl call31 rfl (cFleetPlay _ _ s1 l379 A2 c3 A5 c6 A384 c385 (h4.le (hle372.trans hle383)) (h7.le (hle372.trans hle383)) h386 x394 l395 l396 l397 hcl398) ?_
       rintro _ b399 _ hle400 ⟨A401, c402, hs403, A404, c405, hs406, A407, c408, hs409, rfl, rfl, h410, h411, h412, h413⟩
       refine t_in3 [] [_] hs403 hs406 hs409 R rfl ?_
       refine t_mv rfl rfl ?_
       refine t_st rfl (st_extract rfl rfl) ?_
       refine t_st rfl (st_extract rfl rfl) ?_
       refine t_st rfl (st_extract rfl rfl) ?_
       refine t_do rfl (u_alloc [.slice none 0 0, .slice none 0 0] zero63 rfl) ?_
       rintro _ _ ⟨g414, rfl, rfl⟩
       refine t_do rfl (u_storeN (vs := [_, _]) 0 2 rfl rfl rfl siz63 rfl (mem_c rfl (mem_c rfl mem_n)) rfl (by simp)) ?_
       rintro _ _ rfl
       refine t_as rfl rfl ?_
       refine t_as rfl rfl ?_
       refine t_ne ?_
       refine c_seq ?_
       obtain ⟨x418, hj419, hk419⟩ := bindS hm
       refine c_join (fun b416 e' hp' => [(1, .slice A8 (l11).length c9), (2, .slice A12 (l15).length c13), (3, .pointer (some ⟨g361, 0, none⟩)), (7, .slice A384 (l379).length c385), (10, .slice A407 (l397).length c408), (59, .bool (x418))] = e' ∧ (g361, Cl 63 [.slice A2 (s1.Room).length c3, .slice A5 (s1.Tracks).length c6]) :: (hs409 ++ R) = hp' ∧ b399.Le b416) ?_ ?_
       ·
        have hm := hj419
        refine c_region ?_
        refine t_mv rfl rfl ?_
        refine t_bool rfl (st_neq rfl rfl) (fun hc420 => ?_) (fun hc420 => ?_)
        ·
         rw [if_pos hc420] at hm
         refine t_mv rfl rfl ?_
         refine t_no 53 rfl rfl rfl rfl rfl ?_
         refine t_no 53 rfl rfl rfl rfl rfl ?_
         refine t_no 53 rfl rfl rfl rfl rfl ?_
         refine t_no 53 rfl rfl rfl rfl rfl ?_
         refine t_no 53 rfl rfl rfl rfl rfl ?_
         refine t_st rfl (st_pick_t rfl rfl) ?_
         refine t_nil ?_
         obtain rfl := some1 hm
         refine x_pullb 1 rfl ?_
         refine x_front3 [_, _] hs403 hs406 hs409 R rfl ?_
         exact x_join (e' := [(1, .slice A8 (l11).length c9), (2, .slice A12 (l15).length c13), (3, .pointer (some ⟨g361, 0, none⟩)), (7, .slice A384 (l379).length c385), (10, .slice A407 (l397).length c408), (59, .bool (true))]) ⟨rfl, rfl, rfl, rfl, rfl, rfl, trivial⟩ (.cons_cons _ (.cons _ (sub_app hs409 (sub_skip hs403 (sub_skip hs406 (.refl _)))))) ⟨rfl, rfl, (Base.Le.refl _)⟩
        ·
         rw [if_neg hc420] at hm
         refine t_mv rfl rfl ?_
         refine t_yes 53 rfl rfl rfl ?_
         refine t_mv rfl rfl ?_
         refine t_yes 53 rfl rfl rfl ?_
         refine t_st rfl (st_len rfl sl45) ?_
         refine t_yes 53 rfl rfl rfl ?_
         refine t_mv rfl rfl ?_
         refine t_yes 53 rfl rfl rfl ?_
         refine t_st rfl (st_len rfl sl45) ?_
         refine t_yes 53 rfl rfl rfl ?_
         refine t_st rfl (st_neq rfl rfl) ?_
         refine t_st rfl (st_pick_f rfl rfl) ?_
         refine t_nil ?_
         obtain rfl := some1 hm
         refine x_pullb 1 rfl ?_
         refine x_front3 [_, _] hs403 hs406 hs409 R rfl ?_
         exact x_join (e' := [(1, .slice A8 (l11).length c9), (2, .slice A12 (l15).length c13), (3, .pointer (some ⟨g361, 0, none⟩)), (7, .slice A384 (l379).length c385), (10, .slice A407 (l397).length c408), (59, .bool (decide ((l397.length : Int) ≠ (l15.length : Int))))]) ⟨rfl, rfl, rfl, rfl, rfl, rfl, trivial⟩ (.cons_cons _ (.cons _ (sub_app hs409 (sub_skip hs403 (sub_skip hs406 (.refl _)))))) ⟨rfl, rfl, (Base.Le.refl _)⟩
       ·
        rintro b416 _ _ ⟨rfl, rfl, hle417⟩
        have hm := hk419
        refine c_cond _ rfl (fun hc421 => ?_) (fun hc421 => ?_)
        ·
         rw [if_pos hc421] at hm
         refine c_sr ?_
         refine t_as rfl rfl ?_
         refine t_ne ?_
         refine c_ret ?_
         refine x_then_ret ?_
         obtain rfl := some1 hm
         exact retM (rs := [.tmp 6]) [.bool (false)] (hle372.trans (hle383.trans (hle400.trans hle417))) (by decide) rfl ⟨rfl, trivial⟩ rfl (.cons _ (sub_skip hs409 (.refl _))) ⟨rfl, rfl⟩
        ·
         rw [if_neg (fun hh => Bool.noConfusion (hh.symm.trans hc421))] at hm
         refine c_skip ?_
         refine x_then_normal ?_
         refine c_seq ?_
         refine c_sr ?_
         refine t_mv rfl rfl ?_
         refine t_st rfl (st_len rfl sl45) ?_
         refine t_mv rfl rfl ?_
         refine t_ne ?_
         refine c_block ?_
         have hb423 : l397.length ≤ 9223372036854775807 := (OS.len h413)
         obtain ⟨t536, hl537, hk538⟩ := bindS hm
         refine c_forM (fun k535 => fun _ => fun b533 e' hp' => [(1, .slice A8 (l11).length c9), (2, .slice A12 (l15).length c13), (3, .pointer (some ⟨g361, 0, none⟩)), (7, .slice A384 (l379).length c385), (60, .slice A407 (l397).length c408), (61, .int .i64 ((l397.length : Int))), (62, .int .i64 ((k535 : Int)))] = e' ∧ (g361, Cl 63 [.slice A2 (s1.Room).length c3, .slice A5 (s1.Tracks).length c6]) :: (hs409 ++ R) = hp' ∧ b416.Le b533) hl537 (e' := [(1, .slice A8 (l11).length c9), (2, .slice A12 (l15).length c13), (3, .pointer (some ⟨g361, 0, none⟩)), (7, .slice A384 (l379).length c385), (60, .slice A407 (l397).length c408), (61, .int .i64 ((l397.length : Int))), (62, .int .i64 0)]) ⟨rfl, rfl, rfl, rfl, rfl, rfl, rfl, trivial⟩ (.refl _) ⟨rfl, rfl, (Base.Le.refl _)⟩ ?_ ?_
         ·
          rintro k535 _ b533 _ _ oL422 hknL422 ⟨rfl, rfl, hle534⟩ hstepL422 houtL422
          unfold mFishkeep2FleetShunted_L422 at hstepL422
          have hm := hstepL422
          refine c_sr ?_
          refine t_st rfl (st_lss_t rfl rfl (by omega)) ?_
          refine t_ne ?_
          refine c_seq ?_
          refine c_cond_t rfl ?_
          refine c_skip ?_
          refine x_then_normal ?_
          refine c_seq ?_
          refine c_block ?_
          refine c_sr ?_
          refine t_mv rfl rfl ?_
          obtain ⟨x539, h540, hm⟩ := bindS hm
          obtain ⟨j541, hj542, hx543⟩ := idx_some h540
          obtain ⟨cs544, hs549, P550, P551, hq552, hr545, hcs546, hA547, hlt548, hb553, hho554⟩ := OS.get (sz := 1) rfl (by decide) (h413.le (hle417.trans hle534)) hx543
          obtain ⟨rfl, rfl⟩ := hr545
          refine t_st rfl (st_index_old j541 rfl rfl hj542 hlt548 hA547 sl45) ?_
          refine t_st rfl (st_load_rd rfl one3 (fun w ho => hcs546 w _ ho (.cons _ (List.sublist_append_left _ _)) 0 _ rfl)) ?_
          refine t_as rfl rfl ?_
          refine t_as rfl rfl ?_
          refine t_ne ?_
          obtain ⟨x601, hj602, hk602⟩ := bindS hm
          refine c_join (fun b599 e' hp' => [(1, .slice A8 (l11).length c9), (2, .slice A12 (l15).length c13), (3, .pointer (some ⟨g361, 0, none⟩)), (7, .slice A384 (l379).length c385), (60, .slice A407 (l397).length c408), (61, .int .i64 ((l397.length : Int))), (62, .int .i64 ((k535 : Int))), (85, .bool (x601))] = e' ∧ (g361, Cl 63 [.slice A2 (s1.Room).length c3, .slice A5 (s1.Tracks).length c6]) :: (hs409 ++ R) = hp' ∧ b533.Le b599) ?_ ?_
          ·
           have hm := hj602
           by_cases hc625 : x539 < 0
           ·
            rw [if_pos hc625] at hm
            refine D_drawI mixed (.refl _) ?_
            refine E_st 0 rfl (st_move rfl) ?_
            refine E_st 1 rfl (st_lss_t rfl rfl hc625) ?_
            refine E_st 2 rfl (st_move rfl) ?_
            refine E_no 3 69 rfl rfl rfl ?_
            refine E_no 4 69 rfl rfl rfl ?_
            refine E_no 5 69 rfl rfl rfl ?_
            refine E_no 6 69 rfl rfl rfl ?_
            refine E_st 7 rfl (st_pick_t rfl rfl) ?_
            refine E_st 8 rfl (st_move rfl) ?_
            refine E_no 9 75 rfl rfl rfl ?_
            refine E_no 10 75 rfl rfl rfl ?_
            refine E_no 11 75 rfl rfl rfl ?_
            refine E_no 12 75 rfl rfl rfl ?_
            refine E_no 13 75 rfl rfl rfl ?_
            refine E_no 14 75 rfl rfl rfl ?_
            refine E_no 15 75 rfl rfl rfl ?_
            refine E_no 16 75 rfl rfl rfl ?_
            refine E_no 17 75 rfl rfl rfl ?_
            refine E_st 18 rfl (st_pick_t rfl rfl) ?_
            refine E_out ?_
            refine D_done (by kernel_rfl) ?_
            obtain rfl := some1 hm
            exact x_join (e' := [(1, .slice A8 (l11).length c9), (2, .slice A12 (l15).length c13), (3, .pointer (some ⟨g361, 0, none⟩)), (7, .slice A384 (l379).length c385), (60, .slice A407 (l397).length c408), (61, .int .i64 ((l397.length : Int))), (62, .int .i64 ((k535 : Int))), (85, .bool (true))]) ⟨rfl, rfl, rfl, rfl, rfl, rfl, rfl, rfl, trivial⟩ (.refl _) ⟨rfl, rfl, (Base.Le.refl _)⟩
           ·
            rw [if_neg hc625] at hm
            by_cases hc626 : (l11.length : Int) ≤ x539
            ·
             rw [if_pos hc626] at hm
             refine D_drawI mixed (.refl _) ?_
             refine E_st 0 rfl (st_move rfl) ?_
             refine E_st 1 rfl (st_lss_f rfl rfl hc625) ?_
             refine E_st 2 rfl (st_move rfl) ?_
             refine E_yes 3 69 rfl (st_move rfl) ?_
             refine E_yes 4 69 rfl (st_move rfl) ?_
             refine E_yes 5 69 rfl (st_len rfl sl45) ?_
             refine E_yes 6 69 rfl (st_geq_t rfl rfl hc626) ?_
             refine E_st 7 rfl (st_pick_f rfl rfl) ?_
             refine E_st 8 rfl (st_move rfl) ?_
             refine E_no 9 75 rfl rfl rfl ?_
             refine E_no 10 75 rfl rfl rfl ?_
             refine E_no 11 75 rfl rfl rfl ?_
             refine E_no 12 75 rfl rfl rfl ?_
             refine E_no 13 75 rfl rfl rfl ?_
             refine E_no 14 75 rfl rfl rfl ?_
             refine E_no 15 75 rfl rfl rfl ?_
             refine E_no 16 75 rfl rfl rfl ?_
             refine E_no 17 75 rfl rfl rfl ?_
             refine E_st 18 rfl (st_pick_t rfl rfl) ?_
             refine E_out ?_
             refine D_done (by kernel_rfl) ?_
             obtain rfl := some1 hm
             exact x_join (e' := [(1, .slice A8 (l11).length c9), (2, .slice A12 (l15).length c13), (3, .pointer (some ⟨g361, 0, none⟩)), (7, .slice A384 (l379).length c385), (60, .slice A407 (l397).length c408), (61, .int .i64 ((l397.length : Int))), (62, .int .i64 ((k535 : Int))), (85, .bool (true))]) ⟨rfl, rfl, rfl, rfl, rfl, rfl, rfl, rfl, trivial⟩ (.refl _) ⟨rfl, rfl, (Base.Le.refl _)⟩
            ·
             rw [if_neg hc626] at hm
             obtain ⟨x627, h628, hm⟩ := bindS hm
             obtain ⟨x637, h638, hm⟩ := bindS hm
             refine D_drawI mixed (.refl _) ?_
             refine E_st 0 rfl (st_move rfl) ?_
             refine E_st 1 rfl (st_lss_f rfl rfl hc625) ?_
             refine E_st 2 rfl (st_move rfl) ?_
             refine E_yes 3 69 rfl (st_move rfl) ?_
             refine E_yes 4 69 rfl (st_move rfl) ?_
             refine E_yes 5 69 rfl (st_len rfl sl45) ?_
             refine E_yes 6 69 rfl (st_geq_f rfl rfl hc626) ?_
             refine E_st 7 rfl (st_pick_f rfl rfl) ?_
             refine E_st 8 rfl (st_move rfl) ?_
             refine E_yes 9 75 rfl (st_move rfl) ?_
             refine E_yes 10 75 rfl (st_move rfl) ?_
             obtain ⟨j629, hj630, hx631⟩ := idx_some h628
             obtain ⟨cs632, hr633, hcs634, hA635, hlt636⟩ := FZ.get (sz := 1) rfl (by decide) (h10.le (hle372.trans (hle383.trans (hle400.trans (hle417.trans hle534))))) hx631
             obtain rfl := hr633
             refine E_yes 11 75 rfl (st_index_old j629 rfl rfl hj630 hlt636 hA635 sl45) ?_
             refine E_yes 12 75 rfl (st_load_old rfl one3 (hcs634 0 _ rfl)) ?_
             refine E_yes 13 75 rfl (st_move rfl) ?_
             refine E_yes 14 75 rfl (st_move rfl) ?_
             obtain ⟨j639, hj640, hx641⟩ := idx_some h638
             obtain ⟨cs642, hr643, hcs644, hA645, hlt646⟩ := FZ.get (sz := 1) rfl (by decide) (h14.le (hle372.trans (hle383.trans (hle400.trans (hle417.trans hle534))))) hx641
             obtain rfl := hr643
             refine E_yes 15 75 rfl (st_index_old j639 rfl rfl hj640 hlt646 hA645 sl45) ?_
             refine E_yes 16 75 rfl (st_load_old rfl one3 (hcs644 0 _ rfl)) ?_
             refine E_yes 17 75 rfl (st_neq rfl rfl) ?_
             refine E_st 18 rfl (st_pick_f rfl rfl) ?_
             refine E_out ?_
             refine D_done (by kernel_rfl) ?_
             obtain rfl := some1 hm
             exact x_join (e' := [(1, .slice A8 (l11).length c9), (2, .slice A12 (l15).length c13), (3, .pointer (some ⟨g361, 0, none⟩)), (7, .slice A384 (l379).length c385), (60, .slice A407 (l397).length c408), (61, .int .i64 ((l397.length : Int))), (62, .int .i64 ((k535 : Int))), (85, .bool (decide (x627 ≠ x637)))]) ⟨rfl, rfl, rfl, rfl, rfl, rfl, rfl, rfl, trivial⟩ (.refl _) ⟨rfl, rfl, (Base.Le.refl _)⟩
          ·
           rintro b599 _ _ ⟨rfl, rfl, hle600⟩
           have hm := hk602
           refine c_cond _ rfl (fun hc647 => ?_) (fun hc647 => ?_)
           ·
            rw [if_pos hc647] at hm
            refine c_sr ?_
            refine t_as rfl rfl ?_
            refine t_ne ?_
            refine c_ret ?_
            refine x_block_ret ?_
            refine x_then_ret ?_
            refine x_then_ret ?_
            refine x_block_ret ?_
            refine x_then_ret ?_
            have hq648 := houtL422 _ (Option.some.inj hm).symm
            rw [hq648] at hk538
            have hm := elimR hk538
            obtain rfl := some1 hm
            exact retM (rs := [.tmp 6]) [.bool (false)] (hle372.trans (hle383.trans (hle400.trans (hle417.trans (hle534.trans hle600))))) (by decide) rfl ⟨rfl, trivial⟩ rfl (.cons _ (sub_skip hs409 (.refl _))) ⟨rfl, rfl⟩
           ·
            rw [if_neg (fun hh => Bool.noConfusion (hh.symm.trans hc647))] at hm
            refine c_skip ?_
            refine x_block_normal ?_
            refine x_then_normal ?_
            refine c_region ?_
            refine t_st rfl (st_add rfl rfl (by omega)) ?_
            refine t_mv rfl rfl ?_
            refine t_nil ?_
            exact x_againM () (Option.some.inj hm).symm (e' := [(1, .slice A8 (l11).length c9), (2, .slice A12 (l15).length c13), (3, .pointer (some ⟨g361, 0, none⟩)), (7, .slice A384 (l379).length c385), (60, .slice A407 (l397).length c408), (61, .int .i64 ((l397.length : Int))), (62, .int .i64 ((k535 : Int) + 1))]) ⟨rfl, rfl, rfl, rfl, rfl, rfl, rfl, trivial⟩ (.refl _) ⟨rfl, rfl, ((hle534.trans hle600))⟩
         ·
          rintro _ b533 _ _ ⟨rfl, rfl, hle534⟩ hq649
          rw [hq649] at hk538
          have hm := elimL hk538
          refine c_sr ?_
          refine t_st rfl (st_lss_f rfl rfl (by omega)) ?_
          refine t_ne ?_
          refine c_seq ?_
          refine c_cond_f rfl ?_
          refine c_exit ?_
          refine x_then_exit ?_
          refine x_then_exit ?_
          refine x_block_out ?_
          refine x_then_normal ?_
          refine c_seq ?_
          refine c_sr ?_
          refine t_mv rfl rfl ?_
          refine t_st rfl (st_len rfl sl45) ?_
          refine t_st rfl (st_eql rfl rfl) ?_
          refine t_ne ?_
          refine c_cond _ rfl (fun hc650 => ?_) (fun hc650 => ?_)
          ·
           rw [if_pos (of_decide_eq_true hc650)] at hm
           refine c_sr ?_
           refine t_mv rfl rfl ?_
           refine t_st rfl (st_len rfl sl65) ?_
           refine t_st rfl (st_eql rfl rfl) ?_
           refine t_as rfl rfl ?_
           refine t_ne ?_
           refine c_ret ?_
           refine x_then_ret ?_
           obtain rfl := some1 hm
           exact retM (rs := [.tmp 6]) [.bool (decide ((l379.length : Int) = 0))] (hle372.trans (hle383.trans (hle400.trans (hle417.trans hle534)))) (by decide) rfl ⟨rfl, trivial⟩ rfl (.cons _ (sub_skip hs409 (.refl _))) ⟨rfl, rfl⟩
          ·
           rw [if_neg (of_decide_eq_false hc650)] at hm
           refine c_skip ?_
           refine x_then_normal ?_
           refine c_seq ?_
           obtain ⟨_, h675, hm⟩ := bindS hm
           obtain ⟨l676, h677, hm⟩ := bindS hm
           obtain ⟨⟨l691, x692⟩, hcl693, hm⟩ := bindS hm
           have hm := (unc2E hm)
           refine D_drawI mixed (.refl _) ?_
           refine E_st 0 rfl (st_loadD (vs := [_, _]) 0 2 rfl agg63 rfl rfl rfl) ?_
           refine E_st 1 rfl (st_move rfl) ?_
           refine E_st 2 rfl (st_move rfl) ?_
           refine E_st 3 rfl (st_move rfl) ?_
           refine E_st 4 rfl (st_len rfl sl45) ?_
           have h675 := (chk_some h675).2
           refine E_st 5 rfl (st_sub rfl rfl h675) ?_
           obtain ⟨j678, j679, hj680, hj681, hj682, hj683, hx684⟩ := cutS_some h677
           have h685 := FZ.sub (sz := 1) rfl (h14.le (hle372.trans (hle383.trans (hle400.trans (hle417.trans hle534))))) hj682 hj683
           have h686 := (h14.le (hle372.trans (hle383.trans (hle400.trans (hle417.trans hle534))))).1.1
           rw [← hx684] at h685
           refine E_st 6 rfl (hx684 ▸ st_part (l := l15) j678 j679 rfl (.inl ⟨rfl, by omega⟩) (.inr ⟨_, _, _, rfl, rfl, hj681⟩) hj682 hj683 h686 sl45) ?_
           refine E_out ?_
           refine D_all [7] (by kernel_rfl) rfl ?_
           refine R_callGl (Base.Le.refl _) rfl rfl _ call30 rfl (cFleetShunt _ _ s1 l11 l676 A2 c3 A5 c6 A8 c9 (subA A12 c13 j678 1) (c13 - j678) (h4.le (hle372.trans (hle383.trans (hle400.trans (hle417.trans hle534))))) (h7.le (hle372.trans (hle383.trans (hle400.trans (hle417.trans hle534))))) (h10.le (hle372.trans (hle383.trans (hle400.trans (hle417.trans hle534))))) h685 l691 x692 hcl693) ?_ ?_
           ·
            rintro _ b694 _ hle695 ⟨A696, c697, rfl, rfl, h698⟩
            refine ⟨.inr (.refl _), ?_⟩
            refine D_st hle695 8 rfl (by kernel_rfl) (by kernel_rfl) (by kernel_rfl) rfl (st_move rfl) (.refl _) ?_
            refine D_st hle695 9 rfl (by kernel_rfl) (by kernel_rfl) (by kernel_rfl) rfl (st_extract rfl rfl) (.refl _) ?_
            refine D_st hle695 10 rfl (by kernel_rfl) (by kernel_rfl) (by kernel_rfl) rfl (st_extract rfl rfl) (.refl _) ?_
            refine D_st hle695 11 rfl (by kernel_rfl) (by kernel_rfl) (by kernel_rfl) rfl (st_assign rfl) (.refl _) ?_
            refine D_st hle695 12 rfl (by kernel_rfl) (by kernel_rfl) (by kernel_rfl) rfl (st_assign rfl) (.refl _) ?_
            refine D_done (by kernel_rfl) ?_
            refine x_then_normal ?_
            obtain ⟨x702, hj703, hk703⟩ := bindS hm
            refine c_join (fun b700 e' hp' => [(6, .bool (x702))] = e' ∧ R = hp' ∧ b694.Le b700) ?_ ?_
            ·
             have hm := hj703
             refine c_region ?_
             refine t_mv rfl rfl ?_
             refine t_bool rfl (st_eql rfl rfl) (fun hc704 => ?_) (fun hc704 => ?_)
             ·
              rw [if_pos hc704] at hm
              refine t_mv rfl rfl ?_
              refine t_yes 106 rfl rfl rfl ?_
              refine t_mv rfl rfl ?_
              refine t_yes 106 rfl rfl rfl ?_
              refine t_st rfl (st_len rfl sl65) ?_
              refine t_yes 106 rfl rfl rfl ?_
              refine t_mv rfl rfl ?_
              refine t_yes 106 rfl rfl rfl ?_
              refine t_st rfl (st_len rfl sl65) ?_
              refine t_yes 106 rfl rfl rfl ?_
              refine t_st rfl (st_lss rfl rfl) ?_
              refine t_st rfl (st_pick_t rfl rfl) ?_
              refine t_as rfl rfl ?_
              refine t_nil ?_
              obtain rfl := some1 hm
              exact x_join (e' := [(6, .bool (decide ((l691.length : Int) < (l379.length : Int))))]) ⟨rfl, trivial⟩ (.cons _ (sub_skip hs409 (.refl _))) ⟨rfl, rfl, (Base.Le.refl _)⟩
             ·
              rw [if_neg hc704] at hm
              refine t_mv rfl rfl ?_
              refine t_no 106 rfl rfl rfl rfl rfl ?_
              refine t_no 106 rfl rfl rfl rfl rfl ?_
              refine t_no 106 rfl rfl rfl rfl rfl ?_
              refine t_no 106 rfl rfl rfl rfl rfl ?_
              refine t_no 106 rfl rfl rfl rfl rfl ?_
              refine t_st rfl (st_pick_f rfl rfl) ?_
              refine t_as rfl rfl ?_
              refine t_nil ?_
              obtain rfl := some1 hm
              exact x_join (e' := [(6, .bool (false))]) ⟨rfl, trivial⟩ (.cons _ (sub_skip hs409 (.refl _))) ⟨rfl, rfl, (Base.Le.refl _)⟩
            ·
             rintro b700 _ _ ⟨rfl, rfl, hle701⟩
             have hm := hk703
             refine c_ret ?_
             obtain rfl := some1 hm
             exact retM (rs := [.tmp 6]) [.bool (x702)] (hle372.trans (hle383.trans (hle400.trans (hle417.trans (hle534.trans (hle695.trans hle701)))))) (by decide) rfl ⟨rfl, trivial⟩ rfl (.refl _) ⟨rfl, rfl⟩
           exact R_nil

end Go.Proofs.Ytajmocgpjkhjlaa
