/- Contracts: the code computes its model (part 4). -/
import Derived.Test.YtajmocgpjkhjlaaAP3
set_option linter.unusedVariables false
set_option linter.unusedSimpArgs false
namespace Go.Proofs.Ytajmocgpjkhjlaa
open Go.RowKit Go.Fp

set_option maxRecDepth 20000 in
theorem cFleetInspect (b : Base) (R : Hp) (l4 : (List FleetTask)) (l8 : (List (List Int))) (l12 : (List FleetSet)) (s13 : FleetShop) (A1 : Option Addr) (c2 : Nat) (A5 : Option Addr) (c6 : Nat) (A9 : Option Addr) (c10 : Nat) (h3 : FZ rFleetTask b.w A1 c2 l4) (h7 : FZ (RT.list (RT.int .i64)) b.w A5 c6 l8) (h11 : FZ rFleetSet b.w A9 c10 l12) (x1809 : Int) (l1810 : (List (List Int))) (hm : mFleetInspect l4 l8 l12 s13 = some (x1809, l1810)) :
    CallsG Try.prog 18 [.slice A1 (l4).length c2, .slice A5 (l8).length c6, .slice A9 (l12).length c10, .agg #[.int .i64 (s13.Place), .int .i64 (s13.Long), .int .i64 (s13.Limit)]] b (R) (fun v b' hp' => ∃ (A1806 : Option Addr), ∃ (c1807 : Nat), ∃ (hs1805 : Hp), .tuple #[.slice A1806 (l1810).length c1807, .int .i64 (x1809)] = v ∧ (hs1805 ++ R) = hp' ∧ OS 45 (OT.fr (RT.list (RT.int .i64))) b'.w (.slice A1806 l1810.length c1807) l1810 hs1805) := by
  refine fn_enterG 120 Try.func18 rfl Try.ntmps18 rfl ?_
  unfold mFleetInspect at hm
  refine c_seq ?_
  refine c_region ?_
  refine t_do rfl (u_box _ rfl rfl) ?_
  rintro _ _ ⟨g1811, rfl, rfl⟩
  refine t_st rfl (st_assign rfl) ?_
  refine t_st rfl (st_assign rfl) ?_
  refine t_nil ?_
  refine x_then_normal ?_
  refine c_seq ?_
  refine c_seq ?_
  refine c_region ?_
  refine t_st rfl (st_move rfl) ?_
  obtain ⟨x1812, hcl1813, hm⟩ := bindS hm
  refine t_do rfl (u_callW0 _ call47 rfl (fun w ho => cFleetCheckTasks _ [] l4 A1 c2 (h3.old ho) x1812 hcl1813) (fun _ _ _ h => h.2.symm)) ?_
  rintro _ _ ⟨⟨_, rfl, _⟩, rfl⟩
  refine t_st rfl (st_assign rfl) ?_
  refine t_nil ?_
  refine x_then_normal ?_
  refine c_seq ?_
  refine c_region ?_
  refine t_st rfl (st_move rfl) ?_
  refine t_st rfl (st_neq rfl rfl) ?_
  refine t_nil ?_
  refine x_then_normal ?_
  refine c_cond _ rfl (fun hc1814 => ?_) (fun hc1814 => ?_)
  ·
   rw [if_pos (of_decide_eq_true hc1814)] at hm
   refine c_seq ?_
   refine c_region ?_
   refine t_st rfl (st_move rfl) ?_
   refine t_st rfl (st_assign rfl) ?_
   refine t_st rfl (st_assign rfl) ?_
   refine t_nil ?_
   refine x_then_normal ?_
   refine c_ret ?_
   refine x_then_ret ?_
   obtain ⟨rfl, rfl⟩ := some2 hm
   exact retM (rs := [.tmp 8, .tmp 9]) [.slice none 0 0, .int .i64 (x1812)] (Base.Le.refl _) (by decide) rfl ⟨rfl, ⟨rfl, trivial⟩⟩ rfl (hp' := ([] ++ R)) (.cons _ (.refl _)) ⟨none, 0, [], rfl, rfl, OS.nil⟩
  ·
   rw [if_neg (of_decide_eq_false hc1814)] at hm
   refine c_skip ?_
   refine x_then_normal ?_
   refine c_seq ?_
   refine c_seq ?_
   refine c_region ?_
   refine t_st rfl (st_move rfl) ?_
   refine t_st rfl (st_loadD (vs := [_, _, _]) 0 3 rfl agg40 rfl rfl rfl) ?_
   obtain ⟨x1815, hcl1816, hm⟩ := bindS hm
   refine t_do rfl (u_callW0 _ call48 rfl (fun w ho => cFleetCheckSets _ [] l12 s13 40 A9 c10 (h11.old ho) x1815 hcl1816) (fun _ _ _ h => h.2.symm)) ?_
   rintro _ _ ⟨⟨_, rfl, _⟩, rfl⟩
   refine t_st rfl (st_assign rfl) ?_
   refine t_nil ?_
   refine x_then_normal ?_
   refine c_seq ?_
   refine c_region ?_
   refine t_st rfl (st_move rfl) ?_
   refine t_st rfl (st_neq rfl rfl) ?_
   refine t_nil ?_
   refine x_then_normal ?_
   refine c_cond _ rfl (fun hc1817 => ?_) (fun hc1817 => ?_)
   ·
    rw [if_pos (of_decide_eq_true hc1817)] at hm
    refine c_seq ?_
    refine c_region ?_
    refine t_st rfl (st_move rfl) ?_
    refine t_st rfl (st_assign rfl) ?_
    refine t_st rfl (st_assign rfl) ?_
    refine t_nil ?_
    refine x_then_normal ?_
    refine c_ret ?_
    refine x_then_ret ?_
    obtain ⟨rfl, rfl⟩ := some2 hm
    exact retM (rs := [.tmp 8, .tmp 9]) [.slice none 0 0, .int .i64 (x1815)] (Base.Le.refl _) (by decide) rfl ⟨rfl, ⟨rfl, trivial⟩⟩ rfl (hp' := ([] ++ R)) (.cons _ (.refl _)) ⟨none, 0, [], rfl, rfl, OS.nil⟩
   ·
    rw [if_neg (of_decide_eq_false hc1817)] at hm
    refine c_skip ?_
    refine x_then_normal ?_
    refine c_seq ?_
    refine c_seq ?_
    refine c_region ?_
    refine t_st rfl (st_move rfl) ?_
    refine t_st rfl (st_len rfl sl26) ?_
    refine t_st rfl (st_move rfl) ?_
    refine t_st rfl (st_len rfl sl38) ?_
    refine t_st rfl (st_neq rfl rfl) ?_
    refine t_nil ?_
    refine x_then_normal ?_
    refine c_cond _ rfl (fun hc1818 => ?_) (fun hc1818 => ?_)
    ·
     rw [if_pos (of_decide_eq_true hc1818)] at hm
     refine c_seq ?_
     refine c_region ?_
     refine t_st rfl (st_assign rfl) ?_
     refine t_st rfl (st_assign rfl) ?_
     refine t_nil ?_
     refine x_then_normal ?_
     refine c_ret ?_
     refine x_then_ret ?_
     obtain ⟨rfl, rfl⟩ := some2 hm
     exact retM (rs := [.tmp 8, .tmp 9]) [.slice none 0 0, .int .i64 (1)] (Base.Le.refl _) (by decide) rfl ⟨rfl, ⟨rfl, trivial⟩⟩ rfl (hp' := ([] ++ R)) (.cons _ (.refl _)) ⟨none, 0, [], rfl, rfl, OS.nil⟩
    ·
     rw [if_neg (of_decide_eq_false hc1818)] at hm
     refine c_skip ?_
     refine x_then_normal ?_
     refine c_seq ?_
     refine c_seq ?_
     refine c_region ?_
     refine t_st rfl (st_move rfl) ?_
     refine t_st rfl (st_len rfl sl26) ?_
     refine t_st rfl (st_move rfl) ?_
     refine t_nil ?_
     refine x_then_normal ?_
     refine c_block ?_
     have hb1820 := (FZ.bd h7)
     obtain ⟨t2604, hl2605, hk2606⟩ := bindS hm
     refine c_forM (fun k2603 => fun _ => fun b2601 e' hp' => [(0, .slice A1 (l4).length c2), (1, .slice A5 (l8).length c6), (2, .slice A9 (l12).length c10), (7, .pointer (some ⟨g1811, 0, none⟩)), (37, .slice A5 (l8).length c6), (38, .int .i64 ((l8.length : Int))), (39, .int .i64 ((k2603 : Int)))] = e' ∧ (g1811, Cl 40 [.int .i64 (s13.Place), .int .i64 (s13.Long), .int .i64 (s13.Limit)]) :: R = hp' ∧ b.Le b2601) hl2605 (e' := [(0, .slice A1 (l4).length c2), (1, .slice A5 (l8).length c6), (2, .slice A9 (l12).length c10), (7, .pointer (some ⟨g1811, 0, none⟩)), (37, .slice A5 (l8).length c6), (38, .int .i64 ((l8.length : Int))), (39, .int .i64 0)]) (hp' := (g1811, Cl 40 [.int .i64 (s13.Place), .int .i64 (s13.Long), .int .i64 (s13.Limit)]) :: R) ⟨rfl, rfl, rfl, rfl, rfl, rfl, rfl, trivial⟩ (.cons_cons _ (.refl _)) ⟨rfl, rfl, (Base.Le.refl _)⟩ ?_ ?_
     ·
      rintro k2603 _ b2601 _ _ oL1819 hknL1819 ⟨rfl, rfl, hle2602⟩ hstepL1819 houtL1819
      unfold mFleetInspect_L1819 at hstepL1819
      have hm := hstepL1819
      refine c_seq ?_
      refine c_region ?_
      refine t_st rfl (st_lss_t rfl rfl (by omega)) ?_
      refine t_nil ?_
      refine x_then_normal ?_
      refine c_seq ?_
      refine c_cond_t rfl ?_
      refine c_skip ?_
      refine x_then_normal ?_
      refine c_seq ?_
      refine c_block ?_
      refine c_seq ?_
      refine c_region ?_
      refine t_st rfl (st_move rfl) ?_
      obtain ⟨x2607, h2608, hm⟩ := bindS hm
      obtain ⟨j2609, hj2610, hx2611⟩ := idx_some h2608
      obtain ⟨cs2612, hr2613, hcs2614, hA2615, hlt2616⟩ := FZ.get (sz := 1) rfl (by decide) (h7.le hle2602) hx2611
      obtain ⟨A2617, c2618, rfl, h2619⟩ := hr2613
      refine t_st rfl (st_index_old j2609 rfl rfl hj2610 hlt2616 hA2615 sl26) ?_
      refine t_st rfl (st_load_old rfl one45 (hcs2614 0 _ rfl)) ?_
      refine t_st rfl (st_assign rfl) ?_
      refine t_st rfl (st_assign rfl) ?_
      refine t_nil ?_
      refine x_then_normal ?_
      refine c_seq ?_
      refine c_region ?_
      refine t_st rfl (st_move rfl) ?_
      refine t_st rfl (st_len rfl sl45) ?_
      refine t_st rfl (st_move rfl) ?_
      refine t_nil ?_
      refine x_then_normal ?_
      refine c_block ?_
      have hb2621 := (FZ.bd h2619)
      obtain ⟨t3004, hl3005, hk3006⟩ := bindS hm
      refine c_forM (fun k3003 => fun _ => fun b3001 e' hp' => [(0, .slice A1 (l4).length c2), (1, .slice A5 (l8).length c6), (2, .slice A9 (l12).length c10), (7, .pointer (some ⟨g1811, 0, none⟩)), (12, .int .i64 ((k2603 : Int))), (13, .slice A2617 (x2607).length c2618), (37, .slice A5 (l8).length c6), (38, .int .i64 ((l8.length : Int))), (39, .int .i64 ((k2603 : Int))), (44, .slice A2617 (x2607).length c2618), (45, .int .i64 ((x2607.length : Int))), (46, .int .i64 ((k3003 : Int)))] = e' ∧ (g1811, Cl 40 [.int .i64 (s13.Place), .int .i64 (s13.Long), .int .i64 (s13.Limit)]) :: R = hp' ∧ b2601.Le b3001) hl3005 (e' := [(0, .slice A1 (l4).length c2), (1, .slice A5 (l8).length c6), (2, .slice A9 (l12).length c10), (7, .pointer (some ⟨g1811, 0, none⟩)), (12, .int .i64 ((k2603 : Int))), (13, .slice A2617 (x2607).length c2618), (37, .slice A5 (l8).length c6), (38, .int .i64 ((l8.length : Int))), (39, .int .i64 ((k2603 : Int))), (44, .slice A2617 (x2607).length c2618), (45, .int .i64 ((x2607.length : Int))), (46, .int .i64 0)]) (hp' := (g1811, Cl 40 [.int .i64 (s13.Place), .int .i64 (s13.Long), .int .i64 (s13.Limit)]) :: R) ⟨rfl, rfl, rfl, rfl, rfl, rfl, rfl, rfl, rfl, rfl, rfl, rfl, trivial⟩ (.cons_cons _ (.refl _)) ⟨rfl, rfl, (Base.Le.refl _)⟩ ?_ ?_
      ·
       rintro k3003 _ b3001 _ _ oL2620 hknL2620 ⟨rfl, rfl, hle3002⟩ hstepL2620 houtL2620
       unfold mFleetInspect_L2620 at hstepL2620
       have hm := hstepL2620
       refine c_seq ?_
       refine c_region ?_
       refine t_st rfl (st_lss_t rfl rfl (by omega)) ?_
       refine t_nil ?_
       refine x_then_normal ?_
       refine c_seq ?_
       refine c_cond_t rfl ?_
       refine c_skip ?_
       refine x_then_normal ?_
       refine c_seq ?_
       refine c_block ?_
       refine c_seq ?_
       refine c_region ?_
       refine t_st rfl (st_move rfl) ?_
       obtain ⟨x3007, h3008, hm⟩ := bindS hm
       obtain ⟨j3009, hj3010, hx3011⟩ := idx_some h3008
       obtain ⟨cs3012, hr3013, hcs3014, hA3015, hlt3016⟩ := FZ.get (sz := 1) rfl (by decide) (h2619.le hle3002) hx3011
       obtain rfl := hr3013
       refine t_st rfl (st_index_old j3009 rfl rfl hj3010 hlt3016 hA3015 sl45) ?_
       refine t_st rfl (st_load_old rfl one3 (hcs3014 0 _ rfl)) ?_
       refine t_st rfl (st_assign rfl) ?_
       refine t_st rfl (st_assign rfl) ?_
       refine t_nil ?_
       refine x_then_normal ?_
       refine c_seq ?_
       refine c_seq ?_
       refine c_region ?_
       refine t_st rfl (st_move rfl) ?_
       refine t_st rfl (st_move rfl) ?_
       refine t_st rfl (st_len rfl sl22) ?_
       obtain ⟨_, h3017, hm⟩ := bindS hm
       have h3017 := (chk_some h3017).2
       refine t_st rfl (st_sub rfl rfl h3017) ?_
       obtain ⟨x3018, hcl3019, hm⟩ := bindS hm
       refine t_do rfl (u_callW0 _ call46 rfl (fun w ho => cFleetWithin _ [] x3007 0 ((l4.length : Int) - 1) x3018 hcl3019) (fun _ _ _ h => h.2.symm)) ?_
       rintro _ _ ⟨⟨_, rfl, _⟩, rfl⟩
       refine t_st rfl (st_not rfl) ?_
       refine t_nil ?_
       refine x_then_normal ?_
       refine c_cond _ rfl (fun hc3020 => ?_) (fun hc3020 => ?_)
       ·
        rw [if_neg (fun hh => Bool.noConfusion (hh.symm.trans (notT hc3020)))] at hm
        refine c_seq ?_
        refine c_region ?_
        refine t_st rfl (st_assign rfl) ?_
        refine t_st rfl (st_assign rfl) ?_
        refine t_nil ?_
        refine x_then_normal ?_
        refine c_ret ?_
        refine x_then_ret ?_
        refine x_block_ret ?_
        refine x_then_ret ?_
        refine x_then_ret ?_
        refine x_block_ret ?_
        refine x_block_ret ?_
        refine x_then_ret ?_
        refine x_then_ret ?_
        refine x_block_ret ?_
        refine x_then_ret ?_
        have hq3021 := houtL2620 _ (Option.some.inj hm).symm
        rw [hq3021] at hk3006
        have hm := elimR hk3006
        have hq3022 := houtL1819 _ (Option.some.inj hm).symm
        rw [hq3022] at hk2606
        have hm := elimR hk2606
        obtain ⟨rfl, rfl⟩ := some2 hm
        exact retM (rs := [.tmp 8, .tmp 9]) [.slice none 0 0, .int .i64 (2)] (hle2602.trans hle3002) (by decide) rfl ⟨rfl, ⟨rfl, trivial⟩⟩ rfl (hp' := ([] ++ R)) (.cons _ (.refl _)) ⟨none, 0, [], rfl, rfl, OS.nil⟩
       ·
        rw [if_pos (notF hc3020)] at hm
        refine c_skip ?_
        refine x_then_normal ?_
        obtain ⟨x3205, hj3206, hk3206⟩ := bindS hm
        refine c_join (fun b3203 e' hp' => [(0, .slice A1 (l4).length c2), (1, .slice A5 (l8).length c6), (2, .slice A9 (l12).length c10), (7, .pointer (some ⟨g1811, 0, none⟩)), (12, .int .i64 ((k2603 : Int))), (13, .slice A2617 (x2607).length c2618), (37, .slice A5 (l8).length c6), (38, .int .i64 ((l8.length : Int))), (39, .int .i64 ((k2603 : Int))), (44, .slice A2617 (x2607).length c2618), (45, .int .i64 ((x2607.length : Int))), (46, .int .i64 ((k3003 : Int))), (91, .bool (x3205))] = e' ∧ (g1811, Cl 40 [.int .i64 (s13.Place), .int .i64 (s13.Long), .int .i64 (s13.Limit)]) :: R = hp' ∧ b3001.Le b3203) ?_ ?_
        ·
         have hm := hj3206
         by_cases hc3297 : (k3003 : Int) = 0
         ·
          rw [if_pos hc3297] at hm
          obtain ⟨x3298, h3299, hm⟩ := bindS hm
          obtain ⟨x3308, h3309, hm⟩ := bindS hm
          by_cases hc3318 : x3298.From ≠ x3308.Home
          ·
           rw [if_pos hc3318] at hm
           refine D_drawS ((g1811, Cl 40 [.int .i64 (s13.Place), .int .i64 (s13.Long), .int .i64 (s13.Limit)]) :: R) mixed ?_
           refine E_in (.cons_cons _ (.refl _)) ?_
           refine E_st 0 rfl (st_move rfl) ?_
           refine E_st 1 rfl (st_eql_t rfl rfl hc3297) ?_
           refine E_st 2 rfl (st_move rfl) ?_
           refine E_yes 3 59 rfl (st_move rfl) ?_
           refine E_yes 4 59 rfl (st_move rfl) ?_
           obtain ⟨j3300, hj3301, hx3302⟩ := idx_some h3299
           obtain ⟨cs3303, hr3304, hcs3305, hA3306, hlt3307⟩ := FZ.get (sz := 6) rfl (by decide) (h3.le (hle2602.trans hle3002)) hx3302
           obtain ⟨_, _, rfl, rfl, ⟨_, _, rfl, rfl, ⟨_, _, rfl, rfl, ⟨_, _, rfl, rfl, ⟨_, _, rfl, rfl, rfl⟩⟩⟩⟩⟩ := hr3304
           refine E_yes 5 59 rfl (st_index_old j3300 rfl rfl hj3301 hlt3307 hA3306 sl22) ?_
           refine E_yes 6 59 rfl (st_field_old rfl hA3306 fld36_0) ?_
           refine E_yes 7 59 rfl (st_load_old rfl one3 (hcs3305 0 _ rfl)) ?_
           refine E_yes 8 59 rfl (st_move rfl) ?_
           refine E_yes 9 59 rfl (st_move rfl) ?_
           obtain ⟨j3310, hj3311, hx3312⟩ := idx_some h3309
           obtain ⟨cs3313, hr3314, hcs3315, hA3316, hlt3317⟩ := FZ.get (sz := 2) rfl (by decide) (h11.le (hle2602.trans hle3002)) hx3312
           obtain ⟨_, _, rfl, rfl, rfl⟩ := hr3314
           refine E_yes 10 59 rfl (st_index_old j3310 rfl rfl hj3311 hlt3317 hA3316 sl38) ?_
           refine E_yes 11 59 rfl (st_field_old rfl hA3316 fld47_0) ?_
           refine E_yes 12 59 rfl (st_load_old rfl one3 (hcs3315 0 _ rfl)) ?_
           refine E_yes 13 59 rfl (st_neq_t rfl rfl hc3318) ?_
           refine E_st 14 rfl (st_pick_t rfl rfl) ?_
           refine E_st 15 rfl (st_move rfl) ?_
           refine E_no 16 72 rfl rfl rfl ?_
           refine E_no 17 72 rfl rfl rfl ?_
           refine E_no 18 72 rfl rfl rfl ?_
           refine E_no 19 75 rfl rfl rfl ?_
           refine E_no 20 75 rfl rfl rfl ?_
           refine E_no 21 75 rfl rfl rfl ?_
           refine E_no 22 75 rfl rfl rfl ?_
           refine E_no 23 75 rfl rfl rfl ?_
           refine E_no 24 75 rfl rfl rfl ?_
           refine E_no 25 75 rfl rfl rfl ?_
           refine E_no 26 75 rfl rfl rfl ?_
           refine E_no 27 75 rfl rfl rfl ?_
           refine E_no 28 75 rfl rfl rfl ?_
           refine E_no 29 75 rfl rfl rfl ?_
           refine E_no 30 75 rfl rfl rfl ?_
           refine E_no 31 75 rfl rfl rfl ?_
           refine E_no 32 75 rfl rfl rfl ?_
           refine E_no 33 72 rfl rfl rfl ?_
           refine E_st 34 rfl (st_pick_t rfl rfl) ?_
           refine E_out ?_
           refine D_done (by kernel_rfl) ?_
           obtain rfl := some1 hm
           exact x_join (e' := [(0, .slice A1 (l4).length c2), (1, .slice A5 (l8).length c6), (2, .slice A9 (l12).length c10), (7, .pointer (some ⟨g1811, 0, none⟩)), (12, .int .i64 ((k2603 : Int))), (13, .slice A2617 (x2607).length c2618), (37, .slice A5 (l8).length c6), (38, .int .i64 ((l8.length : Int))), (39, .int .i64 ((k2603 : Int))), (44, .slice A2617 (x2607).length c2618), (45, .int .i64 ((x2607.length : Int))), (46, .int .i64 ((k3003 : Int))), (91, .bool (true))]) (hp' := (g1811, Cl 40 [.int .i64 (s13.Place), .int .i64 (s13.Long), .int .i64 (s13.Limit)]) :: R) ⟨rfl, rfl, rfl, rfl, rfl, rfl, rfl, rfl, rfl, rfl, rfl, rfl, rfl, trivial⟩ (.cons_cons _ (.refl _)) ⟨rfl, rfl, (Base.Le.refl _)⟩
          ·
           rw [if_neg hc3318] at hm
           by_cases hc3319 : 0 < (k3003 : Int)
           ·
            rw [if_pos hc3319] at hm
            obtain ⟨_, h3320, hm⟩ := bindS hm
            obtain ⟨x3321, h3322, hm⟩ := bindS hm
            obtain ⟨x3331, h3332, hm⟩ := bindS hm
            obtain ⟨x3341, h3342, hm⟩ := bindS hm
            obtain ⟨x3351, hcl3352, hm⟩ := bindS hm
            refine D_drawS ((g1811, Cl 40 [.int .i64 (s13.Place), .int .i64 (s13.Long), .int .i64 (s13.Limit)]) :: R) mixed ?_
            refine E_in (.cons_cons _ (.refl _)) ?_
            refine E_st 0 rfl (st_move rfl) ?_
            refine E_st 1 rfl (st_eql_t rfl rfl hc3297) ?_
            refine E_st 2 rfl (st_move rfl) ?_
            refine E_yes 3 59 rfl (st_move rfl) ?_
            refine E_yes 4 59 rfl (st_move rfl) ?_
            obtain ⟨j3300, hj3301, hx3302⟩ := idx_some h3299
            obtain ⟨cs3303, hr3304, hcs3305, hA3306, hlt3307⟩ := FZ.get (sz := 6) rfl (by decide) (h3.le (hle2602.trans hle3002)) hx3302
            obtain ⟨_, _, rfl, rfl, ⟨_, _, rfl, rfl, ⟨_, _, rfl, rfl, ⟨_, _, rfl, rfl, ⟨_, _, rfl, rfl, rfl⟩⟩⟩⟩⟩ := hr3304
            refine E_yes 5 59 rfl (st_index_old j3300 rfl rfl hj3301 hlt3307 hA3306 sl22) ?_
            refine E_yes 6 59 rfl (st_field_old rfl hA3306 fld36_0) ?_
            refine E_yes 7 59 rfl (st_load_old rfl one3 (hcs3305 0 _ rfl)) ?_
            refine E_yes 8 59 rfl (st_move rfl) ?_
            refine E_yes 9 59 rfl (st_move rfl) ?_
            obtain ⟨j3310, hj3311, hx3312⟩ := idx_some h3309
            obtain ⟨cs3313, hr3314, hcs3315, hA3316, hlt3317⟩ := FZ.get (sz := 2) rfl (by decide) (h11.le (hle2602.trans hle3002)) hx3312
            obtain ⟨_, _, rfl, rfl, rfl⟩ := hr3314
            refine E_yes 10 59 rfl (st_index_old j3310 rfl rfl hj3311 hlt3317 hA3316 sl38) ?_
            refine E_yes 11 59 rfl (st_field_old rfl hA3316 fld47_0) ?_
            refine E_yes 12 59 rfl (st_load_old rfl one3 (hcs3315 0 _ rfl)) ?_
            refine E_yes 13 59 rfl (st_neq_f rfl rfl hc3318) ?_
            refine E_st 14 rfl (st_pick_t rfl rfl) ?_
            refine E_st 15 rfl (st_move rfl) ?_
            refine E_yes 16 72 rfl (st_move rfl) ?_
            refine E_yes 17 72 rfl (st_gtr_t rfl rfl hc3319) ?_
            refine E_yes 18 72 rfl (st_move rfl) ?_
            refine E_yes 19 75 rfl (st_move rfl) ?_
            refine E_yes 20 75 rfl (st_move rfl) ?_
            refine E_yes 21 75 rfl (st_move rfl) ?_
            have h3320 := (chk_some h3320).2
            refine E_yes 22 75 rfl (st_sub rfl rfl h3320) ?_
            obtain ⟨j3323, hj3324, hx3325⟩ := idx_some h3322
            obtain ⟨cs3326, hr3327, hcs3328, hA3329, hlt3330⟩ := FZ.get (sz := 1) rfl (by decide) (h2619.le hle3002) hx3325
            obtain rfl := hr3327
            refine E_yes 23 75 rfl (st_index_old j3323 rfl rfl hj3324 hlt3330 hA3329 sl45) ?_
            refine E_yes 24 75 rfl (st_load_old rfl one3 (hcs3328 0 _ rfl)) ?_
            obtain ⟨j3333, hj3334, hx3335⟩ := idx_some h3332
            obtain ⟨cs3336, hr3337, hcs3338, hA3339, hlt3340⟩ := FZ.get (sz := 6) rfl (by decide) (h3.le (hle2602.trans hle3002)) hx3335
            obtain ⟨_, _, rfl, rfl, ⟨_, _, rfl, rfl, ⟨_, _, rfl, rfl, ⟨_, _, rfl, rfl, ⟨_, _, rfl, rfl, rfl⟩⟩⟩⟩⟩ := hr3337
            refine E_yes 25 75 rfl (st_index_old j3333 rfl rfl hj3334 hlt3340 hA3339 sl22) ?_
            refine E_yes 26 75 rfl (st_loadN_old (vs := [.int .i64 (x3331.From), .int .i64 (x3331.To), .int .i64 (x3331.Dep), .int .i64 (x3331.Arr), .int .i64 (x3331.Km), .int .i64 (x3331.Units)]) 6 rfl agg36 hA3339 rfl (fun j u hu => hcs3338 j u hu)) ?_
            refine E_yes 27 75 rfl (st_move rfl) ?_
            refine E_yes 28 75 rfl (st_move rfl) ?_
            obtain ⟨j3343, hj3344, hx3345⟩ := idx_some h3342
            obtain ⟨cs3346, hr3347, hcs3348, hA3349, hlt3350⟩ := FZ.get (sz := 6) rfl (by decide) (h3.le (hle2602.trans hle3002)) hx3345
            obtain ⟨_, _, rfl, rfl, ⟨_, _, rfl, rfl, ⟨_, _, rfl, rfl, ⟨_, _, rfl, rfl, ⟨_, _, rfl, rfl, rfl⟩⟩⟩⟩⟩ := hr3347
            refine E_yes 29 75 rfl (st_index_old j3343 rfl rfl hj3344 hlt3350 hA3349 sl22) ?_
            refine E_yes 30 75 rfl (st_loadN_old (vs := [.int .i64 (x3341.From), .int .i64 (x3341.To), .int .i64 (x3341.Dep), .int .i64 (x3341.Arr), .int .i64 (x3341.Km), .int .i64 (x3341.Units)]) 6 rfl agg36 hA3349 rfl (fun j u hu => hcs3348 j u hu)) ?_
            refine E_out ?_
            refine D_all [31] (by kernel_rfl) rfl ?_
            refine R_doY (Base.Le.refl _) rfl rfl 75 rfl rfl rfl (u_callW0 _ call45 rfl (fun w ho => cFleetFollows _ [] x3331 x3341 0 x3351 hcl3352) (fun _ _ _ h => h.2.symm)) ?_ ?_
            ·
             rintro _ _ ⟨⟨_, rfl, _⟩, rfl⟩
             refine ⟨.inr (.cons_cons _ (.refl _)), ?_⟩
             refine E_in (.cons_cons _ (.refl _)) ?_
             refine E_yes 32 75 rfl (st_not rfl) ?_
             refine E_yes 33 72 rfl (st_pick_t rfl rfl) ?_
             refine E_st 34 rfl (st_pick_f rfl rfl) ?_
             refine E_out ?_
             refine D_done (by kernel_rfl) ?_
             obtain rfl := some1 hm
             exact x_join (e' := [(0, .slice A1 (l4).length c2), (1, .slice A5 (l8).length c6), (2, .slice A9 (l12).length c10), (7, .pointer (some ⟨g1811, 0, none⟩)), (12, .int .i64 ((k2603 : Int))), (13, .slice A2617 (x2607).length c2618), (37, .slice A5 (l8).length c6), (38, .int .i64 ((l8.length : Int))), (39, .int .i64 ((k2603 : Int))), (44, .slice A2617 (x2607).length c2618), (45, .int .i64 ((x2607.length : Int))), (46, .int .i64 ((k3003 : Int))), (91, .bool (!x3351))]) (hp' := (g1811, Cl 40 [.int .i64 (s13.Place), .int .i64 (s13.Long), .int .i64 (s13.Limit)]) :: R) ⟨rfl, rfl, rfl, rfl, rfl, rfl, rfl, rfl, rfl, rfl, rfl, rfl, rfl, trivial⟩ (.cons_cons _ (.refl _)) ⟨rfl, rfl, (Base.Le.refl _)⟩
            exact R_nil
           ·
            rw [if_neg hc3319] at hm
            refine D_drawS ((g1811, Cl 40 [.int .i64 (s13.Place), .int .i64 (s13.Long), .int .i64 (s13.Limit)]) :: R) mixed ?_
            refine E_in (.cons_cons _ (.refl _)) ?_
            refine E_st 0 rfl (st_move rfl) ?_
            refine E_st 1 rfl (st_eql_t rfl rfl hc3297) ?_
            refine E_st 2 rfl (st_move rfl) ?_
            refine E_yes 3 59 rfl (st_move rfl) ?_
            refine E_yes 4 59 rfl (st_move rfl) ?_
            obtain ⟨j3300, hj3301, hx3302⟩ := idx_some h3299
            obtain ⟨cs3303, hr3304, hcs3305, hA3306, hlt3307⟩ := FZ.get (sz := 6) rfl (by decide) (h3.le (hle2602.trans hle3002)) hx3302
            obtain ⟨_, _, rfl, rfl, ⟨_, _, rfl, rfl, ⟨_, _, rfl, rfl, ⟨_, _, rfl, rfl, ⟨_, _, rfl, rfl, rfl⟩⟩⟩⟩⟩ := hr3304
            refine E_yes 5 59 rfl (st_index_old j3300 rfl rfl hj3301 hlt3307 hA3306 sl22) ?_
            refine E_yes 6 59 rfl (st_field_old rfl hA3306 fld36_0) ?_
            refine E_yes 7 59 rfl (st_load_old rfl one3 (hcs3305 0 _ rfl)) ?_
            refine E_yes 8 59 rfl (st_move rfl) ?_
            refine E_yes 9 59 rfl (st_move rfl) ?_
            obtain ⟨j3310, hj3311, hx3312⟩ := idx_some h3309
            obtain ⟨cs3313, hr3314, hcs3315, hA3316, hlt3317⟩ := FZ.get (sz := 2) rfl (by decide) (h11.le (hle2602.trans hle3002)) hx3312
            obtain ⟨_, _, rfl, rfl, rfl⟩ := hr3314
            refine E_yes 10 59 rfl (st_index_old j3310 rfl rfl hj3311 hlt3317 hA3316 sl38) ?_
            refine E_yes 11 59 rfl (st_field_old rfl hA3316 fld47_0) ?_
            refine E_yes 12 59 rfl (st_load_old rfl one3 (hcs3315 0 _ rfl)) ?_
            refine E_yes 13 59 rfl (st_neq_f rfl rfl hc3318) ?_
            refine E_st 14 rfl (st_pick_t rfl rfl) ?_
            refine E_st 15 rfl (st_move rfl) ?_
            refine E_yes 16 72 rfl (st_move rfl) ?_
            refine E_yes 17 72 rfl (st_gtr_f rfl rfl hc3319) ?_
            refine E_yes 18 72 rfl (st_move rfl) ?_
            refine E_no 19 75 rfl rfl rfl ?_
            refine E_no 20 75 rfl rfl rfl ?_
            refine E_no 21 75 rfl rfl rfl ?_
            refine E_no 22 75 rfl rfl rfl ?_
            refine E_no 23 75 rfl rfl rfl ?_
            refine E_no 24 75 rfl rfl rfl ?_
            refine E_no 25 75 rfl rfl rfl ?_
            refine E_no 26 75 rfl rfl rfl ?_
            refine E_no 27 75 rfl rfl rfl ?_
            refine E_no 28 75 rfl rfl rfl ?_
            refine E_no 29 75 rfl rfl rfl ?_
            refine E_no 30 75 rfl rfl rfl ?_
            refine E_no 31 75 rfl rfl rfl ?_
            refine E_no 32 75 rfl rfl rfl ?_
            refine E_yes 33 72 rfl (st_pick_f rfl rfl) ?_
            refine E_st 34 rfl (st_pick_f rfl rfl) ?_
            refine E_out ?_
            refine D_done (by kernel_rfl) ?_
            obtain rfl := some1 hm
            exact x_join (e' := [(0, .slice A1 (l4).length c2), (1, .slice A5 (l8).length c6), (2, .slice A9 (l12).length c10), (7, .pointer (some ⟨g1811, 0, none⟩)), (12, .int .i64 ((k2603 : Int))), (13, .slice A2617 (x2607).length c2618), (37, .slice A5 (l8).length c6), (38, .int .i64 ((l8.length : Int))), (39, .int .i64 ((k2603 : Int))), (44, .slice A2617 (x2607).length c2618), (45, .int .i64 ((x2607.length : Int))), (46, .int .i64 ((k3003 : Int))), (91, .bool (false))]) (hp' := (g1811, Cl 40 [.int .i64 (s13.Place), .int .i64 (s13.Long), .int .i64 (s13.Limit)]) :: R) ⟨rfl, rfl, rfl, rfl, rfl, rfl, rfl, rfl, rfl, rfl, rfl, rfl, rfl, trivial⟩ (.cons_cons _ (.refl _)) ⟨rfl, rfl, (Base.Le.refl _)⟩
         ·
          rw [if_neg hc3297] at hm
          by_cases hc3353 : 0 < (k3003 : Int)
          ·
           rw [if_pos hc3353] at hm
           obtain ⟨_, h3354, hm⟩ := bindS hm
           obtain ⟨x3355, h3356, hm⟩ := bindS hm
           obtain ⟨x3365, h3366, hm⟩ := bindS hm
           obtain ⟨x3375, h3376, hm⟩ := bindS hm
           obtain ⟨x3385, hcl3386, hm⟩ := bindS hm
           refine D_drawS ((g1811, Cl 40 [.int .i64 (s13.Place), .int .i64 (s13.Long), .int .i64 (s13.Limit)]) :: R) mixed ?_
           refine E_in (.cons_cons _ (.refl _)) ?_
           refine E_st 0 rfl (st_move rfl) ?_
           refine E_st 1 rfl (st_eql_f rfl rfl hc3297) ?_
           refine E_st 2 rfl (st_move rfl) ?_
           refine E_no 3 59 rfl rfl rfl ?_
           refine E_no 4 59 rfl rfl rfl ?_
           refine E_no 5 59 rfl rfl rfl ?_
           refine E_no 6 59 rfl rfl rfl ?_
           refine E_no 7 59 rfl rfl rfl ?_
           refine E_no 8 59 rfl rfl rfl ?_
           refine E_no 9 59 rfl rfl rfl ?_
           refine E_no 10 59 rfl rfl rfl ?_
           refine E_no 11 59 rfl rfl rfl ?_
           refine E_no 12 59 rfl rfl rfl ?_
           refine E_no 13 59 rfl rfl rfl ?_
           refine E_st 14 rfl (st_pick_f rfl rfl) ?_
           refine E_st 15 rfl (st_move rfl) ?_
           refine E_yes 16 72 rfl (st_move rfl) ?_
           refine E_yes 17 72 rfl (st_gtr_t rfl rfl hc3353) ?_
           refine E_yes 18 72 rfl (st_move rfl) ?_
           refine E_yes 19 75 rfl (st_move rfl) ?_
           refine E_yes 20 75 rfl (st_move rfl) ?_
           refine E_yes 21 75 rfl (st_move rfl) ?_
           have h3354 := (chk_some h3354).2
           refine E_yes 22 75 rfl (st_sub rfl rfl h3354) ?_
           obtain ⟨j3357, hj3358, hx3359⟩ := idx_some h3356
           obtain ⟨cs3360, hr3361, hcs3362, hA3363, hlt3364⟩ := FZ.get (sz := 1) rfl (by decide) (h2619.le hle3002) hx3359
           obtain rfl := hr3361
           refine E_yes 23 75 rfl (st_index_old j3357 rfl rfl hj3358 hlt3364 hA3363 sl45) ?_
           refine E_yes 24 75 rfl (st_load_old rfl one3 (hcs3362 0 _ rfl)) ?_
           obtain ⟨j3367, hj3368, hx3369⟩ := idx_some h3366
           obtain ⟨cs3370, hr3371, hcs3372, hA3373, hlt3374⟩ := FZ.get (sz := 6) rfl (by decide) (h3.le (hle2602.trans hle3002)) hx3369
           obtain ⟨_, _, rfl, rfl, ⟨_, _, rfl, rfl, ⟨_, _, rfl, rfl, ⟨_, _, rfl, rfl, ⟨_, _, rfl, rfl, rfl⟩⟩⟩⟩⟩ := hr3371
           refine E_yes 25 75 rfl (st_index_old j3367 rfl rfl hj3368 hlt3374 hA3373 sl22) ?_
           refine E_yes 26 75 rfl (st_loadN_old (vs := [.int .i64 (x3365.From), .int .i64 (x3365.To), .int .i64 (x3365.Dep), .int .i64 (x3365.Arr), .int .i64 (x3365.Km), .int .i64 (x3365.Units)]) 6 rfl agg36 hA3373 rfl (fun j u hu => hcs3372 j u hu)) ?_
           refine E_yes 27 75 rfl (st_move rfl) ?_
           refine E_yes 28 75 rfl (st_move rfl) ?_
           obtain ⟨j3377, hj3378, hx3379⟩ := idx_some h3376
           obtain ⟨cs3380, hr3381, hcs3382, hA3383, hlt3384⟩ := FZ.get (sz := 6) rfl (by decide) (h3.le (hle2602.trans hle3002)) hx3379
           obtain ⟨_, _, rfl, rfl, ⟨_, _, rfl, rfl, ⟨_, _, rfl, rfl, ⟨_, _, rfl, rfl, ⟨_, _, rfl, rfl, rfl⟩⟩⟩⟩⟩ := hr3381
           refine E_yes 29 75 rfl (st_index_old j3377 rfl rfl hj3378 hlt3384 hA3383 sl22) ?_
           refine E_yes 30 75 rfl (st_loadN_old (vs := [.int .i64 (x3375.From), .int .i64 (x3375.To), .int .i64 (x3375.Dep), .int .i64 (x3375.Arr), .int .i64 (x3375.Km), .int .i64 (x3375.Units)]) 6 rfl agg36 hA3383 rfl (fun j u hu => hcs3382 j u hu)) ?_
           refine E_out ?_
           refine D_all [31] (by kernel_rfl) rfl ?_
           refine R_doY (Base.Le.refl _) rfl rfl 75 rfl rfl rfl (u_callW0 _ call45 rfl (fun w ho => cFleetFollows _ [] x3365 x3375 0 x3385 hcl3386) (fun _ _ _ h => h.2.symm)) ?_ ?_
           ·
            rintro _ _ ⟨⟨_, rfl, _⟩, rfl⟩
            refine ⟨.inr (.cons_cons _ (.refl _)), ?_⟩
            refine E_in (.cons_cons _ (.refl _)) ?_
            refine E_yes 32 75 rfl (st_not rfl) ?_
            refine E_yes 33 72 rfl (st_pick_t rfl rfl) ?_
            refine E_st 34 rfl (st_pick_f rfl rfl) ?_
            refine E_out ?_
            refine D_done (by kernel_rfl) ?_
            obtain rfl := some1 hm
            exact x_join (e' := [(0, .slice A1 (l4).length c2), (1, .slice A5 (l8).length c6), (2, .slice A9 (l12).length c10), (7, .pointer (some ⟨g1811, 0, none⟩)), (12, .int .i64 ((k2603 : Int))), (13, .slice A2617 (x2607).length c2618), (37, .slice A5 (l8).length c6), (38, .int .i64 ((l8.length : Int))), (39, .int .i64 ((k2603 : Int))), (44, .slice A2617 (x2607).length c2618), (45, .int .i64 ((x2607.length : Int))), (46, .int .i64 ((k3003 : Int))), (91, .bool (!x3385))]) (hp' := (g1811, Cl 40 [.int .i64 (s13.Place), .int .i64 (s13.Long), .int .i64 (s13.Limit)]) :: R) ⟨rfl, rfl, rfl, rfl, rfl, rfl, rfl, rfl, rfl, rfl, rfl, rfl, rfl, trivial⟩ (.cons_cons _ (.refl _)) ⟨rfl, rfl, (Base.Le.refl _)⟩
           exact R_nil
          ·
           rw [if_neg hc3353] at hm
           refine D_drawS ((g1811, Cl 40 [.int .i64 (s13.Place), .int .i64 (s13.Long), .int .i64 (s13.Limit)]) :: R) mixed ?_
           refine E_in (.cons_cons _ (.refl _)) ?_
           refine E_st 0 rfl (st_move rfl) ?_
           refine E_st 1 rfl (st_eql_f rfl rfl hc3297) ?_
           refine E_st 2 rfl (st_move rfl) ?_
           refine E_no 3 59 rfl rfl rfl ?_
           refine E_no 4 59 rfl rfl rfl ?_
           refine E_no 5 59 rfl rfl rfl ?_
           refine E_no 6 59 rfl rfl rfl ?_
           refine E_no 7 59 rfl rfl rfl ?_
           refine E_no 8 59 rfl rfl rfl ?_
           refine E_no 9 59 rfl rfl rfl ?_
           refine E_no 10 59 rfl rfl rfl ?_
           refine E_no 11 59 rfl rfl rfl ?_
           refine E_no 12 59 rfl rfl rfl ?_
           refine E_no 13 59 rfl rfl rfl ?_
           refine E_st 14 rfl (st_pick_f rfl rfl) ?_
           refine E_st 15 rfl (st_move rfl) ?_
           refine E_yes 16 72 rfl (st_move rfl) ?_
           refine E_yes 17 72 rfl (st_gtr_f rfl rfl hc3353) ?_
           refine E_yes 18 72 rfl (st_move rfl) ?_
           refine E_no 19 75 rfl rfl rfl ?_
           refine E_no 20 75 rfl rfl rfl ?_
           refine E_no 21 75 rfl rfl rfl ?_
           refine E_no 22 75 rfl rfl rfl ?_
           refine E_no 23 75 rfl rfl rfl ?_
           refine E_no 24 75 rfl rfl rfl ?_
           refine E_no 25 75 rfl rfl rfl ?_
           refine E_no 26 75 rfl rfl rfl ?_
           refine E_no 27 75 rfl rfl rfl ?_
           refine E_no 28 75 rfl rfl rfl ?_
           refine E_no 29 75 rfl rfl rfl ?_
           refine E_no 30 75 rfl rfl rfl ?_
           refine E_no 31 75 rfl rfl rfl ?_
           refine E_no 32 75 rfl rfl rfl ?_
           refine E_yes 33 72 rfl (st_pick_f rfl rfl) ?_
           refine E_st 34 rfl (st_pick_f rfl rfl) ?_
           refine E_out ?_
           refine D_done (by kernel_rfl) ?_
           obtain rfl := some1 hm
           exact x_join (e' := [(0, .slice A1 (l4).length c2), (1, .slice A5 (l8).length c6), (2, .slice A9 (l12).length c10), (7, .pointer (some ⟨g1811, 0, none⟩)), (12, .int .i64 ((k2603 : Int))), (13, .slice A2617 (x2607).length c2618), (37, .slice A5 (l8).length c6), (38, .int .i64 ((l8.length : Int))), (39, .int .i64 ((k2603 : Int))), (44, .slice A2617 (x2607).length c2618), (45, .int .i64 ((x2607.length : Int))), (46, .int .i64 ((k3003 : Int))), (91, .bool (false))]) (hp' := (g1811, Cl 40 [.int .i64 (s13.Place), .int .i64 (s13.Long), .int .i64 (s13.Limit)]) :: R) ⟨rfl, rfl, rfl, rfl, rfl, rfl, rfl, rfl, rfl, rfl, rfl, rfl, rfl, trivial⟩ (.cons_cons _ (.refl _)) ⟨rfl, rfl, (Base.Le.refl _)⟩
        ·
         rintro b3203 _ _ ⟨rfl, rfl, hle3204⟩
         have hm := hk3206
         refine c_cond _ rfl (fun hc3387 => ?_) (fun hc3387 => ?_)
         ·
          rw [if_pos hc3387] at hm
          refine c_seq ?_
          refine c_region ?_
          refine t_st rfl (st_assign rfl) ?_
          refine t_st rfl (st_assign rfl) ?_
          refine t_nil ?_
          refine x_then_normal ?_
          refine c_ret ?_
          refine x_block_ret ?_
          refine x_then_ret ?_
          refine x_then_ret ?_
          refine x_block_ret ?_
          refine x_block_ret ?_
          refine x_then_ret ?_
          refine x_then_ret ?_
          refine x_block_ret ?_
          refine x_then_ret ?_
          have hq3388 := houtL2620 _ (Option.some.inj hm).symm
          rw [hq3388] at hk3006
          have hm := elimR hk3006
          have hq3389 := houtL1819 _ (Option.some.inj hm).symm
          rw [hq3389] at hk2606
          have hm := elimR hk2606
          obtain ⟨rfl, rfl⟩ := some2 hm
          exact retM (rs := [.tmp 8, .tmp 9]) [.slice none 0 0, .int .i64 (13)] (hle2602.trans (hle3002.trans hle3204)) (by decide) rfl ⟨rfl, ⟨rfl, trivial⟩⟩ rfl (hp' := ([] ++ R)) (.cons _ (.refl _)) ⟨none, 0, [], rfl, rfl, OS.nil⟩
         ·
          rw [if_neg (fun hh => Bool.noConfusion (hh.symm.trans hc3387))] at hm
          refine c_skip ?_
          refine x_block_normal ?_
          refine x_then_normal ?_
          refine c_region ?_
          refine t_st rfl (st_add rfl rfl (by omega)) ?_
          refine t_st rfl (st_move rfl) ?_
          refine t_nil ?_
          exact x_againM () (Option.some.inj hm).symm (e' := [(0, .slice A1 (l4).length c2), (1, .slice A5 (l8).length c6), (2, .slice A9 (l12).length c10), (7, .pointer (some ⟨g1811, 0, none⟩)), (12, .int .i64 ((k2603 : Int))), (13, .slice A2617 (x2607).length c2618), (37, .slice A5 (l8).length c6), (38, .int .i64 ((l8.length : Int))), (39, .int .i64 ((k2603 : Int))), (44, .slice A2617 (x2607).length c2618), (45, .int .i64 ((x2607.length : Int))), (46, .int .i64 ((k3003 : Int) + 1))]) (hp' := (g1811, Cl 40 [.int .i64 (s13.Place), .int .i64 (s13.Long), .int .i64 (s13.Limit)]) :: R) ⟨rfl, rfl, rfl, rfl, rfl, rfl, rfl, rfl, rfl, rfl, rfl, rfl, trivial⟩ (.cons_cons _ (.refl _)) ⟨rfl, rfl, ((hle3002.trans hle3204))⟩
      ·
       rintro _ b3001 _ _ ⟨rfl, rfl, hle3002⟩ hq3390
       rw [hq3390] at hk3006
       have hm := elimL hk3006
       refine c_seq ?_
       refine c_region ?_
       refine t_st rfl (st_lss_f rfl rfl (by omega)) ?_
       refine t_nil ?_
       refine x_then_normal ?_
       refine c_seq ?_
       refine c_cond_f rfl ?_
       refine c_exit ?_
       refine x_then_exit ?_
       refine x_then_exit ?_
       refine x_block_out ?_
       refine x_block_normal ?_
       refine x_then_normal ?_
       refine c_region ?_
       refine t_st rfl (st_add rfl rfl (by omega)) ?_
       refine t_st rfl (st_move rfl) ?_
       refine t_nil ?_
       exact x_againM () (Option.some.inj hm).symm (e' := [(0, .slice A1 (l4).length c2), (1, .slice A5 (l8).length c6), (2, .slice A9 (l12).length c10), (7, .pointer (some ⟨g1811, 0, none⟩)), (37, .slice A5 (l8).length c6), (38, .int .i64 ((l8.length : Int))), (39, .int .i64 ((k2603 : Int) + 1))]) (hp' := (g1811, Cl 40 [.int .i64 (s13.Place), .int .i64 (s13.Long), .int .i64 (s13.Limit)]) :: R) ⟨rfl, rfl, rfl, rfl, rfl, rfl, rfl, trivial⟩ (.cons_cons _ (.refl _)) ⟨rfl, rfl, ((hle2602.trans hle3002))⟩
     ·
      rintro _ b2601 _ _ ⟨rfl, rfl, hle2602⟩ hq3391
      rw [hq3391] at hk2606
      have hm := elimL hk2606
      refine c_seq ?_
      refine c_region ?_
      refine t_st rfl (st_lss_f rfl rfl (by omega)) ?_
      refine t_nil ?_
      refine x_then_normal ?_
      refine c_seq ?_
      refine c_cond_f rfl ?_
      refine c_exit ?_
      refine x_then_exit ?_
      refine x_then_exit ?_
      refine x_block_out ?_
      refine x_then_normal ?_
      refine c_seq ?_
      refine c_region ?_
      refine t_st rfl (st_assign rfl) ?_
      refine t_nil ?_
      refine x_then_normal ?_
      refine c_seq ?_
      refine c_seq ?_
      refine c_region ?_
      refine t_st rfl (st_move rfl) ?_
      refine t_st rfl (st_len rfl sl26) ?_
      refine t_st rfl (st_move rfl) ?_
      refine t_nil ?_
      refine x_then_normal ?_
      refine c_block ?_
      have hb3393 := (FZ.bd (h7.le hle2602))
      obtain ⟨t3534, hl3535, hk3536⟩ := bindS hm
      refine c_forM (fun k3533 => fun l3532 => fun b3525 e' hp' => ∃ (A3529 : Option Addr), ∃ (c3530 : Nat), ∃ (hs3528 : Hp), [(0, .slice A1 (l4).length c2), (2, .slice A9 (l12).length c10), (7, .pointer (some ⟨g1811, 0, none⟩)), (16, .slice A3529 (l3532).length c3530), (94, .slice A5 (l8).length c6), (95, .int .i64 ((l8.length : Int))), (96, .int .i64 ((k3533 : Int)))] = e' ∧ (g1811, Cl 40 [.int .i64 (s13.Place), .int .i64 (s13.Long), .int .i64 (s13.Limit)]) :: (hs3528 ++ R) = hp' ∧ b2601.Le b3525 ∧ OS 45 (OT.fr (RT.list (RT.int .i64))) b3525.w (.slice A3529 l3532.length c3530) l3532 hs3528) hl3535 (e' := [(0, .slice A1 (l4).length c2), (2, .slice A9 (l12).length c10), (7, .pointer (some ⟨g1811, 0, none⟩)), (16, .slice none 0 0), (94, .slice A5 (l8).length c6), (95, .int .i64 ((l8.length : Int))), (96, .int .i64 0)]) (hp' := (g1811, Cl 40 [.int .i64 (s13.Place), .int .i64 (s13.Long), .int .i64 (s13.Limit)]) :: ([] ++ R)) ⟨rfl, rfl, rfl, rfl, rfl, rfl, rfl, trivial⟩ (.cons_cons _ (.refl _)) ⟨none, 0, [], rfl, rfl, (Base.Le.refl _), OS.nil⟩ ?_ ?_
      ·
       rintro k3533 l3532 b3525 _ _ oL3392 hknL3392 ⟨A3529, c3530, hs3528, rfl, rfl, hle3526, h3531⟩ hstepL3392 houtL3392
       unfold mFleetInspect_L3392 at hstepL3392
       have hm := hstepL3392
       refine c_seq ?_
       refine c_region ?_
       refine t_st rfl (st_lss_t rfl rfl (by omega)) ?_
       refine t_nil ?_
       refine x_then_normal ?_
       refine c_seq ?_
       refine c_cond_t rfl ?_
       refine c_skip ?_
       refine x_then_normal ?_
       refine c_seq ?_
       refine c_block ?_
       refine c_seq ?_
       refine c_region ?_
       refine t_st rfl (st_move rfl) ?_
       obtain ⟨x3537, h3538, hm⟩ := bindS hm
       obtain ⟨j3539, hj3540, hx3541⟩ := idx_some h3538
       obtain ⟨cs3542, hr3543, hcs3544, hA3545, hlt3546⟩ := FZ.get (sz := 1) rfl (by decide) (h7.le (hle2602.trans hle3526)) hx3541
       obtain ⟨A3547, c3548, rfl, h3549⟩ := hr3543
       refine t_st rfl (st_index_old j3539 rfl rfl hj3540 hlt3546 hA3545 sl26) ?_
       refine t_st rfl (st_load_old rfl one45 (hcs3544 0 _ rfl)) ?_
       refine t_st rfl (st_assign rfl) ?_
       refine t_st rfl (st_assign rfl) ?_
       refine t_nil ?_
       refine x_then_normal ?_
       refine c_seq ?_
       obtain ⟨x3569, h3570, hm⟩ := bindS hm
       obtain ⟨⟨x3579, l3580⟩, hcl3581, hm⟩ := bindS hm
       have hm := (unc2E hm)
       refine D_drawS ((g1811, Cl 40 [.int .i64 (s13.Place), .int .i64 (s13.Long), .int .i64 (s13.Limit)]) :: (hs3528 ++ R)) mixed ?_
       refine E_in (.cons_cons _ (sub_app hs3528 (.refl _))) ?_
       refine E_st 0 rfl (st_move rfl) ?_
       refine E_st 1 rfl (st_move rfl) ?_
       refine E_st 2 rfl (st_move rfl) ?_
       refine E_st 3 rfl (st_move rfl) ?_
       obtain ⟨j3571, hj3572, hx3573⟩ := idx_some h3570
       obtain ⟨cs3574, hr3575, hcs3576, hA3577, hlt3578⟩ := FZ.get (sz := 2) rfl (by decide) (h11.le (hle2602.trans hle3526)) hx3573
       obtain ⟨_, _, rfl, rfl, rfl⟩ := hr3575
       refine E_st 4 rfl (st_index_old j3571 rfl rfl hj3572 hlt3578 hA3577 sl38) ?_
       refine E_st 5 rfl (st_loadN_old (vs := [.int .i64 (x3569.Home), .int .i64 (x3569.Km)]) 2 rfl agg47 hA3577 rfl (fun j u hu => hcs3576 j u hu)) ?_
       refine E_st 6 rfl (st_loadD (vs := [_, _, _]) 0 3 rfl agg40 rfl rfl rfl) ?_
       refine E_out ?_
       refine D_all [7] (by kernel_rfl) rfl ?_
       refine R_callGl (Base.Le.refl _) rfl rfl _ call49 rfl (cFleetPositions _ _ l4 x3537 x3569 s13 A1 c2 A3547 c3548 (h3.le (hle2602.trans hle3526)) h3549 x3579 l3580 hcl3581) ?_ ?_
       ·
        rintro _ b3582 _ hle3583 ⟨A3584, c3585, hs3586, rfl, rfl, h3587⟩
        refine ⟨.inr (sub_skip hs3586 (.cons_cons _ (sub_app hs3528 (.refl _)))), ?_⟩
        refine d_in1 [] [_] hs3586 (hs3528 ++ R) rfl ?_
        refine D_st hle3583 8 rfl (by kernel_rfl) (by kernel_rfl) (by kernel_rfl) rfl (st_move rfl) (.cons_cons _ (sub_skip hs3586 (sub_app hs3528 (.refl _)))) ?_
        refine D_st hle3583 9 rfl (by kernel_rfl) (by kernel_rfl) (by kernel_rfl) rfl (st_extract rfl rfl) (.cons_cons _ (sub_skip hs3586 (sub_app hs3528 (.refl _)))) ?_
        refine D_st hle3583 10 rfl (by kernel_rfl) (by kernel_rfl) (by kernel_rfl) rfl (st_extract rfl rfl) (.cons_cons _ (sub_skip hs3586 (sub_app hs3528 (.refl _)))) ?_
        refine D_st hle3583 11 rfl (by kernel_rfl) (by kernel_rfl) (by kernel_rfl) rfl (st_assign rfl) (.cons_cons _ (sub_skip hs3586 (sub_app hs3528 (.refl _)))) ?_
        refine D_st hle3583 12 rfl (by kernel_rfl) (by kernel_rfl) (by kernel_rfl) rfl (st_assign rfl) (.cons_cons _ (sub_skip hs3586 (sub_app hs3528 (.refl _)))) ?_
        refine D_done (by kernel_rfl) ?_
        refine x_then_normal ?_
        refine c_seq ?_
        refine c_seq ?_
        refine c_region ?_
        refine t_st rfl (st_move rfl) ?_
        refine t_st rfl (st_not rfl) ?_
        refine t_nil ?_
        refine x_then_normal ?_
        refine c_cond _ rfl (fun hc3588 => ?_) (fun hc3588 => ?_)
        ·
         rw [if_neg (fun hh => Bool.noConfusion (hh.symm.trans (notT hc3588)))] at hm
         refine c_seq ?_
         refine c_region ?_
         refine t_st rfl (st_assign rfl) ?_
         refine t_st rfl (st_assign rfl) ?_
         refine t_nil ?_
         refine x_then_normal ?_
         refine c_ret ?_
         refine x_then_ret ?_
         refine x_block_ret ?_
         refine x_then_ret ?_
         refine x_then_ret ?_
         refine x_block_ret ?_
         refine x_then_ret ?_
         have hq3589 := houtL3392 _ (Option.some.inj hm).symm
         rw [hq3589] at hk3536
         have hm := elimR hk3536
         obtain ⟨rfl, rfl⟩ := some2 hm
         exact retM (rs := [.tmp 8, .tmp 9]) [.slice none 0 0, .int .i64 (9)] (hle2602.trans (hle3526.trans hle3583)) (by decide) rfl ⟨rfl, ⟨rfl, trivial⟩⟩ rfl (hp' := ([] ++ R)) (.cons _ (sub_skip hs3586 (sub_skip hs3528 (.refl _)))) ⟨none, 0, [], rfl, rfl, OS.nil⟩
        ·
         rw [if_pos (notF hc3588)] at hm
         refine c_skip ?_
         refine x_then_normal ?_
         refine c_region ?_
         refine t_st rfl (st_move rfl) ?_
         refine t_st rfl (st_move rfl) ?_
         refine t_do rfl (u_bslice (el := 45) [(0, .slice A3584 (l3580).length c3585)] [.slice A3584 (l3580).length c3585] rfl (fun _ => by kernel_rfl)) ?_
         rintro _ _ ⟨g3590, rfl, rfl⟩
         refine t_frz [_, _] hs3586 (hs3528 ++ R) rfl ?_
         intro b3591 hle3592 hz3593
         have h3594 := OS.frz (l := l3580) h3587 hle3592.cells hz3593
         obtain ⟨_, h3595, hm⟩ := bindS hm
         have h3595 := room_some h3595
         refine t_do rfl (u_appOS (r := (RT.list (RT.int .i64))) (l := l3532) [_, _] R [[.slice A3584 (l3580).length c3585]] [l3580] rfl (by decide) sl26 inf45 rfl rfl rfl rfl (h3531.le (hle3583.trans hle3592)) rfl (fun w ho => Rd.own (i := 0) ho rfl) ⟨(RT.list_mk h3594), trivial⟩ h3595) ?_
         rintro _ _ ⟨hs3596, rfl, h3597⟩
         obtain ⟨A3598, c3599, rfl, _⟩ := h3597.form
         refine t_st rfl (st_assign rfl) ?_
         refine t_nil ?_
         refine x_block_normal ?_
         refine x_then_normal ?_
         refine c_region ?_
         refine t_st rfl (st_add rfl rfl (by omega)) ?_
         refine t_st rfl (st_move rfl) ?_
         refine t_nil ?_
         refine x_pullb 1 rfl ?_
         exact x_againM (l3532 ++ [l3580]) (Option.some.inj hm).symm (e' := [(0, .slice A1 (l4).length c2), (2, .slice A9 (l12).length c10), (7, .pointer (some ⟨g1811, 0, none⟩)), (16, .slice A3598 (l3532 ++ [l3580]).length c3599), (94, .slice A5 (l8).length c6), (95, .int .i64 ((l8.length : Int))), (96, .int .i64 ((k3533 : Int) + 1))]) (hp' := (g1811, Cl 40 [.int .i64 (s13.Place), .int .i64 (s13.Long), .int .i64 (s13.Limit)]) :: (hs3596 ++ R)) ⟨rfl, rfl, rfl, rfl, rfl, rfl, rfl, trivial⟩ (.cons_cons _ (.cons _ (sub_app hs3596 (.refl _)))) ⟨A3598, c3599, hs3596, rfl, rfl, ((hle3526.trans (hle3583.trans hle3592))), h3597⟩
       exact R_nil
      ·
       rintro l3532 b3525 _ _ ⟨A3529, c3530, hs3528, rfl, rfl, hle3526, h3531⟩ hq3600
       rw [hq3600] at hk3536
       have hm := elimL hk3536
       refine c_seq ?_
       refine c_region ?_
       refine t_st rfl (st_lss_f rfl rfl (by omega)) ?_
       refine t_nil ?_
       refine x_then_normal ?_
       refine c_seq ?_
       refine c_cond_f rfl ?_
       refine c_exit ?_
       refine x_then_exit ?_
       refine x_then_exit ?_
       refine x_block_out ?_
       refine x_then_normal ?_
       refine c_seq ?_
       refine c_region ?_
       refine t_st rfl (st_move rfl) ?_
       refine t_st rfl (st_assign rfl) ?_
       refine t_st rfl (st_assign rfl) ?_
       refine t_nil ?_
       refine x_then_normal ?_
       refine c_ret ?_
       obtain ⟨rfl, rfl⟩ := some2 hm
       exact retM (rs := [.tmp 8, .tmp 9]) [.slice A3529 (l3532).length c3530, .int .i64 (0)] (hle2602.trans hle3526) (by decide) rfl ⟨rfl, ⟨rfl, trivial⟩⟩ rfl (hp' := (hs3528 ++ R)) (.cons _ (sub_app hs3528 (.refl _))) ⟨A3529, c3530, hs3528, rfl, rfl, h3531⟩

set_option maxRecDepth 20000 in
theorem cSlicesIndex (b : Base) (R : Hp) (l4 : (List Int)) (x5 : Int) (A1 : Option Addr) (c2 : Nat) (h3 : FZ (RT.int .i64) b.w A1 c2 l4) (x38 : Int) (hm : mSlicesIndex l4 x5 = some x38) :
    CallsG Try.prog 51 [.slice A1 (l4).length c2, .int .i64 (x5)] b (R) (fun v b' hp' => .int .i64 (x38) = v ∧ R = hp') := by
  refine fn_enterG 19 Try.func51 rfl Try.ntmps51 rfl ?_
  unfold mSlicesIndex at hm
  refine c_seq ?_
  refine c_region ?_
  refine t_st rfl (st_assign rfl) ?_
  refine t_nil ?_
  refine x_then_normal ?_
  refine c_seq ?_
  refine c_seq ?_
  refine c_region ?_
  refine t_st rfl (st_move rfl) ?_
  refine t_st rfl (st_len rfl sl45) ?_
  refine t_st rfl (st_move rfl) ?_
  refine t_nil ?_
  refine x_then_normal ?_
  refine c_block ?_
  have hb40 := (FZ.bd h3)
  obtain ⟨t55, hl56, hk57⟩ := bindS hm
  refine c_forM (fun k54 => fun _ => fun b52 e' hp' => [(0, .slice A1 (l4).length c2), (1, .int .i64 (x5)), (7, .int .i64 ((l4.length : Int))), (8, .int .i64 ((k54 : Int)))] = e' ∧ R = hp' ∧ b.Le b52) hl56 (e' := [(0, .slice A1 (l4).length c2), (1, .int .i64 (x5)), (7, .int .i64 ((l4.length : Int))), (8, .int .i64 0)]) (hp' := R) ⟨rfl, rfl, rfl, rfl, trivial⟩ (.refl _) ⟨rfl, rfl, (Base.Le.refl _)⟩ ?_ ?_
  ·
   rintro k54 _ b52 _ _ oL39 hknL39 ⟨rfl, rfl, hle53⟩ hstepL39 houtL39
   unfold mSlicesIndex_L39 at hstepL39
   have hm := hstepL39
   refine c_seq ?_
   refine c_region ?_
   refine t_st rfl (st_lss_t rfl rfl (by omega)) ?_
   refine t_nil ?_
   refine x_then_normal ?_
   refine c_seq ?_
   refine c_cond_t rfl ?_
   refine c_skip ?_
   refine x_then_normal ?_
   refine c_seq ?_
   refine c_block ?_
   refine c_seq ?_
   refine c_region ?_
   refine t_st rfl (st_move rfl) ?_
   refine t_st rfl (st_assign rfl) ?_
   refine t_nil ?_
   refine x_then_normal ?_
   refine c_seq ?_
   refine c_region ?_
   refine t_st rfl (st_move rfl) ?_
   refine t_st rfl (st_move rfl) ?_
   refine t_st rfl (st_move rfl) ?_
   obtain ⟨x58, h59, hm⟩ := bindS hm
   obtain ⟨j60, hj61, hx62⟩ := idx_some h59
   obtain ⟨cs63, hr64, hcs65, hA66, hlt67⟩ := FZ.get (sz := 1) rfl (by decide) (h3.le hle53) hx62
   obtain rfl := hr64
   refine t_st rfl (st_index_old j60 rfl rfl hj61 hlt67 hA66 sl45) ?_
   refine t_st rfl (st_load_old rfl one3 (hcs65 0 _ rfl)) ?_
   refine t_st rfl (st_eql rfl rfl) ?_
   refine t_nil ?_
   refine x_then_normal ?_
   refine c_cond _ rfl (fun hc68 => ?_) (fun hc68 => ?_)
   ·
    rw [if_pos (of_decide_eq_true hc68)] at hm
    refine c_seq ?_
    refine c_region ?_
    refine t_st rfl (st_move rfl) ?_
    refine t_st rfl (st_assign rfl) ?_
    refine t_nil ?_
    refine x_then_normal ?_
    refine c_ret ?_
    refine x_block_ret ?_
    refine x_then_ret ?_
    refine x_then_ret ?_
    refine x_block_ret ?_
    refine x_then_ret ?_
    have hq69 := houtL39 _ (Option.some.inj hm).symm
    rw [hq69] at hk57
    have hm := elimR hk57
    obtain rfl := some1 hm
    exact retM (rs := [.tmp 4]) [.int .i64 ((k54 : Int))] hle53 (by decide) rfl ⟨rfl, trivial⟩ rfl (hp' := R) (.refl _) ⟨rfl, rfl⟩
   ·
    rw [if_neg (of_decide_eq_false hc68)] at hm
    refine c_skip ?_
    refine x_block_normal ?_
    refine x_then_normal ?_
    refine c_region ?_
    refine t_st rfl (st_add rfl rfl (by omega)) ?_
    refine t_st rfl (st_move rfl) ?_
    refine t_nil ?_
    exact x_againM () (Option.some.inj hm).symm (e' := [(0, .slice A1 (l4).length c2), (1, .int .i64 (x5)), (7, .int .i64 ((l4.length : Int))), (8, .int .i64 ((k54 : Int) + 1))]) (hp' := R) ⟨rfl, rfl, rfl, rfl, trivial⟩ (.refl _) ⟨rfl, rfl, (hle53)⟩
  ·
   rintro _ b52 _ _ ⟨rfl, rfl, hle53⟩ hq70
   rw [hq70] at hk57
   have hm := elimL hk57
   refine c_seq ?_
   refine c_region ?_
   refine t_st rfl (st_lss_f rfl rfl (by omega)) ?_
   refine t_nil ?_
   refine x_then_normal ?_
   refine c_seq ?_
   refine c_cond_f rfl ?_
   refine c_exit ?_
   refine x_then_exit ?_
   refine x_then_exit ?_
   refine x_block_out ?_
   refine x_then_normal ?_
   refine c_seq ?_
   refine c_region ?_
   refine t_st rfl (st_assign rfl) ?_
   refine t_nil ?_
   refine x_then_normal ?_
   refine c_ret ?_
   obtain rfl := some1 hm
   exact retM (rs := [.tmp 4]) [.int .i64 ((-1))] hle53 (by decide) rfl ⟨rfl, trivial⟩ rfl (hp' := R) (.refl _) ⟨rfl, rfl⟩

set_option maxRecDepth 20000 in
theorem cSlicesContains (b : Base) (R : Hp) (l4 : (List Int)) (x5 : Int) (A1 : Option Addr) (c2 : Nat) (h3 : FZ (RT.int .i64) b.w A1 c2 l4) (x8 : Bool) (hm : mSlicesContains l4 x5 = some x8) :
    CallsG Try.prog 20 [.slice A1 (l4).length c2, .int .i64 (x5)] b (R) (fun v b' hp' => .bool (x8) = v ∧ R = hp') := by
  refine fn_enterG 9 Try.func20 rfl Try.ntmps20 rfl ?_
  unfold mSlicesContains at hm
  refine c_seq ?_
  refine c_region ?_
  refine t_st rfl (st_assign rfl) ?_
  refine t_nil ?_
  refine x_then_normal ?_
  refine c_seq ?_
  refine c_region ?_
  refine t_st rfl (st_move rfl) ?_
  refine t_st rfl (st_move rfl) ?_
  obtain ⟨x9, hcl10, hm⟩ := bindS hm
  refine t_do rfl (u_callW0 _ call51 rfl (fun w ho => cSlicesIndex _ [] l4 x5 A1 c2 (h3.old ho) x9 hcl10) (fun _ _ _ h => h.2.symm)) ?_
  rintro _ _ ⟨⟨_, rfl, _⟩, rfl⟩
  refine t_st rfl (st_geq rfl rfl) ?_
  refine t_st rfl (st_assign rfl) ?_
  refine t_nil ?_
  refine x_then_normal ?_
  refine c_ret ?_
  obtain rfl := some1 hm
  exact retM (rs := [.tmp 4]) [.bool (decide (0 ≤ x9))] (Base.Le.refl _) (by decide) rfl ⟨rfl, trivial⟩ rfl (hp' := R) (.refl _) ⟨rfl, rfl⟩

set_option maxRecDepth 20000 in
theorem cFleetLegal (b : Base) (R : Hp) (l4 : (List FleetTask)) (x5 : Int) (l9 : (List (List Int))) (A1 : Option Addr) (c2 : Nat) (A6 : Option Addr) (c7 : Nat) (h3 : FZ rFleetTask b.w A1 c2 l4) (h8 : FZ (RT.list (RT.int .i64)) b.w A6 c7 l9) (x2177 : Int) (hm : mFleetLegal l4 x5 l9 = some x2177) :
    CallsG Try.prog 15 [.slice A1 (l4).length c2, .int .i64 (x5), .slice A6 (l9).length c7] b (R) (fun v b' hp' => .int .i64 (x2177) = v ∧ R = hp') := by
  refine fn_enterG 102 Try.func15 rfl Try.ntmps15 rfl ?_
  unfold mFleetLegal at hm
  refine c_seq ?_
  refine c_region ?_
  refine t_st rfl (st_assign rfl) ?_
  refine t_nil ?_
  refine x_then_normal ?_
  refine c_seq ?_
  refine c_seq ?_
  refine c_region ?_
  refine t_st rfl (st_move rfl) ?_
  refine t_st rfl (st_move rfl) ?_
  obtain ⟨x2178, hcl2179, hm⟩ := bindS hm
  refine t_do rfl (u_callW0 _ call43 rfl (fun w ho => cFleetCheckTurn _ [] l4 x5 A1 c2 (h3.old ho) x2178 hcl2179) (fun _ _ _ h => h.2.symm)) ?_
  rintro _ _ ⟨⟨_, rfl, _⟩, rfl⟩
  refine t_st rfl (st_assign rfl) ?_
  refine t_nil ?_
  refine x_then_normal ?_
  refine c_seq ?_
  refine c_region ?_
  refine t_st rfl (st_move rfl) ?_
  refine t_st rfl (st_neq rfl rfl) ?_
  refine t_nil ?_
  refine x_then_normal ?_
  refine c_cond _ rfl (fun hc2180 => ?_) (fun hc2180 => ?_)
  ·
   rw [if_pos (of_decide_eq_true hc2180)] at hm
   refine c_seq ?_
   refine c_region ?_
   refine t_st rfl (st_move rfl) ?_
   refine t_st rfl (st_assign rfl) ?_
   refine t_nil ?_
   refine x_then_normal ?_
   refine c_ret ?_
   refine x_then_ret ?_
   obtain rfl := some1 hm
   exact retM (rs := [.tmp 6]) [.int .i64 (x2178)] (Base.Le.refl _) (by decide) rfl ⟨rfl, trivial⟩ rfl (hp' := R) (.refl _) ⟨rfl, rfl⟩
  ·
   rw [if_neg (of_decide_eq_false hc2180)] at hm
   refine c_skip ?_
   refine x_then_normal ?_
   refine c_seq ?_
   refine c_region ?_
   refine t_st rfl (st_move rfl) ?_
   refine t_st rfl (st_len rfl sl22) ?_
   obtain ⟨m2181, h2182, hm⟩ := bindS hm
   have h2182 := mkLen_some h2182
   refine t_do rfl (u_mkOS (r := (RT.int .i64)) [] R [.int .i64 (0)] 0 m2181 rfl h2182.1 rfl rfl sl45 inf3 rfl rfl rfl (by decide) rfl h2182.2.1 h2182.2.2) ?_
   rintro _ _ ⟨hs2183, rfl, h2184⟩
   obtain ⟨A2185, c2186, rfl, _⟩ := h2184.form
   refine t_st rfl (st_assign rfl) ?_
   refine t_nil ?_
   refine x_then_normal ?_
   refine c_seq ?_
   refine c_seq ?_
   refine c_region ?_
   refine t_st rfl (st_move rfl) ?_
   refine t_st rfl (st_len rfl sl26) ?_
   refine t_st rfl (st_move rfl) ?_
   refine t_nil ?_
   refine x_then_normal ?_
   refine c_block ?_
   have hb2188 := (FZ.bd h8)
   obtain ⟨t3514, hl3515, hk3516⟩ := bindS hm
   refine c_forM (fun k3513 => fun l3511 => fun b3506 e' hp' => ∃ (hs3509 : Hp), [(0, .slice A1 (l4).length c2), (1, .int .i64 (x5)), (8, .slice A2185 (l3511).length c2186), (24, .slice A6 (l9).length c7), (25, .int .i64 ((l9.length : Int))), (26, .int .i64 ((k3513 : Int)))] = e' ∧ (hs3509 ++ R) = hp' ∧ b.Le b3506 ∧ OS 3 (OT.fr (RT.int .i64)) b3506.w (.slice A2185 l3511.length c2186) l3511 hs3509 ∧ l3511.length = m2181) hl3515 (e' := [(0, .slice A1 (l4).length c2), (1, .int .i64 (x5)), (8, .slice A2185 (List.replicate m2181 (0 : Int)).length c2186), (24, .slice A6 (l9).length c7), (25, .int .i64 ((l9.length : Int))), (26, .int .i64 0)]) (hp' := (hs2183 ++ R)) ⟨rfl, rfl, rfl, rfl, rfl, rfl, trivial⟩ (sub_app hs2183 (.refl _)) ⟨hs2183, rfl, rfl, (Base.Le.refl _), h2184, List.length_replicate⟩ ?_ ?_
   ·
    rintro k3513 l3511 b3506 _ _ oL2187 hknL2187 ⟨hs3509, rfl, rfl, hle3507, h3510, hln3512⟩ hstepL2187 houtL2187
    unfold mFleetLegal_L2187 at hstepL2187
    have hm := hstepL2187
    refine c_seq ?_
    refine c_region ?_
    refine t_st rfl (st_lss_t rfl rfl (by omega)) ?_
    refine t_nil ?_
    refine x_then_normal ?_
    refine c_seq ?_
    refine c_cond_t rfl ?_
    refine c_skip ?_
    refine x_then_normal ?_
    refine c_seq ?_
    refine c_block ?_
    refine c_seq ?_
    refine c_region ?_
    obtain ⟨x3517, h3518, hm⟩ := bindS hm
    obtain ⟨j3519, hj3520, hx3521⟩ := idx_some h3518
    obtain ⟨cs3522, hr3523, hcs3524, hA3525, hlt3526⟩ := FZ.get (sz := 1) rfl (by decide) (h8.le hle3507) hx3521
    obtain ⟨A3527, c3528, rfl, h3529⟩ := hr3523
    refine t_st rfl (st_index_old j3519 rfl rfl hj3520 hlt3526 hA3525 sl26) ?_
    refine t_st rfl (st_load_old rfl one45 (hcs3524 0 _ rfl)) ?_
    refine t_st rfl (st_assign rfl) ?_
    refine t_nil ?_
    refine x_then_normal ?_
    refine c_seq ?_
    refine c_region ?_
    refine t_st rfl (st_move rfl) ?_
    refine t_st rfl (st_len rfl sl45) ?_
    refine t_st rfl (st_move rfl) ?_
    refine t_nil ?_
    refine x_then_normal ?_
    refine c_block ?_
    have hb3531 := (FZ.bd h3529)
    obtain ⟨t3961, hl3962, hk3963⟩ := bindS hm
    refine c_forM (fun k3960 => fun l3958 => fun b3953 e' hp' => ∃ (hs3956 : Hp), [(0, .slice A1 (l4).length c2), (1, .int .i64 (x5)), (8, .slice A2185 (l3958).length c2186), (10, .slice A3527 (x3517).length c3528), (24, .slice A6 (l9).length c7), (25, .int .i64 ((l9.length : Int))), (26, .int .i64 ((k3513 : Int))), (30, .slice A3527 (x3517).length c3528), (31, .int .i64 ((x3517.length : Int))), (32, .int .i64 ((k3960 : Int)))] = e' ∧ (hs3956 ++ R) = hp' ∧ b3506.Le b3953 ∧ OS 3 (OT.fr (RT.int .i64)) b3953.w (.slice A2185 l3958.length c2186) l3958 hs3956 ∧ l3958.length = m2181) hl3962 (e' := [(0, .slice A1 (l4).length c2), (1, .int .i64 (x5)), (8, .slice A2185 (l3511).length c2186), (10, .slice A3527 (x3517).length c3528), (24, .slice A6 (l9).length c7), (25, .int .i64 ((l9.length : Int))), (26, .int .i64 ((k3513 : Int))), (30, .slice A3527 (x3517).length c3528), (31, .int .i64 ((x3517.length : Int))), (32, .int .i64 0)]) (hp' := (hs3509 ++ R)) ⟨rfl, rfl, rfl, rfl, rfl, rfl, rfl, rfl, rfl, rfl, trivial⟩ (sub_app hs3509 (.refl _)) ⟨hs3509, rfl, rfl, (Base.Le.refl _), h3510, hln3512⟩ ?_ ?_
    ·
     rintro k3960 l3958 b3953 _ _ oL3530 hknL3530 ⟨hs3956, rfl, rfl, hle3954, h3957, hln3959⟩ hstepL3530 houtL3530
     unfold mFleetLegal_L3530 at hstepL3530
     have hm := hstepL3530
     refine c_seq ?_
     refine c_region ?_
     refine t_st rfl (st_lss_t rfl rfl (by omega)) ?_
     refine t_nil ?_
     refine x_then_normal ?_
     refine c_seq ?_
     refine c_cond_t rfl ?_
     refine c_skip ?_
     refine x_then_normal ?_
     refine c_seq ?_
     refine c_block ?_
     refine c_seq ?_
     refine c_region ?_
     refine t_st rfl (st_move rfl) ?_
     obtain ⟨x3964, h3965, hm⟩ := bindS hm
     obtain ⟨j3966, hj3967, hx3968⟩ := idx_some h3965
     obtain ⟨cs3969, hr3970, hcs3971, hA3972, hlt3973⟩ := FZ.get (sz := 1) rfl (by decide) (h3529.le hle3954) hx3968
     obtain rfl := hr3970
     refine t_st rfl (st_index_old j3966 rfl rfl hj3967 hlt3973 hA3972 sl45) ?_
     refine t_st rfl (st_load_old rfl one3 (hcs3971 0 _ rfl)) ?_
     refine t_st rfl (st_assign rfl) ?_
     refine t_st rfl (st_assign rfl) ?_
     refine t_nil ?_
     refine x_then_normal ?_
     refine c_seq ?_
     refine c_block ?_
     refine c_seq ?_
     refine c_region ?_
     refine t_st rfl (st_move rfl) ?_
     refine t_st rfl (st_move rfl) ?_
     refine t_st rfl (st_len rfl sl22) ?_
     obtain ⟨_, h3974, hm⟩ := bindS hm
     have h3974 := (chk_some h3974).2
     refine t_st rfl (st_sub rfl rfl h3974) ?_
     obtain ⟨x3975, hcl3976, hm⟩ := bindS hm
     refine t_do rfl (u_callW0 _ call46 rfl (fun w ho => cFleetWithin _ [] x3964 0 ((l4.length : Int) - 1) x3975 hcl3976) (fun _ _ _ h => h.2.symm)) ?_
     rintro _ _ ⟨⟨_, rfl, _⟩, rfl⟩
     refine t_st rfl (st_not rfl) ?_
     refine t_st rfl (st_assign rfl) ?_
     refine t_nil ?_
     refine x_then_normal ?_
     refine c_cond _ rfl (fun hc3977 => ?_) (fun hc3977 => ?_)
     ·
      rw [if_neg (fun hh => Bool.noConfusion (hh.symm.trans (notT hc3977)))] at hm
      refine c_seq ?_
      refine c_region ?_
      refine t_st rfl (st_assign rfl) ?_
      refine t_nil ?_
      refine x_then_normal ?_
      refine c_ret ?_
      refine x_block_ret ?_
      refine x_then_ret ?_
      refine x_block_ret ?_
      refine x_then_ret ?_
      refine x_then_ret ?_
      refine x_block_ret ?_
      refine x_block_ret ?_
      refine x_then_ret ?_
      refine x_then_ret ?_
      refine x_block_ret ?_
      refine x_then_ret ?_
      have hq3978 := houtL3530 _ (Option.some.inj hm).symm
      rw [hq3978] at hk3963
      have hm := elimR hk3963
      have hq3979 := houtL2187 _ (Option.some.inj hm).symm
      rw [hq3979] at hk3516
      have hm := elimR hk3516
      obtain rfl := some1 hm
      exact retM (rs := [.tmp 6]) [.int .i64 (2)] (hle3507.trans hle3954) (by decide) rfl ⟨rfl, trivial⟩ rfl (hp' := R) (sub_skip hs3956 (.refl _)) ⟨rfl, rfl⟩
     ·
      rw [if_pos (notF hc3977)] at hm
      refine c_seq ?_
      refine c_region ?_
      refine t_st rfl (st_move rfl) ?_
      refine t_st rfl (st_move rfl) ?_
      obtain ⟨l3980, h3981, hm⟩ := bindS hm
      obtain ⟨j3982, j3983, hj3984, hj3985, hj3986, hj3987, hx3988⟩ := cutS_some h3981
      have h3989 := FZ.sub (sz := 1) rfl (h3529.le hle3954) hj3986 hj3987
      have h3990 := (h3529.le hle3954).1.1
      rw [← hx3988] at h3989
      refine t_st rfl (hx3988 ▸ st_part (l := x3517) j3982 j3983 rfl (.inl ⟨rfl, by omega⟩) (.inr ⟨_, _, _, rfl, rfl, hj3985⟩) hj3986 hj3987 h3990 sl45) ?_
      refine t_st rfl (st_move rfl) ?_
      obtain ⟨x3995, hcl3996, hm⟩ := bindS hm
      refine t_do rfl (u_callW0 _ call20 rfl (fun w ho => cSlicesContains _ [] l3980 x3964 (subA A3527 c3528 j3982 1) (c3528 - j3982) (h3989.old ho) x3995 hcl3996) (fun _ _ _ h => h.2.symm)) ?_
      rintro _ _ ⟨⟨_, rfl, _⟩, rfl⟩
      refine t_st rfl (st_assign rfl) ?_
      refine t_nil ?_
      refine x_then_normal ?_
      refine c_cond _ rfl (fun hc3997 => ?_) (fun hc3997 => ?_)
      ·
       rw [if_pos hc3997] at hm
       refine c_seq ?_
       refine c_region ?_
       refine t_st rfl (st_assign rfl) ?_
       refine t_nil ?_
       refine x_then_normal ?_
       refine c_ret ?_
       refine x_block_ret ?_
       refine x_then_ret ?_
       refine x_block_ret ?_
       refine x_then_ret ?_
       refine x_then_ret ?_
       refine x_block_ret ?_
       refine x_block_ret ?_
       refine x_then_ret ?_
       refine x_then_ret ?_
       refine x_block_ret ?_
       refine x_then_ret ?_
       have hq3998 := houtL3530 _ (Option.some.inj hm).symm
       rw [hq3998] at hk3963
       have hm := elimR hk3963
       have hq3999 := houtL2187 _ (Option.some.inj hm).symm
       rw [hq3999] at hk3516
       have hm := elimR hk3516
       obtain rfl := some1 hm
       exact retM (rs := [.tmp 6]) [.int .i64 (6)] (hle3507.trans hle3954) (by decide) rfl ⟨rfl, trivial⟩ rfl (hp' := R) (sub_skip hs3956 (.refl _)) ⟨rfl, rfl⟩
      ·
       rw [if_neg (fun hh => Bool.noConfusion (hh.symm.trans hc3997))] at hm
       obtain ⟨x4070, hj4071, hk4071⟩ := bindS hm
       refine c_join (fun b4068 e' hp' => [(0, .slice A1 (l4).length c2), (1, .int .i64 (x5)), (8, .slice A2185 (l3958).length c2186), (10, .slice A3527 (x3517).length c3528), (12, .int .i64 (x3964)), (24, .slice A6 (l9).length c7), (25, .int .i64 ((l9.length : Int))), (26, .int .i64 ((k3513 : Int))), (30, .slice A3527 (x3517).length c3528), (31, .int .i64 ((x3517.length : Int))), (32, .int .i64 ((k3960 : Int))), (50, .bool (x4070))] = e' ∧ (hs3956 ++ R) = hp' ∧ b3953.Le b4068) ?_ ?_
       ·
        have hm := hj4071
        by_cases hc4106 : 0 < (k3960 : Int)
        ·
         rw [if_pos hc4106] at hm
         obtain ⟨_, h4107, hm⟩ := bindS hm
         obtain ⟨x4108, h4109, hm⟩ := bindS hm
         obtain ⟨x4118, h4119, hm⟩ := bindS hm
         obtain ⟨x4128, h4129, hm⟩ := bindS hm
         obtain ⟨x4138, hcl4139, hm⟩ := bindS hm
         refine D_drawS ((hs3956 ++ R)) mixed ?_
         refine E_in (sub_app hs3956 (.refl _)) ?_
         refine E_st 0 rfl (st_move rfl) ?_
         refine E_st 1 rfl (st_gtr_t rfl rfl hc4106) ?_
         refine E_st 2 rfl (st_move rfl) ?_
         refine E_yes 3 53 rfl (st_move rfl) ?_
         refine E_yes 4 53 rfl (st_move rfl) ?_
         refine E_yes 5 53 rfl (st_move rfl) ?_
         have h4107 := (chk_some h4107).2
         refine E_yes 6 53 rfl (st_sub rfl rfl h4107) ?_
         obtain ⟨j4110, hj4111, hx4112⟩ := idx_some h4109
         obtain ⟨cs4113, hr4114, hcs4115, hA4116, hlt4117⟩ := FZ.get (sz := 1) rfl (by decide) (h3529.le hle3954) hx4112
         obtain rfl := hr4114
         refine E_yes 7 53 rfl (st_index_old j4110 rfl rfl hj4111 hlt4117 hA4116 sl45) ?_
         refine E_yes 8 53 rfl (st_load_old rfl one3 (hcs4115 0 _ rfl)) ?_
         obtain ⟨j4120, hj4121, hx4122⟩ := idx_some h4119
         obtain ⟨cs4123, hr4124, hcs4125, hA4126, hlt4127⟩ := FZ.get (sz := 6) rfl (by decide) (h3.le (hle3507.trans hle3954)) hx4122
         obtain ⟨_, _, rfl, rfl, ⟨_, _, rfl, rfl, ⟨_, _, rfl, rfl, ⟨_, _, rfl, rfl, ⟨_, _, rfl, rfl, rfl⟩⟩⟩⟩⟩ := hr4124
         refine E_yes 9 53 rfl (st_index_old j4120 rfl rfl hj4121 hlt4127 hA4126 sl22) ?_
         refine E_yes 10 53 rfl (st_loadN_old (vs := [.int .i64 (x4118.From), .int .i64 (x4118.To), .int .i64 (x4118.Dep), .int .i64 (x4118.Arr), .int .i64 (x4118.Km), .int .i64 (x4118.Units)]) 6 rfl agg36 hA4126 rfl (fun j u hu => hcs4125 j u hu)) ?_
         refine E_yes 11 53 rfl (st_move rfl) ?_
         refine E_yes 12 53 rfl (st_move rfl) ?_
         obtain ⟨j4130, hj4131, hx4132⟩ := idx_some h4129
         obtain ⟨cs4133, hr4134, hcs4135, hA4136, hlt4137⟩ := FZ.get (sz := 6) rfl (by decide) (h3.le (hle3507.trans hle3954)) hx4132
         obtain ⟨_, _, rfl, rfl, ⟨_, _, rfl, rfl, ⟨_, _, rfl, rfl, ⟨_, _, rfl, rfl, ⟨_, _, rfl, rfl, rfl⟩⟩⟩⟩⟩ := hr4134
         refine E_yes 13 53 rfl (st_index_old j4130 rfl rfl hj4131 hlt4137 hA4136 sl22) ?_
         refine E_yes 14 53 rfl (st_loadN_old (vs := [.int .i64 (x4128.From), .int .i64 (x4128.To), .int .i64 (x4128.Dep), .int .i64 (x4128.Arr), .int .i64 (x4128.Km), .int .i64 (x4128.Units)]) 6 rfl agg36 hA4136 rfl (fun j u hu => hcs4135 j u hu)) ?_
         refine E_yes 15 53 rfl (st_move rfl) ?_
         refine E_out ?_
         refine D_all [16] (by kernel_rfl) rfl ?_
         refine R_doY (Base.Le.refl _) rfl rfl 53 rfl rfl rfl (u_callW0 _ call45 rfl (fun w ho => cFleetFollows _ [] x4118 x4128 x5 x4138 hcl4139) (fun _ _ _ h => h.2.symm)) ?_ ?_
         ·
          rintro _ _ ⟨⟨_, rfl, _⟩, rfl⟩
          refine ⟨.inr (sub_app hs3956 (.refl _)), ?_⟩
          refine E_in (sub_app hs3956 (.refl _)) ?_
          refine E_yes 17 53 rfl (st_not rfl) ?_
          refine E_st 18 rfl (st_pick_t rfl rfl) ?_
          refine E_st 19 rfl (st_assign rfl) ?_
          refine E_out ?_
          refine D_done (by kernel_rfl) ?_
          obtain rfl := some1 hm
          exact x_join (e' := [(0, .slice A1 (l4).length c2), (1, .int .i64 (x5)), (8, .slice A2185 (l3958).length c2186), (10, .slice A3527 (x3517).length c3528), (12, .int .i64 (x3964)), (24, .slice A6 (l9).length c7), (25, .int .i64 ((l9.length : Int))), (26, .int .i64 ((k3513 : Int))), (30, .slice A3527 (x3517).length c3528), (31, .int .i64 ((x3517.length : Int))), (32, .int .i64 ((k3960 : Int))), (50, .bool (!x4138))]) (hp' := (hs3956 ++ R)) ⟨rfl, rfl, rfl, rfl, rfl, rfl, rfl, rfl, rfl, rfl, rfl, rfl, trivial⟩ (sub_app hs3956 (.refl _)) ⟨rfl, rfl, (Base.Le.refl _)⟩
         exact R_nil
        ·
         rw [if_neg hc4106] at hm
         refine D_drawS ((hs3956 ++ R)) mixed ?_
         refine E_in (sub_app hs3956 (.refl _)) ?_
         refine E_st 0 rfl (st_move rfl) ?_
         refine E_st 1 rfl (st_gtr_f rfl rfl hc4106) ?_
         refine E_st 2 rfl (st_move rfl) ?_
         refine E_no 3 53 rfl rfl rfl ?_
         refine E_no 4 53 rfl rfl rfl ?_
         refine E_no 5 53 rfl rfl rfl ?_
         refine E_no 6 53 rfl rfl rfl ?_
         refine E_no 7 53 rfl rfl rfl ?_
         refine E_no 8 53 rfl rfl rfl ?_
         refine E_no 9 53 rfl rfl rfl ?_
         refine E_no 10 53 rfl rfl rfl ?_
         refine E_no 11 53 rfl rfl rfl ?_
         refine E_no 12 53 rfl rfl rfl ?_
         refine E_no 13 53 rfl rfl rfl ?_
         refine E_no 14 53 rfl rfl rfl ?_
         refine E_no 15 53 rfl rfl rfl ?_
         refine E_no 16 53 rfl rfl rfl ?_
         refine E_no 17 53 rfl rfl rfl ?_
         refine E_st 18 rfl (st_pick_f rfl rfl) ?_
         refine E_st 19 rfl (st_assign rfl) ?_
         refine E_out ?_
         refine D_done (by kernel_rfl) ?_
         obtain rfl := some1 hm
         exact x_join (e' := [(0, .slice A1 (l4).length c2), (1, .int .i64 (x5)), (8, .slice A2185 (l3958).length c2186), (10, .slice A3527 (x3517).length c3528), (12, .int .i64 (x3964)), (24, .slice A6 (l9).length c7), (25, .int .i64 ((l9.length : Int))), (26, .int .i64 ((k3513 : Int))), (30, .slice A3527 (x3517).length c3528), (31, .int .i64 ((x3517.length : Int))), (32, .int .i64 ((k3960 : Int))), (50, .bool (false))]) (hp' := (hs3956 ++ R)) ⟨rfl, rfl, rfl, rfl, rfl, rfl, rfl, rfl, rfl, rfl, rfl, rfl, trivial⟩ (sub_app hs3956 (.refl _)) ⟨rfl, rfl, (Base.Le.refl _)⟩
       ·
        rintro b4068 _ _ ⟨rfl, rfl, hle4069⟩
        have hm := hk4071
        refine c_cond _ rfl (fun hc4140 => ?_) (fun hc4140 => ?_)
        ·
         rw [if_pos hc4140] at hm
         refine c_seq ?_
         refine c_region ?_
         refine t_st rfl (st_assign rfl) ?_
         refine t_nil ?_
         refine x_then_normal ?_
         refine c_ret ?_
         refine x_block_ret ?_
         refine x_then_ret ?_
         refine x_block_ret ?_
         refine x_then_ret ?_
         refine x_then_ret ?_
         refine x_block_ret ?_
         refine x_block_ret ?_
         refine x_then_ret ?_
         refine x_then_ret ?_
         refine x_block_ret ?_
         refine x_then_ret ?_
         have hq4141 := houtL3530 _ (Option.some.inj hm).symm
         rw [hq4141] at hk3963
         have hm := elimR hk3963
         have hq4142 := houtL2187 _ (Option.some.inj hm).symm
         rw [hq4142] at hk3516
         have hm := elimR hk3516
         obtain rfl := some1 hm
         exact retM (rs := [.tmp 6]) [.int .i64 (13)] (hle3507.trans (hle3954.trans hle4069)) (by decide) rfl ⟨rfl, trivial⟩ rfl (hp' := R) (sub_skip hs3956 (.refl _)) ⟨rfl, rfl⟩
        ·
         rw [if_neg (fun hh => Bool.noConfusion (hh.symm.trans hc4140))] at hm
         refine c_skip ?_
         refine x_block_normal ?_
         refine x_then_normal ?_
         refine c_region ?_
         refine t_st rfl (st_move rfl) ?_
         refine t_st rfl (st_move rfl) ?_
         obtain ⟨x4143, h4144, hm⟩ := bindS hm
         obtain ⟨j4145, hj4146, hx4147⟩ := idx_some h4144
         obtain ⟨cs4148, hs4153, P4154, P4155, hq4156, hr4149, hcs4150, hA4151, hlt4152, hb4157, hho4158⟩ := OS.get (sz := 1) rfl (by decide) (h3957.le hle4069) hx4147
         obtain ⟨rfl, rfl⟩ := hr4149
         refine t_st rfl (st_index_old j4145 rfl rfl hj4146 hlt4152 hA4151 sl45) ?_
         refine t_st rfl (st_load_rd rfl one3 (fun w ho => hcs4150 w _ ho (List.sublist_append_left _ _) 0 _ rfl)) ?_
         obtain ⟨_, h4159, hm⟩ := bindS hm
         have h4159 := (chk_some h4159).2
         refine t_st rfl (st_add rfl rfl h4159) ?_
         obtain ⟨x4160, h4161, hm⟩ := bindS hm
         obtain ⟨j4162, hj4163, hx4164⟩ := idx_some h4161
         obtain ⟨cs4165, hs4170, P4171, P4172, hq4173, hr4166, hcs4167, hA4168, hlt4169, hb4174, hho4175⟩ := OS.get (sz := 1) rfl (by decide) (h3957.le hle4069) hx4164
         obtain ⟨rfl, rfl⟩ := hr4166
         refine t_st rfl (st_index_old j4162 rfl rfl hj4163 hlt4169 hA4168 sl45) ?_
         refine t_do rfl (u_putOS hj4163 (sz := 1) (a' := x4143 + 1) rfl [] R 0 1 [.int .i64 (x4143 + 1)] rfl (h3957.le hle4069) hx4164 rfl rfl rfl siz3 rfl (by intro u hu; simp only [List.mem_cons, List.not_mem_nil, or_false] at hu; subst hu; rfl) (fun cs hsj hh => by obtain ⟨rfl, rfl⟩ := hh; exact ⟨by decide, rfl, rfl⟩)) ?_
         rintro _ _ ⟨hs4176, rfl, h4177⟩
         refine t_resp 8 rfl (v' := .slice A2185 (put l3958 x3964 (x4143 + 1)).length c2186) (by simp only [put_length]) ?_
         refine t_nil ?_
         refine x_block_normal ?_
         refine x_then_normal ?_
         refine c_region ?_
         refine t_st rfl (st_add rfl rfl (by omega)) ?_
         refine t_st rfl (st_move rfl) ?_
         refine t_nil ?_
         exact x_againM (put l3958 x3964 (x4143 + 1)) (Option.some.inj hm).symm (e' := [(0, .slice A1 (l4).length c2), (1, .int .i64 (x5)), (8, .slice A2185 (put l3958 x3964 (x4143 + 1)).length c2186), (10, .slice A3527 (x3517).length c3528), (24, .slice A6 (l9).length c7), (25, .int .i64 ((l9.length : Int))), (26, .int .i64 ((k3513 : Int))), (30, .slice A3527 (x3517).length c3528), (31, .int .i64 ((x3517.length : Int))), (32, .int .i64 ((k3960 : Int) + 1))]) (hp' := (hs4176 ++ R)) ⟨rfl, rfl, rfl, rfl, rfl, rfl, rfl, rfl, rfl, rfl, trivial⟩ (sub_app hs4176 (.refl _)) ⟨hs4176, rfl, rfl, ((hle3954.trans hle4069)), h4177, ((put_length _ _ _).trans hln3959)⟩
    ·
     rintro l3958 b3953 _ _ ⟨hs3956, rfl, rfl, hle3954, h3957, hln3959⟩ hq4178
     rw [hq4178] at hk3963
     have hm := elimL hk3963
     refine c_seq ?_
     refine c_region ?_
     refine t_st rfl (st_lss_f rfl rfl (by omega)) ?_
     refine t_nil ?_
     refine x_then_normal ?_
     refine c_seq ?_
     refine c_cond_f rfl ?_
     refine c_exit ?_
     refine x_then_exit ?_
     refine x_then_exit ?_
     refine x_block_out ?_
     refine x_block_normal ?_
     refine x_then_normal ?_
     refine c_region ?_
     refine t_st rfl (st_add rfl rfl (by omega)) ?_
     refine t_st rfl (st_move rfl) ?_
     refine t_nil ?_
     exact x_againM l3958 (Option.some.inj hm).symm (e' := [(0, .slice A1 (l4).length c2), (1, .int .i64 (x5)), (8, .slice A2185 (l3958).length c2186), (24, .slice A6 (l9).length c7), (25, .int .i64 ((l9.length : Int))), (26, .int .i64 ((k3513 : Int) + 1))]) (hp' := (hs3956 ++ R)) ⟨rfl, rfl, rfl, rfl, rfl, rfl, trivial⟩ (sub_app hs3956 (.refl _)) ⟨hs3956, rfl, rfl, ((hle3507.trans hle3954)), h3957, hln3959⟩
   ·
    rintro l3511 b3506 _ _ ⟨hs3509, rfl, rfl, hle3507, h3510, hln3512⟩ hq4179
    rw [hq4179] at hk3516
    have hm := elimL hk3516
    refine c_seq ?_
    refine c_region ?_
    refine t_st rfl (st_lss_f rfl rfl (by omega)) ?_
    refine t_nil ?_
    refine x_then_normal ?_
    refine c_seq ?_
    refine c_cond_f rfl ?_
    refine c_exit ?_
    refine x_then_exit ?_
    refine x_then_exit ?_
    refine x_block_out ?_
    refine x_then_normal ?_
    refine c_seq ?_
    refine c_seq ?_
    refine c_region ?_
    refine t_st rfl (st_move rfl) ?_
    refine t_st rfl (st_len rfl sl22) ?_
    refine t_st rfl (st_move rfl) ?_
    refine t_nil ?_
    refine x_then_normal ?_
    refine c_block ?_
    have hb4181 := (FZ.bd (h3.le hle3507))
    obtain ⟨t4262, hl4263, hk4264⟩ := bindS hm
    refine c_forM (fun k4261 => fun _ => fun b4259 e' hp' => [(8, .slice A2185 (l3511).length c2186), (78, .slice A1 (l4).length c2), (79, .int .i64 ((l4.length : Int))), (80, .int .i64 ((k4261 : Int)))] = e' ∧ (hs3509 ++ R) = hp' ∧ b3506.Le b4259) hl4263 (e' := [(8, .slice A2185 (l3511).length c2186), (78, .slice A1 (l4).length c2), (79, .int .i64 ((l4.length : Int))), (80, .int .i64 0)]) (hp' := (hs3509 ++ R)) ⟨rfl, rfl, rfl, rfl, trivial⟩ (sub_app hs3509 (.refl _)) ⟨rfl, rfl, (Base.Le.refl _)⟩ ?_ ?_
    ·
     rintro k4261 _ b4259 _ _ oL4180 hknL4180 ⟨rfl, rfl, hle4260⟩ hstepL4180 houtL4180
     unfold mFleetLegal_L4180 at hstepL4180
     have hm := hstepL4180
     refine c_seq ?_
     refine c_region ?_
     refine t_st rfl (st_lss_t rfl rfl (by omega)) ?_
     refine t_nil ?_
     refine x_then_normal ?_
     refine c_seq ?_
     refine c_cond_t rfl ?_
     refine c_skip ?_
     refine x_then_normal ?_
     refine c_seq ?_
     refine c_block ?_
     refine c_seq ?_
     refine c_region ?_
     refine t_st rfl (st_move rfl) ?_
     obtain ⟨x4265, h4266, hm⟩ := bindS hm
     obtain ⟨j4267, hj4268, hx4269⟩ := idx_some h4266
     obtain ⟨cs4270, hr4271, hcs4272, hA4273, hlt4274⟩ := FZ.get (sz := 6) rfl (by decide) (h3.le (hle3507.trans hle4260)) hx4269
     obtain ⟨_, _, rfl, rfl, ⟨_, _, rfl, rfl, ⟨_, _, rfl, rfl, ⟨_, _, rfl, rfl, ⟨_, _, rfl, rfl, rfl⟩⟩⟩⟩⟩ := hr4271
     refine t_st rfl (st_index_old j4267 rfl rfl hj4268 hlt4274 hA4273 sl22) ?_
     refine t_st rfl (st_loadN_old (vs := [.int .i64 (x4265.From), .int .i64 (x4265.To), .int .i64 (x4265.Dep), .int .i64 (x4265.Arr), .int .i64 (x4265.Km), .int .i64 (x4265.Units)]) 6 rfl agg36 hA4273 rfl (fun j u hu => hcs4272 j u hu)) ?_
     refine t_do rfl (u_alloc [.int .i64 0, .int .i64 0, .int .i64 0, .int .i64 0, .int .i64 0, .int .i64 0] zero36 rfl) ?_
     rintro _ _ ⟨g4275, rfl, rfl⟩
     refine t_st rfl (st_assign rfl) ?_
     refine t_do rfl (u_storeN (vs := [_, _, _, _, _, _]) 0 6 rfl rfl rfl siz36 rfl (by intro u hu; simp only [List.mem_cons, List.not_mem_nil, or_false] at hu; rcases hu with rfl | rfl | rfl | rfl | rfl | rfl <;> rfl) rfl (by simp)) ?_
     rintro _ _ rfl
     refine t_nil ?_
     refine x_then_normal ?_
     refine c_block ?_
     refine c_seq ?_
     obtain ⟨x4292, h4293, hm⟩ := bindS hm
     refine D_drawS ((g4275, Cl 36 [.int .i64 (x4265.From), .int .i64 (x4265.To), .int .i64 (x4265.Dep), .int .i64 (x4265.Arr), .int .i64 (x4265.Km), .int .i64 (x4265.Units)]) :: (hs3509 ++ R)) mixed ?_
     refine E_in (.cons_cons _ (sub_app hs3509 (.refl _))) ?_
     refine E_st 0 rfl (st_move rfl) ?_
     refine E_st 1 rfl (st_move rfl) ?_
     obtain ⟨j4294, hj4295, hx4296⟩ := idx_some h4293
     obtain ⟨cs4297, hs4302, P4303, P4304, hq4305, hr4298, hcs4299, hA4300, hlt4301, hb4306, hho4307⟩ := OS.get (sz := 1) rfl (by decide) (h3510.le hle4260) hx4296
     obtain ⟨rfl, rfl⟩ := hr4298
     refine E_st 2 rfl (st_index_old j4294 rfl rfl hj4295 hlt4301 hA4300 sl45) ?_
     refine E_st 3 rfl (st_load_rd rfl one3 (fun w ho => hcs4299 w _ ho (.cons _ (List.sublist_append_left _ _)) 0 _ rfl)) ?_
     refine E_st 4 rfl (st_field rfl fld36_5) ?_
     refine E_st 5 rfl (st_load 0 rfl one3 rfl rfl) ?_
     refine E_st 6 rfl (st_gtr rfl rfl) ?_
     refine E_st 7 rfl (st_assign rfl) ?_
     refine E_out ?_
     refine D_done (by kernel_rfl) ?_
     refine x_then_normal ?_
     refine c_cond _ rfl (fun hc4308 => ?_) (fun hc4308 => ?_)
     ·
      rw [if_pos (of_decide_eq_true hc4308)] at hm
      refine c_seq ?_
      refine c_region ?_
      refine t_st rfl (st_assign rfl) ?_
      refine t_nil ?_
      refine x_then_normal ?_
      refine c_ret ?_
      refine x_block_ret ?_
      refine x_block_ret ?_
      refine x_then_ret ?_
      refine x_then_ret ?_
      refine x_block_ret ?_
      refine x_then_ret ?_
      have hq4309 := houtL4180 _ (Option.some.inj hm).symm
      rw [hq4309] at hk4264
      have hm := elimR hk4264
      obtain rfl := some1 hm
      exact retM (rs := [.tmp 6]) [.int .i64 (4)] (hle3507.trans hle4260) (by decide) rfl ⟨rfl, trivial⟩ rfl (hp' := R) (.cons _ (sub_skip hs3509 (.refl _))) ⟨rfl, rfl⟩
     ·
      rw [if_neg (of_decide_eq_false hc4308)] at hm
      refine c_seq ?_
      obtain ⟨x4326, h4327, hm⟩ := bindS hm
      refine D_drawS ((g4275, Cl 36 [.int .i64 (x4265.From), .int .i64 (x4265.To), .int .i64 (x4265.Dep), .int .i64 (x4265.Arr), .int .i64 (x4265.Km), .int .i64 (x4265.Units)]) :: (hs3509 ++ R)) mixed ?_
      refine E_in (.cons_cons _ (sub_app hs3509 (.refl _))) ?_
      refine E_st 0 rfl (st_move rfl) ?_
      refine E_st 1 rfl (st_move rfl) ?_
      obtain ⟨j4328, hj4329, hx4330⟩ := idx_some h4327
      obtain ⟨cs4331, hs4336, P4337, P4338, hq4339, hr4332, hcs4333, hA4334, hlt4335, hb4340, hho4341⟩ := OS.get (sz := 1) rfl (by decide) (h3510.le hle4260) hx4330
      obtain ⟨rfl, rfl⟩ := hr4332
      refine E_st 2 rfl (st_index_old j4328 rfl rfl hj4329 hlt4335 hA4334 sl45) ?_
      refine E_st 3 rfl (st_load_rd rfl one3 (fun w ho => hcs4333 w _ ho (.cons _ (List.sublist_append_left _ _)) 0 _ rfl)) ?_
      refine E_st 4 rfl (st_field rfl fld36_5) ?_
      refine E_st 5 rfl (st_load 0 rfl one3 rfl rfl) ?_
      refine E_st 6 rfl (st_lss rfl rfl) ?_
      refine E_st 7 rfl (st_assign rfl) ?_
      refine E_out ?_
      refine D_done (by kernel_rfl) ?_
      refine x_then_normal ?_
      refine c_cond _ rfl (fun hc4342 => ?_) (fun hc4342 => ?_)
      ·
       rw [if_pos (of_decide_eq_true hc4342)] at hm
       refine c_seq ?_
       refine c_region ?_
       refine t_st rfl (st_assign rfl) ?_
       refine t_nil ?_
       refine x_then_normal ?_
       refine c_ret ?_
       refine x_block_ret ?_
       refine x_block_ret ?_
       refine x_then_ret ?_
       refine x_then_ret ?_
       refine x_block_ret ?_
       refine x_then_ret ?_
       have hq4343 := houtL4180 _ (Option.some.inj hm).symm
       rw [hq4343] at hk4264
       have hm := elimR hk4264
       obtain rfl := some1 hm
       exact retM (rs := [.tmp 6]) [.int .i64 (9)] (hle3507.trans hle4260) (by decide) rfl ⟨rfl, trivial⟩ rfl (hp' := R) (.cons _ (sub_skip hs3509 (.refl _))) ⟨rfl, rfl⟩
      ·
       rw [if_neg (of_decide_eq_false hc4342)] at hm
       refine c_skip ?_
       refine x_block_normal ?_
       refine x_block_normal ?_
       refine x_then_normal ?_
       refine c_region ?_
       refine t_st rfl (st_add rfl rfl (by omega)) ?_
       refine t_st rfl (st_move rfl) ?_
       refine t_nil ?_
       exact x_againM () (Option.some.inj hm).symm (e' := [(8, .slice A2185 (l3511).length c2186), (78, .slice A1 (l4).length c2), (79, .int .i64 ((l4.length : Int))), (80, .int .i64 ((k4261 : Int) + 1))]) (hp' := (hs3509 ++ R)) ⟨rfl, rfl, rfl, rfl, trivial⟩ (.cons _ (sub_app hs3509 (.refl _))) ⟨rfl, rfl, (hle4260)⟩
    ·
     rintro _ b4259 _ _ ⟨rfl, rfl, hle4260⟩ hq4344
     rw [hq4344] at hk4264
     have hm := elimL hk4264
     refine c_seq ?_
     refine c_region ?_
     refine t_st rfl (st_lss_f rfl rfl (by omega)) ?_
     refine t_nil ?_
     refine x_then_normal ?_
     refine c_seq ?_
     refine c_cond_f rfl ?_
     refine c_exit ?_
     refine x_then_exit ?_
     refine x_then_exit ?_
     refine x_block_out ?_
     refine x_then_normal ?_
     refine c_seq ?_
     refine c_region ?_
     refine t_st rfl (st_assign rfl) ?_
     refine t_nil ?_
     refine x_then_normal ?_
     refine c_ret ?_
     obtain rfl := some1 hm
     exact retM (rs := [.tmp 6]) [.int .i64 (0)] (hle3507.trans hle4260) (by decide) rfl ⟨rfl, trivial⟩ rfl (hp' := R) (sub_skip hs3509 (.refl _)) ⟨rfl, rfl⟩

set_option maxRecDepth 20000 in
theorem cSlicesEqualFunc (b : Base) (R : Hp) (l4 : (List (List Int))) (l8 : (List (List Int))) (A1 : Option Addr) (c2 : Nat) (A5 : Option Addr) (c6 : Nat) (h3 : FZ (RT.list (RT.int .i64)) b.w A1 c2 l4) (h7 : FZ (RT.list (RT.int .i64)) b.w A5 c6 l8) (x78 : Bool) (hm : mSlicesEqualFunc l4 l8 = some x78) :
    CallsG Try.prog 21 [.slice A1 (l4).length c2, .slice A5 (l8).length c6, .func (.func 34) #[] #[]] b (R) (fun v b' hp' => .bool (x78) = v ∧ R = hp') := by
  refine fn_enterG 32 Try.func21 rfl Try.ntmps21 rfl ?_
  unfold mSlicesEqualFunc at hm
  refine c_seq ?_
  refine c_region ?_
  refine t_st rfl (st_assign rfl) ?_
  refine t_nil ?_
  refine x_then_normal ?_
  refine c_seq ?_
  refine c_seq ?_
  refine c_region ?_
  refine t_st rfl (st_move rfl) ?_
  refine t_st rfl (st_len rfl sl26) ?_
  refine t_st rfl (st_move rfl) ?_
  refine t_st rfl (st_len rfl sl26) ?_
  refine t_st rfl (st_neq rfl rfl) ?_
  refine t_nil ?_
  refine x_then_normal ?_
  refine c_cond _ rfl (fun hc79 => ?_) (fun hc79 => ?_)
  ·
   rw [if_pos (of_decide_eq_true hc79)] at hm
   refine c_seq ?_
   refine c_region ?_
   refine t_st rfl (st_assign rfl) ?_
   refine t_nil ?_
   refine x_then_normal ?_
   refine c_ret ?_
   refine x_then_ret ?_
   obtain rfl := some1 hm
   exact retM (rs := [.tmp 6]) [.bool (false)] (Base.Le.refl _) (by decide) rfl ⟨rfl, trivial⟩ rfl (hp' := R) (.refl _) ⟨rfl, rfl⟩
  ·
   rw [if_neg (of_decide_eq_false hc79)] at hm
   refine c_skip ?_
   refine x_then_normal ?_
   refine c_seq ?_
   refine c_seq ?_
   refine c_region ?_
   refine t_st rfl (st_move rfl) ?_
   refine t_st rfl (st_len rfl sl26) ?_
   refine t_st rfl (st_move rfl) ?_
   refine t_nil ?_
   refine x_then_normal ?_
   refine c_block ?_
   have hb81 := (FZ.bd h3)
   obtain ⟨t114, hl115, hk116⟩ := bindS hm
   refine c_forM (fun k113 => fun _ => fun b111 e' hp' => [(1, .slice A5 (l8).length c6), (2, .func (.func 34) #[] #[]), (15, .slice A1 (l4).length c2), (16, .int .i64 ((l4.length : Int))), (17, .int .i64 ((k113 : Int)))] = e' ∧ R = hp' ∧ b.Le b111) hl115 (e' := [(1, .slice A5 (l8).length c6), (2, .func (.func 34) #[] #[]), (15, .slice A1 (l4).length c2), (16, .int .i64 ((l4.length : Int))), (17, .int .i64 0)]) (hp' := R) ⟨rfl, rfl, rfl, rfl, rfl, trivial⟩ (.refl _) ⟨rfl, rfl, (Base.Le.refl _)⟩ ?_ ?_
   ·
    rintro k113 _ b111 _ _ oL80 hknL80 ⟨rfl, rfl, hle112⟩ hstepL80 houtL80
    unfold mSlicesEqualFunc_L80 at hstepL80
    have hm := hstepL80
    refine c_seq ?_
    refine c_region ?_
    refine t_st rfl (st_lss_t rfl rfl (by omega)) ?_
    refine t_nil ?_
    refine x_then_normal ?_
    refine c_seq ?_
    refine c_cond_t rfl ?_
    refine c_skip ?_
    refine x_then_normal ?_
    refine c_seq ?_
    refine c_block ?_
    refine c_seq ?_
    refine c_region ?_
    refine t_st rfl (st_move rfl) ?_
    obtain ⟨x117, h118, hm⟩ := bindS hm
    obtain ⟨j119, hj120, hx121⟩ := idx_some h118
    obtain ⟨cs122, hr123, hcs124, hA125, hlt126⟩ := FZ.get (sz := 1) rfl (by decide) (h3.le hle112) hx121
    obtain ⟨A127, c128, rfl, h129⟩ := hr123
    refine t_st rfl (st_index_old j119 rfl rfl hj120 hlt126 hA125 sl26) ?_
    refine t_st rfl (st_load_old rfl one45 (hcs124 0 _ rfl)) ?_
    refine t_st rfl (st_assign rfl) ?_
    refine t_st rfl (st_assign rfl) ?_
    refine t_nil ?_
    refine x_then_normal ?_
    refine c_seq ?_
    refine c_region ?_
    refine t_st rfl (st_move rfl) ?_
    refine t_st rfl (st_move rfl) ?_
    obtain ⟨x130, h131, hm⟩ := bindS hm
    obtain ⟨j132, hj133, hx134⟩ := idx_some h131
    obtain ⟨cs135, hr136, hcs137, hA138, hlt139⟩ := FZ.get (sz := 1) rfl (by decide) (h7.le hle112) hx134
    obtain ⟨A140, c141, rfl, h142⟩ := hr136
    refine t_st rfl (st_index_old j132 rfl rfl hj133 hlt139 hA138 sl26) ?_
    refine t_st rfl (st_load_old rfl one45 (hcs137 0 _ rfl)) ?_
    refine t_st rfl (st_assign rfl) ?_
    refine t_nil ?_
    refine x_then_normal ?_
    refine c_seq ?_
    refine c_region ?_
    refine t_st rfl (st_move rfl) ?_
    refine t_st rfl (st_move rfl) ?_
    refine t_st rfl (st_move rfl) ?_
    obtain ⟨x143, hcl144, hm⟩ := bindS hm
    refine t_do rfl (u_callvW0 #[] #[] [.slice A127 (x117).length c128, .slice A140 (x130).length c141] rfl call34 rfl (fun w ho => cSlicesEqual _ [] x117 x130 A127 c128 A140 c141 (h129.old ho) (h142.old ho) x143 hcl144) (fun _ _ _ h => h.2.symm)) ?_
    rintro _ _ ⟨⟨_, rfl, _⟩, rfl⟩
    refine t_st rfl (st_not rfl) ?_
    refine t_nil ?_
    refine x_then_normal ?_
    refine c_cond _ rfl (fun hc145 => ?_) (fun hc145 => ?_)
    ·
     rw [if_neg (fun hh => Bool.noConfusion (hh.symm.trans (notT hc145)))] at hm
     refine c_seq ?_
     refine c_region ?_
     refine t_st rfl (st_assign rfl) ?_
     refine t_nil ?_
     refine x_then_normal ?_
     refine c_ret ?_
     refine x_block_ret ?_
     refine x_then_ret ?_
     refine x_then_ret ?_
     refine x_block_ret ?_
     refine x_then_ret ?_
     have hq146 := houtL80 _ (Option.some.inj hm).symm
     rw [hq146] at hk116
     have hm := elimR hk116
     obtain rfl := some1 hm
     exact retM (rs := [.tmp 6]) [.bool (false)] hle112 (by decide) rfl ⟨rfl, trivial⟩ rfl (hp' := R) (.refl _) ⟨rfl, rfl⟩
    ·
     rw [if_pos (notF hc145)] at hm
     refine c_skip ?_
     refine x_block_normal ?_
     refine x_then_normal ?_
     refine c_region ?_
     refine t_st rfl (st_add rfl rfl (by omega)) ?_
     refine t_st rfl (st_move rfl) ?_
     refine t_nil ?_
     exact x_againM () (Option.some.inj hm).symm (e' := [(1, .slice A5 (l8).length c6), (2, .func (.func 34) #[] #[]), (15, .slice A1 (l4).length c2), (16, .int .i64 ((l4.length : Int))), (17, .int .i64 ((k113 : Int) + 1))]) (hp' := R) ⟨rfl, rfl, rfl, rfl, rfl, trivial⟩ (.refl _) ⟨rfl, rfl, (hle112)⟩
   ·
    rintro _ b111 _ _ ⟨rfl, rfl, hle112⟩ hq147
    rw [hq147] at hk116
    have hm := elimL hk116
    refine c_seq ?_
    refine c_region ?_
    refine t_st rfl (st_lss_f rfl rfl (by omega)) ?_
    refine t_nil ?_
    refine x_then_normal ?_
    refine c_seq ?_
    refine c_cond_f rfl ?_
    refine c_exit ?_
    refine x_then_exit ?_
    refine x_then_exit ?_
    refine x_block_out ?_
    refine x_then_normal ?_
    refine c_seq ?_
    refine c_region ?_
    refine t_st rfl (st_assign rfl) ?_
    refine t_nil ?_
    refine x_then_normal ?_
    refine c_ret ?_
    obtain rfl := some1 hm
    exact retM (rs := [.tmp 6]) [.bool (true)] hle112 (by decide) rfl ⟨rfl, trivial⟩ rfl (hp' := R) (.refl _) ⟨rfl, rfl⟩

set_option maxRecDepth 20000 in
theorem clSlicesClone_3 (A : Option Addr) (n c : Nat) (xs : List Value) (w : World) (hR : Rd w A xs) (hl : xs.length = n * 2) (hn : n * 16 ≤ 140737488355328 ∧ n ≤ 9223372036854775807) :
    CallsH Try.prog 35 [.slice A n c] w [] (fun v hp' => Seg0 47 2 v n xs hp') := by
  refine fn_enter 8 Try.func35 rfl Try.ntmps35 rfl ?_
  refine c_seq ?_
  refine c_region ?_
  refine t_st rfl (st_assign rfl) ?_
  refine t_nil ?_
  refine x_then_normal ?_
  refine c_seq ?_
  refine c_seq ?_
  refine c_region ?_
  refine t_st rfl (st_move rfl) ?_
  refine t_bool rfl (st_eqnil rfl rfl sl38) (fun hc1 => ?_) (fun hc1 => ?_)
  ·
    refine t_nil ?_
    refine x_then_normal ?_
    refine c_cond_t rfl ?_
    refine c_seq ?_
    refine c_region ?_
    refine t_st rfl (st_assign rfl) ?_
    refine t_nil ?_
    refine x_then_normal ?_
    refine c_ret ?_
    refine x_then_ret ?_
    subst hc1
    obtain rfl := hR.none_nil
    obtain rfl : n = 0 := by simp at hl; omega
    refine x_drop (hp' := []) (by repeat (first | exact List.Sublist.refl _ | exact List.nil_sublist _ | exact List.sublist_append_left _ _ | exact List.sublist_append_right _ _ | exact (List.sublist_append_right _ _).trans (List.sublist_append_right _ _) | apply List.Sublist.cons_cons | apply List.Sublist.cons)) ?_
    exact ret1 (Base.Le.refl _) rfl rfl (Seg0.nil)
  ·
    refine t_nil ?_
    refine x_then_normal ?_
    refine c_cond_f rfl ?_
    refine c_skip ?_
    refine x_then_normal ?_
    refine c_seq ?_
    refine c_region ?_
    refine t_do rfl (u_bslice (el := 47) [] [] rfl (fun _ => by kernel_rfl)) ?_
    rintro _ _ ⟨g0, rfl, rfl⟩
    refine t_st rfl (st_move rfl) ?_
    refine t_do rfl (u_app0 xs sl38 inf47 rfl (by decide) rfl rfl hl (fun w ho => hR.old ho) hn.2 hn.1) ?_
    rintro _ _ ⟨hs, rfl, hseg⟩
    refine t_st rfl (st_assign rfl) ?_
    refine t_nil ?_
    refine x_then_normal ?_
    refine c_ret ?_
    refine x_drop (hp' := hs) (by repeat (first | exact List.Sublist.refl _ | exact List.nil_sublist _ | exact List.sublist_append_left _ _ | exact List.sublist_append_right _ _ | exact (List.sublist_append_right _ _).trans (List.sublist_append_right _ _) | apply List.Sublist.cons_cons | apply List.Sublist.cons)) ?_
    exact ret1 (Base.Le.refl _) rfl rfl hseg

set_option maxRecDepth 20000 in
theorem cSlicesClone_3 (b : Base) (R : Hp) (l4 : (List FleetSet)) (A1 : Option Addr) (c2 : Nat) (h3 : FZ rFleetSet b.w A1 c2 l4) (l10 : (List FleetSet)) (hm : mSlicesClone_3 l4 = some l10) :
    CallsG Try.prog 35 [.slice A1 (l4).length c2] b (R) (fun v b' hp' => ∃ (A7 : Option Addr), ∃ (c8 : Nat), ∃ (hs6 : Hp), .slice A7 (l10).length c8 = v ∧ (hs6 ++ R) = hp' ∧ OS 47 (OT.fr rFleetSet) b'.w (.slice A7 l10.length c8) l10 hs6) := by
  unfold mSlicesClone_3 at hm
  obtain ⟨_, hroom, hm⟩ := bindS hm
  have hroom := room_some hroom
  obtain rfl := some1 hm
  exact clone_of (r := rFleetSet) (sz := 2) (by_ := 16) rfl (by decide) clSlicesClone_3 h3 hroom

set_option maxRecDepth 20000 in
theorem cFishkeep2FleetAssigned_1 (b : Base) (R : Hp) (l4 : (List (List Int))) (A1 : Option Addr) (c2 : Nat) (h3 : FZ (RT.list (RT.int .i64)) b.w A1 c2 l4) (x56 : Int) (hm : mFishkeep2FleetAssigned_1 l4 = some x56) :
    CallsG Try.prog 33 [.slice A1 (l4).length c2] b (R) (fun v b' hp' => .int .i64 (x56) = v ∧ R = hp') := by
  refine fn_enterG 18 Try.func33 rfl Try.ntmps33 rfl ?_
  unfold mFishkeep2FleetAssigned_1 at hm
  refine c_seq ?_
  refine c_region ?_
  refine t_st rfl (st_assign rfl) ?_
  refine t_nil ?_
  refine x_then_normal ?_
  refine c_seq ?_
  refine c_region ?_
  refine t_st rfl (st_assign rfl) ?_
  refine t_nil ?_
  refine x_then_normal ?_
  refine c_seq ?_
  refine c_seq ?_
  refine c_region ?_
  refine t_st rfl (st_move rfl) ?_
  refine t_st rfl (st_len rfl sl26) ?_
  refine t_st rfl (st_move rfl) ?_
  refine t_nil ?_
  refine x_then_normal ?_
  refine c_block ?_
  have hb58 := (FZ.bd h3)
  obtain ⟨x90, hl92, hk93⟩ := bindS hm
  refine c_forS (fun k91 => fun x90 => fun b88 e' hp' => [(3, .int .i64 (x90)), (6, .slice A1 (l4).length c2), (7, .int .i64 ((l4.length : Int))), (8, .int .i64 ((k91 : Int)))] = e' ∧ R = hp' ∧ b.Le b88) hl92 (e' := [(3, .int .i64 (0)), (6, .slice A1 (l4).length c2), (7, .int .i64 ((l4.length : Int))), (8, .int .i64 0)]) (hp' := R) ⟨rfl, rfl, rfl, rfl, trivial⟩ (.refl _) ⟨rfl, rfl, (Base.Le.refl _)⟩ ?_ ?_
  ·
   rintro k91 x90 b88 _ _ oL57 hknL57 ⟨rfl, rfl, hle89⟩ hstepL57
   unfold mFishkeep2FleetAssigned_1_L57 at hstepL57
   have hm := hstepL57
   refine c_seq ?_
   refine c_region ?_
   refine t_st rfl (st_lss_t rfl rfl (by omega)) ?_
   refine t_nil ?_
   refine x_then_normal ?_
   refine c_seq ?_
   refine c_cond_t rfl ?_
   refine c_skip ?_
   refine x_then_normal ?_
   refine c_seq ?_
   refine c_block ?_
   refine c_seq ?_
   refine c_region ?_
   obtain ⟨x94, h95, hm⟩ := bindS hm
   obtain ⟨j96, hj97, hx98⟩ := idx_some h95
   obtain ⟨cs99, hr100, hcs101, hA102, hlt103⟩ := FZ.get (sz := 1) rfl (by decide) (h3.le hle89) hx98
   obtain ⟨A104, c105, rfl, h106⟩ := hr100
   refine t_st rfl (st_index_old j96 rfl rfl hj97 hlt103 hA102 sl26) ?_
   refine t_st rfl (st_load_old rfl one45 (hcs101 0 _ rfl)) ?_
   refine t_st rfl (st_assign rfl) ?_
   refine t_nil ?_
   refine x_then_normal ?_
   refine c_region ?_
   refine t_st rfl (st_move rfl) ?_
   refine t_st rfl (st_move rfl) ?_
   refine t_st rfl (st_len rfl sl45) ?_
   obtain ⟨_, h107, hm⟩ := bindS hm
   have h107 := (chk_some h107).2
   refine t_st rfl (st_add rfl rfl h107) ?_
   refine t_st rfl (st_assign rfl) ?_
   refine t_nil ?_
   refine x_block_normal ?_
   refine x_then_normal ?_
   refine c_region ?_
   refine t_st rfl (st_add rfl rfl (by omega)) ?_
   refine t_st rfl (st_move rfl) ?_
   refine t_nil ?_
   obtain rfl := some1 hm
   exact x_againS (e' := [(3, .int .i64 (x90 + (x94.length : Int))), (6, .slice A1 (l4).length c2), (7, .int .i64 ((l4.length : Int))), (8, .int .i64 ((k91 : Int) + 1))]) (hp' := R) ⟨rfl, rfl, rfl, rfl, trivial⟩ (.refl _) ⟨rfl, rfl, (hle89)⟩
  ·
   rintro b88 _ _ ⟨rfl, rfl, hle89⟩
   have hm := hk93
   refine c_seq ?_
   refine c_region ?_
   refine t_st rfl (st_lss_f rfl rfl (by omega)) ?_
   refine t_nil ?_
   refine x_then_normal ?_
   refine c_seq ?_
   refine c_cond_f rfl ?_
   refine c_exit ?_
   refine x_then_exit ?_
   refine x_then_exit ?_
   refine x_block_out ?_
   refine x_then_normal ?_
   refine c_seq ?_
   refine c_region ?_
   refine t_st rfl (st_move rfl) ?_
   refine t_st rfl (st_assign rfl) ?_
   refine t_nil ?_
   refine x_then_normal ?_
   refine c_ret ?_
   obtain rfl := some1 hm
   exact retM (rs := [.tmp 2]) [.int .i64 (x90)] hle89 (by decide) rfl ⟨rfl, trivial⟩ rfl (hp' := R) (.refl _) ⟨rfl, rfl⟩

set_option maxRecDepth 20000 in
theorem cFishkeep2FleetAssigned (b : Base) (R : Hp) (l4 : (List FleetTask)) (x5 : Int) (l9 : (List FleetSet)) (s10 : FleetShop) (A1 : Option Addr) (c2 : Nat) (A6 : Option Addr) (c7 : Nat) (h3 : FZ rFleetTask b.w A1 c2 l4) (h8 : FZ rFleetSet b.w A6 c7 l9) (x270 : Bool) (hm : mFishkeep2FleetAssigned l4 x5 l9 s10 = some x270) :
    CallsG Try.prog 8 [.slice A1 (l4).length c2, .int .i64 (x5), .slice A6 (l9).length c7, .agg #[.int .i64 (s10.Place), .int .i64 (s10.Long), .int .i64 (s10.Limit)]] b (R) (fun v b' hp' => .bool (x270) = v ∧ R = hp') := by
  refine fn_enterG 102 Try.func8 rfl Try.ntmps8 rfl ?_
  unfold mFishkeep2FleetAssigned at hm
  refine c_seq ?_
  refine c_region ?_
  refine t_do rfl (u_box _ rfl rfl) ?_
  rintro _ _ ⟨g271, rfl, rfl⟩
  refine t_st rfl (st_assign rfl) ?_
  refine t_nil ?_
  refine x_then_normal ?_
  refine c_seq ?_
  refine c_seq ?_
  refine c_region ?_
  obtain ⟨x272, hcl273, hm⟩ := bindS hm
  refine t_do rfl (u_callW0 _ call10 rfl (fun w ho => cFishkeep2AwakeFleet _ [] x272 hcl273) (fun _ _ _ h => h.2.symm)) ?_
  rintro _ _ ⟨⟨_, rfl, _⟩, rfl⟩
  refine t_st rfl (st_not rfl) ?_
  refine t_nil ?_
  refine x_then_normal ?_
  refine c_cond _ rfl (fun hc274 => ?_) (fun hc274 => ?_)
  ·
   rw [if_neg (fun hh => Bool.noConfusion (hh.symm.trans (notT hc274)))] at hm
   refine c_seq ?_
   refine c_region ?_
   refine t_st rfl (st_assign rfl) ?_
   refine t_nil ?_
   refine x_then_normal ?_
   refine c_ret ?_
   refine x_then_ret ?_
   obtain rfl := some1 hm
   exact retM (rs := [.tmp 8]) [.bool (false)] (Base.Le.refl _) (by decide) rfl ⟨rfl, trivial⟩ rfl (hp' := R) (.cons _ (.refl _)) ⟨rfl, rfl⟩
  ·
   rw [if_pos (notF hc274)] at hm
   refine c_skip ?_
   refine x_then_normal ?_
   refine c_seq ?_
   refine c_seq ?_
   refine c_region ?_
   obtain ⟨x275, hcl276, hm⟩ := bindS hm
   refine t_do rfl (u_callW0 _ call11 rfl (fun w ho => cFishkeep2Sets _ [] x275 hcl276) (fun _ _ _ h => h.2.symm)) ?_
   rintro _ _ ⟨⟨_, rfl, _⟩, rfl⟩
   refine t_st rfl (st_not rfl) ?_
   refine t_nil ?_
   refine x_then_normal ?_
   refine c_cond _ rfl (fun hc277 => ?_) (fun hc277 => ?_)
   ·
    rw [if_neg (fun hh => Bool.noConfusion (hh.symm.trans (notT hc277)))] at hm
    refine c_seq ?_
    refine c_region ?_
    refine t_st rfl (st_assign rfl) ?_
    refine t_nil ?_
    refine x_then_normal ?_
    refine c_ret ?_
    refine x_then_ret ?_
    obtain rfl := some1 hm
    exact retM (rs := [.tmp 8]) [.bool (false)] (Base.Le.refl _) (by decide) rfl ⟨rfl, trivial⟩ rfl (hp' := R) (.cons _ (.refl _)) ⟨rfl, rfl⟩
   ·
    rw [if_pos (notF hc277)] at hm
    refine c_skip ?_
    refine x_then_normal ?_
    refine c_seq ?_
    refine c_region ?_
    refine t_st rfl (st_move rfl) ?_
    refine t_st rfl (st_move rfl) ?_
    refine t_st rfl (st_move rfl) ?_
    refine t_st rfl (st_loadD (vs := [_, _, _]) 0 3 rfl agg40 rfl rfl rfl) ?_
    obtain ⟨⟨l278, z279, x280, l281⟩, hcl282, hm⟩ := bindS hm
    have hm := (unc4E hm)
    refine t_callG _ rfl call32 rfl (cFleetAssign _ _ l4 x5 l9 s10 A1 c2 A6 c7 h3 h8 l278 z279 x280 l281 hcl282) ?_
    rintro _ b283 _ hle284 ⟨A285, c286, A287, c288, hs289, rfl, rfl, h290, h291, h292⟩
    refine t_in1 [] [_] hs289 R rfl ?_
    refine t_st rfl (st_move rfl) ?_
    refine t_st rfl (st_extract rfl rfl) ?_
    refine t_st rfl (st_extract rfl rfl) ?_
    refine t_st rfl (st_extract rfl rfl) ?_
    refine t_st rfl (st_assign rfl) ?_
    refine t_st rfl (st_assign rfl) ?_
    refine t_st rfl (st_assign rfl) ?_
    refine t_nil ?_
    refine x_then_normal ?_
    refine c_seq ?_
    refine c_seq ?_
    refine c_region ?_
    refine t_st rfl (st_move rfl) ?_
    refine t_st rfl (st_neq rfl rfl) ?_
    refine t_nil ?_
    refine x_then_normal ?_
    refine c_cond _ rfl (fun hc293 => ?_) (fun hc293 => ?_)
    ·
     rw [if_pos (of_decide_eq_true hc293)] at hm
     refine c_seq ?_
     refine c_region ?_
     refine t_st rfl (st_move rfl) ?_
     refine t_st rfl (st_len rfl sl26) ?_
     refine t_st rfl (st_move rfl) ?_
     refine t_st rfl (st_len rfl sl26) ?_
     obtain ⟨_, h294, hm⟩ := bindS hm
     have h294 := (chk_some h294).2
     refine t_st rfl (st_add rfl rfl h294) ?_
     refine t_st rfl (st_eql rfl rfl) ?_
     refine t_st rfl (st_assign rfl) ?_
     refine t_nil ?_
     refine x_then_normal ?_
     refine c_ret ?_
     refine x_then_ret ?_
     obtain rfl := some1 hm
     exact retM (rs := [.tmp 8]) [.bool (decide (((l278.length : Int) + (l281.length : Int)) = 0))] hle284 (by decide) rfl ⟨rfl, trivial⟩ rfl (hp' := R) (.cons _ (sub_skip hs289 (.refl _))) ⟨rfl, rfl⟩
    ·
     rw [if_neg (of_decide_eq_false hc293)] at hm
     refine c_skip ?_
     refine x_then_normal ?_
     refine c_seq ?_
     refine c_region ?_
     refine t_st rfl (st_move rfl) ?_
     refine t_st rfl (st_move rfl) ?_
     refine t_st rfl (st_move rfl) ?_
     refine t_st rfl (st_loadD (vs := [_, _, _]) 0 3 rfl agg40 rfl rfl rfl) ?_
     obtain ⟨⟨x295, l296⟩, hcl297, hm⟩ := bindS hm
     have hm := (unc2E hm)
     refine t_callG _ rfl call18 rfl (cFleetInspect _ _ l4 l278 l9 s10 A1 c2 A285 c286 A6 c7 (h3.le hle284) h290 (h8.le hle284) x295 l296 hcl297) ?_
     rintro _ b298 _ hle299 ⟨A300, c301, hs302, rfl, rfl, h303⟩
     refine t_in1 [] [_] hs302 (hs289 ++ R) rfl ?_
     refine t_st rfl (st_move rfl) ?_
     refine t_st rfl (st_extract rfl rfl) ?_
     refine t_st rfl (st_extract rfl rfl) ?_
     refine t_st rfl (st_assign rfl) ?_
     refine t_st rfl (st_assign rfl) ?_
     refine t_nil ?_
     refine x_then_normal ?_
     refine c_seq ?_
     refine c_region ?_
     refine t_st rfl (st_assign rfl) ?_
     refine t_nil ?_
     refine x_then_normal ?_
     refine c_seq ?_
     obtain ⟨x313, hj314, hk314⟩ := bindS hm
     refine c_join (fun b311 e' hp' => [(0, .slice A1 (l4).length c2), (1, .int .i64 (x5)), (2, .slice A6 (l9).length c7), (7, .pointer (some ⟨g271, 0, none⟩)), (10, .slice A287 (l281).length c288), (14, .func (.func 33) #[] #[]), (67, .bool (x313))] = e' ∧ (g271, Cl 40 [.int .i64 (s10.Place), .int .i64 (s10.Long), .int .i64 (s10.Limit)]) :: (hs289 ++ R) = hp' ∧ b298.Le b311) ?_ ?_
     ·
      have hm := hj314
      refine c_region ?_
      refine t_st rfl (st_move rfl) ?_
      refine t_st rfl (st_move rfl) ?_
      refine t_st rfl (st_move rfl) ?_
      obtain ⟨x315, hcl316, hm⟩ := bindS hm
      refine t_do rfl (u_callW0 _ call15 rfl (fun w ho => cFleetLegal _ [] l4 x5 l278 A1 c2 A285 c286 ((h3.le (hle284.trans hle299)).old ho) ((h290.le hle299).old ho) x315 hcl316) (fun _ _ _ h => h.2.symm)) ?_
      rintro _ _ ⟨⟨_, rfl, _⟩, rfl⟩
      refine t_bool rfl (st_neq rfl rfl) (fun hc317 => ?_) (fun hc317 => ?_)
      ·
       rw [if_pos hc317] at hm
       refine t_st rfl (st_move rfl) ?_
       refine t_no 51 rfl rfl rfl rfl rfl ?_
       refine t_no 51 rfl rfl rfl rfl rfl ?_
       refine t_st rfl (st_pick_t rfl rfl) ?_
       refine t_st rfl (st_move rfl) ?_
       refine t_no 55 rfl rfl rfl rfl rfl ?_
       refine t_no 55 rfl rfl rfl rfl rfl ?_
       refine t_no 55 rfl rfl rfl rfl rfl ?_
       refine t_no 55 rfl rfl rfl rfl rfl ?_
       refine t_st rfl (st_pick_t rfl rfl) ?_
       refine t_st rfl (st_move rfl) ?_
       refine t_no 61 rfl rfl rfl rfl rfl ?_
       refine t_no 61 rfl rfl rfl rfl rfl ?_
       refine t_no 61 rfl rfl rfl rfl rfl ?_
       refine t_no 61 rfl rfl rfl rfl rfl ?_
       refine t_no 61 rfl rfl rfl rfl rfl ?_
       refine t_st rfl (st_pick_t rfl rfl) ?_
       refine t_nil ?_
       obtain rfl := some1 hm
       refine x_front2 [_] hs302 hs289 R rfl ?_
       exact x_join (e' := [(0, .slice A1 (l4).length c2), (1, .int .i64 (x5)), (2, .slice A6 (l9).length c7), (7, .pointer (some ⟨g271, 0, none⟩)), (10, .slice A287 (l281).length c288), (14, .func (.func 33) #[] #[]), (67, .bool (true))]) (hp' := (g271, Cl 40 [.int .i64 (s10.Place), .int .i64 (s10.Long), .int .i64 (s10.Limit)]) :: (hs289 ++ R)) ⟨rfl, rfl, rfl, rfl, rfl, rfl, rfl, trivial⟩ (.cons_cons _ (sub_app hs289 (sub_skip hs302 (.refl _)))) ⟨rfl, rfl, (Base.Le.refl _)⟩
      ·
       rw [if_neg hc317] at hm
       refine t_st rfl (st_move rfl) ?_
       refine t_yes 51 rfl rfl rfl ?_
       refine t_st rfl (st_move rfl) ?_
       refine t_yes 51 rfl rfl rfl ?_
       refine t_bool rfl (st_neq rfl rfl) (fun hc318 => ?_) (fun hc318 => ?_)
       ·
        rw [if_pos hc318] at hm
        refine t_st rfl (st_pick_f rfl rfl) ?_
        refine t_st rfl (st_move rfl) ?_
        refine t_no 55 rfl rfl rfl rfl rfl ?_
        refine t_no 55 rfl rfl rfl rfl rfl ?_
        refine t_no 55 rfl rfl rfl rfl rfl ?_
        refine t_no 55 rfl rfl rfl rfl rfl ?_
        refine t_st rfl (st_pick_t rfl rfl) ?_
        refine t_st rfl (st_move rfl) ?_
        refine t_no 61 rfl rfl rfl rfl rfl ?_
        refine t_no 61 rfl rfl rfl rfl rfl ?_
        refine t_no 61 rfl rfl rfl rfl rfl ?_
        refine t_no 61 rfl rfl rfl rfl rfl ?_
        refine t_no 61 rfl rfl rfl rfl rfl ?_
        refine t_st rfl (st_pick_t rfl rfl) ?_
        refine t_nil ?_
        obtain rfl := some1 hm
        refine x_front2 [_] hs302 hs289 R rfl ?_
        exact x_join (e' := [(0, .slice A1 (l4).length c2), (1, .int .i64 (x5)), (2, .slice A6 (l9).length c7), (7, .pointer (some ⟨g271, 0, none⟩)), (10, .slice A287 (l281).length c288), (14, .func (.func 33) #[] #[]), (67, .bool (true))]) (hp' := (g271, Cl 40 [.int .i64 (s10.Place), .int .i64 (s10.Long), .int .i64 (s10.Limit)]) :: (hs289 ++ R)) ⟨rfl, rfl, rfl, rfl, rfl, rfl, rfl, trivial⟩ (.cons_cons _ (sub_app hs289 (sub_skip hs302 (.refl _)))) ⟨rfl, rfl, (Base.Le.refl _)⟩
       ·
        rw [if_neg hc318] at hm
        refine t_st rfl (st_pick_f rfl rfl) ?_
        refine t_st rfl (st_move rfl) ?_
        refine t_yes 55 rfl rfl rfl ?_
        refine t_st rfl (st_move rfl) ?_
        refine t_yes 55 rfl rfl rfl ?_
        refine t_st rfl (st_move rfl) ?_
        refine t_yes 55 rfl rfl rfl ?_
        obtain ⟨x319, hcl320, hm⟩ := bindS hm
        refine t_do rfl (u_callW0 _ call21 rfl (fun w ho => cSlicesEqualFunc _ [] l296 l281 A300 c301 A287 c288 (OS.now (o := (OT.fr (RT.list (RT.int .i64)))) (l := l296) (hs := hs302) h303 ho (.cons _ (List.sublist_append_left _ _))) (OS.now (o := (OT.fr (RT.list (RT.int .i64)))) (l := l281) (hs := hs289) (h292.le hle299) ho (.cons _ (sub_skip hs302 (List.sublist_append_left _ _)))) x319 hcl320) (fun _ _ _ h => h.2.symm)) ?_
        rintro _ _ ⟨⟨_, rfl, _⟩, rfl⟩
        rcases Bool.eq_false_or_eq_true x319 with hc321 | hc321
        ·
         rw [if_pos hc321] at hm
         refine t_resp 58 rfl (v' := .bool true) (by rw [hc321] <;> rfl) ?_
         refine t_yes 55 rfl rfl rfl ?_
         refine t_st rfl (st_not_t rfl) ?_
         refine t_st rfl (st_pick_f rfl rfl) ?_
         refine t_st rfl (st_move rfl) ?_
         refine t_yes 61 rfl rfl rfl ?_
         refine t_st rfl (st_move rfl) ?_
         refine t_yes 61 rfl rfl rfl ?_
         refine t_st rfl (st_len rfl sl26) ?_
         refine t_yes 61 rfl rfl rfl ?_
         refine t_st rfl (st_move rfl) ?_
         refine t_yes 61 rfl rfl rfl ?_
         refine t_st rfl (st_len rfl sl38) ?_
         refine t_yes 61 rfl rfl rfl ?_
         refine t_st rfl (st_neq rfl rfl) ?_
         refine t_st rfl (st_pick_f rfl rfl) ?_
         refine t_nil ?_
         obtain rfl := some1 hm
         refine x_front2 [_] hs302 hs289 R rfl ?_
         exact x_join (e' := [(0, .slice A1 (l4).length c2), (1, .int .i64 (x5)), (2, .slice A6 (l9).length c7), (7, .pointer (some ⟨g271, 0, none⟩)), (10, .slice A287 (l281).length c288), (14, .func (.func 33) #[] #[]), (67, .bool (decide ((l278.length : Int) ≠ (l9.length : Int))))]) (hp' := (g271, Cl 40 [.int .i64 (s10.Place), .int .i64 (s10.Long), .int .i64 (s10.Limit)]) :: (hs289 ++ R)) ⟨rfl, rfl, rfl, rfl, rfl, rfl, rfl, trivial⟩ (.cons_cons _ (sub_app hs289 (sub_skip hs302 (.refl _)))) ⟨rfl, rfl, (Base.Le.refl _)⟩
        ·
         rw [if_neg (fun hh => Bool.noConfusion (hh.symm.trans hc321))] at hm
         refine t_resp 58 rfl (v' := .bool false) (by rw [hc321] <;> rfl) ?_
         refine t_yes 55 rfl rfl rfl ?_
         refine t_st rfl (st_not_f rfl) ?_
         refine t_st rfl (st_pick_f rfl rfl) ?_
         refine t_st rfl (st_move rfl) ?_
         refine t_no 61 rfl rfl rfl rfl rfl ?_
         refine t_no 61 rfl rfl rfl rfl rfl ?_
         refine t_no 61 rfl rfl rfl rfl rfl ?_
         refine t_no 61 rfl rfl rfl rfl rfl ?_
         refine t_no 61 rfl rfl rfl rfl rfl ?_
         refine t_st rfl (st_pick_t rfl rfl) ?_
         refine t_nil ?_
         obtain rfl := some1 hm
         refine x_front2 [_] hs302 hs289 R rfl ?_
         exact x_join (e' := [(0, .slice A1 (l4).length c2), (1, .int .i64 (x5)), (2, .slice A6 (l9).length c7), (7, .pointer (some ⟨g271, 0, none⟩)), (10, .slice A287 (l281).length c288), (14, .func (.func 33) #[] #[]), (67, .bool (true))]) (hp' := (g271, Cl 40 [.int .i64 (s10.Place), .int .i64 (s10.Long), .int .i64 (s10.Limit)]) :: (hs289 ++ R)) ⟨rfl, rfl, rfl, rfl, rfl, rfl, rfl, trivial⟩ (.cons_cons _ (sub_app hs289 (sub_skip hs302 (.refl _)))) ⟨rfl, rfl, (Base.Le.refl _)⟩
     ·
      rintro b311 _ _ ⟨rfl, rfl, hle312⟩
      have hm := hk314
      refine c_cond _ rfl (fun hc322 => ?_) (fun hc322 => ?_)
      ·
       rw [if_pos hc322] at hm
       refine c_seq ?_
       refine c_region ?_
       refine t_st rfl (st_assign rfl) ?_
       refine t_nil ?_
       refine x_then_normal ?_
       refine c_ret ?_
       refine x_then_ret ?_
       obtain rfl := some1 hm
       exact retM (rs := [.tmp 8]) [.bool (false)] (hle284.trans (hle299.trans hle312)) (by decide) rfl ⟨rfl, trivial⟩ rfl (hp' := R) (.cons _ (sub_skip hs289 (.refl _))) ⟨rfl, rfl⟩
      ·
       rw [if_neg (fun hh => Bool.noConfusion (hh.symm.trans hc322))] at hm
       refine c_skip ?_
       refine x_then_normal ?_
       refine c_seq ?_
       obtain ⟨x326, hj327, hk327⟩ := bindS hm
       refine c_join (fun b324 e' hp' => [(0, .slice A1 (l4).length c2), (1, .int .i64 (x5)), (2, .slice A6 (l9).length c7), (7, .pointer (some ⟨g271, 0, none⟩)), (10, .slice A287 (l281).length c288), (14, .func (.func 33) #[] #[]), (75, .bool (x326))] = e' ∧ (g271, Cl 40 [.int .i64 (s10.Place), .int .i64 (s10.Long), .int .i64 (s10.Limit)]) :: (hs289 ++ R) = hp' ∧ b311.Le b324) ?_ ?_
       ·
        have hm := hj327
        refine c_region ?_
        refine t_st rfl (st_move rfl) ?_
        refine t_st rfl (st_len rfl sl38) ?_
        refine t_bool rfl (st_eql rfl rfl) (fun hc328 => ?_) (fun hc328 => ?_)
        ·
         rw [if_pos hc328] at hm
         refine t_st rfl (st_move rfl) ?_
         refine t_no 71 rfl rfl rfl rfl rfl ?_
         refine t_no 71 rfl rfl rfl rfl rfl ?_
         refine t_no 71 rfl rfl rfl rfl rfl ?_
         refine t_st rfl (st_pick_t rfl rfl) ?_
         refine t_nil ?_
         obtain rfl := some1 hm
         exact x_join (e' := [(0, .slice A1 (l4).length c2), (1, .int .i64 (x5)), (2, .slice A6 (l9).length c7), (7, .pointer (some ⟨g271, 0, none⟩)), (10, .slice A287 (l281).length c288), (14, .func (.func 33) #[] #[]), (75, .bool (true))]) (hp' := (g271, Cl 40 [.int .i64 (s10.Place), .int .i64 (s10.Long), .int .i64 (s10.Limit)]) :: (hs289 ++ R)) ⟨rfl, rfl, rfl, rfl, rfl, rfl, rfl, trivial⟩ (.cons_cons _ (sub_app hs289 (.refl _))) ⟨rfl, rfl, (Base.Le.refl _)⟩
        ·
         rw [if_neg hc328] at hm
         refine t_st rfl (st_move rfl) ?_
         refine t_yes 71 rfl rfl rfl ?_
         refine t_st rfl (st_move rfl) ?_
         refine t_yes 71 rfl rfl rfl ?_
         refine t_st rfl (st_len rfl sl38) ?_
         refine t_yes 71 rfl rfl rfl ?_
         refine t_st rfl (st_geq rfl rfl) ?_
         refine t_st rfl (st_pick_f rfl rfl) ?_
         refine t_nil ?_
         obtain rfl := some1 hm
         exact x_join (e' := [(0, .slice A1 (l4).length c2), (1, .int .i64 (x5)), (2, .slice A6 (l9).length c7), (7, .pointer (some ⟨g271, 0, none⟩)), (10, .slice A287 (l281).length c288), (14, .func (.func 33) #[] #[]), (75, .bool (decide (4 ≤ (l9.length : Int))))]) (hp' := (g271, Cl 40 [.int .i64 (s10.Place), .int .i64 (s10.Long), .int .i64 (s10.Limit)]) :: (hs289 ++ R)) ⟨rfl, rfl, rfl, rfl, rfl, rfl, rfl, trivial⟩ (.cons_cons _ (sub_app hs289 (.refl _))) ⟨rfl, rfl, (Base.Le.refl _)⟩
       ·
        rintro b324 _ _ ⟨rfl, rfl, hle325⟩
        have hm := hk327
        refine c_cond _ rfl (fun hc329 => ?_) (fun hc329 => ?_)
        ·
         rw [if_pos hc329] at hm
         refine c_seq ?_
         refine c_region ?_
         refine t_st rfl (st_assign rfl) ?_
         refine t_nil ?_
         refine x_then_normal ?_
         refine c_ret ?_
         refine x_then_ret ?_
         obtain rfl := some1 hm
         exact retM (rs := [.tmp 8]) [.bool (true)] (hle284.trans (hle299.trans (hle312.trans hle325))) (by decide) rfl ⟨rfl, trivial⟩ rfl (hp' := R) (.cons _ (sub_skip hs289 (.refl _))) ⟨rfl, rfl⟩
        ·
         rw [if_neg (fun hh => Bool.noConfusion (hh.symm.trans hc329))] at hm
         refine c_skip ?_
         refine x_then_normal ?_
         obtain ⟨⟨x425, l426⟩, hj427, hk427⟩ := bindS hm
         refine c_join (fun b418 e' hp' => ∃ (A422 : Option Addr), ∃ (c423 : Nat), ∃ (hs421 : Hp), [(10, .slice A287 (l281).length c288), (11, .int .i64 (x425)), (14, .func (.func 33) #[] #[]), (16, .slice A422 (l426).length c423)] = e' ∧ (hs289 ++ (hs421 ++ R)) = hp' ∧ b324.Le b418 ∧ OS 45 (OT.fr (RT.list (RT.int .i64))) b418.w (.slice A422 l426.length c423) l426 hs421) ?_ ?_
         ·
          have hm := hj427
          obtain ⟨l472, hcl473, hm⟩ := bindS hm
          obtain ⟨x480, h481, hm⟩ := bindS hm
          obtain ⟨_, h491, hm⟩ := bindS hm
          obtain ⟨⟨l501, z502, x503, l504⟩, hcl505, hm⟩ := bindS hm
          have hm := (unc4E hm)
          refine D_drawS ((g271, Cl 40 [.int .i64 (s10.Place), .int .i64 (s10.Long), .int .i64 (s10.Limit)]) :: (hs289 ++ R)) mixed ?_
          refine E_in (.cons_cons _ (sub_app hs289 (.refl _))) ?_
          refine E_st 0 rfl (st_move rfl) ?_
          refine E_st 1 rfl (st_move rfl) ?_
          refine E_st 2 rfl (st_move rfl) ?_
          refine E_st 4 rfl (st_move rfl) ?_
          obtain ⟨j482, hj483, hx484⟩ := idx_some h481
          obtain ⟨cs485, hr486, hcs487, hA488, hlt489⟩ := FZ.get (sz := 2) rfl (by decide) (h8.le (hle284.trans (hle299.trans (hle312.trans hle325)))) hx484
          obtain ⟨_, _, rfl, rfl, rfl⟩ := hr486
          refine E_st 5 rfl (st_index_old j482 rfl rfl hj483 hlt489 hA488 sl38) ?_
          refine E_st 6 rfl (st_loadN_old (vs := [.int .i64 (x480.Home), .int .i64 (x480.Km)]) 2 rfl agg47 hA488 rfl (fun j u hu => hcs487 j u hu)) ?_
          refine E_st 9 rfl (st_loadD (vs := [_, _, _]) 0 3 rfl agg40 rfl rfl rfl) ?_
          refine E_out ?_
          refine D_all [3, 7] (by kernel_rfl) rfl ?_
          refine R_callGl (Base.Le.refl _) rfl rfl _ call35 rfl (cSlicesClone_3 _ _ l9 A6 c7 (h8.le (hle284.trans (hle299.trans (hle312.trans hle325)))) l472 hcl473) ?_ ?_
          ·
           rintro _ b474 _ hle475 ⟨A476, c477, hs478, rfl, rfl, h479⟩
           refine ⟨.inr (sub_skip hs478 (.cons_cons _ (sub_app hs289 (.refl _)))), ?_⟩
           refine d_in1 [] [_] hs478 (hs289 ++ R) rfl ?_
           refine D_all [7] (by kernel_rfl) rfl ?_
           refine R_do hle475 rfl rfl (u_bslice (el := 47) [(0, .agg #[.int .i64 (x480.Home), .int .i64 (x480.Km)])] [.int .i64 (x480.Home), .int .i64 (x480.Km)] rfl (fun _ => by kernel_rfl)) ?_ ?_
           ·
            rintro _ _ ⟨g490, rfl, rfl⟩
            refine ⟨.inr (.cons _ (.cons_cons _ (sub_skip hs478 (sub_app hs289 (.refl _))))), ?_⟩
            have h491 := room_some h491
            refine D_all [8] (by kernel_rfl) rfl ?_
            refine R_do hle475 rfl rfl (u_appOS (r := rFleetSet) (l := l472) [_, _] (hs289 ++ R) [[.int .i64 (x480.Home), .int .i64 (x480.Km)]] [x480] rfl (by decide) sl38 inf47 rfl rfl rfl rfl h479 rfl (fun w ho => Rd.own (i := 0) ho rfl) ⟨⟨[.int .i64 (x480.Home)], _, rfl, rfl, rfl⟩, trivial⟩ h491) ?_ ?_
            ·
             rintro _ _ ⟨hs492, rfl, h493⟩
             obtain ⟨A494, c495, rfl, _⟩ := h493.form
             refine ⟨.inr (.cons _ (.cons_cons _ (sub_skip hs492 (sub_app hs289 (.refl _))))), ?_⟩
             have hnz496 : (A494 = none ↔ l472 ++ [x480] = []) := (OS.nz h493 (by simp))
             refine d_frz [_, _] hs492 (hs289 ++ R) rfl ?_
             intro b497 hle498 hz499
             have h500 := OS.frz (l := l472 ++ [x480]) h493 hle498.cells hz499
             refine D_all [10] (by kernel_rfl) rfl ?_
             refine R_callGl (hle475.trans hle498) rfl rfl _ call32 rfl (cFleetAssign _ _ l4 x5 (l472 ++ [x480]) s10 A1 c2 A494 c495 (h3.le (hle284.trans (hle299.trans (hle312.trans (hle325.trans (hle475.trans hle498)))))) h500 l501 z502 x503 l504 hcl505) ?_ ?_
             ·
              rintro _ b506 _ hle507 ⟨A508, c509, A510, c511, hs512, rfl, rfl, h513, h514, h515⟩
              refine ⟨.inr (sub_skip hs512 (.cons _ (.cons_cons _ (sub_app hs289 (.refl _))))), ?_⟩
              refine d_in1 [] [_, _] hs512 (hs289 ++ R) rfl ?_
              refine D_st (hle475.trans (hle498.trans hle507)) 11 rfl (by kernel_rfl) (by kernel_rfl) (by kernel_rfl) rfl (st_move rfl) (.cons _ (.cons_cons _ (sub_skip hs512 (sub_app hs289 (.refl _))))) ?_
              refine D_st (hle475.trans (hle498.trans hle507)) 12 rfl (by kernel_rfl) (by kernel_rfl) (by kernel_rfl) rfl (st_extract rfl rfl) (.cons _ (.cons_cons _ (sub_skip hs512 (sub_app hs289 (.refl _))))) ?_
              refine D_st (hle475.trans (hle498.trans hle507)) 13 rfl (by kernel_rfl) (by kernel_rfl) (by kernel_rfl) rfl (st_extract rfl rfl) (.cons _ (.cons_cons _ (sub_skip hs512 (sub_app hs289 (.refl _))))) ?_
              refine D_st (hle475.trans (hle498.trans hle507)) 14 rfl (by kernel_rfl) (by kernel_rfl) (by kernel_rfl) rfl (st_extract rfl rfl) (.cons _ (.cons_cons _ (sub_skip hs512 (sub_app hs289 (.refl _))))) ?_
              refine D_st (hle475.trans (hle498.trans hle507)) 15 rfl (by kernel_rfl) (by kernel_rfl) (by kernel_rfl) rfl (st_assign rfl) (.cons _ (.cons_cons _ (sub_skip hs512 (sub_app hs289 (.refl _))))) ?_
              refine D_st (hle475.trans (hle498.trans hle507)) 16 rfl (by kernel_rfl) (by kernel_rfl) (by kernel_rfl) rfl (st_assign rfl) (.cons _ (.cons_cons _ (sub_skip hs512 (sub_app hs289 (.refl _))))) ?_
              refine D_st (hle475.trans (hle498.trans hle507)) 17 rfl (by kernel_rfl) (by kernel_rfl) (by kernel_rfl) rfl (st_assign rfl) (.cons _ (.cons_cons _ (sub_skip hs512 (sub_app hs289 (.refl _))))) ?_
              refine D_done (by kernel_rfl) ?_
              obtain ⟨rfl, rfl⟩ := some2 hm
              refine x_front2 [_, _] hs512 hs289 R rfl ?_
              exact x_join (e' := [(10, .slice A287 (l281).length c288), (11, .int .i64 (x503)), (14, .func (.func 33) #[] #[]), (16, .slice A510 (l504).length c511)]) (hp' := (hs289 ++ (hs512 ++ R))) ⟨rfl, rfl, rfl, rfl, trivial⟩ (.cons _ (.cons _ (sub_app hs289 (sub_app hs512 (.refl _))))) ⟨A510, c511, hs512, rfl, rfl, (hle475.trans (hle498.trans hle507)), h515⟩
             exact R_nil
            exact R_nil
           exact R_nil
          refine R_do (Base.Le.refl _) rfl rfl (u_bslice (el := 47) [(0, .agg #[.int .i64 (x480.Home), .int .i64 (x480.Km)])] [.int .i64 (x480.Home), .int .i64 (x480.Km)] rfl (fun _ => by kernel_rfl)) ?_ ?_
          ·
           rintro _ _ ⟨g490, rfl, rfl⟩
           refine ⟨.inr (.cons _ (.cons_cons _ (sub_app hs289 (.refl _)))), ?_⟩
           refine D_all [3] (by kernel_rfl) rfl ?_
           refine R_callGl (Base.Le.refl _) rfl rfl _ call35 rfl (cSlicesClone_3 _ _ l9 A6 c7 (h8.le (hle284.trans (hle299.trans (hle312.trans hle325)))) l472 hcl473) ?_ ?_
           ·
            rintro _ b474 _ hle475 ⟨A476, c477, hs478, rfl, rfl, h479⟩
            refine ⟨.inr (sub_skip hs478 (.cons _ (.cons_cons _ (sub_app hs289 (.refl _))))), ?_⟩
            refine d_in1 [] [_, _] hs478 (hs289 ++ R) rfl ?_
            have h491 := room_some h491
            refine D_all [8] (by kernel_rfl) rfl ?_
            refine R_do hle475 rfl rfl (u_appOS (r := rFleetSet) (l := l472) [_, _] (hs289 ++ R) [[.int .i64 (x480.Home), .int .i64 (x480.Km)]] [x480] rfl (by decide) sl38 inf47 rfl rfl rfl rfl h479 rfl (fun w ho => Rd.own (i := 0) ho rfl) ⟨⟨[.int .i64 (x480.Home)], _, rfl, rfl, rfl⟩, trivial⟩ h491) ?_ ?_
            ·
             rintro _ _ ⟨hs492, rfl, h493⟩
             obtain ⟨A494, c495, rfl, _⟩ := h493.form
             refine ⟨.inr (.cons _ (.cons_cons _ (sub_skip hs492 (sub_app hs289 (.refl _))))), ?_⟩
             have hnz496 : (A494 = none ↔ l472 ++ [x480] = []) := (OS.nz h493 (by simp))
             refine d_frz [_, _] hs492 (hs289 ++ R) rfl ?_
             intro b497 hle498 hz499
             have h500 := OS.frz (l := l472 ++ [x480]) h493 hle498.cells hz499
             refine D_all [10] (by kernel_rfl) rfl ?_
             refine R_callGl (hle475.trans hle498) rfl rfl _ call32 rfl (cFleetAssign _ _ l4 x5 (l472 ++ [x480]) s10 A1 c2 A494 c495 (h3.le (hle284.trans (hle299.trans (hle312.trans (hle325.trans (hle475.trans hle498)))))) h500 l501 z502 x503 l504 hcl505) ?_ ?_
             ·
              rintro _ b506 _ hle507 ⟨A508, c509, A510, c511, hs512, rfl, rfl, h513, h514, h515⟩
              refine ⟨.inr (sub_skip hs512 (.cons _ (.cons_cons _ (sub_app hs289 (.refl _))))), ?_⟩
              refine d_in1 [] [_, _] hs512 (hs289 ++ R) rfl ?_
              refine D_st (hle475.trans (hle498.trans hle507)) 11 rfl (by kernel_rfl) (by kernel_rfl) (by kernel_rfl) rfl (st_move rfl) (.cons _ (.cons_cons _ (sub_skip hs512 (sub_app hs289 (.refl _))))) ?_
              refine D_st (hle475.trans (hle498.trans hle507)) 12 rfl (by kernel_rfl) (by kernel_rfl) (by kernel_rfl) rfl (st_extract rfl rfl) (.cons _ (.cons_cons _ (sub_skip hs512 (sub_app hs289 (.refl _))))) ?_
              refine D_st (hle475.trans (hle498.trans hle507)) 13 rfl (by kernel_rfl) (by kernel_rfl) (by kernel_rfl) rfl (st_extract rfl rfl) (.cons _ (.cons_cons _ (sub_skip hs512 (sub_app hs289 (.refl _))))) ?_
              refine D_st (hle475.trans (hle498.trans hle507)) 14 rfl (by kernel_rfl) (by kernel_rfl) (by kernel_rfl) rfl (st_extract rfl rfl) (.cons _ (.cons_cons _ (sub_skip hs512 (sub_app hs289 (.refl _))))) ?_
              refine D_st (hle475.trans (hle498.trans hle507)) 15 rfl (by kernel_rfl) (by kernel_rfl) (by kernel_rfl) rfl (st_assign rfl) (.cons _ (.cons_cons _ (sub_skip hs512 (sub_app hs289 (.refl _))))) ?_
              refine D_st (hle475.trans (hle498.trans hle507)) 16 rfl (by kernel_rfl) (by kernel_rfl) (by kernel_rfl) rfl (st_assign rfl) (.cons _ (.cons_cons _ (sub_skip hs512 (sub_app hs289 (.refl _))))) ?_
              refine D_st (hle475.trans (hle498.trans hle507)) 17 rfl (by kernel_rfl) (by kernel_rfl) (by kernel_rfl) rfl (st_assign rfl) (.cons _ (.cons_cons _ (sub_skip hs512 (sub_app hs289 (.refl _))))) ?_
              refine D_done (by kernel_rfl) ?_
              obtain ⟨rfl, rfl⟩ := some2 hm
              refine x_front2 [_, _] hs512 hs289 R rfl ?_
              exact x_join (e' := [(10, .slice A287 (l281).length c288), (11, .int .i64 (x503)), (14, .func (.func 33) #[] #[]), (16, .slice A510 (l504).length c511)]) (hp' := (hs289 ++ (hs512 ++ R))) ⟨rfl, rfl, rfl, rfl, trivial⟩ (.cons _ (.cons _ (sub_app hs289 (sub_app hs512 (.refl _))))) ⟨A510, c511, hs512, rfl, rfl, (hle475.trans (hle498.trans hle507)), h515⟩
             exact R_nil
            exact R_nil
           exact R_nil
          exact R_nil
         ·
          rintro b418 _ _ ⟨A422, c423, hs421, rfl, rfl, hle419, h424⟩
          have hm := (unc2E hk427)
          obtain ⟨x523, hj524, hk524⟩ := bindS hm
          refine c_join (fun b521 e' hp' => [(8, .bool (x523))] = e' ∧ R = hp' ∧ b418.Le b521) ?_ ?_
          ·
           have hm := hj524
           refine c_region ?_
           refine t_st rfl (st_move rfl) ?_
           refine t_bool rfl (st_eql rfl rfl) (fun hc525 => ?_) (fun hc525 => ?_)
           ·
            rw [if_pos hc525] at hm
            refine t_st rfl (st_move rfl) ?_
            refine t_yes 93 rfl rfl rfl ?_
            refine t_st rfl (st_move rfl) ?_
            refine t_yes 93 rfl rfl rfl ?_
            refine t_st rfl (st_move rfl) ?_
            refine t_yes 93 rfl rfl rfl ?_
            obtain ⟨x526, hcl527, hm⟩ := bindS hm
            refine t_do rfl (u_callvW0 #[] #[] [.slice A422 (l426).length c423] rfl call33 rfl (fun w ho => cFishkeep2FleetAssigned_1 _ [] l426 A422 c423 (OS.now (o := (OT.fr (RT.list (RT.int .i64)))) (l := l426) (hs := hs421) h424 ho (sub_skip hs289 (List.sublist_append_left _ _))) x526 hcl527) (fun _ _ _ h => h.2.symm)) ?_
            rintro _ _ ⟨⟨_, rfl, _⟩, rfl⟩
            refine t_yes 93 rfl rfl rfl ?_
            refine t_st rfl (st_move rfl) ?_
            refine t_yes 93 rfl rfl rfl ?_
            refine t_st rfl (st_move rfl) ?_
            refine t_yes 93 rfl rfl rfl ?_
            obtain ⟨x528, hcl529, hm⟩ := bindS hm
            refine t_do rfl (u_callvW0 #[] #[] [.slice A287 (l281).length c288] rfl call33 rfl (fun w ho => cFishkeep2FleetAssigned_1 _ [] l281 A287 c288 (OS.now (o := (OT.fr (RT.list (RT.int .i64)))) (l := l281) (hs := hs289) (h292.le (hle299.trans (hle312.trans (hle325.trans hle419)))) ho (List.sublist_append_left _ _)) x528 hcl529) (fun _ _ _ h => h.2.symm)) ?_
            rintro _ _ ⟨⟨_, rfl, _⟩, rfl⟩
            refine t_yes 93 rfl rfl rfl ?_
            refine t_st rfl (st_leq rfl rfl) ?_
            refine t_st rfl (st_pick_t rfl rfl) ?_
            refine t_st rfl (st_assign rfl) ?_
            refine t_nil ?_
            obtain rfl := some1 hm
            exact x_join (e' := [(8, .bool (decide (x526 ≤ x528)))]) (hp' := R) ⟨rfl, trivial⟩ (sub_skip hs289 (sub_skip hs421 (.refl _))) ⟨rfl, rfl, (Base.Le.refl _)⟩
           ·
            rw [if_neg hc525] at hm
            refine t_st rfl (st_move rfl) ?_
            refine t_no 93 rfl rfl rfl rfl rfl ?_
            refine t_no 93 rfl rfl rfl rfl rfl ?_
            refine t_no 93 rfl rfl rfl rfl rfl ?_
            refine t_no 93 rfl rfl rfl rfl rfl ?_
            refine t_no 93 rfl rfl rfl rfl rfl ?_
            refine t_no 93 rfl rfl rfl rfl rfl ?_
            refine t_no 93 rfl rfl rfl rfl rfl ?_
            refine t_st rfl (st_pick_f rfl rfl) ?_
            refine t_st rfl (st_assign rfl) ?_
            refine t_nil ?_
            obtain rfl := some1 hm
            exact x_join (e' := [(8, .bool (false))]) (hp' := R) ⟨rfl, trivial⟩ (sub_skip hs289 (sub_skip hs421 (.refl _))) ⟨rfl, rfl, (Base.Le.refl _)⟩
          ·
           rintro b521 _ _ ⟨rfl, rfl, hle522⟩
           have hm := hk524
           refine c_ret ?_
           obtain rfl := some1 hm
           exact retM (rs := [.tmp 8]) [.bool (x523)] (hle284.trans (hle299.trans (hle312.trans (hle325.trans (hle419.trans hle522))))) (by decide) rfl ⟨rfl, trivial⟩ rfl (hp' := R) (.refl _) ⟨rfl, rfl⟩

end Go.Proofs.Ytajmocgpjkhjlaa
