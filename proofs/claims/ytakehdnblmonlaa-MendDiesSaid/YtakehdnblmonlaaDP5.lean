/- Contracts: the code computes its model (part 5). -/
import Derived.Test.YtakehdnblmonlaaDP4
set_option linter.unusedVariables false
set_option linter.unusedSimpArgs false
namespace Go.Proofs.Ytakehdnblmonlaa
open Go.RowKit Go.Fp

set_option maxRecDepth 20000 in
theorem cMendRoundMean_1_2 : ∀ (N : Nat) (b : Base) (R : Hp) (x21 : Int) (x22 : Int) (x23 : Int) (x24 : Int) (x25 : Int) (l29 : (List Int)) (l33 : (List MendLink)) (x34 : Int) (x35 : Int) (l36 : (List Bool)) (l37 : (List Int)) (l39 : (List Int)) (g16 : Nat) (g17 : Nat) (g18 : Nat) (g19 : Nat) (g20 : Nat) (A26 : Option Addr) (c27 : Nat) (A30 : Option Addr) (c31 : Nat) (A3 : Option Addr) (c4 : Nat) (hs2 : Hp) (A8 : Option Addr) (c9 : Nat) (hs7 : Hp) (A13 : Option Addr) (c14 : Nat) (hs12 : Hp) (h28 : FZ (RT.int .i64) b.w A26 c27 l29) (h32 : FZ rMendLink b.w A30 c31 l33) (h5 : OS 4 (OT.fr RT.bool) b.w (.slice A3 l36.length c4) l36 hs2) (h10 : OS 3 (OT.fr (RT.int .i64)) b.w (.slice A8 l37.length c9) l37 hs7) (hnz38 : (A8 = none ↔ l37 = [])) (h15 : OS 3 (OT.fr (RT.int .i64)) b.w (.slice A13 l39.length c14) l39 hs12) (hnz40 : (A13 = none ↔ l39 = [])) (x1911 : Int) (x1912 : Int) (l1913 : (List Bool)) (l1915 : (List Int)) (hm : mMendRoundMean_1_2 N x21 x22 x23 x24 x25 l29 l33 x34 x35 l36 l37 l39 = some (x1911, x1912, l1913, l1915)),
    CallsG Try.prog 72 [.int .i64 (x21), .int .i64 (x22), .slice A3 (l36).length c4, .slice A8 (l37).length c9, .int .i64 (x23), .int .i64 (x24), .pointer (some ⟨g16, 0, none⟩), .pointer (some ⟨g17, 0, none⟩), .pointer (some ⟨g18, 0, none⟩), .pointer (some ⟨g19, 0, none⟩), .pointer (some ⟨g20, 0, none⟩)] b ((g16, Cl 54 [.int .i64 (x25), .slice A26 (l29).length c27, .slice A30 (l33).length c31]) :: (g17, Cl 22 [.slice A13 (l39).length c14]) :: (g18, Cl 3 [.int .i64 (x34)]) :: (g19, Cl 3 [.int .i64 (x35)]) :: (g20, Cl 116 [.func (.func 72) #[] #[.pointer (some ⟨g16, 0, none⟩), .pointer (some ⟨g17, 0, none⟩), .pointer (some ⟨g18, 0, none⟩), .pointer (some ⟨g19, 0, none⟩), .pointer (some ⟨g20, 0, none⟩)]]) :: (hs2 ++ (hs7 ++ (hs12 ++ R)))) (fun v b' hp' => ∃ (hs1904 : Hp), ∃ (A1908 : Option Addr), ∃ (c1909 : Nat), ∃ (hs1907 : Hp), ∃ (hs1917 : Hp), .tuple #[] = v ∧ (g16, Cl 54 [.int .i64 (x25), .slice A26 (l29).length c27, .slice A30 (l33).length c31]) :: (g17, Cl 22 [.slice A1908 (l1915).length c1909]) :: (g18, Cl 3 [.int .i64 (x1911)]) :: (g19, Cl 3 [.int .i64 (x1912)]) :: (g20, Cl 116 [.func (.func 72) #[] #[.pointer (some ⟨g16, 0, none⟩), .pointer (some ⟨g17, 0, none⟩), .pointer (some ⟨g18, 0, none⟩), .pointer (some ⟨g19, 0, none⟩), .pointer (some ⟨g20, 0, none⟩)]]) :: (hs1904 ++ (hs1917 ++ (hs1907 ++ R))) = hp' ∧ OS 4 (OT.fr RT.bool) b'.w (.slice A3 l1913.length c4) l1913 hs1904 ∧ l1913.length = l36.length ∧ OS 3 (OT.fr (RT.int .i64)) b'.w (.slice A1908 l1915.length c1909) l1915 hs1907 ∧ (A1908 = none ↔ l1915 = []) ∧ OS 3 (OT.fr (RT.int .i64)) b'.w (.slice A8 l37.length c9) l37 hs1917) := by
  intro N
  induction N with
  | zero =>
    intro b R x21 x22 x23 x24 x25 l29 l33 x34 x35 l36 l37 l39 g16 g17 g18 g19 g20 A26 c27 A30 c31 A3 c4 hs2 A8 c9 hs7 A13 c14 hs12 h28 h32 h5 h10 hnz38 h15 hnz40 x1911 x1912 l1913 l1915 hm
    unfold mMendRoundMean_1_2 at hm
    cases hm
  | succ N ih =>
    intro b R x21 x22 x23 x24 x25 l29 l33 x34 x35 l36 l37 l39 g16 g17 g18 g19 g20 A26 c27 A30 c31 A3 c4 hs2 A8 c9 hs7 A13 c14 hs12 h28 h32 h5 h10 hnz38 h15 hnz40 x1911 x1912 l1913 l1915 hm
    refine fn_enterG 102 Try.func72 rfl Try.ntmps72 rfl ?_
    unfold mMendRoundMean_1_2 at hm
    refine c_sr ?_
    refine t_st rfl (st_field rfl fld54_2) ?_
    refine t_st rfl (st_load 0 rfl one52 rfl rfl) ?_
    refine t_st rfl (st_len rfl sl52) ?_
    refine t_mv rfl rfl ?_
    refine t_ne ?_
    refine c_block ?_
    have hb1920 : l33.length ≤ 9223372036854775807 := (FZ.bd h32)
    refine c_pullb 4 rfl ?_
    refine c_pullb 4 rfl ?_
    refine c_pullb 4 rfl ?_
    refine c_pullb 4 rfl ?_
    refine c_front3 [_, _, _, _, _] hs2 hs7 hs12 R rfl ?_
    refine c_front3 [_, _, _, _, _] hs12 hs2 hs7 R rfl ?_
    refine c_front3 [_, _, _, _, _] hs7 hs12 hs2 R rfl ?_
    obtain ⟨⟨x2451, x2452, l2453, l2455⟩, hl2460, hk2461⟩ := bindS hm
    refine c_forS (fun k2459 => unc4 fun x2451 x2452 l2453 l2455 => fun b2441 e' hp' => ∃ (hs2444 : Hp), ∃ (A2448 : Option Addr), ∃ (c2449 : Nat), ∃ (hs2447 : Hp), ∃ (hs2457 : Hp), [(0, .int .i64 (x21)), (1, .int .i64 (x22)), (2, .slice A3 (l2453).length c4), (3, .slice A8 (l37).length c9), (4, .int .i64 (x23)), (5, .int .i64 (x24)), (7, .pointer (some ⟨g17, 0, none⟩)), (8, .pointer (some ⟨g18, 0, none⟩)), (9, .pointer (some ⟨g19, 0, none⟩)), (10, .pointer (some ⟨g20, 0, none⟩)), (22, .slice A30 (l33).length c31), (23, .int .i64 ((l33.length : Int))), (24, .int .i64 ((k2459 : Int)))] = e' ∧ (g17, Cl 22 [.slice A2448 (l2455).length c2449]) :: (g18, Cl 3 [.int .i64 (x2451)]) :: (g19, Cl 3 [.int .i64 (x2452)]) :: (g20, Cl 116 [.func (.func 72) #[] #[.pointer (some ⟨g16, 0, none⟩), .pointer (some ⟨g17, 0, none⟩), .pointer (some ⟨g18, 0, none⟩), .pointer (some ⟨g19, 0, none⟩), .pointer (some ⟨g20, 0, none⟩)]]) :: (g16, Cl 54 [.int .i64 (x25), .slice A26 (l29).length c27, .slice A30 (l33).length c31]) :: (hs2444 ++ (hs2457 ++ (hs2447 ++ R))) = hp' ∧ b.Le b2441 ∧ OS 4 (OT.fr RT.bool) b2441.w (.slice A3 l2453.length c4) l2453 hs2444 ∧ l2453.length = l36.length ∧ OS 3 (OT.fr (RT.int .i64)) b2441.w (.slice A2448 l2455.length c2449) l2455 hs2447 ∧ (A2448 = none ↔ l2455 = []) ∧ OS 3 (OT.fr (RT.int .i64)) b2441.w (.slice A8 l37.length c9) l37 hs2457) hl2460 (e' := [(0, .int .i64 (x21)), (1, .int .i64 (x22)), (2, .slice A3 (l36).length c4), (3, .slice A8 (l37).length c9), (4, .int .i64 (x23)), (5, .int .i64 (x24)), (7, .pointer (some ⟨g17, 0, none⟩)), (8, .pointer (some ⟨g18, 0, none⟩)), (9, .pointer (some ⟨g19, 0, none⟩)), (10, .pointer (some ⟨g20, 0, none⟩)), (22, .slice A30 (l33).length c31), (23, .int .i64 ((l33.length : Int))), (24, .int .i64 0)]) ⟨rfl, rfl, rfl, rfl, rfl, rfl, rfl, rfl, rfl, rfl, rfl, rfl, rfl, trivial⟩ (.refl _) ⟨hs2, A13, c14, hs12, hs7, rfl, rfl, (Base.Le.refl _), h5, rfl, h15, hnz40, h10⟩ ?_ ?_
    ·
     rintro k2459 ⟨x2451, x2452, l2453, l2455⟩ b2441 _ _ oL1919 hknL1919 ⟨hs2444, A2448, c2449, hs2447, hs2457, rfl, rfl, hle2442, h2445, hln2454, h2450, hnz2456, h2458⟩ hstepL1919
     unfold mMendRoundMean_1_2_L1919 at hstepL1919
     have hm := (unc4E hstepL1919)
     refine c_sr ?_
     refine t_st rfl (st_lss_t rfl rfl (by omega)) ?_
     refine t_ne ?_
     refine c_seq ?_
     refine c_cond_t rfl ?_
     refine c_skip ?_
     refine x_then_normal ?_
     refine c_seq ?_
     refine c_block ?_
     refine c_sr ?_
     refine t_mv rfl rfl ?_
     obtain ⟨x2462, h2463, hm⟩ := bindS hm
     obtain ⟨j2464, hj2465, hx2466⟩ := idx_some h2463
     obtain ⟨cs2467, hr2468, hcs2469, hA2470, hlt2471⟩ := FZ.get (sz := 4) rfl (by decide) (h32.le hle2442) hx2466
     obtain ⟨_, _, rfl, rfl, ⟨_, _, rfl, rfl, ⟨_, _, rfl, rfl, rfl⟩⟩⟩ := hr2468
     refine t_st rfl (st_index_old j2464 rfl rfl hj2465 hlt2471 hA2470 sl52) ?_
     refine t_st rfl (st_loadN_old (vs := [.int .i64 (x2462.From), .int .i64 (x2462.To), .int .i64 (x2462.Len), .int .i64 (x2462.Back)]) 4 rfl agg83 hA2470 rfl (fun j u hu => hcs2469 j u hu)) ?_
     refine t_do rfl (u_alloc [.int .i64 0, .int .i64 0, .int .i64 0, .int .i64 0] zero83 rfl) ?_
     rintro _ _ ⟨g2472, rfl, rfl⟩
     refine t_as rfl rfl ?_
     refine t_do rfl (u_storeN (vs := [_, _, _, _]) 0 4 rfl rfl rfl siz83 rfl (mem_c rfl (mem_c rfl (mem_c rfl (mem_c rfl mem_n)))) rfl (by simp)) ?_
     rintro _ _ rfl
     refine t_ne ?_
     refine c_seq ?_
     obtain ⟨x2476, hj2477, hk2477⟩ := bindS hm
     refine c_join (fun b2474 e' hp' => [(0, .int .i64 (x21)), (1, .int .i64 (x22)), (2, .slice A3 (l2453).length c4), (3, .slice A8 (l37).length c9), (4, .int .i64 (x23)), (5, .int .i64 (x24)), (7, .pointer (some ⟨g17, 0, none⟩)), (8, .pointer (some ⟨g18, 0, none⟩)), (9, .pointer (some ⟨g19, 0, none⟩)), (10, .pointer (some ⟨g20, 0, none⟩)), (17, .int .i64 ((k2459 : Int))), (18, .pointer (some ⟨g2472, 0, none⟩)), (22, .slice A30 (l33).length c31), (23, .int .i64 ((l33.length : Int))), (24, .int .i64 ((k2459 : Int))), (38, .bool (x2476))] = e' ∧ (g17, Cl 22 [.slice A2448 (l2455).length c2449]) :: (g18, Cl 3 [.int .i64 (x2451)]) :: (g19, Cl 3 [.int .i64 (x2452)]) :: (g20, Cl 116 [.func (.func 72) #[] #[.pointer (some ⟨g16, 0, none⟩), .pointer (some ⟨g17, 0, none⟩), .pointer (some ⟨g18, 0, none⟩), .pointer (some ⟨g19, 0, none⟩), .pointer (some ⟨g20, 0, none⟩)]]) :: (g2472, Cl 83 [.int .i64 (x2462.From), .int .i64 (x2462.To), .int .i64 (x2462.Len), .int .i64 (x2462.Back)]) :: (g16, Cl 54 [.int .i64 (x25), .slice A26 (l29).length c27, .slice A30 (l33).length c31]) :: (hs2444 ++ (hs2457 ++ (hs2447 ++ R))) = hp' ∧ b2441.Le b2474) ?_ ?_
     ·
      have hm := hj2477
      refine c_region ?_
      refine t_st rfl (st_field rfl fld83_0) ?_
      refine t_st rfl (st_load 0 rfl one3 rfl rfl) ?_
      refine t_mv rfl rfl ?_
      refine t_bool rfl (st_neq rfl rfl) (fun hc2478 => ?_) (fun hc2478 => ?_)
      ·
       rw [if_pos hc2478] at hm
       refine t_mv rfl rfl ?_
       refine t_no 33 rfl rfl rfl rfl rfl ?_
       refine t_no 33 rfl rfl rfl rfl rfl ?_
       refine t_no 33 rfl rfl rfl rfl rfl ?_
       refine t_no 33 rfl rfl rfl rfl rfl ?_
       refine t_st rfl (st_pick_t rfl rfl) ?_
       refine t_nil ?_
       obtain rfl := some1 hm
       refine x_pullb 5 rfl ?_
       refine x_pullb 1 rfl ?_
       refine x_pullb 5 rfl ?_
       refine x_pullb 5 rfl ?_
       refine x_pullb 5 rfl ?_
       refine x_pullb 5 rfl ?_
       refine x_front3 [_, _, _, _, _, _] hs2444 hs2457 hs2447 R rfl ?_
       refine x_front3 [_, _, _, _, _, _] hs2447 hs2444 hs2457 R rfl ?_
       refine x_front3 [_, _, _, _, _, _] hs2457 hs2447 hs2444 R rfl ?_
       exact x_join (e' := [(0, .int .i64 (x21)), (1, .int .i64 (x22)), (2, .slice A3 (l2453).length c4), (3, .slice A8 (l37).length c9), (4, .int .i64 (x23)), (5, .int .i64 (x24)), (7, .pointer (some ⟨g17, 0, none⟩)), (8, .pointer (some ⟨g18, 0, none⟩)), (9, .pointer (some ⟨g19, 0, none⟩)), (10, .pointer (some ⟨g20, 0, none⟩)), (17, .int .i64 ((k2459 : Int))), (18, .pointer (some ⟨g2472, 0, none⟩)), (22, .slice A30 (l33).length c31), (23, .int .i64 ((l33.length : Int))), (24, .int .i64 ((k2459 : Int))), (38, .bool (true))]) ⟨rfl, rfl, rfl, rfl, rfl, rfl, rfl, rfl, rfl, rfl, rfl, rfl, rfl, rfl, rfl, rfl, trivial⟩ (.refl _) ⟨rfl, rfl, (Base.Le.refl _)⟩
      ·
       rw [if_neg hc2478] at hm
       refine t_mv rfl rfl ?_
       refine t_yes 33 rfl rfl rfl ?_
       refine t_st rfl (st_field rfl fld83_1) ?_
       refine t_yes 33 rfl rfl rfl ?_
       refine t_st rfl (st_load 0 rfl one3 rfl rfl) ?_
       refine t_yes 33 rfl rfl rfl ?_
       refine t_mv rfl rfl ?_
       refine t_yes 33 rfl rfl rfl ?_
       refine t_st rfl (st_lss rfl rfl) ?_
       refine t_st rfl (st_pick_f rfl rfl) ?_
       refine t_nil ?_
       obtain rfl := some1 hm
       refine x_pullb 5 rfl ?_
       refine x_pullb 1 rfl ?_
       refine x_pullb 5 rfl ?_
       refine x_pullb 5 rfl ?_
       refine x_pullb 5 rfl ?_
       refine x_pullb 5 rfl ?_
       refine x_front3 [_, _, _, _, _, _] hs2444 hs2457 hs2447 R rfl ?_
       refine x_front3 [_, _, _, _, _, _] hs2447 hs2444 hs2457 R rfl ?_
       refine x_front3 [_, _, _, _, _, _] hs2457 hs2447 hs2444 R rfl ?_
       exact x_join (e' := [(0, .int .i64 (x21)), (1, .int .i64 (x22)), (2, .slice A3 (l2453).length c4), (3, .slice A8 (l37).length c9), (4, .int .i64 (x23)), (5, .int .i64 (x24)), (7, .pointer (some ⟨g17, 0, none⟩)), (8, .pointer (some ⟨g18, 0, none⟩)), (9, .pointer (some ⟨g19, 0, none⟩)), (10, .pointer (some ⟨g20, 0, none⟩)), (17, .int .i64 ((k2459 : Int))), (18, .pointer (some ⟨g2472, 0, none⟩)), (22, .slice A30 (l33).length c31), (23, .int .i64 ((l33.length : Int))), (24, .int .i64 ((k2459 : Int))), (38, .bool (decide (x2462.To < x21)))]) ⟨rfl, rfl, rfl, rfl, rfl, rfl, rfl, rfl, rfl, rfl, rfl, rfl, rfl, rfl, rfl, rfl, trivial⟩ (.refl _) ⟨rfl, rfl, (Base.Le.refl _)⟩
     ·
      rintro b2474 _ _ ⟨rfl, rfl, hle2475⟩
      have hm := hk2477
      refine c_cond _ rfl (fun hc2479 => ?_) (fun hc2479 => ?_)
      ·
       rw [if_pos hc2479] at hm
       refine c_exit ?_
       refine x_then_exit ?_
       refine x_block_out ?_
       refine x_then_normal ?_
       refine c_region ?_
       refine t_st rfl (st_add rfl rfl (by omega)) ?_
       refine t_mv rfl rfl ?_
       refine t_nil ?_
       refine x_pullb 5 rfl ?_
       refine x_pullb 4 rfl ?_
       refine x_pullb 4 rfl ?_
       refine x_pullb 4 rfl ?_
       refine x_pullb 4 rfl ?_
       refine x_front3 [_, _, _, _, _, _] hs2444 hs2457 hs2447 R rfl ?_
       refine x_front3 [_, _, _, _, _, _] hs2447 hs2444 hs2457 R rfl ?_
       refine x_front3 [_, _, _, _, _, _] hs2457 hs2447 hs2444 R rfl ?_
       obtain rfl := some1 hm
       exact x_againS (e' := [(0, .int .i64 (x21)), (1, .int .i64 (x22)), (2, .slice A3 (l2453).length c4), (3, .slice A8 (l37).length c9), (4, .int .i64 (x23)), (5, .int .i64 (x24)), (7, .pointer (some ⟨g17, 0, none⟩)), (8, .pointer (some ⟨g18, 0, none⟩)), (9, .pointer (some ⟨g19, 0, none⟩)), (10, .pointer (some ⟨g20, 0, none⟩)), (22, .slice A30 (l33).length c31), (23, .int .i64 ((l33.length : Int))), (24, .int .i64 ((k2459 : Int) + 1))]) ⟨rfl, rfl, rfl, rfl, rfl, rfl, rfl, rfl, rfl, rfl, rfl, rfl, rfl, trivial⟩ (.cons_cons _ (.cons_cons _ (.cons_cons _ (.cons_cons _ (.cons_cons _ (.cons _ (.refl _))))))) ⟨hs2444, A2448, c2449, hs2447, hs2457, rfl, rfl, ((hle2442.trans hle2475)), (h2445.le hle2475), hln2454, (h2450.le hle2475), hnz2456, (h2458.le hle2475)⟩
      ·
       rw [if_neg (fun hh => Bool.noConfusion (hh.symm.trans hc2479))] at hm
       refine c_skip ?_
       refine x_then_normal ?_
       refine c_sr ?_
       refine t_st rfl (st_field rfl fld83_1) ?_
       refine t_st rfl (st_load 4 rfl one3 rfl rfl) ?_
       refine t_mv rfl rfl ?_
       refine t_st rfl (st_eql rfl rfl) ?_
       refine t_ne ?_
       refine c_cond _ rfl (fun hc2480 => ?_) (fun hc2480 => ?_)
       ·
        rw [if_pos (of_decide_eq_true hc2480)] at hm
        refine c_seq ?_
        obtain ⟨_, h2483, hm⟩ := bindS hm
        obtain ⟨_, h2484, hm⟩ := bindS hm
        refine D_drawI mixed (.refl _) ?_
        refine E_st 0 rfl (st_move rfl) ?_
        refine E_st 1 rfl (st_field rfl fld83_2) ?_
        refine E_st 2 rfl (st_load 4 rfl one3 rfl rfl) ?_
        have h2483 := (chk_some h2483).2
        refine E_st 3 rfl (st_add rfl rfl h2483) ?_
        refine E_st 4 rfl (st_move rfl) ?_
        refine E_st 5 rfl (st_field rfl fld83_3) ?_
        refine E_st 6 rfl (st_load 4 rfl one3 rfl rfl) ?_
        have h2484 := (chk_some h2484).2
        refine E_st 7 rfl (st_add rfl rfl h2484) ?_
        refine E_st 8 rfl (st_assign rfl) ?_
        refine E_st 9 rfl (st_assign rfl) ?_
        refine E_out ?_
        refine D_done (by kernel_rfl) ?_
        refine x_then_normal ?_
        obtain ⟨x2490, hj2491, hk2491⟩ := bindS hm
        refine c_join (fun b2488 e' hp' => [(0, .int .i64 (x21)), (1, .int .i64 (x22)), (2, .slice A3 (l2453).length c4), (3, .slice A8 (l37).length c9), (4, .int .i64 (x23)), (5, .int .i64 (x24)), (7, .pointer (some ⟨g17, 0, none⟩)), (8, .pointer (some ⟨g18, 0, none⟩)), (9, .pointer (some ⟨g19, 0, none⟩)), (10, .pointer (some ⟨g20, 0, none⟩)), (17, .int .i64 ((k2459 : Int))), (19, .int .i64 (x23 + x2462.Len)), (20, .int .i64 (x24 + x2462.Back)), (22, .slice A30 (l33).length c31), (23, .int .i64 ((l33.length : Int))), (24, .int .i64 ((k2459 : Int))), (61, .bool (x2490))] = e' ∧ (g17, Cl 22 [.slice A2448 (l2455).length c2449]) :: (g18, Cl 3 [.int .i64 (x2451)]) :: (g19, Cl 3 [.int .i64 (x2452)]) :: (g20, Cl 116 [.func (.func 72) #[] #[.pointer (some ⟨g16, 0, none⟩), .pointer (some ⟨g17, 0, none⟩), .pointer (some ⟨g18, 0, none⟩), .pointer (some ⟨g19, 0, none⟩), .pointer (some ⟨g20, 0, none⟩)]]) :: (g16, Cl 54 [.int .i64 (x25), .slice A26 (l29).length c27, .slice A30 (l33).length c31]) :: (hs2444 ++ (hs2457 ++ (hs2447 ++ R))) = hp' ∧ b2474.Le b2488) ?_ ?_
        ·
         have hm := hj2491
         refine c_region ?_
         refine t_st rfl (st_load 0 rfl one22 rfl rfl) ?_
         refine t_st rfl (st_eqnil_z rfl rfl hnz2456 sl22) ?_
         rcases Bool.eq_false_or_eq_true l2455.isEmpty with hc2492 | hc2492
         ·
          rw [if_pos hc2492] at hm
          refine t_resp 52 rfl (v' := .bool true) (by rw [hc2492] <;> rfl) ?_
          refine t_mv rfl rfl ?_
          refine t_no 53 rfl rfl rfl rfl rfl ?_
          refine t_no 53 rfl rfl rfl rfl rfl ?_
          refine t_no 53 rfl rfl rfl rfl rfl ?_
          refine t_no 53 rfl rfl rfl rfl rfl ?_
          refine t_no 53 rfl rfl rfl rfl rfl ?_
          refine t_no 53 rfl rfl rfl rfl rfl ?_
          refine t_no 53 rfl rfl rfl rfl rfl ?_
          refine t_st rfl (st_pick_t rfl rfl) ?_
          refine t_nil ?_
          obtain rfl := some1 hm
          refine x_pullb 5 rfl ?_
          refine x_pullb 4 rfl ?_
          refine x_pullb 4 rfl ?_
          refine x_pullb 4 rfl ?_
          refine x_pullb 4 rfl ?_
          refine x_front3 [_, _, _, _, _, _] hs2444 hs2457 hs2447 R rfl ?_
          refine x_front3 [_, _, _, _, _, _] hs2447 hs2444 hs2457 R rfl ?_
          refine x_front3 [_, _, _, _, _, _] hs2457 hs2447 hs2444 R rfl ?_
          exact x_join (e' := [(0, .int .i64 (x21)), (1, .int .i64 (x22)), (2, .slice A3 (l2453).length c4), (3, .slice A8 (l37).length c9), (4, .int .i64 (x23)), (5, .int .i64 (x24)), (7, .pointer (some ⟨g17, 0, none⟩)), (8, .pointer (some ⟨g18, 0, none⟩)), (9, .pointer (some ⟨g19, 0, none⟩)), (10, .pointer (some ⟨g20, 0, none⟩)), (17, .int .i64 ((k2459 : Int))), (19, .int .i64 (x23 + x2462.Len)), (20, .int .i64 (x24 + x2462.Back)), (22, .slice A30 (l33).length c31), (23, .int .i64 ((l33.length : Int))), (24, .int .i64 ((k2459 : Int))), (61, .bool (true))]) ⟨rfl, rfl, rfl, rfl, rfl, rfl, rfl, rfl, rfl, rfl, rfl, rfl, rfl, rfl, rfl, rfl, rfl, trivial⟩ (.cons_cons _ (.cons_cons _ (.cons_cons _ (.cons_cons _ (.cons_cons _ (.cons _ (.refl _))))))) ⟨rfl, rfl, (Base.Le.refl _)⟩
         ·
          rw [if_neg (fun hh => Bool.noConfusion (hh.symm.trans hc2492))] at hm
          refine t_resp 52 rfl (v' := .bool false) (by rw [hc2492] <;> rfl) ?_
          refine t_mv rfl rfl ?_
          refine t_yes 53 rfl rfl rfl ?_
          refine t_mv rfl rfl ?_
          refine t_yes 53 rfl rfl rfl ?_
          refine t_st rfl (st_load 1 rfl one3 rfl rfl) ?_
          refine t_yes 53 rfl rfl rfl ?_
          obtain ⟨_, h2493, hm⟩ := bindS hm
          have h2493 := (chk_some h2493).2
          refine t_st rfl (st_mul rfl rfl h2493) ?_
          refine t_yes 53 rfl rfl rfl ?_
          refine t_st rfl (st_load 2 rfl one3 rfl rfl) ?_
          refine t_yes 53 rfl rfl rfl ?_
          refine t_mv rfl rfl ?_
          refine t_yes 53 rfl rfl rfl ?_
          obtain ⟨_, h2494, hm⟩ := bindS hm
          have h2494 := (chk_some h2494).2
          refine t_st rfl (st_mul rfl rfl h2494) ?_
          refine t_yes 53 rfl rfl rfl ?_
          refine t_st rfl (st_gtr rfl rfl) ?_
          refine t_st rfl (st_pick_f rfl rfl) ?_
          refine t_nil ?_
          obtain rfl := some1 hm
          refine x_pullb 5 rfl ?_
          refine x_pullb 4 rfl ?_
          refine x_pullb 4 rfl ?_
          refine x_pullb 4 rfl ?_
          refine x_pullb 4 rfl ?_
          refine x_front3 [_, _, _, _, _, _] hs2444 hs2457 hs2447 R rfl ?_
          refine x_front3 [_, _, _, _, _, _] hs2447 hs2444 hs2457 R rfl ?_
          refine x_front3 [_, _, _, _, _, _] hs2457 hs2447 hs2444 R rfl ?_
          exact x_join (e' := [(0, .int .i64 (x21)), (1, .int .i64 (x22)), (2, .slice A3 (l2453).length c4), (3, .slice A8 (l37).length c9), (4, .int .i64 (x23)), (5, .int .i64 (x24)), (7, .pointer (some ⟨g17, 0, none⟩)), (8, .pointer (some ⟨g18, 0, none⟩)), (9, .pointer (some ⟨g19, 0, none⟩)), (10, .pointer (some ⟨g20, 0, none⟩)), (17, .int .i64 ((k2459 : Int))), (19, .int .i64 (x23 + x2462.Len)), (20, .int .i64 (x24 + x2462.Back)), (22, .slice A30 (l33).length c31), (23, .int .i64 ((l33.length : Int))), (24, .int .i64 ((k2459 : Int))), (61, .bool (decide ((x2452 * (x24 + x2462.Back)) < ((x23 + x2462.Len) * x2451))))]) ⟨rfl, rfl, rfl, rfl, rfl, rfl, rfl, rfl, rfl, rfl, rfl, rfl, rfl, rfl, rfl, rfl, rfl, trivial⟩ (.cons_cons _ (.cons_cons _ (.cons_cons _ (.cons_cons _ (.cons_cons _ (.cons _ (.refl _))))))) ⟨rfl, rfl, (Base.Le.refl _)⟩
        ·
         rintro b2488 _ _ ⟨rfl, rfl, hle2489⟩
         have hm := hk2491
         refine c_cond _ rfl (fun hc2495 => ?_) (fun hc2495 => ?_)
         ·
          rw [if_pos hc2495] at hm
          refine c_region ?_
          refine t_mv rfl rfl ?_
          refine t_mv rfl rfl ?_
          refine t_mv rfl rfl ?_
          obtain ⟨l2496, hcl2497, hm⟩ := bindS hm
          refine t_do rfl (u_callWF [_, _, _, _, _] (hs2444 ++ (hs2457 ++ (hs2447 ++ R))) _ rfl call12 rfl (fun w ho => cSlicesClone _ [] l37 A8 c9 (OS.now (o := (OT.fr (RT.int .i64))) (l := l37) (hs := hs2457) (h2458.le (hle2475.trans hle2489)) ho (.cons _ (.cons _ (.cons _ (.cons _ (.cons _ (sub_skip hs2444 (List.sublist_append_left _ _)))))))) l2496 hcl2497)) ?_
          rintro _ _ ⟨_, _, rfl, A2498, c2499, hs2500, rfl, hq2503, h2501⟩
          obtain rfl := List.append_cancel_right hq2503
          have h2502 := flat_fz (w' := b2488.w) (fun _ _ _ _ h => h) h2501
          refine t_mv rfl rfl ?_
          refine t_do rfl (u_bslice (el := 3) [(0, .int .i64 ((k2459 : Int)))] [.int .i64 ((k2459 : Int))] rfl (fun _ => by kernel_rfl)) ?_
          rintro _ _ ⟨g2504, rfl, rfl⟩
          obtain ⟨_, h2505, hm⟩ := bindS hm
          have h2505 := room_some h2505
          refine t_do rfl (u_appOS (r := (RT.int .i64)) (l := l2496) [_, _, _, _, _, _] (hs2444 ++ (hs2457 ++ (hs2447 ++ R))) [[.int .i64 ((k2459 : Int))]] [(k2459 : Int)] rfl (by decide) sl22 inf3 rfl rfl rfl rfl h2502 rfl (fun w ho => Rd.own (i := 0) ho rfl) ⟨rfl, trivial⟩ h2505) ?_
          rintro _ _ ⟨hs2506, rfl, h2507⟩
          obtain ⟨A2508, c2509, rfl, _⟩ := h2507.form
          refine t_do rfl (u_store 3 rfl rfl siz3 rfl rfl (by simp)) ?_
          rintro _ _ rfl
          refine t_do rfl (u_store 2 rfl rfl siz3 rfl rfl (by simp)) ?_
          rintro _ _ rfl
          refine t_do rfl (u_store 1 rfl rfl siz22 rfl rfl (by simp)) ?_
          rintro _ _ rfl
          refine t_nil ?_
          refine x_block_normal ?_
          refine x_then_normal ?_
          refine c_region ?_
          refine t_st rfl (st_add rfl rfl (by omega)) ?_
          refine t_mv rfl rfl ?_
          refine t_nil ?_
          refine x_pullb 5 rfl ?_
          refine x_pullb 5 rfl ?_
          refine x_pullb 5 rfl ?_
          refine x_pullb 5 rfl ?_
          refine x_pullb 5 rfl ?_
          refine x_front3 [_, _, _, _, _, _] hs2506 hs2444 hs2457 (hs2447 ++ R) rfl ?_
          refine x_front3 [_, _, _, _, _, _] hs2457 hs2506 hs2444 (hs2447 ++ R) rfl ?_
          obtain rfl := some1 hm
          exact x_againS (e' := [(0, .int .i64 (x21)), (1, .int .i64 (x22)), (2, .slice A3 (l2453).length c4), (3, .slice A8 (l37).length c9), (4, .int .i64 (x23)), (5, .int .i64 (x24)), (7, .pointer (some ⟨g17, 0, none⟩)), (8, .pointer (some ⟨g18, 0, none⟩)), (9, .pointer (some ⟨g19, 0, none⟩)), (10, .pointer (some ⟨g20, 0, none⟩)), (22, .slice A30 (l33).length c31), (23, .int .i64 ((l33.length : Int))), (24, .int .i64 ((k2459 : Int) + 1))]) ⟨rfl, rfl, rfl, rfl, rfl, rfl, rfl, rfl, rfl, rfl, rfl, rfl, rfl, trivial⟩ (.cons_cons _ (.cons_cons _ (.cons_cons _ (.cons_cons _ (.cons_cons _ (.cons _ (sub_app hs2444 (sub_app hs2457 (sub_app hs2506 (sub_skip hs2447 (.refl _))))))))))) ⟨hs2444, A2508, c2509, hs2506, hs2457, rfl, rfl, ((hle2442.trans (hle2475.trans hle2489))), (h2445.le (hle2475.trans hle2489)), hln2454, h2507, (OS.nz h2507 (by simp)), (h2458.le (hle2475.trans hle2489))⟩
         ·
          rw [if_neg (fun hh => Bool.noConfusion (hh.symm.trans hc2495))] at hm
          refine c_skip ?_
          refine x_block_normal ?_
          refine x_then_normal ?_
          refine c_region ?_
          refine t_st rfl (st_add rfl rfl (by omega)) ?_
          refine t_mv rfl rfl ?_
          refine t_nil ?_
          refine x_pullb 4 rfl ?_
          refine x_pullb 4 rfl ?_
          refine x_pullb 4 rfl ?_
          refine x_pullb 4 rfl ?_
          refine x_pullb 4 rfl ?_
          refine x_front3 [_, _, _, _, _] hs2444 hs2457 hs2447 R rfl ?_
          refine x_front3 [_, _, _, _, _] hs2447 hs2444 hs2457 R rfl ?_
          refine x_front3 [_, _, _, _, _] hs2457 hs2447 hs2444 R rfl ?_
          obtain rfl := some1 hm
          exact x_againS (e' := [(0, .int .i64 (x21)), (1, .int .i64 (x22)), (2, .slice A3 (l2453).length c4), (3, .slice A8 (l37).length c9), (4, .int .i64 (x23)), (5, .int .i64 (x24)), (7, .pointer (some ⟨g17, 0, none⟩)), (8, .pointer (some ⟨g18, 0, none⟩)), (9, .pointer (some ⟨g19, 0, none⟩)), (10, .pointer (some ⟨g20, 0, none⟩)), (22, .slice A30 (l33).length c31), (23, .int .i64 ((l33.length : Int))), (24, .int .i64 ((k2459 : Int) + 1))]) ⟨rfl, rfl, rfl, rfl, rfl, rfl, rfl, rfl, rfl, rfl, rfl, rfl, rfl, trivial⟩ (.refl _) ⟨hs2444, A2448, c2449, hs2447, hs2457, rfl, rfl, ((hle2442.trans (hle2475.trans hle2489))), (h2445.le (hle2475.trans hle2489)), hln2454, (h2450.le (hle2475.trans hle2489)), hnz2456, (h2458.le (hle2475.trans hle2489))⟩
       ·
        rw [if_neg (of_decide_eq_false hc2480)] at hm
        refine c_sr ?_
        refine t_mv rfl rfl ?_
        refine t_st rfl (st_field rfl fld83_1) ?_
        refine t_st rfl (st_load 4 rfl one3 rfl rfl) ?_
        obtain ⟨x2510, h2511, hm⟩ := bindS hm
        obtain ⟨j2512, hj2513, hx2514⟩ := idx_some h2511
        obtain ⟨cs2515, hs2520, P2521, P2522, hq2523, hr2516, hcs2517, hA2518, hlt2519, hb2524, hho2525⟩ := OS.get (sz := 1) rfl (by decide) (h2445.le hle2475) hx2514
        obtain ⟨rfl, rfl⟩ := hr2516
        refine t_st rfl (st_index_old j2512 rfl rfl hj2513 hlt2519 hA2518 sl88) ?_
        refine t_st rfl (st_load_rd rfl one4 (fun w ho => hcs2517 w _ ho (.cons _ (.cons _ (.cons _ (.cons _ (.cons _ (.cons _ (List.sublist_append_left _ _))))))) 0 _ rfl)) ?_
        refine t_st rfl (st_not rfl) ?_
        refine t_ne ?_
        refine c_cond _ rfl (fun hc2526 => ?_) (fun hc2526 => ?_)
        ·
         rw [if_neg (fun hh => Bool.noConfusion (hh.symm.trans (notT hc2526)))] at hm
         refine c_sr ?_
         refine t_mv rfl rfl ?_
         refine t_st rfl (st_field rfl fld83_1) ?_
         refine t_st rfl (st_load 4 rfl one3 rfl rfl) ?_
         obtain ⟨x2527, h2528, hm⟩ := bindS hm
         obtain ⟨j2529, hj2530, hx2531⟩ := idx_some h2528
         obtain ⟨cs2532, hs2537, P2538, P2539, hq2540, hr2533, hcs2534, hA2535, hlt2536, hb2541, hho2542⟩ := OS.get (sz := 1) rfl (by decide) (h2445.le hle2475) hx2531
         obtain ⟨rfl, rfl⟩ := hr2533
         refine t_st rfl (st_index_old j2529 rfl rfl hj2530 hlt2536 hA2535 sl88) ?_
         refine t_do rfl (u_putOS hj2530 (sz := 1) (a' := true) rfl [_, _, _, _, _, _] (hs2457 ++ (hs2447 ++ R)) 0 1 [.bool (true)] rfl (h2445.le hle2475) hx2531 rfl rfl rfl siz4 rfl (mem_c rfl mem_n) (fun cs hsj hh => by obtain ⟨rfl, rfl⟩ := hh; exact ⟨by decide, rfl, rfl⟩)) ?_
         rintro _ _ ⟨hs2543, rfl, h2544⟩
         refine t_resp 2 rfl (v' := .slice A3 (put l2453 x2462.To true).length c4) (by simp only [put_length]) ?_
         refine t_ne ?_
         obtain ⟨⟨x2621, x2622, l2623, l2625⟩, hj2629, hk2629⟩ := bindS hm
         refine c_join (fun b2611 e' hp' => ∃ (hs2614 : Hp), ∃ (A2618 : Option Addr), ∃ (c2619 : Nat), ∃ (hs2617 : Hp), ∃ (hs2627 : Hp), [(0, .int .i64 (x21)), (1, .int .i64 (x22)), (2, .slice A3 (l2623).length c4), (3, .slice A8 (l37).length c9), (4, .int .i64 (x23)), (5, .int .i64 (x24)), (7, .pointer (some ⟨g17, 0, none⟩)), (8, .pointer (some ⟨g18, 0, none⟩)), (9, .pointer (some ⟨g19, 0, none⟩)), (10, .pointer (some ⟨g20, 0, none⟩)), (18, .pointer (some ⟨g2472, 0, none⟩)), (22, .slice A30 (l33).length c31), (23, .int .i64 ((l33.length : Int))), (24, .int .i64 ((k2459 : Int)))] = e' ∧ (g17, Cl 22 [.slice A2618 (l2625).length c2619]) :: (g18, Cl 3 [.int .i64 (x2621)]) :: (g19, Cl 3 [.int .i64 (x2622)]) :: (g20, Cl 116 [.func (.func 72) #[] #[.pointer (some ⟨g16, 0, none⟩), .pointer (some ⟨g17, 0, none⟩), .pointer (some ⟨g18, 0, none⟩), .pointer (some ⟨g19, 0, none⟩), .pointer (some ⟨g20, 0, none⟩)]]) :: (g2472, Cl 83 [.int .i64 (x2462.From), .int .i64 (x2462.To), .int .i64 (x2462.Len), .int .i64 (x2462.Back)]) :: (g16, Cl 54 [.int .i64 (x25), .slice A26 (l29).length c27, .slice A30 (l33).length c31]) :: (hs2614 ++ (hs2627 ++ (hs2617 ++ R))) = hp' ∧ b2474.Le b2611 ∧ OS 4 (OT.fr RT.bool) b2611.w (.slice A3 l2623.length c4) l2623 hs2614 ∧ l2623.length = l36.length ∧ OS 3 (OT.fr (RT.int .i64)) b2611.w (.slice A2618 l2625.length c2619) l2625 hs2617 ∧ (A2618 = none ↔ l2625 = []) ∧ OS 3 (OT.fr (RT.int .i64)) b2611.w (.slice A8 l37.length c9) l37 hs2627) ?_ ?_
         ·
          have hm := hj2629
          obtain ⟨_, h2658, hm⟩ := bindS hm
          obtain ⟨_, h2665, hm⟩ := bindS hm
          obtain ⟨_, h2666, hm⟩ := bindS hm
          obtain ⟨⟨x2667, x2668, l2669, l2670⟩, hcl2671, hm⟩ := bindS hm
          have hm := (unc4E hm)
          refine D_drawI mixed (.cons _ (.cons _ (.cons _ (.cons _ (.cons_cons _ (.cons _ (sub_skip hs2543 (sub_skip hs2457 (sub_skip hs2447 (.refl _)))))))))) ?_
          refine E_st 1 rfl (st_move rfl) ?_
          refine E_st 2 rfl (st_field rfl fld83_1) ?_
          refine E_st 3 rfl (st_load 0 rfl one3 rfl rfl) ?_
          refine E_st 4 rfl (st_move rfl) ?_
          refine E_st 5 rfl (st_move rfl) ?_
          refine E_st 6 rfl (st_move rfl) ?_
          refine E_st 9 rfl (st_move rfl) ?_
          refine E_st 10 rfl (st_field rfl fld83_2) ?_
          refine E_st 11 rfl (st_load 0 rfl one3 rfl rfl) ?_
          have h2665 := (chk_some h2665).2
          refine E_st 12 rfl (st_add rfl rfl h2665) ?_
          refine E_st 13 rfl (st_move rfl) ?_
          refine E_st 14 rfl (st_field rfl fld83_3) ?_
          refine E_st 15 rfl (st_load 0 rfl one3 rfl rfl) ?_
          have h2666 := (chk_some h2666).2
          refine E_st 16 rfl (st_add rfl rfl h2666) ?_
          refine E_out ?_
          refine D_all [0, 7] (by kernel_rfl) rfl ?_
          refine R_do (Base.Le.refl _) rfl rfl (Stable.does (st_load 3 rfl one116 rfl rfl)) ?_ ?_
          ·
           rintro _ _ ⟨rfl, rfl⟩
           refine ⟨.inr (.cons _ (.cons _ (.cons _ (.cons _ (.cons_cons _ (.cons _ (sub_skip hs2543 (sub_skip hs2457 (sub_skip hs2447 (.refl _)))))))))), ?_⟩
           refine D_all [7] (by kernel_rfl) rfl ?_
           refine R_do (Base.Le.refl _) rfl rfl (u_bslice (el := 3) [(0, .int .i64 ((k2459 : Int)))] [.int .i64 ((k2459 : Int))] rfl (fun _ => by kernel_rfl)) ?_ ?_
           ·
            rintro _ _ ⟨g2657, rfl, rfl⟩
            refine ⟨.inr (.cons _ (.cons _ (.cons _ (.cons _ (.cons _ (.cons_cons _ (.cons _ (sub_skip hs2543 (sub_skip hs2457 (sub_skip hs2447 (.refl _))))))))))), ?_⟩
            have h2658 := room_some h2658
            refine d_front2 [_, _, _, _, _, _, _] hs2543 hs2457 (hs2447 ++ R) rfl ?_
            refine D_all [8] (by kernel_rfl) rfl ?_
            refine R_do (Base.Le.refl _) rfl rfl (u_appK (r := (RT.int .i64)) (l := l37) [_, _, _, _, _, _, _] (hs2543 ++ (hs2447 ++ R)) [[.int .i64 ((k2459 : Int))]] [(k2459 : Int)] rfl (by decide) sl22 inf3 rfl rfl rfl rfl (by decide) (h2458.le hle2475) rfl (fun w ho => Rd.own (i := 0) ho rfl) ⟨rfl, trivial⟩ h2658) ?_ ?_
            ·
             rintro _ _ ⟨hs2659, hs2660, rfl, h2661, hk2662⟩
             obtain ⟨A2663, c2664, rfl, _⟩ := h2661.form
             refine ⟨.inr (.cons _ (.cons _ (.cons _ (.cons _ (.cons _ (.cons_cons _ (.cons _ (sub_skip hs2659 (sub_skip hs2660 (sub_skip hs2543 (sub_skip hs2447 (.refl _)))))))))))), ?_⟩
             refine d_pullb 4 rfl ?_
             refine d_pullb 4 rfl ?_
             refine d_pullb 4 rfl ?_
             refine d_pullb 4 rfl ?_
             refine d_pullb 6 rfl ?_
             refine d_front4 [_, _, _, _, _, _, _] hs2659 hs2660 hs2543 hs2447 R rfl ?_
             refine d_front2 [_, _, _, _, _, _, _] hs2447 hs2659 (hs2660 ++ (hs2543 ++ R)) rfl ?_
             refine d_front4 [_, _, _, _, _, _, _] hs2659 hs2447 hs2660 hs2543 R rfl ?_
             refine d_out3 [_, _, _, _, _] [_, _] hs2543 hs2659 hs2447 (hs2660 ++ R) rfl ?_
             refine D_all [17] (by kernel_rfl) rfl ?_
             refine R_callvG (Base.Le.refl _) rfl rfl #[] #[.pointer (some ⟨g16, 0, none⟩), .pointer (some ⟨g17, 0, none⟩), .pointer (some ⟨g18, 0, none⟩), .pointer (some ⟨g19, 0, none⟩), .pointer (some ⟨g20, 0, none⟩)] [.int .i64 (x21), .int .i64 (x2462.To), .slice A3 (put l2453 x2462.To true).length c4, .slice A2663 (l37 ++ [(k2459 : Int)]).length c2664, .int .i64 (x23 + x2462.Len), .int .i64 (x24 + x2462.Back)] rfl call72 rfl (ih _ _ x21 x2462.To (x23 + x2462.Len) (x24 + x2462.Back) x25 l29 l33 x2451 x2452 (put l2453 x2462.To true) (l37 ++ [(k2459 : Int)]) l2455 g16 g17 g18 g19 g20 A26 c27 A30 c31 A3 c4 hs2543 A2663 c2664 hs2659 A2448 c2449 hs2447 (h28.le (hle2442.trans hle2475)) (h32.le (hle2442.trans hle2475)) h2544 h2661 (OS.nz h2661 (by simp)) (h2450.le hle2475) hnz2456 x2667 x2668 l2669 l2670 hcl2671) ?_ ?_
             ·
              rintro _ b2672 _ hle2673 ⟨hs2674, A2675, c2676, hs2677, hs2678, rfl, rfl, h2679, h2680, h2681, h2682, h2683⟩
              refine ⟨.inr (.cons _ (.cons _ (.cons _ (.cons _ (.cons _ (sub_skip hs2674 (sub_skip hs2678 (sub_skip hs2677 (.cons _ (.cons_cons _ (sub_skip hs2660 (.refl _)))))))))))), ?_⟩
              refine d_in3 [_, _, _, _, _] [_, _] hs2674 hs2678 hs2677 (hs2660 ++ R) rfl ?_
              refine d_resp 2 rfl (v' := .slice A3 (l2669).length c4) (by rw [h2680]) ?_
              refine D_done (by kernel_rfl) ?_
              refine x_front4 [_, _, _, _, _, _, _] hs2674 hs2678 hs2677 hs2660 R rfl ?_
              refine x_front3 [_, _, _, _, _, _, _] hs2660 hs2674 hs2678 (hs2677 ++ R) rfl ?_
              obtain ⟨hs2684, hb2685, h2686⟩ := KeepB.back (hk2662.le hle2673) rfl h2683 (List.take_left)
              have hb2687 := sub_back (R := (hs2674 ++ (hs2677 ++ R))) hb2685
              refine x_drop (.cons_cons _ (.cons_cons _ (.cons_cons _ (.cons_cons _ (.cons_cons _ (.cons_cons _ (.cons_cons _ hb2687))))))) ?_
              obtain ⟨rfl, rfl, rfl, rfl⟩ := some4 hm
              refine x_pullb 6 rfl ?_
              refine x_pullb 5 rfl ?_
              refine x_pullb 5 rfl ?_
              refine x_pullb 5 rfl ?_
              refine x_pullb 5 rfl ?_
              refine x_front3 [_, _, _, _, _, _, _] hs2684 hs2674 hs2677 R rfl ?_
              refine x_front2 [_, _, _, _, _, _, _] hs2677 hs2684 (hs2674 ++ R) rfl ?_
              refine x_front3 [_, _, _, _, _, _, _] hs2684 hs2677 hs2674 R rfl ?_
              exact x_join (e' := [(0, .int .i64 (x21)), (1, .int .i64 (x22)), (2, .slice A3 (l2669).length c4), (3, .slice A8 (l37).length c9), (4, .int .i64 (x23)), (5, .int .i64 (x24)), (7, .pointer (some ⟨g17, 0, none⟩)), (8, .pointer (some ⟨g18, 0, none⟩)), (9, .pointer (some ⟨g19, 0, none⟩)), (10, .pointer (some ⟨g20, 0, none⟩)), (18, .pointer (some ⟨g2472, 0, none⟩)), (22, .slice A30 (l33).length c31), (23, .int .i64 ((l33.length : Int))), (24, .int .i64 ((k2459 : Int)))]) ⟨rfl, rfl, rfl, rfl, rfl, rfl, rfl, rfl, rfl, rfl, rfl, rfl, rfl, rfl, trivial⟩ (.cons_cons _ (.cons_cons _ (.cons_cons _ (.cons_cons _ (.cons_cons _ (.cons_cons _ (.cons _ (.refl _)))))))) ⟨hs2674, A2675, c2676, hs2677, hs2684, rfl, rfl, hle2673, h2679, (h2680.trans ((put_length _ _ _).trans hln2454)), h2681, h2682, h2686⟩
             exact R_nil
            exact R_nil
           exact R_nil
          refine R_do (Base.Le.refl _) rfl rfl (u_bslice (el := 3) [(0, .int .i64 ((k2459 : Int)))] [.int .i64 ((k2459 : Int))] rfl (fun _ => by kernel_rfl)) ?_ ?_
          ·
           rintro _ _ ⟨g2657, rfl, rfl⟩
           refine ⟨.inr (.cons _ (.cons _ (.cons _ (.cons _ (.cons _ (.cons_cons _ (.cons _ (sub_skip hs2543 (sub_skip hs2457 (sub_skip hs2447 (.refl _))))))))))), ?_⟩
           have h2658 := room_some h2658
           refine d_front2 [_, _, _, _, _, _, _] hs2543 hs2457 (hs2447 ++ R) rfl ?_
           refine D_all [0, 8] (by kernel_rfl) rfl ?_
           refine R_do (Base.Le.refl _) rfl rfl (Stable.does (st_load 4 rfl one116 rfl rfl)) ?_ ?_
           ·
            rintro _ _ ⟨rfl, rfl⟩
            refine ⟨.inr (.cons _ (.cons _ (.cons _ (.cons _ (.cons _ (.cons_cons _ (.cons _ (sub_skip hs2457 (sub_skip hs2543 (sub_skip hs2447 (.refl _))))))))))), ?_⟩
            refine D_all [8] (by kernel_rfl) rfl ?_
            refine R_do (Base.Le.refl _) rfl rfl (u_appK (r := (RT.int .i64)) (l := l37) [_, _, _, _, _, _, _] (hs2543 ++ (hs2447 ++ R)) [[.int .i64 ((k2459 : Int))]] [(k2459 : Int)] rfl (by decide) sl22 inf3 rfl rfl rfl rfl (by decide) (h2458.le hle2475) rfl (fun w ho => Rd.own (i := 0) ho rfl) ⟨rfl, trivial⟩ h2658) ?_ ?_
            ·
             rintro _ _ ⟨hs2659, hs2660, rfl, h2661, hk2662⟩
             obtain ⟨A2663, c2664, rfl, _⟩ := h2661.form
             refine ⟨.inr (.cons _ (.cons _ (.cons _ (.cons _ (.cons _ (.cons_cons _ (.cons _ (sub_skip hs2659 (sub_skip hs2660 (sub_skip hs2543 (sub_skip hs2447 (.refl _)))))))))))), ?_⟩
             refine d_pullb 4 rfl ?_
             refine d_pullb 4 rfl ?_
             refine d_pullb 4 rfl ?_
             refine d_pullb 4 rfl ?_
             refine d_pullb 6 rfl ?_
             refine d_front4 [_, _, _, _, _, _, _] hs2659 hs2660 hs2543 hs2447 R rfl ?_
             refine d_front2 [_, _, _, _, _, _, _] hs2447 hs2659 (hs2660 ++ (hs2543 ++ R)) rfl ?_
             refine d_front4 [_, _, _, _, _, _, _] hs2659 hs2447 hs2660 hs2543 R rfl ?_
             refine d_out3 [_, _, _, _, _] [_, _] hs2543 hs2659 hs2447 (hs2660 ++ R) rfl ?_
             refine D_all [17] (by kernel_rfl) rfl ?_
             refine R_callvG (Base.Le.refl _) rfl rfl #[] #[.pointer (some ⟨g16, 0, none⟩), .pointer (some ⟨g17, 0, none⟩), .pointer (some ⟨g18, 0, none⟩), .pointer (some ⟨g19, 0, none⟩), .pointer (some ⟨g20, 0, none⟩)] [.int .i64 (x21), .int .i64 (x2462.To), .slice A3 (put l2453 x2462.To true).length c4, .slice A2663 (l37 ++ [(k2459 : Int)]).length c2664, .int .i64 (x23 + x2462.Len), .int .i64 (x24 + x2462.Back)] rfl call72 rfl (ih _ _ x21 x2462.To (x23 + x2462.Len) (x24 + x2462.Back) x25 l29 l33 x2451 x2452 (put l2453 x2462.To true) (l37 ++ [(k2459 : Int)]) l2455 g16 g17 g18 g19 g20 A26 c27 A30 c31 A3 c4 hs2543 A2663 c2664 hs2659 A2448 c2449 hs2447 (h28.le (hle2442.trans hle2475)) (h32.le (hle2442.trans hle2475)) h2544 h2661 (OS.nz h2661 (by simp)) (h2450.le hle2475) hnz2456 x2667 x2668 l2669 l2670 hcl2671) ?_ ?_
             ·
              rintro _ b2672 _ hle2673 ⟨hs2674, A2675, c2676, hs2677, hs2678, rfl, rfl, h2679, h2680, h2681, h2682, h2683⟩
              refine ⟨.inr (.cons _ (.cons _ (.cons _ (.cons _ (.cons _ (sub_skip hs2674 (sub_skip hs2678 (sub_skip hs2677 (.cons _ (.cons_cons _ (sub_skip hs2660 (.refl _)))))))))))), ?_⟩
              refine d_in3 [_, _, _, _, _] [_, _] hs2674 hs2678 hs2677 (hs2660 ++ R) rfl ?_
              refine d_resp 2 rfl (v' := .slice A3 (l2669).length c4) (by rw [h2680]) ?_
              refine D_done (by kernel_rfl) ?_
              refine x_front4 [_, _, _, _, _, _, _] hs2674 hs2678 hs2677 hs2660 R rfl ?_
              refine x_front3 [_, _, _, _, _, _, _] hs2660 hs2674 hs2678 (hs2677 ++ R) rfl ?_
              obtain ⟨hs2688, hb2689, h2690⟩ := KeepB.back (hk2662.le hle2673) rfl h2683 (List.take_left)
              have hb2691 := sub_back (R := (hs2674 ++ (hs2677 ++ R))) hb2689
              refine x_drop (.cons_cons _ (.cons_cons _ (.cons_cons _ (.cons_cons _ (.cons_cons _ (.cons_cons _ (.cons_cons _ hb2691))))))) ?_
              obtain ⟨rfl, rfl, rfl, rfl⟩ := some4 hm
              refine x_pullb 6 rfl ?_
              refine x_pullb 5 rfl ?_
              refine x_pullb 5 rfl ?_
              refine x_pullb 5 rfl ?_
              refine x_pullb 5 rfl ?_
              refine x_front3 [_, _, _, _, _, _, _] hs2688 hs2674 hs2677 R rfl ?_
              refine x_front2 [_, _, _, _, _, _, _] hs2677 hs2688 (hs2674 ++ R) rfl ?_
              refine x_front3 [_, _, _, _, _, _, _] hs2688 hs2677 hs2674 R rfl ?_
              exact x_join (e' := [(0, .int .i64 (x21)), (1, .int .i64 (x22)), (2, .slice A3 (l2669).length c4), (3, .slice A8 (l37).length c9), (4, .int .i64 (x23)), (5, .int .i64 (x24)), (7, .pointer (some ⟨g17, 0, none⟩)), (8, .pointer (some ⟨g18, 0, none⟩)), (9, .pointer (some ⟨g19, 0, none⟩)), (10, .pointer (some ⟨g20, 0, none⟩)), (18, .pointer (some ⟨g2472, 0, none⟩)), (22, .slice A30 (l33).length c31), (23, .int .i64 ((l33.length : Int))), (24, .int .i64 ((k2459 : Int)))]) ⟨rfl, rfl, rfl, rfl, rfl, rfl, rfl, rfl, rfl, rfl, rfl, rfl, rfl, rfl, trivial⟩ (.cons_cons _ (.cons_cons _ (.cons_cons _ (.cons_cons _ (.cons_cons _ (.cons_cons _ (.cons _ (.refl _)))))))) ⟨hs2674, A2675, c2676, hs2677, hs2688, rfl, rfl, hle2673, h2679, (h2680.trans ((put_length _ _ _).trans hln2454)), h2681, h2682, h2690⟩
             exact R_nil
            exact R_nil
           refine R_do (Base.Le.refl _) rfl rfl (u_appK (r := (RT.int .i64)) (l := l37) [_, _, _, _, _, _, _] (hs2543 ++ (hs2447 ++ R)) [[.int .i64 ((k2459 : Int))]] [(k2459 : Int)] rfl (by decide) sl22 inf3 rfl rfl rfl rfl (by decide) (h2458.le hle2475) rfl (fun w ho => Rd.own (i := 0) ho rfl) ⟨rfl, trivial⟩ h2658) ?_ ?_
           ·
            rintro _ _ ⟨hs2659, hs2660, rfl, h2661, hk2662⟩
            obtain ⟨A2663, c2664, rfl, _⟩ := h2661.form
            refine ⟨.inr (.cons _ (.cons _ (.cons _ (.cons _ (.cons _ (.cons_cons _ (.cons _ (sub_skip hs2659 (sub_skip hs2660 (sub_skip hs2543 (sub_skip hs2447 (.refl _)))))))))))), ?_⟩
            refine D_all [0] (by kernel_rfl) rfl ?_
            refine R_do (Base.Le.refl _) rfl rfl (Stable.does (st_load 4 rfl one116 rfl rfl)) ?_ ?_
            ·
             rintro _ _ ⟨rfl, rfl⟩
             refine ⟨.inr (.cons _ (.cons _ (.cons _ (.cons _ (.cons _ (.cons_cons _ (.cons _ (sub_skip hs2659 (sub_skip hs2660 (sub_skip hs2543 (sub_skip hs2447 (.refl _)))))))))))), ?_⟩
             refine d_pullb 4 rfl ?_
             refine d_pullb 4 rfl ?_
             refine d_pullb 4 rfl ?_
             refine d_pullb 4 rfl ?_
             refine d_pullb 6 rfl ?_
             refine d_front4 [_, _, _, _, _, _, _] hs2659 hs2660 hs2543 hs2447 R rfl ?_
             refine d_front2 [_, _, _, _, _, _, _] hs2447 hs2659 (hs2660 ++ (hs2543 ++ R)) rfl ?_
             refine d_front4 [_, _, _, _, _, _, _] hs2659 hs2447 hs2660 hs2543 R rfl ?_
             refine d_out3 [_, _, _, _, _] [_, _] hs2543 hs2659 hs2447 (hs2660 ++ R) rfl ?_
             refine D_all [17] (by kernel_rfl) rfl ?_
             refine R_callvG (Base.Le.refl _) rfl rfl #[] #[.pointer (some ⟨g16, 0, none⟩), .pointer (some ⟨g17, 0, none⟩), .pointer (some ⟨g18, 0, none⟩), .pointer (some ⟨g19, 0, none⟩), .pointer (some ⟨g20, 0, none⟩)] [.int .i64 (x21), .int .i64 (x2462.To), .slice A3 (put l2453 x2462.To true).length c4, .slice A2663 (l37 ++ [(k2459 : Int)]).length c2664, .int .i64 (x23 + x2462.Len), .int .i64 (x24 + x2462.Back)] rfl call72 rfl (ih _ _ x21 x2462.To (x23 + x2462.Len) (x24 + x2462.Back) x25 l29 l33 x2451 x2452 (put l2453 x2462.To true) (l37 ++ [(k2459 : Int)]) l2455 g16 g17 g18 g19 g20 A26 c27 A30 c31 A3 c4 hs2543 A2663 c2664 hs2659 A2448 c2449 hs2447 (h28.le (hle2442.trans hle2475)) (h32.le (hle2442.trans hle2475)) h2544 h2661 (OS.nz h2661 (by simp)) (h2450.le hle2475) hnz2456 x2667 x2668 l2669 l2670 hcl2671) ?_ ?_
             ·
              rintro _ b2672 _ hle2673 ⟨hs2674, A2675, c2676, hs2677, hs2678, rfl, rfl, h2679, h2680, h2681, h2682, h2683⟩
              refine ⟨.inr (.cons _ (.cons _ (.cons _ (.cons _ (.cons _ (sub_skip hs2674 (sub_skip hs2678 (sub_skip hs2677 (.cons _ (.cons_cons _ (sub_skip hs2660 (.refl _)))))))))))), ?_⟩
              refine d_in3 [_, _, _, _, _] [_, _] hs2674 hs2678 hs2677 (hs2660 ++ R) rfl ?_
              refine d_resp 2 rfl (v' := .slice A3 (l2669).length c4) (by rw [h2680]) ?_
              refine D_done (by kernel_rfl) ?_
              refine x_front4 [_, _, _, _, _, _, _] hs2674 hs2678 hs2677 hs2660 R rfl ?_
              refine x_front3 [_, _, _, _, _, _, _] hs2660 hs2674 hs2678 (hs2677 ++ R) rfl ?_
              obtain ⟨hs2692, hb2693, h2694⟩ := KeepB.back (hk2662.le hle2673) rfl h2683 (List.take_left)
              have hb2695 := sub_back (R := (hs2674 ++ (hs2677 ++ R))) hb2693
              refine x_drop (.cons_cons _ (.cons_cons _ (.cons_cons _ (.cons_cons _ (.cons_cons _ (.cons_cons _ (.cons_cons _ hb2695))))))) ?_
              obtain ⟨rfl, rfl, rfl, rfl⟩ := some4 hm
              refine x_pullb 6 rfl ?_
              refine x_pullb 5 rfl ?_
              refine x_pullb 5 rfl ?_
              refine x_pullb 5 rfl ?_
              refine x_pullb 5 rfl ?_
              refine x_front3 [_, _, _, _, _, _, _] hs2692 hs2674 hs2677 R rfl ?_
              refine x_front2 [_, _, _, _, _, _, _] hs2677 hs2692 (hs2674 ++ R) rfl ?_
              refine x_front3 [_, _, _, _, _, _, _] hs2692 hs2677 hs2674 R rfl ?_
              exact x_join (e' := [(0, .int .i64 (x21)), (1, .int .i64 (x22)), (2, .slice A3 (l2669).length c4), (3, .slice A8 (l37).length c9), (4, .int .i64 (x23)), (5, .int .i64 (x24)), (7, .pointer (some ⟨g17, 0, none⟩)), (8, .pointer (some ⟨g18, 0, none⟩)), (9, .pointer (some ⟨g19, 0, none⟩)), (10, .pointer (some ⟨g20, 0, none⟩)), (18, .pointer (some ⟨g2472, 0, none⟩)), (22, .slice A30 (l33).length c31), (23, .int .i64 ((l33.length : Int))), (24, .int .i64 ((k2459 : Int)))]) ⟨rfl, rfl, rfl, rfl, rfl, rfl, rfl, rfl, rfl, rfl, rfl, rfl, rfl, rfl, trivial⟩ (.cons_cons _ (.cons_cons _ (.cons_cons _ (.cons_cons _ (.cons_cons _ (.cons_cons _ (.cons _ (.refl _)))))))) ⟨hs2674, A2675, c2676, hs2677, hs2692, rfl, rfl, hle2673, h2679, (h2680.trans ((put_length _ _ _).trans hln2454)), h2681, h2682, h2694⟩
             exact R_nil
            exact R_nil
           exact R_nil
          exact R_nil
         ·
          rintro b2611 _ _ ⟨hs2614, A2618, c2619, hs2617, hs2627, rfl, rfl, hle2612, h2615, hln2624, h2620, hnz2626, h2628⟩
          have hm := (unc4E hk2629)
          refine c_region ?_
          refine t_mv rfl rfl ?_
          refine t_st rfl (st_field rfl fld83_1) ?_
          refine t_st rfl (st_load 4 rfl one3 rfl rfl) ?_
          obtain ⟨x2696, h2697, hm⟩ := bindS hm
          obtain ⟨j2698, hj2699, hx2700⟩ := idx_some h2697
          obtain ⟨cs2701, hs2706, P2707, P2708, hq2709, hr2702, hcs2703, hA2704, hlt2705, hb2710, hho2711⟩ := OS.get (sz := 1) rfl (by decide) h2615 hx2700
          obtain ⟨rfl, rfl⟩ := hr2702
          refine t_st rfl (st_index_old j2698 rfl rfl hj2699 hlt2705 hA2704 sl88) ?_
          refine t_do rfl (u_putOS hj2699 (sz := 1) (a' := false) rfl [_, _, _, _, _, _] (hs2627 ++ (hs2617 ++ R)) 0 1 [.bool (false)] rfl h2615 hx2700 rfl rfl rfl siz4 rfl (mem_c rfl mem_n) (fun cs hsj hh => by obtain ⟨rfl, rfl⟩ := hh; exact ⟨by decide, rfl, rfl⟩)) ?_
          rintro _ _ ⟨hs2712, rfl, h2713⟩
          refine t_resp 2 rfl (v' := .slice A3 (put l2623 x2462.To false).length c4) (by simp only [put_length]) ?_
          refine t_nil ?_
          refine x_block_normal ?_
          refine x_then_normal ?_
          refine c_region ?_
          refine t_st rfl (st_add rfl rfl (by omega)) ?_
          refine t_mv rfl rfl ?_
          refine t_nil ?_
          refine x_pullb 5 rfl ?_
          refine x_pullb 4 rfl ?_
          refine x_pullb 4 rfl ?_
          refine x_pullb 4 rfl ?_
          refine x_pullb 4 rfl ?_
          refine x_front3 [_, _, _, _, _, _] hs2712 hs2627 hs2617 R rfl ?_
          refine x_front3 [_, _, _, _, _, _] hs2617 hs2712 hs2627 R rfl ?_
          refine x_front3 [_, _, _, _, _, _] hs2627 hs2617 hs2712 R rfl ?_
          obtain rfl := some1 hm
          exact x_againS (e' := [(0, .int .i64 (x21)), (1, .int .i64 (x22)), (2, .slice A3 (put l2623 x2462.To false).length c4), (3, .slice A8 (l37).length c9), (4, .int .i64 (x23)), (5, .int .i64 (x24)), (7, .pointer (some ⟨g17, 0, none⟩)), (8, .pointer (some ⟨g18, 0, none⟩)), (9, .pointer (some ⟨g19, 0, none⟩)), (10, .pointer (some ⟨g20, 0, none⟩)), (22, .slice A30 (l33).length c31), (23, .int .i64 ((l33.length : Int))), (24, .int .i64 ((k2459 : Int) + 1))]) ⟨rfl, rfl, rfl, rfl, rfl, rfl, rfl, rfl, rfl, rfl, rfl, rfl, rfl, trivial⟩ (.cons_cons _ (.cons_cons _ (.cons_cons _ (.cons_cons _ (.cons_cons _ (.cons _ (.refl _))))))) ⟨hs2712, A2618, c2619, hs2617, hs2627, rfl, rfl, ((hle2442.trans (hle2475.trans hle2612))), h2713, ((put_length _ _ _).trans hln2624), h2620, hnz2626, h2628⟩
        ·
         rw [if_pos (notF hc2526)] at hm
         refine c_skip ?_
         refine x_block_normal ?_
         refine x_then_normal ?_
         refine c_region ?_
         refine t_st rfl (st_add rfl rfl (by omega)) ?_
         refine t_mv rfl rfl ?_
         refine t_nil ?_
         refine x_pullb 5 rfl ?_
         refine x_pullb 4 rfl ?_
         refine x_pullb 4 rfl ?_
         refine x_pullb 4 rfl ?_
         refine x_pullb 4 rfl ?_
         refine x_front3 [_, _, _, _, _, _] hs2444 hs2457 hs2447 R rfl ?_
         refine x_front3 [_, _, _, _, _, _] hs2447 hs2444 hs2457 R rfl ?_
         refine x_front3 [_, _, _, _, _, _] hs2457 hs2447 hs2444 R rfl ?_
         obtain rfl := some1 hm
         exact x_againS (e' := [(0, .int .i64 (x21)), (1, .int .i64 (x22)), (2, .slice A3 (l2453).length c4), (3, .slice A8 (l37).length c9), (4, .int .i64 (x23)), (5, .int .i64 (x24)), (7, .pointer (some ⟨g17, 0, none⟩)), (8, .pointer (some ⟨g18, 0, none⟩)), (9, .pointer (some ⟨g19, 0, none⟩)), (10, .pointer (some ⟨g20, 0, none⟩)), (22, .slice A30 (l33).length c31), (23, .int .i64 ((l33.length : Int))), (24, .int .i64 ((k2459 : Int) + 1))]) ⟨rfl, rfl, rfl, rfl, rfl, rfl, rfl, rfl, rfl, rfl, rfl, rfl, rfl, trivial⟩ (.cons_cons _ (.cons_cons _ (.cons_cons _ (.cons_cons _ (.cons_cons _ (.cons _ (.refl _))))))) ⟨hs2444, A2448, c2449, hs2447, hs2457, rfl, rfl, ((hle2442.trans hle2475)), (h2445.le hle2475), hln2454, (h2450.le hle2475), hnz2456, (h2458.le hle2475)⟩
    ·
     rintro b2441 _ _ ⟨hs2444, A2448, c2449, hs2447, hs2457, rfl, rfl, hle2442, h2445, hln2454, h2450, hnz2456, h2458⟩
     have hm := (unc4E hk2461)
     refine c_sr ?_
     refine t_st rfl (st_lss_f rfl rfl (by omega)) ?_
     refine t_ne ?_
     refine c_seq ?_
     refine c_cond_f rfl ?_
     refine c_exit ?_
     refine x_then_exit ?_
     refine x_then_exit ?_
     refine x_block_out ?_
     obtain ⟨rfl, rfl, rfl, rfl⟩ := some4 hm
     refine x_pullb 3 rfl ?_
     refine x_pullb 3 rfl ?_
     refine x_pullb 3 rfl ?_
     refine x_pullb 3 rfl ?_
     refine x_pullb 4 rfl ?_
     refine x_front3 [_, _, _, _, _] hs2444 hs2457 hs2447 R rfl ?_
     refine x_front3 [_, _, _, _, _] hs2447 hs2444 hs2457 R rfl ?_
     refine x_front3 [_, _, _, _, _] hs2457 hs2447 hs2444 R rfl ?_
     exact endM hle2442 rfl (.refl _) ⟨hs2444, A2448, c2449, hs2447, hs2457, rfl, rfl, h2445, hln2454, h2450, hnz2456, h2458⟩

set_option maxRecDepth 20000 in
theorem cMendRoundMean_1 (b : Base) (R : Hp) (x21 : Int) (x22 : Int) (x23 : Int) (x24 : Int) (x25 : Int) (l29 : (List Int)) (l33 : (List MendLink)) (x34 : Int) (x35 : Int) (l36 : (List Bool)) (l37 : (List Int)) (l38 : (List Int)) (g16 : Nat) (g17 : Nat) (g18 : Nat) (g19 : Nat) (g20 : Nat) (A26 : Option Addr) (c27 : Nat) (A30 : Option Addr) (c31 : Nat) (A3 : Option Addr) (c4 : Nat) (hs2 : Hp) (A8 : Option Addr) (c9 : Nat) (hs7 : Hp) (A13 : Option Addr) (c14 : Nat) (hs12 : Hp) (h28 : FZ (RT.int .i64) b.w A26 c27 l29) (h32 : FZ rMendLink b.w A30 c31 l33) (h5 : OS 4 (OT.fr RT.bool) b.w (.slice A3 l36.length c4) l36 hs2) (h10 : OS 3 (OT.fr (RT.int .i64)) b.w (.slice A8 l37.length c9) l37 hs7) (h15 : OS 3 (OT.fr (RT.int .i64)) b.w (.slice A13 l38.length c14) l38 hs12) (hnz39 : (A13 = none ↔ l38 = [])) (x843 : Int) (x844 : Int) (l845 : (List Bool)) (l847 : (List Int)) (hm : mMendRoundMean_1 x21 x22 x23 x24 x25 l29 l33 x34 x35 l36 l37 l38 = some (x843, x844, l845, l847)) :
    CallsG Try.prog 72 [.int .i64 (x21), .int .i64 (x22), .slice A3 (l36).length c4, .slice A8 (l37).length c9, .int .i64 (x23), .int .i64 (x24), .pointer (some ⟨g16, 0, none⟩), .pointer (some ⟨g17, 0, none⟩), .pointer (some ⟨g18, 0, none⟩), .pointer (some ⟨g19, 0, none⟩), .pointer (some ⟨g20, 0, none⟩)] b ((g16, Cl 54 [.int .i64 (x25), .slice A26 (l29).length c27, .slice A30 (l33).length c31]) :: (g17, Cl 22 [.slice A13 (l38).length c14]) :: (g18, Cl 3 [.int .i64 (x34)]) :: (g19, Cl 3 [.int .i64 (x35)]) :: (g20, Cl 116 [.func (.func 72) #[] #[.pointer (some ⟨g16, 0, none⟩), .pointer (some ⟨g17, 0, none⟩), .pointer (some ⟨g18, 0, none⟩), .pointer (some ⟨g19, 0, none⟩), .pointer (some ⟨g20, 0, none⟩)]]) :: (hs2 ++ (hs7 ++ (hs12 ++ R)))) (fun v b' hp' => ∃ (hs836 : Hp), ∃ (A840 : Option Addr), ∃ (c841 : Nat), ∃ (hs839 : Hp), ∃ (hs849 : Hp), .tuple #[] = v ∧ (g16, Cl 54 [.int .i64 (x25), .slice A26 (l29).length c27, .slice A30 (l33).length c31]) :: (g17, Cl 22 [.slice A840 (l847).length c841]) :: (g18, Cl 3 [.int .i64 (x843)]) :: (g19, Cl 3 [.int .i64 (x844)]) :: (g20, Cl 116 [.func (.func 72) #[] #[.pointer (some ⟨g16, 0, none⟩), .pointer (some ⟨g17, 0, none⟩), .pointer (some ⟨g18, 0, none⟩), .pointer (some ⟨g19, 0, none⟩), .pointer (some ⟨g20, 0, none⟩)]]) :: (hs836 ++ (hs849 ++ (hs839 ++ R))) = hp' ∧ OS 4 (OT.fr RT.bool) b'.w (.slice A3 l845.length c4) l845 hs836 ∧ l845.length = l36.length ∧ OS 3 (OT.fr (RT.int .i64)) b'.w (.slice A840 l847.length c841) l847 hs839 ∧ (A840 = none ↔ l847 = []) ∧ OS 3 (OT.fr (RT.int .i64)) b'.w (.slice A8 l37.length c9) l37 hs849) := by
  refine fn_enterG 102 Try.func72 rfl Try.ntmps72 rfl ?_
  unfold mMendRoundMean_1 at hm
  refine c_sr ?_
  refine t_st rfl (st_field rfl fld54_2) ?_
  refine t_st rfl (st_load 0 rfl one52 rfl rfl) ?_
  refine t_st rfl (st_len rfl sl52) ?_
  refine t_mv rfl rfl ?_
  refine t_ne ?_
  refine c_block ?_
  have hb852 : l33.length ≤ 9223372036854775807 := (FZ.bd h32)
  refine c_pullb 4 rfl ?_
  refine c_pullb 4 rfl ?_
  refine c_pullb 4 rfl ?_
  refine c_pullb 4 rfl ?_
  refine c_front3 [_, _, _, _, _] hs2 hs7 hs12 R rfl ?_
  refine c_front3 [_, _, _, _, _] hs12 hs2 hs7 R rfl ?_
  refine c_front3 [_, _, _, _, _] hs7 hs12 hs2 R rfl ?_
  obtain ⟨⟨x1383, x1384, l1385, l1387⟩, hl1392, hk1393⟩ := bindS hm
  refine c_forS (fun k1391 => unc4 fun x1383 x1384 l1385 l1387 => fun b1373 e' hp' => ∃ (hs1376 : Hp), ∃ (A1380 : Option Addr), ∃ (c1381 : Nat), ∃ (hs1379 : Hp), ∃ (hs1389 : Hp), [(0, .int .i64 (x21)), (1, .int .i64 (x22)), (2, .slice A3 (l1385).length c4), (3, .slice A8 (l37).length c9), (4, .int .i64 (x23)), (5, .int .i64 (x24)), (7, .pointer (some ⟨g17, 0, none⟩)), (8, .pointer (some ⟨g18, 0, none⟩)), (9, .pointer (some ⟨g19, 0, none⟩)), (10, .pointer (some ⟨g20, 0, none⟩)), (22, .slice A30 (l33).length c31), (23, .int .i64 ((l33.length : Int))), (24, .int .i64 ((k1391 : Int)))] = e' ∧ (g17, Cl 22 [.slice A1380 (l1387).length c1381]) :: (g18, Cl 3 [.int .i64 (x1383)]) :: (g19, Cl 3 [.int .i64 (x1384)]) :: (g20, Cl 116 [.func (.func 72) #[] #[.pointer (some ⟨g16, 0, none⟩), .pointer (some ⟨g17, 0, none⟩), .pointer (some ⟨g18, 0, none⟩), .pointer (some ⟨g19, 0, none⟩), .pointer (some ⟨g20, 0, none⟩)]]) :: (g16, Cl 54 [.int .i64 (x25), .slice A26 (l29).length c27, .slice A30 (l33).length c31]) :: (hs1376 ++ (hs1389 ++ (hs1379 ++ R))) = hp' ∧ b.Le b1373 ∧ OS 4 (OT.fr RT.bool) b1373.w (.slice A3 l1385.length c4) l1385 hs1376 ∧ l1385.length = l36.length ∧ OS 3 (OT.fr (RT.int .i64)) b1373.w (.slice A1380 l1387.length c1381) l1387 hs1379 ∧ (A1380 = none ↔ l1387 = []) ∧ OS 3 (OT.fr (RT.int .i64)) b1373.w (.slice A8 l37.length c9) l37 hs1389) hl1392 (e' := [(0, .int .i64 (x21)), (1, .int .i64 (x22)), (2, .slice A3 (l36).length c4), (3, .slice A8 (l37).length c9), (4, .int .i64 (x23)), (5, .int .i64 (x24)), (7, .pointer (some ⟨g17, 0, none⟩)), (8, .pointer (some ⟨g18, 0, none⟩)), (9, .pointer (some ⟨g19, 0, none⟩)), (10, .pointer (some ⟨g20, 0, none⟩)), (22, .slice A30 (l33).length c31), (23, .int .i64 ((l33.length : Int))), (24, .int .i64 0)]) ⟨rfl, rfl, rfl, rfl, rfl, rfl, rfl, rfl, rfl, rfl, rfl, rfl, rfl, trivial⟩ (.refl _) ⟨hs2, A13, c14, hs12, hs7, rfl, rfl, (Base.Le.refl _), h5, rfl, h15, hnz39, h10⟩ ?_ ?_
  ·
   rintro k1391 ⟨x1383, x1384, l1385, l1387⟩ b1373 _ _ oL851 hknL851 ⟨hs1376, A1380, c1381, hs1379, hs1389, rfl, rfl, hle1374, h1377, hln1386, h1382, hnz1388, h1390⟩ hstepL851
   unfold mMendRoundMean_1_L851 at hstepL851
   have hm := (unc4E hstepL851)
   refine c_sr ?_
   refine t_st rfl (st_lss_t rfl rfl (by omega)) ?_
   refine t_ne ?_
   refine c_seq ?_
   refine c_cond_t rfl ?_
   refine c_skip ?_
   refine x_then_normal ?_
   refine c_seq ?_
   refine c_block ?_
   refine c_sr ?_
   refine t_mv rfl rfl ?_
   obtain ⟨x1394, h1395, hm⟩ := bindS hm
   obtain ⟨j1396, hj1397, hx1398⟩ := idx_some h1395
   obtain ⟨cs1399, hr1400, hcs1401, hA1402, hlt1403⟩ := FZ.get (sz := 4) rfl (by decide) (h32.le hle1374) hx1398
   obtain ⟨_, _, rfl, rfl, ⟨_, _, rfl, rfl, ⟨_, _, rfl, rfl, rfl⟩⟩⟩ := hr1400
   refine t_st rfl (st_index_old j1396 rfl rfl hj1397 hlt1403 hA1402 sl52) ?_
   refine t_st rfl (st_loadN_old (vs := [.int .i64 (x1394.From), .int .i64 (x1394.To), .int .i64 (x1394.Len), .int .i64 (x1394.Back)]) 4 rfl agg83 hA1402 rfl (fun j u hu => hcs1401 j u hu)) ?_
   refine t_do rfl (u_alloc [.int .i64 0, .int .i64 0, .int .i64 0, .int .i64 0] zero83 rfl) ?_
   rintro _ _ ⟨g1404, rfl, rfl⟩
   refine t_as rfl rfl ?_
   refine t_do rfl (u_storeN (vs := [_, _, _, _]) 0 4 rfl rfl rfl siz83 rfl (mem_c rfl (mem_c rfl (mem_c rfl (mem_c rfl mem_n)))) rfl (by simp)) ?_
   rintro _ _ rfl
   refine t_ne ?_
   refine c_seq ?_
   obtain ⟨x1408, hj1409, hk1409⟩ := bindS hm
   refine c_join (fun b1406 e' hp' => [(0, .int .i64 (x21)), (1, .int .i64 (x22)), (2, .slice A3 (l1385).length c4), (3, .slice A8 (l37).length c9), (4, .int .i64 (x23)), (5, .int .i64 (x24)), (7, .pointer (some ⟨g17, 0, none⟩)), (8, .pointer (some ⟨g18, 0, none⟩)), (9, .pointer (some ⟨g19, 0, none⟩)), (10, .pointer (some ⟨g20, 0, none⟩)), (17, .int .i64 ((k1391 : Int))), (18, .pointer (some ⟨g1404, 0, none⟩)), (22, .slice A30 (l33).length c31), (23, .int .i64 ((l33.length : Int))), (24, .int .i64 ((k1391 : Int))), (38, .bool (x1408))] = e' ∧ (g17, Cl 22 [.slice A1380 (l1387).length c1381]) :: (g18, Cl 3 [.int .i64 (x1383)]) :: (g19, Cl 3 [.int .i64 (x1384)]) :: (g20, Cl 116 [.func (.func 72) #[] #[.pointer (some ⟨g16, 0, none⟩), .pointer (some ⟨g17, 0, none⟩), .pointer (some ⟨g18, 0, none⟩), .pointer (some ⟨g19, 0, none⟩), .pointer (some ⟨g20, 0, none⟩)]]) :: (g1404, Cl 83 [.int .i64 (x1394.From), .int .i64 (x1394.To), .int .i64 (x1394.Len), .int .i64 (x1394.Back)]) :: (g16, Cl 54 [.int .i64 (x25), .slice A26 (l29).length c27, .slice A30 (l33).length c31]) :: (hs1376 ++ (hs1389 ++ (hs1379 ++ R))) = hp' ∧ b1373.Le b1406) ?_ ?_
   ·
    have hm := hj1409
    refine c_region ?_
    refine t_st rfl (st_field rfl fld83_0) ?_
    refine t_st rfl (st_load 0 rfl one3 rfl rfl) ?_
    refine t_mv rfl rfl ?_
    refine t_bool rfl (st_neq rfl rfl) (fun hc1410 => ?_) (fun hc1410 => ?_)
    ·
     rw [if_pos hc1410] at hm
     refine t_mv rfl rfl ?_
     refine t_no 33 rfl rfl rfl rfl rfl ?_
     refine t_no 33 rfl rfl rfl rfl rfl ?_
     refine t_no 33 rfl rfl rfl rfl rfl ?_
     refine t_no 33 rfl rfl rfl rfl rfl ?_
     refine t_st rfl (st_pick_t rfl rfl) ?_
     refine t_nil ?_
     obtain rfl := some1 hm
     refine x_pullb 5 rfl ?_
     refine x_pullb 1 rfl ?_
     refine x_pullb 5 rfl ?_
     refine x_pullb 5 rfl ?_
     refine x_pullb 5 rfl ?_
     refine x_pullb 5 rfl ?_
     refine x_front3 [_, _, _, _, _, _] hs1376 hs1389 hs1379 R rfl ?_
     refine x_front3 [_, _, _, _, _, _] hs1379 hs1376 hs1389 R rfl ?_
     refine x_front3 [_, _, _, _, _, _] hs1389 hs1379 hs1376 R rfl ?_
     exact x_join (e' := [(0, .int .i64 (x21)), (1, .int .i64 (x22)), (2, .slice A3 (l1385).length c4), (3, .slice A8 (l37).length c9), (4, .int .i64 (x23)), (5, .int .i64 (x24)), (7, .pointer (some ⟨g17, 0, none⟩)), (8, .pointer (some ⟨g18, 0, none⟩)), (9, .pointer (some ⟨g19, 0, none⟩)), (10, .pointer (some ⟨g20, 0, none⟩)), (17, .int .i64 ((k1391 : Int))), (18, .pointer (some ⟨g1404, 0, none⟩)), (22, .slice A30 (l33).length c31), (23, .int .i64 ((l33.length : Int))), (24, .int .i64 ((k1391 : Int))), (38, .bool (true))]) ⟨rfl, rfl, rfl, rfl, rfl, rfl, rfl, rfl, rfl, rfl, rfl, rfl, rfl, rfl, rfl, rfl, trivial⟩ (.refl _) ⟨rfl, rfl, (Base.Le.refl _)⟩
    ·
     rw [if_neg hc1410] at hm
     refine t_mv rfl rfl ?_
     refine t_yes 33 rfl rfl rfl ?_
     refine t_st rfl (st_field rfl fld83_1) ?_
     refine t_yes 33 rfl rfl rfl ?_
     refine t_st rfl (st_load 0 rfl one3 rfl rfl) ?_
     refine t_yes 33 rfl rfl rfl ?_
     refine t_mv rfl rfl ?_
     refine t_yes 33 rfl rfl rfl ?_
     refine t_st rfl (st_lss rfl rfl) ?_
     refine t_st rfl (st_pick_f rfl rfl) ?_
     refine t_nil ?_
     obtain rfl := some1 hm
     refine x_pullb 5 rfl ?_
     refine x_pullb 1 rfl ?_
     refine x_pullb 5 rfl ?_
     refine x_pullb 5 rfl ?_
     refine x_pullb 5 rfl ?_
     refine x_pullb 5 rfl ?_
     refine x_front3 [_, _, _, _, _, _] hs1376 hs1389 hs1379 R rfl ?_
     refine x_front3 [_, _, _, _, _, _] hs1379 hs1376 hs1389 R rfl ?_
     refine x_front3 [_, _, _, _, _, _] hs1389 hs1379 hs1376 R rfl ?_
     exact x_join (e' := [(0, .int .i64 (x21)), (1, .int .i64 (x22)), (2, .slice A3 (l1385).length c4), (3, .slice A8 (l37).length c9), (4, .int .i64 (x23)), (5, .int .i64 (x24)), (7, .pointer (some ⟨g17, 0, none⟩)), (8, .pointer (some ⟨g18, 0, none⟩)), (9, .pointer (some ⟨g19, 0, none⟩)), (10, .pointer (some ⟨g20, 0, none⟩)), (17, .int .i64 ((k1391 : Int))), (18, .pointer (some ⟨g1404, 0, none⟩)), (22, .slice A30 (l33).length c31), (23, .int .i64 ((l33.length : Int))), (24, .int .i64 ((k1391 : Int))), (38, .bool (decide (x1394.To < x21)))]) ⟨rfl, rfl, rfl, rfl, rfl, rfl, rfl, rfl, rfl, rfl, rfl, rfl, rfl, rfl, rfl, rfl, trivial⟩ (.refl _) ⟨rfl, rfl, (Base.Le.refl _)⟩
   ·
    rintro b1406 _ _ ⟨rfl, rfl, hle1407⟩
    have hm := hk1409
    refine c_cond _ rfl (fun hc1411 => ?_) (fun hc1411 => ?_)
    ·
     rw [if_pos hc1411] at hm
     refine c_exit ?_
     refine x_then_exit ?_
     refine x_block_out ?_
     refine x_then_normal ?_
     refine c_region ?_
     refine t_st rfl (st_add rfl rfl (by omega)) ?_
     refine t_mv rfl rfl ?_
     refine t_nil ?_
     refine x_pullb 5 rfl ?_
     refine x_pullb 4 rfl ?_
     refine x_pullb 4 rfl ?_
     refine x_pullb 4 rfl ?_
     refine x_pullb 4 rfl ?_
     refine x_front3 [_, _, _, _, _, _] hs1376 hs1389 hs1379 R rfl ?_
     refine x_front3 [_, _, _, _, _, _] hs1379 hs1376 hs1389 R rfl ?_
     refine x_front3 [_, _, _, _, _, _] hs1389 hs1379 hs1376 R rfl ?_
     obtain rfl := some1 hm
     exact x_againS (e' := [(0, .int .i64 (x21)), (1, .int .i64 (x22)), (2, .slice A3 (l1385).length c4), (3, .slice A8 (l37).length c9), (4, .int .i64 (x23)), (5, .int .i64 (x24)), (7, .pointer (some ⟨g17, 0, none⟩)), (8, .pointer (some ⟨g18, 0, none⟩)), (9, .pointer (some ⟨g19, 0, none⟩)), (10, .pointer (some ⟨g20, 0, none⟩)), (22, .slice A30 (l33).length c31), (23, .int .i64 ((l33.length : Int))), (24, .int .i64 ((k1391 : Int) + 1))]) ⟨rfl, rfl, rfl, rfl, rfl, rfl, rfl, rfl, rfl, rfl, rfl, rfl, rfl, trivial⟩ (.cons_cons _ (.cons_cons _ (.cons_cons _ (.cons_cons _ (.cons_cons _ (.cons _ (.refl _))))))) ⟨hs1376, A1380, c1381, hs1379, hs1389, rfl, rfl, ((hle1374.trans hle1407)), (h1377.le hle1407), hln1386, (h1382.le hle1407), hnz1388, (h1390.le hle1407)⟩
    ·
     rw [if_neg (fun hh => Bool.noConfusion (hh.symm.trans hc1411))] at hm
     refine c_skip ?_
     refine x_then_normal ?_
     refine c_sr ?_
     refine t_st rfl (st_field rfl fld83_1) ?_
     refine t_st rfl (st_load 4 rfl one3 rfl rfl) ?_
     refine t_mv rfl rfl ?_
     refine t_st rfl (st_eql rfl rfl) ?_
     refine t_ne ?_
     refine c_cond _ rfl (fun hc1412 => ?_) (fun hc1412 => ?_)
     ·
      rw [if_pos (of_decide_eq_true hc1412)] at hm
      refine c_seq ?_
      obtain ⟨_, h1415, hm⟩ := bindS hm
      obtain ⟨_, h1416, hm⟩ := bindS hm
      refine D_drawI mixed (.refl _) ?_
      refine E_st 0 rfl (st_move rfl) ?_
      refine E_st 1 rfl (st_field rfl fld83_2) ?_
      refine E_st 2 rfl (st_load 4 rfl one3 rfl rfl) ?_
      have h1415 := (chk_some h1415).2
      refine E_st 3 rfl (st_add rfl rfl h1415) ?_
      refine E_st 4 rfl (st_move rfl) ?_
      refine E_st 5 rfl (st_field rfl fld83_3) ?_
      refine E_st 6 rfl (st_load 4 rfl one3 rfl rfl) ?_
      have h1416 := (chk_some h1416).2
      refine E_st 7 rfl (st_add rfl rfl h1416) ?_
      refine E_st 8 rfl (st_assign rfl) ?_
      refine E_st 9 rfl (st_assign rfl) ?_
      refine E_out ?_
      refine D_done (by kernel_rfl) ?_
      refine x_then_normal ?_
      obtain ⟨x1422, hj1423, hk1423⟩ := bindS hm
      refine c_join (fun b1420 e' hp' => [(0, .int .i64 (x21)), (1, .int .i64 (x22)), (2, .slice A3 (l1385).length c4), (3, .slice A8 (l37).length c9), (4, .int .i64 (x23)), (5, .int .i64 (x24)), (7, .pointer (some ⟨g17, 0, none⟩)), (8, .pointer (some ⟨g18, 0, none⟩)), (9, .pointer (some ⟨g19, 0, none⟩)), (10, .pointer (some ⟨g20, 0, none⟩)), (17, .int .i64 ((k1391 : Int))), (19, .int .i64 (x23 + x1394.Len)), (20, .int .i64 (x24 + x1394.Back)), (22, .slice A30 (l33).length c31), (23, .int .i64 ((l33.length : Int))), (24, .int .i64 ((k1391 : Int))), (61, .bool (x1422))] = e' ∧ (g17, Cl 22 [.slice A1380 (l1387).length c1381]) :: (g18, Cl 3 [.int .i64 (x1383)]) :: (g19, Cl 3 [.int .i64 (x1384)]) :: (g20, Cl 116 [.func (.func 72) #[] #[.pointer (some ⟨g16, 0, none⟩), .pointer (some ⟨g17, 0, none⟩), .pointer (some ⟨g18, 0, none⟩), .pointer (some ⟨g19, 0, none⟩), .pointer (some ⟨g20, 0, none⟩)]]) :: (g16, Cl 54 [.int .i64 (x25), .slice A26 (l29).length c27, .slice A30 (l33).length c31]) :: (hs1376 ++ (hs1389 ++ (hs1379 ++ R))) = hp' ∧ b1406.Le b1420) ?_ ?_
      ·
       have hm := hj1423
       refine c_region ?_
       refine t_st rfl (st_load 0 rfl one22 rfl rfl) ?_
       refine t_st rfl (st_eqnil_z rfl rfl hnz1388 sl22) ?_
       rcases Bool.eq_false_or_eq_true l1387.isEmpty with hc1424 | hc1424
       ·
        rw [if_pos hc1424] at hm
        refine t_resp 52 rfl (v' := .bool true) (by rw [hc1424] <;> rfl) ?_
        refine t_mv rfl rfl ?_
        refine t_no 53 rfl rfl rfl rfl rfl ?_
        refine t_no 53 rfl rfl rfl rfl rfl ?_
        refine t_no 53 rfl rfl rfl rfl rfl ?_
        refine t_no 53 rfl rfl rfl rfl rfl ?_
        refine t_no 53 rfl rfl rfl rfl rfl ?_
        refine t_no 53 rfl rfl rfl rfl rfl ?_
        refine t_no 53 rfl rfl rfl rfl rfl ?_
        refine t_st rfl (st_pick_t rfl rfl) ?_
        refine t_nil ?_
        obtain rfl := some1 hm
        refine x_pullb 5 rfl ?_
        refine x_pullb 4 rfl ?_
        refine x_pullb 4 rfl ?_
        refine x_pullb 4 rfl ?_
        refine x_pullb 4 rfl ?_
        refine x_front3 [_, _, _, _, _, _] hs1376 hs1389 hs1379 R rfl ?_
        refine x_front3 [_, _, _, _, _, _] hs1379 hs1376 hs1389 R rfl ?_
        refine x_front3 [_, _, _, _, _, _] hs1389 hs1379 hs1376 R rfl ?_
        exact x_join (e' := [(0, .int .i64 (x21)), (1, .int .i64 (x22)), (2, .slice A3 (l1385).length c4), (3, .slice A8 (l37).length c9), (4, .int .i64 (x23)), (5, .int .i64 (x24)), (7, .pointer (some ⟨g17, 0, none⟩)), (8, .pointer (some ⟨g18, 0, none⟩)), (9, .pointer (some ⟨g19, 0, none⟩)), (10, .pointer (some ⟨g20, 0, none⟩)), (17, .int .i64 ((k1391 : Int))), (19, .int .i64 (x23 + x1394.Len)), (20, .int .i64 (x24 + x1394.Back)), (22, .slice A30 (l33).length c31), (23, .int .i64 ((l33.length : Int))), (24, .int .i64 ((k1391 : Int))), (61, .bool (true))]) ⟨rfl, rfl, rfl, rfl, rfl, rfl, rfl, rfl, rfl, rfl, rfl, rfl, rfl, rfl, rfl, rfl, rfl, trivial⟩ (.cons_cons _ (.cons_cons _ (.cons_cons _ (.cons_cons _ (.cons_cons _ (.cons _ (.refl _))))))) ⟨rfl, rfl, (Base.Le.refl _)⟩
       ·
        rw [if_neg (fun hh => Bool.noConfusion (hh.symm.trans hc1424))] at hm
        refine t_resp 52 rfl (v' := .bool false) (by rw [hc1424] <;> rfl) ?_
        refine t_mv rfl rfl ?_
        refine t_yes 53 rfl rfl rfl ?_
        refine t_mv rfl rfl ?_
        refine t_yes 53 rfl rfl rfl ?_
        refine t_st rfl (st_load 1 rfl one3 rfl rfl) ?_
        refine t_yes 53 rfl rfl rfl ?_
        obtain ⟨_, h1425, hm⟩ := bindS hm
        have h1425 := (chk_some h1425).2
        refine t_st rfl (st_mul rfl rfl h1425) ?_
        refine t_yes 53 rfl rfl rfl ?_
        refine t_st rfl (st_load 2 rfl one3 rfl rfl) ?_
        refine t_yes 53 rfl rfl rfl ?_
        refine t_mv rfl rfl ?_
        refine t_yes 53 rfl rfl rfl ?_
        obtain ⟨_, h1426, hm⟩ := bindS hm
        have h1426 := (chk_some h1426).2
        refine t_st rfl (st_mul rfl rfl h1426) ?_
        refine t_yes 53 rfl rfl rfl ?_
        refine t_st rfl (st_gtr rfl rfl) ?_
        refine t_st rfl (st_pick_f rfl rfl) ?_
        refine t_nil ?_
        obtain rfl := some1 hm
        refine x_pullb 5 rfl ?_
        refine x_pullb 4 rfl ?_
        refine x_pullb 4 rfl ?_
        refine x_pullb 4 rfl ?_
        refine x_pullb 4 rfl ?_
        refine x_front3 [_, _, _, _, _, _] hs1376 hs1389 hs1379 R rfl ?_
        refine x_front3 [_, _, _, _, _, _] hs1379 hs1376 hs1389 R rfl ?_
        refine x_front3 [_, _, _, _, _, _] hs1389 hs1379 hs1376 R rfl ?_
        exact x_join (e' := [(0, .int .i64 (x21)), (1, .int .i64 (x22)), (2, .slice A3 (l1385).length c4), (3, .slice A8 (l37).length c9), (4, .int .i64 (x23)), (5, .int .i64 (x24)), (7, .pointer (some ⟨g17, 0, none⟩)), (8, .pointer (some ⟨g18, 0, none⟩)), (9, .pointer (some ⟨g19, 0, none⟩)), (10, .pointer (some ⟨g20, 0, none⟩)), (17, .int .i64 ((k1391 : Int))), (19, .int .i64 (x23 + x1394.Len)), (20, .int .i64 (x24 + x1394.Back)), (22, .slice A30 (l33).length c31), (23, .int .i64 ((l33.length : Int))), (24, .int .i64 ((k1391 : Int))), (61, .bool (decide ((x1384 * (x24 + x1394.Back)) < ((x23 + x1394.Len) * x1383))))]) ⟨rfl, rfl, rfl, rfl, rfl, rfl, rfl, rfl, rfl, rfl, rfl, rfl, rfl, rfl, rfl, rfl, rfl, trivial⟩ (.cons_cons _ (.cons_cons _ (.cons_cons _ (.cons_cons _ (.cons_cons _ (.cons _ (.refl _))))))) ⟨rfl, rfl, (Base.Le.refl _)⟩
      ·
       rintro b1420 _ _ ⟨rfl, rfl, hle1421⟩
       have hm := hk1423
       refine c_cond _ rfl (fun hc1427 => ?_) (fun hc1427 => ?_)
       ·
        rw [if_pos hc1427] at hm
        refine c_region ?_
        refine t_mv rfl rfl ?_
        refine t_mv rfl rfl ?_
        refine t_mv rfl rfl ?_
        obtain ⟨l1428, hcl1429, hm⟩ := bindS hm
        refine t_do rfl (u_callWF [_, _, _, _, _] (hs1376 ++ (hs1389 ++ (hs1379 ++ R))) _ rfl call12 rfl (fun w ho => cSlicesClone _ [] l37 A8 c9 (OS.now (o := (OT.fr (RT.int .i64))) (l := l37) (hs := hs1389) (h1390.le (hle1407.trans hle1421)) ho (.cons _ (.cons _ (.cons _ (.cons _ (.cons _ (sub_skip hs1376 (List.sublist_append_left _ _)))))))) l1428 hcl1429)) ?_
        rintro _ _ ⟨_, _, rfl, A1430, c1431, hs1432, rfl, hq1435, h1433⟩
        obtain rfl := List.append_cancel_right hq1435
        have h1434 := flat_fz (w' := b1420.w) (fun _ _ _ _ h => h) h1433
        refine t_mv rfl rfl ?_
        refine t_do rfl (u_bslice (el := 3) [(0, .int .i64 ((k1391 : Int)))] [.int .i64 ((k1391 : Int))] rfl (fun _ => by kernel_rfl)) ?_
        rintro _ _ ⟨g1436, rfl, rfl⟩
        obtain ⟨_, h1437, hm⟩ := bindS hm
        have h1437 := room_some h1437
        refine t_do rfl (u_appOS (r := (RT.int .i64)) (l := l1428) [_, _, _, _, _, _] (hs1376 ++ (hs1389 ++ (hs1379 ++ R))) [[.int .i64 ((k1391 : Int))]] [(k1391 : Int)] rfl (by decide) sl22 inf3 rfl rfl rfl rfl h1434 rfl (fun w ho => Rd.own (i := 0) ho rfl) ⟨rfl, trivial⟩ h1437) ?_
        rintro _ _ ⟨hs1438, rfl, h1439⟩
        obtain ⟨A1440, c1441, rfl, _⟩ := h1439.form
        refine t_do rfl (u_store 3 rfl rfl siz3 rfl rfl (by simp)) ?_
        rintro _ _ rfl
        refine t_do rfl (u_store 2 rfl rfl siz3 rfl rfl (by simp)) ?_
        rintro _ _ rfl
        refine t_do rfl (u_store 1 rfl rfl siz22 rfl rfl (by simp)) ?_
        rintro _ _ rfl
        refine t_nil ?_
        refine x_block_normal ?_
        refine x_then_normal ?_
        refine c_region ?_
        refine t_st rfl (st_add rfl rfl (by omega)) ?_
        refine t_mv rfl rfl ?_
        refine t_nil ?_
        refine x_pullb 5 rfl ?_
        refine x_pullb 5 rfl ?_
        refine x_pullb 5 rfl ?_
        refine x_pullb 5 rfl ?_
        refine x_pullb 5 rfl ?_
        refine x_front3 [_, _, _, _, _, _] hs1438 hs1376 hs1389 (hs1379 ++ R) rfl ?_
        refine x_front3 [_, _, _, _, _, _] hs1389 hs1438 hs1376 (hs1379 ++ R) rfl ?_
        obtain rfl := some1 hm
        exact x_againS (e' := [(0, .int .i64 (x21)), (1, .int .i64 (x22)), (2, .slice A3 (l1385).length c4), (3, .slice A8 (l37).length c9), (4, .int .i64 (x23)), (5, .int .i64 (x24)), (7, .pointer (some ⟨g17, 0, none⟩)), (8, .pointer (some ⟨g18, 0, none⟩)), (9, .pointer (some ⟨g19, 0, none⟩)), (10, .pointer (some ⟨g20, 0, none⟩)), (22, .slice A30 (l33).length c31), (23, .int .i64 ((l33.length : Int))), (24, .int .i64 ((k1391 : Int) + 1))]) ⟨rfl, rfl, rfl, rfl, rfl, rfl, rfl, rfl, rfl, rfl, rfl, rfl, rfl, trivial⟩ (.cons_cons _ (.cons_cons _ (.cons_cons _ (.cons_cons _ (.cons_cons _ (.cons _ (sub_app hs1376 (sub_app hs1389 (sub_app hs1438 (sub_skip hs1379 (.refl _))))))))))) ⟨hs1376, A1440, c1441, hs1438, hs1389, rfl, rfl, ((hle1374.trans (hle1407.trans hle1421))), (h1377.le (hle1407.trans hle1421)), hln1386, h1439, (OS.nz h1439 (by simp)), (h1390.le (hle1407.trans hle1421))⟩
       ·
        rw [if_neg (fun hh => Bool.noConfusion (hh.symm.trans hc1427))] at hm
        refine c_skip ?_
        refine x_block_normal ?_
        refine x_then_normal ?_
        refine c_region ?_
        refine t_st rfl (st_add rfl rfl (by omega)) ?_
        refine t_mv rfl rfl ?_
        refine t_nil ?_
        refine x_pullb 4 rfl ?_
        refine x_pullb 4 rfl ?_
        refine x_pullb 4 rfl ?_
        refine x_pullb 4 rfl ?_
        refine x_pullb 4 rfl ?_
        refine x_front3 [_, _, _, _, _] hs1376 hs1389 hs1379 R rfl ?_
        refine x_front3 [_, _, _, _, _] hs1379 hs1376 hs1389 R rfl ?_
        refine x_front3 [_, _, _, _, _] hs1389 hs1379 hs1376 R rfl ?_
        obtain rfl := some1 hm
        exact x_againS (e' := [(0, .int .i64 (x21)), (1, .int .i64 (x22)), (2, .slice A3 (l1385).length c4), (3, .slice A8 (l37).length c9), (4, .int .i64 (x23)), (5, .int .i64 (x24)), (7, .pointer (some ⟨g17, 0, none⟩)), (8, .pointer (some ⟨g18, 0, none⟩)), (9, .pointer (some ⟨g19, 0, none⟩)), (10, .pointer (some ⟨g20, 0, none⟩)), (22, .slice A30 (l33).length c31), (23, .int .i64 ((l33.length : Int))), (24, .int .i64 ((k1391 : Int) + 1))]) ⟨rfl, rfl, rfl, rfl, rfl, rfl, rfl, rfl, rfl, rfl, rfl, rfl, rfl, trivial⟩ (.refl _) ⟨hs1376, A1380, c1381, hs1379, hs1389, rfl, rfl, ((hle1374.trans (hle1407.trans hle1421))), (h1377.le (hle1407.trans hle1421)), hln1386, (h1382.le (hle1407.trans hle1421)), hnz1388, (h1390.le (hle1407.trans hle1421))⟩
     ·
      rw [if_neg (of_decide_eq_false hc1412)] at hm
      refine c_sr ?_
      refine t_mv rfl rfl ?_
      refine t_st rfl (st_field rfl fld83_1) ?_
      refine t_st rfl (st_load 4 rfl one3 rfl rfl) ?_
      obtain ⟨x1442, h1443, hm⟩ := bindS hm
      obtain ⟨j1444, hj1445, hx1446⟩ := idx_some h1443
      obtain ⟨cs1447, hs1452, P1453, P1454, hq1455, hr1448, hcs1449, hA1450, hlt1451, hb1456, hho1457⟩ := OS.get (sz := 1) rfl (by decide) (h1377.le hle1407) hx1446
      obtain ⟨rfl, rfl⟩ := hr1448
      refine t_st rfl (st_index_old j1444 rfl rfl hj1445 hlt1451 hA1450 sl88) ?_
      refine t_st rfl (st_load_rd rfl one4 (fun w ho => hcs1449 w _ ho (.cons _ (.cons _ (.cons _ (.cons _ (.cons _ (.cons _ (List.sublist_append_left _ _))))))) 0 _ rfl)) ?_
      refine t_st rfl (st_not rfl) ?_
      refine t_ne ?_
      refine c_cond _ rfl (fun hc1458 => ?_) (fun hc1458 => ?_)
      ·
       rw [if_neg (fun hh => Bool.noConfusion (hh.symm.trans (notT hc1458)))] at hm
       refine c_sr ?_
       refine t_mv rfl rfl ?_
       refine t_st rfl (st_field rfl fld83_1) ?_
       refine t_st rfl (st_load 4 rfl one3 rfl rfl) ?_
       obtain ⟨x1459, h1460, hm⟩ := bindS hm
       obtain ⟨j1461, hj1462, hx1463⟩ := idx_some h1460
       obtain ⟨cs1464, hs1469, P1470, P1471, hq1472, hr1465, hcs1466, hA1467, hlt1468, hb1473, hho1474⟩ := OS.get (sz := 1) rfl (by decide) (h1377.le hle1407) hx1463
       obtain ⟨rfl, rfl⟩ := hr1465
       refine t_st rfl (st_index_old j1461 rfl rfl hj1462 hlt1468 hA1467 sl88) ?_
       refine t_do rfl (u_putOS hj1462 (sz := 1) (a' := true) rfl [_, _, _, _, _, _] (hs1389 ++ (hs1379 ++ R)) 0 1 [.bool (true)] rfl (h1377.le hle1407) hx1463 rfl rfl rfl siz4 rfl (mem_c rfl mem_n) (fun cs hsj hh => by obtain ⟨rfl, rfl⟩ := hh; exact ⟨by decide, rfl, rfl⟩)) ?_
       rintro _ _ ⟨hs1475, rfl, h1476⟩
       refine t_resp 2 rfl (v' := .slice A3 (put l1385 x1394.To true).length c4) (by simp only [put_length]) ?_
       refine t_ne ?_
       obtain ⟨⟨x1553, x1554, l1555, l1557⟩, hj1561, hk1561⟩ := bindS hm
       refine c_join (fun b1543 e' hp' => ∃ (hs1546 : Hp), ∃ (A1550 : Option Addr), ∃ (c1551 : Nat), ∃ (hs1549 : Hp), ∃ (hs1559 : Hp), [(0, .int .i64 (x21)), (1, .int .i64 (x22)), (2, .slice A3 (l1555).length c4), (3, .slice A8 (l37).length c9), (4, .int .i64 (x23)), (5, .int .i64 (x24)), (7, .pointer (some ⟨g17, 0, none⟩)), (8, .pointer (some ⟨g18, 0, none⟩)), (9, .pointer (some ⟨g19, 0, none⟩)), (10, .pointer (some ⟨g20, 0, none⟩)), (18, .pointer (some ⟨g1404, 0, none⟩)), (22, .slice A30 (l33).length c31), (23, .int .i64 ((l33.length : Int))), (24, .int .i64 ((k1391 : Int)))] = e' ∧ (g17, Cl 22 [.slice A1550 (l1557).length c1551]) :: (g18, Cl 3 [.int .i64 (x1553)]) :: (g19, Cl 3 [.int .i64 (x1554)]) :: (g20, Cl 116 [.func (.func 72) #[] #[.pointer (some ⟨g16, 0, none⟩), .pointer (some ⟨g17, 0, none⟩), .pointer (some ⟨g18, 0, none⟩), .pointer (some ⟨g19, 0, none⟩), .pointer (some ⟨g20, 0, none⟩)]]) :: (g1404, Cl 83 [.int .i64 (x1394.From), .int .i64 (x1394.To), .int .i64 (x1394.Len), .int .i64 (x1394.Back)]) :: (g16, Cl 54 [.int .i64 (x25), .slice A26 (l29).length c27, .slice A30 (l33).length c31]) :: (hs1546 ++ (hs1559 ++ (hs1549 ++ R))) = hp' ∧ b1406.Le b1543 ∧ OS 4 (OT.fr RT.bool) b1543.w (.slice A3 l1555.length c4) l1555 hs1546 ∧ l1555.length = l36.length ∧ OS 3 (OT.fr (RT.int .i64)) b1543.w (.slice A1550 l1557.length c1551) l1557 hs1549 ∧ (A1550 = none ↔ l1557 = []) ∧ OS 3 (OT.fr (RT.int .i64)) b1543.w (.slice A8 l37.length c9) l37 hs1559) ?_ ?_
       ·
        have hm := hj1561
        obtain ⟨_, h1590, hm⟩ := bindS hm
        obtain ⟨_, h1597, hm⟩ := bindS hm
        obtain ⟨_, h1598, hm⟩ := bindS hm
        obtain ⟨⟨x1599, x1600, l1601, l1602⟩, hcl1603, hm⟩ := bindS hm
        obtain ⟨Nhcl1603, hcl1603⟩ := lim_some hcl1603
        have hm := (unc4E hm)
        refine D_drawI mixed (.cons _ (.cons _ (.cons _ (.cons _ (.cons_cons _ (.cons _ (sub_skip hs1475 (sub_skip hs1389 (sub_skip hs1379 (.refl _)))))))))) ?_
        refine E_st 1 rfl (st_move rfl) ?_
        refine E_st 2 rfl (st_field rfl fld83_1) ?_
        refine E_st 3 rfl (st_load 0 rfl one3 rfl rfl) ?_
        refine E_st 4 rfl (st_move rfl) ?_
        refine E_st 5 rfl (st_move rfl) ?_
        refine E_st 6 rfl (st_move rfl) ?_
        refine E_st 9 rfl (st_move rfl) ?_
        refine E_st 10 rfl (st_field rfl fld83_2) ?_
        refine E_st 11 rfl (st_load 0 rfl one3 rfl rfl) ?_
        have h1597 := (chk_some h1597).2
        refine E_st 12 rfl (st_add rfl rfl h1597) ?_
        refine E_st 13 rfl (st_move rfl) ?_
        refine E_st 14 rfl (st_field rfl fld83_3) ?_
        refine E_st 15 rfl (st_load 0 rfl one3 rfl rfl) ?_
        have h1598 := (chk_some h1598).2
        refine E_st 16 rfl (st_add rfl rfl h1598) ?_
        refine E_out ?_
        refine D_all [0, 7] (by kernel_rfl) rfl ?_
        refine R_do (Base.Le.refl _) rfl rfl (Stable.does (st_load 3 rfl one116 rfl rfl)) ?_ ?_
        ·
         rintro _ _ ⟨rfl, rfl⟩
         refine ⟨.inr (.cons _ (.cons _ (.cons _ (.cons _ (.cons_cons _ (.cons _ (sub_skip hs1475 (sub_skip hs1389 (sub_skip hs1379 (.refl _)))))))))), ?_⟩
         refine D_all [7] (by kernel_rfl) rfl ?_
         refine R_do (Base.Le.refl _) rfl rfl (u_bslice (el := 3) [(0, .int .i64 ((k1391 : Int)))] [.int .i64 ((k1391 : Int))] rfl (fun _ => by kernel_rfl)) ?_ ?_
         ·
          rintro _ _ ⟨g1589, rfl, rfl⟩
          refine ⟨.inr (.cons _ (.cons _ (.cons _ (.cons _ (.cons _ (.cons_cons _ (.cons _ (sub_skip hs1475 (sub_skip hs1389 (sub_skip hs1379 (.refl _))))))))))), ?_⟩
          have h1590 := room_some h1590
          refine d_front2 [_, _, _, _, _, _, _] hs1475 hs1389 (hs1379 ++ R) rfl ?_
          refine D_all [8] (by kernel_rfl) rfl ?_
          refine R_do (Base.Le.refl _) rfl rfl (u_appK (r := (RT.int .i64)) (l := l37) [_, _, _, _, _, _, _] (hs1475 ++ (hs1379 ++ R)) [[.int .i64 ((k1391 : Int))]] [(k1391 : Int)] rfl (by decide) sl22 inf3 rfl rfl rfl rfl (by decide) (h1390.le hle1407) rfl (fun w ho => Rd.own (i := 0) ho rfl) ⟨rfl, trivial⟩ h1590) ?_ ?_
          ·
           rintro _ _ ⟨hs1591, hs1592, rfl, h1593, hk1594⟩
           obtain ⟨A1595, c1596, rfl, _⟩ := h1593.form
           refine ⟨.inr (.cons _ (.cons _ (.cons _ (.cons _ (.cons _ (.cons_cons _ (.cons _ (sub_skip hs1591 (sub_skip hs1592 (sub_skip hs1475 (sub_skip hs1379 (.refl _)))))))))))), ?_⟩
           refine d_pullb 4 rfl ?_
           refine d_pullb 4 rfl ?_
           refine d_pullb 4 rfl ?_
           refine d_pullb 4 rfl ?_
           refine d_pullb 6 rfl ?_
           refine d_front4 [_, _, _, _, _, _, _] hs1591 hs1592 hs1475 hs1379 R rfl ?_
           refine d_front2 [_, _, _, _, _, _, _] hs1379 hs1591 (hs1592 ++ (hs1475 ++ R)) rfl ?_
           refine d_front4 [_, _, _, _, _, _, _] hs1591 hs1379 hs1592 hs1475 R rfl ?_
           refine d_out3 [_, _, _, _, _] [_, _] hs1475 hs1591 hs1379 (hs1592 ++ R) rfl ?_
           refine D_all [17] (by kernel_rfl) rfl ?_
           refine R_callvG (Base.Le.refl _) rfl rfl #[] #[.pointer (some ⟨g16, 0, none⟩), .pointer (some ⟨g17, 0, none⟩), .pointer (some ⟨g18, 0, none⟩), .pointer (some ⟨g19, 0, none⟩), .pointer (some ⟨g20, 0, none⟩)] [.int .i64 (x21), .int .i64 (x1394.To), .slice A3 (put l1385 x1394.To true).length c4, .slice A1595 (l37 ++ [(k1391 : Int)]).length c1596, .int .i64 (x23 + x1394.Len), .int .i64 (x24 + x1394.Back)] rfl call72 rfl (cMendRoundMean_1_2 Nhcl1603 _ _ x21 x1394.To (x23 + x1394.Len) (x24 + x1394.Back) x25 l29 l33 x1383 x1384 (put l1385 x1394.To true) (l37 ++ [(k1391 : Int)]) l1387 g16 g17 g18 g19 g20 A26 c27 A30 c31 A3 c4 hs1475 A1595 c1596 hs1591 A1380 c1381 hs1379 (h28.le (hle1374.trans hle1407)) (h32.le (hle1374.trans hle1407)) h1476 h1593 (OS.nz h1593 (by simp)) (h1382.le hle1407) hnz1388 x1599 x1600 l1601 l1602 hcl1603) ?_ ?_
           ·
            rintro _ b1604 _ hle1605 ⟨hs1606, A1607, c1608, hs1609, hs1610, rfl, rfl, h1611, h1612, h1613, h1614, h1615⟩
            refine ⟨.inr (.cons _ (.cons _ (.cons _ (.cons _ (.cons _ (sub_skip hs1606 (sub_skip hs1610 (sub_skip hs1609 (.cons _ (.cons_cons _ (sub_skip hs1592 (.refl _)))))))))))), ?_⟩
            refine d_in3 [_, _, _, _, _] [_, _] hs1606 hs1610 hs1609 (hs1592 ++ R) rfl ?_
            refine d_resp 2 rfl (v' := .slice A3 (l1601).length c4) (by rw [h1612]) ?_
            refine D_done (by kernel_rfl) ?_
            refine x_front4 [_, _, _, _, _, _, _] hs1606 hs1610 hs1609 hs1592 R rfl ?_
            refine x_front3 [_, _, _, _, _, _, _] hs1592 hs1606 hs1610 (hs1609 ++ R) rfl ?_
            obtain ⟨hs1616, hb1617, h1618⟩ := KeepB.back (hk1594.le hle1605) rfl h1615 (List.take_left)
            have hb1619 := sub_back (R := (hs1606 ++ (hs1609 ++ R))) hb1617
            refine x_drop (.cons_cons _ (.cons_cons _ (.cons_cons _ (.cons_cons _ (.cons_cons _ (.cons_cons _ (.cons_cons _ hb1619))))))) ?_
            obtain ⟨rfl, rfl, rfl, rfl⟩ := some4 hm
            refine x_pullb 6 rfl ?_
            refine x_pullb 5 rfl ?_
            refine x_pullb 5 rfl ?_
            refine x_pullb 5 rfl ?_
            refine x_pullb 5 rfl ?_
            refine x_front3 [_, _, _, _, _, _, _] hs1616 hs1606 hs1609 R rfl ?_
            refine x_front2 [_, _, _, _, _, _, _] hs1609 hs1616 (hs1606 ++ R) rfl ?_
            refine x_front3 [_, _, _, _, _, _, _] hs1616 hs1609 hs1606 R rfl ?_
            exact x_join (e' := [(0, .int .i64 (x21)), (1, .int .i64 (x22)), (2, .slice A3 (l1601).length c4), (3, .slice A8 (l37).length c9), (4, .int .i64 (x23)), (5, .int .i64 (x24)), (7, .pointer (some ⟨g17, 0, none⟩)), (8, .pointer (some ⟨g18, 0, none⟩)), (9, .pointer (some ⟨g19, 0, none⟩)), (10, .pointer (some ⟨g20, 0, none⟩)), (18, .pointer (some ⟨g1404, 0, none⟩)), (22, .slice A30 (l33).length c31), (23, .int .i64 ((l33.length : Int))), (24, .int .i64 ((k1391 : Int)))]) ⟨rfl, rfl, rfl, rfl, rfl, rfl, rfl, rfl, rfl, rfl, rfl, rfl, rfl, rfl, trivial⟩ (.cons_cons _ (.cons_cons _ (.cons_cons _ (.cons_cons _ (.cons_cons _ (.cons_cons _ (.cons _ (.refl _)))))))) ⟨hs1606, A1607, c1608, hs1609, hs1616, rfl, rfl, hle1605, h1611, (h1612.trans ((put_length _ _ _).trans hln1386)), h1613, h1614, h1618⟩
           exact R_nil
          exact R_nil
         exact R_nil
        refine R_do (Base.Le.refl _) rfl rfl (u_bslice (el := 3) [(0, .int .i64 ((k1391 : Int)))] [.int .i64 ((k1391 : Int))] rfl (fun _ => by kernel_rfl)) ?_ ?_
        ·
         rintro _ _ ⟨g1589, rfl, rfl⟩
         refine ⟨.inr (.cons _ (.cons _ (.cons _ (.cons _ (.cons _ (.cons_cons _ (.cons _ (sub_skip hs1475 (sub_skip hs1389 (sub_skip hs1379 (.refl _))))))))))), ?_⟩
         have h1590 := room_some h1590
         refine d_front2 [_, _, _, _, _, _, _] hs1475 hs1389 (hs1379 ++ R) rfl ?_
         refine D_all [0, 8] (by kernel_rfl) rfl ?_
         refine R_do (Base.Le.refl _) rfl rfl (Stable.does (st_load 4 rfl one116 rfl rfl)) ?_ ?_
         ·
          rintro _ _ ⟨rfl, rfl⟩
          refine ⟨.inr (.cons _ (.cons _ (.cons _ (.cons _ (.cons _ (.cons_cons _ (.cons _ (sub_skip hs1389 (sub_skip hs1475 (sub_skip hs1379 (.refl _))))))))))), ?_⟩
          refine D_all [8] (by kernel_rfl) rfl ?_
          refine R_do (Base.Le.refl _) rfl rfl (u_appK (r := (RT.int .i64)) (l := l37) [_, _, _, _, _, _, _] (hs1475 ++ (hs1379 ++ R)) [[.int .i64 ((k1391 : Int))]] [(k1391 : Int)] rfl (by decide) sl22 inf3 rfl rfl rfl rfl (by decide) (h1390.le hle1407) rfl (fun w ho => Rd.own (i := 0) ho rfl) ⟨rfl, trivial⟩ h1590) ?_ ?_
          ·
           rintro _ _ ⟨hs1591, hs1592, rfl, h1593, hk1594⟩
           obtain ⟨A1595, c1596, rfl, _⟩ := h1593.form
           refine ⟨.inr (.cons _ (.cons _ (.cons _ (.cons _ (.cons _ (.cons_cons _ (.cons _ (sub_skip hs1591 (sub_skip hs1592 (sub_skip hs1475 (sub_skip hs1379 (.refl _)))))))))))), ?_⟩
           refine d_pullb 4 rfl ?_
           refine d_pullb 4 rfl ?_
           refine d_pullb 4 rfl ?_
           refine d_pullb 4 rfl ?_
           refine d_pullb 6 rfl ?_
           refine d_front4 [_, _, _, _, _, _, _] hs1591 hs1592 hs1475 hs1379 R rfl ?_
           refine d_front2 [_, _, _, _, _, _, _] hs1379 hs1591 (hs1592 ++ (hs1475 ++ R)) rfl ?_
           refine d_front4 [_, _, _, _, _, _, _] hs1591 hs1379 hs1592 hs1475 R rfl ?_
           refine d_out3 [_, _, _, _, _] [_, _] hs1475 hs1591 hs1379 (hs1592 ++ R) rfl ?_
           refine D_all [17] (by kernel_rfl) rfl ?_
           refine R_callvG (Base.Le.refl _) rfl rfl #[] #[.pointer (some ⟨g16, 0, none⟩), .pointer (some ⟨g17, 0, none⟩), .pointer (some ⟨g18, 0, none⟩), .pointer (some ⟨g19, 0, none⟩), .pointer (some ⟨g20, 0, none⟩)] [.int .i64 (x21), .int .i64 (x1394.To), .slice A3 (put l1385 x1394.To true).length c4, .slice A1595 (l37 ++ [(k1391 : Int)]).length c1596, .int .i64 (x23 + x1394.Len), .int .i64 (x24 + x1394.Back)] rfl call72 rfl (cMendRoundMean_1_2 Nhcl1603 _ _ x21 x1394.To (x23 + x1394.Len) (x24 + x1394.Back) x25 l29 l33 x1383 x1384 (put l1385 x1394.To true) (l37 ++ [(k1391 : Int)]) l1387 g16 g17 g18 g19 g20 A26 c27 A30 c31 A3 c4 hs1475 A1595 c1596 hs1591 A1380 c1381 hs1379 (h28.le (hle1374.trans hle1407)) (h32.le (hle1374.trans hle1407)) h1476 h1593 (OS.nz h1593 (by simp)) (h1382.le hle1407) hnz1388 x1599 x1600 l1601 l1602 hcl1603) ?_ ?_
           ·
            rintro _ b1604 _ hle1605 ⟨hs1606, A1607, c1608, hs1609, hs1610, rfl, rfl, h1611, h1612, h1613, h1614, h1615⟩
            refine ⟨.inr (.cons _ (.cons _ (.cons _ (.cons _ (.cons _ (sub_skip hs1606 (sub_skip hs1610 (sub_skip hs1609 (.cons _ (.cons_cons _ (sub_skip hs1592 (.refl _)))))))))))), ?_⟩
            refine d_in3 [_, _, _, _, _] [_, _] hs1606 hs1610 hs1609 (hs1592 ++ R) rfl ?_
            refine d_resp 2 rfl (v' := .slice A3 (l1601).length c4) (by rw [h1612]) ?_
            refine D_done (by kernel_rfl) ?_
            refine x_front4 [_, _, _, _, _, _, _] hs1606 hs1610 hs1609 hs1592 R rfl ?_
            refine x_front3 [_, _, _, _, _, _, _] hs1592 hs1606 hs1610 (hs1609 ++ R) rfl ?_
            obtain ⟨hs1620, hb1621, h1622⟩ := KeepB.back (hk1594.le hle1605) rfl h1615 (List.take_left)
            have hb1623 := sub_back (R := (hs1606 ++ (hs1609 ++ R))) hb1621
            refine x_drop (.cons_cons _ (.cons_cons _ (.cons_cons _ (.cons_cons _ (.cons_cons _ (.cons_cons _ (.cons_cons _ hb1623))))))) ?_
            obtain ⟨rfl, rfl, rfl, rfl⟩ := some4 hm
            refine x_pullb 6 rfl ?_
            refine x_pullb 5 rfl ?_
            refine x_pullb 5 rfl ?_
            refine x_pullb 5 rfl ?_
            refine x_pullb 5 rfl ?_
            refine x_front3 [_, _, _, _, _, _, _] hs1620 hs1606 hs1609 R rfl ?_
            refine x_front2 [_, _, _, _, _, _, _] hs1609 hs1620 (hs1606 ++ R) rfl ?_
            refine x_front3 [_, _, _, _, _, _, _] hs1620 hs1609 hs1606 R rfl ?_
            exact x_join (e' := [(0, .int .i64 (x21)), (1, .int .i64 (x22)), (2, .slice A3 (l1601).length c4), (3, .slice A8 (l37).length c9), (4, .int .i64 (x23)), (5, .int .i64 (x24)), (7, .pointer (some ⟨g17, 0, none⟩)), (8, .pointer (some ⟨g18, 0, none⟩)), (9, .pointer (some ⟨g19, 0, none⟩)), (10, .pointer (some ⟨g20, 0, none⟩)), (18, .pointer (some ⟨g1404, 0, none⟩)), (22, .slice A30 (l33).length c31), (23, .int .i64 ((l33.length : Int))), (24, .int .i64 ((k1391 : Int)))]) ⟨rfl, rfl, rfl, rfl, rfl, rfl, rfl, rfl, rfl, rfl, rfl, rfl, rfl, rfl, trivial⟩ (.cons_cons _ (.cons_cons _ (.cons_cons _ (.cons_cons _ (.cons_cons _ (.cons_cons _ (.cons _ (.refl _)))))))) ⟨hs1606, A1607, c1608, hs1609, hs1620, rfl, rfl, hle1605, h1611, (h1612.trans ((put_length _ _ _).trans hln1386)), h1613, h1614, h1622⟩
           exact R_nil
          exact R_nil
         refine R_do (Base.Le.refl _) rfl rfl (u_appK (r := (RT.int .i64)) (l := l37) [_, _, _, _, _, _, _] (hs1475 ++ (hs1379 ++ R)) [[.int .i64 ((k1391 : Int))]] [(k1391 : Int)] rfl (by decide) sl22 inf3 rfl rfl rfl rfl (by decide) (h1390.le hle1407) rfl (fun w ho => Rd.own (i := 0) ho rfl) ⟨rfl, trivial⟩ h1590) ?_ ?_
         ·
          rintro _ _ ⟨hs1591, hs1592, rfl, h1593, hk1594⟩
          obtain ⟨A1595, c1596, rfl, _⟩ := h1593.form
          refine ⟨.inr (.cons _ (.cons _ (.cons _ (.cons _ (.cons _ (.cons_cons _ (.cons _ (sub_skip hs1591 (sub_skip hs1592 (sub_skip hs1475 (sub_skip hs1379 (.refl _)))))))))))), ?_⟩
          refine D_all [0] (by kernel_rfl) rfl ?_
          refine R_do (Base.Le.refl _) rfl rfl (Stable.does (st_load 4 rfl one116 rfl rfl)) ?_ ?_
          ·
           rintro _ _ ⟨rfl, rfl⟩
           refine ⟨.inr (.cons _ (.cons _ (.cons _ (.cons _ (.cons _ (.cons_cons _ (.cons _ (sub_skip hs1591 (sub_skip hs1592 (sub_skip hs1475 (sub_skip hs1379 (.refl _)))))))))))), ?_⟩
           refine d_pullb 4 rfl ?_
           refine d_pullb 4 rfl ?_
           refine d_pullb 4 rfl ?_
           refine d_pullb 4 rfl ?_
           refine d_pullb 6 rfl ?_
           refine d_front4 [_, _, _, _, _, _, _] hs1591 hs1592 hs1475 hs1379 R rfl ?_
           refine d_front2 [_, _, _, _, _, _, _] hs1379 hs1591 (hs1592 ++ (hs1475 ++ R)) rfl ?_
           refine d_front4 [_, _, _, _, _, _, _] hs1591 hs1379 hs1592 hs1475 R rfl ?_
           refine d_out3 [_, _, _, _, _] [_, _] hs1475 hs1591 hs1379 (hs1592 ++ R) rfl ?_
           refine D_all [17] (by kernel_rfl) rfl ?_
           refine R_callvG (Base.Le.refl _) rfl rfl #[] #[.pointer (some ⟨g16, 0, none⟩), .pointer (some ⟨g17, 0, none⟩), .pointer (some ⟨g18, 0, none⟩), .pointer (some ⟨g19, 0, none⟩), .pointer (some ⟨g20, 0, none⟩)] [.int .i64 (x21), .int .i64 (x1394.To), .slice A3 (put l1385 x1394.To true).length c4, .slice A1595 (l37 ++ [(k1391 : Int)]).length c1596, .int .i64 (x23 + x1394.Len), .int .i64 (x24 + x1394.Back)] rfl call72 rfl (cMendRoundMean_1_2 Nhcl1603 _ _ x21 x1394.To (x23 + x1394.Len) (x24 + x1394.Back) x25 l29 l33 x1383 x1384 (put l1385 x1394.To true) (l37 ++ [(k1391 : Int)]) l1387 g16 g17 g18 g19 g20 A26 c27 A30 c31 A3 c4 hs1475 A1595 c1596 hs1591 A1380 c1381 hs1379 (h28.le (hle1374.trans hle1407)) (h32.le (hle1374.trans hle1407)) h1476 h1593 (OS.nz h1593 (by simp)) (h1382.le hle1407) hnz1388 x1599 x1600 l1601 l1602 hcl1603) ?_ ?_
           ·
            rintro _ b1604 _ hle1605 ⟨hs1606, A1607, c1608, hs1609, hs1610, rfl, rfl, h1611, h1612, h1613, h1614, h1615⟩
            refine ⟨.inr (.cons _ (.cons _ (.cons _ (.cons _ (.cons _ (sub_skip hs1606 (sub_skip hs1610 (sub_skip hs1609 (.cons _ (.cons_cons _ (sub_skip hs1592 (.refl _)))))))))))), ?_⟩
            refine d_in3 [_, _, _, _, _] [_, _] hs1606 hs1610 hs1609 (hs1592 ++ R) rfl ?_
            refine d_resp 2 rfl (v' := .slice A3 (l1601).length c4) (by rw [h1612]) ?_
            refine D_done (by kernel_rfl) ?_
            refine x_front4 [_, _, _, _, _, _, _] hs1606 hs1610 hs1609 hs1592 R rfl ?_
            refine x_front3 [_, _, _, _, _, _, _] hs1592 hs1606 hs1610 (hs1609 ++ R) rfl ?_
            obtain ⟨hs1624, hb1625, h1626⟩ := KeepB.back (hk1594.le hle1605) rfl h1615 (List.take_left)
            have hb1627 := sub_back (R := (hs1606 ++ (hs1609 ++ R))) hb1625
            refine x_drop (.cons_cons _ (.cons_cons _ (.cons_cons _ (.cons_cons _ (.cons_cons _ (.cons_cons _ (.cons_cons _ hb1627))))))) ?_
            obtain ⟨rfl, rfl, rfl, rfl⟩ := some4 hm
            refine x_pullb 6 rfl ?_
            refine x_pullb 5 rfl ?_
            refine x_pullb 5 rfl ?_
            refine x_pullb 5 rfl ?_
            refine x_pullb 5 rfl ?_
            refine x_front3 [_, _, _, _, _, _, _] hs1624 hs1606 hs1609 R rfl ?_
            refine x_front2 [_, _, _, _, _, _, _] hs1609 hs1624 (hs1606 ++ R) rfl ?_
            refine x_front3 [_, _, _, _, _, _, _] hs1624 hs1609 hs1606 R rfl ?_
            exact x_join (e' := [(0, .int .i64 (x21)), (1, .int .i64 (x22)), (2, .slice A3 (l1601).length c4), (3, .slice A8 (l37).length c9), (4, .int .i64 (x23)), (5, .int .i64 (x24)), (7, .pointer (some ⟨g17, 0, none⟩)), (8, .pointer (some ⟨g18, 0, none⟩)), (9, .pointer (some ⟨g19, 0, none⟩)), (10, .pointer (some ⟨g20, 0, none⟩)), (18, .pointer (some ⟨g1404, 0, none⟩)), (22, .slice A30 (l33).length c31), (23, .int .i64 ((l33.length : Int))), (24, .int .i64 ((k1391 : Int)))]) ⟨rfl, rfl, rfl, rfl, rfl, rfl, rfl, rfl, rfl, rfl, rfl, rfl, rfl, rfl, trivial⟩ (.cons_cons _ (.cons_cons _ (.cons_cons _ (.cons_cons _ (.cons_cons _ (.cons_cons _ (.cons _ (.refl _)))))))) ⟨hs1606, A1607, c1608, hs1609, hs1624, rfl, rfl, hle1605, h1611, (h1612.trans ((put_length _ _ _).trans hln1386)), h1613, h1614, h1626⟩
           exact R_nil
          exact R_nil
         exact R_nil
        exact R_nil
       ·
        rintro b1543 _ _ ⟨hs1546, A1550, c1551, hs1549, hs1559, rfl, rfl, hle1544, h1547, hln1556, h1552, hnz1558, h1560⟩
        have hm := (unc4E hk1561)
        refine c_region ?_
        refine t_mv rfl rfl ?_
        refine t_st rfl (st_field rfl fld83_1) ?_
        refine t_st rfl (st_load 4 rfl one3 rfl rfl) ?_
        obtain ⟨x1628, h1629, hm⟩ := bindS hm
        obtain ⟨j1630, hj1631, hx1632⟩ := idx_some h1629
        obtain ⟨cs1633, hs1638, P1639, P1640, hq1641, hr1634, hcs1635, hA1636, hlt1637, hb1642, hho1643⟩ := OS.get (sz := 1) rfl (by decide) h1547 hx1632
        obtain ⟨rfl, rfl⟩ := hr1634
        refine t_st rfl (st_index_old j1630 rfl rfl hj1631 hlt1637 hA1636 sl88) ?_
        refine t_do rfl (u_putOS hj1631 (sz := 1) (a' := false) rfl [_, _, _, _, _, _] (hs1559 ++ (hs1549 ++ R)) 0 1 [.bool (false)] rfl h1547 hx1632 rfl rfl rfl siz4 rfl (mem_c rfl mem_n) (fun cs hsj hh => by obtain ⟨rfl, rfl⟩ := hh; exact ⟨by decide, rfl, rfl⟩)) ?_
        rintro _ _ ⟨hs1644, rfl, h1645⟩
        refine t_resp 2 rfl (v' := .slice A3 (put l1555 x1394.To false).length c4) (by simp only [put_length]) ?_
        refine t_nil ?_
        refine x_block_normal ?_
        refine x_then_normal ?_
        refine c_region ?_
        refine t_st rfl (st_add rfl rfl (by omega)) ?_
        refine t_mv rfl rfl ?_
        refine t_nil ?_
        refine x_pullb 5 rfl ?_
        refine x_pullb 4 rfl ?_
        refine x_pullb 4 rfl ?_
        refine x_pullb 4 rfl ?_
        refine x_pullb 4 rfl ?_
        refine x_front3 [_, _, _, _, _, _] hs1644 hs1559 hs1549 R rfl ?_
        refine x_front3 [_, _, _, _, _, _] hs1549 hs1644 hs1559 R rfl ?_
        refine x_front3 [_, _, _, _, _, _] hs1559 hs1549 hs1644 R rfl ?_
        obtain rfl := some1 hm
        exact x_againS (e' := [(0, .int .i64 (x21)), (1, .int .i64 (x22)), (2, .slice A3 (put l1555 x1394.To false).length c4), (3, .slice A8 (l37).length c9), (4, .int .i64 (x23)), (5, .int .i64 (x24)), (7, .pointer (some ⟨g17, 0, none⟩)), (8, .pointer (some ⟨g18, 0, none⟩)), (9, .pointer (some ⟨g19, 0, none⟩)), (10, .pointer (some ⟨g20, 0, none⟩)), (22, .slice A30 (l33).length c31), (23, .int .i64 ((l33.length : Int))), (24, .int .i64 ((k1391 : Int) + 1))]) ⟨rfl, rfl, rfl, rfl, rfl, rfl, rfl, rfl, rfl, rfl, rfl, rfl, rfl, trivial⟩ (.cons_cons _ (.cons_cons _ (.cons_cons _ (.cons_cons _ (.cons_cons _ (.cons _ (.refl _))))))) ⟨hs1644, A1550, c1551, hs1549, hs1559, rfl, rfl, ((hle1374.trans (hle1407.trans hle1544))), h1645, ((put_length _ _ _).trans hln1556), h1552, hnz1558, h1560⟩
      ·
       rw [if_pos (notF hc1458)] at hm
       refine c_skip ?_
       refine x_block_normal ?_
       refine x_then_normal ?_
       refine c_region ?_
       refine t_st rfl (st_add rfl rfl (by omega)) ?_
       refine t_mv rfl rfl ?_
       refine t_nil ?_
       refine x_pullb 5 rfl ?_
       refine x_pullb 4 rfl ?_
       refine x_pullb 4 rfl ?_
       refine x_pullb 4 rfl ?_
       refine x_pullb 4 rfl ?_
       refine x_front3 [_, _, _, _, _, _] hs1376 hs1389 hs1379 R rfl ?_
       refine x_front3 [_, _, _, _, _, _] hs1379 hs1376 hs1389 R rfl ?_
       refine x_front3 [_, _, _, _, _, _] hs1389 hs1379 hs1376 R rfl ?_
       obtain rfl := some1 hm
       exact x_againS (e' := [(0, .int .i64 (x21)), (1, .int .i64 (x22)), (2, .slice A3 (l1385).length c4), (3, .slice A8 (l37).length c9), (4, .int .i64 (x23)), (5, .int .i64 (x24)), (7, .pointer (some ⟨g17, 0, none⟩)), (8, .pointer (some ⟨g18, 0, none⟩)), (9, .pointer (some ⟨g19, 0, none⟩)), (10, .pointer (some ⟨g20, 0, none⟩)), (22, .slice A30 (l33).length c31), (23, .int .i64 ((l33.length : Int))), (24, .int .i64 ((k1391 : Int) + 1))]) ⟨rfl, rfl, rfl, rfl, rfl, rfl, rfl, rfl, rfl, rfl, rfl, rfl, rfl, trivial⟩ (.cons_cons _ (.cons_cons _ (.cons_cons _ (.cons_cons _ (.cons_cons _ (.cons _ (.refl _))))))) ⟨hs1376, A1380, c1381, hs1379, hs1389, rfl, rfl, ((hle1374.trans hle1407)), (h1377.le hle1407), hln1386, (h1382.le hle1407), hnz1388, (h1390.le hle1407)⟩
  ·
   rintro b1373 _ _ ⟨hs1376, A1380, c1381, hs1379, hs1389, rfl, rfl, hle1374, h1377, hln1386, h1382, hnz1388, h1390⟩
   have hm := (unc4E hk1393)
   refine c_sr ?_
   refine t_st rfl (st_lss_f rfl rfl (by omega)) ?_
   refine t_ne ?_
   refine c_seq ?_
   refine c_cond_f rfl ?_
   refine c_exit ?_
   refine x_then_exit ?_
   refine x_then_exit ?_
   refine x_block_out ?_
   obtain ⟨rfl, rfl, rfl, rfl⟩ := some4 hm
   refine x_pullb 3 rfl ?_
   refine x_pullb 3 rfl ?_
   refine x_pullb 3 rfl ?_
   refine x_pullb 3 rfl ?_
   refine x_pullb 4 rfl ?_
   refine x_front3 [_, _, _, _, _] hs1376 hs1389 hs1379 R rfl ?_
   refine x_front3 [_, _, _, _, _] hs1379 hs1376 hs1389 R rfl ?_
   refine x_front3 [_, _, _, _, _] hs1389 hs1379 hs1376 R rfl ?_
   exact endM hle1374 rfl (.refl _) ⟨hs1376, A1380, c1381, hs1379, hs1389, rfl, rfl, h1377, hln1386, h1382, hnz1388, h1390⟩

set_option maxRecDepth 20000 in
theorem cMendRoundMean (b : Base) (R : Hp) (s1 : MendRound) (A2 : Option Addr) (c3 : Nat) (A5 : Option Addr) (c6 : Nat) (h4 : FZ (RT.int .i64) b.w A2 c3 s1.Plan) (h7 : FZ rMendLink b.w A5 c6 s1.Links) (x118 : Int) (x119 : Int) (l120 : (List Int)) (hm : mMendRoundMean s1 = some (x118, x119, l120)) :
    CallsG Try.prog 68 [.agg #[.int .i64 (s1.Period), .slice A2 (s1.Plan).length c3, .slice A5 (s1.Links).length c6]] b (R) (fun v b' hp' => ∃ (A115 : Option Addr), ∃ (c116 : Nat), ∃ (hs114 : Hp), .tuple #[.int .i64 (x118), .int .i64 (x119), .slice A115 (l120).length c116] = v ∧ (hs114 ++ R) = hp' ∧ OS 3 (OT.fr (RT.int .i64)) b'.w (.slice A115 l120.length c116) l120 hs114 ∧ (A115 = none ↔ l120 = [])) := by
  refine fn_enterG 28 Try.func68 rfl Try.ntmps68 rfl ?_
  unfold mMendRoundMean at hm
  refine c_sr ?_
  refine t_do rfl (u_box _ rfl rfl) ?_
  rintro _ _ ⟨g122, rfl, rfl⟩
  refine t_do rfl (u_alloc [.int .i64 0] zero3 rfl) ?_
  rintro _ _ ⟨g123, rfl, rfl⟩
  refine t_do rfl (u_alloc [.int .i64 0] zero3 rfl) ?_
  rintro _ _ ⟨g124, rfl, rfl⟩
  refine t_do rfl (u_alloc [.slice none 0 0] zero22 rfl) ?_
  rintro _ _ ⟨g125, rfl, rfl⟩
  refine t_ne ?_
  refine c_sr ?_
  refine t_do rfl (u_alloc [.nilFunc] zero116 rfl) ?_
  rintro _ _ ⟨g126, rfl, rfl⟩
  refine t_ne ?_
  refine c_sr ?_
  refine t_st rfl (st_func _ _ rfl rfl) ?_
  refine t_do rfl (u_store 0 rfl rfl siz116 rfl rfl (by simp)) ?_
  rintro _ _ rfl
  refine t_ne ?_
  refine c_seq ?_
  refine c_sr ?_
  refine t_st rfl (st_field rfl fld54_1) ?_
  refine t_st rfl (st_load 4 rfl one22 rfl rfl) ?_
  refine t_st rfl (st_len rfl sl22) ?_
  refine t_mv rfl rfl ?_
  refine t_ne ?_
  refine c_block ?_
  have hb128 : s1.Plan.length ≤ 9223372036854775807 := (FZ.bd h4)
  refine c_pullb 1 rfl ?_
  refine c_pullb 2 rfl ?_
  refine c_pullb 3 rfl ?_
  refine c_pullb 4 rfl ?_
  obtain ⟨⟨x193, x194, l195⟩, hl198, hk199⟩ := bindS hm
  refine c_forS (fun k197 => unc3 fun x193 x194 l195 => fun b186 e' hp' => ∃ (A190 : Option Addr), ∃ (c191 : Nat), ∃ (hs189 : Hp), [(1, .pointer (some ⟨g122, 0, none⟩)), (2, .pointer (some ⟨g123, 0, none⟩)), (3, .pointer (some ⟨g124, 0, none⟩)), (4, .pointer (some ⟨g125, 0, none⟩)), (5, .pointer (some ⟨g126, 0, none⟩)), (11, .int .i64 ((s1.Plan.length : Int))), (12, .int .i64 ((k197 : Int)))] = e' ∧ (g122, Cl 54 [.int .i64 (s1.Period), .slice A2 (s1.Plan).length c3, .slice A5 (s1.Links).length c6]) :: (g123, Cl 3 [.int .i64 (x193)]) :: (g124, Cl 3 [.int .i64 (x194)]) :: (g125, Cl 22 [.slice A190 (l195).length c191]) :: (g126, Cl 116 [.func (.func 72) #[] #[.pointer (some ⟨g122, 0, none⟩), .pointer (some ⟨g125, 0, none⟩), .pointer (some ⟨g124, 0, none⟩), .pointer (some ⟨g123, 0, none⟩), .pointer (some ⟨g126, 0, none⟩)]]) :: (hs189 ++ R) = hp' ∧ b.Le b186 ∧ OS 3 (OT.fr (RT.int .i64)) b186.w (.slice A190 l195.length c191) l195 hs189 ∧ (A190 = none ↔ l195 = [])) hl198 (e' := [(1, .pointer (some ⟨g122, 0, none⟩)), (2, .pointer (some ⟨g123, 0, none⟩)), (3, .pointer (some ⟨g124, 0, none⟩)), (4, .pointer (some ⟨g125, 0, none⟩)), (5, .pointer (some ⟨g126, 0, none⟩)), (11, .int .i64 ((s1.Plan.length : Int))), (12, .int .i64 0)]) ⟨rfl, rfl, rfl, rfl, rfl, rfl, rfl, trivial⟩ (.refl _) ⟨none, 0, [], rfl, rfl, (Base.Le.refl _), OS.nil, ⟨fun _ => rfl, fun _ => rfl⟩⟩ ?_ ?_
  ·
   rintro k197 ⟨x193, x194, l195⟩ b186 _ _ oL127 hknL127 ⟨A190, c191, hs189, rfl, rfl, hle187, h192, hnz196⟩ hstepL127
   unfold mMendRoundMean_L127 at hstepL127
   have hm := (unc3E hstepL127)
   refine c_sr ?_
   refine t_st rfl (st_lss_t rfl rfl (by omega)) ?_
   refine t_ne ?_
   refine c_seq ?_
   refine c_cond_t rfl ?_
   refine c_skip ?_
   refine x_then_normal ?_
   refine c_seq ?_
   refine c_block ?_
   refine c_sr ?_
   refine t_mv rfl rfl ?_
   refine t_as rfl rfl ?_
   refine t_ne ?_
   refine c_sr ?_
   refine t_st rfl (st_field rfl fld54_1) ?_
   refine t_st rfl (st_load 0 rfl one22 rfl rfl) ?_
   refine t_st rfl (st_len rfl sl22) ?_
   obtain ⟨m200, h201, hm⟩ := bindS hm
   have h201 := mkLen_some h201
   refine t_do rfl (u_mkOS (r := RT.bool) [_, _, _, _, _] (hs189 ++ R) [.bool (false)] false m200 rfl h201.1 rfl rfl sl88 inf4 rfl rfl rfl (by decide) rfl h201.2.1 h201.2.2) ?_
   rintro _ _ ⟨hs202, rfl, h203⟩
   obtain ⟨A204, c205, rfl, _⟩ := h203.form
   refine t_as rfl rfl ?_
   refine t_ne ?_
   refine c_region ?_
   refine t_st rfl (st_load 4 rfl one116 rfl rfl) ?_
   refine t_mv rfl rfl ?_
   refine t_mv rfl rfl ?_
   refine t_mv rfl rfl ?_
   obtain ⟨⟨x207, x208, l209, l210⟩, hcl211, hm⟩ := bindS hm
   have hm := (unc4E hm)
   refine t_pullb 4 rfl ?_
   refine t_pullb 2 rfl ?_
   refine t_pullb 3 rfl ?_
   refine t_pullb 4 rfl ?_
   refine t_pullb 4 rfl ?_
   refine t_front3 [_, _, _, _, _] [] hs202 hs189 R rfl ?_
   refine t_front2 [_, _, _, _, _] hs189 [] (hs202 ++ R) rfl ?_
   refine t_front3 [_, _, _, _, _] [] hs189 hs202 R rfl ?_
   refine t_out3 [_, _, _, _, _] [] hs202 [] hs189 R rfl ?_
   refine t_callvG #[] #[.pointer (some ⟨g122, 0, none⟩), .pointer (some ⟨g125, 0, none⟩), .pointer (some ⟨g124, 0, none⟩), .pointer (some ⟨g123, 0, none⟩), .pointer (some ⟨g126, 0, none⟩)] [.int .i64 ((k197 : Int)), .int .i64 ((k197 : Int)), .slice A204 (List.replicate m200 (false : Bool)).length c205, .slice none 0 0, .int .i64 (0), .int .i64 (0)] rfl rfl call72 rfl (cMendRoundMean_1 _ _ (k197 : Int) (k197 : Int) 0 0 s1.Period s1.Plan s1.Links x194 x193 (List.replicate m200 (false : Bool)) ([] : List Int) l195 g122 g125 g124 g123 g126 A2 c3 A5 c6 A204 c205 hs202 none 0 [] A190 c191 hs189 (h4.le hle187) (h7.le hle187) h203 (OS.nil (el := 3) (o := (OT.fr (RT.int .i64))) (A := none)) h192 hnz196 x207 x208 l209 l210 hcl211) ?_
   rintro _ b212 _ hle213 ⟨hs214, A215, c216, hs217, hs218, rfl, rfl, h219, h220, h221, h222, h223⟩
   refine t_in3 [_, _, _, _, _] [] hs214 hs218 hs217 R rfl ?_
   refine t_nil ?_
   refine x_block_normal ?_
   refine x_then_normal ?_
   refine c_region ?_
   refine t_st rfl (st_add rfl rfl (by omega)) ?_
   refine t_mv rfl rfl ?_
   refine t_nil ?_
   refine x_pullb 4 rfl ?_
   refine x_pullb 2 rfl ?_
   refine x_pullb 3 rfl ?_
   refine x_pullb 4 rfl ?_
   refine x_pullb 4 rfl ?_
   refine x_front3 [_, _, _, _, _] hs214 hs218 hs217 R rfl ?_
   obtain rfl := some1 hm
   exact x_againS (e' := [(1, .pointer (some ⟨g122, 0, none⟩)), (2, .pointer (some ⟨g123, 0, none⟩)), (3, .pointer (some ⟨g124, 0, none⟩)), (4, .pointer (some ⟨g125, 0, none⟩)), (5, .pointer (some ⟨g126, 0, none⟩)), (11, .int .i64 ((s1.Plan.length : Int))), (12, .int .i64 ((k197 : Int) + 1))]) ⟨rfl, rfl, rfl, rfl, rfl, rfl, rfl, trivial⟩ (.cons_cons _ (.cons_cons _ (.cons_cons _ (.cons_cons _ (.cons_cons _ (sub_app hs217 (sub_skip hs214 (sub_skip hs218 (.refl _))))))))) ⟨A215, c216, hs217, rfl, rfl, ((hle187.trans hle213)), h221, h222⟩
  ·
   rintro b186 _ _ ⟨A190, c191, hs189, rfl, rfl, hle187, h192, hnz196⟩
   have hm := (unc3E hk199)
   refine c_sr ?_
   refine t_st rfl (st_lss_f rfl rfl (by omega)) ?_
   refine t_ne ?_
   refine c_seq ?_
   refine c_cond_f rfl ?_
   refine c_exit ?_
   refine x_then_exit ?_
   refine x_then_exit ?_
   refine x_block_out ?_
   refine x_then_normal ?_
   obtain ⟨_, hj226, hk226⟩ := bindS hm
   refine c_join (fun b224 e' hp' => [(2, .pointer (some ⟨g123, 0, none⟩)), (3, .pointer (some ⟨g124, 0, none⟩)), (4, .pointer (some ⟨g125, 0, none⟩))] = e' ∧ (g123, Cl 3 [.int .i64 (x193)]) :: (g124, Cl 3 [.int .i64 (x194)]) :: (g125, Cl 22 [.slice A190 (l195).length c191]) :: (hs189 ++ R) = hp' ∧ b186.Le b224) ?_ ?_
   ·
    have hm := hj226
    refine D_drawI mixed (.cons_cons _ (.cons _ (.cons _ (.refl _)))) ?_
    refine E_st 2 rfl (st_load 1 rfl one22 rfl rfl) ?_
    refine E_out ?_
    refine D_all [0, 1] (by kernel_rfl) rfl ?_
    refine R_do (Base.Le.refl _) rfl rfl (Stable.does (st_load 1 rfl one3 rfl rfl)) ?_ ?_
    ·
     rintro _ _ ⟨rfl, rfl⟩
     refine ⟨.inr (.cons_cons _ (.cons _ (.cons _ (.refl _)))), ?_⟩
     refine D_all [1, 3] (by kernel_rfl) rfl ?_
     refine R_do (Base.Le.refl _) rfl rfl (Stable.does (st_load 2 rfl one3 rfl rfl)) ?_ ?_
     ·
      rintro _ _ ⟨rfl, rfl⟩
      refine ⟨.inr (.cons_cons _ (.cons _ (.cons _ (.refl _)))), ?_⟩
      refine D_all [3] (by kernel_rfl) rfl ?_
      refine R_do (Base.Le.refl _) rfl rfl (u_store 1 rfl rfl siz3 rfl rfl (by simp)) ?_ ?_
      ·
       rintro _ _ rfl
       refine ⟨.inr (.cons_cons _ (.cons _ (.cons _ (.refl _)))), ?_⟩
       refine D_all [4] (by kernel_rfl) rfl ?_
       refine R_do (Base.Le.refl _) rfl rfl (u_store 2 rfl rfl siz3 rfl rfl (by simp)) ?_ ?_
       ·
        rintro _ _ rfl
        refine ⟨.inr (.cons_cons _ (.cons _ (.cons _ (.refl _)))), ?_⟩
        refine D_all [5] (by kernel_rfl) rfl ?_
        refine R_do (Base.Le.refl _) rfl rfl (u_store 3 rfl rfl siz22 rfl rfl (by simp)) ?_ ?_
        ·
         rintro _ _ rfl
         refine ⟨.inl (by kernel_rfl), ?_⟩
         refine D_done (by kernel_rfl) ?_
         clear hm
         refine x_pullb 3 rfl ?_
         refine x_pullb 3 rfl ?_
         refine x_pullb 3 rfl ?_
         exact x_join (e' := [(2, .pointer (some ⟨g123, 0, none⟩)), (3, .pointer (some ⟨g124, 0, none⟩)), (4, .pointer (some ⟨g125, 0, none⟩))]) ⟨rfl, rfl, rfl, trivial⟩ (.cons_cons _ (.cons_cons _ (.cons_cons _ (.cons _ (.cons _ (.refl _)))))) ⟨rfl, rfl, (Base.Le.refl _)⟩
        exact R_nil
       exact R_nil
      exact R_nil
     refine R_do (Base.Le.refl _) rfl rfl (u_store 1 rfl rfl siz3 rfl rfl (by simp)) ?_ ?_
     ·
      rintro _ _ rfl
      refine ⟨.inr (.cons_cons _ (.cons _ (.cons _ (.refl _)))), ?_⟩
      refine D_all [1] (by kernel_rfl) rfl ?_
      refine R_do (Base.Le.refl _) rfl rfl (Stable.does (st_load 2 rfl one3 rfl rfl)) ?_ ?_
      ·
       rintro _ _ ⟨rfl, rfl⟩
       refine ⟨.inr (.cons_cons _ (.cons _ (.cons _ (.refl _)))), ?_⟩
       refine D_all [4] (by kernel_rfl) rfl ?_
       refine R_do (Base.Le.refl _) rfl rfl (u_store 2 rfl rfl siz3 rfl rfl (by simp)) ?_ ?_
       ·
        rintro _ _ rfl
        refine ⟨.inr (.cons_cons _ (.cons _ (.cons _ (.refl _)))), ?_⟩
        refine D_all [5] (by kernel_rfl) rfl ?_
        refine R_do (Base.Le.refl _) rfl rfl (u_store 3 rfl rfl siz22 rfl rfl (by simp)) ?_ ?_
        ·
         rintro _ _ rfl
         refine ⟨.inl (by kernel_rfl), ?_⟩
         refine D_done (by kernel_rfl) ?_
         clear hm
         refine x_pullb 3 rfl ?_
         refine x_pullb 3 rfl ?_
         refine x_pullb 3 rfl ?_
         exact x_join (e' := [(2, .pointer (some ⟨g123, 0, none⟩)), (3, .pointer (some ⟨g124, 0, none⟩)), (4, .pointer (some ⟨g125, 0, none⟩))]) ⟨rfl, rfl, rfl, trivial⟩ (.cons_cons _ (.cons_cons _ (.cons_cons _ (.cons _ (.cons _ (.refl _)))))) ⟨rfl, rfl, (Base.Le.refl _)⟩
        exact R_nil
       exact R_nil
      exact R_nil
     exact R_nil
    refine R_do (Base.Le.refl _) rfl rfl (Stable.does (st_load 2 rfl one3 rfl rfl)) ?_ ?_
    ·
     rintro _ _ ⟨rfl, rfl⟩
     refine ⟨.inr (.cons_cons _ (.cons _ (.cons _ (.refl _)))), ?_⟩
     refine D_all [0] (by kernel_rfl) rfl ?_
     refine R_do (Base.Le.refl _) rfl rfl (Stable.does (st_load 1 rfl one3 rfl rfl)) ?_ ?_
     ·
      rintro _ _ ⟨rfl, rfl⟩
      refine ⟨.inr (.cons_cons _ (.cons _ (.cons _ (.refl _)))), ?_⟩
      refine D_all [3] (by kernel_rfl) rfl ?_
      refine R_do (Base.Le.refl _) rfl rfl (u_store 1 rfl rfl siz3 rfl rfl (by simp)) ?_ ?_
      ·
       rintro _ _ rfl
       refine ⟨.inr (.cons_cons _ (.cons _ (.cons _ (.refl _)))), ?_⟩
       refine D_all [4] (by kernel_rfl) rfl ?_
       refine R_do (Base.Le.refl _) rfl rfl (u_store 2 rfl rfl siz3 rfl rfl (by simp)) ?_ ?_
       ·
        rintro _ _ rfl
        refine ⟨.inr (.cons_cons _ (.cons _ (.cons _ (.refl _)))), ?_⟩
        refine D_all [5] (by kernel_rfl) rfl ?_
        refine R_do (Base.Le.refl _) rfl rfl (u_store 3 rfl rfl siz22 rfl rfl (by simp)) ?_ ?_
        ·
         rintro _ _ rfl
         refine ⟨.inl (by kernel_rfl), ?_⟩
         refine D_done (by kernel_rfl) ?_
         clear hm
         refine x_pullb 3 rfl ?_
         refine x_pullb 3 rfl ?_
         refine x_pullb 3 rfl ?_
         exact x_join (e' := [(2, .pointer (some ⟨g123, 0, none⟩)), (3, .pointer (some ⟨g124, 0, none⟩)), (4, .pointer (some ⟨g125, 0, none⟩))]) ⟨rfl, rfl, rfl, trivial⟩ (.cons_cons _ (.cons_cons _ (.cons_cons _ (.cons _ (.cons _ (.refl _)))))) ⟨rfl, rfl, (Base.Le.refl _)⟩
        exact R_nil
       exact R_nil
      exact R_nil
     exact R_nil
    exact R_nil
   ·
    rintro b224 _ _ ⟨rfl, rfl, hle225⟩
    have hm := hk226
    refine c_ret ?_
    obtain ⟨rfl, rfl, rfl⟩ := some3 hm
    have he227 := (h192.le hle225)
    exact retM (rs := [.cell 2 3, .cell 3 3, .cell 4 22]) [.int .i64 (x193), .int .i64 (x194), .slice A190 (l195).length c191] (hle187.trans hle225) (by decide) rfl ⟨⟨_, rfl, fun w ho => cell_one 0 one3 rfl rfl w ho⟩, ⟨⟨_, rfl, fun w ho => cell_one 1 one3 rfl rfl w ho⟩, ⟨⟨_, rfl, fun w ho => cell_one 2 one22 rfl rfl w ho⟩, trivial⟩⟩⟩ rfl (.cons _ (.cons _ (.cons _ (.refl _)))) ⟨A190, c191, hs189, rfl, rfl, he227, hnz196⟩

set_option maxRecDepth 20000 in
theorem cMendRoundStable (b : Base) (R : Hp) (s1 : MendRound) (A2 : Option Addr) (c3 : Nat) (A5 : Option Addr) (c6 : Nat) (h4 : FZ (RT.int .i64) b.w A2 c3 s1.Plan) (h7 : FZ rMendLink b.w A5 c6 s1.Links) (x28 : Bool) (hm : mMendRoundStable s1 = some x28) :
    CallsG Try.prog 52 [.agg #[.int .i64 (s1.Period), .slice A2 (s1.Plan).length c3, .slice A5 (s1.Links).length c6]] b (R) (fun v b' hp' => .bool (x28) = v ∧ R = hp') := by
  refine fn_enterG 22 Try.func52 rfl Try.ntmps52 rfl ?_
  unfold mMendRoundStable at hm
  refine c_sr ?_
  refine t_do rfl (u_box _ rfl rfl) ?_
  rintro _ _ ⟨g29, rfl, rfl⟩
  refine t_as rfl rfl ?_
  refine t_ne ?_
  refine c_sr ?_
  refine t_st rfl (st_loadD (vs := [_, _, _]) 0 3 rfl agg54 rfl rfl rfl) ?_
  obtain ⟨⟨x30, x31, l32⟩, hcl33, hm⟩ := bindS hm
  have hm := (unc3E hm)
  refine t_callG _ rfl call68 rfl (cMendRoundMean _ _ s1 A2 c3 A5 c6 h4 h7 x30 x31 l32 hcl33) ?_
  rintro _ b34 _ hle35 ⟨A36, c37, hs38, rfl, rfl, h39, h40⟩
  refine t_in1 [] [_] hs38 R rfl ?_
  refine t_mv rfl rfl ?_
  refine t_st rfl (st_extract rfl rfl) ?_
  refine t_st rfl (st_extract rfl rfl) ?_
  refine t_st rfl (st_extract rfl rfl) ?_
  refine t_as rfl rfl ?_
  refine t_as rfl rfl ?_
  refine t_as rfl rfl ?_
  refine t_ne ?_
  obtain ⟨x45, hj46, hk46⟩ := bindS hm
  refine c_join (fun b43 e' hp' => [(2, .bool (x45))] = e' ∧ R = hp' ∧ b34.Le b43) ?_ ?_
  ·
   have hm := hj46
   refine c_region ?_
   refine t_mv rfl rfl ?_
   refine t_st rfl (st_eqnil_z rfl rfl h40 sl22) ?_
   rcases Bool.eq_false_or_eq_true l32.isEmpty with hc47 | hc47
   ·
    rw [if_pos hc47] at hm
    refine t_resp 13 rfl (v' := .bool true) (by rw [hc47] <;> rfl) ?_
    refine t_mv rfl rfl ?_
    refine t_no 14 rfl rfl rfl rfl rfl ?_
    refine t_no 14 rfl rfl rfl rfl rfl ?_
    refine t_no 14 rfl rfl rfl rfl rfl ?_
    refine t_no 14 rfl rfl rfl rfl rfl ?_
    refine t_no 14 rfl rfl rfl rfl rfl ?_
    refine t_no 14 rfl rfl rfl rfl rfl ?_
    refine t_st rfl (st_pick_t rfl rfl) ?_
    refine t_as rfl rfl ?_
    refine t_nil ?_
    obtain rfl := some1 hm
    exact x_join (e' := [(2, .bool (true))]) ⟨rfl, trivial⟩ (.cons _ (sub_skip hs38 (.refl _))) ⟨rfl, rfl, (Base.Le.refl _)⟩
   ·
    rw [if_neg (fun hh => Bool.noConfusion (hh.symm.trans hc47))] at hm
    refine t_resp 13 rfl (v' := .bool false) (by rw [hc47] <;> rfl) ?_
    refine t_mv rfl rfl ?_
    refine t_yes 14 rfl rfl rfl ?_
    refine t_mv rfl rfl ?_
    refine t_yes 14 rfl rfl rfl ?_
    refine t_mv rfl rfl ?_
    refine t_yes 14 rfl rfl rfl ?_
    refine t_st rfl (st_field rfl fld54_0) ?_
    refine t_yes 14 rfl rfl rfl ?_
    refine t_st rfl (st_load 0 rfl one3 rfl rfl) ?_
    refine t_yes 14 rfl rfl rfl ?_
    obtain ⟨_, h48, hm⟩ := bindS hm
    have h48 := (chk_some h48).2
    refine t_st rfl (st_mul rfl rfl h48) ?_
    refine t_yes 14 rfl rfl rfl ?_
    refine t_st rfl (st_lss rfl rfl) ?_
    refine t_st rfl (st_pick_f rfl rfl) ?_
    refine t_as rfl rfl ?_
    refine t_nil ?_
    obtain rfl := some1 hm
    exact x_join (e' := [(2, .bool (decide (x30 < (x31 * s1.Period))))]) ⟨rfl, trivial⟩ (.cons _ (sub_skip hs38 (.refl _))) ⟨rfl, rfl, (Base.Le.refl _)⟩
  ·
   rintro b43 _ _ ⟨rfl, rfl, hle44⟩
   have hm := hk46
   refine c_ret ?_
   obtain rfl := some1 hm
   exact retM (rs := [.tmp 2]) [.bool (x45)] (hle35.trans hle44) (by decide) rfl ⟨rfl, trivial⟩ rfl (.refl _) ⟨rfl, rfl⟩

set_option maxRecDepth 20000 in
theorem cMendStable (b : Base) (R : Hp) (s1 : MendRound) (A2 : Option Addr) (c3 : Nat) (A5 : Option Addr) (c6 : Nat) (h4 : FZ (RT.int .i64) b.w A2 c3 s1.Plan) (h7 : FZ rMendLink b.w A5 c6 s1.Links) (x14 : Bool) (x15 : Int) (hm : mMendStable s1 = some (x14, x15)) :
    CallsG Try.prog 25 [.agg #[.int .i64 (s1.Period), .slice A2 (s1.Plan).length c3, .slice A5 (s1.Links).length c6]] b (R) (fun v b' hp' => .tuple #[.bool (x14), .int .i64 (x15)] = v ∧ R = hp') := by
  refine fn_enterG 12 Try.func25 rfl Try.ntmps25 rfl ?_
  unfold mMendStable at hm
  refine c_sr ?_
  refine t_do rfl (u_box _ rfl rfl) ?_
  rintro _ _ ⟨g16, rfl, rfl⟩
  refine t_as rfl rfl ?_
  refine t_as rfl rfl ?_
  refine t_ne ?_
  refine c_seq ?_
  refine c_sr ?_
  refine t_st rfl (st_loadD (vs := [_, _, _]) 0 3 rfl agg54 rfl rfl rfl) ?_
  obtain ⟨x17, hcl18, hm⟩ := bindS hm
  refine t_do rfl (u_callW0 _ call51 rfl (fun w ho => cMendCheckRound _ [] s1 A2 c3 A5 c6 (h4.old ho) (h7.old ho) x17 hcl18) (fun _ _ _ h => h.2.symm)) ?_
  rintro _ _ ⟨⟨_, rfl, _⟩, rfl⟩
  refine t_as rfl rfl ?_
  refine t_ne ?_
  refine c_sr ?_
  refine t_mv rfl rfl ?_
  refine t_st rfl (st_neq rfl rfl) ?_
  refine t_ne ?_
  refine c_cond _ rfl (fun hc19 => ?_) (fun hc19 => ?_)
  ·
   rw [if_pos (of_decide_eq_true hc19)] at hm
   refine c_sr ?_
   refine t_mv rfl rfl ?_
   refine t_as rfl rfl ?_
   refine t_as rfl rfl ?_
   refine t_ne ?_
   refine c_ret ?_
   refine x_then_ret ?_
   obtain ⟨rfl, rfl⟩ := some2 hm
   exact retM (rs := [.tmp 2, .tmp 3]) [.bool (false), .int .i64 (x17)] (Base.Le.refl _) (by decide) rfl ⟨rfl, ⟨rfl, trivial⟩⟩ rfl (.cons _ (.refl _)) ⟨rfl, rfl⟩
  ·
   rw [if_neg (of_decide_eq_false hc19)] at hm
   refine c_skip ?_
   refine x_then_normal ?_
   refine c_sr ?_
   refine t_st rfl (st_loadD (vs := [_, _, _]) 0 3 rfl agg54 rfl rfl rfl) ?_
   obtain ⟨x20, hcl21, hm⟩ := bindS hm
   refine t_do rfl (u_callW0 _ call52 rfl (fun w ho => cMendRoundStable _ [] s1 A2 c3 A5 c6 (h4.old ho) (h7.old ho) x20 hcl21) (fun _ _ _ h => h.2.symm)) ?_
   rintro _ _ ⟨⟨_, rfl, _⟩, rfl⟩
   refine t_as rfl rfl ?_
   refine t_as rfl rfl ?_
   refine t_ne ?_
   refine c_ret ?_
   obtain ⟨rfl, rfl⟩ := some2 hm
   exact retM (rs := [.tmp 2, .tmp 3]) [.bool (x20), .int .i64 (0)] (Base.Le.refl _) (by decide) rfl ⟨rfl, ⟨rfl, trivial⟩⟩ rfl (.cons _ (.refl _)) ⟨rfl, rfl⟩

set_option maxRecDepth 20000 in
theorem cMendRoundFollow (b : Base) (R : Hp) (s1 : MendRound) (l11 : (List Int)) (l15 : (List (List Int))) (A2 : Option Addr) (c3 : Nat) (A5 : Option Addr) (c6 : Nat) (A8 : Option Addr) (c9 : Nat) (A12 : Option Addr) (c13 : Nat) (h4 : FZ (RT.int .i64) b.w A2 c3 s1.Plan) (h7 : FZ rMendLink b.w A5 c6 s1.Links) (h10 : FZ (RT.int .i64) b.w A8 c9 l11) (h14 : FZ (RT.list (RT.int .i64)) b.w A12 c13 l15) (l3101 : (List Int)) (hm : mMendRoundFollow s1 l11 l15 = some l3101) :
    CallsG Try.prog 53 [.agg #[.int .i64 (s1.Period), .slice A2 (s1.Plan).length c3, .slice A5 (s1.Links).length c6], .slice A8 (l11).length c9, .slice A12 (l15).length c13] b (R) (fun v b' hp' => ∃ (A3098 : Option Addr), ∃ (c3099 : Nat), ∃ (hs3097 : Hp), .slice A3098 (l3101).length c3099 = v ∧ (hs3097 ++ R) = hp' ∧ OS 3 (OT.fr (RT.int .i64)) b'.w (.slice A3098 l3101.length c3099) l3101 hs3097) := by
  refine fn_enterG 60 Try.func53 rfl Try.ntmps53 rfl ?_
  unfold mMendRoundFollow at hm
  refine c_sr ?_
  refine t_do rfl (u_box _ rfl rfl) ?_
  rintro _ _ ⟨g3102, rfl, rfl⟩
  refine t_as rfl rfl ?_
  refine t_ne ?_
  refine c_sr ?_
  refine t_mv rfl rfl ?_
  obtain ⟨l3103, hcl3104, hm⟩ := bindS hm
  refine t_callG _ rfl call12 rfl (cSlicesClone _ _ l11 A8 c9 h10 l3103 hcl3104) ?_
  rintro _ b3105 _ hle3106 ⟨A3107, c3108, hs3109, rfl, rfl, h3110⟩
  refine t_in1 [] [_] hs3109 R rfl ?_
  refine t_as rfl rfl ?_
  refine t_ne ?_
  obtain ⟨l4649, hj4650, hk4650⟩ := bindS hm
  refine c_join (fun b4642 e' hp' => ∃ (A4646 : Option Addr), ∃ (c4647 : Nat), ∃ (hs4645 : Hp), [(1, .slice A4646 (l4649).length c4647)] = e' ∧ (hs4645 ++ R) = hp' ∧ b3105.Le b4642 ∧ OS 3 (OT.fr (RT.int .i64)) b4642.w (.slice A4646 l4649.length c4647) l4649 hs4645) ?_ ?_
  ·
   have hm := hj4650
   refine c_sr ?_
   refine t_as rfl rfl ?_
   refine t_ne ?_
   refine c_block ?_
   refine c_loopM (unc2 fun x5675 l5676 => fun b5668 e' hp' => ∃ (A5672 : Option Addr), ∃ (c5673 : Nat), ∃ (hs5671 : Hp), [(1, .slice A5672 (l5676).length c5673), (2, .slice A12 (l15).length c13), (3, .pointer (some ⟨g3102, 0, none⟩)), (7, .bool (x5675))] = e' ∧ (g3102, Cl 54 [.int .i64 (s1.Period), .slice A2 (s1.Plan).length c3, .slice A5 (s1.Links).length c6]) :: (hs5671 ++ R) = hp' ∧ b3105.Le b5668 ∧ OS 3 (OT.fr (RT.int .i64)) b5668.w (.slice A5672 l5676.length c5673) l5676 hs5671) hm (e' := [(1, .slice A3107 (l3103).length c3108), (2, .slice A12 (l15).length c13), (3, .pointer (some ⟨g3102, 0, none⟩)), (7, .bool (true))]) ⟨rfl, rfl, rfl, rfl, trivial⟩ (.refl _) ⟨A3107, c3108, hs3109, rfl, rfl, (Base.Le.refl _), h3110⟩ ?_
   rintro ⟨x5675, l5676⟩ b5668 _ _ oL4651 ⟨A5672, c5673, hs5671, rfl, rfl, hle5669, h5674⟩ hstepL4651 houtL4651
   unfold mMendRoundFollow_L4651 at hstepL4651
   have hm := (unc2E hstepL4651)
   refine c_seq ?_
   refine c_sr ?_
   refine t_mv rfl rfl ?_
   refine t_ne ?_
   refine c_cond _ rfl (fun hc5677 => ?_) (fun hc5677 => ?_)
   ·
    rw [if_pos hc5677] at hm
    refine c_skip ?_
    refine x_then_normal ?_
    refine c_block ?_
    refine c_sr ?_
    refine t_as rfl rfl ?_
    refine t_ne ?_
    refine c_sr ?_
    refine t_st rfl (st_field rfl fld54_2) ?_
    refine t_st rfl (st_load 0 rfl one52 rfl rfl) ?_
    refine t_st rfl (st_len rfl sl52) ?_
    refine t_mv rfl rfl ?_
    refine t_ne ?_
    refine c_block ?_
    have hb5679 : s1.Links.length ≤ 9223372036854775807 := (FZ.bd (h7.le (hle3106.trans hle5669)))
    obtain ⟨⟨x6016, l6017⟩, hl6019, hk6020⟩ := bindS hm
    refine c_forS (fun k6018 => unc2 fun x6016 l6017 => fun b6009 e' hp' => ∃ (A6013 : Option Addr), ∃ (c6014 : Nat), ∃ (hs6012 : Hp), [(1, .slice A6013 (l6017).length c6014), (2, .slice A12 (l15).length c13), (3, .pointer (some ⟨g3102, 0, none⟩)), (7, .bool (x6016)), (16, .slice A5 (s1.Links).length c6), (17, .int .i64 ((s1.Links.length : Int))), (18, .int .i64 ((k6018 : Int)))] = e' ∧ (g3102, Cl 54 [.int .i64 (s1.Period), .slice A2 (s1.Plan).length c3, .slice A5 (s1.Links).length c6]) :: (hs6012 ++ R) = hp' ∧ b5668.Le b6009 ∧ OS 3 (OT.fr (RT.int .i64)) b6009.w (.slice A6013 l6017.length c6014) l6017 hs6012) hl6019 (e' := [(1, .slice A5672 (l5676).length c5673), (2, .slice A12 (l15).length c13), (3, .pointer (some ⟨g3102, 0, none⟩)), (7, .bool (false)), (16, .slice A5 (s1.Links).length c6), (17, .int .i64 ((s1.Links.length : Int))), (18, .int .i64 0)]) ⟨rfl, rfl, rfl, rfl, rfl, rfl, rfl, trivial⟩ (.refl _) ⟨A5672, c5673, hs5671, rfl, rfl, (Base.Le.refl _), h5674⟩ ?_ ?_
    ·
     rintro k6018 ⟨x6016, l6017⟩ b6009 _ _ oL5678 hknL5678 ⟨A6013, c6014, hs6012, rfl, rfl, hle6010, h6015⟩ hstepL5678
     unfold mMendRoundFollow_L5678 at hstepL5678
     have hm := (unc2E hstepL5678)
     refine c_sr ?_
     refine t_st rfl (st_lss_t rfl rfl (by omega)) ?_
     refine t_ne ?_
     refine c_seq ?_
     refine c_cond_t rfl ?_
     refine c_skip ?_
     refine x_then_normal ?_
     refine c_seq ?_
     refine c_block ?_
     refine c_sr ?_
     obtain ⟨x6021, h6022, hm⟩ := bindS hm
     obtain ⟨j6023, hj6024, hx6025⟩ := idx_some h6022
     obtain ⟨cs6026, hr6027, hcs6028, hA6029, hlt6030⟩ := FZ.get (sz := 4) rfl (by decide) (h7.le (hle3106.trans (hle5669.trans hle6010))) hx6025
     obtain ⟨_, _, rfl, rfl, ⟨_, _, rfl, rfl, ⟨_, _, rfl, rfl, rfl⟩⟩⟩ := hr6027
     refine t_st rfl (st_index_old j6023 rfl rfl hj6024 hlt6030 hA6029 sl52) ?_
     refine t_st rfl (st_loadN_old (vs := [.int .i64 (x6021.From), .int .i64 (x6021.To), .int .i64 (x6021.Len), .int .i64 (x6021.Back)]) 4 rfl agg83 hA6029 rfl (fun j u hu => hcs6028 j u hu)) ?_
     refine t_do rfl (u_alloc [.int .i64 0, .int .i64 0, .int .i64 0, .int .i64 0] zero83 rfl) ?_
     rintro _ _ ⟨g6031, rfl, rfl⟩
     refine t_do rfl (u_storeN (vs := [_, _, _, _]) 0 4 rfl rfl rfl siz83 rfl (mem_c rfl (mem_c rfl (mem_c rfl (mem_c rfl mem_n)))) rfl (by simp)) ?_
     rintro _ _ rfl
     refine t_ne ?_
     refine c_sr ?_
     refine t_mv rfl rfl ?_
     refine t_as rfl rfl ?_
     refine t_ne ?_
     refine c_seq ?_
     refine c_sr ?_
     refine t_st rfl (st_field rfl fld83_3) ?_
     refine t_st rfl (st_load 0 rfl one3 rfl rfl) ?_
     refine t_st rfl (st_gtr rfl rfl) ?_
     refine t_ne ?_
     refine c_cond _ rfl (fun hc6032 => ?_) (fun hc6032 => ?_)
     ·
      rw [if_pos (of_decide_eq_true hc6032)] at hm
      refine c_seq ?_
      refine c_sr ?_
      refine t_st rfl (st_field rfl fld83_3) ?_
      refine t_st rfl (st_load 0 rfl one3 rfl rfl) ?_
      refine t_mv rfl rfl ?_
      refine t_st rfl (st_len rfl sl45) ?_
      refine t_st rfl (st_gtr rfl rfl) ?_
      refine t_ne ?_
      refine c_cond _ rfl (fun hc6033 => ?_) (fun hc6033 => ?_)
      ·
       rw [if_pos (of_decide_eq_true hc6033)] at hm
       refine c_exit ?_
       refine x_then_exit ?_
       refine x_then_exit ?_
       refine x_block_out ?_
       refine x_then_normal ?_
       refine c_region ?_
       refine t_st rfl (st_add rfl rfl (by omega)) ?_
       refine t_mv rfl rfl ?_
       refine t_nil ?_
       refine x_pullb 1 rfl ?_
       obtain rfl := some1 hm
       exact x_againS (e' := [(1, .slice A6013 (l6017).length c6014), (2, .slice A12 (l15).length c13), (3, .pointer (some ⟨g3102, 0, none⟩)), (7, .bool (x6016)), (16, .slice A5 (s1.Links).length c6), (17, .int .i64 ((s1.Links.length : Int))), (18, .int .i64 ((k6018 : Int) + 1))]) ⟨rfl, rfl, rfl, rfl, rfl, rfl, rfl, trivial⟩ (.cons_cons _ (.cons _ (.refl _))) ⟨A6013, c6014, hs6012, rfl, rfl, (hle6010), h6015⟩
      ·
       rw [if_neg (of_decide_eq_false hc6033)] at hm
       refine c_skip ?_
       refine x_then_normal ?_
       refine c_region ?_
       refine t_mv rfl rfl ?_
       refine t_st rfl (st_field rfl fld83_3) ?_
       refine t_st rfl (st_load 0 rfl one3 rfl rfl) ?_
       obtain ⟨_, h6034, hm⟩ := bindS hm
       have h6034 := (chk_some h6034).2
       refine t_st rfl (st_sub rfl rfl h6034) ?_
       obtain ⟨x6035, h6036, hm⟩ := bindS hm
       obtain ⟨j6037, hj6038, hx6039⟩ := idx_some h6036
       obtain ⟨cs6040, hr6041, hcs6042, hA6043, hlt6044⟩ := FZ.get (sz := 1) rfl (by decide) (h14.le (hle3106.trans (hle5669.trans hle6010))) hx6039
       obtain ⟨A6045, c6046, rfl, h6047⟩ := hr6041
       refine t_st rfl (st_index_old j6037 rfl rfl hj6038 hlt6044 hA6043 sl45) ?_
       refine t_st rfl (st_load_old rfl one22 (hcs6042 0 _ rfl)) ?_
       refine t_as rfl rfl ?_
       refine t_ne ?_
       refine c_seq ?_
       obtain ⟨x6061, h6062, hm⟩ := bindS hm
       obtain ⟨x6071, hcl6072, hm⟩ := bindS hm
       obtain ⟨_, h6073, hm⟩ := bindS hm
       refine D_drawI mixed (.refl _) ?_
       refine E_st 0 rfl (st_move rfl) ?_
       refine E_st 1 rfl (st_field rfl fld83_0) ?_
       refine E_st 2 rfl (st_load 0 rfl one3 rfl rfl) ?_
       obtain ⟨j6063, hj6064, hx6065⟩ := idx_some h6062
       obtain ⟨cs6066, hr6067, hcs6068, hA6069, hlt6070⟩ := FZ.get (sz := 1) rfl (by decide) h6047 hx6065
       obtain rfl := hr6067
       refine E_st 3 rfl (st_index_old j6063 rfl rfl hj6064 hlt6070 hA6069 sl22) ?_
       refine E_st 4 rfl (st_load_old rfl one3 (hcs6068 0 _ rfl)) ?_
       refine E_st 5 rfl (st_loadD (vs := [_, _, _]) 1 3 rfl agg54 rfl rfl rfl) ?_
       refine E_st 6 rfl (st_loadD (vs := [_, _, _, _]) 0 4 rfl agg83 rfl rfl rfl) ?_
       refine E_out ?_
       refine D_all [7] (by kernel_rfl) rfl ?_
       refine R_do (Base.Le.refl _) rfl rfl (u_callW0 _ call55 rfl (fun w ho => cMendRoundSlack _ [] s1 x6021 A2 c3 A5 c6 ((h4.le (hle3106.trans (hle5669.trans hle6010))).old ho) ((h7.le (hle3106.trans (hle5669.trans hle6010))).old ho) x6071 hcl6072) (fun _ _ _ h => h.2.symm)) ?_ ?_
       ·
        rintro _ _ ⟨⟨_, rfl, _⟩, rfl⟩
        refine ⟨.inr (.refl _), ?_⟩
        have h6073 := (chk_some h6073).2
        refine E_in (.refl _) ?_
        refine E_st 8 rfl (st_sub rfl rfl h6073) ?_
        refine E_st 9 rfl (st_assign rfl) ?_
        refine E_out ?_
        refine D_done (by kernel_rfl) ?_
        refine x_then_normal ?_
        refine c_sr ?_
        refine t_mv rfl rfl ?_
        refine t_mv rfl rfl ?_
        refine t_st rfl (st_field rfl fld83_1) ?_
        refine t_st rfl (st_load 0 rfl one3 rfl rfl) ?_
        obtain ⟨x6074, h6075, hm⟩ := bindS hm
        obtain ⟨j6076, hj6077, hx6078⟩ := idx_some h6075
        obtain ⟨cs6079, hs6084, P6085, P6086, hq6087, hr6080, hcs6081, hA6082, hlt6083, hb6088, hho6089⟩ := OS.get (sz := 1) rfl (by decide) h6015 hx6078
        obtain ⟨rfl, rfl⟩ := hr6080
        refine t_st rfl (st_index_old j6076 rfl rfl hj6077 hlt6083 hA6082 sl22) ?_
        refine t_st rfl (st_load_rd rfl one3 (fun w ho => hcs6081 w _ ho (.cons _ (.cons _ (List.sublist_append_left _ _))) 0 _ rfl)) ?_
        refine t_st rfl (st_gtr rfl rfl) ?_
        refine t_ne ?_
        refine c_cond _ rfl (fun hc6090 => ?_) (fun hc6090 => ?_)
        ·
         rw [if_pos (of_decide_eq_true hc6090)] at hm
         refine c_region ?_
         refine t_mv rfl rfl ?_
         refine t_st rfl (st_field rfl fld83_1) ?_
         refine t_st rfl (st_load 0 rfl one3 rfl rfl) ?_
         refine t_mv rfl rfl ?_
         obtain ⟨x6091, h6092, hm⟩ := bindS hm
         obtain ⟨j6093, hj6094, hx6095⟩ := idx_some h6092
         obtain ⟨cs6096, hs6101, P6102, P6103, hq6104, hr6097, hcs6098, hA6099, hlt6100, hb6105, hho6106⟩ := OS.get (sz := 1) rfl (by decide) h6015 hx6095
         obtain ⟨rfl, rfl⟩ := hr6097
         refine t_st rfl (st_index_old j6093 rfl rfl hj6094 hlt6100 hA6099 sl22) ?_
         refine t_do rfl (u_putOS hj6094 (sz := 1) (a' := x6061 - x6071) rfl [_, _] R 0 1 [.int .i64 (x6061 - x6071)] rfl h6015 hx6095 rfl rfl rfl siz3 rfl (mem_c rfl mem_n) (fun cs hsj hh => by obtain ⟨rfl, rfl⟩ := hh; exact ⟨by decide, rfl, rfl⟩)) ?_
         rintro _ _ ⟨hs6107, rfl, h6108⟩
         refine t_resp 1 rfl (v' := .slice A6013 (put l6017 x6021.To (x6061 - x6071)).length c6014) (by simp only [put_length]) ?_
         refine t_as rfl rfl ?_
         refine t_nil ?_
         refine x_block_normal ?_
         refine x_then_normal ?_
         refine c_region ?_
         refine t_st rfl (st_add rfl rfl (by omega)) ?_
         refine t_mv rfl rfl ?_
         refine t_nil ?_
         refine x_pullb 1 rfl ?_
         obtain rfl := some1 hm
         exact x_againS (e' := [(1, .slice A6013 (put l6017 x6021.To (x6061 - x6071)).length c6014), (2, .slice A12 (l15).length c13), (3, .pointer (some ⟨g3102, 0, none⟩)), (7, .bool (true)), (16, .slice A5 (s1.Links).length c6), (17, .int .i64 ((s1.Links.length : Int))), (18, .int .i64 ((k6018 : Int) + 1))]) ⟨rfl, rfl, rfl, rfl, rfl, rfl, rfl, trivial⟩ (.cons_cons _ (.cons _ (.refl _))) ⟨A6013, c6014, hs6107, rfl, rfl, (hle6010), h6108⟩
        ·
         rw [if_neg (of_decide_eq_false hc6090)] at hm
         refine c_skip ?_
         refine x_block_normal ?_
         refine x_then_normal ?_
         refine c_region ?_
         refine t_st rfl (st_add rfl rfl (by omega)) ?_
         refine t_mv rfl rfl ?_
         refine t_nil ?_
         refine x_pullb 1 rfl ?_
         obtain rfl := some1 hm
         exact x_againS (e' := [(1, .slice A6013 (l6017).length c6014), (2, .slice A12 (l15).length c13), (3, .pointer (some ⟨g3102, 0, none⟩)), (7, .bool (x6016)), (16, .slice A5 (s1.Links).length c6), (17, .int .i64 ((s1.Links.length : Int))), (18, .int .i64 ((k6018 : Int) + 1))]) ⟨rfl, rfl, rfl, rfl, rfl, rfl, rfl, trivial⟩ (.cons_cons _ (.cons _ (.refl _))) ⟨A6013, c6014, hs6012, rfl, rfl, (hle6010), h6015⟩
       exact R_nil
     ·
      rw [if_neg (of_decide_eq_false hc6032)] at hm
      refine c_skip ?_
      refine x_then_normal ?_
      refine c_seq ?_
      obtain ⟨x6128, h6129, hm⟩ := bindS hm
      obtain ⟨x6144, hcl6145, hm⟩ := bindS hm
      obtain ⟨_, h6146, hm⟩ := bindS hm
      refine D_drawI mixed (.refl _) ?_
      refine E_st 0 rfl (st_move rfl) ?_
      refine E_st 1 rfl (st_field rfl fld83_0) ?_
      refine E_st 2 rfl (st_load 0 rfl one3 rfl rfl) ?_
      obtain ⟨j6130, hj6131, hx6132⟩ := idx_some h6129
      obtain ⟨cs6133, hs6138, P6139, P6140, hq6141, hr6134, hcs6135, hA6136, hlt6137, hb6142, hho6143⟩ := OS.get (sz := 1) rfl (by decide) h6015 hx6132
      obtain ⟨rfl, rfl⟩ := hr6134
      refine E_st 3 rfl (st_index_old j6130 rfl rfl hj6131 hlt6137 hA6136 sl22) ?_
      refine E_st 4 rfl (st_load_rd rfl one3 (fun w ho => hcs6135 w _ ho (.cons _ (.cons _ (List.sublist_append_left _ _))) 0 _ rfl)) ?_
      refine E_st 5 rfl (st_loadD (vs := [_, _, _]) 1 3 rfl agg54 rfl rfl rfl) ?_
      refine E_st 6 rfl (st_loadD (vs := [_, _, _, _]) 0 4 rfl agg83 rfl rfl rfl) ?_
      refine E_out ?_
      refine D_all [7] (by kernel_rfl) rfl ?_
      refine R_do (Base.Le.refl _) rfl rfl (u_callW0 _ call55 rfl (fun w ho => cMendRoundSlack _ [] s1 x6021 A2 c3 A5 c6 ((h4.le (hle3106.trans (hle5669.trans hle6010))).old ho) ((h7.le (hle3106.trans (hle5669.trans hle6010))).old ho) x6144 hcl6145) (fun _ _ _ h => h.2.symm)) ?_ ?_
      ·
       rintro _ _ ⟨⟨_, rfl, _⟩, rfl⟩
       refine ⟨.inr (.refl _), ?_⟩
       have h6146 := (chk_some h6146).2
       refine E_in (.refl _) ?_
       refine E_st 8 rfl (st_sub rfl rfl h6146) ?_
       refine E_st 9 rfl (st_assign rfl) ?_
       refine E_out ?_
       refine D_done (by kernel_rfl) ?_
       refine x_then_normal ?_
       refine c_sr ?_
       refine t_mv rfl rfl ?_
       refine t_mv rfl rfl ?_
       refine t_st rfl (st_field rfl fld83_1) ?_
       refine t_st rfl (st_load 0 rfl one3 rfl rfl) ?_
       obtain ⟨x6147, h6148, hm⟩ := bindS hm
       obtain ⟨j6149, hj6150, hx6151⟩ := idx_some h6148
       obtain ⟨cs6152, hs6157, P6158, P6159, hq6160, hr6153, hcs6154, hA6155, hlt6156, hb6161, hho6162⟩ := OS.get (sz := 1) rfl (by decide) h6015 hx6151
       obtain ⟨rfl, rfl⟩ := hr6153
       refine t_st rfl (st_index_old j6149 rfl rfl hj6150 hlt6156 hA6155 sl22) ?_
       refine t_st rfl (st_load_rd rfl one3 (fun w ho => hcs6154 w _ ho (.cons _ (.cons _ (List.sublist_append_left _ _))) 0 _ rfl)) ?_
       refine t_st rfl (st_gtr rfl rfl) ?_
       refine t_ne ?_
       refine c_cond _ rfl (fun hc6163 => ?_) (fun hc6163 => ?_)
       ·
        rw [if_pos (of_decide_eq_true hc6163)] at hm
        refine c_region ?_
        refine t_mv rfl rfl ?_
        refine t_st rfl (st_field rfl fld83_1) ?_
        refine t_st rfl (st_load 0 rfl one3 rfl rfl) ?_
        refine t_mv rfl rfl ?_
        obtain ⟨x6164, h6165, hm⟩ := bindS hm
        obtain ⟨j6166, hj6167, hx6168⟩ := idx_some h6165
        obtain ⟨cs6169, hs6174, P6175, P6176, hq6177, hr6170, hcs6171, hA6172, hlt6173, hb6178, hho6179⟩ := OS.get (sz := 1) rfl (by decide) h6015 hx6168
        obtain ⟨rfl, rfl⟩ := hr6170
        refine t_st rfl (st_index_old j6166 rfl rfl hj6167 hlt6173 hA6172 sl22) ?_
        refine t_do rfl (u_putOS hj6167 (sz := 1) (a' := x6128 - x6144) rfl [_, _] R 0 1 [.int .i64 (x6128 - x6144)] rfl h6015 hx6168 rfl rfl rfl siz3 rfl (mem_c rfl mem_n) (fun cs hsj hh => by obtain ⟨rfl, rfl⟩ := hh; exact ⟨by decide, rfl, rfl⟩)) ?_
        rintro _ _ ⟨hs6180, rfl, h6181⟩
        refine t_resp 1 rfl (v' := .slice A6013 (put l6017 x6021.To (x6128 - x6144)).length c6014) (by simp only [put_length]) ?_
        refine t_as rfl rfl ?_
        refine t_nil ?_
        refine x_block_normal ?_
        refine x_then_normal ?_
        refine c_region ?_
        refine t_st rfl (st_add rfl rfl (by omega)) ?_
        refine t_mv rfl rfl ?_
        refine t_nil ?_
        refine x_pullb 1 rfl ?_
        obtain rfl := some1 hm
        exact x_againS (e' := [(1, .slice A6013 (put l6017 x6021.To (x6128 - x6144)).length c6014), (2, .slice A12 (l15).length c13), (3, .pointer (some ⟨g3102, 0, none⟩)), (7, .bool (true)), (16, .slice A5 (s1.Links).length c6), (17, .int .i64 ((s1.Links.length : Int))), (18, .int .i64 ((k6018 : Int) + 1))]) ⟨rfl, rfl, rfl, rfl, rfl, rfl, rfl, trivial⟩ (.cons_cons _ (.cons _ (.refl _))) ⟨A6013, c6014, hs6180, rfl, rfl, (hle6010), h6181⟩
       ·
        rw [if_neg (of_decide_eq_false hc6163)] at hm
        refine c_skip ?_
        refine x_block_normal ?_
        refine x_then_normal ?_
        refine c_region ?_
        refine t_st rfl (st_add rfl rfl (by omega)) ?_
        refine t_mv rfl rfl ?_
        refine t_nil ?_
        refine x_pullb 1 rfl ?_
        obtain rfl := some1 hm
        exact x_againS (e' := [(1, .slice A6013 (l6017).length c6014), (2, .slice A12 (l15).length c13), (3, .pointer (some ⟨g3102, 0, none⟩)), (7, .bool (x6016)), (16, .slice A5 (s1.Links).length c6), (17, .int .i64 ((s1.Links.length : Int))), (18, .int .i64 ((k6018 : Int) + 1))]) ⟨rfl, rfl, rfl, rfl, rfl, rfl, rfl, trivial⟩ (.cons_cons _ (.cons _ (.refl _))) ⟨A6013, c6014, hs6012, rfl, rfl, (hle6010), h6015⟩
      exact R_nil
    ·
     rintro b6009 _ _ ⟨A6013, c6014, hs6012, rfl, rfl, hle6010, h6015⟩
     have hm := (unc2E hk6020)
     refine c_sr ?_
     refine t_st rfl (st_lss_f rfl rfl (by omega)) ?_
     refine t_ne ?_
     refine c_seq ?_
     refine c_cond_f rfl ?_
     refine c_exit ?_
     refine x_then_exit ?_
     refine x_then_exit ?_
     refine x_block_out ?_
     refine x_block_normal ?_
     exact x_againM (x6016, l6017) (Option.some.inj hm).symm (e' := [(1, .slice A6013 (l6017).length c6014), (2, .slice A12 (l15).length c13), (3, .pointer (some ⟨g3102, 0, none⟩)), (7, .bool (x6016))]) ⟨rfl, rfl, rfl, rfl, trivial⟩ (.refl _) ⟨A6013, c6014, hs6012, rfl, rfl, ((hle5669.trans hle6010)), h6015⟩
   ·
    rw [if_neg (fun hh => Bool.noConfusion (hh.symm.trans hc5677))] at hm
    refine c_exit ?_
    refine x_then_exit ?_
    refine x_then_exit ?_
    refine x_block_out ?_
    have hm := congrArg some (houtL4651 _ (Option.some.inj hm).symm)
    obtain rfl := some1 hm
    exact x_join (e' := [(1, .slice A5672 (l5676).length c5673)]) ⟨rfl, trivial⟩ (.cons _ (.refl _)) ⟨A5672, c5673, hs5671, rfl, rfl, hle5669, h5674⟩
  ·
   rintro b4642 _ _ ⟨A4646, c4647, hs4645, rfl, rfl, hle4643, h4648⟩
   have hm := hk4650
   refine c_sr ?_
   refine t_mv rfl rfl ?_
   refine t_as rfl rfl ?_
   refine t_ne ?_
   refine c_ret ?_
   obtain rfl := some1 hm
   exact retM (rs := [.tmp 6]) [.slice A4646 (l4649).length c4647] (hle3106.trans hle4643) (by decide) rfl ⟨rfl, trivial⟩ rfl (.refl _) ⟨A4646, c4647, hs4645, rfl, rfl, h4648⟩

end Go.Proofs.Ytakehdnblmonlaa
