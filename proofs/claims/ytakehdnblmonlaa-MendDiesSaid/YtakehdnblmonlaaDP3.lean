/- Contracts: the code computes its model (part 3). -/
import Derived.Test.YtakehdnblmonlaaDP2
set_option linter.unusedVariables false
set_option linter.unusedSimpArgs false
namespace Go.Proofs.Ytakehdnblmonlaa
open Go.RowKit Go.Fp

set_option maxRecDepth 20000 in
theorem cMendSolverWith_2 (b : Base) (R : Hp) (q1 : (Option MendSolver)) (l7 : (List MendArc)) (v2 : Value) (A4 : Option Addr) (c5 : Nat) (h3 : (RT.ptr rMendSolver).rep b.w [v2] q1) (h6 : FZ rMendArc b.w A4 c5 l7) (q2321 : (Option MendSolver)) (x2324 : Bool) (hm : mMendSolverWith_2 q1 l7 = some (q2321, x2324)) :
    CallsG Try.prog 41 [v2, .slice A4 (l7).length c5] b (R) (fun v b' hp' => ∃ (v2322 : Value), .tuple #[v2322, .bool (x2324)] = v ∧ R = hp' ∧ (RT.ptr rMendSolver).rep b'.w [v2322] q2321) := by
  refine fn_enterG 128 Try.func41 rfl Try.ntmps41 rfl ?_
  unfold mMendSolverWith_2 at hm
  refine c_sr ?_
  refine t_as rfl rfl ?_
  refine t_as rfl rfl ?_
  refine t_ne ?_
  obtain ⟨⟨l2410, l2411, l2412⟩, hj2413, hk2413⟩ := bindS hm
  refine c_join (fun b2393 e' hp' => ∃ (g2405 : Nat), ∃ (g2406 : Nat), ∃ (A2407 : Option Addr), ∃ (c2408 : Nat), ∃ (A2397 : Option Addr), ∃ (c2398 : Nat), ∃ (hs2396 : Hp), ∃ (A2402 : Option Addr), ∃ (c2403 : Nat), ∃ (hs2401 : Hp), [(1, .slice A4 (l7).length c5), (6, .pointer (some ⟨g2405, 0, none⟩))] = e' ∧ (g2405, Cl 69 [.pointer (some ⟨g2406, 0, none⟩)]) :: (g2406, Cl 73 [.slice A2397 (l2411).length c2398, .slice A2407 (l2410).length c2408, .slice A2402 (l2412).length c2403]) :: (hs2396 ++ (hs2401 ++ R)) = hp' ∧ b.Le b2393 ∧ FZ (RT.int .i64) b2393.w A2407 c2408 l2410 ∧ OS 3 (OT.fr (RT.int .i64)) b2393.w (.slice A2397 l2411.length c2398) l2411 hs2396 ∧ OS 23 (OT.fr (RT.list rMendArc)) b2393.w (.slice A2402 l2412.length c2403) l2412 hs2401) ?_ ?_
  ·
   have hm := hj2413
   obtain ⟨y2448, h2449, hm⟩ := bindS hm
   obtain ⟨l2464, hcl2465, hm⟩ := bindS hm
   obtain ⟨l2472, hcl2473, hm⟩ := bindS hm
   refine D_drawI mixed (.refl _) ?_
   refine E_st 0 rfl (st_move rfl) ?_
   have h2454 := h3
   rw [h2449] at h2454
   obtain ⟨a2450, cs2451, rfl, hr2452, hcs2453⟩ := ptr_open h2454
   obtain ⟨_, _, rfl, ⟨A2455, c2456, rfl, h2457⟩, ⟨_, _, rfl, ⟨A2458, c2459, rfl, h2460⟩, ⟨A2461, c2462, rfl, h2463⟩⟩⟩ := hr2452
   refine E_st 1 rfl (st_nil_at rfl) ?_
   refine E_st 2 rfl (st_field_at rfl fld73_0) ?_
   refine E_st 3 rfl (st_load_at rfl one22 (hcs2453 0 _ rfl)) ?_
   refine E_st 5 rfl (st_move rfl) ?_
   refine E_st 6 rfl (st_nil_at rfl) ?_
   refine E_st 7 rfl (st_field_at rfl fld73_1) ?_
   refine E_st 8 rfl (st_load_at rfl one22 (hcs2453 1 _ rfl)) ?_
   refine E_st 9 rfl (st_move rfl) ?_
   refine E_st 10 rfl (st_nil_at rfl) ?_
   refine E_st 11 rfl (st_field_at rfl fld73_2) ?_
   refine E_st 12 rfl (st_load_at rfl one35 (hcs2453 2 _ rfl)) ?_
   refine E_out ?_
   refine D_all [4, 16] (by kernel_rfl) rfl ?_
   refine R_callGl (Base.Le.refl _) rfl rfl _ call12 rfl (cSlicesClone _ _ y2448.times A2455 c2456 h2457 l2464 hcl2465) ?_ ?_
   ·
    rintro _ b2466 _ hle2467 ⟨A2468, c2469, hs2470, rfl, rfl, h2471⟩
    refine ⟨.inr (sub_skip hs2470 (.refl _)), ?_⟩
    refine d_in1 [] [] hs2470 R rfl ?_
    refine D_all [13, 16] (by kernel_rfl) rfl ?_
    refine R_callGl hle2467 rfl rfl _ call60 rfl (cSlicesClone_2 _ _ y2448.outs A2461 c2462 (h2463.le hle2467) l2472 hcl2473) ?_ ?_
    ·
     rintro _ b2474 _ hle2475 ⟨A2476, c2477, hs2478, rfl, rfl, h2479⟩
     refine ⟨.inr (sub_skip hs2478 (sub_skip hs2470 (.refl _))), ?_⟩
     refine d_in1 [] [] hs2478 (hs2470 ++ R) rfl ?_
     refine D_all [14, 16] (by kernel_rfl) rfl ?_
     refine R_do (hle2467.trans hle2475) rfl rfl (Stable.does (st_build (v := .agg #[.slice A2468 (l2464).length c2469, .slice A2458 (y2448.last).length c2459, .slice A2476 (l2472).length c2477]) [(0, .slice A2468 (l2464).length c2469), (1, .slice A2458 (y2448.last).length c2459), (2, .slice A2476 (l2472).length c2477)] rfl (fun _ => by kernel_rfl))) ?_ ?_
     ·
      rintro _ _ ⟨rfl, rfl⟩
      refine ⟨.inr (sub_skip hs2478 (sub_skip hs2470 (.refl _))), ?_⟩
      refine D_all [15, 16] (by kernel_rfl) rfl ?_
      refine R_do (hle2467.trans hle2475) rfl rfl (u_box _ rfl rfl) ?_ ?_
      ·
       rintro _ _ ⟨g2480, rfl, rfl⟩
       refine ⟨.inr (.cons _ (sub_skip hs2478 (sub_skip hs2470 (.refl _)))), ?_⟩
       refine D_all [16] (by kernel_rfl) rfl ?_
       refine R_do (hle2467.trans hle2475) rfl rfl (u_alloc [.pointer none] zero69 rfl) ?_ ?_
       ·
        rintro _ _ ⟨g2481, rfl, rfl⟩
        refine ⟨.inr (.cons _ (.cons _ (sub_skip hs2478 (sub_skip hs2470 (.refl _))))), ?_⟩
        refine D_all [17] (by kernel_rfl) rfl ?_
        refine R_do (hle2467.trans hle2475) rfl rfl (u_store 0 rfl rfl siz69 rfl rfl (by simp)) ?_ ?_
        ·
         rintro _ _ rfl
         refine ⟨.inl (by kernel_rfl), ?_⟩
         refine D_done (by kernel_rfl) ?_
         obtain ⟨rfl, rfl, rfl⟩ := some3 hm
         refine x_pullb 1 rfl ?_
         refine x_pullb 1 rfl ?_
         refine x_front2 [_, _] hs2478 hs2470 R rfl ?_
         exact x_join (e' := [(1, .slice A4 (l7).length c5), (6, .pointer (some ⟨g2481, 0, none⟩))]) ⟨rfl, rfl, trivial⟩ (.refl _) ⟨g2481, g2480, A2458, c2459, A2468, c2469, hs2470, A2476, c2477, hs2478, rfl, rfl, (hle2467.trans hle2475), (h2460.le (hle2467.trans hle2475)), (h2471.le hle2475), h2479⟩
        exact R_nil
       exact R_nil
      refine R_do (hle2467.trans hle2475) rfl rfl (u_alloc [.pointer none] zero69 rfl) ?_ ?_
      ·
       rintro _ _ ⟨g2481, rfl, rfl⟩
       refine ⟨.inr (.cons _ (sub_skip hs2478 (sub_skip hs2470 (.refl _)))), ?_⟩
       refine D_all [15] (by kernel_rfl) rfl ?_
       refine R_do (hle2467.trans hle2475) rfl rfl (u_box _ rfl rfl) ?_ ?_
       ·
        rintro _ _ ⟨g2480, rfl, rfl⟩
        refine ⟨.inr (.cons _ (.cons _ (sub_skip hs2478 (sub_skip hs2470 (.refl _))))), ?_⟩
        refine D_all [17] (by kernel_rfl) rfl ?_
        refine R_do (hle2467.trans hle2475) rfl rfl (u_store 1 rfl rfl siz69 rfl rfl (by simp)) ?_ ?_
        ·
         rintro _ _ rfl
         refine ⟨.inl (by kernel_rfl), ?_⟩
         refine D_done (by kernel_rfl) ?_
         obtain ⟨rfl, rfl, rfl⟩ := some3 hm
         refine x_pullb 1 rfl ?_
         refine x_front2 [_, _] hs2478 hs2470 R rfl ?_
         exact x_join (e' := [(1, .slice A4 (l7).length c5), (6, .pointer (some ⟨g2481, 0, none⟩))]) ⟨rfl, rfl, trivial⟩ (.refl _) ⟨g2481, g2480, A2458, c2459, A2468, c2469, hs2470, A2476, c2477, hs2478, rfl, rfl, (hle2467.trans hle2475), (h2460.le (hle2467.trans hle2475)), (h2471.le hle2475), h2479⟩
        exact R_nil
       exact R_nil
      exact R_nil
     refine R_do (hle2467.trans hle2475) rfl rfl (u_alloc [.pointer none] zero69 rfl) ?_ ?_
     ·
      rintro _ _ ⟨g2481, rfl, rfl⟩
      refine ⟨.inr (.cons _ (sub_skip hs2478 (sub_skip hs2470 (.refl _)))), ?_⟩
      refine D_all [14] (by kernel_rfl) rfl ?_
      refine R_do (hle2467.trans hle2475) rfl rfl (Stable.does (st_build (v := .agg #[.slice A2468 (l2464).length c2469, .slice A2458 (y2448.last).length c2459, .slice A2476 (l2472).length c2477]) [(0, .slice A2468 (l2464).length c2469), (1, .slice A2458 (y2448.last).length c2459), (2, .slice A2476 (l2472).length c2477)] rfl (fun _ => by kernel_rfl))) ?_ ?_
      ·
       rintro _ _ ⟨rfl, rfl⟩
       refine ⟨.inr (.cons _ (sub_skip hs2478 (sub_skip hs2470 (.refl _)))), ?_⟩
       refine D_all [15] (by kernel_rfl) rfl ?_
       refine R_do (hle2467.trans hle2475) rfl rfl (u_box _ rfl rfl) ?_ ?_
       ·
        rintro _ _ ⟨g2480, rfl, rfl⟩
        refine ⟨.inr (.cons _ (.cons _ (sub_skip hs2478 (sub_skip hs2470 (.refl _))))), ?_⟩
        refine D_all [17] (by kernel_rfl) rfl ?_
        refine R_do (hle2467.trans hle2475) rfl rfl (u_store 1 rfl rfl siz69 rfl rfl (by simp)) ?_ ?_
        ·
         rintro _ _ rfl
         refine ⟨.inl (by kernel_rfl), ?_⟩
         refine D_done (by kernel_rfl) ?_
         obtain ⟨rfl, rfl, rfl⟩ := some3 hm
         refine x_pullb 1 rfl ?_
         refine x_front2 [_, _] hs2478 hs2470 R rfl ?_
         exact x_join (e' := [(1, .slice A4 (l7).length c5), (6, .pointer (some ⟨g2481, 0, none⟩))]) ⟨rfl, rfl, trivial⟩ (.refl _) ⟨g2481, g2480, A2458, c2459, A2468, c2469, hs2470, A2476, c2477, hs2478, rfl, rfl, (hle2467.trans hle2475), (h2460.le (hle2467.trans hle2475)), (h2471.le hle2475), h2479⟩
        exact R_nil
       exact R_nil
      exact R_nil
     exact R_nil
    refine R_do hle2467 rfl rfl (u_alloc [.pointer none] zero69 rfl) ?_ ?_
    ·
     rintro _ _ ⟨g2481, rfl, rfl⟩
     refine ⟨.inr (.cons _ (sub_skip hs2470 (.refl _))), ?_⟩
     refine D_all [13] (by kernel_rfl) rfl ?_
     refine R_callGl hle2467 rfl rfl _ call60 rfl (cSlicesClone_2 _ _ y2448.outs A2461 c2462 (h2463.le hle2467) l2472 hcl2473) ?_ ?_
     ·
      rintro _ b2474 _ hle2475 ⟨A2476, c2477, hs2478, rfl, rfl, h2479⟩
      refine ⟨.inr (sub_skip hs2478 (.cons _ (sub_skip hs2470 (.refl _)))), ?_⟩
      refine d_in1 [] [_] hs2478 (hs2470 ++ R) rfl ?_
      refine D_all [14] (by kernel_rfl) rfl ?_
      refine R_do (hle2467.trans hle2475) rfl rfl (Stable.does (st_build (v := .agg #[.slice A2468 (l2464).length c2469, .slice A2458 (y2448.last).length c2459, .slice A2476 (l2472).length c2477]) [(0, .slice A2468 (l2464).length c2469), (1, .slice A2458 (y2448.last).length c2459), (2, .slice A2476 (l2472).length c2477)] rfl (fun _ => by kernel_rfl))) ?_ ?_
      ·
       rintro _ _ ⟨rfl, rfl⟩
       refine ⟨.inr (.cons _ (sub_skip hs2478 (sub_skip hs2470 (.refl _)))), ?_⟩
       refine D_all [15] (by kernel_rfl) rfl ?_
       refine R_do (hle2467.trans hle2475) rfl rfl (u_box _ rfl rfl) ?_ ?_
       ·
        rintro _ _ ⟨g2480, rfl, rfl⟩
        refine ⟨.inr (.cons _ (.cons _ (sub_skip hs2478 (sub_skip hs2470 (.refl _))))), ?_⟩
        refine D_all [17] (by kernel_rfl) rfl ?_
        refine R_do (hle2467.trans hle2475) rfl rfl (u_store 1 rfl rfl siz69 rfl rfl (by simp)) ?_ ?_
        ·
         rintro _ _ rfl
         refine ⟨.inl (by kernel_rfl), ?_⟩
         refine D_done (by kernel_rfl) ?_
         obtain ⟨rfl, rfl, rfl⟩ := some3 hm
         refine x_pullb 1 rfl ?_
         refine x_front2 [_, _] hs2478 hs2470 R rfl ?_
         exact x_join (e' := [(1, .slice A4 (l7).length c5), (6, .pointer (some ⟨g2481, 0, none⟩))]) ⟨rfl, rfl, trivial⟩ (.refl _) ⟨g2481, g2480, A2458, c2459, A2468, c2469, hs2470, A2476, c2477, hs2478, rfl, rfl, (hle2467.trans hle2475), (h2460.le (hle2467.trans hle2475)), (h2471.le hle2475), h2479⟩
        exact R_nil
       exact R_nil
      exact R_nil
     exact R_nil
    exact R_nil
   refine R_do (Base.Le.refl _) rfl rfl (u_alloc [.pointer none] zero69 rfl) ?_ ?_
   ·
    rintro _ _ ⟨g2481, rfl, rfl⟩
    refine ⟨.inr (.cons _ (.refl _)), ?_⟩
    refine D_all [4] (by kernel_rfl) rfl ?_
    refine R_callGl (Base.Le.refl _) rfl rfl _ call12 rfl (cSlicesClone _ _ y2448.times A2455 c2456 h2457 l2464 hcl2465) ?_ ?_
    ·
     rintro _ b2466 _ hle2467 ⟨A2468, c2469, hs2470, rfl, rfl, h2471⟩
     refine ⟨.inr (sub_skip hs2470 (.cons _ (.refl _))), ?_⟩
     refine d_in1 [] [_] hs2470 R rfl ?_
     refine D_all [13] (by kernel_rfl) rfl ?_
     refine R_callGl hle2467 rfl rfl _ call60 rfl (cSlicesClone_2 _ _ y2448.outs A2461 c2462 (h2463.le hle2467) l2472 hcl2473) ?_ ?_
     ·
      rintro _ b2474 _ hle2475 ⟨A2476, c2477, hs2478, rfl, rfl, h2479⟩
      refine ⟨.inr (sub_skip hs2478 (.cons _ (sub_skip hs2470 (.refl _)))), ?_⟩
      refine d_in1 [] [_] hs2478 (hs2470 ++ R) rfl ?_
      refine D_all [14] (by kernel_rfl) rfl ?_
      refine R_do (hle2467.trans hle2475) rfl rfl (Stable.does (st_build (v := .agg #[.slice A2468 (l2464).length c2469, .slice A2458 (y2448.last).length c2459, .slice A2476 (l2472).length c2477]) [(0, .slice A2468 (l2464).length c2469), (1, .slice A2458 (y2448.last).length c2459), (2, .slice A2476 (l2472).length c2477)] rfl (fun _ => by kernel_rfl))) ?_ ?_
      ·
       rintro _ _ ⟨rfl, rfl⟩
       refine ⟨.inr (.cons _ (sub_skip hs2478 (sub_skip hs2470 (.refl _)))), ?_⟩
       refine D_all [15] (by kernel_rfl) rfl ?_
       refine R_do (hle2467.trans hle2475) rfl rfl (u_box _ rfl rfl) ?_ ?_
       ·
        rintro _ _ ⟨g2480, rfl, rfl⟩
        refine ⟨.inr (.cons _ (.cons _ (sub_skip hs2478 (sub_skip hs2470 (.refl _))))), ?_⟩
        refine D_all [17] (by kernel_rfl) rfl ?_
        refine R_do (hle2467.trans hle2475) rfl rfl (u_store 1 rfl rfl siz69 rfl rfl (by simp)) ?_ ?_
        ·
         rintro _ _ rfl
         refine ⟨.inl (by kernel_rfl), ?_⟩
         refine D_done (by kernel_rfl) ?_
         obtain ⟨rfl, rfl, rfl⟩ := some3 hm
         refine x_pullb 1 rfl ?_
         refine x_front2 [_, _] hs2478 hs2470 R rfl ?_
         exact x_join (e' := [(1, .slice A4 (l7).length c5), (6, .pointer (some ⟨g2481, 0, none⟩))]) ⟨rfl, rfl, trivial⟩ (.refl _) ⟨g2481, g2480, A2458, c2459, A2468, c2469, hs2470, A2476, c2477, hs2478, rfl, rfl, (hle2467.trans hle2475), (h2460.le (hle2467.trans hle2475)), (h2471.le hle2475), h2479⟩
        exact R_nil
       exact R_nil
      exact R_nil
     exact R_nil
    exact R_nil
   exact R_nil
  ·
   rintro b2393 _ _ ⟨g2405, g2406, A2407, c2408, A2397, c2398, hs2396, A2402, c2403, hs2401, rfl, rfl, hle2394, h2409, h2399, h2404⟩
   have hm := (unc3E hk2413)
   refine c_seq ?_
   refine c_sr ?_
   refine t_mv rfl rfl ?_
   refine t_st rfl (st_len rfl sl23) ?_
   refine t_mv rfl rfl ?_
   refine t_ne ?_
   refine c_block ?_
   have hb2483 : l7.length ≤ 9223372036854775807 := (FZ.bd (h6.le hle2394))
   refine c_pullb 1 rfl ?_
   refine c_pullb 1 rfl ?_
   refine c_front2 [_, _] hs2396 hs2401 R rfl ?_
   refine c_front2 [_, _] hs2401 hs2396 R rfl ?_
   obtain ⟨l2767, hl2769, hk2770⟩ := bindS hm
   refine c_forS (fun k2768 => fun l2767 => fun b2760 e' hp' => ∃ (A2764 : Option Addr), ∃ (c2765 : Nat), ∃ (hs2763 : Hp), [(1, .slice A4 (l7).length c5), (6, .pointer (some ⟨g2405, 0, none⟩)), (36, .slice A4 (l7).length c5), (37, .int .i64 ((l7.length : Int))), (38, .int .i64 ((k2768 : Int)))] = e' ∧ (g2405, Cl 69 [.pointer (some ⟨g2406, 0, none⟩)]) :: (g2406, Cl 73 [.slice A2397 (l2411).length c2398, .slice A2407 (l2410).length c2408, .slice A2764 (l2767).length c2765]) :: (hs2396 ++ (hs2763 ++ R)) = hp' ∧ b2393.Le b2760 ∧ OS 23 (OT.fr (RT.list rMendArc)) b2760.w (.slice A2764 l2767.length c2765) l2767 hs2763) hl2769 (e' := [(1, .slice A4 (l7).length c5), (6, .pointer (some ⟨g2405, 0, none⟩)), (36, .slice A4 (l7).length c5), (37, .int .i64 ((l7.length : Int))), (38, .int .i64 0)]) ⟨rfl, rfl, rfl, rfl, rfl, trivial⟩ (.refl _) ⟨A2402, c2403, hs2401, rfl, rfl, (Base.Le.refl _), h2404⟩ ?_ ?_
   ·
    rintro k2768 l2767 b2760 _ _ oL2482 hknL2482 ⟨A2764, c2765, hs2763, rfl, rfl, hle2761, h2766⟩ hstepL2482
    unfold mMendSolverWith_2_L2482 at hstepL2482
    have hm := hstepL2482
    refine c_sr ?_
    refine t_st rfl (st_lss_t rfl rfl (by omega)) ?_
    refine t_ne ?_
    refine c_seq ?_
    refine c_cond_t rfl ?_
    refine c_skip ?_
    refine x_then_normal ?_
    refine c_seq ?_
    refine c_block ?_
    refine c_sr ?_
    obtain ⟨x2771, h2772, hm⟩ := bindS hm
    obtain ⟨j2773, hj2774, hx2775⟩ := idx_some h2772
    obtain ⟨cs2776, hr2777, hcs2778, hA2779, hlt2780⟩ := FZ.get (sz := 3) rfl (by decide) (h6.le (hle2394.trans hle2761)) hx2775
    obtain ⟨_, _, rfl, rfl, ⟨_, _, rfl, rfl, rfl⟩⟩ := hr2777
    refine t_st rfl (st_index_old j2773 rfl rfl hj2774 hlt2780 hA2779 sl23) ?_
    refine t_st rfl (st_loadN_old (vs := [.int .i64 (x2771.From), .int .i64 (x2771.To), .int .i64 (x2771.Len)]) 3 rfl agg34 hA2779 rfl (fun j u hu => hcs2778 j u hu)) ?_
    refine t_do rfl (u_alloc [.int .i64 0, .int .i64 0, .int .i64 0] zero34 rfl) ?_
    rintro _ _ ⟨g2781, rfl, rfl⟩
    refine t_do rfl (u_storeN (vs := [_, _, _]) 0 3 rfl rfl rfl siz34 rfl (mem_c rfl (mem_c rfl (mem_c rfl mem_n))) rfl (by simp)) ?_
    rintro _ _ rfl
    refine t_ne ?_
    obtain ⟨x2844, h2845, hm⟩ := bindS hm
    obtain ⟨l2863, hcl2864, hm⟩ := bindS hm
    obtain ⟨_, h2872, hm⟩ := bindS hm
    obtain ⟨x2877, h2878, hm⟩ := bindS hm
    refine c_front2 [_, _, _] hs2396 hs2763 R rfl ?_
    refine D_drawI mixed (.refl _) ?_
    refine E_st 0 rfl (st_load 1 rfl one69 rfl rfl) ?_
    refine E_st 1 rfl (st_nil rfl) ?_
    refine E_st 2 rfl (st_field rfl fld73_2) ?_
    refine E_st 3 rfl (st_load 2 rfl one35 rfl rfl) ?_
    refine E_st 4 rfl (st_field rfl fld34_0) ?_
    refine E_st 5 rfl (st_load 0 rfl one3 rfl rfl) ?_
    refine E_st 6 rfl (st_load 1 rfl one69 rfl rfl) ?_
    refine E_st 7 rfl (st_nil rfl) ?_
    refine E_st 8 rfl (st_field rfl fld73_2) ?_
    refine E_st 9 rfl (st_load 2 rfl one35 rfl rfl) ?_
    refine E_st 10 rfl (st_field rfl fld34_0) ?_
    refine E_st 11 rfl (st_load 0 rfl one3 rfl rfl) ?_
    obtain ⟨j2846, hj2847, hx2848⟩ := idx_some h2845
    obtain ⟨cs2849, hs2854, P2855, P2856, hq2857, hr2850, hcs2851, hA2852, hlt2853, hb2858, hho2859⟩ := OS.get (sz := 1) rfl (by decide) h2766 hx2848
    obtain ⟨⟨A2860, c2861, rfl, h2862⟩, rfl⟩ := hr2850
    refine E_st 12 rfl (st_index_old j2846 rfl rfl hj2847 hlt2853 hA2852 sl35) ?_
    refine E_st 13 rfl (st_load_rd rfl one23 (fun w ho => hcs2851 w _ ho (.cons _ (.cons _ (.cons _ (List.sublist_append_left _ _)))) 0 _ rfl)) ?_
    refine E_st 15 rfl (st_loadD (vs := [_, _, _]) 0 3 rfl agg34 rfl rfl rfl) ?_
    refine E_out ?_
    refine D_all [14, 16] (by kernel_rfl) rfl ?_
    refine R_callGl (Base.Le.refl _) rfl rfl _ call11 rfl (cSlicesClone_3 _ _ x2844 A2860 c2861 h2862 l2863 hcl2864) ?_ ?_
    ·
     rintro _ b2865 _ hle2866 ⟨A2867, c2868, hs2869, rfl, rfl, h2870⟩
     refine ⟨.inr (sub_skip hs2869 (.refl _)), ?_⟩
     refine d_in1 [] [_, _, _] hs2869 (hs2763 ++ (hs2396 ++ R)) rfl ?_
     refine D_all [16] (by kernel_rfl) rfl ?_
     refine R_do hle2866 rfl rfl (u_bslice (el := 34) [(0, .agg #[.int .i64 (x2771.From), .int .i64 (x2771.To), .int .i64 (x2771.Len)])] [.int .i64 (x2771.From), .int .i64 (x2771.To), .int .i64 (x2771.Len)] rfl (fun _ => by kernel_rfl)) ?_ ?_
     ·
      rintro _ _ ⟨g2871, rfl, rfl⟩
      refine ⟨.inr (.cons _ (.cons_cons _ (.cons_cons _ (.cons_cons _ (sub_skip hs2869 (.refl _)))))), ?_⟩
      have h2872 := room_some h2872
      refine D_all [17] (by kernel_rfl) rfl ?_
      refine R_do hle2866 rfl rfl (u_appOS (r := rMendArc) (l := l2863) [_, _, _, _] (hs2763 ++ (hs2396 ++ R)) [[.int .i64 (x2771.From), .int .i64 (x2771.To), .int .i64 (x2771.Len)]] [x2771] rfl (by decide) sl23 inf34 rfl rfl rfl rfl h2870 rfl (fun w ho => Rd.own (i := 0) ho rfl) ⟨⟨[.int .i64 (x2771.From)], _, rfl, rfl, ⟨[.int .i64 (x2771.To)], _, rfl, rfl, rfl⟩⟩, trivial⟩ h2872) ?_ ?_
      ·
       rintro _ _ ⟨hs2873, rfl, h2874⟩
       obtain ⟨A2875, c2876, rfl, _⟩ := h2874.form
       refine ⟨.inr (.cons _ (.cons_cons _ (.cons_cons _ (.cons_cons _ (sub_skip hs2873 (.refl _)))))), ?_⟩
       obtain ⟨j2879, hj2880, hx2881⟩ := idx_some h2878
       obtain ⟨cs2882, hs2887, P2888, P2889, hq2890, hr2883, hcs2884, hA2885, hlt2886, hb2891, hho2892⟩ := OS.get (sz := 1) rfl (by decide) h2766 hx2881
       obtain ⟨⟨A2893, c2894, rfl, h2895⟩, rfl⟩ := hr2883
       refine D_st hle2866 18 rfl (by kernel_rfl) (by kernel_rfl) (by kernel_rfl) rfl (st_index_old j2879 rfl rfl hj2880 hlt2886 hA2885 sl35) (.cons _ (.cons_cons _ (.cons_cons _ (.cons_cons _ (sub_skip hs2873 (.refl _)))))) ?_
       have hnz2898 : (A2875 = none ↔ l2863 ++ [x2771] = []) := (OS.nz h2874 (by simp))
       refine d_frz [_, _, _, _] hs2873 (hs2763 ++ (hs2396 ++ R)) rfl ?_
       intro b2899 hle2900 hz2901
       have h2902 := OS.frz (l := l2863 ++ [x2771]) h2874 hle2900.cells hz2901
       refine D_all [19] (by kernel_rfl) rfl ?_
       refine R_do (hle2866.trans hle2900) rfl rfl (u_putOS hj2880 (sz := 1) (a' := l2863 ++ [x2771]) rfl [_, _, _, _] (hs2396 ++ R) 0 1 [.slice A2875 (l2863 ++ [x2771]).length c2876] rfl (h2766.le (hle2866.trans hle2900)) hx2881 rfl rfl rfl siz23 rfl (mem_c rfl mem_n) (fun cs hsj hh => by obtain ⟨⟨A2903, c2904, rfl, h2905⟩, rfl⟩ := hh; exact ⟨by decide, (RT.list_mk h2902), rfl⟩)) ?_ ?_
       ·
        rintro _ _ ⟨hs2896, rfl, h2897⟩
        refine ⟨.inl (by kernel_rfl), ?_⟩
        refine d_hresp 3 rfl (o' := Cl 73 [.slice A2397 (l2411).length c2398, .slice A2407 (l2410).length c2408, .slice A2764 (put l2767 x2771.From (l2863 ++ [x2771])).length c2765]) (by simp only [put_length]) ?_
        refine D_done (by kernel_rfl) ?_
        refine x_block_normal ?_
        refine x_then_normal ?_
        refine c_region ?_
        refine t_st rfl (st_add rfl rfl (by omega)) ?_
        refine t_mv rfl rfl ?_
        refine t_nil ?_
        refine x_pullb 3 rfl ?_
        refine x_pullb 3 rfl ?_
        refine x_front2 [_, _, _, _] hs2896 hs2396 R rfl ?_
        obtain rfl := some1 hm
        exact x_againS (e' := [(1, .slice A4 (l7).length c5), (6, .pointer (some ⟨g2405, 0, none⟩)), (36, .slice A4 (l7).length c5), (37, .int .i64 ((l7.length : Int))), (38, .int .i64 ((k2768 : Int) + 1))]) ⟨rfl, rfl, rfl, rfl, rfl, trivial⟩ (.cons_cons _ (.cons_cons _ (.cons _ (.cons _ (.refl _))))) ⟨A2764, c2765, hs2896, rfl, rfl, ((hle2761.trans (hle2866.trans hle2900))), h2897⟩
       exact R_nil
      exact R_nil
     exact R_nil
    refine R_do (Base.Le.refl _) rfl rfl (u_bslice (el := 34) [(0, .agg #[.int .i64 (x2771.From), .int .i64 (x2771.To), .int .i64 (x2771.Len)])] [.int .i64 (x2771.From), .int .i64 (x2771.To), .int .i64 (x2771.Len)] rfl (fun _ => by kernel_rfl)) ?_ ?_
    ·
     rintro _ _ ⟨g2871, rfl, rfl⟩
     refine ⟨.inr (.cons _ (.refl _)), ?_⟩
     refine D_all [14] (by kernel_rfl) rfl ?_
     refine R_callGl (Base.Le.refl _) rfl rfl _ call11 rfl (cSlicesClone_3 _ _ x2844 A2860 c2861 h2862 l2863 hcl2864) ?_ ?_
     ·
      rintro _ b2865 _ hle2866 ⟨A2867, c2868, hs2869, rfl, rfl, h2870⟩
      refine ⟨.inr (sub_skip hs2869 (.cons _ (.refl _))), ?_⟩
      refine d_in1 [] [_, _, _, _] hs2869 (hs2763 ++ (hs2396 ++ R)) rfl ?_
      have h2872 := room_some h2872
      refine D_all [17] (by kernel_rfl) rfl ?_
      refine R_do hle2866 rfl rfl (u_appOS (r := rMendArc) (l := l2863) [_, _, _, _] (hs2763 ++ (hs2396 ++ R)) [[.int .i64 (x2771.From), .int .i64 (x2771.To), .int .i64 (x2771.Len)]] [x2771] rfl (by decide) sl23 inf34 rfl rfl rfl rfl h2870 rfl (fun w ho => Rd.own (i := 0) ho rfl) ⟨⟨[.int .i64 (x2771.From)], _, rfl, rfl, ⟨[.int .i64 (x2771.To)], _, rfl, rfl, rfl⟩⟩, trivial⟩ h2872) ?_ ?_
      ·
       rintro _ _ ⟨hs2873, rfl, h2874⟩
       obtain ⟨A2875, c2876, rfl, _⟩ := h2874.form
       refine ⟨.inr (.cons _ (.cons_cons _ (.cons_cons _ (.cons_cons _ (sub_skip hs2873 (.refl _)))))), ?_⟩
       obtain ⟨j2879, hj2880, hx2881⟩ := idx_some h2878
       obtain ⟨cs2882, hs2887, P2888, P2889, hq2890, hr2883, hcs2884, hA2885, hlt2886, hb2891, hho2892⟩ := OS.get (sz := 1) rfl (by decide) h2766 hx2881
       obtain ⟨⟨A2893, c2894, rfl, h2895⟩, rfl⟩ := hr2883
       refine D_st hle2866 18 rfl (by kernel_rfl) (by kernel_rfl) (by kernel_rfl) rfl (st_index_old j2879 rfl rfl hj2880 hlt2886 hA2885 sl35) (.cons _ (.cons_cons _ (.cons_cons _ (.cons_cons _ (sub_skip hs2873 (.refl _)))))) ?_
       have hnz2898 : (A2875 = none ↔ l2863 ++ [x2771] = []) := (OS.nz h2874 (by simp))
       refine d_frz [_, _, _, _] hs2873 (hs2763 ++ (hs2396 ++ R)) rfl ?_
       intro b2899 hle2900 hz2901
       have h2902 := OS.frz (l := l2863 ++ [x2771]) h2874 hle2900.cells hz2901
       refine D_all [19] (by kernel_rfl) rfl ?_
       refine R_do (hle2866.trans hle2900) rfl rfl (u_putOS hj2880 (sz := 1) (a' := l2863 ++ [x2771]) rfl [_, _, _, _] (hs2396 ++ R) 0 1 [.slice A2875 (l2863 ++ [x2771]).length c2876] rfl (h2766.le (hle2866.trans hle2900)) hx2881 rfl rfl rfl siz23 rfl (mem_c rfl mem_n) (fun cs hsj hh => by obtain ⟨⟨A2903, c2904, rfl, h2905⟩, rfl⟩ := hh; exact ⟨by decide, (RT.list_mk h2902), rfl⟩)) ?_ ?_
       ·
        rintro _ _ ⟨hs2896, rfl, h2897⟩
        refine ⟨.inl (by kernel_rfl), ?_⟩
        refine d_hresp 3 rfl (o' := Cl 73 [.slice A2397 (l2411).length c2398, .slice A2407 (l2410).length c2408, .slice A2764 (put l2767 x2771.From (l2863 ++ [x2771])).length c2765]) (by simp only [put_length]) ?_
        refine D_done (by kernel_rfl) ?_
        refine x_block_normal ?_
        refine x_then_normal ?_
        refine c_region ?_
        refine t_st rfl (st_add rfl rfl (by omega)) ?_
        refine t_mv rfl rfl ?_
        refine t_nil ?_
        refine x_pullb 3 rfl ?_
        refine x_pullb 3 rfl ?_
        refine x_front2 [_, _, _, _] hs2896 hs2396 R rfl ?_
        obtain rfl := some1 hm
        exact x_againS (e' := [(1, .slice A4 (l7).length c5), (6, .pointer (some ⟨g2405, 0, none⟩)), (36, .slice A4 (l7).length c5), (37, .int .i64 ((l7.length : Int))), (38, .int .i64 ((k2768 : Int) + 1))]) ⟨rfl, rfl, rfl, rfl, rfl, trivial⟩ (.cons_cons _ (.cons_cons _ (.cons _ (.cons _ (.refl _))))) ⟨A2764, c2765, hs2896, rfl, rfl, ((hle2761.trans (hle2866.trans hle2900))), h2897⟩
       exact R_nil
      exact R_nil
     exact R_nil
    exact R_nil
   ·
    rintro b2760 _ _ ⟨A2764, c2765, hs2763, rfl, rfl, hle2761, h2766⟩
    have hm := hk2770
    refine c_sr ?_
    refine t_st rfl (st_lss_f rfl rfl (by omega)) ?_
    refine t_ne ?_
    refine c_seq ?_
    refine c_cond_f rfl ?_
    refine c_exit ?_
    refine x_then_exit ?_
    refine x_then_exit ?_
    refine x_block_out ?_
    refine x_then_normal ?_
    refine c_sr ?_
    refine t_st rfl (st_load 0 rfl one69 rfl rfl) ?_
    refine t_st rfl (st_nil rfl) ?_
    refine t_st rfl (st_field rfl fld73_0) ?_
    refine t_st rfl (st_load 1 rfl one22 rfl rfl) ?_
    refine t_st rfl (st_len rfl sl22) ?_
    obtain ⟨m2906, h2907, hm⟩ := bindS hm
    have h2907 := mkLen_some h2907
    refine t_do rfl (u_mkOS (r := RT.bool) [_, _] (hs2396 ++ (hs2763 ++ R)) [.bool (false)] false m2906 rfl h2907.1 rfl rfl sl88 inf4 rfl rfl rfl (by decide) rfl h2907.2.1 h2907.2.2) ?_
    rintro _ _ ⟨hs2908, rfl, h2909⟩
    obtain ⟨A2910, c2911, rfl, _⟩ := h2909.form
    refine t_do rfl (u_alloc [.slice none 0 0] zero88 rfl) ?_
    rintro _ _ ⟨g2912, rfl, rfl⟩
    refine t_do rfl (u_store 0 rfl rfl siz88 rfl rfl (by simp)) ?_
    rintro _ _ rfl
    refine t_ne ?_
    refine c_sr ?_
    refine t_st rfl (st_load 1 rfl one69 rfl rfl) ?_
    refine t_st rfl (st_nil rfl) ?_
    refine t_st rfl (st_field rfl fld73_0) ?_
    refine t_st rfl (st_load 2 rfl one22 rfl rfl) ?_
    refine t_st rfl (st_len rfl sl22) ?_
    obtain ⟨m2913, h2914, hm⟩ := bindS hm
    have h2914 := mkLen_some h2914
    refine t_do rfl (u_mkOS (r := (RT.int .i64)) [_, _, _] (hs2908 ++ (hs2396 ++ (hs2763 ++ R))) [.int .i64 (0)] 0 m2913 rfl h2914.1 rfl rfl sl22 inf3 rfl rfl rfl (by decide) rfl h2914.2.1 h2914.2.2) ?_
    rintro _ _ ⟨hs2915, rfl, h2916⟩
    obtain ⟨A2917, c2918, rfl, _⟩ := h2916.form
    refine t_do rfl (u_alloc [.slice none 0 0] zero22 rfl) ?_
    rintro _ _ ⟨g2919, rfl, rfl⟩
    refine t_do rfl (u_store 0 rfl rfl siz22 rfl rfl (by simp)) ?_
    rintro _ _ rfl
    refine t_ne ?_
    refine c_sr ?_
    refine t_do rfl (u_alloc [.slice none 0 0] zero22 rfl) ?_
    rintro _ _ ⟨g2920, rfl, rfl⟩
    refine t_ne ?_
    refine c_sr ?_
    refine t_do rfl (u_alloc [.bool false] zero4 rfl) ?_
    rintro _ _ ⟨g2921, rfl, rfl⟩
    refine t_do rfl (u_store 0 rfl rfl siz4 rfl rfl (by simp)) ?_
    rintro _ _ rfl
    refine t_ne ?_
    refine c_sr ?_
    refine t_st rfl (st_func _ _ rfl rfl) ?_
    refine t_as rfl rfl ?_
    refine t_ne ?_
    refine c_seq ?_
    refine c_sr ?_
    refine t_mv rfl rfl ?_
    refine t_st rfl (st_len rfl sl23) ?_
    refine t_mv rfl rfl ?_
    refine t_ne ?_
    refine c_block ?_
    have hb2923 : l7.length ≤ 9223372036854775807 := (FZ.bd (h6.le (hle2394.trans hle2761)))
    refine c_pullb 5 rfl ?_
    refine c_pullb 3 rfl ?_
    refine c_pullb 2 rfl ?_
    refine c_pullb 3 rfl ?_
    refine c_pullb 4 rfl ?_
    refine c_pullb 5 rfl ?_
    refine c_front4 [_, _, _, _, _, _] hs2915 hs2908 hs2396 hs2763 R rfl ?_
    refine c_front4 [_, _, _, _, _, _] hs2763 hs2915 hs2908 hs2396 R rfl ?_
    refine c_front3 [_, _, _, _, _, _] hs2396 hs2763 hs2915 (hs2908 ++ R) rfl ?_
    refine c_front4 [_, _, _, _, _, _] hs2915 hs2396 hs2763 hs2908 R rfl ?_
    obtain ⟨⟨x3032, l3033, l3035, l3037, l3039⟩, hl3041, hk3042⟩ := bindS hm
    refine c_forS (fun k3040 => unc5 fun x3032 l3033 l3035 l3037 l3039 => fun b3014 e' hp' => ∃ (hs3017 : Hp), ∃ (A3021 : Option Addr), ∃ (c3022 : Nat), ∃ (hs3020 : Hp), ∃ (hs3025 : Hp), ∃ (A3029 : Option Addr), ∃ (c3030 : Nat), ∃ (hs3028 : Hp), [(6, .pointer (some ⟨g2405, 0, none⟩)), (9, .pointer (some ⟨g2912, 0, none⟩)), (11, .pointer (some ⟨g2920, 0, none⟩)), (12, .pointer (some ⟨g2921, 0, none⟩)), (13, .func (.func 61) #[] #[.pointer (some ⟨g2405, 0, none⟩), .pointer (some ⟨g2919, 0, none⟩), .pointer (some ⟨g2921, 0, none⟩), .pointer (some ⟨g2912, 0, none⟩), .pointer (some ⟨g2920, 0, none⟩)]), (75, .slice A4 (l7).length c5), (76, .int .i64 ((l7.length : Int))), (77, .int .i64 ((k3040 : Int)))] = e' ∧ (g2405, Cl 69 [.pointer (some ⟨g2406, 0, none⟩)]) :: (g2912, Cl 88 [.slice A2910 (l3033).length c2911]) :: (g2920, Cl 22 [.slice A3021 (l3035).length c3022]) :: (g2921, Cl 4 [.bool (x3032)]) :: (g2919, Cl 22 [.slice A2917 (l3037).length c2918]) :: (g2406, Cl 73 [.slice A3029 (l3039).length c3030, .slice A2407 (l2410).length c2408, .slice A2764 (l2767).length c2765]) :: (hs3017 ++ (hs3020 ++ (hs3025 ++ (hs3028 ++ (hs2763 ++ R))))) = hp' ∧ b2760.Le b3014 ∧ OS 4 (OT.fr RT.bool) b3014.w (.slice A2910 l3033.length c2911) l3033 hs3017 ∧ l3033.length = m2906 ∧ OS 3 (OT.fr (RT.int .i64)) b3014.w (.slice A3021 l3035.length c3022) l3035 hs3020 ∧ (A3021 = none ↔ l3035 = []) ∧ OS 3 (OT.fr (RT.int .i64)) b3014.w (.slice A2917 l3037.length c2918) l3037 hs3025 ∧ l3037.length = m2913 ∧ OS 3 (OT.fr (RT.int .i64)) b3014.w (.slice A3029 l3039.length c3030) l3039 hs3028) hl3041 (e' := [(6, .pointer (some ⟨g2405, 0, none⟩)), (9, .pointer (some ⟨g2912, 0, none⟩)), (11, .pointer (some ⟨g2920, 0, none⟩)), (12, .pointer (some ⟨g2921, 0, none⟩)), (13, .func (.func 61) #[] #[.pointer (some ⟨g2405, 0, none⟩), .pointer (some ⟨g2919, 0, none⟩), .pointer (some ⟨g2921, 0, none⟩), .pointer (some ⟨g2912, 0, none⟩), .pointer (some ⟨g2920, 0, none⟩)]), (75, .slice A4 (l7).length c5), (76, .int .i64 ((l7.length : Int))), (77, .int .i64 0)]) ⟨rfl, rfl, rfl, rfl, rfl, rfl, rfl, rfl, trivial⟩ (.refl _) ⟨hs2908, none, 0, [], hs2915, A2397, c2398, hs2396, rfl, rfl, (Base.Le.refl _), h2909, List.length_replicate, OS.nil, ⟨fun _ => rfl, fun _ => rfl⟩, h2916, List.length_replicate, (h2399.le hle2761)⟩ ?_ ?_
    ·
     rintro k3040 ⟨x3032, l3033, l3035, l3037, l3039⟩ b3014 _ _ oL2922 hknL2922 ⟨hs3017, A3021, c3022, hs3020, hs3025, A3029, c3030, hs3028, rfl, rfl, hle3015, h3018, hln3034, h3023, hnz3036, h3026, hln3038, h3031⟩ hstepL2922
     unfold mMendSolverWith_2_L2922 at hstepL2922
     have hm := (unc5E hstepL2922)
     refine c_sr ?_
     refine t_st rfl (st_lss_t rfl rfl (by omega)) ?_
     refine t_ne ?_
     refine c_seq ?_
     refine c_cond_t rfl ?_
     refine c_skip ?_
     refine x_then_normal ?_
     refine c_seq ?_
     refine c_block ?_
     refine c_sr ?_
     obtain ⟨x3043, h3044, hm⟩ := bindS hm
     obtain ⟨j3045, hj3046, hx3047⟩ := idx_some h3044
     obtain ⟨cs3048, hr3049, hcs3050, hA3051, hlt3052⟩ := FZ.get (sz := 3) rfl (by decide) (h6.le (hle2394.trans (hle2761.trans hle3015))) hx3047
     obtain ⟨_, _, rfl, rfl, ⟨_, _, rfl, rfl, rfl⟩⟩ := hr3049
     refine t_st rfl (st_index_old j3045 rfl rfl hj3046 hlt3052 hA3051 sl23) ?_
     refine t_st rfl (st_loadN_old (vs := [.int .i64 (x3043.From), .int .i64 (x3043.To), .int .i64 (x3043.Len)]) 3 rfl agg34 hA3051 rfl (fun j u hu => hcs3050 j u hu)) ?_
     refine t_do rfl (u_alloc [.int .i64 0, .int .i64 0, .int .i64 0] zero34 rfl) ?_
     rintro _ _ ⟨g3053, rfl, rfl⟩
     refine t_do rfl (u_storeN (vs := [_, _, _]) 0 3 rfl rfl rfl siz34 rfl (mem_c rfl (mem_c rfl (mem_c rfl mem_n))) rfl (by simp)) ?_
     rintro _ _ rfl
     refine t_ne ?_
     refine c_region ?_
     refine t_mv rfl rfl ?_
     refine t_st rfl (st_loadD (vs := [_, _, _]) 0 3 rfl agg34 rfl rfl rfl) ?_
     obtain ⟨⟨x3054, l3055, l3056, l3057, l3058⟩, hcl3059, hm⟩ := bindS hm
     have hm := (unc5E hm)
     refine t_pullb 6 rfl ?_
     refine t_pullb 4 rfl ?_
     refine t_pullb 4 rfl ?_
     refine t_pullb 5 rfl ?_
     refine t_pullb 6 rfl ?_
     refine t_pullb 6 rfl ?_
     refine t_front5 [_, _, _, _, _, _, _] hs3017 hs3020 hs3025 hs3028 hs2763 R rfl ?_
     refine t_front5 [_, _, _, _, _, _, _] hs2763 hs3017 hs3020 hs3025 hs3028 R rfl ?_
     refine t_front4 [_, _, _, _, _, _, _] hs3028 hs2763 hs3017 hs3020 (hs3025 ++ R) rfl ?_
     refine t_front4 [_, _, _, _, _, _, _] hs3020 hs3028 hs2763 hs3017 (hs3025 ++ R) rfl ?_
     refine t_front5 [_, _, _, _, _, _, _] hs3017 hs3020 hs3028 hs2763 hs3025 R rfl ?_
     refine t_out5 [_, _, _, _, _, _] [_] hs3025 hs3017 hs3020 hs3028 hs2763 R rfl ?_
     refine t_callvG #[] #[.pointer (some ⟨g2405, 0, none⟩), .pointer (some ⟨g2919, 0, none⟩), .pointer (some ⟨g2921, 0, none⟩), .pointer (some ⟨g2912, 0, none⟩), .pointer (some ⟨g2920, 0, none⟩)] [.agg #[.int .i64 (x3043.From), .int .i64 (x3043.To), .int .i64 (x3043.Len)]] rfl rfl call61 rfl (cMendSolverWith_1 _ _ x3043 x3032 l2410 l3037 l3033 l3035 l3039 l2767 g2405 g2919 g2921 g2912 g2920 g2406 A2407 c2408 A2917 c2918 hs3025 A2910 c2911 hs3017 A3021 c3022 hs3020 A3029 c3030 hs3028 A2764 c2765 hs2763 (h2409.le (hle2761.trans hle3015)) h3026 h3018 h3023 hnz3036 h3031 (h2766.le hle3015) x3054 l3055 l3056 l3057 l3058 hcl3059) ?_
     rintro _ b3060 _ hle3061 ⟨hs3062, hs3063, A3064, c3065, hs3066, hs3067, rfl, rfl, h3068, h3069, h3070, h3071, h3072, h3073, h3074, h3075⟩
     refine t_in5 [_, _, _, _, _, _] [_] hs3062 hs3063 hs3066 hs3067 hs2763 R rfl ?_
     refine t_hresp 1 rfl (o' := Cl 22 [.slice A2917 (l3055).length c2918]) (by simp only [h3069]) ?_
     refine t_hresp 3 rfl (o' := Cl 88 [.slice A2910 (l3056).length c2911]) (by simp only [h3071]) ?_
     refine t_hresp 5 rfl (o' := Cl 73 [.slice A3029 (l3058).length c3030, .slice A2407 (l2410).length c2408, .slice A2764 (l2767).length c2765]) (by simp only [h3075]) ?_
     refine t_nil ?_
     refine x_block_normal ?_
     refine x_then_normal ?_
     refine c_region ?_
     refine t_st rfl (st_add rfl rfl (by omega)) ?_
     refine t_mv rfl rfl ?_
     refine t_nil ?_
     refine x_pullb 5 rfl ?_
     refine x_pullb 2 rfl ?_
     refine x_pullb 3 rfl ?_
     refine x_pullb 5 rfl ?_
     refine x_pullb 5 rfl ?_
     refine x_pullb 5 rfl ?_
     refine x_front5 [_, _, _, _, _, _, _] hs3062 hs3063 hs3066 hs3067 hs2763 R rfl ?_
     refine x_front5 [_, _, _, _, _, _, _] hs2763 hs3062 hs3063 hs3066 hs3067 R rfl ?_
     refine x_front3 [_, _, _, _, _, _, _] hs3067 hs2763 hs3062 (hs3063 ++ (hs3066 ++ R)) rfl ?_
     refine x_front5 [_, _, _, _, _, _, _] hs3062 hs3067 hs2763 hs3063 hs3066 R rfl ?_
     refine x_front5 [_, _, _, _, _, _, _] hs3066 hs3062 hs3067 hs2763 hs3063 R rfl ?_
     obtain rfl := some1 hm
     exact x_againS (e' := [(6, .pointer (some ⟨g2405, 0, none⟩)), (9, .pointer (some ⟨g2912, 0, none⟩)), (11, .pointer (some ⟨g2920, 0, none⟩)), (12, .pointer (some ⟨g2921, 0, none⟩)), (13, .func (.func 61) #[] #[.pointer (some ⟨g2405, 0, none⟩), .pointer (some ⟨g2919, 0, none⟩), .pointer (some ⟨g2921, 0, none⟩), .pointer (some ⟨g2912, 0, none⟩), .pointer (some ⟨g2920, 0, none⟩)]), (75, .slice A4 (l7).length c5), (76, .int .i64 ((l7.length : Int))), (77, .int .i64 ((k3040 : Int) + 1))]) ⟨rfl, rfl, rfl, rfl, rfl, rfl, rfl, rfl, trivial⟩ (.cons_cons _ (.cons_cons _ (.cons_cons _ (.cons_cons _ (.cons_cons _ (.cons_cons _ (.cons _ (.refl _)))))))) ⟨hs3063, A3064, c3065, hs3066, hs3062, A3029, c3030, hs3067, rfl, rfl, ((hle3015.trans hle3061)), h3070, (h3071.trans hln3034), h3072, h3073, h3068, (h3069.trans hln3038), h3074⟩
    ·
     rintro b3014 _ _ ⟨hs3017, A3021, c3022, hs3020, hs3025, A3029, c3030, hs3028, rfl, rfl, hle3015, h3018, hln3034, h3023, hnz3036, h3026, hln3038, h3031⟩
     have hm := (unc5E hk3042)
     refine c_sr ?_
     refine t_st rfl (st_lss_f rfl rfl (by omega)) ?_
     refine t_ne ?_
     refine c_seq ?_
     refine c_cond_f rfl ?_
     refine c_exit ?_
     refine x_then_exit ?_
     refine x_then_exit ?_
     refine x_block_out ?_
     refine x_then_normal ?_
     refine c_sr ?_
     refine t_st rfl (st_load 0 rfl one69 rfl rfl) ?_
     obtain ⟨x3076, hcl3077, hm⟩ := bindS hm
     refine t_pullb 5 rfl ?_
     refine t_front5 [_, _, _, _, _, _] hs3017 hs3020 hs3025 hs3028 hs2763 R rfl ?_
     refine t_front5 [_, _, _, _, _, _] hs2763 hs3017 hs3020 hs3025 hs3028 R rfl ?_
     refine t_out2 [_] [_, _, _, _, _] hs3028 hs2763 (hs3017 ++ (hs3020 ++ (hs3025 ++ R))) rfl ?_
     refine t_callG _ rfl call62 rfl (cMendSolverBound _ _ l2410 l3039 l2767 g2406 A2407 c2408 A3029 c3030 hs3028 A2764 c2765 hs2763 (h2409.le (hle2761.trans hle3015)) h3031 (h2766.le hle3015) x3076 hcl3077) ?_
     rintro _ b3078 _ hle3079 ⟨rfl, rfl⟩
     refine t_in2 [_] [_, _, _, _, _] hs3028 hs2763 (hs3017 ++ (hs3020 ++ (hs3025 ++ R))) rfl ?_
     refine t_as rfl rfl ?_
     refine t_ne ?_
     obtain ⟨t3856, hj3855, hk3855⟩ := bindS hm
     refine c_join (fun b3846 e' hp' => ∃ (x3853 : Bool), ∃ (l3854 : (List Int)), ∃ (A3850 : Option Addr), ∃ (c3851 : Nat), ∃ (hs3849 : Hp), [(6, .pointer (some ⟨g2405, 0, none⟩)), (12, .pointer (some ⟨g2921, 0, none⟩))] = e' ∧ (g2405, Cl 69 [.pointer (some ⟨g2406, 0, none⟩)]) :: (g2921, Cl 4 [.bool (x3853)]) :: (g2406, Cl 73 [.slice A3850 (l3854).length c3851, .slice A2407 (l2410).length c2408, .slice A2764 (l2767).length c2765]) :: (hs3849 ++ (hs2763 ++ R)) = hp' ∧ b3078.Le b3846 ∧ OS 3 (OT.fr (RT.int .i64)) b3846.w (.slice A3850 l3854.length c3851) l3854 hs3849 ∧ t3856 = .inl (x3853, l3854)) ?_ ?_
     ·
      have hm := hj3855
      refine c_block ?_
      refine c_pullb 5 rfl ?_
      refine c_pullb 5 rfl ?_
      refine c_pullb 5 rfl ?_
      refine c_pullb 5 rfl ?_
      refine c_pullb 5 rfl ?_
      refine c_front2 [_, _, _, _, _, _] hs3028 hs2763 (hs3017 ++ (hs3020 ++ (hs3025 ++ R))) rfl ?_
      refine c_front2 [_, _, _, _, _, _] hs2763 hs3028 (hs3017 ++ (hs3020 ++ (hs3025 ++ R))) rfl ?_
      refine c_front5 [_, _, _, _, _, _] hs3028 hs2763 hs3017 hs3020 hs3025 R rfl ?_
      refine c_front5 [_, _, _, _, _, _] hs3025 hs3028 hs2763 hs3017 hs3020 R rfl ?_
      refine c_front5 [_, _, _, _, _, _] hs3020 hs3025 hs3028 hs2763 hs3017 R rfl ?_
      refine c_loopM (unc5 fun x4377 l4378 l4380 l4381 l4383 => fun b4359 e' hp' => ∃ (hs4362 : Hp), ∃ (A4366 : Option Addr), ∃ (c4367 : Nat), ∃ (hs4365 : Hp), ∃ (hs4370 : Hp), ∃ (A4374 : Option Addr), ∃ (c4375 : Nat), ∃ (hs4373 : Hp), [(6, .pointer (some ⟨g2405, 0, none⟩)), (9, .pointer (some ⟨g2912, 0, none⟩)), (11, .pointer (some ⟨g2920, 0, none⟩)), (12, .pointer (some ⟨g2921, 0, none⟩)), (13, .func (.func 61) #[] #[.pointer (some ⟨g2405, 0, none⟩), .pointer (some ⟨g2919, 0, none⟩), .pointer (some ⟨g2921, 0, none⟩), .pointer (some ⟨g2912, 0, none⟩), .pointer (some ⟨g2920, 0, none⟩)]), (16, .int .i64 (x3076))] = e' ∧ (g2405, Cl 69 [.pointer (some ⟨g2406, 0, none⟩)]) :: (g2912, Cl 88 [.slice A2910 (l4378).length c2911]) :: (g2920, Cl 22 [.slice A4366 (l4380).length c4367]) :: (g2921, Cl 4 [.bool (x4377)]) :: (g2919, Cl 22 [.slice A2917 (l4381).length c2918]) :: (g2406, Cl 73 [.slice A4374 (l4383).length c4375, .slice A2407 (l2410).length c2408, .slice A2764 (l2767).length c2765]) :: (hs4362 ++ (hs4365 ++ (hs4370 ++ (hs4373 ++ (hs2763 ++ R))))) = hp' ∧ b3078.Le b4359 ∧ OS 4 (OT.fr RT.bool) b4359.w (.slice A2910 l4378.length c2911) l4378 hs4362 ∧ l4378.length = m2906 ∧ OS 3 (OT.fr (RT.int .i64)) b4359.w (.slice A4366 l4380.length c4367) l4380 hs4365 ∧ OS 3 (OT.fr (RT.int .i64)) b4359.w (.slice A2917 l4381.length c2918) l4381 hs4370 ∧ l4381.length = m2913 ∧ OS 3 (OT.fr (RT.int .i64)) b4359.w (.slice A4374 l4383.length c4375) l4383 hs4373) hm (e' := [(6, .pointer (some ⟨g2405, 0, none⟩)), (9, .pointer (some ⟨g2912, 0, none⟩)), (11, .pointer (some ⟨g2920, 0, none⟩)), (12, .pointer (some ⟨g2921, 0, none⟩)), (13, .func (.func 61) #[] #[.pointer (some ⟨g2405, 0, none⟩), .pointer (some ⟨g2919, 0, none⟩), .pointer (some ⟨g2921, 0, none⟩), .pointer (some ⟨g2912, 0, none⟩), .pointer (some ⟨g2920, 0, none⟩)]), (16, .int .i64 (x3076))]) ⟨rfl, rfl, rfl, rfl, rfl, rfl, trivial⟩ (.refl _) ⟨hs3017, A3021, c3022, hs3020, hs3025, A3029, c3030, hs3028, rfl, rfl, (Base.Le.refl _), (h3018.le hle3079), hln3034, (h3023.le hle3079), (h3026.le hle3079), hln3038, (h3031.le hle3079)⟩ ?_
      rintro ⟨x4377, l4378, l4380, l4381, l4383⟩ b4359 _ _ oL3857 ⟨hs4362, A4366, c4367, hs4365, hs4370, A4374, c4375, hs4373, rfl, rfl, hle4360, h4363, hln4379, h4368, h4371, hln4382, h4376⟩ hstepL3857 houtL3857
      unfold mMendSolverWith_2_L3857 at hstepL3857
      have hm := (unc5E hstepL3857)
      refine c_seq ?_
      obtain ⟨x4387, hj4388, hk4388⟩ := bindS hm
      refine c_join (fun b4385 e' hp' => [(6, .pointer (some ⟨g2405, 0, none⟩)), (9, .pointer (some ⟨g2912, 0, none⟩)), (11, .pointer (some ⟨g2920, 0, none⟩)), (12, .pointer (some ⟨g2921, 0, none⟩)), (13, .func (.func 61) #[] #[.pointer (some ⟨g2405, 0, none⟩), .pointer (some ⟨g2919, 0, none⟩), .pointer (some ⟨g2921, 0, none⟩), .pointer (some ⟨g2912, 0, none⟩), .pointer (some ⟨g2920, 0, none⟩)]), (16, .int .i64 (x3076)), (92, .bool (x4387))] = e' ∧ (g2405, Cl 69 [.pointer (some ⟨g2406, 0, none⟩)]) :: (g2912, Cl 88 [.slice A2910 (l4378).length c2911]) :: (g2920, Cl 22 [.slice A4366 (l4380).length c4367]) :: (g2921, Cl 4 [.bool (x4377)]) :: (g2919, Cl 22 [.slice A2917 (l4381).length c2918]) :: (g2406, Cl 73 [.slice A4374 (l4383).length c4375, .slice A2407 (l2410).length c2408, .slice A2764 (l2767).length c2765]) :: (hs4362 ++ (hs4365 ++ (hs4370 ++ (hs4373 ++ (hs2763 ++ R))))) = hp' ∧ b4359.Le b4385) ?_ ?_
      ·
       have hm := hj4388
       refine c_region ?_
       refine t_st rfl (st_load 2 rfl one22 rfl rfl) ?_
       refine t_st rfl (st_len rfl sl22) ?_
       refine t_bool rfl (st_gtr rfl rfl) (fun hc4389 => ?_) (fun hc4389 => ?_)
       ·
        rw [if_pos hc4389] at hm
        refine t_mv rfl rfl ?_
        refine t_yes 90 rfl rfl rfl ?_
        refine t_st rfl (st_load 3 rfl one4 rfl rfl) ?_
        refine t_st rfl (st_pick_t rfl rfl) ?_
        refine t_nil ?_
        obtain rfl := some1 hm
        refine x_pullb 5 rfl ?_
        refine x_pullb 5 rfl ?_
        refine x_pullb 5 rfl ?_
        refine x_pullb 5 rfl ?_
        refine x_pullb 5 rfl ?_
        refine x_pullb 5 rfl ?_
        refine x_front5 [_, _, _, _, _, _] hs4362 hs4365 hs4370 hs4373 hs2763 R rfl ?_
        refine x_front5 [_, _, _, _, _, _] hs2763 hs4362 hs4365 hs4370 hs4373 R rfl ?_
        refine x_front5 [_, _, _, _, _, _] hs4373 hs2763 hs4362 hs4365 hs4370 R rfl ?_
        refine x_front5 [_, _, _, _, _, _] hs4370 hs4373 hs2763 hs4362 hs4365 R rfl ?_
        refine x_front5 [_, _, _, _, _, _] hs4365 hs4370 hs4373 hs2763 hs4362 R rfl ?_
        exact x_join (e' := [(6, .pointer (some ⟨g2405, 0, none⟩)), (9, .pointer (some ⟨g2912, 0, none⟩)), (11, .pointer (some ⟨g2920, 0, none⟩)), (12, .pointer (some ⟨g2921, 0, none⟩)), (13, .func (.func 61) #[] #[.pointer (some ⟨g2405, 0, none⟩), .pointer (some ⟨g2919, 0, none⟩), .pointer (some ⟨g2921, 0, none⟩), .pointer (some ⟨g2912, 0, none⟩), .pointer (some ⟨g2920, 0, none⟩)]), (16, .int .i64 (x3076)), (92, .bool (x4377))]) ⟨rfl, rfl, rfl, rfl, rfl, rfl, rfl, trivial⟩ (.refl _) ⟨rfl, rfl, (Base.Le.refl _)⟩
       ·
        rw [if_neg hc4389] at hm
        refine t_mv rfl rfl ?_
        refine t_no 90 rfl rfl rfl rfl rfl ?_
        refine t_st rfl (st_pick_f rfl rfl) ?_
        refine t_nil ?_
        obtain rfl := some1 hm
        refine x_pullb 5 rfl ?_
        refine x_pullb 5 rfl ?_
        refine x_pullb 5 rfl ?_
        refine x_pullb 5 rfl ?_
        refine x_pullb 5 rfl ?_
        refine x_pullb 5 rfl ?_
        refine x_front5 [_, _, _, _, _, _] hs4362 hs4365 hs4370 hs4373 hs2763 R rfl ?_
        refine x_front5 [_, _, _, _, _, _] hs2763 hs4362 hs4365 hs4370 hs4373 R rfl ?_
        refine x_front5 [_, _, _, _, _, _] hs4373 hs2763 hs4362 hs4365 hs4370 R rfl ?_
        refine x_front5 [_, _, _, _, _, _] hs4370 hs4373 hs2763 hs4362 hs4365 R rfl ?_
        refine x_front5 [_, _, _, _, _, _] hs4365 hs4370 hs4373 hs2763 hs4362 R rfl ?_
        exact x_join (e' := [(6, .pointer (some ⟨g2405, 0, none⟩)), (9, .pointer (some ⟨g2912, 0, none⟩)), (11, .pointer (some ⟨g2920, 0, none⟩)), (12, .pointer (some ⟨g2921, 0, none⟩)), (13, .func (.func 61) #[] #[.pointer (some ⟨g2405, 0, none⟩), .pointer (some ⟨g2919, 0, none⟩), .pointer (some ⟨g2921, 0, none⟩), .pointer (some ⟨g2912, 0, none⟩), .pointer (some ⟨g2920, 0, none⟩)]), (16, .int .i64 (x3076)), (92, .bool (false))]) ⟨rfl, rfl, rfl, rfl, rfl, rfl, rfl, trivial⟩ (.refl _) ⟨rfl, rfl, (Base.Le.refl _)⟩
      ·
       rintro b4385 _ _ ⟨rfl, rfl, hle4386⟩
       have hm := hk4388
       refine c_cond _ rfl (fun hc4390 => ?_) (fun hc4390 => ?_)
       ·
        rw [if_pos hc4390] at hm
        refine c_skip ?_
        refine x_then_normal ?_
        refine c_block ?_
        refine c_sr ?_
        refine t_st rfl (st_load 2 rfl one22 rfl rfl) ?_
        obtain ⟨x4391, h4392, hm⟩ := bindS hm
        obtain ⟨j4393, hj4394, hx4395⟩ := idx_some h4392
        obtain ⟨cs4396, hs4401, P4402, P4403, hq4404, hr4397, hcs4398, hA4399, hlt4400, hb4405, hho4406⟩ := OS.get (sz := 1) rfl (by decide) (h4368.le hle4386) hx4395
        obtain ⟨rfl, rfl⟩ := hr4397
        refine t_st rfl (st_index_old j4393 rfl rfl hj4394 hlt4400 hA4399 sl22) ?_
        refine t_st rfl (st_load_rd rfl one3 (fun w ho => hcs4398 w _ ho (.cons _ (.cons _ (.cons _ (.cons _ (.cons _ (.cons _ (sub_skip hs4362 (List.sublist_append_left _ _)))))))) 0 _ rfl)) ?_
        refine t_as rfl rfl ?_
        refine t_ne ?_
        refine c_sr ?_
        refine t_st rfl (st_load 2 rfl one22 rfl rfl) ?_
        obtain ⟨l4407, h4408, hm⟩ := bindS hm
        obtain ⟨j4409, j4410, hj4411, hj4412, hj4413, hj4414, hx4415⟩ := cutS_some h4408
        have h4416 := OS.lc (h4368.le hle4386)
        refine t_st rfl (hx4415 ▸ st_part (l := l4380) j4409 j4410 rfl (.inr ⟨_, _, _, rfl, rfl, hj4411⟩) (.inl ⟨rfl, by omega⟩) hj4413 hj4414 h4416 sl22) ?_
        obtain ⟨hs4417, hq4418, h4419⟩ := OS.sub (sz := 1) rfl (h4368.le hle4386) hj4413 hj4414
        rw [← hx4415] at h4419
        refine t_front2 [_, _, _, _, _, _] hs4362 hs4365 (hs4370 ++ (hs4373 ++ (hs2763 ++ R))) rfl ?_
        refine t_less [_, _, _, _, _, _] hs4365 hs4417 (hs4362 ++ (hs4370 ++ (hs4373 ++ (hs2763 ++ R)))) rfl hq4418 ?_
        refine t_do rfl (u_store 2 rfl rfl siz22 rfl rfl (by simp)) ?_
        rintro _ _ rfl
        refine t_ne ?_
        refine c_sr ?_
        refine t_st rfl (st_load 1 rfl one88 rfl rfl) ?_
        refine t_mv rfl rfl ?_
        obtain ⟨x4420, h4421, hm⟩ := bindS hm
        obtain ⟨j4422, hj4423, hx4424⟩ := idx_some h4421
        obtain ⟨cs4425, hs4430, P4431, P4432, hq4433, hr4426, hcs4427, hA4428, hlt4429, hb4434, hho4435⟩ := OS.get (sz := 1) rfl (by decide) (h4363.le hle4386) hx4424
        obtain ⟨rfl, rfl⟩ := hr4426
        refine t_st rfl (st_index_old j4422 rfl rfl hj4423 hlt4429 hA4428 sl88) ?_
        refine t_front2 [_, _, _, _, _, _] hs4417 hs4362 (hs4370 ++ (hs4373 ++ (hs2763 ++ R))) rfl ?_
        refine t_do rfl (u_putOS hj4423 (sz := 1) (a' := false) rfl [_, _, _, _, _, _] (hs4417 ++ (hs4370 ++ (hs4373 ++ (hs2763 ++ R)))) 0 1 [.bool (false)] rfl (h4363.le hle4386) hx4424 rfl rfl rfl siz4 rfl (mem_c rfl mem_n) (fun cs hsj hh => by obtain ⟨rfl, rfl⟩ := hh; exact ⟨by decide, rfl, rfl⟩)) ?_
        rintro _ _ ⟨hs4436, rfl, h4437⟩
        refine t_hresp 1 rfl (o' := Cl 88 [.slice A2910 (put l4378 x4391 false).length c2911]) (by simp only [put_length]) ?_
        refine t_ne ?_
        refine c_seq ?_
        refine c_sr ?_
        refine t_st rfl (st_load 0 rfl one69 rfl rfl) ?_
        refine t_st rfl (st_nil rfl) ?_
        refine t_st rfl (st_field rfl fld73_0) ?_
        refine t_st rfl (st_load 5 rfl one22 rfl rfl) ?_
        refine t_mv rfl rfl ?_
        obtain ⟨x4438, h4439, hm⟩ := bindS hm
        obtain ⟨j4440, hj4441, hx4442⟩ := idx_some h4439
        obtain ⟨cs4443, hs4448, P4449, P4450, hq4451, hr4444, hcs4445, hA4446, hlt4447, hb4452, hho4453⟩ := OS.get (sz := 1) rfl (by decide) (h4376.le hle4386) hx4442
        obtain ⟨rfl, rfl⟩ := hr4444
        refine t_st rfl (st_index_old j4440 rfl rfl hj4441 hlt4447 hA4446 sl22) ?_
        refine t_st rfl (st_load_rd rfl one3 (fun w ho => hcs4445 w _ ho (.cons _ (.cons _ (.cons _ (.cons _ (.cons _ (.cons _ (sub_skip hs4436 (sub_skip hs4417 (sub_skip hs4370 (List.sublist_append_left _ _)))))))))) 0 _ rfl)) ?_
        refine t_mv rfl rfl ?_
        refine t_st rfl (st_gtr rfl rfl) ?_
        refine t_ne ?_
        refine c_cond _ rfl (fun hc4454 => ?_) (fun hc4454 => ?_)
        ·
         rw [if_pos (of_decide_eq_true hc4454)] at hm
         refine c_sr ?_
         refine t_as rfl rfl ?_
         refine t_as rfl rfl ?_
         refine t_ne ?_
         refine c_ret ?_
         refine x_then_ret ?_
         refine x_block_ret ?_
         refine x_then_ret ?_
         refine x_block_ret ?_
         refine x_then_ret ?_
         have hm := congrArg some (houtL3857 _ (Option.some.inj hm).symm)
         have hq4455 := (Option.some.inj hm).symm
         rw [hq4455] at hk3855
         have hm := elimR hk3855
         obtain ⟨rfl, rfl⟩ := some2 hm
         exact retM (rs := [.tmp 4, .tmp 5]) [.pointer none, .bool (false)] (hle2394.trans (hle2761.trans (hle3015.trans (hle3079.trans (hle4360.trans hle4386))))) (by decide) rfl ⟨rfl, ⟨rfl, trivial⟩⟩ rfl (.cons _ (.cons _ (.cons _ (.cons _ (.cons _ (.cons _ (sub_skip hs4436 (sub_skip hs4417 (sub_skip hs4370 (sub_skip hs4373 (sub_skip hs2763 (.refl _)))))))))))) ⟨(.pointer none), rfl, rfl, rfl⟩
        ·
         rw [if_neg (of_decide_eq_false hc4454)] at hm
         refine c_skip ?_
         refine x_then_normal ?_
         refine c_sr ?_
         refine t_st rfl (st_load 0 rfl one69 rfl rfl) ?_
         refine t_st rfl (st_nil rfl) ?_
         refine t_st rfl (st_field rfl fld73_2) ?_
         refine t_st rfl (st_load 5 rfl one35 rfl rfl) ?_
         refine t_mv rfl rfl ?_
         obtain ⟨x4456, h4457, hm⟩ := bindS hm
         obtain ⟨j4458, hj4459, hx4460⟩ := idx_some h4457
         obtain ⟨cs4461, hs4466, P4467, P4468, hq4469, hr4462, hcs4463, hA4464, hlt4465, hb4470, hho4471⟩ := OS.get (sz := 1) rfl (by decide) (h2766.le (hle3015.trans (hle3079.trans (hle4360.trans hle4386)))) hx4460
         obtain ⟨⟨A4472, c4473, rfl, h4474⟩, rfl⟩ := hr4462
         refine t_st rfl (st_index_old j4458 rfl rfl hj4459 hlt4465 hA4464 sl35) ?_
         refine t_st rfl (st_load_rd rfl one23 (fun w ho => hcs4463 w _ ho (.cons _ (.cons _ (.cons _ (.cons _ (.cons _ (.cons _ (sub_skip hs4436 (sub_skip hs4417 (sub_skip hs4370 (sub_skip hs4373 (List.sublist_append_left _ _))))))))))) 0 _ rfl)) ?_
         refine t_st rfl (st_len rfl sl23) ?_
         refine t_mv rfl rfl ?_
         refine t_ne ?_
         refine c_block ?_
         have hb4476 : x4456.length ≤ 9223372036854775807 := (FZ.bd h4474)
         refine c_pullb 5 rfl ?_
         refine c_pullb 5 rfl ?_
         refine c_pullb 5 rfl ?_
         refine c_pullb 5 rfl ?_
         refine c_pullb 5 rfl ?_
         refine c_pullb 5 rfl ?_
         refine c_front5 [_, _, _, _, _, _] hs4436 hs4417 hs4370 hs4373 hs2763 R rfl ?_
         refine c_front5 [_, _, _, _, _, _] hs2763 hs4436 hs4417 hs4370 hs4373 R rfl ?_
         refine c_front5 [_, _, _, _, _, _] hs4373 hs2763 hs4436 hs4417 hs4370 R rfl ?_
         refine c_front5 [_, _, _, _, _, _] hs4370 hs4373 hs2763 hs4436 hs4417 R rfl ?_
         refine c_front5 [_, _, _, _, _, _] hs4417 hs4370 hs4373 hs2763 hs4436 R rfl ?_
         obtain ⟨⟨x4582, l4583, l4585, l4586, l4588⟩, hl4590, hk4591⟩ := bindS hm
         refine c_forS (fun k4589 => unc5 fun x4582 l4583 l4585 l4586 l4588 => fun b4564 e' hp' => ∃ (hs4567 : Hp), ∃ (A4571 : Option Addr), ∃ (c4572 : Nat), ∃ (hs4570 : Hp), ∃ (hs4575 : Hp), ∃ (A4579 : Option Addr), ∃ (c4580 : Nat), ∃ (hs4578 : Hp), [(6, .pointer (some ⟨g2405, 0, none⟩)), (9, .pointer (some ⟨g2912, 0, none⟩)), (11, .pointer (some ⟨g2920, 0, none⟩)), (12, .pointer (some ⟨g2921, 0, none⟩)), (13, .func (.func 61) #[] #[.pointer (some ⟨g2405, 0, none⟩), .pointer (some ⟨g2919, 0, none⟩), .pointer (some ⟨g2921, 0, none⟩), .pointer (some ⟨g2912, 0, none⟩), .pointer (some ⟨g2920, 0, none⟩)]), (16, .int .i64 (x3076)), (116, .slice A4472 (x4456).length c4473), (117, .int .i64 ((x4456.length : Int))), (118, .int .i64 ((k4589 : Int)))] = e' ∧ (g2405, Cl 69 [.pointer (some ⟨g2406, 0, none⟩)]) :: (g2912, Cl 88 [.slice A2910 (l4583).length c2911]) :: (g2920, Cl 22 [.slice A4571 (l4585).length c4572]) :: (g2921, Cl 4 [.bool (x4582)]) :: (g2919, Cl 22 [.slice A2917 (l4586).length c2918]) :: (g2406, Cl 73 [.slice A4579 (l4588).length c4580, .slice A2407 (l2410).length c2408, .slice A2764 (l2767).length c2765]) :: (hs4567 ++ (hs4570 ++ (hs4575 ++ (hs4578 ++ (hs2763 ++ R))))) = hp' ∧ b4385.Le b4564 ∧ OS 4 (OT.fr RT.bool) b4564.w (.slice A2910 l4583.length c2911) l4583 hs4567 ∧ l4583.length = m2906 ∧ OS 3 (OT.fr (RT.int .i64)) b4564.w (.slice A4571 l4585.length c4572) l4585 hs4570 ∧ OS 3 (OT.fr (RT.int .i64)) b4564.w (.slice A2917 l4586.length c2918) l4586 hs4575 ∧ l4586.length = m2913 ∧ OS 3 (OT.fr (RT.int .i64)) b4564.w (.slice A4579 l4588.length c4580) l4588 hs4578) hl4590 (e' := [(6, .pointer (some ⟨g2405, 0, none⟩)), (9, .pointer (some ⟨g2912, 0, none⟩)), (11, .pointer (some ⟨g2920, 0, none⟩)), (12, .pointer (some ⟨g2921, 0, none⟩)), (13, .func (.func 61) #[] #[.pointer (some ⟨g2405, 0, none⟩), .pointer (some ⟨g2919, 0, none⟩), .pointer (some ⟨g2921, 0, none⟩), .pointer (some ⟨g2912, 0, none⟩), .pointer (some ⟨g2920, 0, none⟩)]), (16, .int .i64 (x3076)), (116, .slice A4472 (x4456).length c4473), (117, .int .i64 ((x4456.length : Int))), (118, .int .i64 0)]) ⟨rfl, rfl, rfl, rfl, rfl, rfl, rfl, rfl, rfl, trivial⟩ (.refl _) ⟨hs4436, (subA A4366 c4367 j4409 1), (c4367 - j4409), hs4417, hs4370, A4374, c4375, hs4373, rfl, rfl, (Base.Le.refl _), h4437, ((put_length _ _ _).trans hln4379), h4419, (h4371.le hle4386), hln4382, (h4376.le hle4386)⟩ ?_ ?_
         ·
          rintro k4589 ⟨x4582, l4583, l4585, l4586, l4588⟩ b4564 _ _ oL4475 hknL4475 ⟨hs4567, A4571, c4572, hs4570, hs4575, A4579, c4580, hs4578, rfl, rfl, hle4565, h4568, hln4584, h4573, h4576, hln4587, h4581⟩ hstepL4475
          unfold mMendSolverWith_2_L4475 at hstepL4475
          have hm := (unc5E hstepL4475)
          refine c_sr ?_
          refine t_st rfl (st_lss_t rfl rfl (by omega)) ?_
          refine t_ne ?_
          refine c_seq ?_
          refine c_cond_t rfl ?_
          refine c_skip ?_
          refine x_then_normal ?_
          refine c_seq ?_
          refine c_block ?_
          refine c_sr ?_
          obtain ⟨x4592, h4593, hm⟩ := bindS hm
          obtain ⟨j4594, hj4595, hx4596⟩ := idx_some h4593
          obtain ⟨cs4597, hr4598, hcs4599, hA4600, hlt4601⟩ := FZ.get (sz := 3) rfl (by decide) (h4474.le hle4565) hx4596
          obtain ⟨_, _, rfl, rfl, ⟨_, _, rfl, rfl, rfl⟩⟩ := hr4598
          refine t_st rfl (st_index_old j4594 rfl rfl hj4595 hlt4601 hA4600 sl23) ?_
          refine t_st rfl (st_loadN_old (vs := [.int .i64 (x4592.From), .int .i64 (x4592.To), .int .i64 (x4592.Len)]) 3 rfl agg34 hA4600 rfl (fun j u hu => hcs4599 j u hu)) ?_
          refine t_do rfl (u_alloc [.int .i64 0, .int .i64 0, .int .i64 0] zero34 rfl) ?_
          rintro _ _ ⟨g4602, rfl, rfl⟩
          refine t_do rfl (u_storeN (vs := [_, _, _]) 0 3 rfl rfl rfl siz34 rfl (mem_c rfl (mem_c rfl (mem_c rfl mem_n))) rfl (by simp)) ?_
          rintro _ _ rfl
          refine t_ne ?_
          refine c_region ?_
          refine t_mv rfl rfl ?_
          refine t_st rfl (st_loadD (vs := [_, _, _]) 0 3 rfl agg34 rfl rfl rfl) ?_
          obtain ⟨⟨x4603, l4604, l4605, l4606, l4607⟩, hcl4608, hm⟩ := bindS hm
          have hm := (unc5E hm)
          refine t_pullb 6 rfl ?_
          refine t_pullb 4 rfl ?_
          refine t_pullb 4 rfl ?_
          refine t_pullb 5 rfl ?_
          refine t_pullb 6 rfl ?_
          refine t_pullb 6 rfl ?_
          refine t_front5 [_, _, _, _, _, _, _] hs4567 hs4570 hs4575 hs4578 hs2763 R rfl ?_
          refine t_front5 [_, _, _, _, _, _, _] hs2763 hs4567 hs4570 hs4575 hs4578 R rfl ?_
          refine t_front4 [_, _, _, _, _, _, _] hs4578 hs2763 hs4567 hs4570 (hs4575 ++ R) rfl ?_
          refine t_front4 [_, _, _, _, _, _, _] hs4570 hs4578 hs2763 hs4567 (hs4575 ++ R) rfl ?_
          refine t_front5 [_, _, _, _, _, _, _] hs4567 hs4570 hs4578 hs2763 hs4575 R rfl ?_
          refine t_out5 [_, _, _, _, _, _] [_] hs4575 hs4567 hs4570 hs4578 hs2763 R rfl ?_
          refine t_callvG #[] #[.pointer (some ⟨g2405, 0, none⟩), .pointer (some ⟨g2919, 0, none⟩), .pointer (some ⟨g2921, 0, none⟩), .pointer (some ⟨g2912, 0, none⟩), .pointer (some ⟨g2920, 0, none⟩)] [.agg #[.int .i64 (x4592.From), .int .i64 (x4592.To), .int .i64 (x4592.Len)]] rfl rfl call61 rfl (cMendSolverWith_1_2 _ _ x4592 x4582 l2410 l4586 l4583 l4585 l4588 l2767 g2405 g2919 g2921 g2912 g2920 g2406 A2407 c2408 A2917 c2918 hs4575 A2910 c2911 hs4567 A4571 c4572 hs4570 A4579 c4580 hs4578 A2764 c2765 hs2763 (h2409.le (hle2761.trans (hle3015.trans (hle3079.trans (hle4360.trans (hle4386.trans hle4565)))))) h4576 h4568 h4573 h4581 (h2766.le (hle3015.trans (hle3079.trans (hle4360.trans (hle4386.trans hle4565))))) x4603 l4604 l4605 l4606 l4607 hcl4608) ?_
          rintro _ b4609 _ hle4610 ⟨hs4611, hs4612, A4613, c4614, hs4615, hs4616, rfl, rfl, h4617, h4618, h4619, h4620, h4621, h4622, h4623⟩
          refine t_in5 [_, _, _, _, _, _] [_] hs4611 hs4612 hs4615 hs4616 hs2763 R rfl ?_
          refine t_hresp 1 rfl (o' := Cl 22 [.slice A2917 (l4604).length c2918]) (by simp only [h4618]) ?_
          refine t_hresp 3 rfl (o' := Cl 88 [.slice A2910 (l4605).length c2911]) (by simp only [h4620]) ?_
          refine t_hresp 5 rfl (o' := Cl 73 [.slice A4579 (l4607).length c4580, .slice A2407 (l2410).length c2408, .slice A2764 (l2767).length c2765]) (by simp only [h4623]) ?_
          refine t_nil ?_
          refine x_block_normal ?_
          refine x_then_normal ?_
          refine c_region ?_
          refine t_st rfl (st_add rfl rfl (by omega)) ?_
          refine t_mv rfl rfl ?_
          refine t_nil ?_
          refine x_pullb 5 rfl ?_
          refine x_pullb 2 rfl ?_
          refine x_pullb 3 rfl ?_
          refine x_pullb 5 rfl ?_
          refine x_pullb 5 rfl ?_
          refine x_pullb 5 rfl ?_
          refine x_front5 [_, _, _, _, _, _, _] hs4611 hs4612 hs4615 hs4616 hs2763 R rfl ?_
          refine x_front5 [_, _, _, _, _, _, _] hs2763 hs4611 hs4612 hs4615 hs4616 R rfl ?_
          refine x_front3 [_, _, _, _, _, _, _] hs4616 hs2763 hs4611 (hs4612 ++ (hs4615 ++ R)) rfl ?_
          refine x_front5 [_, _, _, _, _, _, _] hs4611 hs4616 hs2763 hs4612 hs4615 R rfl ?_
          refine x_front5 [_, _, _, _, _, _, _] hs4615 hs4611 hs4616 hs2763 hs4612 R rfl ?_
          obtain rfl := some1 hm
          exact x_againS (e' := [(6, .pointer (some ⟨g2405, 0, none⟩)), (9, .pointer (some ⟨g2912, 0, none⟩)), (11, .pointer (some ⟨g2920, 0, none⟩)), (12, .pointer (some ⟨g2921, 0, none⟩)), (13, .func (.func 61) #[] #[.pointer (some ⟨g2405, 0, none⟩), .pointer (some ⟨g2919, 0, none⟩), .pointer (some ⟨g2921, 0, none⟩), .pointer (some ⟨g2912, 0, none⟩), .pointer (some ⟨g2920, 0, none⟩)]), (16, .int .i64 (x3076)), (116, .slice A4472 (x4456).length c4473), (117, .int .i64 ((x4456.length : Int))), (118, .int .i64 ((k4589 : Int) + 1))]) ⟨rfl, rfl, rfl, rfl, rfl, rfl, rfl, rfl, rfl, trivial⟩ (.cons_cons _ (.cons_cons _ (.cons_cons _ (.cons_cons _ (.cons_cons _ (.cons_cons _ (.cons _ (.refl _)))))))) ⟨hs4612, A4613, c4614, hs4615, hs4611, A4579, c4580, hs4616, rfl, rfl, ((hle4565.trans hle4610)), h4619, (h4620.trans hln4584), h4621, h4617, (h4618.trans hln4587), h4622⟩
         ·
          rintro b4564 _ _ ⟨hs4567, A4571, c4572, hs4570, hs4575, A4579, c4580, hs4578, rfl, rfl, hle4565, h4568, hln4584, h4573, h4576, hln4587, h4581⟩
          have hm := (unc5E hk4591)
          refine c_sr ?_
          refine t_st rfl (st_lss_f rfl rfl (by omega)) ?_
          refine t_ne ?_
          refine c_seq ?_
          refine c_cond_f rfl ?_
          refine c_exit ?_
          refine x_then_exit ?_
          refine x_then_exit ?_
          refine x_block_out ?_
          refine x_block_normal ?_
          refine x_pullb 5 rfl ?_
          refine x_pullb 5 rfl ?_
          refine x_pullb 5 rfl ?_
          refine x_pullb 5 rfl ?_
          refine x_pullb 5 rfl ?_
          refine x_pullb 5 rfl ?_
          refine x_front5 [_, _, _, _, _, _] hs4567 hs4570 hs4575 hs4578 hs2763 R rfl ?_
          refine x_front5 [_, _, _, _, _, _] hs2763 hs4567 hs4570 hs4575 hs4578 R rfl ?_
          refine x_front5 [_, _, _, _, _, _] hs4578 hs2763 hs4567 hs4570 hs4575 R rfl ?_
          refine x_front5 [_, _, _, _, _, _] hs4575 hs4578 hs2763 hs4567 hs4570 R rfl ?_
          refine x_front5 [_, _, _, _, _, _] hs4570 hs4575 hs4578 hs2763 hs4567 R rfl ?_
          exact x_againM (x4582, l4583, l4585, l4586, l4588) (Option.some.inj hm).symm (e' := [(6, .pointer (some ⟨g2405, 0, none⟩)), (9, .pointer (some ⟨g2912, 0, none⟩)), (11, .pointer (some ⟨g2920, 0, none⟩)), (12, .pointer (some ⟨g2921, 0, none⟩)), (13, .func (.func 61) #[] #[.pointer (some ⟨g2405, 0, none⟩), .pointer (some ⟨g2919, 0, none⟩), .pointer (some ⟨g2921, 0, none⟩), .pointer (some ⟨g2912, 0, none⟩), .pointer (some ⟨g2920, 0, none⟩)]), (16, .int .i64 (x3076))]) ⟨rfl, rfl, rfl, rfl, rfl, rfl, trivial⟩ (.refl _) ⟨hs4567, A4571, c4572, hs4570, hs4575, A4579, c4580, hs4578, rfl, rfl, ((hle4360.trans (hle4386.trans hle4565))), h4568, hln4584, h4573, h4576, hln4587, h4581⟩
       ·
        rw [if_neg (fun hh => Bool.noConfusion (hh.symm.trans hc4390))] at hm
        refine c_exit ?_
        refine x_then_exit ?_
        refine x_then_exit ?_
        refine x_block_out ?_
        have hm := congrArg some (houtL3857 _ (Option.some.inj hm).symm)
        have hq := (Option.some.inj hm).symm
        refine x_pullb 5 rfl ?_
        refine x_pullb 4 rfl ?_
        refine x_pullb 2 rfl ?_
        refine x_front5 [_, _, _, _, _, _] hs4362 hs4365 hs4370 hs4373 hs2763 R rfl ?_
        refine x_front5 [_, _, _, _, _, _] hs2763 hs4362 hs4365 hs4370 hs4373 R rfl ?_
        exact x_join (e' := [(6, .pointer (some ⟨g2405, 0, none⟩)), (12, .pointer (some ⟨g2921, 0, none⟩))]) ⟨rfl, rfl, trivial⟩ (.cons_cons _ (.cons_cons _ (.cons_cons _ (.cons _ (.cons _ (.cons _ (sub_app hs4373 (sub_app hs2763 (sub_skip hs4362 (sub_skip hs4365 (sub_skip hs4370 (.refl _)))))))))))) ⟨x4377, l4383, A4374, c4375, hs4373, rfl, rfl, (hle4360.trans hle4386), (h4376.le hle4386), hq⟩
     ·
      rintro b3846 _ _ ⟨x3853, l3854, A3850, c3851, hs3849, rfl, rfl, hle3847, h3852, hq4624⟩
      rw [hq4624] at hk3855
      have hm := elimL hk3855
      have hm := (unc2E hm)
      refine c_seq ?_
      refine D_drawI mixed (.refl _) ?_
      refine E_st 0 rfl (st_load 0 rfl one69 rfl rfl) ?_
      refine E_st 1 rfl (st_load 1 rfl one4 rfl rfl) ?_
      refine E_st 2 rfl (st_assign rfl) ?_
      refine E_st 3 rfl (st_assign rfl) ?_
      refine E_out ?_
      refine D_done (by kernel_rfl) ?_
      refine x_then_normal ?_
      refine c_ret ?_
      refine x_frz [_, _, _] hs3849 (hs2763 ++ R) rfl ?_
      intro b4625 hle4626 hz4627
      have h4628 := OS.frz (l := l3854) h3852 hle4626.cells hz4627
      refine x_frz [_, _, _] hs2763 R rfl ?_
      intro b4629 hle4630 hz4631
      have h4632 := OS.frz (l := l2767) (h2766.le (hle3015.trans (hle3079.trans (hle3847.trans hle4626)))) hle4630.cells hz4631
      refine x_frzb 2 rfl ?_
      intro b4633 hle4634 hz4635
      have hat4636 := at_fz hz4635
      obtain ⟨rfl, rfl⟩ := some2 hm
      have he4637 := (show (RT.ptr rMendSolver).rep b4633.w [.pointer (some (⟨g2406, 0, none⟩))] (some (⟨l3854, l2410, l2767⟩ : MendSolver)) from ⟨_, [.slice A3850 (l3854).length c3851, .slice A2407 (l2410).length c2408, .slice A2764 (l2767).length c2765], rfl, ⟨[.slice A3850 (l3854).length c3851], _, rfl, (RT.list_mk (h4628.le (hle4630.trans hle4634))), ⟨[.slice A2407 (l2410).length c2408], _, rfl, (RT.list_mk (h2409.le (hle2761.trans (hle3015.trans (hle3079.trans (hle3847.trans (hle4626.trans (hle4630.trans hle4634)))))))), (RT.list_mk (h4632.le hle4634))⟩⟩, hat4636⟩)
      exact retM (rs := [.tmp 4, .tmp 5]) [.pointer (some (⟨g2406, 0, none⟩)), .bool (x3853)] (hle2394.trans (hle2761.trans (hle3015.trans (hle3079.trans (hle3847.trans (hle4626.trans (hle4630.trans hle4634))))))) (by decide) rfl ⟨rfl, ⟨rfl, trivial⟩⟩ rfl (.cons _ (.cons _ (.refl _))) ⟨(.pointer (some (⟨g2406, 0, none⟩))), rfl, rfl, he4637⟩

set_option maxRecDepth 20000 in
theorem cMendPicked (b : Base) (R : Hp) (s1 : MendGraph) (l20 : (List Int)) (A2 : Option Addr) (c3 : Nat) (A5 : Option Addr) (c6 : Nat) (A8 : Option Addr) (c9 : Nat) (A11 : Option Addr) (c12 : Nat) (A14 : Option Addr) (c15 : Nat) (A17 : Option Addr) (c18 : Nat) (h4 : FZ (RT.int .i64) b.w A2 c3 s1.Ready) (h7 : FZ (RT.int .i64) b.w A5 c6 s1.Last) (h10 : FZ (RT.int .i64) b.w A8 c9 s1.Due) (h13 : FZ rMendArc b.w A11 c12 s1.Arcs) (h16 : FZ rMendChoice b.w A14 c15 s1.Choices) (h19 : FZ (RT.int .i64) b.w A17 c18 l20) (q197 : (Option MendSolver)) (x200 : Bool) (hm : mMendPicked s1 l20 = some (q197, x200)) :
    CallsG Try.prog 34 [.agg #[.slice A2 (s1.Ready).length c3, .slice A5 (s1.Last).length c6, .slice A8 (s1.Due).length c9, .slice A11 (s1.Arcs).length c12, .slice A14 (s1.Choices).length c15], .slice A17 (l20).length c18] b (R) (fun v b' hp' => ∃ (v198 : Value), .tuple #[v198, .bool (x200)] = v ∧ R = hp' ∧ (RT.ptr rMendSolver).rep b'.w [v198] q197) := by
  refine fn_enterG 45 Try.func34 rfl Try.ntmps34 rfl ?_
  unfold mMendPicked at hm
  refine c_sr ?_
  refine t_do rfl (u_box _ rfl rfl) ?_
  rintro _ _ ⟨g201, rfl, rfl⟩
  refine t_as rfl rfl ?_
  refine t_as rfl rfl ?_
  refine t_ne ?_
  refine c_sr ?_
  refine t_st rfl (st_loadD (vs := [_, _, _, _, _]) 0 5 rfl agg26 rfl rfl rfl) ?_
  obtain ⟨⟨q202, x203⟩, hcl204, hm⟩ := bindS hm
  have hm := (unc2E hm)
  refine t_callG _ rfl call42 rfl (cMendStart _ _ s1 A2 c3 A5 c6 A8 c9 A11 c12 A14 c15 h4 h7 h10 h13 h16 q202 x203 hcl204) ?_
  rintro _ b205 _ hle206 ⟨v207, rfl, rfl, h208⟩
  refine t_mv rfl rfl ?_
  refine t_st rfl (st_extract rfl rfl) ?_
  refine t_st rfl (st_extract rfl rfl) ?_
  refine t_as rfl rfl ?_
  refine t_as rfl rfl ?_
  refine t_ne ?_
  refine c_seq ?_
  refine c_sr ?_
  refine t_mv rfl rfl ?_
  refine t_st rfl (st_len rfl sl22) ?_
  refine t_mv rfl rfl ?_
  refine t_ne ?_
  refine c_block ?_
  have hb210 : l20.length ≤ 9223372036854775807 := (FZ.bd (h19.le hle206))
  obtain ⟨⟨q319, x322⟩, hl324, hk325⟩ := bindS hm
  refine c_forS (fun k323 => unc2 fun q319 x322 => fun b317 e' hp' => ∃ (v320 : Value), [(2, .pointer (some ⟨g201, 0, none⟩)), (6, v320), (7, .bool (x322)), (15, .slice A17 (l20).length c18), (16, .int .i64 ((l20.length : Int))), (17, .int .i64 ((k323 : Int)))] = e' ∧ (g201, Cl 26 [.slice A2 (s1.Ready).length c3, .slice A5 (s1.Last).length c6, .slice A8 (s1.Due).length c9, .slice A11 (s1.Arcs).length c12, .slice A14 (s1.Choices).length c15]) :: R = hp' ∧ b205.Le b317 ∧ (RT.ptr rMendSolver).rep b317.w [v320] q319) hl324 (e' := [(2, .pointer (some ⟨g201, 0, none⟩)), (6, v207), (7, .bool (x203)), (15, .slice A17 (l20).length c18), (16, .int .i64 ((l20.length : Int))), (17, .int .i64 0)]) ⟨rfl, rfl, rfl, rfl, rfl, rfl, trivial⟩ (.refl _) ⟨v207, rfl, rfl, (Base.Le.refl _), h208⟩ ?_ ?_
  ·
   rintro k323 ⟨q319, x322⟩ b317 _ _ oL209 hknL209 ⟨v320, rfl, rfl, hle318, h321⟩ hstepL209
   unfold mMendPicked_L209 at hstepL209
   have hm := (unc2E hstepL209)
   refine c_sr ?_
   refine t_st rfl (st_lss_t rfl rfl (by omega)) ?_
   refine t_ne ?_
   refine c_seq ?_
   refine c_cond_t rfl ?_
   refine c_skip ?_
   refine x_then_normal ?_
   refine c_seq ?_
   refine c_block ?_
   refine c_sr ?_
   refine t_mv rfl rfl ?_
   obtain ⟨x326, h327, hm⟩ := bindS hm
   obtain ⟨j328, hj329, hx330⟩ := idx_some h327
   obtain ⟨cs331, hr332, hcs333, hA334, hlt335⟩ := FZ.get (sz := 1) rfl (by decide) (h19.le (hle206.trans hle318)) hx330
   obtain rfl := hr332
   refine t_st rfl (st_index_old j328 rfl rfl hj329 hlt335 hA334 sl22) ?_
   refine t_st rfl (st_load_old rfl one3 (hcs333 0 _ rfl)) ?_
   refine t_as rfl rfl ?_
   refine t_as rfl rfl ?_
   refine t_ne ?_
   obtain ⟨x339, hj340, hk340⟩ := bindS hm
   refine c_join (fun b337 e' hp' => [(2, .pointer (some ⟨g201, 0, none⟩)), (6, v320), (7, .bool (x322)), (8, .int .i64 ((k323 : Int))), (9, .int .i64 (x326)), (15, .slice A17 (l20).length c18), (16, .int .i64 ((l20.length : Int))), (17, .int .i64 ((k323 : Int))), (26, .bool (x339))] = e' ∧ (g201, Cl 26 [.slice A2 (s1.Ready).length c3, .slice A5 (s1.Last).length c6, .slice A8 (s1.Due).length c9, .slice A11 (s1.Arcs).length c12, .slice A14 (s1.Choices).length c15]) :: R = hp' ∧ b317.Le b337) ?_ ?_
   ·
    have hm := hj340
    refine c_region ?_
    refine t_mv rfl rfl ?_
    rcases Bool.eq_false_or_eq_true x322 with hc341 | hc341
    ·
     rw [if_pos hc341] at hm
     refine t_resp 22 rfl (v' := .bool true) (by rw [hc341] <;> rfl) ?_
     refine t_mv rfl rfl ?_
     refine t_yes 23 rfl rfl rfl ?_
     refine t_mv rfl rfl ?_
     refine t_yes 23 rfl rfl rfl ?_
     refine t_st rfl (st_gtr rfl rfl) ?_
     refine t_st rfl (st_pick_t rfl rfl) ?_
     refine t_nil ?_
     obtain rfl := some1 hm
     exact x_join (e' := [(2, .pointer (some ⟨g201, 0, none⟩)), (6, v320), (7, .bool (x322)), (8, .int .i64 ((k323 : Int))), (9, .int .i64 (x326)), (15, .slice A17 (l20).length c18), (16, .int .i64 ((l20.length : Int))), (17, .int .i64 ((k323 : Int))), (26, .bool (decide (0 < x326)))]) ⟨rfl, rfl, rfl, rfl, rfl, rfl, rfl, rfl, rfl, trivial⟩ (.refl _) ⟨rfl, rfl, (Base.Le.refl _)⟩
    ·
     rw [if_neg (fun hh => Bool.noConfusion (hh.symm.trans hc341))] at hm
     refine t_resp 22 rfl (v' := .bool false) (by rw [hc341] <;> rfl) ?_
     refine t_mv rfl rfl ?_
     refine t_no 23 rfl rfl rfl rfl rfl ?_
     refine t_no 23 rfl rfl rfl rfl rfl ?_
     refine t_st rfl (st_pick_f rfl rfl) ?_
     refine t_nil ?_
     obtain rfl := some1 hm
     exact x_join (e' := [(2, .pointer (some ⟨g201, 0, none⟩)), (6, v320), (7, .bool (x322)), (8, .int .i64 ((k323 : Int))), (9, .int .i64 (x326)), (15, .slice A17 (l20).length c18), (16, .int .i64 ((l20.length : Int))), (17, .int .i64 ((k323 : Int))), (26, .bool (false))]) ⟨rfl, rfl, rfl, rfl, rfl, rfl, rfl, rfl, rfl, trivial⟩ (.refl _) ⟨rfl, rfl, (Base.Le.refl _)⟩
   ·
    rintro b337 _ _ ⟨rfl, rfl, hle338⟩
    have hm := hk340
    refine c_cond _ rfl (fun hc342 => ?_) (fun hc342 => ?_)
    ·
     rw [if_pos hc342] at hm
     refine c_region ?_
     refine t_mv rfl rfl ?_
     refine t_st rfl (st_field rfl fld26_4) ?_
     refine t_st rfl (st_load 0 rfl one24 rfl rfl) ?_
     refine t_mv rfl rfl ?_
     obtain ⟨x343, h344, hm⟩ := bindS hm
     obtain ⟨j345, hj346, hx347⟩ := idx_some h344
     obtain ⟨cs348, hr349, hcs350, hA351, hlt352⟩ := FZ.get (sz := 1) rfl (by decide) (h16.le (hle206.trans (hle318.trans hle338))) hx347
     obtain ⟨A353, c354, rfl, h355⟩ := hr349
     refine t_st rfl (st_index_old j345 rfl rfl hj346 hlt352 hA351 sl24) ?_
     refine t_st rfl (st_field_old rfl hA351 fld37_0) ?_
     refine t_st rfl (st_load_old rfl one35 (hcs350 0 _ rfl)) ?_
     refine t_mv rfl rfl ?_
     obtain ⟨_, h356, hm⟩ := bindS hm
     have h356 := (chk_some h356).2
     refine t_st rfl (st_sub rfl rfl h356) ?_
     obtain ⟨x357, h358, hm⟩ := bindS hm
     obtain ⟨j359, hj360, hx361⟩ := idx_some h358
     obtain ⟨cs362, hr363, hcs364, hA365, hlt366⟩ := FZ.get (sz := 1) rfl (by decide) h355 hx361
     obtain ⟨A367, c368, rfl, h369⟩ := hr363
     refine t_st rfl (st_index_old j359 rfl rfl hj360 hlt366 hA365 sl35) ?_
     refine t_st rfl (st_load_old rfl one23 (hcs364 0 _ rfl)) ?_
     obtain ⟨⟨q370, x371⟩, hcl372, hm⟩ := bindS hm
     have hm := (unc2E hm)
     refine t_callG _ rfl call41 rfl (cMendSolverWith_2 _ _ q319 x357 v320 A367 c368 (RT.le (RT.ptr rMendSolver) h321 hle338) h369 q370 x371 hcl372) ?_
     rintro _ b373 _ hle374 ⟨v375, rfl, rfl, h376⟩
     refine t_mv rfl rfl ?_
     refine t_st rfl (st_extract rfl rfl) ?_
     refine t_st rfl (st_extract rfl rfl) ?_
     refine t_as rfl rfl ?_
     refine t_as rfl rfl ?_
     refine t_nil ?_
     refine x_block_normal ?_
     refine x_then_normal ?_
     refine c_region ?_
     refine t_st rfl (st_add rfl rfl (by omega)) ?_
     refine t_mv rfl rfl ?_
     refine t_nil ?_
     obtain rfl := some1 hm
     exact x_againS (e' := [(2, .pointer (some ⟨g201, 0, none⟩)), (6, v375), (7, .bool (x371)), (15, .slice A17 (l20).length c18), (16, .int .i64 ((l20.length : Int))), (17, .int .i64 ((k323 : Int) + 1))]) ⟨rfl, rfl, rfl, rfl, rfl, rfl, trivial⟩ (.refl _) ⟨v375, rfl, rfl, ((hle318.trans (hle338.trans hle374))), h376⟩
    ·
     rw [if_neg (fun hh => Bool.noConfusion (hh.symm.trans hc342))] at hm
     refine c_skip ?_
     refine x_block_normal ?_
     refine x_then_normal ?_
     refine c_region ?_
     refine t_st rfl (st_add rfl rfl (by omega)) ?_
     refine t_mv rfl rfl ?_
     refine t_nil ?_
     obtain rfl := some1 hm
     exact x_againS (e' := [(2, .pointer (some ⟨g201, 0, none⟩)), (6, v320), (7, .bool (x322)), (15, .slice A17 (l20).length c18), (16, .int .i64 ((l20.length : Int))), (17, .int .i64 ((k323 : Int) + 1))]) ⟨rfl, rfl, rfl, rfl, rfl, rfl, trivial⟩ (.refl _) ⟨v320, rfl, rfl, ((hle318.trans hle338)), (RT.le (RT.ptr rMendSolver) h321 hle338)⟩
  ·
   rintro b317 _ _ ⟨v320, rfl, rfl, hle318, h321⟩
   have hm := (unc2E hk325)
   refine c_sr ?_
   refine t_st rfl (st_lss_f rfl rfl (by omega)) ?_
   refine t_ne ?_
   refine c_seq ?_
   refine c_cond_f rfl ?_
   refine c_exit ?_
   refine x_then_exit ?_
   refine x_then_exit ?_
   refine x_block_out ?_
   refine x_then_normal ?_
   refine c_sr ?_
   refine t_mv rfl rfl ?_
   refine t_mv rfl rfl ?_
   refine t_as rfl rfl ?_
   refine t_as rfl rfl ?_
   refine t_ne ?_
   refine c_ret ?_
   obtain ⟨rfl, rfl⟩ := some2 hm
   exact retM (rs := [.tmp 4, .tmp 5]) [v320, .bool (x322)] (hle206.trans hle318) (by decide) rfl ⟨rfl, ⟨rfl, trivial⟩⟩ rfl (.cons _ (.refl _)) ⟨v320, rfl, rfl, h321⟩

set_option maxRecDepth 20000 in
theorem cMendTimes (b : Base) (R : Hp) (s1 : MendGraph) (l20 : (List Int)) (A2 : Option Addr) (c3 : Nat) (A5 : Option Addr) (c6 : Nat) (A8 : Option Addr) (c9 : Nat) (A11 : Option Addr) (c12 : Nat) (A14 : Option Addr) (c15 : Nat) (A17 : Option Addr) (c18 : Nat) (h4 : FZ (RT.int .i64) b.w A2 c3 s1.Ready) (h7 : FZ (RT.int .i64) b.w A5 c6 s1.Last) (h10 : FZ (RT.int .i64) b.w A8 c9 s1.Due) (h13 : FZ rMendArc b.w A11 c12 s1.Arcs) (h16 : FZ rMendChoice b.w A14 c15 s1.Choices) (h19 : FZ (RT.int .i64) b.w A17 c18 l20) (l52 : (List Int)) (x53 : Int) (hm : mMendTimes s1 l20 = some (l52, x53)) :
    CallsG Try.prog 10 [.agg #[.slice A2 (s1.Ready).length c3, .slice A5 (s1.Last).length c6, .slice A8 (s1.Due).length c9, .slice A11 (s1.Arcs).length c12, .slice A14 (s1.Choices).length c15], .slice A17 (l20).length c18] b (R) (fun v b' hp' => ∃ (A49 : Option Addr), ∃ (c50 : Nat), .tuple #[.slice A49 (l52).length c50, .int .i64 (x53)] = v ∧ R = hp' ∧ FZ (RT.int .i64) b'.w A49 c50 l52) := by
  refine fn_enterG 27 Try.func10 rfl Try.ntmps10 rfl ?_
  unfold mMendTimes at hm
  refine c_sr ?_
  refine t_do rfl (u_box _ rfl rfl) ?_
  rintro _ _ ⟨g54, rfl, rfl⟩
  refine t_as rfl rfl ?_
  refine t_as rfl rfl ?_
  refine t_ne ?_
  refine c_seq ?_
  refine c_sr ?_
  refine t_st rfl (st_loadD (vs := [_, _, _, _, _]) 0 5 rfl agg26 rfl rfl rfl) ?_
  refine t_mv rfl rfl ?_
  obtain ⟨x55, hcl56, hm⟩ := bindS hm
  refine t_do rfl (u_callW0 _ call33 rfl (fun w ho => cMendCheckPick _ [] s1 l20 A2 c3 A5 c6 A8 c9 A11 c12 A14 c15 A17 c18 (h4.old ho) (h7.old ho) (h10.old ho) (h13.old ho) (h16.old ho) (h19.old ho) x55 hcl56) (fun _ _ _ h => h.2.symm)) ?_
  rintro _ _ ⟨⟨_, rfl, _⟩, rfl⟩
  refine t_as rfl rfl ?_
  refine t_ne ?_
  refine c_sr ?_
  refine t_mv rfl rfl ?_
  refine t_st rfl (st_neq rfl rfl) ?_
  refine t_ne ?_
  refine c_cond _ rfl (fun hc57 => ?_) (fun hc57 => ?_)
  ·
   rw [if_pos (of_decide_eq_true hc57)] at hm
   refine c_sr ?_
   refine t_mv rfl rfl ?_
   refine t_as rfl rfl ?_
   refine t_as rfl rfl ?_
   refine t_ne ?_
   refine c_ret ?_
   refine x_then_ret ?_
   obtain ⟨rfl, rfl⟩ := some2 hm
   exact retM (rs := [.tmp 4, .tmp 5]) [.slice none 0 0, .int .i64 (x55)] (Base.Le.refl _) (by decide) rfl ⟨rfl, ⟨rfl, trivial⟩⟩ rfl (.cons _ (.refl _)) ⟨none, 0, rfl, rfl, FZ.nil⟩
  ·
   rw [if_neg (of_decide_eq_false hc57)] at hm
   refine c_skip ?_
   refine x_then_normal ?_
   refine c_sr ?_
   refine t_st rfl (st_loadD (vs := [_, _, _, _, _]) 0 5 rfl agg26 rfl rfl rfl) ?_
   refine t_mv rfl rfl ?_
   obtain ⟨⟨q58, x59⟩, hcl60, hm⟩ := bindS hm
   have hm := (unc2E hm)
   refine t_callG _ rfl call34 rfl (cMendPicked _ _ s1 l20 A2 c3 A5 c6 A8 c9 A11 c12 A14 c15 A17 c18 h4 h7 h10 h13 h16 h19 q58 x59 hcl60) ?_
   rintro _ b61 _ hle62 ⟨v63, rfl, rfl, h64⟩
   refine t_mv rfl rfl ?_
   refine t_st rfl (st_extract rfl rfl) ?_
   refine t_st rfl (st_extract rfl rfl) ?_
   refine t_as rfl rfl ?_
   refine t_as rfl rfl ?_
   refine t_ne ?_
   refine c_seq ?_
   refine c_sr ?_
   refine t_mv rfl rfl ?_
   refine t_st rfl (st_not rfl) ?_
   refine t_ne ?_
   refine c_cond _ rfl (fun hc65 => ?_) (fun hc65 => ?_)
   ·
    rw [if_neg (fun hh => Bool.noConfusion (hh.symm.trans (notT hc65)))] at hm
    refine c_sr ?_
    refine t_as rfl rfl ?_
    refine t_as rfl rfl ?_
    refine t_ne ?_
    refine c_ret ?_
    refine x_then_ret ?_
    obtain ⟨rfl, rfl⟩ := some2 hm
    exact retM (rs := [.tmp 4, .tmp 5]) [.slice none 0 0, .int .i64 (5)] hle62 (by decide) rfl ⟨rfl, ⟨rfl, trivial⟩⟩ rfl (.cons _ (.refl _)) ⟨none, 0, rfl, rfl, FZ.nil⟩
   ·
    rw [if_pos (notF hc65)] at hm
    refine c_skip ?_
    refine x_then_normal ?_
    refine c_sr ?_
    refine t_mv rfl rfl ?_
    obtain ⟨y66, h67, hm⟩ := bindS hm
    have h72 := h64
    rw [h67] at h72
    obtain ⟨a68, cs69, rfl, hr70, hcs71⟩ := ptr_open h72
    obtain ⟨_, _, rfl, ⟨A73, c74, rfl, h75⟩, ⟨_, _, rfl, ⟨A76, c77, rfl, h78⟩, ⟨A79, c80, rfl, h81⟩⟩⟩ := hr70
    refine t_st rfl (st_nil_at rfl) ?_
    refine t_st rfl (st_field_at rfl fld73_0) ?_
    refine t_st rfl (st_load_at rfl one22 (hcs71 0 _ rfl)) ?_
    refine t_as rfl rfl ?_
    refine t_as rfl rfl ?_
    refine t_ne ?_
    refine c_ret ?_
    obtain ⟨rfl, rfl⟩ := some2 hm
    exact retM (rs := [.tmp 4, .tmp 5]) [.slice A73 (y66.times).length c74, .int .i64 (0)] hle62 (by decide) rfl ⟨rfl, ⟨rfl, trivial⟩⟩ rfl (.cons _ (.refl _)) ⟨A73, c74, rfl, rfl, h75⟩

set_option maxRecDepth 20000 in
theorem cFishkeep2AwakeMend (b : Base) (R : Hp) (x17 : Bool) (hm : mFishkeep2AwakeMend = some x17) :
    CallsG Try.prog 7 [] b (R) (fun v b' hp' => .bool (x17) = v ∧ R = hp') := by
  refine fn_enterG 11 Try.func7 rfl Try.ntmps7 rfl ?_
  unfold mFishkeep2AwakeMend at hm
  refine c_sr ?_
  refine t_as rfl rfl ?_
  refine t_ne ?_
  refine c_sr ?_
  refine t_st rfl (st_build (v := .agg #[.slice none 0 0, .slice none 0 0, .slice none 0 0, .slice none 0 0, .slice none 0 0]) [] rfl (fun _ => by kernel_rfl)) ?_
  refine t_do rfl (u_bslice (el := 3) [(0, .int .i64 ((-1)))] [.int .i64 ((-1))] rfl (fun _ => by kernel_rfl)) ?_
  rintro _ _ ⟨g18, rfl, rfl⟩
  refine t_seg 0 [] R rfl rfl ?_
  have h20 : OS 3 (OT.fr (RT.int .i64)) b.w (.slice (some ⟨g18, 0, none⟩) 1 1) [(-1)] [(g18, Cl 3 [.int .i64 ((-1))])] := OS.lit [[.int .i64 ((-1))]] rfl ⟨rfl, trivial⟩ rfl (by decide)
  have hnz21 : (((some ⟨g18, 0, none⟩) : Option Addr) = none ↔ [(-1)] = []) := ⟨nofun, nofun⟩
  refine t_frz [] [(g18, Cl 3 [.int .i64 ((-1))])] R rfl ?_
  intro b22 hle23 hz24
  have h25 := OS.frz (l := [(-1)]) h20 hle23.cells hz24
  obtain ⟨⟨l26, x27⟩, hcl28, hm⟩ := bindS hm
  have hm := (unc2E hm)
  refine t_callG _ rfl call10 rfl (cMendTimes _ _ (⟨[], [], [], [], []⟩ : MendGraph) [(-1)] none 0 none 0 none 0 none 0 none 0 (some ⟨g18, 0, none⟩) 1 FZ.nil FZ.nil FZ.nil FZ.nil FZ.nil h25 l26 x27 hcl28) ?_
  rintro _ b29 _ hle30 ⟨A31, c32, rfl, rfl, h33⟩
  refine t_mv rfl rfl ?_
  refine t_st rfl (st_extract rfl rfl) ?_
  refine t_st rfl (st_extract rfl rfl) ?_
  refine t_as rfl rfl ?_
  refine t_as rfl rfl ?_
  refine t_ne ?_
  refine c_sr ?_
  refine t_mv rfl rfl ?_
  refine t_st rfl (st_neq rfl rfl) ?_
  refine t_as rfl rfl ?_
  refine t_ne ?_
  refine c_ret ?_
  obtain rfl := some1 hm
  exact retM (rs := [.tmp 0]) [.bool (decide (x27 ≠ 0))] (hle23.trans hle30) (by decide) rfl ⟨rfl, trivial⟩ rfl (.refl _) ⟨rfl, rfl⟩

set_option maxRecDepth 20000 in
theorem cMendRoundSlack (b : Base) (R : Hp) (s1 : MendRound) (s8 : MendLink) (A2 : Option Addr) (c3 : Nat) (A5 : Option Addr) (c6 : Nat) (h4 : FZ (RT.int .i64) b.w A2 c3 s1.Plan) (h7 : FZ rMendLink b.w A5 c6 s1.Links) (x59 : Int) (hm : mMendRoundSlack s1 s8 = some x59) :
    CallsG Try.prog 55 [.agg #[.int .i64 (s1.Period), .slice A2 (s1.Plan).length c3, .slice A5 (s1.Links).length c6], .agg #[.int .i64 (s8.From), .int .i64 (s8.To), .int .i64 (s8.Len), .int .i64 (s8.Back)]] b (R) (fun v b' hp' => .int .i64 (x59) = v ∧ R = hp') := by
  refine fn_enterG 27 Try.func55 rfl Try.ntmps55 rfl ?_
  unfold mMendRoundSlack at hm
  refine c_sr ?_
  refine t_do rfl (u_box _ rfl rfl) ?_
  rintro _ _ ⟨g60, rfl, rfl⟩
  refine t_do rfl (u_box _ rfl rfl) ?_
  rintro _ _ ⟨g61, rfl, rfl⟩
  refine t_as rfl rfl ?_
  refine t_ne ?_
  refine c_seq ?_
  obtain ⟨x86, h87, hm⟩ := bindS hm
  obtain ⟨x96, h97, hm⟩ := bindS hm
  obtain ⟨_, h106, hm⟩ := bindS hm
  obtain ⟨_, h107, hm⟩ := bindS hm
  obtain ⟨_, h108, hm⟩ := bindS hm
  obtain ⟨_, h109, hm⟩ := bindS hm
  refine D_drawI mixed (.refl _) ?_
  refine E_st 0 rfl (st_field rfl fld54_1) ?_
  refine E_st 1 rfl (st_load 1 rfl one22 rfl rfl) ?_
  refine E_st 2 rfl (st_field rfl fld83_1) ?_
  refine E_st 3 rfl (st_load 0 rfl one3 rfl rfl) ?_
  obtain ⟨j88, hj89, hx90⟩ := idx_some h87
  obtain ⟨cs91, hr92, hcs93, hA94, hlt95⟩ := FZ.get (sz := 1) rfl (by decide) h4 hx90
  obtain rfl := hr92
  refine E_st 4 rfl (st_index_old j88 rfl rfl hj89 hlt95 hA94 sl22) ?_
  refine E_st 5 rfl (st_load_old rfl one3 (hcs93 0 _ rfl)) ?_
  refine E_st 6 rfl (st_field rfl fld54_1) ?_
  refine E_st 7 rfl (st_load 1 rfl one22 rfl rfl) ?_
  refine E_st 8 rfl (st_field rfl fld83_0) ?_
  refine E_st 9 rfl (st_load 0 rfl one3 rfl rfl) ?_
  obtain ⟨j98, hj99, hx100⟩ := idx_some h97
  obtain ⟨cs101, hr102, hcs103, hA104, hlt105⟩ := FZ.get (sz := 1) rfl (by decide) h4 hx100
  obtain rfl := hr102
  refine E_st 10 rfl (st_index_old j98 rfl rfl hj99 hlt105 hA104 sl22) ?_
  refine E_st 11 rfl (st_load_old rfl one3 (hcs103 0 _ rfl)) ?_
  have h106 := (chk_some h106).2
  refine E_st 12 rfl (st_sub rfl rfl h106) ?_
  refine E_st 13 rfl (st_field rfl fld83_3) ?_
  refine E_st 14 rfl (st_load 0 rfl one3 rfl rfl) ?_
  refine E_st 15 rfl (st_field rfl fld54_0) ?_
  refine E_st 16 rfl (st_load 1 rfl one3 rfl rfl) ?_
  have h107 := (chk_some h107).2
  refine E_st 17 rfl (st_mul rfl rfl h107) ?_
  have h108 := (chk_some h108).2
  refine E_st 18 rfl (st_add rfl rfl h108) ?_
  refine E_st 19 rfl (st_field rfl fld83_2) ?_
  refine E_st 20 rfl (st_load 0 rfl one3 rfl rfl) ?_
  have h109 := (chk_some h109).2
  refine E_st 21 rfl (st_sub rfl rfl h109) ?_
  refine E_st 22 rfl (st_assign rfl) ?_
  refine E_out ?_
  refine D_done (by kernel_rfl) ?_
  refine x_then_normal ?_
  refine c_ret ?_
  obtain rfl := some1 hm
  exact retM (rs := [.tmp 4]) [.int .i64 (((x86 - x96) + (s8.Back * s1.Period)) - s8.Len)] (Base.Le.refl _) (by decide) rfl ⟨rfl, trivial⟩ rfl (.cons _ (.cons _ (.refl _))) ⟨rfl, rfl⟩

set_option maxRecDepth 20000 in
theorem cMendRoundRing (b : Base) (R : Hp) (s1 : MendRound) (A2 : Option Addr) (c3 : Nat) (A5 : Option Addr) (c6 : Nat) (h4 : FZ (RT.int .i64) b.w A2 c3 s1.Plan) (h7 : FZ rMendLink b.w A5 c6 s1.Links) (x2058 : Bool) (hm : mMendRoundRing s1 = some x2058) :
    CallsG Try.prog 67 [.agg #[.int .i64 (s1.Period), .slice A2 (s1.Plan).length c3, .slice A5 (s1.Links).length c6]] b (R) (fun v b' hp' => .bool (x2058) = v ∧ R = hp') := by
  refine fn_enterG 54 Try.func67 rfl Try.ntmps67 rfl ?_
  unfold mMendRoundRing at hm
  refine c_sr ?_
  refine t_do rfl (u_box _ rfl rfl) ?_
  rintro _ _ ⟨g2059, rfl, rfl⟩
  refine t_as rfl rfl ?_
  refine t_ne ?_
  refine c_sr ?_
  refine t_st rfl (st_field rfl fld54_1) ?_
  refine t_st rfl (st_load 0 rfl one22 rfl rfl) ?_
  refine t_st rfl (st_len rfl sl22) ?_
  obtain ⟨m2060, h2061, hm⟩ := bindS hm
  have h2061 := mkLen_some h2061
  refine t_do rfl (u_mkOS (r := (RT.int .i64)) [_] R [.int .i64 (0)] 0 m2060 rfl h2061.1 rfl rfl sl22 inf3 rfl rfl rfl (by decide) rfl h2061.2.1 h2061.2.2) ?_
  rintro _ _ ⟨hs2062, rfl, h2063⟩
  obtain ⟨A2064, c2065, rfl, _⟩ := h2063.form
  refine t_as rfl rfl ?_
  refine t_ne ?_
  refine c_seq ?_
  refine c_sr ?_
  refine t_st rfl (st_field rfl fld54_1) ?_
  refine t_st rfl (st_load 0 rfl one22 rfl rfl) ?_
  refine t_st rfl (st_len rfl sl22) ?_
  obtain ⟨_, h2066, hm⟩ := bindS hm
  have h2066 := (chk_some h2066).2
  refine t_st rfl (st_add rfl rfl h2066) ?_
  refine t_mv rfl rfl ?_
  refine t_ne ?_
  refine c_block ?_
  obtain ⟨_, h2068, hm⟩ := bindS hm
  have h2068 := (chk_some h2068).2
  obtain ⟨t3430, hl3431, hk3432⟩ := bindS hm
  refine c_forM (fun k3429 => fun l3427 => fun b3422 e' hp' => ∃ (hs3425 : Hp), [(1, .pointer (some ⟨g2059, 0, none⟩)), (3, .slice A2064 (l3427).length c2065), (14, .int .i64 ((s1.Plan.length : Int) + 1)), (15, .int .i64 ((k3429 : Int)))] = e' ∧ (g2059, Cl 54 [.int .i64 (s1.Period), .slice A2 (s1.Plan).length c3, .slice A5 (s1.Links).length c6]) :: (hs3425 ++ R) = hp' ∧ b.Le b3422 ∧ OS 3 (OT.fr (RT.int .i64)) b3422.w (.slice A2064 l3427.length c2065) l3427 hs3425 ∧ l3427.length = m2060) hl3431 (e' := [(1, .pointer (some ⟨g2059, 0, none⟩)), (3, .slice A2064 (List.replicate m2060 (0 : Int)).length c2065), (14, .int .i64 ((s1.Plan.length : Int) + 1)), (15, .int .i64 0)]) ⟨rfl, rfl, rfl, rfl, trivial⟩ (.refl _) ⟨hs2062, rfl, rfl, (Base.Le.refl _), h2063, List.length_replicate⟩ ?_ ?_
  ·
   rintro k3429 l3427 b3422 _ _ oL2067 hknL2067 ⟨hs3425, rfl, rfl, hle3423, h3426, hln3428⟩ hstepL2067 houtL2067
   unfold mMendRoundRing_L2067 at hstepL2067
   have hm := hstepL2067
   refine c_sr ?_
   refine t_st rfl (st_lss_t rfl rfl (by omega)) ?_
   refine t_ne ?_
   refine c_seq ?_
   refine c_cond_t rfl ?_
   refine c_skip ?_
   refine x_then_normal ?_
   refine c_seq ?_
   refine c_block ?_
   refine c_sr ?_
   refine t_as rfl rfl ?_
   refine t_ne ?_
   refine c_seq ?_
   refine c_sr ?_
   refine t_st rfl (st_field rfl fld54_2) ?_
   refine t_st rfl (st_load 0 rfl one52 rfl rfl) ?_
   refine t_st rfl (st_len rfl sl52) ?_
   refine t_mv rfl rfl ?_
   refine t_ne ?_
   refine c_block ?_
   have hb3434 : s1.Links.length ≤ 9223372036854775807 := (FZ.bd (h7.le hle3423))
   obtain ⟨⟨x3882, l3883⟩, hl3886, hk3887⟩ := bindS hm
   refine c_forS (fun k3885 => unc2 fun x3882 l3883 => fun b3877 e' hp' => ∃ (hs3880 : Hp), [(1, .pointer (some ⟨g2059, 0, none⟩)), (3, .slice A2064 (l3883).length c2065), (4, .bool (x3882)), (14, .int .i64 ((s1.Plan.length : Int) + 1)), (15, .int .i64 ((k3429 : Int))), (18, .slice A5 (s1.Links).length c6), (19, .int .i64 ((s1.Links.length : Int))), (20, .int .i64 ((k3885 : Int)))] = e' ∧ (g2059, Cl 54 [.int .i64 (s1.Period), .slice A2 (s1.Plan).length c3, .slice A5 (s1.Links).length c6]) :: (hs3880 ++ R) = hp' ∧ b3422.Le b3877 ∧ OS 3 (OT.fr (RT.int .i64)) b3877.w (.slice A2064 l3883.length c2065) l3883 hs3880 ∧ l3883.length = m2060) hl3886 (e' := [(1, .pointer (some ⟨g2059, 0, none⟩)), (3, .slice A2064 (l3427).length c2065), (4, .bool (false)), (14, .int .i64 ((s1.Plan.length : Int) + 1)), (15, .int .i64 ((k3429 : Int))), (18, .slice A5 (s1.Links).length c6), (19, .int .i64 ((s1.Links.length : Int))), (20, .int .i64 0)]) ⟨rfl, rfl, rfl, rfl, rfl, rfl, rfl, rfl, trivial⟩ (.refl _) ⟨hs3425, rfl, rfl, (Base.Le.refl _), h3426, hln3428⟩ ?_ ?_
   ·
    rintro k3885 ⟨x3882, l3883⟩ b3877 _ _ oL3433 hknL3433 ⟨hs3880, rfl, rfl, hle3878, h3881, hln3884⟩ hstepL3433
    unfold mMendRoundRing_L3433 at hstepL3433
    have hm := (unc2E hstepL3433)
    refine c_sr ?_
    refine t_st rfl (st_lss_t rfl rfl (by omega)) ?_
    refine t_ne ?_
    refine c_seq ?_
    refine c_cond_t rfl ?_
    refine c_skip ?_
    refine x_then_normal ?_
    refine c_seq ?_
    refine c_block ?_
    refine c_sr ?_
    obtain ⟨x3888, h3889, hm⟩ := bindS hm
    obtain ⟨j3890, hj3891, hx3892⟩ := idx_some h3889
    obtain ⟨cs3893, hr3894, hcs3895, hA3896, hlt3897⟩ := FZ.get (sz := 4) rfl (by decide) (h7.le (hle3423.trans hle3878)) hx3892
    obtain ⟨_, _, rfl, rfl, ⟨_, _, rfl, rfl, ⟨_, _, rfl, rfl, rfl⟩⟩⟩ := hr3894
    refine t_st rfl (st_index_old j3890 rfl rfl hj3891 hlt3897 hA3896 sl52) ?_
    refine t_st rfl (st_loadN_old (vs := [.int .i64 (x3888.From), .int .i64 (x3888.To), .int .i64 (x3888.Len), .int .i64 (x3888.Back)]) 4 rfl agg83 hA3896 rfl (fun j u hu => hcs3895 j u hu)) ?_
    refine t_do rfl (u_alloc [.int .i64 0, .int .i64 0, .int .i64 0, .int .i64 0] zero83 rfl) ?_
    rintro _ _ ⟨g3898, rfl, rfl⟩
    refine t_do rfl (u_storeN (vs := [_, _, _, _]) 0 4 rfl rfl rfl siz83 rfl (mem_c rfl (mem_c rfl (mem_c rfl (mem_c rfl mem_n)))) rfl (by simp)) ?_
    rintro _ _ rfl
    refine t_ne ?_
    obtain ⟨x3967, hj3968, hk3968⟩ := bindS hm
    refine c_join (fun b3965 e' hp' => [(1, .pointer (some ⟨g2059, 0, none⟩)), (3, .slice A2064 (l3883).length c2065), (4, .bool (x3882)), (6, .pointer (some ⟨g3898, 0, none⟩)), (14, .int .i64 ((s1.Plan.length : Int) + 1)), (15, .int .i64 ((k3429 : Int))), (18, .slice A5 (s1.Links).length c6), (19, .int .i64 ((s1.Links.length : Int))), (20, .int .i64 ((k3885 : Int))), (39, .bool (x3967))] = e' ∧ (g2059, Cl 54 [.int .i64 (s1.Period), .slice A2 (s1.Plan).length c3, .slice A5 (s1.Links).length c6]) :: (g3898, Cl 83 [.int .i64 (x3888.From), .int .i64 (x3888.To), .int .i64 (x3888.Len), .int .i64 (x3888.Back)]) :: (hs3880 ++ R) = hp' ∧ b3877.Le b3965) ?_ ?_
    ·
     have hm := hj3968
     by_cases hc4002 : x3888.Back = 0
     ·
      rw [if_pos hc4002] at hm
      obtain ⟨x4003, h4004, hm⟩ := bindS hm
      obtain ⟨x4019, h4020, hm⟩ := bindS hm
      refine D_drawI mixed (.refl _) ?_
      refine E_st 0 rfl (st_field rfl fld83_3) ?_
      refine E_st 1 rfl (st_load 0 rfl one3 rfl rfl) ?_
      refine E_st 2 rfl (st_eql_t rfl rfl hc4002) ?_
      refine E_st 3 rfl (st_move rfl) ?_
      refine E_yes 4 27 rfl (st_move rfl) ?_
      refine E_yes 5 27 rfl (st_field rfl fld83_1) ?_
      refine E_yes 6 27 rfl (st_load 0 rfl one3 rfl rfl) ?_
      obtain ⟨j4005, hj4006, hx4007⟩ := idx_some h4004
      obtain ⟨cs4008, hs4013, P4014, P4015, hq4016, hr4009, hcs4010, hA4011, hlt4012, hb4017, hho4018⟩ := OS.get (sz := 1) rfl (by decide) h3881 hx4007
      obtain ⟨rfl, rfl⟩ := hr4009
      refine E_yes 7 27 rfl (st_index_old j4005 rfl rfl hj4006 hlt4012 hA4011 sl22) ?_
      refine E_yes 8 27 rfl (st_load_rd rfl one3 (fun w ho => hcs4010 w _ ho (.cons _ (.cons _ (List.sublist_append_left _ _))) 0 _ rfl)) ?_
      refine E_yes 9 27 rfl (st_move rfl) ?_
      refine E_yes 10 27 rfl (st_field rfl fld83_0) ?_
      refine E_yes 11 27 rfl (st_load 0 rfl one3 rfl rfl) ?_
      obtain ⟨j4021, hj4022, hx4023⟩ := idx_some h4020
      obtain ⟨cs4024, hs4029, P4030, P4031, hq4032, hr4025, hcs4026, hA4027, hlt4028, hb4033, hho4034⟩ := OS.get (sz := 1) rfl (by decide) h3881 hx4023
      obtain ⟨rfl, rfl⟩ := hr4025
      refine E_yes 12 27 rfl (st_index_old j4021 rfl rfl hj4022 hlt4028 hA4027 sl22) ?_
      refine E_yes 13 27 rfl (st_load_rd rfl one3 (fun w ho => hcs4026 w _ ho (.cons _ (.cons _ (List.sublist_append_left _ _))) 0 _ rfl)) ?_
      refine E_yes 14 27 rfl (st_leq rfl rfl) ?_
      refine E_st 15 rfl (st_pick_t rfl rfl) ?_
      refine E_out ?_
      refine D_done (by kernel_rfl) ?_
      obtain rfl := some1 hm
      refine x_pullb 1 rfl ?_
      exact x_join (e' := [(1, .pointer (some ⟨g2059, 0, none⟩)), (3, .slice A2064 (l3883).length c2065), (4, .bool (x3882)), (6, .pointer (some ⟨g3898, 0, none⟩)), (14, .int .i64 ((s1.Plan.length : Int) + 1)), (15, .int .i64 ((k3429 : Int))), (18, .slice A5 (s1.Links).length c6), (19, .int .i64 ((s1.Links.length : Int))), (20, .int .i64 ((k3885 : Int))), (39, .bool (decide (x4003 ≤ x4019)))]) ⟨rfl, rfl, rfl, rfl, rfl, rfl, rfl, rfl, rfl, rfl, trivial⟩ (.refl _) ⟨rfl, rfl, (Base.Le.refl _)⟩
     ·
      rw [if_neg hc4002] at hm
      refine D_drawI mixed (.refl _) ?_
      refine E_st 0 rfl (st_field rfl fld83_3) ?_
      refine E_st 1 rfl (st_load 0 rfl one3 rfl rfl) ?_
      refine E_st 2 rfl (st_eql_f rfl rfl hc4002) ?_
      refine E_st 3 rfl (st_move rfl) ?_
      refine E_no 4 27 rfl rfl rfl ?_
      refine E_no 5 27 rfl rfl rfl ?_
      refine E_no 6 27 rfl rfl rfl ?_
      refine E_no 7 27 rfl rfl rfl ?_
      refine E_no 8 27 rfl rfl rfl ?_
      refine E_no 9 27 rfl rfl rfl ?_
      refine E_no 10 27 rfl rfl rfl ?_
      refine E_no 11 27 rfl rfl rfl ?_
      refine E_no 12 27 rfl rfl rfl ?_
      refine E_no 13 27 rfl rfl rfl ?_
      refine E_no 14 27 rfl rfl rfl ?_
      refine E_st 15 rfl (st_pick_f rfl rfl) ?_
      refine E_out ?_
      refine D_done (by kernel_rfl) ?_
      obtain rfl := some1 hm
      refine x_pullb 1 rfl ?_
      exact x_join (e' := [(1, .pointer (some ⟨g2059, 0, none⟩)), (3, .slice A2064 (l3883).length c2065), (4, .bool (x3882)), (6, .pointer (some ⟨g3898, 0, none⟩)), (14, .int .i64 ((s1.Plan.length : Int) + 1)), (15, .int .i64 ((k3429 : Int))), (18, .slice A5 (s1.Links).length c6), (19, .int .i64 ((s1.Links.length : Int))), (20, .int .i64 ((k3885 : Int))), (39, .bool (false))]) ⟨rfl, rfl, rfl, rfl, rfl, rfl, rfl, rfl, rfl, rfl, trivial⟩ (.refl _) ⟨rfl, rfl, (Base.Le.refl _)⟩
    ·
     rintro b3965 _ _ ⟨rfl, rfl, hle3966⟩
     have hm := hk3968
     refine c_cond _ rfl (fun hc4035 => ?_) (fun hc4035 => ?_)
     ·
      rw [if_pos hc4035] at hm
      obtain ⟨x4071, h4072, hm⟩ := bindS hm
      obtain ⟨_, h4087, hm⟩ := bindS hm
      obtain ⟨x4088, h4089, hm⟩ := bindS hm
      refine D_drawI mixed (.cons_cons _ (.cons_cons _ (sub_skip hs3880 (.refl _)))) ?_
      refine E_st 0 rfl (st_move rfl) ?_
      refine E_st 1 rfl (st_field rfl fld83_1) ?_
      refine E_st 2 rfl (st_load 1 rfl one3 rfl rfl) ?_
      refine E_st 3 rfl (st_move rfl) ?_
      refine E_st 4 rfl (st_field rfl fld83_0) ?_
      refine E_st 5 rfl (st_load 1 rfl one3 rfl rfl) ?_
      obtain ⟨j4073, hj4074, hx4075⟩ := idx_some h4072
      obtain ⟨cs4076, hs4081, P4082, P4083, hq4084, hr4077, hcs4078, hA4079, hlt4080, hb4085, hho4086⟩ := OS.get (sz := 1) rfl (by decide) (h3881.le hle3966) hx4075
      obtain ⟨rfl, rfl⟩ := hr4077
      refine E_st 6 rfl (st_index_old j4073 rfl rfl hj4074 hlt4080 hA4079 sl22) ?_
      refine E_out ?_
      refine D_all [7] (by kernel_rfl) rfl ?_
      refine R_do (Base.Le.refl _) rfl rfl (Stable.does (st_load_rd rfl one3 (fun w ho => hcs4078 w _ ho (.cons _ (.cons _ (List.sublist_append_left _ _))) 0 _ rfl))) ?_ ?_
      ·
       rintro _ _ ⟨rfl, rfl⟩
       refine ⟨.inr (.cons_cons _ (.cons_cons _ (sub_skip hs3880 (.refl _)))), ?_⟩
       have h4087 := (chk_some h4087).2
       refine E_in (.cons_cons _ (.cons_cons _ (sub_skip hs3880 (.refl _)))) ?_
       refine E_st 8 rfl (st_add rfl rfl h4087) ?_
       obtain ⟨j4090, hj4091, hx4092⟩ := idx_some h4089
       obtain ⟨cs4093, hs4098, P4099, P4100, hq4101, hr4094, hcs4095, hA4096, hlt4097, hb4102, hho4103⟩ := OS.get (sz := 1) rfl (by decide) (h3881.le hle3966) hx4092
       obtain ⟨rfl, rfl⟩ := hr4094
       refine E_st 9 rfl (st_index_old j4090 rfl rfl hj4091 hlt4097 hA4096 sl22) ?_
       refine E_out ?_
       refine D_all [10] (by kernel_rfl) rfl ?_
       refine R_do (Base.Le.refl _) rfl rfl (u_putOS hj4091 (sz := 1) (a' := x4071 + 1) rfl [_, _] R 0 1 [.int .i64 (x4071 + 1)] rfl (h3881.le hle3966) hx4092 rfl rfl rfl siz3 rfl (mem_c rfl mem_n) (fun cs hsj hh => by obtain ⟨rfl, rfl⟩ := hh; exact ⟨by decide, rfl, rfl⟩)) ?_ ?_
       ·
        rintro _ _ ⟨hs4104, rfl, h4105⟩
        refine ⟨.inr (.cons_cons _ (.cons_cons _ (sub_skip hs4104 (.refl _)))), ?_⟩
        refine d_resp 3 rfl (v' := .slice A2064 (put l3883 x3888.To (x4071 + 1)).length c2065) (by simp only [put_length]) ?_
        refine E_in (.cons_cons _ (.cons_cons _ (sub_skip hs4104 (.refl _)))) ?_
        refine E_st 11 rfl (st_assign rfl) ?_
        refine E_out ?_
        refine D_done (by kernel_rfl) ?_
        refine x_block_normal ?_
        refine x_then_normal ?_
        refine c_region ?_
        refine t_st rfl (st_add rfl rfl (by omega)) ?_
        refine t_mv rfl rfl ?_
        refine t_nil ?_
        obtain rfl := some1 hm
        exact x_againS (e' := [(1, .pointer (some ⟨g2059, 0, none⟩)), (3, .slice A2064 (put l3883 x3888.To (x4071 + 1)).length c2065), (4, .bool (true)), (14, .int .i64 ((s1.Plan.length : Int) + 1)), (15, .int .i64 ((k3429 : Int))), (18, .slice A5 (s1.Links).length c6), (19, .int .i64 ((s1.Links.length : Int))), (20, .int .i64 ((k3885 : Int) + 1))]) ⟨rfl, rfl, rfl, rfl, rfl, rfl, rfl, rfl, trivial⟩ (.cons_cons _ (.cons _ (.refl _))) ⟨hs4104, rfl, rfl, ((hle3878.trans hle3966)), h4105, ((put_length _ _ _).trans hln3884)⟩
       exact R_nil
      exact R_nil
     ·
      rw [if_neg (fun hh => Bool.noConfusion (hh.symm.trans hc4035))] at hm
      refine c_skip ?_
      refine x_block_normal ?_
      refine x_then_normal ?_
      refine c_region ?_
      refine t_st rfl (st_add rfl rfl (by omega)) ?_
      refine t_mv rfl rfl ?_
      refine t_nil ?_
      obtain rfl := some1 hm
      exact x_againS (e' := [(1, .pointer (some ⟨g2059, 0, none⟩)), (3, .slice A2064 (l3883).length c2065), (4, .bool (x3882)), (14, .int .i64 ((s1.Plan.length : Int) + 1)), (15, .int .i64 ((k3429 : Int))), (18, .slice A5 (s1.Links).length c6), (19, .int .i64 ((s1.Links.length : Int))), (20, .int .i64 ((k3885 : Int) + 1))]) ⟨rfl, rfl, rfl, rfl, rfl, rfl, rfl, rfl, trivial⟩ (.cons_cons _ (.cons _ (.refl _))) ⟨hs3880, rfl, rfl, ((hle3878.trans hle3966)), (h3881.le hle3966), hln3884⟩
   ·
    rintro b3877 _ _ ⟨hs3880, rfl, rfl, hle3878, h3881, hln3884⟩
    have hm := (unc2E hk3887)
    refine c_sr ?_
    refine t_st rfl (st_lss_f rfl rfl (by omega)) ?_
    refine t_ne ?_
    refine c_seq ?_
    refine c_cond_f rfl ?_
    refine c_exit ?_
    refine x_then_exit ?_
    refine x_then_exit ?_
    refine x_block_out ?_
    refine x_then_normal ?_
    refine c_sr ?_
    refine t_mv rfl rfl ?_
    refine t_st rfl (st_not rfl) ?_
    refine t_ne ?_
    refine c_cond _ rfl (fun hc4106 => ?_) (fun hc4106 => ?_)
    ·
     rw [if_neg (fun hh => Bool.noConfusion (hh.symm.trans (notT hc4106)))] at hm
     refine c_sr ?_
     refine t_as rfl rfl ?_
     refine t_ne ?_
     refine c_ret ?_
     refine x_block_ret ?_
     refine x_then_ret ?_
     refine x_then_ret ?_
     refine x_block_ret ?_
     refine x_then_ret ?_
     have hq4107 := houtL2067 _ (Option.some.inj hm).symm
     rw [hq4107] at hk3432
     have hm := elimR hk3432
     obtain rfl := some1 hm
     exact retM (rs := [.tmp 2]) [.bool (false)] (hle3423.trans hle3878) (by decide) rfl ⟨rfl, trivial⟩ rfl (.cons _ (sub_skip hs3880 (.refl _))) ⟨rfl, rfl⟩
    ·
     rw [if_pos (notF hc4106)] at hm
     refine c_skip ?_
     refine x_block_normal ?_
     refine x_then_normal ?_
     refine c_region ?_
     refine t_st rfl (st_add rfl rfl (by omega)) ?_
     refine t_mv rfl rfl ?_
     refine t_nil ?_
     exact x_againM l3883 (Option.some.inj hm).symm (e' := [(1, .pointer (some ⟨g2059, 0, none⟩)), (3, .slice A2064 (l3883).length c2065), (14, .int .i64 ((s1.Plan.length : Int) + 1)), (15, .int .i64 ((k3429 : Int) + 1))]) ⟨rfl, rfl, rfl, rfl, trivial⟩ (.refl _) ⟨hs3880, rfl, rfl, ((hle3423.trans hle3878)), h3881, hln3884⟩
  ·
   rintro l3427 b3422 _ _ ⟨hs3425, rfl, rfl, hle3423, h3426, hln3428⟩ hq4108
   rw [hq4108] at hk3432
   have hm := elimL hk3432
   refine c_sr ?_
   refine t_st rfl (st_lss_f rfl rfl (by omega)) ?_
   refine t_ne ?_
   refine c_seq ?_
   refine c_cond_f rfl ?_
   refine c_exit ?_
   refine x_then_exit ?_
   refine x_then_exit ?_
   refine x_block_out ?_
   refine x_then_normal ?_
   refine c_sr ?_
   refine t_as rfl rfl ?_
   refine t_ne ?_
   refine c_ret ?_
   obtain rfl := some1 hm
   exact retM (rs := [.tmp 2]) [.bool (true)] hle3423 (by decide) rfl ⟨rfl, trivial⟩ rfl (.cons _ (sub_skip hs3425 (.refl _))) ⟨rfl, rfl⟩

set_option maxRecDepth 20000 in
theorem cMendCheckRound (b : Base) (R : Hp) (s1 : MendRound) (A2 : Option Addr) (c3 : Nat) (A5 : Option Addr) (c6 : Nat) (h4 : FZ (RT.int .i64) b.w A2 c3 s1.Plan) (h7 : FZ rMendLink b.w A5 c6 s1.Links) (x172 : Int) (hm : mMendCheckRound s1 = some x172) :
    CallsG Try.prog 51 [.agg #[.int .i64 (s1.Period), .slice A2 (s1.Plan).length c3, .slice A5 (s1.Links).length c6]] b (R) (fun v b' hp' => .int .i64 (x172) = v ∧ R = hp') := by
  refine fn_enterG 83 Try.func51 rfl Try.ntmps51 rfl ?_
  unfold mMendCheckRound at hm
  refine c_sr ?_
  refine t_do rfl (u_box _ rfl rfl) ?_
  rintro _ _ ⟨g173, rfl, rfl⟩
  refine t_as rfl rfl ?_
  refine t_ne ?_
  refine c_seq ?_
  refine c_block ?_
  refine c_sr ?_
  refine t_st rfl (st_field rfl fld54_0) ?_
  refine t_st rfl (st_load 0 rfl one3 rfl rfl) ?_
  obtain ⟨x174, hcl175, hm⟩ := bindS hm
  refine t_do rfl (u_callW0 _ call37 rfl (fun w ho => cMendWithin _ [] s1.Period 1 3600 x174 hcl175) (fun _ _ _ h => h.2.symm)) ?_
  rintro _ _ ⟨⟨_, rfl, _⟩, rfl⟩
  refine t_st rfl (st_not rfl) ?_
  refine t_as rfl rfl ?_
  refine t_ne ?_
  refine c_cond _ rfl (fun hc176 => ?_) (fun hc176 => ?_)
  ·
   rw [if_neg (fun hh => Bool.noConfusion (hh.symm.trans (notT hc176)))] at hm
   refine c_sr ?_
   refine t_as rfl rfl ?_
   refine t_ne ?_
   refine c_ret ?_
   refine x_block_ret ?_
   refine x_then_ret ?_
   obtain rfl := some1 hm
   exact retM (rs := [.tmp 2]) [.int .i64 (2)] (Base.Le.refl _) (by decide) rfl ⟨rfl, trivial⟩ rfl (.cons _ (.refl _)) ⟨rfl, rfl⟩
  ·
   rw [if_pos (notF hc176)] at hm
   obtain ⟨x182, hj183, hk183⟩ := bindS hm
   refine c_join (fun b180 e' hp' => [(1, .pointer (some ⟨g173, 0, none⟩)), (12, .bool (x182))] = e' ∧ (g173, Cl 54 [.int .i64 (s1.Period), .slice A2 (s1.Plan).length c3, .slice A5 (s1.Links).length c6]) :: R = hp' ∧ b.Le b180) ?_ ?_
   ·
    have hm := hj183
    refine c_region ?_
    refine t_st rfl (st_field rfl fld54_1) ?_
    refine t_st rfl (st_load 0 rfl one22 rfl rfl) ?_
    refine t_st rfl (st_len rfl sl22) ?_
    obtain ⟨x184, hcl185, hm⟩ := bindS hm
    refine t_do rfl (u_callW0 _ call37 rfl (fun w ho => cMendWithin _ [] (s1.Plan.length : Int) 1 8 x184 hcl185) (fun _ _ _ h => h.2.symm)) ?_
    rintro _ _ ⟨⟨_, rfl, _⟩, rfl⟩
    rcases Bool.eq_false_or_eq_true x184 with hc186 | hc186
    ·
     rw [if_pos hc186] at hm
     refine t_resp 16 rfl (v' := .bool true) (by rw [hc186] <;> rfl) ?_
     refine t_st rfl (st_not_t rfl) ?_
     refine t_mv rfl rfl ?_
     refine t_yes 18 rfl rfl rfl ?_
     refine t_st rfl (st_field rfl fld54_2) ?_
     refine t_yes 18 rfl rfl rfl ?_
     refine t_st rfl (st_load 0 rfl one52 rfl rfl) ?_
     refine t_yes 18 rfl rfl rfl ?_
     refine t_st rfl (st_len rfl sl52) ?_
     refine t_yes 18 rfl rfl rfl ?_
     refine t_st rfl (st_gtr rfl rfl) ?_
     refine t_st rfl (st_pick_f rfl rfl) ?_
     refine t_as rfl rfl ?_
     refine t_nil ?_
     obtain rfl := some1 hm
     exact x_join (e' := [(1, .pointer (some ⟨g173, 0, none⟩)), (12, .bool (decide (24 < (s1.Links.length : Int))))]) ⟨rfl, rfl, trivial⟩ (.refl _) ⟨rfl, rfl, (Base.Le.refl _)⟩
    ·
     rw [if_neg (fun hh => Bool.noConfusion (hh.symm.trans hc186))] at hm
     refine t_resp 16 rfl (v' := .bool false) (by rw [hc186] <;> rfl) ?_
     refine t_st rfl (st_not_f rfl) ?_
     refine t_mv rfl rfl ?_
     refine t_no 18 rfl rfl rfl rfl rfl ?_
     refine t_no 18 rfl rfl rfl rfl rfl ?_
     refine t_no 18 rfl rfl rfl rfl rfl ?_
     refine t_no 18 rfl rfl rfl rfl rfl ?_
     refine t_st rfl (st_pick_t rfl rfl) ?_
     refine t_as rfl rfl ?_
     refine t_nil ?_
     obtain rfl := some1 hm
     exact x_join (e' := [(1, .pointer (some ⟨g173, 0, none⟩)), (12, .bool (true))]) ⟨rfl, rfl, trivial⟩ (.refl _) ⟨rfl, rfl, (Base.Le.refl _)⟩
   ·
    rintro b180 _ _ ⟨rfl, rfl, hle181⟩
    have hm := hk183
    refine c_cond _ rfl (fun hc187 => ?_) (fun hc187 => ?_)
    ·
     rw [if_pos hc187] at hm
     refine c_sr ?_
     refine t_as rfl rfl ?_
     refine t_ne ?_
     refine c_ret ?_
     refine x_block_ret ?_
     refine x_then_ret ?_
     obtain rfl := some1 hm
     exact retM (rs := [.tmp 2]) [.int .i64 (4)] hle181 (by decide) rfl ⟨rfl, trivial⟩ rfl (.cons _ (.refl _)) ⟨rfl, rfl⟩
    ·
     rw [if_neg (fun hh => Bool.noConfusion (hh.symm.trans hc187))] at hm
     refine c_skip ?_
     refine x_block_normal ?_
     refine x_then_normal ?_
     refine c_seq ?_
     refine c_sr ?_
     refine t_st rfl (st_field rfl fld54_1) ?_
     refine t_st rfl (st_load 0 rfl one22 rfl rfl) ?_
     refine t_st rfl (st_len rfl sl22) ?_
     refine t_mv rfl rfl ?_
     refine t_ne ?_
     refine c_block ?_
     have hb189 : s1.Plan.length ≤ 9223372036854775807 := (FZ.bd (h4.le hle181))
     obtain ⟨t207, hl208, hk209⟩ := bindS hm
     refine c_forM (fun k206 => fun _ => fun b204 e' hp' => [(1, .pointer (some ⟨g173, 0, none⟩)), (25, .slice A2 (s1.Plan).length c3), (26, .int .i64 ((s1.Plan.length : Int))), (27, .int .i64 ((k206 : Int)))] = e' ∧ (g173, Cl 54 [.int .i64 (s1.Period), .slice A2 (s1.Plan).length c3, .slice A5 (s1.Links).length c6]) :: R = hp' ∧ b180.Le b204) hl208 (e' := [(1, .pointer (some ⟨g173, 0, none⟩)), (25, .slice A2 (s1.Plan).length c3), (26, .int .i64 ((s1.Plan.length : Int))), (27, .int .i64 0)]) ⟨rfl, rfl, rfl, rfl, trivial⟩ (.refl _) ⟨rfl, rfl, (Base.Le.refl _)⟩ ?_ ?_
     ·
      rintro k206 _ b204 _ _ oL188 hknL188 ⟨rfl, rfl, hle205⟩ hstepL188 houtL188
      unfold mMendCheckRound_L188 at hstepL188
      have hm := hstepL188
      refine c_sr ?_
      refine t_st rfl (st_lss_t rfl rfl (by omega)) ?_
      refine t_ne ?_
      refine c_seq ?_
      refine c_cond_t rfl ?_
      refine c_skip ?_
      refine x_then_normal ?_
      refine c_seq ?_
      refine c_block ?_
      refine c_sr ?_
      obtain ⟨x210, h211, hm⟩ := bindS hm
      obtain ⟨j212, hj213, hx214⟩ := idx_some h211
      obtain ⟨cs215, hr216, hcs217, hA218, hlt219⟩ := FZ.get (sz := 1) rfl (by decide) (h4.le (hle181.trans hle205)) hx214
      obtain rfl := hr216
      refine t_st rfl (st_index_old j212 rfl rfl hj213 hlt219 hA218 sl22) ?_
      refine t_st rfl (st_load_old rfl one3 (hcs217 0 _ rfl)) ?_
      refine t_as rfl rfl ?_
      refine t_ne ?_
      refine c_sr ?_
      refine t_mv rfl rfl ?_
      refine t_st rfl (st_field rfl fld54_0) ?_
      refine t_st rfl (st_load 0 rfl one3 rfl rfl) ?_
      obtain ⟨_, h220, hm⟩ := bindS hm
      have h220 := (chk_some h220).2
      refine t_st rfl (st_sub rfl rfl h220) ?_
      obtain ⟨x221, hcl222, hm⟩ := bindS hm
      refine t_do rfl (u_callW0 _ call37 rfl (fun w ho => cMendWithin _ [] x210 0 (s1.Period - 1) x221 hcl222) (fun _ _ _ h => h.2.symm)) ?_
      rintro _ _ ⟨⟨_, rfl, _⟩, rfl⟩
      refine t_st rfl (st_not rfl) ?_
      refine t_ne ?_
      refine c_cond _ rfl (fun hc223 => ?_) (fun hc223 => ?_)
      ·
       rw [if_neg (fun hh => Bool.noConfusion (hh.symm.trans (notT hc223)))] at hm
       refine c_sr ?_
       refine t_as rfl rfl ?_
       refine t_ne ?_
       refine c_ret ?_
       refine x_block_ret ?_
       refine x_then_ret ?_
       refine x_then_ret ?_
       refine x_block_ret ?_
       refine x_then_ret ?_
       have hq224 := houtL188 _ (Option.some.inj hm).symm
       rw [hq224] at hk209
       have hm := elimR hk209
       obtain rfl := some1 hm
       exact retM (rs := [.tmp 2]) [.int .i64 (2)] (hle181.trans hle205) (by decide) rfl ⟨rfl, trivial⟩ rfl (.cons _ (.refl _)) ⟨rfl, rfl⟩
      ·
       rw [if_pos (notF hc223)] at hm
       refine c_skip ?_
       refine x_block_normal ?_
       refine x_then_normal ?_
       refine c_region ?_
       refine t_st rfl (st_add rfl rfl (by omega)) ?_
       refine t_mv rfl rfl ?_
       refine t_nil ?_
       exact x_againM () (Option.some.inj hm).symm (e' := [(1, .pointer (some ⟨g173, 0, none⟩)), (25, .slice A2 (s1.Plan).length c3), (26, .int .i64 ((s1.Plan.length : Int))), (27, .int .i64 ((k206 : Int) + 1))]) ⟨rfl, rfl, rfl, rfl, trivial⟩ (.refl _) ⟨rfl, rfl, (hle205)⟩
     ·
      rintro _ b204 _ _ ⟨rfl, rfl, hle205⟩ hq225
      rw [hq225] at hk209
      have hm := elimL hk209
      refine c_sr ?_
      refine t_st rfl (st_lss_f rfl rfl (by omega)) ?_
      refine t_ne ?_
      refine c_seq ?_
      refine c_cond_f rfl ?_
      refine c_exit ?_
      refine x_then_exit ?_
      refine x_then_exit ?_
      refine x_block_out ?_
      refine x_then_normal ?_
      refine c_seq ?_
      refine c_sr ?_
      refine t_st rfl (st_field rfl fld54_2) ?_
      refine t_st rfl (st_load 0 rfl one52 rfl rfl) ?_
      refine t_st rfl (st_len rfl sl52) ?_
      refine t_mv rfl rfl ?_
      refine t_ne ?_
      refine c_block ?_
      have hb227 : s1.Links.length ≤ 9223372036854775807 := (FZ.bd (h7.le (hle181.trans hle205)))
      obtain ⟨t279, hl280, hk281⟩ := bindS hm
      refine c_forM (fun k278 => fun _ => fun b276 e' hp' => [(1, .pointer (some ⟨g173, 0, none⟩)), (39, .slice A5 (s1.Links).length c6), (40, .int .i64 ((s1.Links.length : Int))), (41, .int .i64 ((k278 : Int)))] = e' ∧ (g173, Cl 54 [.int .i64 (s1.Period), .slice A2 (s1.Plan).length c3, .slice A5 (s1.Links).length c6]) :: R = hp' ∧ b204.Le b276) hl280 (e' := [(1, .pointer (some ⟨g173, 0, none⟩)), (39, .slice A5 (s1.Links).length c6), (40, .int .i64 ((s1.Links.length : Int))), (41, .int .i64 0)]) ⟨rfl, rfl, rfl, rfl, trivial⟩ (.refl _) ⟨rfl, rfl, (Base.Le.refl _)⟩ ?_ ?_
      ·
       rintro k278 _ b276 _ _ oL226 hknL226 ⟨rfl, rfl, hle277⟩ hstepL226 houtL226
       unfold mMendCheckRound_L226 at hstepL226
       have hm := hstepL226
       refine c_sr ?_
       refine t_st rfl (st_lss_t rfl rfl (by omega)) ?_
       refine t_ne ?_
       refine c_seq ?_
       refine c_cond_t rfl ?_
       refine c_skip ?_
       refine x_then_normal ?_
       refine c_seq ?_
       refine c_block ?_
       refine c_sr ?_
       obtain ⟨x282, h283, hm⟩ := bindS hm
       obtain ⟨j284, hj285, hx286⟩ := idx_some h283
       obtain ⟨cs287, hr288, hcs289, hA290, hlt291⟩ := FZ.get (sz := 4) rfl (by decide) (h7.le (hle181.trans (hle205.trans hle277))) hx286
       obtain ⟨_, _, rfl, rfl, ⟨_, _, rfl, rfl, ⟨_, _, rfl, rfl, rfl⟩⟩⟩ := hr288
       refine t_st rfl (st_index_old j284 rfl rfl hj285 hlt291 hA290 sl52) ?_
       refine t_st rfl (st_loadN_old (vs := [.int .i64 (x282.From), .int .i64 (x282.To), .int .i64 (x282.Len), .int .i64 (x282.Back)]) 4 rfl agg83 hA290 rfl (fun j u hu => hcs289 j u hu)) ?_
       refine t_do rfl (u_alloc [.int .i64 0, .int .i64 0, .int .i64 0, .int .i64 0] zero83 rfl) ?_
       rintro _ _ ⟨g292, rfl, rfl⟩
       refine t_do rfl (u_storeN (vs := [_, _, _, _]) 0 4 rfl rfl rfl siz83 rfl (mem_c rfl (mem_c rfl (mem_c rfl (mem_c rfl mem_n)))) rfl (by simp)) ?_
       rintro _ _ rfl
       refine t_ne ?_
       refine c_block ?_
       obtain ⟨x302, hj303, hk303⟩ := bindS hm
       refine c_join (fun b300 e' hp' => [(1, .pointer (some ⟨g173, 0, none⟩)), (6, .pointer (some ⟨g292, 0, none⟩)), (39, .slice A5 (s1.Links).length c6), (40, .int .i64 ((s1.Links.length : Int))), (41, .int .i64 ((k278 : Int))), (45, .bool (x302))] = e' ∧ (g173, Cl 54 [.int .i64 (s1.Period), .slice A2 (s1.Plan).length c3, .slice A5 (s1.Links).length c6]) :: (g292, Cl 83 [.int .i64 (x282.From), .int .i64 (x282.To), .int .i64 (x282.Len), .int .i64 (x282.Back)]) :: R = hp' ∧ b276.Le b300) ?_ ?_
       ·
        have hm := hj303
        refine c_region ?_
        refine t_st rfl (st_field rfl fld83_0) ?_
        refine t_st rfl (st_load 0 rfl one3 rfl rfl) ?_
        refine t_st rfl (st_field rfl fld54_1) ?_
        refine t_st rfl (st_load 1 rfl one22 rfl rfl) ?_
        refine t_st rfl (st_len rfl sl22) ?_
        obtain ⟨_, h304, hm⟩ := bindS hm
        have h304 := (chk_some h304).2
        refine t_st rfl (st_sub rfl rfl h304) ?_
        obtain ⟨x305, hcl306, hm⟩ := bindS hm
        refine t_do rfl (u_callW0 _ call37 rfl (fun w ho => cMendWithin _ [] x282.From 0 ((s1.Plan.length : Int) - 1) x305 hcl306) (fun _ _ _ h => h.2.symm)) ?_
        rintro _ _ ⟨⟨_, rfl, _⟩, rfl⟩
        rcases Bool.eq_false_or_eq_true x305 with hc307 | hc307
        ·
         rw [if_pos hc307] at hm
         refine t_resp 52 rfl (v' := .bool true) (by rw [hc307] <;> rfl) ?_
         refine t_st rfl (st_not_t rfl) ?_
         refine t_mv rfl rfl ?_
         refine t_yes 54 rfl rfl rfl ?_
         refine t_st rfl (st_field rfl fld83_1) ?_
         refine t_yes 54 rfl rfl rfl ?_
         refine t_st rfl (st_load 0 rfl one3 rfl rfl) ?_
         refine t_yes 54 rfl rfl rfl ?_
         refine t_st rfl (st_field rfl fld54_1) ?_
         refine t_yes 54 rfl rfl rfl ?_
         refine t_st rfl (st_load 1 rfl one22 rfl rfl) ?_
         refine t_yes 54 rfl rfl rfl ?_
         refine t_st rfl (st_len rfl sl22) ?_
         refine t_yes 54 rfl rfl rfl ?_
         obtain ⟨_, h308, hm⟩ := bindS hm
         have h308 := (chk_some h308).2
         refine t_st rfl (st_sub rfl rfl h308) ?_
         refine t_yes 54 rfl rfl rfl ?_
         obtain ⟨x309, hcl310, hm⟩ := bindS hm
         refine t_do rfl (u_callW0 _ call37 rfl (fun w ho => cMendWithin _ [] x282.To 0 ((s1.Plan.length : Int) - 1) x309 hcl310) (fun _ _ _ h => h.2.symm)) ?_
         rintro _ _ ⟨⟨_, rfl, _⟩, rfl⟩
         refine t_yes 54 rfl rfl rfl ?_
         refine t_st rfl (st_not rfl) ?_
         refine t_st rfl (st_pick_f rfl rfl) ?_
         refine t_as rfl rfl ?_
         refine t_nil ?_
         obtain rfl := some1 hm
         refine x_pullb 1 rfl ?_
         exact x_join (e' := [(1, .pointer (some ⟨g173, 0, none⟩)), (6, .pointer (some ⟨g292, 0, none⟩)), (39, .slice A5 (s1.Links).length c6), (40, .int .i64 ((s1.Links.length : Int))), (41, .int .i64 ((k278 : Int))), (45, .bool (!x309))]) ⟨rfl, rfl, rfl, rfl, rfl, rfl, trivial⟩ (.refl _) ⟨rfl, rfl, (Base.Le.refl _)⟩
        ·
         rw [if_neg (fun hh => Bool.noConfusion (hh.symm.trans hc307))] at hm
         refine t_resp 52 rfl (v' := .bool false) (by rw [hc307] <;> rfl) ?_
         refine t_st rfl (st_not_f rfl) ?_
         refine t_mv rfl rfl ?_
         refine t_no 54 rfl rfl rfl rfl rfl ?_
         refine t_no 54 rfl rfl rfl rfl rfl ?_
         refine t_no 54 rfl rfl rfl rfl rfl ?_
         refine t_no 54 rfl rfl rfl rfl rfl ?_
         refine t_no 54 rfl rfl rfl rfl rfl ?_
         refine t_no 54 rfl rfl rfl rfl rfl ?_
         refine t_no 54 rfl rfl rfl rfl rfl ?_
         refine t_no 54 rfl rfl rfl rfl rfl ?_
         refine t_st rfl (st_pick_t rfl rfl) ?_
         refine t_as rfl rfl ?_
         refine t_nil ?_
         obtain rfl := some1 hm
         refine x_pullb 1 rfl ?_
         exact x_join (e' := [(1, .pointer (some ⟨g173, 0, none⟩)), (6, .pointer (some ⟨g292, 0, none⟩)), (39, .slice A5 (s1.Links).length c6), (40, .int .i64 ((s1.Links.length : Int))), (41, .int .i64 ((k278 : Int))), (45, .bool (true))]) ⟨rfl, rfl, rfl, rfl, rfl, rfl, trivial⟩ (.refl _) ⟨rfl, rfl, (Base.Le.refl _)⟩
       ·
        rintro b300 _ _ ⟨rfl, rfl, hle301⟩
        have hm := hk303
        refine c_cond _ rfl (fun hc311 => ?_) (fun hc311 => ?_)
        ·
         rw [if_pos hc311] at hm
         refine c_sr ?_
         refine t_as rfl rfl ?_
         refine t_ne ?_
         refine c_ret ?_
         refine x_block_ret ?_
         refine x_block_ret ?_
         refine x_then_ret ?_
         refine x_then_ret ?_
         refine x_block_ret ?_
         refine x_then_ret ?_
         have hq312 := houtL226 _ (Option.some.inj hm).symm
         rw [hq312] at hk281
         have hm := elimR hk281
         obtain rfl := some1 hm
         exact retM (rs := [.tmp 2]) [.int .i64 (3)] (hle181.trans (hle205.trans (hle277.trans hle301))) (by decide) rfl ⟨rfl, trivial⟩ rfl (.cons _ (.cons _ (.refl _))) ⟨rfl, rfl⟩
        ·
         rw [if_neg (fun hh => Bool.noConfusion (hh.symm.trans hc311))] at hm
         obtain ⟨x320, hj321, hk321⟩ := bindS hm
         refine c_join (fun b318 e' hp' => [(1, .pointer (some ⟨g173, 0, none⟩)), (6, .pointer (some ⟨g292, 0, none⟩)), (39, .slice A5 (s1.Links).length c6), (40, .int .i64 ((s1.Links.length : Int))), (41, .int .i64 ((k278 : Int))), (64, .bool (x320))] = e' ∧ (g173, Cl 54 [.int .i64 (s1.Period), .slice A2 (s1.Plan).length c3, .slice A5 (s1.Links).length c6]) :: (g292, Cl 83 [.int .i64 (x282.From), .int .i64 (x282.To), .int .i64 (x282.Len), .int .i64 (x282.Back)]) :: R = hp' ∧ b300.Le b318) ?_ ?_
         ·
          have hm := hj321
          refine c_region ?_
          refine t_st rfl (st_field rfl fld83_2) ?_
          refine t_st rfl (st_load 1 rfl one3 rfl rfl) ?_
          obtain ⟨x322, hcl323, hm⟩ := bindS hm
          refine t_do rfl (u_callW0 _ call37 rfl (fun w ho => cMendWithin _ [] x282.Len 0 28800 x322 hcl323) (fun _ _ _ h => h.2.symm)) ?_
          rintro _ _ ⟨⟨_, rfl, _⟩, rfl⟩
          rcases Bool.eq_false_or_eq_true x322 with hc324 | hc324
          ·
           rw [if_pos hc324] at hm
           refine t_resp 67 rfl (v' := .bool true) (by rw [hc324] <;> rfl) ?_
           refine t_st rfl (st_not_t rfl) ?_
           refine t_mv rfl rfl ?_
           refine t_yes 69 rfl rfl rfl ?_
           refine t_st rfl (st_field rfl fld83_3) ?_
           refine t_yes 69 rfl rfl rfl ?_
           refine t_st rfl (st_load 1 rfl one3 rfl rfl) ?_
           refine t_yes 69 rfl rfl rfl ?_
           obtain ⟨x325, hcl326, hm⟩ := bindS hm
           refine t_do rfl (u_callW0 _ call37 rfl (fun w ho => cMendWithin _ [] x282.Back 0 3 x325 hcl326) (fun _ _ _ h => h.2.symm)) ?_
           rintro _ _ ⟨⟨_, rfl, _⟩, rfl⟩
           refine t_yes 69 rfl rfl rfl ?_
           refine t_st rfl (st_not rfl) ?_
           refine t_st rfl (st_pick_f rfl rfl) ?_
           refine t_as rfl rfl ?_
           refine t_nil ?_
           obtain rfl := some1 hm
           refine x_pullb 1 rfl ?_
           refine x_pullb 1 rfl ?_
           exact x_join (e' := [(1, .pointer (some ⟨g173, 0, none⟩)), (6, .pointer (some ⟨g292, 0, none⟩)), (39, .slice A5 (s1.Links).length c6), (40, .int .i64 ((s1.Links.length : Int))), (41, .int .i64 ((k278 : Int))), (64, .bool (!x325))]) ⟨rfl, rfl, rfl, rfl, rfl, rfl, trivial⟩ (.refl _) ⟨rfl, rfl, (Base.Le.refl _)⟩
          ·
           rw [if_neg (fun hh => Bool.noConfusion (hh.symm.trans hc324))] at hm
           refine t_resp 67 rfl (v' := .bool false) (by rw [hc324] <;> rfl) ?_
           refine t_st rfl (st_not_f rfl) ?_
           refine t_mv rfl rfl ?_
           refine t_no 69 rfl rfl rfl rfl rfl ?_
           refine t_no 69 rfl rfl rfl rfl rfl ?_
           refine t_no 69 rfl rfl rfl rfl rfl ?_
           refine t_no 69 rfl rfl rfl rfl rfl ?_
           refine t_st rfl (st_pick_t rfl rfl) ?_
           refine t_as rfl rfl ?_
           refine t_nil ?_
           obtain rfl := some1 hm
           refine x_pullb 1 rfl ?_
           refine x_pullb 1 rfl ?_
           exact x_join (e' := [(1, .pointer (some ⟨g173, 0, none⟩)), (6, .pointer (some ⟨g292, 0, none⟩)), (39, .slice A5 (s1.Links).length c6), (40, .int .i64 ((s1.Links.length : Int))), (41, .int .i64 ((k278 : Int))), (64, .bool (true))]) ⟨rfl, rfl, rfl, rfl, rfl, rfl, trivial⟩ (.refl _) ⟨rfl, rfl, (Base.Le.refl _)⟩
         ·
          rintro b318 _ _ ⟨rfl, rfl, hle319⟩
          have hm := hk321
          refine c_cond _ rfl (fun hc327 => ?_) (fun hc327 => ?_)
          ·
           rw [if_pos hc327] at hm
           refine c_sr ?_
           refine t_as rfl rfl ?_
           refine t_ne ?_
           refine c_ret ?_
           refine x_block_ret ?_
           refine x_block_ret ?_
           refine x_then_ret ?_
           refine x_then_ret ?_
           refine x_block_ret ?_
           refine x_then_ret ?_
           have hq328 := houtL226 _ (Option.some.inj hm).symm
           rw [hq328] at hk281
           have hm := elimR hk281
           obtain rfl := some1 hm
           exact retM (rs := [.tmp 2]) [.int .i64 (2)] (hle181.trans (hle205.trans (hle277.trans (hle301.trans hle319)))) (by decide) rfl ⟨rfl, trivial⟩ rfl (.cons _ (.cons _ (.refl _))) ⟨rfl, rfl⟩
          ·
           rw [if_neg (fun hh => Bool.noConfusion (hh.symm.trans hc327))] at hm
           refine c_sr ?_
           refine t_st rfl (st_loadD (vs := [_, _, _]) 0 3 rfl agg54 rfl rfl rfl) ?_
           refine t_st rfl (st_loadD (vs := [_, _, _, _]) 1 4 rfl agg83 rfl rfl rfl) ?_
           obtain ⟨x329, hcl330, hm⟩ := bindS hm
           refine t_do rfl (u_callW0 _ call55 rfl (fun w ho => cMendRoundSlack _ [] s1 x282 A2 c3 A5 c6 ((h4.le (hle181.trans (hle205.trans (hle277.trans (hle301.trans hle319))))).old ho) ((h7.le (hle181.trans (hle205.trans (hle277.trans (hle301.trans hle319))))).old ho) x329 hcl330) (fun _ _ _ h => h.2.symm)) ?_
           rintro _ _ ⟨⟨_, rfl, _⟩, rfl⟩
           refine t_st rfl (st_lss rfl rfl) ?_
           refine t_as rfl rfl ?_
           refine t_ne ?_
           refine c_cond _ rfl (fun hc331 => ?_) (fun hc331 => ?_)
           ·
            rw [if_pos (of_decide_eq_true hc331)] at hm
            refine c_sr ?_
            refine t_as rfl rfl ?_
            refine t_ne ?_
            refine c_ret ?_
            refine x_block_ret ?_
            refine x_block_ret ?_
            refine x_then_ret ?_
            refine x_then_ret ?_
            refine x_block_ret ?_
            refine x_then_ret ?_
            have hq332 := houtL226 _ (Option.some.inj hm).symm
            rw [hq332] at hk281
            have hm := elimR hk281
            obtain rfl := some1 hm
            exact retM (rs := [.tmp 2]) [.int .i64 (13)] (hle181.trans (hle205.trans (hle277.trans (hle301.trans hle319)))) (by decide) rfl ⟨rfl, trivial⟩ rfl (.cons _ (.cons _ (.refl _))) ⟨rfl, rfl⟩
           ·
            rw [if_neg (of_decide_eq_false hc331)] at hm
            refine c_skip ?_
            refine x_block_normal ?_
            refine x_block_normal ?_
            refine x_then_normal ?_
            refine c_region ?_
            refine t_st rfl (st_add rfl rfl (by omega)) ?_
            refine t_mv rfl rfl ?_
            refine t_nil ?_
            exact x_againM () (Option.some.inj hm).symm (e' := [(1, .pointer (some ⟨g173, 0, none⟩)), (39, .slice A5 (s1.Links).length c6), (40, .int .i64 ((s1.Links.length : Int))), (41, .int .i64 ((k278 : Int) + 1))]) ⟨rfl, rfl, rfl, rfl, trivial⟩ (.cons_cons _ (.cons _ (.refl _))) ⟨rfl, rfl, ((hle277.trans (hle301.trans hle319)))⟩
      ·
       rintro _ b276 _ _ ⟨rfl, rfl, hle277⟩ hq333
       rw [hq333] at hk281
       have hm := elimL hk281
       refine c_sr ?_
       refine t_st rfl (st_lss_f rfl rfl (by omega)) ?_
       refine t_ne ?_
       refine c_seq ?_
       refine c_cond_f rfl ?_
       refine c_exit ?_
       refine x_then_exit ?_
       refine x_then_exit ?_
       refine x_block_out ?_
       refine x_then_normal ?_
       refine c_seq ?_
       refine c_sr ?_
       refine t_st rfl (st_loadD (vs := [_, _, _]) 0 3 rfl agg54 rfl rfl rfl) ?_
       obtain ⟨x334, hcl335, hm⟩ := bindS hm
       refine t_do rfl (u_callW0 _ call67 rfl (fun w ho => cMendRoundRing _ [] s1 A2 c3 A5 c6 ((h4.le (hle181.trans (hle205.trans hle277))).old ho) ((h7.le (hle181.trans (hle205.trans hle277))).old ho) x334 hcl335) (fun _ _ _ h => h.2.symm)) ?_
       rintro _ _ ⟨⟨_, rfl, _⟩, rfl⟩
       refine t_ne ?_
       refine c_cond _ rfl (fun hc336 => ?_) (fun hc336 => ?_)
       ·
        rw [if_pos hc336] at hm
        refine c_sr ?_
        refine t_as rfl rfl ?_
        refine t_ne ?_
        refine c_ret ?_
        refine x_then_ret ?_
        obtain rfl := some1 hm
        exact retM (rs := [.tmp 2]) [.int .i64 (5)] (hle181.trans (hle205.trans hle277)) (by decide) rfl ⟨rfl, trivial⟩ rfl (.cons _ (.refl _)) ⟨rfl, rfl⟩
       ·
        rw [if_neg (fun hh => Bool.noConfusion (hh.symm.trans hc336))] at hm
        refine c_skip ?_
        refine x_then_normal ?_
        refine c_sr ?_
        refine t_as rfl rfl ?_
        refine t_ne ?_
        refine c_ret ?_
        obtain rfl := some1 hm
        exact retM (rs := [.tmp 2]) [.int .i64 (0)] (hle181.trans (hle205.trans hle277)) (by decide) rfl ⟨rfl, trivial⟩ rfl (.cons _ (.refl _)) ⟨rfl, rfl⟩

set_option maxRecDepth 20000 in
theorem cBitsMul64 (b : Base) (R : Hp) (x1 : Int) (x2 : Int) (x8 : Int) (x9 : Int) (hm : mBitsMul64 x1 x2 = some (x8, x9)) :
    CallsG Try.prog 71 [.int .u64 (x1), .int .u64 (x2)] b (R) (fun v b' hp' => .tuple #[.int .u64 (x8), .int .u64 (x9)] = v ∧ R = hp') := by
  refine fn_enterG 51 Try.func71 rfl Try.ntmps71 rfl ?_
  unfold mBitsMul64 at hm
  refine c_sr ?_
  refine t_as rfl rfl ?_
  refine t_as rfl rfl ?_
  refine t_ne ?_
  refine c_sr ?_
  refine t_mv rfl rfl ?_
  refine t_st rfl (st_and rfl rfl) ?_
  refine t_as rfl rfl ?_
  refine t_ne ?_
  refine c_sr ?_
  refine t_mv rfl rfl ?_
  obtain ⟨_, h10, hm⟩ := bindS hm
  have h10 := shN_some h10
  refine t_st rfl (st_shr rfl rfl h10) ?_
  refine t_as rfl rfl ?_
  refine t_ne ?_
  refine c_sr ?_
  refine t_mv rfl rfl ?_
  refine t_st rfl (st_and rfl rfl) ?_
  refine t_as rfl rfl ?_
  refine t_ne ?_
  refine c_sr ?_
  refine t_mv rfl rfl ?_
  obtain ⟨_, h11, hm⟩ := bindS hm
  have h11 := shN_some h11
  refine t_st rfl (st_shr rfl rfl h11) ?_
  refine t_as rfl rfl ?_
  refine t_ne ?_
  refine c_sr ?_
  refine t_mv rfl rfl ?_
  refine t_mv rfl rfl ?_
  refine t_st rfl (st_mul_w rfl rfl) ?_
  refine t_as rfl rfl ?_
  refine t_ne ?_
  refine c_sr ?_
  refine t_mv rfl rfl ?_
  refine t_mv rfl rfl ?_
  refine t_st rfl (st_mul_w rfl rfl) ?_
  refine t_mv rfl rfl ?_
  obtain ⟨_, h12, hm⟩ := bindS hm
  have h12 := shN_some h12
  refine t_st rfl (st_shr rfl rfl h12) ?_
  refine t_st rfl (st_add_w rfl rfl) ?_
  refine t_as rfl rfl ?_
  refine t_ne ?_
  refine c_sr ?_
  refine t_mv rfl rfl ?_
  refine t_st rfl (st_and rfl rfl) ?_
  refine t_as rfl rfl ?_
  refine t_ne ?_
  refine c_sr ?_
  refine t_mv rfl rfl ?_
  obtain ⟨_, h13, hm⟩ := bindS hm
  have h13 := shN_some h13
  refine t_st rfl (st_shr rfl rfl h13) ?_
  refine t_as rfl rfl ?_
  refine t_ne ?_
  refine c_sr ?_
  refine t_mv rfl rfl ?_
  refine t_mv rfl rfl ?_
  refine t_mv rfl rfl ?_
  refine t_st rfl (st_mul_w rfl rfl) ?_
  refine t_st rfl (st_add_w rfl rfl) ?_
  refine t_as rfl rfl ?_
  refine t_ne ?_
  refine c_sr ?_
  refine t_mv rfl rfl ?_
  refine t_mv rfl rfl ?_
  refine t_st rfl (st_mul_w rfl rfl) ?_
  refine t_mv rfl rfl ?_
  refine t_st rfl (st_add_w rfl rfl) ?_
  refine t_mv rfl rfl ?_
  obtain ⟨_, h14, hm⟩ := bindS hm
  have h14 := shN_some h14
  refine t_st rfl (st_shr rfl rfl h14) ?_
  refine t_st rfl (st_add_w rfl rfl) ?_
  refine t_as rfl rfl ?_
  refine t_ne ?_
  refine c_sr ?_
  refine t_mv rfl rfl ?_
  refine t_mv rfl rfl ?_
  refine t_st rfl (st_mul_w rfl rfl) ?_
  refine t_as rfl rfl ?_
  refine t_ne ?_
  refine c_ret ?_
  obtain ⟨rfl, rfl⟩ := some2 hm
  exact retM (rs := [.tmp 4, .tmp 5]) [.int .u64 (IntKind.wrap .u64 ((IntKind.wrap .u64 ((IntKind.wrap .u64 ((shrI .u64 x1 32) * (shrI .u64 x2 32))) + (shrI .u64 (IntKind.wrap .u64 ((IntKind.wrap .u64 ((shrI .u64 x1 32) * (andI .u64 x2 4294967295))) + (shrI .u64 (IntKind.wrap .u64 ((andI .u64 x1 4294967295) * (andI .u64 x2 4294967295))) 32))) 32))) + (shrI .u64 (IntKind.wrap .u64 ((andI .u64 (IntKind.wrap .u64 ((IntKind.wrap .u64 ((shrI .u64 x1 32) * (andI .u64 x2 4294967295))) + (shrI .u64 (IntKind.wrap .u64 ((andI .u64 x1 4294967295) * (andI .u64 x2 4294967295))) 32))) 4294967295) + (IntKind.wrap .u64 ((andI .u64 x1 4294967295) * (shrI .u64 x2 32))))) 32))), .int .u64 (IntKind.wrap .u64 (x1 * x2))] (Base.Le.refl _) (by decide) rfl ⟨rfl, ⟨rfl, trivial⟩⟩ rfl (.refl _) ⟨rfl, rfl⟩

set_option maxRecDepth 20000 in
theorem cBitsMul (b : Base) (R : Hp) (x1 : Int) (x2 : Int) (x6 : Int) (x7 : Int) (hm : mBitsMul x1 x2 = some (x6, x7)) :
    CallsG Try.prog 65 [.int .u64 (x1), .int .u64 (x2)] b (R) (fun v b' hp' => .tuple #[.int .u64 (x6), .int .u64 (x7)] = v ∧ R = hp') := by
  refine fn_enterG 30 Try.func65 rfl Try.ntmps65 rfl ?_
  unfold mBitsMul at hm
  refine c_sr ?_
  refine t_as rfl rfl ?_
  refine t_as rfl rfl ?_
  refine t_ne ?_
  refine c_seq ?_
  refine c_cond_f rfl ?_
  refine c_skip ?_
  refine x_then_normal ?_
  refine c_sr ?_
  refine t_mv rfl rfl ?_
  refine t_mv rfl rfl ?_
  obtain ⟨⟨x8, x9⟩, hcl10, hm⟩ := bindS hm
  have hm := (unc2E hm)
  refine t_do rfl (u_callW0 _ call71 rfl (fun w ho => cBitsMul64 _ [] x1 x2 x8 x9 hcl10) (fun _ _ _ h => h.2.symm)) ?_
  rintro _ _ ⟨⟨_, rfl, _⟩, rfl⟩
  refine t_mv rfl rfl ?_
  refine t_st rfl (st_extract rfl rfl) ?_
  refine t_st rfl (st_extract rfl rfl) ?_
  refine t_as rfl rfl ?_
  refine t_as rfl rfl ?_
  refine t_ne ?_
  refine c_sr ?_
  refine t_mv rfl rfl ?_
  refine t_mv rfl rfl ?_
  refine t_as rfl rfl ?_
  refine t_as rfl rfl ?_
  refine t_ne ?_
  refine c_ret ?_
  obtain ⟨rfl, rfl⟩ := some2 hm
  exact retM (rs := [.tmp 4, .tmp 5]) [.int .u64 (x8), .int .u64 (x9)] (Base.Le.refl _) (by decide) rfl ⟨rfl, ⟨rfl, trivial⟩⟩ rfl (.refl _) ⟨rfl, rfl⟩

set_option maxRecDepth 20000 in
theorem cSlicesRepeat (b : Base) (R : Hp) (l4 : (List Int)) (x5 : Int) (A1 : Option Addr) (c2 : Nat) (h3 : FZ (RT.int .i64) b.w A1 c2 l4) (l401 : (List Int)) (hm : mSlicesRepeat l4 x5 = some l401) :
    CallsG Try.prog 47 [.slice A1 (l4).length c2, .int .i64 (x5)] b (R) (fun v b' hp' => ∃ (A398 : Option Addr), ∃ (c399 : Nat), ∃ (hs397 : Hp), .slice A398 (l401).length c399 = v ∧ (hs397 ++ R) = hp' ∧ OS 3 (OT.fr (RT.int .i64)) b'.w (.slice A398 l401.length c399) l401 hs397) := by
  refine fn_enterG 48 Try.func47 rfl Try.ntmps47 rfl ?_
  unfold mSlicesRepeat at hm
  refine c_sr ?_
  refine t_as rfl rfl ?_
  refine t_ne ?_
  refine c_seq ?_
  refine c_sr ?_
  refine t_mv rfl rfl ?_
  refine t_st rfl (st_lss rfl rfl) ?_
  refine t_ne ?_
  refine c_cond _ rfl (fun hc402 => ?_) (fun hc402 => ?_)
  ·
   rw [if_pos (of_decide_eq_true hc402)] at hm
   cases hm
  ·
   rw [if_neg (of_decide_eq_false hc402)] at hm
   refine c_skip ?_
   refine x_then_normal ?_
   refine c_sr ?_
   refine t_mv rfl rfl ?_
   refine t_st rfl (st_len rfl sl22) ?_
   refine t_st rfl (st_conv rfl int3_i64 int103_u64) ?_
   refine t_mv rfl rfl ?_
   refine t_st rfl (st_conv rfl int3_i64 int103_u64) ?_
   obtain ⟨⟨x403, x404⟩, hcl405, hm⟩ := bindS hm
   have hm := (unc2E hm)
   refine t_do rfl (u_callW0 _ call65 rfl (fun w ho => cBitsMul _ [] (IntKind.wrap .u64 (l4.length : Int)) (IntKind.wrap .u64 x5) x403 x404 hcl405) (fun _ _ _ h => h.2.symm)) ?_
   rintro _ _ ⟨⟨_, rfl, _⟩, rfl⟩
   refine t_mv rfl rfl ?_
   refine t_st rfl (st_extract rfl rfl) ?_
   refine t_st rfl (st_extract rfl rfl) ?_
   refine t_as rfl rfl ?_
   refine t_as rfl rfl ?_
   refine t_ne ?_
   refine c_seq ?_
   obtain ⟨x409, hj410, hk410⟩ := bindS hm
   refine c_join (fun b407 e' hp' => [(0, .slice A1 (l4).length c2), (6, .int .u64 (x404)), (26, .bool (x409))] = e' ∧ R = hp' ∧ b.Le b407) ?_ ?_
   ·
    have hm := hj410
    refine c_region ?_
    refine t_mv rfl rfl ?_
    refine t_bool rfl (st_gtr rfl rfl) (fun hc411 => ?_) (fun hc411 => ?_)
    ·
     rw [if_pos hc411] at hm
     refine t_mv rfl rfl ?_
     refine t_no 23 rfl rfl rfl rfl rfl ?_
     refine t_no 23 rfl rfl rfl rfl rfl ?_
     refine t_st rfl (st_pick_t rfl rfl) ?_
     refine t_nil ?_
     obtain rfl := some1 hm
     exact x_join (e' := [(0, .slice A1 (l4).length c2), (6, .int .u64 (x404)), (26, .bool (true))]) ⟨rfl, rfl, rfl, trivial⟩ (.refl _) ⟨rfl, rfl, (Base.Le.refl _)⟩
    ·
     rw [if_neg hc411] at hm
     refine t_mv rfl rfl ?_
     refine t_yes 23 rfl rfl rfl ?_
     refine t_mv rfl rfl ?_
     refine t_yes 23 rfl rfl rfl ?_
     refine t_st rfl (st_gtr rfl rfl) ?_
     refine t_st rfl (st_pick_f rfl rfl) ?_
     refine t_nil ?_
     obtain rfl := some1 hm
     exact x_join (e' := [(0, .slice A1 (l4).length c2), (6, .int .u64 (x404)), (26, .bool (decide (9223372036854775807 < x404)))]) ⟨rfl, rfl, rfl, trivial⟩ (.refl _) ⟨rfl, rfl, (Base.Le.refl _)⟩
   ·
    rintro b407 _ _ ⟨rfl, rfl, hle408⟩
    have hm := hk410
    refine c_cond _ rfl (fun hc412 => ?_) (fun hc412 => ?_)
    ·
     rw [if_pos hc412] at hm
     cases hm
    ·
     rw [if_neg (fun hh => Bool.noConfusion (hh.symm.trans hc412))] at hm
     refine c_skip ?_
     refine x_then_normal ?_
     refine c_sr ?_
     refine t_mv rfl rfl ?_
     refine t_st rfl (st_conv rfl int103_u64 int3_i64) ?_
     obtain ⟨m413, h414, hm⟩ := bindS hm
     have h414 := mkLen_some h414
     refine t_do rfl (u_mkOS (r := (RT.int .i64)) [] R [.int .i64 (0)] 0 m413 rfl h414.1 rfl rfl sl22 inf3 rfl rfl rfl (by decide) rfl h414.2.1 h414.2.2) ?_
     rintro _ _ ⟨hs415, rfl, h416⟩
     obtain ⟨A417, c418, rfl, _⟩ := h416.form
     refine t_as rfl rfl ?_
     refine t_ne ?_
     refine c_sr ?_
     refine t_mv rfl rfl ?_
     refine t_mv rfl rfl ?_
     obtain ⟨css419, h420, h421⟩ := rd_src (h3.le hle408)
     refine t_do rfl (u_copyI (r := (RT.int .i64)) (m := l4) (show (0 : Int) = ((0 : Nat) : Int) from rfl) rfl [] R css419 rfl sl22 rfl rfl (subA_zero _ _ _).symm (Nat.sub_zero _).symm rfl (Nat.zero_le _) (Nat.le_refl _) h416 rfl (fun w ho => h420.old ho) h421) ?_
     rintro _ _ ⟨rfl, hs422, rfl, h423⟩
     refine t_resp 7 rfl (v' := .slice A417 (cpyI (List.replicate m413 (0 : Int)) 0 ((List.replicate m413 (0 : Int)).length : Int) l4).length c418) (by rw [(cpyI_length (show (0 : Int) = ((0 : Nat) : Int) from rfl) rfl (Nat.zero_le _) (Nat.le_refl _))]) ?_
     refine t_as rfl rfl ?_
     refine t_ne ?_
     obtain ⟨l609, hj611, hk611⟩ := bindS hm
     refine c_join (fun b604 e' hp' => ∃ (hs607 : Hp), [(7, .slice A417 (l609).length c418)] = e' ∧ (hs607 ++ R) = hp' ∧ b407.Le b604 ∧ OS 3 (OT.fr (RT.int .i64)) b604.w (.slice A417 l609.length c418) l609 hs607 ∧ l609.length = m413) ?_ ?_
     ·
      have hm := hj611
      refine c_block ?_
      refine c_loopM (unc2 fun x734 l735 => fun b729 e' hp' => ∃ (hs732 : Hp), [(7, .slice A417 (l735).length c418), (8, .int .i64 (x734))] = e' ∧ (hs732 ++ R) = hp' ∧ b407.Le b729 ∧ OS 3 (OT.fr (RT.int .i64)) b729.w (.slice A417 l735.length c418) l735 hs732 ∧ l735.length = m413) hm (e' := [(7, .slice A417 (cpyI (List.replicate m413 (0 : Int)) 0 ((List.replicate m413 (0 : Int)).length : Int) l4).length c418), (8, .int .i64 (cpyN 0 ((List.replicate m413 (0 : Int)).length : Int) l4))]) ⟨rfl, rfl, trivial⟩ (.refl _) ⟨hs422, rfl, rfl, (Base.Le.refl _), h423, ((cpyI_length (show (0 : Int) = ((0 : Nat) : Int) from rfl) rfl (Nat.zero_le _) (Nat.le_refl _)).trans List.length_replicate)⟩ ?_
      rintro ⟨x734, l735⟩ b729 _ _ oL612 ⟨hs732, rfl, rfl, hle730, h733, hln736⟩ hstepL612 houtL612
      unfold mSlicesRepeat_L612 at hstepL612
      have hm := (unc2E hstepL612)
      refine c_seq ?_
      refine c_sr ?_
      refine t_mv rfl rfl ?_
      refine t_mv rfl rfl ?_
      refine t_st rfl (st_len rfl sl22) ?_
      refine t_st rfl (st_lss rfl rfl) ?_
      refine t_ne ?_
      refine c_cond _ rfl (fun hc737 => ?_) (fun hc737 => ?_)
      ·
       rw [if_pos (of_decide_eq_true hc737)] at hm
       refine c_skip ?_
       refine x_then_normal ?_
       refine c_block ?_
       obtain ⟨l765, h766, hm⟩ := bindS hm
       obtain ⟨l775, h776, hm⟩ := bindS hm
       obtain ⟨_, h791, hm⟩ := bindS hm
       refine D_drawI mixed (sub_skip hs732 (.refl _)) ?_
       refine E_st 0 rfl (st_move rfl) ?_
       refine E_st 1 rfl (st_move rfl) ?_
       refine E_st 2 rfl (st_move rfl) ?_
       obtain ⟨j767, j768, hj769, hj770, hj771, hj772, hx773⟩ := cutS_some h766
       have h774 := OS.lc h733
       refine E_st 3 rfl (hx773 ▸ st_part (l := l735) j767 j768 rfl (.inr ⟨_, _, _, rfl, rfl, hj769⟩) (.inl ⟨rfl, by omega⟩) hj771 hj772 h774 sl22) ?_
       refine E_st 4 rfl (st_move rfl) ?_
       refine E_st 5 rfl (st_move rfl) ?_
       obtain ⟨j777, j778, hj779, hj780, hj781, hj782, hx783⟩ := cutS_some h776
       have h784 := OS.lc h733
       refine E_st 6 rfl (hx783 ▸ st_part (l := l735) j777 j778 rfl (.inl ⟨rfl, by omega⟩) (.inr ⟨_, _, _, rfl, rfl, hj780⟩) hj781 hj782 h784 sl22) ?_
       refine E_out ?_
       obtain ⟨css785, h786, h787⟩ := rd_own h733 (List.sublist_append_left _ _)
       have h788 := OS.lc h733
       refine D_all [7] (by kernel_rfl) rfl ?_
       refine R_do (Base.Le.refl _) rfl rfl (u_copyI (r := (RT.int .i64)) (m := l775) hj769 hj770 [] R ((css785.take j778).drop j777) rfl sl22 rfl rfl rfl (cut_len hx773 hj771 hj772) rfl hj771 hj772 h733 rfl (fun w ho => rd_part rfl hj781 hj782 h788 (h786 w ho) ⟨_, h787⟩) (cut_all hx783 h787)) ?_ ?_
       ·
        rintro _ _ ⟨rfl, hs789, rfl, h790⟩
        refine ⟨.inr (sub_skip hs789 (.refl _)), ?_⟩
        refine d_resp 7 rfl (v' := .slice A417 (cpyI l735 x734 (l735.length : Int) l775).length c418) (by rw [(cpyI_length hj769 hj770 hj771 hj772)]) ?_
        have h791 := (chk_some h791).2
        refine E_in (sub_skip hs789 (.refl _)) ?_
        refine E_st 8 rfl (st_add rfl rfl h791) ?_
        refine E_st 9 rfl (st_assign rfl) ?_
        refine E_out ?_
        refine D_done (by kernel_rfl) ?_
        refine x_block_normal ?_
        exact x_againM (x734 + (cpyN x734 (l735.length : Int) l775), cpyI l735 x734 (l735.length : Int) l775) (Option.some.inj hm).symm (e' := [(7, .slice A417 (cpyI l735 x734 (l735.length : Int) l775).length c418), (8, .int .i64 (x734 + (cpyN x734 (l735.length : Int) l775)))]) ⟨rfl, rfl, trivial⟩ (.refl _) ⟨hs789, rfl, rfl, (hle730), h790, ((cpyI_length hj769 hj770 hj771 hj772).trans hln736)⟩
       exact R_nil
      ·
       rw [if_neg (of_decide_eq_false hc737)] at hm
       refine c_exit ?_
       refine x_then_exit ?_
       refine x_then_exit ?_
       refine x_block_out ?_
       have hm := congrArg some (houtL612 _ (Option.some.inj hm).symm)
       obtain rfl := some1 hm
       exact x_join (e' := [(7, .slice A417 (l735).length c418)]) ⟨rfl, trivial⟩ (.refl _) ⟨hs732, rfl, rfl, hle730, h733, hln736⟩
     ·
      rintro b604 _ _ ⟨hs607, rfl, rfl, hle605, h608, hln610⟩
      have hm := hk611
      refine c_sr ?_
      refine t_mv rfl rfl ?_
      refine t_as rfl rfl ?_
      refine t_ne ?_
      refine c_ret ?_
      obtain rfl := some1 hm
      exact retM (rs := [.tmp 4]) [.slice A417 (l609).length c418] (hle408.trans hle605) (by decide) rfl ⟨rfl, trivial⟩ rfl (.refl _) ⟨A417, c418, hs607, rfl, rfl, h608⟩

end Go.Proofs.Ytakehdnblmonlaa
