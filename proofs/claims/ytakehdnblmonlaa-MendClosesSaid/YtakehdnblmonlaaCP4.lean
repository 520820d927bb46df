/- Contracts: the code computes its model (part 4). -/
import Derived.Test.YtakehdnblmonlaaCP3
set_option linter.unusedVariables false
set_option linter.unusedSimpArgs false
namespace Go.Proofs.Ytakehdnblmonlaa
open Go.RowKit Go.Fp

set_option maxRecDepth 20000 in
theorem cMendSolverWith (b : Base) (R : Hp) (l15 : (List MendArc)) (l19 : (List Int)) (l20 : (List Int)) (l21 : (List (List MendArc))) (g11 : Nat) (A12 : Option Addr) (c13 : Nat) (A16 : Option Addr) (c17 : Nat) (A3 : Option Addr) (c4 : Nat) (hs2 : Hp) (A8 : Option Addr) (c9 : Nat) (hs7 : Hp) (h14 : FZ rMendArc b.w A12 c13 l15) (h18 : FZ (RT.int .i64) b.w A16 c17 l19) (h5 : OS 3 (OT.fr (RT.int .i64)) b.w (.slice A3 l20.length c4) l20 hs2) (h10 : OS 23 (OT.fr (RT.list rMendArc)) b.w (.slice A8 l21.length c9) l21 hs7) (q2295 : (Option MendSolver)) (x2298 : Bool) (l2302 : (List (List MendArc))) (hm : mMendSolverWith l15 l19 l20 l21 = some (q2295, x2298, l2302)) :
    CallsG Try.prog 41 [.pointer (some ⟨g11, 0, none⟩), .slice A12 (l15).length c13] b ((g11, Cl 73 [.slice A3 (l20).length c4, .slice A16 (l19).length c17, .slice A8 (l21).length c9]) :: (hs2 ++ (hs7 ++ R))) (fun v b' hp' => ∃ (v2296 : Value), ∃ (A2299 : Option Addr), ∃ (c2300 : Nat), .tuple #[v2296, .bool (x2298)] = v ∧ (g11, Cl 73 [.slice A3 (l20).length c4, .slice A16 (l19).length c17, .slice A2299 (l2302).length c2300]) :: (hs2 ++ R) = hp' ∧ (RT.ptr rMendSolver).rep b'.w [v2296] q2295 ∧ FZ (RT.list rMendArc) b'.w A2299 c2300 l2302) := by
  refine fn_enterG 128 Try.func41 rfl Try.ntmps41 rfl ?_
  unfold mMendSolverWith at hm
  refine c_seq ?_
  refine c_region ?_
  refine t_st rfl (st_assign rfl) ?_
  refine t_st rfl (st_assign rfl) ?_
  refine t_nil ?_
  refine x_then_normal ?_
  obtain ⟨⟨l2368, l2369, l2370⟩, hj2371, hk2371⟩ := bindS hm
  refine c_join (fun b2351 e' hp' => ∃ (g2363 : Nat), ∃ (g2364 : Nat), ∃ (A2365 : Option Addr), ∃ (c2366 : Nat), ∃ (A2355 : Option Addr), ∃ (c2356 : Nat), ∃ (hs2354 : Hp), ∃ (A2360 : Option Addr), ∃ (c2361 : Nat), ∃ (hs2359 : Hp), [(1, .slice A12 (l15).length c13), (6, .pointer (some ⟨g2363, 0, none⟩))] = e' ∧ (g2363, Cl 69 [.pointer (some ⟨g2364, 0, none⟩)]) :: (g11, Cl 73 [.slice A3 (l20).length c4, .slice A16 (l19).length c17, .slice A2365 (l2368).length c2366]) :: (g2364, Cl 73 [.slice A2355 (l2369).length c2356, .slice A16 (l19).length c17, .slice A2360 (l2370).length c2361]) :: (hs2 ++ (hs2354 ++ (hs2359 ++ R))) = hp' ∧ b.Le b2351 ∧ FZ (RT.list rMendArc) b2351.w A2365 c2366 l2368 ∧ OS 3 (OT.fr (RT.int .i64)) b2351.w (.slice A2355 l2369.length c2356) l2369 hs2354 ∧ OS 23 (OT.fr (RT.list rMendArc)) b2351.w (.slice A2360 l2370.length c2361) l2370 hs2359) ?_ ?_
  ·
    have hm := hj2371
    refine c_front2 [_] hs2 hs7 R rfl ?_
    refine c_frz [_] hs7 (hs2 ++ R) rfl ?_
    intro b2380 hle2381 hz2382
    have h2383 := OS.frz (l := l21) h10 hle2381.cells hz2382
    obtain ⟨l2402, hcl2403, hm⟩ := bindS hm
    obtain ⟨l2410, hcl2411, hm⟩ := bindS hm
    refine D_drawS ((g11, Cl 73 [.slice A3 (l20).length c4, .slice A16 (l19).length c17, .slice A8 (l21).length c9]) :: (hs2 ++ R)) mixed ?_
    refine D_st (Base.Le.refl _) 0 rfl (by kernel_rfl) (by kernel_rfl) (by kernel_rfl) rfl (st_move rfl) (.cons_cons _ (sub_app hs2 (.refl _))) ?_
    refine D_st (Base.Le.refl _) 1 rfl (by kernel_rfl) (by kernel_rfl) (by kernel_rfl) rfl (st_nil rfl) (.cons_cons _ (sub_app hs2 (.refl _))) ?_
    refine D_st (Base.Le.refl _) 2 rfl (by kernel_rfl) (by kernel_rfl) (by kernel_rfl) rfl (st_field rfl fld73_0) (.cons_cons _ (sub_app hs2 (.refl _))) ?_
    refine D_st (Base.Le.refl _) 3 rfl (by kernel_rfl) (by kernel_rfl) (by kernel_rfl) rfl (st_load 0 rfl one22 rfl rfl) (.cons_cons _ (sub_app hs2 (.refl _))) ?_
    refine D_st (Base.Le.refl _) 5 rfl (by kernel_rfl) (by kernel_rfl) (by kernel_rfl) rfl (st_move rfl) (.cons_cons _ (sub_app hs2 (.refl _))) ?_
    refine D_st (Base.Le.refl _) 6 rfl (by kernel_rfl) (by kernel_rfl) (by kernel_rfl) rfl (st_nil rfl) (.cons_cons _ (sub_app hs2 (.refl _))) ?_
    refine D_st (Base.Le.refl _) 7 rfl (by kernel_rfl) (by kernel_rfl) (by kernel_rfl) rfl (st_field rfl fld73_1) (.cons_cons _ (sub_app hs2 (.refl _))) ?_
    refine D_st (Base.Le.refl _) 8 rfl (by kernel_rfl) (by kernel_rfl) (by kernel_rfl) rfl (st_load 0 rfl one22 rfl rfl) (.cons_cons _ (sub_app hs2 (.refl _))) ?_
    refine D_st (Base.Le.refl _) 9 rfl (by kernel_rfl) (by kernel_rfl) (by kernel_rfl) rfl (st_move rfl) (.cons_cons _ (sub_app hs2 (.refl _))) ?_
    refine D_st (Base.Le.refl _) 10 rfl (by kernel_rfl) (by kernel_rfl) (by kernel_rfl) rfl (st_nil rfl) (.cons_cons _ (sub_app hs2 (.refl _))) ?_
    refine D_st (Base.Le.refl _) 11 rfl (by kernel_rfl) (by kernel_rfl) (by kernel_rfl) rfl (st_field rfl fld73_2) (.cons_cons _ (sub_app hs2 (.refl _))) ?_
    refine D_st (Base.Le.refl _) 12 rfl (by kernel_rfl) (by kernel_rfl) (by kernel_rfl) rfl (st_load 0 rfl one35 rfl rfl) (.cons_cons _ (sub_app hs2 (.refl _))) ?_
    refine D_all [4, 16] (by kernel_rfl) rfl ?_
    refine R_do (Base.Le.refl _) rfl rfl (u_callWF [_] (hs2 ++ R) _ rfl call12 rfl (fun w ho => cSlicesClone _ [] l20 A3 c4 (OS.now (o := (OT.fr (RT.int .i64))) (l := l20) (hs := hs2) (h5.le hle2381) ho (.cons _ (List.sublist_append_left _ _))) l2402 hcl2403)) ?_ ?_
    ·
      rintro _ _ ⟨_, _, rfl, A2404, c2405, hs2406, rfl, hq2409, h2407⟩
      obtain rfl := List.append_cancel_right hq2409
      have h2408 := flat_fz (w' := b2380.w) (fun _ _ _ _ h => h) h2407
      refine ⟨.inr (.cons_cons _ (sub_skip hs2406 (sub_app hs2 (.refl _)))), ?_⟩
      refine D_all [13, 16] (by kernel_rfl) rfl ?_
      refine R_callGl (Base.Le.refl _) rfl rfl _ call60 rfl (cSlicesClone_2 _ _ l21 A8 c9 h2383 l2410 hcl2411) ?_ ?_
      ·
        rintro _ b2412 _ hle2413 ⟨A2414, c2415, hs2416, rfl, rfl, h2417⟩
        refine ⟨.inr (sub_skip hs2416 (.cons_cons _ (sub_skip hs2406 (sub_app hs2 (.refl _))))), ?_⟩
        refine d_in1 [] [_] hs2416 (hs2406 ++ (hs2 ++ R)) rfl ?_
        refine D_all [14, 16] (by kernel_rfl) rfl ?_
        refine R_do hle2413 rfl rfl (Stable.does (st_build (v := .agg #[.slice A2404 (l2402).length c2405, .slice A16 (l19).length c17, .slice A2414 (l2410).length c2415]) [(0, .slice A2404 (l2402).length c2405), (1, .slice A16 (l19).length c17), (2, .slice A2414 (l2410).length c2415)] rfl (fun _ => by kernel_rfl))) ?_ ?_
        ·
          rintro _ _ ⟨rfl, rfl⟩
          refine ⟨.inr (.cons_cons _ (sub_skip hs2416 (sub_skip hs2406 (sub_app hs2 (.refl _))))), ?_⟩
          refine D_all [15, 16] (by kernel_rfl) rfl ?_
          refine R_do hle2413 rfl rfl (u_box _ rfl rfl) ?_ ?_
          ·
            rintro _ _ ⟨g2418, rfl, rfl⟩
            refine ⟨.inr (.cons _ (.cons_cons _ (sub_skip hs2416 (sub_skip hs2406 (sub_app hs2 (.refl _)))))), ?_⟩
            refine D_all [16] (by kernel_rfl) rfl ?_
            refine R_do hle2413 rfl rfl (u_alloc [.pointer none] zero69 rfl) ?_ ?_
            ·
              rintro _ _ ⟨g2419, rfl, rfl⟩
              refine ⟨.inr (.cons _ (.cons _ (.cons_cons _ (sub_skip hs2416 (sub_skip hs2406 (sub_app hs2 (.refl _))))))), ?_⟩
              refine D_all [17] (by kernel_rfl) rfl ?_
              refine R_do hle2413 rfl rfl (u_store 0 rfl rfl siz69 rfl rfl (by simp)) ?_ ?_
              ·
                rintro _ _ rfl
                refine ⟨.inl (by kernel_rfl), ?_⟩
                refine D_done (by kernel_rfl) ?_
                obtain ⟨rfl, rfl, rfl⟩ := some3 hm
                refine x_pullb 1 rfl ?_
                refine x_pullb 2 rfl ?_
                refine x_pullb 2 rfl ?_
                refine x_front2 [_, _, _] hs2416 hs2406 (hs2 ++ R) rfl ?_
                refine x_front3 [_, _, _] hs2406 hs2416 hs2 R rfl ?_
                exact x_join (e' := [(1, .slice A12 (l15).length c13), (6, .pointer (some ⟨g2419, 0, none⟩))]) (hp' := (g2419, Cl 69 [.pointer (some ⟨g2418, 0, none⟩)]) :: (g11, Cl 73 [.slice A3 (l20).length c4, .slice A16 (l19).length c17, .slice A8 (l21).length c9]) :: (g2418, Cl 73 [.slice A2404 (l2402).length c2405, .slice A16 (l19).length c17, .slice A2414 (l2410).length c2415]) :: (hs2 ++ (hs2406 ++ (hs2416 ++ R)))) ⟨rfl, rfl, trivial⟩ (.cons_cons _ (.cons_cons _ (.cons_cons _ (sub_app hs2 (sub_app hs2406 (sub_app hs2416 (.refl _))))))) ⟨g2419, g2418, A8, c9, A2404, c2405, hs2406, A2414, c2415, hs2416, rfl, rfl, (hle2381.trans hle2413), (h2383.le hle2413), (h2408.le hle2413), h2417⟩
              exact R_nil
            exact R_nil
          refine R_do hle2413 rfl rfl (u_alloc [.pointer none] zero69 rfl) ?_ ?_
          ·
            rintro _ _ ⟨g2419, rfl, rfl⟩
            refine ⟨.inr (.cons _ (.cons_cons _ (sub_skip hs2416 (sub_skip hs2406 (sub_app hs2 (.refl _)))))), ?_⟩
            refine D_all [15] (by kernel_rfl) rfl ?_
            refine R_do hle2413 rfl rfl (u_box _ rfl rfl) ?_ ?_
            ·
              rintro _ _ ⟨g2418, rfl, rfl⟩
              refine ⟨.inr (.cons _ (.cons _ (.cons_cons _ (sub_skip hs2416 (sub_skip hs2406 (sub_app hs2 (.refl _))))))), ?_⟩
              refine D_all [17] (by kernel_rfl) rfl ?_
              refine R_do hle2413 rfl rfl (u_store 1 rfl rfl siz69 rfl rfl (by simp)) ?_ ?_
              ·
                rintro _ _ rfl
                refine ⟨.inl (by kernel_rfl), ?_⟩
                refine D_done (by kernel_rfl) ?_
                obtain ⟨rfl, rfl, rfl⟩ := some3 hm
                refine x_pullb 2 rfl ?_
                refine x_pullb 2 rfl ?_
                refine x_front2 [_, _, _] hs2416 hs2406 (hs2 ++ R) rfl ?_
                refine x_front3 [_, _, _] hs2406 hs2416 hs2 R rfl ?_
                exact x_join (e' := [(1, .slice A12 (l15).length c13), (6, .pointer (some ⟨g2419, 0, none⟩))]) (hp' := (g2419, Cl 69 [.pointer (some ⟨g2418, 0, none⟩)]) :: (g11, Cl 73 [.slice A3 (l20).length c4, .slice A16 (l19).length c17, .slice A8 (l21).length c9]) :: (g2418, Cl 73 [.slice A2404 (l2402).length c2405, .slice A16 (l19).length c17, .slice A2414 (l2410).length c2415]) :: (hs2 ++ (hs2406 ++ (hs2416 ++ R)))) ⟨rfl, rfl, trivial⟩ (.cons_cons _ (.cons_cons _ (.cons_cons _ (sub_app hs2 (sub_app hs2406 (sub_app hs2416 (.refl _))))))) ⟨g2419, g2418, A8, c9, A2404, c2405, hs2406, A2414, c2415, hs2416, rfl, rfl, (hle2381.trans hle2413), (h2383.le hle2413), (h2408.le hle2413), h2417⟩
              exact R_nil
            exact R_nil
          exact R_nil
        refine R_do hle2413 rfl rfl (u_alloc [.pointer none] zero69 rfl) ?_ ?_
        ·
          rintro _ _ ⟨g2419, rfl, rfl⟩
          refine ⟨.inr (.cons _ (.cons_cons _ (sub_skip hs2416 (sub_skip hs2406 (sub_app hs2 (.refl _)))))), ?_⟩
          refine D_all [14] (by kernel_rfl) rfl ?_
          refine R_do hle2413 rfl rfl (Stable.does (st_build (v := .agg #[.slice A2404 (l2402).length c2405, .slice A16 (l19).length c17, .slice A2414 (l2410).length c2415]) [(0, .slice A2404 (l2402).length c2405), (1, .slice A16 (l19).length c17), (2, .slice A2414 (l2410).length c2415)] rfl (fun _ => by kernel_rfl))) ?_ ?_
          ·
            rintro _ _ ⟨rfl, rfl⟩
            refine ⟨.inr (.cons _ (.cons_cons _ (sub_skip hs2416 (sub_skip hs2406 (sub_app hs2 (.refl _)))))), ?_⟩
            refine D_all [15] (by kernel_rfl) rfl ?_
            refine R_do hle2413 rfl rfl (u_box _ rfl rfl) ?_ ?_
            ·
              rintro _ _ ⟨g2418, rfl, rfl⟩
              refine ⟨.inr (.cons _ (.cons _ (.cons_cons _ (sub_skip hs2416 (sub_skip hs2406 (sub_app hs2 (.refl _))))))), ?_⟩
              refine D_all [17] (by kernel_rfl) rfl ?_
              refine R_do hle2413 rfl rfl (u_store 1 rfl rfl siz69 rfl rfl (by simp)) ?_ ?_
              ·
                rintro _ _ rfl
                refine ⟨.inl (by kernel_rfl), ?_⟩
                refine D_done (by kernel_rfl) ?_
                obtain ⟨rfl, rfl, rfl⟩ := some3 hm
                refine x_pullb 2 rfl ?_
                refine x_pullb 2 rfl ?_
                refine x_front2 [_, _, _] hs2416 hs2406 (hs2 ++ R) rfl ?_
                refine x_front3 [_, _, _] hs2406 hs2416 hs2 R rfl ?_
                exact x_join (e' := [(1, .slice A12 (l15).length c13), (6, .pointer (some ⟨g2419, 0, none⟩))]) (hp' := (g2419, Cl 69 [.pointer (some ⟨g2418, 0, none⟩)]) :: (g11, Cl 73 [.slice A3 (l20).length c4, .slice A16 (l19).length c17, .slice A8 (l21).length c9]) :: (g2418, Cl 73 [.slice A2404 (l2402).length c2405, .slice A16 (l19).length c17, .slice A2414 (l2410).length c2415]) :: (hs2 ++ (hs2406 ++ (hs2416 ++ R)))) ⟨rfl, rfl, trivial⟩ (.cons_cons _ (.cons_cons _ (.cons_cons _ (sub_app hs2 (sub_app hs2406 (sub_app hs2416 (.refl _))))))) ⟨g2419, g2418, A8, c9, A2404, c2405, hs2406, A2414, c2415, hs2416, rfl, rfl, (hle2381.trans hle2413), (h2383.le hle2413), (h2408.le hle2413), h2417⟩
              exact R_nil
            exact R_nil
          exact R_nil
        exact R_nil
      refine R_do (Base.Le.refl _) rfl rfl (u_alloc [.pointer none] zero69 rfl) ?_ ?_
      ·
        rintro _ _ ⟨g2419, rfl, rfl⟩
        refine ⟨.inr (.cons _ (.cons_cons _ (sub_skip hs2406 (sub_app hs2 (.refl _))))), ?_⟩
        refine D_all [13] (by kernel_rfl) rfl ?_
        refine R_callGl (Base.Le.refl _) rfl rfl _ call60 rfl (cSlicesClone_2 _ _ l21 A8 c9 h2383 l2410 hcl2411) ?_ ?_
        ·
          rintro _ b2412 _ hle2413 ⟨A2414, c2415, hs2416, rfl, rfl, h2417⟩
          refine ⟨.inr (sub_skip hs2416 (.cons _ (.cons_cons _ (sub_skip hs2406 (sub_app hs2 (.refl _)))))), ?_⟩
          refine d_in1 [] [_, _] hs2416 (hs2406 ++ (hs2 ++ R)) rfl ?_
          refine D_all [14] (by kernel_rfl) rfl ?_
          refine R_do hle2413 rfl rfl (Stable.does (st_build (v := .agg #[.slice A2404 (l2402).length c2405, .slice A16 (l19).length c17, .slice A2414 (l2410).length c2415]) [(0, .slice A2404 (l2402).length c2405), (1, .slice A16 (l19).length c17), (2, .slice A2414 (l2410).length c2415)] rfl (fun _ => by kernel_rfl))) ?_ ?_
          ·
            rintro _ _ ⟨rfl, rfl⟩
            refine ⟨.inr (.cons _ (.cons_cons _ (sub_skip hs2416 (sub_skip hs2406 (sub_app hs2 (.refl _)))))), ?_⟩
            refine D_all [15] (by kernel_rfl) rfl ?_
            refine R_do hle2413 rfl rfl (u_box _ rfl rfl) ?_ ?_
            ·
              rintro _ _ ⟨g2418, rfl, rfl⟩
              refine ⟨.inr (.cons _ (.cons _ (.cons_cons _ (sub_skip hs2416 (sub_skip hs2406 (sub_app hs2 (.refl _))))))), ?_⟩
              refine D_all [17] (by kernel_rfl) rfl ?_
              refine R_do hle2413 rfl rfl (u_store 1 rfl rfl siz69 rfl rfl (by simp)) ?_ ?_
              ·
                rintro _ _ rfl
                refine ⟨.inl (by kernel_rfl), ?_⟩
                refine D_done (by kernel_rfl) ?_
                obtain ⟨rfl, rfl, rfl⟩ := some3 hm
                refine x_pullb 2 rfl ?_
                refine x_pullb 2 rfl ?_
                refine x_front2 [_, _, _] hs2416 hs2406 (hs2 ++ R) rfl ?_
                refine x_front3 [_, _, _] hs2406 hs2416 hs2 R rfl ?_
                exact x_join (e' := [(1, .slice A12 (l15).length c13), (6, .pointer (some ⟨g2419, 0, none⟩))]) (hp' := (g2419, Cl 69 [.pointer (some ⟨g2418, 0, none⟩)]) :: (g11, Cl 73 [.slice A3 (l20).length c4, .slice A16 (l19).length c17, .slice A8 (l21).length c9]) :: (g2418, Cl 73 [.slice A2404 (l2402).length c2405, .slice A16 (l19).length c17, .slice A2414 (l2410).length c2415]) :: (hs2 ++ (hs2406 ++ (hs2416 ++ R)))) ⟨rfl, rfl, trivial⟩ (.cons_cons _ (.cons_cons _ (.cons_cons _ (sub_app hs2 (sub_app hs2406 (sub_app hs2416 (.refl _))))))) ⟨g2419, g2418, A8, c9, A2404, c2405, hs2406, A2414, c2415, hs2416, rfl, rfl, (hle2381.trans hle2413), (h2383.le hle2413), (h2408.le hle2413), h2417⟩
              exact R_nil
            exact R_nil
          exact R_nil
        exact R_nil
      exact R_nil
    refine R_do (Base.Le.refl _) rfl rfl (u_alloc [.pointer none] zero69 rfl) ?_ ?_
    ·
      rintro _ _ ⟨g2419, rfl, rfl⟩
      refine ⟨.inr (.cons _ (.cons_cons _ (sub_app hs2 (.refl _)))), ?_⟩
      refine D_all [4] (by kernel_rfl) rfl ?_
      refine R_do (Base.Le.refl _) rfl rfl (u_callWF [_, _] (hs2 ++ R) _ rfl call12 rfl (fun w ho => cSlicesClone _ [] l20 A3 c4 (OS.now (o := (OT.fr (RT.int .i64))) (l := l20) (hs := hs2) (h5.le hle2381) ho (.cons _ (.cons _ (List.sublist_append_left _ _)))) l2402 hcl2403)) ?_ ?_
      ·
        rintro _ _ ⟨_, _, rfl, A2404, c2405, hs2406, rfl, hq2409, h2407⟩
        obtain rfl := List.append_cancel_right hq2409
        have h2408 := flat_fz (w' := b2380.w) (fun _ _ _ _ h => h) h2407
        refine ⟨.inr (.cons _ (.cons_cons _ (sub_skip hs2406 (sub_app hs2 (.refl _))))), ?_⟩
        refine D_all [13] (by kernel_rfl) rfl ?_
        refine R_callGl (Base.Le.refl _) rfl rfl _ call60 rfl (cSlicesClone_2 _ _ l21 A8 c9 h2383 l2410 hcl2411) ?_ ?_
        ·
          rintro _ b2412 _ hle2413 ⟨A2414, c2415, hs2416, rfl, rfl, h2417⟩
          refine ⟨.inr (sub_skip hs2416 (.cons _ (.cons_cons _ (sub_skip hs2406 (sub_app hs2 (.refl _)))))), ?_⟩
          refine d_in1 [] [_, _] hs2416 (hs2406 ++ (hs2 ++ R)) rfl ?_
          refine D_all [14] (by kernel_rfl) rfl ?_
          refine R_do hle2413 rfl rfl (Stable.does (st_build (v := .agg #[.slice A2404 (l2402).length c2405, .slice A16 (l19).length c17, .slice A2414 (l2410).length c2415]) [(0, .slice A2404 (l2402).length c2405), (1, .slice A16 (l19).length c17), (2, .slice A2414 (l2410).length c2415)] rfl (fun _ => by kernel_rfl))) ?_ ?_
          ·
            rintro _ _ ⟨rfl, rfl⟩
            refine ⟨.inr (.cons _ (.cons_cons _ (sub_skip hs2416 (sub_skip hs2406 (sub_app hs2 (.refl _)))))), ?_⟩
            refine D_all [15] (by kernel_rfl) rfl ?_
            refine R_do hle2413 rfl rfl (u_box _ rfl rfl) ?_ ?_
            ·
              rintro _ _ ⟨g2418, rfl, rfl⟩
              refine ⟨.inr (.cons _ (.cons _ (.cons_cons _ (sub_skip hs2416 (sub_skip hs2406 (sub_app hs2 (.refl _))))))), ?_⟩
              refine D_all [17] (by kernel_rfl) rfl ?_
              refine R_do hle2413 rfl rfl (u_store 1 rfl rfl siz69 rfl rfl (by simp)) ?_ ?_
              ·
                rintro _ _ rfl
                refine ⟨.inl (by kernel_rfl), ?_⟩
                refine D_done (by kernel_rfl) ?_
                obtain ⟨rfl, rfl, rfl⟩ := some3 hm
                refine x_pullb 2 rfl ?_
                refine x_pullb 2 rfl ?_
                refine x_front2 [_, _, _] hs2416 hs2406 (hs2 ++ R) rfl ?_
                refine x_front3 [_, _, _] hs2406 hs2416 hs2 R rfl ?_
                exact x_join (e' := [(1, .slice A12 (l15).length c13), (6, .pointer (some ⟨g2419, 0, none⟩))]) (hp' := (g2419, Cl 69 [.pointer (some ⟨g2418, 0, none⟩)]) :: (g11, Cl 73 [.slice A3 (l20).length c4, .slice A16 (l19).length c17, .slice A8 (l21).length c9]) :: (g2418, Cl 73 [.slice A2404 (l2402).length c2405, .slice A16 (l19).length c17, .slice A2414 (l2410).length c2415]) :: (hs2 ++ (hs2406 ++ (hs2416 ++ R)))) ⟨rfl, rfl, trivial⟩ (.cons_cons _ (.cons_cons _ (.cons_cons _ (sub_app hs2 (sub_app hs2406 (sub_app hs2416 (.refl _))))))) ⟨g2419, g2418, A8, c9, A2404, c2405, hs2406, A2414, c2415, hs2416, rfl, rfl, (hle2381.trans hle2413), (h2383.le hle2413), (h2408.le hle2413), h2417⟩
              exact R_nil
            exact R_nil
          exact R_nil
        exact R_nil
      exact R_nil
    exact R_nil
  ·
    rintro b2351 _ _ ⟨g2363, g2364, A2365, c2366, A2355, c2356, hs2354, A2360, c2361, hs2359, rfl, rfl, hle2352, h2367, h2357, h2362⟩
    have hm := (unc3E hk2371)
    refine c_seq ?_
    refine c_seq ?_
    refine c_region ?_
    refine t_st rfl (st_move rfl) ?_
    refine t_st rfl (st_len rfl sl23) ?_
    refine t_st rfl (st_move rfl) ?_
    refine t_nil ?_
    refine x_then_normal ?_
    refine c_block ?_
    have hb2421 := (FZ.bd (h14.le hle2352))
    refine c_pullb 2 rfl ?_
    refine c_pullb 2 rfl ?_
    refine c_pullb 2 rfl ?_
    refine c_front3 [_, _, _] hs2 hs2354 hs2359 R rfl ?_
    refine c_front3 [_, _, _] hs2359 hs2 hs2354 R rfl ?_
    refine c_front3 [_, _, _] hs2354 hs2359 hs2 R rfl ?_
    obtain ⟨l2705, hl2707, hk2708⟩ := bindS hm
    refine c_forS (fun k2706 => fun l2705 => fun b2698 e' hp' => ∃ (A2702 : Option Addr), ∃ (c2703 : Nat), ∃ (hs2701 : Hp), [(1, .slice A12 (l15).length c13), (6, .pointer (some ⟨g2363, 0, none⟩)), (36, .slice A12 (l15).length c13), (37, .int .i64 ((l15.length : Int))), (38, .int .i64 ((k2706 : Int)))] = e' ∧ (g2363, Cl 69 [.pointer (some ⟨g2364, 0, none⟩)]) :: (g11, Cl 73 [.slice A3 (l20).length c4, .slice A16 (l19).length c17, .slice A2365 (l2368).length c2366]) :: (g2364, Cl 73 [.slice A2355 (l2369).length c2356, .slice A16 (l19).length c17, .slice A2702 (l2705).length c2703]) :: (hs2 ++ (hs2354 ++ (hs2701 ++ R))) = hp' ∧ b2351.Le b2698 ∧ OS 23 (OT.fr (RT.list rMendArc)) b2698.w (.slice A2702 l2705.length c2703) l2705 hs2701) hl2707 (e' := [(1, .slice A12 (l15).length c13), (6, .pointer (some ⟨g2363, 0, none⟩)), (36, .slice A12 (l15).length c13), (37, .int .i64 ((l15.length : Int))), (38, .int .i64 0)]) (hp' := (g2363, Cl 69 [.pointer (some ⟨g2364, 0, none⟩)]) :: (g11, Cl 73 [.slice A3 (l20).length c4, .slice A16 (l19).length c17, .slice A2365 (l2368).length c2366]) :: (g2364, Cl 73 [.slice A2355 (l2369).length c2356, .slice A16 (l19).length c17, .slice A2360 (l2370).length c2361]) :: (hs2 ++ (hs2354 ++ (hs2359 ++ R)))) ⟨rfl, rfl, rfl, rfl, rfl, trivial⟩ (.cons_cons _ (.cons_cons _ (.cons_cons _ (sub_app hs2 (sub_app hs2354 (sub_app hs2359 (.refl _))))))) ⟨A2360, c2361, hs2359, rfl, rfl, (Base.Le.refl _), h2362⟩ ?_ ?_
    ·
      rintro k2706 l2705 b2698 _ _ oL2420 hknL2420 ⟨A2702, c2703, hs2701, rfl, rfl, hle2699, h2704⟩ hstepL2420
      unfold mMendSolverWith_L2420 at hstepL2420
      have hm := hstepL2420
      refine c_seq ?_
      refine c_region ?_
      refine t_st rfl (st_lss_t rfl rfl (by omega)) ?_
      refine t_nil ?_
      refine x_then_normal ?_
      refine c_seq ?_
      refine c_cond_t rfl ?_
      refine c_skip ?_
      refine x_then_normal ?_
      refine c_seq ?_
      refine c_block ?_
      refine c_seq ?_
      refine c_region ?_
      obtain ⟨x2709, h2710, hm⟩ := bindS hm
      obtain ⟨j2711, hj2712, hx2713⟩ := idx_some h2710
      obtain ⟨cs2714, hr2715, hcs2716, hA2717, hlt2718⟩ := FZ.get (sz := 3) rfl (by decide) (h14.le (hle2352.trans hle2699)) hx2713
      obtain ⟨_, _, rfl, rfl, ⟨_, _, rfl, rfl, rfl⟩⟩ := hr2715
      refine t_st rfl (st_index_old j2711 rfl rfl hj2712 hlt2718 hA2717 sl23) ?_
      refine t_st rfl (st_loadN_old (vs := [.int .i64 (x2709.From), .int .i64 (x2709.To), .int .i64 (x2709.Len)]) 3 rfl agg34 hA2717 rfl (fun j u hu => hcs2716 j u hu)) ?_
      refine t_do rfl (u_alloc [.int .i64 0, .int .i64 0, .int .i64 0] zero34 rfl) ?_
      rintro _ _ ⟨g2719, rfl, rfl⟩
      refine t_do rfl (u_storeN (vs := [_, _, _]) 0 3 rfl rfl rfl siz34 rfl (by intro u hu; simp only [List.mem_cons, List.not_mem_nil, or_false] at hu; rcases hu with rfl | rfl | rfl <;> rfl) rfl (by simp)) ?_
      rintro _ _ rfl
      refine t_nil ?_
      refine x_then_normal ?_
      obtain ⟨x2782, h2783, hm⟩ := bindS hm
      obtain ⟨l2801, hcl2802, hm⟩ := bindS hm
      obtain ⟨_, h2810, hm⟩ := bindS hm
      obtain ⟨x2815, h2816, hm⟩ := bindS hm
      refine c_front3 [_, _, _, _] hs2 hs2354 hs2701 R rfl ?_
      refine D_drawS ((g2719, Cl 34 [.int .i64 (x2709.From), .int .i64 (x2709.To), .int .i64 (x2709.Len)]) :: (g2363, Cl 69 [.pointer (some ⟨g2364, 0, none⟩)]) :: (g11, Cl 73 [.slice A3 (l20).length c4, .slice A16 (l19).length c17, .slice A2365 (l2368).length c2366]) :: (g2364, Cl 73 [.slice A2355 (l2369).length c2356, .slice A16 (l19).length c17, .slice A2702 (l2705).length c2703]) :: (hs2701 ++ (hs2 ++ (hs2354 ++ R)))) mixed ?_
      refine D_st (Base.Le.refl _) 0 rfl (by kernel_rfl) (by kernel_rfl) (by kernel_rfl) rfl (st_load 1 rfl one69 rfl rfl) (.cons_cons _ (.cons_cons _ (.cons_cons _ (.cons_cons _ (sub_app hs2701 (sub_app hs2 (sub_app hs2354 (.refl _)))))))) ?_
      refine D_st (Base.Le.refl _) 1 rfl (by kernel_rfl) (by kernel_rfl) (by kernel_rfl) rfl (st_nil rfl) (.cons_cons _ (.cons_cons _ (.cons_cons _ (.cons_cons _ (sub_app hs2701 (sub_app hs2 (sub_app hs2354 (.refl _)))))))) ?_
      refine D_st (Base.Le.refl _) 2 rfl (by kernel_rfl) (by kernel_rfl) (by kernel_rfl) rfl (st_field rfl fld73_2) (.cons_cons _ (.cons_cons _ (.cons_cons _ (.cons_cons _ (sub_app hs2701 (sub_app hs2 (sub_app hs2354 (.refl _)))))))) ?_
      refine D_st (Base.Le.refl _) 3 rfl (by kernel_rfl) (by kernel_rfl) (by kernel_rfl) rfl (st_load 3 rfl one35 rfl rfl) (.cons_cons _ (.cons_cons _ (.cons_cons _ (.cons_cons _ (sub_app hs2701 (sub_app hs2 (sub_app hs2354 (.refl _)))))))) ?_
      refine D_st (Base.Le.refl _) 4 rfl (by kernel_rfl) (by kernel_rfl) (by kernel_rfl) rfl (st_field rfl fld34_0) (.cons_cons _ (.cons_cons _ (.cons_cons _ (.cons_cons _ (sub_app hs2701 (sub_app hs2 (sub_app hs2354 (.refl _)))))))) ?_
      refine D_st (Base.Le.refl _) 5 rfl (by kernel_rfl) (by kernel_rfl) (by kernel_rfl) rfl (st_load 0 rfl one3 rfl rfl) (.cons_cons _ (.cons_cons _ (.cons_cons _ (.cons_cons _ (sub_app hs2701 (sub_app hs2 (sub_app hs2354 (.refl _)))))))) ?_
      refine D_st (Base.Le.refl _) 6 rfl (by kernel_rfl) (by kernel_rfl) (by kernel_rfl) rfl (st_load 1 rfl one69 rfl rfl) (.cons_cons _ (.cons_cons _ (.cons_cons _ (.cons_cons _ (sub_app hs2701 (sub_app hs2 (sub_app hs2354 (.refl _)))))))) ?_
      refine D_st (Base.Le.refl _) 7 rfl (by kernel_rfl) (by kernel_rfl) (by kernel_rfl) rfl (st_nil rfl) (.cons_cons _ (.cons_cons _ (.cons_cons _ (.cons_cons _ (sub_app hs2701 (sub_app hs2 (sub_app hs2354 (.refl _)))))))) ?_
      refine D_st (Base.Le.refl _) 8 rfl (by kernel_rfl) (by kernel_rfl) (by kernel_rfl) rfl (st_field rfl fld73_2) (.cons_cons _ (.cons_cons _ (.cons_cons _ (.cons_cons _ (sub_app hs2701 (sub_app hs2 (sub_app hs2354 (.refl _)))))))) ?_
      refine D_st (Base.Le.refl _) 9 rfl (by kernel_rfl) (by kernel_rfl) (by kernel_rfl) rfl (st_load 3 rfl one35 rfl rfl) (.cons_cons _ (.cons_cons _ (.cons_cons _ (.cons_cons _ (sub_app hs2701 (sub_app hs2 (sub_app hs2354 (.refl _)))))))) ?_
      refine D_st (Base.Le.refl _) 10 rfl (by kernel_rfl) (by kernel_rfl) (by kernel_rfl) rfl (st_field rfl fld34_0) (.cons_cons _ (.cons_cons _ (.cons_cons _ (.cons_cons _ (sub_app hs2701 (sub_app hs2 (sub_app hs2354 (.refl _)))))))) ?_
      refine D_st (Base.Le.refl _) 11 rfl (by kernel_rfl) (by kernel_rfl) (by kernel_rfl) rfl (st_load 0 rfl one3 rfl rfl) (.cons_cons _ (.cons_cons _ (.cons_cons _ (.cons_cons _ (sub_app hs2701 (sub_app hs2 (sub_app hs2354 (.refl _)))))))) ?_
      obtain ⟨j2784, hj2785, hx2786⟩ := idx_some h2783
      obtain ⟨cs2787, hs2792, P2793, P2794, hq2795, hr2788, hcs2789, hA2790, hlt2791, hb2796, hho2797⟩ := OS.get (sz := 1) rfl (by decide) h2704 hx2786
      obtain ⟨⟨A2798, c2799, rfl, h2800⟩, rfl⟩ := hr2788
      refine D_st (Base.Le.refl _) 12 rfl (by kernel_rfl) (by kernel_rfl) (by kernel_rfl) rfl (st_index_old j2784 rfl rfl hj2785 hlt2791 hA2790 sl35) (.cons_cons _ (.cons_cons _ (.cons_cons _ (.cons_cons _ (sub_app hs2701 (sub_app hs2 (sub_app hs2354 (.refl _)))))))) ?_
      refine D_st (Base.Le.refl _) 13 rfl (by kernel_rfl) (by kernel_rfl) (by kernel_rfl) rfl (st_load_rd rfl one23 (fun w ho => hcs2789 w _ ho (.cons _ (.cons _ (.cons _ (.cons _ (List.sublist_append_left _ _))))) 0 _ rfl)) (.cons_cons _ (.cons_cons _ (.cons_cons _ (.cons_cons _ (sub_app hs2701 (sub_app hs2 (sub_app hs2354 (.refl _)))))))) ?_
      refine D_st (Base.Le.refl _) 15 rfl (by kernel_rfl) (by kernel_rfl) (by kernel_rfl) rfl (st_loadD (vs := [_, _, _]) 0 3 rfl agg34 rfl rfl rfl) (.cons_cons _ (.cons_cons _ (.cons_cons _ (.cons_cons _ (sub_app hs2701 (sub_app hs2 (sub_app hs2354 (.refl _)))))))) ?_
      refine D_all [14, 16] (by kernel_rfl) rfl ?_
      refine R_callGl (Base.Le.refl _) rfl rfl _ call11 rfl (cSlicesClone_3 _ _ x2782 A2798 c2799 h2800 l2801 hcl2802) ?_ ?_
      ·
        rintro _ b2803 _ hle2804 ⟨A2805, c2806, hs2807, rfl, rfl, h2808⟩
        refine ⟨.inr (sub_skip hs2807 (.cons_cons _ (.cons_cons _ (.cons_cons _ (.cons_cons _ (sub_app hs2701 (sub_app hs2 (sub_app hs2354 (.refl _))))))))), ?_⟩
        refine d_in1 [] [_, _, _, _] hs2807 (hs2701 ++ (hs2 ++ (hs2354 ++ R))) rfl ?_
        refine D_all [16] (by kernel_rfl) rfl ?_
        refine R_do hle2804 rfl rfl (u_bslice (el := 34) [(0, .agg #[.int .i64 (x2709.From), .int .i64 (x2709.To), .int .i64 (x2709.Len)])] [.int .i64 (x2709.From), .int .i64 (x2709.To), .int .i64 (x2709.Len)] rfl (fun _ => by kernel_rfl)) ?_ ?_
        ·
          rintro _ _ ⟨g2809, rfl, rfl⟩
          refine ⟨.inr (.cons _ (.cons_cons _ (.cons_cons _ (.cons_cons _ (.cons_cons _ (sub_skip hs2807 (sub_app hs2701 (sub_app hs2 (sub_app hs2354 (.refl _)))))))))), ?_⟩
          have h2810 := room_some h2810
          refine D_all [17] (by kernel_rfl) rfl ?_
          refine R_do hle2804 rfl rfl (u_appOS (r := rMendArc) (l := l2801) [_, _, _, _, _] (hs2701 ++ (hs2 ++ (hs2354 ++ R))) [[.int .i64 (x2709.From), .int .i64 (x2709.To), .int .i64 (x2709.Len)]] [x2709] rfl (by decide) sl23 inf34 rfl rfl rfl rfl h2808 rfl (fun w ho => Rd.own (i := 0) ho rfl) ⟨⟨[.int .i64 (x2709.From)], _, rfl, rfl, ⟨[.int .i64 (x2709.To)], _, rfl, rfl, rfl⟩⟩, trivial⟩ h2810) ?_ ?_
          ·
            rintro _ _ ⟨hs2811, rfl, h2812⟩
            obtain ⟨A2813, c2814, rfl, _⟩ := h2812.form
            refine ⟨.inr (.cons _ (.cons_cons _ (.cons_cons _ (.cons_cons _ (.cons_cons _ (sub_skip hs2811 (sub_app hs2701 (sub_app hs2 (sub_app hs2354 (.refl _)))))))))), ?_⟩
            obtain ⟨j2817, hj2818, hx2819⟩ := idx_some h2816
            obtain ⟨cs2820, hs2825, P2826, P2827, hq2828, hr2821, hcs2822, hA2823, hlt2824, hb2829, hho2830⟩ := OS.get (sz := 1) rfl (by decide) h2704 hx2819
            obtain ⟨⟨A2831, c2832, rfl, h2833⟩, rfl⟩ := hr2821
            refine D_st hle2804 18 rfl (by kernel_rfl) (by kernel_rfl) (by kernel_rfl) rfl (st_index_old j2817 rfl rfl hj2818 hlt2824 hA2823 sl35) (.cons _ (.cons_cons _ (.cons_cons _ (.cons_cons _ (.cons_cons _ (sub_skip hs2811 (sub_app hs2701 (sub_app hs2 (sub_app hs2354 (.refl _)))))))))) ?_
            have hnz2836 : (A2813 = none ↔ l2801 ++ [x2709] = []) := (OS.nz h2812 (by simp))
            refine d_frz [_, _, _, _, _] hs2811 (hs2701 ++ (hs2 ++ (hs2354 ++ R))) rfl ?_
            intro b2837 hle2838 hz2839
            have h2840 := OS.frz (l := l2801 ++ [x2709]) h2812 hle2838.cells hz2839
            refine D_all [19] (by kernel_rfl) rfl ?_
            refine R_do (hle2804.trans hle2838) rfl rfl (u_putOS hj2818 (sz := 1) (a' := l2801 ++ [x2709]) rfl [_, _, _, _, _] (hs2 ++ (hs2354 ++ R)) 0 1 [.slice A2813 (l2801 ++ [x2709]).length c2814] rfl (h2704.le (hle2804.trans hle2838)) hx2819 rfl rfl rfl siz23 rfl (by intro u hu; simp only [List.mem_cons, List.not_mem_nil, or_false] at hu; subst hu; rfl) (fun cs hsj hh => by obtain ⟨⟨A2841, c2842, rfl, h2843⟩, rfl⟩ := hh; exact ⟨by decide, (RT.list_mk h2840), rfl⟩)) ?_ ?_
            ·
              rintro _ _ ⟨hs2834, rfl, h2835⟩
              refine ⟨.inl (by kernel_rfl), ?_⟩
              refine d_hresp 4 rfl (o' := Cl 73 [.slice A2355 (l2369).length c2356, .slice A16 (l19).length c17, .slice A2702 (put l2705 x2709.From (l2801 ++ [x2709])).length c2703]) (by simp only [put_length]) ?_
              refine D_done (by kernel_rfl) ?_
              refine x_block_normal ?_
              refine x_then_normal ?_
              refine c_region ?_
              refine t_st rfl (st_add rfl rfl (by omega)) ?_
              refine t_st rfl (st_move rfl) ?_
              refine t_nil ?_
              refine x_pullb 4 rfl ?_
              refine x_pullb 4 rfl ?_
              refine x_pullb 4 rfl ?_
              refine x_front3 [_, _, _, _, _] hs2834 hs2 hs2354 R rfl ?_
              refine x_front3 [_, _, _, _, _] hs2354 hs2834 hs2 R rfl ?_
              obtain rfl := some1 hm
              exact x_againS (e' := [(1, .slice A12 (l15).length c13), (6, .pointer (some ⟨g2363, 0, none⟩)), (36, .slice A12 (l15).length c13), (37, .int .i64 ((l15.length : Int))), (38, .int .i64 ((k2706 : Int) + 1))]) (hp' := (g2363, Cl 69 [.pointer (some ⟨g2364, 0, none⟩)]) :: (g11, Cl 73 [.slice A3 (l20).length c4, .slice A16 (l19).length c17, .slice A2365 (l2368).length c2366]) :: (g2364, Cl 73 [.slice A2355 (l2369).length c2356, .slice A16 (l19).length c17, .slice A2702 (put l2705 x2709.From (l2801 ++ [x2709])).length c2703]) :: (hs2 ++ (hs2354 ++ (hs2834 ++ R)))) ⟨rfl, rfl, rfl, rfl, rfl, trivial⟩ (.cons_cons _ (.cons_cons _ (.cons_cons _ (.cons _ (.cons _ (sub_app hs2 (sub_app hs2354 (sub_app hs2834 (.refl _))))))))) ⟨A2702, c2703, hs2834, rfl, rfl, ((hle2699.trans (hle2804.trans hle2838))), h2835⟩
            exact R_nil
          exact R_nil
        exact R_nil
      refine R_do (Base.Le.refl _) rfl rfl (u_bslice (el := 34) [(0, .agg #[.int .i64 (x2709.From), .int .i64 (x2709.To), .int .i64 (x2709.Len)])] [.int .i64 (x2709.From), .int .i64 (x2709.To), .int .i64 (x2709.Len)] rfl (fun _ => by kernel_rfl)) ?_ ?_
      ·
        rintro _ _ ⟨g2809, rfl, rfl⟩
        refine ⟨.inr (.cons _ (.cons_cons _ (.cons_cons _ (.cons_cons _ (.cons_cons _ (sub_app hs2701 (sub_app hs2 (sub_app hs2354 (.refl _))))))))), ?_⟩
        refine D_all [14] (by kernel_rfl) rfl ?_
        refine R_callGl (Base.Le.refl _) rfl rfl _ call11 rfl (cSlicesClone_3 _ _ x2782 A2798 c2799 h2800 l2801 hcl2802) ?_ ?_
        ·
          rintro _ b2803 _ hle2804 ⟨A2805, c2806, hs2807, rfl, rfl, h2808⟩
          refine ⟨.inr (sub_skip hs2807 (.cons _ (.cons_cons _ (.cons_cons _ (.cons_cons _ (.cons_cons _ (sub_app hs2701 (sub_app hs2 (sub_app hs2354 (.refl _)))))))))), ?_⟩
          refine d_in1 [] [_, _, _, _, _] hs2807 (hs2701 ++ (hs2 ++ (hs2354 ++ R))) rfl ?_
          have h2810 := room_some h2810
          refine D_all [17] (by kernel_rfl) rfl ?_
          refine R_do hle2804 rfl rfl (u_appOS (r := rMendArc) (l := l2801) [_, _, _, _, _] (hs2701 ++ (hs2 ++ (hs2354 ++ R))) [[.int .i64 (x2709.From), .int .i64 (x2709.To), .int .i64 (x2709.Len)]] [x2709] rfl (by decide) sl23 inf34 rfl rfl rfl rfl h2808 rfl (fun w ho => Rd.own (i := 0) ho rfl) ⟨⟨[.int .i64 (x2709.From)], _, rfl, rfl, ⟨[.int .i64 (x2709.To)], _, rfl, rfl, rfl⟩⟩, trivial⟩ h2810) ?_ ?_
          ·
            rintro _ _ ⟨hs2811, rfl, h2812⟩
            obtain ⟨A2813, c2814, rfl, _⟩ := h2812.form
            refine ⟨.inr (.cons _ (.cons_cons _ (.cons_cons _ (.cons_cons _ (.cons_cons _ (sub_skip hs2811 (sub_app hs2701 (sub_app hs2 (sub_app hs2354 (.refl _)))))))))), ?_⟩
            obtain ⟨j2817, hj2818, hx2819⟩ := idx_some h2816
            obtain ⟨cs2820, hs2825, P2826, P2827, hq2828, hr2821, hcs2822, hA2823, hlt2824, hb2829, hho2830⟩ := OS.get (sz := 1) rfl (by decide) h2704 hx2819
            obtain ⟨⟨A2831, c2832, rfl, h2833⟩, rfl⟩ := hr2821
            refine D_st hle2804 18 rfl (by kernel_rfl) (by kernel_rfl) (by kernel_rfl) rfl (st_index_old j2817 rfl rfl hj2818 hlt2824 hA2823 sl35) (.cons _ (.cons_cons _ (.cons_cons _ (.cons_cons _ (.cons_cons _ (sub_skip hs2811 (sub_app hs2701 (sub_app hs2 (sub_app hs2354 (.refl _)))))))))) ?_
            have hnz2836 : (A2813 = none ↔ l2801 ++ [x2709] = []) := (OS.nz h2812 (by simp))
            refine d_frz [_, _, _, _, _] hs2811 (hs2701 ++ (hs2 ++ (hs2354 ++ R))) rfl ?_
            intro b2837 hle2838 hz2839
            have h2840 := OS.frz (l := l2801 ++ [x2709]) h2812 hle2838.cells hz2839
            refine D_all [19] (by kernel_rfl) rfl ?_
            refine R_do (hle2804.trans hle2838) rfl rfl (u_putOS hj2818 (sz := 1) (a' := l2801 ++ [x2709]) rfl [_, _, _, _, _] (hs2 ++ (hs2354 ++ R)) 0 1 [.slice A2813 (l2801 ++ [x2709]).length c2814] rfl (h2704.le (hle2804.trans hle2838)) hx2819 rfl rfl rfl siz23 rfl (by intro u hu; simp only [List.mem_cons, List.not_mem_nil, or_false] at hu; subst hu; rfl) (fun cs hsj hh => by obtain ⟨⟨A2841, c2842, rfl, h2843⟩, rfl⟩ := hh; exact ⟨by decide, (RT.list_mk h2840), rfl⟩)) ?_ ?_
            ·
              rintro _ _ ⟨hs2834, rfl, h2835⟩
              refine ⟨.inl (by kernel_rfl), ?_⟩
              refine d_hresp 4 rfl (o' := Cl 73 [.slice A2355 (l2369).length c2356, .slice A16 (l19).length c17, .slice A2702 (put l2705 x2709.From (l2801 ++ [x2709])).length c2703]) (by simp only [put_length]) ?_
              refine D_done (by kernel_rfl) ?_
              refine x_block_normal ?_
              refine x_then_normal ?_
              refine c_region ?_
              refine t_st rfl (st_add rfl rfl (by omega)) ?_
              refine t_st rfl (st_move rfl) ?_
              refine t_nil ?_
              refine x_pullb 4 rfl ?_
              refine x_pullb 4 rfl ?_
              refine x_pullb 4 rfl ?_
              refine x_front3 [_, _, _, _, _] hs2834 hs2 hs2354 R rfl ?_
              refine x_front3 [_, _, _, _, _] hs2354 hs2834 hs2 R rfl ?_
              obtain rfl := some1 hm
              exact x_againS (e' := [(1, .slice A12 (l15).length c13), (6, .pointer (some ⟨g2363, 0, none⟩)), (36, .slice A12 (l15).length c13), (37, .int .i64 ((l15.length : Int))), (38, .int .i64 ((k2706 : Int) + 1))]) (hp' := (g2363, Cl 69 [.pointer (some ⟨g2364, 0, none⟩)]) :: (g11, Cl 73 [.slice A3 (l20).length c4, .slice A16 (l19).length c17, .slice A2365 (l2368).length c2366]) :: (g2364, Cl 73 [.slice A2355 (l2369).length c2356, .slice A16 (l19).length c17, .slice A2702 (put l2705 x2709.From (l2801 ++ [x2709])).length c2703]) :: (hs2 ++ (hs2354 ++ (hs2834 ++ R)))) ⟨rfl, rfl, rfl, rfl, rfl, trivial⟩ (.cons_cons _ (.cons_cons _ (.cons_cons _ (.cons _ (.cons _ (sub_app hs2 (sub_app hs2354 (sub_app hs2834 (.refl _))))))))) ⟨A2702, c2703, hs2834, rfl, rfl, ((hle2699.trans (hle2804.trans hle2838))), h2835⟩
            exact R_nil
          exact R_nil
        exact R_nil
      exact R_nil
    ·
      rintro b2698 _ _ ⟨A2702, c2703, hs2701, rfl, rfl, hle2699, h2704⟩
      have hm := hk2708
      refine c_seq ?_
      refine c_region ?_
      refine t_st rfl (st_lss_f rfl rfl (by omega)) ?_
      refine t_nil ?_
      refine x_then_normal ?_
      refine c_seq ?_
      refine c_cond_f rfl ?_
      refine c_exit ?_
      refine x_then_exit ?_
      refine x_then_exit ?_
      refine x_block_out ?_
      refine x_then_normal ?_
      refine c_seq ?_
      refine c_region ?_
      refine t_st rfl (st_load 0 rfl one69 rfl rfl) ?_
      refine t_st rfl (st_nil rfl) ?_
      refine t_st rfl (st_field rfl fld73_0) ?_
      refine t_st rfl (st_load 2 rfl one22 rfl rfl) ?_
      refine t_st rfl (st_len rfl sl22) ?_
      obtain ⟨m2844, h2845, hm⟩ := bindS hm
      have h2845 := mkLen_some h2845
      refine t_do rfl (u_mkOS (r := RT.bool) [_, _, _] (hs2 ++ (hs2354 ++ (hs2701 ++ R))) [.bool (false)] false m2844 rfl h2845.1 rfl rfl sl88 inf4 rfl rfl rfl (by decide) rfl h2845.2.1 h2845.2.2) ?_
      rintro _ _ ⟨hs2846, rfl, h2847⟩
      obtain ⟨A2848, c2849, rfl, _⟩ := h2847.form
      refine t_do rfl (u_alloc [.slice none 0 0] zero88 rfl) ?_
      rintro _ _ ⟨g2850, rfl, rfl⟩
      refine t_do rfl (u_store 0 rfl rfl siz88 rfl rfl (by simp)) ?_
      rintro _ _ rfl
      refine t_nil ?_
      refine x_then_normal ?_
      refine c_seq ?_
      refine c_region ?_
      refine t_st rfl (st_load 1 rfl one69 rfl rfl) ?_
      refine t_st rfl (st_nil rfl) ?_
      refine t_st rfl (st_field rfl fld73_0) ?_
      refine t_st rfl (st_load 3 rfl one22 rfl rfl) ?_
      refine t_st rfl (st_len rfl sl22) ?_
      obtain ⟨m2851, h2852, hm⟩ := bindS hm
      have h2852 := mkLen_some h2852
      refine t_do rfl (u_mkOS (r := (RT.int .i64)) [_, _, _, _] (hs2846 ++ (hs2 ++ (hs2354 ++ (hs2701 ++ R)))) [.int .i64 (0)] 0 m2851 rfl h2852.1 rfl rfl sl22 inf3 rfl rfl rfl (by decide) rfl h2852.2.1 h2852.2.2) ?_
      rintro _ _ ⟨hs2853, rfl, h2854⟩
      obtain ⟨A2855, c2856, rfl, _⟩ := h2854.form
      refine t_do rfl (u_alloc [.slice none 0 0] zero22 rfl) ?_
      rintro _ _ ⟨g2857, rfl, rfl⟩
      refine t_do rfl (u_store 0 rfl rfl siz22 rfl rfl (by simp)) ?_
      rintro _ _ rfl
      refine t_nil ?_
      refine x_then_normal ?_
      refine c_seq ?_
      refine c_region ?_
      refine t_do rfl (u_alloc [.slice none 0 0] zero22 rfl) ?_
      rintro _ _ ⟨g2858, rfl, rfl⟩
      refine t_nil ?_
      refine x_then_normal ?_
      refine c_seq ?_
      refine c_region ?_
      refine t_do rfl (u_alloc [.bool false] zero4 rfl) ?_
      rintro _ _ ⟨g2859, rfl, rfl⟩
      refine t_do rfl (u_store 0 rfl rfl siz4 rfl rfl (by simp)) ?_
      rintro _ _ rfl
      refine t_nil ?_
      refine x_then_normal ?_
      refine c_seq ?_
      refine c_region ?_
      refine t_st rfl (st_func _ _ rfl rfl) ?_
      refine t_st rfl (st_assign rfl) ?_
      refine t_nil ?_
      refine x_then_normal ?_
      refine c_seq ?_
      refine c_seq ?_
      refine c_region ?_
      refine t_st rfl (st_move rfl) ?_
      refine t_st rfl (st_len rfl sl23) ?_
      refine t_st rfl (st_move rfl) ?_
      refine t_nil ?_
      refine x_then_normal ?_
      refine c_block ?_
      have hb2861 := (FZ.bd (h14.le (hle2352.trans hle2699)))
      refine c_pullb 6 rfl ?_
      refine c_pullb 6 rfl ?_
      refine c_pullb 4 rfl ?_
      refine c_pullb 3 rfl ?_
      refine c_pullb 4 rfl ?_
      refine c_pullb 5 rfl ?_
      refine c_pullb 6 rfl ?_
      refine c_front5 [_, _, _, _, _, _, _] hs2853 hs2846 hs2 hs2354 hs2701 R rfl ?_
      refine c_front5 [_, _, _, _, _, _, _] hs2701 hs2853 hs2846 hs2 hs2354 R rfl ?_
      refine c_front3 [_, _, _, _, _, _, _] hs2354 hs2701 hs2853 (hs2846 ++ (hs2 ++ R)) rfl ?_
      refine c_front4 [_, _, _, _, _, _, _] hs2853 hs2354 hs2701 hs2846 (hs2 ++ R) rfl ?_
      refine c_front5 [_, _, _, _, _, _, _] hs2846 hs2853 hs2354 hs2701 hs2 R rfl ?_
      obtain ⟨⟨x2970, l2971, l2973, l2975, l2977⟩, hl2979, hk2980⟩ := bindS hm
      refine c_forS (fun k2978 => unc5 fun x2970 l2971 l2973 l2975 l2977 => fun b2952 e' hp' => ∃ (hs2955 : Hp), ∃ (A2959 : Option Addr), ∃ (c2960 : Nat), ∃ (hs2958 : Hp), ∃ (hs2963 : Hp), ∃ (A2967 : Option Addr), ∃ (c2968 : Nat), ∃ (hs2966 : Hp), [(6, .pointer (some ⟨g2363, 0, none⟩)), (9, .pointer (some ⟨g2850, 0, none⟩)), (11, .pointer (some ⟨g2858, 0, none⟩)), (12, .pointer (some ⟨g2859, 0, none⟩)), (13, .func (.func 61) #[] #[.pointer (some ⟨g2363, 0, none⟩), .pointer (some ⟨g2857, 0, none⟩), .pointer (some ⟨g2859, 0, none⟩), .pointer (some ⟨g2850, 0, none⟩), .pointer (some ⟨g2858, 0, none⟩)]), (75, .slice A12 (l15).length c13), (76, .int .i64 ((l15.length : Int))), (77, .int .i64 ((k2978 : Int)))] = e' ∧ (g2363, Cl 69 [.pointer (some ⟨g2364, 0, none⟩)]) :: (g2850, Cl 88 [.slice A2848 (l2971).length c2849]) :: (g2858, Cl 22 [.slice A2959 (l2973).length c2960]) :: (g2859, Cl 4 [.bool (x2970)]) :: (g2857, Cl 22 [.slice A2855 (l2975).length c2856]) :: (g11, Cl 73 [.slice A3 (l20).length c4, .slice A16 (l19).length c17, .slice A2365 (l2368).length c2366]) :: (g2364, Cl 73 [.slice A2967 (l2977).length c2968, .slice A16 (l19).length c17, .slice A2702 (l2705).length c2703]) :: (hs2 ++ (hs2955 ++ (hs2958 ++ (hs2963 ++ (hs2966 ++ (hs2701 ++ R)))))) = hp' ∧ b2698.Le b2952 ∧ OS 4 (OT.fr RT.bool) b2952.w (.slice A2848 l2971.length c2849) l2971 hs2955 ∧ l2971.length = m2844 ∧ OS 3 (OT.fr (RT.int .i64)) b2952.w (.slice A2959 l2973.length c2960) l2973 hs2958 ∧ (A2959 = none ↔ l2973 = []) ∧ OS 3 (OT.fr (RT.int .i64)) b2952.w (.slice A2855 l2975.length c2856) l2975 hs2963 ∧ l2975.length = m2851 ∧ OS 3 (OT.fr (RT.int .i64)) b2952.w (.slice A2967 l2977.length c2968) l2977 hs2966) hl2979 (e' := [(6, .pointer (some ⟨g2363, 0, none⟩)), (9, .pointer (some ⟨g2850, 0, none⟩)), (11, .pointer (some ⟨g2858, 0, none⟩)), (12, .pointer (some ⟨g2859, 0, none⟩)), (13, .func (.func 61) #[] #[.pointer (some ⟨g2363, 0, none⟩), .pointer (some ⟨g2857, 0, none⟩), .pointer (some ⟨g2859, 0, none⟩), .pointer (some ⟨g2850, 0, none⟩), .pointer (some ⟨g2858, 0, none⟩)]), (75, .slice A12 (l15).length c13), (76, .int .i64 ((l15.length : Int))), (77, .int .i64 0)]) (hp' := (g2363, Cl 69 [.pointer (some ⟨g2364, 0, none⟩)]) :: (g2850, Cl 88 [.slice A2848 (List.replicate m2844 (false : Bool)).length c2849]) :: (g2858, Cl 22 [.slice none 0 0]) :: (g2859, Cl 4 [.bool (true)]) :: (g2857, Cl 22 [.slice A2855 (List.replicate m2851 (0 : Int)).length c2856]) :: (g11, Cl 73 [.slice A3 (l20).length c4, .slice A16 (l19).length c17, .slice A2365 (l2368).length c2366]) :: (g2364, Cl 73 [.slice A2355 (l2369).length c2356, .slice A16 (l19).length c17, .slice A2702 (l2705).length c2703]) :: (hs2 ++ (hs2846 ++ ([] ++ (hs2853 ++ (hs2354 ++ (hs2701 ++ R))))))) ⟨rfl, rfl, rfl, rfl, rfl, rfl, rfl, rfl, trivial⟩ (.cons_cons _ (.cons_cons _ (.cons_cons _ (.cons_cons _ (.cons_cons _ (.cons_cons _ (.cons_cons _ (sub_app hs2 (sub_app hs2846 (sub_app hs2853 (sub_app hs2354 (sub_app hs2701 (.refl _))))))))))))) ⟨hs2846, none, 0, [], hs2853, A2355, c2356, hs2354, rfl, rfl, (Base.Le.refl _), h2847, List.length_replicate, OS.nil, ⟨fun _ => rfl, fun _ => rfl⟩, h2854, List.length_replicate, (h2357.le hle2699)⟩ ?_ ?_
      ·
        rintro k2978 ⟨x2970, l2971, l2973, l2975, l2977⟩ b2952 _ _ oL2860 hknL2860 ⟨hs2955, A2959, c2960, hs2958, hs2963, A2967, c2968, hs2966, rfl, rfl, hle2953, h2956, hln2972, h2961, hnz2974, h2964, hln2976, h2969⟩ hstepL2860
        unfold mMendSolverWith_L2860 at hstepL2860
        have hm := (unc5E hstepL2860)
        refine c_seq ?_
        refine c_region ?_
        refine t_st rfl (st_lss_t rfl rfl (by omega)) ?_
        refine t_nil ?_
        refine x_then_normal ?_
        refine c_seq ?_
        refine c_cond_t rfl ?_
        refine c_skip ?_
        refine x_then_normal ?_
        refine c_seq ?_
        refine c_block ?_
        refine c_seq ?_
        refine c_region ?_
        obtain ⟨x2981, h2982, hm⟩ := bindS hm
        obtain ⟨j2983, hj2984, hx2985⟩ := idx_some h2982
        obtain ⟨cs2986, hr2987, hcs2988, hA2989, hlt2990⟩ := FZ.get (sz := 3) rfl (by decide) (h14.le (hle2352.trans (hle2699.trans hle2953))) hx2985
        obtain ⟨_, _, rfl, rfl, ⟨_, _, rfl, rfl, rfl⟩⟩ := hr2987
        refine t_st rfl (st_index_old j2983 rfl rfl hj2984 hlt2990 hA2989 sl23) ?_
        refine t_st rfl (st_loadN_old (vs := [.int .i64 (x2981.From), .int .i64 (x2981.To), .int .i64 (x2981.Len)]) 3 rfl agg34 hA2989 rfl (fun j u hu => hcs2988 j u hu)) ?_
        refine t_do rfl (u_alloc [.int .i64 0, .int .i64 0, .int .i64 0] zero34 rfl) ?_
        rintro _ _ ⟨g2991, rfl, rfl⟩
        refine t_do rfl (u_storeN (vs := [_, _, _]) 0 3 rfl rfl rfl siz34 rfl (by intro u hu; simp only [List.mem_cons, List.not_mem_nil, or_false] at hu; rcases hu with rfl | rfl | rfl <;> rfl) rfl (by simp)) ?_
        rintro _ _ rfl
        refine t_nil ?_
        refine x_then_normal ?_
        refine c_region ?_
        refine t_st rfl (st_move rfl) ?_
        refine t_st rfl (st_loadD (vs := [_, _, _]) 0 3 rfl agg34 rfl rfl rfl) ?_
        obtain ⟨⟨x2992, l2993, l2994, l2995, l2996⟩, hcl2997, hm⟩ := bindS hm
        have hm := (unc5E hm)
        refine t_pullb 7 rfl ?_
        refine t_pullb 4 rfl ?_
        refine t_pullb 4 rfl ?_
        refine t_pullb 5 rfl ?_
        refine t_pullb 6 rfl ?_
        refine t_pullb 6 rfl ?_
        refine t_front6 [_, _, _, _, _, _, _, _] hs2 hs2955 hs2958 hs2963 hs2966 hs2701 R rfl ?_
        refine t_front6 [_, _, _, _, _, _, _, _] hs2701 hs2 hs2955 hs2958 hs2963 hs2966 R rfl ?_
        refine t_front5 [_, _, _, _, _, _, _, _] hs2966 hs2701 hs2 hs2955 hs2958 (hs2963 ++ R) rfl ?_
        refine t_front5 [_, _, _, _, _, _, _, _] hs2958 hs2966 hs2701 hs2 hs2955 (hs2963 ++ R) rfl ?_
        refine t_front6 [_, _, _, _, _, _, _, _] hs2955 hs2958 hs2966 hs2701 hs2 hs2963 R rfl ?_
        refine t_out5 [_, _, _, _, _, _] [_, _] hs2963 hs2955 hs2958 hs2966 hs2701 (hs2 ++ R) rfl ?_
        refine t_callvG #[] #[.pointer (some ⟨g2363, 0, none⟩), .pointer (some ⟨g2857, 0, none⟩), .pointer (some ⟨g2859, 0, none⟩), .pointer (some ⟨g2850, 0, none⟩), .pointer (some ⟨g2858, 0, none⟩)] [.agg #[.int .i64 (x2981.From), .int .i64 (x2981.To), .int .i64 (x2981.Len)]] rfl rfl call61 rfl (cMendSolverWith_1 _ _ x2981 x2970 l19 l2975 l2971 l2973 l2977 l2705 g2363 g2857 g2859 g2850 g2858 g2364 A16 c17 A2855 c2856 hs2963 A2848 c2849 hs2955 A2959 c2960 hs2958 A2967 c2968 hs2966 A2702 c2703 hs2701 (h18.le (hle2352.trans (hle2699.trans hle2953))) h2964 h2956 h2961 hnz2974 h2969 (h2704.le hle2953) x2992 l2993 l2994 l2995 l2996 hcl2997) ?_
        rintro _ b2998 _ hle2999 ⟨hs3000, hs3001, A3002, c3003, hs3004, hs3005, rfl, rfl, h3006, h3007, h3008, h3009, h3010, h3011, h3012, h3013⟩
        refine t_in5 [_, _, _, _, _, _] [_, _] hs3000 hs3001 hs3004 hs3005 hs2701 (hs2 ++ R) rfl ?_
        refine t_hresp 1 rfl (o' := Cl 22 [.slice A2855 (l2993).length c2856]) (by simp only [h3007]) ?_
        refine t_hresp 3 rfl (o' := Cl 88 [.slice A2848 (l2994).length c2849]) (by simp only [h3009]) ?_
        refine t_hresp 5 rfl (o' := Cl 73 [.slice A2967 (l2996).length c2968, .slice A16 (l19).length c17, .slice A2702 (l2705).length c2703]) (by simp only [h3013]) ?_
        refine t_nil ?_
        refine x_block_normal ?_
        refine x_then_normal ?_
        refine c_region ?_
        refine t_st rfl (st_add rfl rfl (by omega)) ?_
        refine t_st rfl (st_move rfl) ?_
        refine t_nil ?_
        refine x_pullb 5 rfl ?_
        refine x_pullb 7 rfl ?_
        refine x_pullb 3 rfl ?_
        refine x_pullb 4 rfl ?_
        refine x_pullb 6 rfl ?_
        refine x_pullb 6 rfl ?_
        refine x_pullb 6 rfl ?_
        refine x_front5 [_, _, _, _, _, _, _, _] hs3000 hs3001 hs3004 hs3005 hs2701 (hs2 ++ R) rfl ?_
        refine x_front5 [_, _, _, _, _, _, _, _] hs2701 hs3000 hs3001 hs3004 hs3005 (hs2 ++ R) rfl ?_
        refine x_front3 [_, _, _, _, _, _, _, _] hs3005 hs2701 hs3000 (hs3001 ++ (hs3004 ++ (hs2 ++ R))) rfl ?_
        refine x_front5 [_, _, _, _, _, _, _, _] hs3000 hs3005 hs2701 hs3001 hs3004 (hs2 ++ R) rfl ?_
        refine x_front5 [_, _, _, _, _, _, _, _] hs3004 hs3000 hs3005 hs2701 hs3001 (hs2 ++ R) rfl ?_
        refine x_front6 [_, _, _, _, _, _, _, _] hs3001 hs3004 hs3000 hs3005 hs2701 hs2 R rfl ?_
        obtain rfl := some1 hm
        exact x_againS (e' := [(6, .pointer (some ⟨g2363, 0, none⟩)), (9, .pointer (some ⟨g2850, 0, none⟩)), (11, .pointer (some ⟨g2858, 0, none⟩)), (12, .pointer (some ⟨g2859, 0, none⟩)), (13, .func (.func 61) #[] #[.pointer (some ⟨g2363, 0, none⟩), .pointer (some ⟨g2857, 0, none⟩), .pointer (some ⟨g2859, 0, none⟩), .pointer (some ⟨g2850, 0, none⟩), .pointer (some ⟨g2858, 0, none⟩)]), (75, .slice A12 (l15).length c13), (76, .int .i64 ((l15.length : Int))), (77, .int .i64 ((k2978 : Int) + 1))]) (hp' := (g2363, Cl 69 [.pointer (some ⟨g2364, 0, none⟩)]) :: (g2850, Cl 88 [.slice A2848 (l2994).length c2849]) :: (g2858, Cl 22 [.slice A3002 (l2995).length c3003]) :: (g2859, Cl 4 [.bool (x2992)]) :: (g2857, Cl 22 [.slice A2855 (l2993).length c2856]) :: (g11, Cl 73 [.slice A3 (l20).length c4, .slice A16 (l19).length c17, .slice A2365 (l2368).length c2366]) :: (g2364, Cl 73 [.slice A2967 (l2996).length c2968, .slice A16 (l19).length c17, .slice A2702 (l2705).length c2703]) :: (hs2 ++ (hs3001 ++ (hs3004 ++ (hs3000 ++ (hs3005 ++ (hs2701 ++ R))))))) ⟨rfl, rfl, rfl, rfl, rfl, rfl, rfl, rfl, trivial⟩ (.cons_cons _ (.cons_cons _ (.cons_cons _ (.cons_cons _ (.cons_cons _ (.cons_cons _ (.cons_cons _ (.cons _ (sub_app hs2 (sub_app hs3001 (sub_app hs3004 (sub_app hs3000 (sub_app hs3005 (sub_app hs2701 (.refl _))))))))))))))) ⟨hs3001, A3002, c3003, hs3004, hs3000, A2967, c2968, hs3005, rfl, rfl, ((hle2953.trans hle2999)), h3008, (h3009.trans hln2972), h3010, h3011, h3006, (h3007.trans hln2976), h3012⟩
      ·
        rintro b2952 _ _ ⟨hs2955, A2959, c2960, hs2958, hs2963, A2967, c2968, hs2966, rfl, rfl, hle2953, h2956, hln2972, h2961, hnz2974, h2964, hln2976, h2969⟩
        have hm := (unc5E hk2980)
        refine c_seq ?_
        refine c_region ?_
        refine t_st rfl (st_lss_f rfl rfl (by omega)) ?_
        refine t_nil ?_
        refine x_then_normal ?_
        refine c_seq ?_
        refine c_cond_f rfl ?_
        refine c_exit ?_
        refine x_then_exit ?_
        refine x_then_exit ?_
        refine x_block_out ?_
        refine x_then_normal ?_
        refine c_seq ?_
        refine c_region ?_
        refine t_st rfl (st_load 0 rfl one69 rfl rfl) ?_
        obtain ⟨x3014, hcl3015, hm⟩ := bindS hm
        refine t_pullb 6 rfl ?_
        refine t_front6 [_, _, _, _, _, _, _] hs2 hs2955 hs2958 hs2963 hs2966 hs2701 R rfl ?_
        refine t_front6 [_, _, _, _, _, _, _] hs2701 hs2 hs2955 hs2958 hs2963 hs2966 R rfl ?_
        refine t_out2 [_] [_, _, _, _, _, _] hs2966 hs2701 (hs2 ++ (hs2955 ++ (hs2958 ++ (hs2963 ++ R)))) rfl ?_
        refine t_callG _ rfl call62 rfl (cMendSolverBound _ _ l19 l2977 l2705 g2364 A16 c17 A2967 c2968 hs2966 A2702 c2703 hs2701 (h18.le (hle2352.trans (hle2699.trans hle2953))) h2969 (h2704.le hle2953) x3014 hcl3015) ?_
        rintro _ b3016 _ hle3017 ⟨rfl, rfl⟩
        refine t_in2 [_] [_, _, _, _, _, _] hs2966 hs2701 (hs2 ++ (hs2955 ++ (hs2958 ++ (hs2963 ++ R)))) rfl ?_
        refine t_st rfl (st_assign rfl) ?_
        refine t_nil ?_
        refine x_then_normal ?_
        obtain ⟨t3794, hj3793, hk3793⟩ := bindS hm
        refine c_join (fun b3784 e' hp' => ∃ (x3791 : Bool), ∃ (l3792 : (List Int)), ∃ (A3788 : Option Addr), ∃ (c3789 : Nat), ∃ (hs3787 : Hp), [(6, .pointer (some ⟨g2363, 0, none⟩)), (12, .pointer (some ⟨g2859, 0, none⟩))] = e' ∧ (g2363, Cl 69 [.pointer (some ⟨g2364, 0, none⟩)]) :: (g2859, Cl 4 [.bool (x3791)]) :: (g11, Cl 73 [.slice A3 (l20).length c4, .slice A16 (l19).length c17, .slice A2365 (l2368).length c2366]) :: (g2364, Cl 73 [.slice A3788 (l3792).length c3789, .slice A16 (l19).length c17, .slice A2702 (l2705).length c2703]) :: (hs2 ++ (hs3787 ++ (hs2701 ++ R))) = hp' ∧ b3016.Le b3784 ∧ OS 3 (OT.fr (RT.int .i64)) b3784.w (.slice A3788 l3792.length c3789) l3792 hs3787 ∧ t3794 = .inl (x3791, l3792)) ?_ ?_
        ·
          have hm := hj3793
          refine c_block ?_
          refine c_pullb 6 rfl ?_
          refine c_pullb 6 rfl ?_
          refine c_pullb 6 rfl ?_
          refine c_pullb 6 rfl ?_
          refine c_pullb 6 rfl ?_
          refine c_pullb 6 rfl ?_
          refine c_front2 [_, _, _, _, _, _, _] hs2966 hs2701 (hs2 ++ (hs2955 ++ (hs2958 ++ (hs2963 ++ R)))) rfl ?_
          refine c_front2 [_, _, _, _, _, _, _] hs2701 hs2966 (hs2 ++ (hs2955 ++ (hs2958 ++ (hs2963 ++ R)))) rfl ?_
          refine c_front6 [_, _, _, _, _, _, _] hs2966 hs2701 hs2 hs2955 hs2958 hs2963 R rfl ?_
          refine c_front6 [_, _, _, _, _, _, _] hs2963 hs2966 hs2701 hs2 hs2955 hs2958 R rfl ?_
          refine c_front6 [_, _, _, _, _, _, _] hs2958 hs2963 hs2966 hs2701 hs2 hs2955 R rfl ?_
          refine c_front6 [_, _, _, _, _, _, _] hs2955 hs2958 hs2963 hs2966 hs2701 hs2 R rfl ?_
          refine c_loopM (unc5 fun x4315 l4316 l4318 l4319 l4321 => fun b4297 e' hp' => ∃ (hs4300 : Hp), ∃ (A4304 : Option Addr), ∃ (c4305 : Nat), ∃ (hs4303 : Hp), ∃ (hs4308 : Hp), ∃ (A4312 : Option Addr), ∃ (c4313 : Nat), ∃ (hs4311 : Hp), [(6, .pointer (some ⟨g2363, 0, none⟩)), (9, .pointer (some ⟨g2850, 0, none⟩)), (11, .pointer (some ⟨g2858, 0, none⟩)), (12, .pointer (some ⟨g2859, 0, none⟩)), (13, .func (.func 61) #[] #[.pointer (some ⟨g2363, 0, none⟩), .pointer (some ⟨g2857, 0, none⟩), .pointer (some ⟨g2859, 0, none⟩), .pointer (some ⟨g2850, 0, none⟩), .pointer (some ⟨g2858, 0, none⟩)]), (16, .int .i64 (x3014))] = e' ∧ (g2363, Cl 69 [.pointer (some ⟨g2364, 0, none⟩)]) :: (g2850, Cl 88 [.slice A2848 (l4316).length c2849]) :: (g2858, Cl 22 [.slice A4304 (l4318).length c4305]) :: (g2859, Cl 4 [.bool (x4315)]) :: (g2857, Cl 22 [.slice A2855 (l4319).length c2856]) :: (g11, Cl 73 [.slice A3 (l20).length c4, .slice A16 (l19).length c17, .slice A2365 (l2368).length c2366]) :: (g2364, Cl 73 [.slice A4312 (l4321).length c4313, .slice A16 (l19).length c17, .slice A2702 (l2705).length c2703]) :: (hs2 ++ (hs4300 ++ (hs4303 ++ (hs4308 ++ (hs4311 ++ (hs2701 ++ R)))))) = hp' ∧ b3016.Le b4297 ∧ OS 4 (OT.fr RT.bool) b4297.w (.slice A2848 l4316.length c2849) l4316 hs4300 ∧ l4316.length = m2844 ∧ OS 3 (OT.fr (RT.int .i64)) b4297.w (.slice A4304 l4318.length c4305) l4318 hs4303 ∧ OS 3 (OT.fr (RT.int .i64)) b4297.w (.slice A2855 l4319.length c2856) l4319 hs4308 ∧ l4319.length = m2851 ∧ OS 3 (OT.fr (RT.int .i64)) b4297.w (.slice A4312 l4321.length c4313) l4321 hs4311) hm (e' := [(6, .pointer (some ⟨g2363, 0, none⟩)), (9, .pointer (some ⟨g2850, 0, none⟩)), (11, .pointer (some ⟨g2858, 0, none⟩)), (12, .pointer (some ⟨g2859, 0, none⟩)), (13, .func (.func 61) #[] #[.pointer (some ⟨g2363, 0, none⟩), .pointer (some ⟨g2857, 0, none⟩), .pointer (some ⟨g2859, 0, none⟩), .pointer (some ⟨g2850, 0, none⟩), .pointer (some ⟨g2858, 0, none⟩)]), (16, .int .i64 (x3014))]) (hp' := (g2363, Cl 69 [.pointer (some ⟨g2364, 0, none⟩)]) :: (g2850, Cl 88 [.slice A2848 (l2971).length c2849]) :: (g2858, Cl 22 [.slice A2959 (l2973).length c2960]) :: (g2859, Cl 4 [.bool (x2970)]) :: (g2857, Cl 22 [.slice A2855 (l2975).length c2856]) :: (g11, Cl 73 [.slice A3 (l20).length c4, .slice A16 (l19).length c17, .slice A2365 (l2368).length c2366]) :: (g2364, Cl 73 [.slice A2967 (l2977).length c2968, .slice A16 (l19).length c17, .slice A2702 (l2705).length c2703]) :: (hs2 ++ (hs2955 ++ (hs2958 ++ (hs2963 ++ (hs2966 ++ (hs2701 ++ R))))))) ⟨rfl, rfl, rfl, rfl, rfl, rfl, trivial⟩ (.cons_cons _ (.cons_cons _ (.cons_cons _ (.cons_cons _ (.cons_cons _ (.cons_cons _ (.cons_cons _ (sub_app hs2 (sub_app hs2955 (sub_app hs2958 (sub_app hs2963 (sub_app hs2966 (sub_app hs2701 (.refl _)))))))))))))) ⟨hs2955, A2959, c2960, hs2958, hs2963, A2967, c2968, hs2966, rfl, rfl, (Base.Le.refl _), (h2956.le hle3017), hln2972, (h2961.le hle3017), (h2964.le hle3017), hln2976, (h2969.le hle3017)⟩ ?_
          rintro ⟨x4315, l4316, l4318, l4319, l4321⟩ b4297 _ _ oL3795 ⟨hs4300, A4304, c4305, hs4303, hs4308, A4312, c4313, hs4311, rfl, rfl, hle4298, h4301, hln4317, h4306, h4309, hln4320, h4314⟩ hstepL3795 houtL3795
          unfold mMendSolverWith_L3795 at hstepL3795
          have hm := (unc5E hstepL3795)
          refine c_seq ?_
          obtain ⟨x4325, hj4326, hk4326⟩ := bindS hm
          refine c_join (fun b4323 e' hp' => [(6, .pointer (some ⟨g2363, 0, none⟩)), (9, .pointer (some ⟨g2850, 0, none⟩)), (11, .pointer (some ⟨g2858, 0, none⟩)), (12, .pointer (some ⟨g2859, 0, none⟩)), (13, .func (.func 61) #[] #[.pointer (some ⟨g2363, 0, none⟩), .pointer (some ⟨g2857, 0, none⟩), .pointer (some ⟨g2859, 0, none⟩), .pointer (some ⟨g2850, 0, none⟩), .pointer (some ⟨g2858, 0, none⟩)]), (16, .int .i64 (x3014)), (92, .bool (x4325))] = e' ∧ (g2363, Cl 69 [.pointer (some ⟨g2364, 0, none⟩)]) :: (g2850, Cl 88 [.slice A2848 (l4316).length c2849]) :: (g2858, Cl 22 [.slice A4304 (l4318).length c4305]) :: (g2859, Cl 4 [.bool (x4315)]) :: (g2857, Cl 22 [.slice A2855 (l4319).length c2856]) :: (g11, Cl 73 [.slice A3 (l20).length c4, .slice A16 (l19).length c17, .slice A2365 (l2368).length c2366]) :: (g2364, Cl 73 [.slice A4312 (l4321).length c4313, .slice A16 (l19).length c17, .slice A2702 (l2705).length c2703]) :: (hs2 ++ (hs4300 ++ (hs4303 ++ (hs4308 ++ (hs4311 ++ (hs2701 ++ R)))))) = hp' ∧ b4297.Le b4323) ?_ ?_
          ·
            have hm := hj4326
            refine c_region ?_
            refine t_st rfl (st_load 2 rfl one22 rfl rfl) ?_
            refine t_st rfl (st_len rfl sl22) ?_
            refine t_bool rfl (st_gtr rfl rfl) (fun hc4327 => ?_) (fun hc4327 => ?_)
            ·
              rw [if_pos hc4327] at hm
              refine t_st rfl (st_move rfl) ?_
              refine t_yes 90 rfl rfl rfl ?_
              refine t_st rfl (st_load 3 rfl one4 rfl rfl) ?_
              refine t_st rfl (st_pick_t rfl rfl) ?_
              refine t_nil ?_
              obtain rfl := some1 hm
              refine x_pullb 6 rfl ?_
              refine x_pullb 6 rfl ?_
              refine x_pullb 6 rfl ?_
              refine x_pullb 6 rfl ?_
              refine x_pullb 6 rfl ?_
              refine x_pullb 6 rfl ?_
              refine x_pullb 6 rfl ?_
              refine x_front6 [_, _, _, _, _, _, _] hs2 hs4300 hs4303 hs4308 hs4311 hs2701 R rfl ?_
              refine x_front6 [_, _, _, _, _, _, _] hs2701 hs2 hs4300 hs4303 hs4308 hs4311 R rfl ?_
              refine x_front6 [_, _, _, _, _, _, _] hs4311 hs2701 hs2 hs4300 hs4303 hs4308 R rfl ?_
              refine x_front6 [_, _, _, _, _, _, _] hs4308 hs4311 hs2701 hs2 hs4300 hs4303 R rfl ?_
              refine x_front6 [_, _, _, _, _, _, _] hs4303 hs4308 hs4311 hs2701 hs2 hs4300 R rfl ?_
              refine x_front6 [_, _, _, _, _, _, _] hs4300 hs4303 hs4308 hs4311 hs2701 hs2 R rfl ?_
              exact x_join (e' := [(6, .pointer (some ⟨g2363, 0, none⟩)), (9, .pointer (some ⟨g2850, 0, none⟩)), (11, .pointer (some ⟨g2858, 0, none⟩)), (12, .pointer (some ⟨g2859, 0, none⟩)), (13, .func (.func 61) #[] #[.pointer (some ⟨g2363, 0, none⟩), .pointer (some ⟨g2857, 0, none⟩), .pointer (some ⟨g2859, 0, none⟩), .pointer (some ⟨g2850, 0, none⟩), .pointer (some ⟨g2858, 0, none⟩)]), (16, .int .i64 (x3014)), (92, .bool (x4315))]) (hp' := (g2363, Cl 69 [.pointer (some ⟨g2364, 0, none⟩)]) :: (g2850, Cl 88 [.slice A2848 (l4316).length c2849]) :: (g2858, Cl 22 [.slice A4304 (l4318).length c4305]) :: (g2859, Cl 4 [.bool (x4315)]) :: (g2857, Cl 22 [.slice A2855 (l4319).length c2856]) :: (g11, Cl 73 [.slice A3 (l20).length c4, .slice A16 (l19).length c17, .slice A2365 (l2368).length c2366]) :: (g2364, Cl 73 [.slice A4312 (l4321).length c4313, .slice A16 (l19).length c17, .slice A2702 (l2705).length c2703]) :: (hs2 ++ (hs4300 ++ (hs4303 ++ (hs4308 ++ (hs4311 ++ (hs2701 ++ R))))))) ⟨rfl, rfl, rfl, rfl, rfl, rfl, rfl, trivial⟩ (.cons_cons _ (.cons_cons _ (.cons_cons _ (.cons_cons _ (.cons_cons _ (.cons_cons _ (.cons_cons _ (sub_app hs2 (sub_app hs4300 (sub_app hs4303 (sub_app hs4308 (sub_app hs4311 (sub_app hs2701 (.refl _)))))))))))))) ⟨rfl, rfl, (Base.Le.refl _)⟩
            ·
              rw [if_neg hc4327] at hm
              refine t_st rfl (st_move rfl) ?_
              refine t_no 90 rfl rfl rfl rfl rfl ?_
              refine t_st rfl (st_pick_f rfl rfl) ?_
              refine t_nil ?_
              obtain rfl := some1 hm
              refine x_pullb 6 rfl ?_
              refine x_pullb 6 rfl ?_
              refine x_pullb 6 rfl ?_
              refine x_pullb 6 rfl ?_
              refine x_pullb 6 rfl ?_
              refine x_pullb 6 rfl ?_
              refine x_pullb 6 rfl ?_
              refine x_front6 [_, _, _, _, _, _, _] hs2 hs4300 hs4303 hs4308 hs4311 hs2701 R rfl ?_
              refine x_front6 [_, _, _, _, _, _, _] hs2701 hs2 hs4300 hs4303 hs4308 hs4311 R rfl ?_
              refine x_front6 [_, _, _, _, _, _, _] hs4311 hs2701 hs2 hs4300 hs4303 hs4308 R rfl ?_
              refine x_front6 [_, _, _, _, _, _, _] hs4308 hs4311 hs2701 hs2 hs4300 hs4303 R rfl ?_
              refine x_front6 [_, _, _, _, _, _, _] hs4303 hs4308 hs4311 hs2701 hs2 hs4300 R rfl ?_
              refine x_front6 [_, _, _, _, _, _, _] hs4300 hs4303 hs4308 hs4311 hs2701 hs2 R rfl ?_
              exact x_join (e' := [(6, .pointer (some ⟨g2363, 0, none⟩)), (9, .pointer (some ⟨g2850, 0, none⟩)), (11, .pointer (some ⟨g2858, 0, none⟩)), (12, .pointer (some ⟨g2859, 0, none⟩)), (13, .func (.func 61) #[] #[.pointer (some ⟨g2363, 0, none⟩), .pointer (some ⟨g2857, 0, none⟩), .pointer (some ⟨g2859, 0, none⟩), .pointer (some ⟨g2850, 0, none⟩), .pointer (some ⟨g2858, 0, none⟩)]), (16, .int .i64 (x3014)), (92, .bool (false))]) (hp' := (g2363, Cl 69 [.pointer (some ⟨g2364, 0, none⟩)]) :: (g2850, Cl 88 [.slice A2848 (l4316).length c2849]) :: (g2858, Cl 22 [.slice A4304 (l4318).length c4305]) :: (g2859, Cl 4 [.bool (x4315)]) :: (g2857, Cl 22 [.slice A2855 (l4319).length c2856]) :: (g11, Cl 73 [.slice A3 (l20).length c4, .slice A16 (l19).length c17, .slice A2365 (l2368).length c2366]) :: (g2364, Cl 73 [.slice A4312 (l4321).length c4313, .slice A16 (l19).length c17, .slice A2702 (l2705).length c2703]) :: (hs2 ++ (hs4300 ++ (hs4303 ++ (hs4308 ++ (hs4311 ++ (hs2701 ++ R))))))) ⟨rfl, rfl, rfl, rfl, rfl, rfl, rfl, trivial⟩ (.cons_cons _ (.cons_cons _ (.cons_cons _ (.cons_cons _ (.cons_cons _ (.cons_cons _ (.cons_cons _ (sub_app hs2 (sub_app hs4300 (sub_app hs4303 (sub_app hs4308 (sub_app hs4311 (sub_app hs2701 (.refl _)))))))))))))) ⟨rfl, rfl, (Base.Le.refl _)⟩
          ·
            rintro b4323 _ _ ⟨rfl, rfl, hle4324⟩
            have hm := hk4326
            refine c_cond _ rfl (fun hc4328 => ?_) (fun hc4328 => ?_)
            ·
              rw [if_pos hc4328] at hm
              refine c_skip ?_
              refine x_then_normal ?_
              refine c_block ?_
              refine c_seq ?_
              refine c_region ?_
              refine t_st rfl (st_load 2 rfl one22 rfl rfl) ?_
              obtain ⟨x4329, h4330, hm⟩ := bindS hm
              obtain ⟨j4331, hj4332, hx4333⟩ := idx_some h4330
              obtain ⟨cs4334, hs4339, P4340, P4341, hq4342, hr4335, hcs4336, hA4337, hlt4338, hb4343, hho4344⟩ := OS.get (sz := 1) rfl (by decide) (h4306.le hle4324) hx4333
              obtain ⟨rfl, rfl⟩ := hr4335
              refine t_st rfl (st_index_old j4331 rfl rfl hj4332 hlt4338 hA4337 sl22) ?_
              refine t_st rfl (st_load_rd rfl one3 (fun w ho => hcs4336 w _ ho (.cons _ (.cons _ (.cons _ (.cons _ (.cons _ (.cons _ (.cons _ (sub_skip hs2 (sub_skip hs4300 (List.sublist_append_left _ _)))))))))) 0 _ rfl)) ?_
              refine t_st rfl (st_assign rfl) ?_
              refine t_nil ?_
              refine x_then_normal ?_
              refine c_seq ?_
              refine c_region ?_
              refine t_st rfl (st_load 2 rfl one22 rfl rfl) ?_
              obtain ⟨l4345, h4346, hm⟩ := bindS hm
              obtain ⟨j4347, j4348, hj4349, hj4350, hj4351, hj4352, hx4353⟩ := cutS_some h4346
              have h4354 := OS.lc (h4306.le hle4324)
              refine t_st rfl (hx4353 ▸ st_part (l := l4318) j4347 j4348 rfl (.inr ⟨_, _, _, rfl, rfl, hj4349⟩) (.inl ⟨rfl, by omega⟩) hj4351 hj4352 h4354 sl22) ?_
              obtain ⟨hs4355, hq4356, h4357⟩ := OS.sub (sz := 1) rfl (h4306.le hle4324) hj4351 hj4352
              rw [← hx4353] at h4357
              refine t_front3 [_, _, _, _, _, _, _] hs2 hs4300 hs4303 (hs4308 ++ (hs4311 ++ (hs2701 ++ R))) rfl ?_
              refine t_less [_, _, _, _, _, _, _] hs4303 hs4355 (hs2 ++ (hs4300 ++ (hs4308 ++ (hs4311 ++ (hs2701 ++ R))))) rfl hq4356 ?_
              refine t_do rfl (u_store 2 rfl rfl siz22 rfl rfl (by simp)) ?_
              rintro _ _ rfl
              refine t_nil ?_
              refine x_then_normal ?_
              refine c_seq ?_
              refine c_region ?_
              refine t_st rfl (st_load 1 rfl one88 rfl rfl) ?_
              refine t_st rfl (st_move rfl) ?_
              obtain ⟨x4358, h4359, hm⟩ := bindS hm
              obtain ⟨j4360, hj4361, hx4362⟩ := idx_some h4359
              obtain ⟨cs4363, hs4368, P4369, P4370, hq4371, hr4364, hcs4365, hA4366, hlt4367, hb4372, hho4373⟩ := OS.get (sz := 1) rfl (by decide) (h4301.le hle4324) hx4362
              obtain ⟨rfl, rfl⟩ := hr4364
              refine t_st rfl (st_index_old j4360 rfl rfl hj4361 hlt4367 hA4366 sl88) ?_
              refine t_front3 [_, _, _, _, _, _, _] hs4355 hs2 hs4300 (hs4308 ++ (hs4311 ++ (hs2701 ++ R))) rfl ?_
              refine t_do rfl (u_putOS hj4361 (sz := 1) (a' := false) rfl [_, _, _, _, _, _, _] (hs4355 ++ (hs2 ++ (hs4308 ++ (hs4311 ++ (hs2701 ++ R))))) 0 1 [.bool (false)] rfl (h4301.le hle4324) hx4362 rfl rfl rfl siz4 rfl (by intro u hu; simp only [List.mem_cons, List.not_mem_nil, or_false] at hu; subst hu; rfl) (fun cs hsj hh => by obtain ⟨rfl, rfl⟩ := hh; exact ⟨by decide, rfl, rfl⟩)) ?_
              rintro _ _ ⟨hs4374, rfl, h4375⟩
              refine t_hresp 1 rfl (o' := Cl 88 [.slice A2848 (put l4316 x4329 false).length c2849]) (by simp only [put_length]) ?_
              refine t_nil ?_
              refine x_then_normal ?_
              refine c_seq ?_
              refine c_seq ?_
              refine c_region ?_
              refine t_st rfl (st_load 0 rfl one69 rfl rfl) ?_
              refine t_st rfl (st_nil rfl) ?_
              refine t_st rfl (st_field rfl fld73_0) ?_
              refine t_st rfl (st_load 6 rfl one22 rfl rfl) ?_
              refine t_st rfl (st_move rfl) ?_
              obtain ⟨x4376, h4377, hm⟩ := bindS hm
              obtain ⟨j4378, hj4379, hx4380⟩ := idx_some h4377
              obtain ⟨cs4381, hs4386, P4387, P4388, hq4389, hr4382, hcs4383, hA4384, hlt4385, hb4390, hho4391⟩ := OS.get (sz := 1) rfl (by decide) (h4314.le hle4324) hx4380
              obtain ⟨rfl, rfl⟩ := hr4382
              refine t_st rfl (st_index_old j4378 rfl rfl hj4379 hlt4385 hA4384 sl22) ?_
              refine t_st rfl (st_load_rd rfl one3 (fun w ho => hcs4383 w _ ho (.cons _ (.cons _ (.cons _ (.cons _ (.cons _ (.cons _ (.cons _ (sub_skip hs4374 (sub_skip hs4355 (sub_skip hs2 (sub_skip hs4308 (List.sublist_append_left _ _)))))))))))) 0 _ rfl)) ?_
              refine t_st rfl (st_move rfl) ?_
              refine t_st rfl (st_gtr rfl rfl) ?_
              refine t_nil ?_
              refine x_then_normal ?_
              refine c_cond _ rfl (fun hc4392 => ?_) (fun hc4392 => ?_)
              ·
                rw [if_pos (of_decide_eq_true hc4392)] at hm
                refine c_seq ?_
                refine c_region ?_
                refine t_st rfl (st_assign rfl) ?_
                refine t_st rfl (st_assign rfl) ?_
                refine t_nil ?_
                refine x_then_normal ?_
                refine c_ret ?_
                refine x_then_ret ?_
                refine x_block_ret ?_
                refine x_then_ret ?_
                refine x_block_ret ?_
                refine x_then_ret ?_
                have hm := congrArg some (houtL3795 _ (Option.some.inj hm).symm)
                have hq4393 := (Option.some.inj hm).symm
                rw [hq4393] at hk3793
                have hm := elimR hk3793
                obtain ⟨rfl, rfl, rfl⟩ := some3 hm
                refine x_pullb 5 rfl ?_
                refine x_front3 [_, _, _, _, _, _, _] hs4374 hs4355 hs2 (hs4308 ++ (hs4311 ++ (hs2701 ++ R))) rfl ?_
                exact retM (rs := [.tmp 4, .tmp 5]) [.pointer none, .bool (false)] (hle2352.trans (hle2699.trans (hle2953.trans (hle3017.trans (hle4298.trans hle4324))))) (by decide) rfl ⟨rfl, ⟨rfl, trivial⟩⟩ rfl (hp' := (g11, Cl 73 [.slice A3 (l20).length c4, .slice A16 (l19).length c17, .slice A2365 (l2368).length c2366]) :: (hs2 ++ R)) (.cons_cons _ (.cons _ (.cons _ (.cons _ (.cons _ (.cons _ (.cons _ (sub_app hs2 (sub_skip hs4374 (sub_skip hs4355 (sub_skip hs4308 (sub_skip hs4311 (sub_skip hs2701 (.refl _)))))))))))))) ⟨(.pointer none), A2365, c2366, rfl, rfl, rfl, (h2367.le (hle2699.trans (hle2953.trans (hle3017.trans (hle4298.trans hle4324)))))⟩
              ·
                rw [if_neg (of_decide_eq_false hc4392)] at hm
                refine c_skip ?_
                refine x_then_normal ?_
                refine c_seq ?_
                refine c_region ?_
                refine t_st rfl (st_load 0 rfl one69 rfl rfl) ?_
                refine t_st rfl (st_nil rfl) ?_
                refine t_st rfl (st_field rfl fld73_2) ?_
                refine t_st rfl (st_load 6 rfl one35 rfl rfl) ?_
                refine t_st rfl (st_move rfl) ?_
                obtain ⟨x4394, h4395, hm⟩ := bindS hm
                obtain ⟨j4396, hj4397, hx4398⟩ := idx_some h4395
                obtain ⟨cs4399, hs4404, P4405, P4406, hq4407, hr4400, hcs4401, hA4402, hlt4403, hb4408, hho4409⟩ := OS.get (sz := 1) rfl (by decide) (h2704.le (hle2953.trans (hle3017.trans (hle4298.trans hle4324)))) hx4398
                obtain ⟨⟨A4410, c4411, rfl, h4412⟩, rfl⟩ := hr4400
                refine t_st rfl (st_index_old j4396 rfl rfl hj4397 hlt4403 hA4402 sl35) ?_
                refine t_st rfl (st_load_rd rfl one23 (fun w ho => hcs4401 w _ ho (.cons _ (.cons _ (.cons _ (.cons _ (.cons _ (.cons _ (.cons _ (sub_skip hs4374 (sub_skip hs4355 (sub_skip hs2 (sub_skip hs4308 (sub_skip hs4311 (List.sublist_append_left _ _))))))))))))) 0 _ rfl)) ?_
                refine t_st rfl (st_len rfl sl23) ?_
                refine t_st rfl (st_move rfl) ?_
                refine t_nil ?_
                refine x_then_normal ?_
                refine c_block ?_
                have hb4414 := (FZ.bd h4412)
                refine c_pullb 6 rfl ?_
                refine c_pullb 6 rfl ?_
                refine c_pullb 6 rfl ?_
                refine c_pullb 6 rfl ?_
                refine c_pullb 6 rfl ?_
                refine c_pullb 6 rfl ?_
                refine c_pullb 6 rfl ?_
                refine c_front6 [_, _, _, _, _, _, _] hs4374 hs4355 hs2 hs4308 hs4311 hs2701 R rfl ?_
                refine c_front6 [_, _, _, _, _, _, _] hs2701 hs4374 hs4355 hs2 hs4308 hs4311 R rfl ?_
                refine c_front6 [_, _, _, _, _, _, _] hs4311 hs2701 hs4374 hs4355 hs2 hs4308 R rfl ?_
                refine c_front5 [_, _, _, _, _, _, _] hs4308 hs4311 hs2701 hs4374 hs4355 (hs2 ++ R) rfl ?_
                refine c_front5 [_, _, _, _, _, _, _] hs4355 hs4308 hs4311 hs2701 hs4374 (hs2 ++ R) rfl ?_
                refine c_front6 [_, _, _, _, _, _, _] hs4374 hs4355 hs4308 hs4311 hs2701 hs2 R rfl ?_
                obtain ⟨⟨x4520, l4521, l4523, l4524, l4526⟩, hl4528, hk4529⟩ := bindS hm
                refine c_forS (fun k4527 => unc5 fun x4520 l4521 l4523 l4524 l4526 => fun b4502 e' hp' => ∃ (hs4505 : Hp), ∃ (A4509 : Option Addr), ∃ (c4510 : Nat), ∃ (hs4508 : Hp), ∃ (hs4513 : Hp), ∃ (A4517 : Option Addr), ∃ (c4518 : Nat), ∃ (hs4516 : Hp), [(6, .pointer (some ⟨g2363, 0, none⟩)), (9, .pointer (some ⟨g2850, 0, none⟩)), (11, .pointer (some ⟨g2858, 0, none⟩)), (12, .pointer (some ⟨g2859, 0, none⟩)), (13, .func (.func 61) #[] #[.pointer (some ⟨g2363, 0, none⟩), .pointer (some ⟨g2857, 0, none⟩), .pointer (some ⟨g2859, 0, none⟩), .pointer (some ⟨g2850, 0, none⟩), .pointer (some ⟨g2858, 0, none⟩)]), (16, .int .i64 (x3014)), (116, .slice A4410 (x4394).length c4411), (117, .int .i64 ((x4394.length : Int))), (118, .int .i64 ((k4527 : Int)))] = e' ∧ (g2363, Cl 69 [.pointer (some ⟨g2364, 0, none⟩)]) :: (g2850, Cl 88 [.slice A2848 (l4521).length c2849]) :: (g2858, Cl 22 [.slice A4509 (l4523).length c4510]) :: (g2859, Cl 4 [.bool (x4520)]) :: (g2857, Cl 22 [.slice A2855 (l4524).length c2856]) :: (g11, Cl 73 [.slice A3 (l20).length c4, .slice A16 (l19).length c17, .slice A2365 (l2368).length c2366]) :: (g2364, Cl 73 [.slice A4517 (l4526).length c4518, .slice A16 (l19).length c17, .slice A2702 (l2705).length c2703]) :: (hs2 ++ (hs4505 ++ (hs4508 ++ (hs4513 ++ (hs4516 ++ (hs2701 ++ R)))))) = hp' ∧ b4323.Le b4502 ∧ OS 4 (OT.fr RT.bool) b4502.w (.slice A2848 l4521.length c2849) l4521 hs4505 ∧ l4521.length = m2844 ∧ OS 3 (OT.fr (RT.int .i64)) b4502.w (.slice A4509 l4523.length c4510) l4523 hs4508 ∧ OS 3 (OT.fr (RT.int .i64)) b4502.w (.slice A2855 l4524.length c2856) l4524 hs4513 ∧ l4524.length = m2851 ∧ OS 3 (OT.fr (RT.int .i64)) b4502.w (.slice A4517 l4526.length c4518) l4526 hs4516) hl4528 (e' := [(6, .pointer (some ⟨g2363, 0, none⟩)), (9, .pointer (some ⟨g2850, 0, none⟩)), (11, .pointer (some ⟨g2858, 0, none⟩)), (12, .pointer (some ⟨g2859, 0, none⟩)), (13, .func (.func 61) #[] #[.pointer (some ⟨g2363, 0, none⟩), .pointer (some ⟨g2857, 0, none⟩), .pointer (some ⟨g2859, 0, none⟩), .pointer (some ⟨g2850, 0, none⟩), .pointer (some ⟨g2858, 0, none⟩)]), (16, .int .i64 (x3014)), (116, .slice A4410 (x4394).length c4411), (117, .int .i64 ((x4394.length : Int))), (118, .int .i64 0)]) (hp' := (g2363, Cl 69 [.pointer (some ⟨g2364, 0, none⟩)]) :: (g2850, Cl 88 [.slice A2848 (put l4316 x4329 false).length c2849]) :: (g2858, Cl 22 [.slice (subA A4304 c4305 j4347 1) (l4345).length (c4305 - j4347)]) :: (g2859, Cl 4 [.bool (x4315)]) :: (g2857, Cl 22 [.slice A2855 (l4319).length c2856]) :: (g11, Cl 73 [.slice A3 (l20).length c4, .slice A16 (l19).length c17, .slice A2365 (l2368).length c2366]) :: (g2364, Cl 73 [.slice A4312 (l4321).length c4313, .slice A16 (l19).length c17, .slice A2702 (l2705).length c2703]) :: (hs2 ++ (hs4374 ++ (hs4355 ++ (hs4308 ++ (hs4311 ++ (hs2701 ++ R))))))) ⟨rfl, rfl, rfl, rfl, rfl, rfl, rfl, rfl, rfl, trivial⟩ (.cons_cons _ (.cons_cons _ (.cons_cons _ (.cons_cons _ (.cons_cons _ (.cons_cons _ (.cons_cons _ (sub_app hs2 (sub_app hs4374 (sub_app hs4355 (sub_app hs4308 (sub_app hs4311 (sub_app hs2701 (.refl _)))))))))))))) ⟨hs4374, (subA A4304 c4305 j4347 1), (c4305 - j4347), hs4355, hs4308, A4312, c4313, hs4311, rfl, rfl, (Base.Le.refl _), h4375, ((put_length _ _ _).trans hln4317), h4357, (h4309.le hle4324), hln4320, (h4314.le hle4324)⟩ ?_ ?_
                ·
                  rintro k4527 ⟨x4520, l4521, l4523, l4524, l4526⟩ b4502 _ _ oL4413 hknL4413 ⟨hs4505, A4509, c4510, hs4508, hs4513, A4517, c4518, hs4516, rfl, rfl, hle4503, h4506, hln4522, h4511, h4514, hln4525, h4519⟩ hstepL4413
                  unfold mMendSolverWith_L4413 at hstepL4413
                  have hm := (unc5E hstepL4413)
                  refine c_seq ?_
                  refine c_region ?_
                  refine t_st rfl (st_lss_t rfl rfl (by omega)) ?_
                  refine t_nil ?_
                  refine x_then_normal ?_
                  refine c_seq ?_
                  refine c_cond_t rfl ?_
                  refine c_skip ?_
                  refine x_then_normal ?_
                  refine c_seq ?_
                  refine c_block ?_
                  refine c_seq ?_
                  refine c_region ?_
                  obtain ⟨x4530, h4531, hm⟩ := bindS hm
                  obtain ⟨j4532, hj4533, hx4534⟩ := idx_some h4531
                  obtain ⟨cs4535, hr4536, hcs4537, hA4538, hlt4539⟩ := FZ.get (sz := 3) rfl (by decide) (h4412.le hle4503) hx4534
                  obtain ⟨_, _, rfl, rfl, ⟨_, _, rfl, rfl, rfl⟩⟩ := hr4536
                  refine t_st rfl (st_index_old j4532 rfl rfl hj4533 hlt4539 hA4538 sl23) ?_
                  refine t_st rfl (st_loadN_old (vs := [.int .i64 (x4530.From), .int .i64 (x4530.To), .int .i64 (x4530.Len)]) 3 rfl agg34 hA4538 rfl (fun j u hu => hcs4537 j u hu)) ?_
                  refine t_do rfl (u_alloc [.int .i64 0, .int .i64 0, .int .i64 0] zero34 rfl) ?_
                  rintro _ _ ⟨g4540, rfl, rfl⟩
                  refine t_do rfl (u_storeN (vs := [_, _, _]) 0 3 rfl rfl rfl siz34 rfl (by intro u hu; simp only [List.mem_cons, List.not_mem_nil, or_false] at hu; rcases hu with rfl | rfl | rfl <;> rfl) rfl (by simp)) ?_
                  rintro _ _ rfl
                  refine t_nil ?_
                  refine x_then_normal ?_
                  refine c_region ?_
                  refine t_st rfl (st_move rfl) ?_
                  refine t_st rfl (st_loadD (vs := [_, _, _]) 0 3 rfl agg34 rfl rfl rfl) ?_
                  obtain ⟨⟨x4541, l4542, l4543, l4544, l4545⟩, hcl4546, hm⟩ := bindS hm
                  have hm := (unc5E hm)
                  refine t_pullb 7 rfl ?_
                  refine t_pullb 4 rfl ?_
                  refine t_pullb 4 rfl ?_
                  refine t_pullb 5 rfl ?_
                  refine t_pullb 6 rfl ?_
                  refine t_pullb 6 rfl ?_
                  refine t_front6 [_, _, _, _, _, _, _, _] hs2 hs4505 hs4508 hs4513 hs4516 hs2701 R rfl ?_
                  refine t_front6 [_, _, _, _, _, _, _, _] hs2701 hs2 hs4505 hs4508 hs4513 hs4516 R rfl ?_
                  refine t_front5 [_, _, _, _, _, _, _, _] hs4516 hs2701 hs2 hs4505 hs4508 (hs4513 ++ R) rfl ?_
                  refine t_front5 [_, _, _, _, _, _, _, _] hs4508 hs4516 hs2701 hs2 hs4505 (hs4513 ++ R) rfl ?_
                  refine t_front6 [_, _, _, _, _, _, _, _] hs4505 hs4508 hs4516 hs2701 hs2 hs4513 R rfl ?_
                  refine t_out5 [_, _, _, _, _, _] [_, _] hs4513 hs4505 hs4508 hs4516 hs2701 (hs2 ++ R) rfl ?_
                  refine t_callvG #[] #[.pointer (some ⟨g2363, 0, none⟩), .pointer (some ⟨g2857, 0, none⟩), .pointer (some ⟨g2859, 0, none⟩), .pointer (some ⟨g2850, 0, none⟩), .pointer (some ⟨g2858, 0, none⟩)] [.agg #[.int .i64 (x4530.From), .int .i64 (x4530.To), .int .i64 (x4530.Len)]] rfl rfl call61 rfl (cMendSolverWith_1_2 _ _ x4530 x4520 l19 l4524 l4521 l4523 l4526 l2705 g2363 g2857 g2859 g2850 g2858 g2364 A16 c17 A2855 c2856 hs4513 A2848 c2849 hs4505 A4509 c4510 hs4508 A4517 c4518 hs4516 A2702 c2703 hs2701 (h18.le (hle2352.trans (hle2699.trans (hle2953.trans (hle3017.trans (hle4298.trans (hle4324.trans hle4503))))))) h4514 h4506 h4511 h4519 (h2704.le (hle2953.trans (hle3017.trans (hle4298.trans (hle4324.trans hle4503))))) x4541 l4542 l4543 l4544 l4545 hcl4546) ?_
                  rintro _ b4547 _ hle4548 ⟨hs4549, hs4550, A4551, c4552, hs4553, hs4554, rfl, rfl, h4555, h4556, h4557, h4558, h4559, h4560, h4561⟩
                  refine t_in5 [_, _, _, _, _, _] [_, _] hs4549 hs4550 hs4553 hs4554 hs2701 (hs2 ++ R) rfl ?_
                  refine t_hresp 1 rfl (o' := Cl 22 [.slice A2855 (l4542).length c2856]) (by simp only [h4556]) ?_
                  refine t_hresp 3 rfl (o' := Cl 88 [.slice A2848 (l4543).length c2849]) (by simp only [h4558]) ?_
                  refine t_hresp 5 rfl (o' := Cl 73 [.slice A4517 (l4545).length c4518, .slice A16 (l19).length c17, .slice A2702 (l2705).length c2703]) (by simp only [h4561]) ?_
                  refine t_nil ?_
                  refine x_block_normal ?_
                  refine x_then_normal ?_
                  refine c_region ?_
                  refine t_st rfl (st_add rfl rfl (by omega)) ?_
                  refine t_st rfl (st_move rfl) ?_
                  refine t_nil ?_
                  refine x_pullb 5 rfl ?_
                  refine x_pullb 7 rfl ?_
                  refine x_pullb 3 rfl ?_
                  refine x_pullb 4 rfl ?_
                  refine x_pullb 6 rfl ?_
                  refine x_pullb 6 rfl ?_
                  refine x_pullb 6 rfl ?_
                  refine x_front5 [_, _, _, _, _, _, _, _] hs4549 hs4550 hs4553 hs4554 hs2701 (hs2 ++ R) rfl ?_
                  refine x_front5 [_, _, _, _, _, _, _, _] hs2701 hs4549 hs4550 hs4553 hs4554 (hs2 ++ R) rfl ?_
                  refine x_front3 [_, _, _, _, _, _, _, _] hs4554 hs2701 hs4549 (hs4550 ++ (hs4553 ++ (hs2 ++ R))) rfl ?_
                  refine x_front5 [_, _, _, _, _, _, _, _] hs4549 hs4554 hs2701 hs4550 hs4553 (hs2 ++ R) rfl ?_
                  refine x_front5 [_, _, _, _, _, _, _, _] hs4553 hs4549 hs4554 hs2701 hs4550 (hs2 ++ R) rfl ?_
                  refine x_front6 [_, _, _, _, _, _, _, _] hs4550 hs4553 hs4549 hs4554 hs2701 hs2 R rfl ?_
                  obtain rfl := some1 hm
                  exact x_againS (e' := [(6, .pointer (some ⟨g2363, 0, none⟩)), (9, .pointer (some ⟨g2850, 0, none⟩)), (11, .pointer (some ⟨g2858, 0, none⟩)), (12, .pointer (some ⟨g2859, 0, none⟩)), (13, .func (.func 61) #[] #[.pointer (some ⟨g2363, 0, none⟩), .pointer (some ⟨g2857, 0, none⟩), .pointer (some ⟨g2859, 0, none⟩), .pointer (some ⟨g2850, 0, none⟩), .pointer (some ⟨g2858, 0, none⟩)]), (16, .int .i64 (x3014)), (116, .slice A4410 (x4394).length c4411), (117, .int .i64 ((x4394.length : Int))), (118, .int .i64 ((k4527 : Int) + 1))]) (hp' := (g2363, Cl 69 [.pointer (some ⟨g2364, 0, none⟩)]) :: (g2850, Cl 88 [.slice A2848 (l4543).length c2849]) :: (g2858, Cl 22 [.slice A4551 (l4544).length c4552]) :: (g2859, Cl 4 [.bool (x4541)]) :: (g2857, Cl 22 [.slice A2855 (l4542).length c2856]) :: (g11, Cl 73 [.slice A3 (l20).length c4, .slice A16 (l19).length c17, .slice A2365 (l2368).length c2366]) :: (g2364, Cl 73 [.slice A4517 (l4545).length c4518, .slice A16 (l19).length c17, .slice A2702 (l2705).length c2703]) :: (hs2 ++ (hs4550 ++ (hs4553 ++ (hs4549 ++ (hs4554 ++ (hs2701 ++ R))))))) ⟨rfl, rfl, rfl, rfl, rfl, rfl, rfl, rfl, rfl, trivial⟩ (.cons_cons _ (.cons_cons _ (.cons_cons _ (.cons_cons _ (.cons_cons _ (.cons_cons _ (.cons_cons _ (.cons _ (sub_app hs2 (sub_app hs4550 (sub_app hs4553 (sub_app hs4549 (sub_app hs4554 (sub_app hs2701 (.refl _))))))))))))))) ⟨hs4550, A4551, c4552, hs4553, hs4549, A4517, c4518, hs4554, rfl, rfl, ((hle4503.trans hle4548)), h4557, (h4558.trans hln4522), h4559, h4555, (h4556.trans hln4525), h4560⟩
                ·
                  rintro b4502 _ _ ⟨hs4505, A4509, c4510, hs4508, hs4513, A4517, c4518, hs4516, rfl, rfl, hle4503, h4506, hln4522, h4511, h4514, hln4525, h4519⟩
                  have hm := (unc5E hk4529)
                  refine c_seq ?_
                  refine c_region ?_
                  refine t_st rfl (st_lss_f rfl rfl (by omega)) ?_
                  refine t_nil ?_
                  refine x_then_normal ?_
                  refine c_seq ?_
                  refine c_cond_f rfl ?_
                  refine c_exit ?_
                  refine x_then_exit ?_
                  refine x_then_exit ?_
                  refine x_block_out ?_
                  refine x_block_normal ?_
                  refine x_pullb 6 rfl ?_
                  refine x_pullb 6 rfl ?_
                  refine x_pullb 6 rfl ?_
                  refine x_pullb 6 rfl ?_
                  refine x_pullb 6 rfl ?_
                  refine x_pullb 6 rfl ?_
                  refine x_pullb 6 rfl ?_
                  refine x_front6 [_, _, _, _, _, _, _] hs2 hs4505 hs4508 hs4513 hs4516 hs2701 R rfl ?_
                  refine x_front6 [_, _, _, _, _, _, _] hs2701 hs2 hs4505 hs4508 hs4513 hs4516 R rfl ?_
                  refine x_front6 [_, _, _, _, _, _, _] hs4516 hs2701 hs2 hs4505 hs4508 hs4513 R rfl ?_
                  refine x_front6 [_, _, _, _, _, _, _] hs4513 hs4516 hs2701 hs2 hs4505 hs4508 R rfl ?_
                  refine x_front6 [_, _, _, _, _, _, _] hs4508 hs4513 hs4516 hs2701 hs2 hs4505 R rfl ?_
                  refine x_front6 [_, _, _, _, _, _, _] hs4505 hs4508 hs4513 hs4516 hs2701 hs2 R rfl ?_
                  exact x_againM (x4520, l4521, l4523, l4524, l4526) (Option.some.inj hm).symm (e' := [(6, .pointer (some ⟨g2363, 0, none⟩)), (9, .pointer (some ⟨g2850, 0, none⟩)), (11, .pointer (some ⟨g2858, 0, none⟩)), (12, .pointer (some ⟨g2859, 0, none⟩)), (13, .func (.func 61) #[] #[.pointer (some ⟨g2363, 0, none⟩), .pointer (some ⟨g2857, 0, none⟩), .pointer (some ⟨g2859, 0, none⟩), .pointer (some ⟨g2850, 0, none⟩), .pointer (some ⟨g2858, 0, none⟩)]), (16, .int .i64 (x3014))]) (hp' := (g2363, Cl 69 [.pointer (some ⟨g2364, 0, none⟩)]) :: (g2850, Cl 88 [.slice A2848 (l4521).length c2849]) :: (g2858, Cl 22 [.slice A4509 (l4523).length c4510]) :: (g2859, Cl 4 [.bool (x4520)]) :: (g2857, Cl 22 [.slice A2855 (l4524).length c2856]) :: (g11, Cl 73 [.slice A3 (l20).length c4, .slice A16 (l19).length c17, .slice A2365 (l2368).length c2366]) :: (g2364, Cl 73 [.slice A4517 (l4526).length c4518, .slice A16 (l19).length c17, .slice A2702 (l2705).length c2703]) :: (hs2 ++ (hs4505 ++ (hs4508 ++ (hs4513 ++ (hs4516 ++ (hs2701 ++ R))))))) ⟨rfl, rfl, rfl, rfl, rfl, rfl, trivial⟩ (.cons_cons _ (.cons_cons _ (.cons_cons _ (.cons_cons _ (.cons_cons _ (.cons_cons _ (.cons_cons _ (sub_app hs2 (sub_app hs4505 (sub_app hs4508 (sub_app hs4513 (sub_app hs4516 (sub_app hs2701 (.refl _)))))))))))))) ⟨hs4505, A4509, c4510, hs4508, hs4513, A4517, c4518, hs4516, rfl, rfl, ((hle4298.trans (hle4324.trans hle4503))), h4506, hln4522, h4511, h4514, hln4525, h4519⟩
            ·
              rw [if_neg (fun hh => Bool.noConfusion (hh.symm.trans hc4328))] at hm
              refine c_exit ?_
              refine x_then_exit ?_
              refine x_then_exit ?_
              refine x_block_out ?_
              have hm := congrArg some (houtL3795 _ (Option.some.inj hm).symm)
              have hq := (Option.some.inj hm).symm
              refine x_pullb 6 rfl ?_
              refine x_pullb 6 rfl ?_
              refine x_pullb 5 rfl ?_
              refine x_pullb 3 rfl ?_
              refine x_front6 [_, _, _, _, _, _, _] hs2 hs4300 hs4303 hs4308 hs4311 hs2701 R rfl ?_
              refine x_front6 [_, _, _, _, _, _, _] hs2701 hs2 hs4300 hs4303 hs4308 hs4311 R rfl ?_
              refine x_front3 [_, _, _, _, _, _, _] hs4311 hs2701 hs2 (hs4300 ++ (hs4303 ++ (hs4308 ++ R))) rfl ?_
              exact x_join (e' := [(6, .pointer (some ⟨g2363, 0, none⟩)), (12, .pointer (some ⟨g2859, 0, none⟩))]) (hp' := (g2363, Cl 69 [.pointer (some ⟨g2364, 0, none⟩)]) :: (g2859, Cl 4 [.bool (x4315)]) :: (g11, Cl 73 [.slice A3 (l20).length c4, .slice A16 (l19).length c17, .slice A2365 (l2368).length c2366]) :: (g2364, Cl 73 [.slice A4312 (l4321).length c4313, .slice A16 (l19).length c17, .slice A2702 (l2705).length c2703]) :: (hs2 ++ (hs4311 ++ (hs2701 ++ R)))) ⟨rfl, rfl, trivial⟩ (.cons_cons _ (.cons_cons _ (.cons_cons _ (.cons_cons _ (.cons _ (.cons _ (.cons _ (sub_app hs2 (sub_app hs4311 (sub_app hs2701 (sub_skip hs4300 (sub_skip hs4303 (sub_skip hs4308 (.refl _)))))))))))))) ⟨x4315, l4321, A4312, c4313, hs4311, rfl, rfl, (hle4298.trans hle4324), (h4314.le hle4324), hq⟩
        ·
          rintro b3784 _ _ ⟨x3791, l3792, A3788, c3789, hs3787, rfl, rfl, hle3785, h3790, hq4562⟩
          rw [hq4562] at hk3793
          have hm := elimL hk3793
          have hm := (unc2E hm)
          refine c_seq ?_
          refine D_drawS ((g2363, Cl 69 [.pointer (some ⟨g2364, 0, none⟩)]) :: (g2859, Cl 4 [.bool (x3791)]) :: (g11, Cl 73 [.slice A3 (l20).length c4, .slice A16 (l19).length c17, .slice A2365 (l2368).length c2366]) :: (g2364, Cl 73 [.slice A3788 (l3792).length c3789, .slice A16 (l19).length c17, .slice A2702 (l2705).length c2703]) :: (hs2 ++ (hs3787 ++ (hs2701 ++ R)))) mixed ?_
          refine D_st (Base.Le.refl _) 0 rfl (by kernel_rfl) (by kernel_rfl) (by kernel_rfl) rfl (st_load 0 rfl one69 rfl rfl) (.cons_cons _ (.cons_cons _ (.cons_cons _ (.cons_cons _ (sub_app hs2 (sub_app hs3787 (sub_app hs2701 (.refl _)))))))) ?_
          refine D_st (Base.Le.refl _) 1 rfl (by kernel_rfl) (by kernel_rfl) (by kernel_rfl) rfl (st_load 1 rfl one4 rfl rfl) (.cons_cons _ (.cons_cons _ (.cons_cons _ (.cons_cons _ (sub_app hs2 (sub_app hs3787 (sub_app hs2701 (.refl _)))))))) ?_
          refine D_st (Base.Le.refl _) 2 rfl (by kernel_rfl) (by kernel_rfl) (by kernel_rfl) rfl (st_assign rfl) (.cons_cons _ (.cons_cons _ (.cons_cons _ (.cons_cons _ (sub_app hs2 (sub_app hs3787 (sub_app hs2701 (.refl _)))))))) ?_
          refine D_st (Base.Le.refl _) 3 rfl (by kernel_rfl) (by kernel_rfl) (by kernel_rfl) rfl (st_assign rfl) (.cons_cons _ (.cons_cons _ (.cons_cons _ (.cons_cons _ (sub_app hs2 (sub_app hs3787 (sub_app hs2701 (.refl _)))))))) ?_
          refine D_done (by kernel_rfl) ?_
          refine x_then_normal ?_
          refine c_ret ?_
          refine x_front2 [_, _, _, _] hs2 hs3787 (hs2701 ++ R) rfl ?_
          refine x_frz [_, _, _, _] hs3787 (hs2 ++ (hs2701 ++ R)) rfl ?_
          intro b4563 hle4564 hz4565
          have h4566 := OS.frz (l := l3792) h3790 hle4564.cells hz4565
          refine x_front2 [_, _, _, _] hs2 hs2701 R rfl ?_
          refine x_frz [_, _, _, _] hs2701 (hs2 ++ R) rfl ?_
          intro b4567 hle4568 hz4569
          have h4570 := OS.frz (l := l2705) (h2704.le (hle2953.trans (hle3017.trans (hle3785.trans hle4564)))) hle4568.cells hz4569
          refine x_frzb 3 rfl ?_
          intro b4571 hle4572 hz4573
          have hat4574 := at_fz hz4573
          obtain ⟨rfl, rfl, rfl⟩ := some3 hm
          refine x_pullb 2 rfl ?_
          exact retM (rs := [.tmp 4, .tmp 5]) [.pointer (some (⟨g2364, 0, none⟩)), .bool (x3791)] (hle2352.trans (hle2699.trans (hle2953.trans (hle3017.trans (hle3785.trans (hle4564.trans (hle4568.trans hle4572))))))) (by decide) rfl ⟨rfl, ⟨rfl, trivial⟩⟩ rfl (hp' := (g11, Cl 73 [.slice A3 (l20).length c4, .slice A16 (l19).length c17, .slice A2365 (l2368).length c2366]) :: (hs2 ++ R)) (.cons_cons _ (.cons _ (.cons _ (sub_app hs2 (.refl _))))) ⟨(.pointer (some (⟨g2364, 0, none⟩))), A2365, c2366, rfl, rfl, ⟨_, [.slice A3788 (l3792).length c3789, .slice A16 (l19).length c17, .slice A2702 (l2705).length c2703], rfl, ⟨[.slice A3788 (l3792).length c3789], _, rfl, (RT.list_mk (h4566.le (hle4568.trans hle4572))), ⟨[.slice A16 (l19).length c17], _, rfl, (RT.list_mk (h18.le (hle2352.trans (hle2699.trans (hle2953.trans (hle3017.trans (hle3785.trans (hle4564.trans (hle4568.trans hle4572))))))))), (RT.list_mk (h4570.le hle4572))⟩⟩, hat4574⟩, (h2367.le (hle2699.trans (hle2953.trans (hle3017.trans (hle3785.trans (hle4564.trans (hle4568.trans hle4572)))))))⟩

set_option maxRecDepth 20000 in
theorem cMendStart (b : Base) (R : Hp) (s1 : MendGraph) (A2 : Option Addr) (c3 : Nat) (A5 : Option Addr) (c6 : Nat) (A8 : Option Addr) (c9 : Nat) (A11 : Option Addr) (c12 : Nat) (A14 : Option Addr) (c15 : Nat) (h4 : FZ (RT.int .i64) b.w A2 c3 s1.Ready) (h7 : FZ (RT.int .i64) b.w A5 c6 s1.Last) (h10 : FZ (RT.int .i64) b.w A8 c9 s1.Due) (h13 : FZ rMendArc b.w A11 c12 s1.Arcs) (h16 : FZ rMendChoice b.w A14 c15 s1.Choices) (q241 : (Option MendSolver)) (x244 : Bool) (hm : mMendStart s1 = some (q241, x244)) :
    CallsG Try.prog 42 [.agg #[.slice A2 (s1.Ready).length c3, .slice A5 (s1.Last).length c6, .slice A8 (s1.Due).length c9, .slice A11 (s1.Arcs).length c12, .slice A14 (s1.Choices).length c15]] b (R) (fun v b' hp' => ∃ (v242 : Value), .tuple #[v242, .bool (x244)] = v ∧ R = hp' ∧ (RT.ptr rMendSolver).rep b'.w [v242] q241) := by
  refine fn_enterG 50 Try.func42 rfl Try.ntmps42 rfl ?_
  unfold mMendStart at hm
  refine c_seq ?_
  refine c_region ?_
  refine t_do rfl (u_box _ rfl rfl) ?_
  rintro _ _ ⟨g245, rfl, rfl⟩
  refine t_st rfl (st_assign rfl) ?_
  refine t_st rfl (st_assign rfl) ?_
  refine t_nil ?_
  refine x_then_normal ?_
  obtain ⟨⟨l289, l290⟩, hj291, hk291⟩ := bindS hm
  refine c_join (fun b276 e' hp' => ∃ (g288 : Nat), ∃ (A280 : Option Addr), ∃ (c281 : Nat), ∃ (hs279 : Hp), ∃ (A285 : Option Addr), ∃ (c286 : Nat), ∃ (hs284 : Hp), [(1, .pointer (some ⟨g245, 0, none⟩)), (4, .pointer (some ⟨g288, 0, none⟩))] = e' ∧ (g245, Cl 26 [.slice A2 (s1.Ready).length c3, .slice A5 (s1.Last).length c6, .slice A8 (s1.Due).length c9, .slice A11 (s1.Arcs).length c12, .slice A14 (s1.Choices).length c15]) :: (g288, Cl 73 [.slice A280 (l289).length c281, .slice A5 (s1.Last).length c6, .slice A285 (l290).length c286]) :: (hs279 ++ (hs284 ++ R)) = hp' ∧ b.Le b276 ∧ OS 3 (OT.fr (RT.int .i64)) b276.w (.slice A280 l289.length c281) l289 hs279 ∧ OS 23 (OT.fr (RT.list rMendArc)) b276.w (.slice A285 l290.length c286) l290 hs284) ?_ ?_
  ·
    have hm := hj291
    obtain ⟨l307, hcl308, hm⟩ := bindS hm
    obtain ⟨m315, h316, hm⟩ := bindS hm
    refine D_drawS ((g245, Cl 26 [.slice A2 (s1.Ready).length c3, .slice A5 (s1.Last).length c6, .slice A8 (s1.Due).length c9, .slice A11 (s1.Arcs).length c12, .slice A14 (s1.Choices).length c15]) :: R) mixed ?_
    refine D_st (Base.Le.refl _) 0 rfl (by kernel_rfl) (by kernel_rfl) (by kernel_rfl) rfl (st_field rfl fld26_0) (.cons_cons _ (.refl _)) ?_
    refine D_st (Base.Le.refl _) 1 rfl (by kernel_rfl) (by kernel_rfl) (by kernel_rfl) rfl (st_load 0 rfl one22 rfl rfl) (.cons_cons _ (.refl _)) ?_
    refine D_st (Base.Le.refl _) 3 rfl (by kernel_rfl) (by kernel_rfl) (by kernel_rfl) rfl (st_field rfl fld26_1) (.cons_cons _ (.refl _)) ?_
    refine D_st (Base.Le.refl _) 4 rfl (by kernel_rfl) (by kernel_rfl) (by kernel_rfl) rfl (st_load 0 rfl one22 rfl rfl) (.cons_cons _ (.refl _)) ?_
    refine D_st (Base.Le.refl _) 5 rfl (by kernel_rfl) (by kernel_rfl) (by kernel_rfl) rfl (st_field rfl fld26_0) (.cons_cons _ (.refl _)) ?_
    refine D_st (Base.Le.refl _) 6 rfl (by kernel_rfl) (by kernel_rfl) (by kernel_rfl) rfl (st_load 0 rfl one22 rfl rfl) (.cons_cons _ (.refl _)) ?_
    refine D_st (Base.Le.refl _) 7 rfl (by kernel_rfl) (by kernel_rfl) (by kernel_rfl) rfl (st_len rfl sl22) (.cons_cons _ (.refl _)) ?_
    have h316 := mkLen_some h316
    refine D_all [2, 8] (by kernel_rfl) rfl ?_
    refine R_callGl (Base.Le.refl _) rfl rfl _ call12 rfl (cSlicesClone _ _ s1.Ready A2 c3 h4 l307 hcl308) ?_ ?_
    ·
      rintro _ b309 _ hle310 ⟨A311, c312, hs313, rfl, rfl, h314⟩
      refine ⟨.inr (sub_skip hs313 (.cons_cons _ (.refl _))), ?_⟩
      refine d_in1 [] [_] hs313 R rfl ?_
      refine D_all [8] (by kernel_rfl) rfl ?_
      refine R_do hle310 rfl rfl (u_mkOS (r := (RT.list rMendArc)) [_] (hs313 ++ R) [.slice none 0 0] ([] : List MendArc) m315 rfl h316.1 rfl rfl sl35 inf23 rfl rfl rfl (by decide) (RT.list_mk FZ.nil) h316.2.1 h316.2.2) ?_ ?_
      ·
        rintro _ _ ⟨hs317, rfl, h318⟩
        obtain ⟨A319, c320, rfl, _⟩ := h318.form
        refine ⟨.inr (.cons_cons _ (sub_skip hs317 (sub_skip hs313 (.refl _)))), ?_⟩
        refine D_all [9] (by kernel_rfl) rfl ?_
        refine R_do hle310 rfl rfl (Stable.does (st_build (v := .agg #[.slice A311 (l307).length c312, .slice A5 (s1.Last).length c6, .slice A319 (List.replicate m315 (([] : List MendArc) : (List MendArc))).length c320]) [(0, .slice A311 (l307).length c312), (1, .slice A5 (s1.Last).length c6), (2, .slice A319 (List.replicate m315 (([] : List MendArc) : (List MendArc))).length c320)] rfl (fun _ => by kernel_rfl))) ?_ ?_
        ·
          rintro _ _ ⟨rfl, rfl⟩
          refine ⟨.inr (.cons_cons _ (sub_skip hs317 (sub_skip hs313 (.refl _)))), ?_⟩
          refine D_all [10] (by kernel_rfl) rfl ?_
          refine R_do hle310 rfl rfl (u_box _ rfl rfl) ?_ ?_
          ·
            rintro _ _ ⟨g321, rfl, rfl⟩
            refine ⟨.inr (.cons _ (.cons_cons _ (sub_skip hs317 (sub_skip hs313 (.refl _))))), ?_⟩
            refine D_st hle310 11 rfl (by kernel_rfl) (by kernel_rfl) (by kernel_rfl) rfl (st_assign rfl) (.cons _ (.cons_cons _ (sub_skip hs317 (sub_skip hs313 (.refl _))))) ?_
            refine D_done (by kernel_rfl) ?_
            obtain ⟨rfl, rfl⟩ := some2 hm
            refine x_pullb 1 rfl ?_
            refine x_front2 [_, _] hs317 hs313 R rfl ?_
            exact x_join (e' := [(1, .pointer (some ⟨g245, 0, none⟩)), (4, .pointer (some ⟨g321, 0, none⟩))]) (hp' := (g245, Cl 26 [.slice A2 (s1.Ready).length c3, .slice A5 (s1.Last).length c6, .slice A8 (s1.Due).length c9, .slice A11 (s1.Arcs).length c12, .slice A14 (s1.Choices).length c15]) :: (g321, Cl 73 [.slice A311 (l307).length c312, .slice A5 (s1.Last).length c6, .slice A319 (List.replicate m315 (([] : List MendArc) : (List MendArc))).length c320]) :: (hs313 ++ (hs317 ++ R))) ⟨rfl, rfl, trivial⟩ (.cons_cons _ (.cons_cons _ (sub_app hs313 (sub_app hs317 (.refl _))))) ⟨g321, A311, c312, hs313, A319, c320, hs317, rfl, rfl, hle310, h314, h318⟩
          exact R_nil
        exact R_nil
      exact R_nil
    refine R_do (Base.Le.refl _) rfl rfl (u_mkOS (r := (RT.list rMendArc)) [_] R [.slice none 0 0] ([] : List MendArc) m315 rfl h316.1 rfl rfl sl35 inf23 rfl rfl rfl (by decide) (RT.list_mk FZ.nil) h316.2.1 h316.2.2) ?_ ?_
    ·
      rintro _ _ ⟨hs317, rfl, h318⟩
      obtain ⟨A319, c320, rfl, _⟩ := h318.form
      refine ⟨.inr (.cons_cons _ (sub_skip hs317 (.refl _))), ?_⟩
      refine D_all [2] (by kernel_rfl) rfl ?_
      refine R_callGl (Base.Le.refl _) rfl rfl _ call12 rfl (cSlicesClone _ _ s1.Ready A2 c3 h4 l307 hcl308) ?_ ?_
      ·
        rintro _ b309 _ hle310 ⟨A311, c312, hs313, rfl, rfl, h314⟩
        refine ⟨.inr (sub_skip hs313 (.cons_cons _ (sub_skip hs317 (.refl _)))), ?_⟩
        refine d_in1 [] [_] hs313 (hs317 ++ R) rfl ?_
        refine D_all [9] (by kernel_rfl) rfl ?_
        refine R_do hle310 rfl rfl (Stable.does (st_build (v := .agg #[.slice A311 (l307).length c312, .slice A5 (s1.Last).length c6, .slice A319 (List.replicate m315 (([] : List MendArc) : (List MendArc))).length c320]) [(0, .slice A311 (l307).length c312), (1, .slice A5 (s1.Last).length c6), (2, .slice A319 (List.replicate m315 (([] : List MendArc) : (List MendArc))).length c320)] rfl (fun _ => by kernel_rfl))) ?_ ?_
        ·
          rintro _ _ ⟨rfl, rfl⟩
          refine ⟨.inr (.cons_cons _ (sub_skip hs313 (sub_skip hs317 (.refl _)))), ?_⟩
          refine D_all [10] (by kernel_rfl) rfl ?_
          refine R_do hle310 rfl rfl (u_box _ rfl rfl) ?_ ?_
          ·
            rintro _ _ ⟨g321, rfl, rfl⟩
            refine ⟨.inr (.cons _ (.cons_cons _ (sub_skip hs313 (sub_skip hs317 (.refl _))))), ?_⟩
            refine D_st hle310 11 rfl (by kernel_rfl) (by kernel_rfl) (by kernel_rfl) rfl (st_assign rfl) (.cons _ (.cons_cons _ (sub_skip hs313 (sub_skip hs317 (.refl _))))) ?_
            refine D_done (by kernel_rfl) ?_
            obtain ⟨rfl, rfl⟩ := some2 hm
            refine x_pullb 1 rfl ?_
            refine x_front2 [_, _] hs313 hs317 R rfl ?_
            refine x_front2 [_, _] hs317 hs313 R rfl ?_
            exact x_join (e' := [(1, .pointer (some ⟨g245, 0, none⟩)), (4, .pointer (some ⟨g321, 0, none⟩))]) (hp' := (g245, Cl 26 [.slice A2 (s1.Ready).length c3, .slice A5 (s1.Last).length c6, .slice A8 (s1.Due).length c9, .slice A11 (s1.Arcs).length c12, .slice A14 (s1.Choices).length c15]) :: (g321, Cl 73 [.slice A311 (l307).length c312, .slice A5 (s1.Last).length c6, .slice A319 (List.replicate m315 (([] : List MendArc) : (List MendArc))).length c320]) :: (hs313 ++ (hs317 ++ R))) ⟨rfl, rfl, trivial⟩ (.cons_cons _ (.cons_cons _ (sub_app hs313 (sub_app hs317 (.refl _))))) ⟨g321, A311, c312, hs313, A319, c320, hs317, rfl, rfl, hle310, h314, (h318.le hle310)⟩
          exact R_nil
        exact R_nil
      exact R_nil
    exact R_nil
  ·
    rintro b276 _ _ ⟨g288, A280, c281, hs279, A285, c286, hs284, rfl, rfl, hle277, h282, h287⟩
    have hm := (unc2E hk291)
    refine c_seq ?_
    refine c_seq ?_
    refine c_region ?_
    refine t_st rfl (st_move rfl) ?_
    refine t_st rfl (st_nil rfl) ?_
    refine t_st rfl (st_field rfl fld73_0) ?_
    refine t_st rfl (st_load 1 rfl one22 rfl rfl) ?_
    refine t_st rfl (st_len rfl sl22) ?_
    refine t_st rfl (st_move rfl) ?_
    refine t_nil ?_
    refine x_then_normal ?_
    refine c_block ?_
    have hb323 := (OS.len h282)
    refine c_pullb 1 rfl ?_
    refine c_pullb 1 rfl ?_
    refine c_front2 [_, _] hs279 hs284 R rfl ?_
    refine c_front2 [_, _] hs284 hs279 R rfl ?_
    obtain ⟨t390, hl391, hk392⟩ := bindS hm
    refine c_forM (fun k389 => fun _ => fun b387 e' hp' => [(1, .pointer (some ⟨g245, 0, none⟩)), (4, .pointer (some ⟨g288, 0, none⟩)), (21, .slice A280 (l289).length c281), (22, .int .i64 ((l289.length : Int))), (23, .int .i64 ((k389 : Int)))] = e' ∧ (g245, Cl 26 [.slice A2 (s1.Ready).length c3, .slice A5 (s1.Last).length c6, .slice A8 (s1.Due).length c9, .slice A11 (s1.Arcs).length c12, .slice A14 (s1.Choices).length c15]) :: (g288, Cl 73 [.slice A280 (l289).length c281, .slice A5 (s1.Last).length c6, .slice A285 (l290).length c286]) :: (hs279 ++ (hs284 ++ R)) = hp' ∧ b276.Le b387) hl391 (e' := [(1, .pointer (some ⟨g245, 0, none⟩)), (4, .pointer (some ⟨g288, 0, none⟩)), (21, .slice A280 (l289).length c281), (22, .int .i64 ((l289.length : Int))), (23, .int .i64 0)]) (hp' := (g245, Cl 26 [.slice A2 (s1.Ready).length c3, .slice A5 (s1.Last).length c6, .slice A8 (s1.Due).length c9, .slice A11 (s1.Arcs).length c12, .slice A14 (s1.Choices).length c15]) :: (g288, Cl 73 [.slice A280 (l289).length c281, .slice A5 (s1.Last).length c6, .slice A285 (l290).length c286]) :: (hs279 ++ (hs284 ++ R))) ⟨rfl, rfl, rfl, rfl, rfl, trivial⟩ (.cons_cons _ (.cons_cons _ (sub_app hs279 (sub_app hs284 (.refl _))))) ⟨rfl, rfl, (Base.Le.refl _)⟩ ?_ ?_
    ·
      rintro k389 _ b387 _ _ oL322 hknL322 ⟨rfl, rfl, hle388⟩ hstepL322 houtL322
      unfold mMendStart_L322 at hstepL322
      have hm := hstepL322
      refine c_seq ?_
      refine c_region ?_
      refine t_st rfl (st_lss_t rfl rfl (by omega)) ?_
      refine t_nil ?_
      refine x_then_normal ?_
      refine c_seq ?_
      refine c_cond_t rfl ?_
      refine c_skip ?_
      refine x_then_normal ?_
      refine c_seq ?_
      refine c_block ?_
      refine c_seq ?_
      refine c_region ?_
      refine t_st rfl (st_move rfl) ?_
      obtain ⟨x393, h394, hm⟩ := bindS hm
      obtain ⟨j395, hj396, hx397⟩ := idx_some h394
      obtain ⟨cs398, hs403, P404, P405, hq406, hr399, hcs400, hA401, hlt402, hb407, hho408⟩ := OS.get (sz := 1) rfl (by decide) (h282.le hle388) hx397
      obtain ⟨rfl, rfl⟩ := hr399
      refine t_st rfl (st_index_old j395 rfl rfl hj396 hlt402 hA401 sl22) ?_
      refine t_st rfl (st_load_rd rfl one3 (fun w ho => hcs400 w _ ho (.cons _ (.cons _ (List.sublist_append_left _ _))) 0 _ rfl)) ?_
      refine t_st rfl (st_assign rfl) ?_
      refine t_st rfl (st_assign rfl) ?_
      refine t_nil ?_
      refine x_then_normal ?_
      obtain ⟨x432, hj433, hk433⟩ := bindS hm
      refine c_join (fun b430 e' hp' => [(1, .pointer (some ⟨g245, 0, none⟩)), (4, .pointer (some ⟨g288, 0, none⟩)), (21, .slice A280 (l289).length c281), (22, .int .i64 ((l289.length : Int))), (23, .int .i64 ((k389 : Int))), (42, .bool (x432))] = e' ∧ (g245, Cl 26 [.slice A2 (s1.Ready).length c3, .slice A5 (s1.Last).length c6, .slice A8 (s1.Due).length c9, .slice A11 (s1.Arcs).length c12, .slice A14 (s1.Choices).length c15]) :: (g288, Cl 73 [.slice A280 (l289).length c281, .slice A5 (s1.Last).length c6, .slice A285 (l290).length c286]) :: (hs279 ++ (hs284 ++ R)) = hp' ∧ b387.Le b430) ?_ ?_
      ·
        have hm := hj433
        refine c_region ?_
        refine t_st rfl (st_field rfl fld26_1) ?_
        refine t_st rfl (st_load 0 rfl one22 rfl rfl) ?_
        refine t_st rfl (st_move rfl) ?_
        obtain ⟨x434, h435, hm⟩ := bindS hm
        obtain ⟨j436, hj437, hx438⟩ := idx_some h435
        obtain ⟨cs439, hr440, hcs441, hA442, hlt443⟩ := FZ.get (sz := 1) rfl (by decide) (h7.le (hle277.trans hle388)) hx438
        obtain rfl := hr440
        refine t_st rfl (st_index_old j436 rfl rfl hj437 hlt443 hA442 sl22) ?_
        refine t_st rfl (st_load_old rfl one3 (hcs441 0 _ rfl)) ?_
        refine t_bool rfl (st_geq rfl rfl) (fun hc444 => ?_) (fun hc444 => ?_)
        ·
          rw [if_pos hc444] at hm
          refine t_st rfl (st_move rfl) ?_
          refine t_yes 34 rfl rfl rfl ?_
          refine t_st rfl (st_move rfl) ?_
          refine t_yes 34 rfl rfl rfl ?_
          refine t_st rfl (st_field rfl fld26_1) ?_
          refine t_yes 34 rfl rfl rfl ?_
          refine t_st rfl (st_load 0 rfl one22 rfl rfl) ?_
          refine t_yes 34 rfl rfl rfl ?_
          refine t_st rfl (st_move rfl) ?_
          refine t_yes 34 rfl rfl rfl ?_
          obtain ⟨x445, h446, hm⟩ := bindS hm
          obtain ⟨j447, hj448, hx449⟩ := idx_some h446
          obtain ⟨cs450, hr451, hcs452, hA453, hlt454⟩ := FZ.get (sz := 1) rfl (by decide) (h7.le (hle277.trans hle388)) hx449
          obtain rfl := hr451
          refine t_st rfl (st_index_old j447 rfl rfl hj448 hlt454 hA453 sl22) ?_
          refine t_yes 34 rfl rfl rfl ?_
          refine t_st rfl (st_load_old rfl one3 (hcs452 0 _ rfl)) ?_
          refine t_yes 34 rfl rfl rfl ?_
          refine t_st rfl (st_gtr rfl rfl) ?_
          refine t_st rfl (st_pick_t rfl rfl) ?_
          refine t_nil ?_
          obtain rfl := some1 hm
          refine x_pullb 1 rfl ?_
          refine x_pullb 1 rfl ?_
          refine x_front2 [_, _] hs279 hs284 R rfl ?_
          refine x_front2 [_, _] hs284 hs279 R rfl ?_
          exact x_join (e' := [(1, .pointer (some ⟨g245, 0, none⟩)), (4, .pointer (some ⟨g288, 0, none⟩)), (21, .slice A280 (l289).length c281), (22, .int .i64 ((l289.length : Int))), (23, .int .i64 ((k389 : Int))), (42, .bool (decide (x445 < x393)))]) (hp' := (g245, Cl 26 [.slice A2 (s1.Ready).length c3, .slice A5 (s1.Last).length c6, .slice A8 (s1.Due).length c9, .slice A11 (s1.Arcs).length c12, .slice A14 (s1.Choices).length c15]) :: (g288, Cl 73 [.slice A280 (l289).length c281, .slice A5 (s1.Last).length c6, .slice A285 (l290).length c286]) :: (hs279 ++ (hs284 ++ R))) ⟨rfl, rfl, rfl, rfl, rfl, rfl, trivial⟩ (.cons_cons _ (.cons_cons _ (sub_app hs279 (sub_app hs284 (.refl _))))) ⟨rfl, rfl, (Base.Le.refl _)⟩
        ·
          rw [if_neg hc444] at hm
          refine t_st rfl (st_move rfl) ?_
          refine t_no 34 rfl rfl rfl rfl rfl ?_
          refine t_no 34 rfl rfl rfl rfl rfl ?_
          refine t_no 34 rfl rfl rfl rfl rfl ?_
          refine t_no 34 rfl rfl rfl rfl rfl ?_
          refine t_no 34 rfl rfl rfl rfl rfl ?_
          refine t_no 34 rfl rfl rfl rfl rfl ?_
          refine t_no 34 rfl rfl rfl rfl rfl ?_
          refine t_st rfl (st_pick_f rfl rfl) ?_
          refine t_nil ?_
          obtain rfl := some1 hm
          refine x_pullb 1 rfl ?_
          refine x_pullb 1 rfl ?_
          refine x_front2 [_, _] hs279 hs284 R rfl ?_
          refine x_front2 [_, _] hs284 hs279 R rfl ?_
          exact x_join (e' := [(1, .pointer (some ⟨g245, 0, none⟩)), (4, .pointer (some ⟨g288, 0, none⟩)), (21, .slice A280 (l289).length c281), (22, .int .i64 ((l289.length : Int))), (23, .int .i64 ((k389 : Int))), (42, .bool (false))]) (hp' := (g245, Cl 26 [.slice A2 (s1.Ready).length c3, .slice A5 (s1.Last).length c6, .slice A8 (s1.Due).length c9, .slice A11 (s1.Arcs).length c12, .slice A14 (s1.Choices).length c15]) :: (g288, Cl 73 [.slice A280 (l289).length c281, .slice A5 (s1.Last).length c6, .slice A285 (l290).length c286]) :: (hs279 ++ (hs284 ++ R))) ⟨rfl, rfl, rfl, rfl, rfl, rfl, trivial⟩ (.cons_cons _ (.cons_cons _ (sub_app hs279 (sub_app hs284 (.refl _))))) ⟨rfl, rfl, (Base.Le.refl _)⟩
      ·
        rintro b430 _ _ ⟨rfl, rfl, hle431⟩
        have hm := hk433
        refine c_cond _ rfl (fun hc455 => ?_) (fun hc455 => ?_)
        ·
          rw [if_pos hc455] at hm
          refine c_seq ?_
          refine c_region ?_
          refine t_st rfl (st_assign rfl) ?_
          refine t_st rfl (st_assign rfl) ?_
          refine t_nil ?_
          refine x_then_normal ?_
          refine c_ret ?_
          refine x_block_ret ?_
          refine x_then_ret ?_
          refine x_then_ret ?_
          refine x_block_ret ?_
          refine x_then_ret ?_
          have hq456 := houtL322 _ (Option.some.inj hm).symm
          rw [hq456] at hk392
          have hm := elimR hk392
          obtain ⟨rfl, rfl⟩ := some2 hm
          exact retM (rs := [.tmp 2, .tmp 3]) [.pointer none, .bool (false)] (hle277.trans (hle388.trans hle431)) (by decide) rfl ⟨rfl, ⟨rfl, trivial⟩⟩ rfl (hp' := R) (.cons _ (.cons _ (sub_skip hs279 (sub_skip hs284 (.refl _))))) ⟨(.pointer none), rfl, rfl, rfl⟩
        ·
          rw [if_neg (fun hh => Bool.noConfusion (hh.symm.trans hc455))] at hm
          refine c_skip ?_
          refine x_block_normal ?_
          refine x_then_normal ?_
          refine c_region ?_
          refine t_st rfl (st_add rfl rfl (by omega)) ?_
          refine t_st rfl (st_move rfl) ?_
          refine t_nil ?_
          refine x_pullb 1 rfl ?_
          refine x_pullb 1 rfl ?_
          refine x_front2 [_, _] hs279 hs284 R rfl ?_
          refine x_front2 [_, _] hs284 hs279 R rfl ?_
          exact x_againM () (Option.some.inj hm).symm (e' := [(1, .pointer (some ⟨g245, 0, none⟩)), (4, .pointer (some ⟨g288, 0, none⟩)), (21, .slice A280 (l289).length c281), (22, .int .i64 ((l289.length : Int))), (23, .int .i64 ((k389 : Int) + 1))]) (hp' := (g245, Cl 26 [.slice A2 (s1.Ready).length c3, .slice A5 (s1.Last).length c6, .slice A8 (s1.Due).length c9, .slice A11 (s1.Arcs).length c12, .slice A14 (s1.Choices).length c15]) :: (g288, Cl 73 [.slice A280 (l289).length c281, .slice A5 (s1.Last).length c6, .slice A285 (l290).length c286]) :: (hs279 ++ (hs284 ++ R))) ⟨rfl, rfl, rfl, rfl, rfl, trivial⟩ (.cons_cons _ (.cons_cons _ (sub_app hs279 (sub_app hs284 (.refl _))))) ⟨rfl, rfl, ((hle388.trans hle431))⟩
    ·
      rintro _ b387 _ _ ⟨rfl, rfl, hle388⟩ hq457
      rw [hq457] at hk392
      have hm := elimL hk392
      refine c_seq ?_
      refine c_region ?_
      refine t_st rfl (st_lss_f rfl rfl (by omega)) ?_
      refine t_nil ?_
      refine x_then_normal ?_
      refine c_seq ?_
      refine c_cond_f rfl ?_
      refine c_exit ?_
      refine x_then_exit ?_
      refine x_then_exit ?_
      refine x_block_out ?_
      refine x_then_normal ?_
      refine c_seq ?_
      refine c_region ?_
      refine t_st rfl (st_move rfl) ?_
      refine t_st rfl (st_field rfl fld26_3) ?_
      refine t_st rfl (st_load 0 rfl one23 rfl rfl) ?_
      obtain ⟨⟨q458, x459, l460⟩, hcl461, hm⟩ := bindS hm
      have hm := (unc3E hm)
      refine t_pullb 1 rfl ?_
      refine t_front2 [_, _] hs279 hs284 R rfl ?_
      refine t_front2 [_, _] hs284 hs279 R rfl ?_
      refine t_out2 [_] [_] hs279 hs284 R rfl ?_
      refine t_callG _ rfl call41 rfl (cMendSolverWith _ _ s1.Arcs s1.Last l289 l290 g288 A11 c12 A5 c6 A280 c281 hs279 A285 c286 hs284 (h13.le (hle277.trans hle388)) (h7.le (hle277.trans hle388)) (h282.le hle388) (h287.le hle388) q458 x459 l460 hcl461) ?_
      rintro _ b462 _ hle463 ⟨v464, A465, c466, rfl, rfl, h467, h468⟩
      refine t_in1 [_] [_] hs279 R rfl ?_
      refine t_st rfl (st_extract rfl rfl) ?_
      refine t_st rfl (st_extract rfl rfl) ?_
      refine t_st rfl (st_assign rfl) ?_
      refine t_st rfl (st_assign rfl) ?_
      refine t_nil ?_
      refine x_then_normal ?_
      refine c_ret ?_
      obtain ⟨rfl, rfl⟩ := some2 hm
      exact retM (rs := [.tmp 2, .tmp 3]) [v464, .bool (x459)] (hle277.trans (hle388.trans hle463)) (by decide) rfl ⟨rfl, ⟨rfl, trivial⟩⟩ rfl (hp' := R) (.cons _ (.cons _ (sub_skip hs279 (.refl _)))) ⟨v464, rfl, rfl, h467⟩

set_option maxRecDepth 20000 in
theorem cMendPicked (b : Base) (R : Hp) (s1 : MendGraph) (l20 : (List Int)) (A2 : Option Addr) (c3 : Nat) (A5 : Option Addr) (c6 : Nat) (A8 : Option Addr) (c9 : Nat) (A11 : Option Addr) (c12 : Nat) (A14 : Option Addr) (c15 : Nat) (A17 : Option Addr) (c18 : Nat) (h4 : FZ (RT.int .i64) b.w A2 c3 s1.Ready) (h7 : FZ (RT.int .i64) b.w A5 c6 s1.Last) (h10 : FZ (RT.int .i64) b.w A8 c9 s1.Due) (h13 : FZ rMendArc b.w A11 c12 s1.Arcs) (h16 : FZ rMendChoice b.w A14 c15 s1.Choices) (h19 : FZ (RT.int .i64) b.w A17 c18 l20) (q124 : (Option MendSolver)) (x127 : Bool) (hm : mMendPicked s1 l20 = some (q124, x127)) :
    CallsG Try.prog 34 [.agg #[.slice A2 (s1.Ready).length c3, .slice A5 (s1.Last).length c6, .slice A8 (s1.Due).length c9, .slice A11 (s1.Arcs).length c12, .slice A14 (s1.Choices).length c15], .slice A17 (l20).length c18] b (R) (fun v b' hp' => ∃ (v125 : Value), .tuple #[v125, .bool (x127)] = v ∧ R = hp' ∧ (RT.ptr rMendSolver).rep b'.w [v125] q124) := by
  refine fn_enterG 45 Try.func34 rfl Try.ntmps34 rfl ?_
  unfold mMendPicked at hm
  refine c_seq ?_
  refine c_region ?_
  refine t_do rfl (u_box _ rfl rfl) ?_
  rintro _ _ ⟨g128, rfl, rfl⟩
  refine t_st rfl (st_assign rfl) ?_
  refine t_st rfl (st_assign rfl) ?_
  refine t_nil ?_
  refine x_then_normal ?_
  refine c_seq ?_
  refine c_region ?_
  refine t_st rfl (st_loadD (vs := [_, _, _, _, _]) 0 5 rfl agg26 rfl rfl rfl) ?_
  obtain ⟨⟨q129, x130⟩, hcl131, hm⟩ := bindS hm
  have hm := (unc2E hm)
  refine t_callG _ rfl call42 rfl (cMendStart _ _ s1 A2 c3 A5 c6 A8 c9 A11 c12 A14 c15 h4 h7 h10 h13 h16 q129 x130 hcl131) ?_
  rintro _ b132 _ hle133 ⟨v134, rfl, rfl, h135⟩
  refine t_st rfl (st_move rfl) ?_
  refine t_st rfl (st_extract rfl rfl) ?_
  refine t_st rfl (st_extract rfl rfl) ?_
  refine t_st rfl (st_assign rfl) ?_
  refine t_st rfl (st_assign rfl) ?_
  refine t_nil ?_
  refine x_then_normal ?_
  refine c_seq ?_
  refine c_seq ?_
  refine c_region ?_
  refine t_st rfl (st_move rfl) ?_
  refine t_st rfl (st_len rfl sl22) ?_
  refine t_st rfl (st_move rfl) ?_
  refine t_nil ?_
  refine x_then_normal ?_
  refine c_block ?_
  have hb137 := (FZ.bd (h19.le hle133))
  obtain ⟨_, hl185, hk186⟩ := bindS hm
  refine c_forS (fun k184 => fun _ => fun b182 e' hp' => [(2, .pointer (some ⟨g128, 0, none⟩)), (6, v134), (7, .bool (x130)), (15, .slice A17 (l20).length c18), (16, .int .i64 ((l20.length : Int))), (17, .int .i64 ((k184 : Int)))] = e' ∧ (g128, Cl 26 [.slice A2 (s1.Ready).length c3, .slice A5 (s1.Last).length c6, .slice A8 (s1.Due).length c9, .slice A11 (s1.Arcs).length c12, .slice A14 (s1.Choices).length c15]) :: R = hp' ∧ b132.Le b182) hl185 (e' := [(2, .pointer (some ⟨g128, 0, none⟩)), (6, v134), (7, .bool (x130)), (15, .slice A17 (l20).length c18), (16, .int .i64 ((l20.length : Int))), (17, .int .i64 0)]) (hp' := (g128, Cl 26 [.slice A2 (s1.Ready).length c3, .slice A5 (s1.Last).length c6, .slice A8 (s1.Due).length c9, .slice A11 (s1.Arcs).length c12, .slice A14 (s1.Choices).length c15]) :: R) ⟨rfl, rfl, rfl, rfl, rfl, rfl, trivial⟩ (.cons_cons _ (.refl _)) ⟨rfl, rfl, (Base.Le.refl _)⟩ ?_ ?_
  ·
    rintro k184 _ b182 _ _ oL136 hknL136 ⟨rfl, rfl, hle183⟩ hstepL136
    unfold mMendPicked_L136 at hstepL136
    have hm := hstepL136
    refine c_seq ?_
    refine c_region ?_
    refine t_st rfl (st_lss_t rfl rfl (by omega)) ?_
    refine t_nil ?_
    refine x_then_normal ?_
    refine c_seq ?_
    refine c_cond_t rfl ?_
    refine c_skip ?_
    refine x_then_normal ?_
    refine c_seq ?_
    refine c_block ?_
    refine c_seq ?_
    refine c_region ?_
    refine t_st rfl (st_move rfl) ?_
    obtain ⟨x187, h188, hm⟩ := bindS hm
    obtain ⟨j189, hj190, hx191⟩ := idx_some h188
    obtain ⟨cs192, hr193, hcs194, hA195, hlt196⟩ := FZ.get (sz := 1) rfl (by decide) (h19.le (hle133.trans hle183)) hx191
    obtain rfl := hr193
    refine t_st rfl (st_index_old j189 rfl rfl hj190 hlt196 hA195 sl22) ?_
    refine t_st rfl (st_load_old rfl one3 (hcs194 0 _ rfl)) ?_
    refine t_st rfl (st_assign rfl) ?_
    refine t_st rfl (st_assign rfl) ?_
    refine t_nil ?_
    refine x_then_normal ?_
    obtain ⟨x200, hj201, hk201⟩ := bindS hm
    refine c_join (fun b198 e' hp' => [(2, .pointer (some ⟨g128, 0, none⟩)), (6, v134), (7, .bool (x130)), (8, .int .i64 ((k184 : Int))), (9, .int .i64 (x187)), (15, .slice A17 (l20).length c18), (16, .int .i64 ((l20.length : Int))), (17, .int .i64 ((k184 : Int))), (26, .bool (x200))] = e' ∧ (g128, Cl 26 [.slice A2 (s1.Ready).length c3, .slice A5 (s1.Last).length c6, .slice A8 (s1.Due).length c9, .slice A11 (s1.Arcs).length c12, .slice A14 (s1.Choices).length c15]) :: R = hp' ∧ b182.Le b198) ?_ ?_
    ·
      have hm := hj201
      refine c_region ?_
      refine t_st rfl (st_move rfl) ?_
      rcases Bool.eq_false_or_eq_true x130 with hc202 | hc202
      ·
        rw [if_pos hc202] at hm
        refine t_resp 22 rfl (v' := .bool true) (by rw [hc202] <;> rfl) ?_
        refine t_st rfl (st_move rfl) ?_
        refine t_yes 23 rfl rfl rfl ?_
        refine t_st rfl (st_move rfl) ?_
        refine t_yes 23 rfl rfl rfl ?_
        refine t_st rfl (st_gtr rfl rfl) ?_
        refine t_st rfl (st_pick_t rfl rfl) ?_
        refine t_nil ?_
        obtain rfl := some1 hm
        exact x_join (e' := [(2, .pointer (some ⟨g128, 0, none⟩)), (6, v134), (7, .bool (x130)), (8, .int .i64 ((k184 : Int))), (9, .int .i64 (x187)), (15, .slice A17 (l20).length c18), (16, .int .i64 ((l20.length : Int))), (17, .int .i64 ((k184 : Int))), (26, .bool (decide (0 < x187)))]) (hp' := (g128, Cl 26 [.slice A2 (s1.Ready).length c3, .slice A5 (s1.Last).length c6, .slice A8 (s1.Due).length c9, .slice A11 (s1.Arcs).length c12, .slice A14 (s1.Choices).length c15]) :: R) ⟨rfl, rfl, rfl, rfl, rfl, rfl, rfl, rfl, rfl, trivial⟩ (.cons_cons _ (.refl _)) ⟨rfl, rfl, (Base.Le.refl _)⟩
      ·
        rw [if_neg (fun hh => Bool.noConfusion (hh.symm.trans hc202))] at hm
        refine t_resp 22 rfl (v' := .bool false) (by rw [hc202] <;> rfl) ?_
        refine t_st rfl (st_move rfl) ?_
        refine t_no 23 rfl rfl rfl rfl rfl ?_
        refine t_no 23 rfl rfl rfl rfl rfl ?_
        refine t_st rfl (st_pick_f rfl rfl) ?_
        refine t_nil ?_
        obtain rfl := some1 hm
        exact x_join (e' := [(2, .pointer (some ⟨g128, 0, none⟩)), (6, v134), (7, .bool (x130)), (8, .int .i64 ((k184 : Int))), (9, .int .i64 (x187)), (15, .slice A17 (l20).length c18), (16, .int .i64 ((l20.length : Int))), (17, .int .i64 ((k184 : Int))), (26, .bool (false))]) (hp' := (g128, Cl 26 [.slice A2 (s1.Ready).length c3, .slice A5 (s1.Last).length c6, .slice A8 (s1.Due).length c9, .slice A11 (s1.Arcs).length c12, .slice A14 (s1.Choices).length c15]) :: R) ⟨rfl, rfl, rfl, rfl, rfl, rfl, rfl, rfl, rfl, trivial⟩ (.cons_cons _ (.refl _)) ⟨rfl, rfl, (Base.Le.refl _)⟩
    ·
      rintro b198 _ _ ⟨rfl, rfl, hle199⟩
      have hm := hk201
      refine c_cond _ rfl (fun hc203 => ?_) (fun hc203 => ?_)
      ·
        rw [if_pos hc203] at hm
        refine c_region ?_
        refine t_st rfl (st_move rfl) ?_
        refine t_st rfl (st_field rfl fld26_4) ?_
        refine t_st rfl (st_load 0 rfl one24 rfl rfl) ?_
        refine t_st rfl (st_move rfl) ?_
        obtain ⟨x204, h205, hm⟩ := bindS hm
        obtain ⟨j206, hj207, hx208⟩ := idx_some h205
        obtain ⟨cs209, hr210, hcs211, hA212, hlt213⟩ := FZ.get (sz := 1) rfl (by decide) (h16.le (hle133.trans (hle183.trans hle199))) hx208
        obtain ⟨A214, c215, rfl, h216⟩ := hr210
        refine t_st rfl (st_index_old j206 rfl rfl hj207 hlt213 hA212 sl24) ?_
        refine t_st rfl (st_field_old rfl hA212 fld37_0) ?_
        refine t_st rfl (st_load_old rfl one35 (hcs211 0 _ rfl)) ?_
        refine t_st rfl (st_move rfl) ?_
        obtain ⟨_, h217, hm⟩ := bindS hm
        have h217 := (chk_some h217).2
        refine t_st rfl (st_sub rfl rfl h217) ?_
        obtain ⟨x218, h219, hm⟩ := bindS hm
        obtain ⟨j220, hj221, hx222⟩ := idx_some h219
        obtain ⟨cs223, hr224, hcs225, hA226, hlt227⟩ := FZ.get (sz := 1) rfl (by decide) h216 hx222
        obtain ⟨A228, c229, rfl, h230⟩ := hr224
        refine t_st rfl (st_index_old j220 rfl rfl hj221 hlt227 hA226 sl35) ?_
        refine t_st rfl (st_load_old rfl one23 (hcs225 0 _ rfl)) ?_
        cases hm
      ·
        rw [if_neg (fun hh => Bool.noConfusion (hh.symm.trans hc203))] at hm
        refine c_skip ?_
        refine x_block_normal ?_
        refine x_then_normal ?_
        refine c_region ?_
        refine t_st rfl (st_add rfl rfl (by omega)) ?_
        refine t_st rfl (st_move rfl) ?_
        refine t_nil ?_
        obtain rfl := some1 hm
        exact x_againS (e' := [(2, .pointer (some ⟨g128, 0, none⟩)), (6, v134), (7, .bool (x130)), (15, .slice A17 (l20).length c18), (16, .int .i64 ((l20.length : Int))), (17, .int .i64 ((k184 : Int) + 1))]) (hp' := (g128, Cl 26 [.slice A2 (s1.Ready).length c3, .slice A5 (s1.Last).length c6, .slice A8 (s1.Due).length c9, .slice A11 (s1.Arcs).length c12, .slice A14 (s1.Choices).length c15]) :: R) ⟨rfl, rfl, rfl, rfl, rfl, rfl, trivial⟩ (.cons_cons _ (.refl _)) ⟨rfl, rfl, ((hle183.trans hle199))⟩
  ·
    rintro b182 _ _ ⟨rfl, rfl, hle183⟩
    have hm := hk186
    refine c_seq ?_
    refine c_region ?_
    refine t_st rfl (st_lss_f rfl rfl (by omega)) ?_
    refine t_nil ?_
    refine x_then_normal ?_
    refine c_seq ?_
    refine c_cond_f rfl ?_
    refine c_exit ?_
    refine x_then_exit ?_
    refine x_then_exit ?_
    refine x_block_out ?_
    refine x_then_normal ?_
    refine c_seq ?_
    refine c_region ?_
    refine t_st rfl (st_move rfl) ?_
    refine t_st rfl (st_move rfl) ?_
    refine t_st rfl (st_assign rfl) ?_
    refine t_st rfl (st_assign rfl) ?_
    refine t_nil ?_
    refine x_then_normal ?_
    refine c_ret ?_
    obtain ⟨rfl, rfl⟩ := some2 hm
    exact retM (rs := [.tmp 4, .tmp 5]) [v134, .bool (x130)] (hle133.trans hle183) (by decide) rfl ⟨rfl, ⟨rfl, trivial⟩⟩ rfl (hp' := R) (.cons _ (.refl _)) ⟨v134, rfl, rfl, (RT.le (RT.ptr rMendSolver) h135 hle183)⟩

set_option maxRecDepth 20000 in
theorem cMendTimes (b : Base) (R : Hp) (s1 : MendGraph) (l20 : (List Int)) (A2 : Option Addr) (c3 : Nat) (A5 : Option Addr) (c6 : Nat) (A8 : Option Addr) (c9 : Nat) (A11 : Option Addr) (c12 : Nat) (A14 : Option Addr) (c15 : Nat) (A17 : Option Addr) (c18 : Nat) (h4 : FZ (RT.int .i64) b.w A2 c3 s1.Ready) (h7 : FZ (RT.int .i64) b.w A5 c6 s1.Last) (h10 : FZ (RT.int .i64) b.w A8 c9 s1.Due) (h13 : FZ rMendArc b.w A11 c12 s1.Arcs) (h16 : FZ rMendChoice b.w A14 c15 s1.Choices) (h19 : FZ (RT.int .i64) b.w A17 c18 l20) (l52 : (List Int)) (x53 : Int) (hm : mMendTimes s1 l20 = some (l52, x53)) :
    CallsG Try.prog 10 [.agg #[.slice A2 (s1.Ready).length c3, .slice A5 (s1.Last).length c6, .slice A8 (s1.Due).length c9, .slice A11 (s1.Arcs).length c12, .slice A14 (s1.Choices).length c15], .slice A17 (l20).length c18] b (R) (fun v b' hp' => ∃ (A49 : Option Addr), ∃ (c50 : Nat), .tuple #[.slice A49 (l52).length c50, .int .i64 (x53)] = v ∧ R = hp' ∧ FZ (RT.int .i64) b'.w A49 c50 l52) := by
  refine fn_enterG 27 Try.func10 rfl Try.ntmps10 rfl ?_
  unfold mMendTimes at hm
  refine c_seq ?_
  refine c_region ?_
  refine t_do rfl (u_box _ rfl rfl) ?_
  rintro _ _ ⟨g54, rfl, rfl⟩
  refine t_st rfl (st_assign rfl) ?_
  refine t_st rfl (st_assign rfl) ?_
  refine t_nil ?_
  refine x_then_normal ?_
  refine c_seq ?_
  refine c_seq ?_
  refine c_region ?_
  refine t_st rfl (st_loadD (vs := [_, _, _, _, _]) 0 5 rfl agg26 rfl rfl rfl) ?_
  refine t_st rfl (st_move rfl) ?_
  obtain ⟨x55, hcl56, hm⟩ := bindS hm
  refine t_do rfl (u_callW0 _ call33 rfl (fun w ho => cMendCheckPick _ [] s1 l20 A2 c3 A5 c6 A8 c9 A11 c12 A14 c15 A17 c18 (h4.old ho) (h7.old ho) (h10.old ho) (h13.old ho) (h16.old ho) (h19.old ho) x55 hcl56) (fun _ _ _ h => h.2.symm)) ?_
  rintro _ _ ⟨⟨_, rfl, _⟩, rfl⟩
  refine t_st rfl (st_assign rfl) ?_
  refine t_nil ?_
  refine x_then_normal ?_
  refine c_seq ?_
  refine c_region ?_
  refine t_st rfl (st_move rfl) ?_
  refine t_st rfl (st_neq rfl rfl) ?_
  refine t_nil ?_
  refine x_then_normal ?_
  refine c_cond _ rfl (fun hc57 => ?_) (fun hc57 => ?_)
  ·
    rw [if_pos (of_decide_eq_true hc57)] at hm
    refine c_seq ?_
    refine c_region ?_
    refine t_st rfl (st_move rfl) ?_
    refine t_st rfl (st_assign rfl) ?_
    refine t_st rfl (st_assign rfl) ?_
    refine t_nil ?_
    refine x_then_normal ?_
    refine c_ret ?_
    refine x_then_ret ?_
    obtain ⟨rfl, rfl⟩ := some2 hm
    exact retM (rs := [.tmp 4, .tmp 5]) [.slice none 0 0, .int .i64 (x55)] (Base.Le.refl _) (by decide) rfl ⟨rfl, ⟨rfl, trivial⟩⟩ rfl (hp' := R) (.cons _ (.refl _)) ⟨none, 0, rfl, rfl, FZ.nil⟩
  ·
    rw [if_neg (of_decide_eq_false hc57)] at hm
    refine c_skip ?_
    refine x_then_normal ?_
    refine c_seq ?_
    refine c_region ?_
    refine t_st rfl (st_loadD (vs := [_, _, _, _, _]) 0 5 rfl agg26 rfl rfl rfl) ?_
    refine t_st rfl (st_move rfl) ?_
    obtain ⟨⟨q58, x59⟩, hcl60, hm⟩ := bindS hm
    have hm := (unc2E hm)
    refine t_callG _ rfl call34 rfl (cMendPicked _ _ s1 l20 A2 c3 A5 c6 A8 c9 A11 c12 A14 c15 A17 c18 h4 h7 h10 h13 h16 h19 q58 x59 hcl60) ?_
    rintro _ b61 _ hle62 ⟨v63, rfl, rfl, h64⟩
    refine t_st rfl (st_move rfl) ?_
    refine t_st rfl (st_extract rfl rfl) ?_
    refine t_st rfl (st_extract rfl rfl) ?_
    refine t_st rfl (st_assign rfl) ?_
    refine t_st rfl (st_assign rfl) ?_
    refine t_nil ?_
    refine x_then_normal ?_
    refine c_seq ?_
    refine c_seq ?_
    refine c_region ?_
    refine t_st rfl (st_move rfl) ?_
    refine t_st rfl (st_not rfl) ?_
    refine t_nil ?_
    refine x_then_normal ?_
    refine c_cond _ rfl (fun hc65 => ?_) (fun hc65 => ?_)
    ·
      rw [if_neg (fun hh => Bool.noConfusion (hh.symm.trans (notT hc65)))] at hm
      refine c_seq ?_
      refine c_region ?_
      refine t_st rfl (st_assign rfl) ?_
      refine t_st rfl (st_assign rfl) ?_
      refine t_nil ?_
      refine x_then_normal ?_
      refine c_ret ?_
      refine x_then_ret ?_
      obtain ⟨rfl, rfl⟩ := some2 hm
      exact retM (rs := [.tmp 4, .tmp 5]) [.slice none 0 0, .int .i64 (5)] hle62 (by decide) rfl ⟨rfl, ⟨rfl, trivial⟩⟩ rfl (hp' := R) (.cons _ (.refl _)) ⟨none, 0, rfl, rfl, FZ.nil⟩
    ·
      rw [if_pos (notF hc65)] at hm
      refine c_skip ?_
      refine x_then_normal ?_
      refine c_seq ?_
      refine c_region ?_
      refine t_st rfl (st_move rfl) ?_
      obtain ⟨y66, h67, hm⟩ := bindS hm
      have h72 := h64
      rw [h67] at h72
      obtain ⟨a68, cs69, rfl, hr70, hcs71⟩ := ptr_open h72
      obtain ⟨_, _, rfl, ⟨A73, c74, rfl, h75⟩, ⟨_, _, rfl, ⟨A76, c77, rfl, h78⟩, ⟨A79, c80, rfl, h81⟩⟩⟩ := hr70
      refine t_st rfl (st_nil_at rfl) ?_
      refine t_st rfl (st_field_at rfl fld73_0) ?_
      refine t_st rfl (st_load_at rfl one22 (hcs71 0 _ rfl)) ?_
      refine t_st rfl (st_assign rfl) ?_
      refine t_st rfl (st_assign rfl) ?_
      refine t_nil ?_
      refine x_then_normal ?_
      refine c_ret ?_
      obtain ⟨rfl, rfl⟩ := some2 hm
      exact retM (rs := [.tmp 4, .tmp 5]) [.slice A73 (y66.times).length c74, .int .i64 (0)] hle62 (by decide) rfl ⟨rfl, ⟨rfl, trivial⟩⟩ rfl (hp' := R) (.cons _ (.refl _)) ⟨A73, c74, rfl, rfl, h75⟩

set_option maxRecDepth 20000 in
theorem cFishkeep2AwakeMend (b : Base) (R : Hp) (x16 : Bool) (hm : mFishkeep2AwakeMend = some x16) :
    CallsG Try.prog 7 [] b (R) (fun v b' hp' => .bool (x16) = v ∧ R = hp') := by
  refine fn_enterG 11 Try.func7 rfl Try.ntmps7 rfl ?_
  unfold mFishkeep2AwakeMend at hm
  refine c_seq ?_
  refine c_region ?_
  refine t_st rfl (st_assign rfl) ?_
  refine t_nil ?_
  refine x_then_normal ?_
  refine c_seq ?_
  refine c_region ?_
  refine t_st rfl (st_build (v := .agg #[.slice none 0 0, .slice none 0 0, .slice none 0 0, .slice none 0 0, .slice none 0 0]) [] rfl (fun _ => by kernel_rfl)) ?_
  refine t_do rfl (u_bslice (el := 3) [(0, .int .i64 ((-1)))] [.int .i64 ((-1))] rfl (fun _ => by kernel_rfl)) ?_
  rintro _ _ ⟨g17, rfl, rfl⟩
  refine t_seg 0 [] R rfl rfl ?_
  have h19 : OS 3 (OT.fr (RT.int .i64)) b.w (.slice (some ⟨g17, 0, none⟩) 1 1) [(-1)] [(g17, Cl 3 [.int .i64 ((-1))])] := OS.lit [[.int .i64 ((-1))]] rfl ⟨rfl, trivial⟩ rfl (by decide)
  refine t_frz [] [(g17, Cl 3 [.int .i64 ((-1))])] R rfl ?_
  intro b20 hle21 hz22
  have h23 := OS.frz (l := [(-1)]) h19 hle21.cells hz22
  obtain ⟨⟨l24, x25⟩, hcl26, hm⟩ := bindS hm
  have hm := (unc2E hm)
  refine t_callG _ rfl call10 rfl (cMendTimes _ _ (⟨[], [], [], [], []⟩ : MendGraph) [(-1)] none 0 none 0 none 0 none 0 none 0 (some ⟨g17, 0, none⟩) 1 FZ.nil FZ.nil FZ.nil FZ.nil FZ.nil h23 l24 x25 hcl26) ?_
  rintro _ b27 _ hle28 ⟨A29, c30, rfl, rfl, h31⟩
  refine t_st rfl (st_move rfl) ?_
  refine t_st rfl (st_extract rfl rfl) ?_
  refine t_st rfl (st_extract rfl rfl) ?_
  refine t_st rfl (st_assign rfl) ?_
  refine t_st rfl (st_assign rfl) ?_
  refine t_nil ?_
  refine x_then_normal ?_
  refine c_seq ?_
  refine c_region ?_
  refine t_st rfl (st_move rfl) ?_
  refine t_st rfl (st_neq rfl rfl) ?_
  refine t_st rfl (st_assign rfl) ?_
  refine t_nil ?_
  refine x_then_normal ?_
  refine c_ret ?_
  obtain rfl := some1 hm
  exact retM (rs := [.tmp 0]) [.bool (decide (x25 ≠ 0))] (hle21.trans hle28) (by decide) rfl ⟨rfl, trivial⟩ rfl (hp' := R) (.refl _) ⟨rfl, rfl⟩

set_option maxRecDepth 20000 in
theorem cMendRoundSlack (b : Base) (R : Hp) (s1 : MendRound) (s8 : MendLink) (A2 : Option Addr) (c3 : Nat) (A5 : Option Addr) (c6 : Nat) (h4 : FZ (RT.int .i64) b.w A2 c3 s1.Plan) (h7 : FZ rMendLink b.w A5 c6 s1.Links) (x59 : Int) (hm : mMendRoundSlack s1 s8 = some x59) :
    CallsG Try.prog 55 [.agg #[.int .i64 (s1.Period), .slice A2 (s1.Plan).length c3, .slice A5 (s1.Links).length c6], .agg #[.int .i64 (s8.From), .int .i64 (s8.To), .int .i64 (s8.Len), .int .i64 (s8.Back)]] b (R) (fun v b' hp' => .int .i64 (x59) = v ∧ R = hp') := by
  refine fn_enterG 27 Try.func55 rfl Try.ntmps55 rfl ?_
  unfold mMendRoundSlack at hm
  refine c_seq ?_
  refine c_region ?_
  refine t_do rfl (u_box _ rfl rfl) ?_
  rintro _ _ ⟨g60, rfl, rfl⟩
  refine t_do rfl (u_box _ rfl rfl) ?_
  rintro _ _ ⟨g61, rfl, rfl⟩
  refine t_st rfl (st_assign rfl) ?_
  refine t_nil ?_
  refine x_then_normal ?_
  refine c_seq ?_
  obtain ⟨x86, h87, hm⟩ := bindS hm
  obtain ⟨x96, h97, hm⟩ := bindS hm
  obtain ⟨_, h106, hm⟩ := bindS hm
  obtain ⟨_, h107, hm⟩ := bindS hm
  obtain ⟨_, h108, hm⟩ := bindS hm
  obtain ⟨_, h109, hm⟩ := bindS hm
  refine D_drawS ((g61, Cl 83 [.int .i64 (s8.From), .int .i64 (s8.To), .int .i64 (s8.Len), .int .i64 (s8.Back)]) :: (g60, Cl 54 [.int .i64 (s1.Period), .slice A2 (s1.Plan).length c3, .slice A5 (s1.Links).length c6]) :: R) mixed ?_
  refine D_st (Base.Le.refl _) 0 rfl (by kernel_rfl) (by kernel_rfl) (by kernel_rfl) rfl (st_field rfl fld54_1) (.cons_cons _ (.cons_cons _ (.refl _))) ?_
  refine D_st (Base.Le.refl _) 1 rfl (by kernel_rfl) (by kernel_rfl) (by kernel_rfl) rfl (st_load 1 rfl one22 rfl rfl) (.cons_cons _ (.cons_cons _ (.refl _))) ?_
  refine D_st (Base.Le.refl _) 2 rfl (by kernel_rfl) (by kernel_rfl) (by kernel_rfl) rfl (st_field rfl fld83_1) (.cons_cons _ (.cons_cons _ (.refl _))) ?_
  refine D_st (Base.Le.refl _) 3 rfl (by kernel_rfl) (by kernel_rfl) (by kernel_rfl) rfl (st_load 0 rfl one3 rfl rfl) (.cons_cons _ (.cons_cons _ (.refl _))) ?_
  obtain ⟨j88, hj89, hx90⟩ := idx_some h87
  obtain ⟨cs91, hr92, hcs93, hA94, hlt95⟩ := FZ.get (sz := 1) rfl (by decide) h4 hx90
  obtain rfl := hr92
  refine D_st (Base.Le.refl _) 4 rfl (by kernel_rfl) (by kernel_rfl) (by kernel_rfl) rfl (st_index_old j88 rfl rfl hj89 hlt95 hA94 sl22) (.cons_cons _ (.cons_cons _ (.refl _))) ?_
  refine D_st (Base.Le.refl _) 5 rfl (by kernel_rfl) (by kernel_rfl) (by kernel_rfl) rfl (st_load_old rfl one3 (hcs93 0 _ rfl)) (.cons_cons _ (.cons_cons _ (.refl _))) ?_
  refine D_st (Base.Le.refl _) 6 rfl (by kernel_rfl) (by kernel_rfl) (by kernel_rfl) rfl (st_field rfl fld54_1) (.cons_cons _ (.cons_cons _ (.refl _))) ?_
  refine D_st (Base.Le.refl _) 7 rfl (by kernel_rfl) (by kernel_rfl) (by kernel_rfl) rfl (st_load 1 rfl one22 rfl rfl) (.cons_cons _ (.cons_cons _ (.refl _))) ?_
  refine D_st (Base.Le.refl _) 8 rfl (by kernel_rfl) (by kernel_rfl) (by kernel_rfl) rfl (st_field rfl fld83_0) (.cons_cons _ (.cons_cons _ (.refl _))) ?_
  refine D_st (Base.Le.refl _) 9 rfl (by kernel_rfl) (by kernel_rfl) (by kernel_rfl) rfl (st_load 0 rfl one3 rfl rfl) (.cons_cons _ (.cons_cons _ (.refl _))) ?_
  obtain ⟨j98, hj99, hx100⟩ := idx_some h97
  obtain ⟨cs101, hr102, hcs103, hA104, hlt105⟩ := FZ.get (sz := 1) rfl (by decide) h4 hx100
  obtain rfl := hr102
  refine D_st (Base.Le.refl _) 10 rfl (by kernel_rfl) (by kernel_rfl) (by kernel_rfl) rfl (st_index_old j98 rfl rfl hj99 hlt105 hA104 sl22) (.cons_cons _ (.cons_cons _ (.refl _))) ?_
  refine D_st (Base.Le.refl _) 11 rfl (by kernel_rfl) (by kernel_rfl) (by kernel_rfl) rfl (st_load_old rfl one3 (hcs103 0 _ rfl)) (.cons_cons _ (.cons_cons _ (.refl _))) ?_
  have h106 := (chk_some h106).2
  refine D_st (Base.Le.refl _) 12 rfl (by kernel_rfl) (by kernel_rfl) (by kernel_rfl) rfl (st_sub rfl rfl h106) (.cons_cons _ (.cons_cons _ (.refl _))) ?_
  refine D_st (Base.Le.refl _) 13 rfl (by kernel_rfl) (by kernel_rfl) (by kernel_rfl) rfl (st_field rfl fld83_3) (.cons_cons _ (.cons_cons _ (.refl _))) ?_
  refine D_st (Base.Le.refl _) 14 rfl (by kernel_rfl) (by kernel_rfl) (by kernel_rfl) rfl (st_load 0 rfl one3 rfl rfl) (.cons_cons _ (.cons_cons _ (.refl _))) ?_
  refine D_st (Base.Le.refl _) 15 rfl (by kernel_rfl) (by kernel_rfl) (by kernel_rfl) rfl (st_field rfl fld54_0) (.cons_cons _ (.cons_cons _ (.refl _))) ?_
  refine D_st (Base.Le.refl _) 16 rfl (by kernel_rfl) (by kernel_rfl) (by kernel_rfl) rfl (st_load 1 rfl one3 rfl rfl) (.cons_cons _ (.cons_cons _ (.refl _))) ?_
  have h107 := (chk_some h107).2
  refine D_st (Base.Le.refl _) 17 rfl (by kernel_rfl) (by kernel_rfl) (by kernel_rfl) rfl (st_mul rfl rfl h107) (.cons_cons _ (.cons_cons _ (.refl _))) ?_
  have h108 := (chk_some h108).2
  refine D_st (Base.Le.refl _) 18 rfl (by kernel_rfl) (by kernel_rfl) (by kernel_rfl) rfl (st_add rfl rfl h108) (.cons_cons _ (.cons_cons _ (.refl _))) ?_
  refine D_st (Base.Le.refl _) 19 rfl (by kernel_rfl) (by kernel_rfl) (by kernel_rfl) rfl (st_field rfl fld83_2) (.cons_cons _ (.cons_cons _ (.refl _))) ?_
  refine D_st (Base.Le.refl _) 20 rfl (by kernel_rfl) (by kernel_rfl) (by kernel_rfl) rfl (st_load 0 rfl one3 rfl rfl) (.cons_cons _ (.cons_cons _ (.refl _))) ?_
  have h109 := (chk_some h109).2
  refine D_st (Base.Le.refl _) 21 rfl (by kernel_rfl) (by kernel_rfl) (by kernel_rfl) rfl (st_sub rfl rfl h109) (.cons_cons _ (.cons_cons _ (.refl _))) ?_
  refine D_st (Base.Le.refl _) 22 rfl (by kernel_rfl) (by kernel_rfl) (by kernel_rfl) rfl (st_assign rfl) (.cons_cons _ (.cons_cons _ (.refl _))) ?_
  refine D_done (by kernel_rfl) ?_
  refine x_then_normal ?_
  refine c_ret ?_
  obtain rfl := some1 hm
  exact retM (rs := [.tmp 4]) [.int .i64 (((x86 - x96) + (s8.Back * s1.Period)) - s8.Len)] (Base.Le.refl _) (by decide) rfl ⟨rfl, trivial⟩ rfl (hp' := R) (.cons _ (.cons _ (.refl _))) ⟨rfl, rfl⟩

end Go.Proofs.Ytakehdnblmonlaa
