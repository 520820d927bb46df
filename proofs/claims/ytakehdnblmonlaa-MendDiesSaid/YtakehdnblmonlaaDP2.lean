/- Contracts: the code computes its model (part 2). -/
import Derived.Test.YtakehdnblmonlaaDP1
set_option linter.unusedVariables false
set_option linter.unusedSimpArgs false
namespace Go.Proofs.Ytakehdnblmonlaa
open Go.RowKit Go.Fp

set_option maxRecDepth 20000 in
theorem cMendSolverWith (b : Base) (R : Hp) (l15 : (List MendArc)) (l19 : (List Int)) (l20 : (List Int)) (l21 : (List (List MendArc))) (g11 : Nat) (A12 : Option Addr) (c13 : Nat) (A16 : Option Addr) (c17 : Nat) (A3 : Option Addr) (c4 : Nat) (hs2 : Hp) (A8 : Option Addr) (c9 : Nat) (hs7 : Hp) (h14 : FZ rMendArc b.w A12 c13 l15) (h18 : FZ (RT.int .i64) b.w A16 c17 l19) (h5 : OS 3 (OT.fr (RT.int .i64)) b.w (.slice A3 l20.length c4) l20 hs2) (h10 : OS 23 (OT.fr (RT.list rMendArc)) b.w (.slice A8 l21.length c9) l21 hs7) (q2255 : (Option MendSolver)) (x2258 : Bool) (hm : mMendSolverWith l15 l19 l20 l21 = some (q2255, x2258)) :
    CallsG Try.prog 41 [.pointer (some ⟨g11, 0, none⟩), .slice A12 (l15).length c13] b ((g11, Cl 73 [.slice A3 (l20).length c4, .slice A16 (l19).length c17, .slice A8 (l21).length c9]) :: (hs2 ++ (hs7 ++ R))) (fun v b' hp' => ∃ (v2256 : Value), .tuple #[v2256, .bool (x2258)] = v ∧ (g11, Cl 73 [.slice A3 (l20).length c4, .slice A16 (l19).length c17, .slice A8 (l21).length c9]) :: (hs2 ++ (hs7 ++ R)) = hp' ∧ (RT.ptr rMendSolver).rep b'.w [v2256] q2255) := by
  refine fn_enterG 128 Try.func41 rfl Try.ntmps41 rfl ?_
  unfold mMendSolverWith at hm
  refine c_sr ?_
  refine t_as rfl rfl ?_
  refine t_as rfl rfl ?_
  refine t_ne ?_
  obtain ⟨⟨l2303, l2304⟩, hj2305, hk2305⟩ := bindS hm
  refine c_join (fun b2289 e' hp' => ∃ (g2301 : Nat), ∃ (g2302 : Nat), ∃ (A2293 : Option Addr), ∃ (c2294 : Nat), ∃ (hs2292 : Hp), ∃ (A2298 : Option Addr), ∃ (c2299 : Nat), ∃ (hs2297 : Hp), [(1, .slice A12 (l15).length c13), (6, .pointer (some ⟨g2301, 0, none⟩))] = e' ∧ (g2301, Cl 69 [.pointer (some ⟨g2302, 0, none⟩)]) :: (g11, Cl 73 [.slice A3 (l20).length c4, .slice A16 (l19).length c17, .slice A8 (l21).length c9]) :: (g2302, Cl 73 [.slice A2293 (l2303).length c2294, .slice A16 (l19).length c17, .slice A2298 (l2304).length c2299]) :: (hs2 ++ (hs7 ++ (hs2292 ++ (hs2297 ++ R)))) = hp' ∧ b.Le b2289 ∧ OS 3 (OT.fr (RT.int .i64)) b2289.w (.slice A2293 l2303.length c2294) l2303 hs2292 ∧ OS 23 (OT.fr (RT.list rMendArc)) b2289.w (.slice A2298 l2304.length c2299) l2304 hs2297) ?_ ?_
  ·
   have hm := hj2305
   obtain ⟨l2321, hcl2322, hm⟩ := bindS hm
   obtain ⟨_, h2329, hm⟩ := bindS hm
   refine D_drawI mixed (.refl _) ?_
   refine E_st 0 rfl (st_move rfl) ?_
   refine E_st 1 rfl (st_nil rfl) ?_
   refine E_st 2 rfl (st_field rfl fld73_0) ?_
   refine E_st 3 rfl (st_load 0 rfl one22 rfl rfl) ?_
   refine E_st 5 rfl (st_move rfl) ?_
   refine E_st 6 rfl (st_nil rfl) ?_
   refine E_st 7 rfl (st_field rfl fld73_1) ?_
   refine E_st 8 rfl (st_load 0 rfl one22 rfl rfl) ?_
   refine E_st 9 rfl (st_move rfl) ?_
   refine E_st 10 rfl (st_nil rfl) ?_
   refine E_st 11 rfl (st_field rfl fld73_2) ?_
   refine E_st 12 rfl (st_load 0 rfl one35 rfl rfl) ?_
   refine E_out ?_
   refine D_all [4, 16] (by kernel_rfl) rfl ?_
   refine R_do (Base.Le.refl _) rfl rfl (u_callWF [_] (hs2 ++ (hs7 ++ R)) _ rfl call12 rfl (fun w ho => cSlicesClone _ [] l20 A3 c4 (OS.now (o := (OT.fr (RT.int .i64))) (l := l20) (hs := hs2) h5 ho (.cons _ (List.sublist_append_left _ _))) l2321 hcl2322)) ?_ ?_
   ·
    rintro _ _ ⟨_, _, rfl, A2323, c2324, hs2325, rfl, hq2328, h2326⟩
    obtain rfl := List.append_cancel_right hq2328
    have h2327 := flat_fz (w' := b.w) (fun _ _ _ _ h => h) h2326
    refine ⟨.inr (.cons_cons _ (sub_skip hs2325 (.refl _))), ?_⟩
    have h2329 := room_some h2329
    refine D_all [13, 16] (by kernel_rfl) rfl ?_
    refine R_do (Base.Le.refl _) rfl rfl (u_cloneOwn (r := (RT.list rMendArc)) (l := l21) (sz := 1) (by_ := 24) [_] (hs2325 ++ (hs2 ++ (hs7 ++ R))) rfl clSlicesClone_2 call60 rfl rfl h10 (.cons _ (sub_skip hs2325 (sub_skip hs2 (List.sublist_append_left _ _)))) h2329) ?_ ?_
    ·
     rintro _ _ ⟨A2332, c2333, hs2330, rfl, rfl, h2331⟩
     refine ⟨.inr (.cons_cons _ (sub_skip hs2330 (sub_skip hs2325 (.refl _)))), ?_⟩
     refine D_all [14, 16] (by kernel_rfl) rfl ?_
     refine R_do (Base.Le.refl _) rfl rfl (Stable.does (st_build (v := .agg #[.slice A2323 (l2321).length c2324, .slice A16 (l19).length c17, .slice A2332 (l21).length c2333]) [(0, .slice A2323 (l2321).length c2324), (1, .slice A16 (l19).length c17), (2, .slice A2332 (l21).length c2333)] rfl (fun _ => by kernel_rfl))) ?_ ?_
     ·
      rintro _ _ ⟨rfl, rfl⟩
      refine ⟨.inr (.cons_cons _ (sub_skip hs2330 (sub_skip hs2325 (.refl _)))), ?_⟩
      refine D_all [15, 16] (by kernel_rfl) rfl ?_
      refine R_do (Base.Le.refl _) rfl rfl (u_box _ rfl rfl) ?_ ?_
      ·
       rintro _ _ ⟨g2334, rfl, rfl⟩
       refine ⟨.inr (.cons _ (.cons_cons _ (sub_skip hs2330 (sub_skip hs2325 (.refl _))))), ?_⟩
       refine D_all [16] (by kernel_rfl) rfl ?_
       refine R_do (Base.Le.refl _) rfl rfl (u_alloc [.pointer none] zero69 rfl) ?_ ?_
       ·
        rintro _ _ ⟨g2335, rfl, rfl⟩
        refine ⟨.inr (.cons _ (.cons _ (.cons_cons _ (sub_skip hs2330 (sub_skip hs2325 (.refl _)))))), ?_⟩
        refine D_all [17] (by kernel_rfl) rfl ?_
        refine R_do (Base.Le.refl _) rfl rfl (u_store 0 rfl rfl siz69 rfl rfl (by simp)) ?_ ?_
        ·
         rintro _ _ rfl
         refine ⟨.inl (by kernel_rfl), ?_⟩
         refine D_done (by kernel_rfl) ?_
         obtain ⟨rfl, rfl⟩ := some2 hm
         refine x_pullb 1 rfl ?_
         refine x_pullb 2 rfl ?_
         refine x_pullb 2 rfl ?_
         refine x_front2 [_, _, _] hs2330 hs2325 (hs2 ++ (hs7 ++ R)) rfl ?_
         refine x_front4 [_, _, _] hs2325 hs2330 hs2 hs7 R rfl ?_
         refine x_front4 [_, _, _] hs7 hs2325 hs2330 hs2 R rfl ?_
         exact x_join (e' := [(1, .slice A12 (l15).length c13), (6, .pointer (some ⟨g2335, 0, none⟩))]) ⟨rfl, rfl, trivial⟩ (.refl _) ⟨g2335, g2334, A2323, c2324, hs2325, A2332, c2333, hs2330, rfl, rfl, (Base.Le.refl _), h2327, h2331⟩
        exact R_nil
       exact R_nil
      refine R_do (Base.Le.refl _) rfl rfl (u_alloc [.pointer none] zero69 rfl) ?_ ?_
      ·
       rintro _ _ ⟨g2335, rfl, rfl⟩
       refine ⟨.inr (.cons _ (.cons_cons _ (sub_skip hs2330 (sub_skip hs2325 (.refl _))))), ?_⟩
       refine D_all [15] (by kernel_rfl) rfl ?_
       refine R_do (Base.Le.refl _) rfl rfl (u_box _ rfl rfl) ?_ ?_
       ·
        rintro _ _ ⟨g2334, rfl, rfl⟩
        refine ⟨.inr (.cons _ (.cons _ (.cons_cons _ (sub_skip hs2330 (sub_skip hs2325 (.refl _)))))), ?_⟩
        refine D_all [17] (by kernel_rfl) rfl ?_
        refine R_do (Base.Le.refl _) rfl rfl (u_store 1 rfl rfl siz69 rfl rfl (by simp)) ?_ ?_
        ·
         rintro _ _ rfl
         refine ⟨.inl (by kernel_rfl), ?_⟩
         refine D_done (by kernel_rfl) ?_
         obtain ⟨rfl, rfl⟩ := some2 hm
         refine x_pullb 2 rfl ?_
         refine x_pullb 2 rfl ?_
         refine x_front2 [_, _, _] hs2330 hs2325 (hs2 ++ (hs7 ++ R)) rfl ?_
         refine x_front4 [_, _, _] hs2325 hs2330 hs2 hs7 R rfl ?_
         refine x_front4 [_, _, _] hs7 hs2325 hs2330 hs2 R rfl ?_
         exact x_join (e' := [(1, .slice A12 (l15).length c13), (6, .pointer (some ⟨g2335, 0, none⟩))]) ⟨rfl, rfl, trivial⟩ (.refl _) ⟨g2335, g2334, A2323, c2324, hs2325, A2332, c2333, hs2330, rfl, rfl, (Base.Le.refl _), h2327, h2331⟩
        exact R_nil
       exact R_nil
      exact R_nil
     refine R_do (Base.Le.refl _) rfl rfl (u_alloc [.pointer none] zero69 rfl) ?_ ?_
     ·
      rintro _ _ ⟨g2335, rfl, rfl⟩
      refine ⟨.inr (.cons _ (.cons_cons _ (sub_skip hs2330 (sub_skip hs2325 (.refl _))))), ?_⟩
      refine D_all [14] (by kernel_rfl) rfl ?_
      refine R_do (Base.Le.refl _) rfl rfl (Stable.does (st_build (v := .agg #[.slice A2323 (l2321).length c2324, .slice A16 (l19).length c17, .slice A2332 (l21).length c2333]) [(0, .slice A2323 (l2321).length c2324), (1, .slice A16 (l19).length c17), (2, .slice A2332 (l21).length c2333)] rfl (fun _ => by kernel_rfl))) ?_ ?_
      ·
       rintro _ _ ⟨rfl, rfl⟩
       refine ⟨.inr (.cons _ (.cons_cons _ (sub_skip hs2330 (sub_skip hs2325 (.refl _))))), ?_⟩
       refine D_all [15] (by kernel_rfl) rfl ?_
       refine R_do (Base.Le.refl _) rfl rfl (u_box _ rfl rfl) ?_ ?_
       ·
        rintro _ _ ⟨g2334, rfl, rfl⟩
        refine ⟨.inr (.cons _ (.cons _ (.cons_cons _ (sub_skip hs2330 (sub_skip hs2325 (.refl _)))))), ?_⟩
        refine D_all [17] (by kernel_rfl) rfl ?_
        refine R_do (Base.Le.refl _) rfl rfl (u_store 1 rfl rfl siz69 rfl rfl (by simp)) ?_ ?_
        ·
         rintro _ _ rfl
         refine ⟨.inl (by kernel_rfl), ?_⟩
         refine D_done (by kernel_rfl) ?_
         obtain ⟨rfl, rfl⟩ := some2 hm
         refine x_pullb 2 rfl ?_
         refine x_pullb 2 rfl ?_
         refine x_front2 [_, _, _] hs2330 hs2325 (hs2 ++ (hs7 ++ R)) rfl ?_
         refine x_front4 [_, _, _] hs2325 hs2330 hs2 hs7 R rfl ?_
         refine x_front4 [_, _, _] hs7 hs2325 hs2330 hs2 R rfl ?_
         exact x_join (e' := [(1, .slice A12 (l15).length c13), (6, .pointer (some ⟨g2335, 0, none⟩))]) ⟨rfl, rfl, trivial⟩ (.refl _) ⟨g2335, g2334, A2323, c2324, hs2325, A2332, c2333, hs2330, rfl, rfl, (Base.Le.refl _), h2327, h2331⟩
        exact R_nil
       exact R_nil
      exact R_nil
     exact R_nil
    refine R_do (Base.Le.refl _) rfl rfl (u_alloc [.pointer none] zero69 rfl) ?_ ?_
    ·
     rintro _ _ ⟨g2335, rfl, rfl⟩
     refine ⟨.inr (.cons _ (.cons_cons _ (sub_skip hs2325 (.refl _)))), ?_⟩
     refine D_all [13] (by kernel_rfl) rfl ?_
     refine R_do (Base.Le.refl _) rfl rfl (u_cloneOwn (r := (RT.list rMendArc)) (l := l21) (sz := 1) (by_ := 24) [_, _] (hs2325 ++ (hs2 ++ (hs7 ++ R))) rfl clSlicesClone_2 call60 rfl rfl h10 (.cons _ (.cons _ (sub_skip hs2325 (sub_skip hs2 (List.sublist_append_left _ _))))) h2329) ?_ ?_
     ·
      rintro _ _ ⟨A2332, c2333, hs2330, rfl, rfl, h2331⟩
      refine ⟨.inr (.cons _ (.cons_cons _ (sub_skip hs2330 (sub_skip hs2325 (.refl _))))), ?_⟩
      refine D_all [14] (by kernel_rfl) rfl ?_
      refine R_do (Base.Le.refl _) rfl rfl (Stable.does (st_build (v := .agg #[.slice A2323 (l2321).length c2324, .slice A16 (l19).length c17, .slice A2332 (l21).length c2333]) [(0, .slice A2323 (l2321).length c2324), (1, .slice A16 (l19).length c17), (2, .slice A2332 (l21).length c2333)] rfl (fun _ => by kernel_rfl))) ?_ ?_
      ·
       rintro _ _ ⟨rfl, rfl⟩
       refine ⟨.inr (.cons _ (.cons_cons _ (sub_skip hs2330 (sub_skip hs2325 (.refl _))))), ?_⟩
       refine D_all [15] (by kernel_rfl) rfl ?_
       refine R_do (Base.Le.refl _) rfl rfl (u_box _ rfl rfl) ?_ ?_
       ·
        rintro _ _ ⟨g2334, rfl, rfl⟩
        refine ⟨.inr (.cons _ (.cons _ (.cons_cons _ (sub_skip hs2330 (sub_skip hs2325 (.refl _)))))), ?_⟩
        refine D_all [17] (by kernel_rfl) rfl ?_
        refine R_do (Base.Le.refl _) rfl rfl (u_store 1 rfl rfl siz69 rfl rfl (by simp)) ?_ ?_
        ·
         rintro _ _ rfl
         refine ⟨.inl (by kernel_rfl), ?_⟩
         refine D_done (by kernel_rfl) ?_
         obtain ⟨rfl, rfl⟩ := some2 hm
         refine x_pullb 2 rfl ?_
         refine x_pullb 2 rfl ?_
         refine x_front2 [_, _, _] hs2330 hs2325 (hs2 ++ (hs7 ++ R)) rfl ?_
         refine x_front4 [_, _, _] hs2325 hs2330 hs2 hs7 R rfl ?_
         refine x_front4 [_, _, _] hs7 hs2325 hs2330 hs2 R rfl ?_
         exact x_join (e' := [(1, .slice A12 (l15).length c13), (6, .pointer (some ⟨g2335, 0, none⟩))]) ⟨rfl, rfl, trivial⟩ (.refl _) ⟨g2335, g2334, A2323, c2324, hs2325, A2332, c2333, hs2330, rfl, rfl, (Base.Le.refl _), h2327, h2331⟩
        exact R_nil
       exact R_nil
      exact R_nil
     exact R_nil
    exact R_nil
   refine R_do (Base.Le.refl _) rfl rfl (u_alloc [.pointer none] zero69 rfl) ?_ ?_
   ·
    rintro _ _ ⟨g2335, rfl, rfl⟩
    refine ⟨.inr (.cons _ (.refl _)), ?_⟩
    refine D_all [4] (by kernel_rfl) rfl ?_
    refine R_do (Base.Le.refl _) rfl rfl (u_callWF [_, _] (hs2 ++ (hs7 ++ R)) _ rfl call12 rfl (fun w ho => cSlicesClone _ [] l20 A3 c4 (OS.now (o := (OT.fr (RT.int .i64))) (l := l20) (hs := hs2) h5 ho (.cons _ (.cons _ (List.sublist_append_left _ _)))) l2321 hcl2322)) ?_ ?_
    ·
     rintro _ _ ⟨_, _, rfl, A2323, c2324, hs2325, rfl, hq2328, h2326⟩
     obtain rfl := List.append_cancel_right hq2328
     have h2327 := flat_fz (w' := b.w) (fun _ _ _ _ h => h) h2326
     refine ⟨.inr (.cons _ (.cons_cons _ (sub_skip hs2325 (.refl _)))), ?_⟩
     have h2329 := room_some h2329
     refine D_all [13] (by kernel_rfl) rfl ?_
     refine R_do (Base.Le.refl _) rfl rfl (u_cloneOwn (r := (RT.list rMendArc)) (l := l21) (sz := 1) (by_ := 24) [_, _] (hs2325 ++ (hs2 ++ (hs7 ++ R))) rfl clSlicesClone_2 call60 rfl rfl h10 (.cons _ (.cons _ (sub_skip hs2325 (sub_skip hs2 (List.sublist_append_left _ _))))) h2329) ?_ ?_
     ·
      rintro _ _ ⟨A2332, c2333, hs2330, rfl, rfl, h2331⟩
      refine ⟨.inr (.cons _ (.cons_cons _ (sub_skip hs2330 (sub_skip hs2325 (.refl _))))), ?_⟩
      refine D_all [14] (by kernel_rfl) rfl ?_
      refine R_do (Base.Le.refl _) rfl rfl (Stable.does (st_build (v := .agg #[.slice A2323 (l2321).length c2324, .slice A16 (l19).length c17, .slice A2332 (l21).length c2333]) [(0, .slice A2323 (l2321).length c2324), (1, .slice A16 (l19).length c17), (2, .slice A2332 (l21).length c2333)] rfl (fun _ => by kernel_rfl))) ?_ ?_
      ·
       rintro _ _ ⟨rfl, rfl⟩
       refine ⟨.inr (.cons _ (.cons_cons _ (sub_skip hs2330 (sub_skip hs2325 (.refl _))))), ?_⟩
       refine D_all [15] (by kernel_rfl) rfl ?_
       refine R_do (Base.Le.refl _) rfl rfl (u_box _ rfl rfl) ?_ ?_
       ·
        rintro _ _ ⟨g2334, rfl, rfl⟩
        refine ⟨.inr (.cons _ (.cons _ (.cons_cons _ (sub_skip hs2330 (sub_skip hs2325 (.refl _)))))), ?_⟩
        refine D_all [17] (by kernel_rfl) rfl ?_
        refine R_do (Base.Le.refl _) rfl rfl (u_store 1 rfl rfl siz69 rfl rfl (by simp)) ?_ ?_
        ·
         rintro _ _ rfl
         refine ⟨.inl (by kernel_rfl), ?_⟩
         refine D_done (by kernel_rfl) ?_
         obtain ⟨rfl, rfl⟩ := some2 hm
         refine x_pullb 2 rfl ?_
         refine x_pullb 2 rfl ?_
         refine x_front2 [_, _, _] hs2330 hs2325 (hs2 ++ (hs7 ++ R)) rfl ?_
         refine x_front4 [_, _, _] hs2325 hs2330 hs2 hs7 R rfl ?_
         refine x_front4 [_, _, _] hs7 hs2325 hs2330 hs2 R rfl ?_
         exact x_join (e' := [(1, .slice A12 (l15).length c13), (6, .pointer (some ⟨g2335, 0, none⟩))]) ⟨rfl, rfl, trivial⟩ (.refl _) ⟨g2335, g2334, A2323, c2324, hs2325, A2332, c2333, hs2330, rfl, rfl, (Base.Le.refl _), h2327, h2331⟩
        exact R_nil
       exact R_nil
      exact R_nil
     exact R_nil
    exact R_nil
   exact R_nil
  ·
   rintro b2289 _ _ ⟨g2301, g2302, A2293, c2294, hs2292, A2298, c2299, hs2297, rfl, rfl, hle2290, h2295, h2300⟩
   have hm := (unc2E hk2305)
   refine c_seq ?_
   refine c_sr ?_
   refine t_mv rfl rfl ?_
   refine t_st rfl (st_len rfl sl23) ?_
   refine t_mv rfl rfl ?_
   refine t_ne ?_
   refine c_block ?_
   have hb2337 : l15.length ≤ 9223372036854775807 := (FZ.bd (h14.le hle2290))
   refine c_pullb 2 rfl ?_
   refine c_pullb 2 rfl ?_
   refine c_pullb 2 rfl ?_
   refine c_front4 [_, _, _] hs2 hs7 hs2292 hs2297 R rfl ?_
   refine c_front4 [_, _, _] hs2297 hs2 hs7 hs2292 R rfl ?_
   refine c_front4 [_, _, _] hs2292 hs2297 hs2 hs7 R rfl ?_
   refine c_front4 [_, _, _] hs7 hs2292 hs2297 hs2 R rfl ?_
   obtain ⟨l2621, hl2623, hk2624⟩ := bindS hm
   refine c_forS (fun k2622 => fun l2621 => fun b2614 e' hp' => ∃ (A2618 : Option Addr), ∃ (c2619 : Nat), ∃ (hs2617 : Hp), [(1, .slice A12 (l15).length c13), (6, .pointer (some ⟨g2301, 0, none⟩)), (36, .slice A12 (l15).length c13), (37, .int .i64 ((l15.length : Int))), (38, .int .i64 ((k2622 : Int)))] = e' ∧ (g2301, Cl 69 [.pointer (some ⟨g2302, 0, none⟩)]) :: (g11, Cl 73 [.slice A3 (l20).length c4, .slice A16 (l19).length c17, .slice A8 (l21).length c9]) :: (g2302, Cl 73 [.slice A2293 (l2303).length c2294, .slice A16 (l19).length c17, .slice A2618 (l2621).length c2619]) :: (hs2 ++ (hs7 ++ (hs2292 ++ (hs2617 ++ R)))) = hp' ∧ b2289.Le b2614 ∧ OS 23 (OT.fr (RT.list rMendArc)) b2614.w (.slice A2618 l2621.length c2619) l2621 hs2617) hl2623 (e' := [(1, .slice A12 (l15).length c13), (6, .pointer (some ⟨g2301, 0, none⟩)), (36, .slice A12 (l15).length c13), (37, .int .i64 ((l15.length : Int))), (38, .int .i64 0)]) ⟨rfl, rfl, rfl, rfl, rfl, trivial⟩ (.refl _) ⟨A2298, c2299, hs2297, rfl, rfl, (Base.Le.refl _), h2300⟩ ?_ ?_
   ·
    rintro k2622 l2621 b2614 _ _ oL2336 hknL2336 ⟨A2618, c2619, hs2617, rfl, rfl, hle2615, h2620⟩ hstepL2336
    unfold mMendSolverWith_L2336 at hstepL2336
    have hm := hstepL2336
    refine c_sr ?_
    refine t_st rfl (st_lss_t rfl rfl (by omega)) ?_
    refine t_ne ?_
    refine c_seq ?_
    refine c_cond_t rfl ?_
    refine c_skip ?_
    refine x_then_normal ?_
    refine c_seq ?_
    refine c_block ?_
    refine c_sr ?_
    obtain ⟨x2625, h2626, hm⟩ := bindS hm
    obtain ⟨j2627, hj2628, hx2629⟩ := idx_some h2626
    obtain ⟨cs2630, hr2631, hcs2632, hA2633, hlt2634⟩ := FZ.get (sz := 3) rfl (by decide) (h14.le (hle2290.trans hle2615)) hx2629
    obtain ⟨_, _, rfl, rfl, ⟨_, _, rfl, rfl, rfl⟩⟩ := hr2631
    refine t_st rfl (st_index_old j2627 rfl rfl hj2628 hlt2634 hA2633 sl23) ?_
    refine t_st rfl (st_loadN_old (vs := [.int .i64 (x2625.From), .int .i64 (x2625.To), .int .i64 (x2625.Len)]) 3 rfl agg34 hA2633 rfl (fun j u hu => hcs2632 j u hu)) ?_
    refine t_do rfl (u_alloc [.int .i64 0, .int .i64 0, .int .i64 0] zero34 rfl) ?_
    rintro _ _ ⟨g2635, rfl, rfl⟩
    refine t_do rfl (u_storeN (vs := [_, _, _]) 0 3 rfl rfl rfl siz34 rfl (mem_c rfl (mem_c rfl (mem_c rfl mem_n))) rfl (by simp)) ?_
    rintro _ _ rfl
    refine t_ne ?_
    obtain ⟨x2698, h2699, hm⟩ := bindS hm
    obtain ⟨l2717, hcl2718, hm⟩ := bindS hm
    obtain ⟨_, h2726, hm⟩ := bindS hm
    obtain ⟨x2731, h2732, hm⟩ := bindS hm
    refine c_front4 [_, _, _, _] hs2 hs7 hs2292 hs2617 R rfl ?_
    refine D_drawI mixed (.refl _) ?_
    refine E_st 0 rfl (st_load 1 rfl one69 rfl rfl) ?_
    refine E_st 1 rfl (st_nil rfl) ?_
    refine E_st 2 rfl (st_field rfl fld73_2) ?_
    refine E_st 3 rfl (st_load 3 rfl one35 rfl rfl) ?_
    refine E_st 4 rfl (st_field rfl fld34_0) ?_
    refine E_st 5 rfl (st_load 0 rfl one3 rfl rfl) ?_
    refine E_st 6 rfl (st_load 1 rfl one69 rfl rfl) ?_
    refine E_st 7 rfl (st_nil rfl) ?_
    refine E_st 8 rfl (st_field rfl fld73_2) ?_
    refine E_st 9 rfl (st_load 3 rfl one35 rfl rfl) ?_
    refine E_st 10 rfl (st_field rfl fld34_0) ?_
    refine E_st 11 rfl (st_load 0 rfl one3 rfl rfl) ?_
    obtain ⟨j2700, hj2701, hx2702⟩ := idx_some h2699
    obtain ⟨cs2703, hs2708, P2709, P2710, hq2711, hr2704, hcs2705, hA2706, hlt2707, hb2712, hho2713⟩ := OS.get (sz := 1) rfl (by decide) h2620 hx2702
    obtain ⟨⟨A2714, c2715, rfl, h2716⟩, rfl⟩ := hr2704
    refine E_st 12 rfl (st_index_old j2700 rfl rfl hj2701 hlt2707 hA2706 sl35) ?_
    refine E_st 13 rfl (st_load_rd rfl one23 (fun w ho => hcs2705 w _ ho (.cons _ (.cons _ (.cons _ (.cons _ (List.sublist_append_left _ _))))) 0 _ rfl)) ?_
    refine E_st 15 rfl (st_loadD (vs := [_, _, _]) 0 3 rfl agg34 rfl rfl rfl) ?_
    refine E_out ?_
    refine D_all [14, 16] (by kernel_rfl) rfl ?_
    refine R_callGl (Base.Le.refl _) rfl rfl _ call11 rfl (cSlicesClone_3 _ _ x2698 A2714 c2715 h2716 l2717 hcl2718) ?_ ?_
    ·
     rintro _ b2719 _ hle2720 ⟨A2721, c2722, hs2723, rfl, rfl, h2724⟩
     refine ⟨.inr (sub_skip hs2723 (.refl _)), ?_⟩
     refine d_in1 [] [_, _, _, _] hs2723 (hs2617 ++ (hs2 ++ (hs7 ++ (hs2292 ++ R)))) rfl ?_
     refine D_all [16] (by kernel_rfl) rfl ?_
     refine R_do hle2720 rfl rfl (u_bslice (el := 34) [(0, .agg #[.int .i64 (x2625.From), .int .i64 (x2625.To), .int .i64 (x2625.Len)])] [.int .i64 (x2625.From), .int .i64 (x2625.To), .int .i64 (x2625.Len)] rfl (fun _ => by kernel_rfl)) ?_ ?_
     ·
      rintro _ _ ⟨g2725, rfl, rfl⟩
      refine ⟨.inr (.cons _ (.cons_cons _ (.cons_cons _ (.cons_cons _ (.cons_cons _ (sub_skip hs2723 (.refl _))))))), ?_⟩
      have h2726 := room_some h2726
      refine D_all [17] (by kernel_rfl) rfl ?_
      refine R_do hle2720 rfl rfl (u_appOS (r := rMendArc) (l := l2717) [_, _, _, _, _] (hs2617 ++ (hs2 ++ (hs7 ++ (hs2292 ++ R)))) [[.int .i64 (x2625.From), .int .i64 (x2625.To), .int .i64 (x2625.Len)]] [x2625] rfl (by decide) sl23 inf34 rfl rfl rfl rfl h2724 rfl (fun w ho => Rd.own (i := 0) ho rfl) ⟨⟨[.int .i64 (x2625.From)], _, rfl, rfl, ⟨[.int .i64 (x2625.To)], _, rfl, rfl, rfl⟩⟩, trivial⟩ h2726) ?_ ?_
      ·
       rintro _ _ ⟨hs2727, rfl, h2728⟩
       obtain ⟨A2729, c2730, rfl, _⟩ := h2728.form
       refine ⟨.inr (.cons _ (.cons_cons _ (.cons_cons _ (.cons_cons _ (.cons_cons _ (sub_skip hs2727 (.refl _))))))), ?_⟩
       obtain ⟨j2733, hj2734, hx2735⟩ := idx_some h2732
       obtain ⟨cs2736, hs2741, P2742, P2743, hq2744, hr2737, hcs2738, hA2739, hlt2740, hb2745, hho2746⟩ := OS.get (sz := 1) rfl (by decide) h2620 hx2735
       obtain ⟨⟨A2747, c2748, rfl, h2749⟩, rfl⟩ := hr2737
       refine D_st hle2720 18 rfl (by kernel_rfl) (by kernel_rfl) (by kernel_rfl) rfl (st_index_old j2733 rfl rfl hj2734 hlt2740 hA2739 sl35) (.cons _ (.cons_cons _ (.cons_cons _ (.cons_cons _ (.cons_cons _ (sub_skip hs2727 (.refl _))))))) ?_
       have hnz2752 : (A2729 = none ↔ l2717 ++ [x2625] = []) := (OS.nz h2728 (by simp))
       refine d_frz [_, _, _, _, _] hs2727 (hs2617 ++ (hs2 ++ (hs7 ++ (hs2292 ++ R)))) rfl ?_
       intro b2753 hle2754 hz2755
       have h2756 := OS.frz (l := l2717 ++ [x2625]) h2728 hle2754.cells hz2755
       refine D_all [19] (by kernel_rfl) rfl ?_
       refine R_do (hle2720.trans hle2754) rfl rfl (u_putOS hj2734 (sz := 1) (a' := l2717 ++ [x2625]) rfl [_, _, _, _, _] (hs2 ++ (hs7 ++ (hs2292 ++ R))) 0 1 [.slice A2729 (l2717 ++ [x2625]).length c2730] rfl (h2620.le (hle2720.trans hle2754)) hx2735 rfl rfl rfl siz23 rfl (mem_c rfl mem_n) (fun cs hsj hh => by obtain ⟨⟨A2757, c2758, rfl, h2759⟩, rfl⟩ := hh; exact ⟨by decide, (RT.list_mk h2756), rfl⟩)) ?_ ?_
       ·
        rintro _ _ ⟨hs2750, rfl, h2751⟩
        refine ⟨.inl (by kernel_rfl), ?_⟩
        refine d_hresp 4 rfl (o' := Cl 73 [.slice A2293 (l2303).length c2294, .slice A16 (l19).length c17, .slice A2618 (put l2621 x2625.From (l2717 ++ [x2625])).length c2619]) (by simp only [put_length]) ?_
        refine D_done (by kernel_rfl) ?_
        refine x_block_normal ?_
        refine x_then_normal ?_
        refine c_region ?_
        refine t_st rfl (st_add rfl rfl (by omega)) ?_
        refine t_mv rfl rfl ?_
        refine t_nil ?_
        refine x_pullb 4 rfl ?_
        refine x_pullb 4 rfl ?_
        refine x_pullb 4 rfl ?_
        refine x_front4 [_, _, _, _, _] hs2750 hs2 hs7 hs2292 R rfl ?_
        refine x_front4 [_, _, _, _, _] hs2292 hs2750 hs2 hs7 R rfl ?_
        refine x_front4 [_, _, _, _, _] hs7 hs2292 hs2750 hs2 R rfl ?_
        obtain rfl := some1 hm
        exact x_againS (e' := [(1, .slice A12 (l15).length c13), (6, .pointer (some ⟨g2301, 0, none⟩)), (36, .slice A12 (l15).length c13), (37, .int .i64 ((l15.length : Int))), (38, .int .i64 ((k2622 : Int) + 1))]) ⟨rfl, rfl, rfl, rfl, rfl, trivial⟩ (.cons_cons _ (.cons_cons _ (.cons_cons _ (.cons _ (.cons _ (.refl _)))))) ⟨A2618, c2619, hs2750, rfl, rfl, ((hle2615.trans (hle2720.trans hle2754))), h2751⟩
       exact R_nil
      exact R_nil
     exact R_nil
    refine R_do (Base.Le.refl _) rfl rfl (u_bslice (el := 34) [(0, .agg #[.int .i64 (x2625.From), .int .i64 (x2625.To), .int .i64 (x2625.Len)])] [.int .i64 (x2625.From), .int .i64 (x2625.To), .int .i64 (x2625.Len)] rfl (fun _ => by kernel_rfl)) ?_ ?_
    ·
     rintro _ _ ⟨g2725, rfl, rfl⟩
     refine ⟨.inr (.cons _ (.refl _)), ?_⟩
     refine D_all [14] (by kernel_rfl) rfl ?_
     refine R_callGl (Base.Le.refl _) rfl rfl _ call11 rfl (cSlicesClone_3 _ _ x2698 A2714 c2715 h2716 l2717 hcl2718) ?_ ?_
     ·
      rintro _ b2719 _ hle2720 ⟨A2721, c2722, hs2723, rfl, rfl, h2724⟩
      refine ⟨.inr (sub_skip hs2723 (.cons _ (.refl _))), ?_⟩
      refine d_in1 [] [_, _, _, _, _] hs2723 (hs2617 ++ (hs2 ++ (hs7 ++ (hs2292 ++ R)))) rfl ?_
      have h2726 := room_some h2726
      refine D_all [17] (by kernel_rfl) rfl ?_
      refine R_do hle2720 rfl rfl (u_appOS (r := rMendArc) (l := l2717) [_, _, _, _, _] (hs2617 ++ (hs2 ++ (hs7 ++ (hs2292 ++ R)))) [[.int .i64 (x2625.From), .int .i64 (x2625.To), .int .i64 (x2625.Len)]] [x2625] rfl (by decide) sl23 inf34 rfl rfl rfl rfl h2724 rfl (fun w ho => Rd.own (i := 0) ho rfl) ⟨⟨[.int .i64 (x2625.From)], _, rfl, rfl, ⟨[.int .i64 (x2625.To)], _, rfl, rfl, rfl⟩⟩, trivial⟩ h2726) ?_ ?_
      ·
       rintro _ _ ⟨hs2727, rfl, h2728⟩
       obtain ⟨A2729, c2730, rfl, _⟩ := h2728.form
       refine ⟨.inr (.cons _ (.cons_cons _ (.cons_cons _ (.cons_cons _ (.cons_cons _ (sub_skip hs2727 (.refl _))))))), ?_⟩
       obtain ⟨j2733, hj2734, hx2735⟩ := idx_some h2732
       obtain ⟨cs2736, hs2741, P2742, P2743, hq2744, hr2737, hcs2738, hA2739, hlt2740, hb2745, hho2746⟩ := OS.get (sz := 1) rfl (by decide) h2620 hx2735
       obtain ⟨⟨A2747, c2748, rfl, h2749⟩, rfl⟩ := hr2737
       refine D_st hle2720 18 rfl (by kernel_rfl) (by kernel_rfl) (by kernel_rfl) rfl (st_index_old j2733 rfl rfl hj2734 hlt2740 hA2739 sl35) (.cons _ (.cons_cons _ (.cons_cons _ (.cons_cons _ (.cons_cons _ (sub_skip hs2727 (.refl _))))))) ?_
       have hnz2752 : (A2729 = none ↔ l2717 ++ [x2625] = []) := (OS.nz h2728 (by simp))
       refine d_frz [_, _, _, _, _] hs2727 (hs2617 ++ (hs2 ++ (hs7 ++ (hs2292 ++ R)))) rfl ?_
       intro b2753 hle2754 hz2755
       have h2756 := OS.frz (l := l2717 ++ [x2625]) h2728 hle2754.cells hz2755
       refine D_all [19] (by kernel_rfl) rfl ?_
       refine R_do (hle2720.trans hle2754) rfl rfl (u_putOS hj2734 (sz := 1) (a' := l2717 ++ [x2625]) rfl [_, _, _, _, _] (hs2 ++ (hs7 ++ (hs2292 ++ R))) 0 1 [.slice A2729 (l2717 ++ [x2625]).length c2730] rfl (h2620.le (hle2720.trans hle2754)) hx2735 rfl rfl rfl siz23 rfl (mem_c rfl mem_n) (fun cs hsj hh => by obtain ⟨⟨A2757, c2758, rfl, h2759⟩, rfl⟩ := hh; exact ⟨by decide, (RT.list_mk h2756), rfl⟩)) ?_ ?_
       ·
        rintro _ _ ⟨hs2750, rfl, h2751⟩
        refine ⟨.inl (by kernel_rfl), ?_⟩
        refine d_hresp 4 rfl (o' := Cl 73 [.slice A2293 (l2303).length c2294, .slice A16 (l19).length c17, .slice A2618 (put l2621 x2625.From (l2717 ++ [x2625])).length c2619]) (by simp only [put_length]) ?_
        refine D_done (by kernel_rfl) ?_
        refine x_block_normal ?_
        refine x_then_normal ?_
        refine c_region ?_
        refine t_st rfl (st_add rfl rfl (by omega)) ?_
        refine t_mv rfl rfl ?_
        refine t_nil ?_
        refine x_pullb 4 rfl ?_
        refine x_pullb 4 rfl ?_
        refine x_pullb 4 rfl ?_
        refine x_front4 [_, _, _, _, _] hs2750 hs2 hs7 hs2292 R rfl ?_
        refine x_front4 [_, _, _, _, _] hs2292 hs2750 hs2 hs7 R rfl ?_
        refine x_front4 [_, _, _, _, _] hs7 hs2292 hs2750 hs2 R rfl ?_
        obtain rfl := some1 hm
        exact x_againS (e' := [(1, .slice A12 (l15).length c13), (6, .pointer (some ⟨g2301, 0, none⟩)), (36, .slice A12 (l15).length c13), (37, .int .i64 ((l15.length : Int))), (38, .int .i64 ((k2622 : Int) + 1))]) ⟨rfl, rfl, rfl, rfl, rfl, trivial⟩ (.cons_cons _ (.cons_cons _ (.cons_cons _ (.cons _ (.cons _ (.refl _)))))) ⟨A2618, c2619, hs2750, rfl, rfl, ((hle2615.trans (hle2720.trans hle2754))), h2751⟩
       exact R_nil
      exact R_nil
     exact R_nil
    exact R_nil
   ·
    rintro b2614 _ _ ⟨A2618, c2619, hs2617, rfl, rfl, hle2615, h2620⟩
    have hm := hk2624
    refine c_sr ?_
    refine t_st rfl (st_lss_f rfl rfl (by omega)) ?_
    refine t_ne ?_
    refine c_seq ?_
    refine c_cond_f rfl ?_
    refine c_exit ?_
    refine x_then_exit ?_
    refine x_then_exit ?_
    refine x_block_out ?_
    refine x_then_normal ?_
    refine c_sr ?_
    refine t_st rfl (st_load 0 rfl one69 rfl rfl) ?_
    refine t_st rfl (st_nil rfl) ?_
    refine t_st rfl (st_field rfl fld73_0) ?_
    refine t_st rfl (st_load 2 rfl one22 rfl rfl) ?_
    refine t_st rfl (st_len rfl sl22) ?_
    obtain ⟨m2760, h2761, hm⟩ := bindS hm
    have h2761 := mkLen_some h2761
    refine t_do rfl (u_mkOS (r := RT.bool) [_, _, _] (hs2 ++ (hs7 ++ (hs2292 ++ (hs2617 ++ R)))) [.bool (false)] false m2760 rfl h2761.1 rfl rfl sl88 inf4 rfl rfl rfl (by decide) rfl h2761.2.1 h2761.2.2) ?_
    rintro _ _ ⟨hs2762, rfl, h2763⟩
    obtain ⟨A2764, c2765, rfl, _⟩ := h2763.form
    refine t_do rfl (u_alloc [.slice none 0 0] zero88 rfl) ?_
    rintro _ _ ⟨g2766, rfl, rfl⟩
    refine t_do rfl (u_store 0 rfl rfl siz88 rfl rfl (by simp)) ?_
    rintro _ _ rfl
    refine t_ne ?_
    refine c_sr ?_
    refine t_st rfl (st_load 1 rfl one69 rfl rfl) ?_
    refine t_st rfl (st_nil rfl) ?_
    refine t_st rfl (st_field rfl fld73_0) ?_
    refine t_st rfl (st_load 3 rfl one22 rfl rfl) ?_
    refine t_st rfl (st_len rfl sl22) ?_
    obtain ⟨m2767, h2768, hm⟩ := bindS hm
    have h2768 := mkLen_some h2768
    refine t_do rfl (u_mkOS (r := (RT.int .i64)) [_, _, _, _] (hs2762 ++ (hs2 ++ (hs7 ++ (hs2292 ++ (hs2617 ++ R))))) [.int .i64 (0)] 0 m2767 rfl h2768.1 rfl rfl sl22 inf3 rfl rfl rfl (by decide) rfl h2768.2.1 h2768.2.2) ?_
    rintro _ _ ⟨hs2769, rfl, h2770⟩
    obtain ⟨A2771, c2772, rfl, _⟩ := h2770.form
    refine t_do rfl (u_alloc [.slice none 0 0] zero22 rfl) ?_
    rintro _ _ ⟨g2773, rfl, rfl⟩
    refine t_do rfl (u_store 0 rfl rfl siz22 rfl rfl (by simp)) ?_
    rintro _ _ rfl
    refine t_ne ?_
    refine c_sr ?_
    refine t_do rfl (u_alloc [.slice none 0 0] zero22 rfl) ?_
    rintro _ _ ⟨g2774, rfl, rfl⟩
    refine t_ne ?_
    refine c_sr ?_
    refine t_do rfl (u_alloc [.bool false] zero4 rfl) ?_
    rintro _ _ ⟨g2775, rfl, rfl⟩
    refine t_do rfl (u_store 0 rfl rfl siz4 rfl rfl (by simp)) ?_
    rintro _ _ rfl
    refine t_ne ?_
    refine c_sr ?_
    refine t_st rfl (st_func _ _ rfl rfl) ?_
    refine t_as rfl rfl ?_
    refine t_ne ?_
    refine c_seq ?_
    refine c_sr ?_
    refine t_mv rfl rfl ?_
    refine t_st rfl (st_len rfl sl23) ?_
    refine t_mv rfl rfl ?_
    refine t_ne ?_
    refine c_block ?_
    have hb2777 : l15.length ≤ 9223372036854775807 := (FZ.bd (h14.le (hle2290.trans hle2615)))
    refine c_pullb 6 rfl ?_
    refine c_pullb 6 rfl ?_
    refine c_pullb 4 rfl ?_
    refine c_pullb 3 rfl ?_
    refine c_pullb 4 rfl ?_
    refine c_pullb 5 rfl ?_
    refine c_pullb 6 rfl ?_
    refine c_front6 [_, _, _, _, _, _, _] hs2769 hs2762 hs2 hs7 hs2292 hs2617 R rfl ?_
    refine c_front6 [_, _, _, _, _, _, _] hs2617 hs2769 hs2762 hs2 hs7 hs2292 R rfl ?_
    refine c_front3 [_, _, _, _, _, _, _] hs2292 hs2617 hs2769 (hs2762 ++ (hs2 ++ (hs7 ++ R))) rfl ?_
    refine c_front4 [_, _, _, _, _, _, _] hs2769 hs2292 hs2617 hs2762 (hs2 ++ (hs7 ++ R)) rfl ?_
    refine c_front6 [_, _, _, _, _, _, _] hs2762 hs2769 hs2292 hs2617 hs2 hs7 R rfl ?_
    refine c_front6 [_, _, _, _, _, _, _] hs7 hs2762 hs2769 hs2292 hs2617 hs2 R rfl ?_
    obtain ⟨⟨x2886, l2887, l2889, l2891, l2893⟩, hl2895, hk2896⟩ := bindS hm
    refine c_forS (fun k2894 => unc5 fun x2886 l2887 l2889 l2891 l2893 => fun b2868 e' hp' => ∃ (hs2871 : Hp), ∃ (A2875 : Option Addr), ∃ (c2876 : Nat), ∃ (hs2874 : Hp), ∃ (hs2879 : Hp), ∃ (A2883 : Option Addr), ∃ (c2884 : Nat), ∃ (hs2882 : Hp), [(6, .pointer (some ⟨g2301, 0, none⟩)), (9, .pointer (some ⟨g2766, 0, none⟩)), (11, .pointer (some ⟨g2774, 0, none⟩)), (12, .pointer (some ⟨g2775, 0, none⟩)), (13, .func (.func 61) #[] #[.pointer (some ⟨g2301, 0, none⟩), .pointer (some ⟨g2773, 0, none⟩), .pointer (some ⟨g2775, 0, none⟩), .pointer (some ⟨g2766, 0, none⟩), .pointer (some ⟨g2774, 0, none⟩)]), (75, .slice A12 (l15).length c13), (76, .int .i64 ((l15.length : Int))), (77, .int .i64 ((k2894 : Int)))] = e' ∧ (g2301, Cl 69 [.pointer (some ⟨g2302, 0, none⟩)]) :: (g2766, Cl 88 [.slice A2764 (l2887).length c2765]) :: (g2774, Cl 22 [.slice A2875 (l2889).length c2876]) :: (g2775, Cl 4 [.bool (x2886)]) :: (g2773, Cl 22 [.slice A2771 (l2891).length c2772]) :: (g11, Cl 73 [.slice A3 (l20).length c4, .slice A16 (l19).length c17, .slice A8 (l21).length c9]) :: (g2302, Cl 73 [.slice A2883 (l2893).length c2884, .slice A16 (l19).length c17, .slice A2618 (l2621).length c2619]) :: (hs2 ++ (hs7 ++ (hs2871 ++ (hs2874 ++ (hs2879 ++ (hs2882 ++ (hs2617 ++ R))))))) = hp' ∧ b2614.Le b2868 ∧ OS 4 (OT.fr RT.bool) b2868.w (.slice A2764 l2887.length c2765) l2887 hs2871 ∧ l2887.length = m2760 ∧ OS 3 (OT.fr (RT.int .i64)) b2868.w (.slice A2875 l2889.length c2876) l2889 hs2874 ∧ (A2875 = none ↔ l2889 = []) ∧ OS 3 (OT.fr (RT.int .i64)) b2868.w (.slice A2771 l2891.length c2772) l2891 hs2879 ∧ l2891.length = m2767 ∧ OS 3 (OT.fr (RT.int .i64)) b2868.w (.slice A2883 l2893.length c2884) l2893 hs2882) hl2895 (e' := [(6, .pointer (some ⟨g2301, 0, none⟩)), (9, .pointer (some ⟨g2766, 0, none⟩)), (11, .pointer (some ⟨g2774, 0, none⟩)), (12, .pointer (some ⟨g2775, 0, none⟩)), (13, .func (.func 61) #[] #[.pointer (some ⟨g2301, 0, none⟩), .pointer (some ⟨g2773, 0, none⟩), .pointer (some ⟨g2775, 0, none⟩), .pointer (some ⟨g2766, 0, none⟩), .pointer (some ⟨g2774, 0, none⟩)]), (75, .slice A12 (l15).length c13), (76, .int .i64 ((l15.length : Int))), (77, .int .i64 0)]) ⟨rfl, rfl, rfl, rfl, rfl, rfl, rfl, rfl, trivial⟩ (.refl _) ⟨hs2762, none, 0, [], hs2769, A2293, c2294, hs2292, rfl, rfl, (Base.Le.refl _), h2763, List.length_replicate, OS.nil, ⟨fun _ => rfl, fun _ => rfl⟩, h2770, List.length_replicate, (h2295.le hle2615)⟩ ?_ ?_
    ·
     rintro k2894 ⟨x2886, l2887, l2889, l2891, l2893⟩ b2868 _ _ oL2776 hknL2776 ⟨hs2871, A2875, c2876, hs2874, hs2879, A2883, c2884, hs2882, rfl, rfl, hle2869, h2872, hln2888, h2877, hnz2890, h2880, hln2892, h2885⟩ hstepL2776
     unfold mMendSolverWith_L2776 at hstepL2776
     have hm := (unc5E hstepL2776)
     refine c_sr ?_
     refine t_st rfl (st_lss_t rfl rfl (by omega)) ?_
     refine t_ne ?_
     refine c_seq ?_
     refine c_cond_t rfl ?_
     refine c_skip ?_
     refine x_then_normal ?_
     refine c_seq ?_
     refine c_block ?_
     refine c_sr ?_
     obtain ⟨x2897, h2898, hm⟩ := bindS hm
     obtain ⟨j2899, hj2900, hx2901⟩ := idx_some h2898
     obtain ⟨cs2902, hr2903, hcs2904, hA2905, hlt2906⟩ := FZ.get (sz := 3) rfl (by decide) (h14.le (hle2290.trans (hle2615.trans hle2869))) hx2901
     obtain ⟨_, _, rfl, rfl, ⟨_, _, rfl, rfl, rfl⟩⟩ := hr2903
     refine t_st rfl (st_index_old j2899 rfl rfl hj2900 hlt2906 hA2905 sl23) ?_
     refine t_st rfl (st_loadN_old (vs := [.int .i64 (x2897.From), .int .i64 (x2897.To), .int .i64 (x2897.Len)]) 3 rfl agg34 hA2905 rfl (fun j u hu => hcs2904 j u hu)) ?_
     refine t_do rfl (u_alloc [.int .i64 0, .int .i64 0, .int .i64 0] zero34 rfl) ?_
     rintro _ _ ⟨g2907, rfl, rfl⟩
     refine t_do rfl (u_storeN (vs := [_, _, _]) 0 3 rfl rfl rfl siz34 rfl (mem_c rfl (mem_c rfl (mem_c rfl mem_n))) rfl (by simp)) ?_
     rintro _ _ rfl
     refine t_ne ?_
     refine c_region ?_
     refine t_mv rfl rfl ?_
     refine t_st rfl (st_loadD (vs := [_, _, _]) 0 3 rfl agg34 rfl rfl rfl) ?_
     obtain ⟨⟨x2908, l2909, l2910, l2911, l2912⟩, hcl2913, hm⟩ := bindS hm
     have hm := (unc5E hm)
     refine t_pullb 7 rfl ?_
     refine t_pullb 4 rfl ?_
     refine t_pullb 4 rfl ?_
     refine t_pullb 5 rfl ?_
     refine t_pullb 6 rfl ?_
     refine t_pullb 6 rfl ?_
     refine t_front7 [_, _, _, _, _, _, _, _] hs2 hs7 hs2871 hs2874 hs2879 hs2882 hs2617 R rfl ?_
     refine t_front7 [_, _, _, _, _, _, _, _] hs2617 hs2 hs7 hs2871 hs2874 hs2879 hs2882 R rfl ?_
     refine t_front6 [_, _, _, _, _, _, _, _] hs2882 hs2617 hs2 hs7 hs2871 hs2874 (hs2879 ++ R) rfl ?_
     refine t_front6 [_, _, _, _, _, _, _, _] hs2874 hs2882 hs2617 hs2 hs7 hs2871 (hs2879 ++ R) rfl ?_
     refine t_front7 [_, _, _, _, _, _, _, _] hs2871 hs2874 hs2882 hs2617 hs2 hs7 hs2879 R rfl ?_
     refine t_out5 [_, _, _, _, _, _] [_, _] hs2879 hs2871 hs2874 hs2882 hs2617 (hs2 ++ (hs7 ++ R)) rfl ?_
     refine t_callvG #[] #[.pointer (some ⟨g2301, 0, none⟩), .pointer (some ⟨g2773, 0, none⟩), .pointer (some ⟨g2775, 0, none⟩), .pointer (some ⟨g2766, 0, none⟩), .pointer (some ⟨g2774, 0, none⟩)] [.agg #[.int .i64 (x2897.From), .int .i64 (x2897.To), .int .i64 (x2897.Len)]] rfl rfl call61 rfl (cMendSolverWith_1 _ _ x2897 x2886 l19 l2891 l2887 l2889 l2893 l2621 g2301 g2773 g2775 g2766 g2774 g2302 A16 c17 A2771 c2772 hs2879 A2764 c2765 hs2871 A2875 c2876 hs2874 A2883 c2884 hs2882 A2618 c2619 hs2617 (h18.le (hle2290.trans (hle2615.trans hle2869))) h2880 h2872 h2877 hnz2890 h2885 (h2620.le hle2869) x2908 l2909 l2910 l2911 l2912 hcl2913) ?_
     rintro _ b2914 _ hle2915 ⟨hs2916, hs2917, A2918, c2919, hs2920, hs2921, rfl, rfl, h2922, h2923, h2924, h2925, h2926, h2927, h2928, h2929⟩
     refine t_in5 [_, _, _, _, _, _] [_, _] hs2916 hs2917 hs2920 hs2921 hs2617 (hs2 ++ (hs7 ++ R)) rfl ?_
     refine t_hresp 1 rfl (o' := Cl 22 [.slice A2771 (l2909).length c2772]) (by simp only [h2923]) ?_
     refine t_hresp 3 rfl (o' := Cl 88 [.slice A2764 (l2910).length c2765]) (by simp only [h2925]) ?_
     refine t_hresp 5 rfl (o' := Cl 73 [.slice A2883 (l2912).length c2884, .slice A16 (l19).length c17, .slice A2618 (l2621).length c2619]) (by simp only [h2929]) ?_
     refine t_nil ?_
     refine x_block_normal ?_
     refine x_then_normal ?_
     refine c_region ?_
     refine t_st rfl (st_add rfl rfl (by omega)) ?_
     refine t_mv rfl rfl ?_
     refine t_nil ?_
     refine x_pullb 5 rfl ?_
     refine x_pullb 7 rfl ?_
     refine x_pullb 3 rfl ?_
     refine x_pullb 4 rfl ?_
     refine x_pullb 6 rfl ?_
     refine x_pullb 6 rfl ?_
     refine x_pullb 6 rfl ?_
     refine x_front5 [_, _, _, _, _, _, _, _] hs2916 hs2917 hs2920 hs2921 hs2617 (hs2 ++ (hs7 ++ R)) rfl ?_
     refine x_front5 [_, _, _, _, _, _, _, _] hs2617 hs2916 hs2917 hs2920 hs2921 (hs2 ++ (hs7 ++ R)) rfl ?_
     refine x_front3 [_, _, _, _, _, _, _, _] hs2921 hs2617 hs2916 (hs2917 ++ (hs2920 ++ (hs2 ++ (hs7 ++ R)))) rfl ?_
     refine x_front5 [_, _, _, _, _, _, _, _] hs2916 hs2921 hs2617 hs2917 hs2920 (hs2 ++ (hs7 ++ R)) rfl ?_
     refine x_front5 [_, _, _, _, _, _, _, _] hs2920 hs2916 hs2921 hs2617 hs2917 (hs2 ++ (hs7 ++ R)) rfl ?_
     refine x_front7 [_, _, _, _, _, _, _, _] hs2917 hs2920 hs2916 hs2921 hs2617 hs2 hs7 R rfl ?_
     refine x_front7 [_, _, _, _, _, _, _, _] hs7 hs2917 hs2920 hs2916 hs2921 hs2617 hs2 R rfl ?_
     obtain rfl := some1 hm
     exact x_againS (e' := [(6, .pointer (some ⟨g2301, 0, none⟩)), (9, .pointer (some ⟨g2766, 0, none⟩)), (11, .pointer (some ⟨g2774, 0, none⟩)), (12, .pointer (some ⟨g2775, 0, none⟩)), (13, .func (.func 61) #[] #[.pointer (some ⟨g2301, 0, none⟩), .pointer (some ⟨g2773, 0, none⟩), .pointer (some ⟨g2775, 0, none⟩), .pointer (some ⟨g2766, 0, none⟩), .pointer (some ⟨g2774, 0, none⟩)]), (75, .slice A12 (l15).length c13), (76, .int .i64 ((l15.length : Int))), (77, .int .i64 ((k2894 : Int) + 1))]) ⟨rfl, rfl, rfl, rfl, rfl, rfl, rfl, rfl, trivial⟩ (.cons_cons _ (.cons_cons _ (.cons_cons _ (.cons_cons _ (.cons_cons _ (.cons_cons _ (.cons_cons _ (.cons _ (.refl _))))))))) ⟨hs2917, A2918, c2919, hs2920, hs2916, A2883, c2884, hs2921, rfl, rfl, ((hle2869.trans hle2915)), h2924, (h2925.trans hln2888), h2926, h2927, h2922, (h2923.trans hln2892), h2928⟩
    ·
     rintro b2868 _ _ ⟨hs2871, A2875, c2876, hs2874, hs2879, A2883, c2884, hs2882, rfl, rfl, hle2869, h2872, hln2888, h2877, hnz2890, h2880, hln2892, h2885⟩
     have hm := (unc5E hk2896)
     refine c_sr ?_
     refine t_st rfl (st_lss_f rfl rfl (by omega)) ?_
     refine t_ne ?_
     refine c_seq ?_
     refine c_cond_f rfl ?_
     refine c_exit ?_
     refine x_then_exit ?_
     refine x_then_exit ?_
     refine x_block_out ?_
     refine x_then_normal ?_
     refine c_sr ?_
     refine t_st rfl (st_load 0 rfl one69 rfl rfl) ?_
     obtain ⟨x2930, hcl2931, hm⟩ := bindS hm
     refine t_pullb 6 rfl ?_
     refine t_front7 [_, _, _, _, _, _, _] hs2 hs7 hs2871 hs2874 hs2879 hs2882 hs2617 R rfl ?_
     refine t_front7 [_, _, _, _, _, _, _] hs2617 hs2 hs7 hs2871 hs2874 hs2879 hs2882 R rfl ?_
     refine t_out2 [_] [_, _, _, _, _, _] hs2882 hs2617 (hs2 ++ (hs7 ++ (hs2871 ++ (hs2874 ++ (hs2879 ++ R))))) rfl ?_
     refine t_callG _ rfl call62 rfl (cMendSolverBound _ _ l19 l2893 l2621 g2302 A16 c17 A2883 c2884 hs2882 A2618 c2619 hs2617 (h18.le (hle2290.trans (hle2615.trans hle2869))) h2885 (h2620.le hle2869) x2930 hcl2931) ?_
     rintro _ b2932 _ hle2933 ⟨rfl, rfl⟩
     refine t_in2 [_] [_, _, _, _, _, _] hs2882 hs2617 (hs2 ++ (hs7 ++ (hs2871 ++ (hs2874 ++ (hs2879 ++ R))))) rfl ?_
     refine t_as rfl rfl ?_
     refine t_ne ?_
     obtain ⟨t3710, hj3709, hk3709⟩ := bindS hm
     refine c_join (fun b3700 e' hp' => ∃ (x3707 : Bool), ∃ (l3708 : (List Int)), ∃ (A3704 : Option Addr), ∃ (c3705 : Nat), ∃ (hs3703 : Hp), [(6, .pointer (some ⟨g2301, 0, none⟩)), (12, .pointer (some ⟨g2775, 0, none⟩))] = e' ∧ (g2301, Cl 69 [.pointer (some ⟨g2302, 0, none⟩)]) :: (g2775, Cl 4 [.bool (x3707)]) :: (g11, Cl 73 [.slice A3 (l20).length c4, .slice A16 (l19).length c17, .slice A8 (l21).length c9]) :: (g2302, Cl 73 [.slice A3704 (l3708).length c3705, .slice A16 (l19).length c17, .slice A2618 (l2621).length c2619]) :: (hs2 ++ (hs7 ++ (hs3703 ++ (hs2617 ++ R)))) = hp' ∧ b2932.Le b3700 ∧ OS 3 (OT.fr (RT.int .i64)) b3700.w (.slice A3704 l3708.length c3705) l3708 hs3703 ∧ t3710 = .inl (x3707, l3708)) ?_ ?_
     ·
      have hm := hj3709
      refine c_block ?_
      refine c_pullb 6 rfl ?_
      refine c_pullb 6 rfl ?_
      refine c_pullb 6 rfl ?_
      refine c_pullb 6 rfl ?_
      refine c_pullb 6 rfl ?_
      refine c_pullb 6 rfl ?_
      refine c_front2 [_, _, _, _, _, _, _] hs2882 hs2617 (hs2 ++ (hs7 ++ (hs2871 ++ (hs2874 ++ (hs2879 ++ R))))) rfl ?_
      refine c_front2 [_, _, _, _, _, _, _] hs2617 hs2882 (hs2 ++ (hs7 ++ (hs2871 ++ (hs2874 ++ (hs2879 ++ R))))) rfl ?_
      refine c_front7 [_, _, _, _, _, _, _] hs2882 hs2617 hs2 hs7 hs2871 hs2874 hs2879 R rfl ?_
      refine c_front7 [_, _, _, _, _, _, _] hs2879 hs2882 hs2617 hs2 hs7 hs2871 hs2874 R rfl ?_
      refine c_front7 [_, _, _, _, _, _, _] hs2874 hs2879 hs2882 hs2617 hs2 hs7 hs2871 R rfl ?_
      refine c_front7 [_, _, _, _, _, _, _] hs2871 hs2874 hs2879 hs2882 hs2617 hs2 hs7 R rfl ?_
      refine c_front7 [_, _, _, _, _, _, _] hs7 hs2871 hs2874 hs2879 hs2882 hs2617 hs2 R rfl ?_
      refine c_loopM (unc5 fun x4231 l4232 l4234 l4235 l4237 => fun b4213 e' hp' => ∃ (hs4216 : Hp), ∃ (A4220 : Option Addr), ∃ (c4221 : Nat), ∃ (hs4219 : Hp), ∃ (hs4224 : Hp), ∃ (A4228 : Option Addr), ∃ (c4229 : Nat), ∃ (hs4227 : Hp), [(6, .pointer (some ⟨g2301, 0, none⟩)), (9, .pointer (some ⟨g2766, 0, none⟩)), (11, .pointer (some ⟨g2774, 0, none⟩)), (12, .pointer (some ⟨g2775, 0, none⟩)), (13, .func (.func 61) #[] #[.pointer (some ⟨g2301, 0, none⟩), .pointer (some ⟨g2773, 0, none⟩), .pointer (some ⟨g2775, 0, none⟩), .pointer (some ⟨g2766, 0, none⟩), .pointer (some ⟨g2774, 0, none⟩)]), (16, .int .i64 (x2930))] = e' ∧ (g2301, Cl 69 [.pointer (some ⟨g2302, 0, none⟩)]) :: (g2766, Cl 88 [.slice A2764 (l4232).length c2765]) :: (g2774, Cl 22 [.slice A4220 (l4234).length c4221]) :: (g2775, Cl 4 [.bool (x4231)]) :: (g2773, Cl 22 [.slice A2771 (l4235).length c2772]) :: (g11, Cl 73 [.slice A3 (l20).length c4, .slice A16 (l19).length c17, .slice A8 (l21).length c9]) :: (g2302, Cl 73 [.slice A4228 (l4237).length c4229, .slice A16 (l19).length c17, .slice A2618 (l2621).length c2619]) :: (hs2 ++ (hs7 ++ (hs4216 ++ (hs4219 ++ (hs4224 ++ (hs4227 ++ (hs2617 ++ R))))))) = hp' ∧ b2932.Le b4213 ∧ OS 4 (OT.fr RT.bool) b4213.w (.slice A2764 l4232.length c2765) l4232 hs4216 ∧ l4232.length = m2760 ∧ OS 3 (OT.fr (RT.int .i64)) b4213.w (.slice A4220 l4234.length c4221) l4234 hs4219 ∧ OS 3 (OT.fr (RT.int .i64)) b4213.w (.slice A2771 l4235.length c2772) l4235 hs4224 ∧ l4235.length = m2767 ∧ OS 3 (OT.fr (RT.int .i64)) b4213.w (.slice A4228 l4237.length c4229) l4237 hs4227) hm (e' := [(6, .pointer (some ⟨g2301, 0, none⟩)), (9, .pointer (some ⟨g2766, 0, none⟩)), (11, .pointer (some ⟨g2774, 0, none⟩)), (12, .pointer (some ⟨g2775, 0, none⟩)), (13, .func (.func 61) #[] #[.pointer (some ⟨g2301, 0, none⟩), .pointer (some ⟨g2773, 0, none⟩), .pointer (some ⟨g2775, 0, none⟩), .pointer (some ⟨g2766, 0, none⟩), .pointer (some ⟨g2774, 0, none⟩)]), (16, .int .i64 (x2930))]) ⟨rfl, rfl, rfl, rfl, rfl, rfl, trivial⟩ (.refl _) ⟨hs2871, A2875, c2876, hs2874, hs2879, A2883, c2884, hs2882, rfl, rfl, (Base.Le.refl _), (h2872.le hle2933), hln2888, (h2877.le hle2933), (h2880.le hle2933), hln2892, (h2885.le hle2933)⟩ ?_
      rintro ⟨x4231, l4232, l4234, l4235, l4237⟩ b4213 _ _ oL3711 ⟨hs4216, A4220, c4221, hs4219, hs4224, A4228, c4229, hs4227, rfl, rfl, hle4214, h4217, hln4233, h4222, h4225, hln4236, h4230⟩ hstepL3711 houtL3711
      unfold mMendSolverWith_L3711 at hstepL3711
      have hm := (unc5E hstepL3711)
      refine c_seq ?_
      obtain ⟨x4241, hj4242, hk4242⟩ := bindS hm
      refine c_join (fun b4239 e' hp' => [(6, .pointer (some ⟨g2301, 0, none⟩)), (9, .pointer (some ⟨g2766, 0, none⟩)), (11, .pointer (some ⟨g2774, 0, none⟩)), (12, .pointer (some ⟨g2775, 0, none⟩)), (13, .func (.func 61) #[] #[.pointer (some ⟨g2301, 0, none⟩), .pointer (some ⟨g2773, 0, none⟩), .pointer (some ⟨g2775, 0, none⟩), .pointer (some ⟨g2766, 0, none⟩), .pointer (some ⟨g2774, 0, none⟩)]), (16, .int .i64 (x2930)), (92, .bool (x4241))] = e' ∧ (g2301, Cl 69 [.pointer (some ⟨g2302, 0, none⟩)]) :: (g2766, Cl 88 [.slice A2764 (l4232).length c2765]) :: (g2774, Cl 22 [.slice A4220 (l4234).length c4221]) :: (g2775, Cl 4 [.bool (x4231)]) :: (g2773, Cl 22 [.slice A2771 (l4235).length c2772]) :: (g11, Cl 73 [.slice A3 (l20).length c4, .slice A16 (l19).length c17, .slice A8 (l21).length c9]) :: (g2302, Cl 73 [.slice A4228 (l4237).length c4229, .slice A16 (l19).length c17, .slice A2618 (l2621).length c2619]) :: (hs2 ++ (hs7 ++ (hs4216 ++ (hs4219 ++ (hs4224 ++ (hs4227 ++ (hs2617 ++ R))))))) = hp' ∧ b4213.Le b4239) ?_ ?_
      ·
       have hm := hj4242
       refine c_region ?_
       refine t_st rfl (st_load 2 rfl one22 rfl rfl) ?_
       refine t_st rfl (st_len rfl sl22) ?_
       refine t_bool rfl (st_gtr rfl rfl) (fun hc4243 => ?_) (fun hc4243 => ?_)
       ·
        rw [if_pos hc4243] at hm
        refine t_mv rfl rfl ?_
        refine t_yes 90 rfl rfl rfl ?_
        refine t_st rfl (st_load 3 rfl one4 rfl rfl) ?_
        refine t_st rfl (st_pick_t rfl rfl) ?_
        refine t_nil ?_
        obtain rfl := some1 hm
        refine x_pullb 6 rfl ?_
        refine x_pullb 6 rfl ?_
        refine x_pullb 6 rfl ?_
        refine x_pullb 6 rfl ?_
        refine x_pullb 6 rfl ?_
        refine x_pullb 6 rfl ?_
        refine x_pullb 6 rfl ?_
        refine x_front7 [_, _, _, _, _, _, _] hs2 hs7 hs4216 hs4219 hs4224 hs4227 hs2617 R rfl ?_
        refine x_front7 [_, _, _, _, _, _, _] hs2617 hs2 hs7 hs4216 hs4219 hs4224 hs4227 R rfl ?_
        refine x_front7 [_, _, _, _, _, _, _] hs4227 hs2617 hs2 hs7 hs4216 hs4219 hs4224 R rfl ?_
        refine x_front7 [_, _, _, _, _, _, _] hs4224 hs4227 hs2617 hs2 hs7 hs4216 hs4219 R rfl ?_
        refine x_front7 [_, _, _, _, _, _, _] hs4219 hs4224 hs4227 hs2617 hs2 hs7 hs4216 R rfl ?_
        refine x_front7 [_, _, _, _, _, _, _] hs4216 hs4219 hs4224 hs4227 hs2617 hs2 hs7 R rfl ?_
        refine x_front7 [_, _, _, _, _, _, _] hs7 hs4216 hs4219 hs4224 hs4227 hs2617 hs2 R rfl ?_
        exact x_join (e' := [(6, .pointer (some ⟨g2301, 0, none⟩)), (9, .pointer (some ⟨g2766, 0, none⟩)), (11, .pointer (some ⟨g2774, 0, none⟩)), (12, .pointer (some ⟨g2775, 0, none⟩)), (13, .func (.func 61) #[] #[.pointer (some ⟨g2301, 0, none⟩), .pointer (some ⟨g2773, 0, none⟩), .pointer (some ⟨g2775, 0, none⟩), .pointer (some ⟨g2766, 0, none⟩), .pointer (some ⟨g2774, 0, none⟩)]), (16, .int .i64 (x2930)), (92, .bool (x4231))]) ⟨rfl, rfl, rfl, rfl, rfl, rfl, rfl, trivial⟩ (.refl _) ⟨rfl, rfl, (Base.Le.refl _)⟩
       ·
        rw [if_neg hc4243] at hm
        refine t_mv rfl rfl ?_
        refine t_no 90 rfl rfl rfl rfl rfl ?_
        refine t_st rfl (st_pick_f rfl rfl) ?_
        refine t_nil ?_
        obtain rfl := some1 hm
        refine x_pullb 6 rfl ?_
        refine x_pullb 6 rfl ?_
        refine x_pullb 6 rfl ?_
        refine x_pullb 6 rfl ?_
        refine x_pullb 6 rfl ?_
        refine x_pullb 6 rfl ?_
        refine x_pullb 6 rfl ?_
        refine x_front7 [_, _, _, _, _, _, _] hs2 hs7 hs4216 hs4219 hs4224 hs4227 hs2617 R rfl ?_
        refine x_front7 [_, _, _, _, _, _, _] hs2617 hs2 hs7 hs4216 hs4219 hs4224 hs4227 R rfl ?_
        refine x_front7 [_, _, _, _, _, _, _] hs4227 hs2617 hs2 hs7 hs4216 hs4219 hs4224 R rfl ?_
        refine x_front7 [_, _, _, _, _, _, _] hs4224 hs4227 hs2617 hs2 hs7 hs4216 hs4219 R rfl ?_
        refine x_front7 [_, _, _, _, _, _, _] hs4219 hs4224 hs4227 hs2617 hs2 hs7 hs4216 R rfl ?_
        refine x_front7 [_, _, _, _, _, _, _] hs4216 hs4219 hs4224 hs4227 hs2617 hs2 hs7 R rfl ?_
        refine x_front7 [_, _, _, _, _, _, _] hs7 hs4216 hs4219 hs4224 hs4227 hs2617 hs2 R rfl ?_
        exact x_join (e' := [(6, .pointer (some ⟨g2301, 0, none⟩)), (9, .pointer (some ⟨g2766, 0, none⟩)), (11, .pointer (some ⟨g2774, 0, none⟩)), (12, .pointer (some ⟨g2775, 0, none⟩)), (13, .func (.func 61) #[] #[.pointer (some ⟨g2301, 0, none⟩), .pointer (some ⟨g2773, 0, none⟩), .pointer (some ⟨g2775, 0, none⟩), .pointer (some ⟨g2766, 0, none⟩), .pointer (some ⟨g2774, 0, none⟩)]), (16, .int .i64 (x2930)), (92, .bool (false))]) ⟨rfl, rfl, rfl, rfl, rfl, rfl, rfl, trivial⟩ (.refl _) ⟨rfl, rfl, (Base.Le.refl _)⟩
      ·
       rintro b4239 _ _ ⟨rfl, rfl, hle4240⟩
       have hm := hk4242
       refine c_cond _ rfl (fun hc4244 => ?_) (fun hc4244 => ?_)
       ·
        rw [if_pos hc4244] at hm
        refine c_skip ?_
        refine x_then_normal ?_
        refine c_block ?_
        refine c_sr ?_
        refine t_st rfl (st_load 2 rfl one22 rfl rfl) ?_
        obtain ⟨x4245, h4246, hm⟩ := bindS hm
        obtain ⟨j4247, hj4248, hx4249⟩ := idx_some h4246
        obtain ⟨cs4250, hs4255, P4256, P4257, hq4258, hr4251, hcs4252, hA4253, hlt4254, hb4259, hho4260⟩ := OS.get (sz := 1) rfl (by decide) (h4222.le hle4240) hx4249
        obtain ⟨rfl, rfl⟩ := hr4251
        refine t_st rfl (st_index_old j4247 rfl rfl hj4248 hlt4254 hA4253 sl22) ?_
        refine t_st rfl (st_load_rd rfl one3 (fun w ho => hcs4252 w _ ho (.cons _ (.cons _ (.cons _ (.cons _ (.cons _ (.cons _ (.cons _ (sub_skip hs2 (sub_skip hs7 (sub_skip hs4216 (List.sublist_append_left _ _))))))))))) 0 _ rfl)) ?_
        refine t_as rfl rfl ?_
        refine t_ne ?_
        refine c_sr ?_
        refine t_st rfl (st_load 2 rfl one22 rfl rfl) ?_
        obtain ⟨l4261, h4262, hm⟩ := bindS hm
        obtain ⟨j4263, j4264, hj4265, hj4266, hj4267, hj4268, hx4269⟩ := cutS_some h4262
        have h4270 := OS.lc (h4222.le hle4240)
        refine t_st rfl (hx4269 ▸ st_part (l := l4234) j4263 j4264 rfl (.inr ⟨_, _, _, rfl, rfl, hj4265⟩) (.inl ⟨rfl, by omega⟩) hj4267 hj4268 h4270 sl22) ?_
        obtain ⟨hs4271, hq4272, h4273⟩ := OS.sub (sz := 1) rfl (h4222.le hle4240) hj4267 hj4268
        rw [← hx4269] at h4273
        refine t_front4 [_, _, _, _, _, _, _] hs2 hs7 hs4216 hs4219 (hs4224 ++ (hs4227 ++ (hs2617 ++ R))) rfl ?_
        refine t_less [_, _, _, _, _, _, _] hs4219 hs4271 (hs2 ++ (hs7 ++ (hs4216 ++ (hs4224 ++ (hs4227 ++ (hs2617 ++ R)))))) rfl hq4272 ?_
        refine t_do rfl (u_store 2 rfl rfl siz22 rfl rfl (by simp)) ?_
        rintro _ _ rfl
        refine t_ne ?_
        refine c_sr ?_
        refine t_st rfl (st_load 1 rfl one88 rfl rfl) ?_
        refine t_mv rfl rfl ?_
        obtain ⟨x4274, h4275, hm⟩ := bindS hm
        obtain ⟨j4276, hj4277, hx4278⟩ := idx_some h4275
        obtain ⟨cs4279, hs4284, P4285, P4286, hq4287, hr4280, hcs4281, hA4282, hlt4283, hb4288, hho4289⟩ := OS.get (sz := 1) rfl (by decide) (h4217.le hle4240) hx4278
        obtain ⟨rfl, rfl⟩ := hr4280
        refine t_st rfl (st_index_old j4276 rfl rfl hj4277 hlt4283 hA4282 sl88) ?_
        refine t_front4 [_, _, _, _, _, _, _] hs4271 hs2 hs7 hs4216 (hs4224 ++ (hs4227 ++ (hs2617 ++ R))) rfl ?_
        refine t_do rfl (u_putOS hj4277 (sz := 1) (a' := false) rfl [_, _, _, _, _, _, _] (hs4271 ++ (hs2 ++ (hs7 ++ (hs4224 ++ (hs4227 ++ (hs2617 ++ R)))))) 0 1 [.bool (false)] rfl (h4217.le hle4240) hx4278 rfl rfl rfl siz4 rfl (mem_c rfl mem_n) (fun cs hsj hh => by obtain ⟨rfl, rfl⟩ := hh; exact ⟨by decide, rfl, rfl⟩)) ?_
        rintro _ _ ⟨hs4290, rfl, h4291⟩
        refine t_hresp 1 rfl (o' := Cl 88 [.slice A2764 (put l4232 x4245 false).length c2765]) (by simp only [put_length]) ?_
        refine t_ne ?_
        refine c_seq ?_
        refine c_sr ?_
        refine t_st rfl (st_load 0 rfl one69 rfl rfl) ?_
        refine t_st rfl (st_nil rfl) ?_
        refine t_st rfl (st_field rfl fld73_0) ?_
        refine t_st rfl (st_load 6 rfl one22 rfl rfl) ?_
        refine t_mv rfl rfl ?_
        obtain ⟨x4292, h4293, hm⟩ := bindS hm
        obtain ⟨j4294, hj4295, hx4296⟩ := idx_some h4293
        obtain ⟨cs4297, hs4302, P4303, P4304, hq4305, hr4298, hcs4299, hA4300, hlt4301, hb4306, hho4307⟩ := OS.get (sz := 1) rfl (by decide) (h4230.le hle4240) hx4296
        obtain ⟨rfl, rfl⟩ := hr4298
        refine t_st rfl (st_index_old j4294 rfl rfl hj4295 hlt4301 hA4300 sl22) ?_
        refine t_st rfl (st_load_rd rfl one3 (fun w ho => hcs4299 w _ ho (.cons _ (.cons _ (.cons _ (.cons _ (.cons _ (.cons _ (.cons _ (sub_skip hs4290 (sub_skip hs4271 (sub_skip hs2 (sub_skip hs7 (sub_skip hs4224 (List.sublist_append_left _ _))))))))))))) 0 _ rfl)) ?_
        refine t_mv rfl rfl ?_
        refine t_st rfl (st_gtr rfl rfl) ?_
        refine t_ne ?_
        refine c_cond _ rfl (fun hc4308 => ?_) (fun hc4308 => ?_)
        ·
         rw [if_pos (of_decide_eq_true hc4308)] at hm
         refine c_sr ?_
         refine t_as rfl rfl ?_
         refine t_as rfl rfl ?_
         refine t_ne ?_
         refine c_ret ?_
         refine x_then_ret ?_
         refine x_block_ret ?_
         refine x_then_ret ?_
         refine x_block_ret ?_
         refine x_then_ret ?_
         have hm := congrArg some (houtL3711 _ (Option.some.inj hm).symm)
         have hq4309 := (Option.some.inj hm).symm
         rw [hq4309] at hk3709
         have hm := elimR hk3709
         obtain ⟨rfl, rfl⟩ := some2 hm
         refine x_pullb 5 rfl ?_
         refine x_front4 [_, _, _, _, _, _, _] hs4290 hs4271 hs2 hs7 (hs4224 ++ (hs4227 ++ (hs2617 ++ R))) rfl ?_
         refine x_front4 [_, _, _, _, _, _, _] hs7 hs4290 hs4271 hs2 (hs4224 ++ (hs4227 ++ (hs2617 ++ R))) rfl ?_
         exact retM (rs := [.tmp 4, .tmp 5]) [.pointer none, .bool (false)] (hle2290.trans (hle2615.trans (hle2869.trans (hle2933.trans (hle4214.trans hle4240))))) (by decide) rfl ⟨rfl, ⟨rfl, trivial⟩⟩ rfl (.cons_cons _ (.cons _ (.cons _ (.cons _ (.cons _ (.cons _ (.cons _ (sub_app hs2 (sub_app hs7 (sub_skip hs4290 (sub_skip hs4271 (sub_skip hs4224 (sub_skip hs4227 (sub_skip hs2617 (.refl _))))))))))))))) ⟨(.pointer none), rfl, rfl, rfl⟩
        ·
         rw [if_neg (of_decide_eq_false hc4308)] at hm
         refine c_skip ?_
         refine x_then_normal ?_
         refine c_sr ?_
         refine t_st rfl (st_load 0 rfl one69 rfl rfl) ?_
         refine t_st rfl (st_nil rfl) ?_
         refine t_st rfl (st_field rfl fld73_2) ?_
         refine t_st rfl (st_load 6 rfl one35 rfl rfl) ?_
         refine t_mv rfl rfl ?_
         obtain ⟨x4310, h4311, hm⟩ := bindS hm
         obtain ⟨j4312, hj4313, hx4314⟩ := idx_some h4311
         obtain ⟨cs4315, hs4320, P4321, P4322, hq4323, hr4316, hcs4317, hA4318, hlt4319, hb4324, hho4325⟩ := OS.get (sz := 1) rfl (by decide) (h2620.le (hle2869.trans (hle2933.trans (hle4214.trans hle4240)))) hx4314
         obtain ⟨⟨A4326, c4327, rfl, h4328⟩, rfl⟩ := hr4316
         refine t_st rfl (st_index_old j4312 rfl rfl hj4313 hlt4319 hA4318 sl35) ?_
         refine t_st rfl (st_load_rd rfl one23 (fun w ho => hcs4317 w _ ho (.cons _ (.cons _ (.cons _ (.cons _ (.cons _ (.cons _ (.cons _ (sub_skip hs4290 (sub_skip hs4271 (sub_skip hs2 (sub_skip hs7 (sub_skip hs4224 (sub_skip hs4227 (List.sublist_append_left _ _)))))))))))))) 0 _ rfl)) ?_
         refine t_st rfl (st_len rfl sl23) ?_
         refine t_mv rfl rfl ?_
         refine t_ne ?_
         refine c_block ?_
         have hb4330 : x4310.length ≤ 9223372036854775807 := (FZ.bd h4328)
         refine c_pullb 6 rfl ?_
         refine c_pullb 6 rfl ?_
         refine c_pullb 6 rfl ?_
         refine c_pullb 6 rfl ?_
         refine c_pullb 6 rfl ?_
         refine c_pullb 6 rfl ?_
         refine c_pullb 6 rfl ?_
         refine c_front7 [_, _, _, _, _, _, _] hs4290 hs4271 hs2 hs7 hs4224 hs4227 hs2617 R rfl ?_
         refine c_front7 [_, _, _, _, _, _, _] hs2617 hs4290 hs4271 hs2 hs7 hs4224 hs4227 R rfl ?_
         refine c_front7 [_, _, _, _, _, _, _] hs4227 hs2617 hs4290 hs4271 hs2 hs7 hs4224 R rfl ?_
         refine c_front5 [_, _, _, _, _, _, _] hs4224 hs4227 hs2617 hs4290 hs4271 (hs2 ++ (hs7 ++ R)) rfl ?_
         refine c_front5 [_, _, _, _, _, _, _] hs4271 hs4224 hs4227 hs2617 hs4290 (hs2 ++ (hs7 ++ R)) rfl ?_
         refine c_front7 [_, _, _, _, _, _, _] hs4290 hs4271 hs4224 hs4227 hs2617 hs2 hs7 R rfl ?_
         refine c_front7 [_, _, _, _, _, _, _] hs7 hs4290 hs4271 hs4224 hs4227 hs2617 hs2 R rfl ?_
         obtain ⟨⟨x4436, l4437, l4439, l4440, l4442⟩, hl4444, hk4445⟩ := bindS hm
         refine c_forS (fun k4443 => unc5 fun x4436 l4437 l4439 l4440 l4442 => fun b4418 e' hp' => ∃ (hs4421 : Hp), ∃ (A4425 : Option Addr), ∃ (c4426 : Nat), ∃ (hs4424 : Hp), ∃ (hs4429 : Hp), ∃ (A4433 : Option Addr), ∃ (c4434 : Nat), ∃ (hs4432 : Hp), [(6, .pointer (some ⟨g2301, 0, none⟩)), (9, .pointer (some ⟨g2766, 0, none⟩)), (11, .pointer (some ⟨g2774, 0, none⟩)), (12, .pointer (some ⟨g2775, 0, none⟩)), (13, .func (.func 61) #[] #[.pointer (some ⟨g2301, 0, none⟩), .pointer (some ⟨g2773, 0, none⟩), .pointer (some ⟨g2775, 0, none⟩), .pointer (some ⟨g2766, 0, none⟩), .pointer (some ⟨g2774, 0, none⟩)]), (16, .int .i64 (x2930)), (116, .slice A4326 (x4310).length c4327), (117, .int .i64 ((x4310.length : Int))), (118, .int .i64 ((k4443 : Int)))] = e' ∧ (g2301, Cl 69 [.pointer (some ⟨g2302, 0, none⟩)]) :: (g2766, Cl 88 [.slice A2764 (l4437).length c2765]) :: (g2774, Cl 22 [.slice A4425 (l4439).length c4426]) :: (g2775, Cl 4 [.bool (x4436)]) :: (g2773, Cl 22 [.slice A2771 (l4440).length c2772]) :: (g11, Cl 73 [.slice A3 (l20).length c4, .slice A16 (l19).length c17, .slice A8 (l21).length c9]) :: (g2302, Cl 73 [.slice A4433 (l4442).length c4434, .slice A16 (l19).length c17, .slice A2618 (l2621).length c2619]) :: (hs2 ++ (hs7 ++ (hs4421 ++ (hs4424 ++ (hs4429 ++ (hs4432 ++ (hs2617 ++ R))))))) = hp' ∧ b4239.Le b4418 ∧ OS 4 (OT.fr RT.bool) b4418.w (.slice A2764 l4437.length c2765) l4437 hs4421 ∧ l4437.length = m2760 ∧ OS 3 (OT.fr (RT.int .i64)) b4418.w (.slice A4425 l4439.length c4426) l4439 hs4424 ∧ OS 3 (OT.fr (RT.int .i64)) b4418.w (.slice A2771 l4440.length c2772) l4440 hs4429 ∧ l4440.length = m2767 ∧ OS 3 (OT.fr (RT.int .i64)) b4418.w (.slice A4433 l4442.length c4434) l4442 hs4432) hl4444 (e' := [(6, .pointer (some ⟨g2301, 0, none⟩)), (9, .pointer (some ⟨g2766, 0, none⟩)), (11, .pointer (some ⟨g2774, 0, none⟩)), (12, .pointer (some ⟨g2775, 0, none⟩)), (13, .func (.func 61) #[] #[.pointer (some ⟨g2301, 0, none⟩), .pointer (some ⟨g2773, 0, none⟩), .pointer (some ⟨g2775, 0, none⟩), .pointer (some ⟨g2766, 0, none⟩), .pointer (some ⟨g2774, 0, none⟩)]), (16, .int .i64 (x2930)), (116, .slice A4326 (x4310).length c4327), (117, .int .i64 ((x4310.length : Int))), (118, .int .i64 0)]) ⟨rfl, rfl, rfl, rfl, rfl, rfl, rfl, rfl, rfl, trivial⟩ (.refl _) ⟨hs4290, (subA A4220 c4221 j4263 1), (c4221 - j4263), hs4271, hs4224, A4228, c4229, hs4227, rfl, rfl, (Base.Le.refl _), h4291, ((put_length _ _ _).trans hln4233), h4273, (h4225.le hle4240), hln4236, (h4230.le hle4240)⟩ ?_ ?_
         ·
          rintro k4443 ⟨x4436, l4437, l4439, l4440, l4442⟩ b4418 _ _ oL4329 hknL4329 ⟨hs4421, A4425, c4426, hs4424, hs4429, A4433, c4434, hs4432, rfl, rfl, hle4419, h4422, hln4438, h4427, h4430, hln4441, h4435⟩ hstepL4329
          unfold mMendSolverWith_L4329 at hstepL4329
          have hm := (unc5E hstepL4329)
          refine c_sr ?_
          refine t_st rfl (st_lss_t rfl rfl (by omega)) ?_
          refine t_ne ?_
          refine c_seq ?_
          refine c_cond_t rfl ?_
          refine c_skip ?_
          refine x_then_normal ?_
          refine c_seq ?_
          refine c_block ?_
          refine c_sr ?_
          obtain ⟨x4446, h4447, hm⟩ := bindS hm
          obtain ⟨j4448, hj4449, hx4450⟩ := idx_some h4447
          obtain ⟨cs4451, hr4452, hcs4453, hA4454, hlt4455⟩ := FZ.get (sz := 3) rfl (by decide) (h4328.le hle4419) hx4450
          obtain ⟨_, _, rfl, rfl, ⟨_, _, rfl, rfl, rfl⟩⟩ := hr4452
          refine t_st rfl (st_index_old j4448 rfl rfl hj4449 hlt4455 hA4454 sl23) ?_
          refine t_st rfl (st_loadN_old (vs := [.int .i64 (x4446.From), .int .i64 (x4446.To), .int .i64 (x4446.Len)]) 3 rfl agg34 hA4454 rfl (fun j u hu => hcs4453 j u hu)) ?_
          refine t_do rfl (u_alloc [.int .i64 0, .int .i64 0, .int .i64 0] zero34 rfl) ?_
          rintro _ _ ⟨g4456, rfl, rfl⟩
          refine t_do rfl (u_storeN (vs := [_, _, _]) 0 3 rfl rfl rfl siz34 rfl (mem_c rfl (mem_c rfl (mem_c rfl mem_n))) rfl (by simp)) ?_
          rintro _ _ rfl
          refine t_ne ?_
          refine c_region ?_
          refine t_mv rfl rfl ?_
          refine t_st rfl (st_loadD (vs := [_, _, _]) 0 3 rfl agg34 rfl rfl rfl) ?_
          obtain ⟨⟨x4457, l4458, l4459, l4460, l4461⟩, hcl4462, hm⟩ := bindS hm
          have hm := (unc5E hm)
          refine t_pullb 7 rfl ?_
          refine t_pullb 4 rfl ?_
          refine t_pullb 4 rfl ?_
          refine t_pullb 5 rfl ?_
          refine t_pullb 6 rfl ?_
          refine t_pullb 6 rfl ?_
          refine t_front7 [_, _, _, _, _, _, _, _] hs2 hs7 hs4421 hs4424 hs4429 hs4432 hs2617 R rfl ?_
          refine t_front7 [_, _, _, _, _, _, _, _] hs2617 hs2 hs7 hs4421 hs4424 hs4429 hs4432 R rfl ?_
          refine t_front6 [_, _, _, _, _, _, _, _] hs4432 hs2617 hs2 hs7 hs4421 hs4424 (hs4429 ++ R) rfl ?_
          refine t_front6 [_, _, _, _, _, _, _, _] hs4424 hs4432 hs2617 hs2 hs7 hs4421 (hs4429 ++ R) rfl ?_
          refine t_front7 [_, _, _, _, _, _, _, _] hs4421 hs4424 hs4432 hs2617 hs2 hs7 hs4429 R rfl ?_
          refine t_out5 [_, _, _, _, _, _] [_, _] hs4429 hs4421 hs4424 hs4432 hs2617 (hs2 ++ (hs7 ++ R)) rfl ?_
          refine t_callvG #[] #[.pointer (some ⟨g2301, 0, none⟩), .pointer (some ⟨g2773, 0, none⟩), .pointer (some ⟨g2775, 0, none⟩), .pointer (some ⟨g2766, 0, none⟩), .pointer (some ⟨g2774, 0, none⟩)] [.agg #[.int .i64 (x4446.From), .int .i64 (x4446.To), .int .i64 (x4446.Len)]] rfl rfl call61 rfl (cMendSolverWith_1_2 _ _ x4446 x4436 l19 l4440 l4437 l4439 l4442 l2621 g2301 g2773 g2775 g2766 g2774 g2302 A16 c17 A2771 c2772 hs4429 A2764 c2765 hs4421 A4425 c4426 hs4424 A4433 c4434 hs4432 A2618 c2619 hs2617 (h18.le (hle2290.trans (hle2615.trans (hle2869.trans (hle2933.trans (hle4214.trans (hle4240.trans hle4419))))))) h4430 h4422 h4427 h4435 (h2620.le (hle2869.trans (hle2933.trans (hle4214.trans (hle4240.trans hle4419))))) x4457 l4458 l4459 l4460 l4461 hcl4462) ?_
          rintro _ b4463 _ hle4464 ⟨hs4465, hs4466, A4467, c4468, hs4469, hs4470, rfl, rfl, h4471, h4472, h4473, h4474, h4475, h4476, h4477⟩
          refine t_in5 [_, _, _, _, _, _] [_, _] hs4465 hs4466 hs4469 hs4470 hs2617 (hs2 ++ (hs7 ++ R)) rfl ?_
          refine t_hresp 1 rfl (o' := Cl 22 [.slice A2771 (l4458).length c2772]) (by simp only [h4472]) ?_
          refine t_hresp 3 rfl (o' := Cl 88 [.slice A2764 (l4459).length c2765]) (by simp only [h4474]) ?_
          refine t_hresp 5 rfl (o' := Cl 73 [.slice A4433 (l4461).length c4434, .slice A16 (l19).length c17, .slice A2618 (l2621).length c2619]) (by simp only [h4477]) ?_
          refine t_nil ?_
          refine x_block_normal ?_
          refine x_then_normal ?_
          refine c_region ?_
          refine t_st rfl (st_add rfl rfl (by omega)) ?_
          refine t_mv rfl rfl ?_
          refine t_nil ?_
          refine x_pullb 5 rfl ?_
          refine x_pullb 7 rfl ?_
          refine x_pullb 3 rfl ?_
          refine x_pullb 4 rfl ?_
          refine x_pullb 6 rfl ?_
          refine x_pullb 6 rfl ?_
          refine x_pullb 6 rfl ?_
          refine x_front5 [_, _, _, _, _, _, _, _] hs4465 hs4466 hs4469 hs4470 hs2617 (hs2 ++ (hs7 ++ R)) rfl ?_
          refine x_front5 [_, _, _, _, _, _, _, _] hs2617 hs4465 hs4466 hs4469 hs4470 (hs2 ++ (hs7 ++ R)) rfl ?_
          refine x_front3 [_, _, _, _, _, _, _, _] hs4470 hs2617 hs4465 (hs4466 ++ (hs4469 ++ (hs2 ++ (hs7 ++ R)))) rfl ?_
          refine x_front5 [_, _, _, _, _, _, _, _] hs4465 hs4470 hs2617 hs4466 hs4469 (hs2 ++ (hs7 ++ R)) rfl ?_
          refine x_front5 [_, _, _, _, _, _, _, _] hs4469 hs4465 hs4470 hs2617 hs4466 (hs2 ++ (hs7 ++ R)) rfl ?_
          refine x_front7 [_, _, _, _, _, _, _, _] hs4466 hs4469 hs4465 hs4470 hs2617 hs2 hs7 R rfl ?_
          refine x_front7 [_, _, _, _, _, _, _, _] hs7 hs4466 hs4469 hs4465 hs4470 hs2617 hs2 R rfl ?_
          obtain rfl := some1 hm
          exact x_againS (e' := [(6, .pointer (some ⟨g2301, 0, none⟩)), (9, .pointer (some ⟨g2766, 0, none⟩)), (11, .pointer (some ⟨g2774, 0, none⟩)), (12, .pointer (some ⟨g2775, 0, none⟩)), (13, .func (.func 61) #[] #[.pointer (some ⟨g2301, 0, none⟩), .pointer (some ⟨g2773, 0, none⟩), .pointer (some ⟨g2775, 0, none⟩), .pointer (some ⟨g2766, 0, none⟩), .pointer (some ⟨g2774, 0, none⟩)]), (16, .int .i64 (x2930)), (116, .slice A4326 (x4310).length c4327), (117, .int .i64 ((x4310.length : Int))), (118, .int .i64 ((k4443 : Int) + 1))]) ⟨rfl, rfl, rfl, rfl, rfl, rfl, rfl, rfl, rfl, trivial⟩ (.cons_cons _ (.cons_cons _ (.cons_cons _ (.cons_cons _ (.cons_cons _ (.cons_cons _ (.cons_cons _ (.cons _ (.refl _))))))))) ⟨hs4466, A4467, c4468, hs4469, hs4465, A4433, c4434, hs4470, rfl, rfl, ((hle4419.trans hle4464)), h4473, (h4474.trans hln4438), h4475, h4471, (h4472.trans hln4441), h4476⟩
         ·
          rintro b4418 _ _ ⟨hs4421, A4425, c4426, hs4424, hs4429, A4433, c4434, hs4432, rfl, rfl, hle4419, h4422, hln4438, h4427, h4430, hln4441, h4435⟩
          have hm := (unc5E hk4445)
          refine c_sr ?_
          refine t_st rfl (st_lss_f rfl rfl (by omega)) ?_
          refine t_ne ?_
          refine c_seq ?_
          refine c_cond_f rfl ?_
          refine c_exit ?_
          refine x_then_exit ?_
          refine x_then_exit ?_
          refine x_block_out ?_
          refine x_block_normal ?_
          refine x_pullb 6 rfl ?_
          refine x_pullb 6 rfl ?_
          refine x_pullb 6 rfl ?_
          refine x_pullb 6 rfl ?_
          refine x_pullb 6 rfl ?_
          refine x_pullb 6 rfl ?_
          refine x_pullb 6 rfl ?_
          refine x_front7 [_, _, _, _, _, _, _] hs2 hs7 hs4421 hs4424 hs4429 hs4432 hs2617 R rfl ?_
          refine x_front7 [_, _, _, _, _, _, _] hs2617 hs2 hs7 hs4421 hs4424 hs4429 hs4432 R rfl ?_
          refine x_front7 [_, _, _, _, _, _, _] hs4432 hs2617 hs2 hs7 hs4421 hs4424 hs4429 R rfl ?_
          refine x_front7 [_, _, _, _, _, _, _] hs4429 hs4432 hs2617 hs2 hs7 hs4421 hs4424 R rfl ?_
          refine x_front7 [_, _, _, _, _, _, _] hs4424 hs4429 hs4432 hs2617 hs2 hs7 hs4421 R rfl ?_
          refine x_front7 [_, _, _, _, _, _, _] hs4421 hs4424 hs4429 hs4432 hs2617 hs2 hs7 R rfl ?_
          refine x_front7 [_, _, _, _, _, _, _] hs7 hs4421 hs4424 hs4429 hs4432 hs2617 hs2 R rfl ?_
          exact x_againM (x4436, l4437, l4439, l4440, l4442) (Option.some.inj hm).symm (e' := [(6, .pointer (some ⟨g2301, 0, none⟩)), (9, .pointer (some ⟨g2766, 0, none⟩)), (11, .pointer (some ⟨g2774, 0, none⟩)), (12, .pointer (some ⟨g2775, 0, none⟩)), (13, .func (.func 61) #[] #[.pointer (some ⟨g2301, 0, none⟩), .pointer (some ⟨g2773, 0, none⟩), .pointer (some ⟨g2775, 0, none⟩), .pointer (some ⟨g2766, 0, none⟩), .pointer (some ⟨g2774, 0, none⟩)]), (16, .int .i64 (x2930))]) ⟨rfl, rfl, rfl, rfl, rfl, rfl, trivial⟩ (.refl _) ⟨hs4421, A4425, c4426, hs4424, hs4429, A4433, c4434, hs4432, rfl, rfl, ((hle4214.trans (hle4240.trans hle4419))), h4422, hln4438, h4427, h4430, hln4441, h4435⟩
       ·
        rw [if_neg (fun hh => Bool.noConfusion (hh.symm.trans hc4244))] at hm
        refine c_exit ?_
        refine x_then_exit ?_
        refine x_then_exit ?_
        refine x_block_out ?_
        have hm := congrArg some (houtL3711 _ (Option.some.inj hm).symm)
        have hq := (Option.some.inj hm).symm
        refine x_pullb 6 rfl ?_
        refine x_pullb 6 rfl ?_
        refine x_pullb 5 rfl ?_
        refine x_pullb 3 rfl ?_
        refine x_front7 [_, _, _, _, _, _, _] hs2 hs7 hs4216 hs4219 hs4224 hs4227 hs2617 R rfl ?_
        refine x_front7 [_, _, _, _, _, _, _] hs2617 hs2 hs7 hs4216 hs4219 hs4224 hs4227 R rfl ?_
        refine x_front4 [_, _, _, _, _, _, _] hs4227 hs2617 hs2 hs7 (hs4216 ++ (hs4219 ++ (hs4224 ++ R))) rfl ?_
        refine x_front4 [_, _, _, _, _, _, _] hs7 hs4227 hs2617 hs2 (hs4216 ++ (hs4219 ++ (hs4224 ++ R))) rfl ?_
        exact x_join (e' := [(6, .pointer (some ⟨g2301, 0, none⟩)), (12, .pointer (some ⟨g2775, 0, none⟩))]) ⟨rfl, rfl, trivial⟩ (.cons_cons _ (.cons_cons _ (.cons_cons _ (.cons_cons _ (.cons _ (.cons _ (.cons _ (sub_app hs2 (sub_app hs7 (sub_app hs4227 (sub_app hs2617 (sub_skip hs4216 (sub_skip hs4219 (sub_skip hs4224 (.refl _))))))))))))))) ⟨x4231, l4237, A4228, c4229, hs4227, rfl, rfl, (hle4214.trans hle4240), (h4230.le hle4240), hq⟩
     ·
      rintro b3700 _ _ ⟨x3707, l3708, A3704, c3705, hs3703, rfl, rfl, hle3701, h3706, hq4478⟩
      rw [hq4478] at hk3709
      have hm := elimL hk3709
      have hm := (unc2E hm)
      refine c_seq ?_
      refine D_drawI mixed (.refl _) ?_
      refine E_st 0 rfl (st_load 0 rfl one69 rfl rfl) ?_
      refine E_st 1 rfl (st_load 1 rfl one4 rfl rfl) ?_
      refine E_st 2 rfl (st_assign rfl) ?_
      refine E_st 3 rfl (st_assign rfl) ?_
      refine E_out ?_
      refine D_done (by kernel_rfl) ?_
      refine x_then_normal ?_
      refine c_ret ?_
      refine x_front3 [_, _, _, _] hs2 hs7 hs3703 (hs2617 ++ R) rfl ?_
      refine x_frz [_, _, _, _] hs3703 (hs2 ++ (hs7 ++ (hs2617 ++ R))) rfl ?_
      intro b4479 hle4480 hz4481
      have h4482 := OS.frz (l := l3708) h3706 hle4480.cells hz4481
      refine x_front3 [_, _, _, _] hs2 hs7 hs2617 R rfl ?_
      refine x_frz [_, _, _, _] hs2617 (hs2 ++ (hs7 ++ R)) rfl ?_
      intro b4483 hle4484 hz4485
      have h4486 := OS.frz (l := l2621) (h2620.le (hle2869.trans (hle2933.trans (hle3701.trans hle4480)))) hle4484.cells hz4485
      refine x_frzb 3 rfl ?_
      intro b4487 hle4488 hz4489
      have hat4490 := at_fz hz4489
      obtain ⟨rfl, rfl⟩ := some2 hm
      refine x_pullb 2 rfl ?_
      refine x_front2 [_, _, _] hs2 hs7 R rfl ?_
      refine x_front2 [_, _, _] hs7 hs2 R rfl ?_
      have he4491 := (show (RT.ptr rMendSolver).rep b4487.w [.pointer (some (⟨g2302, 0, none⟩))] (some (⟨l3708, l19, l2621⟩ : MendSolver)) from ⟨_, [.slice A3704 (l3708).length c3705, .slice A16 (l19).length c17, .slice A2618 (l2621).length c2619], rfl, ⟨[.slice A3704 (l3708).length c3705], _, rfl, (RT.list_mk (h4482.le (hle4484.trans hle4488))), ⟨[.slice A16 (l19).length c17], _, rfl, (RT.list_mk (h18.le (hle2290.trans (hle2615.trans (hle2869.trans (hle2933.trans (hle3701.trans (hle4480.trans (hle4484.trans hle4488))))))))), (RT.list_mk (h4486.le hle4488))⟩⟩, hat4490⟩)
      exact retM (rs := [.tmp 4, .tmp 5]) [.pointer (some (⟨g2302, 0, none⟩)), .bool (x3707)] (hle2290.trans (hle2615.trans (hle2869.trans (hle2933.trans (hle3701.trans (hle4480.trans (hle4484.trans hle4488))))))) (by decide) rfl ⟨rfl, ⟨rfl, trivial⟩⟩ rfl (.cons_cons _ (.cons _ (.cons _ (.refl _)))) ⟨(.pointer (some (⟨g2302, 0, none⟩))), rfl, rfl, he4491⟩

set_option maxRecDepth 20000 in
theorem cMendStart (b : Base) (R : Hp) (s1 : MendGraph) (A2 : Option Addr) (c3 : Nat) (A5 : Option Addr) (c6 : Nat) (A8 : Option Addr) (c9 : Nat) (A11 : Option Addr) (c12 : Nat) (A14 : Option Addr) (c15 : Nat) (h4 : FZ (RT.int .i64) b.w A2 c3 s1.Ready) (h7 : FZ (RT.int .i64) b.w A5 c6 s1.Last) (h10 : FZ (RT.int .i64) b.w A8 c9 s1.Due) (h13 : FZ rMendArc b.w A11 c12 s1.Arcs) (h16 : FZ rMendChoice b.w A14 c15 s1.Choices) (q237 : (Option MendSolver)) (x240 : Bool) (hm : mMendStart s1 = some (q237, x240)) :
    CallsG Try.prog 42 [.agg #[.slice A2 (s1.Ready).length c3, .slice A5 (s1.Last).length c6, .slice A8 (s1.Due).length c9, .slice A11 (s1.Arcs).length c12, .slice A14 (s1.Choices).length c15]] b (R) (fun v b' hp' => ∃ (v238 : Value), .tuple #[v238, .bool (x240)] = v ∧ R = hp' ∧ (RT.ptr rMendSolver).rep b'.w [v238] q237) := by
  refine fn_enterG 50 Try.func42 rfl Try.ntmps42 rfl ?_
  unfold mMendStart at hm
  refine c_sr ?_
  refine t_do rfl (u_box _ rfl rfl) ?_
  rintro _ _ ⟨g241, rfl, rfl⟩
  refine t_as rfl rfl ?_
  refine t_as rfl rfl ?_
  refine t_ne ?_
  obtain ⟨⟨l285, l286⟩, hj287, hk287⟩ := bindS hm
  refine c_join (fun b272 e' hp' => ∃ (g284 : Nat), ∃ (A276 : Option Addr), ∃ (c277 : Nat), ∃ (hs275 : Hp), ∃ (A281 : Option Addr), ∃ (c282 : Nat), ∃ (hs280 : Hp), [(1, .pointer (some ⟨g241, 0, none⟩)), (4, .pointer (some ⟨g284, 0, none⟩))] = e' ∧ (g241, Cl 26 [.slice A2 (s1.Ready).length c3, .slice A5 (s1.Last).length c6, .slice A8 (s1.Due).length c9, .slice A11 (s1.Arcs).length c12, .slice A14 (s1.Choices).length c15]) :: (g284, Cl 73 [.slice A276 (l285).length c277, .slice A5 (s1.Last).length c6, .slice A281 (l286).length c282]) :: (hs275 ++ (hs280 ++ R)) = hp' ∧ b.Le b272 ∧ OS 3 (OT.fr (RT.int .i64)) b272.w (.slice A276 l285.length c277) l285 hs275 ∧ OS 23 (OT.fr (RT.list rMendArc)) b272.w (.slice A281 l286.length c282) l286 hs280) ?_ ?_
  ·
   have hm := hj287
   obtain ⟨l303, hcl304, hm⟩ := bindS hm
   obtain ⟨m311, h312, hm⟩ := bindS hm
   refine D_drawI mixed (.refl _) ?_
   refine E_st 0 rfl (st_field rfl fld26_0) ?_
   refine E_st 1 rfl (st_load 0 rfl one22 rfl rfl) ?_
   refine E_st 3 rfl (st_field rfl fld26_1) ?_
   refine E_st 4 rfl (st_load 0 rfl one22 rfl rfl) ?_
   refine E_st 5 rfl (st_field rfl fld26_0) ?_
   refine E_st 6 rfl (st_load 0 rfl one22 rfl rfl) ?_
   refine E_st 7 rfl (st_len rfl sl22) ?_
   refine E_out ?_
   have h312 := mkLen_some h312
   refine D_all [2, 8] (by kernel_rfl) rfl ?_
   refine R_callGl (Base.Le.refl _) rfl rfl _ call12 rfl (cSlicesClone _ _ s1.Ready A2 c3 h4 l303 hcl304) ?_ ?_
   ·
    rintro _ b305 _ hle306 ⟨A307, c308, hs309, rfl, rfl, h310⟩
    refine ⟨.inr (sub_skip hs309 (.refl _)), ?_⟩
    refine d_in1 [] [_] hs309 R rfl ?_
    refine D_all [8] (by kernel_rfl) rfl ?_
    refine R_do hle306 rfl rfl (u_mkOS (r := (RT.list rMendArc)) [_] (hs309 ++ R) [.slice none 0 0] ([] : List MendArc) m311 rfl h312.1 rfl rfl sl35 inf23 rfl rfl rfl (by decide) (RT.list_mk FZ.nil) h312.2.1 h312.2.2) ?_ ?_
    ·
     rintro _ _ ⟨hs313, rfl, h314⟩
     obtain ⟨A315, c316, rfl, _⟩ := h314.form
     refine ⟨.inr (.cons_cons _ (sub_skip hs313 (sub_skip hs309 (.refl _)))), ?_⟩
     refine D_all [9] (by kernel_rfl) rfl ?_
     refine R_do hle306 rfl rfl (Stable.does (st_build (v := .agg #[.slice A307 (l303).length c308, .slice A5 (s1.Last).length c6, .slice A315 (List.replicate m311 (([] : List MendArc) : (List MendArc))).length c316]) [(0, .slice A307 (l303).length c308), (1, .slice A5 (s1.Last).length c6), (2, .slice A315 (List.replicate m311 (([] : List MendArc) : (List MendArc))).length c316)] rfl (fun _ => by kernel_rfl))) ?_ ?_
     ·
      rintro _ _ ⟨rfl, rfl⟩
      refine ⟨.inr (.cons_cons _ (sub_skip hs313 (sub_skip hs309 (.refl _)))), ?_⟩
      refine D_all [10] (by kernel_rfl) rfl ?_
      refine R_do hle306 rfl rfl (u_box _ rfl rfl) ?_ ?_
      ·
       rintro _ _ ⟨g317, rfl, rfl⟩
       refine ⟨.inr (.cons _ (.cons_cons _ (sub_skip hs313 (sub_skip hs309 (.refl _))))), ?_⟩
       refine D_st hle306 11 rfl (by kernel_rfl) (by kernel_rfl) (by kernel_rfl) rfl (st_assign rfl) (.cons _ (.cons_cons _ (sub_skip hs313 (sub_skip hs309 (.refl _))))) ?_
       refine D_done (by kernel_rfl) ?_
       obtain ⟨rfl, rfl⟩ := some2 hm
       refine x_pullb 1 rfl ?_
       refine x_front2 [_, _] hs313 hs309 R rfl ?_
       exact x_join (e' := [(1, .pointer (some ⟨g241, 0, none⟩)), (4, .pointer (some ⟨g317, 0, none⟩))]) ⟨rfl, rfl, trivial⟩ (.refl _) ⟨g317, A307, c308, hs309, A315, c316, hs313, rfl, rfl, hle306, h310, h314⟩
      exact R_nil
     exact R_nil
    exact R_nil
   refine R_do (Base.Le.refl _) rfl rfl (u_mkOS (r := (RT.list rMendArc)) [_] R [.slice none 0 0] ([] : List MendArc) m311 rfl h312.1 rfl rfl sl35 inf23 rfl rfl rfl (by decide) (RT.list_mk FZ.nil) h312.2.1 h312.2.2) ?_ ?_
   ·
    rintro _ _ ⟨hs313, rfl, h314⟩
    obtain ⟨A315, c316, rfl, _⟩ := h314.form
    refine ⟨.inr (.cons_cons _ (sub_skip hs313 (.refl _))), ?_⟩
    refine D_all [2] (by kernel_rfl) rfl ?_
    refine R_callGl (Base.Le.refl _) rfl rfl _ call12 rfl (cSlicesClone _ _ s1.Ready A2 c3 h4 l303 hcl304) ?_ ?_
    ·
     rintro _ b305 _ hle306 ⟨A307, c308, hs309, rfl, rfl, h310⟩
     refine ⟨.inr (sub_skip hs309 (.cons_cons _ (sub_skip hs313 (.refl _)))), ?_⟩
     refine d_in1 [] [_] hs309 (hs313 ++ R) rfl ?_
     refine D_all [9] (by kernel_rfl) rfl ?_
     refine R_do hle306 rfl rfl (Stable.does (st_build (v := .agg #[.slice A307 (l303).length c308, .slice A5 (s1.Last).length c6, .slice A315 (List.replicate m311 (([] : List MendArc) : (List MendArc))).length c316]) [(0, .slice A307 (l303).length c308), (1, .slice A5 (s1.Last).length c6), (2, .slice A315 (List.replicate m311 (([] : List MendArc) : (List MendArc))).length c316)] rfl (fun _ => by kernel_rfl))) ?_ ?_
     ·
      rintro _ _ ⟨rfl, rfl⟩
      refine ⟨.inr (.cons_cons _ (sub_skip hs309 (sub_skip hs313 (.refl _)))), ?_⟩
      refine D_all [10] (by kernel_rfl) rfl ?_
      refine R_do hle306 rfl rfl (u_box _ rfl rfl) ?_ ?_
      ·
       rintro _ _ ⟨g317, rfl, rfl⟩
       refine ⟨.inr (.cons _ (.cons_cons _ (sub_skip hs309 (sub_skip hs313 (.refl _))))), ?_⟩
       refine D_st hle306 11 rfl (by kernel_rfl) (by kernel_rfl) (by kernel_rfl) rfl (st_assign rfl) (.cons _ (.cons_cons _ (sub_skip hs309 (sub_skip hs313 (.refl _))))) ?_
       refine D_done (by kernel_rfl) ?_
       obtain ⟨rfl, rfl⟩ := some2 hm
       refine x_pullb 1 rfl ?_
       refine x_front2 [_, _] hs309 hs313 R rfl ?_
       refine x_front2 [_, _] hs313 hs309 R rfl ?_
       exact x_join (e' := [(1, .pointer (some ⟨g241, 0, none⟩)), (4, .pointer (some ⟨g317, 0, none⟩))]) ⟨rfl, rfl, trivial⟩ (.refl _) ⟨g317, A307, c308, hs309, A315, c316, hs313, rfl, rfl, hle306, h310, (h314.le hle306)⟩
      exact R_nil
     exact R_nil
    exact R_nil
   exact R_nil
  ·
   rintro b272 _ _ ⟨g284, A276, c277, hs275, A281, c282, hs280, rfl, rfl, hle273, h278, h283⟩
   have hm := (unc2E hk287)
   refine c_seq ?_
   refine c_sr ?_
   refine t_mv rfl rfl ?_
   refine t_st rfl (st_nil rfl) ?_
   refine t_st rfl (st_field rfl fld73_0) ?_
   refine t_st rfl (st_load 1 rfl one22 rfl rfl) ?_
   refine t_st rfl (st_len rfl sl22) ?_
   refine t_mv rfl rfl ?_
   refine t_ne ?_
   refine c_block ?_
   have hb319 : l285.length ≤ 9223372036854775807 := (OS.len h278)
   refine c_pullb 1 rfl ?_
   refine c_pullb 1 rfl ?_
   refine c_front2 [_, _] hs275 hs280 R rfl ?_
   refine c_front2 [_, _] hs280 hs275 R rfl ?_
   obtain ⟨t386, hl387, hk388⟩ := bindS hm
   refine c_forM (fun k385 => fun _ => fun b383 e' hp' => [(1, .pointer (some ⟨g241, 0, none⟩)), (4, .pointer (some ⟨g284, 0, none⟩)), (21, .slice A276 (l285).length c277), (22, .int .i64 ((l285.length : Int))), (23, .int .i64 ((k385 : Int)))] = e' ∧ (g241, Cl 26 [.slice A2 (s1.Ready).length c3, .slice A5 (s1.Last).length c6, .slice A8 (s1.Due).length c9, .slice A11 (s1.Arcs).length c12, .slice A14 (s1.Choices).length c15]) :: (g284, Cl 73 [.slice A276 (l285).length c277, .slice A5 (s1.Last).length c6, .slice A281 (l286).length c282]) :: (hs275 ++ (hs280 ++ R)) = hp' ∧ b272.Le b383) hl387 (e' := [(1, .pointer (some ⟨g241, 0, none⟩)), (4, .pointer (some ⟨g284, 0, none⟩)), (21, .slice A276 (l285).length c277), (22, .int .i64 ((l285.length : Int))), (23, .int .i64 0)]) ⟨rfl, rfl, rfl, rfl, rfl, trivial⟩ (.refl _) ⟨rfl, rfl, (Base.Le.refl _)⟩ ?_ ?_
   ·
    rintro k385 _ b383 _ _ oL318 hknL318 ⟨rfl, rfl, hle384⟩ hstepL318 houtL318
    unfold mMendStart_L318 at hstepL318
    have hm := hstepL318
    refine c_sr ?_
    refine t_st rfl (st_lss_t rfl rfl (by omega)) ?_
    refine t_ne ?_
    refine c_seq ?_
    refine c_cond_t rfl ?_
    refine c_skip ?_
    refine x_then_normal ?_
    refine c_seq ?_
    refine c_block ?_
    refine c_sr ?_
    refine t_mv rfl rfl ?_
    obtain ⟨x389, h390, hm⟩ := bindS hm
    obtain ⟨j391, hj392, hx393⟩ := idx_some h390
    obtain ⟨cs394, hs399, P400, P401, hq402, hr395, hcs396, hA397, hlt398, hb403, hho404⟩ := OS.get (sz := 1) rfl (by decide) (h278.le hle384) hx393
    obtain ⟨rfl, rfl⟩ := hr395
    refine t_st rfl (st_index_old j391 rfl rfl hj392 hlt398 hA397 sl22) ?_
    refine t_st rfl (st_load_rd rfl one3 (fun w ho => hcs396 w _ ho (.cons _ (.cons _ (List.sublist_append_left _ _))) 0 _ rfl)) ?_
    refine t_as rfl rfl ?_
    refine t_as rfl rfl ?_
    refine t_ne ?_
    obtain ⟨x428, hj429, hk429⟩ := bindS hm
    refine c_join (fun b426 e' hp' => [(1, .pointer (some ⟨g241, 0, none⟩)), (4, .pointer (some ⟨g284, 0, none⟩)), (21, .slice A276 (l285).length c277), (22, .int .i64 ((l285.length : Int))), (23, .int .i64 ((k385 : Int))), (42, .bool (x428))] = e' ∧ (g241, Cl 26 [.slice A2 (s1.Ready).length c3, .slice A5 (s1.Last).length c6, .slice A8 (s1.Due).length c9, .slice A11 (s1.Arcs).length c12, .slice A14 (s1.Choices).length c15]) :: (g284, Cl 73 [.slice A276 (l285).length c277, .slice A5 (s1.Last).length c6, .slice A281 (l286).length c282]) :: (hs275 ++ (hs280 ++ R)) = hp' ∧ b383.Le b426) ?_ ?_
    ·
     have hm := hj429
     refine c_region ?_
     refine t_st rfl (st_field rfl fld26_1) ?_
     refine t_st rfl (st_load 0 rfl one22 rfl rfl) ?_
     refine t_mv rfl rfl ?_
     obtain ⟨x430, h431, hm⟩ := bindS hm
     obtain ⟨j432, hj433, hx434⟩ := idx_some h431
     obtain ⟨cs435, hr436, hcs437, hA438, hlt439⟩ := FZ.get (sz := 1) rfl (by decide) (h7.le (hle273.trans hle384)) hx434
     obtain rfl := hr436
     refine t_st rfl (st_index_old j432 rfl rfl hj433 hlt439 hA438 sl22) ?_
     refine t_st rfl (st_load_old rfl one3 (hcs437 0 _ rfl)) ?_
     refine t_bool rfl (st_geq rfl rfl) (fun hc440 => ?_) (fun hc440 => ?_)
     ·
      rw [if_pos hc440] at hm
      refine t_mv rfl rfl ?_
      refine t_yes 34 rfl rfl rfl ?_
      refine t_mv rfl rfl ?_
      refine t_yes 34 rfl rfl rfl ?_
      refine t_st rfl (st_field rfl fld26_1) ?_
      refine t_yes 34 rfl rfl rfl ?_
      refine t_st rfl (st_load 0 rfl one22 rfl rfl) ?_
      refine t_yes 34 rfl rfl rfl ?_
      refine t_mv rfl rfl ?_
      refine t_yes 34 rfl rfl rfl ?_
      obtain ⟨x441, h442, hm⟩ := bindS hm
      obtain ⟨j443, hj444, hx445⟩ := idx_some h442
      obtain ⟨cs446, hr447, hcs448, hA449, hlt450⟩ := FZ.get (sz := 1) rfl (by decide) (h7.le (hle273.trans hle384)) hx445
      obtain rfl := hr447
      refine t_st rfl (st_index_old j443 rfl rfl hj444 hlt450 hA449 sl22) ?_
      refine t_yes 34 rfl rfl rfl ?_
      refine t_st rfl (st_load_old rfl one3 (hcs448 0 _ rfl)) ?_
      refine t_yes 34 rfl rfl rfl ?_
      refine t_st rfl (st_gtr rfl rfl) ?_
      refine t_st rfl (st_pick_t rfl rfl) ?_
      refine t_nil ?_
      obtain rfl := some1 hm
      refine x_pullb 1 rfl ?_
      refine x_pullb 1 rfl ?_
      refine x_front2 [_, _] hs275 hs280 R rfl ?_
      refine x_front2 [_, _] hs280 hs275 R rfl ?_
      exact x_join (e' := [(1, .pointer (some ⟨g241, 0, none⟩)), (4, .pointer (some ⟨g284, 0, none⟩)), (21, .slice A276 (l285).length c277), (22, .int .i64 ((l285.length : Int))), (23, .int .i64 ((k385 : Int))), (42, .bool (decide (x441 < x389)))]) ⟨rfl, rfl, rfl, rfl, rfl, rfl, trivial⟩ (.refl _) ⟨rfl, rfl, (Base.Le.refl _)⟩
     ·
      rw [if_neg hc440] at hm
      refine t_mv rfl rfl ?_
      refine t_no 34 rfl rfl rfl rfl rfl ?_
      refine t_no 34 rfl rfl rfl rfl rfl ?_
      refine t_no 34 rfl rfl rfl rfl rfl ?_
      refine t_no 34 rfl rfl rfl rfl rfl ?_
      refine t_no 34 rfl rfl rfl rfl rfl ?_
      refine t_no 34 rfl rfl rfl rfl rfl ?_
      refine t_no 34 rfl rfl rfl rfl rfl ?_
      refine t_st rfl (st_pick_f rfl rfl) ?_
      refine t_nil ?_
      obtain rfl := some1 hm
      refine x_pullb 1 rfl ?_
      refine x_pullb 1 rfl ?_
      refine x_front2 [_, _] hs275 hs280 R rfl ?_
      refine x_front2 [_, _] hs280 hs275 R rfl ?_
      exact x_join (e' := [(1, .pointer (some ⟨g241, 0, none⟩)), (4, .pointer (some ⟨g284, 0, none⟩)), (21, .slice A276 (l285).length c277), (22, .int .i64 ((l285.length : Int))), (23, .int .i64 ((k385 : Int))), (42, .bool (false))]) ⟨rfl, rfl, rfl, rfl, rfl, rfl, trivial⟩ (.refl _) ⟨rfl, rfl, (Base.Le.refl _)⟩
    ·
     rintro b426 _ _ ⟨rfl, rfl, hle427⟩
     have hm := hk429
     refine c_cond _ rfl (fun hc451 => ?_) (fun hc451 => ?_)
     ·
      rw [if_pos hc451] at hm
      refine c_sr ?_
      refine t_as rfl rfl ?_
      refine t_as rfl rfl ?_
      refine t_ne ?_
      refine c_ret ?_
      refine x_block_ret ?_
      refine x_then_ret ?_
      refine x_then_ret ?_
      refine x_block_ret ?_
      refine x_then_ret ?_
      have hq452 := houtL318 _ (Option.some.inj hm).symm
      rw [hq452] at hk388
      have hm := elimR hk388
      obtain ⟨rfl, rfl⟩ := some2 hm
      exact retM (rs := [.tmp 2, .tmp 3]) [.pointer none, .bool (false)] (hle273.trans (hle384.trans hle427)) (by decide) rfl ⟨rfl, ⟨rfl, trivial⟩⟩ rfl (.cons _ (.cons _ (sub_skip hs275 (sub_skip hs280 (.refl _))))) ⟨(.pointer none), rfl, rfl, rfl⟩
     ·
      rw [if_neg (fun hh => Bool.noConfusion (hh.symm.trans hc451))] at hm
      refine c_skip ?_
      refine x_block_normal ?_
      refine x_then_normal ?_
      refine c_region ?_
      refine t_st rfl (st_add rfl rfl (by omega)) ?_
      refine t_mv rfl rfl ?_
      refine t_nil ?_
      refine x_pullb 1 rfl ?_
      refine x_pullb 1 rfl ?_
      refine x_front2 [_, _] hs275 hs280 R rfl ?_
      refine x_front2 [_, _] hs280 hs275 R rfl ?_
      exact x_againM () (Option.some.inj hm).symm (e' := [(1, .pointer (some ⟨g241, 0, none⟩)), (4, .pointer (some ⟨g284, 0, none⟩)), (21, .slice A276 (l285).length c277), (22, .int .i64 ((l285.length : Int))), (23, .int .i64 ((k385 : Int) + 1))]) ⟨rfl, rfl, rfl, rfl, rfl, trivial⟩ (.refl _) ⟨rfl, rfl, ((hle384.trans hle427))⟩
   ·
    rintro _ b383 _ _ ⟨rfl, rfl, hle384⟩ hq453
    rw [hq453] at hk388
    have hm := elimL hk388
    refine c_sr ?_
    refine t_st rfl (st_lss_f rfl rfl (by omega)) ?_
    refine t_ne ?_
    refine c_seq ?_
    refine c_cond_f rfl ?_
    refine c_exit ?_
    refine x_then_exit ?_
    refine x_then_exit ?_
    refine x_block_out ?_
    refine x_then_normal ?_
    refine c_sr ?_
    refine t_mv rfl rfl ?_
    refine t_st rfl (st_field rfl fld26_3) ?_
    refine t_st rfl (st_load 0 rfl one23 rfl rfl) ?_
    obtain ⟨⟨q454, x455⟩, hcl456, hm⟩ := bindS hm
    have hm := (unc2E hm)
    refine t_pullb 1 rfl ?_
    refine t_front2 [_, _] hs275 hs280 R rfl ?_
    refine t_front2 [_, _] hs280 hs275 R rfl ?_
    refine t_out2 [_] [_] hs275 hs280 R rfl ?_
    refine t_callG _ rfl call41 rfl (cMendSolverWith _ _ s1.Arcs s1.Last l285 l286 g284 A11 c12 A5 c6 A276 c277 hs275 A281 c282 hs280 (h13.le (hle273.trans hle384)) (h7.le (hle273.trans hle384)) (h278.le hle384) (h283.le hle384) q454 x455 hcl456) ?_
    rintro _ b457 _ hle458 ⟨v459, rfl, rfl, h460⟩
    refine t_in2 [_] [_] hs275 hs280 R rfl ?_
    refine t_st rfl (st_extract rfl rfl) ?_
    refine t_st rfl (st_extract rfl rfl) ?_
    refine t_as rfl rfl ?_
    refine t_as rfl rfl ?_
    refine t_ne ?_
    refine c_ret ?_
    obtain ⟨rfl, rfl⟩ := some2 hm
    exact retM (rs := [.tmp 2, .tmp 3]) [v459, .bool (x455)] (hle273.trans (hle384.trans hle458)) (by decide) rfl ⟨rfl, ⟨rfl, trivial⟩⟩ rfl (.cons _ (.cons _ (sub_skip hs275 (sub_skip hs280 (.refl _))))) ⟨v459, rfl, rfl, h460⟩

end Go.Proofs.Ytakehdnblmonlaa
