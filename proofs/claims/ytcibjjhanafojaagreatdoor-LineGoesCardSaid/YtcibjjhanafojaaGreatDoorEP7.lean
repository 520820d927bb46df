/- Contracts: the code computes its model (part 7). -/
import Derived.Test.YtcibjjhanafojaaGreatDoorEP6
set_option linter.unusedVariables false
set_option linter.unusedSimpArgs false
namespace Go.Proofs.YtcibjjhanafojaaGreatDoor
open Go.RowKit Go.Fp

set_option maxRecDepth 20000 in
theorem cLineChains_1 (b : Base) (R : Hp) (l21 : (List Int)) (l25 : (List ApiRoute)) (x26 : Int) (x27 : Int) (l31 : (List ByteArray)) (l35 : (List ApiSection)) (l39 : (List ApiLink)) (l43 : (List ApiSignal)) (l47 : (List ApiGate)) (x48 : Int) (l52 : (List ApiRoute)) (l53 : (List (List Int))) (l55 : (List (List ApiNeed))) (g11 : Nat) (g12 : Nat) (g13 : Nat) (g14 : Nat) (g15 : Nat) (g16 : Nat) (g17 : Nat) (A18 : Option Addr) (c19 : Nat) (A22 : Option Addr) (c23 : Nat) (A28 : Option Addr) (c29 : Nat) (A32 : Option Addr) (c33 : Nat) (A36 : Option Addr) (c37 : Nat) (A40 : Option Addr) (c41 : Nat) (A44 : Option Addr) (c45 : Nat) (A49 : Option Addr) (c50 : Nat) (A3 : Option Addr) (c4 : Nat) (hs2 : Hp) (A8 : Option Addr) (c9 : Nat) (hs7 : Hp) (h20 : FZ (RT.int .i64) b.w A18 c19 l21) (h24 : FZ rApiRoute b.w A22 c23 l25) (h30 : FZ RT.str b.w A28 c29 l31) (h34 : FZ rApiSection b.w A32 c33 l35) (h38 : FZ rApiLink b.w A36 c37 l39) (h42 : FZ rApiSignal b.w A40 c41 l43) (h46 : FZ rApiGate b.w A44 c45 l47) (h51 : FZ rApiRoute b.w A49 c50 l52) (h5 : OS 37 (OT.fr (RT.list (RT.int .i64))) b.w (.slice A3 l53.length c4) l53 hs2) (hnz54 : (A3 = none ↔ l53 = [])) (h10 : OS 38 (OT.fr (RT.list rApiNeed)) b.w (.slice A8 l55.length c9) l55 hs7) (l230 : (List (List Int))) (hm : mLineChains_1 l21 l25 x26 x27 l31 l35 l39 l43 l47 x48 l52 l53 l55 = some l230) :
    CallsG Tryz.prog 21 [.slice A18 (l21).length c19, .pointer (some ⟨g11, 0, none⟩), .pointer (some ⟨g12, 0, none⟩), .pointer (some ⟨g13, 0, none⟩), .pointer (some ⟨g14, 0, none⟩), .pointer (some ⟨g15, 0, none⟩), .pointer (some ⟨g16, 0, none⟩)] b ((g11, Cl 47 [.slice A22 (l25).length c23]) :: (g12, Cl 44 [.slice A3 (l53).length c4]) :: (g13, Cl 3 [.int .i64 (x26)]) :: (g14, Cl 66 [.pointer (some ⟨g17, 0, none⟩)]) :: (g15, Cl 3 [.int .i64 (x27)]) :: (g16, Cl 68 [.func (.func 21) #[] #[.pointer (some ⟨g11, 0, none⟩), .pointer (some ⟨g12, 0, none⟩), .pointer (some ⟨g13, 0, none⟩), .pointer (some ⟨g14, 0, none⟩), .pointer (some ⟨g15, 0, none⟩), .pointer (some ⟨g16, 0, none⟩)]]) :: (g17, Cl 94 [.slice A28 (l31).length c29, .slice A32 (l35).length c33, .slice A36 (l39).length c37, .slice A40 (l43).length c41, .slice A44 (l47).length c45, .int .i64 (x48), .slice A49 (l52).length c50, .slice A8 (l55).length c9]) :: (hs2 ++ (hs7 ++ R))) (fun v b' hp' => ∃ (A227 : Option Addr), ∃ (c228 : Nat), ∃ (hs226 : Hp), .tuple #[] = v ∧ (g11, Cl 47 [.slice A22 (l25).length c23]) :: (g12, Cl 44 [.slice A227 (l230).length c228]) :: (g13, Cl 3 [.int .i64 (x26)]) :: (g14, Cl 66 [.pointer (some ⟨g17, 0, none⟩)]) :: (g15, Cl 3 [.int .i64 (x27)]) :: (g16, Cl 68 [.func (.func 21) #[] #[.pointer (some ⟨g11, 0, none⟩), .pointer (some ⟨g12, 0, none⟩), .pointer (some ⟨g13, 0, none⟩), .pointer (some ⟨g14, 0, none⟩), .pointer (some ⟨g15, 0, none⟩), .pointer (some ⟨g16, 0, none⟩)]]) :: (g17, Cl 94 [.slice A28 (l31).length c29, .slice A32 (l35).length c33, .slice A36 (l39).length c37, .slice A40 (l43).length c41, .slice A44 (l47).length c45, .int .i64 (x48), .slice A49 (l52).length c50, .slice A8 (l55).length c9]) :: (hs226 ++ (hs7 ++ R)) = hp' ∧ OS 37 (OT.fr (RT.list (RT.int .i64))) b'.w (.slice A227 l230.length c228) l230 hs226) := by
  refine fn_enterG 45 Tryz.func21 rfl Tryz.ntmps21 rfl ?_
  unfold mLineChains_1 at hm
  refine c_sr ?_
  refine t_st rfl (st_load 0 rfl one47 rfl rfl) ?_
  refine t_st rfl (st_len rfl sl47) ?_
  refine t_mv rfl rfl ?_
  refine t_ne ?_
  refine c_block ?_
  have hb232 : l25.length ≤ 9223372036854775807 := (FZ.bd h24)
  refine c_pullb 6 rfl ?_
  refine c_pullb 1 rfl ?_
  refine c_pullb 6 rfl ?_
  refine c_pullb 6 rfl ?_
  refine c_pullb 6 rfl ?_
  refine c_pullb 6 rfl ?_
  refine c_pullb 6 rfl ?_
  refine c_front2 [_, _, _, _, _, _, _] hs2 hs7 R rfl ?_
  refine c_front2 [_, _, _, _, _, _, _] hs7 hs2 R rfl ?_
  obtain ⟨t346, hl347, hk348⟩ := bindS hm
  refine c_forM (fun k345 => fun l344 => fun b337 e' hp' => ∃ (A341 : Option Addr), ∃ (c342 : Nat), ∃ (hs340 : Hp), [(0, .slice A18 (l21).length c19), (2, .pointer (some ⟨g12, 0, none⟩)), (3, .pointer (some ⟨g13, 0, none⟩)), (4, .pointer (some ⟨g14, 0, none⟩)), (5, .pointer (some ⟨g15, 0, none⟩)), (6, .pointer (some ⟨g16, 0, none⟩)), (11, .int .i64 ((l25.length : Int))), (12, .int .i64 ((k345 : Int)))] = e' ∧ (g12, Cl 44 [.slice A341 (l344).length c342]) :: (g13, Cl 3 [.int .i64 (x26)]) :: (g14, Cl 66 [.pointer (some ⟨g17, 0, none⟩)]) :: (g15, Cl 3 [.int .i64 (x27)]) :: (g16, Cl 68 [.func (.func 21) #[] #[.pointer (some ⟨g11, 0, none⟩), .pointer (some ⟨g12, 0, none⟩), .pointer (some ⟨g13, 0, none⟩), .pointer (some ⟨g14, 0, none⟩), .pointer (some ⟨g15, 0, none⟩), .pointer (some ⟨g16, 0, none⟩)]]) :: (g11, Cl 47 [.slice A22 (l25).length c23]) :: (g17, Cl 94 [.slice A28 (l31).length c29, .slice A32 (l35).length c33, .slice A36 (l39).length c37, .slice A40 (l43).length c41, .slice A44 (l47).length c45, .int .i64 (x48), .slice A49 (l52).length c50, .slice A8 (l55).length c9]) :: (hs340 ++ (hs7 ++ R)) = hp' ∧ b.Le b337 ∧ OS 37 (OT.fr (RT.list (RT.int .i64))) b337.w (.slice A341 l344.length c342) l344 hs340) hl347 (e' := [(0, .slice A18 (l21).length c19), (2, .pointer (some ⟨g12, 0, none⟩)), (3, .pointer (some ⟨g13, 0, none⟩)), (4, .pointer (some ⟨g14, 0, none⟩)), (5, .pointer (some ⟨g15, 0, none⟩)), (6, .pointer (some ⟨g16, 0, none⟩)), (11, .int .i64 ((l25.length : Int))), (12, .int .i64 0)]) ⟨rfl, rfl, rfl, rfl, rfl, rfl, rfl, rfl, trivial⟩ (.refl _) ⟨A3, c4, hs2, rfl, rfl, (Base.Le.refl _), h5⟩ ?_ ?_
  ·
   rintro k345 l344 b337 _ _ oL231 hknL231 ⟨A341, c342, hs340, rfl, rfl, hle338, h343⟩ hstepL231 houtL231
   unfold mLineChains_1_L231 at hstepL231
   have hm := hstepL231
   refine c_sr ?_
   refine t_st rfl (st_lss_t rfl rfl (by omega)) ?_
   refine t_ne ?_
   refine c_seq ?_
   refine c_cond_t rfl ?_
   refine c_skip ?_
   refine x_then_normal ?_
   refine c_seq ?_
   refine c_block ?_
   refine c_sr ?_
   refine t_mv rfl rfl ?_
   refine t_as rfl rfl ?_
   refine t_ne ?_
   refine c_seq ?_
   refine c_sr ?_
   refine t_st rfl (st_load 0 rfl one44 rfl rfl) ?_
   refine t_st rfl (st_len rfl sl44) ?_
   refine t_st rfl (st_load 1 rfl one3 rfl rfl) ?_
   refine t_st rfl (st_eql rfl rfl) ?_
   refine t_ne ?_
   refine c_cond _ rfl (fun hc349 => ?_) (fun hc349 => ?_)
   ·
    rw [if_pos (of_decide_eq_true hc349)] at hm
    refine c_ret ?_
    refine x_then_ret ?_
    refine x_block_ret ?_
    refine x_then_ret ?_
    refine x_then_ret ?_
    refine x_block_ret ?_
    have hq350 := houtL231 _ (Option.some.inj hm).symm
    rw [hq350] at hk348
    have hm := elimR hk348
    obtain rfl := some1 hm
    refine x_pullb 6 rfl ?_
    refine x_pullb 5 rfl ?_
    refine x_pullb 5 rfl ?_
    refine x_pullb 5 rfl ?_
    refine x_pullb 5 rfl ?_
    refine x_pullb 5 rfl ?_
    refine x_pullb 6 rfl ?_
    refine x_front2 [_, _, _, _, _, _, _] hs340 hs7 R rfl ?_
    refine x_front2 [_, _, _, _, _, _, _] hs7 hs340 R rfl ?_
    exact retM (rs := []) [] hle338 (by decide) rfl trivial rfl (.refl _) ⟨A341, c342, hs340, rfl, rfl, h343⟩
   ·
    rw [if_neg (of_decide_eq_false hc349)] at hm
    refine c_skip ?_
    refine x_then_normal ?_
    refine c_seq ?_
    refine c_sr ?_
    refine t_st rfl (st_load 2 rfl one66 rfl rfl) ?_
    refine t_mv rfl rfl ?_
    refine t_mv rfl rfl ?_
    obtain ⟨x351, hcl352, hm⟩ := bindS hm
    refine t_pullb 6 rfl ?_
    refine t_front2 [_, _, _, _, _, _, _] hs340 hs7 R rfl ?_
    refine t_out1 [_] [_, _, _, _, _, _] hs7 (hs340 ++ R) rfl ?_
    refine t_callG _ rfl call22 rfl (cLineLegsAdd _ _ l21 (k345 : Int) l31 l35 l39 l43 l47 x48 l52 l55 g17 A18 c19 A28 c29 A32 c33 A36 c37 A40 c41 A44 c45 A49 c50 A8 c9 hs7 (h20.le hle338) (h30.le hle338) (h34.le hle338) (h38.le hle338) (h42.le hle338) (h46.le hle338) (h51.le hle338) (h10.le hle338) x351 hcl352) ?_
    rintro _ b353 _ hle354 ⟨rfl, rfl⟩
    refine t_in1 [_] [_, _, _, _, _, _] hs7 (hs340 ++ R) rfl ?_
    refine t_st rfl (st_neq rfl rfl) ?_
    refine t_ne ?_
    refine c_cond _ rfl (fun hc355 => ?_) (fun hc355 => ?_)
    ·
     rw [if_pos (of_decide_eq_true hc355)] at hm
     refine c_exit ?_
     refine x_then_exit ?_
     refine x_block_out ?_
     refine x_then_normal ?_
     refine c_region ?_
     refine t_st rfl (st_add rfl rfl (by omega)) ?_
     refine t_mv rfl rfl ?_
     refine t_nil ?_
     refine x_pullb 6 rfl ?_
     refine x_pullb 6 rfl ?_
     refine x_pullb 6 rfl ?_
     refine x_pullb 6 rfl ?_
     refine x_pullb 6 rfl ?_
     refine x_pullb 6 rfl ?_
     refine x_front2 [_, _, _, _, _, _, _] hs7 hs340 R rfl ?_
     exact x_againM l344 (Option.some.inj hm).symm (e' := [(0, .slice A18 (l21).length c19), (2, .pointer (some ⟨g12, 0, none⟩)), (3, .pointer (some ⟨g13, 0, none⟩)), (4, .pointer (some ⟨g14, 0, none⟩)), (5, .pointer (some ⟨g15, 0, none⟩)), (6, .pointer (some ⟨g16, 0, none⟩)), (11, .int .i64 ((l25.length : Int))), (12, .int .i64 ((k345 : Int) + 1))]) ⟨rfl, rfl, rfl, rfl, rfl, rfl, rfl, rfl, trivial⟩ (.refl _) ⟨A341, c342, hs340, rfl, rfl, ((hle338.trans hle354)), (h343.le hle354)⟩
    ·
     rw [if_neg (of_decide_eq_false hc355)] at hm
     refine c_skip ?_
     refine x_then_normal ?_
     refine c_sr ?_
     refine t_mv rfl rfl ?_
     obtain ⟨l356, hcl357, hm⟩ := bindS hm
     refine t_callG _ rfl call23 rfl (cSlicesClone_2 _ _ l21 A18 c19 (h20.le (hle338.trans hle354)) l356 hcl357) ?_
     rintro _ b358 _ hle359 ⟨A360, c361, hs362, rfl, rfl, h363⟩
     refine t_in1 [] [_, _, _, _, _, _, _] hs362 (hs7 ++ (hs340 ++ R)) rfl ?_
     refine t_mv rfl rfl ?_
     refine t_do rfl (u_bslice (el := 3) [(0, .int .i64 ((k345 : Int)))] [.int .i64 ((k345 : Int))] rfl (fun _ => by kernel_rfl)) ?_
     rintro _ _ ⟨g364, rfl, rfl⟩
     obtain ⟨_, h365, hm⟩ := bindS hm
     have h365 := room_some h365
     refine t_do rfl (u_appOS (r := (RT.int .i64)) (l := l356) [_, _, _, _, _, _, _, _] (hs7 ++ (hs340 ++ R)) [[.int .i64 ((k345 : Int))]] [(k345 : Int)] rfl (by decide) sl37 inf3 rfl rfl rfl rfl h363 rfl (fun w ho => Rd.own (i := 0) ho rfl) ⟨rfl, trivial⟩ h365) ?_
     rintro _ _ ⟨hs366, rfl, h367⟩
     obtain ⟨A368, c369, rfl, _⟩ := h367.form
     refine t_as rfl rfl ?_
     refine t_ne ?_
     refine c_seq ?_
     obtain ⟨x374, hcl375, hm⟩ := bindS hm
     refine D_drawI mixed (.cons_cons _ (.cons _ (.cons_cons _ (.cons_cons _ (.cons_cons _ (.cons_cons _ (.cons_cons _ (.cons_cons _ (sub_skip hs366 (sub_skip hs7 (.refl _))))))))))) ?_
     refine E_st 0 rfl (st_load 3 rfl one66 rfl rfl) ?_
     refine E_st 1 rfl (st_move rfl) ?_
     refine E_st 3 rfl (st_load 4 rfl one3 rfl rfl) ?_
     refine E_out ?_
     refine d_pullb 1 rfl ?_
     refine d_front2 [_, _, _, _, _, _, _, _] hs366 hs7 (hs340 ++ R) rfl ?_
     refine d_front2 [_, _, _, _, _, _, _, _] hs7 hs366 (hs340 ++ R) rfl ?_
     refine d_out2 [_] [_, _, _, _, _, _, _] hs366 hs7 (hs340 ++ R) rfl ?_
     refine D_all [2] (by kernel_rfl) rfl ?_
     refine R_callGl (Base.Le.refl _) rfl rfl _ call24 rfl (cLineLegsLast _ _ l31 l35 l39 l43 l47 x48 l52 (l356 ++ [(k345 : Int)]) l55 g17 A28 c29 A32 c33 A36 c37 A40 c41 A44 c45 A49 c50 A368 c369 hs366 A8 c9 hs7 (h30.le (hle338.trans (hle354.trans hle359))) (h34.le (hle338.trans (hle354.trans hle359))) (h38.le (hle338.trans (hle354.trans hle359))) (h42.le (hle338.trans (hle354.trans hle359))) (h46.le (hle338.trans (hle354.trans hle359))) (h51.le (hle338.trans (hle354.trans hle359))) h367 (OS.nz h367 (by simp)) (h10.le (hle338.trans (hle354.trans hle359))) x374 hcl375) ?_ ?_
     ·
      rintro _ b376 _ hle377 ⟨rfl, rfl⟩
      refine ⟨.inr (.cons _ (sub_skip hs366 (sub_skip hs7 (.refl _)))), ?_⟩
      refine d_in2 [_] [_, _, _, _, _, _, _] hs366 hs7 (hs340 ++ R) rfl ?_
      refine D_st hle377 4 rfl (by kernel_rfl) (by kernel_rfl) (by kernel_rfl) rfl (st_eql rfl rfl) (.cons _ (.cons_cons _ (.cons_cons _ (.cons_cons _ (.cons_cons _ (.cons_cons _ (.cons_cons _ (.cons_cons _ (sub_skip hs366 (sub_skip hs7 (.refl _))))))))))) ?_
      refine D_done (by kernel_rfl) ?_
      refine x_then_normal ?_
      refine c_cond _ rfl (fun hc378 => ?_) (fun hc378 => ?_)
      ·
       rw [if_pos (of_decide_eq_true hc378)] at hm
       refine c_region ?_
       refine t_st rfl (st_load 2 rfl one44 rfl rfl) ?_
       refine t_mv rfl rfl ?_
       refine t_do rfl (u_bslice (el := 37) [(0, .slice A368 (l356 ++ [(k345 : Int)]).length c369)] [.slice A368 (l356 ++ [(k345 : Int)]).length c369] rfl (fun _ => by kernel_rfl)) ?_
       rintro _ _ ⟨g379, rfl, rfl⟩
       have hnz380 : (A368 = none ↔ l356 ++ [(k345 : Int)] = []) := (OS.nz (h367.le hle377) (by simp))
       refine t_frz [_, _, _, _, _, _, _, _, _] hs366 (hs7 ++ (hs340 ++ R)) rfl ?_
       intro b381 hle382 hz383
       have h384 := OS.frz (l := l356 ++ [(k345 : Int)]) (h367.le hle377) hle382.cells hz383
       obtain ⟨_, h385, hm⟩ := bindS hm
       have h385 := room_some h385
       refine t_front2 [_, _, _, _, _, _, _, _, _] hs7 hs340 R rfl ?_
       refine t_do rfl (u_appOS (r := (RT.list (RT.int .i64))) (l := l344) [_, _, _, _, _, _, _, _, _] (hs7 ++ R) [[.slice A368 (l356 ++ [(k345 : Int)]).length c369]] [l356 ++ [(k345 : Int)]] rfl (by decide) sl44 inf37 rfl rfl rfl rfl (h343.le (hle354.trans (hle359.trans (hle377.trans hle382)))) rfl (fun w ho => Rd.own (i := 0) ho rfl) ⟨(RT.list_mk h384), trivial⟩ h385) ?_
       rintro _ _ ⟨hs386, rfl, h387⟩
       obtain ⟨A388, c389, rfl, _⟩ := h387.form
       refine t_do rfl (u_store 3 rfl rfl siz44 rfl rfl (by simp)) ?_
       rintro _ _ rfl
       refine t_nil ?_
       refine x_block_normal ?_
       refine x_then_normal ?_
       refine c_region ?_
       refine t_st rfl (st_add rfl rfl (by omega)) ?_
       refine t_mv rfl rfl ?_
       refine t_nil ?_
       refine x_pullb 1 rfl ?_
       refine x_pullb 8 rfl ?_
       refine x_pullb 8 rfl ?_
       refine x_pullb 8 rfl ?_
       refine x_pullb 8 rfl ?_
       refine x_pullb 8 rfl ?_
       refine x_pullb 8 rfl ?_
       refine x_front2 [_, _, _, _, _, _, _, _, _] hs386 hs7 R rfl ?_
       refine x_front2 [_, _, _, _, _, _, _, _, _] hs7 hs386 R rfl ?_
       exact x_againM (l344 ++ [l356 ++ [(k345 : Int)]]) (Option.some.inj hm).symm (e' := [(0, .slice A18 (l21).length c19), (2, .pointer (some ⟨g12, 0, none⟩)), (3, .pointer (some ⟨g13, 0, none⟩)), (4, .pointer (some ⟨g14, 0, none⟩)), (5, .pointer (some ⟨g15, 0, none⟩)), (6, .pointer (some ⟨g16, 0, none⟩)), (11, .int .i64 ((l25.length : Int))), (12, .int .i64 ((k345 : Int) + 1))]) ⟨rfl, rfl, rfl, rfl, rfl, rfl, rfl, rfl, trivial⟩ (.cons_cons _ (.cons_cons _ (.cons_cons _ (.cons_cons _ (.cons_cons _ (.cons_cons _ (.cons_cons _ (.cons _ (.cons _ (.refl _)))))))))) ⟨A388, c389, hs386, rfl, rfl, ((hle338.trans (hle354.trans (hle359.trans (hle377.trans hle382))))), h387⟩
      ·
       rw [if_neg (of_decide_eq_false hc378)] at hm
       refine c_sr ?_
       refine t_mv rfl rfl ?_
       refine t_st rfl (st_len rfl sl37) ?_
       refine t_st rfl (st_lss rfl rfl) ?_
       refine t_ne ?_
       refine c_cond _ rfl (fun hc390 => ?_) (fun hc390 => ?_)
       ·
        rw [if_pos (of_decide_eq_true hc390)] at hm
        refine c_region ?_
        refine t_st rfl (st_load 6 rfl one68 rfl rfl) ?_
        refine t_mv rfl rfl ?_
        obtain ⟨l391, hcl392, hm⟩ := bindS hm
        obtain ⟨Nhcl392, hcl392⟩ := lim_some hcl392
        refine t_pullb 6 rfl ?_
        refine t_pullb 6 rfl ?_
        refine t_pullb 6 rfl ?_
        refine t_pullb 6 rfl ?_
        refine t_pullb 6 rfl ?_
        refine t_pullb 7 rfl ?_
        refine t_front2 [_, _, _, _, _, _, _, _] hs366 hs7 (hs340 ++ R) rfl ?_
        refine t_front3 [_, _, _, _, _, _, _, _] hs7 hs366 hs340 R rfl ?_
        refine t_front3 [_, _, _, _, _, _, _, _] hs340 hs7 hs366 R rfl ?_
        refine t_out3 [_, _, _, _, _, _, _] [_] hs366 hs340 hs7 R rfl ?_
        refine t_callvG #[] #[.pointer (some ⟨g11, 0, none⟩), .pointer (some ⟨g12, 0, none⟩), .pointer (some ⟨g13, 0, none⟩), .pointer (some ⟨g14, 0, none⟩), .pointer (some ⟨g15, 0, none⟩), .pointer (some ⟨g16, 0, none⟩)] [.slice A368 (l356 ++ [(k345 : Int)]).length c369] rfl rfl call21 rfl (cLineChains_1_3 Nhcl392 _ _ l25 x26 x27 l31 l35 l39 l43 l47 x48 l52 (l356 ++ [(k345 : Int)]) l344 l55 g11 g12 g13 g14 g15 g16 g17 A22 c23 A28 c29 A32 c33 A36 c37 A40 c41 A44 c45 A49 c50 A368 c369 hs366 A341 c342 hs340 A8 c9 hs7 (h24.le (hle338.trans (hle354.trans (hle359.trans hle377)))) (h30.le (hle338.trans (hle354.trans (hle359.trans hle377)))) (h34.le (hle338.trans (hle354.trans (hle359.trans hle377)))) (h38.le (hle338.trans (hle354.trans (hle359.trans hle377)))) (h42.le (hle338.trans (hle354.trans (hle359.trans hle377)))) (h46.le (hle338.trans (hle354.trans (hle359.trans hle377)))) (h51.le (hle338.trans (hle354.trans (hle359.trans hle377)))) (h367.le hle377) (OS.nz (h367.le hle377) (by simp)) (h343.le (hle354.trans (hle359.trans hle377))) (h10.le (hle338.trans (hle354.trans (hle359.trans hle377)))) l391 hcl392) ?_
        rintro _ b393 _ hle394 ⟨A395, c396, hs397, rfl, rfl, h398⟩
        refine t_in3 [_, _, _, _, _, _, _] [_] hs366 hs397 hs7 R rfl ?_
        refine t_nil ?_
        refine x_block_normal ?_
        refine x_then_normal ?_
        refine c_region ?_
        refine t_st rfl (st_add rfl rfl (by omega)) ?_
        refine t_mv rfl rfl ?_
        refine t_nil ?_
        refine x_pullb 6 rfl ?_
        refine x_pullb 1 rfl ?_
        refine x_pullb 6 rfl ?_
        refine x_pullb 6 rfl ?_
        refine x_pullb 6 rfl ?_
        refine x_pullb 6 rfl ?_
        refine x_pullb 6 rfl ?_
        refine x_front3 [_, _, _, _, _, _, _, _] hs366 hs397 hs7 R rfl ?_
        refine x_front3 [_, _, _, _, _, _, _, _] hs7 hs366 hs397 R rfl ?_
        exact x_againM l391 (Option.some.inj hm).symm (e' := [(0, .slice A18 (l21).length c19), (2, .pointer (some ⟨g12, 0, none⟩)), (3, .pointer (some ⟨g13, 0, none⟩)), (4, .pointer (some ⟨g14, 0, none⟩)), (5, .pointer (some ⟨g15, 0, none⟩)), (6, .pointer (some ⟨g16, 0, none⟩)), (11, .int .i64 ((l25.length : Int))), (12, .int .i64 ((k345 : Int) + 1))]) ⟨rfl, rfl, rfl, rfl, rfl, rfl, rfl, rfl, trivial⟩ (.cons_cons _ (.cons_cons _ (.cons_cons _ (.cons_cons _ (.cons_cons _ (.cons_cons _ (.cons_cons _ (.cons _ (sub_app hs397 (sub_app hs7 (sub_skip hs366 (.refl _)))))))))))) ⟨A395, c396, hs397, rfl, rfl, ((hle338.trans (hle354.trans (hle359.trans (hle377.trans hle394))))), h398⟩
       ·
        rw [if_neg (of_decide_eq_false hc390)] at hm
        refine c_skip ?_
        refine x_block_normal ?_
        refine x_then_normal ?_
        refine c_region ?_
        refine t_st rfl (st_add rfl rfl (by omega)) ?_
        refine t_mv rfl rfl ?_
        refine t_nil ?_
        refine x_pullb 7 rfl ?_
        refine x_pullb 7 rfl ?_
        refine x_pullb 7 rfl ?_
        refine x_pullb 7 rfl ?_
        refine x_pullb 7 rfl ?_
        refine x_pullb 7 rfl ?_
        refine x_front2 [_, _, _, _, _, _, _, _] hs366 hs7 (hs340 ++ R) rfl ?_
        refine x_front3 [_, _, _, _, _, _, _, _] hs7 hs366 hs340 R rfl ?_
        exact x_againM l344 (Option.some.inj hm).symm (e' := [(0, .slice A18 (l21).length c19), (2, .pointer (some ⟨g12, 0, none⟩)), (3, .pointer (some ⟨g13, 0, none⟩)), (4, .pointer (some ⟨g14, 0, none⟩)), (5, .pointer (some ⟨g15, 0, none⟩)), (6, .pointer (some ⟨g16, 0, none⟩)), (11, .int .i64 ((l25.length : Int))), (12, .int .i64 ((k345 : Int) + 1))]) ⟨rfl, rfl, rfl, rfl, rfl, rfl, rfl, rfl, trivial⟩ (.cons_cons _ (.cons_cons _ (.cons_cons _ (.cons_cons _ (.cons_cons _ (.cons_cons _ (.cons_cons _ (.cons _ (sub_app hs340 (sub_app hs7 (sub_skip hs366 (.refl _)))))))))))) ⟨A341, c342, hs340, rfl, rfl, ((hle338.trans (hle354.trans (hle359.trans hle377)))), (h343.le (hle354.trans (hle359.trans hle377)))⟩
     exact R_nil
  ·
   rintro l344 b337 _ _ ⟨A341, c342, hs340, rfl, rfl, hle338, h343⟩ hq399
   rw [hq399] at hk348
   have hm := elimL hk348
   refine c_sr ?_
   refine t_st rfl (st_lss_f rfl rfl (by omega)) ?_
   refine t_ne ?_
   refine c_seq ?_
   refine c_cond_f rfl ?_
   refine c_exit ?_
   refine x_then_exit ?_
   refine x_then_exit ?_
   refine x_block_out ?_
   obtain rfl := some1 hm
   refine x_pullb 6 rfl ?_
   refine x_pullb 5 rfl ?_
   refine x_pullb 5 rfl ?_
   refine x_pullb 5 rfl ?_
   refine x_pullb 5 rfl ?_
   refine x_pullb 5 rfl ?_
   refine x_pullb 6 rfl ?_
   refine x_front2 [_, _, _, _, _, _, _] hs340 hs7 R rfl ?_
   refine x_front2 [_, _, _, _, _, _, _] hs7 hs340 R rfl ?_
   exact endM hle338 rfl (.refl _) ⟨A341, c342, hs340, rfl, rfl, h343⟩

set_option maxRecDepth 20000 in
theorem cLineChains (b : Base) (R : Hp) (s1 : ApiNet) (x17 : Int) (x18 : Int) (x19 : Int) (A2 : Option Addr) (c3 : Nat) (A5 : Option Addr) (c6 : Nat) (A8 : Option Addr) (c9 : Nat) (A11 : Option Addr) (c12 : Nat) (A14 : Option Addr) (c15 : Nat) (h4 : FZ RT.str b.w A2 c3 s1.Stations) (h7 : FZ rApiSection b.w A5 c6 s1.Sections) (h10 : FZ rApiLink b.w A8 c9 s1.Links) (h13 : FZ rApiSignal b.w A11 c12 s1.Signals) (h16 : FZ rApiGate b.w A14 c15 s1.Gates) (x126 : Int) (l127 : (List (List Int))) (hm : mLineChains s1 x17 x18 x19 = some (x126, l127)) :
    CallsG Tryz.prog 9 [.agg #[.slice A2 (s1.Stations).length c3, .slice A5 (s1.Sections).length c6, .slice A8 (s1.Links).length c9, .slice A11 (s1.Signals).length c12, .slice A14 (s1.Gates).length c15], .int .i64 (x17), .int .i64 (x18), .int .i64 (x19)] b (R) (fun v b' hp' => ∃ (A123 : Option Addr), ∃ (c124 : Nat), ∃ (hs122 : Hp), .tuple #[.slice A123 (l127).length c124, .int .i64 (x126)] = v ∧ (hs122 ++ R) = hp' ∧ OS 37 (OT.fr (RT.list (RT.int .i64))) b'.w (.slice A123 l127.length c124) l127 hs122) := by
  refine fn_enterG 49 Tryz.func9 rfl Tryz.ntmps9 rfl ?_
  unfold mLineChains at hm
  refine c_sr ?_
  refine t_do rfl (u_box _ rfl rfl) ?_
  rintro _ _ ⟨g128, rfl, rfl⟩
  refine t_do rfl (u_box _ rfl rfl) ?_
  rintro _ _ ⟨g129, rfl, rfl⟩
  refine t_do rfl (u_box _ rfl rfl) ?_
  rintro _ _ ⟨g130, rfl, rfl⟩
  refine t_as rfl rfl ?_
  refine t_as rfl rfl ?_
  refine t_ne ?_
  refine c_sr ?_
  refine t_st rfl (st_loadD (vs := [_, _, _, _, _]) 2 5 rfl agg28 rfl rfl rfl) ?_
  obtain ⟨⟨x131, l132⟩, hcl133, hm⟩ := bindS hm
  have hm := (unc2E hm)
  refine t_callG _ rfl call10 rfl (cLineRoutes _ _ s1 A2 c3 A5 c6 A8 c9 A11 c12 A14 c15 h4 h7 h10 h13 h16 x131 l132 hcl133) ?_
  rintro _ b134 _ hle135 ⟨A136, c137, hs138, rfl, rfl, h139, h140⟩
  refine t_in1 [] [_, _, _] hs138 R rfl ?_
  refine t_mv rfl rfl ?_
  refine t_st rfl (st_extract rfl rfl) ?_
  refine t_st rfl (st_extract rfl rfl) ?_
  refine t_do rfl (u_alloc [.slice none 0 0] zero47 rfl) ?_
  rintro _ _ ⟨g141, rfl, rfl⟩
  refine t_do rfl (u_store 0 rfl rfl siz47 rfl rfl (by simp)) ?_
  rintro _ _ rfl
  refine t_as rfl rfl ?_
  refine t_ne ?_
  refine c_seq ?_
  refine c_sr ?_
  refine t_mv rfl rfl ?_
  refine t_st rfl (st_neq rfl rfl) ?_
  refine t_ne ?_
  refine c_cond _ rfl (fun hc142 => ?_) (fun hc142 => ?_)
  ·
   rw [if_pos (of_decide_eq_true hc142)] at hm
   refine c_sr ?_
   refine t_mv rfl rfl ?_
   refine t_as rfl rfl ?_
   refine t_as rfl rfl ?_
   refine t_ne ?_
   refine c_ret ?_
   refine x_then_ret ?_
   obtain ⟨rfl, rfl⟩ := some2 hm
   exact retM (rs := [.tmp 8, .tmp 9]) [.slice none 0 0, .int .i64 (x131)] hle135 (by decide) rfl ⟨rfl, ⟨rfl, trivial⟩⟩ rfl (.cons _ (.cons _ (.cons _ (.cons _ (sub_skip hs138 (.refl _)))))) ⟨none, 0, [], rfl, rfl, OS.nil⟩
  ·
   rw [if_neg (of_decide_eq_false hc142)] at hm
   refine c_skip ?_
   refine x_then_normal ?_
   refine c_seq ?_
   refine c_block ?_
   obtain ⟨x150, hj151, hk151⟩ := bindS hm
   refine c_join (fun b148 e' hp' => [(1, .int .i64 (x17)), (4, .pointer (some ⟨g128, 0, none⟩)), (6, .pointer (some ⟨g129, 0, none⟩)), (7, .pointer (some ⟨g130, 0, none⟩)), (10, .pointer (some ⟨g141, 0, none⟩)), (23, .bool (x150))] = e' ∧ (g128, Cl 28 [.slice A2 (s1.Stations).length c3, .slice A5 (s1.Sections).length c6, .slice A8 (s1.Links).length c9, .slice A11 (s1.Signals).length c12, .slice A14 (s1.Gates).length c15]) :: (g129, Cl 3 [.int .i64 (x18)]) :: (g130, Cl 3 [.int .i64 (x19)]) :: (g141, Cl 47 [.slice A136 (l132).length c137]) :: (hs138 ++ R) = hp' ∧ b134.Le b148) ?_ ?_
   ·
    have hm := hj151
    refine c_region ?_
    refine t_st rfl (st_loadD (vs := [_, _, _, _, _]) 3 5 rfl agg28 rfl rfl rfl) ?_
    refine t_mv rfl rfl ?_
    obtain ⟨x152, hcl153, hm⟩ := bindS hm
    refine t_do rfl (u_callW0 _ call18 rfl (fun w ho => cLinePlatform _ [] s1 x17 A2 c3 A5 c6 A8 c9 A11 c12 A14 c15 ((h4.le hle135).old ho) ((h7.le hle135).old ho) ((h10.le hle135).old ho) ((h13.le hle135).old ho) ((h16.le hle135).old ho) x152 hcl153) (fun _ _ _ h => h.2.symm)) ?_
    rintro _ _ ⟨⟨_, rfl, _⟩, rfl⟩
    rcases Bool.eq_false_or_eq_true x152 with hc154 | hc154
    ·
     rw [if_pos hc154] at hm
     refine t_resp 26 rfl (v' := .bool true) (by rw [hc154] <;> rfl) ?_
     refine t_st rfl (st_not_t rfl) ?_
     refine t_mv rfl rfl ?_
     refine t_yes 28 rfl rfl rfl ?_
     refine t_st rfl (st_loadD (vs := [_, _, _, _, _]) 3 5 rfl agg28 rfl rfl rfl) ?_
     refine t_yes 28 rfl rfl rfl ?_
     refine t_st rfl (st_load 2 rfl one3 rfl rfl) ?_
     refine t_yes 28 rfl rfl rfl ?_
     obtain ⟨x155, hcl156, hm⟩ := bindS hm
     refine t_do rfl (u_callW0 _ call18 rfl (fun w ho => cLinePlatform _ [] s1 x18 A2 c3 A5 c6 A8 c9 A11 c12 A14 c15 ((h4.le hle135).old ho) ((h7.le hle135).old ho) ((h10.le hle135).old ho) ((h13.le hle135).old ho) ((h16.le hle135).old ho) x155 hcl156) (fun _ _ _ h => h.2.symm)) ?_
     rintro _ _ ⟨⟨_, rfl, _⟩, rfl⟩
     refine t_yes 28 rfl rfl rfl ?_
     refine t_st rfl (st_not rfl) ?_
     refine t_st rfl (st_pick_f rfl rfl) ?_
     refine t_as rfl rfl ?_
     refine t_nil ?_
     obtain rfl := some1 hm
     refine x_pullb 1 rfl ?_
     refine x_pullb 2 rfl ?_
     refine x_pullb 3 rfl ?_
     exact x_join (e' := [(1, .int .i64 (x17)), (4, .pointer (some ⟨g128, 0, none⟩)), (6, .pointer (some ⟨g129, 0, none⟩)), (7, .pointer (some ⟨g130, 0, none⟩)), (10, .pointer (some ⟨g141, 0, none⟩)), (23, .bool (!x155))]) ⟨rfl, rfl, rfl, rfl, rfl, rfl, trivial⟩ (.refl _) ⟨rfl, rfl, (Base.Le.refl _)⟩
    ·
     rw [if_neg (fun hh => Bool.noConfusion (hh.symm.trans hc154))] at hm
     refine t_resp 26 rfl (v' := .bool false) (by rw [hc154] <;> rfl) ?_
     refine t_st rfl (st_not_f rfl) ?_
     refine t_mv rfl rfl ?_
     refine t_no 28 rfl rfl rfl rfl rfl ?_
     refine t_no 28 rfl rfl rfl rfl rfl ?_
     refine t_no 28 rfl rfl rfl rfl rfl ?_
     refine t_no 28 rfl rfl rfl rfl rfl ?_
     refine t_st rfl (st_pick_t rfl rfl) ?_
     refine t_as rfl rfl ?_
     refine t_nil ?_
     obtain rfl := some1 hm
     refine x_pullb 1 rfl ?_
     refine x_pullb 2 rfl ?_
     refine x_pullb 3 rfl ?_
     exact x_join (e' := [(1, .int .i64 (x17)), (4, .pointer (some ⟨g128, 0, none⟩)), (6, .pointer (some ⟨g129, 0, none⟩)), (7, .pointer (some ⟨g130, 0, none⟩)), (10, .pointer (some ⟨g141, 0, none⟩)), (23, .bool (true))]) ⟨rfl, rfl, rfl, rfl, rfl, rfl, trivial⟩ (.refl _) ⟨rfl, rfl, (Base.Le.refl _)⟩
   ·
    rintro b148 _ _ ⟨rfl, rfl, hle149⟩
    have hm := hk151
    refine c_cond _ rfl (fun hc157 => ?_) (fun hc157 => ?_)
    ·
     rw [if_pos hc157] at hm
     refine c_sr ?_
     refine t_as rfl rfl ?_
     refine t_as rfl rfl ?_
     refine t_ne ?_
     refine c_ret ?_
     refine x_block_ret ?_
     refine x_then_ret ?_
     obtain ⟨rfl, rfl⟩ := some2 hm
     exact retM (rs := [.tmp 8, .tmp 9]) [.slice none 0 0, .int .i64 (3)] (hle135.trans hle149) (by decide) rfl ⟨rfl, ⟨rfl, trivial⟩⟩ rfl (.cons _ (.cons _ (.cons _ (.cons _ (sub_skip hs138 (.refl _)))))) ⟨none, 0, [], rfl, rfl, OS.nil⟩
    ·
     rw [if_neg (fun hh => Bool.noConfusion (hh.symm.trans hc157))] at hm
     refine c_sr ?_
     refine t_st rfl (st_load 2 rfl one3 rfl rfl) ?_
     obtain ⟨x158, hcl159, hm⟩ := bindS hm
     refine t_do rfl (u_callW0 _ call19 rfl (fun w ho => cLineWithin _ [] x19 1 20 x158 hcl159) (fun _ _ _ h => h.2.symm)) ?_
     rintro _ _ ⟨⟨_, rfl, _⟩, rfl⟩
     refine t_st rfl (st_not rfl) ?_
     refine t_as rfl rfl ?_
     refine t_ne ?_
     refine c_cond _ rfl (fun hc160 => ?_) (fun hc160 => ?_)
     ·
      rw [if_neg (fun hh => Bool.noConfusion (hh.symm.trans (notT hc160)))] at hm
      refine c_sr ?_
      refine t_as rfl rfl ?_
      refine t_as rfl rfl ?_
      refine t_ne ?_
      refine c_ret ?_
      refine x_block_ret ?_
      refine x_then_ret ?_
      obtain ⟨rfl, rfl⟩ := some2 hm
      exact retM (rs := [.tmp 8, .tmp 9]) [.slice none 0 0, .int .i64 (2)] (hle135.trans hle149) (by decide) rfl ⟨rfl, ⟨rfl, trivial⟩⟩ rfl (.cons _ (.cons _ (.cons _ (.cons _ (sub_skip hs138 (.refl _)))))) ⟨none, 0, [], rfl, rfl, OS.nil⟩
     ·
      rw [if_pos (notF hc160)] at hm
      refine c_skip ?_
      refine x_block_normal ?_
      refine x_then_normal ?_
      refine c_sr ?_
      refine t_st rfl (st_loadD (vs := [_, _, _, _, _]) 0 5 rfl agg28 rfl rfl rfl) ?_
      refine t_mv rfl rfl ?_
      refine t_st rfl (st_load 3 rfl one47 rfl rfl) ?_
      refine t_frz [_, _, _, _] hs138 R rfl ?_
      intro b161 hle162 hz163
      have h164 := OS.frz (l := l132) (h139.le hle149) hle162.cells hz163
      obtain ⟨⟨l165, l166, l167, l168, l169, x170, l171, l172⟩, hcl173, hm⟩ := bindS hm
      have hm := (unc8E hm)
      refine t_callG _ rfl call20 rfl (cLineOpen _ _ s1 x17 l132 A2 c3 A5 c6 A8 c9 A11 c12 A14 c15 A136 c137 (h4.le (hle135.trans (hle149.trans hle162))) (h7.le (hle135.trans (hle149.trans hle162))) (h10.le (hle135.trans (hle149.trans hle162))) (h13.le (hle135.trans (hle149.trans hle162))) (h16.le (hle135.trans (hle149.trans hle162))) h164 l165 l166 l167 l168 l169 x170 l171 l172 hcl173) ?_
      rintro _ b174 _ hle175 ⟨g176, A177, c178, A179, c180, A181, c182, A183, c184, A185, c186, A187, c188, A189, c190, hs191, rfl, rfl, h192, h193, h194, h195, h196, h197, h198⟩
      refine t_in1 [_] [_, _, _, _] hs191 R rfl ?_
      refine t_do rfl (u_alloc [.pointer none] zero66 rfl) ?_
      rintro _ _ ⟨g199, rfl, rfl⟩
      refine t_do rfl (u_store 0 rfl rfl siz66 rfl rfl (by simp)) ?_
      rintro _ _ rfl
      refine t_ne ?_
      refine c_sr ?_
      refine t_do rfl (u_alloc [.slice none 0 0] zero44 rfl) ?_
      rintro _ _ ⟨g200, rfl, rfl⟩
      refine t_ne ?_
      refine c_sr ?_
      refine t_do rfl (u_alloc [.nilFunc] zero68 rfl) ?_
      rintro _ _ ⟨g201, rfl, rfl⟩
      refine t_ne ?_
      refine c_sr ?_
      refine t_st rfl (st_func _ _ rfl rfl) ?_
      refine t_do rfl (u_store 0 rfl rfl siz68 rfl rfl (by simp)) ?_
      rintro _ _ rfl
      refine t_ne ?_
      obtain ⟨l218, hj219, hk219⟩ := bindS hm
      refine c_join (fun b211 e' hp' => ∃ (A215 : Option Addr), ∃ (c216 : Nat), ∃ (hs214 : Hp), [(13, .pointer (some ⟨g200, 0, none⟩))] = e' ∧ (g200, Cl 44 [.slice A215 (l218).length c216]) :: (hs214 ++ R) = hp' ∧ b174.Le b211 ∧ OS 37 (OT.fr (RT.list (RT.int .i64))) b211.w (.slice A215 l218.length c216) l218 hs214) ?_ ?_
      ·
       have hm := hj219
       refine c_sr ?_
       refine t_mv rfl rfl ?_
       refine t_st rfl (st_load 5 rfl one3 rfl rfl) ?_
       refine t_st rfl (st_neq rfl rfl) ?_
       refine t_ne ?_
       refine c_cond _ rfl (fun hc220 => ?_) (fun hc220 => ?_)
       ·
        rw [if_pos (of_decide_eq_true hc220)] at hm
        refine c_region ?_
        refine t_st rfl (st_load 0 rfl one68 rfl rfl) ?_
        obtain ⟨l221, hcl222, hm⟩ := bindS hm
        refine t_pullb 3 rfl ?_
        refine t_pullb 1 rfl ?_
        refine t_pullb 5 rfl ?_
        refine t_pullb 4 rfl ?_
        refine t_pullb 6 rfl ?_
        refine t_pullb 5 rfl ?_
        refine t_pullb 7 rfl ?_
        refine t_out1 [_, _, _, _, _, _, _] [_] hs191 R rfl ?_
        refine t_callvG #[] #[.pointer (some ⟨g141, 0, none⟩), .pointer (some ⟨g200, 0, none⟩), .pointer (some ⟨g130, 0, none⟩), .pointer (some ⟨g199, 0, none⟩), .pointer (some ⟨g129, 0, none⟩), .pointer (some ⟨g201, 0, none⟩)] [.slice none 0 0] rfl rfl call21 rfl (cLineChains_1 _ _ [] l132 x19 x18 l165 l166 l167 l168 l169 x170 l171 [] l172 g141 g200 g130 g199 g129 g201 g176 none 0 A136 c137 A177 c178 A179 c180 A181 c182 A183 c184 A185 c186 A187 c188 none 0 [] A189 c190 hs191 FZ.nil (h164.le hle175) h192 h193 h194 h195 h196 h197 OS.nil ⟨fun _ => rfl, fun _ => rfl⟩ h198 l221 hcl222) ?_
        rintro _ b223 _ hle224 ⟨A225, c226, hs227, rfl, rfl, h228⟩
        refine t_in2 [_, _, _, _, _, _, _] [_] hs227 hs191 R rfl ?_
        refine t_nil ?_
        obtain rfl := some1 hm
        refine x_pullb 1 rfl ?_
        exact x_join (e' := [(13, .pointer (some ⟨g200, 0, none⟩))]) ⟨rfl, trivial⟩ (.cons_cons _ (.cons _ (.cons _ (.cons _ (.cons _ (.cons _ (.cons _ (.cons _ (sub_app hs227 (sub_skip hs191 (.refl _))))))))))) ⟨A225, c226, hs227, rfl, rfl, hle224, h228⟩
       ·
        rw [if_neg (of_decide_eq_false hc220)] at hm
        refine c_skip ?_
        obtain rfl := some1 hm
        refine x_pullb 1 rfl ?_
        exact x_join (e' := [(13, .pointer (some ⟨g200, 0, none⟩))]) ⟨rfl, trivial⟩ (.cons_cons _ (.cons _ (.cons _ (.cons _ (.cons _ (.cons _ (.cons _ (.cons _ (sub_skip hs191 (.refl _)))))))))) ⟨none, 0, [], rfl, rfl, (Base.Le.refl _), OS.nil⟩
      ·
       rintro b211 _ _ ⟨A215, c216, hs214, rfl, rfl, hle212, h217⟩
       have hm := hk219
       refine c_sr ?_
       refine t_st rfl (st_load 0 rfl one44 rfl rfl) ?_
       refine t_as rfl rfl ?_
       refine t_as rfl rfl ?_
       refine t_ne ?_
       refine c_ret ?_
       obtain ⟨rfl, rfl⟩ := some2 hm
       exact retM (rs := [.tmp 8, .tmp 9]) [.slice A215 (l218).length c216, .int .i64 (0)] (hle135.trans (hle149.trans (hle162.trans (hle175.trans hle212)))) (by decide) rfl ⟨rfl, ⟨rfl, trivial⟩⟩ rfl (.cons _ (.refl _)) ⟨A215, c216, hs214, rfl, rfl, h217⟩

set_option maxRecDepth 20000 in
theorem cLineLegsLast_2 (b : Base) (R : Hp) (l10 : (List Int)) (l14 : (List ByteArray)) (l18 : (List ApiSection)) (l22 : (List ApiLink)) (l26 : (List ApiSignal)) (l30 : (List ApiGate)) (x31 : Int) (l35 : (List ApiRoute)) (l36 : (List (List ApiNeed))) (g6 : Nat) (A7 : Option Addr) (c8 : Nat) (A11 : Option Addr) (c12 : Nat) (A15 : Option Addr) (c16 : Nat) (A19 : Option Addr) (c20 : Nat) (A23 : Option Addr) (c24 : Nat) (A27 : Option Addr) (c28 : Nat) (A32 : Option Addr) (c33 : Nat) (A3 : Option Addr) (c4 : Nat) (hs2 : Hp) (h9 : FZ (RT.int .i64) b.w A7 c8 l10) (h13 : FZ RT.str b.w A11 c12 l14) (h17 : FZ rApiSection b.w A15 c16 l18) (h21 : FZ rApiLink b.w A19 c20 l22) (h25 : FZ rApiSignal b.w A23 c24 l26) (h29 : FZ rApiGate b.w A27 c28 l30) (h34 : FZ rApiRoute b.w A32 c33 l35) (h5 : OS 38 (OT.fr (RT.list rApiNeed)) b.w (.slice A3 l36.length c4) l36 hs2) (x96 : Int) (hm : mLineLegsLast_2 l10 l14 l18 l22 l26 l30 x31 l35 l36 = some x96) :
    CallsG Tryz.prog 24 [.pointer (some ⟨g6, 0, none⟩), .slice A7 (l10).length c8] b ((g6, Cl 94 [.slice A11 (l14).length c12, .slice A15 (l18).length c16, .slice A19 (l22).length c20, .slice A23 (l26).length c24, .slice A27 (l30).length c28, .int .i64 (x31), .slice A32 (l35).length c33, .slice A3 (l36).length c4]) :: (hs2 ++ R)) (fun v b' hp' => .int .i64 (x96) = v ∧ (g6, Cl 94 [.slice A11 (l14).length c12, .slice A15 (l18).length c16, .slice A19 (l22).length c20, .slice A23 (l26).length c24, .slice A27 (l30).length c28, .int .i64 (x31), .slice A32 (l35).length c33, .slice A3 (l36).length c4]) :: (hs2 ++ R) = hp') := by
  refine fn_enterG 26 Tryz.func24 rfl Tryz.ntmps24 rfl ?_
  unfold mLineLegsLast_2 at hm
  refine c_sr ?_
  refine t_as rfl rfl ?_
  refine t_ne ?_
  refine c_seq ?_
  obtain ⟨_, h121, hm⟩ := bindS hm
  obtain ⟨x122, h123, hm⟩ := bindS hm
  obtain ⟨x132, h133, hm⟩ := bindS hm
  refine D_drawI mixed (.refl _) ?_
  refine E_st 0 rfl (st_move rfl) ?_
  refine E_st 1 rfl (st_nil rfl) ?_
  refine E_st 2 rfl (st_field rfl fld94_2) ?_
  refine E_st 3 rfl (st_load 0 rfl one47 rfl rfl) ?_
  refine E_st 4 rfl (st_move rfl) ?_
  refine E_st 5 rfl (st_move rfl) ?_
  refine E_st 6 rfl (st_len rfl sl37) ?_
  have h121 := (chk_some h121).2
  refine E_st 7 rfl (st_sub rfl rfl h121) ?_
  obtain ⟨j124, hj125, hx126⟩ := idx_some h123
  obtain ⟨cs127, hr128, hcs129, hA130, hlt131⟩ := FZ.get (sz := 1) rfl (by decide) h9 hx126
  obtain rfl := hr128
  refine E_st 8 rfl (st_index_old j124 rfl rfl hj125 hlt131 hA130 sl37) ?_
  refine E_st 9 rfl (st_load_old rfl one3 (hcs129 0 _ rfl)) ?_
  obtain ⟨j134, hj135, hx136⟩ := idx_some h133
  obtain ⟨cs137, hr138, hcs139, hA140, hlt141⟩ := FZ.get (sz := 3) rfl (by decide) h34 hx136
  obtain ⟨_, _, rfl, rfl, ⟨_, _, rfl, rfl, ⟨A142, c143, rfl, h144⟩⟩⟩ := hr138
  refine E_st 10 rfl (st_index_old j134 rfl rfl hj135 hlt141 hA140 sl47) ?_
  refine E_st 11 rfl (st_field_old rfl hA140 fld54_2) ?_
  refine E_st 12 rfl (st_load_old rfl one52 (hcs139 2 _ rfl)) ?_
  refine E_st 13 rfl (st_assign rfl) ?_
  refine E_out ?_
  refine D_done (by kernel_rfl) ?_
  refine x_then_normal ?_
  refine c_sr ?_
  refine t_mv rfl rfl ?_
  refine t_mv rfl rfl ?_
  refine t_st rfl (st_len rfl sl52) ?_
  obtain ⟨_, h145, hm⟩ := bindS hm
  have h145 := (chk_some h145).2
  refine t_st rfl (st_sub rfl rfl h145) ?_
  obtain ⟨x146, h147, hm⟩ := bindS hm
  obtain ⟨j148, hj149, hx150⟩ := idx_some h147
  obtain ⟨cs151, hr152, hcs153, hA154, hlt155⟩ := FZ.get (sz := 3) rfl (by decide) h144 hx150
  obtain ⟨_, _, rfl, rfl, ⟨_, _, rfl, rfl, rfl⟩⟩ := hr152
  refine t_st rfl (st_index_old j148 rfl rfl hj149 hlt155 hA154 sl52) ?_
  refine t_st rfl (st_field_old rfl hA154 fld56_0) ?_
  refine t_st rfl (st_load_old rfl one3 (hcs153 0 _ rfl)) ?_
  refine t_as rfl rfl ?_
  refine t_ne ?_
  refine c_ret ?_
  obtain rfl := some1 hm
  exact retM (rs := [.tmp 4]) [.int .i64 (x146.Section)] (Base.Le.refl _) (by decide) rfl ⟨rfl, trivial⟩ rfl (.refl _) ⟨rfl, rfl⟩

set_option maxRecDepth 20000 in
theorem cLineCheckLeg (b : Base) (R : Hp) (s1 : ApiNet) (x17 : Int) (l21 : (List Int)) (A2 : Option Addr) (c3 : Nat) (A5 : Option Addr) (c6 : Nat) (A8 : Option Addr) (c9 : Nat) (A11 : Option Addr) (c12 : Nat) (A14 : Option Addr) (c15 : Nat) (A18 : Option Addr) (c19 : Nat) (h4 : FZ RT.str b.w A2 c3 s1.Stations) (h7 : FZ rApiSection b.w A5 c6 s1.Sections) (h10 : FZ rApiLink b.w A8 c9 s1.Links) (h13 : FZ rApiSignal b.w A11 c12 s1.Signals) (h16 : FZ rApiGate b.w A14 c15 s1.Gates) (h20 : FZ (RT.int .i64) b.w A18 c19 l21) (x176 : Int) (hm : mLineCheckLeg s1 x17 l21 = some x176) :
    CallsG Tryz.prog 11 [.agg #[.slice A2 (s1.Stations).length c3, .slice A5 (s1.Sections).length c6, .slice A8 (s1.Links).length c9, .slice A11 (s1.Signals).length c12, .slice A14 (s1.Gates).length c15], .int .i64 (x17), .slice A18 (l21).length c19] b (R) (fun v b' hp' => .int .i64 (x176) = v ∧ R = hp') := by
  refine fn_enterG 61 Tryz.func11 rfl Tryz.ntmps11 rfl ?_
  unfold mLineCheckLeg at hm
  refine c_sr ?_
  refine t_do rfl (u_box _ rfl rfl) ?_
  rintro _ _ ⟨g177, rfl, rfl⟩
  refine t_as rfl rfl ?_
  refine t_ne ?_
  refine c_sr ?_
  refine t_st rfl (st_loadD (vs := [_, _, _, _, _]) 0 5 rfl agg28 rfl rfl rfl) ?_
  obtain ⟨⟨x178, l179⟩, hcl180, hm⟩ := bindS hm
  have hm := (unc2E hm)
  refine t_callG _ rfl call10 rfl (cLineRoutes _ _ s1 A2 c3 A5 c6 A8 c9 A11 c12 A14 c15 h4 h7 h10 h13 h16 x178 l179 hcl180) ?_
  rintro _ b181 _ hle182 ⟨A183, c184, hs185, rfl, rfl, h186, h187⟩
  refine t_in1 [] [_] hs185 R rfl ?_
  refine t_mv rfl rfl ?_
  refine t_st rfl (st_extract rfl rfl) ?_
  refine t_st rfl (st_extract rfl rfl) ?_
  refine t_as rfl rfl ?_
  refine t_as rfl rfl ?_
  refine t_ne ?_
  refine c_seq ?_
  refine c_sr ?_
  refine t_mv rfl rfl ?_
  refine t_st rfl (st_neq rfl rfl) ?_
  refine t_ne ?_
  refine c_cond _ rfl (fun hc188 => ?_) (fun hc188 => ?_)
  ·
   rw [if_pos (of_decide_eq_true hc188)] at hm
   refine c_sr ?_
   refine t_mv rfl rfl ?_
   refine t_as rfl rfl ?_
   refine t_ne ?_
   refine c_ret ?_
   refine x_then_ret ?_
   obtain rfl := some1 hm
   exact retM (rs := [.tmp 6]) [.int .i64 (x178)] hle182 (by decide) rfl ⟨rfl, trivial⟩ rfl (.cons _ (sub_skip hs185 (.refl _))) ⟨rfl, rfl⟩
  ·
   rw [if_neg (of_decide_eq_false hc188)] at hm
   refine c_skip ?_
   refine x_then_normal ?_
   refine c_seq ?_
   refine c_block ?_
   refine c_sr ?_
   refine t_st rfl (st_loadD (vs := [_, _, _, _, _]) 0 5 rfl agg28 rfl rfl rfl) ?_
   refine t_mv rfl rfl ?_
   obtain ⟨x189, hcl190, hm⟩ := bindS hm
   refine t_do rfl (u_callW0 _ call18 rfl (fun w ho => cLinePlatform _ [] s1 x17 A2 c3 A5 c6 A8 c9 A11 c12 A14 c15 ((h4.le hle182).old ho) ((h7.le hle182).old ho) ((h10.le hle182).old ho) ((h13.le hle182).old ho) ((h16.le hle182).old ho) x189 hcl190) (fun _ _ _ h => h.2.symm)) ?_
   rintro _ _ ⟨⟨_, rfl, _⟩, rfl⟩
   refine t_st rfl (st_not rfl) ?_
   refine t_as rfl rfl ?_
   refine t_ne ?_
   refine c_cond _ rfl (fun hc191 => ?_) (fun hc191 => ?_)
   ·
    rw [if_neg (fun hh => Bool.noConfusion (hh.symm.trans (notT hc191)))] at hm
    refine c_sr ?_
    refine t_as rfl rfl ?_
    refine t_ne ?_
    refine c_ret ?_
    refine x_block_ret ?_
    refine x_then_ret ?_
    obtain rfl := some1 hm
    exact retM (rs := [.tmp 6]) [.int .i64 (3)] hle182 (by decide) rfl ⟨rfl, trivial⟩ rfl (.cons _ (sub_skip hs185 (.refl _))) ⟨rfl, rfl⟩
   ·
    rw [if_pos (notF hc191)] at hm
    refine c_sr ?_
    refine t_mv rfl rfl ?_
    refine t_st rfl (st_len rfl sl37) ?_
    refine t_st rfl (st_gtr rfl rfl) ?_
    refine t_as rfl rfl ?_
    refine t_ne ?_
    refine c_cond _ rfl (fun hc192 => ?_) (fun hc192 => ?_)
    ·
     rw [if_pos (of_decide_eq_true hc192)] at hm
     refine c_sr ?_
     refine t_as rfl rfl ?_
     refine t_ne ?_
     refine c_ret ?_
     refine x_block_ret ?_
     refine x_then_ret ?_
     obtain rfl := some1 hm
     exact retM (rs := [.tmp 6]) [.int .i64 (4)] hle182 (by decide) rfl ⟨rfl, trivial⟩ rfl (.cons _ (sub_skip hs185 (.refl _))) ⟨rfl, rfl⟩
    ·
     rw [if_neg (of_decide_eq_false hc192)] at hm
     refine c_sr ?_
     refine t_mv rfl rfl ?_
     refine t_st rfl (st_len rfl sl37) ?_
     refine t_st rfl (st_eql rfl rfl) ?_
     refine t_as rfl rfl ?_
     refine t_ne ?_
     refine c_cond _ rfl (fun hc193 => ?_) (fun hc193 => ?_)
     ·
      rw [if_pos (of_decide_eq_true hc193)] at hm
      refine c_sr ?_
      refine t_as rfl rfl ?_
      refine t_ne ?_
      refine c_ret ?_
      refine x_block_ret ?_
      refine x_then_ret ?_
      obtain rfl := some1 hm
      exact retM (rs := [.tmp 6]) [.int .i64 (1)] hle182 (by decide) rfl ⟨rfl, trivial⟩ rfl (.cons _ (sub_skip hs185 (.refl _))) ⟨rfl, rfl⟩
     ·
      rw [if_neg (of_decide_eq_false hc193)] at hm
      refine c_skip ?_
      refine x_block_normal ?_
      refine x_then_normal ?_
      refine c_sr ?_
      refine t_st rfl (st_loadD (vs := [_, _, _, _, _]) 0 5 rfl agg28 rfl rfl rfl) ?_
      refine t_mv rfl rfl ?_
      refine t_mv rfl rfl ?_
      refine t_frz [_] hs185 R rfl ?_
      intro b194 hle195 hz196
      have h197 := OS.frz (l := l179) h186 hle195.cells hz196
      obtain ⟨⟨l198, l199, l200, l201, l202, x203, l204, l205⟩, hcl206, hm⟩ := bindS hm
      have hm := (unc8E hm)
      refine t_callG _ rfl call20 rfl (cLineOpen _ _ s1 x17 l179 A2 c3 A5 c6 A8 c9 A11 c12 A14 c15 A183 c184 (h4.le (hle182.trans hle195)) (h7.le (hle182.trans hle195)) (h10.le (hle182.trans hle195)) (h13.le (hle182.trans hle195)) (h16.le (hle182.trans hle195)) h197 l198 l199 l200 l201 l202 x203 l204 l205 hcl206) ?_
      rintro _ b207 _ hle208 ⟨g209, A210, c211, A212, c213, A214, c215, A216, c217, A218, c219, A220, c221, A222, c223, hs224, rfl, rfl, h225, h226, h227, h228, h229, h230, h231⟩
      refine t_in1 [_] [_] hs224 R rfl ?_
      refine t_as rfl rfl ?_
      refine t_ne ?_
      refine c_seq ?_
      refine c_sr ?_
      refine t_mv rfl rfl ?_
      refine t_st rfl (st_len rfl sl37) ?_
      refine t_mv rfl rfl ?_
      refine t_ne ?_
      refine c_block ?_
      have hb233 : l21.length ≤ 9223372036854775807 := (FZ.bd (h20.le (hle182.trans (hle195.trans hle208))))
      refine c_pullb 1 rfl ?_
      obtain ⟨t267, hl268, hk269⟩ := bindS hm
      refine c_forM (fun k266 => fun _ => fun b264 e' hp' => [(2, .slice A18 (l21).length c19), (3, .pointer (some ⟨g177, 0, none⟩)), (9, .pointer (some ⟨g209, 0, none⟩)), (38, .slice A18 (l21).length c19), (39, .int .i64 ((l21.length : Int))), (40, .int .i64 ((k266 : Int)))] = e' ∧ (g177, Cl 28 [.slice A2 (s1.Stations).length c3, .slice A5 (s1.Sections).length c6, .slice A8 (s1.Links).length c9, .slice A11 (s1.Signals).length c12, .slice A14 (s1.Gates).length c15]) :: (g209, Cl 94 [.slice A210 (l198).length c211, .slice A212 (l199).length c213, .slice A214 (l200).length c215, .slice A216 (l201).length c217, .slice A218 (l202).length c219, .int .i64 (x203), .slice A220 (l204).length c221, .slice A222 (l205).length c223]) :: (hs224 ++ R) = hp' ∧ b207.Le b264) hl268 (e' := [(2, .slice A18 (l21).length c19), (3, .pointer (some ⟨g177, 0, none⟩)), (9, .pointer (some ⟨g209, 0, none⟩)), (38, .slice A18 (l21).length c19), (39, .int .i64 ((l21.length : Int))), (40, .int .i64 0)]) ⟨rfl, rfl, rfl, rfl, rfl, rfl, trivial⟩ (.refl _) ⟨rfl, rfl, (Base.Le.refl _)⟩ ?_ ?_
      ·
       rintro k266 _ b264 _ _ oL232 hknL232 ⟨rfl, rfl, hle265⟩ hstepL232 houtL232
       unfold mLineCheckLeg_L232 at hstepL232
       have hm := hstepL232
       refine c_sr ?_
       refine t_st rfl (st_lss_t rfl rfl (by omega)) ?_
       refine t_ne ?_
       refine c_seq ?_
       refine c_cond_t rfl ?_
       refine c_skip ?_
       refine x_then_normal ?_
       refine c_seq ?_
       refine c_block ?_
       refine c_sr ?_
       refine t_mv rfl rfl ?_
       obtain ⟨x270, h271, hm⟩ := bindS hm
       obtain ⟨j272, hj273, hx274⟩ := idx_some h271
       obtain ⟨cs275, hr276, hcs277, hA278, hlt279⟩ := FZ.get (sz := 1) rfl (by decide) (h20.le (hle182.trans (hle195.trans (hle208.trans hle265)))) hx274
       obtain rfl := hr276
       refine t_st rfl (st_index_old j272 rfl rfl hj273 hlt279 hA278 sl37) ?_
       refine t_st rfl (st_load_old rfl one3 (hcs277 0 _ rfl)) ?_
       refine t_as rfl rfl ?_
       refine t_as rfl rfl ?_
       refine t_ne ?_
       refine c_sr ?_
       refine t_mv rfl rfl ?_
       refine t_mv rfl rfl ?_
       refine t_mv rfl rfl ?_
       obtain ⟨l280, h281, hm⟩ := bindS hm
       obtain ⟨j282, j283, hj284, hj285, hj286, hj287, hx288⟩ := cutS_some h281
       have h289 := FZ.sub (sz := 1) rfl (h20.le (hle182.trans (hle195.trans (hle208.trans hle265)))) hj286 hj287
       have h290 := (h20.le (hle182.trans (hle195.trans (hle208.trans hle265)))).1.1
       rw [← hx288] at h289
       refine t_st rfl (hx288 ▸ st_part (l := l21) j282 j283 rfl (.inl ⟨rfl, by omega⟩) (.inr ⟨_, _, _, rfl, rfl, hj285⟩) hj286 hj287 h290 sl37) ?_
       refine t_mv rfl rfl ?_
       obtain ⟨x295, hcl296, hm⟩ := bindS hm
       refine t_pullb 1 rfl ?_
       refine t_out1 [_] [_] hs224 R rfl ?_
       refine t_callG _ rfl call22 rfl (cLineLegsAdd _ _ l280 x270 l198 l199 l200 l201 l202 x203 l204 l205 g209 (subA A18 c19 j282 1) (c19 - j282) A210 c211 A212 c213 A214 c215 A216 c217 A218 c219 A220 c221 A222 c223 hs224 h289 (h225.le hle265) (h226.le hle265) (h227.le hle265) (h228.le hle265) (h229.le hle265) (h230.le hle265) (h231.le hle265) x295 hcl296) ?_
       rintro _ b297 _ hle298 ⟨rfl, rfl⟩
       refine t_in1 [_] [_] hs224 R rfl ?_
       refine t_as rfl rfl ?_
       refine t_ne ?_
       refine c_sr ?_
       refine t_mv rfl rfl ?_
       refine t_st rfl (st_neq rfl rfl) ?_
       refine t_ne ?_
       refine c_cond _ rfl (fun hc299 => ?_) (fun hc299 => ?_)
       ·
        rw [if_pos (of_decide_eq_true hc299)] at hm
        refine c_sr ?_
        refine t_mv rfl rfl ?_
        refine t_as rfl rfl ?_
        refine t_ne ?_
        refine c_ret ?_
        refine x_block_ret ?_
        refine x_then_ret ?_
        refine x_then_ret ?_
        refine x_block_ret ?_
        refine x_then_ret ?_
        have hq300 := houtL232 _ (Option.some.inj hm).symm
        rw [hq300] at hk269
        have hm := elimR hk269
        obtain rfl := some1 hm
        exact retM (rs := [.tmp 6]) [.int .i64 (x295)] (hle182.trans (hle195.trans (hle208.trans (hle265.trans hle298)))) (by decide) rfl ⟨rfl, trivial⟩ rfl (.cons _ (.cons _ (sub_skip hs224 (.refl _)))) ⟨rfl, rfl⟩
       ·
        rw [if_neg (of_decide_eq_false hc299)] at hm
        refine c_skip ?_
        refine x_block_normal ?_
        refine x_then_normal ?_
        refine c_region ?_
        refine t_st rfl (st_add rfl rfl (by omega)) ?_
        refine t_mv rfl rfl ?_
        refine t_nil ?_
        refine x_pullb 1 rfl ?_
        exact x_againM () (Option.some.inj hm).symm (e' := [(2, .slice A18 (l21).length c19), (3, .pointer (some ⟨g177, 0, none⟩)), (9, .pointer (some ⟨g209, 0, none⟩)), (38, .slice A18 (l21).length c19), (39, .int .i64 ((l21.length : Int))), (40, .int .i64 ((k266 : Int) + 1))]) ⟨rfl, rfl, rfl, rfl, rfl, rfl, trivial⟩ (.refl _) ⟨rfl, rfl, ((hle265.trans hle298))⟩
      ·
       rintro _ b264 _ _ ⟨rfl, rfl, hle265⟩ hq301
       rw [hq301] at hk269
       have hm := elimL hk269
       refine c_sr ?_
       refine t_st rfl (st_lss_f rfl rfl (by omega)) ?_
       refine t_ne ?_
       refine c_seq ?_
       refine c_cond_f rfl ?_
       refine c_exit ?_
       refine x_then_exit ?_
       refine x_then_exit ?_
       refine x_block_out ?_
       refine x_then_normal ?_
       refine c_seq ?_
       obtain ⟨x316, hj317, hk317⟩ := bindS hm
       refine c_join (fun b314 e' hp' => [(60, .bool (x316))] = e' ∧ R = hp' ∧ b264.Le b314) ?_ ?_
       ·
        have hm := hj317
        obtain ⟨x324, hcl325, hm⟩ := bindS hm
        obtain ⟨x328, hcl329, hm⟩ := bindS hm
        refine D_drawI mixed (.cons_cons _ (.cons _ (sub_skip hs224 (.refl _)))) ?_
        refine E_st 0 rfl (st_loadD (vs := [_, _, _, _, _]) 0 5 rfl agg28 rfl rfl rfl) ?_
        refine E_st 1 rfl (st_move rfl) ?_
        refine E_st 2 rfl (st_move rfl) ?_
        refine E_out ?_
        refine d_pullb 1 rfl ?_
        refine d_out1 [_] [_] hs224 R rfl ?_
        refine D_all [3] (by kernel_rfl) rfl ?_
        refine R_callGl (Base.Le.refl _) rfl rfl _ call24 rfl (cLineLegsLast_2 _ _ l21 l198 l199 l200 l201 l202 x203 l204 l205 g209 A18 c19 A210 c211 A212 c213 A214 c215 A216 c217 A218 c219 A220 c221 A222 c223 hs224 (h20.le (hle182.trans (hle195.trans (hle208.trans hle265)))) (h225.le hle265) (h226.le hle265) (h227.le hle265) (h228.le hle265) (h229.le hle265) (h230.le hle265) (h231.le hle265) x324 hcl325) ?_ ?_
        ·
         rintro _ b326 _ hle327 ⟨rfl, rfl⟩
         refine ⟨.inr (.cons _ (sub_skip hs224 (.refl _))), ?_⟩
         refine d_in1 [_] [_] hs224 R rfl ?_
         refine D_all [4] (by kernel_rfl) rfl ?_
         refine R_do hle327 rfl rfl (u_callW0 _ call18 rfl (fun w ho => cLinePlatform _ [] s1 x324 A2 c3 A5 c6 A8 c9 A11 c12 A14 c15 ((h4.le (hle182.trans (hle195.trans (hle208.trans (hle265.trans hle327))))).old ho) ((h7.le (hle182.trans (hle195.trans (hle208.trans (hle265.trans hle327))))).old ho) ((h10.le (hle182.trans (hle195.trans (hle208.trans (hle265.trans hle327))))).old ho) ((h13.le (hle182.trans (hle195.trans (hle208.trans (hle265.trans hle327))))).old ho) ((h16.le (hle182.trans (hle195.trans (hle208.trans (hle265.trans hle327))))).old ho) x328 hcl329) (fun _ _ _ h => h.2.symm)) ?_ ?_
         ·
          rintro _ _ ⟨⟨_, rfl, _⟩, rfl⟩
          refine ⟨.inr (.cons _ (.cons_cons _ (sub_skip hs224 (.refl _)))), ?_⟩
          refine D_st hle327 5 rfl (by kernel_rfl) (by kernel_rfl) (by kernel_rfl) rfl (st_not rfl) (.cons _ (.cons_cons _ (sub_skip hs224 (.refl _)))) ?_
          refine D_done (by kernel_rfl) ?_
          obtain rfl := some1 hm
          exact x_join (e' := [(60, .bool (!x328))]) ⟨rfl, trivial⟩ (.cons _ (.cons _ (sub_skip hs224 (.refl _)))) ⟨rfl, rfl, hle327⟩
         exact R_nil
        exact R_nil
       ·
        rintro b314 _ _ ⟨rfl, rfl, hle315⟩
        have hm := hk317
        refine c_cond _ rfl (fun hc330 => ?_) (fun hc330 => ?_)
        ·
         rw [if_pos hc330] at hm
         refine c_sr ?_
         refine t_as rfl rfl ?_
         refine t_ne ?_
         refine c_ret ?_
         refine x_then_ret ?_
         obtain rfl := some1 hm
         exact retM (rs := [.tmp 6]) [.int .i64 (5)] (hle182.trans (hle195.trans (hle208.trans (hle265.trans hle315)))) (by decide) rfl ⟨rfl, trivial⟩ rfl (.refl _) ⟨rfl, rfl⟩
        ·
         rw [if_neg (fun hh => Bool.noConfusion (hh.symm.trans hc330))] at hm
         refine c_skip ?_
         refine x_then_normal ?_
         refine c_sr ?_
         refine t_as rfl rfl ?_
         refine t_ne ?_
         refine c_ret ?_
         obtain rfl := some1 hm
         exact retM (rs := [.tmp 6]) [.int .i64 (0)] (hle182.trans (hle195.trans (hle208.trans (hle265.trans hle315)))) (by decide) rfl ⟨rfl, trivial⟩ rfl (.refl _) ⟨rfl, rfl⟩

set_option maxRecDepth 20000 in
theorem cSlicesCompare (b : Base) (R : Hp) (l4 : (List Int)) (l8 : (List Int)) (A1 : Option Addr) (c2 : Nat) (A5 : Option Addr) (c6 : Nat) (h3 : FZ (RT.int .i64) b.w A1 c2 l4) (h7 : FZ (RT.int .i64) b.w A5 c6 l8) (x69 : Int) (hm : mSlicesCompare l4 l8 = some x69) :
    CallsG Tryz.prog 12 [.slice A1 (l4).length c2, .slice A5 (l8).length c6] b (R) (fun v b' hp' => .int .i64 (x69) = v ∧ R = hp') := by
  refine fn_enterG 36 Tryz.func12 rfl Tryz.ntmps12 rfl ?_
  unfold mSlicesCompare at hm
  refine c_sr ?_
  refine t_as rfl rfl ?_
  refine t_ne ?_
  refine c_seq ?_
  refine c_sr ?_
  refine t_mv rfl rfl ?_
  refine t_st rfl (st_len rfl sl37) ?_
  refine t_mv rfl rfl ?_
  refine t_ne ?_
  refine c_block ?_
  have hb71 : l4.length ≤ 9223372036854775807 := (FZ.bd h3)
  obtain ⟨t99, hl100, hk101⟩ := bindS hm
  refine c_forM (fun k98 => fun _ => fun b96 e' hp' => [(0, .slice A1 (l4).length c2), (1, .slice A5 (l8).length c6), (9, .slice A1 (l4).length c2), (10, .int .i64 ((l4.length : Int))), (11, .int .i64 ((k98 : Int)))] = e' ∧ R = hp' ∧ b.Le b96) hl100 (e' := [(0, .slice A1 (l4).length c2), (1, .slice A5 (l8).length c6), (9, .slice A1 (l4).length c2), (10, .int .i64 ((l4.length : Int))), (11, .int .i64 0)]) ⟨rfl, rfl, rfl, rfl, rfl, trivial⟩ (.refl _) ⟨rfl, rfl, (Base.Le.refl _)⟩ ?_ ?_
  ·
   rintro k98 _ b96 _ _ oL70 hknL70 ⟨rfl, rfl, hle97⟩ hstepL70 houtL70
   unfold mSlicesCompare_L70 at hstepL70
   have hm := hstepL70
   refine c_sr ?_
   refine t_st rfl (st_lss_t rfl rfl (by omega)) ?_
   refine t_ne ?_
   refine c_seq ?_
   refine c_cond_t rfl ?_
   refine c_skip ?_
   refine x_then_normal ?_
   refine c_seq ?_
   refine c_block ?_
   refine c_sr ?_
   refine t_mv rfl rfl ?_
   obtain ⟨x102, h103, hm⟩ := bindS hm
   obtain ⟨j104, hj105, hx106⟩ := idx_some h103
   obtain ⟨cs107, hr108, hcs109, hA110, hlt111⟩ := FZ.get (sz := 1) rfl (by decide) (h3.le hle97) hx106
   obtain rfl := hr108
   refine t_st rfl (st_index_old j104 rfl rfl hj105 hlt111 hA110 sl37) ?_
   refine t_st rfl (st_load_old rfl one3 (hcs109 0 _ rfl)) ?_
   refine t_as rfl rfl ?_
   refine t_as rfl rfl ?_
   refine t_ne ?_
   refine c_seq ?_
   refine c_sr ?_
   refine t_mv rfl rfl ?_
   refine t_mv rfl rfl ?_
   refine t_st rfl (st_len rfl sl37) ?_
   refine t_st rfl (st_geq rfl rfl) ?_
   refine t_ne ?_
   refine c_cond _ rfl (fun hc112 => ?_) (fun hc112 => ?_)
   ·
    rw [if_pos (of_decide_eq_true hc112)] at hm
    refine c_sr ?_
    refine t_as rfl rfl ?_
    refine t_ne ?_
    refine c_ret ?_
    refine x_then_ret ?_
    refine x_block_ret ?_
    refine x_then_ret ?_
    refine x_then_ret ?_
    refine x_block_ret ?_
    refine x_then_ret ?_
    have hq113 := houtL70 _ (Option.some.inj hm).symm
    rw [hq113] at hk101
    have hm := elimR hk101
    obtain rfl := some1 hm
    exact retM (rs := [.tmp 4]) [.int .i64 (1)] hle97 (by decide) rfl ⟨rfl, trivial⟩ rfl (.refl _) ⟨rfl, rfl⟩
   ·
    rw [if_neg (of_decide_eq_false hc112)] at hm
    refine c_skip ?_
    refine x_then_normal ?_
    refine c_sr ?_
    refine t_mv rfl rfl ?_
    refine t_mv rfl rfl ?_
    obtain ⟨x114, h115, hm⟩ := bindS hm
    obtain ⟨j116, hj117, hx118⟩ := idx_some h115
    obtain ⟨cs119, hr120, hcs121, hA122, hlt123⟩ := FZ.get (sz := 1) rfl (by decide) (h7.le hle97) hx118
    obtain rfl := hr120
    refine t_st rfl (st_index_old j116 rfl rfl hj117 hlt123 hA122 sl37) ?_
    refine t_st rfl (st_load_old rfl one3 (hcs121 0 _ rfl)) ?_
    refine t_as rfl rfl ?_
    refine t_ne ?_
    refine c_sr ?_
    refine t_mv rfl rfl ?_
    refine t_mv rfl rfl ?_
    obtain ⟨x124, hcl125, hm⟩ := bindS hm
    refine t_do rfl (u_callW0 _ call27 rfl (fun w ho => cCmpCompare _ [] x102 x114 x124 hcl125) (fun _ _ _ h => h.2.symm)) ?_
    rintro _ _ ⟨⟨_, rfl, _⟩, rfl⟩
    refine t_as rfl rfl ?_
    refine t_ne ?_
    refine c_sr ?_
    refine t_mv rfl rfl ?_
    refine t_st rfl (st_neq rfl rfl) ?_
    refine t_ne ?_
    refine c_cond _ rfl (fun hc126 => ?_) (fun hc126 => ?_)
    ·
     rw [if_pos (of_decide_eq_true hc126)] at hm
     refine c_sr ?_
     refine t_mv rfl rfl ?_
     refine t_as rfl rfl ?_
     refine t_ne ?_
     refine c_ret ?_
     refine x_block_ret ?_
     refine x_then_ret ?_
     refine x_then_ret ?_
     refine x_block_ret ?_
     refine x_then_ret ?_
     have hq127 := houtL70 _ (Option.some.inj hm).symm
     rw [hq127] at hk101
     have hm := elimR hk101
     obtain rfl := some1 hm
     exact retM (rs := [.tmp 4]) [.int .i64 (x124)] hle97 (by decide) rfl ⟨rfl, trivial⟩ rfl (.refl _) ⟨rfl, rfl⟩
    ·
     rw [if_neg (of_decide_eq_false hc126)] at hm
     refine c_skip ?_
     refine x_block_normal ?_
     refine x_then_normal ?_
     refine c_region ?_
     refine t_st rfl (st_add rfl rfl (by omega)) ?_
     refine t_mv rfl rfl ?_
     refine t_nil ?_
     exact x_againM () (Option.some.inj hm).symm (e' := [(0, .slice A1 (l4).length c2), (1, .slice A5 (l8).length c6), (9, .slice A1 (l4).length c2), (10, .int .i64 ((l4.length : Int))), (11, .int .i64 ((k98 : Int) + 1))]) ⟨rfl, rfl, rfl, rfl, rfl, trivial⟩ (.refl _) ⟨rfl, rfl, (hle97)⟩
  ·
   rintro _ b96 _ _ ⟨rfl, rfl, hle97⟩ hq128
   rw [hq128] at hk101
   have hm := elimL hk101
   refine c_sr ?_
   refine t_st rfl (st_lss_f rfl rfl (by omega)) ?_
   refine t_ne ?_
   refine c_seq ?_
   refine c_cond_f rfl ?_
   refine c_exit ?_
   refine x_then_exit ?_
   refine x_then_exit ?_
   refine x_block_out ?_
   refine x_then_normal ?_
   refine c_seq ?_
   refine c_sr ?_
   refine t_mv rfl rfl ?_
   refine t_st rfl (st_len rfl sl37) ?_
   refine t_mv rfl rfl ?_
   refine t_st rfl (st_len rfl sl37) ?_
   refine t_st rfl (st_lss rfl rfl) ?_
   refine t_ne ?_
   refine c_cond _ rfl (fun hc129 => ?_) (fun hc129 => ?_)
   ·
    rw [if_pos (of_decide_eq_true hc129)] at hm
    refine c_sr ?_
    refine t_as rfl rfl ?_
    refine t_ne ?_
    refine c_ret ?_
    refine x_then_ret ?_
    obtain rfl := some1 hm
    exact retM (rs := [.tmp 4]) [.int .i64 ((-1))] hle97 (by decide) rfl ⟨rfl, trivial⟩ rfl (.refl _) ⟨rfl, rfl⟩
   ·
    rw [if_neg (of_decide_eq_false hc129)] at hm
    refine c_skip ?_
    refine x_then_normal ?_
    refine c_sr ?_
    refine t_as rfl rfl ?_
    refine t_ne ?_
    refine c_ret ?_
    obtain rfl := some1 hm
    exact retM (rs := [.tmp 4]) [.int .i64 (0)] hle97 (by decide) rfl ⟨rfl, trivial⟩ rfl (.refl _) ⟨rfl, rfl⟩

set_option maxRecDepth 20000 in
theorem cFishkeep1LineGoes (b : Base) (R : Hp) (s1 : ApiNet) (x17 : Int) (x18 : Int) (x19 : Int) (A2 : Option Addr) (c3 : Nat) (A5 : Option Addr) (c6 : Nat) (A8 : Option Addr) (c9 : Nat) (A11 : Option Addr) (c12 : Nat) (A14 : Option Addr) (c15 : Nat) (h4 : FZ RT.str b.w A2 c3 s1.Stations) (h7 : FZ rApiSection b.w A5 c6 s1.Sections) (h10 : FZ rApiLink b.w A8 c9 s1.Links) (h13 : FZ rApiSignal b.w A11 c12 s1.Signals) (h16 : FZ rApiGate b.w A14 c15 s1.Gates) (x291 : Bool) (hm : mFishkeep1LineGoes s1 x17 x18 x19 = some x291) :
    CallsG Tryz.prog 4 [.agg #[.slice A2 (s1.Stations).length c3, .slice A5 (s1.Sections).length c6, .slice A8 (s1.Links).length c9, .slice A11 (s1.Signals).length c12, .slice A14 (s1.Gates).length c15], .int .i64 (x17), .int .i64 (x18), .int .i64 (x19)] b (R) (fun v b' hp' => .bool (x291) = v ∧ R = hp') := by
  refine fn_enterG 86 Tryz.func4 rfl Tryz.ntmps4 rfl ?_
  unfold mFishkeep1LineGoes at hm
  refine c_sr ?_
  refine t_do rfl (u_box _ rfl rfl) ?_
  rintro _ _ ⟨g292, rfl, rfl⟩
  refine t_as rfl rfl ?_
  refine t_ne ?_
  refine c_seq ?_
  refine c_sr ?_
  obtain ⟨x293, hcl294, hm⟩ := bindS hm
  refine t_do rfl (u_callW0 _ call5 rfl (fun w ho => cFishkeep1AwakeLine _ [] x293 hcl294) (fun _ _ _ h => h.2.symm)) ?_
  rintro _ _ ⟨⟨_, rfl, _⟩, rfl⟩
  refine t_st rfl (st_not rfl) ?_
  refine t_ne ?_
  refine c_cond _ rfl (fun hc295 => ?_) (fun hc295 => ?_)
  ·
   rw [if_neg (fun hh => Bool.noConfusion (hh.symm.trans (notT hc295)))] at hm
   refine c_sr ?_
   refine t_as rfl rfl ?_
   refine t_ne ?_
   refine c_ret ?_
   refine x_then_ret ?_
   obtain rfl := some1 hm
   exact retM (rs := [.tmp 8]) [.bool (false)] (Base.Le.refl _) (by decide) rfl ⟨rfl, trivial⟩ rfl (.cons _ (.refl _)) ⟨rfl, rfl⟩
  ·
   rw [if_pos (notF hc295)] at hm
   refine c_skip ?_
   refine x_then_normal ?_
   refine c_sr ?_
   refine t_st rfl (st_loadD (vs := [_, _, _, _, _]) 0 5 rfl agg28 rfl rfl rfl) ?_
   refine t_mv rfl rfl ?_
   refine t_mv rfl rfl ?_
   refine t_mv rfl rfl ?_
   obtain ⟨⟨x296, l297⟩, hcl298, hm⟩ := bindS hm
   have hm := (unc2E hm)
   refine t_callG _ rfl call9 rfl (cLineChains _ _ s1 x17 x18 x19 A2 c3 A5 c6 A8 c9 A11 c12 A14 c15 h4 h7 h10 h13 h16 x296 l297 hcl298) ?_
   rintro _ b299 _ hle300 ⟨A301, c302, hs303, rfl, rfl, h304⟩
   refine t_in1 [] [_] hs303 R rfl ?_
   refine t_mv rfl rfl ?_
   refine t_st rfl (st_extract rfl rfl) ?_
   refine t_st rfl (st_extract rfl rfl) ?_
   refine t_as rfl rfl ?_
   refine t_as rfl rfl ?_
   refine t_ne ?_
   refine c_seq ?_
   refine c_sr ?_
   refine t_mv rfl rfl ?_
   refine t_st rfl (st_neq rfl rfl) ?_
   refine t_ne ?_
   refine c_cond _ rfl (fun hc305 => ?_) (fun hc305 => ?_)
   ·
    rw [if_pos (of_decide_eq_true hc305)] at hm
    refine c_sr ?_
    refine t_mv rfl rfl ?_
    refine t_st rfl (st_len rfl sl44) ?_
    refine t_st rfl (st_eql rfl rfl) ?_
    refine t_as rfl rfl ?_
    refine t_ne ?_
    refine c_ret ?_
    refine x_then_ret ?_
    obtain rfl := some1 hm
    exact retM (rs := [.tmp 8]) [.bool (decide ((l297.length : Int) = 0))] hle300 (by decide) rfl ⟨rfl, trivial⟩ rfl (.cons _ (sub_skip hs303 (.refl _))) ⟨rfl, rfl⟩
   ·
    rw [if_neg (of_decide_eq_false hc305)] at hm
    refine c_skip ?_
    refine x_then_normal ?_
    refine c_sr ?_
    refine t_st rfl (st_loadD (vs := [_, _, _, _, _]) 0 5 rfl agg28 rfl rfl rfl) ?_
    obtain ⟨⟨x306, l307⟩, hcl308, hm⟩ := bindS hm
    have hm := (unc2E hm)
    refine t_callG _ rfl call10 rfl (cLineRoutes _ _ s1 A2 c3 A5 c6 A8 c9 A11 c12 A14 c15 (h4.le hle300) (h7.le hle300) (h10.le hle300) (h13.le hle300) (h16.le hle300) x306 l307 hcl308) ?_
    rintro _ b309 _ hle310 ⟨A311, c312, hs313, rfl, rfl, h314, h315⟩
    refine t_in1 [] [_] hs313 (hs303 ++ R) rfl ?_
    refine t_mv rfl rfl ?_
    refine t_st rfl (st_extract rfl rfl) ?_
    refine t_st rfl (st_extract rfl rfl) ?_
    refine t_as rfl rfl ?_
    refine t_as rfl rfl ?_
    refine t_ne ?_
    refine c_seq ?_
    refine c_sr ?_
    refine t_mv rfl rfl ?_
    refine t_st rfl (st_len rfl sl44) ?_
    refine t_mv rfl rfl ?_
    refine t_ne ?_
    refine c_block ?_
    have hb317 : l297.length ≤ 9223372036854775807 := (OS.len h304)
    refine c_front2 [_] hs313 hs303 R rfl ?_
    obtain ⟨t439, hl440, hk441⟩ := bindS hm
    refine c_forM (fun k438 => fun _ => fun b436 e' hp' => [(1, .int .i64 (x17)), (2, .int .i64 (x18)), (3, .int .i64 (x19)), (4, .pointer (some ⟨g292, 0, none⟩)), (9, .slice A301 (l297).length c302), (11, .slice A311 (l307).length c312), (36, .slice A301 (l297).length c302), (37, .int .i64 ((l297.length : Int))), (38, .int .i64 ((k438 : Int)))] = e' ∧ (g292, Cl 28 [.slice A2 (s1.Stations).length c3, .slice A5 (s1.Sections).length c6, .slice A8 (s1.Links).length c9, .slice A11 (s1.Signals).length c12, .slice A14 (s1.Gates).length c15]) :: (hs303 ++ (hs313 ++ R)) = hp' ∧ b309.Le b436) hl440 (e' := [(1, .int .i64 (x17)), (2, .int .i64 (x18)), (3, .int .i64 (x19)), (4, .pointer (some ⟨g292, 0, none⟩)), (9, .slice A301 (l297).length c302), (11, .slice A311 (l307).length c312), (36, .slice A301 (l297).length c302), (37, .int .i64 ((l297.length : Int))), (38, .int .i64 0)]) ⟨rfl, rfl, rfl, rfl, rfl, rfl, rfl, rfl, rfl, trivial⟩ (.refl _) ⟨rfl, rfl, (Base.Le.refl _)⟩ ?_ ?_
    ·
     rintro k438 _ b436 _ _ oL316 hknL316 ⟨rfl, rfl, hle437⟩ hstepL316 houtL316
     unfold mFishkeep1LineGoes_L316 at hstepL316
     have hm := hstepL316
     refine c_sr ?_
     refine t_st rfl (st_lss_t rfl rfl (by omega)) ?_
     refine t_ne ?_
     refine c_seq ?_
     refine c_cond_t rfl ?_
     refine c_skip ?_
     refine x_then_normal ?_
     refine c_seq ?_
     refine c_block ?_
     refine c_sr ?_
     refine t_mv rfl rfl ?_
     obtain ⟨x442, h443, hm⟩ := bindS hm
     obtain ⟨j444, hj445, hx446⟩ := idx_some h443
     obtain ⟨cs447, hs452, P453, P454, hq455, hr448, hcs449, hA450, hlt451, hb456, hho457⟩ := OS.get (sz := 1) rfl (by decide) (h304.le (hle310.trans hle437)) hx446
     obtain ⟨⟨A458, c459, rfl, h460⟩, rfl⟩ := hr448
     refine t_st rfl (st_index_old j444 rfl rfl hj445 hlt451 hA450 sl44) ?_
     refine t_st rfl (st_load_rd rfl one37 (fun w ho => hcs449 w _ ho (.cons _ (List.sublist_append_left _ _)) 0 _ rfl)) ?_
     refine t_as rfl rfl ?_
     refine t_as rfl rfl ?_
     refine t_ne ?_
     refine c_seq ?_
     obtain ⟨x489, hj490, hk490⟩ := bindS hm
     refine c_join (fun b487 e' hp' => [(1, .int .i64 (x17)), (2, .int .i64 (x18)), (3, .int .i64 (x19)), (4, .pointer (some ⟨g292, 0, none⟩)), (9, .slice A301 (l297).length c302), (11, .slice A311 (l307).length c312), (14, .slice A458 (x442).length c459), (36, .slice A301 (l297).length c302), (37, .int .i64 ((l297.length : Int))), (38, .int .i64 ((k438 : Int))), (61, .bool (x489))] = e' ∧ (g292, Cl 28 [.slice A2 (s1.Stations).length c3, .slice A5 (s1.Sections).length c6, .slice A8 (s1.Links).length c9, .slice A11 (s1.Signals).length c12, .slice A14 (s1.Gates).length c15]) :: (hs303 ++ (hs313 ++ R)) = hp' ∧ b436.Le b487) ?_ ?_
     ·
      have hm := hj490
      refine c_region ?_
      refine t_st rfl (st_loadD (vs := [_, _, _, _, _]) 0 5 rfl agg28 rfl rfl rfl) ?_
      refine t_mv rfl rfl ?_
      refine t_mv rfl rfl ?_
      obtain ⟨x491, hcl492, hm⟩ := bindS hm
      refine t_do rfl (u_callW0 _ call11 rfl (fun w ho => cLineCheckLeg _ [] s1 x17 x442 A2 c3 A5 c6 A8 c9 A11 c12 A14 c15 A458 c459 ((h4.le (hle300.trans (hle310.trans hle437))).old ho) ((h7.le (hle300.trans (hle310.trans hle437))).old ho) ((h10.le (hle300.trans (hle310.trans hle437))).old ho) ((h13.le (hle300.trans (hle310.trans hle437))).old ho) ((h16.le (hle300.trans (hle310.trans hle437))).old ho) (h460.old ho) x491 hcl492) (fun _ _ _ h => h.2.symm)) ?_
      rintro _ _ ⟨⟨_, rfl, _⟩, rfl⟩
      refine t_bool rfl (st_neq rfl rfl) (fun hc493 => ?_) (fun hc493 => ?_)
      ·
       rw [if_pos hc493] at hm
       refine t_mv rfl rfl ?_
       refine t_no 48 rfl rfl rfl rfl rfl ?_
       refine t_no 48 rfl rfl rfl rfl rfl ?_
       refine t_no 48 rfl rfl rfl rfl rfl ?_
       refine t_no 51 rfl rfl rfl rfl rfl ?_
       refine t_no 51 rfl rfl rfl rfl rfl ?_
       refine t_no 51 rfl rfl rfl rfl rfl ?_
       refine t_no 51 rfl rfl rfl rfl rfl ?_
       refine t_no 51 rfl rfl rfl rfl rfl ?_
       refine t_no 51 rfl rfl rfl rfl rfl ?_
       refine t_no 51 rfl rfl rfl rfl rfl ?_
       refine t_no 51 rfl rfl rfl rfl rfl ?_
       refine t_no 48 rfl rfl rfl rfl rfl ?_
       refine t_st rfl (st_pick_t rfl rfl) ?_
       refine t_nil ?_
       obtain rfl := some1 hm
       refine x_front2 [_] hs303 hs313 R rfl ?_
       refine x_front2 [_] hs313 hs303 R rfl ?_
       exact x_join (e' := [(1, .int .i64 (x17)), (2, .int .i64 (x18)), (3, .int .i64 (x19)), (4, .pointer (some ⟨g292, 0, none⟩)), (9, .slice A301 (l297).length c302), (11, .slice A311 (l307).length c312), (14, .slice A458 (x442).length c459), (36, .slice A301 (l297).length c302), (37, .int .i64 ((l297.length : Int))), (38, .int .i64 ((k438 : Int))), (61, .bool (true))]) ⟨rfl, rfl, rfl, rfl, rfl, rfl, rfl, rfl, rfl, rfl, rfl, trivial⟩ (.refl _) ⟨rfl, rfl, (Base.Le.refl _)⟩
      ·
       rw [if_neg hc493] at hm
       refine t_mv rfl rfl ?_
       refine t_yes 48 rfl rfl rfl ?_
       refine t_mv rfl rfl ?_
       refine t_yes 48 rfl rfl rfl ?_
       refine t_bool rfl (st_gtr rfl rfl) (fun hc494 => ?_) (fun hc494 => ?_)
       ·
        rw [if_pos hc494] at hm
        refine t_yes 48 rfl rfl rfl ?_
        refine t_mv rfl rfl ?_
        refine t_yes 51 rfl rfl rfl ?_
        refine t_mv rfl rfl ?_
        refine t_yes 51 rfl rfl rfl ?_
        refine t_mv rfl rfl ?_
        refine t_yes 51 rfl rfl rfl ?_
        obtain ⟨_, h495, hm⟩ := bindS hm
        have h495 := (chk_some h495).2
        refine t_st rfl (st_sub rfl rfl h495) ?_
        refine t_yes 51 rfl rfl rfl ?_
        obtain ⟨x496, h497, hm⟩ := bindS hm
        obtain ⟨j498, hj499, hx500⟩ := idx_some h497
        obtain ⟨cs501, hs506, P507, P508, hq509, hr502, hcs503, hA504, hlt505, hb510, hho511⟩ := OS.get (sz := 1) rfl (by decide) (h304.le (hle310.trans hle437)) hx500
        obtain ⟨⟨A512, c513, rfl, h514⟩, rfl⟩ := hr502
        refine t_st rfl (st_index_old j498 rfl rfl hj499 hlt505 hA504 sl44) ?_
        refine t_yes 51 rfl rfl rfl ?_
        refine t_st rfl (st_load_rd rfl one37 (fun w ho => hcs503 w _ ho (.cons _ (List.sublist_append_left _ _)) 0 _ rfl)) ?_
        refine t_yes 51 rfl rfl rfl ?_
        refine t_mv rfl rfl ?_
        refine t_yes 51 rfl rfl rfl ?_
        obtain ⟨x515, hcl516, hm⟩ := bindS hm
        refine t_do rfl (u_callW0 _ call12 rfl (fun w ho => cSlicesCompare _ [] x496 x442 A512 c513 A458 c459 (h514.old ho) (h460.old ho) x515 hcl516) (fun _ _ _ h => h.2.symm)) ?_
        rintro _ _ ⟨⟨_, rfl, _⟩, rfl⟩
        refine t_yes 51 rfl rfl rfl ?_
        refine t_st rfl (st_geq rfl rfl) ?_
        refine t_yes 48 rfl rfl rfl ?_
        refine t_st rfl (st_pick_t rfl rfl) ?_
        refine t_st rfl (st_pick_f rfl rfl) ?_
        refine t_nil ?_
        obtain rfl := some1 hm
        refine x_front2 [_] hs303 hs313 R rfl ?_
        refine x_front2 [_] hs313 hs303 R rfl ?_
        exact x_join (e' := [(1, .int .i64 (x17)), (2, .int .i64 (x18)), (3, .int .i64 (x19)), (4, .pointer (some ⟨g292, 0, none⟩)), (9, .slice A301 (l297).length c302), (11, .slice A311 (l307).length c312), (14, .slice A458 (x442).length c459), (36, .slice A301 (l297).length c302), (37, .int .i64 ((l297.length : Int))), (38, .int .i64 ((k438 : Int))), (61, .bool (decide (0 ≤ x515)))]) ⟨rfl, rfl, rfl, rfl, rfl, rfl, rfl, rfl, rfl, rfl, rfl, trivial⟩ (.refl _) ⟨rfl, rfl, (Base.Le.refl _)⟩
       ·
        rw [if_neg hc494] at hm
        refine t_yes 48 rfl rfl rfl ?_
        refine t_mv rfl rfl ?_
        refine t_no 51 rfl rfl rfl rfl rfl ?_
        refine t_no 51 rfl rfl rfl rfl rfl ?_
        refine t_no 51 rfl rfl rfl rfl rfl ?_
        refine t_no 51 rfl rfl rfl rfl rfl ?_
        refine t_no 51 rfl rfl rfl rfl rfl ?_
        refine t_no 51 rfl rfl rfl rfl rfl ?_
        refine t_no 51 rfl rfl rfl rfl rfl ?_
        refine t_no 51 rfl rfl rfl rfl rfl ?_
        refine t_yes 48 rfl rfl rfl ?_
        refine t_st rfl (st_pick_f rfl rfl) ?_
        refine t_st rfl (st_pick_f rfl rfl) ?_
        refine t_nil ?_
        obtain rfl := some1 hm
        refine x_front2 [_] hs303 hs313 R rfl ?_
        refine x_front2 [_] hs313 hs303 R rfl ?_
        exact x_join (e' := [(1, .int .i64 (x17)), (2, .int .i64 (x18)), (3, .int .i64 (x19)), (4, .pointer (some ⟨g292, 0, none⟩)), (9, .slice A301 (l297).length c302), (11, .slice A311 (l307).length c312), (14, .slice A458 (x442).length c459), (36, .slice A301 (l297).length c302), (37, .int .i64 ((l297.length : Int))), (38, .int .i64 ((k438 : Int))), (61, .bool (false))]) ⟨rfl, rfl, rfl, rfl, rfl, rfl, rfl, rfl, rfl, rfl, rfl, trivial⟩ (.refl _) ⟨rfl, rfl, (Base.Le.refl _)⟩
     ·
      rintro b487 _ _ ⟨rfl, rfl, hle488⟩
      have hm := hk490
      refine c_cond _ rfl (fun hc517 => ?_) (fun hc517 => ?_)
      ·
       rw [if_pos hc517] at hm
       refine c_sr ?_
       refine t_as rfl rfl ?_
       refine t_ne ?_
       refine c_ret ?_
       refine x_then_ret ?_
       refine x_block_ret ?_
       refine x_then_ret ?_
       refine x_then_ret ?_
       refine x_block_ret ?_
       refine x_then_ret ?_
       have hq518 := houtL316 _ (Option.some.inj hm).symm
       rw [hq518] at hk441
       have hm := elimR hk441
       obtain rfl := some1 hm
       exact retM (rs := [.tmp 8]) [.bool (false)] (hle300.trans (hle310.trans (hle437.trans hle488))) (by decide) rfl ⟨rfl, trivial⟩ rfl (.cons _ (sub_skip hs303 (sub_skip hs313 (.refl _)))) ⟨rfl, rfl⟩
      ·
       rw [if_neg (fun hh => Bool.noConfusion (hh.symm.trans hc517))] at hm
       refine c_skip ?_
       refine x_then_normal ?_
       refine c_sr ?_
       refine t_mv rfl rfl ?_
       refine t_mv rfl rfl ?_
       refine t_mv rfl rfl ?_
       refine t_st rfl (st_len rfl sl37) ?_
       obtain ⟨_, h519, hm⟩ := bindS hm
       have h519 := (chk_some h519).2
       refine t_st rfl (st_sub rfl rfl h519) ?_
       obtain ⟨x520, h521, hm⟩ := bindS hm
       obtain ⟨j522, hj523, hx524⟩ := idx_some h521
       obtain ⟨cs525, hr526, hcs527, hA528, hlt529⟩ := FZ.get (sz := 1) rfl (by decide) (h460.le hle488) hx524
       obtain rfl := hr526
       refine t_st rfl (st_index_old j522 rfl rfl hj523 hlt529 hA528 sl37) ?_
       refine t_st rfl (st_load_old rfl one3 (hcs527 0 _ rfl)) ?_
       obtain ⟨x530, h531, hm⟩ := bindS hm
       obtain ⟨j532, hj533, hx534⟩ := idx_some h531
       obtain ⟨cs535, hs540, P541, P542, hq543, hr536, hcs537, hA538, hlt539, hb544, hho545⟩ := OS.get (sz := 3) rfl (by decide) (h314.le (hle437.trans hle488)) hx534
       obtain ⟨⟨_, _, rfl, rfl, ⟨_, _, rfl, rfl, ⟨A546, c547, rfl, h548⟩⟩⟩, rfl⟩ := hr536
       refine t_st rfl (st_index_old j532 rfl rfl hj533 hlt539 hA538 sl47) ?_
       refine t_st rfl (st_field_old rfl hA538 fld54_2) ?_
       refine t_st rfl (st_load_rd rfl one52 (fun w ho => hcs537 w _ ho (.cons _ (sub_skip hs303 (List.sublist_append_left _ _))) 2 _ rfl)) ?_
       refine t_as rfl rfl ?_
       refine t_ne ?_
       refine c_sr ?_
       refine t_mv rfl rfl ?_
       refine t_mv rfl rfl ?_
       refine t_st rfl (st_len rfl sl52) ?_
       obtain ⟨_, h549, hm⟩ := bindS hm
       have h549 := (chk_some h549).2
       refine t_st rfl (st_sub rfl rfl h549) ?_
       obtain ⟨x550, h551, hm⟩ := bindS hm
       obtain ⟨j552, hj553, hx554⟩ := idx_some h551
       obtain ⟨cs555, hr556, hcs557, hA558, hlt559⟩ := FZ.get (sz := 3) rfl (by decide) h548 hx554
       obtain ⟨_, _, rfl, rfl, ⟨_, _, rfl, rfl, rfl⟩⟩ := hr556
       refine t_st rfl (st_index_old j552 rfl rfl hj553 hlt559 hA558 sl52) ?_
       refine t_st rfl (st_field_old rfl hA558 fld56_0) ?_
       refine t_st rfl (st_load_old rfl one3 (hcs557 0 _ rfl)) ?_
       refine t_mv rfl rfl ?_
       refine t_st rfl (st_neq rfl rfl) ?_
       refine t_ne ?_
       refine c_cond _ rfl (fun hc560 => ?_) (fun hc560 => ?_)
       ·
        rw [if_pos (of_decide_eq_true hc560)] at hm
        refine c_sr ?_
        refine t_as rfl rfl ?_
        refine t_ne ?_
        refine c_ret ?_
        refine x_block_ret ?_
        refine x_then_ret ?_
        refine x_then_ret ?_
        refine x_block_ret ?_
        refine x_then_ret ?_
        have hq561 := houtL316 _ (Option.some.inj hm).symm
        rw [hq561] at hk441
        have hm := elimR hk441
        obtain rfl := some1 hm
        exact retM (rs := [.tmp 8]) [.bool (false)] (hle300.trans (hle310.trans (hle437.trans hle488))) (by decide) rfl ⟨rfl, trivial⟩ rfl (.cons _ (sub_skip hs303 (sub_skip hs313 (.refl _)))) ⟨rfl, rfl⟩
       ·
        rw [if_neg (of_decide_eq_false hc560)] at hm
        refine c_skip ?_
        refine x_block_normal ?_
        refine x_then_normal ?_
        refine c_region ?_
        refine t_st rfl (st_add rfl rfl (by omega)) ?_
        refine t_mv rfl rfl ?_
        refine t_nil ?_
        refine x_front2 [_] hs303 hs313 R rfl ?_
        refine x_front2 [_] hs313 hs303 R rfl ?_
        exact x_againM () (Option.some.inj hm).symm (e' := [(1, .int .i64 (x17)), (2, .int .i64 (x18)), (3, .int .i64 (x19)), (4, .pointer (some ⟨g292, 0, none⟩)), (9, .slice A301 (l297).length c302), (11, .slice A311 (l307).length c312), (36, .slice A301 (l297).length c302), (37, .int .i64 ((l297.length : Int))), (38, .int .i64 ((k438 : Int) + 1))]) ⟨rfl, rfl, rfl, rfl, rfl, rfl, rfl, rfl, rfl, trivial⟩ (.refl _) ⟨rfl, rfl, ((hle437.trans hle488))⟩
    ·
     rintro _ b436 _ _ ⟨rfl, rfl, hle437⟩ hq562
     rw [hq562] at hk441
     have hm := elimL hk441
     refine c_sr ?_
     refine t_st rfl (st_lss_f rfl rfl (by omega)) ?_
     refine t_ne ?_
     refine c_seq ?_
     refine c_cond_f rfl ?_
     refine c_exit ?_
     refine x_then_exit ?_
     refine x_then_exit ?_
     refine x_block_out ?_
     refine x_then_normal ?_
     refine c_sr ?_
     refine t_mv rfl rfl ?_
     refine t_st rfl (st_len rfl sl44) ?_
     refine t_mv rfl rfl ?_
     refine t_st rfl (st_leq rfl rfl) ?_
     refine t_as rfl rfl ?_
     refine t_ne ?_
     refine c_ret ?_
     obtain rfl := some1 hm
     exact retM (rs := [.tmp 8]) [.bool (decide ((l297.length : Int) ≤ x19))] (hle300.trans (hle310.trans hle437)) (by decide) rfl ⟨rfl, trivial⟩ rfl (.cons _ (sub_skip hs303 (sub_skip hs313 (.refl _)))) ⟨rfl, rfl⟩

end Go.Proofs.YtcibjjhanafojaaGreatDoor
