/- Contracts: the code computes its model (part 3). -/
import Derived.Test.YtajmocgpjkhjlaaAP2
set_option linter.unusedVariables false
set_option linter.unusedSimpArgs false
namespace Go.Proofs.Ytajmocgpjkhjlaa
open Go.RowKit Go.Fp

set_option maxRecDepth 20000 in
theorem cFleetGiverNote (b : Base) (R : Hp) (l15 : (List FleetTask)) (x16 : Int) (l20 : (List FleetSet)) (x21 : Int) (x22 : Int) (x23 : Int) (l27 : (List (List Int))) (z28 : Bool) (x30 : Int) (l31 : (List Int)) (l32 : (List (List Int))) (z33 : Bool) (g11 : Nat) (A12 : Option Addr) (c13 : Nat) (A17 : Option Addr) (c18 : Nat) (A24 : Option Addr) (c25 : Nat) (A3 : Option Addr) (c4 : Nat) (hs2 : Hp) (A8 : Option Addr) (c9 : Nat) (hs7 : Hp) (h14 : FZ rFleetTask b.w A12 c13 l15) (h19 : FZ rFleetSet b.w A17 c18 l20) (h26 : FZ (RT.list (RT.int .i64)) b.w A24 c25 l27) (hzn29 : (A24 = none ↔ z28 = true)) (h5 : OS 3 (OT.fr (RT.int .i64)) b.w (.slice A3 l31.length c4) l31 hs2) (h10 : OS 45 (OT.fr (RT.list (RT.int .i64))) b.w (.slice A8 l32.length c9) l32 hs7) (hzn34 : (A8 = none ↔ z33 = true)) (l244 : (List (List Int))) (z245 : Bool) (x247 : Int) (hm : mFleetGiverNote l15 x16 l20 x21 x22 x23 l27 z28 x30 l31 l32 z33 = some (l244, z245, x247)) :
    CallsG Try.prog 97 [.pointer (some ⟨g11, 0, none⟩)] b ((g11, Cl 133 [.slice A12 (l15).length c13, .int .i64 (x16), .slice A17 (l20).length c18, .int .i64 (x21), .int .i64 (x22), .int .i64 (x23), .slice A3 (l31).length c4, .slice A8 (l32).length c9, .slice A24 (l27).length c25, .int .i64 (x30)]) :: (hs2 ++ (hs7 ++ R))) (fun v b' hp' => ∃ (A241 : Option Addr), ∃ (c242 : Nat), .tuple #[] = v ∧ (g11, Cl 133 [.slice A12 (l15).length c13, .int .i64 (x16), .slice A17 (l20).length c18, .int .i64 (x21), .int .i64 (x22), .int .i64 (x23), .slice A3 (l31).length c4, .slice A8 (l32).length c9, .slice A241 (l244).length c242, .int .i64 (x247)]) :: (hs2 ++ (hs7 ++ R)) = hp' ∧ FZ (RT.list (RT.int .i64)) b'.w A241 c242 l244 ∧ (A241 = none ↔ z245 = true)) := by
  refine fn_enterG 69 Try.func97 rfl Try.ntmps97 rfl ?_
  unfold mFleetGiverNote at hm
  refine c_seq ?_
  refine c_region ?_
  refine t_st rfl (st_assign rfl) ?_
  refine t_nil ?_
  refine x_then_normal ?_
  refine c_seq ?_
  refine c_seq ?_
  refine c_region ?_
  refine t_st rfl (st_move rfl) ?_
  refine t_st rfl (st_nil rfl) ?_
  refine t_st rfl (st_field rfl fld133_5) ?_
  refine t_st rfl (st_load 0 rfl one26 rfl rfl) ?_
  refine t_st rfl (st_len rfl sl26) ?_
  refine t_st rfl (st_move rfl) ?_
  refine t_nil ?_
  refine x_then_normal ?_
  refine c_block ?_
  have hb249 := (OS.len h10)
  refine c_front2 [_] hs2 hs7 R rfl ?_
  obtain ⟨t373, hl374, hk375⟩ := bindS hm
  refine c_forM (fun k372 => fun x371 => fun b369 e' hp' => [(0, .pointer (some ⟨g11, 0, none⟩)), (2, .int .i64 (x371)), (10, .slice A8 (l32).length c9), (11, .int .i64 ((l32.length : Int))), (12, .int .i64 ((k372 : Int)))] = e' ∧ (g11, Cl 133 [.slice A12 (l15).length c13, .int .i64 (x16), .slice A17 (l20).length c18, .int .i64 (x21), .int .i64 (x22), .int .i64 (x23), .slice A3 (l31).length c4, .slice A8 (l32).length c9, .slice A24 (l27).length c25, .int .i64 (x30)]) :: (hs7 ++ (hs2 ++ R)) = hp' ∧ b.Le b369) hl374 (e' := [(0, .pointer (some ⟨g11, 0, none⟩)), (2, .int .i64 (0)), (10, .slice A8 (l32).length c9), (11, .int .i64 ((l32.length : Int))), (12, .int .i64 0)]) (hp' := (g11, Cl 133 [.slice A12 (l15).length c13, .int .i64 (x16), .slice A17 (l20).length c18, .int .i64 (x21), .int .i64 (x22), .int .i64 (x23), .slice A3 (l31).length c4, .slice A8 (l32).length c9, .slice A24 (l27).length c25, .int .i64 (x30)]) :: (hs7 ++ (hs2 ++ R))) ⟨rfl, rfl, rfl, rfl, rfl, trivial⟩ (.cons_cons _ (sub_app hs7 (sub_app hs2 (.refl _)))) ⟨rfl, rfl, (Base.Le.refl _)⟩ ?_ ?_
  ·
   rintro k372 x371 b369 _ _ oL248 hknL248 ⟨rfl, rfl, hle370⟩ hstepL248 houtL248
   unfold mFleetGiverNote_L248 at hstepL248
   have hm := hstepL248
   refine c_seq ?_
   refine c_region ?_
   refine t_st rfl (st_lss_t rfl rfl (by omega)) ?_
   refine t_nil ?_
   refine x_then_normal ?_
   refine c_seq ?_
   refine c_cond_t rfl ?_
   refine c_skip ?_
   refine x_then_normal ?_
   refine c_seq ?_
   refine c_block ?_
   refine c_seq ?_
   refine c_region ?_
   refine t_st rfl (st_move rfl) ?_
   obtain ⟨x376, h377, hm⟩ := bindS hm
   obtain ⟨j378, hj379, hx380⟩ := idx_some h377
   obtain ⟨cs381, hs386, P387, P388, hq389, hr382, hcs383, hA384, hlt385, hb390, hho391⟩ := OS.get (sz := 1) rfl (by decide) (h10.le hle370) hx380
   obtain ⟨⟨A392, c393, rfl, h394⟩, rfl⟩ := hr382
   refine t_st rfl (st_index_old j378 rfl rfl hj379 hlt385 hA384 sl26) ?_
   refine t_st rfl (st_load_rd rfl one45 (fun w ho => hcs383 w _ ho (.cons _ (List.sublist_append_left _ _)) 0 _ rfl)) ?_
   refine t_st rfl (st_assign rfl) ?_
   refine t_st rfl (st_assign rfl) ?_
   refine t_nil ?_
   refine x_then_normal ?_
   refine c_seq ?_
   obtain ⟨x414, h415, hm⟩ := bindS hm
   obtain ⟨⟨x424, l425⟩, hcl426, hm⟩ := bindS hm
   have hm := (unc2E hm)
   refine D_drawS ((g11, Cl 133 [.slice A12 (l15).length c13, .int .i64 (x16), .slice A17 (l20).length c18, .int .i64 (x21), .int .i64 (x22), .int .i64 (x23), .slice A3 (l31).length c4, .slice A8 (l32).length c9, .slice A24 (l27).length c25, .int .i64 (x30)]) :: (hs7 ++ (hs2 ++ R))) mixed ?_
   refine E_in (.cons_cons _ (sub_app hs7 (sub_app hs2 (.refl _)))) ?_
   refine E_st 0 rfl (st_move rfl) ?_
   refine E_st 1 rfl (st_nil rfl) ?_
   refine E_st 2 rfl (st_field rfl fld133_0) ?_
   refine E_st 3 rfl (st_load 0 rfl one22 rfl rfl) ?_
   refine E_st 4 rfl (st_move rfl) ?_
   refine E_st 5 rfl (st_move rfl) ?_
   refine E_st 6 rfl (st_nil rfl) ?_
   refine E_st 7 rfl (st_field rfl fld133_2) ?_
   refine E_st 8 rfl (st_load 0 rfl one38 rfl rfl) ?_
   refine E_st 9 rfl (st_move rfl) ?_
   obtain ⟨j416, hj417, hx418⟩ := idx_some h415
   obtain ⟨cs419, hr420, hcs421, hA422, hlt423⟩ := FZ.get (sz := 2) rfl (by decide) (h19.le hle370) hx418
   obtain ⟨_, _, rfl, rfl, rfl⟩ := hr420
   refine E_st 10 rfl (st_index_old j416 rfl rfl hj417 hlt423 hA422 sl38) ?_
   refine E_st 11 rfl (st_loadN_old (vs := [.int .i64 (x414.Home), .int .i64 (x414.Km)]) 2 rfl agg47 hA422 rfl (fun j u hu => hcs421 j u hu)) ?_
   refine E_st 12 rfl (st_move rfl) ?_
   refine E_st 13 rfl (st_nil rfl) ?_
   refine E_st 14 rfl (st_field rfl fld133_3) ?_
   refine E_st 15 rfl (st_loadD (vs := [_, _, _]) 0 3 rfl agg40 rfl rfl rfl) ?_
   refine E_out ?_
   refine D_all [16] (by kernel_rfl) rfl ?_
   refine R_callGl (Base.Le.refl _) rfl rfl _ call49 rfl (cFleetPositions _ _ l15 x376 x414 (⟨x21, x22, x23⟩ : FleetShop) A12 c13 A392 c393 (h14.le hle370) h394 x424 l425 hcl426) ?_ ?_
   ·
    rintro _ b427 _ hle428 ⟨A429, c430, hs431, rfl, rfl, h432⟩
    refine ⟨.inr (sub_skip hs431 (.cons_cons _ (sub_app hs7 (sub_app hs2 (.refl _))))), ?_⟩
    refine d_in1 [] [_] hs431 (hs7 ++ (hs2 ++ R)) rfl ?_
    refine D_st hle428 17 rfl (by kernel_rfl) (by kernel_rfl) (by kernel_rfl) rfl (st_move rfl) (.cons_cons _ (sub_skip hs431 (sub_app hs7 (sub_app hs2 (.refl _))))) ?_
    refine D_st hle428 18 rfl (by kernel_rfl) (by kernel_rfl) (by kernel_rfl) rfl (st_extract rfl rfl) (.cons_cons _ (sub_skip hs431 (sub_app hs7 (sub_app hs2 (.refl _))))) ?_
    refine D_st hle428 19 rfl (by kernel_rfl) (by kernel_rfl) (by kernel_rfl) rfl (st_extract rfl rfl) (.cons_cons _ (sub_skip hs431 (sub_app hs7 (sub_app hs2 (.refl _))))) ?_
    refine D_st hle428 20 rfl (by kernel_rfl) (by kernel_rfl) (by kernel_rfl) rfl (st_assign rfl) (.cons_cons _ (sub_skip hs431 (sub_app hs7 (sub_app hs2 (.refl _))))) ?_
    refine D_st hle428 21 rfl (by kernel_rfl) (by kernel_rfl) (by kernel_rfl) rfl (st_assign rfl) (.cons_cons _ (sub_skip hs431 (sub_app hs7 (sub_app hs2 (.refl _))))) ?_
    refine D_done (by kernel_rfl) ?_
    refine x_then_normal ?_
    refine c_seq ?_
    refine c_seq ?_
    refine c_region ?_
    refine t_st rfl (st_move rfl) ?_
    refine t_st rfl (st_not rfl) ?_
    refine t_nil ?_
    refine x_then_normal ?_
    refine c_cond _ rfl (fun hc433 => ?_) (fun hc433 => ?_)
    ·
     rw [if_neg (fun hh => Bool.noConfusion (hh.symm.trans (notT hc433)))] at hm
     refine c_ret ?_
     refine x_then_ret ?_
     refine x_block_ret ?_
     refine x_then_ret ?_
     refine x_then_ret ?_
     refine x_block_ret ?_
     refine x_then_ret ?_
     have hq434 := houtL248 _ (Option.some.inj hm).symm
     rw [hq434] at hk375
     have hm := elimR hk375
     obtain ⟨rfl, rfl, rfl⟩ := some3 hm
     refine x_front2 [_] hs431 hs7 (hs2 ++ R) rfl ?_
     refine x_front3 [_] hs7 hs431 hs2 R rfl ?_
     exact retM (rs := []) [] (hle370.trans hle428) (by decide) rfl trivial rfl (hp' := (g11, Cl 133 [.slice A12 (l15).length c13, .int .i64 (x16), .slice A17 (l20).length c18, .int .i64 (x21), .int .i64 (x22), .int .i64 (x23), .slice A3 (l31).length c4, .slice A8 (l32).length c9, .slice A24 (l27).length c25, .int .i64 (x30)]) :: (hs2 ++ (hs7 ++ R))) (.cons_cons _ (sub_app hs2 (sub_app hs7 (sub_skip hs431 (.refl _))))) ⟨A24, c25, rfl, rfl, (h26.le (hle370.trans hle428)), hzn29⟩
    ·
     rw [if_pos (notF hc433)] at hm
     refine c_skip ?_
     refine x_then_normal ?_
     refine c_region ?_
     refine t_st rfl (st_move rfl) ?_
     refine t_st rfl (st_move rfl) ?_
     refine t_st rfl (st_len rfl sl45) ?_
     obtain ⟨_, h435, hm⟩ := bindS hm
     have h435 := (chk_some h435).2
     refine t_st rfl (st_add rfl rfl h435) ?_
     refine t_st rfl (st_assign rfl) ?_
     refine t_nil ?_
     refine x_block_normal ?_
     refine x_then_normal ?_
     refine c_region ?_
     refine t_st rfl (st_add rfl rfl (by omega)) ?_
     refine t_st rfl (st_move rfl) ?_
     refine t_nil ?_
     refine x_front3 [_] hs431 hs7 hs2 R rfl ?_
     refine x_front3 [_] hs2 hs431 hs7 R rfl ?_
     exact x_againM (x371 + (l425.length : Int)) (Option.some.inj hm).symm (e' := [(0, .pointer (some ⟨g11, 0, none⟩)), (2, .int .i64 (x371 + (l425.length : Int))), (10, .slice A8 (l32).length c9), (11, .int .i64 ((l32.length : Int))), (12, .int .i64 ((k372 : Int) + 1))]) (hp' := (g11, Cl 133 [.slice A12 (l15).length c13, .int .i64 (x16), .slice A17 (l20).length c18, .int .i64 (x21), .int .i64 (x22), .int .i64 (x23), .slice A3 (l31).length c4, .slice A8 (l32).length c9, .slice A24 (l27).length c25, .int .i64 (x30)]) :: (hs7 ++ (hs2 ++ R))) ⟨rfl, rfl, rfl, rfl, rfl, trivial⟩ (.cons_cons _ (sub_app hs7 (sub_app hs2 (sub_skip hs431 (.refl _))))) ⟨rfl, rfl, ((hle370.trans hle428))⟩
   exact R_nil
  ·
   rintro x371 b369 _ _ ⟨rfl, rfl, hle370⟩ hq436
   rw [hq436] at hk375
   have hm := elimL hk375
   refine c_seq ?_
   refine c_region ?_
   refine t_st rfl (st_lss_f rfl rfl (by omega)) ?_
   refine t_nil ?_
   refine x_then_normal ?_
   refine c_seq ?_
   refine c_cond_f rfl ?_
   refine c_exit ?_
   refine x_then_exit ?_
   refine x_then_exit ?_
   refine x_block_out ?_
   refine x_then_normal ?_
   obtain ⟨x440, hj441, hk441⟩ := bindS hm
   refine c_join (fun b438 e' hp' => [(0, .pointer (some ⟨g11, 0, none⟩)), (2, .int .i64 (x371)), (56, .bool (x440))] = e' ∧ (g11, Cl 133 [.slice A12 (l15).length c13, .int .i64 (x16), .slice A17 (l20).length c18, .int .i64 (x21), .int .i64 (x22), .int .i64 (x23), .slice A3 (l31).length c4, .slice A8 (l32).length c9, .slice A24 (l27).length c25, .int .i64 (x30)]) :: (hs2 ++ (hs7 ++ R)) = hp' ∧ b369.Le b438) ?_ ?_
   ·
    have hm := hj441
    refine c_region ?_
    refine t_st rfl (st_move rfl) ?_
    refine t_st rfl (st_nil rfl) ?_
    refine t_st rfl (st_field rfl fld133_6) ?_
    refine t_st rfl (st_load 0 rfl one26 rfl rfl) ?_
    refine t_st rfl (st_eqnil_b (z := z28) rfl rfl hzn29 sl26) ?_
    rcases Bool.eq_false_or_eq_true z28 with hc442 | hc442
    ·
     rw [if_pos hc442] at hm
     refine t_resp 48 rfl (v' := .bool true) (by rw [hc442] <;> rfl) ?_
     refine t_st rfl (st_move rfl) ?_
     refine t_no 49 rfl rfl rfl rfl rfl ?_
     refine t_no 49 rfl rfl rfl rfl rfl ?_
     refine t_no 49 rfl rfl rfl rfl rfl ?_
     refine t_no 49 rfl rfl rfl rfl rfl ?_
     refine t_no 49 rfl rfl rfl rfl rfl ?_
     refine t_no 49 rfl rfl rfl rfl rfl ?_
     refine t_st rfl (st_pick_t rfl rfl) ?_
     refine t_nil ?_
     obtain rfl := some1 hm
     refine x_front2 [_] hs7 hs2 R rfl ?_
     exact x_join (e' := [(0, .pointer (some ⟨g11, 0, none⟩)), (2, .int .i64 (x371)), (56, .bool (true))]) (hp' := (g11, Cl 133 [.slice A12 (l15).length c13, .int .i64 (x16), .slice A17 (l20).length c18, .int .i64 (x21), .int .i64 (x22), .int .i64 (x23), .slice A3 (l31).length c4, .slice A8 (l32).length c9, .slice A24 (l27).length c25, .int .i64 (x30)]) :: (hs2 ++ (hs7 ++ R))) ⟨rfl, rfl, rfl, trivial⟩ (.cons_cons _ (sub_app hs2 (sub_app hs7 (.refl _)))) ⟨rfl, rfl, (Base.Le.refl _)⟩
    ·
     rw [if_neg (fun hh => Bool.noConfusion (hh.symm.trans hc442))] at hm
     refine t_resp 48 rfl (v' := .bool false) (by rw [hc442] <;> rfl) ?_
     refine t_st rfl (st_move rfl) ?_
     refine t_yes 49 rfl rfl rfl ?_
     refine t_st rfl (st_move rfl) ?_
     refine t_yes 49 rfl rfl rfl ?_
     refine t_st rfl (st_move rfl) ?_
     refine t_yes 49 rfl rfl rfl ?_
     refine t_st rfl (st_nil rfl) ?_
     refine t_yes 49 rfl rfl rfl ?_
     refine t_st rfl (st_field rfl fld133_7) ?_
     refine t_yes 49 rfl rfl rfl ?_
     refine t_st rfl (st_load 0 rfl one3 rfl rfl) ?_
     refine t_yes 49 rfl rfl rfl ?_
     refine t_st rfl (st_lss rfl rfl) ?_
     refine t_st rfl (st_pick_f rfl rfl) ?_
     refine t_nil ?_
     obtain rfl := some1 hm
     refine x_front2 [_] hs7 hs2 R rfl ?_
     exact x_join (e' := [(0, .pointer (some ⟨g11, 0, none⟩)), (2, .int .i64 (x371)), (56, .bool (decide (x371 < x30)))]) (hp' := (g11, Cl 133 [.slice A12 (l15).length c13, .int .i64 (x16), .slice A17 (l20).length c18, .int .i64 (x21), .int .i64 (x22), .int .i64 (x23), .slice A3 (l31).length c4, .slice A8 (l32).length c9, .slice A24 (l27).length c25, .int .i64 (x30)]) :: (hs2 ++ (hs7 ++ R))) ⟨rfl, rfl, rfl, trivial⟩ (.cons_cons _ (sub_app hs2 (sub_app hs7 (.refl _)))) ⟨rfl, rfl, (Base.Le.refl _)⟩
   ·
    rintro b438 _ _ ⟨rfl, rfl, hle439⟩
    have hm := hk441
    refine c_cond _ rfl (fun hc443 => ?_) (fun hc443 => ?_)
    ·
     rw [if_pos hc443] at hm
     refine c_region ?_
     refine t_st rfl (st_move rfl) ?_
     refine t_st rfl (st_move rfl) ?_
     refine t_st rfl (st_move rfl) ?_
     refine t_st rfl (st_nil rfl) ?_
     refine t_st rfl (st_field rfl fld133_5) ?_
     refine t_st rfl (st_load 0 rfl one26 rfl rfl) ?_
     obtain ⟨_, h444, hm⟩ := bindS hm
     have h444 := room_some h444
     refine t_do rfl (u_cloneOwnZ (r := (RT.list (RT.int .i64))) (l := l32) (sz := 1) (by_ := 24) [_] (hs2 ++ (hs7 ++ R)) rfl czSlicesClone call72 rfl rfl (h10.le (hle370.trans hle439)) (.cons _ (sub_skip hs2 (List.sublist_append_left _ _))) h444) ?_
     rintro _ _ ⟨A447, c448, hs445, rfl, rfl, h446, hz449⟩
     refine t_st rfl (st_move rfl) ?_
     refine t_st rfl (st_nil rfl) ?_
     refine t_st rfl (st_field rfl fld133_6) ?_
     refine t_do rfl (u_store 0 rfl rfl siz26 rfl rfl (by simp)) ?_
     rintro _ _ rfl
     refine t_st rfl (st_nil rfl) ?_
     refine t_st rfl (st_field rfl fld133_7) ?_
     refine t_do rfl (u_store 0 rfl rfl siz3 rfl rfl (by simp)) ?_
     rintro _ _ rfl
     refine t_nil ?_
     refine x_frz [_] hs445 (hs2 ++ (hs7 ++ R)) rfl ?_
     intro b450 hle451 hz452
     have h453 := OS.frz (l := l32) h446 hle451.cells hz452
     obtain ⟨rfl, rfl, rfl⟩ := some3 hm
     refine x_front2 [_] hs2 hs7 R rfl ?_
     refine x_front2 [_] hs7 hs2 R rfl ?_
     exact endM (hle370.trans (hle439.trans hle451)) rfl (.cons_cons _ (sub_app hs2 (sub_app hs7 (.refl _)))) ⟨A447, c448, rfl, rfl, h453, (hz449.trans hzn34)⟩
    ·
     rw [if_neg (fun hh => Bool.noConfusion (hh.symm.trans hc443))] at hm
     refine c_skip ?_
     obtain ⟨rfl, rfl, rfl⟩ := some3 hm
     refine x_front2 [_] hs2 hs7 R rfl ?_
     refine x_front2 [_] hs7 hs2 R rfl ?_
     exact endM (hle370.trans hle439) rfl (.cons_cons _ (sub_app hs2 (sub_app hs7 (.refl _)))) ⟨A24, c25, rfl, rfl, (h26.le (hle370.trans hle439)), hzn29⟩

set_option maxRecDepth 20000 in
theorem clSlicesClone_2 (A : Option Addr) (n c : Nat) (xs : List Value) (w : World) (hR : Rd w A xs) (hl : xs.length = n * 1) (hn : n * 8 ≤ 140737488355328 ∧ n ≤ 9223372036854775807) :
    CallsH Try.prog 66 [.slice A n c] w [] (fun v hp' => Seg0 3 1 v n xs hp') := by
  refine fn_enter 8 Try.func66 rfl Try.ntmps66 rfl ?_
  refine c_seq ?_
  refine c_region ?_
  refine t_st rfl (st_assign rfl) ?_
  refine t_nil ?_
  refine x_then_normal ?_
  refine c_seq ?_
  refine c_seq ?_
  refine c_region ?_
  refine t_st rfl (st_move rfl) ?_
  refine t_bool rfl (st_eqnil rfl rfl sl45) (fun hc1 => ?_) (fun hc1 => ?_)
  ·
    refine t_nil ?_
    refine x_then_normal ?_
    refine c_cond_t rfl ?_
    refine c_seq ?_
    refine c_region ?_
    refine t_st rfl (st_assign rfl) ?_
    refine t_nil ?_
    refine x_then_normal ?_
    refine c_ret ?_
    refine x_then_ret ?_
    subst hc1
    obtain rfl := hR.none_nil
    obtain rfl : n = 0 := by simp at hl; omega
    refine x_drop (hp' := []) (by repeat (first | exact List.Sublist.refl _ | exact List.nil_sublist _ | exact List.sublist_append_left _ _ | exact List.sublist_append_right _ _ | exact (List.sublist_append_right _ _).trans (List.sublist_append_right _ _) | apply List.Sublist.cons_cons | apply List.Sublist.cons)) ?_
    exact ret1 (Base.Le.refl _) rfl rfl (Seg0.nil)
  ·
    refine t_nil ?_
    refine x_then_normal ?_
    refine c_cond_f rfl ?_
    refine c_skip ?_
    refine x_then_normal ?_
    refine c_seq ?_
    refine c_region ?_
    refine t_do rfl (u_bslice (el := 3) [] [] rfl (fun _ => by kernel_rfl)) ?_
    rintro _ _ ⟨g0, rfl, rfl⟩
    refine t_st rfl (st_move rfl) ?_
    refine t_do rfl (u_app0 xs sl45 inf3 rfl (by decide) rfl rfl hl (fun w ho => hR.old ho) hn.2 hn.1) ?_
    rintro _ _ ⟨hs, rfl, hseg⟩
    refine t_st rfl (st_assign rfl) ?_
    refine t_nil ?_
    refine x_then_normal ?_
    refine c_ret ?_
    refine x_drop (hp' := hs) (by repeat (first | exact List.Sublist.refl _ | exact List.nil_sublist _ | exact List.sublist_append_left _ _ | exact List.sublist_append_right _ _ | exact (List.sublist_append_right _ _).trans (List.sublist_append_right _ _) | apply List.Sublist.cons_cons | apply List.Sublist.cons)) ?_
    exact ret1 (Base.Le.refl _) rfl rfl hseg

set_option maxRecDepth 20000 in
theorem cSlicesClone_2 (b : Base) (R : Hp) (l4 : (List Int)) (A1 : Option Addr) (c2 : Nat) (h3 : FZ (RT.int .i64) b.w A1 c2 l4) (l10 : (List Int)) (hm : mSlicesClone_2 l4 = some l10) :
    CallsG Try.prog 66 [.slice A1 (l4).length c2] b (R) (fun v b' hp' => ∃ (A7 : Option Addr), ∃ (c8 : Nat), ∃ (hs6 : Hp), .slice A7 (l10).length c8 = v ∧ (hs6 ++ R) = hp' ∧ OS 3 (OT.fr (RT.int .i64)) b'.w (.slice A7 l10.length c8) l10 hs6) := by
  unfold mSlicesClone_2 at hm
  obtain ⟨_, hroom, hm⟩ := bindS hm
  have hroom := room_some hroom
  obtain rfl := some1 hm
  exact clone_of (r := (RT.int .i64)) (sz := 1) (by_ := 8) rfl (by decide) clSlicesClone_2 h3 hroom

set_option maxRecDepth 20000 in
theorem cFleetGiverGive : ∀ (N : Nat) (b : Base) (R : Hp) (x12 : Int) (x13 : Int) (x14 : Int) (l18 : (List FleetTask)) (x19 : Int) (l23 : (List FleetSet)) (x24 : Int) (x25 : Int) (x26 : Int) (l30 : (List (List Int))) (z31 : Bool) (x33 : Int) (l34 : (List Int)) (l35 : (List (List Int))) (z36 : Bool) (g11 : Nat) (A15 : Option Addr) (c16 : Nat) (A20 : Option Addr) (c21 : Nat) (A27 : Option Addr) (c28 : Nat) (A3 : Option Addr) (c4 : Nat) (hs2 : Hp) (A8 : Option Addr) (c9 : Nat) (hs7 : Hp) (h17 : FZ rFleetTask b.w A15 c16 l18) (h22 : FZ rFleetSet b.w A20 c21 l23) (h29 : FZ (RT.list (RT.int .i64)) b.w A27 c28 l30) (hzn32 : (A27 = none ↔ z31 = true)) (h5 : OS 3 (OT.fr (RT.int .i64)) b.w (.slice A3 l34.length c4) l34 hs2) (h10 : OS 45 (OT.fr (RT.list (RT.int .i64))) b.w (.slice A8 l35.length c9) l35 hs7) (hzn37 : (A8 = none ↔ z36 = true)) (l11004 : (List (List Int))) (z11005 : Bool) (x11007 : Int) (l11008 : (List (List Int))) (hm : mFleetGiverGive N x12 x13 x14 l18 x19 l23 x24 x25 x26 l30 z31 x33 l34 l35 z36 = some (l11004, z11005, x11007, l11008)),
    CallsG Try.prog 67 [.pointer (some ⟨g11, 0, none⟩), .int .i64 (x12), .int .i64 (x13), .int .i64 (x14)] b ((g11, Cl 133 [.slice A15 (l18).length c16, .int .i64 (x19), .slice A20 (l23).length c21, .int .i64 (x24), .int .i64 (x25), .int .i64 (x26), .slice A3 (l34).length c4, .slice A8 (l35).length c9, .slice A27 (l30).length c28, .int .i64 (x33)]) :: (hs2 ++ (hs7 ++ R))) (fun v b' hp' => ∃ (A11001 : Option Addr), ∃ (c11002 : Nat), ∃ (hs10999 : Hp), .tuple #[] = v ∧ (g11, Cl 133 [.slice A15 (l18).length c16, .int .i64 (x19), .slice A20 (l23).length c21, .int .i64 (x24), .int .i64 (x25), .int .i64 (x26), .slice A3 (l34).length c4, .slice A8 (l11008).length c9, .slice A11001 (l11004).length c11002, .int .i64 (x11007)]) :: (hs2 ++ (hs10999 ++ R)) = hp' ∧ FZ (RT.list (RT.int .i64)) b'.w A11001 c11002 l11004 ∧ (A11001 = none ↔ z11005 = true) ∧ OS 45 (OT.fr (RT.list (RT.int .i64))) b'.w (.slice A8 l11008.length c9) l11008 hs10999 ∧ l11008.length = l35.length) := by
  intro N
  induction N with
  | zero =>
    intro b R x12 x13 x14 l18 x19 l23 x24 x25 x26 l30 z31 x33 l34 l35 z36 g11 A15 c16 A20 c21 A27 c28 A3 c4 hs2 A8 c9 hs7 h17 h22 h29 hzn32 h5 h10 hzn37 l11004 z11005 x11007 l11008 hm
    unfold mFleetGiverGive at hm
    cases hm
  | succ N ih =>
    intro b R x12 x13 x14 l18 x19 l23 x24 x25 x26 l30 z31 x33 l34 l35 z36 g11 A15 c16 A20 c21 A27 c28 A3 c4 hs2 A8 c9 hs7 h17 h22 h29 hzn32 h5 h10 hzn37 l11004 z11005 x11007 l11008 hm
    refine fn_enterG 137 Try.func67 rfl Try.ntmps67 rfl ?_
    unfold mFleetGiverGive at hm
    refine c_seq ?_
    refine c_seq ?_
    refine c_region ?_
    refine t_st rfl (st_move rfl) ?_
    refine t_st rfl (st_move rfl) ?_
    refine t_st rfl (st_nil rfl) ?_
    refine t_st rfl (st_field rfl fld133_4) ?_
    refine t_st rfl (st_load 0 rfl one45 rfl rfl) ?_
    refine t_st rfl (st_len rfl sl45) ?_
    refine t_st rfl (st_eql rfl rfl) ?_
    refine t_nil ?_
    refine x_then_normal ?_
    refine c_cond _ rfl (fun hc11010 => ?_) (fun hc11010 => ?_)
    ·
     rw [if_pos (of_decide_eq_true hc11010)] at hm
     refine c_seq ?_
     refine c_region ?_
     refine t_st rfl (st_move rfl) ?_
     obtain ⟨⟨l11011, z11012, x11013⟩, hcl11014, hm⟩ := bindS hm
     have hm := (unc3E hm)
     refine t_front2 [_] hs2 hs7 R rfl ?_
     refine t_front2 [_] hs7 hs2 R rfl ?_
     refine t_out2 [_] [] hs2 hs7 R rfl ?_
     refine t_callG _ rfl call97 rfl (cFleetGiverNote _ _ l18 x19 l23 x24 x25 x26 l30 z31 x33 l34 l35 z36 g11 A15 c16 A20 c21 A27 c28 A3 c4 hs2 A8 c9 hs7 h17 h22 h29 hzn32 h5 h10 hzn37 l11011 z11012 x11013 hcl11014) ?_
     rintro _ b11015 _ hle11016 ⟨A11017, c11018, rfl, rfl, h11019, h11020⟩
     refine t_in2 [_] [] hs2 hs7 R rfl ?_
     refine t_nil ?_
     refine x_then_normal ?_
     refine c_ret ?_
     refine x_then_ret ?_
     obtain ⟨rfl, rfl, rfl, rfl⟩ := some4 hm
     refine x_front2 [_] hs2 hs7 R rfl ?_
     refine x_front2 [_] hs7 hs2 R rfl ?_
     exact retM (rs := []) [] hle11016 (by decide) rfl trivial rfl (hp' := (g11, Cl 133 [.slice A15 (l18).length c16, .int .i64 (x19), .slice A20 (l23).length c21, .int .i64 (x24), .int .i64 (x25), .int .i64 (x26), .slice A3 (l34).length c4, .slice A8 (l35).length c9, .slice A11017 (l11011).length c11018, .int .i64 (x11013)]) :: (hs2 ++ (hs7 ++ R))) (.cons_cons _ (sub_app hs2 (sub_app hs7 (.refl _)))) ⟨A11017, c11018, hs7, rfl, rfl, h11019, h11020, (h10.le hle11016), rfl⟩
    ·
     rw [if_neg (of_decide_eq_false hc11010)] at hm
     refine c_skip ?_
     refine x_then_normal ?_
     refine c_seq ?_
     refine c_region ?_
     refine t_st rfl (st_move rfl) ?_
     refine t_st rfl (st_nil rfl) ?_
     refine t_st rfl (st_field rfl fld133_4) ?_
     refine t_st rfl (st_load 0 rfl one45 rfl rfl) ?_
     refine t_st rfl (st_move rfl) ?_
     obtain ⟨x11021, h11022, hm⟩ := bindS hm
     obtain ⟨j11023, hj11024, hx11025⟩ := idx_some h11022
     obtain ⟨cs11026, hs11031, P11032, P11033, hq11034, hr11027, hcs11028, hA11029, hlt11030, hb11035, hho11036⟩ := OS.get (sz := 1) rfl (by decide) h5 hx11025
     obtain ⟨rfl, rfl⟩ := hr11027
     refine t_st rfl (st_index_old j11023 rfl rfl hj11024 hlt11030 hA11029 sl45) ?_
     refine t_st rfl (st_load_rd rfl one3 (fun w ho => hcs11028 w _ ho (.cons _ (List.sublist_append_left _ _)) 0 _ rfl)) ?_
     refine t_st rfl (st_assign rfl) ?_
     refine t_nil ?_
     refine x_then_normal ?_
     refine c_seq ?_
     refine c_seq ?_
     refine c_region ?_
     refine t_st rfl (st_move rfl) ?_
     refine t_st rfl (st_move rfl) ?_
     refine t_st rfl (st_nil rfl) ?_
     refine t_st rfl (st_field rfl fld133_0) ?_
     refine t_st rfl (st_load 0 rfl one22 rfl rfl) ?_
     refine t_st rfl (st_move rfl) ?_
     obtain ⟨x11037, h11038, hm⟩ := bindS hm
     obtain ⟨j11039, hj11040, hx11041⟩ := idx_some h11038
     obtain ⟨cs11042, hr11043, hcs11044, hA11045, hlt11046⟩ := FZ.get (sz := 6) rfl (by decide) h17 hx11041
     obtain ⟨_, _, rfl, rfl, ⟨_, _, rfl, rfl, ⟨_, _, rfl, rfl, ⟨_, _, rfl, rfl, ⟨_, _, rfl, rfl, rfl⟩⟩⟩⟩⟩ := hr11043
     refine t_st rfl (st_index_old j11039 rfl rfl hj11040 hlt11046 hA11045 sl22) ?_
     refine t_st rfl (st_field_old rfl hA11045 fld36_5) ?_
     refine t_st rfl (st_load_old rfl one3 (hcs11044 5 _ rfl)) ?_
     refine t_st rfl (st_eql rfl rfl) ?_
     refine t_nil ?_
     refine x_then_normal ?_
     refine c_cond _ rfl (fun hc11047 => ?_) (fun hc11047 => ?_)
     ·
      rw [if_pos (of_decide_eq_true hc11047)] at hm
      refine c_seq ?_
      refine c_region ?_
      refine t_st rfl (st_move rfl) ?_
      refine t_st rfl (st_move rfl) ?_
      obtain ⟨_, h11048, hm⟩ := bindS hm
      have h11048 := (chk_some h11048).2
      refine t_st rfl (st_add rfl rfl h11048) ?_
      obtain ⟨⟨l11049, z11050, x11051, l11052⟩, hcl11053, hm⟩ := bindS hm
      have hm := (unc4E hm)
      refine t_front2 [_] hs2 hs7 R rfl ?_
      refine t_front2 [_] hs7 hs2 R rfl ?_
      refine t_out2 [_] [] hs2 hs7 R rfl ?_
      refine t_callG _ rfl call67 rfl (ih _ _ (x12 + 1) 0 0 l18 x19 l23 x24 x25 x26 l30 z31 x33 l34 l35 z36 g11 A15 c16 A20 c21 A27 c28 A3 c4 hs2 A8 c9 hs7 h17 h22 h29 hzn32 h5 h10 hzn37 l11049 z11050 x11051 l11052 hcl11053) ?_
      rintro _ b11054 _ hle11055 ⟨A11056, c11057, hs11058, rfl, rfl, h11059, h11060, h11061, h11062⟩
      refine t_in2 [_] [] hs2 hs11058 R rfl ?_
      refine t_hresp 0 rfl (o' := Cl 133 [.slice A15 (l18).length c16, .int .i64 (x19), .slice A20 (l23).length c21, .int .i64 (x24), .int .i64 (x25), .int .i64 (x26), .slice A3 (l34).length c4, .slice A8 (l11052).length c9, .slice A11056 (l11049).length c11057, .int .i64 (x11051)]) (by simp only [h11062]) ?_
      refine t_nil ?_
      refine x_then_normal ?_
      refine c_ret ?_
      refine x_then_ret ?_
      obtain ⟨rfl, rfl, rfl, rfl⟩ := some4 hm
      refine x_front2 [_] hs2 hs11058 R rfl ?_
      refine x_front2 [_] hs11058 hs2 R rfl ?_
      exact retM (rs := []) [] hle11055 (by decide) rfl trivial rfl (hp' := (g11, Cl 133 [.slice A15 (l18).length c16, .int .i64 (x19), .slice A20 (l23).length c21, .int .i64 (x24), .int .i64 (x25), .int .i64 (x26), .slice A3 (l34).length c4, .slice A8 (l11052).length c9, .slice A11056 (l11049).length c11057, .int .i64 (x11051)]) :: (hs2 ++ (hs11058 ++ R))) (.cons_cons _ (sub_app hs2 (sub_app hs11058 (.refl _)))) ⟨A11056, c11057, hs11058, rfl, rfl, h11059, h11060, h11061, (h11062.trans rfl)⟩
     ·
      rw [if_neg (of_decide_eq_false hc11047)] at hm
      refine c_skip ?_
      refine x_then_normal ?_
      refine c_seq ?_
      refine c_region ?_
      refine t_st rfl (st_move rfl) ?_
      refine t_st rfl (st_assign rfl) ?_
      refine t_nil ?_
      refine x_then_normal ?_
      refine c_block ?_
      refine c_front2 [_] hs2 hs7 R rfl ?_
      refine c_front2 [_] hs7 hs2 R rfl ?_
      refine c_loopM (unc5 fun x13532 l13536 z13537 x13539 l13540 => fun b13527 e' hp' => ∃ (A13533 : Option Addr), ∃ (c13534 : Nat), ∃ (hs13530 : Hp), [(0, .pointer (some ⟨g11, 0, none⟩)), (1, .int .i64 (x12)), (2, .int .i64 (x13)), (8, .int .i64 (x11021)), (9, .int .i64 (x13532))] = e' ∧ (g11, Cl 133 [.slice A15 (l18).length c16, .int .i64 (x19), .slice A20 (l23).length c21, .int .i64 (x24), .int .i64 (x25), .int .i64 (x26), .slice A3 (l34).length c4, .slice A8 (l13540).length c9, .slice A13533 (l13536).length c13534, .int .i64 (x13539)]) :: (hs2 ++ (hs13530 ++ R)) = hp' ∧ b.Le b13527 ∧ FZ (RT.list (RT.int .i64)) b13527.w A13533 c13534 l13536 ∧ (A13533 = none ↔ z13537 = true) ∧ OS 45 (OT.fr (RT.list (RT.int .i64))) b13527.w (.slice A8 l13540.length c9) l13540 hs13530 ∧ l13540.length = l35.length) hm (e' := [(0, .pointer (some ⟨g11, 0, none⟩)), (1, .int .i64 (x12)), (2, .int .i64 (x13)), (8, .int .i64 (x11021)), (9, .int .i64 (x14))]) (hp' := (g11, Cl 133 [.slice A15 (l18).length c16, .int .i64 (x19), .slice A20 (l23).length c21, .int .i64 (x24), .int .i64 (x25), .int .i64 (x26), .slice A3 (l34).length c4, .slice A8 (l35).length c9, .slice A27 (l30).length c28, .int .i64 (x33)]) :: (hs2 ++ (hs7 ++ R))) ⟨rfl, rfl, rfl, rfl, rfl, trivial⟩ (.cons_cons _ (sub_app hs2 (sub_app hs7 (.refl _)))) ⟨A27, c28, hs7, rfl, rfl, (Base.Le.refl _), h29, hzn32, h10, rfl⟩ ?_
      rintro ⟨x13532, l13536, z13537, x13539, l13540⟩ b13527 _ _ oL11063 ⟨A13533, c13534, hs13530, rfl, rfl, hle13528, h13535, hzn13538, h13531, hln13541⟩ hstepL11063 houtL11063
      unfold mFleetGiverGive_L11063 at hstepL11063
      have hm := (unc5E hstepL11063)
      refine c_seq ?_
      refine c_seq ?_
      refine c_region ?_
      refine t_st rfl (st_move rfl) ?_
      refine t_st rfl (st_move rfl) ?_
      refine t_st rfl (st_nil rfl) ?_
      refine t_st rfl (st_field rfl fld133_2) ?_
      refine t_st rfl (st_load 0 rfl one38 rfl rfl) ?_
      refine t_st rfl (st_len rfl sl38) ?_
      refine t_st rfl (st_lss rfl rfl) ?_
      refine t_nil ?_
      refine x_then_normal ?_
      refine c_cond _ rfl (fun hc13542 => ?_) (fun hc13542 => ?_)
      ·
       rw [if_pos (of_decide_eq_true hc13542)] at hm
       refine c_skip ?_
       refine x_then_normal ?_
       obtain ⟨⟨l14155, z14156, x14158, l14159⟩, hj14161, hk14161⟩ := bindS hm
       refine c_join (fun b14147 e' hp' => ∃ (A14152 : Option Addr), ∃ (c14153 : Nat), ∃ (hs14150 : Hp), [(0, .pointer (some ⟨g11, 0, none⟩)), (1, .int .i64 (x12)), (2, .int .i64 (x13)), (8, .int .i64 (x11021)), (9, .int .i64 (x13532))] = e' ∧ (g11, Cl 133 [.slice A15 (l18).length c16, .int .i64 (x19), .slice A20 (l23).length c21, .int .i64 (x24), .int .i64 (x25), .int .i64 (x26), .slice A3 (l34).length c4, .slice A8 (l14159).length c9, .slice A14152 (l14155).length c14153, .int .i64 (x14158)]) :: (hs2 ++ (hs14150 ++ R)) = hp' ∧ b13527.Le b14147 ∧ FZ (RT.list (RT.int .i64)) b14147.w A14152 c14153 l14155 ∧ (A14152 = none ↔ z14156 = true) ∧ OS 45 (OT.fr (RT.list (RT.int .i64))) b14147.w (.slice A8 l14159.length c9) l14159 hs14150 ∧ l14159.length = l35.length) ?_ ?_
       ·
        have hm := hj14161
        refine c_block ?_
        refine c_seq ?_
        refine c_region ?_
        refine t_st rfl (st_move rfl) ?_
        refine t_st rfl (st_nil rfl) ?_
        refine t_st rfl (st_field rfl fld133_5) ?_
        refine t_st rfl (st_load 0 rfl one26 rfl rfl) ?_
        refine t_st rfl (st_move rfl) ?_
        obtain ⟨x14162, h14163, hm⟩ := bindS hm
        obtain ⟨j14164, hj14165, hx14166⟩ := idx_some h14163
        obtain ⟨cs14167, hs14172, P14173, P14174, hq14175, hr14168, hcs14169, hA14170, hlt14171, hb14176, hho14177⟩ := OS.get (sz := 1) rfl (by decide) h13531 hx14166
        obtain ⟨⟨A14178, c14179, rfl, h14180⟩, rfl⟩ := hr14168
        refine t_st rfl (st_index_old j14164 rfl rfl hj14165 hlt14171 hA14170 sl26) ?_
        refine t_st rfl (st_load_rd rfl one45 (fun w ho => hcs14169 w _ ho (.cons _ (sub_skip hs2 (List.sublist_append_left _ _))) 0 _ rfl)) ?_
        refine t_st rfl (st_assign rfl) ?_
        refine t_nil ?_
        refine x_then_normal ?_
        refine c_seq ?_
        obtain ⟨x14363, hj14364, hk14364⟩ := bindS hm
        refine c_join (fun b14361 e' hp' => [(0, .pointer (some ⟨g11, 0, none⟩)), (1, .int .i64 (x12)), (2, .int .i64 (x13)), (8, .int .i64 (x11021)), (9, .int .i64 (x13532)), (10, .slice A14178 (x14162).length c14179), (111, .bool (x14363))] = e' ∧ (g11, Cl 133 [.slice A15 (l18).length c16, .int .i64 (x19), .slice A20 (l23).length c21, .int .i64 (x24), .int .i64 (x25), .int .i64 (x26), .slice A3 (l34).length c4, .slice A8 (l13540).length c9, .slice A13533 (l13536).length c13534, .int .i64 (x13539)]) :: (hs2 ++ (hs13530 ++ R)) = hp' ∧ b13527.Le b14361) ?_ ?_
        ·
         have hm := hj14364
         by_cases hc14455 : (x14162.length : Int) = 0
         ·
          rw [if_pos hc14455] at hm
          obtain ⟨x14456, h14457, hm⟩ := bindS hm
          obtain ⟨x14466, h14467, hm⟩ := bindS hm
          by_cases hc14476 : x14456.From ≠ x14466.Home
          ·
           rw [if_pos hc14476] at hm
           refine D_drawS ((g11, Cl 133 [.slice A15 (l18).length c16, .int .i64 (x19), .slice A20 (l23).length c21, .int .i64 (x24), .int .i64 (x25), .int .i64 (x26), .slice A3 (l34).length c4, .slice A8 (l13540).length c9, .slice A13533 (l13536).length c13534, .int .i64 (x13539)]) :: (hs2 ++ (hs13530 ++ R))) mixed ?_
           refine E_in (.cons_cons _ (sub_app hs2 (sub_app hs13530 (.refl _)))) ?_
           refine E_st 0 rfl (st_move rfl) ?_
           refine E_st 1 rfl (st_len rfl sl45) ?_
           refine E_st 2 rfl (st_eql_t rfl rfl hc14455) ?_
           refine E_st 3 rfl (st_move rfl) ?_
           refine E_yes 4 61 rfl (st_move rfl) ?_
           refine E_yes 5 61 rfl (st_nil rfl) ?_
           refine E_yes 6 61 rfl (st_field rfl fld133_0) ?_
           refine E_yes 7 61 rfl (st_load 0 rfl one22 rfl rfl) ?_
           refine E_yes 8 61 rfl (st_move rfl) ?_
           obtain ⟨j14458, hj14459, hx14460⟩ := idx_some h14457
           obtain ⟨cs14461, hr14462, hcs14463, hA14464, hlt14465⟩ := FZ.get (sz := 6) rfl (by decide) (h17.le hle13528) hx14460
           obtain ⟨_, _, rfl, rfl, ⟨_, _, rfl, rfl, ⟨_, _, rfl, rfl, ⟨_, _, rfl, rfl, ⟨_, _, rfl, rfl, rfl⟩⟩⟩⟩⟩ := hr14462
           refine E_yes 9 61 rfl (st_index_old j14458 rfl rfl hj14459 hlt14465 hA14464 sl22) ?_
           refine E_yes 10 61 rfl (st_field_old rfl hA14464 fld36_0) ?_
           refine E_yes 11 61 rfl (st_load_old rfl one3 (hcs14463 0 _ rfl)) ?_
           refine E_yes 12 61 rfl (st_move rfl) ?_
           refine E_yes 13 61 rfl (st_nil rfl) ?_
           refine E_yes 14 61 rfl (st_field rfl fld133_2) ?_
           refine E_yes 15 61 rfl (st_load 0 rfl one38 rfl rfl) ?_
           refine E_yes 16 61 rfl (st_move rfl) ?_
           obtain ⟨j14468, hj14469, hx14470⟩ := idx_some h14467
           obtain ⟨cs14471, hr14472, hcs14473, hA14474, hlt14475⟩ := FZ.get (sz := 2) rfl (by decide) (h22.le hle13528) hx14470
           obtain ⟨_, _, rfl, rfl, rfl⟩ := hr14472
           refine E_yes 17 61 rfl (st_index_old j14468 rfl rfl hj14469 hlt14475 hA14474 sl38) ?_
           refine E_yes 18 61 rfl (st_field_old rfl hA14474 fld47_0) ?_
           refine E_yes 19 61 rfl (st_load_old rfl one3 (hcs14473 0 _ rfl)) ?_
           refine E_yes 20 61 rfl (st_neq_t rfl rfl hc14476) ?_
           refine E_st 21 rfl (st_pick_t rfl rfl) ?_
           refine E_st 22 rfl (st_move rfl) ?_
           refine E_no 23 80 rfl rfl rfl ?_
           refine E_no 24 80 rfl rfl rfl ?_
           refine E_no 25 80 rfl rfl rfl ?_
           refine E_no 26 80 rfl rfl rfl ?_
           refine E_no 27 84 rfl rfl rfl ?_
           refine E_no 28 84 rfl rfl rfl ?_
           refine E_no 29 84 rfl rfl rfl ?_
           refine E_no 30 84 rfl rfl rfl ?_
           refine E_no 31 84 rfl rfl rfl ?_
           refine E_no 32 84 rfl rfl rfl ?_
           refine E_no 33 84 rfl rfl rfl ?_
           refine E_no 34 84 rfl rfl rfl ?_
           refine E_no 35 84 rfl rfl rfl ?_
           refine E_no 36 84 rfl rfl rfl ?_
           refine E_no 37 84 rfl rfl rfl ?_
           refine E_no 38 84 rfl rfl rfl ?_
           refine E_no 39 84 rfl rfl rfl ?_
           refine E_no 40 84 rfl rfl rfl ?_
           refine E_no 41 84 rfl rfl rfl ?_
           refine E_no 42 84 rfl rfl rfl ?_
           refine E_no 43 84 rfl rfl rfl ?_
           refine E_no 44 84 rfl rfl rfl ?_
           refine E_no 45 84 rfl rfl rfl ?_
           refine E_no 46 84 rfl rfl rfl ?_
           refine E_no 47 84 rfl rfl rfl ?_
           refine E_no 48 84 rfl rfl rfl ?_
           refine E_no 49 84 rfl rfl rfl ?_
           refine E_no 50 84 rfl rfl rfl ?_
           refine E_no 51 84 rfl rfl rfl ?_
           refine E_no 52 80 rfl rfl rfl ?_
           refine E_st 53 rfl (st_pick_t rfl rfl) ?_
           refine E_out ?_
           refine D_done (by kernel_rfl) ?_
           obtain rfl := some1 hm
           refine x_front2 [_] hs2 hs13530 R rfl ?_
           refine x_front2 [_] hs13530 hs2 R rfl ?_
           exact x_join (e' := [(0, .pointer (some ⟨g11, 0, none⟩)), (1, .int .i64 (x12)), (2, .int .i64 (x13)), (8, .int .i64 (x11021)), (9, .int .i64 (x13532)), (10, .slice A14178 (x14162).length c14179), (111, .bool (true))]) (hp' := (g11, Cl 133 [.slice A15 (l18).length c16, .int .i64 (x19), .slice A20 (l23).length c21, .int .i64 (x24), .int .i64 (x25), .int .i64 (x26), .slice A3 (l34).length c4, .slice A8 (l13540).length c9, .slice A13533 (l13536).length c13534, .int .i64 (x13539)]) :: (hs2 ++ (hs13530 ++ R))) ⟨rfl, rfl, rfl, rfl, rfl, rfl, rfl, trivial⟩ (.cons_cons _ (sub_app hs2 (sub_app hs13530 (.refl _)))) ⟨rfl, rfl, (Base.Le.refl _)⟩
          ·
           rw [if_neg hc14476] at hm
           by_cases hc14477 : 0 < (x14162.length : Int)
           ·
            rw [if_pos hc14477] at hm
            obtain ⟨_, h14478, hm⟩ := bindS hm
            obtain ⟨x14479, h14480, hm⟩ := bindS hm
            obtain ⟨x14489, h14490, hm⟩ := bindS hm
            obtain ⟨x14499, h14500, hm⟩ := bindS hm
            obtain ⟨x14509, hcl14510, hm⟩ := bindS hm
            refine D_drawS ((g11, Cl 133 [.slice A15 (l18).length c16, .int .i64 (x19), .slice A20 (l23).length c21, .int .i64 (x24), .int .i64 (x25), .int .i64 (x26), .slice A3 (l34).length c4, .slice A8 (l13540).length c9, .slice A13533 (l13536).length c13534, .int .i64 (x13539)]) :: (hs2 ++ (hs13530 ++ R))) mixed ?_
            refine E_in (.cons_cons _ (sub_app hs2 (sub_app hs13530 (.refl _)))) ?_
            refine E_st 0 rfl (st_move rfl) ?_
            refine E_st 1 rfl (st_len rfl sl45) ?_
            refine E_st 2 rfl (st_eql_t rfl rfl hc14455) ?_
            refine E_st 3 rfl (st_move rfl) ?_
            refine E_yes 4 61 rfl (st_move rfl) ?_
            refine E_yes 5 61 rfl (st_nil rfl) ?_
            refine E_yes 6 61 rfl (st_field rfl fld133_0) ?_
            refine E_yes 7 61 rfl (st_load 0 rfl one22 rfl rfl) ?_
            refine E_yes 8 61 rfl (st_move rfl) ?_
            obtain ⟨j14458, hj14459, hx14460⟩ := idx_some h14457
            obtain ⟨cs14461, hr14462, hcs14463, hA14464, hlt14465⟩ := FZ.get (sz := 6) rfl (by decide) (h17.le hle13528) hx14460
            obtain ⟨_, _, rfl, rfl, ⟨_, _, rfl, rfl, ⟨_, _, rfl, rfl, ⟨_, _, rfl, rfl, ⟨_, _, rfl, rfl, rfl⟩⟩⟩⟩⟩ := hr14462
            refine E_yes 9 61 rfl (st_index_old j14458 rfl rfl hj14459 hlt14465 hA14464 sl22) ?_
            refine E_yes 10 61 rfl (st_field_old rfl hA14464 fld36_0) ?_
            refine E_yes 11 61 rfl (st_load_old rfl one3 (hcs14463 0 _ rfl)) ?_
            refine E_yes 12 61 rfl (st_move rfl) ?_
            refine E_yes 13 61 rfl (st_nil rfl) ?_
            refine E_yes 14 61 rfl (st_field rfl fld133_2) ?_
            refine E_yes 15 61 rfl (st_load 0 rfl one38 rfl rfl) ?_
            refine E_yes 16 61 rfl (st_move rfl) ?_
            obtain ⟨j14468, hj14469, hx14470⟩ := idx_some h14467
            obtain ⟨cs14471, hr14472, hcs14473, hA14474, hlt14475⟩ := FZ.get (sz := 2) rfl (by decide) (h22.le hle13528) hx14470
            obtain ⟨_, _, rfl, rfl, rfl⟩ := hr14472
            refine E_yes 17 61 rfl (st_index_old j14468 rfl rfl hj14469 hlt14475 hA14474 sl38) ?_
            refine E_yes 18 61 rfl (st_field_old rfl hA14474 fld47_0) ?_
            refine E_yes 19 61 rfl (st_load_old rfl one3 (hcs14473 0 _ rfl)) ?_
            refine E_yes 20 61 rfl (st_neq_f rfl rfl hc14476) ?_
            refine E_st 21 rfl (st_pick_t rfl rfl) ?_
            refine E_st 22 rfl (st_move rfl) ?_
            refine E_yes 23 80 rfl (st_move rfl) ?_
            refine E_yes 24 80 rfl (st_len rfl sl45) ?_
            refine E_yes 25 80 rfl (st_gtr_t rfl rfl hc14477) ?_
            refine E_yes 26 80 rfl (st_move rfl) ?_
            refine E_yes 27 84 rfl (st_move rfl) ?_
            refine E_yes 28 84 rfl (st_nil rfl) ?_
            refine E_yes 29 84 rfl (st_field rfl fld133_0) ?_
            refine E_yes 30 84 rfl (st_load 0 rfl one22 rfl rfl) ?_
            refine E_yes 31 84 rfl (st_move rfl) ?_
            refine E_yes 32 84 rfl (st_move rfl) ?_
            refine E_yes 33 84 rfl (st_len rfl sl45) ?_
            have h14478 := (chk_some h14478).2
            refine E_yes 34 84 rfl (st_sub rfl rfl h14478) ?_
            obtain ⟨j14481, hj14482, hx14483⟩ := idx_some h14480
            obtain ⟨cs14484, hr14485, hcs14486, hA14487, hlt14488⟩ := FZ.get (sz := 1) rfl (by decide) h14180 hx14483
            obtain rfl := hr14485
            refine E_yes 35 84 rfl (st_index_old j14481 rfl rfl hj14482 hlt14488 hA14487 sl45) ?_
            refine E_yes 36 84 rfl (st_load_old rfl one3 (hcs14486 0 _ rfl)) ?_
            obtain ⟨j14491, hj14492, hx14493⟩ := idx_some h14490
            obtain ⟨cs14494, hr14495, hcs14496, hA14497, hlt14498⟩ := FZ.get (sz := 6) rfl (by decide) (h17.le hle13528) hx14493
            obtain ⟨_, _, rfl, rfl, ⟨_, _, rfl, rfl, ⟨_, _, rfl, rfl, ⟨_, _, rfl, rfl, ⟨_, _, rfl, rfl, rfl⟩⟩⟩⟩⟩ := hr14495
            refine E_yes 37 84 rfl (st_index_old j14491 rfl rfl hj14492 hlt14498 hA14497 sl22) ?_
            refine E_yes 38 84 rfl (st_loadN_old (vs := [.int .i64 (x14489.From), .int .i64 (x14489.To), .int .i64 (x14489.Dep), .int .i64 (x14489.Arr), .int .i64 (x14489.Km), .int .i64 (x14489.Units)]) 6 rfl agg36 hA14497 rfl (fun j u hu => hcs14496 j u hu)) ?_
            refine E_yes 39 84 rfl (st_move rfl) ?_
            refine E_yes 40 84 rfl (st_nil rfl) ?_
            refine E_yes 41 84 rfl (st_field rfl fld133_0) ?_
            refine E_yes 42 84 rfl (st_load 0 rfl one22 rfl rfl) ?_
            refine E_yes 43 84 rfl (st_move rfl) ?_
            obtain ⟨j14501, hj14502, hx14503⟩ := idx_some h14500
            obtain ⟨cs14504, hr14505, hcs14506, hA14507, hlt14508⟩ := FZ.get (sz := 6) rfl (by decide) (h17.le hle13528) hx14503
            obtain ⟨_, _, rfl, rfl, ⟨_, _, rfl, rfl, ⟨_, _, rfl, rfl, ⟨_, _, rfl, rfl, ⟨_, _, rfl, rfl, rfl⟩⟩⟩⟩⟩ := hr14505
            refine E_yes 44 84 rfl (st_index_old j14501 rfl rfl hj14502 hlt14508 hA14507 sl22) ?_
            refine E_yes 45 84 rfl (st_loadN_old (vs := [.int .i64 (x14499.From), .int .i64 (x14499.To), .int .i64 (x14499.Dep), .int .i64 (x14499.Arr), .int .i64 (x14499.Km), .int .i64 (x14499.Units)]) 6 rfl agg36 hA14507 rfl (fun j u hu => hcs14506 j u hu)) ?_
            refine E_yes 46 84 rfl (st_move rfl) ?_
            refine E_yes 47 84 rfl (st_nil rfl) ?_
            refine E_yes 48 84 rfl (st_field rfl fld133_1) ?_
            refine E_yes 49 84 rfl (st_load 0 rfl one3 rfl rfl) ?_
            refine E_out ?_
            refine D_all [50] (by kernel_rfl) rfl ?_
            refine R_doY (Base.Le.refl _) rfl rfl 84 rfl rfl rfl (u_callW0 _ call45 rfl (fun w ho => cFleetFollows _ [] x14489 x14499 x19 x14509 hcl14510) (fun _ _ _ h => h.2.symm)) ?_ ?_
            ·
             rintro _ _ ⟨⟨_, rfl, _⟩, rfl⟩
             refine ⟨.inr (.cons_cons _ (sub_app hs2 (sub_app hs13530 (.refl _)))), ?_⟩
             refine E_in (.cons_cons _ (sub_app hs2 (sub_app hs13530 (.refl _)))) ?_
             refine E_yes 51 84 rfl (st_not rfl) ?_
             refine E_yes 52 80 rfl (st_pick_t rfl rfl) ?_
             refine E_st 53 rfl (st_pick_f rfl rfl) ?_
             refine E_out ?_
             refine D_done (by kernel_rfl) ?_
             obtain rfl := some1 hm
             refine x_front2 [_] hs2 hs13530 R rfl ?_
             refine x_front2 [_] hs13530 hs2 R rfl ?_
             exact x_join (e' := [(0, .pointer (some ⟨g11, 0, none⟩)), (1, .int .i64 (x12)), (2, .int .i64 (x13)), (8, .int .i64 (x11021)), (9, .int .i64 (x13532)), (10, .slice A14178 (x14162).length c14179), (111, .bool (!x14509))]) (hp' := (g11, Cl 133 [.slice A15 (l18).length c16, .int .i64 (x19), .slice A20 (l23).length c21, .int .i64 (x24), .int .i64 (x25), .int .i64 (x26), .slice A3 (l34).length c4, .slice A8 (l13540).length c9, .slice A13533 (l13536).length c13534, .int .i64 (x13539)]) :: (hs2 ++ (hs13530 ++ R))) ⟨rfl, rfl, rfl, rfl, rfl, rfl, rfl, trivial⟩ (.cons_cons _ (sub_app hs2 (sub_app hs13530 (.refl _)))) ⟨rfl, rfl, (Base.Le.refl _)⟩
            exact R_nil
           ·
            rw [if_neg hc14477] at hm
            refine D_drawS ((g11, Cl 133 [.slice A15 (l18).length c16, .int .i64 (x19), .slice A20 (l23).length c21, .int .i64 (x24), .int .i64 (x25), .int .i64 (x26), .slice A3 (l34).length c4, .slice A8 (l13540).length c9, .slice A13533 (l13536).length c13534, .int .i64 (x13539)]) :: (hs2 ++ (hs13530 ++ R))) mixed ?_
            refine E_in (.cons_cons _ (sub_app hs2 (sub_app hs13530 (.refl _)))) ?_
            refine E_st 0 rfl (st_move rfl) ?_
            refine E_st 1 rfl (st_len rfl sl45) ?_
            refine E_st 2 rfl (st_eql_t rfl rfl hc14455) ?_
            refine E_st 3 rfl (st_move rfl) ?_
            refine E_yes 4 61 rfl (st_move rfl) ?_
            refine E_yes 5 61 rfl (st_nil rfl) ?_
            refine E_yes 6 61 rfl (st_field rfl fld133_0) ?_
            refine E_yes 7 61 rfl (st_load 0 rfl one22 rfl rfl) ?_
            refine E_yes 8 61 rfl (st_move rfl) ?_
            obtain ⟨j14458, hj14459, hx14460⟩ := idx_some h14457
            obtain ⟨cs14461, hr14462, hcs14463, hA14464, hlt14465⟩ := FZ.get (sz := 6) rfl (by decide) (h17.le hle13528) hx14460
            obtain ⟨_, _, rfl, rfl, ⟨_, _, rfl, rfl, ⟨_, _, rfl, rfl, ⟨_, _, rfl, rfl, ⟨_, _, rfl, rfl, rfl⟩⟩⟩⟩⟩ := hr14462
            refine E_yes 9 61 rfl (st_index_old j14458 rfl rfl hj14459 hlt14465 hA14464 sl22) ?_
            refine E_yes 10 61 rfl (st_field_old rfl hA14464 fld36_0) ?_
            refine E_yes 11 61 rfl (st_load_old rfl one3 (hcs14463 0 _ rfl)) ?_
            refine E_yes 12 61 rfl (st_move rfl) ?_
            refine E_yes 13 61 rfl (st_nil rfl) ?_
            refine E_yes 14 61 rfl (st_field rfl fld133_2) ?_
            refine E_yes 15 61 rfl (st_load 0 rfl one38 rfl rfl) ?_
            refine E_yes 16 61 rfl (st_move rfl) ?_
            obtain ⟨j14468, hj14469, hx14470⟩ := idx_some h14467
            obtain ⟨cs14471, hr14472, hcs14473, hA14474, hlt14475⟩ := FZ.get (sz := 2) rfl (by decide) (h22.le hle13528) hx14470
            obtain ⟨_, _, rfl, rfl, rfl⟩ := hr14472
            refine E_yes 17 61 rfl (st_index_old j14468 rfl rfl hj14469 hlt14475 hA14474 sl38) ?_
            refine E_yes 18 61 rfl (st_field_old rfl hA14474 fld47_0) ?_
            refine E_yes 19 61 rfl (st_load_old rfl one3 (hcs14473 0 _ rfl)) ?_
            refine E_yes 20 61 rfl (st_neq_f rfl rfl hc14476) ?_
            refine E_st 21 rfl (st_pick_t rfl rfl) ?_
            refine E_st 22 rfl (st_move rfl) ?_
            refine E_yes 23 80 rfl (st_move rfl) ?_
            refine E_yes 24 80 rfl (st_len rfl sl45) ?_
            refine E_yes 25 80 rfl (st_gtr_f rfl rfl hc14477) ?_
            refine E_yes 26 80 rfl (st_move rfl) ?_
            refine E_no 27 84 rfl rfl rfl ?_
            refine E_no 28 84 rfl rfl rfl ?_
            refine E_no 29 84 rfl rfl rfl ?_
            refine E_no 30 84 rfl rfl rfl ?_
            refine E_no 31 84 rfl rfl rfl ?_
            refine E_no 32 84 rfl rfl rfl ?_
            refine E_no 33 84 rfl rfl rfl ?_
            refine E_no 34 84 rfl rfl rfl ?_
            refine E_no 35 84 rfl rfl rfl ?_
            refine E_no 36 84 rfl rfl rfl ?_
            refine E_no 37 84 rfl rfl rfl ?_
            refine E_no 38 84 rfl rfl rfl ?_
            refine E_no 39 84 rfl rfl rfl ?_
            refine E_no 40 84 rfl rfl rfl ?_
            refine E_no 41 84 rfl rfl rfl ?_
            refine E_no 42 84 rfl rfl rfl ?_
            refine E_no 43 84 rfl rfl rfl ?_
            refine E_no 44 84 rfl rfl rfl ?_
            refine E_no 45 84 rfl rfl rfl ?_
            refine E_no 46 84 rfl rfl rfl ?_
            refine E_no 47 84 rfl rfl rfl ?_
            refine E_no 48 84 rfl rfl rfl ?_
            refine E_no 49 84 rfl rfl rfl ?_
            refine E_no 50 84 rfl rfl rfl ?_
            refine E_no 51 84 rfl rfl rfl ?_
            refine E_yes 52 80 rfl (st_pick_f rfl rfl) ?_
            refine E_st 53 rfl (st_pick_f rfl rfl) ?_
            refine E_out ?_
            refine D_done (by kernel_rfl) ?_
            obtain rfl := some1 hm
            refine x_front2 [_] hs2 hs13530 R rfl ?_
            refine x_front2 [_] hs13530 hs2 R rfl ?_
            exact x_join (e' := [(0, .pointer (some ⟨g11, 0, none⟩)), (1, .int .i64 (x12)), (2, .int .i64 (x13)), (8, .int .i64 (x11021)), (9, .int .i64 (x13532)), (10, .slice A14178 (x14162).length c14179), (111, .bool (false))]) (hp' := (g11, Cl 133 [.slice A15 (l18).length c16, .int .i64 (x19), .slice A20 (l23).length c21, .int .i64 (x24), .int .i64 (x25), .int .i64 (x26), .slice A3 (l34).length c4, .slice A8 (l13540).length c9, .slice A13533 (l13536).length c13534, .int .i64 (x13539)]) :: (hs2 ++ (hs13530 ++ R))) ⟨rfl, rfl, rfl, rfl, rfl, rfl, rfl, trivial⟩ (.cons_cons _ (sub_app hs2 (sub_app hs13530 (.refl _)))) ⟨rfl, rfl, (Base.Le.refl _)⟩
         ·
          rw [if_neg hc14455] at hm
          by_cases hc14511 : 0 < (x14162.length : Int)
          ·
           rw [if_pos hc14511] at hm
           obtain ⟨_, h14512, hm⟩ := bindS hm
           obtain ⟨x14513, h14514, hm⟩ := bindS hm
           obtain ⟨x14523, h14524, hm⟩ := bindS hm
           obtain ⟨x14533, h14534, hm⟩ := bindS hm
           obtain ⟨x14543, hcl14544, hm⟩ := bindS hm
           refine D_drawS ((g11, Cl 133 [.slice A15 (l18).length c16, .int .i64 (x19), .slice A20 (l23).length c21, .int .i64 (x24), .int .i64 (x25), .int .i64 (x26), .slice A3 (l34).length c4, .slice A8 (l13540).length c9, .slice A13533 (l13536).length c13534, .int .i64 (x13539)]) :: (hs2 ++ (hs13530 ++ R))) mixed ?_
           refine E_in (.cons_cons _ (sub_app hs2 (sub_app hs13530 (.refl _)))) ?_
           refine E_st 0 rfl (st_move rfl) ?_
           refine E_st 1 rfl (st_len rfl sl45) ?_
           refine E_st 2 rfl (st_eql_f rfl rfl hc14455) ?_
           refine E_st 3 rfl (st_move rfl) ?_
           refine E_no 4 61 rfl rfl rfl ?_
           refine E_no 5 61 rfl rfl rfl ?_
           refine E_no 6 61 rfl rfl rfl ?_
           refine E_no 7 61 rfl rfl rfl ?_
           refine E_no 8 61 rfl rfl rfl ?_
           refine E_no 9 61 rfl rfl rfl ?_
           refine E_no 10 61 rfl rfl rfl ?_
           refine E_no 11 61 rfl rfl rfl ?_
           refine E_no 12 61 rfl rfl rfl ?_
           refine E_no 13 61 rfl rfl rfl ?_
           refine E_no 14 61 rfl rfl rfl ?_
           refine E_no 15 61 rfl rfl rfl ?_
           refine E_no 16 61 rfl rfl rfl ?_
           refine E_no 17 61 rfl rfl rfl ?_
           refine E_no 18 61 rfl rfl rfl ?_
           refine E_no 19 61 rfl rfl rfl ?_
           refine E_no 20 61 rfl rfl rfl ?_
           refine E_st 21 rfl (st_pick_f rfl rfl) ?_
           refine E_st 22 rfl (st_move rfl) ?_
           refine E_yes 23 80 rfl (st_move rfl) ?_
           refine E_yes 24 80 rfl (st_len rfl sl45) ?_
           refine E_yes 25 80 rfl (st_gtr_t rfl rfl hc14511) ?_
           refine E_yes 26 80 rfl (st_move rfl) ?_
           refine E_yes 27 84 rfl (st_move rfl) ?_
           refine E_yes 28 84 rfl (st_nil rfl) ?_
           refine E_yes 29 84 rfl (st_field rfl fld133_0) ?_
           refine E_yes 30 84 rfl (st_load 0 rfl one22 rfl rfl) ?_
           refine E_yes 31 84 rfl (st_move rfl) ?_
           refine E_yes 32 84 rfl (st_move rfl) ?_
           refine E_yes 33 84 rfl (st_len rfl sl45) ?_
           have h14512 := (chk_some h14512).2
           refine E_yes 34 84 rfl (st_sub rfl rfl h14512) ?_
           obtain ⟨j14515, hj14516, hx14517⟩ := idx_some h14514
           obtain ⟨cs14518, hr14519, hcs14520, hA14521, hlt14522⟩ := FZ.get (sz := 1) rfl (by decide) h14180 hx14517
           obtain rfl := hr14519
           refine E_yes 35 84 rfl (st_index_old j14515 rfl rfl hj14516 hlt14522 hA14521 sl45) ?_
           refine E_yes 36 84 rfl (st_load_old rfl one3 (hcs14520 0 _ rfl)) ?_
           obtain ⟨j14525, hj14526, hx14527⟩ := idx_some h14524
           obtain ⟨cs14528, hr14529, hcs14530, hA14531, hlt14532⟩ := FZ.get (sz := 6) rfl (by decide) (h17.le hle13528) hx14527
           obtain ⟨_, _, rfl, rfl, ⟨_, _, rfl, rfl, ⟨_, _, rfl, rfl, ⟨_, _, rfl, rfl, ⟨_, _, rfl, rfl, rfl⟩⟩⟩⟩⟩ := hr14529
           refine E_yes 37 84 rfl (st_index_old j14525 rfl rfl hj14526 hlt14532 hA14531 sl22) ?_
           refine E_yes 38 84 rfl (st_loadN_old (vs := [.int .i64 (x14523.From), .int .i64 (x14523.To), .int .i64 (x14523.Dep), .int .i64 (x14523.Arr), .int .i64 (x14523.Km), .int .i64 (x14523.Units)]) 6 rfl agg36 hA14531 rfl (fun j u hu => hcs14530 j u hu)) ?_
           refine E_yes 39 84 rfl (st_move rfl) ?_
           refine E_yes 40 84 rfl (st_nil rfl) ?_
           refine E_yes 41 84 rfl (st_field rfl fld133_0) ?_
           refine E_yes 42 84 rfl (st_load 0 rfl one22 rfl rfl) ?_
           refine E_yes 43 84 rfl (st_move rfl) ?_
           obtain ⟨j14535, hj14536, hx14537⟩ := idx_some h14534
           obtain ⟨cs14538, hr14539, hcs14540, hA14541, hlt14542⟩ := FZ.get (sz := 6) rfl (by decide) (h17.le hle13528) hx14537
           obtain ⟨_, _, rfl, rfl, ⟨_, _, rfl, rfl, ⟨_, _, rfl, rfl, ⟨_, _, rfl, rfl, ⟨_, _, rfl, rfl, rfl⟩⟩⟩⟩⟩ := hr14539
           refine E_yes 44 84 rfl (st_index_old j14535 rfl rfl hj14536 hlt14542 hA14541 sl22) ?_
           refine E_yes 45 84 rfl (st_loadN_old (vs := [.int .i64 (x14533.From), .int .i64 (x14533.To), .int .i64 (x14533.Dep), .int .i64 (x14533.Arr), .int .i64 (x14533.Km), .int .i64 (x14533.Units)]) 6 rfl agg36 hA14541 rfl (fun j u hu => hcs14540 j u hu)) ?_
           refine E_yes 46 84 rfl (st_move rfl) ?_
           refine E_yes 47 84 rfl (st_nil rfl) ?_
           refine E_yes 48 84 rfl (st_field rfl fld133_1) ?_
           refine E_yes 49 84 rfl (st_load 0 rfl one3 rfl rfl) ?_
           refine E_out ?_
           refine D_all [50] (by kernel_rfl) rfl ?_
           refine R_doY (Base.Le.refl _) rfl rfl 84 rfl rfl rfl (u_callW0 _ call45 rfl (fun w ho => cFleetFollows _ [] x14523 x14533 x19 x14543 hcl14544) (fun _ _ _ h => h.2.symm)) ?_ ?_
           ·
            rintro _ _ ⟨⟨_, rfl, _⟩, rfl⟩
            refine ⟨.inr (.cons_cons _ (sub_app hs2 (sub_app hs13530 (.refl _)))), ?_⟩
            refine E_in (.cons_cons _ (sub_app hs2 (sub_app hs13530 (.refl _)))) ?_
            refine E_yes 51 84 rfl (st_not rfl) ?_
            refine E_yes 52 80 rfl (st_pick_t rfl rfl) ?_
            refine E_st 53 rfl (st_pick_f rfl rfl) ?_
            refine E_out ?_
            refine D_done (by kernel_rfl) ?_
            obtain rfl := some1 hm
            refine x_front2 [_] hs2 hs13530 R rfl ?_
            refine x_front2 [_] hs13530 hs2 R rfl ?_
            exact x_join (e' := [(0, .pointer (some ⟨g11, 0, none⟩)), (1, .int .i64 (x12)), (2, .int .i64 (x13)), (8, .int .i64 (x11021)), (9, .int .i64 (x13532)), (10, .slice A14178 (x14162).length c14179), (111, .bool (!x14543))]) (hp' := (g11, Cl 133 [.slice A15 (l18).length c16, .int .i64 (x19), .slice A20 (l23).length c21, .int .i64 (x24), .int .i64 (x25), .int .i64 (x26), .slice A3 (l34).length c4, .slice A8 (l13540).length c9, .slice A13533 (l13536).length c13534, .int .i64 (x13539)]) :: (hs2 ++ (hs13530 ++ R))) ⟨rfl, rfl, rfl, rfl, rfl, rfl, rfl, trivial⟩ (.cons_cons _ (sub_app hs2 (sub_app hs13530 (.refl _)))) ⟨rfl, rfl, (Base.Le.refl _)⟩
           exact R_nil
          ·
           rw [if_neg hc14511] at hm
           refine D_drawS ((g11, Cl 133 [.slice A15 (l18).length c16, .int .i64 (x19), .slice A20 (l23).length c21, .int .i64 (x24), .int .i64 (x25), .int .i64 (x26), .slice A3 (l34).length c4, .slice A8 (l13540).length c9, .slice A13533 (l13536).length c13534, .int .i64 (x13539)]) :: (hs2 ++ (hs13530 ++ R))) mixed ?_
           refine E_in (.cons_cons _ (sub_app hs2 (sub_app hs13530 (.refl _)))) ?_
           refine E_st 0 rfl (st_move rfl) ?_
           refine E_st 1 rfl (st_len rfl sl45) ?_
           refine E_st 2 rfl (st_eql_f rfl rfl hc14455) ?_
           refine E_st 3 rfl (st_move rfl) ?_
           refine E_no 4 61 rfl rfl rfl ?_
           refine E_no 5 61 rfl rfl rfl ?_
           refine E_no 6 61 rfl rfl rfl ?_
           refine E_no 7 61 rfl rfl rfl ?_
           refine E_no 8 61 rfl rfl rfl ?_
           refine E_no 9 61 rfl rfl rfl ?_
           refine E_no 10 61 rfl rfl rfl ?_
           refine E_no 11 61 rfl rfl rfl ?_
           refine E_no 12 61 rfl rfl rfl ?_
           refine E_no 13 61 rfl rfl rfl ?_
           refine E_no 14 61 rfl rfl rfl ?_
           refine E_no 15 61 rfl rfl rfl ?_
           refine E_no 16 61 rfl rfl rfl ?_
           refine E_no 17 61 rfl rfl rfl ?_
           refine E_no 18 61 rfl rfl rfl ?_
           refine E_no 19 61 rfl rfl rfl ?_
           refine E_no 20 61 rfl rfl rfl ?_
           refine E_st 21 rfl (st_pick_f rfl rfl) ?_
           refine E_st 22 rfl (st_move rfl) ?_
           refine E_yes 23 80 rfl (st_move rfl) ?_
           refine E_yes 24 80 rfl (st_len rfl sl45) ?_
           refine E_yes 25 80 rfl (st_gtr_f rfl rfl hc14511) ?_
           refine E_yes 26 80 rfl (st_move rfl) ?_
           refine E_no 27 84 rfl rfl rfl ?_
           refine E_no 28 84 rfl rfl rfl ?_
           refine E_no 29 84 rfl rfl rfl ?_
           refine E_no 30 84 rfl rfl rfl ?_
           refine E_no 31 84 rfl rfl rfl ?_
           refine E_no 32 84 rfl rfl rfl ?_
           refine E_no 33 84 rfl rfl rfl ?_
           refine E_no 34 84 rfl rfl rfl ?_
           refine E_no 35 84 rfl rfl rfl ?_
           refine E_no 36 84 rfl rfl rfl ?_
           refine E_no 37 84 rfl rfl rfl ?_
           refine E_no 38 84 rfl rfl rfl ?_
           refine E_no 39 84 rfl rfl rfl ?_
           refine E_no 40 84 rfl rfl rfl ?_
           refine E_no 41 84 rfl rfl rfl ?_
           refine E_no 42 84 rfl rfl rfl ?_
           refine E_no 43 84 rfl rfl rfl ?_
           refine E_no 44 84 rfl rfl rfl ?_
           refine E_no 45 84 rfl rfl rfl ?_
           refine E_no 46 84 rfl rfl rfl ?_
           refine E_no 47 84 rfl rfl rfl ?_
           refine E_no 48 84 rfl rfl rfl ?_
           refine E_no 49 84 rfl rfl rfl ?_
           refine E_no 50 84 rfl rfl rfl ?_
           refine E_no 51 84 rfl rfl rfl ?_
           refine E_yes 52 80 rfl (st_pick_f rfl rfl) ?_
           refine E_st 53 rfl (st_pick_f rfl rfl) ?_
           refine E_out ?_
           refine D_done (by kernel_rfl) ?_
           obtain rfl := some1 hm
           refine x_front2 [_] hs2 hs13530 R rfl ?_
           refine x_front2 [_] hs13530 hs2 R rfl ?_
           exact x_join (e' := [(0, .pointer (some ⟨g11, 0, none⟩)), (1, .int .i64 (x12)), (2, .int .i64 (x13)), (8, .int .i64 (x11021)), (9, .int .i64 (x13532)), (10, .slice A14178 (x14162).length c14179), (111, .bool (false))]) (hp' := (g11, Cl 133 [.slice A15 (l18).length c16, .int .i64 (x19), .slice A20 (l23).length c21, .int .i64 (x24), .int .i64 (x25), .int .i64 (x26), .slice A3 (l34).length c4, .slice A8 (l13540).length c9, .slice A13533 (l13536).length c13534, .int .i64 (x13539)]) :: (hs2 ++ (hs13530 ++ R))) ⟨rfl, rfl, rfl, rfl, rfl, rfl, rfl, trivial⟩ (.cons_cons _ (sub_app hs2 (sub_app hs13530 (.refl _)))) ⟨rfl, rfl, (Base.Le.refl _)⟩
        ·
         rintro b14361 _ _ ⟨rfl, rfl, hle14362⟩
         have hm := hk14364
         refine c_cond _ rfl (fun hc14545 => ?_) (fun hc14545 => ?_)
         ·
          rw [if_pos hc14545] at hm
          refine c_exit ?_
          refine x_then_exit ?_
          refine x_block_out ?_
          obtain ⟨rfl, rfl, rfl, rfl⟩ := some4 hm
          refine x_front2 [_] hs2 hs13530 R rfl ?_
          refine x_front2 [_] hs13530 hs2 R rfl ?_
          exact x_join (e' := [(0, .pointer (some ⟨g11, 0, none⟩)), (1, .int .i64 (x12)), (2, .int .i64 (x13)), (8, .int .i64 (x11021)), (9, .int .i64 (x13532))]) (hp' := (g11, Cl 133 [.slice A15 (l18).length c16, .int .i64 (x19), .slice A20 (l23).length c21, .int .i64 (x24), .int .i64 (x25), .int .i64 (x26), .slice A3 (l34).length c4, .slice A8 (l13540).length c9, .slice A13533 (l13536).length c13534, .int .i64 (x13539)]) :: (hs2 ++ (hs13530 ++ R))) ⟨rfl, rfl, rfl, rfl, rfl, trivial⟩ (.cons_cons _ (sub_app hs2 (sub_app hs13530 (.refl _)))) ⟨A13533, c13534, hs13530, rfl, rfl, hle14362, (h13535.le hle14362), hzn13538, (h13531.le hle14362), hln13541⟩
         ·
          rw [if_neg (fun hh => Bool.noConfusion (hh.symm.trans hc14545))] at hm
          refine c_skip ?_
          refine x_then_normal ?_
          obtain ⟨l14637, hj14639, hk14639⟩ := bindS hm
          refine c_join (fun b14632 e' hp' => ∃ (hs14635 : Hp), [(0, .pointer (some ⟨g11, 0, none⟩)), (1, .int .i64 (x12)), (2, .int .i64 (x13)), (8, .int .i64 (x11021)), (9, .int .i64 (x13532)), (10, .slice A14178 (x14162).length c14179)] = e' ∧ (g11, Cl 133 [.slice A15 (l18).length c16, .int .i64 (x19), .slice A20 (l23).length c21, .int .i64 (x24), .int .i64 (x25), .int .i64 (x26), .slice A3 (l34).length c4, .slice A8 (l14637).length c9, .slice A13533 (l13536).length c13534, .int .i64 (x13539)]) :: (hs2 ++ (hs14635 ++ R)) = hp' ∧ b14361.Le b14632 ∧ OS 45 (OT.fr (RT.list (RT.int .i64))) b14632.w (.slice A8 l14637.length c9) l14637 hs14635 ∧ l14637.length = l35.length) ?_ ?_
          ·
           have hm := hj14639
           obtain ⟨l14683, hcl14684, hm⟩ := bindS hm
           obtain ⟨_, h14692, hm⟩ := bindS hm
           obtain ⟨x14697, h14698, hm⟩ := bindS hm
           refine c_front2 [_] hs2 hs13530 R rfl ?_
           refine D_drawS ((g11, Cl 133 [.slice A15 (l18).length c16, .int .i64 (x19), .slice A20 (l23).length c21, .int .i64 (x24), .int .i64 (x25), .int .i64 (x26), .slice A3 (l34).length c4, .slice A8 (l13540).length c9, .slice A13533 (l13536).length c13534, .int .i64 (x13539)]) :: (hs13530 ++ (hs2 ++ R))) mixed ?_
           refine E_in (.cons_cons _ (sub_app hs13530 (sub_app hs2 (.refl _)))) ?_
           refine E_st 0 rfl (st_move rfl) ?_
           refine E_st 1 rfl (st_nil rfl) ?_
           refine E_st 2 rfl (st_field rfl fld133_5) ?_
           refine E_st 3 rfl (st_load 0 rfl one26 rfl rfl) ?_
           refine E_st 4 rfl (st_move rfl) ?_
           refine E_st 5 rfl (st_move rfl) ?_
           refine E_st 7 rfl (st_move rfl) ?_
           refine E_out ?_
           refine D_all [6, 8] (by kernel_rfl) rfl ?_
           refine R_callGl (Base.Le.refl _) rfl rfl _ call66 rfl (cSlicesClone_2 _ _ x14162 A14178 c14179 (h14180.le hle14362) l14683 hcl14684) ?_ ?_
           ·
            rintro _ b14685 _ hle14686 ⟨A14687, c14688, hs14689, rfl, rfl, h14690⟩
            refine ⟨.inr (sub_skip hs14689 (.cons_cons _ (sub_app hs13530 (sub_app hs2 (.refl _))))), ?_⟩
            refine d_in1 [] [_] hs14689 (hs13530 ++ (hs2 ++ R)) rfl ?_
            refine D_all [8] (by kernel_rfl) rfl ?_
            refine R_do hle14686 rfl rfl (u_bslice (el := 3) [(0, .int .i64 (x11021))] [.int .i64 (x11021)] rfl (fun _ => by kernel_rfl)) ?_ ?_
            ·
             rintro _ _ ⟨g14691, rfl, rfl⟩
             refine ⟨.inr (.cons _ (.cons_cons _ (sub_skip hs14689 (sub_app hs13530 (sub_app hs2 (.refl _)))))), ?_⟩
             have h14692 := room_some h14692
             refine D_all [9] (by kernel_rfl) rfl ?_
             refine R_do hle14686 rfl rfl (u_appOS (r := (RT.int .i64)) (l := l14683) [_, _] (hs13530 ++ (hs2 ++ R)) [[.int .i64 (x11021)]] [x11021] rfl (by decide) sl45 inf3 rfl rfl rfl rfl h14690 rfl (fun w ho => Rd.own (i := 0) ho rfl) ⟨rfl, trivial⟩ h14692) ?_ ?_
             ·
              rintro _ _ ⟨hs14693, rfl, h14694⟩
              obtain ⟨A14695, c14696, rfl, _⟩ := h14694.form
              refine ⟨.inr (.cons _ (.cons_cons _ (sub_skip hs14693 (sub_app hs13530 (sub_app hs2 (.refl _)))))), ?_⟩
              obtain ⟨j14699, hj14700, hx14701⟩ := idx_some h14698
              obtain ⟨cs14702, hs14707, P14708, P14709, hq14710, hr14703, hcs14704, hA14705, hlt14706, hb14711, hho14712⟩ := OS.get (sz := 1) rfl (by decide) (h13531.le hle14362) hx14701
              obtain ⟨⟨A14713, c14714, rfl, h14715⟩, rfl⟩ := hr14703
              refine D_st hle14686 10 rfl (by kernel_rfl) (by kernel_rfl) (by kernel_rfl) rfl (st_index_old j14699 rfl rfl hj14700 hlt14706 hA14705 sl26) (.cons _ (.cons_cons _ (sub_skip hs14693 (sub_app hs13530 (sub_app hs2 (.refl _)))))) ?_
              have hnz14718 : (A14695 = none ↔ l14683 ++ [x11021] = []) := (OS.nz h14694 (by simp))
              refine d_frz [_, _] hs14693 (hs13530 ++ (hs2 ++ R)) rfl ?_
              intro b14719 hle14720 hz14721
              have h14722 := OS.frz (l := l14683 ++ [x11021]) h14694 hle14720.cells hz14721
              refine D_all [11] (by kernel_rfl) rfl ?_
              refine R_do (hle14686.trans hle14720) rfl rfl (u_putOS hj14700 (sz := 1) (a' := l14683 ++ [x11021]) rfl [_, _] (hs2 ++ R) 0 1 [.slice A14695 (l14683 ++ [x11021]).length c14696] rfl (h13531.le (hle14362.trans (hle14686.trans hle14720))) hx14701 rfl rfl rfl siz45 rfl (by intro u hu; simp only [List.mem_cons, List.not_mem_nil, or_false] at hu; subst hu; rfl) (fun cs hsj hh => by obtain ⟨⟨A14723, c14724, rfl, h14725⟩, rfl⟩ := hh; exact ⟨by decide, (RT.list_mk h14722), rfl⟩)) ?_ ?_
              ·
               rintro _ _ ⟨hs14716, rfl, h14717⟩
               refine ⟨.inl (by kernel_rfl), ?_⟩
               refine d_hresp 1 rfl (o' := Cl 133 [.slice A15 (l18).length c16, .int .i64 (x19), .slice A20 (l23).length c21, .int .i64 (x24), .int .i64 (x25), .int .i64 (x26), .slice A3 (l34).length c4, .slice A8 (put l13540 x13532 (l14683 ++ [x11021])).length c9, .slice A13533 (l13536).length c13534, .int .i64 (x13539)]) (by simp only [put_length]) ?_
               refine D_done (by kernel_rfl) ?_
               obtain rfl := some1 hm
               refine x_pullb 1 rfl ?_
               refine x_front2 [_, _] hs14716 hs2 R rfl ?_
               exact x_join (e' := [(0, .pointer (some ⟨g11, 0, none⟩)), (1, .int .i64 (x12)), (2, .int .i64 (x13)), (8, .int .i64 (x11021)), (9, .int .i64 (x13532)), (10, .slice A14178 (x14162).length c14179)]) (hp' := (g11, Cl 133 [.slice A15 (l18).length c16, .int .i64 (x19), .slice A20 (l23).length c21, .int .i64 (x24), .int .i64 (x25), .int .i64 (x26), .slice A3 (l34).length c4, .slice A8 (put l13540 x13532 (l14683 ++ [x11021])).length c9, .slice A13533 (l13536).length c13534, .int .i64 (x13539)]) :: (hs2 ++ (hs14716 ++ R))) ⟨rfl, rfl, rfl, rfl, rfl, rfl, trivial⟩ (.cons_cons _ (.cons _ (sub_app hs2 (sub_app hs14716 (.refl _))))) ⟨hs14716, rfl, rfl, (hle14686.trans hle14720), h14717, ((put_length _ _ _).trans hln13541)⟩
              exact R_nil
             exact R_nil
            exact R_nil
           refine R_do (Base.Le.refl _) rfl rfl (u_bslice (el := 3) [(0, .int .i64 (x11021))] [.int .i64 (x11021)] rfl (fun _ => by kernel_rfl)) ?_ ?_
           ·
            rintro _ _ ⟨g14691, rfl, rfl⟩
            refine ⟨.inr (.cons _ (.cons_cons _ (sub_app hs13530 (sub_app hs2 (.refl _))))), ?_⟩
            refine D_all [6] (by kernel_rfl) rfl ?_
            refine R_callGl (Base.Le.refl _) rfl rfl _ call66 rfl (cSlicesClone_2 _ _ x14162 A14178 c14179 (h14180.le hle14362) l14683 hcl14684) ?_ ?_
            ·
             rintro _ b14685 _ hle14686 ⟨A14687, c14688, hs14689, rfl, rfl, h14690⟩
             refine ⟨.inr (sub_skip hs14689 (.cons _ (.cons_cons _ (sub_app hs13530 (sub_app hs2 (.refl _)))))), ?_⟩
             refine d_in1 [] [_, _] hs14689 (hs13530 ++ (hs2 ++ R)) rfl ?_
             have h14692 := room_some h14692
             refine D_all [9] (by kernel_rfl) rfl ?_
             refine R_do hle14686 rfl rfl (u_appOS (r := (RT.int .i64)) (l := l14683) [_, _] (hs13530 ++ (hs2 ++ R)) [[.int .i64 (x11021)]] [x11021] rfl (by decide) sl45 inf3 rfl rfl rfl rfl h14690 rfl (fun w ho => Rd.own (i := 0) ho rfl) ⟨rfl, trivial⟩ h14692) ?_ ?_
             ·
              rintro _ _ ⟨hs14693, rfl, h14694⟩
              obtain ⟨A14695, c14696, rfl, _⟩ := h14694.form
              refine ⟨.inr (.cons _ (.cons_cons _ (sub_skip hs14693 (sub_app hs13530 (sub_app hs2 (.refl _)))))), ?_⟩
              obtain ⟨j14699, hj14700, hx14701⟩ := idx_some h14698
              obtain ⟨cs14702, hs14707, P14708, P14709, hq14710, hr14703, hcs14704, hA14705, hlt14706, hb14711, hho14712⟩ := OS.get (sz := 1) rfl (by decide) (h13531.le hle14362) hx14701
              obtain ⟨⟨A14713, c14714, rfl, h14715⟩, rfl⟩ := hr14703
              refine D_st hle14686 10 rfl (by kernel_rfl) (by kernel_rfl) (by kernel_rfl) rfl (st_index_old j14699 rfl rfl hj14700 hlt14706 hA14705 sl26) (.cons _ (.cons_cons _ (sub_skip hs14693 (sub_app hs13530 (sub_app hs2 (.refl _)))))) ?_
              have hnz14718 : (A14695 = none ↔ l14683 ++ [x11021] = []) := (OS.nz h14694 (by simp))
              refine d_frz [_, _] hs14693 (hs13530 ++ (hs2 ++ R)) rfl ?_
              intro b14719 hle14720 hz14721
              have h14722 := OS.frz (l := l14683 ++ [x11021]) h14694 hle14720.cells hz14721
              refine D_all [11] (by kernel_rfl) rfl ?_
              refine R_do (hle14686.trans hle14720) rfl rfl (u_putOS hj14700 (sz := 1) (a' := l14683 ++ [x11021]) rfl [_, _] (hs2 ++ R) 0 1 [.slice A14695 (l14683 ++ [x11021]).length c14696] rfl (h13531.le (hle14362.trans (hle14686.trans hle14720))) hx14701 rfl rfl rfl siz45 rfl (by intro u hu; simp only [List.mem_cons, List.not_mem_nil, or_false] at hu; subst hu; rfl) (fun cs hsj hh => by obtain ⟨⟨A14723, c14724, rfl, h14725⟩, rfl⟩ := hh; exact ⟨by decide, (RT.list_mk h14722), rfl⟩)) ?_ ?_
              ·
               rintro _ _ ⟨hs14716, rfl, h14717⟩
               refine ⟨.inl (by kernel_rfl), ?_⟩
               refine d_hresp 1 rfl (o' := Cl 133 [.slice A15 (l18).length c16, .int .i64 (x19), .slice A20 (l23).length c21, .int .i64 (x24), .int .i64 (x25), .int .i64 (x26), .slice A3 (l34).length c4, .slice A8 (put l13540 x13532 (l14683 ++ [x11021])).length c9, .slice A13533 (l13536).length c13534, .int .i64 (x13539)]) (by simp only [put_length]) ?_
               refine D_done (by kernel_rfl) ?_
               obtain rfl := some1 hm
               refine x_pullb 1 rfl ?_
               refine x_front2 [_, _] hs14716 hs2 R rfl ?_
               exact x_join (e' := [(0, .pointer (some ⟨g11, 0, none⟩)), (1, .int .i64 (x12)), (2, .int .i64 (x13)), (8, .int .i64 (x11021)), (9, .int .i64 (x13532)), (10, .slice A14178 (x14162).length c14179)]) (hp' := (g11, Cl 133 [.slice A15 (l18).length c16, .int .i64 (x19), .slice A20 (l23).length c21, .int .i64 (x24), .int .i64 (x25), .int .i64 (x26), .slice A3 (l34).length c4, .slice A8 (put l13540 x13532 (l14683 ++ [x11021])).length c9, .slice A13533 (l13536).length c13534, .int .i64 (x13539)]) :: (hs2 ++ (hs14716 ++ R))) ⟨rfl, rfl, rfl, rfl, rfl, rfl, trivial⟩ (.cons_cons _ (.cons _ (sub_app hs2 (sub_app hs14716 (.refl _))))) ⟨hs14716, rfl, rfl, (hle14686.trans hle14720), h14717, ((put_length _ _ _).trans hln13541)⟩
              exact R_nil
             exact R_nil
            exact R_nil
           exact R_nil
          ·
           rintro b14632 _ _ ⟨hs14635, rfl, rfl, hle14633, h14636, hln14638⟩
           have hm := hk14639
           refine c_seq ?_
           refine c_region ?_
           refine t_st rfl (st_move rfl) ?_
           refine t_st rfl (st_move rfl) ?_
           refine t_st rfl (st_move rfl) ?_
           obtain ⟨_, h14726, hm⟩ := bindS hm
           have h14726 := (chk_some h14726).2
           refine t_st rfl (st_add rfl rfl h14726) ?_
           refine t_st rfl (st_move rfl) ?_
           obtain ⟨_, h14727, hm⟩ := bindS hm
           have h14727 := (chk_some h14727).2
           refine t_st rfl (st_add rfl rfl h14727) ?_
           obtain ⟨⟨l14728, z14729, x14730, l14731⟩, hcl14732, hm⟩ := bindS hm
           have hm := (unc4E hm)
           refine t_front2 [_] hs2 hs14635 R rfl ?_
           refine t_front2 [_] hs14635 hs2 R rfl ?_
           refine t_out2 [_] [] hs2 hs14635 R rfl ?_
           refine t_callG _ rfl call67 rfl (ih _ _ x12 (x13 + 1) (x13532 + 1) l18 x19 l23 x24 x25 x26 l13536 z13537 x13539 l34 l14637 z36 g11 A15 c16 A20 c21 A13533 c13534 A3 c4 hs2 A8 c9 hs14635 (h17.le (hle13528.trans (hle14362.trans hle14633))) (h22.le (hle13528.trans (hle14362.trans hle14633))) (h13535.le (hle14362.trans hle14633)) hzn13538 (h5.le (hle13528.trans (hle14362.trans hle14633))) h14636 hzn37 l14728 z14729 x14730 l14731 hcl14732) ?_
           rintro _ b14733 _ hle14734 ⟨A14735, c14736, hs14737, rfl, rfl, h14738, h14739, h14740, h14741⟩
           refine t_in2 [_] [] hs2 hs14737 R rfl ?_
           refine t_hresp 0 rfl (o' := Cl 133 [.slice A15 (l18).length c16, .int .i64 (x19), .slice A20 (l23).length c21, .int .i64 (x24), .int .i64 (x25), .int .i64 (x26), .slice A3 (l34).length c4, .slice A8 (l14731).length c9, .slice A14735 (l14728).length c14736, .int .i64 (x14730)]) (by simp only [h14741]) ?_
           refine t_nil ?_
           refine x_then_normal ?_
           refine c_region ?_
           refine t_st rfl (st_move rfl) ?_
           refine t_st rfl (st_nil rfl) ?_
           refine t_st rfl (st_field rfl fld133_5) ?_
           refine t_st rfl (st_load 0 rfl one26 rfl rfl) ?_
           refine t_st rfl (st_move rfl) ?_
           refine t_st rfl (st_move rfl) ?_
           obtain ⟨x14742, h14743, hm⟩ := bindS hm
           obtain ⟨j14744, hj14745, hx14746⟩ := idx_some h14743
           obtain ⟨cs14747, hs14752, P14753, P14754, hq14755, hr14748, hcs14749, hA14750, hlt14751, hb14756, hho14757⟩ := OS.get (sz := 1) rfl (by decide) h14740 hx14746
           obtain ⟨⟨A14758, c14759, rfl, h14760⟩, rfl⟩ := hr14748
           refine t_st rfl (st_index_old j14744 rfl rfl hj14745 hlt14751 hA14750 sl26) ?_
           refine t_front2 [_] hs2 hs14737 R rfl ?_
           refine t_do rfl (u_putOS hj14745 (sz := 1) (a' := x14162) rfl [_] (hs2 ++ R) 0 1 [.slice A14178 (x14162).length c14179] rfl h14740 hx14746 rfl rfl rfl siz45 rfl (by intro u hu; simp only [List.mem_cons, List.not_mem_nil, or_false] at hu; subst hu; rfl) (fun cs hsj hh => by obtain ⟨⟨A14763, c14764, rfl, h14765⟩, rfl⟩ := hh; exact ⟨by decide, (RT.list_mk (h14180.le (hle14362.trans (hle14633.trans hle14734)))), rfl⟩)) ?_
           rintro _ _ ⟨hs14761, rfl, h14762⟩
           refine t_hresp 0 rfl (o' := Cl 133 [.slice A15 (l18).length c16, .int .i64 (x19), .slice A20 (l23).length c21, .int .i64 (x24), .int .i64 (x25), .int .i64 (x26), .slice A3 (l34).length c4, .slice A8 (put l14731 x13532 x14162).length c9, .slice A14735 (l14728).length c14736, .int .i64 (x14730)]) (by simp only [put_length]) ?_
           refine t_nil ?_
           refine x_block_normal ?_
           obtain ⟨rfl, rfl, rfl, rfl⟩ := some4 hm
           refine x_front2 [_] hs14761 hs2 R rfl ?_
           exact x_join (e' := [(0, .pointer (some ⟨g11, 0, none⟩)), (1, .int .i64 (x12)), (2, .int .i64 (x13)), (8, .int .i64 (x11021)), (9, .int .i64 (x13532))]) (hp' := (g11, Cl 133 [.slice A15 (l18).length c16, .int .i64 (x19), .slice A20 (l23).length c21, .int .i64 (x24), .int .i64 (x25), .int .i64 (x26), .slice A3 (l34).length c4, .slice A8 (put l14731 x13532 x14162).length c9, .slice A14735 (l14728).length c14736, .int .i64 (x14730)]) :: (hs2 ++ (hs14761 ++ R))) ⟨rfl, rfl, rfl, rfl, rfl, trivial⟩ (.cons_cons _ (sub_app hs2 (sub_app hs14761 (.refl _)))) ⟨A14735, c14736, hs14761, rfl, rfl, (hle14362.trans (hle14633.trans hle14734)), h14738, h14739, h14762, ((put_length _ _ _).trans (h14741.trans hln14638))⟩
       ·
        rintro b14147 _ _ ⟨A14152, c14153, hs14150, rfl, rfl, hle14148, h14154, hzn14157, h14151, hln14160⟩
        have hm := (unc4E hk14161)
        refine c_region ?_
        refine t_st rfl (st_move rfl) ?_
        obtain ⟨_, h14766, hm⟩ := bindS hm
        have h14766 := (chk_some h14766).2
        refine t_st rfl (st_add rfl rfl h14766) ?_
        refine t_st rfl (st_assign rfl) ?_
        refine t_nil ?_
        refine x_front2 [_] hs2 hs14150 R rfl ?_
        refine x_front2 [_] hs14150 hs2 R rfl ?_
        exact x_againM (x13532 + 1, l14155, z14156, x14158, l14159) (Option.some.inj hm).symm (e' := [(0, .pointer (some ⟨g11, 0, none⟩)), (1, .int .i64 (x12)), (2, .int .i64 (x13)), (8, .int .i64 (x11021)), (9, .int .i64 (x13532 + 1))]) (hp' := (g11, Cl 133 [.slice A15 (l18).length c16, .int .i64 (x19), .slice A20 (l23).length c21, .int .i64 (x24), .int .i64 (x25), .int .i64 (x26), .slice A3 (l34).length c4, .slice A8 (l14159).length c9, .slice A14152 (l14155).length c14153, .int .i64 (x14158)]) :: (hs2 ++ (hs14150 ++ R))) ⟨rfl, rfl, rfl, rfl, rfl, trivial⟩ (.cons_cons _ (sub_app hs2 (sub_app hs14150 (.refl _)))) ⟨A14152, c14153, hs14150, rfl, rfl, ((hle13528.trans hle14148)), h14154, hzn14157, h14151, hln14160⟩
      ·
       rw [if_neg (of_decide_eq_false hc13542)] at hm
       refine c_exit ?_
       refine x_then_exit ?_
       refine x_then_exit ?_
       refine x_block_out ?_
       have hm := congrArg some (houtL11063 _ (Option.some.inj hm).symm)
       obtain ⟨rfl, rfl, rfl, rfl⟩ := some4 hm
       refine x_front2 [_] hs2 hs13530 R rfl ?_
       refine x_front2 [_] hs13530 hs2 R rfl ?_
       exact endM hle13528 rfl (.cons_cons _ (sub_app hs2 (sub_app hs13530 (.refl _)))) ⟨A13533, c13534, hs13530, rfl, rfl, h13535, hzn13538, h13531, hln13541⟩

set_option maxRecDepth 20000 in
theorem cFleetAssign (b : Base) (R : Hp) (l4 : (List FleetTask)) (x5 : Int) (l9 : (List FleetSet)) (s10 : FleetShop) (A1 : Option Addr) (c2 : Nat) (A6 : Option Addr) (c7 : Nat) (h3 : FZ rFleetTask b.w A1 c2 l4) (h8 : FZ rFleetSet b.w A6 c7 l9) (l380 : (List (List Int))) (z381 : Bool) (x383 : Int) (l384 : (List (List Int))) (hm : mFleetAssign l4 x5 l9 s10 = some (l380, z381, x383, l384)) :
    CallsG Try.prog 32 [.slice A1 (l4).length c2, .int .i64 (x5), .slice A6 (l9).length c7, .agg #[.int .i64 (s10.Place), .int .i64 (s10.Long), .int .i64 (s10.Limit)]] b (R) (fun v b' hp' => ∃ (A377 : Option Addr), ∃ (c378 : Nat), ∃ (A374 : Option Addr), ∃ (c375 : Nat), ∃ (hs373 : Hp), .tuple #[.slice A377 (l380).length c378, .slice A374 (l384).length c375, .int .i64 (x383)] = v ∧ (hs373 ++ R) = hp' ∧ FZ (RT.list (RT.int .i64)) b'.w A377 c378 l380 ∧ (A377 = none ↔ z381 = true) ∧ OS 45 (OT.fr (RT.list (RT.int .i64))) b'.w (.slice A374 l384.length c375) l384 hs373) := by
  refine fn_enterG 106 Try.func32 rfl Try.ntmps32 rfl ?_
  unfold mFleetAssign at hm
  refine c_seq ?_
  refine c_region ?_
  refine t_do rfl (u_box _ rfl rfl) ?_
  rintro _ _ ⟨g385, rfl, rfl⟩
  refine t_st rfl (st_assign rfl) ?_
  refine t_st rfl (st_assign rfl) ?_
  refine t_st rfl (st_assign rfl) ?_
  refine t_nil ?_
  refine x_then_normal ?_
  refine c_seq ?_
  refine c_seq ?_
  refine c_region ?_
  refine t_st rfl (st_move rfl) ?_
  refine t_st rfl (st_move rfl) ?_
  obtain ⟨x386, hcl387, hm⟩ := bindS hm
  refine t_do rfl (u_callW0 _ call43 rfl (fun w ho => cFleetCheckTurn _ [] l4 x5 A1 c2 (h3.old ho) x386 hcl387) (fun _ _ _ h => h.2.symm)) ?_
  rintro _ _ ⟨⟨_, rfl, _⟩, rfl⟩
  refine t_st rfl (st_assign rfl) ?_
  refine t_nil ?_
  refine x_then_normal ?_
  refine c_seq ?_
  refine c_region ?_
  refine t_st rfl (st_move rfl) ?_
  refine t_st rfl (st_neq rfl rfl) ?_
  refine t_nil ?_
  refine x_then_normal ?_
  refine c_cond _ rfl (fun hc388 => ?_) (fun hc388 => ?_)
  ·
   rw [if_pos (of_decide_eq_true hc388)] at hm
   refine c_seq ?_
   refine c_region ?_
   refine t_st rfl (st_move rfl) ?_
   refine t_st rfl (st_assign rfl) ?_
   refine t_st rfl (st_assign rfl) ?_
   refine t_st rfl (st_assign rfl) ?_
   refine t_nil ?_
   refine x_then_normal ?_
   refine c_ret ?_
   refine x_then_ret ?_
   obtain ⟨rfl, rfl, rfl, rfl⟩ := some4 hm
   exact retM (rs := [.tmp 8, .tmp 9, .tmp 10]) [.slice none 0 0, .slice none 0 0, .int .i64 (x386)] (Base.Le.refl _) (by decide) rfl ⟨rfl, ⟨rfl, ⟨rfl, trivial⟩⟩⟩ rfl (hp' := ([] ++ R)) (.cons _ (.refl _)) ⟨none, 0, none, 0, [], rfl, rfl, FZ.nil, ⟨fun _ => rfl, fun _ => rfl⟩, OS.nil⟩
  ·
   rw [if_neg (of_decide_eq_false hc388)] at hm
   refine c_skip ?_
   refine x_then_normal ?_
   refine c_seq ?_
   refine c_seq ?_
   refine c_region ?_
   refine t_st rfl (st_move rfl) ?_
   refine t_st rfl (st_loadD (vs := [_, _, _]) 0 3 rfl agg40 rfl rfl rfl) ?_
   obtain ⟨x389, hcl390, hm⟩ := bindS hm
   refine t_do rfl (u_callW0 _ call48 rfl (fun w ho => cFleetCheckSets _ [] l9 s10 6 A6 c7 (h8.old ho) x389 hcl390) (fun _ _ _ h => h.2.symm)) ?_
   rintro _ _ ⟨⟨_, rfl, _⟩, rfl⟩
   refine t_st rfl (st_assign rfl) ?_
   refine t_nil ?_
   refine x_then_normal ?_
   refine c_seq ?_
   refine c_region ?_
   refine t_st rfl (st_move rfl) ?_
   refine t_st rfl (st_neq rfl rfl) ?_
   refine t_nil ?_
   refine x_then_normal ?_
   refine c_cond _ rfl (fun hc391 => ?_) (fun hc391 => ?_)
   ·
    rw [if_pos (of_decide_eq_true hc391)] at hm
    refine c_seq ?_
    refine c_region ?_
    refine t_st rfl (st_move rfl) ?_
    refine t_st rfl (st_assign rfl) ?_
    refine t_st rfl (st_assign rfl) ?_
    refine t_st rfl (st_assign rfl) ?_
    refine t_nil ?_
    refine x_then_normal ?_
    refine c_ret ?_
    refine x_then_ret ?_
    obtain ⟨rfl, rfl, rfl, rfl⟩ := some4 hm
    exact retM (rs := [.tmp 8, .tmp 9, .tmp 10]) [.slice none 0 0, .slice none 0 0, .int .i64 (x389)] (Base.Le.refl _) (by decide) rfl ⟨rfl, ⟨rfl, ⟨rfl, trivial⟩⟩⟩ rfl (hp' := ([] ++ R)) (.cons _ (.refl _)) ⟨none, 0, none, 0, [], rfl, rfl, FZ.nil, ⟨fun _ => rfl, fun _ => rfl⟩, OS.nil⟩
   ·
    rw [if_neg (of_decide_eq_false hc391)] at hm
    refine c_skip ?_
    refine x_then_normal ?_
    refine c_seq ?_
    refine c_region ?_
    refine t_st rfl (st_assign rfl) ?_
    refine t_nil ?_
    refine x_then_normal ?_
    refine c_seq ?_
    refine c_seq ?_
    refine c_region ?_
    refine t_st rfl (st_move rfl) ?_
    refine t_st rfl (st_len rfl sl22) ?_
    refine t_st rfl (st_move rfl) ?_
    refine t_nil ?_
    refine x_then_normal ?_
    refine c_block ?_
    have hb393 := (FZ.bd h3)
    obtain ⟨x421, hl423, hk424⟩ := bindS hm
    refine c_forS (fun k422 => fun x421 => fun b419 e' hp' => [(0, .slice A1 (l4).length c2), (1, .int .i64 (x5)), (2, .slice A6 (l9).length c7), (7, .pointer (some ⟨g385, 0, none⟩)), (13, .int .i64 (x421)), (34, .slice A1 (l4).length c2), (35, .int .i64 ((l4.length : Int))), (36, .int .i64 ((k422 : Int)))] = e' ∧ (g385, Cl 40 [.int .i64 (s10.Place), .int .i64 (s10.Long), .int .i64 (s10.Limit)]) :: R = hp' ∧ b.Le b419) hl423 (e' := [(0, .slice A1 (l4).length c2), (1, .int .i64 (x5)), (2, .slice A6 (l9).length c7), (7, .pointer (some ⟨g385, 0, none⟩)), (13, .int .i64 (0)), (34, .slice A1 (l4).length c2), (35, .int .i64 ((l4.length : Int))), (36, .int .i64 0)]) (hp' := (g385, Cl 40 [.int .i64 (s10.Place), .int .i64 (s10.Long), .int .i64 (s10.Limit)]) :: R) ⟨rfl, rfl, rfl, rfl, rfl, rfl, rfl, rfl, trivial⟩ (.cons_cons _ (.refl _)) ⟨rfl, rfl, (Base.Le.refl _)⟩ ?_ ?_
    ·
     rintro k422 x421 b419 _ _ oL392 hknL392 ⟨rfl, rfl, hle420⟩ hstepL392
     unfold mFleetAssign_L392 at hstepL392
     have hm := hstepL392
     refine c_seq ?_
     refine c_region ?_
     refine t_st rfl (st_lss_t rfl rfl (by omega)) ?_
     refine t_nil ?_
     refine x_then_normal ?_
     refine c_seq ?_
     refine c_cond_t rfl ?_
     refine c_skip ?_
     refine x_then_normal ?_
     refine c_seq ?_
     refine c_block ?_
     refine c_seq ?_
     refine c_region ?_
     obtain ⟨x425, h426, hm⟩ := bindS hm
     obtain ⟨j427, hj428, hx429⟩ := idx_some h426
     obtain ⟨cs430, hr431, hcs432, hA433, hlt434⟩ := FZ.get (sz := 6) rfl (by decide) (h3.le hle420) hx429
     obtain ⟨_, _, rfl, rfl, ⟨_, _, rfl, rfl, ⟨_, _, rfl, rfl, ⟨_, _, rfl, rfl, ⟨_, _, rfl, rfl, rfl⟩⟩⟩⟩⟩ := hr431
     refine t_st rfl (st_index_old j427 rfl rfl hj428 hlt434 hA433 sl22) ?_
     refine t_st rfl (st_loadN_old (vs := [.int .i64 (x425.From), .int .i64 (x425.To), .int .i64 (x425.Dep), .int .i64 (x425.Arr), .int .i64 (x425.Km), .int .i64 (x425.Units)]) 6 rfl agg36 hA433 rfl (fun j u hu => hcs432 j u hu)) ?_
     refine t_do rfl (u_alloc [.int .i64 0, .int .i64 0, .int .i64 0, .int .i64 0, .int .i64 0, .int .i64 0] zero36 rfl) ?_
     rintro _ _ ⟨g435, rfl, rfl⟩
     refine t_do rfl (u_storeN (vs := [_, _, _, _, _, _]) 0 6 rfl rfl rfl siz36 rfl (by intro u hu; simp only [List.mem_cons, List.not_mem_nil, or_false] at hu; rcases hu with rfl | rfl | rfl | rfl | rfl | rfl <;> rfl) rfl (by simp)) ?_
     rintro _ _ rfl
     refine t_nil ?_
     refine x_then_normal ?_
     refine c_region ?_
     refine t_st rfl (st_move rfl) ?_
     refine t_st rfl (st_field rfl fld36_5) ?_
     refine t_st rfl (st_load 0 rfl one3 rfl rfl) ?_
     obtain ⟨_, h436, hm⟩ := bindS hm
     have h436 := (chk_some h436).2
     refine t_st rfl (st_add rfl rfl h436) ?_
     refine t_st rfl (st_assign rfl) ?_
     refine t_nil ?_
     refine x_block_normal ?_
     refine x_then_normal ?_
     refine c_region ?_
     refine t_st rfl (st_add rfl rfl (by omega)) ?_
     refine t_st rfl (st_move rfl) ?_
     refine t_nil ?_
     refine x_pullb 1 rfl ?_
     obtain rfl := some1 hm
     exact x_againS (e' := [(0, .slice A1 (l4).length c2), (1, .int .i64 (x5)), (2, .slice A6 (l9).length c7), (7, .pointer (some ⟨g385, 0, none⟩)), (13, .int .i64 (x421 + x425.Units)), (34, .slice A1 (l4).length c2), (35, .int .i64 ((l4.length : Int))), (36, .int .i64 ((k422 : Int) + 1))]) (hp' := (g385, Cl 40 [.int .i64 (s10.Place), .int .i64 (s10.Long), .int .i64 (s10.Limit)]) :: R) ⟨rfl, rfl, rfl, rfl, rfl, rfl, rfl, rfl, trivial⟩ (.cons_cons _ (.cons _ (.refl _))) ⟨rfl, rfl, (hle420)⟩
    ·
     rintro b419 _ _ ⟨rfl, rfl, hle420⟩
     have hm := hk424
     refine c_seq ?_
     refine c_region ?_
     refine t_st rfl (st_lss_f rfl rfl (by omega)) ?_
     refine t_nil ?_
     refine x_then_normal ?_
     refine c_seq ?_
     refine c_cond_f rfl ?_
     refine c_exit ?_
     refine x_then_exit ?_
     refine x_then_exit ?_
     refine x_block_out ?_
     refine x_then_normal ?_
     refine c_seq ?_
     refine c_seq ?_
     refine c_region ?_
     refine t_st rfl (st_move rfl) ?_
     refine t_st rfl (st_gtr rfl rfl) ?_
     refine t_nil ?_
     refine x_then_normal ?_
     refine c_cond _ rfl (fun hc437 => ?_) (fun hc437 => ?_)
     ·
      rw [if_pos (of_decide_eq_true hc437)] at hm
      refine c_seq ?_
      refine c_region ?_
      refine t_st rfl (st_assign rfl) ?_
      refine t_st rfl (st_assign rfl) ?_
      refine t_st rfl (st_assign rfl) ?_
      refine t_nil ?_
      refine x_then_normal ?_
      refine c_ret ?_
      refine x_then_ret ?_
      obtain ⟨rfl, rfl, rfl, rfl⟩ := some4 hm
      exact retM (rs := [.tmp 8, .tmp 9, .tmp 10]) [.slice none 0 0, .slice none 0 0, .int .i64 (4)] hle420 (by decide) rfl ⟨rfl, ⟨rfl, ⟨rfl, trivial⟩⟩⟩ rfl (hp' := ([] ++ R)) (.cons _ (.refl _)) ⟨none, 0, none, 0, [], rfl, rfl, FZ.nil, ⟨fun _ => rfl, fun _ => rfl⟩, OS.nil⟩
     ·
      rw [if_neg (of_decide_eq_false hc437)] at hm
      refine c_skip ?_
      refine x_then_normal ?_
      obtain ⟨⟨l483, l484, z485⟩, hj487, hk487⟩ := bindS hm
      refine c_join (fun b470 e' hp' => ∃ (g482 : Nat), ∃ (A474 : Option Addr), ∃ (c475 : Nat), ∃ (hs473 : Hp), ∃ (A479 : Option Addr), ∃ (c480 : Nat), ∃ (hs478 : Hp), [(0, .slice A1 (l4).length c2), (2, .slice A6 (l9).length c7), (7, .pointer (some ⟨g385, 0, none⟩)), (16, .pointer (some ⟨g482, 0, none⟩))] = e' ∧ (g385, Cl 40 [.int .i64 (s10.Place), .int .i64 (s10.Long), .int .i64 (s10.Limit)]) :: (g482, Cl 133 [.slice A1 (l4).length c2, .int .i64 (x5), .slice A6 (l9).length c7, .int .i64 (s10.Place), .int .i64 (s10.Long), .int .i64 (s10.Limit), .slice A474 (l483).length c475, .slice A479 (l484).length c480, .slice none 0 0, .int .i64 (0)]) :: (hs473 ++ (hs478 ++ R)) = hp' ∧ b419.Le b470 ∧ OS 3 (OT.fr (RT.int .i64)) b470.w (.slice A474 l483.length c475) l483 hs473 ∧ OS 45 (OT.fr (RT.list (RT.int .i64))) b470.w (.slice A479 l484.length c480) l484 hs478 ∧ (A479 = none ↔ z485 = true)) ?_ ?_
      ·
       have hm := hj487
       obtain ⟨l504, hcl505, hm⟩ := bindS hm
       obtain ⟨m512, h513, hm⟩ := bindS hm
       refine D_drawS ((g385, Cl 40 [.int .i64 (s10.Place), .int .i64 (s10.Long), .int .i64 (s10.Limit)]) :: R) mixed ?_
       refine E_in (.cons_cons _ (.refl _)) ?_
       refine E_st 0 rfl (st_move rfl) ?_
       refine E_st 1 rfl (st_move rfl) ?_
       refine E_st 2 rfl (st_move rfl) ?_
       refine E_st 3 rfl (st_loadD (vs := [_, _, _]) 0 3 rfl agg40 rfl rfl rfl) ?_
       refine E_st 4 rfl (st_move rfl) ?_
       refine E_st 6 rfl (st_move rfl) ?_
       refine E_st 7 rfl (st_len rfl sl38) ?_
       refine E_out ?_
       have h513 := mkLen_some h513
       refine D_all [5, 8] (by kernel_rfl) rfl ?_
       refine R_callGl (Base.Le.refl _) rfl rfl _ call44 rfl (cFleetOrder _ _ l4 A1 c2 (h3.le hle420) l504 hcl505) ?_ ?_
       ·
        rintro _ b506 _ hle507 ⟨A508, c509, hs510, rfl, rfl, h511⟩
        refine ⟨.inr (sub_skip hs510 (.cons_cons _ (.refl _))), ?_⟩
        refine d_in1 [] [_] hs510 R rfl ?_
        refine D_all [8] (by kernel_rfl) rfl ?_
        refine R_do hle507 rfl rfl (u_mkZ (r := (RT.list (RT.int .i64))) [_] (hs510 ++ R) [.slice none 0 0] ([] : List Int) m512 rfl h513.1 rfl rfl sl26 inf45 rfl rfl rfl (by decide) (RT.list_mk FZ.nil) h513.2.1 h513.2.2) ?_ ?_
        ·
         rintro _ _ ⟨hs514, rfl, h515, hz518⟩
         obtain ⟨A516, c517, rfl, _⟩ := h515.form
         refine ⟨.inr (.cons_cons _ (sub_skip hs514 (sub_skip hs510 (.refl _)))), ?_⟩
         refine D_all [9] (by kernel_rfl) rfl ?_
         refine R_do hle507 rfl rfl (Stable.does (st_build (v := .agg #[.slice A1 (l4).length c2, .int .i64 (x5), .slice A6 (l9).length c7, .int .i64 (s10.Place), .int .i64 (s10.Long), .int .i64 (s10.Limit), .slice A508 (l504).length c509, .slice A516 (List.replicate m512 (([] : List Int) : (List Int))).length c517, .slice none 0 0, .int .i64 (0)]) [(0, .slice A1 (l4).length c2), (1, .int .i64 (x5)), (2, .slice A6 (l9).length c7), (3, .agg #[.int .i64 (s10.Place), .int .i64 (s10.Long), .int .i64 (s10.Limit)]), (4, .slice A508 (l504).length c509), (5, .slice A516 (List.replicate m512 (([] : List Int) : (List Int))).length c517)] rfl (fun _ => by kernel_rfl))) ?_ ?_
         ·
          rintro _ _ ⟨rfl, rfl⟩
          refine ⟨.inr (.cons_cons _ (sub_skip hs514 (sub_skip hs510 (.refl _)))), ?_⟩
          refine D_all [10] (by kernel_rfl) rfl ?_
          refine R_do hle507 rfl rfl (u_box _ rfl rfl) ?_ ?_
          ·
           rintro _ _ ⟨g519, rfl, rfl⟩
           refine ⟨.inr (.cons _ (.cons_cons _ (sub_skip hs514 (sub_skip hs510 (.refl _))))), ?_⟩
           refine D_st hle507 11 rfl (by kernel_rfl) (by kernel_rfl) (by kernel_rfl) rfl (st_assign rfl) (.cons _ (.cons_cons _ (sub_skip hs514 (sub_skip hs510 (.refl _))))) ?_
           refine D_done (by kernel_rfl) ?_
           obtain ⟨rfl, rfl, rfl⟩ := some3 hm
           refine x_pullb 1 rfl ?_
           refine x_front2 [_, _] hs514 hs510 R rfl ?_
           exact x_join (e' := [(0, .slice A1 (l4).length c2), (2, .slice A6 (l9).length c7), (7, .pointer (some ⟨g385, 0, none⟩)), (16, .pointer (some ⟨g519, 0, none⟩))]) (hp' := (g385, Cl 40 [.int .i64 (s10.Place), .int .i64 (s10.Long), .int .i64 (s10.Limit)]) :: (g519, Cl 133 [.slice A1 (l4).length c2, .int .i64 (x5), .slice A6 (l9).length c7, .int .i64 (s10.Place), .int .i64 (s10.Long), .int .i64 (s10.Limit), .slice A508 (l504).length c509, .slice A516 (List.replicate m512 (([] : List Int) : (List Int))).length c517, .slice none 0 0, .int .i64 (0)]) :: (hs510 ++ (hs514 ++ R))) ⟨rfl, rfl, rfl, rfl, trivial⟩ (.cons_cons _ (.cons_cons _ (sub_app hs510 (sub_app hs514 (.refl _))))) ⟨g519, A508, c509, hs510, A516, c517, hs514, rfl, rfl, hle507, h511, h515, ⟨fun h => absurd h (hz518 _ _ _ rfl), fun h => by cases h⟩⟩
          exact R_nil
         exact R_nil
        exact R_nil
       refine R_do (Base.Le.refl _) rfl rfl (u_mkZ (r := (RT.list (RT.int .i64))) [_] R [.slice none 0 0] ([] : List Int) m512 rfl h513.1 rfl rfl sl26 inf45 rfl rfl rfl (by decide) (RT.list_mk FZ.nil) h513.2.1 h513.2.2) ?_ ?_
       ·
        rintro _ _ ⟨hs514, rfl, h515, hz518⟩
        obtain ⟨A516, c517, rfl, _⟩ := h515.form
        refine ⟨.inr (.cons_cons _ (sub_skip hs514 (.refl _))), ?_⟩
        refine D_all [5] (by kernel_rfl) rfl ?_
        refine R_callGl (Base.Le.refl _) rfl rfl _ call44 rfl (cFleetOrder _ _ l4 A1 c2 (h3.le hle420) l504 hcl505) ?_ ?_
        ·
         rintro _ b506 _ hle507 ⟨A508, c509, hs510, rfl, rfl, h511⟩
         refine ⟨.inr (sub_skip hs510 (.cons_cons _ (sub_skip hs514 (.refl _)))), ?_⟩
         refine d_in1 [] [_] hs510 (hs514 ++ R) rfl ?_
         refine D_all [9] (by kernel_rfl) rfl ?_
         refine R_do hle507 rfl rfl (Stable.does (st_build (v := .agg #[.slice A1 (l4).length c2, .int .i64 (x5), .slice A6 (l9).length c7, .int .i64 (s10.Place), .int .i64 (s10.Long), .int .i64 (s10.Limit), .slice A508 (l504).length c509, .slice A516 (List.replicate m512 (([] : List Int) : (List Int))).length c517, .slice none 0 0, .int .i64 (0)]) [(0, .slice A1 (l4).length c2), (1, .int .i64 (x5)), (2, .slice A6 (l9).length c7), (3, .agg #[.int .i64 (s10.Place), .int .i64 (s10.Long), .int .i64 (s10.Limit)]), (4, .slice A508 (l504).length c509), (5, .slice A516 (List.replicate m512 (([] : List Int) : (List Int))).length c517)] rfl (fun _ => by kernel_rfl))) ?_ ?_
         ·
          rintro _ _ ⟨rfl, rfl⟩
          refine ⟨.inr (.cons_cons _ (sub_skip hs510 (sub_skip hs514 (.refl _)))), ?_⟩
          refine D_all [10] (by kernel_rfl) rfl ?_
          refine R_do hle507 rfl rfl (u_box _ rfl rfl) ?_ ?_
          ·
           rintro _ _ ⟨g519, rfl, rfl⟩
           refine ⟨.inr (.cons _ (.cons_cons _ (sub_skip hs510 (sub_skip hs514 (.refl _))))), ?_⟩
           refine D_st hle507 11 rfl (by kernel_rfl) (by kernel_rfl) (by kernel_rfl) rfl (st_assign rfl) (.cons _ (.cons_cons _ (sub_skip hs510 (sub_skip hs514 (.refl _))))) ?_
           refine D_done (by kernel_rfl) ?_
           obtain ⟨rfl, rfl, rfl⟩ := some3 hm
           refine x_pullb 1 rfl ?_
           refine x_front2 [_, _] hs510 hs514 R rfl ?_
           refine x_front2 [_, _] hs514 hs510 R rfl ?_
           exact x_join (e' := [(0, .slice A1 (l4).length c2), (2, .slice A6 (l9).length c7), (7, .pointer (some ⟨g385, 0, none⟩)), (16, .pointer (some ⟨g519, 0, none⟩))]) (hp' := (g385, Cl 40 [.int .i64 (s10.Place), .int .i64 (s10.Long), .int .i64 (s10.Limit)]) :: (g519, Cl 133 [.slice A1 (l4).length c2, .int .i64 (x5), .slice A6 (l9).length c7, .int .i64 (s10.Place), .int .i64 (s10.Long), .int .i64 (s10.Limit), .slice A508 (l504).length c509, .slice A516 (List.replicate m512 (([] : List Int) : (List Int))).length c517, .slice none 0 0, .int .i64 (0)]) :: (hs510 ++ (hs514 ++ R))) ⟨rfl, rfl, rfl, rfl, trivial⟩ (.cons_cons _ (.cons_cons _ (sub_app hs510 (sub_app hs514 (.refl _))))) ⟨g519, A508, c509, hs510, A516, c517, hs514, rfl, rfl, hle507, h511, (h515.le hle507), ⟨fun h => absurd h (hz518 _ _ _ rfl), fun h => by cases h⟩⟩
          exact R_nil
         exact R_nil
        exact R_nil
       exact R_nil
      ·
       rintro b470 _ _ ⟨g482, A474, c475, hs473, A479, c480, hs478, rfl, rfl, hle471, h476, h481, hzn486⟩
       have hm := (unc3E hk487)
       refine c_seq ?_
       refine c_region ?_
       refine t_st rfl (st_move rfl) ?_
       obtain ⟨⟨l520, z521, x522, l523⟩, hcl524, hm⟩ := bindS hm
       obtain ⟨Nhcl524, hcl524⟩ := lim_some hcl524
       have hm := (unc4E hm)
       refine t_pullb 1 rfl ?_
       refine t_front2 [_, _] hs473 hs478 R rfl ?_
       refine t_front2 [_, _] hs478 hs473 R rfl ?_
       refine t_out2 [_] [_] hs473 hs478 R rfl ?_
       refine t_callG _ rfl call67 rfl (cFleetGiverGive Nhcl524 _ _ 0 0 0 l4 x5 l9 s10.Place s10.Long s10.Limit [] true 0 l483 l484 z485 g482 A1 c2 A6 c7 none 0 A474 c475 hs473 A479 c480 hs478 (h3.le (hle420.trans hle471)) (h8.le (hle420.trans hle471)) FZ.nil ⟨fun _ => rfl, fun _ => rfl⟩ h476 h481 hzn486 l520 z521 x522 l523 hcl524) ?_
       rintro _ b525 _ hle526 ⟨A527, c528, hs529, rfl, rfl, h530, h531, h532, h533⟩
       refine t_in2 [_] [_] hs473 hs529 R rfl ?_
       refine t_hresp 0 rfl (o' := Cl 133 [.slice A1 (l4).length c2, .int .i64 (x5), .slice A6 (l9).length c7, .int .i64 (s10.Place), .int .i64 (s10.Long), .int .i64 (s10.Limit), .slice A474 (l483).length c475, .slice A479 (l523).length c480, .slice A527 (l520).length c528, .int .i64 (x522)]) (by simp only [h533]) ?_
       refine t_nil ?_
       refine x_then_normal ?_
       refine c_seq ?_
       obtain ⟨x538, hj539, hk539⟩ := bindS hm
       refine c_join (fun b536 e' hp' => [(0, .slice A1 (l4).length c2), (2, .slice A6 (l9).length c7), (7, .pointer (some ⟨g385, 0, none⟩)), (16, .pointer (some ⟨g482, 0, none⟩)), (74, .bool (x538))] = e' ∧ (g385, Cl 40 [.int .i64 (s10.Place), .int .i64 (s10.Long), .int .i64 (s10.Limit)]) :: (g482, Cl 133 [.slice A1 (l4).length c2, .int .i64 (x5), .slice A6 (l9).length c7, .int .i64 (s10.Place), .int .i64 (s10.Long), .int .i64 (s10.Limit), .slice A474 (l483).length c475, .slice A479 (l523).length c480, .slice A527 (l520).length c528, .int .i64 (x522)]) :: (hs473 ++ (hs529 ++ R)) = hp' ∧ b525.Le b536) ?_ ?_
       ·
        have hm := hj539
        refine c_region ?_
        refine t_st rfl (st_move rfl) ?_
        refine t_st rfl (st_nil rfl) ?_
        refine t_st rfl (st_field rfl fld133_6) ?_
        refine t_st rfl (st_load 0 rfl one26 rfl rfl) ?_
        refine t_st rfl (st_eqnil_b (z := z521) rfl rfl h531 sl26) ?_
        rcases Bool.eq_false_or_eq_true z521 with hc540 | hc540
        ·
         rw [if_pos hc540] at hm
         refine t_resp 64 rfl (v' := .bool true) (by rw [hc540] <;> rfl) ?_
         refine t_st rfl (st_move rfl) ?_
         refine t_yes 65 rfl rfl rfl ?_
         refine t_st rfl (st_move rfl) ?_
         refine t_yes 65 rfl rfl rfl ?_
         refine t_st rfl (st_len rfl sl22) ?_
         refine t_yes 65 rfl rfl rfl ?_
         refine t_bool rfl (st_gtr rfl rfl) (fun hc541 => ?_) (fun hc541 => ?_)
         ·
          rw [if_pos hc541] at hm
          refine t_yes 65 rfl rfl rfl ?_
          refine t_st rfl (st_move rfl) ?_
          refine t_no 69 rfl rfl rfl rfl rfl ?_
          refine t_no 69 rfl rfl rfl rfl rfl ?_
          refine t_no 69 rfl rfl rfl rfl rfl ?_
          refine t_yes 65 rfl rfl rfl ?_
          refine t_st rfl (st_pick_t rfl rfl) ?_
          refine t_st rfl (st_pick_t rfl rfl) ?_
          refine t_nil ?_
          obtain rfl := some1 hm
          refine x_pullb 1 rfl ?_
          refine x_front2 [_, _] hs473 hs529 R rfl ?_
          refine x_front2 [_, _] hs529 hs473 R rfl ?_
          exact x_join (e' := [(0, .slice A1 (l4).length c2), (2, .slice A6 (l9).length c7), (7, .pointer (some ⟨g385, 0, none⟩)), (16, .pointer (some ⟨g482, 0, none⟩)), (74, .bool (true))]) (hp' := (g385, Cl 40 [.int .i64 (s10.Place), .int .i64 (s10.Long), .int .i64 (s10.Limit)]) :: (g482, Cl 133 [.slice A1 (l4).length c2, .int .i64 (x5), .slice A6 (l9).length c7, .int .i64 (s10.Place), .int .i64 (s10.Long), .int .i64 (s10.Limit), .slice A474 (l483).length c475, .slice A479 (l523).length c480, .slice A527 (l520).length c528, .int .i64 (x522)]) :: (hs473 ++ (hs529 ++ R))) ⟨rfl, rfl, rfl, rfl, rfl, trivial⟩ (.cons_cons _ (.cons_cons _ (sub_app hs473 (sub_app hs529 (.refl _))))) ⟨rfl, rfl, (Base.Le.refl _)⟩
         ·
          rw [if_neg hc541] at hm
          refine t_yes 65 rfl rfl rfl ?_
          refine t_st rfl (st_move rfl) ?_
          refine t_yes 69 rfl rfl rfl ?_
          refine t_st rfl (st_move rfl) ?_
          refine t_yes 69 rfl rfl rfl ?_
          refine t_st rfl (st_len rfl sl38) ?_
          refine t_yes 69 rfl rfl rfl ?_
          refine t_st rfl (st_gtr rfl rfl) ?_
          refine t_yes 65 rfl rfl rfl ?_
          refine t_st rfl (st_pick_f rfl rfl) ?_
          refine t_st rfl (st_pick_t rfl rfl) ?_
          refine t_nil ?_
          obtain rfl := some1 hm
          refine x_pullb 1 rfl ?_
          refine x_front2 [_, _] hs473 hs529 R rfl ?_
          refine x_front2 [_, _] hs529 hs473 R rfl ?_
          exact x_join (e' := [(0, .slice A1 (l4).length c2), (2, .slice A6 (l9).length c7), (7, .pointer (some ⟨g385, 0, none⟩)), (16, .pointer (some ⟨g482, 0, none⟩)), (74, .bool (decide (0 < (l9.length : Int))))]) (hp' := (g385, Cl 40 [.int .i64 (s10.Place), .int .i64 (s10.Long), .int .i64 (s10.Limit)]) :: (g482, Cl 133 [.slice A1 (l4).length c2, .int .i64 (x5), .slice A6 (l9).length c7, .int .i64 (s10.Place), .int .i64 (s10.Long), .int .i64 (s10.Limit), .slice A474 (l483).length c475, .slice A479 (l523).length c480, .slice A527 (l520).length c528, .int .i64 (x522)]) :: (hs473 ++ (hs529 ++ R))) ⟨rfl, rfl, rfl, rfl, rfl, trivial⟩ (.cons_cons _ (.cons_cons _ (sub_app hs473 (sub_app hs529 (.refl _))))) ⟨rfl, rfl, (Base.Le.refl _)⟩
        ·
         rw [if_neg (fun hh => Bool.noConfusion (hh.symm.trans hc540))] at hm
         refine t_resp 64 rfl (v' := .bool false) (by rw [hc540] <;> rfl) ?_
         refine t_st rfl (st_move rfl) ?_
         refine t_no 65 rfl rfl rfl rfl rfl ?_
         refine t_no 65 rfl rfl rfl rfl rfl ?_
         refine t_no 65 rfl rfl rfl rfl rfl ?_
         refine t_no 65 rfl rfl rfl rfl rfl ?_
         refine t_no 69 rfl rfl rfl rfl rfl ?_
         refine t_no 69 rfl rfl rfl rfl rfl ?_
         refine t_no 69 rfl rfl rfl rfl rfl ?_
         refine t_no 65 rfl rfl rfl rfl rfl ?_
         refine t_st rfl (st_pick_f rfl rfl) ?_
         refine t_nil ?_
         obtain rfl := some1 hm
         refine x_pullb 1 rfl ?_
         refine x_front2 [_, _] hs473 hs529 R rfl ?_
         refine x_front2 [_, _] hs529 hs473 R rfl ?_
         exact x_join (e' := [(0, .slice A1 (l4).length c2), (2, .slice A6 (l9).length c7), (7, .pointer (some ⟨g385, 0, none⟩)), (16, .pointer (some ⟨g482, 0, none⟩)), (74, .bool (false))]) (hp' := (g385, Cl 40 [.int .i64 (s10.Place), .int .i64 (s10.Long), .int .i64 (s10.Limit)]) :: (g482, Cl 133 [.slice A1 (l4).length c2, .int .i64 (x5), .slice A6 (l9).length c7, .int .i64 (s10.Place), .int .i64 (s10.Long), .int .i64 (s10.Limit), .slice A474 (l483).length c475, .slice A479 (l523).length c480, .slice A527 (l520).length c528, .int .i64 (x522)]) :: (hs473 ++ (hs529 ++ R))) ⟨rfl, rfl, rfl, rfl, rfl, trivial⟩ (.cons_cons _ (.cons_cons _ (sub_app hs473 (sub_app hs529 (.refl _))))) ⟨rfl, rfl, (Base.Le.refl _)⟩
       ·
        rintro b536 _ _ ⟨rfl, rfl, hle537⟩
        have hm := hk539
        refine c_cond _ rfl (fun hc542 => ?_) (fun hc542 => ?_)
        ·
         rw [if_pos hc542] at hm
         refine c_seq ?_
         refine c_region ?_
         refine t_st rfl (st_assign rfl) ?_
         refine t_st rfl (st_assign rfl) ?_
         refine t_st rfl (st_assign rfl) ?_
         refine t_nil ?_
         refine x_then_normal ?_
         refine c_ret ?_
         refine x_then_ret ?_
         obtain ⟨rfl, rfl, rfl, rfl⟩ := some4 hm
         exact retM (rs := [.tmp 8, .tmp 9, .tmp 10]) [.slice none 0 0, .slice none 0 0, .int .i64 (9)] (hle420.trans (hle471.trans (hle526.trans hle537))) (by decide) rfl ⟨rfl, ⟨rfl, ⟨rfl, trivial⟩⟩⟩ rfl (hp' := ([] ++ R)) (.cons _ (.cons _ (sub_skip hs473 (sub_skip hs529 (.refl _))))) ⟨none, 0, none, 0, [], rfl, rfl, FZ.nil, ⟨fun _ => rfl, fun _ => rfl⟩, OS.nil⟩
        ·
         rw [if_neg (fun hh => Bool.noConfusion (hh.symm.trans hc542))] at hm
         refine c_skip ?_
         refine x_then_normal ?_
         refine c_seq ?_
         refine c_region ?_
         refine t_st rfl (st_assign rfl) ?_
         refine t_nil ?_
         refine x_then_normal ?_
         refine c_seq ?_
         refine c_seq ?_
         refine c_region ?_
         refine t_st rfl (st_move rfl) ?_
         refine t_st rfl (st_nil rfl) ?_
         refine t_st rfl (st_field rfl fld133_6) ?_
         refine t_st rfl (st_load 1 rfl one26 rfl rfl) ?_
         refine t_st rfl (st_len rfl sl26) ?_
         refine t_st rfl (st_move rfl) ?_
         refine t_nil ?_
         refine x_then_normal ?_
         refine c_block ?_
         have hb544 := (FZ.bd (h530.le hle537))
         refine c_pullb 1 rfl ?_
         refine c_pullb 1 rfl ?_
         refine c_front2 [_, _] hs473 hs529 R rfl ?_
         refine c_front2 [_, _] hs529 hs473 R rfl ?_
         obtain ⟨l681, hl683, hk684⟩ := bindS hm
         refine c_forS (fun k682 => fun l681 => fun b674 e' hp' => ∃ (A678 : Option Addr), ∃ (c679 : Nat), ∃ (hs677 : Hp), [(0, .slice A1 (l4).length c2), (2, .slice A6 (l9).length c7), (7, .pointer (some ⟨g385, 0, none⟩)), (16, .pointer (some ⟨g482, 0, none⟩)), (17, .slice A678 (l681).length c679), (78, .slice A527 (l520).length c528), (79, .int .i64 ((l520.length : Int))), (80, .int .i64 ((k682 : Int)))] = e' ∧ (g385, Cl 40 [.int .i64 (s10.Place), .int .i64 (s10.Long), .int .i64 (s10.Limit)]) :: (g482, Cl 133 [.slice A1 (l4).length c2, .int .i64 (x5), .slice A6 (l9).length c7, .int .i64 (s10.Place), .int .i64 (s10.Long), .int .i64 (s10.Limit), .slice A474 (l483).length c475, .slice A479 (l523).length c480, .slice A527 (l520).length c528, .int .i64 (x522)]) :: (hs677 ++ (hs473 ++ (hs529 ++ R))) = hp' ∧ b536.Le b674 ∧ OS 45 (OT.fr (RT.list (RT.int .i64))) b674.w (.slice A678 l681.length c679) l681 hs677) hl683 (e' := [(0, .slice A1 (l4).length c2), (2, .slice A6 (l9).length c7), (7, .pointer (some ⟨g385, 0, none⟩)), (16, .pointer (some ⟨g482, 0, none⟩)), (17, .slice none 0 0), (78, .slice A527 (l520).length c528), (79, .int .i64 ((l520.length : Int))), (80, .int .i64 0)]) (hp' := (g385, Cl 40 [.int .i64 (s10.Place), .int .i64 (s10.Long), .int .i64 (s10.Limit)]) :: (g482, Cl 133 [.slice A1 (l4).length c2, .int .i64 (x5), .slice A6 (l9).length c7, .int .i64 (s10.Place), .int .i64 (s10.Long), .int .i64 (s10.Limit), .slice A474 (l483).length c475, .slice A479 (l523).length c480, .slice A527 (l520).length c528, .int .i64 (x522)]) :: ([] ++ (hs473 ++ (hs529 ++ R)))) ⟨rfl, rfl, rfl, rfl, rfl, rfl, rfl, rfl, trivial⟩ (.cons_cons _ (.cons_cons _ (sub_app hs473 (sub_app hs529 (.refl _))))) ⟨none, 0, [], rfl, rfl, (Base.Le.refl _), OS.nil⟩ ?_ ?_
         ·
          rintro k682 l681 b674 _ _ oL543 hknL543 ⟨A678, c679, hs677, rfl, rfl, hle675, h680⟩ hstepL543
          unfold mFleetAssign_L543 at hstepL543
          have hm := hstepL543
          refine c_seq ?_
          refine c_region ?_
          refine t_st rfl (st_lss_t rfl rfl (by omega)) ?_
          refine t_nil ?_
          refine x_then_normal ?_
          refine c_seq ?_
          refine c_cond_t rfl ?_
          refine c_skip ?_
          refine x_then_normal ?_
          refine c_seq ?_
          refine c_block ?_
          refine c_seq ?_
          refine c_region ?_
          refine t_st rfl (st_move rfl) ?_
          obtain ⟨x685, h686, hm⟩ := bindS hm
          obtain ⟨j687, hj688, hx689⟩ := idx_some h686
          obtain ⟨cs690, hr691, hcs692, hA693, hlt694⟩ := FZ.get (sz := 1) rfl (by decide) (h530.le (hle537.trans hle675)) hx689
          obtain ⟨A695, c696, rfl, h697⟩ := hr691
          refine t_st rfl (st_index_old j687 rfl rfl hj688 hlt694 hA693 sl26) ?_
          refine t_st rfl (st_load_old rfl one45 (hcs692 0 _ rfl)) ?_
          refine t_st rfl (st_assign rfl) ?_
          refine t_st rfl (st_assign rfl) ?_
          refine t_nil ?_
          refine x_then_normal ?_
          refine c_seq ?_
          obtain ⟨x717, h718, hm⟩ := bindS hm
          obtain ⟨⟨x727, l728⟩, hcl729, hm⟩ := bindS hm
          have hm := (unc2E hm)
          refine D_drawS ((g385, Cl 40 [.int .i64 (s10.Place), .int .i64 (s10.Long), .int .i64 (s10.Limit)]) :: (g482, Cl 133 [.slice A1 (l4).length c2, .int .i64 (x5), .slice A6 (l9).length c7, .int .i64 (s10.Place), .int .i64 (s10.Long), .int .i64 (s10.Limit), .slice A474 (l483).length c475, .slice A479 (l523).length c480, .slice A527 (l520).length c528, .int .i64 (x522)]) :: (hs677 ++ (hs473 ++ (hs529 ++ R)))) mixed ?_
          refine E_in (.cons_cons _ (.cons_cons _ (sub_app hs677 (sub_app hs473 (sub_app hs529 (.refl _)))))) ?_
          refine E_st 0 rfl (st_move rfl) ?_
          refine E_st 1 rfl (st_move rfl) ?_
          refine E_st 2 rfl (st_move rfl) ?_
          refine E_st 3 rfl (st_move rfl) ?_
          obtain ⟨j719, hj720, hx721⟩ := idx_some h718
          obtain ⟨cs722, hr723, hcs724, hA725, hlt726⟩ := FZ.get (sz := 2) rfl (by decide) (h8.le (hle420.trans (hle471.trans (hle526.trans (hle537.trans hle675))))) hx721
          obtain ⟨_, _, rfl, rfl, rfl⟩ := hr723
          refine E_st 4 rfl (st_index_old j719 rfl rfl hj720 hlt726 hA725 sl38) ?_
          refine E_st 5 rfl (st_loadN_old (vs := [.int .i64 (x717.Home), .int .i64 (x717.Km)]) 2 rfl agg47 hA725 rfl (fun j u hu => hcs724 j u hu)) ?_
          refine E_st 6 rfl (st_loadD (vs := [_, _, _]) 0 3 rfl agg40 rfl rfl rfl) ?_
          refine E_out ?_
          refine D_all [7] (by kernel_rfl) rfl ?_
          refine R_callGl (Base.Le.refl _) rfl rfl _ call49 rfl (cFleetPositions _ _ l4 x685 x717 s10 A1 c2 A695 c696 (h3.le (hle420.trans (hle471.trans (hle526.trans (hle537.trans hle675))))) h697 x727 l728 hcl729) ?_ ?_
          ·
           rintro _ b730 _ hle731 ⟨A732, c733, hs734, rfl, rfl, h735⟩
           refine ⟨.inr (sub_skip hs734 (.cons_cons _ (.cons_cons _ (sub_app hs677 (sub_app hs473 (sub_app hs529 (.refl _))))))), ?_⟩
           refine d_in1 [] [_, _] hs734 (hs677 ++ (hs473 ++ (hs529 ++ R))) rfl ?_
           refine D_st hle731 8 rfl (by kernel_rfl) (by kernel_rfl) (by kernel_rfl) rfl (st_move rfl) (.cons_cons _ (.cons_cons _ (sub_skip hs734 (sub_app hs677 (sub_app hs473 (sub_app hs529 (.refl _))))))) ?_
           refine D_st hle731 9 rfl (by kernel_rfl) (by kernel_rfl) (by kernel_rfl) rfl (st_extract rfl rfl) (.cons_cons _ (.cons_cons _ (sub_skip hs734 (sub_app hs677 (sub_app hs473 (sub_app hs529 (.refl _))))))) ?_
           refine D_st hle731 10 rfl (by kernel_rfl) (by kernel_rfl) (by kernel_rfl) rfl (st_extract rfl rfl) (.cons_cons _ (.cons_cons _ (sub_skip hs734 (sub_app hs677 (sub_app hs473 (sub_app hs529 (.refl _))))))) ?_
           refine D_st hle731 11 rfl (by kernel_rfl) (by kernel_rfl) (by kernel_rfl) rfl (st_assign rfl) (.cons_cons _ (.cons_cons _ (sub_skip hs734 (sub_app hs677 (sub_app hs473 (sub_app hs529 (.refl _))))))) ?_
           refine D_st hle731 12 rfl (by kernel_rfl) (by kernel_rfl) (by kernel_rfl) rfl (st_assign rfl) (.cons_cons _ (.cons_cons _ (sub_skip hs734 (sub_app hs677 (sub_app hs473 (sub_app hs529 (.refl _))))))) ?_
           refine D_done (by kernel_rfl) ?_
           refine x_then_normal ?_
           refine c_region ?_
           refine t_st rfl (st_move rfl) ?_
           refine t_st rfl (st_move rfl) ?_
           refine t_do rfl (u_bslice (el := 45) [(0, .slice A732 (l728).length c733)] [.slice A732 (l728).length c733] rfl (fun _ => by kernel_rfl)) ?_
           rintro _ _ ⟨g736, rfl, rfl⟩
           refine t_frz [_, _, _] hs734 (hs677 ++ (hs473 ++ (hs529 ++ R))) rfl ?_
           intro b737 hle738 hz739
           have h740 := OS.frz (l := l728) h735 hle738.cells hz739
           obtain ⟨_, h741, hm⟩ := bindS hm
           have h741 := room_some h741
           refine t_do rfl (u_appOS (r := (RT.list (RT.int .i64))) (l := l681) [_, _, _] (hs473 ++ (hs529 ++ R)) [[.slice A732 (l728).length c733]] [l728] rfl (by decide) sl26 inf45 rfl rfl rfl rfl (h680.le (hle731.trans hle738)) rfl (fun w ho => Rd.own (i := 0) ho rfl) ⟨(RT.list_mk h740), trivial⟩ h741) ?_
           rintro _ _ ⟨hs742, rfl, h743⟩
           obtain ⟨A744, c745, rfl, _⟩ := h743.form
           refine t_st rfl (st_assign rfl) ?_
           refine t_nil ?_
           refine x_block_normal ?_
           refine x_then_normal ?_
           refine c_region ?_
           refine t_st rfl (st_add rfl rfl (by omega)) ?_
           refine t_st rfl (st_move rfl) ?_
           refine t_nil ?_
           refine x_pullb 2 rfl ?_
           refine x_pullb 2 rfl ?_
           refine x_front3 [_, _, _] hs742 hs473 hs529 R rfl ?_
           refine x_front3 [_, _, _] hs529 hs742 hs473 R rfl ?_
           refine x_front3 [_, _, _] hs473 hs529 hs742 R rfl ?_
           obtain rfl := some1 hm
           exact x_againS (e' := [(0, .slice A1 (l4).length c2), (2, .slice A6 (l9).length c7), (7, .pointer (some ⟨g385, 0, none⟩)), (16, .pointer (some ⟨g482, 0, none⟩)), (17, .slice A744 (l681 ++ [l728]).length c745), (78, .slice A527 (l520).length c528), (79, .int .i64 ((l520.length : Int))), (80, .int .i64 ((k682 : Int) + 1))]) (hp' := (g385, Cl 40 [.int .i64 (s10.Place), .int .i64 (s10.Long), .int .i64 (s10.Limit)]) :: (g482, Cl 133 [.slice A1 (l4).length c2, .int .i64 (x5), .slice A6 (l9).length c7, .int .i64 (s10.Place), .int .i64 (s10.Long), .int .i64 (s10.Limit), .slice A474 (l483).length c475, .slice A479 (l523).length c480, .slice A527 (l520).length c528, .int .i64 (x522)]) :: (hs742 ++ (hs473 ++ (hs529 ++ R)))) ⟨rfl, rfl, rfl, rfl, rfl, rfl, rfl, rfl, trivial⟩ (.cons_cons _ (.cons_cons _ (.cons _ (sub_app hs742 (sub_app hs473 (sub_app hs529 (.refl _))))))) ⟨A744, c745, hs742, rfl, rfl, ((hle675.trans (hle731.trans hle738))), h743⟩
          exact R_nil
         ·
          rintro b674 _ _ ⟨A678, c679, hs677, rfl, rfl, hle675, h680⟩
          have hm := hk684
          refine c_seq ?_
          refine c_region ?_
          refine t_st rfl (st_lss_f rfl rfl (by omega)) ?_
          refine t_nil ?_
          refine x_then_normal ?_
          refine c_seq ?_
          refine c_cond_f rfl ?_
          refine c_exit ?_
          refine x_then_exit ?_
          refine x_then_exit ?_
          refine x_block_out ?_
          refine x_then_normal ?_
          refine c_seq ?_
          refine c_region ?_
          refine t_st rfl (st_move rfl) ?_
          refine t_st rfl (st_nil rfl) ?_
          refine t_st rfl (st_field rfl fld133_6) ?_
          refine t_st rfl (st_load 1 rfl one26 rfl rfl) ?_
          refine t_st rfl (st_move rfl) ?_
          refine t_st rfl (st_assign rfl) ?_
          refine t_st rfl (st_assign rfl) ?_
          refine t_st rfl (st_assign rfl) ?_
          refine t_nil ?_
          refine x_then_normal ?_
          refine c_ret ?_
          obtain ⟨rfl, rfl, rfl, rfl⟩ := some4 hm
          exact retM (rs := [.tmp 8, .tmp 9, .tmp 10]) [.slice A527 (l520).length c528, .slice A678 (l681).length c679, .int .i64 (0)] (hle420.trans (hle471.trans (hle526.trans (hle537.trans hle675)))) (by decide) rfl ⟨rfl, ⟨rfl, ⟨rfl, trivial⟩⟩⟩ rfl (hp' := (hs677 ++ R)) (.cons _ (.cons _ (sub_app hs677 (sub_skip hs473 (sub_skip hs529 (.refl _)))))) ⟨A527, c528, A678, c679, hs677, rfl, rfl, (h530.le (hle537.trans hle675)), h531, h680⟩

end Go.Proofs.Ytajmocgpjkhjlaa
