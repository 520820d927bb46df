/- Contracts: the code computes its model (part 2). -/
import Derived.Test.YtljcafilceachaaDoorGP1
set_option linter.unusedVariables false
set_option linter.unusedSimpArgs false
namespace Go.Proofs.YtljcafilceachaaDoor
open Go.RowKit Go.Fp

set_option maxRecDepth 20000 in
theorem cRunPull (b : Base) (R : Hp) (s1 : ApiStock) (x2 : Int) (x9 : Int) (hm : mRunPull s1 x2 = some x9) :
    CallsG Tryd.prog 111 [.agg #[.string (s1.Name), .int .i64 (s1.Length), .int .i64 (s1.Mass), .int .i64 (s1.Start), .int .i64 (s1.Power), .int .i64 (s1.Roll), .int .i64 (s1.Drag), .int .i64 (s1.Brake), .int .i64 (s1.Top), .int .i64 (s1.Seats)], .int .i64 (x2)] b (R) (fun v b' hp' => .int .i64 (x9) = v ∧ R = hp') := by
  refine fn_enterG 16 Tryd.func111 rfl Tryd.ntmps111 rfl ?_
  unfold mRunPull at hm
  refine c_seq ?_
  refine c_region ?_
  refine t_do rfl (u_box _ rfl rfl) ?_
  rintro _ _ ⟨g10, rfl, rfl⟩
  refine t_st rfl (st_assign rfl) ?_
  refine t_nil ?_
  refine x_then_normal ?_
  refine c_seq ?_
  refine c_seq ?_
  refine c_region ?_
  refine t_st rfl (st_move rfl) ?_
  refine t_st rfl (st_eql rfl rfl) ?_
  refine t_nil ?_
  refine x_then_normal ?_
  refine c_cond _ rfl (fun hc11 => ?_) (fun hc11 => ?_)
  ·
    rw [if_pos (of_decide_eq_true hc11)] at hm
    refine c_seq ?_
    refine c_region ?_
    refine t_st rfl (st_field rfl fld43_3) ?_
    refine t_st rfl (st_load 0 rfl one3 rfl rfl) ?_
    refine t_st rfl (st_assign rfl) ?_
    refine t_nil ?_
    refine x_then_normal ?_
    refine c_ret ?_
    refine x_then_ret ?_
    obtain rfl := some1 hm
    exact retM (rs := [.tmp 4]) [.int .i64 (s1.Start)] (Base.Le.refl _) (by decide) rfl ⟨rfl, trivial⟩ rfl (hp' := R) (.cons _ (.refl _)) ⟨rfl, rfl⟩
  ·
    rw [if_neg (of_decide_eq_false hc11)] at hm
    refine c_skip ?_
    refine x_then_normal ?_
    refine c_seq ?_
    obtain ⟨_, h14, hm⟩ := bindS hm
    obtain ⟨_, h15, hm⟩ := bindS hm
    refine D_drawS ((g10, Cl 43 [.string (s1.Name), .int .i64 (s1.Length), .int .i64 (s1.Mass), .int .i64 (s1.Start), .int .i64 (s1.Power), .int .i64 (s1.Roll), .int .i64 (s1.Drag), .int .i64 (s1.Brake), .int .i64 (s1.Top), .int .i64 (s1.Seats)]) :: R) mixed ?_
    refine D_st (Base.Le.refl _) 0 rfl (by kernel_rfl) (by kernel_rfl) (by kernel_rfl) rfl (st_field rfl fld43_3) (.cons_cons _ (.refl _)) ?_
    refine D_st (Base.Le.refl _) 1 rfl (by kernel_rfl) (by kernel_rfl) (by kernel_rfl) rfl (st_load 0 rfl one3 rfl rfl) (.cons_cons _ (.refl _)) ?_
    refine D_st (Base.Le.refl _) 2 rfl (by kernel_rfl) (by kernel_rfl) (by kernel_rfl) rfl (st_field rfl fld43_4) (.cons_cons _ (.refl _)) ?_
    refine D_st (Base.Le.refl _) 3 rfl (by kernel_rfl) (by kernel_rfl) (by kernel_rfl) rfl (st_load 0 rfl one3 rfl rfl) (.cons_cons _ (.refl _)) ?_
    refine D_st (Base.Le.refl _) 4 rfl (by kernel_rfl) (by kernel_rfl) (by kernel_rfl) rfl (st_move rfl) (.cons_cons _ (.refl _)) ?_
    have h15 := (chk_some h15).2
    refine D_st (Base.Le.refl _) 5 rfl (by kernel_rfl) (by kernel_rfl) (by kernel_rfl) rfl (st_quo rfl rfl (ne0_some h14) h15) (.cons_cons _ (.refl _)) ?_
    refine D_st (Base.Le.refl _) 6 rfl (by kernel_rfl) (by kernel_rfl) (by kernel_rfl) rfl (st_min rfl rfl) (.cons_cons _ (.refl _)) ?_
    refine D_st (Base.Le.refl _) 7 rfl (by kernel_rfl) (by kernel_rfl) (by kernel_rfl) rfl (st_assign rfl) (.cons_cons _ (.refl _)) ?_
    refine D_done (by kernel_rfl) ?_
    refine x_then_normal ?_
    refine c_ret ?_
    obtain rfl := some1 hm
    exact retM (rs := [.tmp 4]) [.int .i64 (min s1.Start (Int.tdiv s1.Power x2))] (Base.Le.refl _) (by decide) rfl ⟨rfl, trivial⟩ rfl (hp' := R) (.cons _ (.refl _)) ⟨rfl, rfl⟩

set_option maxRecDepth 20000 in
theorem cRunGain (b : Base) (R : Hp) (s1 : ApiStock) (x2 : Int) (x3 : Int) (x21 : Int) (hm : mRunGain s1 x2 x3 = some x21) :
    CallsG Tryd.prog 96 [.agg #[.string (s1.Name), .int .i64 (s1.Length), .int .i64 (s1.Mass), .int .i64 (s1.Start), .int .i64 (s1.Power), .int .i64 (s1.Roll), .int .i64 (s1.Drag), .int .i64 (s1.Brake), .int .i64 (s1.Top), .int .i64 (s1.Seats)], .int .i64 (x2), .int .i64 (x3)] b (R) (fun v b' hp' => .int .i64 (x21) = v ∧ R = hp') := by
  refine fn_enterG 22 Tryd.func96 rfl Tryd.ntmps96 rfl ?_
  unfold mRunGain at hm
  refine c_seq ?_
  refine c_region ?_
  refine t_do rfl (u_box _ rfl rfl) ?_
  rintro _ _ ⟨g22, rfl, rfl⟩
  refine t_st rfl (st_assign rfl) ?_
  refine t_nil ?_
  refine x_then_normal ?_
  refine c_seq ?_
  obtain ⟨x31, hcl32, hm⟩ := bindS hm
  obtain ⟨_, h33, hm⟩ := bindS hm
  obtain ⟨_, h34, hm⟩ := bindS hm
  obtain ⟨_, h35, hm⟩ := bindS hm
  obtain ⟨_, h36, hm⟩ := bindS hm
  obtain ⟨_, h37, hm⟩ := bindS hm
  obtain ⟨_, h38, hm⟩ := bindS hm
  refine D_drawS ((g22, Cl 43 [.string (s1.Name), .int .i64 (s1.Length), .int .i64 (s1.Mass), .int .i64 (s1.Start), .int .i64 (s1.Power), .int .i64 (s1.Roll), .int .i64 (s1.Drag), .int .i64 (s1.Brake), .int .i64 (s1.Top), .int .i64 (s1.Seats)]) :: R) mixed ?_
  refine D_st (Base.Le.refl _) 0 rfl (by kernel_rfl) (by kernel_rfl) (by kernel_rfl) rfl (st_loadD (vs := [_, _, _, _, _, _, _, _, _, _]) 0 10 rfl agg43 rfl rfl rfl) (.cons_cons _ (.refl _)) ?_
  refine D_st (Base.Le.refl _) 1 rfl (by kernel_rfl) (by kernel_rfl) (by kernel_rfl) rfl (st_move rfl) (.cons_cons _ (.refl _)) ?_
  refine D_st (Base.Le.refl _) 3 rfl (by kernel_rfl) (by kernel_rfl) (by kernel_rfl) rfl (st_field rfl fld43_5) (.cons_cons _ (.refl _)) ?_
  refine D_st (Base.Le.refl _) 4 rfl (by kernel_rfl) (by kernel_rfl) (by kernel_rfl) rfl (st_load 0 rfl one3 rfl rfl) (.cons_cons _ (.refl _)) ?_
  refine D_st (Base.Le.refl _) 6 rfl (by kernel_rfl) (by kernel_rfl) (by kernel_rfl) rfl (st_move rfl) (.cons_cons _ (.refl _)) ?_
  refine D_st (Base.Le.refl _) 7 rfl (by kernel_rfl) (by kernel_rfl) (by kernel_rfl) rfl (st_move rfl) (.cons_cons _ (.refl _)) ?_
  have h34 := (chk_some h34).2
  refine D_st (Base.Le.refl _) 8 rfl (by kernel_rfl) (by kernel_rfl) (by kernel_rfl) rfl (st_mul rfl rfl h34) (.cons_cons _ (.refl _)) ?_
  refine D_st (Base.Le.refl _) 9 rfl (by kernel_rfl) (by kernel_rfl) (by kernel_rfl) rfl (st_field rfl fld43_6) (.cons_cons _ (.refl _)) ?_
  refine D_st (Base.Le.refl _) 10 rfl (by kernel_rfl) (by kernel_rfl) (by kernel_rfl) rfl (st_load 0 rfl one3 rfl rfl) (.cons_cons _ (.refl _)) ?_
  have h36 := (chk_some h36).2
  refine D_st (Base.Le.refl _) 11 rfl (by kernel_rfl) (by kernel_rfl) (by kernel_rfl) rfl (st_quo rfl rfl (ne0_some h35) h36) (.cons_cons _ (.refl _)) ?_
  refine D_st (Base.Le.refl _) 13 rfl (by kernel_rfl) (by kernel_rfl) (by kernel_rfl) rfl (st_move rfl) (.cons_cons _ (.refl _)) ?_
  refine D_all [2] (by kernel_rfl) rfl ?_
  refine R_do (Base.Le.refl _) rfl rfl (u_callW0 _ call111 rfl (fun w ho => cRunPull _ [] s1 x2 x31 hcl32) (fun _ _ _ h => h.2.symm)) ?_ ?_
  ·
    rintro _ _ ⟨⟨_, rfl, _⟩, rfl⟩
    refine ⟨.inr (.cons_cons _ (.refl _)), ?_⟩
    have h33 := (chk_some h33).2
    refine D_st (Base.Le.refl _) 5 rfl (by kernel_rfl) (by kernel_rfl) (by kernel_rfl) rfl (st_sub rfl rfl h33) (.cons_cons _ (.refl _)) ?_
    have h37 := (chk_some h37).2
    refine D_st (Base.Le.refl _) 12 rfl (by kernel_rfl) (by kernel_rfl) (by kernel_rfl) rfl (st_sub rfl rfl h37) (.cons_cons _ (.refl _)) ?_
    have h38 := (chk_some h38).2
    refine D_st (Base.Le.refl _) 14 rfl (by kernel_rfl) (by kernel_rfl) (by kernel_rfl) rfl (st_sub rfl rfl h38) (.cons_cons _ (.refl _)) ?_
    refine D_st (Base.Le.refl _) 15 rfl (by kernel_rfl) (by kernel_rfl) (by kernel_rfl) rfl (st_assign rfl) (.cons_cons _ (.refl _)) ?_
    refine D_done (by kernel_rfl) ?_
    refine x_then_normal ?_
    refine c_ret ?_
    obtain rfl := some1 hm
    exact retM (rs := [.tmp 6]) [.int .i64 (((x31 - s1.Roll) - (Int.tdiv (x2 * x2) s1.Drag)) - x3)] (Base.Le.refl _) (by decide) rfl ⟨rfl, trivial⟩ rfl (hp' := R) (.cons _ (.refl _)) ⟨rfl, rfl⟩
  exact R_nil

set_option maxRecDepth 20000 in
theorem cRunRunnerInto (b : Base) (R : Hp) (x11 : Int) (x12 : Int) (x13 : ByteArray) (x14 : Int) (x15 : Int) (x16 : Int) (x17 : Int) (x18 : Int) (x19 : Int) (x20 : Int) (x21 : Int) (x22 : Int) (l26 : (List ApiPiece)) (x27 : Int) (x28 : Int) (l29 : (List Int)) (l30 : (List (Int × (List Int)))) (g10 : Nat) (A23 : Option Addr) (c24 : Nat) (A3 : Option Addr) (c4 : Nat) (hs2 : Hp) (g8 : Nat) (hs7 : Hp) (h25 : FZ rApiPiece b.w A23 c24 l26) (h5 : OS 3 (OT.fr (RT.int .i64)) b.w (.slice A3 l29.length c4) l29 hs2) (h9 : OM (RT.int .i64) (OT.list 3 (OT.fr (RT.int .i64))) false false b.w g8 l30 hs7) (x669 : Int) (l670 : (List (Int × (List Int)))) (hm : mRunRunnerInto x11 x12 x13 x14 x15 x16 x17 x18 x19 x20 x21 x22 l26 x27 x28 l29 l30 = some (x669, l670)) :
    CallsG Tryd.prog 112 [.pointer (some ⟨g10, 0, none⟩), .int .i64 (x11), .int .i64 (x12)] b ((g10, Cl 170 [.string (x13), .int .i64 (x14), .int .i64 (x15), .int .i64 (x16), .int .i64 (x17), .int .i64 (x18), .int .i64 (x19), .int .i64 (x20), .int .i64 (x21), .int .i64 (x22), .slice A23 (l26).length c24, .slice A3 (l29).length c4, .int .i64 (x27), .int .i64 (x28), .map (some g8)]) :: (hs2 ++ (hs7 ++ R))) (fun v b' hp' => ∃ (hs667 : Hp), .int .i64 (x669) = v ∧ (g10, Cl 170 [.string (x13), .int .i64 (x14), .int .i64 (x15), .int .i64 (x16), .int .i64 (x17), .int .i64 (x18), .int .i64 (x19), .int .i64 (x20), .int .i64 (x21), .int .i64 (x22), .slice A23 (l26).length c24, .slice A3 (l29).length c4, .int .i64 (x27), .int .i64 (x28), .map (some g8)]) :: (hs2 ++ (hs667 ++ R)) = hp' ∧ OM (RT.int .i64) (OT.list 3 (OT.fr (RT.int .i64))) false false b'.w g8 l670 hs667) := by
  refine fn_enterG 62 Tryd.func112 rfl Tryd.ntmps112 rfl ?_
  unfold mRunRunnerInto at hm
  refine c_seq ?_
  refine c_region ?_
  refine t_st rfl (st_assign rfl) ?_
  refine t_nil ?_
  refine x_then_normal ?_
  refine c_seq ?_
  refine c_seq ?_
  refine c_region ?_
  refine t_st rfl (st_move rfl) ?_
  refine t_st rfl (st_move rfl) ?_
  refine t_st rfl (st_leq rfl rfl) ?_
  refine t_nil ?_
  refine x_then_normal ?_
  refine c_cond _ rfl (fun hc671 => ?_) (fun hc671 => ?_)
  ·
    rw [if_pos (of_decide_eq_true hc671)] at hm
    refine c_seq ?_
    refine c_region ?_
    refine t_st rfl (st_assign rfl) ?_
    refine t_nil ?_
    refine x_then_normal ?_
    refine c_ret ?_
    refine x_then_ret ?_
    obtain ⟨rfl, rfl⟩ := some2 hm
    refine x_front2 [_] hs2 hs7 R rfl ?_
    refine x_front2 [_] hs7 hs2 R rfl ?_
    exact retM (rs := [.tmp 6]) [.int .i64 (0)] (Base.Le.refl _) (by decide) rfl ⟨rfl, trivial⟩ rfl (hp' := (g10, Cl 170 [.string (x13), .int .i64 (x14), .int .i64 (x15), .int .i64 (x16), .int .i64 (x17), .int .i64 (x18), .int .i64 (x19), .int .i64 (x20), .int .i64 (x21), .int .i64 (x22), .slice A23 (l26).length c24, .slice A3 (l29).length c4, .int .i64 (x27), .int .i64 (x28), .map (some g8)]) :: (hs2 ++ (hs7 ++ R))) (.cons_cons _ (sub_app hs2 (sub_app hs7 (.refl _)))) ⟨hs7, rfl, rfl, h9⟩
  ·
    rw [if_neg (of_decide_eq_false hc671)] at hm
    refine c_skip ?_
    refine x_then_normal ?_
    refine c_seq ?_
    refine c_region ?_
    refine t_st rfl (st_move rfl) ?_
    refine t_st rfl (st_nil rfl) ?_
    refine t_st rfl (st_field rfl fld170_5) ?_
    refine t_st rfl (st_load 0 rfl one168 rfl rfl) ?_
    refine t_st rfl (st_move rfl) ?_
    obtain ⟨A672, c673, hs674, hs675, h676, hpm677, h678, hr679⟩ := OM.take kok3 h9 (key := .int .i64 (x12)) (k := x12) rfl mapt168 zero24
    refine t_st rfl (st_mlook (ok := false) rfl rfl (fun w ho => hr679 _ w ho (.cons _ (sub_skip hs2 (List.sublist_append_left _ _))))) ?_
    refine t_front2 [_] hs2 hs7 R rfl ?_
    refine t_prm [_] hs7 hs675 hs674 (hs2 ++ R) rfl hpm677 ?_
    refine t_st rfl (st_assign rfl) ?_
    refine t_nil ?_
    refine x_then_normal ?_
    obtain ⟨l986, hj987, hk987⟩ := bindS hm
    refine c_join (fun b979 e' hp' => ∃ (A983 : Option Addr), ∃ (c984 : Nat), ∃ (hs982 : Hp), [(0, .pointer (some ⟨g10, 0, none⟩)), (1, .int .i64 (x11)), (2, .int .i64 (x12)), (7, .slice A983 (l986).length c984)] = e' ∧ (g10, Cl 170 [.string (x13), .int .i64 (x14), .int .i64 (x15), .int .i64 (x16), .int .i64 (x17), .int .i64 (x18), .int .i64 (x19), .int .i64 (x20), .int .i64 (x21), .int .i64 (x22), .slice A23 (l26).length c24, .slice A3 (l29).length c4, .int .i64 (x27), .int .i64 (x28), .map (some g8)]) :: (hs982 ++ (hs2 ++ (hs675 ++ R))) = hp' ∧ b.Le b979 ∧ OS 3 (OT.fr (RT.int .i64)) b979.w (.slice A983 l986.length c984) l986 hs982) ?_ ?_
    ·
      have hm := hj987
      refine c_seq ?_
      refine c_region ?_
      refine t_st rfl (st_move rfl) ?_
      refine t_st rfl (st_len rfl sl24) ?_
      refine t_st rfl (st_assign rfl) ?_
      refine t_nil ?_
      refine x_then_normal ?_
      refine c_block ?_
      refine c_front2 [_] hs674 hs675 (hs2 ++ R) rfl ?_
      refine c_front3 [_] hs675 hs674 hs2 R rfl ?_
      refine c_front3 [_] hs2 hs675 hs674 R rfl ?_
      refine c_loopM (unc2 fun x1191 l1192 => fun b1184 e' hp' => ∃ (A1188 : Option Addr), ∃ (c1189 : Nat), ∃ (hs1187 : Hp), [(0, .pointer (some ⟨g10, 0, none⟩)), (1, .int .i64 (x11)), (2, .int .i64 (x12)), (7, .slice A1188 (l1192).length c1189), (8, .int .i64 (x1191))] = e' ∧ (g10, Cl 170 [.string (x13), .int .i64 (x14), .int .i64 (x15), .int .i64 (x16), .int .i64 (x17), .int .i64 (x18), .int .i64 (x19), .int .i64 (x20), .int .i64 (x21), .int .i64 (x22), .slice A23 (l26).length c24, .slice A3 (l29).length c4, .int .i64 (x27), .int .i64 (x28), .map (some g8)]) :: (hs1187 ++ (hs2 ++ (hs675 ++ R))) = hp' ∧ b.Le b1184 ∧ OS 3 (OT.fr (RT.int .i64)) b1184.w (.slice A1188 l1192.length c1189) l1192 hs1187) hm (e' := [(0, .pointer (some ⟨g10, 0, none⟩)), (1, .int .i64 (x11)), (2, .int .i64 (x12)), (7, .slice A672 (mgetD l30 x12 []).length c673), (8, .int .i64 (((mgetD l30 x12 []).length : Int)))]) (hp' := (g10, Cl 170 [.string (x13), .int .i64 (x14), .int .i64 (x15), .int .i64 (x16), .int .i64 (x17), .int .i64 (x18), .int .i64 (x19), .int .i64 (x20), .int .i64 (x21), .int .i64 (x22), .slice A23 (l26).length c24, .slice A3 (l29).length c4, .int .i64 (x27), .int .i64 (x28), .map (some g8)]) :: (hs674 ++ (hs2 ++ (hs675 ++ R)))) ⟨rfl, rfl, rfl, rfl, rfl, trivial⟩ (.cons_cons _ (sub_app hs674 (sub_app hs2 (sub_app hs675 (.refl _))))) ⟨A672, c673, hs674, rfl, rfl, (Base.Le.refl _), h676⟩ ?_
      rintro ⟨x1191, l1192⟩ b1184 _ _ oL988 ⟨A1188, c1189, hs1187, rfl, rfl, hle1185, h1190⟩ hstepL988 houtL988
      unfold mRunRunnerInto_L988 at hstepL988
      have hm := (unc2E hstepL988)
      refine c_seq ?_
      refine c_seq ?_
      refine c_region ?_
      refine t_st rfl (st_move rfl) ?_
      refine t_st rfl (st_move rfl) ?_
      refine t_st rfl (st_leq rfl rfl) ?_
      refine t_nil ?_
      refine x_then_normal ?_
      refine c_cond _ rfl (fun hc1193 => ?_) (fun hc1193 => ?_)
      ·
        rw [if_pos (of_decide_eq_true hc1193)] at hm
        refine c_skip ?_
        refine x_then_normal ?_
        refine c_seq ?_
        refine c_block ?_
        refine c_seq ?_
        refine c_region ?_
        refine t_st rfl (st_assign rfl) ?_
        refine t_nil ?_
        refine x_then_normal ?_
        obtain ⟨x1237, hj1238, hk1238⟩ := bindS hm
        refine c_join (fun b1235 e' hp' => [(0, .pointer (some ⟨g10, 0, none⟩)), (1, .int .i64 (x11)), (2, .int .i64 (x12)), (7, .slice A1188 (l1192).length c1189), (8, .int .i64 (x1191)), (9, .int .i64 (x1237))] = e' ∧ (g10, Cl 170 [.string (x13), .int .i64 (x14), .int .i64 (x15), .int .i64 (x16), .int .i64 (x17), .int .i64 (x18), .int .i64 (x19), .int .i64 (x20), .int .i64 (x21), .int .i64 (x22), .slice A23 (l26).length c24, .slice A3 (l29).length c4, .int .i64 (x27), .int .i64 (x28), .map (some g8)]) :: (hs1187 ++ (hs2 ++ (hs675 ++ R))) = hp' ∧ b1184.Le b1235) ?_ ?_
        ·
          have hm := hj1238
          refine c_seq ?_
          refine c_region ?_
          refine t_st rfl (st_move rfl) ?_
          refine t_st rfl (st_move rfl) ?_
          refine t_st rfl (st_gtr rfl rfl) ?_
          refine t_nil ?_
          refine x_then_normal ?_
          refine c_cond _ rfl (fun hc1239 => ?_) (fun hc1239 => ?_)
          ·
            rw [if_pos (of_decide_eq_true hc1239)] at hm
            refine c_seq ?_
            refine c_region ?_
            refine t_st rfl (st_move rfl) ?_
            refine t_st rfl (st_move rfl) ?_
            refine t_st rfl (st_move rfl) ?_
            refine t_st rfl (st_nil rfl) ?_
            refine t_st rfl (st_field rfl fld170_0) ?_
            refine t_st rfl (st_field rfl fld43_7) ?_
            refine t_st rfl (st_load 0 rfl one3 rfl rfl) ?_
            obtain ⟨_, h1240, hm⟩ := bindS hm
            have h1240 := (chk_some h1240).2
            refine t_st rfl (st_sub rfl rfl h1240) ?_
            obtain ⟨_, h1241, hm⟩ := bindS hm
            have h1241 := (chk_some h1241).2
            refine t_st rfl (st_sub rfl rfl h1241) ?_
            refine t_st rfl (st_max rfl rfl) ?_
            refine t_st rfl (st_assign rfl) ?_
            refine t_nil ?_
            refine x_then_normal ?_
            obtain ⟨x1261, hcl1262, hm⟩ := bindS hm
            obtain ⟨x1263, h1264, hm⟩ := bindS hm
            obtain ⟨_, h1279, hm⟩ := bindS hm
            refine D_drawS ((g10, Cl 170 [.string (x13), .int .i64 (x14), .int .i64 (x15), .int .i64 (x16), .int .i64 (x17), .int .i64 (x18), .int .i64 (x19), .int .i64 (x20), .int .i64 (x21), .int .i64 (x22), .slice A23 (l26).length c24, .slice A3 (l29).length c4, .int .i64 (x27), .int .i64 (x28), .map (some g8)]) :: (hs1187 ++ (hs2 ++ (hs675 ++ R)))) mixed ?_
            refine D_st (Base.Le.refl _) 0 rfl (by kernel_rfl) (by kernel_rfl) (by kernel_rfl) rfl (st_move rfl) (.cons_cons _ (sub_app hs1187 (sub_app hs2 (sub_app hs675 (.refl _))))) ?_
            refine D_st (Base.Le.refl _) 1 rfl (by kernel_rfl) (by kernel_rfl) (by kernel_rfl) rfl (st_move rfl) (.cons_cons _ (sub_app hs1187 (sub_app hs2 (sub_app hs675 (.refl _))))) ?_
            refine D_st (Base.Le.refl _) 3 rfl (by kernel_rfl) (by kernel_rfl) (by kernel_rfl) rfl (st_move rfl) (.cons_cons _ (sub_app hs1187 (sub_app hs2 (sub_app hs675 (.refl _))))) ?_
            refine D_st (Base.Le.refl _) 4 rfl (by kernel_rfl) (by kernel_rfl) (by kernel_rfl) rfl (st_move rfl) (.cons_cons _ (sub_app hs1187 (sub_app hs2 (sub_app hs675 (.refl _))))) ?_
            obtain ⟨j1265, hj1266, hx1267⟩ := idx_some h1264
            obtain ⟨cs1268, hs1273, P1274, P1275, hq1276, hr1269, hcs1270, hA1271, hlt1272, hb1277, hho1278⟩ := OS.get (sz := 1) rfl (by decide) h1190 hx1267
            obtain ⟨rfl, rfl⟩ := hr1269
            refine D_st (Base.Le.refl _) 5 rfl (by kernel_rfl) (by kernel_rfl) (by kernel_rfl) rfl (st_index_old j1265 rfl rfl hj1266 hlt1272 hA1271 sl24) (.cons_cons _ (sub_app hs1187 (sub_app hs2 (sub_app hs675 (.refl _))))) ?_
            refine D_st (Base.Le.refl _) 6 rfl (by kernel_rfl) (by kernel_rfl) (by kernel_rfl) rfl (st_load_rd rfl one3 (fun w ho => hcs1270 w _ ho (.cons _ (List.sublist_append_left _ _)) 0 _ rfl)) (.cons_cons _ (sub_app hs1187 (sub_app hs2 (sub_app hs675 (.refl _))))) ?_
            refine D_all [2] (by kernel_rfl) rfl ?_
            refine R_do (Base.Le.refl _) rfl rfl (u_callW0 _ call84 rfl (fun w ho => cRunGone _ [] x1191 (max x12 (x1191 - (x20 - 40))) x1261 hcl1262) (fun _ _ _ h => h.2.symm)) ?_ ?_
            ·
              rintro _ _ ⟨⟨_, rfl, _⟩, rfl⟩
              refine ⟨.inr (.cons_cons _ (sub_app hs1187 (sub_app hs2 (sub_app hs675 (.refl _))))), ?_⟩
              have h1279 := (chk_some h1279).2
              refine D_st (Base.Le.refl _) 7 rfl (by kernel_rfl) (by kernel_rfl) (by kernel_rfl) rfl (st_add rfl rfl h1279) (.cons_cons _ (sub_app hs1187 (sub_app hs2 (sub_app hs675 (.refl _))))) ?_
              refine D_st (Base.Le.refl _) 8 rfl (by kernel_rfl) (by kernel_rfl) (by kernel_rfl) rfl (st_assign rfl) (.cons_cons _ (sub_app hs1187 (sub_app hs2 (sub_app hs675 (.refl _))))) ?_
              refine D_done (by kernel_rfl) ?_
              obtain rfl := some1 hm
              refine x_front3 [_] hs1187 hs2 hs675 R rfl ?_
              refine x_front3 [_] hs675 hs1187 hs2 R rfl ?_
              refine x_front3 [_] hs2 hs675 hs1187 R rfl ?_
              exact x_join (e' := [(0, .pointer (some ⟨g10, 0, none⟩)), (1, .int .i64 (x11)), (2, .int .i64 (x12)), (7, .slice A1188 (l1192).length c1189), (8, .int .i64 (x1191)), (9, .int .i64 (x1261 + x1263))]) (hp' := (g10, Cl 170 [.string (x13), .int .i64 (x14), .int .i64 (x15), .int .i64 (x16), .int .i64 (x17), .int .i64 (x18), .int .i64 (x19), .int .i64 (x20), .int .i64 (x21), .int .i64 (x22), .slice A23 (l26).length c24, .slice A3 (l29).length c4, .int .i64 (x27), .int .i64 (x28), .map (some g8)]) :: (hs1187 ++ (hs2 ++ (hs675 ++ R)))) ⟨rfl, rfl, rfl, rfl, rfl, rfl, trivial⟩ (.cons_cons _ (sub_app hs1187 (sub_app hs2 (sub_app hs675 (.refl _))))) ⟨rfl, rfl, (Base.Le.refl _)⟩
            exact R_nil
          ·
            rw [if_neg (of_decide_eq_false hc1239)] at hm
            refine c_skip ?_
            obtain rfl := some1 hm
            refine x_front3 [_] hs1187 hs2 hs675 R rfl ?_
            refine x_front3 [_] hs675 hs1187 hs2 R rfl ?_
            refine x_front3 [_] hs2 hs675 hs1187 R rfl ?_
            exact x_join (e' := [(0, .pointer (some ⟨g10, 0, none⟩)), (1, .int .i64 (x11)), (2, .int .i64 (x12)), (7, .slice A1188 (l1192).length c1189), (8, .int .i64 (x1191)), (9, .int .i64 (0))]) (hp' := (g10, Cl 170 [.string (x13), .int .i64 (x14), .int .i64 (x15), .int .i64 (x16), .int .i64 (x17), .int .i64 (x18), .int .i64 (x19), .int .i64 (x20), .int .i64 (x21), .int .i64 (x22), .slice A23 (l26).length c24, .slice A3 (l29).length c4, .int .i64 (x27), .int .i64 (x28), .map (some g8)]) :: (hs1187 ++ (hs2 ++ (hs675 ++ R)))) ⟨rfl, rfl, rfl, rfl, rfl, rfl, trivial⟩ (.cons_cons _ (sub_app hs1187 (sub_app hs2 (sub_app hs675 (.refl _))))) ⟨rfl, rfl, (Base.Le.refl _)⟩
        ·
          rintro b1235 _ _ ⟨rfl, rfl, hle1236⟩
          have hm := hk1238
          refine c_region ?_
          refine t_st rfl (st_move rfl) ?_
          refine t_st rfl (st_move rfl) ?_
          refine t_do rfl (u_bslice (el := 3) [(0, .int .i64 (x1237))] [.int .i64 (x1237)] rfl (fun _ => by kernel_rfl)) ?_
          rintro _ _ ⟨g1280, rfl, rfl⟩
          obtain ⟨_, h1281, hm⟩ := bindS hm
          have h1281 := room_some h1281
          refine t_do rfl (u_appOS (r := (RT.int .i64)) (l := l1192) [_, _] (hs2 ++ (hs675 ++ R)) [[.int .i64 (x1237)]] [x1237] rfl (by decide) sl24 inf3 rfl rfl rfl rfl (h1190.le hle1236) rfl (fun w ho => Rd.own (i := 0) ho rfl) ⟨rfl, trivial⟩ h1281) ?_
          rintro _ _ ⟨hs1282, rfl, h1283⟩
          obtain ⟨A1284, c1285, rfl, _⟩ := h1283.form
          refine t_st rfl (st_assign rfl) ?_
          refine t_nil ?_
          refine x_block_normal ?_
          refine x_then_normal ?_
          refine c_region ?_
          refine t_st rfl (st_move rfl) ?_
          obtain ⟨_, h1286, hm⟩ := bindS hm
          have h1286 := (chk_some h1286).2
          refine t_st rfl (st_add rfl rfl h1286) ?_
          refine t_st rfl (st_assign rfl) ?_
          refine t_nil ?_
          refine x_pullb 1 rfl ?_
          refine x_front3 [_, _] hs1282 hs2 hs675 R rfl ?_
          refine x_front3 [_, _] hs675 hs1282 hs2 R rfl ?_
          refine x_front3 [_, _] hs2 hs675 hs1282 R rfl ?_
          exact x_againM (x1191 + 1, l1192 ++ [x1237]) (Option.some.inj hm).symm (e' := [(0, .pointer (some ⟨g10, 0, none⟩)), (1, .int .i64 (x11)), (2, .int .i64 (x12)), (7, .slice A1284 (l1192 ++ [x1237]).length c1285), (8, .int .i64 (x1191 + 1))]) (hp' := (g10, Cl 170 [.string (x13), .int .i64 (x14), .int .i64 (x15), .int .i64 (x16), .int .i64 (x17), .int .i64 (x18), .int .i64 (x19), .int .i64 (x20), .int .i64 (x21), .int .i64 (x22), .slice A23 (l26).length c24, .slice A3 (l29).length c4, .int .i64 (x27), .int .i64 (x28), .map (some g8)]) :: (hs1282 ++ (hs2 ++ (hs675 ++ R)))) ⟨rfl, rfl, rfl, rfl, rfl, trivial⟩ (.cons_cons _ (.cons _ (sub_app hs1282 (sub_app hs2 (sub_app hs675 (.refl _)))))) ⟨A1284, c1285, hs1282, rfl, rfl, ((hle1185.trans hle1236)), h1283⟩
      ·
        rw [if_neg (of_decide_eq_false hc1193)] at hm
        refine c_exit ?_
        refine x_then_exit ?_
        refine x_then_exit ?_
        refine x_block_out ?_
        have hm := congrArg some (houtL988 _ (Option.some.inj hm).symm)
        obtain rfl := some1 hm
        refine x_front3 [_] hs1187 hs2 hs675 R rfl ?_
        refine x_front3 [_] hs675 hs1187 hs2 R rfl ?_
        refine x_front3 [_] hs2 hs675 hs1187 R rfl ?_
        exact x_join (e' := [(0, .pointer (some ⟨g10, 0, none⟩)), (1, .int .i64 (x11)), (2, .int .i64 (x12)), (7, .slice A1188 (l1192).length c1189)]) (hp' := (g10, Cl 170 [.string (x13), .int .i64 (x14), .int .i64 (x15), .int .i64 (x16), .int .i64 (x17), .int .i64 (x18), .int .i64 (x19), .int .i64 (x20), .int .i64 (x21), .int .i64 (x22), .slice A23 (l26).length c24, .slice A3 (l29).length c4, .int .i64 (x27), .int .i64 (x28), .map (some g8)]) :: (hs1187 ++ (hs2 ++ (hs675 ++ R)))) ⟨rfl, rfl, rfl, rfl, trivial⟩ (.cons_cons _ (sub_app hs1187 (sub_app hs2 (sub_app hs675 (.refl _))))) ⟨A1188, c1189, hs1187, rfl, rfl, hle1185, h1190⟩
    ·
      rintro b979 _ _ ⟨A983, c984, hs982, rfl, rfl, hle980, h985⟩
      have hm := hk987
      refine c_seq ?_
      refine c_region ?_
      refine t_st rfl (st_move rfl) ?_
      refine t_st rfl (st_nil rfl) ?_
      refine t_st rfl (st_field rfl fld170_5) ?_
      refine t_st rfl (st_load 0 rfl one168 rfl rfl) ?_
      refine t_st rfl (st_move rfl) ?_
      refine t_st rfl (st_move rfl) ?_
      refine t_front3 [_] hs982 hs2 hs675 R rfl ?_
      refine t_do rfl (u_mput kok3 [_] hs982 (hs2 ++ R) rfl (h678.le hle980) mapt168 rfl rfl rfl rfl ⟨_, rfl, h985⟩ _ (.inl rfl)) ?_
      rintro _ _ ⟨hs1287, rfl, hsub1288, h1289⟩
      refine t_nil ?_
      refine x_then_normal ?_
      refine c_seq ?_
      refine c_region ?_
      refine t_st rfl (st_move rfl) ?_
      refine t_st rfl (st_move rfl) ?_
      obtain ⟨x1290, h1291, hm⟩ := bindS hm
      obtain ⟨j1292, hj1293, hx1294⟩ := idx_some h1291
      obtain ⟨cs1295, hs1300, P1301, P1302, hq1303, hr1296, hcs1297, hA1298, hlt1299, hb1304, _⟩ := OS.get (sz := 1) rfl (by decide) h985 hx1294
      obtain ⟨rfl, rfl⟩ := hr1296
      have hcs1305 := fun (w : World) (hp : Hp) (ho : Own b979 hp w) (hh : hs1287.Sublist hp) => hcs1297 w hp ho (hsub1288.trans hh)
      refine t_st rfl (st_index_old j1292 rfl rfl hj1293 hlt1299 hA1298 sl24) ?_
      refine t_st rfl (st_load_rd rfl one3 (fun w ho => hcs1305 w _ ho (.cons _ (List.sublist_append_left _ _)) 0 _ rfl)) ?_
      refine t_st rfl (st_assign rfl) ?_
      refine t_nil ?_
      refine x_then_normal ?_
      refine c_ret ?_
      obtain ⟨rfl, rfl⟩ := some2 hm
      refine x_front2 [_] hs1287 hs2 R rfl ?_
      exact retM (rs := [.tmp 6]) [.int .i64 (x1290)] hle980 (by decide) rfl ⟨rfl, trivial⟩ rfl (hp' := (g10, Cl 170 [.string (x13), .int .i64 (x14), .int .i64 (x15), .int .i64 (x16), .int .i64 (x17), .int .i64 (x18), .int .i64 (x19), .int .i64 (x20), .int .i64 (x21), .int .i64 (x22), .slice A23 (l26).length c24, .slice A3 (l29).length c4, .int .i64 (x27), .int .i64 (x28), .map (some g8)]) :: (hs2 ++ (hs1287 ++ R))) (.cons_cons _ (sub_app hs2 (sub_app hs1287 (.refl _)))) ⟨hs1287, rfl, rfl, h1289⟩

set_option maxRecDepth 20000 in
theorem cRunRunnerMay (b : Base) (R : Hp) (x11 : Int) (x12 : Int) (x13 : Int) (x14 : ByteArray) (x15 : Int) (x16 : Int) (x17 : Int) (x18 : Int) (x19 : Int) (x20 : Int) (x21 : Int) (x22 : Int) (x23 : Int) (l27 : (List ApiPiece)) (x28 : Int) (x29 : Int) (l30 : (List Int)) (l31 : (List (Int × (List Int)))) (g10 : Nat) (A24 : Option Addr) (c25 : Nat) (A3 : Option Addr) (c4 : Nat) (hs2 : Hp) (g8 : Nat) (hs7 : Hp) (h26 : FZ rApiPiece b.w A24 c25 l27) (h5 : OS 3 (OT.fr (RT.int .i64)) b.w (.slice A3 l30.length c4) l30 hs2) (h9 : OM (RT.int .i64) (OT.list 3 (OT.fr (RT.int .i64))) false false b.w g8 l31 hs7) (x330 : Bool) (l331 : (List (Int × (List Int)))) (hm : mRunRunnerMay x11 x12 x13 x14 x15 x16 x17 x18 x19 x20 x21 x22 x23 l27 x28 x29 l30 l31 = some (x330, l331)) :
    CallsG Tryd.prog 97 [.pointer (some ⟨g10, 0, none⟩), .int .i64 (x11), .int .i64 (x12), .int .i64 (x13)] b ((g10, Cl 170 [.string (x14), .int .i64 (x15), .int .i64 (x16), .int .i64 (x17), .int .i64 (x18), .int .i64 (x19), .int .i64 (x20), .int .i64 (x21), .int .i64 (x22), .int .i64 (x23), .slice A24 (l27).length c25, .slice A3 (l30).length c4, .int .i64 (x28), .int .i64 (x29), .map (some g8)]) :: (hs2 ++ (hs7 ++ R))) (fun v b' hp' => ∃ (g328 : Nat), ∃ (hs327 : Hp), .bool (x330) = v ∧ (g10, Cl 170 [.string (x14), .int .i64 (x15), .int .i64 (x16), .int .i64 (x17), .int .i64 (x18), .int .i64 (x19), .int .i64 (x20), .int .i64 (x21), .int .i64 (x22), .int .i64 (x23), .slice A24 (l27).length c25, .slice A3 (l30).length c4, .int .i64 (x28), .int .i64 (x29), .map (some g328)]) :: (hs2 ++ (hs327 ++ R)) = hp' ∧ OM (RT.int .i64) (OT.list 3 (OT.fr (RT.int .i64))) false false b'.w g328 l331 hs327) := by
  refine fn_enterG 70 Tryd.func97 rfl Tryd.ntmps97 rfl ?_
  unfold mRunRunnerMay at hm
  refine c_seq ?_
  refine c_region ?_
  refine t_st rfl (st_assign rfl) ?_
  refine t_nil ?_
  refine x_then_normal ?_
  refine c_seq ?_
  obtain ⟨⟨x353, l354⟩, hj355, hk355⟩ := bindS hm
  refine c_join (fun b348 e' hp' => ∃ (hs351 : Hp), [(0, .pointer (some ⟨g10, 0, none⟩)), (1, .int .i64 (x11)), (2, .int .i64 (x12)), (3, .int .i64 (x13)), (21, .bool (x353))] = e' ∧ (g10, Cl 170 [.string (x14), .int .i64 (x15), .int .i64 (x16), .int .i64 (x17), .int .i64 (x18), .int .i64 (x19), .int .i64 (x20), .int .i64 (x21), .int .i64 (x22), .int .i64 (x23), .slice A24 (l27).length c25, .slice A3 (l30).length c4, .int .i64 (x28), .int .i64 (x29), .map (some g8)]) :: (hs2 ++ (hs351 ++ R)) = hp' ∧ b.Le b348 ∧ OM (RT.int .i64) (OT.list 3 (OT.fr (RT.int .i64))) false false b348.w g8 l354 hs351) ?_ ?_
  ·
    have hm := hj355
    obtain ⟨⟨x364, l365⟩, hcl366, hm⟩ := bindS hm
    have hm := (unc2E hm)
    obtain ⟨_, h371, hm⟩ := bindS hm
    refine D_drawS (R) mixed ?_
    refine D_st (Base.Le.refl _) 0 rfl (by kernel_rfl) (by kernel_rfl) (by kernel_rfl) rfl (st_move rfl) (.cons _ (sub_skip hs2 (sub_skip hs7 (.refl _)))) ?_
    refine D_st (Base.Le.refl _) 1 rfl (by kernel_rfl) (by kernel_rfl) (by kernel_rfl) rfl (st_move rfl) (.cons _ (sub_skip hs2 (sub_skip hs7 (.refl _)))) ?_
    refine D_st (Base.Le.refl _) 3 rfl (by kernel_rfl) (by kernel_rfl) (by kernel_rfl) rfl (st_move rfl) (.cons _ (sub_skip hs2 (sub_skip hs7 (.refl _)))) ?_
    refine D_st (Base.Le.refl _) 4 rfl (by kernel_rfl) (by kernel_rfl) (by kernel_rfl) rfl (st_nil rfl) (.cons _ (sub_skip hs2 (sub_skip hs7 (.refl _)))) ?_
    refine D_st (Base.Le.refl _) 5 rfl (by kernel_rfl) (by kernel_rfl) (by kernel_rfl) rfl (st_field rfl fld170_3) (.cons _ (sub_skip hs2 (sub_skip hs7 (.refl _)))) ?_
    refine D_st (Base.Le.refl _) 7 rfl (by kernel_rfl) (by kernel_rfl) (by kernel_rfl) rfl (st_move rfl) (.cons _ (sub_skip hs2 (sub_skip hs7 (.refl _)))) ?_
    refine d_front2 [_] hs2 hs7 R rfl ?_
    refine d_front2 [_] hs7 hs2 R rfl ?_
    refine d_out2 [_] [] hs2 hs7 R rfl ?_
    refine D_all [2, 6] (by kernel_rfl) rfl ?_
    refine R_callGl (Base.Le.refl _) rfl rfl _ call112 rfl (cRunRunnerInto _ _ x13 0 x14 x15 x16 x17 x18 x19 x20 x21 x22 x23 l27 x28 x29 l30 l31 g10 A24 c25 A3 c4 hs2 g8 hs7 h26 h5 h9 x364 l365 hcl366) ?_ ?_
    ·
      rintro _ b367 _ hle368 ⟨hs369, rfl, rfl, h370⟩
      refine ⟨.inr (.cons _ (sub_skip hs2 (sub_skip hs369 (.refl _)))), ?_⟩
      refine d_in2 [_] [] hs2 hs369 R rfl ?_
      refine D_all [6] (by kernel_rfl) rfl ?_
      refine R_do hle368 rfl rfl (Stable.does (st_load 0 rfl one3 rfl rfl)) ?_ ?_
      ·
        rintro _ _ ⟨rfl, rfl⟩
        refine ⟨.inr (.cons _ (sub_skip hs2 (sub_skip hs369 (.refl _)))), ?_⟩
        have h371 := (chk_some h371).2
        refine D_st hle368 8 rfl (by kernel_rfl) (by kernel_rfl) (by kernel_rfl) rfl (st_sub rfl rfl h371) (.cons _ (sub_skip hs2 (sub_skip hs369 (.refl _)))) ?_
        refine D_st hle368 9 rfl (by kernel_rfl) (by kernel_rfl) (by kernel_rfl) rfl (st_gtr rfl rfl) (.cons _ (sub_skip hs2 (sub_skip hs369 (.refl _)))) ?_
        refine D_done (by kernel_rfl) ?_
        obtain ⟨rfl, rfl⟩ := some2 hm
        refine x_front2 [_] hs2 hs369 R rfl ?_
        refine x_front2 [_] hs369 hs2 R rfl ?_
        exact x_join (e' := [(0, .pointer (some ⟨g10, 0, none⟩)), (1, .int .i64 (x11)), (2, .int .i64 (x12)), (3, .int .i64 (x13)), (21, .bool (decide ((x28 - x12) < x364)))]) (hp' := (g10, Cl 170 [.string (x14), .int .i64 (x15), .int .i64 (x16), .int .i64 (x17), .int .i64 (x18), .int .i64 (x19), .int .i64 (x20), .int .i64 (x21), .int .i64 (x22), .int .i64 (x23), .slice A24 (l27).length c25, .slice A3 (l30).length c4, .int .i64 (x28), .int .i64 (x29), .map (some g8)]) :: (hs2 ++ (hs369 ++ R))) ⟨rfl, rfl, rfl, rfl, rfl, trivial⟩ (.cons_cons _ (sub_app hs2 (sub_app hs369 (.refl _)))) ⟨hs369, rfl, rfl, hle368, h370⟩
      exact R_nil
    refine R_do (Base.Le.refl _) rfl rfl (Stable.does (st_load 0 rfl one3 rfl rfl)) ?_ ?_
    ·
      rintro _ _ ⟨rfl, rfl⟩
      refine ⟨.inr (.cons _ (sub_skip hs2 (sub_skip hs7 (.refl _)))), ?_⟩
      have h371 := (chk_some h371).2
      refine D_st (Base.Le.refl _) 8 rfl (by kernel_rfl) (by kernel_rfl) (by kernel_rfl) rfl (st_sub rfl rfl h371) (.cons _ (sub_skip hs2 (sub_skip hs7 (.refl _)))) ?_
      refine d_front2 [_] hs2 hs7 R rfl ?_
      refine d_front2 [_] hs7 hs2 R rfl ?_
      refine d_out2 [_] [] hs2 hs7 R rfl ?_
      refine D_all [2] (by kernel_rfl) rfl ?_
      refine R_callGl (Base.Le.refl _) rfl rfl _ call112 rfl (cRunRunnerInto _ _ x13 0 x14 x15 x16 x17 x18 x19 x20 x21 x22 x23 l27 x28 x29 l30 l31 g10 A24 c25 A3 c4 hs2 g8 hs7 h26 h5 h9 x364 l365 hcl366) ?_ ?_
      ·
        rintro _ b367 _ hle368 ⟨hs369, rfl, rfl, h370⟩
        refine ⟨.inr (.cons _ (sub_skip hs2 (sub_skip hs369 (.refl _)))), ?_⟩
        refine d_in2 [_] [] hs2 hs369 R rfl ?_
        refine D_st hle368 9 rfl (by kernel_rfl) (by kernel_rfl) (by kernel_rfl) rfl (st_gtr rfl rfl) (.cons _ (sub_skip hs2 (sub_skip hs369 (.refl _)))) ?_
        refine D_done (by kernel_rfl) ?_
        obtain ⟨rfl, rfl⟩ := some2 hm
        refine x_front2 [_] hs2 hs369 R rfl ?_
        refine x_front2 [_] hs369 hs2 R rfl ?_
        exact x_join (e' := [(0, .pointer (some ⟨g10, 0, none⟩)), (1, .int .i64 (x11)), (2, .int .i64 (x12)), (3, .int .i64 (x13)), (21, .bool (decide ((x28 - x12) < x364)))]) (hp' := (g10, Cl 170 [.string (x14), .int .i64 (x15), .int .i64 (x16), .int .i64 (x17), .int .i64 (x18), .int .i64 (x19), .int .i64 (x20), .int .i64 (x21), .int .i64 (x22), .int .i64 (x23), .slice A24 (l27).length c25, .slice A3 (l30).length c4, .int .i64 (x28), .int .i64 (x29), .map (some g8)]) :: (hs2 ++ (hs369 ++ R))) ⟨rfl, rfl, rfl, rfl, rfl, trivial⟩ (.cons_cons _ (sub_app hs2 (sub_app hs369 (.refl _)))) ⟨hs369, rfl, rfl, hle368, h370⟩
      exact R_nil
    exact R_nil
  ·
    rintro b348 _ _ ⟨hs351, rfl, rfl, hle349, h352⟩
    have hm := (unc2E hk355)
    refine c_cond _ rfl (fun hc372 => ?_) (fun hc372 => ?_)
    ·
      rw [if_pos hc372] at hm
      refine c_seq ?_
      refine c_region ?_
      refine t_st rfl (st_assign rfl) ?_
      refine t_nil ?_
      refine x_then_normal ?_
      refine c_ret ?_
      refine x_then_ret ?_
      obtain ⟨rfl, rfl⟩ := some2 hm
      refine x_front2 [_] hs2 hs351 R rfl ?_
      refine x_front2 [_] hs351 hs2 R rfl ?_
      exact retM (rs := [.tmp 8]) [.bool (false)] hle349 (by decide) rfl ⟨rfl, trivial⟩ rfl (hp' := (g10, Cl 170 [.string (x14), .int .i64 (x15), .int .i64 (x16), .int .i64 (x17), .int .i64 (x18), .int .i64 (x19), .int .i64 (x20), .int .i64 (x21), .int .i64 (x22), .int .i64 (x23), .slice A24 (l27).length c25, .slice A3 (l30).length c4, .int .i64 (x28), .int .i64 (x29), .map (some g8)]) :: (hs2 ++ (hs351 ++ R))) (.cons_cons _ (sub_app hs2 (sub_app hs351 (.refl _)))) ⟨g8, hs351, rfl, rfl, h352⟩
    ·
      rw [if_neg (fun hh => Bool.noConfusion (hh.symm.trans hc372))] at hm
      refine c_skip ?_
      refine x_then_normal ?_
      refine c_seq ?_
      refine c_seq ?_
      refine c_region ?_
      refine t_st rfl (st_move rfl) ?_
      refine t_st rfl (st_nil rfl) ?_
      refine t_st rfl (st_field rfl fld170_1) ?_
      refine t_st rfl (st_load 0 rfl one80 rfl rfl) ?_
      refine t_st rfl (st_len rfl sl80) ?_
      refine t_st rfl (st_move rfl) ?_
      refine t_nil ?_
      refine x_then_normal ?_
      refine c_block ?_
      have hb374 := (FZ.bd (h26.le hle349))
      refine c_front2 [_] hs2 hs351 R rfl ?_
      refine c_front2 [_] hs351 hs2 R rfl ?_
      obtain ⟨t542, hl543, hk544⟩ := bindS hm
      refine c_forM (fun k541 => fun l540 => fun b535 e' hp' => ∃ (hs538 : Hp), [(0, .pointer (some ⟨g10, 0, none⟩)), (1, .int .i64 (x11)), (2, .int .i64 (x12)), (3, .int .i64 (x13)), (25, .slice A24 (l27).length c25), (26, .int .i64 ((l27.length : Int))), (27, .int .i64 ((k541 : Int)))] = e' ∧ (g10, Cl 170 [.string (x14), .int .i64 (x15), .int .i64 (x16), .int .i64 (x17), .int .i64 (x18), .int .i64 (x19), .int .i64 (x20), .int .i64 (x21), .int .i64 (x22), .int .i64 (x23), .slice A24 (l27).length c25, .slice A3 (l30).length c4, .int .i64 (x28), .int .i64 (x29), .map (some g8)]) :: (hs2 ++ (hs538 ++ R)) = hp' ∧ b348.Le b535 ∧ OM (RT.int .i64) (OT.list 3 (OT.fr (RT.int .i64))) false false b535.w g8 l540 hs538) hl543 (e' := [(0, .pointer (some ⟨g10, 0, none⟩)), (1, .int .i64 (x11)), (2, .int .i64 (x12)), (3, .int .i64 (x13)), (25, .slice A24 (l27).length c25), (26, .int .i64 ((l27.length : Int))), (27, .int .i64 0)]) (hp' := (g10, Cl 170 [.string (x14), .int .i64 (x15), .int .i64 (x16), .int .i64 (x17), .int .i64 (x18), .int .i64 (x19), .int .i64 (x20), .int .i64 (x21), .int .i64 (x22), .int .i64 (x23), .slice A24 (l27).length c25, .slice A3 (l30).length c4, .int .i64 (x28), .int .i64 (x29), .map (some g8)]) :: (hs2 ++ (hs351 ++ R))) ⟨rfl, rfl, rfl, rfl, rfl, rfl, rfl, trivial⟩ (.cons_cons _ (sub_app hs2 (sub_app hs351 (.refl _)))) ⟨hs351, rfl, rfl, (Base.Le.refl _), h352⟩ ?_ ?_
      ·
        rintro k541 l540 b535 _ _ oL373 hknL373 ⟨hs538, rfl, rfl, hle536, h539⟩ hstepL373 houtL373
        unfold mRunRunnerMay_L373 at hstepL373
        have hm := hstepL373
        refine c_seq ?_
        refine c_region ?_
        refine t_st rfl (st_lss_t rfl rfl (by omega)) ?_
        refine t_nil ?_
        refine x_then_normal ?_
        refine c_seq ?_
        refine c_cond_t rfl ?_
        refine c_skip ?_
        refine x_then_normal ?_
        refine c_seq ?_
        refine c_block ?_
        refine c_seq ?_
        refine c_region ?_
        refine t_st rfl (st_move rfl) ?_
        obtain ⟨x545, h546, hm⟩ := bindS hm
        obtain ⟨j547, hj548, hx549⟩ := idx_some h546
        obtain ⟨cs550, hr551, hcs552, hA553, hlt554⟩ := FZ.get (sz := 3) rfl (by decide) (h26.le (hle349.trans hle536)) hx549
        obtain ⟨_, _, rfl, rfl, ⟨_, _, rfl, rfl, rfl⟩⟩ := hr551
        refine t_st rfl (st_index_old j547 rfl rfl hj548 hlt554 hA553 sl80) ?_
        refine t_st rfl (st_loadN_old (vs := [.int .i64 (x545.Length), .int .i64 (x545.Grade), .int .i64 (x545.Speed)]) 3 rfl agg97 hA553 rfl (fun j u hu => hcs552 j u hu)) ?_
        refine t_do rfl (u_alloc [.int .i64 0, .int .i64 0, .int .i64 0] zero97 rfl) ?_
        rintro _ _ ⟨g555, rfl, rfl⟩
        refine t_st rfl (st_assign rfl) ?_
        refine t_do rfl (u_storeN (vs := [_, _, _]) 0 3 rfl rfl rfl siz97 rfl (by intro u hu; simp only [List.mem_cons, List.not_mem_nil, or_false] at hu; rcases hu with rfl | rfl | rfl <;> rfl) rfl (by simp)) ?_
        rintro _ _ rfl
        refine t_nil ?_
        refine x_then_normal ?_
        refine c_seq ?_
        refine c_region ?_
        refine t_st rfl (st_move rfl) ?_
        refine t_st rfl (st_nil rfl) ?_
        refine t_st rfl (st_field rfl fld170_2) ?_
        refine t_st rfl (st_load 1 rfl one24 rfl rfl) ?_
        refine t_st rfl (st_move rfl) ?_
        obtain ⟨x556, h557, hm⟩ := bindS hm
        obtain ⟨j558, hj559, hx560⟩ := idx_some h557
        obtain ⟨cs561, hs566, P567, P568, hq569, hr562, hcs563, hA564, hlt565, hb570, hho571⟩ := OS.get (sz := 1) rfl (by decide) (h5.le (hle349.trans hle536)) hx560
        obtain ⟨rfl, rfl⟩ := hr562
        refine t_st rfl (st_index_old j558 rfl rfl hj559 hlt565 hA564 sl24) ?_
        refine t_st rfl (st_load_rd rfl one3 (fun w ho => hcs563 w _ ho (.cons _ (.cons _ (List.sublist_append_left _ _))) 0 _ rfl)) ?_
        refine t_st rfl (st_assign rfl) ?_
        refine t_nil ?_
        refine x_then_normal ?_
        refine c_block ?_
        refine c_seq ?_
        refine c_region ?_
        refine t_st rfl (st_move rfl) ?_
        refine t_st rfl (st_move rfl) ?_
        refine t_st rfl (st_geq rfl rfl) ?_
        refine t_st rfl (st_assign rfl) ?_
        refine t_nil ?_
        refine x_then_normal ?_
        refine c_cond _ rfl (fun hc572 => ?_) (fun hc572 => ?_)
        ·
          rw [if_pos (of_decide_eq_true hc572)] at hm
          refine c_seq ?_
          refine c_region ?_
          refine t_st rfl (st_move rfl) ?_
          refine t_st rfl (st_move rfl) ?_
          refine t_st rfl (st_field rfl fld97_2) ?_
          refine t_st rfl (st_load 0 rfl one3 rfl rfl) ?_
          obtain ⟨⟨x573, l574⟩, hcl575, hm⟩ := bindS hm
          have hm := (unc2E hm)
          refine t_pullb 1 rfl ?_
          refine t_front2 [_, _] hs2 hs538 R rfl ?_
          refine t_front2 [_, _] hs538 hs2 R rfl ?_
          refine t_out2 [_] [_] hs2 hs538 R rfl ?_
          refine t_callG _ rfl call112 rfl (cRunRunnerInto _ _ x13 x545.Speed x14 x15 x16 x17 x18 x19 x20 x21 x22 x23 l27 x28 x29 l30 l540 g10 A24 c25 A3 c4 hs2 g8 hs538 (h26.le (hle349.trans hle536)) (h5.le (hle349.trans hle536)) h539 x573 l574 hcl575) ?_
          rintro _ b576 _ hle577 ⟨hs578, rfl, rfl, h579⟩
          refine t_in2 [_] [_] hs2 hs578 R rfl ?_
          refine t_st rfl (st_move rfl) ?_
          refine t_st rfl (st_move rfl) ?_
          obtain ⟨_, h580, hm⟩ := bindS hm
          have h580 := (chk_some h580).2
          refine t_st rfl (st_sub rfl rfl h580) ?_
          refine t_st rfl (st_gtr rfl rfl) ?_
          refine t_nil ?_
          refine x_then_normal ?_
          refine c_cond _ rfl (fun hc581 => ?_) (fun hc581 => ?_)
          ·
            rw [if_pos (of_decide_eq_true hc581)] at hm
            refine c_seq ?_
            refine c_region ?_
            refine t_st rfl (st_assign rfl) ?_
            refine t_nil ?_
            refine x_then_normal ?_
            refine c_ret ?_
            refine x_block_ret ?_
            refine x_block_ret ?_
            refine x_then_ret ?_
            refine x_then_ret ?_
            refine x_block_ret ?_
            refine x_then_ret ?_
            have hq582 := houtL373 _ (Option.some.inj hm).symm
            rw [hq582] at hk544
            have hm := elimR hk544
            obtain ⟨rfl, rfl⟩ := some2 hm
            refine x_front2 [_, _] hs2 hs578 R rfl ?_
            refine x_front2 [_, _] hs578 hs2 R rfl ?_
            exact retM (rs := [.tmp 8]) [.bool (false)] (hle349.trans (hle536.trans hle577)) (by decide) rfl ⟨rfl, trivial⟩ rfl (hp' := (g10, Cl 170 [.string (x14), .int .i64 (x15), .int .i64 (x16), .int .i64 (x17), .int .i64 (x18), .int .i64 (x19), .int .i64 (x20), .int .i64 (x21), .int .i64 (x22), .int .i64 (x23), .slice A24 (l27).length c25, .slice A3 (l30).length c4, .int .i64 (x28), .int .i64 (x29), .map (some g8)]) :: (hs2 ++ (hs578 ++ R))) (.cons_cons _ (.cons _ (sub_app hs2 (sub_app hs578 (.refl _))))) ⟨g8, hs578, rfl, rfl, h579⟩
          ·
            rw [if_neg (of_decide_eq_false hc581)] at hm
            refine c_skip ?_
            refine x_block_normal ?_
            refine x_block_normal ?_
            refine x_then_normal ?_
            refine c_region ?_
            refine t_st rfl (st_add rfl rfl (by omega)) ?_
            refine t_st rfl (st_move rfl) ?_
            refine t_nil ?_
            refine x_front2 [_, _] hs2 hs578 R rfl ?_
            refine x_front2 [_, _] hs578 hs2 R rfl ?_
            exact x_againM l574 (Option.some.inj hm).symm (e' := [(0, .pointer (some ⟨g10, 0, none⟩)), (1, .int .i64 (x11)), (2, .int .i64 (x12)), (3, .int .i64 (x13)), (25, .slice A24 (l27).length c25), (26, .int .i64 ((l27.length : Int))), (27, .int .i64 ((k541 : Int) + 1))]) (hp' := (g10, Cl 170 [.string (x14), .int .i64 (x15), .int .i64 (x16), .int .i64 (x17), .int .i64 (x18), .int .i64 (x19), .int .i64 (x20), .int .i64 (x21), .int .i64 (x22), .int .i64 (x23), .slice A24 (l27).length c25, .slice A3 (l30).length c4, .int .i64 (x28), .int .i64 (x29), .map (some g8)]) :: (hs2 ++ (hs578 ++ R))) ⟨rfl, rfl, rfl, rfl, rfl, rfl, rfl, trivial⟩ (.cons_cons _ (.cons _ (sub_app hs2 (sub_app hs578 (.refl _))))) ⟨hs578, rfl, rfl, ((hle536.trans hle577)), h579⟩
        ·
          rw [if_neg (of_decide_eq_false hc572)] at hm
          obtain ⟨x603, hj604, hk604⟩ := bindS hm
          refine c_join (fun b601 e' hp' => [(0, .pointer (some ⟨g10, 0, none⟩)), (1, .int .i64 (x11)), (2, .int .i64 (x12)), (3, .int .i64 (x13)), (25, .slice A24 (l27).length c25), (26, .int .i64 ((l27.length : Int))), (27, .int .i64 ((k541 : Int))), (52, .bool (x603))] = e' ∧ (g10, Cl 170 [.string (x14), .int .i64 (x15), .int .i64 (x16), .int .i64 (x17), .int .i64 (x18), .int .i64 (x19), .int .i64 (x20), .int .i64 (x21), .int .i64 (x22), .int .i64 (x23), .slice A24 (l27).length c25, .slice A3 (l30).length c4, .int .i64 (x28), .int .i64 (x29), .map (some g8)]) :: (hs2 ++ (hs538 ++ R)) = hp' ∧ b535.Le b601) ?_ ?_
          ·
            have hm := hj604
            refine c_region ?_
            refine t_st rfl (st_move rfl) ?_
            refine t_st rfl (st_nil rfl) ?_
            refine t_st rfl (st_field rfl fld170_2) ?_
            refine t_st rfl (st_load 1 rfl one24 rfl rfl) ?_
            refine t_st rfl (st_move rfl) ?_
            obtain ⟨_, h605, hm⟩ := bindS hm
            have h605 := (chk_some h605).2
            refine t_st rfl (st_add rfl rfl h605) ?_
            obtain ⟨x606, h607, hm⟩ := bindS hm
            obtain ⟨j608, hj609, hx610⟩ := idx_some h607
            obtain ⟨cs611, hs616, P617, P618, hq619, hr612, hcs613, hA614, hlt615, hb620, hho621⟩ := OS.get (sz := 1) rfl (by decide) (h5.le (hle349.trans hle536)) hx610
            obtain ⟨rfl, rfl⟩ := hr612
            refine t_st rfl (st_index_old j608 rfl rfl hj609 hlt615 hA614 sl24) ?_
            refine t_st rfl (st_load_rd rfl one3 (fun w ho => hcs613 w _ ho (.cons _ (.cons _ (List.sublist_append_left _ _))) 0 _ rfl)) ?_
            refine t_st rfl (st_move rfl) ?_
            refine t_bool rfl (st_gtr rfl rfl) (fun hc622 => ?_) (fun hc622 => ?_)
            ·
              rw [if_pos hc622] at hm
              refine t_st rfl (st_move rfl) ?_
              refine t_yes 63 rfl rfl rfl ?_
              refine t_st rfl (st_move rfl) ?_
              refine t_yes 63 rfl rfl rfl ?_
              refine t_st rfl (st_field rfl fld97_2) ?_
              refine t_yes 63 rfl rfl rfl ?_
              refine t_st rfl (st_load 0 rfl one3 rfl rfl) ?_
              refine t_yes 63 rfl rfl rfl ?_
              refine t_st rfl (st_gtr rfl rfl) ?_
              refine t_st rfl (st_pick_t rfl rfl) ?_
              refine t_st rfl (st_assign rfl) ?_
              refine t_nil ?_
              obtain rfl := some1 hm
              refine x_pullb 1 rfl ?_
              refine x_front2 [_, _] hs2 hs538 R rfl ?_
              refine x_front2 [_, _] hs538 hs2 R rfl ?_
              exact x_join (e' := [(0, .pointer (some ⟨g10, 0, none⟩)), (1, .int .i64 (x11)), (2, .int .i64 (x12)), (3, .int .i64 (x13)), (25, .slice A24 (l27).length c25), (26, .int .i64 ((l27.length : Int))), (27, .int .i64 ((k541 : Int))), (52, .bool (decide (x545.Speed < x13)))]) (hp' := (g10, Cl 170 [.string (x14), .int .i64 (x15), .int .i64 (x16), .int .i64 (x17), .int .i64 (x18), .int .i64 (x19), .int .i64 (x20), .int .i64 (x21), .int .i64 (x22), .int .i64 (x23), .slice A24 (l27).length c25, .slice A3 (l30).length c4, .int .i64 (x28), .int .i64 (x29), .map (some g8)]) :: (hs2 ++ (hs538 ++ R))) ⟨rfl, rfl, rfl, rfl, rfl, rfl, rfl, rfl, trivial⟩ (.cons_cons _ (.cons _ (sub_app hs2 (sub_app hs538 (.refl _))))) ⟨rfl, rfl, (Base.Le.refl _)⟩
            ·
              rw [if_neg hc622] at hm
              refine t_st rfl (st_move rfl) ?_
              refine t_no 63 rfl rfl rfl rfl rfl ?_
              refine t_no 63 rfl rfl rfl rfl rfl ?_
              refine t_no 63 rfl rfl rfl rfl rfl ?_
              refine t_no 63 rfl rfl rfl rfl rfl ?_
              refine t_st rfl (st_pick_f rfl rfl) ?_
              refine t_st rfl (st_assign rfl) ?_
              refine t_nil ?_
              obtain rfl := some1 hm
              refine x_pullb 1 rfl ?_
              refine x_front2 [_, _] hs2 hs538 R rfl ?_
              refine x_front2 [_, _] hs538 hs2 R rfl ?_
              exact x_join (e' := [(0, .pointer (some ⟨g10, 0, none⟩)), (1, .int .i64 (x11)), (2, .int .i64 (x12)), (3, .int .i64 (x13)), (25, .slice A24 (l27).length c25), (26, .int .i64 ((l27.length : Int))), (27, .int .i64 ((k541 : Int))), (52, .bool (false))]) (hp' := (g10, Cl 170 [.string (x14), .int .i64 (x15), .int .i64 (x16), .int .i64 (x17), .int .i64 (x18), .int .i64 (x19), .int .i64 (x20), .int .i64 (x21), .int .i64 (x22), .int .i64 (x23), .slice A24 (l27).length c25, .slice A3 (l30).length c4, .int .i64 (x28), .int .i64 (x29), .map (some g8)]) :: (hs2 ++ (hs538 ++ R))) ⟨rfl, rfl, rfl, rfl, rfl, rfl, rfl, rfl, trivial⟩ (.cons_cons _ (.cons _ (sub_app hs2 (sub_app hs538 (.refl _))))) ⟨rfl, rfl, (Base.Le.refl _)⟩
          ·
            rintro b601 _ _ ⟨rfl, rfl, hle602⟩
            have hm := hk604
            refine c_cond _ rfl (fun hc623 => ?_) (fun hc623 => ?_)
            ·
              rw [if_pos hc623] at hm
              refine c_seq ?_
              refine c_region ?_
              refine t_st rfl (st_assign rfl) ?_
              refine t_nil ?_
              refine x_then_normal ?_
              refine c_ret ?_
              refine x_block_ret ?_
              refine x_block_ret ?_
              refine x_then_ret ?_
              refine x_then_ret ?_
              refine x_block_ret ?_
              refine x_then_ret ?_
              have hq624 := houtL373 _ (Option.some.inj hm).symm
              rw [hq624] at hk544
              have hm := elimR hk544
              obtain ⟨rfl, rfl⟩ := some2 hm
              refine x_front2 [_] hs2 hs538 R rfl ?_
              refine x_front2 [_] hs538 hs2 R rfl ?_
              exact retM (rs := [.tmp 8]) [.bool (false)] (hle349.trans (hle536.trans hle602)) (by decide) rfl ⟨rfl, trivial⟩ rfl (hp' := (g10, Cl 170 [.string (x14), .int .i64 (x15), .int .i64 (x16), .int .i64 (x17), .int .i64 (x18), .int .i64 (x19), .int .i64 (x20), .int .i64 (x21), .int .i64 (x22), .int .i64 (x23), .slice A24 (l27).length c25, .slice A3 (l30).length c4, .int .i64 (x28), .int .i64 (x29), .map (some g8)]) :: (hs2 ++ (hs538 ++ R))) (.cons_cons _ (sub_app hs2 (sub_app hs538 (.refl _)))) ⟨g8, hs538, rfl, rfl, (h539.le hle602)⟩
            ·
              rw [if_neg (fun hh => Bool.noConfusion (hh.symm.trans hc623))] at hm
              refine c_skip ?_
              refine x_block_normal ?_
              refine x_block_normal ?_
              refine x_then_normal ?_
              refine c_region ?_
              refine t_st rfl (st_add rfl rfl (by omega)) ?_
              refine t_st rfl (st_move rfl) ?_
              refine t_nil ?_
              refine x_front2 [_] hs2 hs538 R rfl ?_
              refine x_front2 [_] hs538 hs2 R rfl ?_
              exact x_againM l540 (Option.some.inj hm).symm (e' := [(0, .pointer (some ⟨g10, 0, none⟩)), (1, .int .i64 (x11)), (2, .int .i64 (x12)), (3, .int .i64 (x13)), (25, .slice A24 (l27).length c25), (26, .int .i64 ((l27.length : Int))), (27, .int .i64 ((k541 : Int) + 1))]) (hp' := (g10, Cl 170 [.string (x14), .int .i64 (x15), .int .i64 (x16), .int .i64 (x17), .int .i64 (x18), .int .i64 (x19), .int .i64 (x20), .int .i64 (x21), .int .i64 (x22), .int .i64 (x23), .slice A24 (l27).length c25, .slice A3 (l30).length c4, .int .i64 (x28), .int .i64 (x29), .map (some g8)]) :: (hs2 ++ (hs538 ++ R))) ⟨rfl, rfl, rfl, rfl, rfl, rfl, rfl, trivial⟩ (.cons_cons _ (sub_app hs2 (sub_app hs538 (.refl _)))) ⟨hs538, rfl, rfl, ((hle536.trans hle602)), (h539.le hle602)⟩
      ·
        rintro l540 b535 _ _ ⟨hs538, rfl, rfl, hle536, h539⟩ hq625
        rw [hq625] at hk544
        have hm := elimL hk544
        refine c_seq ?_
        refine c_region ?_
        refine t_st rfl (st_lss_f rfl rfl (by omega)) ?_
        refine t_nil ?_
        refine x_then_normal ?_
        refine c_seq ?_
        refine c_cond_f rfl ?_
        refine c_exit ?_
        refine x_then_exit ?_
        refine x_then_exit ?_
        refine x_block_out ?_
        refine x_then_normal ?_
        refine c_seq ?_
        refine c_region ?_
        refine t_st rfl (st_assign rfl) ?_
        refine t_nil ?_
        refine x_then_normal ?_
        refine c_ret ?_
        obtain ⟨rfl, rfl⟩ := some2 hm
        refine x_front2 [_] hs2 hs538 R rfl ?_
        refine x_front2 [_] hs538 hs2 R rfl ?_
        exact retM (rs := [.tmp 8]) [.bool (true)] (hle349.trans hle536) (by decide) rfl ⟨rfl, trivial⟩ rfl (hp' := (g10, Cl 170 [.string (x14), .int .i64 (x15), .int .i64 (x16), .int .i64 (x17), .int .i64 (x18), .int .i64 (x19), .int .i64 (x20), .int .i64 (x21), .int .i64 (x22), .int .i64 (x23), .slice A24 (l27).length c25, .slice A3 (l30).length c4, .int .i64 (x28), .int .i64 (x29), .map (some g8)]) :: (hs2 ++ (hs538 ++ R))) (.cons_cons _ (sub_app hs2 (sub_app hs538 (.refl _)))) ⟨g8, hs538, rfl, rfl, h539⟩

set_option maxRecDepth 20000 in
theorem cRunRunnerSecond (b : Base) (R : Hp) (s11 : ApiState) (x12 : ByteArray) (x13 : Int) (x14 : Int) (x15 : Int) (x16 : Int) (x17 : Int) (x18 : Int) (x19 : Int) (x20 : Int) (x21 : Int) (l25 : (List ApiPiece)) (x26 : Int) (x27 : Int) (l28 : (List Int)) (l29 : (List (Int × (List Int)))) (g10 : Nat) (A22 : Option Addr) (c23 : Nat) (A3 : Option Addr) (c4 : Nat) (hs2 : Hp) (g8 : Nat) (hs7 : Hp) (h24 : FZ rApiPiece b.w A22 c23 l25) (h5 : OS 3 (OT.fr (RT.int .i64)) b.w (.slice A3 l28.length c4) l28 hs2) (h9 : OM (RT.int .i64) (OT.list 3 (OT.fr (RT.int .i64))) false false b.w g8 l29 hs7) (x576 : Int) (x577 : Int) (x578 : Int) (l579 : (List (Int × (List Int)))) (hm : mRunRunnerSecond s11 x12 x13 x14 x15 x16 x17 x18 x19 x20 x21 l25 x26 x27 l28 l29 = some (x576, x577, x578, l579)) :
    CallsG Tryd.prog 71 [.pointer (some ⟨g10, 0, none⟩), .agg #[.int .i64 (s11.At), .int .i64 (s11.Speed), .int .i64 (s11.Work)]] b ((g10, Cl 170 [.string (x12), .int .i64 (x13), .int .i64 (x14), .int .i64 (x15), .int .i64 (x16), .int .i64 (x17), .int .i64 (x18), .int .i64 (x19), .int .i64 (x20), .int .i64 (x21), .slice A22 (l25).length c23, .slice A3 (l28).length c4, .int .i64 (x26), .int .i64 (x27), .map (some g8)]) :: (hs2 ++ (hs7 ++ R))) (fun v b' hp' => ∃ (g574 : Nat), ∃ (hs573 : Hp), .agg #[.int .i64 (x576), .int .i64 (x577), .int .i64 (x578)] = v ∧ (g10, Cl 170 [.string (x12), .int .i64 (x13), .int .i64 (x14), .int .i64 (x15), .int .i64 (x16), .int .i64 (x17), .int .i64 (x18), .int .i64 (x19), .int .i64 (x20), .int .i64 (x21), .slice A22 (l25).length c23, .slice A3 (l28).length c4, .int .i64 (x26), .int .i64 (x27), .map (some g574)]) :: (hs2 ++ (hs573 ++ R)) = hp' ∧ OM (RT.int .i64) (OT.list 3 (OT.fr (RT.int .i64))) false false b'.w g574 l579 hs573) := by
  refine fn_enterG 121 Tryd.func71 rfl Tryd.ntmps71 rfl ?_
  unfold mRunRunnerSecond at hm
  refine c_seq ?_
  refine c_region ?_
  refine t_do rfl (u_box _ rfl rfl) ?_
  rintro _ _ ⟨g580, rfl, rfl⟩
  refine t_do rfl (u_alloc [.int .i64 0, .int .i64 0, .int .i64 0] zero82 rfl) ?_
  rintro _ _ ⟨g581, rfl, rfl⟩
  refine t_nil ?_
  refine x_then_normal ?_
  obtain ⟨x592, hj593, hk593⟩ := bindS hm
  refine c_join (fun b590 e' hp' => [(0, .pointer (some ⟨g10, 0, none⟩)), (3, .pointer (some ⟨g580, 0, none⟩)), (4, .pointer (some ⟨g581, 0, none⟩)), (5, .int .i64 (s11.Speed)), (6, .int .i64 (x592))] = e' ∧ (g10, Cl 170 [.string (x12), .int .i64 (x13), .int .i64 (x14), .int .i64 (x15), .int .i64 (x16), .int .i64 (x17), .int .i64 (x18), .int .i64 (x19), .int .i64 (x20), .int .i64 (x21), .slice A22 (l25).length c23, .slice A3 (l28).length c4, .int .i64 (x26), .int .i64 (x27), .map (some g8)]) :: (g580, Cl 82 [.int .i64 (s11.At), .int .i64 (s11.Speed), .int .i64 (s11.Work)]) :: (g581, Cl 82 [.int .i64 (0), .int .i64 (0), .int .i64 (0)]) :: (hs2 ++ (hs7 ++ R)) = hp' ∧ b.Le b590) ?_ ?_
  ·
    have hm := hj593
    obtain ⟨x598, hcl599, hm⟩ := bindS hm
    refine D_drawS ((g581, Cl 82 [.int .i64 (0), .int .i64 (0), .int .i64 (0)]) :: (g580, Cl 82 [.int .i64 (s11.At), .int .i64 (s11.Speed), .int .i64 (s11.Work)]) :: R) mixed ?_
    refine D_st (Base.Le.refl _) 0 rfl (by kernel_rfl) (by kernel_rfl) (by kernel_rfl) rfl (st_field rfl fld82_1) (.cons_cons _ (.cons_cons _ (.cons _ (sub_skip hs2 (sub_skip hs7 (.refl _)))))) ?_
    refine D_st (Base.Le.refl _) 1 rfl (by kernel_rfl) (by kernel_rfl) (by kernel_rfl) rfl (st_load 1 rfl one3 rfl rfl) (.cons_cons _ (.cons_cons _ (.cons _ (sub_skip hs2 (sub_skip hs7 (.refl _)))))) ?_
    refine D_st (Base.Le.refl _) 2 rfl (by kernel_rfl) (by kernel_rfl) (by kernel_rfl) rfl (st_move rfl) (.cons_cons _ (.cons_cons _ (.cons _ (sub_skip hs2 (sub_skip hs7 (.refl _)))))) ?_
    refine D_st (Base.Le.refl _) 3 rfl (by kernel_rfl) (by kernel_rfl) (by kernel_rfl) rfl (st_field rfl fld82_0) (.cons_cons _ (.cons_cons _ (.cons _ (sub_skip hs2 (sub_skip hs7 (.refl _)))))) ?_
    refine D_st (Base.Le.refl _) 4 rfl (by kernel_rfl) (by kernel_rfl) (by kernel_rfl) rfl (st_load 1 rfl one3 rfl rfl) (.cons_cons _ (.cons_cons _ (.cons _ (sub_skip hs2 (sub_skip hs7 (.refl _)))))) ?_
    refine d_pullb 2 rfl ?_
    refine d_front2 [_, _, _] hs2 hs7 R rfl ?_
    refine d_front2 [_, _, _] hs7 hs2 R rfl ?_
    refine d_out2 [_] [_, _] hs2 hs7 R rfl ?_
    refine D_all [5] (by kernel_rfl) rfl ?_
    refine R_callGl (Base.Le.refl _) rfl rfl _ call95 rfl (cRunRunnerGrade _ _ s11.At x12 x13 x14 x15 x16 x17 x18 x19 x20 x21 l25 x26 x27 l28 l29 g10 A22 c23 A3 c4 hs2 g8 hs7 h24 h5 h9 x598 hcl599) ?_ ?_
    ·
      rintro _ b600 _ hle601 ⟨rfl, rfl⟩
      refine ⟨.inr (.cons _ (sub_skip hs2 (sub_skip hs7 (.cons_cons _ (.cons_cons _ (.refl _)))))), ?_⟩
      refine d_in2 [_] [_, _] hs2 hs7 R rfl ?_
      refine D_st hle601 6 rfl (by kernel_rfl) (by kernel_rfl) (by kernel_rfl) rfl (st_assign rfl) (.cons _ (.cons_cons _ (.cons_cons _ (sub_skip hs2 (sub_skip hs7 (.refl _)))))) ?_
      refine D_st hle601 7 rfl (by kernel_rfl) (by kernel_rfl) (by kernel_rfl) rfl (st_assign rfl) (.cons _ (.cons_cons _ (.cons_cons _ (sub_skip hs2 (sub_skip hs7 (.refl _)))))) ?_
      refine D_done (by kernel_rfl) ?_
      obtain rfl := some1 hm
      refine x_pullb 1 rfl ?_
      refine x_pullb 2 rfl ?_
      refine x_pullb 2 rfl ?_
      refine x_front2 [_, _, _] hs2 hs7 R rfl ?_
      refine x_front2 [_, _, _] hs7 hs2 R rfl ?_
      exact x_join (e' := [(0, .pointer (some ⟨g10, 0, none⟩)), (3, .pointer (some ⟨g580, 0, none⟩)), (4, .pointer (some ⟨g581, 0, none⟩)), (5, .int .i64 (s11.Speed)), (6, .int .i64 (x598))]) (hp' := (g10, Cl 170 [.string (x12), .int .i64 (x13), .int .i64 (x14), .int .i64 (x15), .int .i64 (x16), .int .i64 (x17), .int .i64 (x18), .int .i64 (x19), .int .i64 (x20), .int .i64 (x21), .slice A22 (l25).length c23, .slice A3 (l28).length c4, .int .i64 (x26), .int .i64 (x27), .map (some g8)]) :: (g580, Cl 82 [.int .i64 (s11.At), .int .i64 (s11.Speed), .int .i64 (s11.Work)]) :: (g581, Cl 82 [.int .i64 (0), .int .i64 (0), .int .i64 (0)]) :: (hs2 ++ (hs7 ++ R))) ⟨rfl, rfl, rfl, rfl, rfl, trivial⟩ (.cons_cons _ (.cons_cons _ (.cons_cons _ (sub_app hs2 (sub_app hs7 (.refl _)))))) ⟨rfl, rfl, hle601⟩
    exact R_nil
  ·
    rintro b590 _ _ ⟨rfl, rfl, hle591⟩
    have hm := hk593
    refine c_seq ?_
    refine c_region ?_
    refine t_st rfl (st_move rfl) ?_
    refine t_st rfl (st_move rfl) ?_
    refine t_st rfl (st_nil rfl) ?_
    refine t_st rfl (st_field rfl fld170_0) ?_
    refine t_st rfl (st_field rfl fld43_7) ?_
    refine t_st rfl (st_load 0 rfl one3 rfl rfl) ?_
    refine t_st rfl (st_move rfl) ?_
    obtain ⟨_, h602, hm⟩ := bindS hm
    have h602 := (chk_some h602).2
    refine t_st rfl (st_add rfl rfl h602) ?_
    obtain ⟨_, h603, hm⟩ := bindS hm
    have h603 := (chk_some h603).2
    refine t_st rfl (st_sub rfl rfl h603) ?_
    refine t_st rfl (st_max rfl rfl) ?_
    refine t_st rfl (st_assign rfl) ?_
    refine t_nil ?_
    refine x_then_normal ?_
    refine c_seq ?_
    obtain ⟨x607, hcl608, hm⟩ := bindS hm
    obtain ⟨_, h609, hm⟩ := bindS hm
    refine D_drawS ((g10, Cl 170 [.string (x12), .int .i64 (x13), .int .i64 (x14), .int .i64 (x15), .int .i64 (x16), .int .i64 (x17), .int .i64 (x18), .int .i64 (x19), .int .i64 (x20), .int .i64 (x21), .slice A22 (l25).length c23, .slice A3 (l28).length c4, .int .i64 (x26), .int .i64 (x27), .map (some g8)]) :: (g580, Cl 82 [.int .i64 (s11.At), .int .i64 (s11.Speed), .int .i64 (s11.Work)]) :: (g581, Cl 82 [.int .i64 (0), .int .i64 (0), .int .i64 (0)]) :: (hs2 ++ (hs7 ++ R))) mixed ?_
    refine D_st (Base.Le.refl _) 0 rfl (by kernel_rfl) (by kernel_rfl) (by kernel_rfl) rfl (st_move rfl) (.cons_cons _ (.cons_cons _ (.cons_cons _ (sub_app hs2 (sub_app hs7 (.refl _)))))) ?_
    refine D_st (Base.Le.refl _) 1 rfl (by kernel_rfl) (by kernel_rfl) (by kernel_rfl) rfl (st_move rfl) (.cons_cons _ (.cons_cons _ (.cons_cons _ (sub_app hs2 (sub_app hs7 (.refl _)))))) ?_
    refine D_st (Base.Le.refl _) 2 rfl (by kernel_rfl) (by kernel_rfl) (by kernel_rfl) rfl (st_nil rfl) (.cons_cons _ (.cons_cons _ (.cons_cons _ (sub_app hs2 (sub_app hs7 (.refl _)))))) ?_
    refine D_st (Base.Le.refl _) 3 rfl (by kernel_rfl) (by kernel_rfl) (by kernel_rfl) rfl (st_field rfl fld170_0) (.cons_cons _ (.cons_cons _ (.cons_cons _ (sub_app hs2 (sub_app hs7 (.refl _)))))) ?_
    refine D_st (Base.Le.refl _) 4 rfl (by kernel_rfl) (by kernel_rfl) (by kernel_rfl) rfl (st_loadD (vs := [_, _, _, _, _, _, _, _, _, _]) 0 10 rfl agg43 rfl rfl rfl) (.cons_cons _ (.cons_cons _ (.cons_cons _ (sub_app hs2 (sub_app hs7 (.refl _)))))) ?_
    refine D_st (Base.Le.refl _) 5 rfl (by kernel_rfl) (by kernel_rfl) (by kernel_rfl) rfl (st_move rfl) (.cons_cons _ (.cons_cons _ (.cons_cons _ (sub_app hs2 (sub_app hs7 (.refl _)))))) ?_
    refine D_st (Base.Le.refl _) 6 rfl (by kernel_rfl) (by kernel_rfl) (by kernel_rfl) rfl (st_move rfl) (.cons_cons _ (.cons_cons _ (.cons_cons _ (sub_app hs2 (sub_app hs7 (.refl _)))))) ?_
    refine D_st (Base.Le.refl _) 9 rfl (by kernel_rfl) (by kernel_rfl) (by kernel_rfl) rfl (st_move rfl) (.cons_cons _ (.cons_cons _ (.cons_cons _ (sub_app hs2 (sub_app hs7 (.refl _)))))) ?_
    refine D_st (Base.Le.refl _) 10 rfl (by kernel_rfl) (by kernel_rfl) (by kernel_rfl) rfl (st_nil rfl) (.cons_cons _ (.cons_cons _ (.cons_cons _ (sub_app hs2 (sub_app hs7 (.refl _)))))) ?_
    refine D_st (Base.Le.refl _) 11 rfl (by kernel_rfl) (by kernel_rfl) (by kernel_rfl) rfl (st_field rfl fld170_4) (.cons_cons _ (.cons_cons _ (.cons_cons _ (sub_app hs2 (sub_app hs7 (.refl _)))))) ?_
    refine D_st (Base.Le.refl _) 12 rfl (by kernel_rfl) (by kernel_rfl) (by kernel_rfl) rfl (st_load 0 rfl one3 rfl rfl) (.cons_cons _ (.cons_cons _ (.cons_cons _ (sub_app hs2 (sub_app hs7 (.refl _)))))) ?_
    refine D_all [7] (by kernel_rfl) rfl ?_
    refine R_do (Base.Le.refl _) rfl rfl (u_callW0 _ call96 rfl (fun w ho => cRunGain _ [] (⟨x12, x13, x14, x15, x16, x17, x18, x19, x20, x21⟩ : ApiStock) s11.Speed x592 x607 hcl608) (fun _ _ _ h => h.2.symm)) ?_ ?_
    ·
      rintro _ _ ⟨⟨_, rfl, _⟩, rfl⟩
      refine ⟨.inr (.cons_cons _ (.cons_cons _ (.cons_cons _ (sub_app hs2 (sub_app hs7 (.refl _)))))), ?_⟩
      have h609 := (chk_some h609).2
      refine D_st (Base.Le.refl _) 8 rfl (by kernel_rfl) (by kernel_rfl) (by kernel_rfl) rfl (st_add rfl rfl h609) (.cons_cons _ (.cons_cons _ (.cons_cons _ (sub_app hs2 (sub_app hs7 (.refl _)))))) ?_
      refine D_st (Base.Le.refl _) 13 rfl (by kernel_rfl) (by kernel_rfl) (by kernel_rfl) rfl (st_min rfl rfl) (.cons_cons _ (.cons_cons _ (.cons_cons _ (sub_app hs2 (sub_app hs7 (.refl _)))))) ?_
      refine D_st (Base.Le.refl _) 14 rfl (by kernel_rfl) (by kernel_rfl) (by kernel_rfl) rfl (st_assign rfl) (.cons_cons _ (.cons_cons _ (.cons_cons _ (sub_app hs2 (sub_app hs7 (.refl _)))))) ?_
      refine D_done (by kernel_rfl) ?_
      refine x_then_normal ?_
      obtain ⟨⟨x832, l833⟩, hj834, hk834⟩ := bindS hm
      refine c_join (fun b826 e' hp' => ∃ (g830 : Nat), ∃ (hs829 : Hp), [(0, .pointer (some ⟨g10, 0, none⟩)), (3, .pointer (some ⟨g580, 0, none⟩)), (4, .pointer (some ⟨g581, 0, none⟩)), (5, .int .i64 (s11.Speed)), (6, .int .i64 (x592)), (7, .int .i64 (max 0 (s11.Speed - (x19 + x592)))), (8, .int .i64 (x832))] = e' ∧ (g10, Cl 170 [.string (x12), .int .i64 (x13), .int .i64 (x14), .int .i64 (x15), .int .i64 (x16), .int .i64 (x17), .int .i64 (x18), .int .i64 (x19), .int .i64 (x20), .int .i64 (x21), .slice A22 (l25).length c23, .slice A3 (l28).length c4, .int .i64 (x26), .int .i64 (x27), .map (some g830)]) :: (g580, Cl 82 [.int .i64 (s11.At), .int .i64 (s11.Speed), .int .i64 (s11.Work)]) :: (g581, Cl 82 [.int .i64 (0), .int .i64 (0), .int .i64 (0)]) :: (hs2 ++ (hs829 ++ R)) = hp' ∧ b590.Le b826 ∧ OM (RT.int .i64) (OT.list 3 (OT.fr (RT.int .i64))) false false b826.w g830 l833 hs829) ?_ ?_
      ·
        have hm := hj834
        refine c_block ?_
        refine c_pullb 2 rfl ?_
        refine c_pullb 2 rfl ?_
        refine c_pullb 2 rfl ?_
        refine c_front2 [_, _, _] hs2 hs7 R rfl ?_
        refine c_front2 [_, _, _] hs7 hs2 R rfl ?_
        refine c_loopM (unc2 fun x982 l983 => fun b976 e' hp' => ∃ (g980 : Nat), ∃ (hs979 : Hp), [(0, .pointer (some ⟨g10, 0, none⟩)), (3, .pointer (some ⟨g580, 0, none⟩)), (4, .pointer (some ⟨g581, 0, none⟩)), (5, .int .i64 (s11.Speed)), (6, .int .i64 (x592)), (7, .int .i64 (max 0 (s11.Speed - (x19 + x592)))), (8, .int .i64 (x982))] = e' ∧ (g10, Cl 170 [.string (x12), .int .i64 (x13), .int .i64 (x14), .int .i64 (x15), .int .i64 (x16), .int .i64 (x17), .int .i64 (x18), .int .i64 (x19), .int .i64 (x20), .int .i64 (x21), .slice A22 (l25).length c23, .slice A3 (l28).length c4, .int .i64 (x26), .int .i64 (x27), .map (some g980)]) :: (g580, Cl 82 [.int .i64 (s11.At), .int .i64 (s11.Speed), .int .i64 (s11.Work)]) :: (g581, Cl 82 [.int .i64 (0), .int .i64 (0), .int .i64 (0)]) :: (hs2 ++ (hs979 ++ R)) = hp' ∧ b590.Le b976 ∧ OM (RT.int .i64) (OT.list 3 (OT.fr (RT.int .i64))) false false b976.w g980 l983 hs979) hm (e' := [(0, .pointer (some ⟨g10, 0, none⟩)), (3, .pointer (some ⟨g580, 0, none⟩)), (4, .pointer (some ⟨g581, 0, none⟩)), (5, .int .i64 (s11.Speed)), (6, .int .i64 (x592)), (7, .int .i64 (max 0 (s11.Speed - (x19 + x592)))), (8, .int .i64 (min (s11.Speed + x607) x27))]) (hp' := (g10, Cl 170 [.string (x12), .int .i64 (x13), .int .i64 (x14), .int .i64 (x15), .int .i64 (x16), .int .i64 (x17), .int .i64 (x18), .int .i64 (x19), .int .i64 (x20), .int .i64 (x21), .slice A22 (l25).length c23, .slice A3 (l28).length c4, .int .i64 (x26), .int .i64 (x27), .map (some g8)]) :: (g580, Cl 82 [.int .i64 (s11.At), .int .i64 (s11.Speed), .int .i64 (s11.Work)]) :: (g581, Cl 82 [.int .i64 (0), .int .i64 (0), .int .i64 (0)]) :: (hs2 ++ (hs7 ++ R))) ⟨rfl, rfl, rfl, rfl, rfl, rfl, rfl, trivial⟩ (.cons_cons _ (.cons_cons _ (.cons_cons _ (sub_app hs2 (sub_app hs7 (.refl _)))))) ⟨g8, hs7, rfl, rfl, (Base.Le.refl _), (h9.le hle591)⟩ ?_
        rintro ⟨x982, l983⟩ b976 _ _ oL835 ⟨g980, hs979, rfl, rfl, hle977, h981⟩ hstepL835 houtL835
        unfold mRunRunnerSecond_L835 at hstepL835
        have hm := (unc2E hstepL835)
        refine c_seq ?_
        obtain ⟨⟨x1018, l1019⟩, hj1020, hk1020⟩ := bindS hm
        refine c_join (fun b1012 e' hp' => ∃ (g1016 : Nat), ∃ (hs1015 : Hp), [(0, .pointer (some ⟨g10, 0, none⟩)), (3, .pointer (some ⟨g580, 0, none⟩)), (4, .pointer (some ⟨g581, 0, none⟩)), (5, .int .i64 (s11.Speed)), (6, .int .i64 (x592)), (7, .int .i64 (max 0 (s11.Speed - (x19 + x592)))), (8, .int .i64 (x982)), (64, .bool (x1018))] = e' ∧ (g10, Cl 170 [.string (x12), .int .i64 (x13), .int .i64 (x14), .int .i64 (x15), .int .i64 (x16), .int .i64 (x17), .int .i64 (x18), .int .i64 (x19), .int .i64 (x20), .int .i64 (x21), .slice A22 (l25).length c23, .slice A3 (l28).length c4, .int .i64 (x26), .int .i64 (x27), .map (some g1016)]) :: (g580, Cl 82 [.int .i64 (s11.At), .int .i64 (s11.Speed), .int .i64 (s11.Work)]) :: (g581, Cl 82 [.int .i64 (0), .int .i64 (0), .int .i64 (0)]) :: (hs2 ++ (hs1015 ++ R)) = hp' ∧ b976.Le b1012 ∧ OM (RT.int .i64) (OT.list 3 (OT.fr (RT.int .i64))) false false b1012.w g1016 l1019 hs1015) ?_ ?_
        ·
          have hm := hj1020
          by_cases hc1035 : (max 0 (s11.Speed - (x19 + x592))) ≤ x982
          ·
            rw [if_pos hc1035] at hm
            obtain ⟨_, h1036, hm⟩ := bindS hm
            obtain ⟨_, h1037, hm⟩ := bindS hm
            obtain ⟨x1038, hcl1039, hm⟩ := bindS hm
            obtain ⟨_, h1040, hm⟩ := bindS hm
            obtain ⟨⟨x1041, l1042⟩, hcl1043, hm⟩ := bindS hm
            have hm := (unc2E hm)
            refine D_drawS ((g580, Cl 82 [.int .i64 (s11.At), .int .i64 (s11.Speed), .int .i64 (s11.Work)]) :: (g581, Cl 82 [.int .i64 (0), .int .i64 (0), .int .i64 (0)]) :: R) mixed ?_
            refine D_st (Base.Le.refl _) 0 rfl (by kernel_rfl) (by kernel_rfl) (by kernel_rfl) rfl (st_move rfl) (.cons _ (.cons_cons _ (.cons_cons _ (sub_skip hs2 (sub_skip hs979 (.refl _)))))) ?_
            refine D_st (Base.Le.refl _) 1 rfl (by kernel_rfl) (by kernel_rfl) (by kernel_rfl) rfl (st_move rfl) (.cons _ (.cons_cons _ (.cons_cons _ (sub_skip hs2 (sub_skip hs979 (.refl _)))))) ?_
            refine D_st (Base.Le.refl _) 2 rfl (by kernel_rfl) (by kernel_rfl) (by kernel_rfl) rfl (st_geq_t rfl rfl hc1035) (.cons _ (.cons_cons _ (.cons_cons _ (sub_skip hs2 (sub_skip hs979 (.refl _)))))) ?_
            refine D_st (Base.Le.refl _) 3 rfl (by kernel_rfl) (by kernel_rfl) (by kernel_rfl) rfl (st_move rfl) (.cons _ (.cons_cons _ (.cons_cons _ (sub_skip hs2 (sub_skip hs979 (.refl _)))))) ?_
            refine D_yes (Base.Le.refl _) 4 44 rfl (by kernel_rfl) (by kernel_rfl) (by kernel_rfl) rfl rfl rfl rfl (st_move rfl) (.cons _ (.cons_cons _ (.cons_cons _ (sub_skip hs2 (sub_skip hs979 (.refl _)))))) ?_
            refine D_yes (Base.Le.refl _) 5 44 rfl (by kernel_rfl) (by kernel_rfl) (by kernel_rfl) rfl rfl rfl rfl (st_field rfl fld82_0) (.cons _ (.cons_cons _ (.cons_cons _ (sub_skip hs2 (sub_skip hs979 (.refl _)))))) ?_
            refine D_yes (Base.Le.refl _) 6 44 rfl (by kernel_rfl) (by kernel_rfl) (by kernel_rfl) rfl rfl rfl rfl (st_load 0 rfl one3 rfl rfl) (.cons _ (.cons_cons _ (.cons_cons _ (sub_skip hs2 (sub_skip hs979 (.refl _)))))) ?_
            refine D_yes (Base.Le.refl _) 7 44 rfl (by kernel_rfl) (by kernel_rfl) (by kernel_rfl) rfl rfl rfl rfl (st_move rfl) (.cons _ (.cons_cons _ (.cons_cons _ (sub_skip hs2 (sub_skip hs979 (.refl _)))))) ?_
            refine D_yes (Base.Le.refl _) 8 44 rfl (by kernel_rfl) (by kernel_rfl) (by kernel_rfl) rfl rfl rfl rfl (st_nil rfl) (.cons _ (.cons_cons _ (.cons_cons _ (sub_skip hs2 (sub_skip hs979 (.refl _)))))) ?_
            refine D_yes (Base.Le.refl _) 9 44 rfl (by kernel_rfl) (by kernel_rfl) (by kernel_rfl) rfl rfl rfl rfl (st_field rfl fld170_0) (.cons _ (.cons_cons _ (.cons_cons _ (sub_skip hs2 (sub_skip hs979 (.refl _)))))) ?_
            refine D_yes (Base.Le.refl _) 10 44 rfl (by kernel_rfl) (by kernel_rfl) (by kernel_rfl) rfl rfl rfl rfl (st_field rfl fld43_1) (.cons _ (.cons_cons _ (.cons_cons _ (sub_skip hs2 (sub_skip hs979 (.refl _)))))) ?_
            refine D_yes (Base.Le.refl _) 14 44 rfl (by kernel_rfl) (by kernel_rfl) (by kernel_rfl) rfl rfl rfl rfl (st_field rfl fld82_0) (.cons _ (.cons_cons _ (.cons_cons _ (sub_skip hs2 (sub_skip hs979 (.refl _)))))) ?_
            refine D_yes (Base.Le.refl _) 15 44 rfl (by kernel_rfl) (by kernel_rfl) (by kernel_rfl) rfl rfl rfl rfl (st_load 0 rfl one3 rfl rfl) (.cons _ (.cons_cons _ (.cons_cons _ (sub_skip hs2 (sub_skip hs979 (.refl _)))))) ?_
            refine D_yes (Base.Le.refl _) 16 44 rfl (by kernel_rfl) (by kernel_rfl) (by kernel_rfl) rfl rfl rfl rfl (st_move rfl) (.cons _ (.cons_cons _ (.cons_cons _ (sub_skip hs2 (sub_skip hs979 (.refl _)))))) ?_
            refine D_yes (Base.Le.refl _) 17 44 rfl (by kernel_rfl) (by kernel_rfl) (by kernel_rfl) rfl rfl rfl rfl (st_move rfl) (.cons _ (.cons_cons _ (.cons_cons _ (sub_skip hs2 (sub_skip hs979 (.refl _)))))) ?_
            refine D_yes (Base.Le.refl _) 20 44 rfl (by kernel_rfl) (by kernel_rfl) (by kernel_rfl) rfl rfl rfl rfl (st_move rfl) (.cons _ (.cons_cons _ (.cons_cons _ (sub_skip hs2 (sub_skip hs979 (.refl _)))))) ?_
            refine D_all [11, 18] (by kernel_rfl) rfl ?_
            refine R_doY (Base.Le.refl _) rfl rfl 44 rfl rfl rfl (Stable.does (st_load 0 rfl one3 rfl rfl)) ?_ ?_
            ·
              rintro _ _ ⟨rfl, rfl⟩
              refine ⟨.inr (.cons _ (.cons_cons _ (.cons_cons _ (sub_skip hs2 (sub_skip hs979 (.refl _)))))), ?_⟩
              have h1036 := (chk_some h1036).2
              refine D_yes (Base.Le.refl _) 12 44 rfl (by kernel_rfl) (by kernel_rfl) (by kernel_rfl) rfl rfl rfl rfl (st_mul rfl rfl h1036) (.cons _ (.cons_cons _ (.cons_cons _ (sub_skip hs2 (sub_skip hs979 (.refl _)))))) ?_
              have h1037 := (chk_some h1037).2
              refine D_yes (Base.Le.refl _) 13 44 rfl (by kernel_rfl) (by kernel_rfl) (by kernel_rfl) rfl rfl rfl rfl (st_sub rfl rfl h1037) (.cons _ (.cons_cons _ (.cons_cons _ (sub_skip hs2 (sub_skip hs979 (.refl _)))))) ?_
              refine D_all [18] (by kernel_rfl) rfl ?_
              refine R_doY (Base.Le.refl _) rfl rfl 44 rfl rfl rfl (u_callW0 _ call84 rfl (fun w ho => cRunGone _ [] s11.Speed x982 x1038 hcl1039) (fun _ _ _ h => h.2.symm)) ?_ ?_
              ·
                rintro _ _ ⟨⟨_, rfl, _⟩, rfl⟩
                refine ⟨.inr (.cons _ (.cons_cons _ (.cons_cons _ (sub_skip hs2 (sub_skip hs979 (.refl _)))))), ?_⟩
                have h1040 := (chk_some h1040).2
                refine D_yes (Base.Le.refl _) 19 44 rfl (by kernel_rfl) (by kernel_rfl) (by kernel_rfl) rfl rfl rfl rfl (st_add rfl rfl h1040) (.cons _ (.cons_cons _ (.cons_cons _ (sub_skip hs2 (sub_skip hs979 (.refl _)))))) ?_
                refine d_front2 [_, _, _] hs2 hs979 R rfl ?_
                refine d_front2 [_, _, _] hs979 hs2 R rfl ?_
                refine d_out2 [_] [_, _] hs2 hs979 R rfl ?_
                refine D_all [21] (by kernel_rfl) rfl ?_
                refine R_callGlY (Base.Le.refl _) rfl rfl 44 rfl rfl rfl _ call97 rfl (cRunRunnerMay _ _ (s11.At - (100 * x13)) (s11.At + x1038) x982 x12 x13 x14 x15 x16 x17 x18 x19 x20 x21 l25 x26 x27 l28 l983 g10 A22 c23 A3 c4 hs2 g980 hs979 (h24.le (hle591.trans hle977)) (h5.le (hle591.trans hle977)) h981 x1041 l1042 hcl1043) ?_ ?_
                ·
                  rintro _ b1044 _ hle1045 ⟨g1046, hs1047, rfl, rfl, h1048⟩
                  refine ⟨.inr (.cons _ (sub_skip hs2 (sub_skip hs1047 (.cons_cons _ (.cons_cons _ (.refl _)))))), ?_⟩
                  refine d_in2 [_] [_, _] hs2 hs1047 R rfl ?_
                  refine D_yes hle1045 22 44 rfl (by kernel_rfl) (by kernel_rfl) (by kernel_rfl) rfl rfl rfl rfl (st_not rfl) (.cons _ (.cons_cons _ (.cons_cons _ (sub_skip hs2 (sub_skip hs1047 (.refl _)))))) ?_
                  refine D_st hle1045 23 rfl (by kernel_rfl) (by kernel_rfl) (by kernel_rfl) rfl (st_pick_t rfl rfl) (.cons _ (.cons_cons _ (.cons_cons _ (sub_skip hs2 (sub_skip hs1047 (.refl _)))))) ?_
                  refine D_done (by kernel_rfl) ?_
                  obtain ⟨rfl, rfl⟩ := some2 hm
                  refine x_pullb 2 rfl ?_
                  refine x_pullb 2 rfl ?_
                  refine x_pullb 2 rfl ?_
                  refine x_front2 [_, _, _] hs2 hs1047 R rfl ?_
                  refine x_front2 [_, _, _] hs1047 hs2 R rfl ?_
                  exact x_join (e' := [(0, .pointer (some ⟨g10, 0, none⟩)), (3, .pointer (some ⟨g580, 0, none⟩)), (4, .pointer (some ⟨g581, 0, none⟩)), (5, .int .i64 (s11.Speed)), (6, .int .i64 (x592)), (7, .int .i64 (max 0 (s11.Speed - (x19 + x592)))), (8, .int .i64 (x982)), (64, .bool (!x1041))]) (hp' := (g10, Cl 170 [.string (x12), .int .i64 (x13), .int .i64 (x14), .int .i64 (x15), .int .i64 (x16), .int .i64 (x17), .int .i64 (x18), .int .i64 (x19), .int .i64 (x20), .int .i64 (x21), .slice A22 (l25).length c23, .slice A3 (l28).length c4, .int .i64 (x26), .int .i64 (x27), .map (some g1046)]) :: (g580, Cl 82 [.int .i64 (s11.At), .int .i64 (s11.Speed), .int .i64 (s11.Work)]) :: (g581, Cl 82 [.int .i64 (0), .int .i64 (0), .int .i64 (0)]) :: (hs2 ++ (hs1047 ++ R))) ⟨rfl, rfl, rfl, rfl, rfl, rfl, rfl, rfl, trivial⟩ (.cons_cons _ (.cons_cons _ (.cons_cons _ (sub_app hs2 (sub_app hs1047 (.refl _)))))) ⟨g1046, hs1047, rfl, rfl, hle1045, h1048⟩
                exact R_nil
              exact R_nil
            refine R_doY (Base.Le.refl _) rfl rfl 44 rfl rfl rfl (u_callW0 _ call84 rfl (fun w ho => cRunGone _ [] s11.Speed x982 x1038 hcl1039) (fun _ _ _ h => h.2.symm)) ?_ ?_
            ·
              rintro _ _ ⟨⟨_, rfl, _⟩, rfl⟩
              refine ⟨.inr (.cons _ (.cons_cons _ (.cons_cons _ (sub_skip hs2 (sub_skip hs979 (.refl _)))))), ?_⟩
              have h1040 := (chk_some h1040).2
              refine D_yes (Base.Le.refl _) 19 44 rfl (by kernel_rfl) (by kernel_rfl) (by kernel_rfl) rfl rfl rfl rfl (st_add rfl rfl h1040) (.cons _ (.cons_cons _ (.cons_cons _ (sub_skip hs2 (sub_skip hs979 (.refl _)))))) ?_
              refine D_all [11] (by kernel_rfl) rfl ?_
              refine R_doY (Base.Le.refl _) rfl rfl 44 rfl rfl rfl (Stable.does (st_load 0 rfl one3 rfl rfl)) ?_ ?_
              ·
                rintro _ _ ⟨rfl, rfl⟩
                refine ⟨.inr (.cons _ (.cons_cons _ (.cons_cons _ (sub_skip hs2 (sub_skip hs979 (.refl _)))))), ?_⟩
                have h1036 := (chk_some h1036).2
                refine D_yes (Base.Le.refl _) 12 44 rfl (by kernel_rfl) (by kernel_rfl) (by kernel_rfl) rfl rfl rfl rfl (st_mul rfl rfl h1036) (.cons _ (.cons_cons _ (.cons_cons _ (sub_skip hs2 (sub_skip hs979 (.refl _)))))) ?_
                have h1037 := (chk_some h1037).2
                refine D_yes (Base.Le.refl _) 13 44 rfl (by kernel_rfl) (by kernel_rfl) (by kernel_rfl) rfl rfl rfl rfl (st_sub rfl rfl h1037) (.cons _ (.cons_cons _ (.cons_cons _ (sub_skip hs2 (sub_skip hs979 (.refl _)))))) ?_
                refine d_front2 [_, _, _] hs2 hs979 R rfl ?_
                refine d_front2 [_, _, _] hs979 hs2 R rfl ?_
                refine d_out2 [_] [_, _] hs2 hs979 R rfl ?_
                refine D_all [21] (by kernel_rfl) rfl ?_
                refine R_callGlY (Base.Le.refl _) rfl rfl 44 rfl rfl rfl _ call97 rfl (cRunRunnerMay _ _ (s11.At - (100 * x13)) (s11.At + x1038) x982 x12 x13 x14 x15 x16 x17 x18 x19 x20 x21 l25 x26 x27 l28 l983 g10 A22 c23 A3 c4 hs2 g980 hs979 (h24.le (hle591.trans hle977)) (h5.le (hle591.trans hle977)) h981 x1041 l1042 hcl1043) ?_ ?_
                ·
                  rintro _ b1044 _ hle1045 ⟨g1046, hs1047, rfl, rfl, h1048⟩
                  refine ⟨.inr (.cons _ (sub_skip hs2 (sub_skip hs1047 (.cons_cons _ (.cons_cons _ (.refl _)))))), ?_⟩
                  refine d_in2 [_] [_, _] hs2 hs1047 R rfl ?_
                  refine D_yes hle1045 22 44 rfl (by kernel_rfl) (by kernel_rfl) (by kernel_rfl) rfl rfl rfl rfl (st_not rfl) (.cons _ (.cons_cons _ (.cons_cons _ (sub_skip hs2 (sub_skip hs1047 (.refl _)))))) ?_
                  refine D_st hle1045 23 rfl (by kernel_rfl) (by kernel_rfl) (by kernel_rfl) rfl (st_pick_t rfl rfl) (.cons _ (.cons_cons _ (.cons_cons _ (sub_skip hs2 (sub_skip hs1047 (.refl _)))))) ?_
                  refine D_done (by kernel_rfl) ?_
                  obtain ⟨rfl, rfl⟩ := some2 hm
                  refine x_pullb 2 rfl ?_
                  refine x_pullb 2 rfl ?_
                  refine x_pullb 2 rfl ?_
                  refine x_front2 [_, _, _] hs2 hs1047 R rfl ?_
                  refine x_front2 [_, _, _] hs1047 hs2 R rfl ?_
                  exact x_join (e' := [(0, .pointer (some ⟨g10, 0, none⟩)), (3, .pointer (some ⟨g580, 0, none⟩)), (4, .pointer (some ⟨g581, 0, none⟩)), (5, .int .i64 (s11.Speed)), (6, .int .i64 (x592)), (7, .int .i64 (max 0 (s11.Speed - (x19 + x592)))), (8, .int .i64 (x982)), (64, .bool (!x1041))]) (hp' := (g10, Cl 170 [.string (x12), .int .i64 (x13), .int .i64 (x14), .int .i64 (x15), .int .i64 (x16), .int .i64 (x17), .int .i64 (x18), .int .i64 (x19), .int .i64 (x20), .int .i64 (x21), .slice A22 (l25).length c23, .slice A3 (l28).length c4, .int .i64 (x26), .int .i64 (x27), .map (some g1046)]) :: (g580, Cl 82 [.int .i64 (s11.At), .int .i64 (s11.Speed), .int .i64 (s11.Work)]) :: (g581, Cl 82 [.int .i64 (0), .int .i64 (0), .int .i64 (0)]) :: (hs2 ++ (hs1047 ++ R))) ⟨rfl, rfl, rfl, rfl, rfl, rfl, rfl, rfl, trivial⟩ (.cons_cons _ (.cons_cons _ (.cons_cons _ (sub_app hs2 (sub_app hs1047 (.refl _)))))) ⟨g1046, hs1047, rfl, rfl, hle1045, h1048⟩
                exact R_nil
              exact R_nil
            exact R_nil
          ·
            rw [if_neg hc1035] at hm
            refine D_drawS ((g10, Cl 170 [.string (x12), .int .i64 (x13), .int .i64 (x14), .int .i64 (x15), .int .i64 (x16), .int .i64 (x17), .int .i64 (x18), .int .i64 (x19), .int .i64 (x20), .int .i64 (x21), .slice A22 (l25).length c23, .slice A3 (l28).length c4, .int .i64 (x26), .int .i64 (x27), .map (some g980)]) :: (g580, Cl 82 [.int .i64 (s11.At), .int .i64 (s11.Speed), .int .i64 (s11.Work)]) :: (g581, Cl 82 [.int .i64 (0), .int .i64 (0), .int .i64 (0)]) :: (hs2 ++ (hs979 ++ R))) mixed ?_
            refine D_st (Base.Le.refl _) 0 rfl (by kernel_rfl) (by kernel_rfl) (by kernel_rfl) rfl (st_move rfl) (.cons_cons _ (.cons_cons _ (.cons_cons _ (sub_app hs2 (sub_app hs979 (.refl _)))))) ?_
            refine D_st (Base.Le.refl _) 1 rfl (by kernel_rfl) (by kernel_rfl) (by kernel_rfl) rfl (st_move rfl) (.cons_cons _ (.cons_cons _ (.cons_cons _ (sub_app hs2 (sub_app hs979 (.refl _)))))) ?_
            refine D_st (Base.Le.refl _) 2 rfl (by kernel_rfl) (by kernel_rfl) (by kernel_rfl) rfl (st_geq_f rfl rfl hc1035) (.cons_cons _ (.cons_cons _ (.cons_cons _ (sub_app hs2 (sub_app hs979 (.refl _)))))) ?_
            refine D_st (Base.Le.refl _) 3 rfl (by kernel_rfl) (by kernel_rfl) (by kernel_rfl) rfl (st_move rfl) (.cons_cons _ (.cons_cons _ (.cons_cons _ (sub_app hs2 (sub_app hs979 (.refl _)))))) ?_
            refine D_no (Base.Le.refl _) 4 44 rfl (by kernel_rfl) (by kernel_rfl) (by kernel_rfl) rfl rfl rfl rfl rfl (.cons_cons _ (.cons_cons _ (.cons_cons _ (sub_app hs2 (sub_app hs979 (.refl _)))))) ?_
            refine D_no (Base.Le.refl _) 5 44 rfl (by kernel_rfl) (by kernel_rfl) (by kernel_rfl) rfl rfl rfl rfl rfl (.cons_cons _ (.cons_cons _ (.cons_cons _ (sub_app hs2 (sub_app hs979 (.refl _)))))) ?_
            refine D_no (Base.Le.refl _) 6 44 rfl (by kernel_rfl) (by kernel_rfl) (by kernel_rfl) rfl rfl rfl rfl rfl (.cons_cons _ (.cons_cons _ (.cons_cons _ (sub_app hs2 (sub_app hs979 (.refl _)))))) ?_
            refine D_no (Base.Le.refl _) 7 44 rfl (by kernel_rfl) (by kernel_rfl) (by kernel_rfl) rfl rfl rfl rfl rfl (.cons_cons _ (.cons_cons _ (.cons_cons _ (sub_app hs2 (sub_app hs979 (.refl _)))))) ?_
            refine D_no (Base.Le.refl _) 8 44 rfl (by kernel_rfl) (by kernel_rfl) (by kernel_rfl) rfl rfl rfl rfl rfl (.cons_cons _ (.cons_cons _ (.cons_cons _ (sub_app hs2 (sub_app hs979 (.refl _)))))) ?_
            refine D_no (Base.Le.refl _) 9 44 rfl (by kernel_rfl) (by kernel_rfl) (by kernel_rfl) rfl rfl rfl rfl rfl (.cons_cons _ (.cons_cons _ (.cons_cons _ (sub_app hs2 (sub_app hs979 (.refl _)))))) ?_
            refine D_no (Base.Le.refl _) 10 44 rfl (by kernel_rfl) (by kernel_rfl) (by kernel_rfl) rfl rfl rfl rfl rfl (.cons_cons _ (.cons_cons _ (.cons_cons _ (sub_app hs2 (sub_app hs979 (.refl _)))))) ?_
            refine D_no (Base.Le.refl _) 11 44 rfl (by kernel_rfl) (by kernel_rfl) (by kernel_rfl) rfl rfl rfl rfl rfl (.cons_cons _ (.cons_cons _ (.cons_cons _ (sub_app hs2 (sub_app hs979 (.refl _)))))) ?_
            refine D_no (Base.Le.refl _) 12 44 rfl (by kernel_rfl) (by kernel_rfl) (by kernel_rfl) rfl rfl rfl rfl rfl (.cons_cons _ (.cons_cons _ (.cons_cons _ (sub_app hs2 (sub_app hs979 (.refl _)))))) ?_
            refine D_no (Base.Le.refl _) 13 44 rfl (by kernel_rfl) (by kernel_rfl) (by kernel_rfl) rfl rfl rfl rfl rfl (.cons_cons _ (.cons_cons _ (.cons_cons _ (sub_app hs2 (sub_app hs979 (.refl _)))))) ?_
            refine D_no (Base.Le.refl _) 14 44 rfl (by kernel_rfl) (by kernel_rfl) (by kernel_rfl) rfl rfl rfl rfl rfl (.cons_cons _ (.cons_cons _ (.cons_cons _ (sub_app hs2 (sub_app hs979 (.refl _)))))) ?_
            refine D_no (Base.Le.refl _) 15 44 rfl (by kernel_rfl) (by kernel_rfl) (by kernel_rfl) rfl rfl rfl rfl rfl (.cons_cons _ (.cons_cons _ (.cons_cons _ (sub_app hs2 (sub_app hs979 (.refl _)))))) ?_
            refine D_no (Base.Le.refl _) 16 44 rfl (by kernel_rfl) (by kernel_rfl) (by kernel_rfl) rfl rfl rfl rfl rfl (.cons_cons _ (.cons_cons _ (.cons_cons _ (sub_app hs2 (sub_app hs979 (.refl _)))))) ?_
            refine D_no (Base.Le.refl _) 17 44 rfl (by kernel_rfl) (by kernel_rfl) (by kernel_rfl) rfl rfl rfl rfl rfl (.cons_cons _ (.cons_cons _ (.cons_cons _ (sub_app hs2 (sub_app hs979 (.refl _)))))) ?_
            refine D_no (Base.Le.refl _) 18 44 rfl (by kernel_rfl) (by kernel_rfl) (by kernel_rfl) rfl rfl rfl rfl rfl (.cons_cons _ (.cons_cons _ (.cons_cons _ (sub_app hs2 (sub_app hs979 (.refl _)))))) ?_
            refine D_no (Base.Le.refl _) 19 44 rfl (by kernel_rfl) (by kernel_rfl) (by kernel_rfl) rfl rfl rfl rfl rfl (.cons_cons _ (.cons_cons _ (.cons_cons _ (sub_app hs2 (sub_app hs979 (.refl _)))))) ?_
            refine D_no (Base.Le.refl _) 20 44 rfl (by kernel_rfl) (by kernel_rfl) (by kernel_rfl) rfl rfl rfl rfl rfl (.cons_cons _ (.cons_cons _ (.cons_cons _ (sub_app hs2 (sub_app hs979 (.refl _)))))) ?_
            refine D_no (Base.Le.refl _) 21 44 rfl (by kernel_rfl) (by kernel_rfl) (by kernel_rfl) rfl rfl rfl rfl rfl (.cons_cons _ (.cons_cons _ (.cons_cons _ (sub_app hs2 (sub_app hs979 (.refl _)))))) ?_
            refine D_no (Base.Le.refl _) 22 44 rfl (by kernel_rfl) (by kernel_rfl) (by kernel_rfl) rfl rfl rfl rfl rfl (.cons_cons _ (.cons_cons _ (.cons_cons _ (sub_app hs2 (sub_app hs979 (.refl _)))))) ?_
            refine D_st (Base.Le.refl _) 23 rfl (by kernel_rfl) (by kernel_rfl) (by kernel_rfl) rfl (st_pick_f rfl rfl) (.cons_cons _ (.cons_cons _ (.cons_cons _ (sub_app hs2 (sub_app hs979 (.refl _)))))) ?_
            refine D_done (by kernel_rfl) ?_
            obtain ⟨rfl, rfl⟩ := some2 hm
            refine x_pullb 2 rfl ?_
            refine x_pullb 2 rfl ?_
            refine x_pullb 2 rfl ?_
            refine x_front2 [_, _, _] hs2 hs979 R rfl ?_
            refine x_front2 [_, _, _] hs979 hs2 R rfl ?_
            exact x_join (e' := [(0, .pointer (some ⟨g10, 0, none⟩)), (3, .pointer (some ⟨g580, 0, none⟩)), (4, .pointer (some ⟨g581, 0, none⟩)), (5, .int .i64 (s11.Speed)), (6, .int .i64 (x592)), (7, .int .i64 (max 0 (s11.Speed - (x19 + x592)))), (8, .int .i64 (x982)), (64, .bool (false))]) (hp' := (g10, Cl 170 [.string (x12), .int .i64 (x13), .int .i64 (x14), .int .i64 (x15), .int .i64 (x16), .int .i64 (x17), .int .i64 (x18), .int .i64 (x19), .int .i64 (x20), .int .i64 (x21), .slice A22 (l25).length c23, .slice A3 (l28).length c4, .int .i64 (x26), .int .i64 (x27), .map (some g980)]) :: (g580, Cl 82 [.int .i64 (s11.At), .int .i64 (s11.Speed), .int .i64 (s11.Work)]) :: (g581, Cl 82 [.int .i64 (0), .int .i64 (0), .int .i64 (0)]) :: (hs2 ++ (hs979 ++ R))) ⟨rfl, rfl, rfl, rfl, rfl, rfl, rfl, rfl, trivial⟩ (.cons_cons _ (.cons_cons _ (.cons_cons _ (sub_app hs2 (sub_app hs979 (.refl _)))))) ⟨g980, hs979, rfl, rfl, (Base.Le.refl _), h981⟩
        ·
          rintro b1012 _ _ ⟨g1016, hs1015, rfl, rfl, hle1013, h1017⟩
          have hm := (unc2E hk1020)
          refine c_cond _ rfl (fun hc1049 => ?_) (fun hc1049 => ?_)
          ·
            rw [if_pos hc1049] at hm
            refine c_skip ?_
            refine x_then_normal ?_
            refine c_block ?_
            refine c_region ?_
            refine t_st rfl (st_move rfl) ?_
            obtain ⟨_, h1050, hm⟩ := bindS hm
            have h1050 := (chk_some h1050).2
            refine t_st rfl (st_sub rfl rfl h1050) ?_
            refine t_st rfl (st_assign rfl) ?_
            refine t_nil ?_
            refine x_block_normal ?_
            refine x_pullb 2 rfl ?_
            refine x_pullb 2 rfl ?_
            refine x_pullb 2 rfl ?_
            refine x_front2 [_, _, _] hs2 hs1015 R rfl ?_
            refine x_front2 [_, _, _] hs1015 hs2 R rfl ?_
            exact x_againM (x982 - 1, l1019) (Option.some.inj hm).symm (e' := [(0, .pointer (some ⟨g10, 0, none⟩)), (3, .pointer (some ⟨g580, 0, none⟩)), (4, .pointer (some ⟨g581, 0, none⟩)), (5, .int .i64 (s11.Speed)), (6, .int .i64 (x592)), (7, .int .i64 (max 0 (s11.Speed - (x19 + x592)))), (8, .int .i64 (x982 - 1))]) (hp' := (g10, Cl 170 [.string (x12), .int .i64 (x13), .int .i64 (x14), .int .i64 (x15), .int .i64 (x16), .int .i64 (x17), .int .i64 (x18), .int .i64 (x19), .int .i64 (x20), .int .i64 (x21), .slice A22 (l25).length c23, .slice A3 (l28).length c4, .int .i64 (x26), .int .i64 (x27), .map (some g1016)]) :: (g580, Cl 82 [.int .i64 (s11.At), .int .i64 (s11.Speed), .int .i64 (s11.Work)]) :: (g581, Cl 82 [.int .i64 (0), .int .i64 (0), .int .i64 (0)]) :: (hs2 ++ (hs1015 ++ R))) ⟨rfl, rfl, rfl, rfl, rfl, rfl, rfl, trivial⟩ (.cons_cons _ (.cons_cons _ (.cons_cons _ (sub_app hs2 (sub_app hs1015 (.refl _)))))) ⟨g1016, hs1015, rfl, rfl, ((hle977.trans hle1013)), h1017⟩
          ·
            rw [if_neg (fun hh => Bool.noConfusion (hh.symm.trans hc1049))] at hm
            refine c_exit ?_
            refine x_then_exit ?_
            refine x_then_exit ?_
            refine x_block_out ?_
            have hm := congrArg some (houtL835 _ (Option.some.inj hm).symm)
            obtain ⟨rfl, rfl⟩ := some2 hm
            refine x_pullb 2 rfl ?_
            refine x_pullb 2 rfl ?_
            refine x_pullb 2 rfl ?_
            refine x_front2 [_, _, _] hs2 hs1015 R rfl ?_
            refine x_front2 [_, _, _] hs1015 hs2 R rfl ?_
            exact x_join (e' := [(0, .pointer (some ⟨g10, 0, none⟩)), (3, .pointer (some ⟨g580, 0, none⟩)), (4, .pointer (some ⟨g581, 0, none⟩)), (5, .int .i64 (s11.Speed)), (6, .int .i64 (x592)), (7, .int .i64 (max 0 (s11.Speed - (x19 + x592)))), (8, .int .i64 (x982))]) (hp' := (g10, Cl 170 [.string (x12), .int .i64 (x13), .int .i64 (x14), .int .i64 (x15), .int .i64 (x16), .int .i64 (x17), .int .i64 (x18), .int .i64 (x19), .int .i64 (x20), .int .i64 (x21), .slice A22 (l25).length c23, .slice A3 (l28).length c4, .int .i64 (x26), .int .i64 (x27), .map (some g1016)]) :: (g580, Cl 82 [.int .i64 (s11.At), .int .i64 (s11.Speed), .int .i64 (s11.Work)]) :: (g581, Cl 82 [.int .i64 (0), .int .i64 (0), .int .i64 (0)]) :: (hs2 ++ (hs1015 ++ R))) ⟨rfl, rfl, rfl, rfl, rfl, rfl, rfl, trivial⟩ (.cons_cons _ (.cons_cons _ (.cons_cons _ (sub_app hs2 (sub_app hs1015 (.refl _)))))) ⟨g1016, hs1015, rfl, rfl, (hle977.trans hle1013), h1017⟩
      ·
        rintro b826 _ _ ⟨g830, hs829, rfl, rfl, hle827, h831⟩
        have hm := (unc2E hk834)
        refine c_seq ?_
        refine c_region ?_
        refine t_st rfl (st_move rfl) ?_
        refine t_st rfl (st_move rfl) ?_
        refine t_st rfl (st_max rfl rfl) ?_
        refine t_st rfl (st_assign rfl) ?_
        refine t_nil ?_
        refine x_then_normal ?_
        obtain ⟨x1062, hj1063, hk1063⟩ := bindS hm
        refine c_join (fun b1059 e' hp' => ∃ (g1061 : Nat), [(0, .pointer (some ⟨g10, 0, none⟩)), (3, .pointer (some ⟨g580, 0, none⟩)), (4, .pointer (some ⟨g581, 0, none⟩)), (5, .int .i64 (s11.Speed)), (6, .int .i64 (x592)), (8, .int .i64 (max x832 (max 0 (s11.Speed - (x19 + x592))))), (9, .pointer (some ⟨g1061, 0, none⟩))] = e' ∧ (g10, Cl 170 [.string (x12), .int .i64 (x13), .int .i64 (x14), .int .i64 (x15), .int .i64 (x16), .int .i64 (x17), .int .i64 (x18), .int .i64 (x19), .int .i64 (x20), .int .i64 (x21), .slice A22 (l25).length c23, .slice A3 (l28).length c4, .int .i64 (x26), .int .i64 (x27), .map (some g830)]) :: (g580, Cl 82 [.int .i64 (s11.At), .int .i64 (s11.Speed), .int .i64 (s11.Work)]) :: (g581, Cl 82 [.int .i64 (0), .int .i64 (0), .int .i64 (0)]) :: (g1061, Cl 82 [.int .i64 (x1062), .int .i64 (max x832 (max 0 (s11.Speed - (x19 + x592)))), .int .i64 (s11.Work)]) :: (hs2 ++ (hs829 ++ R)) = hp' ∧ b826.Le b1059) ?_ ?_
        ·
          have hm := hj1063
          obtain ⟨x1068, hcl1069, hm⟩ := bindS hm
          obtain ⟨_, h1070, hm⟩ := bindS hm
          refine D_drawS ((g10, Cl 170 [.string (x12), .int .i64 (x13), .int .i64 (x14), .int .i64 (x15), .int .i64 (x16), .int .i64 (x17), .int .i64 (x18), .int .i64 (x19), .int .i64 (x20), .int .i64 (x21), .slice A22 (l25).length c23, .slice A3 (l28).length c4, .int .i64 (x26), .int .i64 (x27), .map (some g830)]) :: (g580, Cl 82 [.int .i64 (s11.At), .int .i64 (s11.Speed), .int .i64 (s11.Work)]) :: (g581, Cl 82 [.int .i64 (0), .int .i64 (0), .int .i64 (0)]) :: (hs2 ++ (hs829 ++ R))) mixed ?_
          refine D_st (Base.Le.refl _) 0 rfl (by kernel_rfl) (by kernel_rfl) (by kernel_rfl) rfl (st_field rfl fld82_0) (.cons_cons _ (.cons_cons _ (.cons_cons _ (sub_app hs2 (sub_app hs829 (.refl _)))))) ?_
          refine D_st (Base.Le.refl _) 1 rfl (by kernel_rfl) (by kernel_rfl) (by kernel_rfl) rfl (st_load 1 rfl one3 rfl rfl) (.cons_cons _ (.cons_cons _ (.cons_cons _ (sub_app hs2 (sub_app hs829 (.refl _)))))) ?_
          refine D_st (Base.Le.refl _) 2 rfl (by kernel_rfl) (by kernel_rfl) (by kernel_rfl) rfl (st_move rfl) (.cons_cons _ (.cons_cons _ (.cons_cons _ (sub_app hs2 (sub_app hs829 (.refl _)))))) ?_
          refine D_st (Base.Le.refl _) 3 rfl (by kernel_rfl) (by kernel_rfl) (by kernel_rfl) rfl (st_move rfl) (.cons_cons _ (.cons_cons _ (.cons_cons _ (sub_app hs2 (sub_app hs829 (.refl _)))))) ?_
          refine D_st (Base.Le.refl _) 6 rfl (by kernel_rfl) (by kernel_rfl) (by kernel_rfl) rfl (st_move rfl) (.cons_cons _ (.cons_cons _ (.cons_cons _ (sub_app hs2 (sub_app hs829 (.refl _)))))) ?_
          refine D_st (Base.Le.refl _) 7 rfl (by kernel_rfl) (by kernel_rfl) (by kernel_rfl) rfl (st_field rfl fld82_2) (.cons_cons _ (.cons_cons _ (.cons_cons _ (sub_app hs2 (sub_app hs829 (.refl _)))))) ?_
          refine D_st (Base.Le.refl _) 8 rfl (by kernel_rfl) (by kernel_rfl) (by kernel_rfl) rfl (st_load 1 rfl one3 rfl rfl) (.cons_cons _ (.cons_cons _ (.cons_cons _ (sub_app hs2 (sub_app hs829 (.refl _)))))) ?_
          refine D_all [4, 10] (by kernel_rfl) rfl ?_
          refine R_do (Base.Le.refl _) rfl rfl (u_callW0 _ call84 rfl (fun w ho => cRunGone _ [] s11.Speed (max x832 (max 0 (s11.Speed - (x19 + x592)))) x1068 hcl1069) (fun _ _ _ h => h.2.symm)) ?_ ?_
          ·
            rintro _ _ ⟨⟨_, rfl, _⟩, rfl⟩
            refine ⟨.inr (.cons_cons _ (.cons_cons _ (.cons_cons _ (sub_app hs2 (sub_app hs829 (.refl _)))))), ?_⟩
            have h1070 := (chk_some h1070).2
            refine D_st (Base.Le.refl _) 5 rfl (by kernel_rfl) (by kernel_rfl) (by kernel_rfl) rfl (st_add rfl rfl h1070) (.cons_cons _ (.cons_cons _ (.cons_cons _ (sub_app hs2 (sub_app hs829 (.refl _)))))) ?_
            refine D_st (Base.Le.refl _) 9 rfl (by kernel_rfl) (by kernel_rfl) (by kernel_rfl) rfl (st_build (v := .agg #[.int .i64 (s11.At + x1068), .int .i64 (max x832 (max 0 (s11.Speed - (x19 + x592)))), .int .i64 (s11.Work)]) [(0, .int .i64 (s11.At + x1068)), (1, .int .i64 (max x832 (max 0 (s11.Speed - (x19 + x592))))), (2, .int .i64 (s11.Work))] rfl (fun _ => by kernel_rfl)) (.cons_cons _ (.cons_cons _ (.cons_cons _ (sub_app hs2 (sub_app hs829 (.refl _)))))) ?_
            refine D_all [10] (by kernel_rfl) rfl ?_
            refine R_do (Base.Le.refl _) rfl rfl (u_alloc [.int .i64 0, .int .i64 0, .int .i64 0] zero82 rfl) ?_ ?_
            ·
              rintro _ _ ⟨g1071, rfl, rfl⟩
              refine ⟨.inr (.cons _ (.cons_cons _ (.cons_cons _ (.cons_cons _ (sub_app hs2 (sub_app hs829 (.refl _))))))), ?_⟩
              refine D_all [11] (by kernel_rfl) rfl ?_
              refine R_do (Base.Le.refl _) rfl rfl (u_storeN (vs := [_, _, _]) 0 3 rfl rfl rfl siz82 rfl (by intro u hu; simp only [List.mem_cons, List.not_mem_nil, or_false] at hu; rcases hu with rfl | rfl | rfl <;> rfl) rfl (by simp)) ?_ ?_
              ·
                rintro _ _ rfl
                refine ⟨.inl (by kernel_rfl), ?_⟩
                refine D_done (by kernel_rfl) ?_
                obtain rfl := some1 hm
                refine x_pullb 3 rfl ?_
                refine x_pullb 3 rfl ?_
                refine x_pullb 3 rfl ?_
                refine x_front2 [_, _, _, _] hs2 hs829 R rfl ?_
                refine x_front2 [_, _, _, _] hs829 hs2 R rfl ?_
                exact x_join (e' := [(0, .pointer (some ⟨g10, 0, none⟩)), (3, .pointer (some ⟨g580, 0, none⟩)), (4, .pointer (some ⟨g581, 0, none⟩)), (5, .int .i64 (s11.Speed)), (6, .int .i64 (x592)), (8, .int .i64 (max x832 (max 0 (s11.Speed - (x19 + x592))))), (9, .pointer (some ⟨g1071, 0, none⟩))]) (hp' := (g10, Cl 170 [.string (x12), .int .i64 (x13), .int .i64 (x14), .int .i64 (x15), .int .i64 (x16), .int .i64 (x17), .int .i64 (x18), .int .i64 (x19), .int .i64 (x20), .int .i64 (x21), .slice A22 (l25).length c23, .slice A3 (l28).length c4, .int .i64 (x26), .int .i64 (x27), .map (some g830)]) :: (g580, Cl 82 [.int .i64 (s11.At), .int .i64 (s11.Speed), .int .i64 (s11.Work)]) :: (g581, Cl 82 [.int .i64 (0), .int .i64 (0), .int .i64 (0)]) :: (g1071, Cl 82 [.int .i64 (s11.At + x1068), .int .i64 (max x832 (max 0 (s11.Speed - (x19 + x592)))), .int .i64 (s11.Work)]) :: (hs2 ++ (hs829 ++ R))) ⟨rfl, rfl, rfl, rfl, rfl, rfl, rfl, trivial⟩ (.cons_cons _ (.cons_cons _ (.cons_cons _ (.cons_cons _ (sub_app hs2 (sub_app hs829 (.refl _))))))) ⟨g1071, rfl, rfl, (Base.Le.refl _)⟩
              exact R_nil
            exact R_nil
          refine R_do (Base.Le.refl _) rfl rfl (u_alloc [.int .i64 0, .int .i64 0, .int .i64 0] zero82 rfl) ?_ ?_
          ·
            rintro _ _ ⟨g1071, rfl, rfl⟩
            refine ⟨.inr (.cons _ (.cons_cons _ (.cons_cons _ (.cons_cons _ (sub_app hs2 (sub_app hs829 (.refl _))))))), ?_⟩
            refine D_all [4] (by kernel_rfl) rfl ?_
            refine R_do (Base.Le.refl _) rfl rfl (u_callW0 _ call84 rfl (fun w ho => cRunGone _ [] s11.Speed (max x832 (max 0 (s11.Speed - (x19 + x592)))) x1068 hcl1069) (fun _ _ _ h => h.2.symm)) ?_ ?_
            ·
              rintro _ _ ⟨⟨_, rfl, _⟩, rfl⟩
              refine ⟨.inr (.cons _ (.cons_cons _ (.cons_cons _ (.cons_cons _ (sub_app hs2 (sub_app hs829 (.refl _))))))), ?_⟩
              have h1070 := (chk_some h1070).2
              refine D_st (Base.Le.refl _) 5 rfl (by kernel_rfl) (by kernel_rfl) (by kernel_rfl) rfl (st_add rfl rfl h1070) (.cons _ (.cons_cons _ (.cons_cons _ (.cons_cons _ (sub_app hs2 (sub_app hs829 (.refl _))))))) ?_
              refine D_st (Base.Le.refl _) 9 rfl (by kernel_rfl) (by kernel_rfl) (by kernel_rfl) rfl (st_build (v := .agg #[.int .i64 (s11.At + x1068), .int .i64 (max x832 (max 0 (s11.Speed - (x19 + x592)))), .int .i64 (s11.Work)]) [(0, .int .i64 (s11.At + x1068)), (1, .int .i64 (max x832 (max 0 (s11.Speed - (x19 + x592))))), (2, .int .i64 (s11.Work))] rfl (fun _ => by kernel_rfl)) (.cons _ (.cons_cons _ (.cons_cons _ (.cons_cons _ (sub_app hs2 (sub_app hs829 (.refl _))))))) ?_
              refine D_all [11] (by kernel_rfl) rfl ?_
              refine R_do (Base.Le.refl _) rfl rfl (u_storeN (vs := [_, _, _]) 0 3 rfl rfl rfl siz82 rfl (by intro u hu; simp only [List.mem_cons, List.not_mem_nil, or_false] at hu; rcases hu with rfl | rfl | rfl <;> rfl) rfl (by simp)) ?_ ?_
              ·
                rintro _ _ rfl
                refine ⟨.inl (by kernel_rfl), ?_⟩
                refine D_done (by kernel_rfl) ?_
                obtain rfl := some1 hm
                refine x_pullb 3 rfl ?_
                refine x_pullb 3 rfl ?_
                refine x_pullb 3 rfl ?_
                refine x_front2 [_, _, _, _] hs2 hs829 R rfl ?_
                refine x_front2 [_, _, _, _] hs829 hs2 R rfl ?_
                exact x_join (e' := [(0, .pointer (some ⟨g10, 0, none⟩)), (3, .pointer (some ⟨g580, 0, none⟩)), (4, .pointer (some ⟨g581, 0, none⟩)), (5, .int .i64 (s11.Speed)), (6, .int .i64 (x592)), (8, .int .i64 (max x832 (max 0 (s11.Speed - (x19 + x592))))), (9, .pointer (some ⟨g1071, 0, none⟩))]) (hp' := (g10, Cl 170 [.string (x12), .int .i64 (x13), .int .i64 (x14), .int .i64 (x15), .int .i64 (x16), .int .i64 (x17), .int .i64 (x18), .int .i64 (x19), .int .i64 (x20), .int .i64 (x21), .slice A22 (l25).length c23, .slice A3 (l28).length c4, .int .i64 (x26), .int .i64 (x27), .map (some g830)]) :: (g580, Cl 82 [.int .i64 (s11.At), .int .i64 (s11.Speed), .int .i64 (s11.Work)]) :: (g581, Cl 82 [.int .i64 (0), .int .i64 (0), .int .i64 (0)]) :: (g1071, Cl 82 [.int .i64 (s11.At + x1068), .int .i64 (max x832 (max 0 (s11.Speed - (x19 + x592)))), .int .i64 (s11.Work)]) :: (hs2 ++ (hs829 ++ R))) ⟨rfl, rfl, rfl, rfl, rfl, rfl, rfl, trivial⟩ (.cons_cons _ (.cons_cons _ (.cons_cons _ (.cons_cons _ (sub_app hs2 (sub_app hs829 (.refl _))))))) ⟨g1071, rfl, rfl, (Base.Le.refl _)⟩
              exact R_nil
            exact R_nil
          exact R_nil
        ·
          rintro b1059 _ _ ⟨g1061, rfl, rfl, hle1060⟩
          have hm := hk1063
          obtain ⟨x1097, hj1098, hk1098⟩ := bindS hm
          refine c_join (fun b1095 e' hp' => [(4, .pointer (some ⟨g581, 0, none⟩)), (9, .pointer (some ⟨g1061, 0, none⟩))] = e' ∧ (g581, Cl 82 [.int .i64 (0), .int .i64 (0), .int .i64 (0)]) :: (g1061, Cl 82 [.int .i64 (x1062), .int .i64 (max x832 (max 0 (s11.Speed - (x19 + x592)))), .int .i64 (x1097)]) :: (g10, Cl 170 [.string (x12), .int .i64 (x13), .int .i64 (x14), .int .i64 (x15), .int .i64 (x16), .int .i64 (x17), .int .i64 (x18), .int .i64 (x19), .int .i64 (x20), .int .i64 (x21), .slice A22 (l25).length c23, .slice A3 (l28).length c4, .int .i64 (x26), .int .i64 (x27), .map (some g830)]) :: (hs2 ++ (hs829 ++ R)) = hp' ∧ b1059.Le b1095) ?_ ?_
          ·
            have hm := hj1098
            refine c_seq ?_
            obtain ⟨_, h1106, hm⟩ := bindS hm
            obtain ⟨_, h1107, hm⟩ := bindS hm
            obtain ⟨_, h1108, hm⟩ := bindS hm
            obtain ⟨_, h1109, hm⟩ := bindS hm
            obtain ⟨_, h1110, hm⟩ := bindS hm
            obtain ⟨_, h1111, hm⟩ := bindS hm
            obtain ⟨_, h1112, hm⟩ := bindS hm
            refine D_drawS ((g10, Cl 170 [.string (x12), .int .i64 (x13), .int .i64 (x14), .int .i64 (x15), .int .i64 (x16), .int .i64 (x17), .int .i64 (x18), .int .i64 (x19), .int .i64 (x20), .int .i64 (x21), .slice A22 (l25).length c23, .slice A3 (l28).length c4, .int .i64 (x26), .int .i64 (x27), .map (some g830)]) :: (g580, Cl 82 [.int .i64 (s11.At), .int .i64 (s11.Speed), .int .i64 (s11.Work)]) :: (g581, Cl 82 [.int .i64 (0), .int .i64 (0), .int .i64 (0)]) :: (g1061, Cl 82 [.int .i64 (x1062), .int .i64 (max x832 (max 0 (s11.Speed - (x19 + x592)))), .int .i64 (s11.Work)]) :: (hs2 ++ (hs829 ++ R))) mixed ?_
            refine D_st (Base.Le.refl _) 0 rfl (by kernel_rfl) (by kernel_rfl) (by kernel_rfl) rfl (st_move rfl) (.cons_cons _ (.cons_cons _ (.cons_cons _ (.cons_cons _ (sub_app hs2 (sub_app hs829 (.refl _))))))) ?_
            refine D_st (Base.Le.refl _) 1 rfl (by kernel_rfl) (by kernel_rfl) (by kernel_rfl) rfl (st_move rfl) (.cons_cons _ (.cons_cons _ (.cons_cons _ (.cons_cons _ (sub_app hs2 (sub_app hs829 (.refl _))))))) ?_
            have h1106 := (chk_some h1106).2
            refine D_st (Base.Le.refl _) 2 rfl (by kernel_rfl) (by kernel_rfl) (by kernel_rfl) rfl (st_sub rfl rfl h1106) (.cons_cons _ (.cons_cons _ (.cons_cons _ (.cons_cons _ (sub_app hs2 (sub_app hs829 (.refl _))))))) ?_
            refine D_st (Base.Le.refl _) 3 rfl (by kernel_rfl) (by kernel_rfl) (by kernel_rfl) rfl (st_move rfl) (.cons_cons _ (.cons_cons _ (.cons_cons _ (.cons_cons _ (sub_app hs2 (sub_app hs829 (.refl _))))))) ?_
            refine D_st (Base.Le.refl _) 4 rfl (by kernel_rfl) (by kernel_rfl) (by kernel_rfl) rfl (st_nil rfl) (.cons_cons _ (.cons_cons _ (.cons_cons _ (.cons_cons _ (sub_app hs2 (sub_app hs829 (.refl _))))))) ?_
            refine D_st (Base.Le.refl _) 5 rfl (by kernel_rfl) (by kernel_rfl) (by kernel_rfl) rfl (st_field rfl fld170_0) (.cons_cons _ (.cons_cons _ (.cons_cons _ (.cons_cons _ (sub_app hs2 (sub_app hs829 (.refl _))))))) ?_
            refine D_st (Base.Le.refl _) 6 rfl (by kernel_rfl) (by kernel_rfl) (by kernel_rfl) rfl (st_field rfl fld43_5) (.cons_cons _ (.cons_cons _ (.cons_cons _ (.cons_cons _ (sub_app hs2 (sub_app hs829 (.refl _))))))) ?_
            refine D_st (Base.Le.refl _) 7 rfl (by kernel_rfl) (by kernel_rfl) (by kernel_rfl) rfl (st_load 0 rfl one3 rfl rfl) (.cons_cons _ (.cons_cons _ (.cons_cons _ (.cons_cons _ (sub_app hs2 (sub_app hs829 (.refl _))))))) ?_
            have h1107 := (chk_some h1107).2
            refine D_st (Base.Le.refl _) 8 rfl (by kernel_rfl) (by kernel_rfl) (by kernel_rfl) rfl (st_add rfl rfl h1107) (.cons_cons _ (.cons_cons _ (.cons_cons _ (.cons_cons _ (sub_app hs2 (sub_app hs829 (.refl _))))))) ?_
            refine D_st (Base.Le.refl _) 9 rfl (by kernel_rfl) (by kernel_rfl) (by kernel_rfl) rfl (st_move rfl) (.cons_cons _ (.cons_cons _ (.cons_cons _ (.cons_cons _ (sub_app hs2 (sub_app hs829 (.refl _))))))) ?_
            refine D_st (Base.Le.refl _) 10 rfl (by kernel_rfl) (by kernel_rfl) (by kernel_rfl) rfl (st_move rfl) (.cons_cons _ (.cons_cons _ (.cons_cons _ (.cons_cons _ (sub_app hs2 (sub_app hs829 (.refl _))))))) ?_
            have h1108 := (chk_some h1108).2
            refine D_st (Base.Le.refl _) 11 rfl (by kernel_rfl) (by kernel_rfl) (by kernel_rfl) rfl (st_mul rfl rfl h1108) (.cons_cons _ (.cons_cons _ (.cons_cons _ (.cons_cons _ (sub_app hs2 (sub_app hs829 (.refl _))))))) ?_
            refine D_st (Base.Le.refl _) 12 rfl (by kernel_rfl) (by kernel_rfl) (by kernel_rfl) rfl (st_move rfl) (.cons_cons _ (.cons_cons _ (.cons_cons _ (.cons_cons _ (sub_app hs2 (sub_app hs829 (.refl _))))))) ?_
            refine D_st (Base.Le.refl _) 13 rfl (by kernel_rfl) (by kernel_rfl) (by kernel_rfl) rfl (st_nil rfl) (.cons_cons _ (.cons_cons _ (.cons_cons _ (.cons_cons _ (sub_app hs2 (sub_app hs829 (.refl _))))))) ?_
            refine D_st (Base.Le.refl _) 14 rfl (by kernel_rfl) (by kernel_rfl) (by kernel_rfl) rfl (st_field rfl fld170_0) (.cons_cons _ (.cons_cons _ (.cons_cons _ (.cons_cons _ (sub_app hs2 (sub_app hs829 (.refl _))))))) ?_
            refine D_st (Base.Le.refl _) 15 rfl (by kernel_rfl) (by kernel_rfl) (by kernel_rfl) rfl (st_field rfl fld43_6) (.cons_cons _ (.cons_cons _ (.cons_cons _ (.cons_cons _ (sub_app hs2 (sub_app hs829 (.refl _))))))) ?_
            refine D_st (Base.Le.refl _) 16 rfl (by kernel_rfl) (by kernel_rfl) (by kernel_rfl) rfl (st_load 0 rfl one3 rfl rfl) (.cons_cons _ (.cons_cons _ (.cons_cons _ (.cons_cons _ (sub_app hs2 (sub_app hs829 (.refl _))))))) ?_
            have h1110 := (chk_some h1110).2
            refine D_st (Base.Le.refl _) 17 rfl (by kernel_rfl) (by kernel_rfl) (by kernel_rfl) rfl (st_quo rfl rfl (ne0_some h1109) h1110) (.cons_cons _ (.cons_cons _ (.cons_cons _ (.cons_cons _ (sub_app hs2 (sub_app hs829 (.refl _))))))) ?_
            have h1111 := (chk_some h1111).2
            refine D_st (Base.Le.refl _) 18 rfl (by kernel_rfl) (by kernel_rfl) (by kernel_rfl) rfl (st_add rfl rfl h1111) (.cons_cons _ (.cons_cons _ (.cons_cons _ (.cons_cons _ (sub_app hs2 (sub_app hs829 (.refl _))))))) ?_
            refine D_st (Base.Le.refl _) 19 rfl (by kernel_rfl) (by kernel_rfl) (by kernel_rfl) rfl (st_move rfl) (.cons_cons _ (.cons_cons _ (.cons_cons _ (.cons_cons _ (sub_app hs2 (sub_app hs829 (.refl _))))))) ?_
            have h1112 := (chk_some h1112).2
            refine D_st (Base.Le.refl _) 20 rfl (by kernel_rfl) (by kernel_rfl) (by kernel_rfl) rfl (st_add rfl rfl h1112) (.cons_cons _ (.cons_cons _ (.cons_cons _ (.cons_cons _ (sub_app hs2 (sub_app hs829 (.refl _))))))) ?_
            refine D_st (Base.Le.refl _) 21 rfl (by kernel_rfl) (by kernel_rfl) (by kernel_rfl) rfl (st_assign rfl) (.cons_cons _ (.cons_cons _ (.cons_cons _ (.cons_cons _ (sub_app hs2 (sub_app hs829 (.refl _))))))) ?_
            refine D_done (by kernel_rfl) ?_
            refine x_then_normal ?_
            refine c_seq ?_
            refine c_region ?_
            refine t_st rfl (st_move rfl) ?_
            refine t_st rfl (st_gtr rfl rfl) ?_
            refine t_nil ?_
            refine x_then_normal ?_
            refine c_cond _ rfl (fun hc1113 => ?_) (fun hc1113 => ?_)
            ·
              rw [if_pos (of_decide_eq_true hc1113)] at hm
              obtain ⟨_, h1118, hm⟩ := bindS hm
              obtain ⟨_, h1119, hm⟩ := bindS hm
              obtain ⟨_, h1120, hm⟩ := bindS hm
              obtain ⟨_, h1121, hm⟩ := bindS hm
              refine D_drawS ((g10, Cl 170 [.string (x12), .int .i64 (x13), .int .i64 (x14), .int .i64 (x15), .int .i64 (x16), .int .i64 (x17), .int .i64 (x18), .int .i64 (x19), .int .i64 (x20), .int .i64 (x21), .slice A22 (l25).length c23, .slice A3 (l28).length c4, .int .i64 (x26), .int .i64 (x27), .map (some g830)]) :: (g580, Cl 82 [.int .i64 (s11.At), .int .i64 (s11.Speed), .int .i64 (s11.Work)]) :: (g581, Cl 82 [.int .i64 (0), .int .i64 (0), .int .i64 (0)]) :: (g1061, Cl 82 [.int .i64 (x1062), .int .i64 (max x832 (max 0 (s11.Speed - (x19 + x592)))), .int .i64 (s11.Work)]) :: (hs2 ++ (hs829 ++ R))) mixed ?_
              refine D_st (Base.Le.refl _) 0 rfl (by kernel_rfl) (by kernel_rfl) (by kernel_rfl) rfl (st_field rfl fld82_2) (.cons_cons _ (.cons_cons _ (.cons_cons _ (.cons_cons _ (sub_app hs2 (sub_app hs829 (.refl _))))))) ?_
              refine D_st (Base.Le.refl _) 1 rfl (by kernel_rfl) (by kernel_rfl) (by kernel_rfl) rfl (st_load 3 rfl one3 rfl rfl) (.cons_cons _ (.cons_cons _ (.cons_cons _ (.cons_cons _ (sub_app hs2 (sub_app hs829 (.refl _))))))) ?_
              refine D_st (Base.Le.refl _) 2 rfl (by kernel_rfl) (by kernel_rfl) (by kernel_rfl) rfl (st_move rfl) (.cons_cons _ (.cons_cons _ (.cons_cons _ (.cons_cons _ (sub_app hs2 (sub_app hs829 (.refl _))))))) ?_
              refine D_st (Base.Le.refl _) 3 rfl (by kernel_rfl) (by kernel_rfl) (by kernel_rfl) rfl (st_nil rfl) (.cons_cons _ (.cons_cons _ (.cons_cons _ (.cons_cons _ (sub_app hs2 (sub_app hs829 (.refl _))))))) ?_
              refine D_st (Base.Le.refl _) 4 rfl (by kernel_rfl) (by kernel_rfl) (by kernel_rfl) rfl (st_field rfl fld170_0) (.cons_cons _ (.cons_cons _ (.cons_cons _ (.cons_cons _ (sub_app hs2 (sub_app hs829 (.refl _))))))) ?_
              refine D_st (Base.Le.refl _) 5 rfl (by kernel_rfl) (by kernel_rfl) (by kernel_rfl) rfl (st_field rfl fld43_2) (.cons_cons _ (.cons_cons _ (.cons_cons _ (.cons_cons _ (sub_app hs2 (sub_app hs829 (.refl _))))))) ?_
              refine D_st (Base.Le.refl _) 6 rfl (by kernel_rfl) (by kernel_rfl) (by kernel_rfl) rfl (st_load 0 rfl one3 rfl rfl) (.cons_cons _ (.cons_cons _ (.cons_cons _ (.cons_cons _ (sub_app hs2 (sub_app hs829 (.refl _))))))) ?_
              refine D_st (Base.Le.refl _) 7 rfl (by kernel_rfl) (by kernel_rfl) (by kernel_rfl) rfl (st_move rfl) (.cons_cons _ (.cons_cons _ (.cons_cons _ (.cons_cons _ (sub_app hs2 (sub_app hs829 (.refl _))))))) ?_
              have h1118 := (chk_some h1118).2
              refine D_st (Base.Le.refl _) 8 rfl (by kernel_rfl) (by kernel_rfl) (by kernel_rfl) rfl (st_mul rfl rfl h1118) (.cons_cons _ (.cons_cons _ (.cons_cons _ (.cons_cons _ (sub_app hs2 (sub_app hs829 (.refl _))))))) ?_
              refine D_st (Base.Le.refl _) 9 rfl (by kernel_rfl) (by kernel_rfl) (by kernel_rfl) rfl (st_field rfl fld82_0) (.cons_cons _ (.cons_cons _ (.cons_cons _ (.cons_cons _ (sub_app hs2 (sub_app hs829 (.refl _))))))) ?_
              refine D_st (Base.Le.refl _) 10 rfl (by kernel_rfl) (by kernel_rfl) (by kernel_rfl) rfl (st_load 3 rfl one3 rfl rfl) (.cons_cons _ (.cons_cons _ (.cons_cons _ (.cons_cons _ (sub_app hs2 (sub_app hs829 (.refl _))))))) ?_
              refine D_st (Base.Le.refl _) 11 rfl (by kernel_rfl) (by kernel_rfl) (by kernel_rfl) rfl (st_field rfl fld82_0) (.cons_cons _ (.cons_cons _ (.cons_cons _ (.cons_cons _ (sub_app hs2 (sub_app hs829 (.refl _))))))) ?_
              refine D_st (Base.Le.refl _) 12 rfl (by kernel_rfl) (by kernel_rfl) (by kernel_rfl) rfl (st_load 1 rfl one3 rfl rfl) (.cons_cons _ (.cons_cons _ (.cons_cons _ (.cons_cons _ (sub_app hs2 (sub_app hs829 (.refl _))))))) ?_
              have h1119 := (chk_some h1119).2
              refine D_st (Base.Le.refl _) 13 rfl (by kernel_rfl) (by kernel_rfl) (by kernel_rfl) rfl (st_sub rfl rfl h1119) (.cons_cons _ (.cons_cons _ (.cons_cons _ (.cons_cons _ (sub_app hs2 (sub_app hs829 (.refl _))))))) ?_
              have h1120 := (chk_some h1120).2
              refine D_st (Base.Le.refl _) 14 rfl (by kernel_rfl) (by kernel_rfl) (by kernel_rfl) rfl (st_mul rfl rfl h1120) (.cons_cons _ (.cons_cons _ (.cons_cons _ (.cons_cons _ (sub_app hs2 (sub_app hs829 (.refl _))))))) ?_
              have h1121 := (chk_some h1121).2
              refine D_st (Base.Le.refl _) 15 rfl (by kernel_rfl) (by kernel_rfl) (by kernel_rfl) rfl (st_add rfl rfl h1121) (.cons_cons _ (.cons_cons _ (.cons_cons _ (.cons_cons _ (sub_app hs2 (sub_app hs829 (.refl _))))))) ?_
              refine D_st (Base.Le.refl _) 16 rfl (by kernel_rfl) (by kernel_rfl) (by kernel_rfl) rfl (st_field rfl fld82_2) (.cons_cons _ (.cons_cons _ (.cons_cons _ (.cons_cons _ (sub_app hs2 (sub_app hs829 (.refl _))))))) ?_
              refine D_all [17] (by kernel_rfl) rfl ?_
              refine R_do (Base.Le.refl _) rfl rfl (u_store 3 rfl rfl siz3 rfl rfl (by simp)) ?_ ?_
              ·
                rintro _ _ rfl
                refine ⟨.inl (by kernel_rfl), ?_⟩
                refine D_done (by kernel_rfl) ?_
                obtain rfl := some1 hm
                refine x_pullb 3 rfl ?_
                refine x_pullb 3 rfl ?_
                refine x_front2 [_, _, _, _] hs2 hs829 R rfl ?_
                refine x_front2 [_, _, _, _] hs829 hs2 R rfl ?_
                exact x_join (e' := [(4, .pointer (some ⟨g581, 0, none⟩)), (9, .pointer (some ⟨g1061, 0, none⟩))]) (hp' := (g581, Cl 82 [.int .i64 (0), .int .i64 (0), .int .i64 (0)]) :: (g1061, Cl 82 [.int .i64 (x1062), .int .i64 (max x832 (max 0 (s11.Speed - (x19 + x592)))), .int .i64 (s11.Work + ((x14 * (((((max x832 (max 0 (s11.Speed - (x19 + x592)))) - s11.Speed) + x17) + (Int.tdiv (s11.Speed * s11.Speed) x18)) + x592)) * (x1062 - s11.At)))]) :: (g10, Cl 170 [.string (x12), .int .i64 (x13), .int .i64 (x14), .int .i64 (x15), .int .i64 (x16), .int .i64 (x17), .int .i64 (x18), .int .i64 (x19), .int .i64 (x20), .int .i64 (x21), .slice A22 (l25).length c23, .slice A3 (l28).length c4, .int .i64 (x26), .int .i64 (x27), .map (some g830)]) :: (hs2 ++ (hs829 ++ R))) ⟨rfl, rfl, trivial⟩ (.cons_cons _ (.cons_cons _ (.cons_cons _ (.cons _ (sub_app hs2 (sub_app hs829 (.refl _))))))) ⟨rfl, rfl, (Base.Le.refl _)⟩
              exact R_nil
            ·
              rw [if_neg (of_decide_eq_false hc1113)] at hm
              refine c_skip ?_
              obtain rfl := some1 hm
              refine x_pullb 3 rfl ?_
              refine x_pullb 3 rfl ?_
              refine x_front2 [_, _, _, _] hs2 hs829 R rfl ?_
              refine x_front2 [_, _, _, _] hs829 hs2 R rfl ?_
              exact x_join (e' := [(4, .pointer (some ⟨g581, 0, none⟩)), (9, .pointer (some ⟨g1061, 0, none⟩))]) (hp' := (g581, Cl 82 [.int .i64 (0), .int .i64 (0), .int .i64 (0)]) :: (g1061, Cl 82 [.int .i64 (x1062), .int .i64 (max x832 (max 0 (s11.Speed - (x19 + x592)))), .int .i64 (s11.Work)]) :: (g10, Cl 170 [.string (x12), .int .i64 (x13), .int .i64 (x14), .int .i64 (x15), .int .i64 (x16), .int .i64 (x17), .int .i64 (x18), .int .i64 (x19), .int .i64 (x20), .int .i64 (x21), .slice A22 (l25).length c23, .slice A3 (l28).length c4, .int .i64 (x26), .int .i64 (x27), .map (some g830)]) :: (hs2 ++ (hs829 ++ R))) ⟨rfl, rfl, trivial⟩ (.cons_cons _ (.cons_cons _ (.cons_cons _ (.cons _ (sub_app hs2 (sub_app hs829 (.refl _))))))) ⟨rfl, rfl, (Base.Le.refl _)⟩
          ·
            rintro b1095 _ _ ⟨rfl, rfl, hle1096⟩
            have hm := hk1098
            refine c_seq ?_
            refine c_region ?_
            refine t_st rfl (st_loadD (vs := [_, _, _]) 1 3 rfl agg82 rfl rfl rfl) ?_
            refine t_do rfl (u_storeN (vs := [_, _, _]) 0 3 rfl rfl rfl siz82 rfl (by intro u hu; simp only [List.mem_cons, List.not_mem_nil, or_false] at hu; rcases hu with rfl | rfl | rfl <;> rfl) rfl (by simp)) ?_
            rintro _ _ rfl
            refine t_nil ?_
            refine x_then_normal ?_
            refine c_ret ?_
            obtain ⟨rfl, rfl, rfl, rfl⟩ := some4 hm
            refine x_pullb 2 rfl ?_
            refine x_front2 [_, _, _] hs2 hs829 R rfl ?_
            refine x_front2 [_, _, _] hs829 hs2 R rfl ?_
            exact retM (rs := [.cell 4 82]) [.agg #[.int .i64 (x1062), .int .i64 (max x832 (max 0 (s11.Speed - (x19 + x592)))), .int .i64 (x1097)]] (hle591.trans (hle827.trans (hle1060.trans hle1096))) (by decide) rfl ⟨⟨_, rfl, fun w ho => cell_agg (vs := [_, _, _]) 1 3 agg82 rfl rfl rfl w ho⟩, trivial⟩ rfl (hp' := (g10, Cl 170 [.string (x12), .int .i64 (x13), .int .i64 (x14), .int .i64 (x15), .int .i64 (x16), .int .i64 (x17), .int .i64 (x18), .int .i64 (x19), .int .i64 (x20), .int .i64 (x21), .slice A22 (l25).length c23, .slice A3 (l28).length c4, .int .i64 (x26), .int .i64 (x27), .map (some g830)]) :: (hs2 ++ (hs829 ++ R))) (.cons_cons _ (.cons _ (.cons _ (sub_app hs2 (sub_app hs829 (.refl _)))))) ⟨g830, hs829, rfl, rfl, (h831.le (hle1060.trans hle1096))⟩
    exact R_nil

set_option maxRecDepth 20000 in
theorem cRunGain_2 (b : Base) (R : Hp) (s1 : ApiStock) (x2 : Int) (x3 : Int) (x25 : Int) (x26 : Int) (hm : mRunGain_2 s1 x2 x3 = some (x25, x26)) :
    CallsG Tryd.prog 73 [.agg #[.string (s1.Name), .int .i64 (s1.Length), .int .i64 (s1.Mass), .int .i64 (s1.Start), .int .i64 (s1.Power), .int .i64 (s1.Roll), .int .i64 (s1.Drag), .int .i64 (s1.Brake), .int .i64 (s1.Top), .int .i64 (s1.Seats)], .int .i64 (x2), .int .i64 (x3)] b (R) (fun v b' hp' => .tuple #[.int .i64 (x25), .int .i64 (x26)] = v ∧ R = hp') := by
  refine fn_enterG 26 Tryd.func73 rfl Tryd.ntmps73 rfl ?_
  unfold mRunGain_2 at hm
  refine c_seq ?_
  refine c_region ?_
  refine t_do rfl (u_box _ rfl rfl) ?_
  rintro _ _ ⟨g27, rfl, rfl⟩
  refine t_st rfl (st_assign rfl) ?_
  refine t_st rfl (st_assign rfl) ?_
  refine t_nil ?_
  refine x_then_normal ?_
  refine c_seq ?_
  refine c_seq ?_
  refine c_region ?_
  refine t_st rfl (st_loadD (vs := [_, _, _, _, _, _, _, _, _, _]) 0 10 rfl agg43 rfl rfl rfl) ?_
  obtain ⟨x28, hcl29, hm⟩ := bindS hm
  refine t_do rfl (u_callW0 _ call22 rfl (fun w ho => cRunCheck _ [] s1 x28 hcl29) (fun _ _ _ h => h.2.symm)) ?_
  rintro _ _ ⟨⟨_, rfl, _⟩, rfl⟩
  refine t_st rfl (st_assign rfl) ?_
  refine t_nil ?_
  refine x_then_normal ?_
  refine c_seq ?_
  refine c_region ?_
  refine t_st rfl (st_move rfl) ?_
  refine t_st rfl (st_neq rfl rfl) ?_
  refine t_nil ?_
  refine x_then_normal ?_
  refine c_cond _ rfl (fun hc30 => ?_) (fun hc30 => ?_)
  ·
    rw [if_pos (of_decide_eq_true hc30)] at hm
    refine c_seq ?_
    refine c_region ?_
    refine t_st rfl (st_move rfl) ?_
    refine t_st rfl (st_assign rfl) ?_
    refine t_st rfl (st_assign rfl) ?_
    refine t_nil ?_
    refine x_then_normal ?_
    refine c_ret ?_
    refine x_then_ret ?_
    obtain ⟨rfl, rfl⟩ := some2 hm
    exact retM (rs := [.tmp 6, .tmp 7]) [.int .i64 (0), .int .i64 (x28)] (Base.Le.refl _) (by decide) rfl ⟨rfl, ⟨rfl, trivial⟩⟩ rfl (hp' := R) (.cons _ (.refl _)) ⟨rfl, rfl⟩
  ·
    rw [if_neg (of_decide_eq_false hc30)] at hm
    refine c_skip ?_
    refine x_then_normal ?_
    refine c_seq ?_
    obtain ⟨x38, hj39, hk39⟩ := bindS hm
    refine c_join (fun b36 e' hp' => [(1, .int .i64 (x2)), (2, .int .i64 (x3)), (3, .pointer (some ⟨g27, 0, none⟩)), (21, .bool (x38))] = e' ∧ (g27, Cl 43 [.string (s1.Name), .int .i64 (s1.Length), .int .i64 (s1.Mass), .int .i64 (s1.Start), .int .i64 (s1.Power), .int .i64 (s1.Roll), .int .i64 (s1.Drag), .int .i64 (s1.Brake), .int .i64 (s1.Top), .int .i64 (s1.Seats)]) :: R = hp' ∧ b.Le b36) ?_ ?_
    ·
      have hm := hj39
      refine c_region ?_
      refine t_st rfl (st_move rfl) ?_
      obtain ⟨x40, hcl41, hm⟩ := bindS hm
      refine t_do rfl (u_callW0 _ call59 rfl (fun w ho => cRunWithin _ [] x2 0 6000 x40 hcl41) (fun _ _ _ h => h.2.symm)) ?_
      rintro _ _ ⟨⟨_, rfl, _⟩, rfl⟩
      rcases Bool.eq_false_or_eq_true x40 with hc42 | hc42
      ·
        rw [if_pos hc42] at hm
        refine t_resp 15 rfl (v' := .bool true) (by rw [hc42] <;> rfl) ?_
        refine t_st rfl (st_not_t rfl) ?_
        refine t_st rfl (st_move rfl) ?_
        refine t_yes 17 rfl rfl rfl ?_
        refine t_st rfl (st_move rfl) ?_
        refine t_yes 17 rfl rfl rfl ?_
        obtain ⟨x43, hcl44, hm⟩ := bindS hm
        refine t_do rfl (u_callW0 _ call59 rfl (fun w ho => cRunWithin _ [] x3 (-40) 40 x43 hcl44) (fun _ _ _ h => h.2.symm)) ?_
        rintro _ _ ⟨⟨_, rfl, _⟩, rfl⟩
        refine t_yes 17 rfl rfl rfl ?_
        refine t_st rfl (st_not rfl) ?_
        refine t_st rfl (st_pick_f rfl rfl) ?_
        refine t_nil ?_
        obtain rfl := some1 hm
        exact x_join (e' := [(1, .int .i64 (x2)), (2, .int .i64 (x3)), (3, .pointer (some ⟨g27, 0, none⟩)), (21, .bool (!x43))]) (hp' := (g27, Cl 43 [.string (s1.Name), .int .i64 (s1.Length), .int .i64 (s1.Mass), .int .i64 (s1.Start), .int .i64 (s1.Power), .int .i64 (s1.Roll), .int .i64 (s1.Drag), .int .i64 (s1.Brake), .int .i64 (s1.Top), .int .i64 (s1.Seats)]) :: R) ⟨rfl, rfl, rfl, rfl, trivial⟩ (.cons_cons _ (.refl _)) ⟨rfl, rfl, (Base.Le.refl _)⟩
      ·
        rw [if_neg (fun hh => Bool.noConfusion (hh.symm.trans hc42))] at hm
        refine t_resp 15 rfl (v' := .bool false) (by rw [hc42] <;> rfl) ?_
        refine t_st rfl (st_not_f rfl) ?_
        refine t_st rfl (st_move rfl) ?_
        refine t_no 17 rfl rfl rfl rfl rfl ?_
        refine t_no 17 rfl rfl rfl rfl rfl ?_
        refine t_no 17 rfl rfl rfl rfl rfl ?_
        refine t_st rfl (st_pick_t rfl rfl) ?_
        refine t_nil ?_
        obtain rfl := some1 hm
        exact x_join (e' := [(1, .int .i64 (x2)), (2, .int .i64 (x3)), (3, .pointer (some ⟨g27, 0, none⟩)), (21, .bool (true))]) (hp' := (g27, Cl 43 [.string (s1.Name), .int .i64 (s1.Length), .int .i64 (s1.Mass), .int .i64 (s1.Start), .int .i64 (s1.Power), .int .i64 (s1.Roll), .int .i64 (s1.Drag), .int .i64 (s1.Brake), .int .i64 (s1.Top), .int .i64 (s1.Seats)]) :: R) ⟨rfl, rfl, rfl, rfl, trivial⟩ (.cons_cons _ (.refl _)) ⟨rfl, rfl, (Base.Le.refl _)⟩
    ·
      rintro b36 _ _ ⟨rfl, rfl, hle37⟩
      have hm := hk39
      refine c_cond _ rfl (fun hc45 => ?_) (fun hc45 => ?_)
      ·
        rw [if_pos hc45] at hm
        refine c_seq ?_
        refine c_region ?_
        refine t_st rfl (st_assign rfl) ?_
        refine t_st rfl (st_assign rfl) ?_
        refine t_nil ?_
        refine x_then_normal ?_
        refine c_ret ?_
        refine x_then_ret ?_
        obtain ⟨rfl, rfl⟩ := some2 hm
        exact retM (rs := [.tmp 6, .tmp 7]) [.int .i64 (0), .int .i64 (2)] hle37 (by decide) rfl ⟨rfl, ⟨rfl, trivial⟩⟩ rfl (hp' := R) (.cons _ (.refl _)) ⟨rfl, rfl⟩
      ·
        rw [if_neg (fun hh => Bool.noConfusion (hh.symm.trans hc45))] at hm
        refine c_skip ?_
        refine x_then_normal ?_
        refine c_seq ?_
        refine c_region ?_
        refine t_st rfl (st_loadD (vs := [_, _, _, _, _, _, _, _, _, _]) 0 10 rfl agg43 rfl rfl rfl) ?_
        refine t_st rfl (st_move rfl) ?_
        refine t_st rfl (st_move rfl) ?_
        obtain ⟨x46, hcl47, hm⟩ := bindS hm
        refine t_do rfl (u_callW0 _ call96 rfl (fun w ho => cRunGain _ [] s1 x2 x3 x46 hcl47) (fun _ _ _ h => h.2.symm)) ?_
        rintro _ _ ⟨⟨_, rfl, _⟩, rfl⟩
        refine t_st rfl (st_assign rfl) ?_
        refine t_st rfl (st_assign rfl) ?_
        refine t_nil ?_
        refine x_then_normal ?_
        refine c_ret ?_
        obtain ⟨rfl, rfl⟩ := some2 hm
        exact retM (rs := [.tmp 6, .tmp 7]) [.int .i64 (x46), .int .i64 (0)] hle37 (by decide) rfl ⟨rfl, ⟨rfl, trivial⟩⟩ rfl (hp' := R) (.cons _ (.refl _)) ⟨rfl, rfl⟩

set_option maxRecDepth 20000 in
theorem cGuardWithin (b : Base) (R : Hp) (x1 : Int) (x2 : Int) (x3 : Int) (x10 : Bool) (hm : mGuardWithin x1 x2 x3 = some x10) :
    CallsG Tryd.prog 63 [.int .i64 (x1), .int .i64 (x2), .int .i64 (x3)] b (R) (fun v b' hp' => .bool (x10) = v ∧ R = hp') := by
  refine fn_enterG 15 Tryd.func63 rfl Tryd.ntmps63 rfl ?_
  unfold mGuardWithin at hm
  refine c_seq ?_
  refine c_region ?_
  refine t_st rfl (st_assign rfl) ?_
  refine t_nil ?_
  refine x_then_normal ?_
  obtain ⟨x14, hj15, hk15⟩ := bindS hm
  refine c_join (fun b12 e' hp' => [(6, .bool (x14))] = e' ∧ R = hp' ∧ b.Le b12) ?_ ?_
  ·
    have hm := hj15
    refine c_region ?_
    refine t_st rfl (st_move rfl) ?_
    refine t_st rfl (st_move rfl) ?_
    refine t_bool rfl (st_geq rfl rfl) (fun hc16 => ?_) (fun hc16 => ?_)
    ·
      rw [if_pos hc16] at hm
      refine t_st rfl (st_move rfl) ?_
      refine t_yes 10 rfl rfl rfl ?_
      refine t_st rfl (st_move rfl) ?_
      refine t_yes 10 rfl rfl rfl ?_
      refine t_st rfl (st_move rfl) ?_
      refine t_yes 10 rfl rfl rfl ?_
      refine t_st rfl (st_leq rfl rfl) ?_
      refine t_st rfl (st_pick_t rfl rfl) ?_
      refine t_st rfl (st_assign rfl) ?_
      refine t_nil ?_
      obtain rfl := some1 hm
      exact x_join (e' := [(6, .bool (decide (x1 ≤ x3)))]) (hp' := R) ⟨rfl, trivial⟩ (.refl _) ⟨rfl, rfl, (Base.Le.refl _)⟩
    ·
      rw [if_neg hc16] at hm
      refine t_st rfl (st_move rfl) ?_
      refine t_no 10 rfl rfl rfl rfl rfl ?_
      refine t_no 10 rfl rfl rfl rfl rfl ?_
      refine t_no 10 rfl rfl rfl rfl rfl ?_
      refine t_st rfl (st_pick_f rfl rfl) ?_
      refine t_st rfl (st_assign rfl) ?_
      refine t_nil ?_
      obtain rfl := some1 hm
      exact x_join (e' := [(6, .bool (false))]) (hp' := R) ⟨rfl, trivial⟩ (.refl _) ⟨rfl, rfl, (Base.Le.refl _)⟩
  ·
    rintro b12 _ _ ⟨rfl, rfl, hle13⟩
    have hm := hk15
    refine c_ret ?_
    obtain rfl := some1 hm
    exact retM (rs := [.tmp 6]) [.bool (x14)] hle13 (by decide) rfl ⟨rfl, trivial⟩ rfl (hp' := R) (.refl _) ⟨rfl, rfl⟩

set_option maxRecDepth 20000 in
theorem cGuardPacketUsed (b : Base) (R : Hp) (s1 : GuardPacket) (x34 : Int) (x35 : Int) (x36 : Int) (x37 : Int) (x38 : Int) (x39 : Int) (x40 : Int) (x41 : Int) (hm : mGuardPacketUsed s1 = some (x34, x35, x36, x37, x38, x39, x40, x41)) :
    CallsG Tryd.prog 75 [.agg #[.int .i64 (s1.Kind), .int .i64 (s1.Session), .int .i64 (s1.No), .int .i64 (s1.Of), .int .i64 (s1.End), .int .i64 (s1.At), .int .i64 (s1.Speed), .int .i64 (s1.Sent)]] b (R) (fun v b' hp' => .agg #[.int .i64 (x34), .int .i64 (x35), .int .i64 (x36), .int .i64 (x37), .int .i64 (x38), .int .i64 (x39), .int .i64 (x40), .int .i64 (x41)] = v ∧ R = hp') := by
  refine fn_enterG 51 Tryd.func75 rfl Tryd.ntmps75 rfl ?_
  unfold mGuardPacketUsed at hm
  refine c_seq ?_
  refine c_region ?_
  refine t_do rfl (u_box _ rfl rfl) ?_
  rintro _ _ ⟨g42, rfl, rfl⟩
  refine t_do rfl (u_alloc [.int .i64 0, .int .i64 0, .int .i64 0, .int .i64 0, .int .i64 0, .int .i64 0, .int .i64 0, .int .i64 0] zero36 rfl) ?_
  rintro _ _ ⟨g43, rfl, rfl⟩
  refine t_nil ?_
  refine x_then_normal ?_
  refine c_seq ?_
  refine c_region ?_
  refine t_st rfl (st_field rfl fld36_0) ?_
  refine t_st rfl (st_load 1 rfl one3 rfl rfl) ?_
  refine t_st rfl (st_field rfl fld36_1) ?_
  refine t_st rfl (st_load 1 rfl one3 rfl rfl) ?_
  refine t_st rfl (st_field rfl fld36_2) ?_
  refine t_st rfl (st_load 1 rfl one3 rfl rfl) ?_
  refine t_st rfl (st_field rfl fld36_7) ?_
  refine t_st rfl (st_load 1 rfl one3 rfl rfl) ?_
  refine t_st rfl (st_build (v := .agg #[.int .i64 (s1.Kind), .int .i64 (s1.Session), .int .i64 (s1.No), .int .i64 (0), .int .i64 (0), .int .i64 (0), .int .i64 (0), .int .i64 (s1.Sent)]) [(0, .int .i64 (s1.Kind)), (1, .int .i64 (s1.Session)), (2, .int .i64 (s1.No)), (7, .int .i64 (s1.Sent))] rfl (fun _ => by kernel_rfl)) ?_
  refine t_do rfl (u_alloc [.int .i64 0, .int .i64 0, .int .i64 0, .int .i64 0, .int .i64 0, .int .i64 0, .int .i64 0, .int .i64 0] zero36 rfl) ?_
  rintro _ _ ⟨g44, rfl, rfl⟩
  refine t_do rfl (u_storeN (vs := [_, _, _, _, _, _, _, _]) 0 8 rfl rfl rfl siz36 rfl (by intro u hu; simp only [List.mem_cons, List.not_mem_nil, or_false] at hu; rcases hu with rfl | rfl | rfl | rfl | rfl | rfl | rfl | rfl <;> rfl) rfl (by simp)) ?_
  rintro _ _ rfl
  refine t_nil ?_
  refine x_then_normal ?_
  obtain ⟨⟨x58, x59, x60, x61⟩, hj62, hk62⟩ := bindS hm
  refine c_join (fun b56 e' hp' => [(2, .pointer (some ⟨g43, 0, none⟩)), (3, .pointer (some ⟨g44, 0, none⟩))] = e' ∧ (g43, Cl 36 [.int .i64 (0), .int .i64 (0), .int .i64 (0), .int .i64 (0), .int .i64 (0), .int .i64 (0), .int .i64 (0), .int .i64 (0)]) :: (g44, Cl 36 [.int .i64 (s1.Kind), .int .i64 (s1.Session), .int .i64 (s1.No), .int .i64 (x58), .int .i64 (x59), .int .i64 (x60), .int .i64 (x61), .int .i64 (s1.Sent)]) :: R = hp' ∧ b.Le b56) ?_ ?_
  ·
    have hm := hj62
    refine c_seq ?_
    refine c_region ?_
    refine t_st rfl (st_field rfl fld36_0) ?_
    refine t_st rfl (st_load 2 rfl one3 rfl rfl) ?_
    refine t_nil ?_
    refine x_then_normal ?_
    refine c_block ?_
    refine c_seq ?_
    refine c_region ?_
    refine t_st rfl (st_eql rfl rfl) ?_
    refine t_st rfl (st_assign rfl) ?_
    refine t_nil ?_
    refine x_then_normal ?_
    refine c_cond _ rfl (fun hc63 => ?_) (fun hc63 => ?_)
    ·
      rw [if_pos (of_decide_eq_true hc63)] at hm
      refine c_region ?_
      refine t_st rfl (st_field rfl fld36_5) ?_
      refine t_st rfl (st_load 2 rfl one3 rfl rfl) ?_
      refine t_st rfl (st_field rfl fld36_5) ?_
      refine t_do rfl (u_store 0 rfl rfl siz3 rfl rfl (by simp)) ?_
      rintro _ _ rfl
      refine t_nil ?_
      refine x_block_normal ?_
      obtain ⟨rfl, rfl, rfl, rfl⟩ := some4 hm
      refine x_pullb 1 rfl ?_
      exact x_join (e' := [(2, .pointer (some ⟨g43, 0, none⟩)), (3, .pointer (some ⟨g44, 0, none⟩))]) (hp' := (g43, Cl 36 [.int .i64 (0), .int .i64 (0), .int .i64 (0), .int .i64 (0), .int .i64 (0), .int .i64 (0), .int .i64 (0), .int .i64 (0)]) :: (g44, Cl 36 [.int .i64 (s1.Kind), .int .i64 (s1.Session), .int .i64 (s1.No), .int .i64 (0), .int .i64 (0), .int .i64 (s1.At), .int .i64 (0), .int .i64 (s1.Sent)]) :: R) ⟨rfl, rfl, trivial⟩ (.cons_cons _ (.cons_cons _ (.cons _ (.refl _)))) ⟨rfl, rfl, (Base.Le.refl _)⟩
    ·
      rw [if_neg (of_decide_eq_false hc63)] at hm
      refine c_seq ?_
      refine c_region ?_
      refine t_st rfl (st_eql rfl rfl) ?_
      refine t_st rfl (st_assign rfl) ?_
      refine t_nil ?_
      refine x_then_normal ?_
      refine c_cond _ rfl (fun hc64 => ?_) (fun hc64 => ?_)
      ·
        rw [if_pos (of_decide_eq_true hc64)] at hm
        refine D_drawS ((g43, Cl 36 [.int .i64 (0), .int .i64 (0), .int .i64 (0), .int .i64 (0), .int .i64 (0), .int .i64 (0), .int .i64 (0), .int .i64 (0)]) :: (g42, Cl 36 [.int .i64 (s1.Kind), .int .i64 (s1.Session), .int .i64 (s1.No), .int .i64 (s1.Of), .int .i64 (s1.End), .int .i64 (s1.At), .int .i64 (s1.Speed), .int .i64 (s1.Sent)]) :: R) mixed ?_
        refine D_st (Base.Le.refl _) 0 rfl (by kernel_rfl) (by kernel_rfl) (by kernel_rfl) rfl (st_field rfl fld36_4) (.cons _ (.cons_cons _ (.cons_cons _ (.refl _)))) ?_
        refine D_st (Base.Le.refl _) 1 rfl (by kernel_rfl) (by kernel_rfl) (by kernel_rfl) rfl (st_load 1 rfl one3 rfl rfl) (.cons _ (.cons_cons _ (.cons_cons _ (.refl _)))) ?_
        refine D_st (Base.Le.refl _) 2 rfl (by kernel_rfl) (by kernel_rfl) (by kernel_rfl) rfl (st_field rfl fld36_5) (.cons _ (.cons_cons _ (.cons_cons _ (.refl _)))) ?_
        refine D_st (Base.Le.refl _) 3 rfl (by kernel_rfl) (by kernel_rfl) (by kernel_rfl) rfl (st_load 1 rfl one3 rfl rfl) (.cons _ (.cons_cons _ (.cons_cons _ (.refl _)))) ?_
        refine D_st (Base.Le.refl _) 4 rfl (by kernel_rfl) (by kernel_rfl) (by kernel_rfl) rfl (st_field rfl fld36_6) (.cons _ (.cons_cons _ (.cons_cons _ (.refl _)))) ?_
        refine D_st (Base.Le.refl _) 5 rfl (by kernel_rfl) (by kernel_rfl) (by kernel_rfl) rfl (st_load 1 rfl one3 rfl rfl) (.cons _ (.cons_cons _ (.cons_cons _ (.refl _)))) ?_
        refine D_st (Base.Le.refl _) 6 rfl (by kernel_rfl) (by kernel_rfl) (by kernel_rfl) rfl (st_field rfl fld36_4) (.cons _ (.cons_cons _ (.cons_cons _ (.refl _)))) ?_
        refine D_all [7] (by kernel_rfl) rfl ?_
        refine R_do (Base.Le.refl _) rfl rfl (u_store 0 rfl rfl siz3 rfl rfl (by simp)) ?_ ?_
        ·
          rintro _ _ rfl
          refine ⟨.inr (.cons _ (.cons_cons _ (.cons_cons _ (.refl _)))), ?_⟩
          refine D_st (Base.Le.refl _) 8 rfl (by kernel_rfl) (by kernel_rfl) (by kernel_rfl) rfl (st_field rfl fld36_5) (.cons _ (.cons_cons _ (.cons_cons _ (.refl _)))) ?_
          refine D_all [9] (by kernel_rfl) rfl ?_
          refine R_do (Base.Le.refl _) rfl rfl (u_store 0 rfl rfl siz3 rfl rfl (by simp)) ?_ ?_
          ·
            rintro _ _ rfl
            refine ⟨.inr (.cons _ (.cons_cons _ (.cons_cons _ (.refl _)))), ?_⟩
            refine D_st (Base.Le.refl _) 10 rfl (by kernel_rfl) (by kernel_rfl) (by kernel_rfl) rfl (st_field rfl fld36_6) (.cons _ (.cons_cons _ (.cons_cons _ (.refl _)))) ?_
            refine D_all [11] (by kernel_rfl) rfl ?_
            refine R_do (Base.Le.refl _) rfl rfl (u_store 0 rfl rfl siz3 rfl rfl (by simp)) ?_ ?_
            ·
              rintro _ _ rfl
              refine ⟨.inl (by kernel_rfl), ?_⟩
              refine D_done (by kernel_rfl) ?_
              refine x_block_normal ?_
              obtain ⟨rfl, rfl, rfl, rfl⟩ := some4 hm
              refine x_pullb 1 rfl ?_
              exact x_join (e' := [(2, .pointer (some ⟨g43, 0, none⟩)), (3, .pointer (some ⟨g44, 0, none⟩))]) (hp' := (g43, Cl 36 [.int .i64 (0), .int .i64 (0), .int .i64 (0), .int .i64 (0), .int .i64 (0), .int .i64 (0), .int .i64 (0), .int .i64 (0)]) :: (g44, Cl 36 [.int .i64 (s1.Kind), .int .i64 (s1.Session), .int .i64 (s1.No), .int .i64 (0), .int .i64 (s1.End), .int .i64 (s1.At), .int .i64 (s1.Speed), .int .i64 (s1.Sent)]) :: R) ⟨rfl, rfl, trivial⟩ (.cons_cons _ (.cons_cons _ (.cons _ (.refl _)))) ⟨rfl, rfl, (Base.Le.refl _)⟩
            exact R_nil
          exact R_nil
        exact R_nil
      ·
        rw [if_neg (of_decide_eq_false hc64)] at hm
        obtain ⟨x68, hj69, hk69⟩ := bindS hm
        refine c_join (fun b66 e' hp' => [(1, .pointer (some ⟨g42, 0, none⟩)), (2, .pointer (some ⟨g43, 0, none⟩)), (3, .pointer (some ⟨g44, 0, none⟩)), (14, .int .i64 (s1.Kind)), (31, .bool (x68))] = e' ∧ (g42, Cl 36 [.int .i64 (s1.Kind), .int .i64 (s1.Session), .int .i64 (s1.No), .int .i64 (s1.Of), .int .i64 (s1.End), .int .i64 (s1.At), .int .i64 (s1.Speed), .int .i64 (s1.Sent)]) :: (g43, Cl 36 [.int .i64 (0), .int .i64 (0), .int .i64 (0), .int .i64 (0), .int .i64 (0), .int .i64 (0), .int .i64 (0), .int .i64 (0)]) :: (g44, Cl 36 [.int .i64 (s1.Kind), .int .i64 (s1.Session), .int .i64 (s1.No), .int .i64 (0), .int .i64 (0), .int .i64 (0), .int .i64 (0), .int .i64 (s1.Sent)]) :: R = hp' ∧ b.Le b66) ?_ ?_
        ·
          have hm := hj69
          refine c_seq ?_
          refine c_region ?_
          refine t_st rfl (st_eql rfl rfl) ?_
          refine t_st rfl (st_assign rfl) ?_
          refine t_nil ?_
          refine x_then_normal ?_
          refine c_cond _ rfl (fun hc70 => ?_) (fun hc70 => ?_)
          ·
            rw [if_pos (of_decide_eq_true hc70)] at hm
            refine c_skip ?_
            obtain rfl := some1 hm
            refine x_pullb 1 rfl ?_
            refine x_pullb 2 rfl ?_
            exact x_join (e' := [(1, .pointer (some ⟨g42, 0, none⟩)), (2, .pointer (some ⟨g43, 0, none⟩)), (3, .pointer (some ⟨g44, 0, none⟩)), (14, .int .i64 (s1.Kind)), (31, .bool (decide (s1.Kind = 4)))]) (hp' := (g42, Cl 36 [.int .i64 (s1.Kind), .int .i64 (s1.Session), .int .i64 (s1.No), .int .i64 (s1.Of), .int .i64 (s1.End), .int .i64 (s1.At), .int .i64 (s1.Speed), .int .i64 (s1.Sent)]) :: (g43, Cl 36 [.int .i64 (0), .int .i64 (0), .int .i64 (0), .int .i64 (0), .int .i64 (0), .int .i64 (0), .int .i64 (0), .int .i64 (0)]) :: (g44, Cl 36 [.int .i64 (s1.Kind), .int .i64 (s1.Session), .int .i64 (s1.No), .int .i64 (0), .int .i64 (0), .int .i64 (0), .int .i64 (0), .int .i64 (s1.Sent)]) :: R) ⟨rfl, rfl, rfl, rfl, rfl, trivial⟩ (.cons_cons _ (.cons_cons _ (.cons_cons _ (.refl _)))) ⟨rfl, rfl, (Base.Le.refl _)⟩
          ·
            rw [if_neg (of_decide_eq_false hc70)] at hm
            refine c_region ?_
            refine t_st rfl (st_eql rfl rfl) ?_
            refine t_st rfl (st_assign rfl) ?_
            refine t_nil ?_
            obtain rfl := some1 hm
            refine x_pullb 1 rfl ?_
            refine x_pullb 2 rfl ?_
            exact x_join (e' := [(1, .pointer (some ⟨g42, 0, none⟩)), (2, .pointer (some ⟨g43, 0, none⟩)), (3, .pointer (some ⟨g44, 0, none⟩)), (14, .int .i64 (s1.Kind)), (31, .bool (decide (s1.Kind = 5)))]) (hp' := (g42, Cl 36 [.int .i64 (s1.Kind), .int .i64 (s1.Session), .int .i64 (s1.No), .int .i64 (s1.Of), .int .i64 (s1.End), .int .i64 (s1.At), .int .i64 (s1.Speed), .int .i64 (s1.Sent)]) :: (g43, Cl 36 [.int .i64 (0), .int .i64 (0), .int .i64 (0), .int .i64 (0), .int .i64 (0), .int .i64 (0), .int .i64 (0), .int .i64 (0)]) :: (g44, Cl 36 [.int .i64 (s1.Kind), .int .i64 (s1.Session), .int .i64 (s1.No), .int .i64 (0), .int .i64 (0), .int .i64 (0), .int .i64 (0), .int .i64 (s1.Sent)]) :: R) ⟨rfl, rfl, rfl, rfl, rfl, trivial⟩ (.cons_cons _ (.cons_cons _ (.cons_cons _ (.refl _)))) ⟨rfl, rfl, (Base.Le.refl _)⟩
        ·
          rintro b66 _ _ ⟨rfl, rfl, hle67⟩
          have hm := hk69
          refine c_cond _ rfl (fun hc71 => ?_) (fun hc71 => ?_)
          ·
            rw [if_pos hc71] at hm
            refine c_region ?_
            refine t_st rfl (st_field rfl fld36_4) ?_
            refine t_st rfl (st_load 0 rfl one3 rfl rfl) ?_
            refine t_st rfl (st_field rfl fld36_4) ?_
            refine t_do rfl (u_store 2 rfl rfl siz3 rfl rfl (by simp)) ?_
            rintro _ _ rfl
            refine t_nil ?_
            refine x_block_normal ?_
            obtain ⟨rfl, rfl, rfl, rfl⟩ := some4 hm
            refine x_pullb 2 rfl ?_
            refine x_pullb 2 rfl ?_
            exact x_join (e' := [(2, .pointer (some ⟨g43, 0, none⟩)), (3, .pointer (some ⟨g44, 0, none⟩))]) (hp' := (g43, Cl 36 [.int .i64 (0), .int .i64 (0), .int .i64 (0), .int .i64 (0), .int .i64 (0), .int .i64 (0), .int .i64 (0), .int .i64 (0)]) :: (g44, Cl 36 [.int .i64 (s1.Kind), .int .i64 (s1.Session), .int .i64 (s1.No), .int .i64 (0), .int .i64 (s1.End), .int .i64 (0), .int .i64 (0), .int .i64 (s1.Sent)]) :: R) ⟨rfl, rfl, trivial⟩ (.cons_cons _ (.cons_cons _ (.cons _ (.refl _)))) ⟨rfl, rfl, hle67⟩
          ·
            rw [if_neg (fun hh => Bool.noConfusion (hh.symm.trans hc71))] at hm
            refine c_seq ?_
            refine c_region ?_
            refine t_st rfl (st_eql rfl rfl) ?_
            refine t_st rfl (st_assign rfl) ?_
            refine t_nil ?_
            refine x_then_normal ?_
            refine c_cond _ rfl (fun hc72 => ?_) (fun hc72 => ?_)
            ·
              rw [if_pos (of_decide_eq_true hc72)] at hm
              refine D_drawS ((g42, Cl 36 [.int .i64 (s1.Kind), .int .i64 (s1.Session), .int .i64 (s1.No), .int .i64 (s1.Of), .int .i64 (s1.End), .int .i64 (s1.At), .int .i64 (s1.Speed), .int .i64 (s1.Sent)]) :: (g43, Cl 36 [.int .i64 (0), .int .i64 (0), .int .i64 (0), .int .i64 (0), .int .i64 (0), .int .i64 (0), .int .i64 (0), .int .i64 (0)]) :: R) mixed ?_
              refine D_st (Base.Le.refl _) 0 rfl (by kernel_rfl) (by kernel_rfl) (by kernel_rfl) rfl (st_field rfl fld36_3) (.cons_cons _ (.cons_cons _ (.cons _ (.refl _)))) ?_
              refine D_st (Base.Le.refl _) 1 rfl (by kernel_rfl) (by kernel_rfl) (by kernel_rfl) rfl (st_load 0 rfl one3 rfl rfl) (.cons_cons _ (.cons_cons _ (.cons _ (.refl _)))) ?_
              refine D_st (Base.Le.refl _) 2 rfl (by kernel_rfl) (by kernel_rfl) (by kernel_rfl) rfl (st_field rfl fld36_4) (.cons_cons _ (.cons_cons _ (.cons _ (.refl _)))) ?_
              refine D_st (Base.Le.refl _) 3 rfl (by kernel_rfl) (by kernel_rfl) (by kernel_rfl) rfl (st_load 0 rfl one3 rfl rfl) (.cons_cons _ (.cons_cons _ (.cons _ (.refl _)))) ?_
              refine D_st (Base.Le.refl _) 4 rfl (by kernel_rfl) (by kernel_rfl) (by kernel_rfl) rfl (st_field rfl fld36_3) (.cons_cons _ (.cons_cons _ (.cons _ (.refl _)))) ?_
              refine D_all [5] (by kernel_rfl) rfl ?_
              refine R_do (Base.Le.refl _) rfl rfl (u_store 2 rfl rfl siz3 rfl rfl (by simp)) ?_ ?_
              ·
                rintro _ _ rfl
                refine ⟨.inr (.cons_cons _ (.cons_cons _ (.cons _ (.refl _)))), ?_⟩
                refine D_st (Base.Le.refl _) 6 rfl (by kernel_rfl) (by kernel_rfl) (by kernel_rfl) rfl (st_field rfl fld36_4) (.cons_cons _ (.cons_cons _ (.cons _ (.refl _)))) ?_
                refine D_all [7] (by kernel_rfl) rfl ?_
                refine R_do (Base.Le.refl _) rfl rfl (u_store 2 rfl rfl siz3 rfl rfl (by simp)) ?_ ?_
                ·
                  rintro _ _ rfl
                  refine ⟨.inl (by kernel_rfl), ?_⟩
                  refine D_done (by kernel_rfl) ?_
                  refine x_block_normal ?_
                  obtain ⟨rfl, rfl, rfl, rfl⟩ := some4 hm
                  refine x_pullb 2 rfl ?_
                  refine x_pullb 2 rfl ?_
                  exact x_join (e' := [(2, .pointer (some ⟨g43, 0, none⟩)), (3, .pointer (some ⟨g44, 0, none⟩))]) (hp' := (g43, Cl 36 [.int .i64 (0), .int .i64 (0), .int .i64 (0), .int .i64 (0), .int .i64 (0), .int .i64 (0), .int .i64 (0), .int .i64 (0)]) :: (g44, Cl 36 [.int .i64 (s1.Kind), .int .i64 (s1.Session), .int .i64 (s1.No), .int .i64 (s1.Of), .int .i64 (s1.End), .int .i64 (0), .int .i64 (0), .int .i64 (s1.Sent)]) :: R) ⟨rfl, rfl, trivial⟩ (.cons_cons _ (.cons_cons _ (.cons _ (.refl _)))) ⟨rfl, rfl, hle67⟩
                exact R_nil
              exact R_nil
            ·
              rw [if_neg (of_decide_eq_false hc72)] at hm
              refine c_seq ?_
              refine c_region ?_
              refine t_st rfl (st_eql rfl rfl) ?_
              refine t_st rfl (st_assign rfl) ?_
              refine t_nil ?_
              refine x_then_normal ?_
              refine c_cond _ rfl (fun hc73 => ?_) (fun hc73 => ?_)
              ·
                rw [if_pos (of_decide_eq_true hc73)] at hm
                refine c_region ?_
                refine t_st rfl (st_field rfl fld36_3) ?_
                refine t_st rfl (st_load 0 rfl one3 rfl rfl) ?_
                refine t_st rfl (st_field rfl fld36_3) ?_
                refine t_do rfl (u_store 2 rfl rfl siz3 rfl rfl (by simp)) ?_
                rintro _ _ rfl
                refine t_nil ?_
                refine x_block_normal ?_
                obtain ⟨rfl, rfl, rfl, rfl⟩ := some4 hm
                refine x_pullb 2 rfl ?_
                refine x_pullb 2 rfl ?_
                exact x_join (e' := [(2, .pointer (some ⟨g43, 0, none⟩)), (3, .pointer (some ⟨g44, 0, none⟩))]) (hp' := (g43, Cl 36 [.int .i64 (0), .int .i64 (0), .int .i64 (0), .int .i64 (0), .int .i64 (0), .int .i64 (0), .int .i64 (0), .int .i64 (0)]) :: (g44, Cl 36 [.int .i64 (s1.Kind), .int .i64 (s1.Session), .int .i64 (s1.No), .int .i64 (s1.Of), .int .i64 (0), .int .i64 (0), .int .i64 (0), .int .i64 (s1.Sent)]) :: R) ⟨rfl, rfl, trivial⟩ (.cons_cons _ (.cons_cons _ (.cons _ (.refl _)))) ⟨rfl, rfl, hle67⟩
              ·
                rw [if_neg (of_decide_eq_false hc73)] at hm
                refine c_skip ?_
                refine x_block_normal ?_
                obtain ⟨rfl, rfl, rfl, rfl⟩ := some4 hm
                refine x_pullb 2 rfl ?_
                refine x_pullb 2 rfl ?_
                exact x_join (e' := [(2, .pointer (some ⟨g43, 0, none⟩)), (3, .pointer (some ⟨g44, 0, none⟩))]) (hp' := (g43, Cl 36 [.int .i64 (0), .int .i64 (0), .int .i64 (0), .int .i64 (0), .int .i64 (0), .int .i64 (0), .int .i64 (0), .int .i64 (0)]) :: (g44, Cl 36 [.int .i64 (s1.Kind), .int .i64 (s1.Session), .int .i64 (s1.No), .int .i64 (0), .int .i64 (0), .int .i64 (0), .int .i64 (0), .int .i64 (s1.Sent)]) :: R) ⟨rfl, rfl, trivial⟩ (.cons_cons _ (.cons_cons _ (.cons _ (.refl _)))) ⟨rfl, rfl, hle67⟩
  ·
    rintro b56 _ _ ⟨rfl, rfl, hle57⟩
    have hm := (unc4E hk62)
    refine c_seq ?_
    refine c_region ?_
    refine t_st rfl (st_loadD (vs := [_, _, _, _, _, _, _, _]) 1 8 rfl agg36 rfl rfl rfl) ?_
    refine t_do rfl (u_storeN (vs := [_, _, _, _, _, _, _, _]) 0 8 rfl rfl rfl siz36 rfl (by intro u hu; simp only [List.mem_cons, List.not_mem_nil, or_false] at hu; rcases hu with rfl | rfl | rfl | rfl | rfl | rfl | rfl | rfl <;> rfl) rfl (by simp)) ?_
    rintro _ _ rfl
    refine t_nil ?_
    refine x_then_normal ?_
    refine c_ret ?_
    obtain ⟨rfl, rfl, rfl, rfl, rfl, rfl, rfl, rfl⟩ := some8 hm
    exact retM (rs := [.cell 2 36]) [.agg #[.int .i64 (s1.Kind), .int .i64 (s1.Session), .int .i64 (s1.No), .int .i64 (x58), .int .i64 (x59), .int .i64 (x60), .int .i64 (x61), .int .i64 (s1.Sent)]] hle57 (by decide) rfl ⟨⟨_, rfl, fun w ho => cell_agg (vs := [_, _, _, _, _, _, _, _]) 0 8 agg36 rfl rfl rfl w ho⟩, trivial⟩ rfl (hp' := R) (.cons _ (.cons _ (.refl _))) ⟨rfl, rfl⟩

end Go.Proofs.YtljcafilceachaaDoor
