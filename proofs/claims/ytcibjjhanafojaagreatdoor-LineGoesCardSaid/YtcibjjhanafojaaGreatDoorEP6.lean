/- Contracts: the code computes its model (part 6). -/
import Derived.Test.YtcibjjhanafojaaGreatDoorEP5
set_option linter.unusedVariables false
set_option linter.unusedSimpArgs false
namespace Go.Proofs.YtcibjjhanafojaaGreatDoor
open Go.RowKit Go.Fp

set_option maxRecDepth 20000 in
theorem cLineLegsAdd (b : Base) (R : Hp) (l10 : (List Int)) (x11 : Int) (l15 : (List ByteArray)) (l19 : (List ApiSection)) (l23 : (List ApiLink)) (l27 : (List ApiSignal)) (l31 : (List ApiGate)) (x32 : Int) (l36 : (List ApiRoute)) (l37 : (List (List ApiNeed))) (g6 : Nat) (A7 : Option Addr) (c8 : Nat) (A12 : Option Addr) (c13 : Nat) (A16 : Option Addr) (c17 : Nat) (A20 : Option Addr) (c21 : Nat) (A24 : Option Addr) (c25 : Nat) (A28 : Option Addr) (c29 : Nat) (A33 : Option Addr) (c34 : Nat) (A3 : Option Addr) (c4 : Nat) (hs2 : Hp) (h9 : FZ (RT.int .i64) b.w A7 c8 l10) (h14 : FZ RT.str b.w A12 c13 l15) (h18 : FZ rApiSection b.w A16 c17 l19) (h22 : FZ rApiLink b.w A20 c21 l23) (h26 : FZ rApiSignal b.w A24 c25 l27) (h30 : FZ rApiGate b.w A28 c29 l31) (h35 : FZ rApiRoute b.w A33 c34 l36) (h5 : OS 38 (OT.fr (RT.list rApiNeed)) b.w (.slice A3 l37.length c4) l37 hs2) (x938 : Int) (hm : mLineLegsAdd l10 x11 l15 l19 l23 l27 l31 x32 l36 l37 = some x938) :
    CallsG Tryz.prog 22 [.pointer (some ⟨g6, 0, none⟩), .slice A7 (l10).length c8, .int .i64 (x11)] b ((g6, Cl 94 [.slice A12 (l15).length c13, .slice A16 (l19).length c17, .slice A20 (l23).length c21, .slice A24 (l27).length c25, .slice A28 (l31).length c29, .int .i64 (x32), .slice A33 (l36).length c34, .slice A3 (l37).length c4]) :: (hs2 ++ R)) (fun v b' hp' => .int .i64 (x938) = v ∧ (g6, Cl 94 [.slice A12 (l15).length c13, .slice A16 (l19).length c17, .slice A20 (l23).length c21, .slice A24 (l27).length c25, .slice A28 (l31).length c29, .int .i64 (x32), .slice A33 (l36).length c34, .slice A3 (l37).length c4]) :: (hs2 ++ R) = hp') := by
  refine fn_enterG 138 Tryz.func22 rfl Tryz.ntmps22 rfl ?_
  unfold mLineLegsAdd at hm
  refine c_sr ?_
  refine t_do rfl (u_box _ rfl rfl) ?_
  rintro _ _ ⟨g939, rfl, rfl⟩
  refine t_as rfl rfl ?_
  refine t_ne ?_
  refine c_seq ?_
  refine c_sr ?_
  refine t_mv rfl rfl ?_
  refine t_st rfl (st_load 0 rfl one66 rfl rfl) ?_
  refine t_st rfl (st_nil rfl) ?_
  refine t_st rfl (st_field rfl fld94_2) ?_
  refine t_st rfl (st_load 1 rfl one47 rfl rfl) ?_
  refine t_st rfl (st_len rfl sl47) ?_
  obtain ⟨_, h940, hm⟩ := bindS hm
  have h940 := (chk_some h940).2
  refine t_st rfl (st_sub rfl rfl h940) ?_
  obtain ⟨x941, hcl942, hm⟩ := bindS hm
  refine t_do rfl (u_callW0 _ call19 rfl (fun w ho => cLineWithin _ [] x11 0 ((l36.length : Int) - 1) x941 hcl942) (fun _ _ _ h => h.2.symm)) ?_
  rintro _ _ ⟨⟨_, rfl, _⟩, rfl⟩
  refine t_st rfl (st_not rfl) ?_
  refine t_ne ?_
  refine c_cond _ rfl (fun hc943 => ?_) (fun hc943 => ?_)
  ·
   rw [if_neg (fun hh => Bool.noConfusion (hh.symm.trans (notT hc943)))] at hm
   refine c_sr ?_
   refine t_as rfl rfl ?_
   refine t_ne ?_
   refine c_ret ?_
   refine x_then_ret ?_
   obtain rfl := some1 hm
   refine x_pullb 1 rfl ?_
   exact retM (rs := [.tmp 6]) [.int .i64 (3)] (Base.Le.refl _) (by decide) rfl ⟨rfl, trivial⟩ rfl (.cons_cons _ (.cons _ (.refl _))) ⟨rfl, rfl⟩
  ·
   rw [if_pos (notF hc943)] at hm
   refine c_skip ?_
   refine x_then_normal ?_
   refine c_sr ?_
   refine t_st rfl (st_load 0 rfl one66 rfl rfl) ?_
   refine t_st rfl (st_nil rfl) ?_
   refine t_st rfl (st_field rfl fld94_2) ?_
   refine t_st rfl (st_load 1 rfl one47 rfl rfl) ?_
   refine t_mv rfl rfl ?_
   obtain ⟨x944, h945, hm⟩ := bindS hm
   obtain ⟨j946, hj947, hx948⟩ := idx_some h945
   obtain ⟨cs949, hr950, hcs951, hA952, hlt953⟩ := FZ.get (sz := 3) rfl (by decide) h35 hx948
   obtain ⟨_, _, rfl, rfl, ⟨_, _, rfl, rfl, ⟨A954, c955, rfl, h956⟩⟩⟩ := hr950
   refine t_st rfl (st_index_old j946 rfl rfl hj947 hlt953 hA952 sl47) ?_
   refine t_st rfl (st_loadN_old (vs := [.int .i64 (x944.From), .int .i64 (x944.To), .slice A954 (x944.Steps).length c955]) 3 rfl agg54 hA952 rfl (fun j u hu => hcs951 j u hu)) ?_
   refine t_do rfl (u_alloc [.int .i64 0, .int .i64 0, .slice none 0 0] zero54 rfl) ?_
   rintro _ _ ⟨g957, rfl, rfl⟩
   refine t_do rfl (u_storeN (vs := [_, _, _]) 0 3 rfl rfl rfl siz54 rfl (mem_c rfl (mem_c rfl (mem_c rfl mem_n))) rfl (by simp)) ?_
   rintro _ _ rfl
   refine t_ne ?_
   refine c_seq ?_
   refine c_block ?_
   obtain ⟨x1059, hj1060, hk1060⟩ := bindS hm
   refine c_join (fun b1057 e' hp' => [(1, .slice A7 (l10).length c8), (2, .int .i64 (x11)), (3, .pointer (some ⟨g939, 0, none⟩)), (7, .pointer (some ⟨g957, 0, none⟩)), (30, .bool (x1059))] = e' ∧ (g939, Cl 66 [.pointer (some ⟨g6, 0, none⟩)]) :: (g957, Cl 54 [.int .i64 (x944.From), .int .i64 (x944.To), .slice A954 (x944.Steps).length c955]) :: (g6, Cl 94 [.slice A12 (l15).length c13, .slice A16 (l19).length c17, .slice A20 (l23).length c21, .slice A24 (l27).length c25, .slice A28 (l31).length c29, .int .i64 (x32), .slice A33 (l36).length c34, .slice A3 (l37).length c4]) :: (hs2 ++ R) = hp' ∧ b.Le b1057) ?_ ?_
   ·
    have hm := hj1060
    obtain ⟨x1085, hj1086, hk1086⟩ := bindS hm
    refine c_join (fun b1083 e' hp' => [(1, .slice A7 (l10).length c8), (2, .int .i64 (x11)), (3, .pointer (some ⟨g939, 0, none⟩)), (7, .pointer (some ⟨g957, 0, none⟩)), (30, .bool (x1085))] = e' ∧ (g939, Cl 66 [.pointer (some ⟨g6, 0, none⟩)]) :: (g957, Cl 54 [.int .i64 (x944.From), .int .i64 (x944.To), .slice A954 (x944.Steps).length c955]) :: (g6, Cl 94 [.slice A12 (l15).length c13, .slice A16 (l19).length c17, .slice A20 (l23).length c21, .slice A24 (l27).length c25, .slice A28 (l31).length c29, .int .i64 (x32), .slice A33 (l36).length c34, .slice A3 (l37).length c4]) :: (hs2 ++ R) = hp' ∧ b.Le b1083) ?_ ?_
    ·
     have hm := hj1086
     by_cases hc1098 : (l10.length : Int) = 0
     ·
      rw [if_pos hc1098] at hm
      obtain ⟨x1099, h1100, hm⟩ := bindS hm
      refine D_drawI mixed (.refl _) ?_
      refine E_st 0 rfl (st_move rfl) ?_
      refine E_st 1 rfl (st_len rfl sl37) ?_
      refine E_st 2 rfl (st_eql_t rfl rfl hc1098) ?_
      refine E_st 3 rfl (st_move rfl) ?_
      refine E_yes 4 34 rfl (st_load 1 rfl one66 rfl rfl) ?_
      refine E_yes 5 34 rfl (st_nil rfl) ?_
      refine E_yes 6 34 rfl (st_field rfl fld94_0) ?_
      refine E_yes 7 34 rfl (st_field rfl fld28_3) ?_
      refine E_yes 8 34 rfl (st_load 2 rfl one25 rfl rfl) ?_
      refine E_yes 9 34 rfl (st_field rfl fld54_0) ?_
      refine E_yes 10 34 rfl (st_load 0 rfl one3 rfl rfl) ?_
      obtain ⟨j1101, hj1102, hx1103⟩ := idx_some h1100
      obtain ⟨cs1104, hr1105, hcs1106, hA1107, hlt1108⟩ := FZ.get (sz := 2) rfl (by decide) h26 hx1103
      obtain ⟨_, _, rfl, rfl, rfl⟩ := hr1105
      refine E_yes 11 34 rfl (st_index_old j1101 rfl rfl hj1102 hlt1108 hA1107 sl25) ?_
      refine E_yes 12 34 rfl (st_field_old rfl hA1107 fld96_0) ?_
      refine E_yes 13 34 rfl (st_load_old rfl one3 (hcs1106 0 _ rfl)) ?_
      refine E_yes 14 34 rfl (st_load 1 rfl one66 rfl rfl) ?_
      refine E_yes 15 34 rfl (st_nil rfl) ?_
      refine E_yes 16 34 rfl (st_field rfl fld94_1) ?_
      refine E_yes 17 34 rfl (st_load 2 rfl one3 rfl rfl) ?_
      refine E_yes 18 34 rfl (st_neq rfl rfl) ?_
      refine E_st 19 rfl (st_pick_t rfl rfl) ?_
      refine E_st 20 rfl (st_assign rfl) ?_
      refine E_out ?_
      refine D_done (by kernel_rfl) ?_
      obtain rfl := some1 hm
      refine x_pullb 2 rfl ?_
      refine x_pullb 1 rfl ?_
      refine x_pullb 2 rfl ?_
      exact x_join (e' := [(1, .slice A7 (l10).length c8), (2, .int .i64 (x11)), (3, .pointer (some ⟨g939, 0, none⟩)), (7, .pointer (some ⟨g957, 0, none⟩)), (30, .bool (decide (x1099.Section ≠ x32)))]) ⟨rfl, rfl, rfl, rfl, rfl, trivial⟩ (.refl _) ⟨rfl, rfl, (Base.Le.refl _)⟩
     ·
      rw [if_neg hc1098] at hm
      refine D_drawI mixed (.refl _) ?_
      refine E_st 0 rfl (st_move rfl) ?_
      refine E_st 1 rfl (st_len rfl sl37) ?_
      refine E_st 2 rfl (st_eql_f rfl rfl hc1098) ?_
      refine E_st 3 rfl (st_move rfl) ?_
      refine E_no 4 34 rfl rfl rfl ?_
      refine E_no 5 34 rfl rfl rfl ?_
      refine E_no 6 34 rfl rfl rfl ?_
      refine E_no 7 34 rfl rfl rfl ?_
      refine E_no 8 34 rfl rfl rfl ?_
      refine E_no 9 34 rfl rfl rfl ?_
      refine E_no 10 34 rfl rfl rfl ?_
      refine E_no 11 34 rfl rfl rfl ?_
      refine E_no 12 34 rfl rfl rfl ?_
      refine E_no 13 34 rfl rfl rfl ?_
      refine E_no 14 34 rfl rfl rfl ?_
      refine E_no 15 34 rfl rfl rfl ?_
      refine E_no 16 34 rfl rfl rfl ?_
      refine E_no 17 34 rfl rfl rfl ?_
      refine E_no 18 34 rfl rfl rfl ?_
      refine E_st 19 rfl (st_pick_f rfl rfl) ?_
      refine E_st 20 rfl (st_assign rfl) ?_
      refine E_out ?_
      refine D_done (by kernel_rfl) ?_
      obtain rfl := some1 hm
      refine x_pullb 2 rfl ?_
      refine x_pullb 1 rfl ?_
      refine x_pullb 2 rfl ?_
      exact x_join (e' := [(1, .slice A7 (l10).length c8), (2, .int .i64 (x11)), (3, .pointer (some ⟨g939, 0, none⟩)), (7, .pointer (some ⟨g957, 0, none⟩)), (30, .bool (false))]) ⟨rfl, rfl, rfl, rfl, rfl, trivial⟩ (.refl _) ⟨rfl, rfl, (Base.Le.refl _)⟩
    ·
     rintro b1083 _ _ ⟨rfl, rfl, hle1084⟩
     have hm := hk1086
     refine c_cond _ rfl (fun hc1109 => ?_) (fun hc1109 => ?_)
     ·
      rw [if_pos hc1109] at hm
      refine c_skip ?_
      obtain rfl := some1 hm
      refine x_pullb 2 rfl ?_
      refine x_pullb 2 rfl ?_
      refine x_pullb 2 rfl ?_
      exact x_join (e' := [(1, .slice A7 (l10).length c8), (2, .int .i64 (x11)), (3, .pointer (some ⟨g939, 0, none⟩)), (7, .pointer (some ⟨g957, 0, none⟩)), (30, .bool (x1085))]) ⟨rfl, rfl, rfl, rfl, rfl, trivial⟩ (.refl _) ⟨rfl, rfl, hle1084⟩
     ·
      rw [if_neg (fun hh => Bool.noConfusion (hh.symm.trans hc1109))] at hm
      by_cases hc1135 : 0 < (l10.length : Int)
      ·
       rw [if_pos hc1135] at hm
       obtain ⟨_, h1136, hm⟩ := bindS hm
       obtain ⟨x1137, h1138, hm⟩ := bindS hm
       obtain ⟨x1147, h1148, hm⟩ := bindS hm
       refine D_drawI mixed (.refl _) ?_
       refine E_st 0 rfl (st_move rfl) ?_
       refine E_st 1 rfl (st_len rfl sl37) ?_
       refine E_st 2 rfl (st_gtr_t rfl rfl hc1135) ?_
       refine E_st 3 rfl (st_move rfl) ?_
       refine E_yes 4 54 rfl (st_field rfl fld54_0) ?_
       refine E_yes 5 54 rfl (st_load 1 rfl one3 rfl rfl) ?_
       refine E_yes 6 54 rfl (st_load 0 rfl one66 rfl rfl) ?_
       refine E_yes 7 54 rfl (st_nil rfl) ?_
       refine E_yes 8 54 rfl (st_field rfl fld94_2) ?_
       refine E_yes 9 54 rfl (st_load 2 rfl one47 rfl rfl) ?_
       refine E_yes 10 54 rfl (st_move rfl) ?_
       refine E_yes 11 54 rfl (st_move rfl) ?_
       refine E_yes 12 54 rfl (st_len rfl sl37) ?_
       have h1136 := (chk_some h1136).2
       refine E_yes 13 54 rfl (st_sub rfl rfl h1136) ?_
       obtain ⟨j1139, hj1140, hx1141⟩ := idx_some h1138
       obtain ⟨cs1142, hr1143, hcs1144, hA1145, hlt1146⟩ := FZ.get (sz := 1) rfl (by decide) (h9.le hle1084) hx1141
       obtain rfl := hr1143
       refine E_yes 14 54 rfl (st_index_old j1139 rfl rfl hj1140 hlt1146 hA1145 sl37) ?_
       refine E_yes 15 54 rfl (st_load_old rfl one3 (hcs1144 0 _ rfl)) ?_
       obtain ⟨j1149, hj1150, hx1151⟩ := idx_some h1148
       obtain ⟨cs1152, hr1153, hcs1154, hA1155, hlt1156⟩ := FZ.get (sz := 3) rfl (by decide) (h35.le hle1084) hx1151
       obtain ⟨_, _, rfl, rfl, ⟨_, _, rfl, rfl, ⟨A1157, c1158, rfl, h1159⟩⟩⟩ := hr1153
       refine E_yes 16 54 rfl (st_index_old j1149 rfl rfl hj1150 hlt1156 hA1155 sl47) ?_
       refine E_yes 17 54 rfl (st_field_old rfl hA1155 fld54_1) ?_
       refine E_yes 18 54 rfl (st_load_old rfl one3 (hcs1154 1 _ rfl)) ?_
       refine E_yes 19 54 rfl (st_neq rfl rfl) ?_
       refine E_st 20 rfl (st_pick_t rfl rfl) ?_
       refine E_st 21 rfl (st_assign rfl) ?_
       refine E_out ?_
       refine D_done (by kernel_rfl) ?_
       obtain rfl := some1 hm
       refine x_pullb 2 rfl ?_
       refine x_pullb 2 rfl ?_
       refine x_pullb 2 rfl ?_
       exact x_join (e' := [(1, .slice A7 (l10).length c8), (2, .int .i64 (x11)), (3, .pointer (some ⟨g939, 0, none⟩)), (7, .pointer (some ⟨g957, 0, none⟩)), (30, .bool (decide (x944.From ≠ x1147.To)))]) ⟨rfl, rfl, rfl, rfl, rfl, trivial⟩ (.refl _) ⟨rfl, rfl, hle1084⟩
      ·
       rw [if_neg hc1135] at hm
       refine D_drawI mixed (.refl _) ?_
       refine E_st 0 rfl (st_move rfl) ?_
       refine E_st 1 rfl (st_len rfl sl37) ?_
       refine E_st 2 rfl (st_gtr_f rfl rfl hc1135) ?_
       refine E_st 3 rfl (st_move rfl) ?_
       refine E_no 4 54 rfl rfl rfl ?_
       refine E_no 5 54 rfl rfl rfl ?_
       refine E_no 6 54 rfl rfl rfl ?_
       refine E_no 7 54 rfl rfl rfl ?_
       refine E_no 8 54 rfl rfl rfl ?_
       refine E_no 9 54 rfl rfl rfl ?_
       refine E_no 10 54 rfl rfl rfl ?_
       refine E_no 11 54 rfl rfl rfl ?_
       refine E_no 12 54 rfl rfl rfl ?_
       refine E_no 13 54 rfl rfl rfl ?_
       refine E_no 14 54 rfl rfl rfl ?_
       refine E_no 15 54 rfl rfl rfl ?_
       refine E_no 16 54 rfl rfl rfl ?_
       refine E_no 17 54 rfl rfl rfl ?_
       refine E_no 18 54 rfl rfl rfl ?_
       refine E_no 19 54 rfl rfl rfl ?_
       refine E_st 20 rfl (st_pick_f rfl rfl) ?_
       refine E_st 21 rfl (st_assign rfl) ?_
       refine E_out ?_
       refine D_done (by kernel_rfl) ?_
       obtain rfl := some1 hm
       refine x_pullb 2 rfl ?_
       refine x_pullb 2 rfl ?_
       refine x_pullb 2 rfl ?_
       exact x_join (e' := [(1, .slice A7 (l10).length c8), (2, .int .i64 (x11)), (3, .pointer (some ⟨g939, 0, none⟩)), (7, .pointer (some ⟨g957, 0, none⟩)), (30, .bool (false))]) ⟨rfl, rfl, rfl, rfl, rfl, trivial⟩ (.refl _) ⟨rfl, rfl, hle1084⟩
   ·
    rintro b1057 _ _ ⟨rfl, rfl, hle1058⟩
    have hm := hk1060
    refine c_cond _ rfl (fun hc1160 => ?_) (fun hc1160 => ?_)
    ·
     rw [if_pos hc1160] at hm
     refine c_sr ?_
     refine t_as rfl rfl ?_
     refine t_ne ?_
     refine c_ret ?_
     refine x_block_ret ?_
     refine x_then_ret ?_
     obtain rfl := some1 hm
     refine x_pullb 2 rfl ?_
     exact retM (rs := [.tmp 6]) [.int .i64 (5)] hle1058 (by decide) rfl ⟨rfl, trivial⟩ rfl (.cons_cons _ (.cons _ (.cons _ (.refl _)))) ⟨rfl, rfl⟩
    ·
     rw [if_neg (fun hh => Bool.noConfusion (hh.symm.trans hc1160))] at hm
     refine c_skip ?_
     refine x_block_normal ?_
     refine x_then_normal ?_
     refine c_seq ?_
     refine c_sr ?_
     refine t_st rfl (st_field rfl fld54_2) ?_
     refine t_st rfl (st_load 1 rfl one52 rfl rfl) ?_
     refine t_st rfl (st_len rfl sl52) ?_
     refine t_mv rfl rfl ?_
     refine t_ne ?_
     refine c_block ?_
     have hb1162 : x944.Steps.length ≤ 9223372036854775807 := (FZ.bd (h956.le hle1058))
     refine c_pullb 2 rfl ?_
     refine c_pullb 2 rfl ?_
     refine c_pullb 2 rfl ?_
     obtain ⟨t1202, hl1203, hk1204⟩ := bindS hm
     refine c_forM (fun k1201 => fun _ => fun b1199 e' hp' => [(1, .slice A7 (l10).length c8), (2, .int .i64 (x11)), (3, .pointer (some ⟨g939, 0, none⟩)), (7, .pointer (some ⟨g957, 0, none⟩)), (73, .slice A954 (x944.Steps).length c955), (74, .int .i64 ((x944.Steps.length : Int))), (75, .int .i64 ((k1201 : Int)))] = e' ∧ (g939, Cl 66 [.pointer (some ⟨g6, 0, none⟩)]) :: (g957, Cl 54 [.int .i64 (x944.From), .int .i64 (x944.To), .slice A954 (x944.Steps).length c955]) :: (g6, Cl 94 [.slice A12 (l15).length c13, .slice A16 (l19).length c17, .slice A20 (l23).length c21, .slice A24 (l27).length c25, .slice A28 (l31).length c29, .int .i64 (x32), .slice A33 (l36).length c34, .slice A3 (l37).length c4]) :: (hs2 ++ R) = hp' ∧ b1057.Le b1199) hl1203 (e' := [(1, .slice A7 (l10).length c8), (2, .int .i64 (x11)), (3, .pointer (some ⟨g939, 0, none⟩)), (7, .pointer (some ⟨g957, 0, none⟩)), (73, .slice A954 (x944.Steps).length c955), (74, .int .i64 ((x944.Steps.length : Int))), (75, .int .i64 0)]) ⟨rfl, rfl, rfl, rfl, rfl, rfl, rfl, trivial⟩ (.refl _) ⟨rfl, rfl, (Base.Le.refl _)⟩ ?_ ?_
     ·
      rintro k1201 _ b1199 _ _ oL1161 hknL1161 ⟨rfl, rfl, hle1200⟩ hstepL1161 houtL1161
      unfold mLineLegsAdd_L1161 at hstepL1161
      have hm := hstepL1161
      refine c_sr ?_
      refine t_st rfl (st_lss_t rfl rfl (by omega)) ?_
      refine t_ne ?_
      refine c_seq ?_
      refine c_cond_t rfl ?_
      refine c_skip ?_
      refine x_then_normal ?_
      refine c_seq ?_
      refine c_block ?_
      refine c_sr ?_
      obtain ⟨x1205, h1206, hm⟩ := bindS hm
      obtain ⟨j1207, hj1208, hx1209⟩ := idx_some h1206
      obtain ⟨cs1210, hr1211, hcs1212, hA1213, hlt1214⟩ := FZ.get (sz := 3) rfl (by decide) (h956.le (hle1058.trans hle1200)) hx1209
      obtain ⟨_, _, rfl, rfl, ⟨_, _, rfl, rfl, rfl⟩⟩ := hr1211
      refine t_st rfl (st_index_old j1207 rfl rfl hj1208 hlt1214 hA1213 sl52) ?_
      refine t_st rfl (st_loadN_old (vs := [.int .i64 (x1205.Section), .int .i64 (x1205.In), .int .i64 (x1205.Out)]) 3 rfl agg56 hA1213 rfl (fun j u hu => hcs1212 j u hu)) ?_
      refine t_do rfl (u_alloc [.int .i64 0, .int .i64 0, .int .i64 0] zero56 rfl) ?_
      rintro _ _ ⟨g1215, rfl, rfl⟩
      refine t_do rfl (u_storeN (vs := [_, _, _]) 0 3 rfl rfl rfl siz56 rfl (mem_c rfl (mem_c rfl (mem_c rfl mem_n))) rfl (by simp)) ?_
      rintro _ _ rfl
      refine t_ne ?_
      obtain ⟨x1228, hj1229, hk1229⟩ := bindS hm
      refine c_join (fun b1226 e' hp' => [(1, .slice A7 (l10).length c8), (2, .int .i64 (x11)), (3, .pointer (some ⟨g939, 0, none⟩)), (7, .pointer (some ⟨g957, 0, none⟩)), (73, .slice A954 (x944.Steps).length c955), (74, .int .i64 ((x944.Steps.length : Int))), (75, .int .i64 ((k1201 : Int))), (90, .bool (x1228))] = e' ∧ (g939, Cl 66 [.pointer (some ⟨g6, 0, none⟩)]) :: (g957, Cl 54 [.int .i64 (x944.From), .int .i64 (x944.To), .slice A954 (x944.Steps).length c955]) :: (g6, Cl 94 [.slice A12 (l15).length c13, .slice A16 (l19).length c17, .slice A20 (l23).length c21, .slice A24 (l27).length c25, .slice A28 (l31).length c29, .int .i64 (x32), .slice A33 (l36).length c34, .slice A3 (l37).length c4]) :: (hs2 ++ R) = hp' ∧ b1199.Le b1226) ?_ ?_
      ·
       have hm := hj1229
       by_cases hc1235 : x1205.Section = x32
       ·
        rw [if_pos hc1235] at hm
        refine D_drawI mixed (.refl _) ?_
        refine E_st 0 rfl (st_field rfl fld56_0) ?_
        refine E_st 1 rfl (st_load 0 rfl one3 rfl rfl) ?_
        refine E_st 2 rfl (st_load 1 rfl one66 rfl rfl) ?_
        refine E_st 3 rfl (st_nil rfl) ?_
        refine E_st 4 rfl (st_field rfl fld94_1) ?_
        refine E_st 5 rfl (st_load 3 rfl one3 rfl rfl) ?_
        refine E_st 6 rfl (st_eql_t rfl rfl hc1235) ?_
        refine E_st 7 rfl (st_move rfl) ?_
        refine E_no 8 86 rfl rfl rfl ?_
        refine E_no 9 86 rfl rfl rfl ?_
        refine E_no 10 86 rfl rfl rfl ?_
        refine E_st 11 rfl (st_pick_t rfl rfl) ?_
        refine E_out ?_
        refine D_done (by kernel_rfl) ?_
        obtain rfl := some1 hm
        refine x_pullb 3 rfl ?_
        refine x_pullb 3 rfl ?_
        refine x_pullb 3 rfl ?_
        exact x_join (e' := [(1, .slice A7 (l10).length c8), (2, .int .i64 (x11)), (3, .pointer (some ⟨g939, 0, none⟩)), (7, .pointer (some ⟨g957, 0, none⟩)), (73, .slice A954 (x944.Steps).length c955), (74, .int .i64 ((x944.Steps.length : Int))), (75, .int .i64 ((k1201 : Int))), (90, .bool (true))]) ⟨rfl, rfl, rfl, rfl, rfl, rfl, rfl, rfl, trivial⟩ (.cons_cons _ (.cons_cons _ (.cons_cons _ (.cons _ (.refl _))))) ⟨rfl, rfl, (Base.Le.refl _)⟩
       ·
        rw [if_neg hc1235] at hm
        obtain ⟨x1236, hcl1237, hm⟩ := bindS hm
        refine D_drawI mixed (.cons _ (.cons _ (.cons_cons _ (.cons _ (sub_skip hs2 (.refl _)))))) ?_
        refine E_st 0 rfl (st_field rfl fld56_0) ?_
        refine E_out ?_
        refine D_all [1, 2] (by kernel_rfl) rfl ?_
        refine R_do (Base.Le.refl _) rfl rfl (Stable.does (st_load 0 rfl one3 rfl rfl)) ?_ ?_
        ·
         rintro _ _ ⟨rfl, rfl⟩
         refine ⟨.inr (.cons _ (.cons _ (.cons_cons _ (.cons _ (sub_skip hs2 (.refl _)))))), ?_⟩
         refine D_all [2] (by kernel_rfl) rfl ?_
         refine R_do (Base.Le.refl _) rfl rfl (Stable.does (st_load 1 rfl one66 rfl rfl)) ?_ ?_
         ·
          rintro _ _ ⟨rfl, rfl⟩
          refine ⟨.inr (.cons _ (.cons _ (.cons_cons _ (.cons _ (sub_skip hs2 (.refl _)))))), ?_⟩
          refine E_in (.cons _ (.cons _ (.cons_cons _ (.cons _ (sub_skip hs2 (.refl _)))))) ?_
          refine E_st 3 rfl (st_nil rfl) ?_
          refine E_st 4 rfl (st_field rfl fld94_1) ?_
          refine E_out ?_
          refine D_all [5] (by kernel_rfl) rfl ?_
          refine R_do (Base.Le.refl _) rfl rfl (Stable.does (st_load 3 rfl one3 rfl rfl)) ?_ ?_
          ·
           rintro _ _ ⟨rfl, rfl⟩
           refine ⟨.inr (.cons _ (.cons _ (.cons_cons _ (.cons _ (sub_skip hs2 (.refl _)))))), ?_⟩
           refine E_in (.cons _ (.cons _ (.cons_cons _ (.cons _ (sub_skip hs2 (.refl _)))))) ?_
           refine E_st 6 rfl (st_eql_f rfl rfl hc1235) ?_
           refine E_st 7 rfl (st_move rfl) ?_
           refine E_yes 8 86 rfl (st_move rfl) ?_
           refine E_yes 9 86 rfl (st_func _ _ rfl rfl) ?_
           refine E_out ?_
           refine d_pullb 3 rfl ?_
           refine d_pullb 1 rfl ?_
           refine d_pullb 2 rfl ?_
           refine d_out1 [_, _, _] [_] hs2 R rfl ?_
           refine D_all [10] (by kernel_rfl) rfl ?_
           refine R_callGlY (Base.Le.refl _) rfl rfl 86 rfl rfl rfl _ call38 rfl (cSlicesContainsFunc_3 _ _ l10 x1205.Section x1205.In x1205.Out l15 l19 l23 l27 l31 x32 l36 l37 g939 g1215 g6 A7 c8 A12 c13 A16 c17 A20 c21 A24 c25 A28 c29 A33 c34 A3 c4 hs2 (h9.le (hle1058.trans hle1200)) (h14.le (hle1058.trans hle1200)) (h18.le (hle1058.trans hle1200)) (h22.le (hle1058.trans hle1200)) (h26.le (hle1058.trans hle1200)) (h30.le (hle1058.trans hle1200)) (h35.le (hle1058.trans hle1200)) (h5.le (hle1058.trans hle1200)) x1236 hcl1237) ?_ ?_
           ·
            rintro _ b1238 _ hle1239 ⟨rfl, rfl⟩
            refine ⟨.inr (.cons _ (.cons _ (.cons _ (sub_skip hs2 (.refl _))))), ?_⟩
            refine d_in1 [_, _, _] [_] hs2 R rfl ?_
            refine D_st hle1239 11 rfl (by kernel_rfl) (by kernel_rfl) (by kernel_rfl) rfl (st_pick_f rfl rfl) (.cons _ (.cons _ (.cons _ (.cons_cons _ (sub_skip hs2 (.refl _)))))) ?_
            refine D_done (by kernel_rfl) ?_
            obtain rfl := some1 hm
            refine x_pullb 2 rfl ?_
            refine x_pullb 3 rfl ?_
            refine x_pullb 2 rfl ?_
            exact x_join (e' := [(1, .slice A7 (l10).length c8), (2, .int .i64 (x11)), (3, .pointer (some ⟨g939, 0, none⟩)), (7, .pointer (some ⟨g957, 0, none⟩)), (73, .slice A954 (x944.Steps).length c955), (74, .int .i64 ((x944.Steps.length : Int))), (75, .int .i64 ((k1201 : Int))), (90, .bool (x1236))]) ⟨rfl, rfl, rfl, rfl, rfl, rfl, rfl, rfl, trivial⟩ (.cons_cons _ (.cons_cons _ (.cons_cons _ (.cons _ (.refl _))))) ⟨rfl, rfl, hle1239⟩
           exact R_nil
          exact R_nil
         exact R_nil
        refine R_do (Base.Le.refl _) rfl rfl (Stable.does (st_load 1 rfl one66 rfl rfl)) ?_ ?_
        ·
         rintro _ _ ⟨rfl, rfl⟩
         refine ⟨.inr (.cons _ (.cons _ (.cons_cons _ (.cons _ (sub_skip hs2 (.refl _)))))), ?_⟩
         refine E_in (.cons _ (.cons _ (.cons_cons _ (.cons _ (sub_skip hs2 (.refl _)))))) ?_
         refine E_st 3 rfl (st_nil rfl) ?_
         refine E_st 4 rfl (st_field rfl fld94_1) ?_
         refine E_out ?_
         refine D_all [1, 5] (by kernel_rfl) rfl ?_
         refine R_do (Base.Le.refl _) rfl rfl (Stable.does (st_load 0 rfl one3 rfl rfl)) ?_ ?_
         ·
          rintro _ _ ⟨rfl, rfl⟩
          refine ⟨.inr (.cons _ (.cons _ (.cons_cons _ (.cons _ (sub_skip hs2 (.refl _)))))), ?_⟩
          refine D_all [5] (by kernel_rfl) rfl ?_
          refine R_do (Base.Le.refl _) rfl rfl (Stable.does (st_load 3 rfl one3 rfl rfl)) ?_ ?_
          ·
           rintro _ _ ⟨rfl, rfl⟩
           refine ⟨.inr (.cons _ (.cons _ (.cons_cons _ (.cons _ (sub_skip hs2 (.refl _)))))), ?_⟩
           refine E_in (.cons _ (.cons _ (.cons_cons _ (.cons _ (sub_skip hs2 (.refl _)))))) ?_
           refine E_st 6 rfl (st_eql_f rfl rfl hc1235) ?_
           refine E_st 7 rfl (st_move rfl) ?_
           refine E_yes 8 86 rfl (st_move rfl) ?_
           refine E_yes 9 86 rfl (st_func _ _ rfl rfl) ?_
           refine E_out ?_
           refine d_pullb 3 rfl ?_
           refine d_pullb 1 rfl ?_
           refine d_pullb 2 rfl ?_
           refine d_out1 [_, _, _] [_] hs2 R rfl ?_
           refine D_all [10] (by kernel_rfl) rfl ?_
           refine R_callGlY (Base.Le.refl _) rfl rfl 86 rfl rfl rfl _ call38 rfl (cSlicesContainsFunc_3 _ _ l10 x1205.Section x1205.In x1205.Out l15 l19 l23 l27 l31 x32 l36 l37 g939 g1215 g6 A7 c8 A12 c13 A16 c17 A20 c21 A24 c25 A28 c29 A33 c34 A3 c4 hs2 (h9.le (hle1058.trans hle1200)) (h14.le (hle1058.trans hle1200)) (h18.le (hle1058.trans hle1200)) (h22.le (hle1058.trans hle1200)) (h26.le (hle1058.trans hle1200)) (h30.le (hle1058.trans hle1200)) (h35.le (hle1058.trans hle1200)) (h5.le (hle1058.trans hle1200)) x1236 hcl1237) ?_ ?_
           ·
            rintro _ b1238 _ hle1239 ⟨rfl, rfl⟩
            refine ⟨.inr (.cons _ (.cons _ (.cons _ (sub_skip hs2 (.refl _))))), ?_⟩
            refine d_in1 [_, _, _] [_] hs2 R rfl ?_
            refine D_st hle1239 11 rfl (by kernel_rfl) (by kernel_rfl) (by kernel_rfl) rfl (st_pick_f rfl rfl) (.cons _ (.cons _ (.cons _ (.cons_cons _ (sub_skip hs2 (.refl _)))))) ?_
            refine D_done (by kernel_rfl) ?_
            obtain rfl := some1 hm
            refine x_pullb 2 rfl ?_
            refine x_pullb 3 rfl ?_
            refine x_pullb 2 rfl ?_
            exact x_join (e' := [(1, .slice A7 (l10).length c8), (2, .int .i64 (x11)), (3, .pointer (some ⟨g939, 0, none⟩)), (7, .pointer (some ⟨g957, 0, none⟩)), (73, .slice A954 (x944.Steps).length c955), (74, .int .i64 ((x944.Steps.length : Int))), (75, .int .i64 ((k1201 : Int))), (90, .bool (x1236))]) ⟨rfl, rfl, rfl, rfl, rfl, rfl, rfl, rfl, trivial⟩ (.cons_cons _ (.cons_cons _ (.cons_cons _ (.cons _ (.refl _))))) ⟨rfl, rfl, hle1239⟩
           exact R_nil
          exact R_nil
         refine R_do (Base.Le.refl _) rfl rfl (Stable.does (st_load 3 rfl one3 rfl rfl)) ?_ ?_
         ·
          rintro _ _ ⟨rfl, rfl⟩
          refine ⟨.inr (.cons _ (.cons _ (.cons_cons _ (.cons _ (sub_skip hs2 (.refl _)))))), ?_⟩
          refine D_all [1] (by kernel_rfl) rfl ?_
          refine R_do (Base.Le.refl _) rfl rfl (Stable.does (st_load 0 rfl one3 rfl rfl)) ?_ ?_
          ·
           rintro _ _ ⟨rfl, rfl⟩
           refine ⟨.inr (.cons _ (.cons _ (.cons_cons _ (.cons _ (sub_skip hs2 (.refl _)))))), ?_⟩
           refine E_in (.cons _ (.cons _ (.cons_cons _ (.cons _ (sub_skip hs2 (.refl _)))))) ?_
           refine E_st 6 rfl (st_eql_f rfl rfl hc1235) ?_
           refine E_st 7 rfl (st_move rfl) ?_
           refine E_yes 8 86 rfl (st_move rfl) ?_
           refine E_yes 9 86 rfl (st_func _ _ rfl rfl) ?_
           refine E_out ?_
           refine d_pullb 3 rfl ?_
           refine d_pullb 1 rfl ?_
           refine d_pullb 2 rfl ?_
           refine d_out1 [_, _, _] [_] hs2 R rfl ?_
           refine D_all [10] (by kernel_rfl) rfl ?_
           refine R_callGlY (Base.Le.refl _) rfl rfl 86 rfl rfl rfl _ call38 rfl (cSlicesContainsFunc_3 _ _ l10 x1205.Section x1205.In x1205.Out l15 l19 l23 l27 l31 x32 l36 l37 g939 g1215 g6 A7 c8 A12 c13 A16 c17 A20 c21 A24 c25 A28 c29 A33 c34 A3 c4 hs2 (h9.le (hle1058.trans hle1200)) (h14.le (hle1058.trans hle1200)) (h18.le (hle1058.trans hle1200)) (h22.le (hle1058.trans hle1200)) (h26.le (hle1058.trans hle1200)) (h30.le (hle1058.trans hle1200)) (h35.le (hle1058.trans hle1200)) (h5.le (hle1058.trans hle1200)) x1236 hcl1237) ?_ ?_
           ·
            rintro _ b1238 _ hle1239 ⟨rfl, rfl⟩
            refine ⟨.inr (.cons _ (.cons _ (.cons _ (sub_skip hs2 (.refl _))))), ?_⟩
            refine d_in1 [_, _, _] [_] hs2 R rfl ?_
            refine D_st hle1239 11 rfl (by kernel_rfl) (by kernel_rfl) (by kernel_rfl) rfl (st_pick_f rfl rfl) (.cons _ (.cons _ (.cons _ (.cons_cons _ (sub_skip hs2 (.refl _)))))) ?_
            refine D_done (by kernel_rfl) ?_
            obtain rfl := some1 hm
            refine x_pullb 2 rfl ?_
            refine x_pullb 3 rfl ?_
            refine x_pullb 2 rfl ?_
            exact x_join (e' := [(1, .slice A7 (l10).length c8), (2, .int .i64 (x11)), (3, .pointer (some ⟨g939, 0, none⟩)), (7, .pointer (some ⟨g957, 0, none⟩)), (73, .slice A954 (x944.Steps).length c955), (74, .int .i64 ((x944.Steps.length : Int))), (75, .int .i64 ((k1201 : Int))), (90, .bool (x1236))]) ⟨rfl, rfl, rfl, rfl, rfl, rfl, rfl, rfl, trivial⟩ (.cons_cons _ (.cons_cons _ (.cons_cons _ (.cons _ (.refl _))))) ⟨rfl, rfl, hle1239⟩
           exact R_nil
          exact R_nil
         exact R_nil
        exact R_nil
      ·
       rintro b1226 _ _ ⟨rfl, rfl, hle1227⟩
       have hm := hk1229
       refine c_cond _ rfl (fun hc1240 => ?_) (fun hc1240 => ?_)
       ·
        rw [if_pos hc1240] at hm
        refine c_sr ?_
        refine t_as rfl rfl ?_
        refine t_ne ?_
        refine c_ret ?_
        refine x_block_ret ?_
        refine x_then_ret ?_
        refine x_then_ret ?_
        refine x_block_ret ?_
        refine x_then_ret ?_
        have hq1241 := houtL1161 _ (Option.some.inj hm).symm
        rw [hq1241] at hk1204
        have hm := elimR hk1204
        obtain rfl := some1 hm
        refine x_pullb 2 rfl ?_
        exact retM (rs := [.tmp 6]) [.int .i64 (6)] (hle1058.trans (hle1200.trans hle1227)) (by decide) rfl ⟨rfl, trivial⟩ rfl (.cons_cons _ (.cons _ (.cons _ (.refl _)))) ⟨rfl, rfl⟩
       ·
        rw [if_neg (fun hh => Bool.noConfusion (hh.symm.trans hc1240))] at hm
        refine c_skip ?_
        refine x_block_normal ?_
        refine x_then_normal ?_
        refine c_region ?_
        refine t_st rfl (st_add rfl rfl (by omega)) ?_
        refine t_mv rfl rfl ?_
        refine t_nil ?_
        refine x_pullb 2 rfl ?_
        refine x_pullb 2 rfl ?_
        refine x_pullb 2 rfl ?_
        exact x_againM () (Option.some.inj hm).symm (e' := [(1, .slice A7 (l10).length c8), (2, .int .i64 (x11)), (3, .pointer (some ⟨g939, 0, none⟩)), (7, .pointer (some ⟨g957, 0, none⟩)), (73, .slice A954 (x944.Steps).length c955), (74, .int .i64 ((x944.Steps.length : Int))), (75, .int .i64 ((k1201 : Int) + 1))]) ⟨rfl, rfl, rfl, rfl, rfl, rfl, rfl, trivial⟩ (.refl _) ⟨rfl, rfl, ((hle1200.trans hle1227))⟩
     ·
      rintro _ b1199 _ _ ⟨rfl, rfl, hle1200⟩ hq1242
      rw [hq1242] at hk1204
      have hm := elimL hk1204
      refine c_sr ?_
      refine t_st rfl (st_lss_f rfl rfl (by omega)) ?_
      refine t_ne ?_
      refine c_seq ?_
      refine c_cond_f rfl ?_
      refine c_exit ?_
      refine x_then_exit ?_
      refine x_then_exit ?_
      refine x_block_out ?_
      refine x_then_normal ?_
      refine c_seq ?_
      refine c_sr ?_
      refine t_mv rfl rfl ?_
      refine t_st rfl (st_len rfl sl37) ?_
      refine t_mv rfl rfl ?_
      refine t_ne ?_
      refine c_block ?_
      have hb1244 : l10.length ≤ 9223372036854775807 := (FZ.bd (h9.le (hle1058.trans hle1200)))
      refine c_pullb 2 rfl ?_
      refine c_pullb 2 rfl ?_
      refine c_pullb 2 rfl ?_
      obtain ⟨t1518, hl1519, hk1520⟩ := bindS hm
      refine c_forM (fun k1517 => fun _ => fun b1515 e' hp' => [(2, .int .i64 (x11)), (3, .pointer (some ⟨g939, 0, none⟩)), (7, .pointer (some ⟨g957, 0, none⟩)), (92, .slice A7 (l10).length c8), (93, .int .i64 ((l10.length : Int))), (94, .int .i64 ((k1517 : Int)))] = e' ∧ (g939, Cl 66 [.pointer (some ⟨g6, 0, none⟩)]) :: (g957, Cl 54 [.int .i64 (x944.From), .int .i64 (x944.To), .slice A954 (x944.Steps).length c955]) :: (g6, Cl 94 [.slice A12 (l15).length c13, .slice A16 (l19).length c17, .slice A20 (l23).length c21, .slice A24 (l27).length c25, .slice A28 (l31).length c29, .int .i64 (x32), .slice A33 (l36).length c34, .slice A3 (l37).length c4]) :: (hs2 ++ R) = hp' ∧ b1199.Le b1515) hl1519 (e' := [(2, .int .i64 (x11)), (3, .pointer (some ⟨g939, 0, none⟩)), (7, .pointer (some ⟨g957, 0, none⟩)), (92, .slice A7 (l10).length c8), (93, .int .i64 ((l10.length : Int))), (94, .int .i64 0)]) ⟨rfl, rfl, rfl, rfl, rfl, rfl, trivial⟩ (.refl _) ⟨rfl, rfl, (Base.Le.refl _)⟩ ?_ ?_
      ·
       rintro k1517 _ b1515 _ _ oL1243 hknL1243 ⟨rfl, rfl, hle1516⟩ hstepL1243 houtL1243
       unfold mLineLegsAdd_L1243 at hstepL1243
       have hm := hstepL1243
       refine c_sr ?_
       refine t_st rfl (st_lss_t rfl rfl (by omega)) ?_
       refine t_ne ?_
       refine c_seq ?_
       refine c_cond_t rfl ?_
       refine c_skip ?_
       refine x_then_normal ?_
       refine c_seq ?_
       refine c_block ?_
       refine c_sr ?_
       obtain ⟨x1521, h1522, hm⟩ := bindS hm
       obtain ⟨j1523, hj1524, hx1525⟩ := idx_some h1522
       obtain ⟨cs1526, hr1527, hcs1528, hA1529, hlt1530⟩ := FZ.get (sz := 1) rfl (by decide) (h9.le (hle1058.trans (hle1200.trans hle1516))) hx1525
       obtain rfl := hr1527
       refine t_st rfl (st_index_old j1523 rfl rfl hj1524 hlt1530 hA1529 sl37) ?_
       refine t_st rfl (st_load_old rfl one3 (hcs1528 0 _ rfl)) ?_
       refine t_as rfl rfl ?_
       refine t_ne ?_
       refine c_sr ?_
       refine t_st rfl (st_load 0 rfl one66 rfl rfl) ?_
       refine t_st rfl (st_nil rfl) ?_
       refine t_st rfl (st_field rfl fld94_3) ?_
       refine t_st rfl (st_load 2 rfl one92 rfl rfl) ?_
       refine t_mv rfl rfl ?_
       obtain ⟨x1531, h1532, hm⟩ := bindS hm
       obtain ⟨j1533, hj1534, hx1535⟩ := idx_some h1532
       obtain ⟨cs1536, hs1541, P1542, P1543, hq1544, hr1537, hcs1538, hA1539, hlt1540, hb1545, hho1546⟩ := OS.get (sz := 1) rfl (by decide) (h5.le (hle1058.trans (hle1200.trans hle1516))) hx1535
       obtain ⟨⟨A1547, c1548, rfl, h1549⟩, rfl⟩ := hr1537
       refine t_st rfl (st_index_old j1533 rfl rfl hj1534 hlt1540 hA1539 sl92) ?_
       refine t_st rfl (st_load_rd rfl one38 (fun w ho => hcs1538 w _ ho (.cons _ (.cons _ (.cons _ (List.sublist_append_left _ _)))) 0 _ rfl)) ?_
       refine t_st rfl (st_len rfl sl38) ?_
       refine t_mv rfl rfl ?_
       refine t_ne ?_
       refine c_block ?_
       have hb1551 : x1531.length ≤ 9223372036854775807 := (FZ.bd h1549)
       refine c_pullb 2 rfl ?_
       refine c_pullb 2 rfl ?_
       refine c_pullb 2 rfl ?_
       obtain ⟨t1671, hl1672, hk1673⟩ := bindS hm
       refine c_forM (fun k1670 => fun _ => fun b1668 e' hp' => [(2, .int .i64 (x11)), (3, .pointer (some ⟨g939, 0, none⟩)), (7, .pointer (some ⟨g957, 0, none⟩)), (92, .slice A7 (l10).length c8), (93, .int .i64 ((l10.length : Int))), (94, .int .i64 ((k1517 : Int))), (104, .slice A1547 (x1531).length c1548), (105, .int .i64 ((x1531.length : Int))), (106, .int .i64 ((k1670 : Int)))] = e' ∧ (g939, Cl 66 [.pointer (some ⟨g6, 0, none⟩)]) :: (g957, Cl 54 [.int .i64 (x944.From), .int .i64 (x944.To), .slice A954 (x944.Steps).length c955]) :: (g6, Cl 94 [.slice A12 (l15).length c13, .slice A16 (l19).length c17, .slice A20 (l23).length c21, .slice A24 (l27).length c25, .slice A28 (l31).length c29, .int .i64 (x32), .slice A33 (l36).length c34, .slice A3 (l37).length c4]) :: (hs2 ++ R) = hp' ∧ b1515.Le b1668) hl1672 (e' := [(2, .int .i64 (x11)), (3, .pointer (some ⟨g939, 0, none⟩)), (7, .pointer (some ⟨g957, 0, none⟩)), (92, .slice A7 (l10).length c8), (93, .int .i64 ((l10.length : Int))), (94, .int .i64 ((k1517 : Int))), (104, .slice A1547 (x1531).length c1548), (105, .int .i64 ((x1531.length : Int))), (106, .int .i64 0)]) ⟨rfl, rfl, rfl, rfl, rfl, rfl, rfl, rfl, rfl, trivial⟩ (.refl _) ⟨rfl, rfl, (Base.Le.refl _)⟩ ?_ ?_
       ·
        rintro k1670 _ b1668 _ _ oL1550 hknL1550 ⟨rfl, rfl, hle1669⟩ hstepL1550 houtL1550
        unfold mLineLegsAdd_L1550 at hstepL1550
        have hm := hstepL1550
        refine c_sr ?_
        refine t_st rfl (st_lss_t rfl rfl (by omega)) ?_
        refine t_ne ?_
        refine c_seq ?_
        refine c_cond_t rfl ?_
        refine c_skip ?_
        refine x_then_normal ?_
        refine c_seq ?_
        refine c_block ?_
        refine c_sr ?_
        obtain ⟨x1674, h1675, hm⟩ := bindS hm
        obtain ⟨j1676, hj1677, hx1678⟩ := idx_some h1675
        obtain ⟨cs1679, hr1680, hcs1681, hA1682, hlt1683⟩ := FZ.get (sz := 4) rfl (by decide) (h1549.le hle1669) hx1678
        obtain ⟨_, _, rfl, rfl, ⟨_, _, rfl, rfl, ⟨_, _, rfl, rfl, rfl⟩⟩⟩ := hr1680
        refine t_st rfl (st_index_old j1676 rfl rfl hj1677 hlt1683 hA1682 sl38) ?_
        refine t_st rfl (st_loadN_old (vs := [.int .i64 (x1674.Kind), .int .i64 (x1674.Place), .int .i64 (x1674.Position), .int .i64 (x1674.At)]) 4 rfl agg42 hA1682 rfl (fun j u hu => hcs1681 j u hu)) ?_
        refine t_do rfl (u_alloc [.int .i64 0, .int .i64 0, .int .i64 0, .int .i64 0] zero42 rfl) ?_
        rintro _ _ ⟨g1684, rfl, rfl⟩
        refine t_do rfl (u_storeN (vs := [_, _, _, _]) 0 4 rfl rfl rfl siz42 rfl (mem_c rfl (mem_c rfl (mem_c rfl (mem_c rfl mem_n)))) rfl (by simp)) ?_
        rintro _ _ rfl
        refine t_ne ?_
        obtain ⟨x1737, hj1738, hk1738⟩ := bindS hm
        refine c_join (fun b1735 e' hp' => [(2, .int .i64 (x11)), (3, .pointer (some ⟨g939, 0, none⟩)), (7, .pointer (some ⟨g957, 0, none⟩)), (92, .slice A7 (l10).length c8), (93, .int .i64 ((l10.length : Int))), (94, .int .i64 ((k1517 : Int))), (104, .slice A1547 (x1531).length c1548), (105, .int .i64 ((x1531.length : Int))), (106, .int .i64 ((k1670 : Int))), (124, .bool (x1737))] = e' ∧ (g939, Cl 66 [.pointer (some ⟨g6, 0, none⟩)]) :: (g957, Cl 54 [.int .i64 (x944.From), .int .i64 (x944.To), .slice A954 (x944.Steps).length c955]) :: (g6, Cl 94 [.slice A12 (l15).length c13, .slice A16 (l19).length c17, .slice A20 (l23).length c21, .slice A24 (l27).length c25, .slice A28 (l31).length c29, .int .i64 (x32), .slice A33 (l36).length c34, .slice A3 (l37).length c4]) :: (hs2 ++ R) = hp' ∧ b1668.Le b1735) ?_ ?_
        ·
         have hm := hj1738
         by_cases hc1764 : x1674.Kind ≠ 2
         ·
          rw [if_pos hc1764] at hm
          obtain ⟨x1766, h1767, hm⟩ := bindS hm
          obtain ⟨x1787, hcl1788, hm⟩ := bindS hm
          refine D_drawI mixed (.refl _) ?_
          refine E_st 0 rfl (st_field rfl fld42_0) ?_
          refine E_st 1 rfl (st_load 0 rfl one3 rfl rfl) ?_
          refine E_st 2 rfl (st_neq_t rfl rfl hc1764) ?_
          refine E_st 3 rfl (st_move rfl) ?_
          refine E_yes 4 113 rfl (st_loadD (vs := [_, _, _, _]) 0 4 rfl agg42 rfl rfl rfl) ?_
          refine E_yes 6 113 rfl (st_load 1 rfl one66 rfl rfl) ?_
          refine E_yes 7 113 rfl (st_nil rfl) ?_
          refine E_yes 8 113 rfl (st_field rfl fld94_3) ?_
          refine E_yes 9 113 rfl (st_load 3 rfl one92 rfl rfl) ?_
          refine E_yes 10 113 rfl (st_move rfl) ?_
          obtain ⟨j1768, hj1769, hx1770⟩ := idx_some h1767
          obtain ⟨cs1771, hs1776, P1777, P1778, hq1779, hr1772, hcs1773, hA1774, hlt1775, hb1780, hho1781⟩ := OS.get (sz := 1) rfl (by decide) (h5.le (hle1058.trans (hle1200.trans (hle1516.trans hle1669)))) hx1770
          obtain ⟨⟨A1782, c1783, rfl, h1784⟩, rfl⟩ := hr1772
          refine E_yes 11 113 rfl (st_index_old j1768 rfl rfl hj1769 hlt1775 hA1774 sl92) ?_
          refine E_yes 12 113 rfl (st_load_rd rfl one38 (fun w ho => hcs1773 w _ ho (.cons _ (.cons _ (.cons _ (.cons _ (List.sublist_append_left _ _))))) 0 _ rfl)) ?_
          refine E_out ?_
          refine D_all [5] (by kernel_rfl) rfl ?_
          refine R_doY (Base.Le.refl _) rfl rfl 113 rfl rfl rfl (u_bslice (el := 42) [(0, .agg #[.int .i64 (x1674.Kind), .int .i64 (x1674.Place), .int .i64 (x1674.Position), .int .i64 (x1674.At)])] [.int .i64 (x1674.Kind), .int .i64 (x1674.Place), .int .i64 (x1674.Position), .int .i64 (x1674.At)] rfl (fun _ => by kernel_rfl)) ?_ ?_
          ·
           rintro _ _ ⟨g1765, rfl, rfl⟩
           refine ⟨.inr (.cons _ (.refl _)), ?_⟩
           refine d_seg 0 [_, _, _, _] (hs2 ++ R) rfl rfl ?_
           have h1786 : OS 42 (OT.fr rApiNeed) b1668.w (.slice (some ⟨g1765, 0, none⟩) 1 1) [x1674] [(g1765, Cl 42 [.int .i64 (x1674.Kind), .int .i64 (x1674.Place), .int .i64 (x1674.Position), .int .i64 (x1674.At)])] := OS.lit [[.int .i64 (x1674.Kind), .int .i64 (x1674.Place), .int .i64 (x1674.Position), .int .i64 (x1674.At)]] rfl ⟨⟨[.int .i64 (x1674.Kind)], _, rfl, rfl, ⟨[.int .i64 (x1674.Place)], _, rfl, rfl, ⟨[.int .i64 (x1674.Position)], _, rfl, rfl, rfl⟩⟩⟩, trivial⟩ rfl (by decide)
           refine D_all [13] (by kernel_rfl) rfl ?_
           refine R_doY (Base.Le.refl _) rfl rfl 113 rfl rfl rfl (u_callW0 _ call15 rfl (fun w ho => cLineMeet _ [] [x1674] x1766 (some ⟨g1765, 0, none⟩) 1 A1782 c1783 (OS.now (o := (OT.fr rApiNeed)) (l := [x1674]) (hs := [(g1765, Cl 42 [.int .i64 (x1674.Kind), .int .i64 (x1674.Place), .int .i64 (x1674.Position), .int .i64 (x1674.At)])]) h1786 ho (.cons _ (.cons _ (.cons _ (.cons _ (List.sublist_append_left _ _)))))) (h1784.old ho) x1787 hcl1788) (fun _ _ _ h => h.2.symm)) ?_ ?_
           ·
            rintro _ _ ⟨⟨_, rfl, _⟩, rfl⟩
            refine ⟨.inr (.cons_cons _ (.cons_cons _ (.cons_cons _ (.cons_cons _ (sub_skip [(g1765, Cl 42 [.int .i64 (x1674.Kind), .int .i64 (x1674.Place), .int .i64 (x1674.Position), .int .i64 (x1674.At)])] (.refl _)))))), ?_⟩
            refine E_in (.cons_cons _ (.cons_cons _ (.cons_cons _ (.cons_cons _ (sub_skip [(g1765, Cl 42 [.int .i64 (x1674.Kind), .int .i64 (x1674.Place), .int .i64 (x1674.Position), .int .i64 (x1674.At)])] (.refl _)))))) ?_
            refine E_st 14 rfl (st_pick_t rfl rfl) ?_
            refine E_out ?_
            refine D_done (by kernel_rfl) ?_
            obtain rfl := some1 hm
            refine x_pullb 3 rfl ?_
            refine x_pullb 3 rfl ?_
            refine x_pullb 3 rfl ?_
            refine x_front2 [_, _, _, _] [(g1765, Cl 42 [.int .i64 (x1674.Kind), .int .i64 (x1674.Place), .int .i64 (x1674.Position), .int .i64 (x1674.At)])] hs2 R rfl ?_
            exact x_join (e' := [(2, .int .i64 (x11)), (3, .pointer (some ⟨g939, 0, none⟩)), (7, .pointer (some ⟨g957, 0, none⟩)), (92, .slice A7 (l10).length c8), (93, .int .i64 ((l10.length : Int))), (94, .int .i64 ((k1517 : Int))), (104, .slice A1547 (x1531).length c1548), (105, .int .i64 ((x1531.length : Int))), (106, .int .i64 ((k1670 : Int))), (124, .bool (x1787))]) ⟨rfl, rfl, rfl, rfl, rfl, rfl, rfl, rfl, rfl, rfl, trivial⟩ (.cons_cons _ (.cons_cons _ (.cons_cons _ (.cons _ (sub_app hs2 (sub_skip [(g1765, Cl 42 [.int .i64 (x1674.Kind), .int .i64 (x1674.Place), .int .i64 (x1674.Position), .int .i64 (x1674.At)])] (.refl _))))))) ⟨rfl, rfl, (Base.Le.refl _)⟩
           exact R_nil
          exact R_nil
         ·
          rw [if_neg hc1764] at hm
          refine D_drawI mixed (.refl _) ?_
          refine E_st 0 rfl (st_field rfl fld42_0) ?_
          refine E_st 1 rfl (st_load 0 rfl one3 rfl rfl) ?_
          refine E_st 2 rfl (st_neq_f rfl rfl hc1764) ?_
          refine E_st 3 rfl (st_move rfl) ?_
          refine E_no 4 113 rfl rfl rfl ?_
          refine E_no 5 113 rfl rfl rfl ?_
          refine E_no 6 113 rfl rfl rfl ?_
          refine E_no 7 113 rfl rfl rfl ?_
          refine E_no 8 113 rfl rfl rfl ?_
          refine E_no 9 113 rfl rfl rfl ?_
          refine E_no 10 113 rfl rfl rfl ?_
          refine E_no 11 113 rfl rfl rfl ?_
          refine E_no 12 113 rfl rfl rfl ?_
          refine E_no 13 113 rfl rfl rfl ?_
          refine E_st 14 rfl (st_pick_f rfl rfl) ?_
          refine E_out ?_
          refine D_done (by kernel_rfl) ?_
          obtain rfl := some1 hm
          refine x_pullb 3 rfl ?_
          refine x_pullb 3 rfl ?_
          refine x_pullb 3 rfl ?_
          exact x_join (e' := [(2, .int .i64 (x11)), (3, .pointer (some ⟨g939, 0, none⟩)), (7, .pointer (some ⟨g957, 0, none⟩)), (92, .slice A7 (l10).length c8), (93, .int .i64 ((l10.length : Int))), (94, .int .i64 ((k1517 : Int))), (104, .slice A1547 (x1531).length c1548), (105, .int .i64 ((x1531.length : Int))), (106, .int .i64 ((k1670 : Int))), (124, .bool (false))]) ⟨rfl, rfl, rfl, rfl, rfl, rfl, rfl, rfl, rfl, rfl, trivial⟩ (.cons_cons _ (.cons_cons _ (.cons_cons _ (.cons _ (.refl _))))) ⟨rfl, rfl, (Base.Le.refl _)⟩
        ·
         rintro b1735 _ _ ⟨rfl, rfl, hle1736⟩
         have hm := hk1738
         refine c_cond _ rfl (fun hc1789 => ?_) (fun hc1789 => ?_)
         ·
          rw [if_pos hc1789] at hm
          refine c_sr ?_
          refine t_as rfl rfl ?_
          refine t_ne ?_
          refine c_ret ?_
          refine x_block_ret ?_
          refine x_then_ret ?_
          refine x_then_ret ?_
          refine x_block_ret ?_
          refine x_block_ret ?_
          refine x_then_ret ?_
          refine x_then_ret ?_
          refine x_block_ret ?_
          refine x_then_ret ?_
          have hq1790 := houtL1550 _ (Option.some.inj hm).symm
          rw [hq1790] at hk1673
          have hm := elimR hk1673
          have hq1791 := houtL1243 _ (Option.some.inj hm).symm
          rw [hq1791] at hk1520
          have hm := elimR hk1520
          obtain rfl := some1 hm
          refine x_pullb 2 rfl ?_
          exact retM (rs := [.tmp 6]) [.int .i64 (8)] (hle1058.trans (hle1200.trans (hle1516.trans (hle1669.trans hle1736)))) (by decide) rfl ⟨rfl, trivial⟩ rfl (.cons_cons _ (.cons _ (.cons _ (.refl _)))) ⟨rfl, rfl⟩
         ·
          rw [if_neg (fun hh => Bool.noConfusion (hh.symm.trans hc1789))] at hm
          refine c_skip ?_
          refine x_block_normal ?_
          refine x_then_normal ?_
          refine c_region ?_
          refine t_st rfl (st_add rfl rfl (by omega)) ?_
          refine t_mv rfl rfl ?_
          refine t_nil ?_
          refine x_pullb 2 rfl ?_
          refine x_pullb 2 rfl ?_
          refine x_pullb 2 rfl ?_
          exact x_againM () (Option.some.inj hm).symm (e' := [(2, .int .i64 (x11)), (3, .pointer (some ⟨g939, 0, none⟩)), (7, .pointer (some ⟨g957, 0, none⟩)), (92, .slice A7 (l10).length c8), (93, .int .i64 ((l10.length : Int))), (94, .int .i64 ((k1517 : Int))), (104, .slice A1547 (x1531).length c1548), (105, .int .i64 ((x1531.length : Int))), (106, .int .i64 ((k1670 : Int) + 1))]) ⟨rfl, rfl, rfl, rfl, rfl, rfl, rfl, rfl, rfl, trivial⟩ (.refl _) ⟨rfl, rfl, ((hle1669.trans hle1736))⟩
       ·
        rintro _ b1668 _ _ ⟨rfl, rfl, hle1669⟩ hq1792
        rw [hq1792] at hk1673
        have hm := elimL hk1673
        refine c_sr ?_
        refine t_st rfl (st_lss_f rfl rfl (by omega)) ?_
        refine t_ne ?_
        refine c_seq ?_
        refine c_cond_f rfl ?_
        refine c_exit ?_
        refine x_then_exit ?_
        refine x_then_exit ?_
        refine x_block_out ?_
        refine x_block_normal ?_
        refine x_then_normal ?_
        refine c_region ?_
        refine t_st rfl (st_add rfl rfl (by omega)) ?_
        refine t_mv rfl rfl ?_
        refine t_nil ?_
        refine x_pullb 2 rfl ?_
        refine x_pullb 2 rfl ?_
        refine x_pullb 2 rfl ?_
        exact x_againM () (Option.some.inj hm).symm (e' := [(2, .int .i64 (x11)), (3, .pointer (some ⟨g939, 0, none⟩)), (7, .pointer (some ⟨g957, 0, none⟩)), (92, .slice A7 (l10).length c8), (93, .int .i64 ((l10.length : Int))), (94, .int .i64 ((k1517 : Int) + 1))]) ⟨rfl, rfl, rfl, rfl, rfl, rfl, trivial⟩ (.refl _) ⟨rfl, rfl, ((hle1516.trans hle1669))⟩
      ·
       rintro _ b1515 _ _ ⟨rfl, rfl, hle1516⟩ hq1793
       rw [hq1793] at hk1520
       have hm := elimL hk1520
       refine c_sr ?_
       refine t_st rfl (st_lss_f rfl rfl (by omega)) ?_
       refine t_ne ?_
       refine c_seq ?_
       refine c_cond_f rfl ?_
       refine c_exit ?_
       refine x_then_exit ?_
       refine x_then_exit ?_
       refine x_block_out ?_
       refine x_then_normal ?_
       refine c_seq ?_
       obtain ⟨x1816, hj1817, hk1817⟩ := bindS hm
       refine c_join (fun b1814 e' hp' => [(137, .bool (x1816))] = e' ∧ (g6, Cl 94 [.slice A12 (l15).length c13, .slice A16 (l19).length c17, .slice A20 (l23).length c21, .slice A24 (l27).length c25, .slice A28 (l31).length c29, .int .i64 (x32), .slice A33 (l36).length c34, .slice A3 (l37).length c4]) :: (hs2 ++ R) = hp' ∧ b1515.Le b1814) ?_ ?_
       ·
        have hm := hj1817
        obtain ⟨l1828, hcl1829, hm⟩ := bindS hm
        obtain ⟨x1836, hcl1837, hm⟩ := bindS hm
        refine D_drawI mixed (.refl _) ?_
        refine E_st 0 rfl (st_load 0 rfl one66 rfl rfl) ?_
        refine E_st 1 rfl (st_nil rfl) ?_
        refine E_st 2 rfl (st_field rfl fld94_0) ?_
        refine E_st 3 rfl (st_loadD (vs := [_, _, _, _, _]) 2 5 rfl agg28 rfl rfl rfl) ?_
        refine E_st 4 rfl (st_loadD (vs := [_, _, _]) 1 3 rfl agg54 rfl rfl rfl) ?_
        refine E_st 6 rfl (st_load 0 rfl one66 rfl rfl) ?_
        refine E_st 7 rfl (st_nil rfl) ?_
        refine E_st 8 rfl (st_field rfl fld94_1) ?_
        refine E_st 9 rfl (st_load 2 rfl one3 rfl rfl) ?_
        refine E_out ?_
        refine D_all [5] (by kernel_rfl) rfl ?_
        refine R_callGl (Base.Le.refl _) rfl rfl _ call34 rfl (cLineOverlap _ _ (⟨l15, l19, l23, l27, l31⟩ : ApiNet) x944 A12 c13 A16 c17 A20 c21 A24 c25 A28 c29 A954 c955 (h14.le (hle1058.trans (hle1200.trans hle1516))) (h18.le (hle1058.trans (hle1200.trans hle1516))) (h22.le (hle1058.trans (hle1200.trans hle1516))) (h26.le (hle1058.trans (hle1200.trans hle1516))) (h30.le (hle1058.trans (hle1200.trans hle1516))) (h956.le (hle1058.trans (hle1200.trans hle1516))) l1828 hcl1829) ?_ ?_
        ·
         rintro _ b1830 _ hle1831 ⟨A1832, c1833, hs1834, rfl, rfl, h1835⟩
         refine ⟨.inr (sub_skip hs1834 (.refl _)), ?_⟩
         refine d_in1 [] [_, _, _] hs1834 (hs2 ++ R) rfl ?_
         refine D_all [10] (by kernel_rfl) rfl ?_
         refine R_do hle1831 rfl rfl (u_callW0 _ call40 rfl (fun w ho => cLineStands _ [] l1828 x32 A1832 c1833 (OS.now (o := (OT.fr rApiStep)) (l := l1828) (hs := hs1834) h1835 ho (.cons _ (.cons _ (.cons _ (List.sublist_append_left _ _))))) x1836 hcl1837) (fun _ _ _ h => h.2.symm)) ?_ ?_
         ·
          rintro _ _ ⟨⟨_, rfl, _⟩, rfl⟩
          refine ⟨.inr (.cons_cons _ (.cons_cons _ (.cons_cons _ (sub_skip hs1834 (.refl _))))), ?_⟩
          refine D_done (by kernel_rfl) ?_
          obtain rfl := some1 hm
          refine x_pullb 2 rfl ?_
          refine x_front2 [_, _, _] hs1834 hs2 R rfl ?_
          exact x_join (e' := [(137, .bool (x1836))]) ⟨rfl, trivial⟩ (.cons_cons _ (.cons _ (.cons _ (sub_app hs2 (sub_skip hs1834 (.refl _)))))) ⟨rfl, rfl, hle1831⟩
         exact R_nil
        exact R_nil
       ·
        rintro b1814 _ _ ⟨rfl, rfl, hle1815⟩
        have hm := hk1817
        refine c_cond _ rfl (fun hc1838 => ?_) (fun hc1838 => ?_)
        ·
         rw [if_pos hc1838] at hm
         refine c_sr ?_
         refine t_as rfl rfl ?_
         refine t_ne ?_
         refine c_ret ?_
         refine x_then_ret ?_
         obtain rfl := some1 hm
         exact retM (rs := [.tmp 6]) [.int .i64 (8)] (hle1058.trans (hle1200.trans (hle1516.trans hle1815))) (by decide) rfl ⟨rfl, trivial⟩ rfl (.refl _) ⟨rfl, rfl⟩
        ·
         rw [if_neg (fun hh => Bool.noConfusion (hh.symm.trans hc1838))] at hm
         refine c_skip ?_
         refine x_then_normal ?_
         refine c_sr ?_
         refine t_as rfl rfl ?_
         refine t_ne ?_
         refine c_ret ?_
         obtain rfl := some1 hm
         exact retM (rs := [.tmp 6]) [.int .i64 (0)] (hle1058.trans (hle1200.trans (hle1516.trans hle1815))) (by decide) rfl ⟨rfl, trivial⟩ rfl (.refl _) ⟨rfl, rfl⟩

set_option maxRecDepth 20000 in
theorem clSlicesClone_2 (A : Option Addr) (n c : Nat) (xs : List Value) (w : World) (hR : Rd w A xs) (hl : xs.length = n * 1) (hn : n * 8 ≤ 140737488355328 ∧ n ≤ 9223372036854775807) :
    CallsH Tryz.prog 23 [.slice A n c] w [] (fun v hp' => Seg0 3 1 v n xs hp') := by
  refine fn_enter 8 Tryz.func23 rfl Tryz.ntmps23 rfl ?_
  refine c_sr ?_
  refine t_as rfl rfl ?_
  refine t_ne ?_
  refine c_seq ?_
  refine c_sr ?_
  refine t_mv rfl rfl ?_
  refine t_bool rfl (st_eqnil rfl rfl sl37) (fun hc1 => ?_) (fun hc1 => ?_)
  ·
    refine t_ne ?_
    refine c_cond_t rfl ?_
    refine c_sr ?_
    refine t_as rfl rfl ?_
    refine t_ne ?_
    refine c_ret ?_
    refine x_then_ret ?_
    subst hc1
    obtain rfl := hR.none_nil
    obtain rfl : n = 0 := by simp at hl; omega
    refine x_drop (hp' := []) (by repeat (first | exact List.Sublist.refl _ | exact List.nil_sublist _ | exact List.sublist_append_left _ _ | exact List.sublist_append_right _ _ | exact (List.sublist_append_right _ _).trans (List.sublist_append_right _ _) | apply List.Sublist.cons_cons | apply List.Sublist.cons)) ?_
    exact ret1 (Base.Le.refl _) rfl rfl (Seg0.nil)
  ·
    refine t_ne ?_
    refine c_cond_f rfl ?_
    refine c_skip ?_
    refine x_then_normal ?_
    refine c_sr ?_
    refine t_do rfl (u_bslice (el := 3) [] [] rfl (fun _ => by kernel_rfl)) ?_
    rintro _ _ ⟨g0, rfl, rfl⟩
    refine t_mv rfl rfl ?_
    refine t_do rfl (u_app0 xs sl37 inf3 rfl (by decide) rfl rfl hl (fun w ho => hR.old ho) hn.2 hn.1) ?_
    rintro _ _ ⟨hs, rfl, hseg⟩
    refine t_as rfl rfl ?_
    refine t_ne ?_
    refine c_ret ?_
    refine x_drop (hp' := hs) (by repeat (first | exact List.Sublist.refl _ | exact List.nil_sublist _ | exact List.sublist_append_left _ _ | exact List.sublist_append_right _ _ | exact (List.sublist_append_right _ _).trans (List.sublist_append_right _ _) | apply List.Sublist.cons_cons | apply List.Sublist.cons)) ?_
    exact ret1 (Base.Le.refl _) rfl rfl hseg

set_option maxRecDepth 20000 in
theorem cSlicesClone_2 (b : Base) (R : Hp) (l4 : (List Int)) (A1 : Option Addr) (c2 : Nat) (h3 : FZ (RT.int .i64) b.w A1 c2 l4) (l10 : (List Int)) (hm : mSlicesClone_2 l4 = some l10) :
    CallsG Tryz.prog 23 [.slice A1 (l4).length c2] b (R) (fun v b' hp' => ∃ (A7 : Option Addr), ∃ (c8 : Nat), ∃ (hs6 : Hp), .slice A7 (l10).length c8 = v ∧ (hs6 ++ R) = hp' ∧ OS 3 (OT.fr (RT.int .i64)) b'.w (.slice A7 l10.length c8) l10 hs6) := by
  unfold mSlicesClone_2 at hm
  obtain ⟨_, hroom, hm⟩ := bindS hm
  have hroom := room_some hroom
  obtain rfl := some1 hm
  exact clone_of (r := (RT.int .i64)) (sz := 1) (by_ := 8) rfl (by decide) clSlicesClone_2 h3 hroom

set_option maxRecDepth 20000 in
theorem cLineLegsLast (b : Base) (R : Hp) (l15 : (List ByteArray)) (l19 : (List ApiSection)) (l23 : (List ApiLink)) (l27 : (List ApiSignal)) (l31 : (List ApiGate)) (x32 : Int) (l36 : (List ApiRoute)) (l37 : (List Int)) (l39 : (List (List ApiNeed))) (g11 : Nat) (A12 : Option Addr) (c13 : Nat) (A16 : Option Addr) (c17 : Nat) (A20 : Option Addr) (c21 : Nat) (A24 : Option Addr) (c25 : Nat) (A28 : Option Addr) (c29 : Nat) (A33 : Option Addr) (c34 : Nat) (A3 : Option Addr) (c4 : Nat) (hs2 : Hp) (A8 : Option Addr) (c9 : Nat) (hs7 : Hp) (h14 : FZ RT.str b.w A12 c13 l15) (h18 : FZ rApiSection b.w A16 c17 l19) (h22 : FZ rApiLink b.w A20 c21 l23) (h26 : FZ rApiSignal b.w A24 c25 l27) (h30 : FZ rApiGate b.w A28 c29 l31) (h35 : FZ rApiRoute b.w A33 c34 l36) (h5 : OS 3 (OT.fr (RT.int .i64)) b.w (.slice A3 l37.length c4) l37 hs2) (hnz38 : (A3 = none ↔ l37 = [])) (h10 : OS 38 (OT.fr (RT.list rApiNeed)) b.w (.slice A8 l39.length c9) l39 hs7) (x111 : Int) (hm : mLineLegsLast l15 l19 l23 l27 l31 x32 l36 l37 l39 = some x111) :
    CallsG Tryz.prog 24 [.pointer (some ⟨g11, 0, none⟩), .slice A3 (l37).length c4] b ((g11, Cl 94 [.slice A12 (l15).length c13, .slice A16 (l19).length c17, .slice A20 (l23).length c21, .slice A24 (l27).length c25, .slice A28 (l31).length c29, .int .i64 (x32), .slice A33 (l36).length c34, .slice A8 (l39).length c9]) :: (hs2 ++ (hs7 ++ R))) (fun v b' hp' => .int .i64 (x111) = v ∧ (g11, Cl 94 [.slice A12 (l15).length c13, .slice A16 (l19).length c17, .slice A20 (l23).length c21, .slice A24 (l27).length c25, .slice A28 (l31).length c29, .int .i64 (x32), .slice A33 (l36).length c34, .slice A8 (l39).length c9]) :: (hs2 ++ (hs7 ++ R)) = hp') := by
  refine fn_enterG 26 Tryz.func24 rfl Tryz.ntmps24 rfl ?_
  unfold mLineLegsLast at hm
  refine c_sr ?_
  refine t_as rfl rfl ?_
  refine t_ne ?_
  refine c_seq ?_
  obtain ⟨_, h142, hm⟩ := bindS hm
  obtain ⟨x143, h144, hm⟩ := bindS hm
  obtain ⟨x159, h160, hm⟩ := bindS hm
  refine D_drawI mixed (.refl _) ?_
  refine E_st 0 rfl (st_move rfl) ?_
  refine E_st 1 rfl (st_nil rfl) ?_
  refine E_st 2 rfl (st_field rfl fld94_2) ?_
  refine E_st 3 rfl (st_load 0 rfl one47 rfl rfl) ?_
  refine E_st 4 rfl (st_move rfl) ?_
  refine E_st 5 rfl (st_move rfl) ?_
  refine E_st 6 rfl (st_len rfl sl37) ?_
  have h142 := (chk_some h142).2
  refine E_st 7 rfl (st_sub rfl rfl h142) ?_
  obtain ⟨j145, hj146, hx147⟩ := idx_some h144
  obtain ⟨cs148, hs153, P154, P155, hq156, hr149, hcs150, hA151, hlt152, hb157, hho158⟩ := OS.get (sz := 1) rfl (by decide) h5 hx147
  obtain ⟨rfl, rfl⟩ := hr149
  refine E_st 8 rfl (st_index_old j145 rfl rfl hj146 hlt152 hA151 sl37) ?_
  refine E_st 9 rfl (st_load_rd rfl one3 (fun w ho => hcs150 w _ ho (.cons _ (List.sublist_append_left _ _)) 0 _ rfl)) ?_
  obtain ⟨j161, hj162, hx163⟩ := idx_some h160
  obtain ⟨cs164, hr165, hcs166, hA167, hlt168⟩ := FZ.get (sz := 3) rfl (by decide) h35 hx163
  obtain ⟨_, _, rfl, rfl, ⟨_, _, rfl, rfl, ⟨A169, c170, rfl, h171⟩⟩⟩ := hr165
  refine E_st 10 rfl (st_index_old j161 rfl rfl hj162 hlt168 hA167 sl47) ?_
  refine E_st 11 rfl (st_field_old rfl hA167 fld54_2) ?_
  refine E_st 12 rfl (st_load_old rfl one52 (hcs166 2 _ rfl)) ?_
  refine E_st 13 rfl (st_assign rfl) ?_
  refine E_out ?_
  refine D_done (by kernel_rfl) ?_
  refine x_then_normal ?_
  refine c_sr ?_
  refine t_mv rfl rfl ?_
  refine t_mv rfl rfl ?_
  refine t_st rfl (st_len rfl sl52) ?_
  obtain ⟨_, h172, hm⟩ := bindS hm
  have h172 := (chk_some h172).2
  refine t_st rfl (st_sub rfl rfl h172) ?_
  obtain ⟨x173, h174, hm⟩ := bindS hm
  obtain ⟨j175, hj176, hx177⟩ := idx_some h174
  obtain ⟨cs178, hr179, hcs180, hA181, hlt182⟩ := FZ.get (sz := 3) rfl (by decide) h171 hx177
  obtain ⟨_, _, rfl, rfl, ⟨_, _, rfl, rfl, rfl⟩⟩ := hr179
  refine t_st rfl (st_index_old j175 rfl rfl hj176 hlt182 hA181 sl52) ?_
  refine t_st rfl (st_field_old rfl hA181 fld56_0) ?_
  refine t_st rfl (st_load_old rfl one3 (hcs180 0 _ rfl)) ?_
  refine t_as rfl rfl ?_
  refine t_ne ?_
  refine c_ret ?_
  obtain rfl := some1 hm
  refine x_front2 [_] hs2 hs7 R rfl ?_
  refine x_front2 [_] hs7 hs2 R rfl ?_
  exact retM (rs := [.tmp 4]) [.int .i64 (x173.Section)] (Base.Le.refl _) (by decide) rfl ⟨rfl, trivial⟩ rfl (.refl _) ⟨rfl, rfl⟩

set_option maxRecDepth 20000 in
theorem cSlicesIndexFunc_6 (b : Base) (R : Hp) (x14 : Int) (x15 : Int) (x16 : Int) (l20 : (List ByteArray)) (l24 : (List ApiSection)) (l28 : (List ApiLink)) (l32 : (List ApiSignal)) (l36 : (List ApiGate)) (x37 : Int) (l41 : (List ApiRoute)) (l42 : (List Int)) (l44 : (List (List ApiNeed))) (g11 : Nat) (g12 : Nat) (g13 : Nat) (A17 : Option Addr) (c18 : Nat) (A21 : Option Addr) (c22 : Nat) (A25 : Option Addr) (c26 : Nat) (A29 : Option Addr) (c30 : Nat) (A33 : Option Addr) (c34 : Nat) (A38 : Option Addr) (c39 : Nat) (A3 : Option Addr) (c4 : Nat) (hs2 : Hp) (A8 : Option Addr) (c9 : Nat) (hs7 : Hp) (h19 : FZ RT.str b.w A17 c18 l20) (h23 : FZ rApiSection b.w A21 c22 l24) (h27 : FZ rApiLink b.w A25 c26 l28) (h31 : FZ rApiSignal b.w A29 c30 l32) (h35 : FZ rApiGate b.w A33 c34 l36) (h40 : FZ rApiRoute b.w A38 c39 l41) (h5 : OS 3 (OT.fr (RT.int .i64)) b.w (.slice A3 l42.length c4) l42 hs2) (hnz43 : (A3 = none ↔ l42 = [])) (h10 : OS 38 (OT.fr (RT.list rApiNeed)) b.w (.slice A8 l44.length c9) l44 hs7) (x97 : Int) (hm : mSlicesIndexFunc_6 x14 x15 x16 l20 l24 l28 l32 l36 x37 l41 l42 l44 = some x97) :
    CallsG Tryz.prog 63 [.slice A3 (l42).length c4, .func (.func 39) #[] #[.pointer (some ⟨g11, 0, none⟩), .pointer (some ⟨g12, 0, none⟩)]] b ((g11, Cl 66 [.pointer (some ⟨g13, 0, none⟩)]) :: (g12, Cl 56 [.int .i64 (x14), .int .i64 (x15), .int .i64 (x16)]) :: (g13, Cl 94 [.slice A17 (l20).length c18, .slice A21 (l24).length c22, .slice A25 (l28).length c26, .slice A29 (l32).length c30, .slice A33 (l36).length c34, .int .i64 (x37), .slice A38 (l41).length c39, .slice A8 (l44).length c9]) :: (hs2 ++ (hs7 ++ R))) (fun v b' hp' => .int .i64 (x97) = v ∧ (g11, Cl 66 [.pointer (some ⟨g13, 0, none⟩)]) :: (g12, Cl 56 [.int .i64 (x14), .int .i64 (x15), .int .i64 (x16)]) :: (g13, Cl 94 [.slice A17 (l20).length c18, .slice A21 (l24).length c22, .slice A25 (l28).length c26, .slice A29 (l32).length c30, .slice A33 (l36).length c34, .int .i64 (x37), .slice A38 (l41).length c39, .slice A8 (l44).length c9]) :: (hs2 ++ (hs7 ++ R)) = hp') := by
  refine fn_enterG 19 Tryz.func63 rfl Tryz.ntmps63 rfl ?_
  unfold mSlicesIndexFunc_6 at hm
  refine c_sr ?_
  refine t_as rfl rfl ?_
  refine t_ne ?_
  refine c_seq ?_
  refine c_sr ?_
  refine t_mv rfl rfl ?_
  refine t_st rfl (st_len rfl sl37) ?_
  refine t_mv rfl rfl ?_
  refine t_ne ?_
  refine c_block ?_
  have hb99 : l42.length ≤ 9223372036854775807 := (OS.len h5)
  refine c_pullb 2 rfl ?_
  refine c_pullb 2 rfl ?_
  refine c_pullb 2 rfl ?_
  refine c_front2 [_, _, _] hs2 hs7 R rfl ?_
  refine c_front2 [_, _, _] hs7 hs2 R rfl ?_
  obtain ⟨t124, hl125, hk126⟩ := bindS hm
  refine c_forM (fun k123 => fun _ => fun b121 e' hp' => [(0, .slice A3 (l42).length c4), (1, .func (.func 39) #[] #[.pointer (some ⟨g11, 0, none⟩), .pointer (some ⟨g12, 0, none⟩)]), (7, .int .i64 ((l42.length : Int))), (8, .int .i64 ((k123 : Int)))] = e' ∧ (g11, Cl 66 [.pointer (some ⟨g13, 0, none⟩)]) :: (g12, Cl 56 [.int .i64 (x14), .int .i64 (x15), .int .i64 (x16)]) :: (g13, Cl 94 [.slice A17 (l20).length c18, .slice A21 (l24).length c22, .slice A25 (l28).length c26, .slice A29 (l32).length c30, .slice A33 (l36).length c34, .int .i64 (x37), .slice A38 (l41).length c39, .slice A8 (l44).length c9]) :: (hs2 ++ (hs7 ++ R)) = hp' ∧ b.Le b121) hl125 (e' := [(0, .slice A3 (l42).length c4), (1, .func (.func 39) #[] #[.pointer (some ⟨g11, 0, none⟩), .pointer (some ⟨g12, 0, none⟩)]), (7, .int .i64 ((l42.length : Int))), (8, .int .i64 0)]) ⟨rfl, rfl, rfl, rfl, trivial⟩ (.refl _) ⟨rfl, rfl, (Base.Le.refl _)⟩ ?_ ?_
  ·
   rintro k123 _ b121 _ _ oL98 hknL98 ⟨rfl, rfl, hle122⟩ hstepL98 houtL98
   unfold mSlicesIndexFunc_6_L98 at hstepL98
   have hm := hstepL98
   refine c_sr ?_
   refine t_st rfl (st_lss_t rfl rfl (by omega)) ?_
   refine t_ne ?_
   refine c_seq ?_
   refine c_cond_t rfl ?_
   refine c_skip ?_
   refine x_then_normal ?_
   refine c_seq ?_
   refine c_block ?_
   refine c_sr ?_
   refine t_mv rfl rfl ?_
   refine t_as rfl rfl ?_
   refine t_ne ?_
   refine c_sr ?_
   refine t_mv rfl rfl ?_
   refine t_mv rfl rfl ?_
   refine t_mv rfl rfl ?_
   obtain ⟨x127, h128, hm⟩ := bindS hm
   obtain ⟨j129, hj130, hx131⟩ := idx_some h128
   obtain ⟨cs132, hs137, P138, P139, hq140, hr133, hcs134, hA135, hlt136, hb141, hho142⟩ := OS.get (sz := 1) rfl (by decide) (h5.le hle122) hx131
   obtain ⟨rfl, rfl⟩ := hr133
   refine t_st rfl (st_index_old j129 rfl rfl hj130 hlt136 hA135 sl37) ?_
   refine t_st rfl (st_load_rd rfl one3 (fun w ho => hcs134 w _ ho (.cons _ (.cons _ (.cons _ (List.sublist_append_left _ _)))) 0 _ rfl)) ?_
   obtain ⟨x143, hcl144, hm⟩ := bindS hm
   refine t_pullb 2 rfl ?_
   refine t_pullb 2 rfl ?_
   refine t_pullb 2 rfl ?_
   refine t_front2 [_, _, _] hs2 hs7 R rfl ?_
   refine t_out1 [_, _, _] [] hs7 (hs2 ++ R) rfl ?_
   refine t_callvG #[] #[.pointer (some ⟨g11, 0, none⟩), .pointer (some ⟨g12, 0, none⟩)] [.int .i64 (x127)] rfl rfl call39 rfl (cLineLegsAdd_1 _ _ x127 x14 x15 x16 l20 l24 l28 l32 l36 x37 l41 l44 g11 g12 g13 A17 c18 A21 c22 A25 c26 A29 c30 A33 c34 A38 c39 A8 c9 hs7 (h19.le hle122) (h23.le hle122) (h27.le hle122) (h31.le hle122) (h35.le hle122) (h40.le hle122) (h10.le hle122) x143 hcl144) ?_
   rintro _ b145 _ hle146 ⟨rfl, rfl⟩
   refine t_in1 [_, _, _] [] hs7 (hs2 ++ R) rfl ?_
   refine t_ne ?_
   refine c_cond _ rfl (fun hc147 => ?_) (fun hc147 => ?_)
   ·
    rw [if_pos hc147] at hm
    refine c_sr ?_
    refine t_mv rfl rfl ?_
    refine t_as rfl rfl ?_
    refine t_ne ?_
    refine c_ret ?_
    refine x_block_ret ?_
    refine x_then_ret ?_
    refine x_then_ret ?_
    refine x_block_ret ?_
    refine x_then_ret ?_
    have hq148 := houtL98 _ (Option.some.inj hm).symm
    rw [hq148] at hk126
    have hm := elimR hk126
    obtain rfl := some1 hm
    refine x_pullb 2 rfl ?_
    refine x_pullb 2 rfl ?_
    refine x_pullb 2 rfl ?_
    refine x_front2 [_, _, _] hs7 hs2 R rfl ?_
    exact retM (rs := [.tmp 4]) [.int .i64 ((k123 : Int))] (hle122.trans hle146) (by decide) rfl ⟨rfl, trivial⟩ rfl (.refl _) ⟨rfl, rfl⟩
   ·
    rw [if_neg (fun hh => Bool.noConfusion (hh.symm.trans hc147))] at hm
    refine c_skip ?_
    refine x_block_normal ?_
    refine x_then_normal ?_
    refine c_region ?_
    refine t_st rfl (st_add rfl rfl (by omega)) ?_
    refine t_mv rfl rfl ?_
    refine t_nil ?_
    refine x_pullb 2 rfl ?_
    refine x_pullb 2 rfl ?_
    refine x_pullb 2 rfl ?_
    refine x_front2 [_, _, _] hs7 hs2 R rfl ?_
    exact x_againM () (Option.some.inj hm).symm (e' := [(0, .slice A3 (l42).length c4), (1, .func (.func 39) #[] #[.pointer (some ⟨g11, 0, none⟩), .pointer (some ⟨g12, 0, none⟩)]), (7, .int .i64 ((l42.length : Int))), (8, .int .i64 ((k123 : Int) + 1))]) ⟨rfl, rfl, rfl, rfl, trivial⟩ (.refl _) ⟨rfl, rfl, ((hle122.trans hle146))⟩
  ·
   rintro _ b121 _ _ ⟨rfl, rfl, hle122⟩ hq149
   rw [hq149] at hk126
   have hm := elimL hk126
   refine c_sr ?_
   refine t_st rfl (st_lss_f rfl rfl (by omega)) ?_
   refine t_ne ?_
   refine c_seq ?_
   refine c_cond_f rfl ?_
   refine c_exit ?_
   refine x_then_exit ?_
   refine x_then_exit ?_
   refine x_block_out ?_
   refine x_then_normal ?_
   refine c_sr ?_
   refine t_as rfl rfl ?_
   refine t_ne ?_
   refine c_ret ?_
   obtain rfl := some1 hm
   refine x_pullb 2 rfl ?_
   refine x_pullb 2 rfl ?_
   refine x_pullb 2 rfl ?_
   refine x_front2 [_, _, _] hs2 hs7 R rfl ?_
   refine x_front2 [_, _, _] hs7 hs2 R rfl ?_
   exact retM (rs := [.tmp 4]) [.int .i64 ((-1))] hle122 (by decide) rfl ⟨rfl, trivial⟩ rfl (.refl _) ⟨rfl, rfl⟩

set_option maxRecDepth 20000 in
theorem cSlicesContainsFunc_6 (b : Base) (R : Hp) (x14 : Int) (x15 : Int) (x16 : Int) (l20 : (List ByteArray)) (l24 : (List ApiSection)) (l28 : (List ApiLink)) (l32 : (List ApiSignal)) (l36 : (List ApiGate)) (x37 : Int) (l41 : (List ApiRoute)) (l42 : (List Int)) (l44 : (List (List ApiNeed))) (g11 : Nat) (g12 : Nat) (g13 : Nat) (A17 : Option Addr) (c18 : Nat) (A21 : Option Addr) (c22 : Nat) (A25 : Option Addr) (c26 : Nat) (A29 : Option Addr) (c30 : Nat) (A33 : Option Addr) (c34 : Nat) (A38 : Option Addr) (c39 : Nat) (A3 : Option Addr) (c4 : Nat) (hs2 : Hp) (A8 : Option Addr) (c9 : Nat) (hs7 : Hp) (h19 : FZ RT.str b.w A17 c18 l20) (h23 : FZ rApiSection b.w A21 c22 l24) (h27 : FZ rApiLink b.w A25 c26 l28) (h31 : FZ rApiSignal b.w A29 c30 l32) (h35 : FZ rApiGate b.w A33 c34 l36) (h40 : FZ rApiRoute b.w A38 c39 l41) (h5 : OS 3 (OT.fr (RT.int .i64)) b.w (.slice A3 l42.length c4) l42 hs2) (hnz43 : (A3 = none ↔ l42 = [])) (h10 : OS 38 (OT.fr (RT.list rApiNeed)) b.w (.slice A8 l44.length c9) l44 hs7) (x49 : Bool) (hm : mSlicesContainsFunc_6 x14 x15 x16 l20 l24 l28 l32 l36 x37 l41 l42 l44 = some x49) :
    CallsG Tryz.prog 38 [.slice A3 (l42).length c4, .func (.func 39) #[] #[.pointer (some ⟨g11, 0, none⟩), .pointer (some ⟨g12, 0, none⟩)]] b ((g11, Cl 66 [.pointer (some ⟨g13, 0, none⟩)]) :: (g12, Cl 56 [.int .i64 (x14), .int .i64 (x15), .int .i64 (x16)]) :: (g13, Cl 94 [.slice A17 (l20).length c18, .slice A21 (l24).length c22, .slice A25 (l28).length c26, .slice A29 (l32).length c30, .slice A33 (l36).length c34, .int .i64 (x37), .slice A38 (l41).length c39, .slice A8 (l44).length c9]) :: (hs2 ++ (hs7 ++ R))) (fun v b' hp' => .bool (x49) = v ∧ (g11, Cl 66 [.pointer (some ⟨g13, 0, none⟩)]) :: (g12, Cl 56 [.int .i64 (x14), .int .i64 (x15), .int .i64 (x16)]) :: (g13, Cl 94 [.slice A17 (l20).length c18, .slice A21 (l24).length c22, .slice A25 (l28).length c26, .slice A29 (l32).length c30, .slice A33 (l36).length c34, .int .i64 (x37), .slice A38 (l41).length c39, .slice A8 (l44).length c9]) :: (hs2 ++ (hs7 ++ R)) = hp') := by
  refine fn_enterG 9 Tryz.func38 rfl Tryz.ntmps38 rfl ?_
  unfold mSlicesContainsFunc_6 at hm
  refine c_sr ?_
  refine t_as rfl rfl ?_
  refine t_ne ?_
  refine c_sr ?_
  refine t_mv rfl rfl ?_
  refine t_mv rfl rfl ?_
  obtain ⟨x50, hcl51, hm⟩ := bindS hm
  refine t_pullb 2 rfl ?_
  refine t_pullb 2 rfl ?_
  refine t_pullb 2 rfl ?_
  refine t_front2 [_, _, _] hs2 hs7 R rfl ?_
  refine t_front2 [_, _, _] hs7 hs2 R rfl ?_
  refine t_out2 [_, _, _] [] hs2 hs7 R rfl ?_
  refine t_callG _ rfl call63 rfl (cSlicesIndexFunc_6 _ _ x14 x15 x16 l20 l24 l28 l32 l36 x37 l41 l42 l44 g11 g12 g13 A17 c18 A21 c22 A25 c26 A29 c30 A33 c34 A38 c39 A3 c4 hs2 A8 c9 hs7 h19 h23 h27 h31 h35 h40 h5 hnz43 h10 x50 hcl51) ?_
  rintro _ b52 _ hle53 ⟨rfl, rfl⟩
  refine t_in2 [_, _, _] [] hs2 hs7 R rfl ?_
  refine t_st rfl (st_geq rfl rfl) ?_
  refine t_as rfl rfl ?_
  refine t_ne ?_
  refine c_ret ?_
  obtain rfl := some1 hm
  refine x_pullb 2 rfl ?_
  refine x_pullb 2 rfl ?_
  refine x_pullb 2 rfl ?_
  refine x_front2 [_, _, _] hs2 hs7 R rfl ?_
  refine x_front2 [_, _, _] hs7 hs2 R rfl ?_
  exact retM (rs := [.tmp 4]) [.bool (decide (0 ≤ x50))] hle53 (by decide) rfl ⟨rfl, trivial⟩ rfl (.refl _) ⟨rfl, rfl⟩

set_option maxRecDepth 20000 in
theorem cLineLegsAdd_2 (b : Base) (R : Hp) (x12 : Int) (l16 : (List ByteArray)) (l20 : (List ApiSection)) (l24 : (List ApiLink)) (l28 : (List ApiSignal)) (l32 : (List ApiGate)) (x33 : Int) (l37 : (List ApiRoute)) (l38 : (List Int)) (l40 : (List (List ApiNeed))) (g11 : Nat) (A13 : Option Addr) (c14 : Nat) (A17 : Option Addr) (c18 : Nat) (A21 : Option Addr) (c22 : Nat) (A25 : Option Addr) (c26 : Nat) (A29 : Option Addr) (c30 : Nat) (A34 : Option Addr) (c35 : Nat) (A3 : Option Addr) (c4 : Nat) (hs2 : Hp) (A8 : Option Addr) (c9 : Nat) (hs7 : Hp) (h15 : FZ RT.str b.w A13 c14 l16) (h19 : FZ rApiSection b.w A17 c18 l20) (h23 : FZ rApiLink b.w A21 c22 l24) (h27 : FZ rApiSignal b.w A25 c26 l28) (h31 : FZ rApiGate b.w A29 c30 l32) (h36 : FZ rApiRoute b.w A34 c35 l37) (h5 : OS 3 (OT.fr (RT.int .i64)) b.w (.slice A3 l38.length c4) l38 hs2) (hnz39 : (A3 = none ↔ l38 = [])) (h10 : OS 38 (OT.fr (RT.list rApiNeed)) b.w (.slice A8 l40.length c9) l40 hs7) (x977 : Int) (hm : mLineLegsAdd_2 x12 l16 l20 l24 l28 l32 x33 l37 l38 l40 = some x977) :
    CallsG Tryz.prog 22 [.pointer (some ⟨g11, 0, none⟩), .slice A3 (l38).length c4, .int .i64 (x12)] b ((g11, Cl 94 [.slice A13 (l16).length c14, .slice A17 (l20).length c18, .slice A21 (l24).length c22, .slice A25 (l28).length c26, .slice A29 (l32).length c30, .int .i64 (x33), .slice A34 (l37).length c35, .slice A8 (l40).length c9]) :: (hs2 ++ (hs7 ++ R))) (fun v b' hp' => .int .i64 (x977) = v ∧ (g11, Cl 94 [.slice A13 (l16).length c14, .slice A17 (l20).length c18, .slice A21 (l24).length c22, .slice A25 (l28).length c26, .slice A29 (l32).length c30, .int .i64 (x33), .slice A34 (l37).length c35, .slice A8 (l40).length c9]) :: (hs2 ++ (hs7 ++ R)) = hp') := by
  refine fn_enterG 138 Tryz.func22 rfl Tryz.ntmps22 rfl ?_
  unfold mLineLegsAdd_2 at hm
  refine c_sr ?_
  refine t_do rfl (u_box _ rfl rfl) ?_
  rintro _ _ ⟨g978, rfl, rfl⟩
  refine t_as rfl rfl ?_
  refine t_ne ?_
  refine c_seq ?_
  refine c_sr ?_
  refine t_mv rfl rfl ?_
  refine t_st rfl (st_load 0 rfl one66 rfl rfl) ?_
  refine t_st rfl (st_nil rfl) ?_
  refine t_st rfl (st_field rfl fld94_2) ?_
  refine t_st rfl (st_load 1 rfl one47 rfl rfl) ?_
  refine t_st rfl (st_len rfl sl47) ?_
  obtain ⟨_, h979, hm⟩ := bindS hm
  have h979 := (chk_some h979).2
  refine t_st rfl (st_sub rfl rfl h979) ?_
  obtain ⟨x980, hcl981, hm⟩ := bindS hm
  refine t_do rfl (u_callW0 _ call19 rfl (fun w ho => cLineWithin _ [] x12 0 ((l37.length : Int) - 1) x980 hcl981) (fun _ _ _ h => h.2.symm)) ?_
  rintro _ _ ⟨⟨_, rfl, _⟩, rfl⟩
  refine t_st rfl (st_not rfl) ?_
  refine t_ne ?_
  refine c_cond _ rfl (fun hc982 => ?_) (fun hc982 => ?_)
  ·
   rw [if_neg (fun hh => Bool.noConfusion (hh.symm.trans (notT hc982)))] at hm
   refine c_sr ?_
   refine t_as rfl rfl ?_
   refine t_ne ?_
   refine c_ret ?_
   refine x_then_ret ?_
   obtain rfl := some1 hm
   refine x_pullb 1 rfl ?_
   refine x_front2 [_, _] hs2 hs7 R rfl ?_
   refine x_front2 [_, _] hs7 hs2 R rfl ?_
   exact retM (rs := [.tmp 6]) [.int .i64 (3)] (Base.Le.refl _) (by decide) rfl ⟨rfl, trivial⟩ rfl (.cons_cons _ (.cons _ (.refl _))) ⟨rfl, rfl⟩
  ·
   rw [if_pos (notF hc982)] at hm
   refine c_skip ?_
   refine x_then_normal ?_
   refine c_sr ?_
   refine t_st rfl (st_load 0 rfl one66 rfl rfl) ?_
   refine t_st rfl (st_nil rfl) ?_
   refine t_st rfl (st_field rfl fld94_2) ?_
   refine t_st rfl (st_load 1 rfl one47 rfl rfl) ?_
   refine t_mv rfl rfl ?_
   obtain ⟨x983, h984, hm⟩ := bindS hm
   obtain ⟨j985, hj986, hx987⟩ := idx_some h984
   obtain ⟨cs988, hr989, hcs990, hA991, hlt992⟩ := FZ.get (sz := 3) rfl (by decide) h36 hx987
   obtain ⟨_, _, rfl, rfl, ⟨_, _, rfl, rfl, ⟨A993, c994, rfl, h995⟩⟩⟩ := hr989
   refine t_st rfl (st_index_old j985 rfl rfl hj986 hlt992 hA991 sl47) ?_
   refine t_st rfl (st_loadN_old (vs := [.int .i64 (x983.From), .int .i64 (x983.To), .slice A993 (x983.Steps).length c994]) 3 rfl agg54 hA991 rfl (fun j u hu => hcs990 j u hu)) ?_
   refine t_do rfl (u_alloc [.int .i64 0, .int .i64 0, .slice none 0 0] zero54 rfl) ?_
   rintro _ _ ⟨g996, rfl, rfl⟩
   refine t_do rfl (u_storeN (vs := [_, _, _]) 0 3 rfl rfl rfl siz54 rfl (mem_c rfl (mem_c rfl (mem_c rfl mem_n))) rfl (by simp)) ?_
   rintro _ _ rfl
   refine t_ne ?_
   refine c_seq ?_
   refine c_block ?_
   obtain ⟨x1110, hj1111, hk1111⟩ := bindS hm
   refine c_join (fun b1108 e' hp' => [(1, .slice A3 (l38).length c4), (2, .int .i64 (x12)), (3, .pointer (some ⟨g978, 0, none⟩)), (7, .pointer (some ⟨g996, 0, none⟩)), (30, .bool (x1110))] = e' ∧ (g978, Cl 66 [.pointer (some ⟨g11, 0, none⟩)]) :: (g996, Cl 54 [.int .i64 (x983.From), .int .i64 (x983.To), .slice A993 (x983.Steps).length c994]) :: (g11, Cl 94 [.slice A13 (l16).length c14, .slice A17 (l20).length c18, .slice A21 (l24).length c22, .slice A25 (l28).length c26, .slice A29 (l32).length c30, .int .i64 (x33), .slice A34 (l37).length c35, .slice A8 (l40).length c9]) :: (hs2 ++ (hs7 ++ R)) = hp' ∧ b.Le b1108) ?_ ?_
   ·
    have hm := hj1111
    obtain ⟨x1136, hj1137, hk1137⟩ := bindS hm
    refine c_join (fun b1134 e' hp' => [(1, .slice A3 (l38).length c4), (2, .int .i64 (x12)), (3, .pointer (some ⟨g978, 0, none⟩)), (7, .pointer (some ⟨g996, 0, none⟩)), (30, .bool (x1136))] = e' ∧ (g978, Cl 66 [.pointer (some ⟨g11, 0, none⟩)]) :: (g996, Cl 54 [.int .i64 (x983.From), .int .i64 (x983.To), .slice A993 (x983.Steps).length c994]) :: (g11, Cl 94 [.slice A13 (l16).length c14, .slice A17 (l20).length c18, .slice A21 (l24).length c22, .slice A25 (l28).length c26, .slice A29 (l32).length c30, .int .i64 (x33), .slice A34 (l37).length c35, .slice A8 (l40).length c9]) :: (hs2 ++ (hs7 ++ R)) = hp' ∧ b.Le b1134) ?_ ?_
    ·
     have hm := hj1137
     by_cases hc1149 : (l38.length : Int) = 0
     ·
      rw [if_pos hc1149] at hm
      obtain ⟨x1150, h1151, hm⟩ := bindS hm
      refine D_drawI mixed (.refl _) ?_
      refine E_st 0 rfl (st_move rfl) ?_
      refine E_st 1 rfl (st_len rfl sl37) ?_
      refine E_st 2 rfl (st_eql_t rfl rfl hc1149) ?_
      refine E_st 3 rfl (st_move rfl) ?_
      refine E_yes 4 34 rfl (st_load 1 rfl one66 rfl rfl) ?_
      refine E_yes 5 34 rfl (st_nil rfl) ?_
      refine E_yes 6 34 rfl (st_field rfl fld94_0) ?_
      refine E_yes 7 34 rfl (st_field rfl fld28_3) ?_
      refine E_yes 8 34 rfl (st_load 2 rfl one25 rfl rfl) ?_
      refine E_yes 9 34 rfl (st_field rfl fld54_0) ?_
      refine E_yes 10 34 rfl (st_load 0 rfl one3 rfl rfl) ?_
      obtain ⟨j1152, hj1153, hx1154⟩ := idx_some h1151
      obtain ⟨cs1155, hr1156, hcs1157, hA1158, hlt1159⟩ := FZ.get (sz := 2) rfl (by decide) h27 hx1154
      obtain ⟨_, _, rfl, rfl, rfl⟩ := hr1156
      refine E_yes 11 34 rfl (st_index_old j1152 rfl rfl hj1153 hlt1159 hA1158 sl25) ?_
      refine E_yes 12 34 rfl (st_field_old rfl hA1158 fld96_0) ?_
      refine E_yes 13 34 rfl (st_load_old rfl one3 (hcs1157 0 _ rfl)) ?_
      refine E_yes 14 34 rfl (st_load 1 rfl one66 rfl rfl) ?_
      refine E_yes 15 34 rfl (st_nil rfl) ?_
      refine E_yes 16 34 rfl (st_field rfl fld94_1) ?_
      refine E_yes 17 34 rfl (st_load 2 rfl one3 rfl rfl) ?_
      refine E_yes 18 34 rfl (st_neq rfl rfl) ?_
      refine E_st 19 rfl (st_pick_t rfl rfl) ?_
      refine E_st 20 rfl (st_assign rfl) ?_
      refine E_out ?_
      refine D_done (by kernel_rfl) ?_
      obtain rfl := some1 hm
      refine x_pullb 2 rfl ?_
      refine x_pullb 1 rfl ?_
      refine x_pullb 2 rfl ?_
      refine x_front2 [_, _, _] hs2 hs7 R rfl ?_
      refine x_front2 [_, _, _] hs7 hs2 R rfl ?_
      exact x_join (e' := [(1, .slice A3 (l38).length c4), (2, .int .i64 (x12)), (3, .pointer (some ⟨g978, 0, none⟩)), (7, .pointer (some ⟨g996, 0, none⟩)), (30, .bool (decide (x1150.Section ≠ x33)))]) ⟨rfl, rfl, rfl, rfl, rfl, trivial⟩ (.refl _) ⟨rfl, rfl, (Base.Le.refl _)⟩
     ·
      rw [if_neg hc1149] at hm
      refine D_drawI mixed (.refl _) ?_
      refine E_st 0 rfl (st_move rfl) ?_
      refine E_st 1 rfl (st_len rfl sl37) ?_
      refine E_st 2 rfl (st_eql_f rfl rfl hc1149) ?_
      refine E_st 3 rfl (st_move rfl) ?_
      refine E_no 4 34 rfl rfl rfl ?_
      refine E_no 5 34 rfl rfl rfl ?_
      refine E_no 6 34 rfl rfl rfl ?_
      refine E_no 7 34 rfl rfl rfl ?_
      refine E_no 8 34 rfl rfl rfl ?_
      refine E_no 9 34 rfl rfl rfl ?_
      refine E_no 10 34 rfl rfl rfl ?_
      refine E_no 11 34 rfl rfl rfl ?_
      refine E_no 12 34 rfl rfl rfl ?_
      refine E_no 13 34 rfl rfl rfl ?_
      refine E_no 14 34 rfl rfl rfl ?_
      refine E_no 15 34 rfl rfl rfl ?_
      refine E_no 16 34 rfl rfl rfl ?_
      refine E_no 17 34 rfl rfl rfl ?_
      refine E_no 18 34 rfl rfl rfl ?_
      refine E_st 19 rfl (st_pick_f rfl rfl) ?_
      refine E_st 20 rfl (st_assign rfl) ?_
      refine E_out ?_
      refine D_done (by kernel_rfl) ?_
      obtain rfl := some1 hm
      refine x_pullb 2 rfl ?_
      refine x_pullb 1 rfl ?_
      refine x_pullb 2 rfl ?_
      refine x_front2 [_, _, _] hs2 hs7 R rfl ?_
      refine x_front2 [_, _, _] hs7 hs2 R rfl ?_
      exact x_join (e' := [(1, .slice A3 (l38).length c4), (2, .int .i64 (x12)), (3, .pointer (some ⟨g978, 0, none⟩)), (7, .pointer (some ⟨g996, 0, none⟩)), (30, .bool (false))]) ⟨rfl, rfl, rfl, rfl, rfl, trivial⟩ (.refl _) ⟨rfl, rfl, (Base.Le.refl _)⟩
    ·
     rintro b1134 _ _ ⟨rfl, rfl, hle1135⟩
     have hm := hk1137
     refine c_cond _ rfl (fun hc1160 => ?_) (fun hc1160 => ?_)
     ·
      rw [if_pos hc1160] at hm
      refine c_skip ?_
      obtain rfl := some1 hm
      refine x_pullb 2 rfl ?_
      refine x_pullb 2 rfl ?_
      refine x_pullb 2 rfl ?_
      refine x_front2 [_, _, _] hs2 hs7 R rfl ?_
      refine x_front2 [_, _, _] hs7 hs2 R rfl ?_
      exact x_join (e' := [(1, .slice A3 (l38).length c4), (2, .int .i64 (x12)), (3, .pointer (some ⟨g978, 0, none⟩)), (7, .pointer (some ⟨g996, 0, none⟩)), (30, .bool (x1136))]) ⟨rfl, rfl, rfl, rfl, rfl, trivial⟩ (.refl _) ⟨rfl, rfl, hle1135⟩
     ·
      rw [if_neg (fun hh => Bool.noConfusion (hh.symm.trans hc1160))] at hm
      by_cases hc1192 : 0 < (l38.length : Int)
      ·
       rw [if_pos hc1192] at hm
       obtain ⟨_, h1193, hm⟩ := bindS hm
       obtain ⟨x1194, h1195, hm⟩ := bindS hm
       obtain ⟨x1210, h1211, hm⟩ := bindS hm
       refine D_drawI mixed (.refl _) ?_
       refine E_st 0 rfl (st_move rfl) ?_
       refine E_st 1 rfl (st_len rfl sl37) ?_
       refine E_st 2 rfl (st_gtr_t rfl rfl hc1192) ?_
       refine E_st 3 rfl (st_move rfl) ?_
       refine E_yes 4 54 rfl (st_field rfl fld54_0) ?_
       refine E_yes 5 54 rfl (st_load 1 rfl one3 rfl rfl) ?_
       refine E_yes 6 54 rfl (st_load 0 rfl one66 rfl rfl) ?_
       refine E_yes 7 54 rfl (st_nil rfl) ?_
       refine E_yes 8 54 rfl (st_field rfl fld94_2) ?_
       refine E_yes 9 54 rfl (st_load 2 rfl one47 rfl rfl) ?_
       refine E_yes 10 54 rfl (st_move rfl) ?_
       refine E_yes 11 54 rfl (st_move rfl) ?_
       refine E_yes 12 54 rfl (st_len rfl sl37) ?_
       have h1193 := (chk_some h1193).2
       refine E_yes 13 54 rfl (st_sub rfl rfl h1193) ?_
       obtain ⟨j1196, hj1197, hx1198⟩ := idx_some h1195
       obtain ⟨cs1199, hs1204, P1205, P1206, hq1207, hr1200, hcs1201, hA1202, hlt1203, hb1208, hho1209⟩ := OS.get (sz := 1) rfl (by decide) (h5.le hle1135) hx1198
       obtain ⟨rfl, rfl⟩ := hr1200
       refine E_yes 14 54 rfl (st_index_old j1196 rfl rfl hj1197 hlt1203 hA1202 sl37) ?_
       refine E_yes 15 54 rfl (st_load_rd rfl one3 (fun w ho => hcs1201 w _ ho (.cons _ (.cons _ (.cons _ (List.sublist_append_left _ _)))) 0 _ rfl)) ?_
       obtain ⟨j1212, hj1213, hx1214⟩ := idx_some h1211
       obtain ⟨cs1215, hr1216, hcs1217, hA1218, hlt1219⟩ := FZ.get (sz := 3) rfl (by decide) (h36.le hle1135) hx1214
       obtain ⟨_, _, rfl, rfl, ⟨_, _, rfl, rfl, ⟨A1220, c1221, rfl, h1222⟩⟩⟩ := hr1216
       refine E_yes 16 54 rfl (st_index_old j1212 rfl rfl hj1213 hlt1219 hA1218 sl47) ?_
       refine E_yes 17 54 rfl (st_field_old rfl hA1218 fld54_1) ?_
       refine E_yes 18 54 rfl (st_load_old rfl one3 (hcs1217 1 _ rfl)) ?_
       refine E_yes 19 54 rfl (st_neq rfl rfl) ?_
       refine E_st 20 rfl (st_pick_t rfl rfl) ?_
       refine E_st 21 rfl (st_assign rfl) ?_
       refine E_out ?_
       refine D_done (by kernel_rfl) ?_
       obtain rfl := some1 hm
       refine x_pullb 2 rfl ?_
       refine x_pullb 2 rfl ?_
       refine x_pullb 2 rfl ?_
       refine x_front2 [_, _, _] hs2 hs7 R rfl ?_
       refine x_front2 [_, _, _] hs7 hs2 R rfl ?_
       exact x_join (e' := [(1, .slice A3 (l38).length c4), (2, .int .i64 (x12)), (3, .pointer (some ⟨g978, 0, none⟩)), (7, .pointer (some ⟨g996, 0, none⟩)), (30, .bool (decide (x983.From ≠ x1210.To)))]) ⟨rfl, rfl, rfl, rfl, rfl, trivial⟩ (.refl _) ⟨rfl, rfl, hle1135⟩
      ·
       rw [if_neg hc1192] at hm
       refine D_drawI mixed (.refl _) ?_
       refine E_st 0 rfl (st_move rfl) ?_
       refine E_st 1 rfl (st_len rfl sl37) ?_
       refine E_st 2 rfl (st_gtr_f rfl rfl hc1192) ?_
       refine E_st 3 rfl (st_move rfl) ?_
       refine E_no 4 54 rfl rfl rfl ?_
       refine E_no 5 54 rfl rfl rfl ?_
       refine E_no 6 54 rfl rfl rfl ?_
       refine E_no 7 54 rfl rfl rfl ?_
       refine E_no 8 54 rfl rfl rfl ?_
       refine E_no 9 54 rfl rfl rfl ?_
       refine E_no 10 54 rfl rfl rfl ?_
       refine E_no 11 54 rfl rfl rfl ?_
       refine E_no 12 54 rfl rfl rfl ?_
       refine E_no 13 54 rfl rfl rfl ?_
       refine E_no 14 54 rfl rfl rfl ?_
       refine E_no 15 54 rfl rfl rfl ?_
       refine E_no 16 54 rfl rfl rfl ?_
       refine E_no 17 54 rfl rfl rfl ?_
       refine E_no 18 54 rfl rfl rfl ?_
       refine E_no 19 54 rfl rfl rfl ?_
       refine E_st 20 rfl (st_pick_f rfl rfl) ?_
       refine E_st 21 rfl (st_assign rfl) ?_
       refine E_out ?_
       refine D_done (by kernel_rfl) ?_
       obtain rfl := some1 hm
       refine x_pullb 2 rfl ?_
       refine x_pullb 2 rfl ?_
       refine x_pullb 2 rfl ?_
       refine x_front2 [_, _, _] hs2 hs7 R rfl ?_
       refine x_front2 [_, _, _] hs7 hs2 R rfl ?_
       exact x_join (e' := [(1, .slice A3 (l38).length c4), (2, .int .i64 (x12)), (3, .pointer (some ⟨g978, 0, none⟩)), (7, .pointer (some ⟨g996, 0, none⟩)), (30, .bool (false))]) ⟨rfl, rfl, rfl, rfl, rfl, trivial⟩ (.refl _) ⟨rfl, rfl, hle1135⟩
   ·
    rintro b1108 _ _ ⟨rfl, rfl, hle1109⟩
    have hm := hk1111
    refine c_cond _ rfl (fun hc1223 => ?_) (fun hc1223 => ?_)
    ·
     rw [if_pos hc1223] at hm
     refine c_sr ?_
     refine t_as rfl rfl ?_
     refine t_ne ?_
     refine c_ret ?_
     refine x_block_ret ?_
     refine x_then_ret ?_
     obtain rfl := some1 hm
     refine x_pullb 2 rfl ?_
     refine x_front2 [_, _, _] hs2 hs7 R rfl ?_
     refine x_front2 [_, _, _] hs7 hs2 R rfl ?_
     exact retM (rs := [.tmp 6]) [.int .i64 (5)] hle1109 (by decide) rfl ⟨rfl, trivial⟩ rfl (.cons_cons _ (.cons _ (.cons _ (.refl _)))) ⟨rfl, rfl⟩
    ·
     rw [if_neg (fun hh => Bool.noConfusion (hh.symm.trans hc1223))] at hm
     refine c_skip ?_
     refine x_block_normal ?_
     refine x_then_normal ?_
     refine c_seq ?_
     refine c_sr ?_
     refine t_st rfl (st_field rfl fld54_2) ?_
     refine t_st rfl (st_load 1 rfl one52 rfl rfl) ?_
     refine t_st rfl (st_len rfl sl52) ?_
     refine t_mv rfl rfl ?_
     refine t_ne ?_
     refine c_block ?_
     have hb1225 : x983.Steps.length ≤ 9223372036854775807 := (FZ.bd (h995.le hle1109))
     refine c_pullb 2 rfl ?_
     refine c_pullb 2 rfl ?_
     refine c_pullb 2 rfl ?_
     refine c_front2 [_, _, _] hs2 hs7 R rfl ?_
     refine c_front2 [_, _, _] hs7 hs2 R rfl ?_
     obtain ⟨t1265, hl1266, hk1267⟩ := bindS hm
     refine c_forM (fun k1264 => fun _ => fun b1262 e' hp' => [(1, .slice A3 (l38).length c4), (2, .int .i64 (x12)), (3, .pointer (some ⟨g978, 0, none⟩)), (7, .pointer (some ⟨g996, 0, none⟩)), (73, .slice A993 (x983.Steps).length c994), (74, .int .i64 ((x983.Steps.length : Int))), (75, .int .i64 ((k1264 : Int)))] = e' ∧ (g978, Cl 66 [.pointer (some ⟨g11, 0, none⟩)]) :: (g996, Cl 54 [.int .i64 (x983.From), .int .i64 (x983.To), .slice A993 (x983.Steps).length c994]) :: (g11, Cl 94 [.slice A13 (l16).length c14, .slice A17 (l20).length c18, .slice A21 (l24).length c22, .slice A25 (l28).length c26, .slice A29 (l32).length c30, .int .i64 (x33), .slice A34 (l37).length c35, .slice A8 (l40).length c9]) :: (hs2 ++ (hs7 ++ R)) = hp' ∧ b1108.Le b1262) hl1266 (e' := [(1, .slice A3 (l38).length c4), (2, .int .i64 (x12)), (3, .pointer (some ⟨g978, 0, none⟩)), (7, .pointer (some ⟨g996, 0, none⟩)), (73, .slice A993 (x983.Steps).length c994), (74, .int .i64 ((x983.Steps.length : Int))), (75, .int .i64 0)]) ⟨rfl, rfl, rfl, rfl, rfl, rfl, rfl, trivial⟩ (.refl _) ⟨rfl, rfl, (Base.Le.refl _)⟩ ?_ ?_
     ·
      rintro k1264 _ b1262 _ _ oL1224 hknL1224 ⟨rfl, rfl, hle1263⟩ hstepL1224 houtL1224
      unfold mLineLegsAdd_2_L1224 at hstepL1224
      have hm := hstepL1224
      refine c_sr ?_
      refine t_st rfl (st_lss_t rfl rfl (by omega)) ?_
      refine t_ne ?_
      refine c_seq ?_
      refine c_cond_t rfl ?_
      refine c_skip ?_
      refine x_then_normal ?_
      refine c_seq ?_
      refine c_block ?_
      refine c_sr ?_
      obtain ⟨x1268, h1269, hm⟩ := bindS hm
      obtain ⟨j1270, hj1271, hx1272⟩ := idx_some h1269
      obtain ⟨cs1273, hr1274, hcs1275, hA1276, hlt1277⟩ := FZ.get (sz := 3) rfl (by decide) (h995.le (hle1109.trans hle1263)) hx1272
      obtain ⟨_, _, rfl, rfl, ⟨_, _, rfl, rfl, rfl⟩⟩ := hr1274
      refine t_st rfl (st_index_old j1270 rfl rfl hj1271 hlt1277 hA1276 sl52) ?_
      refine t_st rfl (st_loadN_old (vs := [.int .i64 (x1268.Section), .int .i64 (x1268.In), .int .i64 (x1268.Out)]) 3 rfl agg56 hA1276 rfl (fun j u hu => hcs1275 j u hu)) ?_
      refine t_do rfl (u_alloc [.int .i64 0, .int .i64 0, .int .i64 0] zero56 rfl) ?_
      rintro _ _ ⟨g1278, rfl, rfl⟩
      refine t_do rfl (u_storeN (vs := [_, _, _]) 0 3 rfl rfl rfl siz56 rfl (mem_c rfl (mem_c rfl (mem_c rfl mem_n))) rfl (by simp)) ?_
      rintro _ _ rfl
      refine t_ne ?_
      obtain ⟨x1291, hj1292, hk1292⟩ := bindS hm
      refine c_join (fun b1289 e' hp' => [(1, .slice A3 (l38).length c4), (2, .int .i64 (x12)), (3, .pointer (some ⟨g978, 0, none⟩)), (7, .pointer (some ⟨g996, 0, none⟩)), (73, .slice A993 (x983.Steps).length c994), (74, .int .i64 ((x983.Steps.length : Int))), (75, .int .i64 ((k1264 : Int))), (90, .bool (x1291))] = e' ∧ (g978, Cl 66 [.pointer (some ⟨g11, 0, none⟩)]) :: (g996, Cl 54 [.int .i64 (x983.From), .int .i64 (x983.To), .slice A993 (x983.Steps).length c994]) :: (g11, Cl 94 [.slice A13 (l16).length c14, .slice A17 (l20).length c18, .slice A21 (l24).length c22, .slice A25 (l28).length c26, .slice A29 (l32).length c30, .int .i64 (x33), .slice A34 (l37).length c35, .slice A8 (l40).length c9]) :: (hs2 ++ (hs7 ++ R)) = hp' ∧ b1262.Le b1289) ?_ ?_
      ·
       have hm := hj1292
       by_cases hc1298 : x1268.Section = x33
       ·
        rw [if_pos hc1298] at hm
        refine D_drawI mixed (.refl _) ?_
        refine E_st 0 rfl (st_field rfl fld56_0) ?_
        refine E_st 1 rfl (st_load 0 rfl one3 rfl rfl) ?_
        refine E_st 2 rfl (st_load 1 rfl one66 rfl rfl) ?_
        refine E_st 3 rfl (st_nil rfl) ?_
        refine E_st 4 rfl (st_field rfl fld94_1) ?_
        refine E_st 5 rfl (st_load 3 rfl one3 rfl rfl) ?_
        refine E_st 6 rfl (st_eql_t rfl rfl hc1298) ?_
        refine E_st 7 rfl (st_move rfl) ?_
        refine E_no 8 86 rfl rfl rfl ?_
        refine E_no 9 86 rfl rfl rfl ?_
        refine E_no 10 86 rfl rfl rfl ?_
        refine E_st 11 rfl (st_pick_t rfl rfl) ?_
        refine E_out ?_
        refine D_done (by kernel_rfl) ?_
        obtain rfl := some1 hm
        refine x_pullb 3 rfl ?_
        refine x_pullb 3 rfl ?_
        refine x_pullb 3 rfl ?_
        refine x_front2 [_, _, _, _] hs2 hs7 R rfl ?_
        refine x_front2 [_, _, _, _] hs7 hs2 R rfl ?_
        exact x_join (e' := [(1, .slice A3 (l38).length c4), (2, .int .i64 (x12)), (3, .pointer (some ⟨g978, 0, none⟩)), (7, .pointer (some ⟨g996, 0, none⟩)), (73, .slice A993 (x983.Steps).length c994), (74, .int .i64 ((x983.Steps.length : Int))), (75, .int .i64 ((k1264 : Int))), (90, .bool (true))]) ⟨rfl, rfl, rfl, rfl, rfl, rfl, rfl, rfl, trivial⟩ (.cons_cons _ (.cons_cons _ (.cons_cons _ (.cons _ (.refl _))))) ⟨rfl, rfl, (Base.Le.refl _)⟩
       ·
        rw [if_neg hc1298] at hm
        obtain ⟨x1299, hcl1300, hm⟩ := bindS hm
        refine D_drawI mixed (.cons _ (.cons _ (.cons_cons _ (.cons _ (sub_skip hs2 (sub_skip hs7 (.refl _))))))) ?_
        refine E_st 0 rfl (st_field rfl fld56_0) ?_
        refine E_out ?_
        refine D_all [1, 2] (by kernel_rfl) rfl ?_
        refine R_do (Base.Le.refl _) rfl rfl (Stable.does (st_load 0 rfl one3 rfl rfl)) ?_ ?_
        ·
         rintro _ _ ⟨rfl, rfl⟩
         refine ⟨.inr (.cons _ (.cons _ (.cons_cons _ (.cons _ (sub_skip hs2 (sub_skip hs7 (.refl _))))))), ?_⟩
         refine D_all [2] (by kernel_rfl) rfl ?_
         refine R_do (Base.Le.refl _) rfl rfl (Stable.does (st_load 1 rfl one66 rfl rfl)) ?_ ?_
         ·
          rintro _ _ ⟨rfl, rfl⟩
          refine ⟨.inr (.cons _ (.cons _ (.cons_cons _ (.cons _ (sub_skip hs2 (sub_skip hs7 (.refl _))))))), ?_⟩
          refine E_in (.cons _ (.cons _ (.cons_cons _ (.cons _ (sub_skip hs2 (sub_skip hs7 (.refl _))))))) ?_
          refine E_st 3 rfl (st_nil rfl) ?_
          refine E_st 4 rfl (st_field rfl fld94_1) ?_
          refine E_out ?_
          refine D_all [5] (by kernel_rfl) rfl ?_
          refine R_do (Base.Le.refl _) rfl rfl (Stable.does (st_load 3 rfl one3 rfl rfl)) ?_ ?_
          ·
           rintro _ _ ⟨rfl, rfl⟩
           refine ⟨.inr (.cons _ (.cons _ (.cons_cons _ (.cons _ (sub_skip hs2 (sub_skip hs7 (.refl _))))))), ?_⟩
           refine E_in (.cons _ (.cons _ (.cons_cons _ (.cons _ (sub_skip hs2 (sub_skip hs7 (.refl _))))))) ?_
           refine E_st 6 rfl (st_eql_f rfl rfl hc1298) ?_
           refine E_st 7 rfl (st_move rfl) ?_
           refine E_yes 8 86 rfl (st_move rfl) ?_
           refine E_yes 9 86 rfl (st_func _ _ rfl rfl) ?_
           refine E_out ?_
           refine d_pullb 3 rfl ?_
           refine d_pullb 1 rfl ?_
           refine d_pullb 2 rfl ?_
           refine d_front2 [_, _, _, _] hs2 hs7 R rfl ?_
           refine d_front2 [_, _, _, _] hs7 hs2 R rfl ?_
           refine d_out2 [_, _, _] [_] hs2 hs7 R rfl ?_
           refine D_all [10] (by kernel_rfl) rfl ?_
           refine R_callGlY (Base.Le.refl _) rfl rfl 86 rfl rfl rfl _ call38 rfl (cSlicesContainsFunc_6 _ _ x1268.Section x1268.In x1268.Out l16 l20 l24 l28 l32 x33 l37 l38 l40 g978 g1278 g11 A13 c14 A17 c18 A21 c22 A25 c26 A29 c30 A34 c35 A3 c4 hs2 A8 c9 hs7 (h15.le (hle1109.trans hle1263)) (h19.le (hle1109.trans hle1263)) (h23.le (hle1109.trans hle1263)) (h27.le (hle1109.trans hle1263)) (h31.le (hle1109.trans hle1263)) (h36.le (hle1109.trans hle1263)) (h5.le (hle1109.trans hle1263)) hnz39 (h10.le (hle1109.trans hle1263)) x1299 hcl1300) ?_ ?_
           ·
            rintro _ b1301 _ hle1302 ⟨rfl, rfl⟩
            refine ⟨.inr (.cons _ (.cons _ (.cons _ (sub_skip hs2 (sub_skip hs7 (.refl _)))))), ?_⟩
            refine d_in2 [_, _, _] [_] hs2 hs7 R rfl ?_
            refine D_st hle1302 11 rfl (by kernel_rfl) (by kernel_rfl) (by kernel_rfl) rfl (st_pick_f rfl rfl) (.cons _ (.cons _ (.cons _ (.cons_cons _ (sub_skip hs2 (sub_skip hs7 (.refl _))))))) ?_
            refine D_done (by kernel_rfl) ?_
            obtain rfl := some1 hm
            refine x_pullb 2 rfl ?_
            refine x_pullb 3 rfl ?_
            refine x_pullb 2 rfl ?_
            refine x_front2 [_, _, _, _] hs2 hs7 R rfl ?_
            refine x_front2 [_, _, _, _] hs7 hs2 R rfl ?_
            exact x_join (e' := [(1, .slice A3 (l38).length c4), (2, .int .i64 (x12)), (3, .pointer (some ⟨g978, 0, none⟩)), (7, .pointer (some ⟨g996, 0, none⟩)), (73, .slice A993 (x983.Steps).length c994), (74, .int .i64 ((x983.Steps.length : Int))), (75, .int .i64 ((k1264 : Int))), (90, .bool (x1299))]) ⟨rfl, rfl, rfl, rfl, rfl, rfl, rfl, rfl, trivial⟩ (.cons_cons _ (.cons_cons _ (.cons_cons _ (.cons _ (.refl _))))) ⟨rfl, rfl, hle1302⟩
           exact R_nil
          exact R_nil
         exact R_nil
        refine R_do (Base.Le.refl _) rfl rfl (Stable.does (st_load 1 rfl one66 rfl rfl)) ?_ ?_
        ·
         rintro _ _ ⟨rfl, rfl⟩
         refine ⟨.inr (.cons _ (.cons _ (.cons_cons _ (.cons _ (sub_skip hs2 (sub_skip hs7 (.refl _))))))), ?_⟩
         refine E_in (.cons _ (.cons _ (.cons_cons _ (.cons _ (sub_skip hs2 (sub_skip hs7 (.refl _))))))) ?_
         refine E_st 3 rfl (st_nil rfl) ?_
         refine E_st 4 rfl (st_field rfl fld94_1) ?_
         refine E_out ?_
         refine D_all [1, 5] (by kernel_rfl) rfl ?_
         refine R_do (Base.Le.refl _) rfl rfl (Stable.does (st_load 0 rfl one3 rfl rfl)) ?_ ?_
         ·
          rintro _ _ ⟨rfl, rfl⟩
          refine ⟨.inr (.cons _ (.cons _ (.cons_cons _ (.cons _ (sub_skip hs2 (sub_skip hs7 (.refl _))))))), ?_⟩
          refine D_all [5] (by kernel_rfl) rfl ?_
          refine R_do (Base.Le.refl _) rfl rfl (Stable.does (st_load 3 rfl one3 rfl rfl)) ?_ ?_
          ·
           rintro _ _ ⟨rfl, rfl⟩
           refine ⟨.inr (.cons _ (.cons _ (.cons_cons _ (.cons _ (sub_skip hs2 (sub_skip hs7 (.refl _))))))), ?_⟩
           refine E_in (.cons _ (.cons _ (.cons_cons _ (.cons _ (sub_skip hs2 (sub_skip hs7 (.refl _))))))) ?_
           refine E_st 6 rfl (st_eql_f rfl rfl hc1298) ?_
           refine E_st 7 rfl (st_move rfl) ?_
           refine E_yes 8 86 rfl (st_move rfl) ?_
           refine E_yes 9 86 rfl (st_func _ _ rfl rfl) ?_
           refine E_out ?_
           refine d_pullb 3 rfl ?_
           refine d_pullb 1 rfl ?_
           refine d_pullb 2 rfl ?_
           refine d_front2 [_, _, _, _] hs2 hs7 R rfl ?_
           refine d_front2 [_, _, _, _] hs7 hs2 R rfl ?_
           refine d_out2 [_, _, _] [_] hs2 hs7 R rfl ?_
           refine D_all [10] (by kernel_rfl) rfl ?_
           refine R_callGlY (Base.Le.refl _) rfl rfl 86 rfl rfl rfl _ call38 rfl (cSlicesContainsFunc_6 _ _ x1268.Section x1268.In x1268.Out l16 l20 l24 l28 l32 x33 l37 l38 l40 g978 g1278 g11 A13 c14 A17 c18 A21 c22 A25 c26 A29 c30 A34 c35 A3 c4 hs2 A8 c9 hs7 (h15.le (hle1109.trans hle1263)) (h19.le (hle1109.trans hle1263)) (h23.le (hle1109.trans hle1263)) (h27.le (hle1109.trans hle1263)) (h31.le (hle1109.trans hle1263)) (h36.le (hle1109.trans hle1263)) (h5.le (hle1109.trans hle1263)) hnz39 (h10.le (hle1109.trans hle1263)) x1299 hcl1300) ?_ ?_
           ·
            rintro _ b1301 _ hle1302 ⟨rfl, rfl⟩
            refine ⟨.inr (.cons _ (.cons _ (.cons _ (sub_skip hs2 (sub_skip hs7 (.refl _)))))), ?_⟩
            refine d_in2 [_, _, _] [_] hs2 hs7 R rfl ?_
            refine D_st hle1302 11 rfl (by kernel_rfl) (by kernel_rfl) (by kernel_rfl) rfl (st_pick_f rfl rfl) (.cons _ (.cons _ (.cons _ (.cons_cons _ (sub_skip hs2 (sub_skip hs7 (.refl _))))))) ?_
            refine D_done (by kernel_rfl) ?_
            obtain rfl := some1 hm
            refine x_pullb 2 rfl ?_
            refine x_pullb 3 rfl ?_
            refine x_pullb 2 rfl ?_
            refine x_front2 [_, _, _, _] hs2 hs7 R rfl ?_
            refine x_front2 [_, _, _, _] hs7 hs2 R rfl ?_
            exact x_join (e' := [(1, .slice A3 (l38).length c4), (2, .int .i64 (x12)), (3, .pointer (some ⟨g978, 0, none⟩)), (7, .pointer (some ⟨g996, 0, none⟩)), (73, .slice A993 (x983.Steps).length c994), (74, .int .i64 ((x983.Steps.length : Int))), (75, .int .i64 ((k1264 : Int))), (90, .bool (x1299))]) ⟨rfl, rfl, rfl, rfl, rfl, rfl, rfl, rfl, trivial⟩ (.cons_cons _ (.cons_cons _ (.cons_cons _ (.cons _ (.refl _))))) ⟨rfl, rfl, hle1302⟩
           exact R_nil
          exact R_nil
         refine R_do (Base.Le.refl _) rfl rfl (Stable.does (st_load 3 rfl one3 rfl rfl)) ?_ ?_
         ·
          rintro _ _ ⟨rfl, rfl⟩
          refine ⟨.inr (.cons _ (.cons _ (.cons_cons _ (.cons _ (sub_skip hs2 (sub_skip hs7 (.refl _))))))), ?_⟩
          refine D_all [1] (by kernel_rfl) rfl ?_
          refine R_do (Base.Le.refl _) rfl rfl (Stable.does (st_load 0 rfl one3 rfl rfl)) ?_ ?_
          ·
           rintro _ _ ⟨rfl, rfl⟩
           refine ⟨.inr (.cons _ (.cons _ (.cons_cons _ (.cons _ (sub_skip hs2 (sub_skip hs7 (.refl _))))))), ?_⟩
           refine E_in (.cons _ (.cons _ (.cons_cons _ (.cons _ (sub_skip hs2 (sub_skip hs7 (.refl _))))))) ?_
           refine E_st 6 rfl (st_eql_f rfl rfl hc1298) ?_
           refine E_st 7 rfl (st_move rfl) ?_
           refine E_yes 8 86 rfl (st_move rfl) ?_
           refine E_yes 9 86 rfl (st_func _ _ rfl rfl) ?_
           refine E_out ?_
           refine d_pullb 3 rfl ?_
           refine d_pullb 1 rfl ?_
           refine d_pullb 2 rfl ?_
           refine d_front2 [_, _, _, _] hs2 hs7 R rfl ?_
           refine d_front2 [_, _, _, _] hs7 hs2 R rfl ?_
           refine d_out2 [_, _, _] [_] hs2 hs7 R rfl ?_
           refine D_all [10] (by kernel_rfl) rfl ?_
           refine R_callGlY (Base.Le.refl _) rfl rfl 86 rfl rfl rfl _ call38 rfl (cSlicesContainsFunc_6 _ _ x1268.Section x1268.In x1268.Out l16 l20 l24 l28 l32 x33 l37 l38 l40 g978 g1278 g11 A13 c14 A17 c18 A21 c22 A25 c26 A29 c30 A34 c35 A3 c4 hs2 A8 c9 hs7 (h15.le (hle1109.trans hle1263)) (h19.le (hle1109.trans hle1263)) (h23.le (hle1109.trans hle1263)) (h27.le (hle1109.trans hle1263)) (h31.le (hle1109.trans hle1263)) (h36.le (hle1109.trans hle1263)) (h5.le (hle1109.trans hle1263)) hnz39 (h10.le (hle1109.trans hle1263)) x1299 hcl1300) ?_ ?_
           ·
            rintro _ b1301 _ hle1302 ⟨rfl, rfl⟩
            refine ⟨.inr (.cons _ (.cons _ (.cons _ (sub_skip hs2 (sub_skip hs7 (.refl _)))))), ?_⟩
            refine d_in2 [_, _, _] [_] hs2 hs7 R rfl ?_
            refine D_st hle1302 11 rfl (by kernel_rfl) (by kernel_rfl) (by kernel_rfl) rfl (st_pick_f rfl rfl) (.cons _ (.cons _ (.cons _ (.cons_cons _ (sub_skip hs2 (sub_skip hs7 (.refl _))))))) ?_
            refine D_done (by kernel_rfl) ?_
            obtain rfl := some1 hm
            refine x_pullb 2 rfl ?_
            refine x_pullb 3 rfl ?_
            refine x_pullb 2 rfl ?_
            refine x_front2 [_, _, _, _] hs2 hs7 R rfl ?_
            refine x_front2 [_, _, _, _] hs7 hs2 R rfl ?_
            exact x_join (e' := [(1, .slice A3 (l38).length c4), (2, .int .i64 (x12)), (3, .pointer (some ⟨g978, 0, none⟩)), (7, .pointer (some ⟨g996, 0, none⟩)), (73, .slice A993 (x983.Steps).length c994), (74, .int .i64 ((x983.Steps.length : Int))), (75, .int .i64 ((k1264 : Int))), (90, .bool (x1299))]) ⟨rfl, rfl, rfl, rfl, rfl, rfl, rfl, rfl, trivial⟩ (.cons_cons _ (.cons_cons _ (.cons_cons _ (.cons _ (.refl _))))) ⟨rfl, rfl, hle1302⟩
           exact R_nil
          exact R_nil
         exact R_nil
        exact R_nil
      ·
       rintro b1289 _ _ ⟨rfl, rfl, hle1290⟩
       have hm := hk1292
       refine c_cond _ rfl (fun hc1303 => ?_) (fun hc1303 => ?_)
       ·
        rw [if_pos hc1303] at hm
        refine c_sr ?_
        refine t_as rfl rfl ?_
        refine t_ne ?_
        refine c_ret ?_
        refine x_block_ret ?_
        refine x_then_ret ?_
        refine x_then_ret ?_
        refine x_block_ret ?_
        refine x_then_ret ?_
        have hq1304 := houtL1224 _ (Option.some.inj hm).symm
        rw [hq1304] at hk1267
        have hm := elimR hk1267
        obtain rfl := some1 hm
        refine x_pullb 2 rfl ?_
        refine x_front2 [_, _, _] hs2 hs7 R rfl ?_
        refine x_front2 [_, _, _] hs7 hs2 R rfl ?_
        exact retM (rs := [.tmp 6]) [.int .i64 (6)] (hle1109.trans (hle1263.trans hle1290)) (by decide) rfl ⟨rfl, trivial⟩ rfl (.cons_cons _ (.cons _ (.cons _ (.refl _)))) ⟨rfl, rfl⟩
       ·
        rw [if_neg (fun hh => Bool.noConfusion (hh.symm.trans hc1303))] at hm
        refine c_skip ?_
        refine x_block_normal ?_
        refine x_then_normal ?_
        refine c_region ?_
        refine t_st rfl (st_add rfl rfl (by omega)) ?_
        refine t_mv rfl rfl ?_
        refine t_nil ?_
        refine x_pullb 2 rfl ?_
        refine x_pullb 2 rfl ?_
        refine x_pullb 2 rfl ?_
        refine x_front2 [_, _, _] hs2 hs7 R rfl ?_
        refine x_front2 [_, _, _] hs7 hs2 R rfl ?_
        exact x_againM () (Option.some.inj hm).symm (e' := [(1, .slice A3 (l38).length c4), (2, .int .i64 (x12)), (3, .pointer (some ⟨g978, 0, none⟩)), (7, .pointer (some ⟨g996, 0, none⟩)), (73, .slice A993 (x983.Steps).length c994), (74, .int .i64 ((x983.Steps.length : Int))), (75, .int .i64 ((k1264 : Int) + 1))]) ⟨rfl, rfl, rfl, rfl, rfl, rfl, rfl, trivial⟩ (.refl _) ⟨rfl, rfl, ((hle1263.trans hle1290))⟩
     ·
      rintro _ b1262 _ _ ⟨rfl, rfl, hle1263⟩ hq1305
      rw [hq1305] at hk1267
      have hm := elimL hk1267
      refine c_sr ?_
      refine t_st rfl (st_lss_f rfl rfl (by omega)) ?_
      refine t_ne ?_
      refine c_seq ?_
      refine c_cond_f rfl ?_
      refine c_exit ?_
      refine x_then_exit ?_
      refine x_then_exit ?_
      refine x_block_out ?_
      refine x_then_normal ?_
      refine c_seq ?_
      refine c_sr ?_
      refine t_mv rfl rfl ?_
      refine t_st rfl (st_len rfl sl37) ?_
      refine t_mv rfl rfl ?_
      refine t_ne ?_
      refine c_block ?_
      have hb1307 : l38.length ≤ 9223372036854775807 := (OS.len h5)
      refine c_pullb 2 rfl ?_
      refine c_pullb 2 rfl ?_
      refine c_pullb 2 rfl ?_
      refine c_front2 [_, _, _] hs2 hs7 R rfl ?_
      refine c_front2 [_, _, _] hs7 hs2 R rfl ?_
      obtain ⟨t1587, hl1588, hk1589⟩ := bindS hm
      refine c_forM (fun k1586 => fun _ => fun b1584 e' hp' => [(2, .int .i64 (x12)), (3, .pointer (some ⟨g978, 0, none⟩)), (7, .pointer (some ⟨g996, 0, none⟩)), (92, .slice A3 (l38).length c4), (93, .int .i64 ((l38.length : Int))), (94, .int .i64 ((k1586 : Int)))] = e' ∧ (g978, Cl 66 [.pointer (some ⟨g11, 0, none⟩)]) :: (g996, Cl 54 [.int .i64 (x983.From), .int .i64 (x983.To), .slice A993 (x983.Steps).length c994]) :: (g11, Cl 94 [.slice A13 (l16).length c14, .slice A17 (l20).length c18, .slice A21 (l24).length c22, .slice A25 (l28).length c26, .slice A29 (l32).length c30, .int .i64 (x33), .slice A34 (l37).length c35, .slice A8 (l40).length c9]) :: (hs2 ++ (hs7 ++ R)) = hp' ∧ b1262.Le b1584) hl1588 (e' := [(2, .int .i64 (x12)), (3, .pointer (some ⟨g978, 0, none⟩)), (7, .pointer (some ⟨g996, 0, none⟩)), (92, .slice A3 (l38).length c4), (93, .int .i64 ((l38.length : Int))), (94, .int .i64 0)]) ⟨rfl, rfl, rfl, rfl, rfl, rfl, trivial⟩ (.refl _) ⟨rfl, rfl, (Base.Le.refl _)⟩ ?_ ?_
      ·
       rintro k1586 _ b1584 _ _ oL1306 hknL1306 ⟨rfl, rfl, hle1585⟩ hstepL1306 houtL1306
       unfold mLineLegsAdd_2_L1306 at hstepL1306
       have hm := hstepL1306
       refine c_sr ?_
       refine t_st rfl (st_lss_t rfl rfl (by omega)) ?_
       refine t_ne ?_
       refine c_seq ?_
       refine c_cond_t rfl ?_
       refine c_skip ?_
       refine x_then_normal ?_
       refine c_seq ?_
       refine c_block ?_
       refine c_sr ?_
       obtain ⟨x1590, h1591, hm⟩ := bindS hm
       obtain ⟨j1592, hj1593, hx1594⟩ := idx_some h1591
       obtain ⟨cs1595, hs1600, P1601, P1602, hq1603, hr1596, hcs1597, hA1598, hlt1599, hb1604, hho1605⟩ := OS.get (sz := 1) rfl (by decide) (h5.le (hle1109.trans (hle1263.trans hle1585))) hx1594
       obtain ⟨rfl, rfl⟩ := hr1596
       refine t_st rfl (st_index_old j1592 rfl rfl hj1593 hlt1599 hA1598 sl37) ?_
       refine t_st rfl (st_load_rd rfl one3 (fun w ho => hcs1597 w _ ho (.cons _ (.cons _ (.cons _ (List.sublist_append_left _ _)))) 0 _ rfl)) ?_
       refine t_as rfl rfl ?_
       refine t_ne ?_
       refine c_sr ?_
       refine t_st rfl (st_load 0 rfl one66 rfl rfl) ?_
       refine t_st rfl (st_nil rfl) ?_
       refine t_st rfl (st_field rfl fld94_3) ?_
       refine t_st rfl (st_load 2 rfl one92 rfl rfl) ?_
       refine t_mv rfl rfl ?_
       obtain ⟨x1606, h1607, hm⟩ := bindS hm
       obtain ⟨j1608, hj1609, hx1610⟩ := idx_some h1607
       obtain ⟨cs1611, hs1616, P1617, P1618, hq1619, hr1612, hcs1613, hA1614, hlt1615, hb1620, hho1621⟩ := OS.get (sz := 1) rfl (by decide) (h10.le (hle1109.trans (hle1263.trans hle1585))) hx1610
       obtain ⟨⟨A1622, c1623, rfl, h1624⟩, rfl⟩ := hr1612
       refine t_st rfl (st_index_old j1608 rfl rfl hj1609 hlt1615 hA1614 sl92) ?_
       refine t_st rfl (st_load_rd rfl one38 (fun w ho => hcs1613 w _ ho (.cons _ (.cons _ (.cons _ (sub_skip hs2 (List.sublist_append_left _ _))))) 0 _ rfl)) ?_
       refine t_st rfl (st_len rfl sl38) ?_
       refine t_mv rfl rfl ?_
       refine t_ne ?_
       refine c_block ?_
       have hb1626 : x1606.length ≤ 9223372036854775807 := (FZ.bd h1624)
       refine c_pullb 2 rfl ?_
       refine c_pullb 2 rfl ?_
       refine c_pullb 2 rfl ?_
       refine c_front2 [_, _, _] hs2 hs7 R rfl ?_
       refine c_front2 [_, _, _] hs7 hs2 R rfl ?_
       obtain ⟨t1746, hl1747, hk1748⟩ := bindS hm
       refine c_forM (fun k1745 => fun _ => fun b1743 e' hp' => [(2, .int .i64 (x12)), (3, .pointer (some ⟨g978, 0, none⟩)), (7, .pointer (some ⟨g996, 0, none⟩)), (92, .slice A3 (l38).length c4), (93, .int .i64 ((l38.length : Int))), (94, .int .i64 ((k1586 : Int))), (104, .slice A1622 (x1606).length c1623), (105, .int .i64 ((x1606.length : Int))), (106, .int .i64 ((k1745 : Int)))] = e' ∧ (g978, Cl 66 [.pointer (some ⟨g11, 0, none⟩)]) :: (g996, Cl 54 [.int .i64 (x983.From), .int .i64 (x983.To), .slice A993 (x983.Steps).length c994]) :: (g11, Cl 94 [.slice A13 (l16).length c14, .slice A17 (l20).length c18, .slice A21 (l24).length c22, .slice A25 (l28).length c26, .slice A29 (l32).length c30, .int .i64 (x33), .slice A34 (l37).length c35, .slice A8 (l40).length c9]) :: (hs2 ++ (hs7 ++ R)) = hp' ∧ b1584.Le b1743) hl1747 (e' := [(2, .int .i64 (x12)), (3, .pointer (some ⟨g978, 0, none⟩)), (7, .pointer (some ⟨g996, 0, none⟩)), (92, .slice A3 (l38).length c4), (93, .int .i64 ((l38.length : Int))), (94, .int .i64 ((k1586 : Int))), (104, .slice A1622 (x1606).length c1623), (105, .int .i64 ((x1606.length : Int))), (106, .int .i64 0)]) ⟨rfl, rfl, rfl, rfl, rfl, rfl, rfl, rfl, rfl, trivial⟩ (.refl _) ⟨rfl, rfl, (Base.Le.refl _)⟩ ?_ ?_
       ·
        rintro k1745 _ b1743 _ _ oL1625 hknL1625 ⟨rfl, rfl, hle1744⟩ hstepL1625 houtL1625
        unfold mLineLegsAdd_2_L1625 at hstepL1625
        have hm := hstepL1625
        refine c_sr ?_
        refine t_st rfl (st_lss_t rfl rfl (by omega)) ?_
        refine t_ne ?_
        refine c_seq ?_
        refine c_cond_t rfl ?_
        refine c_skip ?_
        refine x_then_normal ?_
        refine c_seq ?_
        refine c_block ?_
        refine c_sr ?_
        obtain ⟨x1749, h1750, hm⟩ := bindS hm
        obtain ⟨j1751, hj1752, hx1753⟩ := idx_some h1750
        obtain ⟨cs1754, hr1755, hcs1756, hA1757, hlt1758⟩ := FZ.get (sz := 4) rfl (by decide) (h1624.le hle1744) hx1753
        obtain ⟨_, _, rfl, rfl, ⟨_, _, rfl, rfl, ⟨_, _, rfl, rfl, rfl⟩⟩⟩ := hr1755
        refine t_st rfl (st_index_old j1751 rfl rfl hj1752 hlt1758 hA1757 sl38) ?_
        refine t_st rfl (st_loadN_old (vs := [.int .i64 (x1749.Kind), .int .i64 (x1749.Place), .int .i64 (x1749.Position), .int .i64 (x1749.At)]) 4 rfl agg42 hA1757 rfl (fun j u hu => hcs1756 j u hu)) ?_
        refine t_do rfl (u_alloc [.int .i64 0, .int .i64 0, .int .i64 0, .int .i64 0] zero42 rfl) ?_
        rintro _ _ ⟨g1759, rfl, rfl⟩
        refine t_do rfl (u_storeN (vs := [_, _, _, _]) 0 4 rfl rfl rfl siz42 rfl (mem_c rfl (mem_c rfl (mem_c rfl (mem_c rfl mem_n)))) rfl (by simp)) ?_
        rintro _ _ rfl
        refine t_ne ?_
        obtain ⟨x1812, hj1813, hk1813⟩ := bindS hm
        refine c_join (fun b1810 e' hp' => [(2, .int .i64 (x12)), (3, .pointer (some ⟨g978, 0, none⟩)), (7, .pointer (some ⟨g996, 0, none⟩)), (92, .slice A3 (l38).length c4), (93, .int .i64 ((l38.length : Int))), (94, .int .i64 ((k1586 : Int))), (104, .slice A1622 (x1606).length c1623), (105, .int .i64 ((x1606.length : Int))), (106, .int .i64 ((k1745 : Int))), (124, .bool (x1812))] = e' ∧ (g978, Cl 66 [.pointer (some ⟨g11, 0, none⟩)]) :: (g996, Cl 54 [.int .i64 (x983.From), .int .i64 (x983.To), .slice A993 (x983.Steps).length c994]) :: (g11, Cl 94 [.slice A13 (l16).length c14, .slice A17 (l20).length c18, .slice A21 (l24).length c22, .slice A25 (l28).length c26, .slice A29 (l32).length c30, .int .i64 (x33), .slice A34 (l37).length c35, .slice A8 (l40).length c9]) :: (hs2 ++ (hs7 ++ R)) = hp' ∧ b1743.Le b1810) ?_ ?_
        ·
         have hm := hj1813
         by_cases hc1839 : x1749.Kind ≠ 2
         ·
          rw [if_pos hc1839] at hm
          obtain ⟨x1841, h1842, hm⟩ := bindS hm
          obtain ⟨x1862, hcl1863, hm⟩ := bindS hm
          refine D_drawI mixed (.refl _) ?_
          refine E_st 0 rfl (st_field rfl fld42_0) ?_
          refine E_st 1 rfl (st_load 0 rfl one3 rfl rfl) ?_
          refine E_st 2 rfl (st_neq_t rfl rfl hc1839) ?_
          refine E_st 3 rfl (st_move rfl) ?_
          refine E_yes 4 113 rfl (st_loadD (vs := [_, _, _, _]) 0 4 rfl agg42 rfl rfl rfl) ?_
          refine E_yes 6 113 rfl (st_load 1 rfl one66 rfl rfl) ?_
          refine E_yes 7 113 rfl (st_nil rfl) ?_
          refine E_yes 8 113 rfl (st_field rfl fld94_3) ?_
          refine E_yes 9 113 rfl (st_load 3 rfl one92 rfl rfl) ?_
          refine E_yes 10 113 rfl (st_move rfl) ?_
          obtain ⟨j1843, hj1844, hx1845⟩ := idx_some h1842
          obtain ⟨cs1846, hs1851, P1852, P1853, hq1854, hr1847, hcs1848, hA1849, hlt1850, hb1855, hho1856⟩ := OS.get (sz := 1) rfl (by decide) (h10.le (hle1109.trans (hle1263.trans (hle1585.trans hle1744)))) hx1845
          obtain ⟨⟨A1857, c1858, rfl, h1859⟩, rfl⟩ := hr1847
          refine E_yes 11 113 rfl (st_index_old j1843 rfl rfl hj1844 hlt1850 hA1849 sl92) ?_
          refine E_yes 12 113 rfl (st_load_rd rfl one38 (fun w ho => hcs1848 w _ ho (.cons _ (.cons _ (.cons _ (.cons _ (sub_skip hs2 (List.sublist_append_left _ _)))))) 0 _ rfl)) ?_
          refine E_out ?_
          refine D_all [5] (by kernel_rfl) rfl ?_
          refine R_doY (Base.Le.refl _) rfl rfl 113 rfl rfl rfl (u_bslice (el := 42) [(0, .agg #[.int .i64 (x1749.Kind), .int .i64 (x1749.Place), .int .i64 (x1749.Position), .int .i64 (x1749.At)])] [.int .i64 (x1749.Kind), .int .i64 (x1749.Place), .int .i64 (x1749.Position), .int .i64 (x1749.At)] rfl (fun _ => by kernel_rfl)) ?_ ?_
          ·
           rintro _ _ ⟨g1840, rfl, rfl⟩
           refine ⟨.inr (.cons _ (.refl _)), ?_⟩
           refine d_seg 0 [_, _, _, _] (hs2 ++ (hs7 ++ R)) rfl rfl ?_
           have h1861 : OS 42 (OT.fr rApiNeed) b1743.w (.slice (some ⟨g1840, 0, none⟩) 1 1) [x1749] [(g1840, Cl 42 [.int .i64 (x1749.Kind), .int .i64 (x1749.Place), .int .i64 (x1749.Position), .int .i64 (x1749.At)])] := OS.lit [[.int .i64 (x1749.Kind), .int .i64 (x1749.Place), .int .i64 (x1749.Position), .int .i64 (x1749.At)]] rfl ⟨⟨[.int .i64 (x1749.Kind)], _, rfl, rfl, ⟨[.int .i64 (x1749.Place)], _, rfl, rfl, ⟨[.int .i64 (x1749.Position)], _, rfl, rfl, rfl⟩⟩⟩, trivial⟩ rfl (by decide)
           refine D_all [13] (by kernel_rfl) rfl ?_
           refine R_doY (Base.Le.refl _) rfl rfl 113 rfl rfl rfl (u_callW0 _ call15 rfl (fun w ho => cLineMeet _ [] [x1749] x1841 (some ⟨g1840, 0, none⟩) 1 A1857 c1858 (OS.now (o := (OT.fr rApiNeed)) (l := [x1749]) (hs := [(g1840, Cl 42 [.int .i64 (x1749.Kind), .int .i64 (x1749.Place), .int .i64 (x1749.Position), .int .i64 (x1749.At)])]) h1861 ho (.cons _ (.cons _ (.cons _ (.cons _ (List.sublist_append_left _ _)))))) (h1859.old ho) x1862 hcl1863) (fun _ _ _ h => h.2.symm)) ?_ ?_
           ·
            rintro _ _ ⟨⟨_, rfl, _⟩, rfl⟩
            refine ⟨.inr (.cons_cons _ (.cons_cons _ (.cons_cons _ (.cons_cons _ (sub_skip [(g1840, Cl 42 [.int .i64 (x1749.Kind), .int .i64 (x1749.Place), .int .i64 (x1749.Position), .int .i64 (x1749.At)])] (.refl _)))))), ?_⟩
            refine E_in (.cons_cons _ (.cons_cons _ (.cons_cons _ (.cons_cons _ (sub_skip [(g1840, Cl 42 [.int .i64 (x1749.Kind), .int .i64 (x1749.Place), .int .i64 (x1749.Position), .int .i64 (x1749.At)])] (.refl _)))))) ?_
            refine E_st 14 rfl (st_pick_t rfl rfl) ?_
            refine E_out ?_
            refine D_done (by kernel_rfl) ?_
            obtain rfl := some1 hm
            refine x_pullb 3 rfl ?_
            refine x_pullb 3 rfl ?_
            refine x_pullb 3 rfl ?_
            refine x_front3 [_, _, _, _] [(g1840, Cl 42 [.int .i64 (x1749.Kind), .int .i64 (x1749.Place), .int .i64 (x1749.Position), .int .i64 (x1749.At)])] hs2 hs7 R rfl ?_
            refine x_front3 [_, _, _, _] hs7 [(g1840, Cl 42 [.int .i64 (x1749.Kind), .int .i64 (x1749.Place), .int .i64 (x1749.Position), .int .i64 (x1749.At)])] hs2 R rfl ?_
            exact x_join (e' := [(2, .int .i64 (x12)), (3, .pointer (some ⟨g978, 0, none⟩)), (7, .pointer (some ⟨g996, 0, none⟩)), (92, .slice A3 (l38).length c4), (93, .int .i64 ((l38.length : Int))), (94, .int .i64 ((k1586 : Int))), (104, .slice A1622 (x1606).length c1623), (105, .int .i64 ((x1606.length : Int))), (106, .int .i64 ((k1745 : Int))), (124, .bool (x1862))]) ⟨rfl, rfl, rfl, rfl, rfl, rfl, rfl, rfl, rfl, rfl, trivial⟩ (.cons_cons _ (.cons_cons _ (.cons_cons _ (.cons _ (sub_app hs2 (sub_app hs7 (sub_skip [(g1840, Cl 42 [.int .i64 (x1749.Kind), .int .i64 (x1749.Place), .int .i64 (x1749.Position), .int .i64 (x1749.At)])] (.refl _)))))))) ⟨rfl, rfl, (Base.Le.refl _)⟩
           exact R_nil
          exact R_nil
         ·
          rw [if_neg hc1839] at hm
          refine D_drawI mixed (.refl _) ?_
          refine E_st 0 rfl (st_field rfl fld42_0) ?_
          refine E_st 1 rfl (st_load 0 rfl one3 rfl rfl) ?_
          refine E_st 2 rfl (st_neq_f rfl rfl hc1839) ?_
          refine E_st 3 rfl (st_move rfl) ?_
          refine E_no 4 113 rfl rfl rfl ?_
          refine E_no 5 113 rfl rfl rfl ?_
          refine E_no 6 113 rfl rfl rfl ?_
          refine E_no 7 113 rfl rfl rfl ?_
          refine E_no 8 113 rfl rfl rfl ?_
          refine E_no 9 113 rfl rfl rfl ?_
          refine E_no 10 113 rfl rfl rfl ?_
          refine E_no 11 113 rfl rfl rfl ?_
          refine E_no 12 113 rfl rfl rfl ?_
          refine E_no 13 113 rfl rfl rfl ?_
          refine E_st 14 rfl (st_pick_f rfl rfl) ?_
          refine E_out ?_
          refine D_done (by kernel_rfl) ?_
          obtain rfl := some1 hm
          refine x_pullb 3 rfl ?_
          refine x_pullb 3 rfl ?_
          refine x_pullb 3 rfl ?_
          refine x_front2 [_, _, _, _] hs2 hs7 R rfl ?_
          refine x_front2 [_, _, _, _] hs7 hs2 R rfl ?_
          exact x_join (e' := [(2, .int .i64 (x12)), (3, .pointer (some ⟨g978, 0, none⟩)), (7, .pointer (some ⟨g996, 0, none⟩)), (92, .slice A3 (l38).length c4), (93, .int .i64 ((l38.length : Int))), (94, .int .i64 ((k1586 : Int))), (104, .slice A1622 (x1606).length c1623), (105, .int .i64 ((x1606.length : Int))), (106, .int .i64 ((k1745 : Int))), (124, .bool (false))]) ⟨rfl, rfl, rfl, rfl, rfl, rfl, rfl, rfl, rfl, rfl, trivial⟩ (.cons_cons _ (.cons_cons _ (.cons_cons _ (.cons _ (.refl _))))) ⟨rfl, rfl, (Base.Le.refl _)⟩
        ·
         rintro b1810 _ _ ⟨rfl, rfl, hle1811⟩
         have hm := hk1813
         refine c_cond _ rfl (fun hc1864 => ?_) (fun hc1864 => ?_)
         ·
          rw [if_pos hc1864] at hm
          refine c_sr ?_
          refine t_as rfl rfl ?_
          refine t_ne ?_
          refine c_ret ?_
          refine x_block_ret ?_
          refine x_then_ret ?_
          refine x_then_ret ?_
          refine x_block_ret ?_
          refine x_block_ret ?_
          refine x_then_ret ?_
          refine x_then_ret ?_
          refine x_block_ret ?_
          refine x_then_ret ?_
          have hq1865 := houtL1625 _ (Option.some.inj hm).symm
          rw [hq1865] at hk1748
          have hm := elimR hk1748
          have hq1866 := houtL1306 _ (Option.some.inj hm).symm
          rw [hq1866] at hk1589
          have hm := elimR hk1589
          obtain rfl := some1 hm
          refine x_pullb 2 rfl ?_
          refine x_front2 [_, _, _] hs2 hs7 R rfl ?_
          refine x_front2 [_, _, _] hs7 hs2 R rfl ?_
          exact retM (rs := [.tmp 6]) [.int .i64 (8)] (hle1109.trans (hle1263.trans (hle1585.trans (hle1744.trans hle1811)))) (by decide) rfl ⟨rfl, trivial⟩ rfl (.cons_cons _ (.cons _ (.cons _ (.refl _)))) ⟨rfl, rfl⟩
         ·
          rw [if_neg (fun hh => Bool.noConfusion (hh.symm.trans hc1864))] at hm
          refine c_skip ?_
          refine x_block_normal ?_
          refine x_then_normal ?_
          refine c_region ?_
          refine t_st rfl (st_add rfl rfl (by omega)) ?_
          refine t_mv rfl rfl ?_
          refine t_nil ?_
          refine x_pullb 2 rfl ?_
          refine x_pullb 2 rfl ?_
          refine x_pullb 2 rfl ?_
          refine x_front2 [_, _, _] hs2 hs7 R rfl ?_
          refine x_front2 [_, _, _] hs7 hs2 R rfl ?_
          exact x_againM () (Option.some.inj hm).symm (e' := [(2, .int .i64 (x12)), (3, .pointer (some ⟨g978, 0, none⟩)), (7, .pointer (some ⟨g996, 0, none⟩)), (92, .slice A3 (l38).length c4), (93, .int .i64 ((l38.length : Int))), (94, .int .i64 ((k1586 : Int))), (104, .slice A1622 (x1606).length c1623), (105, .int .i64 ((x1606.length : Int))), (106, .int .i64 ((k1745 : Int) + 1))]) ⟨rfl, rfl, rfl, rfl, rfl, rfl, rfl, rfl, rfl, trivial⟩ (.refl _) ⟨rfl, rfl, ((hle1744.trans hle1811))⟩
       ·
        rintro _ b1743 _ _ ⟨rfl, rfl, hle1744⟩ hq1867
        rw [hq1867] at hk1748
        have hm := elimL hk1748
        refine c_sr ?_
        refine t_st rfl (st_lss_f rfl rfl (by omega)) ?_
        refine t_ne ?_
        refine c_seq ?_
        refine c_cond_f rfl ?_
        refine c_exit ?_
        refine x_then_exit ?_
        refine x_then_exit ?_
        refine x_block_out ?_
        refine x_block_normal ?_
        refine x_then_normal ?_
        refine c_region ?_
        refine t_st rfl (st_add rfl rfl (by omega)) ?_
        refine t_mv rfl rfl ?_
        refine t_nil ?_
        refine x_pullb 2 rfl ?_
        refine x_pullb 2 rfl ?_
        refine x_pullb 2 rfl ?_
        refine x_front2 [_, _, _] hs2 hs7 R rfl ?_
        refine x_front2 [_, _, _] hs7 hs2 R rfl ?_
        exact x_againM () (Option.some.inj hm).symm (e' := [(2, .int .i64 (x12)), (3, .pointer (some ⟨g978, 0, none⟩)), (7, .pointer (some ⟨g996, 0, none⟩)), (92, .slice A3 (l38).length c4), (93, .int .i64 ((l38.length : Int))), (94, .int .i64 ((k1586 : Int) + 1))]) ⟨rfl, rfl, rfl, rfl, rfl, rfl, trivial⟩ (.refl _) ⟨rfl, rfl, ((hle1585.trans hle1744))⟩
      ·
       rintro _ b1584 _ _ ⟨rfl, rfl, hle1585⟩ hq1868
       rw [hq1868] at hk1589
       have hm := elimL hk1589
       refine c_sr ?_
       refine t_st rfl (st_lss_f rfl rfl (by omega)) ?_
       refine t_ne ?_
       refine c_seq ?_
       refine c_cond_f rfl ?_
       refine c_exit ?_
       refine x_then_exit ?_
       refine x_then_exit ?_
       refine x_block_out ?_
       refine x_then_normal ?_
       refine c_seq ?_
       obtain ⟨x1891, hj1892, hk1892⟩ := bindS hm
       refine c_join (fun b1889 e' hp' => [(137, .bool (x1891))] = e' ∧ (g11, Cl 94 [.slice A13 (l16).length c14, .slice A17 (l20).length c18, .slice A21 (l24).length c22, .slice A25 (l28).length c26, .slice A29 (l32).length c30, .int .i64 (x33), .slice A34 (l37).length c35, .slice A8 (l40).length c9]) :: (hs2 ++ (hs7 ++ R)) = hp' ∧ b1584.Le b1889) ?_ ?_
       ·
        have hm := hj1892
        obtain ⟨l1903, hcl1904, hm⟩ := bindS hm
        obtain ⟨x1911, hcl1912, hm⟩ := bindS hm
        refine D_drawI mixed (.refl _) ?_
        refine E_st 0 rfl (st_load 0 rfl one66 rfl rfl) ?_
        refine E_st 1 rfl (st_nil rfl) ?_
        refine E_st 2 rfl (st_field rfl fld94_0) ?_
        refine E_st 3 rfl (st_loadD (vs := [_, _, _, _, _]) 2 5 rfl agg28 rfl rfl rfl) ?_
        refine E_st 4 rfl (st_loadD (vs := [_, _, _]) 1 3 rfl agg54 rfl rfl rfl) ?_
        refine E_st 6 rfl (st_load 0 rfl one66 rfl rfl) ?_
        refine E_st 7 rfl (st_nil rfl) ?_
        refine E_st 8 rfl (st_field rfl fld94_1) ?_
        refine E_st 9 rfl (st_load 2 rfl one3 rfl rfl) ?_
        refine E_out ?_
        refine D_all [5] (by kernel_rfl) rfl ?_
        refine R_callGl (Base.Le.refl _) rfl rfl _ call34 rfl (cLineOverlap _ _ (⟨l16, l20, l24, l28, l32⟩ : ApiNet) x983 A13 c14 A17 c18 A21 c22 A25 c26 A29 c30 A993 c994 (h15.le (hle1109.trans (hle1263.trans hle1585))) (h19.le (hle1109.trans (hle1263.trans hle1585))) (h23.le (hle1109.trans (hle1263.trans hle1585))) (h27.le (hle1109.trans (hle1263.trans hle1585))) (h31.le (hle1109.trans (hle1263.trans hle1585))) (h995.le (hle1109.trans (hle1263.trans hle1585))) l1903 hcl1904) ?_ ?_
        ·
         rintro _ b1905 _ hle1906 ⟨A1907, c1908, hs1909, rfl, rfl, h1910⟩
         refine ⟨.inr (sub_skip hs1909 (.refl _)), ?_⟩
         refine d_in1 [] [_, _, _] hs1909 (hs2 ++ (hs7 ++ R)) rfl ?_
         refine D_all [10] (by kernel_rfl) rfl ?_
         refine R_do hle1906 rfl rfl (u_callW0 _ call40 rfl (fun w ho => cLineStands _ [] l1903 x33 A1907 c1908 (OS.now (o := (OT.fr rApiStep)) (l := l1903) (hs := hs1909) h1910 ho (.cons _ (.cons _ (.cons _ (List.sublist_append_left _ _))))) x1911 hcl1912) (fun _ _ _ h => h.2.symm)) ?_ ?_
         ·
          rintro _ _ ⟨⟨_, rfl, _⟩, rfl⟩
          refine ⟨.inr (.cons_cons _ (.cons_cons _ (.cons_cons _ (sub_skip hs1909 (.refl _))))), ?_⟩
          refine D_done (by kernel_rfl) ?_
          obtain rfl := some1 hm
          refine x_pullb 2 rfl ?_
          refine x_front3 [_, _, _] hs1909 hs2 hs7 R rfl ?_
          refine x_front3 [_, _, _] hs7 hs1909 hs2 R rfl ?_
          exact x_join (e' := [(137, .bool (x1911))]) ⟨rfl, trivial⟩ (.cons_cons _ (.cons _ (.cons _ (sub_app hs2 (sub_app hs7 (sub_skip hs1909 (.refl _))))))) ⟨rfl, rfl, hle1906⟩
         exact R_nil
        exact R_nil
       ·
        rintro b1889 _ _ ⟨rfl, rfl, hle1890⟩
        have hm := hk1892
        refine c_cond _ rfl (fun hc1913 => ?_) (fun hc1913 => ?_)
        ·
         rw [if_pos hc1913] at hm
         refine c_sr ?_
         refine t_as rfl rfl ?_
         refine t_ne ?_
         refine c_ret ?_
         refine x_then_ret ?_
         obtain rfl := some1 hm
         refine x_front2 [_] hs2 hs7 R rfl ?_
         refine x_front2 [_] hs7 hs2 R rfl ?_
         exact retM (rs := [.tmp 6]) [.int .i64 (8)] (hle1109.trans (hle1263.trans (hle1585.trans hle1890))) (by decide) rfl ⟨rfl, trivial⟩ rfl (.refl _) ⟨rfl, rfl⟩
        ·
         rw [if_neg (fun hh => Bool.noConfusion (hh.symm.trans hc1913))] at hm
         refine c_skip ?_
         refine x_then_normal ?_
         refine c_sr ?_
         refine t_as rfl rfl ?_
         refine t_ne ?_
         refine c_ret ?_
         obtain rfl := some1 hm
         refine x_front2 [_] hs2 hs7 R rfl ?_
         refine x_front2 [_] hs7 hs2 R rfl ?_
         exact retM (rs := [.tmp 6]) [.int .i64 (0)] (hle1109.trans (hle1263.trans (hle1585.trans hle1890))) (by decide) rfl ⟨rfl, trivial⟩ rfl (.refl _) ⟨rfl, rfl⟩

set_option maxRecDepth 20000 in
theorem cLineChains_1_3 : ∀ (N : Nat) (b : Base) (R : Hp) (l26 : (List ApiRoute)) (x27 : Int) (x28 : Int) (l32 : (List ByteArray)) (l36 : (List ApiSection)) (l40 : (List ApiLink)) (l44 : (List ApiSignal)) (l48 : (List ApiGate)) (x49 : Int) (l53 : (List ApiRoute)) (l54 : (List Int)) (l56 : (List (List Int))) (l57 : (List (List ApiNeed))) (g16 : Nat) (g17 : Nat) (g18 : Nat) (g19 : Nat) (g20 : Nat) (g21 : Nat) (g22 : Nat) (A23 : Option Addr) (c24 : Nat) (A29 : Option Addr) (c30 : Nat) (A33 : Option Addr) (c34 : Nat) (A37 : Option Addr) (c38 : Nat) (A41 : Option Addr) (c42 : Nat) (A45 : Option Addr) (c46 : Nat) (A50 : Option Addr) (c51 : Nat) (A3 : Option Addr) (c4 : Nat) (hs2 : Hp) (A8 : Option Addr) (c9 : Nat) (hs7 : Hp) (A13 : Option Addr) (c14 : Nat) (hs12 : Hp) (h25 : FZ rApiRoute b.w A23 c24 l26) (h31 : FZ RT.str b.w A29 c30 l32) (h35 : FZ rApiSection b.w A33 c34 l36) (h39 : FZ rApiLink b.w A37 c38 l40) (h43 : FZ rApiSignal b.w A41 c42 l44) (h47 : FZ rApiGate b.w A45 c46 l48) (h52 : FZ rApiRoute b.w A50 c51 l53) (h5 : OS 3 (OT.fr (RT.int .i64)) b.w (.slice A3 l54.length c4) l54 hs2) (hnz55 : (A3 = none ↔ l54 = [])) (h10 : OS 37 (OT.fr (RT.list (RT.int .i64))) b.w (.slice A8 l56.length c9) l56 hs7) (h15 : OS 38 (OT.fr (RT.list rApiNeed)) b.w (.slice A13 l57.length c14) l57 hs12) (l383 : (List (List Int))) (hm : mLineChains_1_3 N l26 x27 x28 l32 l36 l40 l44 l48 x49 l53 l54 l56 l57 = some l383),
    CallsG Tryz.prog 21 [.slice A3 (l54).length c4, .pointer (some ⟨g16, 0, none⟩), .pointer (some ⟨g17, 0, none⟩), .pointer (some ⟨g18, 0, none⟩), .pointer (some ⟨g19, 0, none⟩), .pointer (some ⟨g20, 0, none⟩), .pointer (some ⟨g21, 0, none⟩)] b ((g16, Cl 47 [.slice A23 (l26).length c24]) :: (g17, Cl 44 [.slice A8 (l56).length c9]) :: (g18, Cl 3 [.int .i64 (x27)]) :: (g19, Cl 66 [.pointer (some ⟨g22, 0, none⟩)]) :: (g20, Cl 3 [.int .i64 (x28)]) :: (g21, Cl 68 [.func (.func 21) #[] #[.pointer (some ⟨g16, 0, none⟩), .pointer (some ⟨g17, 0, none⟩), .pointer (some ⟨g18, 0, none⟩), .pointer (some ⟨g19, 0, none⟩), .pointer (some ⟨g20, 0, none⟩), .pointer (some ⟨g21, 0, none⟩)]]) :: (g22, Cl 94 [.slice A29 (l32).length c30, .slice A33 (l36).length c34, .slice A37 (l40).length c38, .slice A41 (l44).length c42, .slice A45 (l48).length c46, .int .i64 (x49), .slice A50 (l53).length c51, .slice A13 (l57).length c14]) :: (hs2 ++ (hs7 ++ (hs12 ++ R)))) (fun v b' hp' => ∃ (A380 : Option Addr), ∃ (c381 : Nat), ∃ (hs379 : Hp), .tuple #[] = v ∧ (g16, Cl 47 [.slice A23 (l26).length c24]) :: (g17, Cl 44 [.slice A380 (l383).length c381]) :: (g18, Cl 3 [.int .i64 (x27)]) :: (g19, Cl 66 [.pointer (some ⟨g22, 0, none⟩)]) :: (g20, Cl 3 [.int .i64 (x28)]) :: (g21, Cl 68 [.func (.func 21) #[] #[.pointer (some ⟨g16, 0, none⟩), .pointer (some ⟨g17, 0, none⟩), .pointer (some ⟨g18, 0, none⟩), .pointer (some ⟨g19, 0, none⟩), .pointer (some ⟨g20, 0, none⟩), .pointer (some ⟨g21, 0, none⟩)]]) :: (g22, Cl 94 [.slice A29 (l32).length c30, .slice A33 (l36).length c34, .slice A37 (l40).length c38, .slice A41 (l44).length c42, .slice A45 (l48).length c46, .int .i64 (x49), .slice A50 (l53).length c51, .slice A13 (l57).length c14]) :: (hs2 ++ (hs379 ++ (hs12 ++ R))) = hp' ∧ OS 37 (OT.fr (RT.list (RT.int .i64))) b'.w (.slice A380 l383.length c381) l383 hs379) := by
  intro N
  induction N with
  | zero =>
    intro b R l26 x27 x28 l32 l36 l40 l44 l48 x49 l53 l54 l56 l57 g16 g17 g18 g19 g20 g21 g22 A23 c24 A29 c30 A33 c34 A37 c38 A41 c42 A45 c46 A50 c51 A3 c4 hs2 A8 c9 hs7 A13 c14 hs12 h25 h31 h35 h39 h43 h47 h52 h5 hnz55 h10 h15 l383 hm
    unfold mLineChains_1_3 at hm
    cases hm
  | succ N ih =>
    intro b R l26 x27 x28 l32 l36 l40 l44 l48 x49 l53 l54 l56 l57 g16 g17 g18 g19 g20 g21 g22 A23 c24 A29 c30 A33 c34 A37 c38 A41 c42 A45 c46 A50 c51 A3 c4 hs2 A8 c9 hs7 A13 c14 hs12 h25 h31 h35 h39 h43 h47 h52 h5 hnz55 h10 h15 l383 hm
    refine fn_enterG 45 Tryz.func21 rfl Tryz.ntmps21 rfl ?_
    unfold mLineChains_1_3 at hm
    refine c_sr ?_
    refine t_st rfl (st_load 0 rfl one47 rfl rfl) ?_
    refine t_st rfl (st_len rfl sl47) ?_
    refine t_mv rfl rfl ?_
    refine t_ne ?_
    refine c_block ?_
    have hb385 : l26.length ≤ 9223372036854775807 := (FZ.bd h25)
    refine c_pullb 6 rfl ?_
    refine c_pullb 1 rfl ?_
    refine c_pullb 6 rfl ?_
    refine c_pullb 6 rfl ?_
    refine c_pullb 6 rfl ?_
    refine c_pullb 6 rfl ?_
    refine c_pullb 6 rfl ?_
    refine c_front3 [_, _, _, _, _, _, _] hs2 hs7 hs12 R rfl ?_
    refine c_front3 [_, _, _, _, _, _, _] hs12 hs2 hs7 R rfl ?_
    refine c_front3 [_, _, _, _, _, _, _] hs7 hs12 hs2 R rfl ?_
    obtain ⟨t499, hl500, hk501⟩ := bindS hm
    refine c_forM (fun k498 => fun l497 => fun b490 e' hp' => ∃ (A494 : Option Addr), ∃ (c495 : Nat), ∃ (hs493 : Hp), [(0, .slice A3 (l54).length c4), (2, .pointer (some ⟨g17, 0, none⟩)), (3, .pointer (some ⟨g18, 0, none⟩)), (4, .pointer (some ⟨g19, 0, none⟩)), (5, .pointer (some ⟨g20, 0, none⟩)), (6, .pointer (some ⟨g21, 0, none⟩)), (11, .int .i64 ((l26.length : Int))), (12, .int .i64 ((k498 : Int)))] = e' ∧ (g17, Cl 44 [.slice A494 (l497).length c495]) :: (g18, Cl 3 [.int .i64 (x27)]) :: (g19, Cl 66 [.pointer (some ⟨g22, 0, none⟩)]) :: (g20, Cl 3 [.int .i64 (x28)]) :: (g21, Cl 68 [.func (.func 21) #[] #[.pointer (some ⟨g16, 0, none⟩), .pointer (some ⟨g17, 0, none⟩), .pointer (some ⟨g18, 0, none⟩), .pointer (some ⟨g19, 0, none⟩), .pointer (some ⟨g20, 0, none⟩), .pointer (some ⟨g21, 0, none⟩)]]) :: (g16, Cl 47 [.slice A23 (l26).length c24]) :: (g22, Cl 94 [.slice A29 (l32).length c30, .slice A33 (l36).length c34, .slice A37 (l40).length c38, .slice A41 (l44).length c42, .slice A45 (l48).length c46, .int .i64 (x49), .slice A50 (l53).length c51, .slice A13 (l57).length c14]) :: (hs2 ++ (hs493 ++ (hs12 ++ R))) = hp' ∧ b.Le b490 ∧ OS 37 (OT.fr (RT.list (RT.int .i64))) b490.w (.slice A494 l497.length c495) l497 hs493) hl500 (e' := [(0, .slice A3 (l54).length c4), (2, .pointer (some ⟨g17, 0, none⟩)), (3, .pointer (some ⟨g18, 0, none⟩)), (4, .pointer (some ⟨g19, 0, none⟩)), (5, .pointer (some ⟨g20, 0, none⟩)), (6, .pointer (some ⟨g21, 0, none⟩)), (11, .int .i64 ((l26.length : Int))), (12, .int .i64 0)]) ⟨rfl, rfl, rfl, rfl, rfl, rfl, rfl, rfl, trivial⟩ (.refl _) ⟨A8, c9, hs7, rfl, rfl, (Base.Le.refl _), h10⟩ ?_ ?_
    ·
     rintro k498 l497 b490 _ _ oL384 hknL384 ⟨A494, c495, hs493, rfl, rfl, hle491, h496⟩ hstepL384 houtL384
     unfold mLineChains_1_3_L384 at hstepL384
     have hm := hstepL384
     refine c_sr ?_
     refine t_st rfl (st_lss_t rfl rfl (by omega)) ?_
     refine t_ne ?_
     refine c_seq ?_
     refine c_cond_t rfl ?_
     refine c_skip ?_
     refine x_then_normal ?_
     refine c_seq ?_
     refine c_block ?_
     refine c_sr ?_
     refine t_mv rfl rfl ?_
     refine t_as rfl rfl ?_
     refine t_ne ?_
     refine c_seq ?_
     refine c_sr ?_
     refine t_st rfl (st_load 0 rfl one44 rfl rfl) ?_
     refine t_st rfl (st_len rfl sl44) ?_
     refine t_st rfl (st_load 1 rfl one3 rfl rfl) ?_
     refine t_st rfl (st_eql rfl rfl) ?_
     refine t_ne ?_
     refine c_cond _ rfl (fun hc502 => ?_) (fun hc502 => ?_)
     ·
      rw [if_pos (of_decide_eq_true hc502)] at hm
      refine c_ret ?_
      refine x_then_ret ?_
      refine x_block_ret ?_
      refine x_then_ret ?_
      refine x_then_ret ?_
      refine x_block_ret ?_
      have hq503 := houtL384 _ (Option.some.inj hm).symm
      rw [hq503] at hk501
      have hm := elimR hk501
      obtain rfl := some1 hm
      refine x_pullb 6 rfl ?_
      refine x_pullb 5 rfl ?_
      refine x_pullb 5 rfl ?_
      refine x_pullb 5 rfl ?_
      refine x_pullb 5 rfl ?_
      refine x_pullb 5 rfl ?_
      refine x_pullb 6 rfl ?_
      refine x_front3 [_, _, _, _, _, _, _] hs2 hs493 hs12 R rfl ?_
      refine x_front3 [_, _, _, _, _, _, _] hs12 hs2 hs493 R rfl ?_
      refine x_front3 [_, _, _, _, _, _, _] hs493 hs12 hs2 R rfl ?_
      exact retM (rs := []) [] hle491 (by decide) rfl trivial rfl (.refl _) ⟨A494, c495, hs493, rfl, rfl, h496⟩
     ·
      rw [if_neg (of_decide_eq_false hc502)] at hm
      refine c_skip ?_
      refine x_then_normal ?_
      refine c_seq ?_
      refine c_sr ?_
      refine t_st rfl (st_load 2 rfl one66 rfl rfl) ?_
      refine t_mv rfl rfl ?_
      refine t_mv rfl rfl ?_
      obtain ⟨x504, hcl505, hm⟩ := bindS hm
      refine t_pullb 6 rfl ?_
      refine t_front3 [_, _, _, _, _, _, _] hs2 hs493 hs12 R rfl ?_
      refine t_front2 [_, _, _, _, _, _, _] hs12 hs2 (hs493 ++ R) rfl ?_
      refine t_out2 [_] [_, _, _, _, _, _] hs2 hs12 (hs493 ++ R) rfl ?_
      refine t_callG _ rfl call22 rfl (cLineLegsAdd_2 _ _ (k498 : Int) l32 l36 l40 l44 l48 x49 l53 l54 l57 g22 A29 c30 A33 c34 A37 c38 A41 c42 A45 c46 A50 c51 A3 c4 hs2 A13 c14 hs12 (h31.le hle491) (h35.le hle491) (h39.le hle491) (h43.le hle491) (h47.le hle491) (h52.le hle491) (h5.le hle491) hnz55 (h15.le hle491) x504 hcl505) ?_
      rintro _ b506 _ hle507 ⟨rfl, rfl⟩
      refine t_in2 [_] [_, _, _, _, _, _] hs2 hs12 (hs493 ++ R) rfl ?_
      refine t_st rfl (st_neq rfl rfl) ?_
      refine t_ne ?_
      refine c_cond _ rfl (fun hc508 => ?_) (fun hc508 => ?_)
      ·
       rw [if_pos (of_decide_eq_true hc508)] at hm
       refine c_exit ?_
       refine x_then_exit ?_
       refine x_block_out ?_
       refine x_then_normal ?_
       refine c_region ?_
       refine t_st rfl (st_add rfl rfl (by omega)) ?_
       refine t_mv rfl rfl ?_
       refine t_nil ?_
       refine x_pullb 6 rfl ?_
       refine x_pullb 6 rfl ?_
       refine x_pullb 6 rfl ?_
       refine x_pullb 6 rfl ?_
       refine x_pullb 6 rfl ?_
       refine x_pullb 6 rfl ?_
       refine x_front2 [_, _, _, _, _, _, _] hs2 hs12 (hs493 ++ R) rfl ?_
       refine x_front3 [_, _, _, _, _, _, _] hs12 hs2 hs493 R rfl ?_
       refine x_front3 [_, _, _, _, _, _, _] hs493 hs12 hs2 R rfl ?_
       exact x_againM l497 (Option.some.inj hm).symm (e' := [(0, .slice A3 (l54).length c4), (2, .pointer (some ⟨g17, 0, none⟩)), (3, .pointer (some ⟨g18, 0, none⟩)), (4, .pointer (some ⟨g19, 0, none⟩)), (5, .pointer (some ⟨g20, 0, none⟩)), (6, .pointer (some ⟨g21, 0, none⟩)), (11, .int .i64 ((l26.length : Int))), (12, .int .i64 ((k498 : Int) + 1))]) ⟨rfl, rfl, rfl, rfl, rfl, rfl, rfl, rfl, trivial⟩ (.refl _) ⟨A494, c495, hs493, rfl, rfl, ((hle491.trans hle507)), (h496.le hle507)⟩
      ·
       rw [if_neg (of_decide_eq_false hc508)] at hm
       refine c_skip ?_
       refine x_then_normal ?_
       refine c_sr ?_
       refine t_mv rfl rfl ?_
       obtain ⟨l509, hcl510, hm⟩ := bindS hm
       refine t_do rfl (u_callWF [_, _, _, _, _, _, _] (hs2 ++ (hs12 ++ (hs493 ++ R))) _ rfl call23 rfl (fun w ho => cSlicesClone_2 _ [] l54 A3 c4 (OS.now (o := (OT.fr (RT.int .i64))) (l := l54) (hs := hs2) (h5.le (hle491.trans hle507)) ho (.cons _ (.cons _ (.cons _ (.cons _ (.cons _ (.cons _ (.cons _ (List.sublist_append_left _ _))))))))) l509 hcl510)) ?_
       rintro _ _ ⟨_, _, rfl, A511, c512, hs513, rfl, hq516, h514⟩
       obtain rfl := List.append_cancel_right hq516
       have h515 := flat_fz (w' := b506.w) (fun _ _ _ _ h => h) h514
       refine t_mv rfl rfl ?_
       refine t_do rfl (u_bslice (el := 3) [(0, .int .i64 ((k498 : Int)))] [.int .i64 ((k498 : Int))] rfl (fun _ => by kernel_rfl)) ?_
       rintro _ _ ⟨g517, rfl, rfl⟩
       obtain ⟨_, h518, hm⟩ := bindS hm
       have h518 := room_some h518
       refine t_do rfl (u_appOS (r := (RT.int .i64)) (l := l509) [_, _, _, _, _, _, _, _] (hs2 ++ (hs12 ++ (hs493 ++ R))) [[.int .i64 ((k498 : Int))]] [(k498 : Int)] rfl (by decide) sl37 inf3 rfl rfl rfl rfl h515 rfl (fun w ho => Rd.own (i := 0) ho rfl) ⟨rfl, trivial⟩ h518) ?_
       rintro _ _ ⟨hs519, rfl, h520⟩
       obtain ⟨A521, c522, rfl, _⟩ := h520.form
       refine t_as rfl rfl ?_
       refine t_ne ?_
       refine c_seq ?_
       obtain ⟨x527, hcl528, hm⟩ := bindS hm
       refine D_drawI mixed (.cons_cons _ (.cons _ (.cons_cons _ (.cons_cons _ (.cons_cons _ (.cons_cons _ (.cons_cons _ (.cons_cons _ (sub_skip hs519 (sub_app hs2 (sub_skip hs12 (.refl _)))))))))))) ?_
       refine E_st 0 rfl (st_load 3 rfl one66 rfl rfl) ?_
       refine E_st 1 rfl (st_move rfl) ?_
       refine E_st 3 rfl (st_load 4 rfl one3 rfl rfl) ?_
       refine E_out ?_
       refine d_pullb 1 rfl ?_
       refine d_front3 [_, _, _, _, _, _, _, _] hs519 hs2 hs12 (hs493 ++ R) rfl ?_
       refine d_front2 [_, _, _, _, _, _, _, _] hs12 hs519 (hs2 ++ (hs493 ++ R)) rfl ?_
       refine d_out2 [_] [_, _, _, _, _, _, _] hs519 hs12 (hs2 ++ (hs493 ++ R)) rfl ?_
       refine D_all [2] (by kernel_rfl) rfl ?_
       refine R_callGl (Base.Le.refl _) rfl rfl _ call24 rfl (cLineLegsLast _ _ l32 l36 l40 l44 l48 x49 l53 (l509 ++ [(k498 : Int)]) l57 g22 A29 c30 A33 c34 A37 c38 A41 c42 A45 c46 A50 c51 A521 c522 hs519 A13 c14 hs12 (h31.le (hle491.trans hle507)) (h35.le (hle491.trans hle507)) (h39.le (hle491.trans hle507)) (h43.le (hle491.trans hle507)) (h47.le (hle491.trans hle507)) (h52.le (hle491.trans hle507)) h520 (OS.nz h520 (by simp)) (h15.le (hle491.trans hle507)) x527 hcl528) ?_ ?_
       ·
        rintro _ b529 _ hle530 ⟨rfl, rfl⟩
        refine ⟨.inr (.cons _ (sub_skip hs519 (sub_skip hs12 (.refl _)))), ?_⟩
        refine d_in2 [_] [_, _, _, _, _, _, _] hs519 hs12 (hs2 ++ (hs493 ++ R)) rfl ?_
        refine D_st hle530 4 rfl (by kernel_rfl) (by kernel_rfl) (by kernel_rfl) rfl (st_eql rfl rfl) (.cons _ (.cons_cons _ (.cons_cons _ (.cons_cons _ (.cons_cons _ (.cons_cons _ (.cons_cons _ (.cons_cons _ (sub_skip hs519 (sub_skip hs12 (.refl _))))))))))) ?_
        refine D_done (by kernel_rfl) ?_
        refine x_then_normal ?_
        refine c_cond _ rfl (fun hc531 => ?_) (fun hc531 => ?_)
        ·
         rw [if_pos (of_decide_eq_true hc531)] at hm
         refine c_region ?_
         refine t_st rfl (st_load 2 rfl one44 rfl rfl) ?_
         refine t_mv rfl rfl ?_
         refine t_do rfl (u_bslice (el := 37) [(0, .slice A521 (l509 ++ [(k498 : Int)]).length c522)] [.slice A521 (l509 ++ [(k498 : Int)]).length c522] rfl (fun _ => by kernel_rfl)) ?_
         rintro _ _ ⟨g532, rfl, rfl⟩
         have hnz533 : (A521 = none ↔ l509 ++ [(k498 : Int)] = []) := (OS.nz (h520.le hle530) (by simp))
         refine t_frz [_, _, _, _, _, _, _, _, _] hs519 (hs12 ++ (hs2 ++ (hs493 ++ R))) rfl ?_
         intro b534 hle535 hz536
         have h537 := OS.frz (l := l509 ++ [(k498 : Int)]) (h520.le hle530) hle535.cells hz536
         obtain ⟨_, h538, hm⟩ := bindS hm
         have h538 := room_some h538
         refine t_front3 [_, _, _, _, _, _, _, _, _] hs12 hs2 hs493 R rfl ?_
         refine t_do rfl (u_appOS (r := (RT.list (RT.int .i64))) (l := l497) [_, _, _, _, _, _, _, _, _] (hs12 ++ (hs2 ++ R)) [[.slice A521 (l509 ++ [(k498 : Int)]).length c522]] [l509 ++ [(k498 : Int)]] rfl (by decide) sl44 inf37 rfl rfl rfl rfl (h496.le (hle507.trans (hle530.trans hle535))) rfl (fun w ho => Rd.own (i := 0) ho rfl) ⟨(RT.list_mk h537), trivial⟩ h538) ?_
         rintro _ _ ⟨hs539, rfl, h540⟩
         obtain ⟨A541, c542, rfl, _⟩ := h540.form
         refine t_do rfl (u_store 3 rfl rfl siz44 rfl rfl (by simp)) ?_
         rintro _ _ rfl
         refine t_nil ?_
         refine x_block_normal ?_
         refine x_then_normal ?_
         refine c_region ?_
         refine t_st rfl (st_add rfl rfl (by omega)) ?_
         refine t_mv rfl rfl ?_
         refine t_nil ?_
         refine x_pullb 1 rfl ?_
         refine x_pullb 8 rfl ?_
         refine x_pullb 8 rfl ?_
         refine x_pullb 8 rfl ?_
         refine x_pullb 8 rfl ?_
         refine x_pullb 8 rfl ?_
         refine x_pullb 8 rfl ?_
         refine x_front2 [_, _, _, _, _, _, _, _, _] hs539 hs12 (hs2 ++ R) rfl ?_
         refine x_front2 [_, _, _, _, _, _, _, _, _] hs12 hs539 (hs2 ++ R) rfl ?_
         refine x_front3 [_, _, _, _, _, _, _, _, _] hs539 hs12 hs2 R rfl ?_
         exact x_againM (l497 ++ [l509 ++ [(k498 : Int)]]) (Option.some.inj hm).symm (e' := [(0, .slice A3 (l54).length c4), (2, .pointer (some ⟨g17, 0, none⟩)), (3, .pointer (some ⟨g18, 0, none⟩)), (4, .pointer (some ⟨g19, 0, none⟩)), (5, .pointer (some ⟨g20, 0, none⟩)), (6, .pointer (some ⟨g21, 0, none⟩)), (11, .int .i64 ((l26.length : Int))), (12, .int .i64 ((k498 : Int) + 1))]) ⟨rfl, rfl, rfl, rfl, rfl, rfl, rfl, rfl, trivial⟩ (.cons_cons _ (.cons_cons _ (.cons_cons _ (.cons_cons _ (.cons_cons _ (.cons_cons _ (.cons_cons _ (.cons _ (.cons _ (.refl _)))))))))) ⟨A541, c542, hs539, rfl, rfl, ((hle491.trans (hle507.trans (hle530.trans hle535)))), h540⟩
        ·
         rw [if_neg (of_decide_eq_false hc531)] at hm
         refine c_sr ?_
         refine t_mv rfl rfl ?_
         refine t_st rfl (st_len rfl sl37) ?_
         refine t_st rfl (st_lss rfl rfl) ?_
         refine t_ne ?_
         refine c_cond _ rfl (fun hc543 => ?_) (fun hc543 => ?_)
         ·
          rw [if_pos (of_decide_eq_true hc543)] at hm
          refine c_region ?_
          refine t_st rfl (st_load 6 rfl one68 rfl rfl) ?_
          refine t_mv rfl rfl ?_
          obtain ⟨l544, hcl545, hm⟩ := bindS hm
          refine t_pullb 6 rfl ?_
          refine t_pullb 6 rfl ?_
          refine t_pullb 6 rfl ?_
          refine t_pullb 6 rfl ?_
          refine t_pullb 6 rfl ?_
          refine t_pullb 7 rfl ?_
          refine t_front2 [_, _, _, _, _, _, _, _] hs519 hs12 (hs2 ++ (hs493 ++ R)) rfl ?_
          refine t_front4 [_, _, _, _, _, _, _, _] hs12 hs519 hs2 hs493 R rfl ?_
          refine t_front3 [_, _, _, _, _, _, _, _] hs493 hs12 hs519 (hs2 ++ R) rfl ?_
          refine t_out3 [_, _, _, _, _, _, _] [_] hs519 hs493 hs12 (hs2 ++ R) rfl ?_
          refine t_callvG #[] #[.pointer (some ⟨g16, 0, none⟩), .pointer (some ⟨g17, 0, none⟩), .pointer (some ⟨g18, 0, none⟩), .pointer (some ⟨g19, 0, none⟩), .pointer (some ⟨g20, 0, none⟩), .pointer (some ⟨g21, 0, none⟩)] [.slice A521 (l509 ++ [(k498 : Int)]).length c522] rfl rfl call21 rfl (ih _ _ l26 x27 x28 l32 l36 l40 l44 l48 x49 l53 (l509 ++ [(k498 : Int)]) l497 l57 g16 g17 g18 g19 g20 g21 g22 A23 c24 A29 c30 A33 c34 A37 c38 A41 c42 A45 c46 A50 c51 A521 c522 hs519 A494 c495 hs493 A13 c14 hs12 (h25.le (hle491.trans (hle507.trans hle530))) (h31.le (hle491.trans (hle507.trans hle530))) (h35.le (hle491.trans (hle507.trans hle530))) (h39.le (hle491.trans (hle507.trans hle530))) (h43.le (hle491.trans (hle507.trans hle530))) (h47.le (hle491.trans (hle507.trans hle530))) (h52.le (hle491.trans (hle507.trans hle530))) (h520.le hle530) (OS.nz (h520.le hle530) (by simp)) (h496.le (hle507.trans hle530)) (h15.le (hle491.trans (hle507.trans hle530))) l544 hcl545) ?_
          rintro _ b546 _ hle547 ⟨A548, c549, hs550, rfl, rfl, h551⟩
          refine t_in3 [_, _, _, _, _, _, _] [_] hs519 hs550 hs12 (hs2 ++ R) rfl ?_
          refine t_nil ?_
          refine x_block_normal ?_
          refine x_then_normal ?_
          refine c_region ?_
          refine t_st rfl (st_add rfl rfl (by omega)) ?_
          refine t_mv rfl rfl ?_
          refine t_nil ?_
          refine x_pullb 6 rfl ?_
          refine x_pullb 1 rfl ?_
          refine x_pullb 6 rfl ?_
          refine x_pullb 6 rfl ?_
          refine x_pullb 6 rfl ?_
          refine x_pullb 6 rfl ?_
          refine x_pullb 6 rfl ?_
          refine x_front3 [_, _, _, _, _, _, _, _] hs519 hs550 hs12 (hs2 ++ R) rfl ?_
          refine x_front3 [_, _, _, _, _, _, _, _] hs12 hs519 hs550 (hs2 ++ R) rfl ?_
          refine x_front4 [_, _, _, _, _, _, _, _] hs550 hs12 hs519 hs2 R rfl ?_
          exact x_againM l544 (Option.some.inj hm).symm (e' := [(0, .slice A3 (l54).length c4), (2, .pointer (some ⟨g17, 0, none⟩)), (3, .pointer (some ⟨g18, 0, none⟩)), (4, .pointer (some ⟨g19, 0, none⟩)), (5, .pointer (some ⟨g20, 0, none⟩)), (6, .pointer (some ⟨g21, 0, none⟩)), (11, .int .i64 ((l26.length : Int))), (12, .int .i64 ((k498 : Int) + 1))]) ⟨rfl, rfl, rfl, rfl, rfl, rfl, rfl, rfl, trivial⟩ (.cons_cons _ (.cons_cons _ (.cons_cons _ (.cons_cons _ (.cons_cons _ (.cons_cons _ (.cons_cons _ (.cons _ (sub_app hs2 (sub_app hs550 (sub_app hs12 (sub_skip hs519 (.refl _))))))))))))) ⟨A548, c549, hs550, rfl, rfl, ((hle491.trans (hle507.trans (hle530.trans hle547)))), h551⟩
         ·
          rw [if_neg (of_decide_eq_false hc543)] at hm
          refine c_skip ?_
          refine x_block_normal ?_
          refine x_then_normal ?_
          refine c_region ?_
          refine t_st rfl (st_add rfl rfl (by omega)) ?_
          refine t_mv rfl rfl ?_
          refine t_nil ?_
          refine x_pullb 7 rfl ?_
          refine x_pullb 7 rfl ?_
          refine x_pullb 7 rfl ?_
          refine x_pullb 7 rfl ?_
          refine x_pullb 7 rfl ?_
          refine x_pullb 7 rfl ?_
          refine x_front2 [_, _, _, _, _, _, _, _] hs519 hs12 (hs2 ++ (hs493 ++ R)) rfl ?_
          refine x_front4 [_, _, _, _, _, _, _, _] hs12 hs519 hs2 hs493 R rfl ?_
          refine x_front4 [_, _, _, _, _, _, _, _] hs493 hs12 hs519 hs2 R rfl ?_
          exact x_againM l497 (Option.some.inj hm).symm (e' := [(0, .slice A3 (l54).length c4), (2, .pointer (some ⟨g17, 0, none⟩)), (3, .pointer (some ⟨g18, 0, none⟩)), (4, .pointer (some ⟨g19, 0, none⟩)), (5, .pointer (some ⟨g20, 0, none⟩)), (6, .pointer (some ⟨g21, 0, none⟩)), (11, .int .i64 ((l26.length : Int))), (12, .int .i64 ((k498 : Int) + 1))]) ⟨rfl, rfl, rfl, rfl, rfl, rfl, rfl, rfl, trivial⟩ (.cons_cons _ (.cons_cons _ (.cons_cons _ (.cons_cons _ (.cons_cons _ (.cons_cons _ (.cons_cons _ (.cons _ (sub_app hs2 (sub_app hs493 (sub_app hs12 (sub_skip hs519 (.refl _))))))))))))) ⟨A494, c495, hs493, rfl, rfl, ((hle491.trans (hle507.trans hle530))), (h496.le (hle507.trans hle530))⟩
       exact R_nil
    ·
     rintro l497 b490 _ _ ⟨A494, c495, hs493, rfl, rfl, hle491, h496⟩ hq552
     rw [hq552] at hk501
     have hm := elimL hk501
     refine c_sr ?_
     refine t_st rfl (st_lss_f rfl rfl (by omega)) ?_
     refine t_ne ?_
     refine c_seq ?_
     refine c_cond_f rfl ?_
     refine c_exit ?_
     refine x_then_exit ?_
     refine x_then_exit ?_
     refine x_block_out ?_
     obtain rfl := some1 hm
     refine x_pullb 6 rfl ?_
     refine x_pullb 5 rfl ?_
     refine x_pullb 5 rfl ?_
     refine x_pullb 5 rfl ?_
     refine x_pullb 5 rfl ?_
     refine x_pullb 5 rfl ?_
     refine x_pullb 6 rfl ?_
     refine x_front3 [_, _, _, _, _, _, _] hs2 hs493 hs12 R rfl ?_
     refine x_front3 [_, _, _, _, _, _, _] hs12 hs2 hs493 R rfl ?_
     refine x_front3 [_, _, _, _, _, _, _] hs493 hs12 hs2 R rfl ?_
     exact endM hle491 rfl (.refl _) ⟨A494, c495, hs493, rfl, rfl, h496⟩

end Go.Proofs.YtcibjjhanafojaaGreatDoor
