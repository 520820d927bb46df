/- Contracts: the code computes its model (part 4). -/
import Derived.Test.YtnlnohallnfbmaaGreatDoorQP3
set_option linter.unusedVariables false
set_option linter.unusedSimpArgs false
namespace Go.Proofs.YtnlnohallnfbmaaGreatDoor
open Go.RowKit Go.Fp

set_option maxRecDepth 20000 in
theorem cFishkeep2FarePacked (b : Base) (R : Hp) (l4 : (List FareSpan)) (x5 : Int) (x6 : Int) (A1 : Option Addr) (c2 : Nat) (h3 : FZ rFareSpan b.w A1 c2 l4) (x956 : Bool) (hm : mFishkeep2FarePacked l4 x5 x6 = some x956) :
    CallsG Tryz.prog 5 [.slice A1 (l4).length c2, .int .i64 (x5), .int .i64 (x6)] b (R) (fun v b' hp' => .bool (x956) = v ∧ R = hp') := by
  refine fn_enterG 143 Tryz.func5 rfl Tryz.ntmps5 rfl ?_
  unfold mFishkeep2FarePacked at hm
  refine c_sr ?_
  refine t_as rfl rfl ?_
  refine t_ne ?_
  refine c_seq ?_
  refine c_sr ?_
  obtain ⟨_, hcl957, hm⟩ := bindS hm
  refine t_do rfl (u_callW0 _ call6 rfl (fun w ho => cFishkeep2AwakeFare _ [] hcl957) (fun _ _ _ h => h.2.symm)) ?_
  rintro _ _ ⟨⟨_, rfl, _⟩, rfl⟩
  refine t_st rfl (st_not_t rfl) ?_
  refine t_ne ?_
  refine c_cond_f rfl ?_
  refine c_skip ?_
  refine x_then_normal ?_
  refine c_seq ?_
  refine c_sr ?_
  obtain ⟨x958, hcl959, hm⟩ := bindS hm
  refine t_do rfl (u_callW0 _ call8 rfl (fun w ho => cFishkeep2Fares _ [] x958 hcl959) (fun _ _ _ h => h.2.symm)) ?_
  rintro _ _ ⟨⟨_, rfl, _⟩, rfl⟩
  refine t_st rfl (st_not rfl) ?_
  refine t_ne ?_
  refine c_cond _ rfl (fun hc960 => ?_) (fun hc960 => ?_)
  ·
   rw [if_neg (fun hh => Bool.noConfusion (hh.symm.trans (notT hc960)))] at hm
   refine c_sr ?_
   refine t_as rfl rfl ?_
   refine t_ne ?_
   refine c_ret ?_
   refine x_then_ret ?_
   obtain rfl := some1 hm
   exact retM (rs := [.tmp 6]) [.bool (false)] (Base.Le.refl _) (by decide) rfl ⟨rfl, trivial⟩ rfl (.refl _) ⟨rfl, rfl⟩
  ·
   rw [if_pos (notF hc960)] at hm
   refine c_skip ?_
   refine x_then_normal ?_
   refine c_seq ?_
   refine c_sr ?_
   refine t_mv rfl rfl ?_
   refine t_mv rfl rfl ?_
   refine t_mv rfl rfl ?_
   obtain ⟨⟨x961, l962⟩, hcl963, hm⟩ := bindS hm
   have hm := (unc2E hm)
   refine t_callG _ rfl call15 rfl (cFishref2PackOf _ _ l4 x5 x6 A1 c2 h3 x961 l962 hcl963) ?_
   rintro _ b964 _ hle965 ⟨A966, c967, hs968, rfl, rfl, h969⟩
   refine t_in1 [] [] hs968 R rfl ?_
   refine t_mv rfl rfl ?_
   refine t_st rfl (st_extract rfl rfl) ?_
   refine t_st rfl (st_extract rfl rfl) ?_
   refine t_as rfl rfl ?_
   refine t_as rfl rfl ?_
   refine t_ne ?_
   obtain ⟨x973, hj974, hk974⟩ := bindS hm
   refine c_join (fun b971 e' hp' => [(0, .slice A1 (l4).length c2), (1, .int .i64 (x5)), (2, .int .i64 (x6)), (36, .bool (x973))] = e' ∧ R = hp' ∧ b964.Le b971) ?_ ?_
   ·
    have hm := hj974
    refine c_region ?_
    refine t_mv rfl rfl ?_
    refine t_bool rfl (st_eql rfl rfl) (fun hc975 => ?_) (fun hc975 => ?_)
    ·
     rw [if_pos hc975] at hm
     refine t_mv rfl rfl ?_
     refine t_no 33 rfl rfl rfl rfl rfl ?_
     refine t_no 33 rfl rfl rfl rfl rfl ?_
     refine t_st rfl (st_pick_t rfl rfl) ?_
     refine t_nil ?_
     obtain rfl := some1 hm
     exact x_join (e' := [(0, .slice A1 (l4).length c2), (1, .int .i64 (x5)), (2, .int .i64 (x6)), (36, .bool (true))]) ⟨rfl, rfl, rfl, rfl, trivial⟩ (sub_skip hs968 (.refl _)) ⟨rfl, rfl, (Base.Le.refl _)⟩
    ·
     rw [if_neg hc975] at hm
     refine t_mv rfl rfl ?_
     refine t_yes 33 rfl rfl rfl ?_
     refine t_mv rfl rfl ?_
     refine t_yes 33 rfl rfl rfl ?_
     refine t_st rfl (st_eql rfl rfl) ?_
     refine t_st rfl (st_pick_f rfl rfl) ?_
     refine t_nil ?_
     obtain rfl := some1 hm
     exact x_join (e' := [(0, .slice A1 (l4).length c2), (1, .int .i64 (x5)), (2, .int .i64 (x6)), (36, .bool (decide (x961 = 2)))]) ⟨rfl, rfl, rfl, rfl, trivial⟩ (sub_skip hs968 (.refl _)) ⟨rfl, rfl, (Base.Le.refl _)⟩
   ·
    rintro b971 _ _ ⟨rfl, rfl, hle972⟩
    have hm := hk974
    refine c_cond _ rfl (fun hc976 => ?_) (fun hc976 => ?_)
    ·
     rw [if_pos hc976] at hm
     refine c_sr ?_
     refine t_as rfl rfl ?_
     refine t_ne ?_
     refine c_ret ?_
     refine x_then_ret ?_
     obtain rfl := some1 hm
     exact retM (rs := [.tmp 6]) [.bool (true)] (hle965.trans hle972) (by decide) rfl ⟨rfl, trivial⟩ rfl (.refl _) ⟨rfl, rfl⟩
    ·
     rw [if_neg (fun hh => Bool.noConfusion (hh.symm.trans hc976))] at hm
     refine c_skip ?_
     refine x_then_normal ?_
     refine c_sr ?_
     refine t_as rfl rfl ?_
     refine t_ne ?_
     refine c_seq ?_
     refine c_sr ?_
     refine t_mv rfl rfl ?_
     refine t_mv rfl rfl ?_
     refine t_ne ?_
     refine c_block ?_
     obtain ⟨_, h978, hm⟩ := bindS hm
     have h978 := (chk_some h978).2
     obtain ⟨x1114, hl1116, hk1117⟩ := bindS hm
     refine c_forS (fun k1115 => fun x1114 => fun b1112 e' hp' => [(0, .slice A1 (l4).length c2), (1, .int .i64 (x5)), (2, .int .i64 (x6)), (9, .int .i64 (x1114)), (37, .int .i64 (x6)), (38, .int .i64 ((k1115 : Int)))] = e' ∧ R = hp' ∧ b971.Le b1112) hl1116 (e' := [(0, .slice A1 (l4).length c2), (1, .int .i64 (x5)), (2, .int .i64 (x6)), (9, .int .i64 (0)), (37, .int .i64 (x6)), (38, .int .i64 0)]) ⟨rfl, rfl, rfl, rfl, rfl, rfl, trivial⟩ (.refl _) ⟨rfl, rfl, (Base.Le.refl _)⟩ ?_ ?_
     ·
      rintro k1115 x1114 b1112 _ _ oL977 hknL977 ⟨rfl, rfl, hle1113⟩ hstepL977
      unfold mFishkeep2FarePacked_L977 at hstepL977
      have hm := hstepL977
      refine c_sr ?_
      refine t_st rfl (st_lss_t rfl rfl (by omega)) ?_
      refine t_ne ?_
      refine c_seq ?_
      refine c_cond_t rfl ?_
      refine c_skip ?_
      refine x_then_normal ?_
      refine c_seq ?_
      refine c_block ?_
      refine c_sr ?_
      refine t_mv rfl rfl ?_
      refine t_as rfl rfl ?_
      refine t_ne ?_
      refine c_sr ?_
      refine t_as rfl rfl ?_
      refine t_ne ?_
      refine c_seq ?_
      refine c_sr ?_
      refine t_mv rfl rfl ?_
      refine t_st rfl (st_len rfl sl43) ?_
      refine t_mv rfl rfl ?_
      refine t_ne ?_
      refine c_block ?_
      have hb1119 : l4.length ≤ 9223372036854775807 := (FZ.bd (h3.le (hle965.trans (hle972.trans hle1113))))
      obtain ⟨x1161, hl1163, hk1164⟩ := bindS hm
      refine c_forS (fun k1162 => fun x1161 => fun b1159 e' hp' => [(0, .slice A1 (l4).length c2), (1, .int .i64 (x5)), (2, .int .i64 (x6)), (9, .int .i64 (x1114)), (10, .int .i64 ((k1115 : Int))), (11, .int .i64 (x1161)), (37, .int .i64 (x6)), (38, .int .i64 ((k1115 : Int))), (41, .slice A1 (l4).length c2), (42, .int .i64 ((l4.length : Int))), (43, .int .i64 ((k1162 : Int)))] = e' ∧ R = hp' ∧ b1112.Le b1159) hl1163 (e' := [(0, .slice A1 (l4).length c2), (1, .int .i64 (x5)), (2, .int .i64 (x6)), (9, .int .i64 (x1114)), (10, .int .i64 ((k1115 : Int))), (11, .int .i64 (0)), (37, .int .i64 (x6)), (38, .int .i64 ((k1115 : Int))), (41, .slice A1 (l4).length c2), (42, .int .i64 ((l4.length : Int))), (43, .int .i64 0)]) ⟨rfl, rfl, rfl, rfl, rfl, rfl, rfl, rfl, rfl, rfl, rfl, trivial⟩ (.refl _) ⟨rfl, rfl, (Base.Le.refl _)⟩ ?_ ?_
      ·
       rintro k1162 x1161 b1159 _ _ oL1118 hknL1118 ⟨rfl, rfl, hle1160⟩ hstepL1118
       unfold mFishkeep2FarePacked_L1118 at hstepL1118
       have hm := hstepL1118
       refine c_sr ?_
       refine t_st rfl (st_lss_t rfl rfl (by omega)) ?_
       refine t_ne ?_
       refine c_seq ?_
       refine c_cond_t rfl ?_
       refine c_skip ?_
       refine x_then_normal ?_
       refine c_seq ?_
       refine c_block ?_
       refine c_sr ?_
       obtain ⟨x1165, h1166, hm⟩ := bindS hm
       obtain ⟨j1167, hj1168, hx1169⟩ := idx_some h1166
       obtain ⟨cs1170, hr1171, hcs1172, hA1173, hlt1174⟩ := FZ.get (sz := 2) rfl (by decide) (h3.le (hle965.trans (hle972.trans (hle1113.trans hle1160)))) hx1169
       obtain ⟨_, _, rfl, rfl, rfl⟩ := hr1171
       refine t_st rfl (st_index_old j1167 rfl rfl hj1168 hlt1174 hA1173 sl43) ?_
       refine t_st rfl (st_loadN_old (vs := [.int .i64 (x1165.From), .int .i64 (x1165.To)]) 2 rfl agg46 hA1173 rfl (fun j u hu => hcs1172 j u hu)) ?_
       refine t_do rfl (u_alloc [.int .i64 0, .int .i64 0] zero46 rfl) ?_
       rintro _ _ ⟨g1175, rfl, rfl⟩
       refine t_do rfl (u_storeN (vs := [_, _]) 0 2 rfl rfl rfl siz46 rfl (mem_c rfl (mem_c rfl mem_n)) rfl (by simp)) ?_
       rintro _ _ rfl
       refine t_ne ?_
       obtain ⟨x1179, hj1180, hk1180⟩ := bindS hm
       refine c_join (fun b1177 e' hp' => [(0, .slice A1 (l4).length c2), (1, .int .i64 (x5)), (2, .int .i64 (x6)), (9, .int .i64 (x1114)), (10, .int .i64 ((k1115 : Int))), (11, .int .i64 (x1161)), (37, .int .i64 (x6)), (38, .int .i64 ((k1115 : Int))), (41, .slice A1 (l4).length c2), (42, .int .i64 ((l4.length : Int))), (43, .int .i64 ((k1162 : Int))), (56, .bool (x1179))] = e' ∧ R = hp' ∧ b1159.Le b1177) ?_ ?_
       ·
        have hm := hj1180
        refine c_region ?_
        refine t_st rfl (st_field rfl fld46_0) ?_
        refine t_st rfl (st_load 0 rfl one3 rfl rfl) ?_
        refine t_mv rfl rfl ?_
        refine t_bool rfl (st_leq rfl rfl) (fun hc1181 => ?_) (fun hc1181 => ?_)
        ·
         rw [if_pos hc1181] at hm
         refine t_mv rfl rfl ?_
         refine t_yes 51 rfl rfl rfl ?_
         refine t_mv rfl rfl ?_
         refine t_yes 51 rfl rfl rfl ?_
         refine t_st rfl (st_field rfl fld46_1) ?_
         refine t_yes 51 rfl rfl rfl ?_
         refine t_st rfl (st_load 0 rfl one3 rfl rfl) ?_
         refine t_yes 51 rfl rfl rfl ?_
         refine t_st rfl (st_lss rfl rfl) ?_
         refine t_st rfl (st_pick_t rfl rfl) ?_
         refine t_nil ?_
         obtain rfl := some1 hm
         exact x_join (e' := [(0, .slice A1 (l4).length c2), (1, .int .i64 (x5)), (2, .int .i64 (x6)), (9, .int .i64 (x1114)), (10, .int .i64 ((k1115 : Int))), (11, .int .i64 (x1161)), (37, .int .i64 (x6)), (38, .int .i64 ((k1115 : Int))), (41, .slice A1 (l4).length c2), (42, .int .i64 ((l4.length : Int))), (43, .int .i64 ((k1162 : Int))), (56, .bool (decide ((k1115 : Int) < x1165.To)))]) ⟨rfl, rfl, rfl, rfl, rfl, rfl, rfl, rfl, rfl, rfl, rfl, rfl, trivial⟩ (.cons _ (.refl _)) ⟨rfl, rfl, (Base.Le.refl _)⟩
        ·
         rw [if_neg hc1181] at hm
         refine t_mv rfl rfl ?_
         refine t_no 51 rfl rfl rfl rfl rfl ?_
         refine t_no 51 rfl rfl rfl rfl rfl ?_
         refine t_no 51 rfl rfl rfl rfl rfl ?_
         refine t_no 51 rfl rfl rfl rfl rfl ?_
         refine t_st rfl (st_pick_f rfl rfl) ?_
         refine t_nil ?_
         obtain rfl := some1 hm
         exact x_join (e' := [(0, .slice A1 (l4).length c2), (1, .int .i64 (x5)), (2, .int .i64 (x6)), (9, .int .i64 (x1114)), (10, .int .i64 ((k1115 : Int))), (11, .int .i64 (x1161)), (37, .int .i64 (x6)), (38, .int .i64 ((k1115 : Int))), (41, .slice A1 (l4).length c2), (42, .int .i64 ((l4.length : Int))), (43, .int .i64 ((k1162 : Int))), (56, .bool (false))]) ⟨rfl, rfl, rfl, rfl, rfl, rfl, rfl, rfl, rfl, rfl, rfl, rfl, trivial⟩ (.cons _ (.refl _)) ⟨rfl, rfl, (Base.Le.refl _)⟩
       ·
        rintro b1177 _ _ ⟨rfl, rfl, hle1178⟩
        have hm := hk1180
        refine c_cond _ rfl (fun hc1182 => ?_) (fun hc1182 => ?_)
        ·
         rw [if_pos hc1182] at hm
         refine c_region ?_
         refine t_mv rfl rfl ?_
         obtain ⟨_, h1183, hm⟩ := bindS hm
         have h1183 := (chk_some h1183).2
         refine t_st rfl (st_add rfl rfl h1183) ?_
         refine t_as rfl rfl ?_
         refine t_nil ?_
         refine x_block_normal ?_
         refine x_then_normal ?_
         refine c_region ?_
         refine t_st rfl (st_add rfl rfl (by omega)) ?_
         refine t_mv rfl rfl ?_
         refine t_nil ?_
         obtain rfl := some1 hm
         exact x_againS (e' := [(0, .slice A1 (l4).length c2), (1, .int .i64 (x5)), (2, .int .i64 (x6)), (9, .int .i64 (x1114)), (10, .int .i64 ((k1115 : Int))), (11, .int .i64 (x1161 + 1)), (37, .int .i64 (x6)), (38, .int .i64 ((k1115 : Int))), (41, .slice A1 (l4).length c2), (42, .int .i64 ((l4.length : Int))), (43, .int .i64 ((k1162 : Int) + 1))]) ⟨rfl, rfl, rfl, rfl, rfl, rfl, rfl, rfl, rfl, rfl, rfl, trivial⟩ (.refl _) ⟨rfl, rfl, ((hle1160.trans hle1178))⟩
        ·
         rw [if_neg (fun hh => Bool.noConfusion (hh.symm.trans hc1182))] at hm
         refine c_skip ?_
         refine x_block_normal ?_
         refine x_then_normal ?_
         refine c_region ?_
         refine t_st rfl (st_add rfl rfl (by omega)) ?_
         refine t_mv rfl rfl ?_
         refine t_nil ?_
         obtain rfl := some1 hm
         exact x_againS (e' := [(0, .slice A1 (l4).length c2), (1, .int .i64 (x5)), (2, .int .i64 (x6)), (9, .int .i64 (x1114)), (10, .int .i64 ((k1115 : Int))), (11, .int .i64 (x1161)), (37, .int .i64 (x6)), (38, .int .i64 ((k1115 : Int))), (41, .slice A1 (l4).length c2), (42, .int .i64 ((l4.length : Int))), (43, .int .i64 ((k1162 : Int) + 1))]) ⟨rfl, rfl, rfl, rfl, rfl, rfl, rfl, rfl, rfl, rfl, rfl, trivial⟩ (.refl _) ⟨rfl, rfl, ((hle1160.trans hle1178))⟩
      ·
       rintro b1159 _ _ ⟨rfl, rfl, hle1160⟩
       have hm := hk1164
       refine c_sr ?_
       refine t_st rfl (st_lss_f rfl rfl (by omega)) ?_
       refine t_ne ?_
       refine c_seq ?_
       refine c_cond_f rfl ?_
       refine c_exit ?_
       refine x_then_exit ?_
       refine x_then_exit ?_
       refine x_block_out ?_
       refine x_then_normal ?_
       refine c_region ?_
       refine t_mv rfl rfl ?_
       refine t_mv rfl rfl ?_
       refine t_st rfl (st_max rfl rfl) ?_
       refine t_as rfl rfl ?_
       refine t_nil ?_
       refine x_block_normal ?_
       refine x_then_normal ?_
       refine c_region ?_
       refine t_st rfl (st_add rfl rfl (by omega)) ?_
       refine t_mv rfl rfl ?_
       refine t_nil ?_
       obtain rfl := some1 hm
       exact x_againS (e' := [(0, .slice A1 (l4).length c2), (1, .int .i64 (x5)), (2, .int .i64 (x6)), (9, .int .i64 (max x1114 x1161)), (37, .int .i64 (x6)), (38, .int .i64 ((k1115 : Int) + 1))]) ⟨rfl, rfl, rfl, rfl, rfl, rfl, trivial⟩ (.refl _) ⟨rfl, rfl, ((hle1113.trans hle1160))⟩
     ·
      rintro b1112 _ _ ⟨rfl, rfl, hle1113⟩
      have hm := hk1117
      refine c_sr ?_
      refine t_st rfl (st_lss_f rfl rfl (by omega)) ?_
      refine t_ne ?_
      refine c_seq ?_
      refine c_cond_f rfl ?_
      refine c_exit ?_
      refine x_then_exit ?_
      refine x_then_exit ?_
      refine x_block_out ?_
      refine x_then_normal ?_
      refine c_sr ?_
      refine t_mv rfl rfl ?_
      refine t_mv rfl rfl ?_
      refine t_mv rfl rfl ?_
      obtain ⟨⟨x1184, l1185⟩, hcl1186, hm⟩ := bindS hm
      have hm := (unc2E hm)
      refine t_callG _ rfl call16 rfl (cFarePack _ _ l4 x5 x6 A1 c2 (h3.le (hle965.trans (hle972.trans hle1113))) x1184 l1185 hcl1186) ?_
      rintro _ b1187 _ hle1188 ⟨A1189, c1190, hs1191, rfl, rfl, h1192⟩
      refine t_in1 [] [] hs1191 R rfl ?_
      refine t_mv rfl rfl ?_
      refine t_st rfl (st_extract rfl rfl) ?_
      refine t_st rfl (st_extract rfl rfl) ?_
      refine t_as rfl rfl ?_
      refine t_as rfl rfl ?_
      refine t_ne ?_
      refine c_seq ?_
      refine c_sr ?_
      refine t_mv rfl rfl ?_
      refine t_mv rfl rfl ?_
      refine t_st rfl (st_gtr rfl rfl) ?_
      refine t_ne ?_
      refine c_cond _ rfl (fun hc1193 => ?_) (fun hc1193 => ?_)
      ·
       rw [if_pos (of_decide_eq_true hc1193)] at hm
       obtain ⟨x1197, hj1198, hk1198⟩ := bindS hm
       refine c_join (fun b1195 e' hp' => [(6, .bool (x1197))] = e' ∧ R = hp' ∧ b1187.Le b1195) ?_ ?_
       ·
        have hm := hj1198
        refine c_region ?_
        refine t_mv rfl rfl ?_
        refine t_bool rfl (st_eql rfl rfl) (fun hc1199 => ?_) (fun hc1199 => ?_)
        ·
         rw [if_pos hc1199] at hm
         refine t_mv rfl rfl ?_
         refine t_yes 76 rfl rfl rfl ?_
         refine t_mv rfl rfl ?_
         refine t_yes 76 rfl rfl rfl ?_
         refine t_st rfl (st_len rfl sl22) ?_
         refine t_yes 76 rfl rfl rfl ?_
         refine t_st rfl (st_eql rfl rfl) ?_
         refine t_st rfl (st_pick_t rfl rfl) ?_
         refine t_as rfl rfl ?_
         refine t_nil ?_
         obtain rfl := some1 hm
         exact x_join (e' := [(6, .bool (decide ((l1185.length : Int) = 0)))]) ⟨rfl, trivial⟩ (sub_skip hs1191 (.refl _)) ⟨rfl, rfl, (Base.Le.refl _)⟩
        ·
         rw [if_neg hc1199] at hm
         refine t_mv rfl rfl ?_
         refine t_no 76 rfl rfl rfl rfl rfl ?_
         refine t_no 76 rfl rfl rfl rfl rfl ?_
         refine t_no 76 rfl rfl rfl rfl rfl ?_
         refine t_st rfl (st_pick_f rfl rfl) ?_
         refine t_as rfl rfl ?_
         refine t_nil ?_
         obtain rfl := some1 hm
         exact x_join (e' := [(6, .bool (false))]) ⟨rfl, trivial⟩ (sub_skip hs1191 (.refl _)) ⟨rfl, rfl, (Base.Le.refl _)⟩
       ·
        rintro b1195 _ _ ⟨rfl, rfl, hle1196⟩
        have hm := hk1198
        refine c_ret ?_
        refine x_then_ret ?_
        obtain rfl := some1 hm
        exact retM (rs := [.tmp 6]) [.bool (x1197)] (hle965.trans (hle972.trans (hle1113.trans (hle1188.trans hle1196)))) (by decide) rfl ⟨rfl, trivial⟩ rfl (.refl _) ⟨rfl, rfl⟩
      ·
       rw [if_neg (of_decide_eq_false hc1193)] at hm
       refine c_skip ?_
       refine x_then_normal ?_
       refine c_seq ?_
       obtain ⟨x1208, hj1209, hk1209⟩ := bindS hm
       refine c_join (fun b1206 e' hp' => [(0, .slice A1 (l4).length c2), (14, .slice A1189 (l1185).length c1190), (101, .bool (x1208))] = e' ∧ (hs1191 ++ R) = hp' ∧ b1187.Le b1206) ?_ ?_
       ·
        have hm := hj1209
        refine c_region ?_
        refine t_mv rfl rfl ?_
        refine t_bool rfl (st_neq rfl rfl) (fun hc1210 => ?_) (fun hc1210 => ?_)
        ·
         rw [if_pos hc1210] at hm
         refine t_mv rfl rfl ?_
         refine t_no 83 rfl rfl rfl rfl rfl ?_
         refine t_no 83 rfl rfl rfl rfl rfl ?_
         refine t_no 83 rfl rfl rfl rfl rfl ?_
         refine t_no 83 rfl rfl rfl rfl rfl ?_
         refine t_no 83 rfl rfl rfl rfl rfl ?_
         refine t_st rfl (st_pick_t rfl rfl) ?_
         refine t_mv rfl rfl ?_
         refine t_no 90 rfl rfl rfl rfl rfl ?_
         refine t_no 90 rfl rfl rfl rfl rfl ?_
         refine t_no 90 rfl rfl rfl rfl rfl ?_
         refine t_no 90 rfl rfl rfl rfl rfl ?_
         refine t_no 94 rfl rfl rfl rfl rfl ?_
         refine t_no 94 rfl rfl rfl rfl rfl ?_
         refine t_no 94 rfl rfl rfl rfl rfl ?_
         refine t_no 94 rfl rfl rfl rfl rfl ?_
         refine t_no 94 rfl rfl rfl rfl rfl ?_
         refine t_no 90 rfl rfl rfl rfl rfl ?_
         refine t_st rfl (st_pick_t rfl rfl) ?_
         refine t_nil ?_
         obtain rfl := some1 hm
         exact x_join (e' := [(0, .slice A1 (l4).length c2), (14, .slice A1189 (l1185).length c1190), (101, .bool (true))]) ⟨rfl, rfl, rfl, trivial⟩ (.refl _) ⟨rfl, rfl, (Base.Le.refl _)⟩
        ·
         rw [if_neg hc1210] at hm
         refine t_mv rfl rfl ?_
         refine t_yes 83 rfl rfl rfl ?_
         refine t_mv rfl rfl ?_
         refine t_yes 83 rfl rfl rfl ?_
         refine t_st rfl (st_len rfl sl22) ?_
         refine t_yes 83 rfl rfl rfl ?_
         refine t_mv rfl rfl ?_
         refine t_yes 83 rfl rfl rfl ?_
         refine t_st rfl (st_len rfl sl43) ?_
         refine t_yes 83 rfl rfl rfl ?_
         refine t_bool rfl (st_neq rfl rfl) (fun hc1211 => ?_) (fun hc1211 => ?_)
         ·
          rw [if_pos hc1211] at hm
          refine t_st rfl (st_pick_f rfl rfl) ?_
          refine t_mv rfl rfl ?_
          refine t_no 90 rfl rfl rfl rfl rfl ?_
          refine t_no 90 rfl rfl rfl rfl rfl ?_
          refine t_no 90 rfl rfl rfl rfl rfl ?_
          refine t_no 90 rfl rfl rfl rfl rfl ?_
          refine t_no 94 rfl rfl rfl rfl rfl ?_
          refine t_no 94 rfl rfl rfl rfl rfl ?_
          refine t_no 94 rfl rfl rfl rfl rfl ?_
          refine t_no 94 rfl rfl rfl rfl rfl ?_
          refine t_no 94 rfl rfl rfl rfl rfl ?_
          refine t_no 90 rfl rfl rfl rfl rfl ?_
          refine t_st rfl (st_pick_t rfl rfl) ?_
          refine t_nil ?_
          obtain rfl := some1 hm
          exact x_join (e' := [(0, .slice A1 (l4).length c2), (14, .slice A1189 (l1185).length c1190), (101, .bool (true))]) ⟨rfl, rfl, rfl, trivial⟩ (.refl _) ⟨rfl, rfl, (Base.Le.refl _)⟩
         ·
          rw [if_neg hc1211] at hm
          refine t_st rfl (st_pick_f rfl rfl) ?_
          refine t_mv rfl rfl ?_
          refine t_yes 90 rfl rfl rfl ?_
          refine t_mv rfl rfl ?_
          refine t_yes 90 rfl rfl rfl ?_
          refine t_st rfl (st_len rfl sl43) ?_
          refine t_yes 90 rfl rfl rfl ?_
          refine t_bool rfl (st_gtr rfl rfl) (fun hc1212 => ?_) (fun hc1212 => ?_)
          ·
           rw [if_pos hc1212] at hm
           refine t_yes 90 rfl rfl rfl ?_
           refine t_mv rfl rfl ?_
           refine t_yes 94 rfl rfl rfl ?_
           refine t_mv rfl rfl ?_
           refine t_yes 94 rfl rfl rfl ?_
           obtain ⟨x1213, hcl1214, hm⟩ := bindS hm
           refine t_do rfl (u_callW0 _ call17 rfl (fun w ho => cSlicesMax _ [] l1185 A1189 c1190 (OS.now (o := (OT.fr (RT.int .i64))) (l := l1185) (hs := hs1191) h1192 ho (List.sublist_append_left _ _)) x1213 hcl1214) (fun _ _ _ h => h.2.symm)) ?_
           rintro _ _ ⟨⟨_, rfl, _⟩, rfl⟩
           refine t_yes 94 rfl rfl rfl ?_
           refine t_mv rfl rfl ?_
           refine t_yes 94 rfl rfl rfl ?_
           obtain ⟨_, h1215, hm⟩ := bindS hm
           have h1215 := (chk_some h1215).2
           refine t_st rfl (st_sub rfl rfl h1215) ?_
           refine t_yes 94 rfl rfl rfl ?_
           refine t_st rfl (st_neq rfl rfl) ?_
           refine t_yes 90 rfl rfl rfl ?_
           refine t_st rfl (st_pick_t rfl rfl) ?_
           refine t_st rfl (st_pick_f rfl rfl) ?_
           refine t_nil ?_
           obtain rfl := some1 hm
           exact x_join (e' := [(0, .slice A1 (l4).length c2), (14, .slice A1189 (l1185).length c1190), (101, .bool (decide (x1213 ≠ (x1114 - 1))))]) ⟨rfl, rfl, rfl, trivial⟩ (.refl _) ⟨rfl, rfl, (Base.Le.refl _)⟩
          ·
           rw [if_neg hc1212] at hm
           refine t_yes 90 rfl rfl rfl ?_
           refine t_mv rfl rfl ?_
           refine t_no 94 rfl rfl rfl rfl rfl ?_
           refine t_no 94 rfl rfl rfl rfl rfl ?_
           refine t_no 94 rfl rfl rfl rfl rfl ?_
           refine t_no 94 rfl rfl rfl rfl rfl ?_
           refine t_no 94 rfl rfl rfl rfl rfl ?_
           refine t_yes 90 rfl rfl rfl ?_
           refine t_st rfl (st_pick_f rfl rfl) ?_
           refine t_st rfl (st_pick_f rfl rfl) ?_
           refine t_nil ?_
           obtain rfl := some1 hm
           exact x_join (e' := [(0, .slice A1 (l4).length c2), (14, .slice A1189 (l1185).length c1190), (101, .bool (false))]) ⟨rfl, rfl, rfl, trivial⟩ (.refl _) ⟨rfl, rfl, (Base.Le.refl _)⟩
       ·
        rintro b1206 _ _ ⟨rfl, rfl, hle1207⟩
        have hm := hk1209
        refine c_cond _ rfl (fun hc1216 => ?_) (fun hc1216 => ?_)
        ·
         rw [if_pos hc1216] at hm
         refine c_sr ?_
         refine t_as rfl rfl ?_
         refine t_ne ?_
         refine c_ret ?_
         refine x_then_ret ?_
         obtain rfl := some1 hm
         exact retM (rs := [.tmp 6]) [.bool (false)] (hle965.trans (hle972.trans (hle1113.trans (hle1188.trans hle1207)))) (by decide) rfl ⟨rfl, trivial⟩ rfl (sub_skip hs1191 (.refl _)) ⟨rfl, rfl⟩
        ·
         rw [if_neg (fun hh => Bool.noConfusion (hh.symm.trans hc1216))] at hm
         refine c_skip ?_
         refine x_then_normal ?_
         refine c_seq ?_
         refine c_sr ?_
         refine t_mv rfl rfl ?_
         refine t_st rfl (st_len rfl sl43) ?_
         refine t_mv rfl rfl ?_
         refine t_ne ?_
         refine c_block ?_
         have hb1218 : l4.length ≤ 9223372036854775807 := (FZ.bd (h3.le (hle965.trans (hle972.trans (hle1113.trans (hle1188.trans hle1207))))))
         obtain ⟨t1561, hl1562, hk1563⟩ := bindS hm
         refine c_forM (fun k1560 => fun _ => fun b1558 e' hp' => [(0, .slice A1 (l4).length c2), (14, .slice A1189 (l1185).length c1190), (102, .slice A1 (l4).length c2), (103, .int .i64 ((l4.length : Int))), (104, .int .i64 ((k1560 : Int)))] = e' ∧ (hs1191 ++ R) = hp' ∧ b1206.Le b1558) hl1562 (e' := [(0, .slice A1 (l4).length c2), (14, .slice A1189 (l1185).length c1190), (102, .slice A1 (l4).length c2), (103, .int .i64 ((l4.length : Int))), (104, .int .i64 0)]) ⟨rfl, rfl, rfl, rfl, rfl, trivial⟩ (.refl _) ⟨rfl, rfl, (Base.Le.refl _)⟩ ?_ ?_
         ·
          rintro k1560 _ b1558 _ _ oL1217 hknL1217 ⟨rfl, rfl, hle1559⟩ hstepL1217 houtL1217
          unfold mFishkeep2FarePacked_L1217 at hstepL1217
          have hm := hstepL1217
          refine c_sr ?_
          refine t_st rfl (st_lss_t rfl rfl (by omega)) ?_
          refine t_ne ?_
          refine c_seq ?_
          refine c_cond_t rfl ?_
          refine c_skip ?_
          refine x_then_normal ?_
          refine c_seq ?_
          refine c_block ?_
          refine c_sr ?_
          refine t_mv rfl rfl ?_
          obtain ⟨x1564, h1565, hm⟩ := bindS hm
          obtain ⟨j1566, hj1567, hx1568⟩ := idx_some h1565
          obtain ⟨cs1569, hr1570, hcs1571, hA1572, hlt1573⟩ := FZ.get (sz := 2) rfl (by decide) (h3.le (hle965.trans (hle972.trans (hle1113.trans (hle1188.trans (hle1207.trans hle1559)))))) hx1568
          obtain ⟨_, _, rfl, rfl, rfl⟩ := hr1570
          refine t_st rfl (st_index_old j1566 rfl rfl hj1567 hlt1573 hA1572 sl43) ?_
          refine t_st rfl (st_loadN_old (vs := [.int .i64 (x1564.From), .int .i64 (x1564.To)]) 2 rfl agg46 hA1572 rfl (fun j u hu => hcs1571 j u hu)) ?_
          refine t_do rfl (u_alloc [.int .i64 0, .int .i64 0] zero46 rfl) ?_
          rintro _ _ ⟨g1574, rfl, rfl⟩
          refine t_as rfl rfl ?_
          refine t_do rfl (u_storeN (vs := [_, _]) 0 2 rfl rfl rfl siz46 rfl (mem_c rfl (mem_c rfl mem_n)) rfl (by simp)) ?_
          rintro _ _ rfl
          refine t_ne ?_
          refine c_sr ?_
          refine t_mv rfl rfl ?_
          refine t_mv rfl rfl ?_
          obtain ⟨l1575, h1576, hm⟩ := bindS hm
          obtain ⟨j1577, j1578, hj1579, hj1580, hj1581, hj1582, hx1583⟩ := cutS_some h1576
          have h1584 := FZ.sub (sz := 2) rfl (h3.le (hle965.trans (hle972.trans (hle1113.trans (hle1188.trans (hle1207.trans hle1559)))))) hj1581 hj1582
          have h1585 := (h3.le (hle965.trans (hle972.trans (hle1113.trans (hle1188.trans (hle1207.trans hle1559)))))).1.1
          rw [← hx1583] at h1584
          refine t_st rfl (hx1583 ▸ st_part (l := l4) j1577 j1578 rfl (.inl ⟨rfl, by omega⟩) (.inr ⟨_, _, _, rfl, rfl, hj1580⟩) hj1581 hj1582 h1585 sl43) ?_
          refine t_st rfl (st_len rfl sl43) ?_
          refine t_mv rfl rfl ?_
          refine t_ne ?_
          refine c_block ?_
          have hb1591 : l1575.length ≤ 9223372036854775807 := (FZ.bd h1584)
          obtain ⟨t1747, hl1748, hk1749⟩ := bindS hm
          refine c_forM (fun k1746 => fun _ => fun b1744 e' hp' => [(0, .slice A1 (l4).length c2), (14, .slice A1189 (l1185).length c1190), (16, .int .i64 ((k1560 : Int))), (17, .pointer (some ⟨g1574, 0, none⟩)), (102, .slice A1 (l4).length c2), (103, .int .i64 ((l4.length : Int))), (104, .int .i64 ((k1560 : Int))), (111, .slice (subA A1 c2 j1577 2) (l1575).length (c2 - j1577)), (112, .int .i64 ((l1575.length : Int))), (113, .int .i64 ((k1746 : Int)))] = e' ∧ (g1574, Cl 46 [.int .i64 (x1564.From), .int .i64 (x1564.To)]) :: (hs1191 ++ R) = hp' ∧ b1558.Le b1744) hl1748 (e' := [(0, .slice A1 (l4).length c2), (14, .slice A1189 (l1185).length c1190), (16, .int .i64 ((k1560 : Int))), (17, .pointer (some ⟨g1574, 0, none⟩)), (102, .slice A1 (l4).length c2), (103, .int .i64 ((l4.length : Int))), (104, .int .i64 ((k1560 : Int))), (111, .slice (subA A1 c2 j1577 2) (l1575).length (c2 - j1577)), (112, .int .i64 ((l1575.length : Int))), (113, .int .i64 0)]) ⟨rfl, rfl, rfl, rfl, rfl, rfl, rfl, rfl, rfl, rfl, trivial⟩ (.refl _) ⟨rfl, rfl, (Base.Le.refl _)⟩ ?_ ?_
          ·
           rintro k1746 _ b1744 _ _ oL1590 hknL1590 ⟨rfl, rfl, hle1745⟩ hstepL1590 houtL1590
           unfold mFishkeep2FarePacked_L1590 at hstepL1590
           have hm := hstepL1590
           refine c_sr ?_
           refine t_st rfl (st_lss_t rfl rfl (by omega)) ?_
           refine t_ne ?_
           refine c_seq ?_
           refine c_cond_t rfl ?_
           refine c_skip ?_
           refine x_then_normal ?_
           refine c_seq ?_
           refine c_block ?_
           refine c_sr ?_
           refine t_mv rfl rfl ?_
           obtain ⟨x1750, h1751, hm⟩ := bindS hm
           obtain ⟨j1752, hj1753, hx1754⟩ := idx_some h1751
           obtain ⟨cs1755, hr1756, hcs1757, hA1758, hlt1759⟩ := FZ.get (sz := 2) rfl (by decide) (h1584.le hle1745) hx1754
           obtain ⟨_, _, rfl, rfl, rfl⟩ := hr1756
           refine t_st rfl (st_index_old j1752 rfl rfl hj1753 hlt1759 hA1758 sl43) ?_
           refine t_st rfl (st_loadN_old (vs := [.int .i64 (x1750.From), .int .i64 (x1750.To)]) 2 rfl agg46 hA1758 rfl (fun j u hu => hcs1757 j u hu)) ?_
           refine t_do rfl (u_alloc [.int .i64 0, .int .i64 0] zero46 rfl) ?_
           rintro _ _ ⟨g1760, rfl, rfl⟩
           refine t_as rfl rfl ?_
           refine t_do rfl (u_storeN (vs := [_, _]) 0 2 rfl rfl rfl siz46 rfl (mem_c rfl (mem_c rfl mem_n)) rfl (by simp)) ?_
           rintro _ _ rfl
           refine t_ne ?_
           obtain ⟨x1831, hj1832, hk1832⟩ := bindS hm
           refine c_join (fun b1829 e' hp' => [(0, .slice A1 (l4).length c2), (14, .slice A1189 (l1185).length c1190), (16, .int .i64 ((k1560 : Int))), (17, .pointer (some ⟨g1574, 0, none⟩)), (102, .slice A1 (l4).length c2), (103, .int .i64 ((l4.length : Int))), (104, .int .i64 ((k1560 : Int))), (111, .slice (subA A1 c2 j1577 2) (l1575).length (c2 - j1577)), (112, .int .i64 ((l1575.length : Int))), (113, .int .i64 ((k1746 : Int))), (140, .bool (x1831))] = e' ∧ (g1574, Cl 46 [.int .i64 (x1564.From), .int .i64 (x1564.To)]) :: (hs1191 ++ R) = hp' ∧ b1744.Le b1829) ?_ ?_
           ·
            have hm := hj1832
            obtain ⟨x1867, h1868, hm⟩ := bindS hm
            obtain ⟨x1883, h1884, hm⟩ := bindS hm
            by_cases hc1899 : x1867 = x1883
            ·
             rw [if_pos hc1899] at hm
             by_cases hc1900 : x1564.From < x1750.To
             ·
              rw [if_pos hc1900] at hm
              refine D_drawI mixed (.refl _) ?_
              refine E_st 0 rfl (st_move rfl) ?_
              refine E_st 1 rfl (st_move rfl) ?_
              obtain ⟨j1869, hj1870, hx1871⟩ := idx_some h1868
              obtain ⟨cs1872, hs1877, P1878, P1879, hq1880, hr1873, hcs1874, hA1875, hlt1876, hb1881, hho1882⟩ := OS.get (sz := 1) rfl (by decide) (h1192.le (hle1207.trans (hle1559.trans hle1745))) hx1871
              obtain ⟨rfl, rfl⟩ := hr1873
              refine E_st 2 rfl (st_index_old j1869 rfl rfl hj1870 hlt1876 hA1875 sl22) ?_
              refine E_st 3 rfl (st_load_rd rfl one3 (fun w ho => hcs1874 w _ ho (.cons _ (.cons _ (List.sublist_append_left _ _))) 0 _ rfl)) ?_
              refine E_st 4 rfl (st_move rfl) ?_
              refine E_st 5 rfl (st_move rfl) ?_
              obtain ⟨j1885, hj1886, hx1887⟩ := idx_some h1884
              obtain ⟨cs1888, hs1893, P1894, P1895, hq1896, hr1889, hcs1890, hA1891, hlt1892, hb1897, hho1898⟩ := OS.get (sz := 1) rfl (by decide) (h1192.le (hle1207.trans (hle1559.trans hle1745))) hx1887
              obtain ⟨rfl, rfl⟩ := hr1889
              refine E_st 6 rfl (st_index_old j1885 rfl rfl hj1886 hlt1892 hA1891 sl22) ?_
              refine E_st 7 rfl (st_load_rd rfl one3 (fun w ho => hcs1890 w _ ho (.cons _ (.cons _ (List.sublist_append_left _ _))) 0 _ rfl)) ?_
              refine E_st 8 rfl (st_eql_t rfl rfl hc1899) ?_
              refine E_st 9 rfl (st_move rfl) ?_
              refine E_yes 10 127 rfl (st_field rfl fld46_0) ?_
              refine E_yes 11 127 rfl (st_load 1 rfl one3 rfl rfl) ?_
              refine E_yes 12 127 rfl (st_field rfl fld46_1) ?_
              refine E_yes 13 127 rfl (st_load 0 rfl one3 rfl rfl) ?_
              refine E_yes 14 127 rfl (st_lss_t rfl rfl hc1900) ?_
              refine E_st 15 rfl (st_pick_t rfl rfl) ?_
              refine E_st 16 rfl (st_move rfl) ?_
              refine E_yes 17 134 rfl (st_field rfl fld46_0) ?_
              refine E_yes 18 134 rfl (st_load 0 rfl one3 rfl rfl) ?_
              refine E_yes 19 134 rfl (st_field rfl fld46_1) ?_
              refine E_yes 20 134 rfl (st_load 1 rfl one3 rfl rfl) ?_
              refine E_yes 21 134 rfl (st_lss rfl rfl) ?_
              refine E_st 22 rfl (st_pick_t rfl rfl) ?_
              refine E_out ?_
              refine D_done (by kernel_rfl) ?_
              obtain rfl := some1 hm
              refine x_pullb 1 rfl ?_
              exact x_join (e' := [(0, .slice A1 (l4).length c2), (14, .slice A1189 (l1185).length c1190), (16, .int .i64 ((k1560 : Int))), (17, .pointer (some ⟨g1574, 0, none⟩)), (102, .slice A1 (l4).length c2), (103, .int .i64 ((l4.length : Int))), (104, .int .i64 ((k1560 : Int))), (111, .slice (subA A1 c2 j1577 2) (l1575).length (c2 - j1577)), (112, .int .i64 ((l1575.length : Int))), (113, .int .i64 ((k1746 : Int))), (140, .bool (decide (x1750.From < x1564.To)))]) ⟨rfl, rfl, rfl, rfl, rfl, rfl, rfl, rfl, rfl, rfl, rfl, trivial⟩ (.cons_cons _ (.cons _ (.refl _))) ⟨rfl, rfl, (Base.Le.refl _)⟩
             ·
              rw [if_neg hc1900] at hm
              refine D_drawI mixed (.refl _) ?_
              refine E_st 0 rfl (st_move rfl) ?_
              refine E_st 1 rfl (st_move rfl) ?_
              obtain ⟨j1869, hj1870, hx1871⟩ := idx_some h1868
              obtain ⟨cs1872, hs1877, P1878, P1879, hq1880, hr1873, hcs1874, hA1875, hlt1876, hb1881, hho1882⟩ := OS.get (sz := 1) rfl (by decide) (h1192.le (hle1207.trans (hle1559.trans hle1745))) hx1871
              obtain ⟨rfl, rfl⟩ := hr1873
              refine E_st 2 rfl (st_index_old j1869 rfl rfl hj1870 hlt1876 hA1875 sl22) ?_
              refine E_st 3 rfl (st_load_rd rfl one3 (fun w ho => hcs1874 w _ ho (.cons _ (.cons _ (List.sublist_append_left _ _))) 0 _ rfl)) ?_
              refine E_st 4 rfl (st_move rfl) ?_
              refine E_st 5 rfl (st_move rfl) ?_
              obtain ⟨j1885, hj1886, hx1887⟩ := idx_some h1884
              obtain ⟨cs1888, hs1893, P1894, P1895, hq1896, hr1889, hcs1890, hA1891, hlt1892, hb1897, hho1898⟩ := OS.get (sz := 1) rfl (by decide) (h1192.le (hle1207.trans (hle1559.trans hle1745))) hx1887
              obtain ⟨rfl, rfl⟩ := hr1889
              refine E_st 6 rfl (st_index_old j1885 rfl rfl hj1886 hlt1892 hA1891 sl22) ?_
              refine E_st 7 rfl (st_load_rd rfl one3 (fun w ho => hcs1890 w _ ho (.cons _ (.cons _ (List.sublist_append_left _ _))) 0 _ rfl)) ?_
              refine E_st 8 rfl (st_eql_t rfl rfl hc1899) ?_
              refine E_st 9 rfl (st_move rfl) ?_
              refine E_yes 10 127 rfl (st_field rfl fld46_0) ?_
              refine E_yes 11 127 rfl (st_load 1 rfl one3 rfl rfl) ?_
              refine E_yes 12 127 rfl (st_field rfl fld46_1) ?_
              refine E_yes 13 127 rfl (st_load 0 rfl one3 rfl rfl) ?_
              refine E_yes 14 127 rfl (st_lss_f rfl rfl hc1900) ?_
              refine E_st 15 rfl (st_pick_t rfl rfl) ?_
              refine E_st 16 rfl (st_move rfl) ?_
              refine E_no 17 134 rfl rfl rfl ?_
              refine E_no 18 134 rfl rfl rfl ?_
              refine E_no 19 134 rfl rfl rfl ?_
              refine E_no 20 134 rfl rfl rfl ?_
              refine E_no 21 134 rfl rfl rfl ?_
              refine E_st 22 rfl (st_pick_f rfl rfl) ?_
              refine E_out ?_
              refine D_done (by kernel_rfl) ?_
              obtain rfl := some1 hm
              refine x_pullb 1 rfl ?_
              exact x_join (e' := [(0, .slice A1 (l4).length c2), (14, .slice A1189 (l1185).length c1190), (16, .int .i64 ((k1560 : Int))), (17, .pointer (some ⟨g1574, 0, none⟩)), (102, .slice A1 (l4).length c2), (103, .int .i64 ((l4.length : Int))), (104, .int .i64 ((k1560 : Int))), (111, .slice (subA A1 c2 j1577 2) (l1575).length (c2 - j1577)), (112, .int .i64 ((l1575.length : Int))), (113, .int .i64 ((k1746 : Int))), (140, .bool (false))]) ⟨rfl, rfl, rfl, rfl, rfl, rfl, rfl, rfl, rfl, rfl, rfl, trivial⟩ (.cons_cons _ (.cons _ (.refl _))) ⟨rfl, rfl, (Base.Le.refl _)⟩
            ·
             rw [if_neg hc1899] at hm
             refine D_drawI mixed (.refl _) ?_
             refine E_st 0 rfl (st_move rfl) ?_
             refine E_st 1 rfl (st_move rfl) ?_
             obtain ⟨j1869, hj1870, hx1871⟩ := idx_some h1868
             obtain ⟨cs1872, hs1877, P1878, P1879, hq1880, hr1873, hcs1874, hA1875, hlt1876, hb1881, hho1882⟩ := OS.get (sz := 1) rfl (by decide) (h1192.le (hle1207.trans (hle1559.trans hle1745))) hx1871
             obtain ⟨rfl, rfl⟩ := hr1873
             refine E_st 2 rfl (st_index_old j1869 rfl rfl hj1870 hlt1876 hA1875 sl22) ?_
             refine E_st 3 rfl (st_load_rd rfl one3 (fun w ho => hcs1874 w _ ho (.cons _ (.cons _ (List.sublist_append_left _ _))) 0 _ rfl)) ?_
             refine E_st 4 rfl (st_move rfl) ?_
             refine E_st 5 rfl (st_move rfl) ?_
             obtain ⟨j1885, hj1886, hx1887⟩ := idx_some h1884
             obtain ⟨cs1888, hs1893, P1894, P1895, hq1896, hr1889, hcs1890, hA1891, hlt1892, hb1897, hho1898⟩ := OS.get (sz := 1) rfl (by decide) (h1192.le (hle1207.trans (hle1559.trans hle1745))) hx1887
             obtain ⟨rfl, rfl⟩ := hr1889
             refine E_st 6 rfl (st_index_old j1885 rfl rfl hj1886 hlt1892 hA1891 sl22) ?_
             refine E_st 7 rfl (st_load_rd rfl one3 (fun w ho => hcs1890 w _ ho (.cons _ (.cons _ (List.sublist_append_left _ _))) 0 _ rfl)) ?_
             refine E_st 8 rfl (st_eql_f rfl rfl hc1899) ?_
             refine E_st 9 rfl (st_move rfl) ?_
             refine E_no 10 127 rfl rfl rfl ?_
             refine E_no 11 127 rfl rfl rfl ?_
             refine E_no 12 127 rfl rfl rfl ?_
             refine E_no 13 127 rfl rfl rfl ?_
             refine E_no 14 127 rfl rfl rfl ?_
             refine E_st 15 rfl (st_pick_f rfl rfl) ?_
             refine E_st 16 rfl (st_move rfl) ?_
             refine E_no 17 134 rfl rfl rfl ?_
             refine E_no 18 134 rfl rfl rfl ?_
             refine E_no 19 134 rfl rfl rfl ?_
             refine E_no 20 134 rfl rfl rfl ?_
             refine E_no 21 134 rfl rfl rfl ?_
             refine E_st 22 rfl (st_pick_f rfl rfl) ?_
             refine E_out ?_
             refine D_done (by kernel_rfl) ?_
             obtain rfl := some1 hm
             refine x_pullb 1 rfl ?_
             exact x_join (e' := [(0, .slice A1 (l4).length c2), (14, .slice A1189 (l1185).length c1190), (16, .int .i64 ((k1560 : Int))), (17, .pointer (some ⟨g1574, 0, none⟩)), (102, .slice A1 (l4).length c2), (103, .int .i64 ((l4.length : Int))), (104, .int .i64 ((k1560 : Int))), (111, .slice (subA A1 c2 j1577 2) (l1575).length (c2 - j1577)), (112, .int .i64 ((l1575.length : Int))), (113, .int .i64 ((k1746 : Int))), (140, .bool (false))]) ⟨rfl, rfl, rfl, rfl, rfl, rfl, rfl, rfl, rfl, rfl, rfl, trivial⟩ (.cons_cons _ (.cons _ (.refl _))) ⟨rfl, rfl, (Base.Le.refl _)⟩
           ·
            rintro b1829 _ _ ⟨rfl, rfl, hle1830⟩
            have hm := hk1832
            refine c_cond _ rfl (fun hc1901 => ?_) (fun hc1901 => ?_)
            ·
             rw [if_pos hc1901] at hm
             refine c_sr ?_
             refine t_as rfl rfl ?_
             refine t_ne ?_
             refine c_ret ?_
             refine x_block_ret ?_
             refine x_then_ret ?_
             refine x_then_ret ?_
             refine x_block_ret ?_
             refine x_block_ret ?_
             refine x_then_ret ?_
             refine x_then_ret ?_
             refine x_block_ret ?_
             refine x_then_ret ?_
             have hq1902 := houtL1590 _ (Option.some.inj hm).symm
             rw [hq1902] at hk1749
             have hm := elimR hk1749
             have hq1903 := houtL1217 _ (Option.some.inj hm).symm
             rw [hq1903] at hk1563
             have hm := elimR hk1563
             obtain rfl := some1 hm
             exact retM (rs := [.tmp 6]) [.bool (false)] (hle965.trans (hle972.trans (hle1113.trans (hle1188.trans (hle1207.trans (hle1559.trans (hle1745.trans hle1830))))))) (by decide) rfl ⟨rfl, trivial⟩ rfl (.cons _ (sub_skip hs1191 (.refl _))) ⟨rfl, rfl⟩
            ·
             rw [if_neg (fun hh => Bool.noConfusion (hh.symm.trans hc1901))] at hm
             refine c_skip ?_
             refine x_block_normal ?_
             refine x_then_normal ?_
             refine c_region ?_
             refine t_st rfl (st_add rfl rfl (by omega)) ?_
             refine t_mv rfl rfl ?_
             refine t_nil ?_
             exact x_againM () (Option.some.inj hm).symm (e' := [(0, .slice A1 (l4).length c2), (14, .slice A1189 (l1185).length c1190), (16, .int .i64 ((k1560 : Int))), (17, .pointer (some ⟨g1574, 0, none⟩)), (102, .slice A1 (l4).length c2), (103, .int .i64 ((l4.length : Int))), (104, .int .i64 ((k1560 : Int))), (111, .slice (subA A1 c2 j1577 2) (l1575).length (c2 - j1577)), (112, .int .i64 ((l1575.length : Int))), (113, .int .i64 ((k1746 : Int) + 1))]) ⟨rfl, rfl, rfl, rfl, rfl, rfl, rfl, rfl, rfl, rfl, trivial⟩ (.refl _) ⟨rfl, rfl, ((hle1745.trans hle1830))⟩
          ·
           rintro _ b1744 _ _ ⟨rfl, rfl, hle1745⟩ hq1904
           rw [hq1904] at hk1749
           have hm := elimL hk1749
           refine c_sr ?_
           refine t_st rfl (st_lss_f rfl rfl (by omega)) ?_
           refine t_ne ?_
           refine c_seq ?_
           refine c_cond_f rfl ?_
           refine c_exit ?_
           refine x_then_exit ?_
           refine x_then_exit ?_
           refine x_block_out ?_
           refine x_block_normal ?_
           refine x_then_normal ?_
           refine c_region ?_
           refine t_st rfl (st_add rfl rfl (by omega)) ?_
           refine t_mv rfl rfl ?_
           refine t_nil ?_
           exact x_againM () (Option.some.inj hm).symm (e' := [(0, .slice A1 (l4).length c2), (14, .slice A1189 (l1185).length c1190), (102, .slice A1 (l4).length c2), (103, .int .i64 ((l4.length : Int))), (104, .int .i64 ((k1560 : Int) + 1))]) ⟨rfl, rfl, rfl, rfl, rfl, trivial⟩ (.cons _ (.refl _)) ⟨rfl, rfl, ((hle1559.trans hle1745))⟩
         ·
          rintro _ b1558 _ _ ⟨rfl, rfl, hle1559⟩ hq1905
          rw [hq1905] at hk1563
          have hm := elimL hk1563
          refine c_sr ?_
          refine t_st rfl (st_lss_f rfl rfl (by omega)) ?_
          refine t_ne ?_
          refine c_seq ?_
          refine c_cond_f rfl ?_
          refine c_exit ?_
          refine x_then_exit ?_
          refine x_then_exit ?_
          refine x_block_out ?_
          refine x_then_normal ?_
          refine c_sr ?_
          refine t_as rfl rfl ?_
          refine t_ne ?_
          refine c_ret ?_
          obtain rfl := some1 hm
          exact retM (rs := [.tmp 6]) [.bool (true)] (hle965.trans (hle972.trans (hle1113.trans (hle1188.trans (hle1207.trans hle1559))))) (by decide) rfl ⟨rfl, trivial⟩ rfl (sub_skip hs1191 (.refl _)) ⟨rfl, rfl⟩

end Go.Proofs.YtnlnohallnfbmaaGreatDoor
