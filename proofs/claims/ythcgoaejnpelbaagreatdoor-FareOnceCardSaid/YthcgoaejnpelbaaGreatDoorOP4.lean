/- Contracts: the code computes its model (part 4). -/
import Derived.Test.YthcgoaejnpelbaaGreatDoorOP3
set_option linter.unusedVariables false
set_option linter.unusedSimpArgs false
namespace Go.Proofs.YthcgoaejnpelbaaGreatDoor
open Go.RowKit Go.Fp

set_option maxRecDepth 20000 in
theorem cFareCarChoose (b : Base) (R : Hp) (x17 : Int) (x18 : Int) (x19 : Int) (x20 : Int) (x21 : Int) (x22 : Int) (l23 : (List Int)) (l24 : (List FareBooking)) (l26 : (List Bool)) (g16 : Nat) (A3 : Option Addr) (c4 : Nat) (hs2 : Hp) (A8 : Option Addr) (c9 : Nat) (hs7 : Hp) (A13 : Option Addr) (c14 : Nat) (hs12 : Hp) (h5 : OS 3 (OT.fr (RT.int .i64)) b.w (.slice A3 l23.length c4) l23 hs2) (h10 : OS 32 (OT.fr rFareBooking) b.w (.slice A8 l24.length c9) l24 hs7) (hnz25 : (A8 = none ↔ l24 = [])) (h15 : OS 4 (OT.fr RT.bool) b.w (.slice A13 l26.length c14) l26 hs12) (hnz27 : (A13 = none ↔ l26 = [])) (l651 : (List Int)) (hm : mFareCarChoose x17 x18 x19 x20 x21 x22 l23 l24 l26 = some l651) :
    CallsG Tryz.prog 20 [.pointer (some ⟨g16, 0, none⟩), .slice A3 (l23).length c4, .int .i64 (x17), .int .i64 (x18), .int .i64 (x19)] b ((g16, Cl 54 [.int .i64 (x20), .int .i64 (x21), .int .i64 (x22), .slice A8 (l24).length c9, .slice A13 (l26).length c14]) :: (hs2 ++ (hs7 ++ (hs12 ++ R)))) (fun v b' hp' => ∃ (A648 : Option Addr), ∃ (c649 : Nat), ∃ (hs647 : Hp), .slice A648 (l651).length c649 = v ∧ (g16, Cl 54 [.int .i64 (x20), .int .i64 (x21), .int .i64 (x22), .slice A8 (l24).length c9, .slice A13 (l26).length c14]) :: (hs647 ++ (hs2 ++ (hs7 ++ (hs12 ++ R)))) = hp' ∧ OS 3 (OT.fr (RT.int .i64)) b'.w (.slice A648 l651.length c649) l651 hs647) := by
  refine fn_enterG 98 Tryz.func20 rfl Tryz.ntmps20 rfl ?_
  unfold mFareCarChoose at hm
  refine c_sr ?_
  refine t_do rfl (u_box _ rfl rfl) ?_
  rintro _ _ ⟨g652, rfl, rfl⟩
  refine t_do rfl (u_box _ rfl rfl) ?_
  rintro _ _ ⟨g653, rfl, rfl⟩
  refine t_do rfl (u_box _ rfl rfl) ?_
  rintro _ _ ⟨g654, rfl, rfl⟩
  refine t_as rfl rfl ?_
  refine t_ne ?_
  refine c_sr ?_
  refine t_st rfl (st_load 2 rfl one24 rfl rfl) ?_
  refine t_st rfl (st_nil rfl) ?_
  refine t_st rfl (st_field rfl fld54_0) ?_
  refine t_st rfl (st_load 3 rfl one3 rfl rfl) ?_
  obtain ⟨m655, h656, hm⟩ := bindS hm
  have h656 := mkLen_some h656
  refine t_do rfl (u_mkOO (o := (OT.list 3 (OT.fr (RT.int .i64)))) [_, _, _, _] (hs2 ++ (hs7 ++ (hs12 ++ R))) [.slice none 0 0] ([] : List Int) m655 rfl h656.1 rfl rfl sl84 inf22 rfl rfl rfl (by decide) ⟨_, rfl, OS.nil⟩ h656.2.1 h656.2.2) ?_
  rintro _ _ ⟨hs657, rfl, h658⟩
  obtain ⟨A659, c660, rfl, _⟩ := h658.form
  refine t_as rfl rfl ?_
  refine t_ne ?_
  refine c_seq ?_
  refine c_sr ?_
  refine t_mv rfl rfl ?_
  refine t_st rfl (st_len rfl sl22) ?_
  refine t_mv rfl rfl ?_
  refine t_ne ?_
  refine c_block ?_
  have hb662 : l23.length ≤ 9223372036854775807 := (OS.len h5)
  refine c_pullb 3 rfl ?_
  refine c_pullb 1 rfl ?_
  refine c_pullb 2 rfl ?_
  refine c_pullb 3 rfl ?_
  refine c_front4 [_, _, _, _] hs657 hs2 hs7 hs12 R rfl ?_
  refine c_front4 [_, _, _, _] hs12 hs657 hs2 hs7 R rfl ?_
  refine c_front3 [_, _, _, _] hs7 hs12 hs657 (hs2 ++ R) rfl ?_
  refine c_front4 [_, _, _, _] hs657 hs7 hs12 hs2 R rfl ?_
  obtain ⟨l873, hl876, hk877⟩ := bindS hm
  refine c_forS (fun k875 => fun l873 => fun b868 e' hp' => ∃ (hs871 : Hp), [(1, .slice A3 (l23).length c4), (4, .int .i64 (x19)), (5, .pointer (some ⟨g652, 0, none⟩)), (7, .pointer (some ⟨g653, 0, none⟩)), (8, .pointer (some ⟨g654, 0, none⟩)), (11, .slice A659 (l873).length c660), (23, .slice A3 (l23).length c4), (24, .int .i64 ((l23.length : Int))), (25, .int .i64 ((k875 : Int)))] = e' ∧ (g652, Cl 24 [.pointer (some ⟨g16, 0, none⟩)]) :: (g653, Cl 3 [.int .i64 (x17)]) :: (g654, Cl 3 [.int .i64 (x18)]) :: (g16, Cl 54 [.int .i64 (x20), .int .i64 (x21), .int .i64 (x22), .slice A8 (l24).length c9, .slice A13 (l26).length c14]) :: (hs2 ++ (hs871 ++ (hs7 ++ (hs12 ++ R)))) = hp' ∧ b.Le b868 ∧ OS 22 (OT.list 3 (OT.fr (RT.int .i64))) b868.w (.slice A659 l873.length c660) l873 hs871 ∧ l873.length = m655) hl876 (e' := [(1, .slice A3 (l23).length c4), (4, .int .i64 (x19)), (5, .pointer (some ⟨g652, 0, none⟩)), (7, .pointer (some ⟨g653, 0, none⟩)), (8, .pointer (some ⟨g654, 0, none⟩)), (11, .slice A659 (List.replicate m655 (([] : List Int) : (List Int))).length c660), (23, .slice A3 (l23).length c4), (24, .int .i64 ((l23.length : Int))), (25, .int .i64 0)]) ⟨rfl, rfl, rfl, rfl, rfl, rfl, rfl, rfl, rfl, trivial⟩ (.refl _) ⟨hs657, rfl, rfl, (Base.Le.refl _), h658, List.length_replicate⟩ ?_ ?_
  ·
   rintro k875 l873 b868 _ _ oL661 hknL661 ⟨hs871, rfl, rfl, hle869, h872, hln874⟩ hstepL661
   unfold mFareCarChoose_L661 at hstepL661
   have hm := hstepL661
   refine c_sr ?_
   refine t_st rfl (st_lss_t rfl rfl (by omega)) ?_
   refine t_ne ?_
   refine c_seq ?_
   refine c_cond_t rfl ?_
   refine c_skip ?_
   refine x_then_normal ?_
   refine c_seq ?_
   refine c_block ?_
   refine c_sr ?_
   obtain ⟨x878, h879, hm⟩ := bindS hm
   obtain ⟨j880, hj881, hx882⟩ := idx_some h879
   obtain ⟨cs883, hs888, P889, P890, hq891, hr884, hcs885, hA886, hlt887, hb892, hho893⟩ := OS.get (sz := 1) rfl (by decide) (h5.le hle869) hx882
   obtain ⟨rfl, rfl⟩ := hr884
   refine t_st rfl (st_index_old j880 rfl rfl hj881 hlt887 hA886 sl22) ?_
   refine t_st rfl (st_load_rd rfl one3 (fun w ho => hcs885 w _ ho (.cons _ (.cons _ (.cons _ (.cons _ (List.sublist_append_left _ _))))) 0 _ rfl)) ?_
   refine t_as rfl rfl ?_
   refine t_ne ?_
   obtain ⟨_, h936, hm⟩ := bindS hm
   obtain ⟨_, h937, hm⟩ := bindS hm
   obtain ⟨_, h938, hm⟩ := bindS hm
   obtain ⟨_, h939, hm⟩ := bindS hm
   obtain ⟨x940, h941, hm⟩ := bindS hm
   obtain ⟨_, h961, hm⟩ := bindS hm
   obtain ⟨x966, h967, hm⟩ := bindS hm
   refine c_front2 [_, _, _, _] hs2 hs871 (hs7 ++ (hs12 ++ R)) rfl ?_
   refine D_drawI mixed (.cons_cons _ (.cons_cons _ (.cons_cons _ (.cons_cons _ (sub_skip hs871 (.refl _)))))) ?_
   refine E_s0 0 rfl (st_move rfl) ?_
   refine E_s0 1 rfl (st_move rfl) ?_
   refine E_st 2 rfl (st_load 0 rfl one24 rfl rfl) ?_
   refine E_s0 3 rfl (st_nil rfl) ?_
   refine E_s0 4 rfl (st_field rfl fld54_1) ?_
   refine E_st 5 rfl (st_load 3 rfl one3 rfl rfl) ?_
   have h937 := (chk_some h937).2
   refine E_s0 6 rfl (st_quo rfl rfl (ne0_some h936) h937) ?_
   refine E_s0 7 rfl (st_move rfl) ?_
   refine E_s0 8 rfl (st_move rfl) ?_
   refine E_st 9 rfl (st_load 0 rfl one24 rfl rfl) ?_
   refine E_s0 10 rfl (st_nil rfl) ?_
   refine E_s0 11 rfl (st_field rfl fld54_1) ?_
   refine E_st 12 rfl (st_load 3 rfl one3 rfl rfl) ?_
   have h939 := (chk_some h939).2
   refine E_s0 13 rfl (st_quo rfl rfl (ne0_some h938) h939) ?_
   obtain ⟨j942, hj943, hx944⟩ := idx_some h941
   obtain ⟨cs945, hs950, P951, P952, hq953, hr946, hcs947, hA948, hlt949, hb954, hho955⟩ := OS.get (sz := 1) rfl (by decide) h872 hx944
   obtain ⟨v956, rfl, h957⟩ := hr946
   obtain ⟨A958, c959, rfl, _⟩ := h957.form
   refine E_s0 14 rfl (st_index_old j942 rfl rfl hj943 hlt949 hA948 sl84) ?_
   refine E_s0 16 rfl (st_move rfl) ?_
   refine E_out ?_
   refine D_all [15, 17] (by kernel_rfl) rfl ?_
   refine R_do (Base.Le.refl _) rfl rfl (Stable.does (st_load_rd rfl one22 (fun w ho => hcs947 w _ ho (.cons _ (.cons _ (.cons _ (.cons _ (List.sublist_append_left _ _))))) 0 _ rfl))) ?_ ?_
   ·
    rintro _ _ ⟨rfl, rfl⟩
    refine ⟨.inr (.cons_cons _ (.cons_cons _ (.cons_cons _ (.cons_cons _ (sub_skip hs871 (.refl _)))))), ?_⟩
    refine D_all [17] (by kernel_rfl) rfl ?_
    refine R_do (Base.Le.refl _) rfl rfl (u_bslice (el := 3) [(0, .int .i64 (x878))] [.int .i64 (x878)] rfl (fun _ => by kernel_rfl)) ?_ ?_
    ·
     rintro _ _ ⟨g960, rfl, rfl⟩
     refine ⟨.inr (.cons _ (.cons_cons _ (.cons_cons _ (.cons_cons _ (.cons_cons _ (sub_skip hs871 (.refl _))))))), ?_⟩
     have h961 := room_some h961
     refine D_all [18] (by kernel_rfl) rfl ?_
     refine R_do (Base.Le.refl _) rfl rfl (u_appIn (r := (RT.int .i64)) [_, _, _, _, _] (hs2 ++ (hs7 ++ (hs12 ++ R))) [[.int .i64 (x878)]] [x878] rfl (by decide) sl22 inf3 rfl rfl rfl rfl hq953 h957 rfl (fun w ho => Rd.own (i := 0) ho rfl) ⟨rfl, trivial⟩ h961) ?_ ?_
     ·
      rintro _ _ ⟨hs962, rfl, h963⟩
      obtain ⟨A964, c965, rfl, _⟩ := h963.form
      refine ⟨.inr (.cons _ (.cons_cons _ (.cons_cons _ (.cons_cons _ (.cons_cons _ (sub_skip hs962 (sub_skip (P951 ++ P952) (.refl _)))))))), ?_⟩
      refine d_resp 11 rfl (v' := .slice A659 (l873).length c660) (by simp only [put_length]) ?_
      refine d_resp 29 rfl (v' := .slice A659 (l873).length c660) (by simp only [put_length]) ?_
      obtain ⟨j968, hj969, hx970⟩ := idx_some h967
      obtain rfl : j942 = j968 := by omega
      refine E_in (Base.Le.refl _) (.cons _ (.cons_cons _ (.cons_cons _ (.cons_cons _ (.cons_cons _ (sub_skip hs962 (sub_skip (P951 ++ P952) (.refl _)))))))) ?_
      refine E_s0 19 rfl (st_index_old j942 rfl rfl hj943 hlt949 hA948 sl84) ?_
      refine E_out ?_
      refine d_front2 [_, _, _, _, _] hs962 (P951 ++ P952) (hs2 ++ (hs7 ++ (hs12 ++ R))) rfl ?_
      refine D_all [20] (by kernel_rfl) rfl ?_
      refine R_do (Base.Le.refl _) rfl rfl (u_putHole hj943 (sz := 1) (a' := x940 ++ [x878]) rfl [_, _, _, _, _] hs962 (hs2 ++ (hs7 ++ (hs12 ++ R))) 1 [.slice A964 (x940 ++ [x878]).length c965] rfl (hho955 _ (Base.Le.refl _)) rfl rfl rfl siz22 rfl (by decide) ⟨_, rfl, h963⟩) ?_ ?_
      ·
       rintro _ _ ⟨hs976, rfl, h977⟩
       refine ⟨.inl (by kernel_rfl), ?_⟩
       refine d_resp 11 rfl (v' := .slice A659 (put l873 (Int.tdiv x878 x21) (x940 ++ [x878])).length c660) (by simp only [put_length]) ?_
       refine D_done (by kernel_rfl) ?_
       refine x_block_normal ?_
       refine x_then_normal ?_
       refine c_region ?_
       refine t_st rfl (st_add rfl rfl (by omega)) ?_
       refine t_mv rfl rfl ?_
       refine t_nil ?_
       refine x_pullb 4 rfl ?_
       refine x_pullb 4 rfl ?_
       refine x_pullb 4 rfl ?_
       refine x_pullb 4 rfl ?_
       refine x_front4 [_, _, _, _, _] hs976 hs2 hs7 hs12 R rfl ?_
       refine x_front4 [_, _, _, _, _] hs12 hs976 hs2 hs7 R rfl ?_
       refine x_front3 [_, _, _, _, _] hs7 hs12 hs976 (hs2 ++ R) rfl ?_
       refine x_front4 [_, _, _, _, _] hs976 hs7 hs12 hs2 R rfl ?_
       obtain rfl := some1 hm
       exact x_againS (e' := [(1, .slice A3 (l23).length c4), (4, .int .i64 (x19)), (5, .pointer (some ⟨g652, 0, none⟩)), (7, .pointer (some ⟨g653, 0, none⟩)), (8, .pointer (some ⟨g654, 0, none⟩)), (11, .slice A659 (put l873 (Int.tdiv x878 x21) (x940 ++ [x878])).length c660), (23, .slice A3 (l23).length c4), (24, .int .i64 ((l23.length : Int))), (25, .int .i64 ((k875 : Int) + 1))]) ⟨rfl, rfl, rfl, rfl, rfl, rfl, rfl, rfl, rfl, trivial⟩ (.cons_cons _ (.cons_cons _ (.cons_cons _ (.cons_cons _ (.cons _ (.refl _)))))) ⟨hs976, rfl, rfl, (hle869), h977, ((put_length _ _ _).trans hln874)⟩
      exact R_nil
     exact R_nil
    exact R_nil
   refine R_do (Base.Le.refl _) rfl rfl (u_bslice (el := 3) [(0, .int .i64 (x878))] [.int .i64 (x878)] rfl (fun _ => by kernel_rfl)) ?_ ?_
   ·
    rintro _ _ ⟨g960, rfl, rfl⟩
    refine ⟨.inr (.cons _ (.cons_cons _ (.cons_cons _ (.cons_cons _ (.cons_cons _ (sub_skip hs871 (.refl _))))))), ?_⟩
    refine D_all [15] (by kernel_rfl) rfl ?_
    refine R_do (Base.Le.refl _) rfl rfl (Stable.does (st_load_rd rfl one22 (fun w ho => hcs947 w _ ho (.cons _ (.cons _ (.cons _ (.cons _ (.cons _ (List.sublist_append_left _ _)))))) 0 _ rfl))) ?_ ?_
    ·
     rintro _ _ ⟨rfl, rfl⟩
     refine ⟨.inr (.cons _ (.cons_cons _ (.cons_cons _ (.cons_cons _ (.cons_cons _ (sub_skip hs871 (.refl _))))))), ?_⟩
     have h961 := room_some h961
     refine D_all [18] (by kernel_rfl) rfl ?_
     refine R_do (Base.Le.refl _) rfl rfl (u_appIn (r := (RT.int .i64)) [_, _, _, _, _] (hs2 ++ (hs7 ++ (hs12 ++ R))) [[.int .i64 (x878)]] [x878] rfl (by decide) sl22 inf3 rfl rfl rfl rfl hq953 h957 rfl (fun w ho => Rd.own (i := 0) ho rfl) ⟨rfl, trivial⟩ h961) ?_ ?_
     ·
      rintro _ _ ⟨hs962, rfl, h963⟩
      obtain ⟨A964, c965, rfl, _⟩ := h963.form
      refine ⟨.inr (.cons _ (.cons_cons _ (.cons_cons _ (.cons_cons _ (.cons_cons _ (sub_skip hs962 (sub_skip (P951 ++ P952) (.refl _)))))))), ?_⟩
      refine d_resp 11 rfl (v' := .slice A659 (l873).length c660) (by simp only [put_length]) ?_
      refine d_resp 29 rfl (v' := .slice A659 (l873).length c660) (by simp only [put_length]) ?_
      obtain ⟨j968, hj969, hx970⟩ := idx_some h967
      obtain rfl : j942 = j968 := by omega
      refine E_in (Base.Le.refl _) (.cons _ (.cons_cons _ (.cons_cons _ (.cons_cons _ (.cons_cons _ (sub_skip hs962 (sub_skip (P951 ++ P952) (.refl _)))))))) ?_
      refine E_s0 19 rfl (st_index_old j942 rfl rfl hj943 hlt949 hA948 sl84) ?_
      refine E_out ?_
      refine d_front2 [_, _, _, _, _] hs962 (P951 ++ P952) (hs2 ++ (hs7 ++ (hs12 ++ R))) rfl ?_
      refine D_all [20] (by kernel_rfl) rfl ?_
      refine R_do (Base.Le.refl _) rfl rfl (u_putHole hj943 (sz := 1) (a' := x940 ++ [x878]) rfl [_, _, _, _, _] hs962 (hs2 ++ (hs7 ++ (hs12 ++ R))) 1 [.slice A964 (x940 ++ [x878]).length c965] rfl (hho955 _ (Base.Le.refl _)) rfl rfl rfl siz22 rfl (by decide) ⟨_, rfl, h963⟩) ?_ ?_
      ·
       rintro _ _ ⟨hs976, rfl, h977⟩
       refine ⟨.inl (by kernel_rfl), ?_⟩
       refine d_resp 11 rfl (v' := .slice A659 (put l873 (Int.tdiv x878 x21) (x940 ++ [x878])).length c660) (by simp only [put_length]) ?_
       refine D_done (by kernel_rfl) ?_
       refine x_block_normal ?_
       refine x_then_normal ?_
       refine c_region ?_
       refine t_st rfl (st_add rfl rfl (by omega)) ?_
       refine t_mv rfl rfl ?_
       refine t_nil ?_
       refine x_pullb 4 rfl ?_
       refine x_pullb 4 rfl ?_
       refine x_pullb 4 rfl ?_
       refine x_pullb 4 rfl ?_
       refine x_front4 [_, _, _, _, _] hs976 hs2 hs7 hs12 R rfl ?_
       refine x_front4 [_, _, _, _, _] hs12 hs976 hs2 hs7 R rfl ?_
       refine x_front3 [_, _, _, _, _] hs7 hs12 hs976 (hs2 ++ R) rfl ?_
       refine x_front4 [_, _, _, _, _] hs976 hs7 hs12 hs2 R rfl ?_
       obtain rfl := some1 hm
       exact x_againS (e' := [(1, .slice A3 (l23).length c4), (4, .int .i64 (x19)), (5, .pointer (some ⟨g652, 0, none⟩)), (7, .pointer (some ⟨g653, 0, none⟩)), (8, .pointer (some ⟨g654, 0, none⟩)), (11, .slice A659 (put l873 (Int.tdiv x878 x21) (x940 ++ [x878])).length c660), (23, .slice A3 (l23).length c4), (24, .int .i64 ((l23.length : Int))), (25, .int .i64 ((k875 : Int) + 1))]) ⟨rfl, rfl, rfl, rfl, rfl, rfl, rfl, rfl, rfl, trivial⟩ (.cons_cons _ (.cons_cons _ (.cons_cons _ (.cons_cons _ (.cons _ (.refl _)))))) ⟨hs976, rfl, rfl, (hle869), h977, ((put_length _ _ _).trans hln874)⟩
      exact R_nil
     exact R_nil
    exact R_nil
   exact R_nil
  ·
   rintro b868 _ _ ⟨hs871, rfl, rfl, hle869, h872, hln874⟩
   have hm := hk877
   refine c_sr ?_
   refine t_st rfl (st_lss_f rfl rfl (by omega)) ?_
   refine t_ne ?_
   refine c_seq ?_
   refine c_cond_f rfl ?_
   refine c_exit ?_
   refine x_then_exit ?_
   refine x_then_exit ?_
   refine x_block_out ?_
   refine x_then_normal ?_
   refine c_sr ?_
   refine t_as rfl rfl ?_
   refine t_ne ?_
   refine c_seq ?_
   refine c_sr ?_
   refine t_mv rfl rfl ?_
   refine t_st rfl (st_len rfl sl84) ?_
   refine t_mv rfl rfl ?_
   refine t_ne ?_
   refine c_block ?_
   have hb979 : l873.length ≤ 9223372036854775807 := (OS.len h872)
   refine c_pullb 3 rfl ?_
   refine c_pullb 3 rfl ?_
   refine c_pullb 3 rfl ?_
   refine c_pullb 3 rfl ?_
   refine c_front4 [_, _, _, _] hs2 hs871 hs7 hs12 R rfl ?_
   refine c_front4 [_, _, _, _] hs12 hs2 hs871 hs7 R rfl ?_
   refine c_front4 [_, _, _, _] hs7 hs12 hs2 hs871 R rfl ?_
   refine c_front4 [_, _, _, _] hs871 hs7 hs12 hs2 R rfl ?_
   obtain ⟨x1121, hl1123, hk1124⟩ := bindS hm
   refine c_forS (fun k1122 => fun x1121 => fun b1119 e' hp' => [(1, .slice A3 (l23).length c4), (4, .int .i64 (x19)), (5, .pointer (some ⟨g652, 0, none⟩)), (7, .pointer (some ⟨g653, 0, none⟩)), (8, .pointer (some ⟨g654, 0, none⟩)), (11, .slice A659 (l873).length c660), (14, .int .i64 (x1121)), (50, .slice A659 (l873).length c660), (51, .int .i64 ((l873.length : Int))), (52, .int .i64 ((k1122 : Int)))] = e' ∧ (g652, Cl 24 [.pointer (some ⟨g16, 0, none⟩)]) :: (g653, Cl 3 [.int .i64 (x17)]) :: (g654, Cl 3 [.int .i64 (x18)]) :: (g16, Cl 54 [.int .i64 (x20), .int .i64 (x21), .int .i64 (x22), .slice A8 (l24).length c9, .slice A13 (l26).length c14]) :: (hs2 ++ (hs871 ++ (hs7 ++ (hs12 ++ R)))) = hp' ∧ b868.Le b1119) hl1123 (e' := [(1, .slice A3 (l23).length c4), (4, .int .i64 (x19)), (5, .pointer (some ⟨g652, 0, none⟩)), (7, .pointer (some ⟨g653, 0, none⟩)), (8, .pointer (some ⟨g654, 0, none⟩)), (11, .slice A659 (l873).length c660), (14, .int .i64 ((-1))), (50, .slice A659 (l873).length c660), (51, .int .i64 ((l873.length : Int))), (52, .int .i64 0)]) ⟨rfl, rfl, rfl, rfl, rfl, rfl, rfl, rfl, rfl, rfl, trivial⟩ (.refl _) ⟨rfl, rfl, (Base.Le.refl _)⟩ ?_ ?_
   ·
    rintro k1122 x1121 b1119 _ _ oL978 hknL978 ⟨rfl, rfl, hle1120⟩ hstepL978
    unfold mFareCarChoose_L978 at hstepL978
    have hm := hstepL978
    refine c_sr ?_
    refine t_st rfl (st_lss_t rfl rfl (by omega)) ?_
    refine t_ne ?_
    refine c_seq ?_
    refine c_cond_t rfl ?_
    refine c_skip ?_
    refine x_then_normal ?_
    refine c_seq ?_
    refine c_block ?_
    refine c_sr ?_
    refine t_mv rfl rfl ?_
    obtain ⟨x1125, h1126, hm⟩ := bindS hm
    obtain ⟨j1127, hj1128, hx1129⟩ := idx_some h1126
    obtain ⟨cs1130, hs1135, P1136, P1137, hq1138, hr1131, hcs1132, hA1133, hlt1134, hb1139, hho1140⟩ := OS.get (sz := 1) rfl (by decide) (h872.le hle1120) hx1129
    obtain ⟨v1141, rfl, h1142⟩ := hr1131
    obtain ⟨A1143, c1144, rfl, _⟩ := h1142.form
    refine t_st rfl (st_index_old j1127 rfl rfl hj1128 hlt1134 hA1133 sl84) ?_
    refine t_st rfl (st_load_rd rfl one22 (fun w ho => hcs1132 w _ ho (.cons _ (.cons _ (.cons _ (.cons _ (sub_skip hs2 (List.sublist_append_left _ _)))))) 0 _ rfl)) ?_
    refine t_as rfl rfl ?_
    refine t_as rfl rfl ?_
    refine t_ne ?_
    obtain ⟨x1169, hj1170, hk1170⟩ := bindS hm
    refine c_join (fun b1167 e' hp' => [(1, .slice A3 (l23).length c4), (4, .int .i64 (x19)), (5, .pointer (some ⟨g652, 0, none⟩)), (7, .pointer (some ⟨g653, 0, none⟩)), (8, .pointer (some ⟨g654, 0, none⟩)), (11, .slice A659 (l873).length c660), (14, .int .i64 (x1121)), (15, .int .i64 ((k1122 : Int))), (50, .slice A659 (l873).length c660), (51, .int .i64 ((l873.length : Int))), (52, .int .i64 ((k1122 : Int))), (74, .bool (x1169))] = e' ∧ (g652, Cl 24 [.pointer (some ⟨g16, 0, none⟩)]) :: (g653, Cl 3 [.int .i64 (x17)]) :: (g654, Cl 3 [.int .i64 (x18)]) :: (g16, Cl 54 [.int .i64 (x20), .int .i64 (x21), .int .i64 (x22), .slice A8 (l24).length c9, .slice A13 (l26).length c14]) :: (hs2 ++ (hs871 ++ (hs7 ++ (hs12 ++ R)))) = hp' ∧ b1119.Le b1167) ?_ ?_
    ·
     have hm := hj1170
     refine c_region ?_
     refine t_mv rfl rfl ?_
     refine t_st rfl (st_len rfl sl22) ?_
     refine t_mv rfl rfl ?_
     refine t_bool rfl (st_geq rfl rfl) (fun hc1171 => ?_) (fun hc1171 => ?_)
     ·
      rw [if_pos hc1171] at hm
      refine t_mv rfl rfl ?_
      refine t_yes 61 rfl rfl rfl ?_
      refine t_mv rfl rfl ?_
      refine t_yes 61 rfl rfl rfl ?_
      refine t_bool rfl (st_lss rfl rfl) (fun hc1172 => ?_) (fun hc1172 => ?_)
      ·
       rw [if_pos hc1172] at hm
       refine t_yes 61 rfl rfl rfl ?_
       refine t_mv rfl rfl ?_
       refine t_no 64 rfl rfl rfl rfl rfl ?_
       refine t_no 64 rfl rfl rfl rfl rfl ?_
       refine t_no 64 rfl rfl rfl rfl rfl ?_
       refine t_no 64 rfl rfl rfl rfl rfl ?_
       refine t_no 64 rfl rfl rfl rfl rfl ?_
       refine t_no 64 rfl rfl rfl rfl rfl ?_
       refine t_no 64 rfl rfl rfl rfl rfl ?_
       refine t_no 64 rfl rfl rfl rfl rfl ?_
       refine t_yes 61 rfl rfl rfl ?_
       refine t_st rfl (st_pick_t rfl rfl) ?_
       refine t_st rfl (st_pick_t rfl rfl) ?_
       refine t_nil ?_
       obtain rfl := some1 hm
       refine x_pullb 3 rfl ?_
       refine x_pullb 3 rfl ?_
       refine x_pullb 3 rfl ?_
       refine x_pullb 3 rfl ?_
       refine x_front4 [_, _, _, _] hs2 hs871 hs7 hs12 R rfl ?_
       refine x_front4 [_, _, _, _] hs12 hs2 hs871 hs7 R rfl ?_
       refine x_front4 [_, _, _, _] hs7 hs12 hs2 hs871 R rfl ?_
       refine x_front4 [_, _, _, _] hs871 hs7 hs12 hs2 R rfl ?_
       exact x_join (e' := [(1, .slice A3 (l23).length c4), (4, .int .i64 (x19)), (5, .pointer (some ⟨g652, 0, none⟩)), (7, .pointer (some ⟨g653, 0, none⟩)), (8, .pointer (some ⟨g654, 0, none⟩)), (11, .slice A659 (l873).length c660), (14, .int .i64 (x1121)), (15, .int .i64 ((k1122 : Int))), (50, .slice A659 (l873).length c660), (51, .int .i64 ((l873.length : Int))), (52, .int .i64 ((k1122 : Int))), (74, .bool (true))]) ⟨rfl, rfl, rfl, rfl, rfl, rfl, rfl, rfl, rfl, rfl, rfl, rfl, trivial⟩ (.refl _) ⟨rfl, rfl, (Base.Le.refl _)⟩
      ·
       rw [if_neg hc1172] at hm
       refine t_yes 61 rfl rfl rfl ?_
       refine t_mv rfl rfl ?_
       refine t_yes 64 rfl rfl rfl ?_
       refine t_mv rfl rfl ?_
       refine t_yes 64 rfl rfl rfl ?_
       refine t_st rfl (st_len rfl sl22) ?_
       refine t_yes 64 rfl rfl rfl ?_
       refine t_mv rfl rfl ?_
       refine t_yes 64 rfl rfl rfl ?_
       refine t_mv rfl rfl ?_
       refine t_yes 64 rfl rfl rfl ?_
       obtain ⟨x1173, h1174, hm⟩ := bindS hm
       obtain ⟨j1175, hj1176, hx1177⟩ := idx_some h1174
       obtain ⟨cs1178, hs1183, P1184, P1185, hq1186, hr1179, hcs1180, hA1181, hlt1182, hb1187, hho1188⟩ := OS.get (sz := 1) rfl (by decide) (h872.le hle1120) hx1177
       obtain ⟨v1189, rfl, h1190⟩ := hr1179
       obtain ⟨A1191, c1192, rfl, _⟩ := h1190.form
       refine t_st rfl (st_index_old j1175 rfl rfl hj1176 hlt1182 hA1181 sl84) ?_
       refine t_yes 64 rfl rfl rfl ?_
       refine t_st rfl (st_load_rd rfl one22 (fun w ho => hcs1180 w _ ho (.cons _ (.cons _ (.cons _ (.cons _ (sub_skip hs2 (List.sublist_append_left _ _)))))) 0 _ rfl)) ?_
       refine t_yes 64 rfl rfl rfl ?_
       refine t_st rfl (st_len rfl sl22) ?_
       refine t_yes 64 rfl rfl rfl ?_
       refine t_st rfl (st_lss rfl rfl) ?_
       refine t_yes 61 rfl rfl rfl ?_
       refine t_st rfl (st_pick_f rfl rfl) ?_
       refine t_st rfl (st_pick_t rfl rfl) ?_
       refine t_nil ?_
       obtain rfl := some1 hm
       refine x_pullb 3 rfl ?_
       refine x_pullb 3 rfl ?_
       refine x_pullb 3 rfl ?_
       refine x_pullb 3 rfl ?_
       refine x_front4 [_, _, _, _] hs2 hs871 hs7 hs12 R rfl ?_
       refine x_front4 [_, _, _, _] hs12 hs2 hs871 hs7 R rfl ?_
       refine x_front4 [_, _, _, _] hs7 hs12 hs2 hs871 R rfl ?_
       refine x_front4 [_, _, _, _] hs871 hs7 hs12 hs2 R rfl ?_
       exact x_join (e' := [(1, .slice A3 (l23).length c4), (4, .int .i64 (x19)), (5, .pointer (some ⟨g652, 0, none⟩)), (7, .pointer (some ⟨g653, 0, none⟩)), (8, .pointer (some ⟨g654, 0, none⟩)), (11, .slice A659 (l873).length c660), (14, .int .i64 (x1121)), (15, .int .i64 ((k1122 : Int))), (50, .slice A659 (l873).length c660), (51, .int .i64 ((l873.length : Int))), (52, .int .i64 ((k1122 : Int))), (74, .bool (decide ((x1125.length : Int) < (x1173.length : Int))))]) ⟨rfl, rfl, rfl, rfl, rfl, rfl, rfl, rfl, rfl, rfl, rfl, rfl, trivial⟩ (.refl _) ⟨rfl, rfl, (Base.Le.refl _)⟩
     ·
      rw [if_neg hc1171] at hm
      refine t_mv rfl rfl ?_
      refine t_no 61 rfl rfl rfl rfl rfl ?_
      refine t_no 61 rfl rfl rfl rfl rfl ?_
      refine t_no 61 rfl rfl rfl rfl rfl ?_
      refine t_no 64 rfl rfl rfl rfl rfl ?_
      refine t_no 64 rfl rfl rfl rfl rfl ?_
      refine t_no 64 rfl rfl rfl rfl rfl ?_
      refine t_no 64 rfl rfl rfl rfl rfl ?_
      refine t_no 64 rfl rfl rfl rfl rfl ?_
      refine t_no 64 rfl rfl rfl rfl rfl ?_
      refine t_no 64 rfl rfl rfl rfl rfl ?_
      refine t_no 64 rfl rfl rfl rfl rfl ?_
      refine t_no 61 rfl rfl rfl rfl rfl ?_
      refine t_st rfl (st_pick_f rfl rfl) ?_
      refine t_nil ?_
      obtain rfl := some1 hm
      refine x_pullb 3 rfl ?_
      refine x_pullb 3 rfl ?_
      refine x_pullb 3 rfl ?_
      refine x_pullb 3 rfl ?_
      refine x_front4 [_, _, _, _] hs2 hs871 hs7 hs12 R rfl ?_
      refine x_front4 [_, _, _, _] hs12 hs2 hs871 hs7 R rfl ?_
      refine x_front4 [_, _, _, _] hs7 hs12 hs2 hs871 R rfl ?_
      refine x_front4 [_, _, _, _] hs871 hs7 hs12 hs2 R rfl ?_
      exact x_join (e' := [(1, .slice A3 (l23).length c4), (4, .int .i64 (x19)), (5, .pointer (some ⟨g652, 0, none⟩)), (7, .pointer (some ⟨g653, 0, none⟩)), (8, .pointer (some ⟨g654, 0, none⟩)), (11, .slice A659 (l873).length c660), (14, .int .i64 (x1121)), (15, .int .i64 ((k1122 : Int))), (50, .slice A659 (l873).length c660), (51, .int .i64 ((l873.length : Int))), (52, .int .i64 ((k1122 : Int))), (74, .bool (false))]) ⟨rfl, rfl, rfl, rfl, rfl, rfl, rfl, rfl, rfl, rfl, rfl, rfl, trivial⟩ (.refl _) ⟨rfl, rfl, (Base.Le.refl _)⟩
    ·
     rintro b1167 _ _ ⟨rfl, rfl, hle1168⟩
     have hm := hk1170
     refine c_cond _ rfl (fun hc1193 => ?_) (fun hc1193 => ?_)
     ·
      rw [if_pos hc1193] at hm
      refine c_region ?_
      refine t_mv rfl rfl ?_
      refine t_as rfl rfl ?_
      refine t_nil ?_
      refine x_block_normal ?_
      refine x_then_normal ?_
      refine c_region ?_
      refine t_st rfl (st_add rfl rfl (by omega)) ?_
      refine t_mv rfl rfl ?_
      refine t_nil ?_
      refine x_pullb 3 rfl ?_
      refine x_pullb 3 rfl ?_
      refine x_pullb 3 rfl ?_
      refine x_pullb 3 rfl ?_
      refine x_front4 [_, _, _, _] hs2 hs871 hs7 hs12 R rfl ?_
      refine x_front4 [_, _, _, _] hs12 hs2 hs871 hs7 R rfl ?_
      refine x_front4 [_, _, _, _] hs7 hs12 hs2 hs871 R rfl ?_
      refine x_front4 [_, _, _, _] hs871 hs7 hs12 hs2 R rfl ?_
      obtain rfl := some1 hm
      exact x_againS (e' := [(1, .slice A3 (l23).length c4), (4, .int .i64 (x19)), (5, .pointer (some ⟨g652, 0, none⟩)), (7, .pointer (some ⟨g653, 0, none⟩)), (8, .pointer (some ⟨g654, 0, none⟩)), (11, .slice A659 (l873).length c660), (14, .int .i64 ((k1122 : Int))), (50, .slice A659 (l873).length c660), (51, .int .i64 ((l873.length : Int))), (52, .int .i64 ((k1122 : Int) + 1))]) ⟨rfl, rfl, rfl, rfl, rfl, rfl, rfl, rfl, rfl, rfl, trivial⟩ (.refl _) ⟨rfl, rfl, ((hle1120.trans hle1168))⟩
     ·
      rw [if_neg (fun hh => Bool.noConfusion (hh.symm.trans hc1193))] at hm
      refine c_skip ?_
      refine x_block_normal ?_
      refine x_then_normal ?_
      refine c_region ?_
      refine t_st rfl (st_add rfl rfl (by omega)) ?_
      refine t_mv rfl rfl ?_
      refine t_nil ?_
      refine x_pullb 3 rfl ?_
      refine x_pullb 3 rfl ?_
      refine x_pullb 3 rfl ?_
      refine x_pullb 3 rfl ?_
      refine x_front4 [_, _, _, _] hs2 hs871 hs7 hs12 R rfl ?_
      refine x_front4 [_, _, _, _] hs12 hs2 hs871 hs7 R rfl ?_
      refine x_front4 [_, _, _, _] hs7 hs12 hs2 hs871 R rfl ?_
      refine x_front4 [_, _, _, _] hs871 hs7 hs12 hs2 R rfl ?_
      obtain rfl := some1 hm
      exact x_againS (e' := [(1, .slice A3 (l23).length c4), (4, .int .i64 (x19)), (5, .pointer (some ⟨g652, 0, none⟩)), (7, .pointer (some ⟨g653, 0, none⟩)), (8, .pointer (some ⟨g654, 0, none⟩)), (11, .slice A659 (l873).length c660), (14, .int .i64 (x1121)), (50, .slice A659 (l873).length c660), (51, .int .i64 ((l873.length : Int))), (52, .int .i64 ((k1122 : Int) + 1))]) ⟨rfl, rfl, rfl, rfl, rfl, rfl, rfl, rfl, rfl, rfl, trivial⟩ (.refl _) ⟨rfl, rfl, ((hle1120.trans hle1168))⟩
   ·
    rintro b1119 _ _ ⟨rfl, rfl, hle1120⟩
    have hm := hk1124
    refine c_sr ?_
    refine t_st rfl (st_lss_f rfl rfl (by omega)) ?_
    refine t_ne ?_
    refine c_seq ?_
    refine c_cond_f rfl ?_
    refine c_exit ?_
    refine x_then_exit ?_
    refine x_then_exit ?_
    refine x_block_out ?_
    refine x_then_normal ?_
    refine c_seq ?_
    refine c_sr ?_
    refine t_mv rfl rfl ?_
    refine t_st rfl (st_geq rfl rfl) ?_
    refine t_ne ?_
    refine c_cond _ rfl (fun hc1194 => ?_) (fun hc1194 => ?_)
    ·
     rw [if_pos (of_decide_eq_true hc1194)] at hm
     refine c_seq ?_
     refine c_front2 [_, _, _, _] hs2 hs871 (hs7 ++ (hs12 ++ R)) rfl ?_
     refine c_frz [_, _, _, _] hs871 (hs2 ++ (hs7 ++ (hs12 ++ R))) rfl ?_
     intro b1195 hle1196 hz1197
     have h1198 := OS.frz (l := l873) (h872.le hle1120) hle1196.cells hz1197
     refine c_region ?_
     refine t_mv rfl rfl ?_
     refine t_mv rfl rfl ?_
     obtain ⟨x1199, h1200, hm⟩ := bindS hm
     obtain ⟨j1201, hj1202, hx1203⟩ := idx_some h1200
     obtain ⟨cs1204, hr1205, hcs1206, hA1207, hlt1208⟩ := FZ.get (sz := 1) rfl (by decide) h1198 hx1203
     obtain ⟨A1209, c1210, rfl, h1211⟩ := hr1205
     refine t_st rfl (st_index_old j1201 rfl rfl hj1202 hlt1208 hA1207 sl84) ?_
     refine t_st rfl (st_load_old rfl one22 (hcs1206 0 _ rfl)) ?_
     refine t_mv rfl rfl ?_
     obtain ⟨l1212, h1213, hm⟩ := bindS hm
     obtain ⟨j1214, j1215, hj1216, hj1217, hj1218, hj1219, hx1220⟩ := cutS_some h1213
     have h1221 := FZ.sub (sz := 1) rfl h1211 hj1218 hj1219
     have h1222 := h1211.1.1
     rw [← hx1220] at h1221
     refine t_st rfl (hx1220 ▸ st_part (l := x1199) j1214 j1215 rfl (.inl ⟨rfl, by omega⟩) (.inr ⟨_, _, _, rfl, rfl, hj1217⟩) hj1218 hj1219 h1222 sl22) ?_
     obtain ⟨l1227, hcl1228, hm⟩ := bindS hm
     refine t_callG _ rfl call21 rfl (cSlicesClone _ _ l1212 (subA A1209 c1210 j1214 1) (c1210 - j1214) h1221 l1227 hcl1228) ?_
     rintro _ b1229 _ hle1230 ⟨A1231, c1232, hs1233, rfl, rfl, h1234⟩
     refine t_in1 [] [_, _, _, _] hs1233 (hs2 ++ (hs7 ++ (hs12 ++ R))) rfl ?_
     refine t_as rfl rfl ?_
     refine t_ne ?_
     refine c_ret ?_
     refine x_then_ret ?_
     obtain rfl := some1 hm
     refine x_pullb 3 rfl ?_
     refine x_front4 [_, _, _, _] hs1233 hs2 hs7 hs12 R rfl ?_
     refine x_front4 [_, _, _, _] hs12 hs1233 hs2 hs7 R rfl ?_
     refine x_front4 [_, _, _, _] hs7 hs12 hs1233 hs2 R rfl ?_
     refine x_front4 [_, _, _, _] hs2 hs7 hs12 hs1233 R rfl ?_
     exact retM (rs := [.tmp 10]) [.slice A1231 (l1227).length c1232] (hle869.trans (hle1120.trans (hle1196.trans hle1230))) (by decide) rfl ⟨rfl, trivial⟩ rfl (.cons_cons _ (.cons _ (.cons _ (.cons _ (.refl _))))) ⟨A1231, c1232, hs1233, rfl, rfl, h1234⟩
    ·
     rw [if_neg (of_decide_eq_false hc1194)] at hm
     refine c_skip ?_
     refine x_then_normal ?_
     refine c_sr ?_
     refine t_mv rfl rfl ?_
     obtain ⟨l1235, hcl1236, hm⟩ := bindS hm
     refine t_do rfl (u_callWF [_, _, _, _] (hs2 ++ (hs871 ++ (hs7 ++ (hs12 ++ R)))) _ rfl call21 rfl (fun w ho => cSlicesClone _ [] l23 A3 c4 (OS.now (o := (OT.fr (RT.int .i64))) (l := l23) (hs := hs2) (h5.le (hle869.trans hle1120)) ho (.cons _ (.cons _ (.cons _ (.cons _ (List.sublist_append_left _ _)))))) l1235 hcl1236)) ?_
     rintro _ _ ⟨_, _, rfl, A1237, c1238, hs1239, rfl, hq1242, h1240⟩
     obtain rfl := List.append_cancel_right hq1242
     have h1241 := flat_fz (w' := b1119.w) (fun _ _ _ _ h => h) h1240
     refine t_as rfl rfl ?_
     refine t_ne ?_
     refine c_sr ?_
     refine t_mv rfl rfl ?_
     refine t_st rfl (st_func _ _ rfl rfl) ?_
     obtain ⟨l1243, hcl1244, hm⟩ := bindS hm
     refine t_pullb 3 rfl ?_
     refine t_pullb 3 rfl ?_
     refine t_pullb 3 rfl ?_
     refine t_pullb 3 rfl ?_
     refine t_front5 [_, _, _, _] hs1239 hs2 hs871 hs7 hs12 R rfl ?_
     refine t_front5 [_, _, _, _] hs12 hs1239 hs2 hs871 hs7 R rfl ?_
     refine t_front3 [_, _, _, _] hs7 hs12 hs1239 (hs2 ++ (hs871 ++ R)) rfl ?_
     refine t_out3 [_, _, _, _] [] hs1239 hs7 hs12 (hs2 ++ (hs871 ++ R)) rfl ?_
     refine t_callG _ rfl call24 rfl (cSlicesSortStableFunc _ _ x17 x18 x20 x21 x22 l1235 l24 l26 g652 g653 g654 g16 A1237 c1238 hs1239 A8 c9 hs7 A13 c14 hs12 h1241 (h10.le (hle869.trans hle1120)) hnz25 (h15.le (hle869.trans hle1120)) hnz27 l1243 hcl1244) ?_
     rintro _ b1245 _ hle1246 ⟨hs1247, rfl, rfl, h1248, h1249⟩
     refine t_in3 [_, _, _, _] [] hs1247 hs7 hs12 (hs2 ++ (hs871 ++ R)) rfl ?_
     refine t_resp 17 rfl (v' := .slice A1237 (l1243).length c1238) (by rw [h1249]) ?_
     refine t_ne ?_
     refine c_sr ?_
     refine t_mv rfl rfl ?_
     refine t_mv rfl rfl ?_
     refine t_mv rfl rfl ?_
     obtain ⟨l1250, h1251, hm⟩ := bindS hm
     obtain ⟨j1252, j1253, hj1254, hj1255, hj1256, hj1257, hx1258⟩ := cutS_some h1251
     obtain rfl : j1252 = 0 := by omega
     rw [List.drop_zero] at hx1258
     have h1259 := OS.lc h1248
     refine t_st rfl (hx1258 ▸ st_part3 (l := l1243) j1253 rfl rfl hj1255 rfl hj1255 hj1257 h1259 sl22) ?_
     obtain ⟨hs1260, hq1261, h1262⟩ := OS.sub3 (sz := 1) rfl h1248 hj1257
     rw [← hx1258] at h1262
     refine t_less [_, _, _, _] hs1247 hs1260 (hs7 ++ (hs12 ++ (hs2 ++ (hs871 ++ R)))) rfl hq1261 ?_
     refine t_as rfl rfl ?_
     refine t_ne ?_
     refine c_sr ?_
     refine t_mv rfl rfl ?_
     obtain ⟨l1263, hcl1264, hm⟩ := bindS hm
     refine t_out1 [] [_, _, _, _] hs1260 (hs7 ++ (hs12 ++ (hs2 ++ (hs871 ++ R)))) rfl ?_
     refine t_callG _ rfl call38 rfl (cSlicesSort _ _ l1250 A1237 l1250.length hs1260 h1262 l1263 hcl1264) ?_
     rintro _ b1265 _ hle1266 ⟨hs1267, rfl, rfl, h1268, h1269⟩
     refine t_in1 [] [_, _, _, _] hs1267 (hs7 ++ (hs12 ++ (hs2 ++ (hs871 ++ R)))) rfl ?_
     refine t_resp 17 rfl (v' := .slice A1237 (l1263).length l1250.length) (by rw [h1269]) ?_
     refine t_ne ?_
     refine c_sr ?_
     refine t_mv rfl rfl ?_
     refine t_as rfl rfl ?_
     refine t_ne ?_
     refine c_ret ?_
     obtain rfl := some1 hm
     refine x_pullb 3 rfl ?_
     refine x_front3 [_, _, _, _] hs1267 hs7 hs12 (hs2 ++ (hs871 ++ R)) rfl ?_
     refine x_front3 [_, _, _, _] hs12 hs1267 hs7 (hs2 ++ (hs871 ++ R)) rfl ?_
     refine x_front4 [_, _, _, _] hs7 hs12 hs1267 hs2 (hs871 ++ R) rfl ?_
     refine x_front4 [_, _, _, _] hs2 hs7 hs12 hs1267 (hs871 ++ R) rfl ?_
     exact retM (rs := [.tmp 10]) [.slice A1237 (l1263).length l1250.length] (hle869.trans (hle1120.trans (hle1246.trans hle1266))) (by decide) rfl ⟨rfl, trivial⟩ rfl (.cons_cons _ (.cons _ (.cons _ (.cons _ (sub_app hs1267 (sub_app hs2 (sub_app hs7 (sub_app hs12 (sub_skip hs871 (.refl _)))))))))) ⟨A1237, l1250.length, hs1267, rfl, rfl, h1268⟩

set_option maxRecDepth 20000 in
theorem cFareCarBook (b : Base) (R : Hp) (x12 : Int) (x13 : Int) (x14 : Int) (x15 : Int) (x16 : Int) (x17 : Int) (l18 : (List FareBooking)) (l20 : (List Bool)) (g11 : Nat) (A3 : Option Addr) (c4 : Nat) (hs2 : Hp) (A8 : Option Addr) (c9 : Nat) (hs7 : Hp) (h5 : OS 32 (OT.fr rFareBooking) b.w (.slice A3 l18.length c4) l18 hs2) (hnz19 : (A3 = none ↔ l18 = [])) (h10 : OS 4 (OT.fr RT.bool) b.w (.slice A8 l20.length c9) l20 hs7) (hnz21 : (A8 = none ↔ l20 = [])) (x195 : Int) (x196 : Int) (x197 : Int) (x198 : Int) (l199 : (List Int)) (l200 : (List FareBooking)) (l202 : (List Bool)) (hm : mFareCarBook x12 x13 x14 x15 x16 x17 l18 l20 = some (x195, x196, x197, x198, l199, l200, l202)) :
    CallsG Tryz.prog 9 [.pointer (some ⟨g11, 0, none⟩), .int .i64 (x12), .int .i64 (x13), .int .i64 (x14)] b ((g11, Cl 54 [.int .i64 (x15), .int .i64 (x16), .int .i64 (x17), .slice A3 (l18).length c4, .slice A8 (l20).length c9]) :: (hs2 ++ (hs7 ++ R))) (fun v b' hp' => ∃ (A182 : Option Addr), ∃ (c183 : Nat), ∃ (hs181 : Hp), ∃ (A187 : Option Addr), ∃ (c188 : Nat), ∃ (hs186 : Hp), ∃ (A192 : Option Addr), ∃ (c193 : Nat), ∃ (hs191 : Hp), .tuple #[.agg #[.int .i64 (x195), .int .i64 (x196), .int .i64 (x197), .slice A182 (l199).length c183], .int .i64 (x198)] = v ∧ (g11, Cl 54 [.int .i64 (x15), .int .i64 (x16), .int .i64 (x17), .slice A187 (l200).length c188, .slice A192 (l202).length c193]) :: (hs181 ++ (hs186 ++ (hs191 ++ R))) = hp' ∧ OS 3 (OT.fr (RT.int .i64)) b'.w (.slice A182 l199.length c183) l199 hs181 ∧ OS 32 (OT.fr rFareBooking) b'.w (.slice A187 l200.length c188) l200 hs186 ∧ (A187 = none ↔ l200 = []) ∧ OS 4 (OT.fr RT.bool) b'.w (.slice A192 l202.length c193) l202 hs191 ∧ (A192 = none ↔ l202 = [])) := by
  refine fn_enterG 73 Tryz.func9 rfl Tryz.ntmps9 rfl ?_
  unfold mFareCarBook at hm
  refine c_sr ?_
  refine t_do rfl (u_alloc [.int .i64 0, .int .i64 0, .int .i64 0, .slice none 0 0] zero32 rfl) ?_
  rintro _ _ ⟨g204, rfl, rfl⟩
  refine t_as rfl rfl ?_
  refine t_ne ?_
  refine c_seq ?_
  obtain ⟨x212, hj213, hk213⟩ := bindS hm
  refine c_join (fun b210 e' hp' => [(0, .pointer (some ⟨g11, 0, none⟩)), (1, .int .i64 (x12)), (2, .int .i64 (x13)), (3, .int .i64 (x14)), (8, .pointer (some ⟨g204, 0, none⟩)), (24, .bool (x212))] = e' ∧ (g11, Cl 54 [.int .i64 (x15), .int .i64 (x16), .int .i64 (x17), .slice A3 (l18).length c4, .slice A8 (l20).length c9]) :: (g204, Cl 32 [.int .i64 (0), .int .i64 (0), .int .i64 (0), .slice none 0 0]) :: (hs2 ++ (hs7 ++ R)) = hp' ∧ b.Le b210) ?_ ?_
  ·
   have hm := hj213
   refine c_region ?_
   refine t_mv rfl rfl ?_
   refine t_mv rfl rfl ?_
   refine t_mv rfl rfl ?_
   refine t_st rfl (st_nil rfl) ?_
   refine t_st rfl (st_field rfl fld54_2) ?_
   refine t_st rfl (st_load 1 rfl one3 rfl rfl) ?_
   obtain ⟨x214, hcl215, hm⟩ := bindS hm
   refine t_do rfl (u_callW0 _ call18 rfl (fun w ho => cFareSpan _ [] x12 x13 x17 x214 hcl215) (fun _ _ _ h => h.2.symm)) ?_
   rintro _ _ ⟨⟨_, rfl, _⟩, rfl⟩
   rcases Bool.eq_false_or_eq_true x214 with hc216 | hc216
   ·
    rw [if_pos hc216] at hm
    refine t_resp 18 rfl (v' := .bool true) (by rw [hc216] <;> rfl) ?_
    refine t_st rfl (st_not_t rfl) ?_
    refine t_mv rfl rfl ?_
    refine t_yes 20 rfl rfl rfl ?_
    refine t_mv rfl rfl ?_
    refine t_yes 20 rfl rfl rfl ?_
    obtain ⟨x217, hcl218, hm⟩ := bindS hm
    refine t_do rfl (u_callW0 _ call16 rfl (fun w ho => cFareWithin _ [] x14 1 8 x217 hcl218) (fun _ _ _ h => h.2.symm)) ?_
    rintro _ _ ⟨⟨_, rfl, _⟩, rfl⟩
    refine t_yes 20 rfl rfl rfl ?_
    refine t_st rfl (st_not rfl) ?_
    refine t_st rfl (st_pick_f rfl rfl) ?_
    refine t_nil ?_
    obtain rfl := some1 hm
    refine x_pullb 1 rfl ?_
    refine x_front2 [_, _] hs2 hs7 R rfl ?_
    refine x_front2 [_, _] hs7 hs2 R rfl ?_
    exact x_join (e' := [(0, .pointer (some ⟨g11, 0, none⟩)), (1, .int .i64 (x12)), (2, .int .i64 (x13)), (3, .int .i64 (x14)), (8, .pointer (some ⟨g204, 0, none⟩)), (24, .bool (!x217))]) ⟨rfl, rfl, rfl, rfl, rfl, rfl, trivial⟩ (.refl _) ⟨rfl, rfl, (Base.Le.refl _)⟩
   ·
    rw [if_neg (fun hh => Bool.noConfusion (hh.symm.trans hc216))] at hm
    refine t_resp 18 rfl (v' := .bool false) (by rw [hc216] <;> rfl) ?_
    refine t_st rfl (st_not_f rfl) ?_
    refine t_mv rfl rfl ?_
    refine t_no 20 rfl rfl rfl rfl rfl ?_
    refine t_no 20 rfl rfl rfl rfl rfl ?_
    refine t_no 20 rfl rfl rfl rfl rfl ?_
    refine t_st rfl (st_pick_t rfl rfl) ?_
    refine t_nil ?_
    obtain rfl := some1 hm
    refine x_pullb 1 rfl ?_
    refine x_front2 [_, _] hs2 hs7 R rfl ?_
    refine x_front2 [_, _] hs7 hs2 R rfl ?_
    exact x_join (e' := [(0, .pointer (some ⟨g11, 0, none⟩)), (1, .int .i64 (x12)), (2, .int .i64 (x13)), (3, .int .i64 (x14)), (8, .pointer (some ⟨g204, 0, none⟩)), (24, .bool (true))]) ⟨rfl, rfl, rfl, rfl, rfl, rfl, trivial⟩ (.refl _) ⟨rfl, rfl, (Base.Le.refl _)⟩
  ·
   rintro b210 _ _ ⟨rfl, rfl, hle211⟩
   have hm := hk213
   refine c_cond _ rfl (fun hc219 => ?_) (fun hc219 => ?_)
   ·
    rw [if_pos hc219] at hm
    refine c_sr ?_
    refine t_st rfl (st_build (v := .agg #[.int .i64 (0), .int .i64 (0), .int .i64 (0), .slice none 0 0]) [] rfl (fun _ => by kernel_rfl)) ?_
    refine t_do rfl (u_storeN (vs := [_, _, _, _]) 1 4 rfl rfl rfl siz32 rfl (mem_c rfl (mem_c rfl (mem_c rfl (mem_c rfl mem_n)))) rfl (by simp)) ?_
    rintro _ _ rfl
    refine t_as rfl rfl ?_
    refine t_ne ?_
    refine c_ret ?_
    refine x_then_ret ?_
    obtain ⟨rfl, rfl, rfl, rfl, rfl, rfl, rfl⟩ := some7 hm
    refine x_front2 [_, _] hs2 hs7 R rfl ?_
    refine x_front2 [_, _] hs7 hs2 R rfl ?_
    have he220 := (h5.le hle211)
    have he221 := (h10.le hle211)
    exact retM (rs := [.cell 8 32, .tmp 9]) [.agg #[.int .i64 (0), .int .i64 (0), .int .i64 (0), .slice none 0 0], .int .i64 (2)] hle211 (by decide) rfl ⟨⟨_, rfl, fun w ho => cell_agg (vs := [_, _, _, _]) 1 4 agg32 rfl rfl rfl w ho⟩, ⟨rfl, trivial⟩⟩ rfl (.cons_cons _ (.cons _ (.refl _))) ⟨none, 0, [], A3, c4, hs2, A8, c9, hs7, rfl, rfl, OS.nil, he220, hnz19, he221, hnz21⟩
   ·
    rw [if_neg (fun hh => Bool.noConfusion (hh.symm.trans hc219))] at hm
    refine c_skip ?_
    refine x_then_normal ?_
    refine c_sr ?_
    refine t_mv rfl rfl ?_
    refine t_mv rfl rfl ?_
    refine t_mv rfl rfl ?_
    obtain ⟨l222, hcl223, hm⟩ := bindS hm
    refine t_front2 [_, _] hs2 hs7 R rfl ?_
    refine t_front2 [_, _] hs7 hs2 R rfl ?_
    refine t_out2 [_] [_] hs2 hs7 R rfl ?_
    refine t_callG _ rfl call19 rfl (cFareCarFree_2 _ _ x12 x13 x15 x16 x17 l18 l20 g11 A3 c4 hs2 A8 c9 hs7 (h5.le hle211) hnz19 (h10.le hle211) hnz21 l222 hcl223) ?_
    rintro _ b224 _ hle225 ⟨A226, c227, hs228, rfl, rfl, h229⟩
    refine t_in3 [_] [_] hs228 hs2 hs7 R rfl ?_
    refine t_as rfl rfl ?_
    refine t_ne ?_
    refine c_seq ?_
    refine c_sr ?_
    refine t_mv rfl rfl ?_
    refine t_st rfl (st_len rfl sl22) ?_
    refine t_mv rfl rfl ?_
    refine t_st rfl (st_lss rfl rfl) ?_
    refine t_ne ?_
    refine c_cond _ rfl (fun hc230 => ?_) (fun hc230 => ?_)
    ·
     rw [if_pos (of_decide_eq_true hc230)] at hm
     refine c_sr ?_
     refine t_st rfl (st_build (v := .agg #[.int .i64 (0), .int .i64 (0), .int .i64 (0), .slice none 0 0]) [] rfl (fun _ => by kernel_rfl)) ?_
     refine t_do rfl (u_storeN (vs := [_, _, _, _]) 1 4 rfl rfl rfl siz32 rfl (mem_c rfl (mem_c rfl (mem_c rfl (mem_c rfl mem_n)))) rfl (by simp)) ?_
     rintro _ _ rfl
     refine t_as rfl rfl ?_
     refine t_ne ?_
     refine c_ret ?_
     refine x_then_ret ?_
     obtain ⟨rfl, rfl, rfl, rfl, rfl, rfl, rfl⟩ := some7 hm
     refine x_front3 [_, _] hs228 hs2 hs7 R rfl ?_
     refine x_front3 [_, _] hs7 hs228 hs2 R rfl ?_
     have he231 := (h5.le (hle211.trans hle225))
     have he232 := (h10.le (hle211.trans hle225))
     exact retM (rs := [.cell 8 32, .tmp 9]) [.agg #[.int .i64 (0), .int .i64 (0), .int .i64 (0), .slice none 0 0], .int .i64 (14)] (hle211.trans hle225) (by decide) rfl ⟨⟨_, rfl, fun w ho => cell_agg (vs := [_, _, _, _]) 1 4 agg32 rfl rfl rfl w ho⟩, ⟨rfl, trivial⟩⟩ rfl (.cons_cons _ (.cons _ (sub_app hs2 (sub_app hs7 (sub_skip hs228 (.refl _)))))) ⟨none, 0, [], A3, c4, hs2, A8, c9, hs7, rfl, rfl, OS.nil, he231, hnz19, he232, hnz21⟩
    ·
     rw [if_neg (of_decide_eq_false hc230)] at hm
     refine c_skip ?_
     refine x_then_normal ?_
     obtain ⟨l259, hj260, hk260⟩ := bindS hm
     refine c_join (fun b251 e' hp' => ∃ (g258 : Nat), ∃ (A255 : Option Addr), ∃ (c256 : Nat), ∃ (hs254 : Hp), [(0, .pointer (some ⟨g11, 0, none⟩)), (8, .pointer (some ⟨g204, 0, none⟩)), (11, .pointer (some ⟨g258, 0, none⟩))] = e' ∧ (g11, Cl 54 [.int .i64 (x15), .int .i64 (x16), .int .i64 (x17), .slice A3 (l18).length c4, .slice A8 (l20).length c9]) :: (g204, Cl 32 [.int .i64 (0), .int .i64 (0), .int .i64 (0), .slice none 0 0]) :: (g258, Cl 32 [.int .i64 ((l18.length : Int)), .int .i64 (x12), .int .i64 (x13), .slice A255 (l259).length c256]) :: (hs2 ++ (hs7 ++ (hs254 ++ R))) = hp' ∧ b224.Le b251 ∧ OS 3 (OT.fr (RT.int .i64)) b251.w (.slice A255 l259.length c256) l259 hs254) ?_ ?_
     ·
      have hm := hj260
      obtain ⟨l270, hcl271, hm⟩ := bindS hm
      refine D_drawI mixed (.cons _ (.cons_cons _ (sub_skip hs228 (sub_skip hs2 (sub_skip hs7 (.refl _)))))) ?_
      refine E_s0 0 rfl (st_move rfl) ?_
      refine E_s0 1 rfl (st_nil rfl) ?_
      refine E_s0 2 rfl (st_field rfl fld54_3) ?_
      refine E_s0 5 rfl (st_move rfl) ?_
      refine E_s0 6 rfl (st_move rfl) ?_
      refine E_s0 7 rfl (st_move rfl) ?_
      refine E_s0 8 rfl (st_move rfl) ?_
      refine E_s0 9 rfl (st_move rfl) ?_
      refine E_s0 10 rfl (st_move rfl) ?_
      refine E_s0 11 rfl (st_move rfl) ?_
      refine E_out ?_
      refine d_front3 [_, _] hs228 hs2 hs7 R rfl ?_
      refine d_front3 [_, _] hs7 hs228 hs2 R rfl ?_
      refine d_front3 [_, _] hs2 hs7 hs228 R rfl ?_
      refine d_out3 [_] [_] hs228 hs2 hs7 R rfl ?_
      refine D_all [3, 12, 14] (by kernel_rfl) rfl ?_
      refine R_do (Base.Le.refl _) rfl rfl (Stable.does (st_load 0 rfl one37 rfl rfl)) ?_ ?_
      ·
       rintro _ _ ⟨rfl, rfl⟩
       refine ⟨.inr (.cons _ (sub_skip hs228 (sub_skip hs2 (sub_skip hs7 (.refl _))))), ?_⟩
       refine d_in3 [_] [_] hs228 hs2 hs7 R rfl ?_
       refine E_in (Base.Le.refl _) (.cons _ (.cons_cons _ (sub_skip hs228 (sub_skip hs2 (sub_skip hs7 (.refl _)))))) ?_
       refine E_s0 4 rfl (st_len rfl sl37) ?_
       refine E_out ?_
       refine d_front3 [_, _] hs228 hs2 hs7 R rfl ?_
       refine d_front3 [_, _] hs7 hs228 hs2 R rfl ?_
       refine d_front3 [_, _] hs2 hs7 hs228 R rfl ?_
       refine d_out3 [_] [_] hs228 hs2 hs7 R rfl ?_
       refine D_all [12, 14] (by kernel_rfl) rfl ?_
       refine R_callGl (Base.Le.refl _) rfl rfl _ call20 rfl (cFareCarChoose _ _ x12 x13 x14 x15 x16 x17 l222 l18 l20 g11 A226 c227 hs228 A3 c4 hs2 A8 c9 hs7 h229 (h5.le (hle211.trans hle225)) hnz19 (h10.le (hle211.trans hle225)) hnz21 l270 hcl271) ?_ ?_
       ·
        rintro _ b272 _ hle273 ⟨A274, c275, hs276, rfl, rfl, h277⟩
        refine ⟨.inr (.cons _ (sub_skip hs276 (sub_skip hs228 (sub_skip hs2 (sub_skip hs7 (.refl _)))))), ?_⟩
        refine d_in4 [_] [_] hs276 hs228 hs2 hs7 R rfl ?_
        refine D_all [13, 14] (by kernel_rfl) rfl ?_
        refine R_do hle273 rfl rfl (Stable.does (st_build (v := .agg #[.int .i64 ((l18.length : Int)), .int .i64 (x12), .int .i64 (x13), .slice A274 (l270).length c275]) [(0, .int .i64 ((l18.length : Int))), (1, .int .i64 (x12)), (2, .int .i64 (x13)), (3, .slice A274 (l270).length c275)] rfl (fun _ => by kernel_rfl))) ?_ ?_
        ·
         rintro _ _ ⟨rfl, rfl⟩
         refine ⟨.inr (.cons _ (.cons_cons _ (sub_skip hs276 (sub_skip hs228 (sub_skip hs2 (sub_skip hs7 (.refl _))))))), ?_⟩
         refine D_all [14] (by kernel_rfl) rfl ?_
         refine R_do hle273 rfl rfl (u_alloc [.int .i64 0, .int .i64 0, .int .i64 0, .slice none 0 0] zero32 rfl) ?_ ?_
         ·
          rintro _ _ ⟨g278, rfl, rfl⟩
          refine ⟨.inr (.cons _ (.cons _ (.cons_cons _ (sub_skip hs276 (sub_skip hs228 (sub_skip hs2 (sub_skip hs7 (.refl _)))))))), ?_⟩
          refine D_all [15] (by kernel_rfl) rfl ?_
          refine R_do hle273 rfl rfl (u_storeN (vs := [_, _, _, _]) 0 4 rfl rfl rfl siz32 rfl (mem_c rfl (mem_c rfl (mem_c rfl (mem_c rfl mem_n)))) rfl (by simp)) ?_ ?_
          ·
           rintro _ _ rfl
           refine ⟨.inl (by kernel_rfl), ?_⟩
           refine D_done (by kernel_rfl) ?_
           obtain rfl := some1 hm
           refine x_pullb 2 rfl ?_
           refine x_pullb 2 rfl ?_
           refine x_front4 [_, _, _] hs276 hs228 hs2 hs7 R rfl ?_
           refine x_front4 [_, _, _] hs7 hs276 hs228 hs2 R rfl ?_
           exact x_join (e' := [(0, .pointer (some ⟨g11, 0, none⟩)), (8, .pointer (some ⟨g204, 0, none⟩)), (11, .pointer (some ⟨g278, 0, none⟩))]) ⟨rfl, rfl, rfl, trivial⟩ (.cons_cons _ (.cons_cons _ (.cons_cons _ (sub_app hs2 (sub_app hs7 (sub_app hs276 (sub_skip hs228 (.refl _)))))))) ⟨g278, A274, c275, hs276, rfl, rfl, hle273, h277⟩
          exact R_nil
         exact R_nil
        refine R_do hle273 rfl rfl (u_alloc [.int .i64 0, .int .i64 0, .int .i64 0, .slice none 0 0] zero32 rfl) ?_ ?_
        ·
         rintro _ _ ⟨g278, rfl, rfl⟩
         refine ⟨.inr (.cons _ (.cons _ (.cons_cons _ (sub_skip hs276 (sub_skip hs228 (sub_skip hs2 (sub_skip hs7 (.refl _)))))))), ?_⟩
         refine D_all [13] (by kernel_rfl) rfl ?_
         refine R_do hle273 rfl rfl (Stable.does (st_build (v := .agg #[.int .i64 ((l18.length : Int)), .int .i64 (x12), .int .i64 (x13), .slice A274 (l270).length c275]) [(0, .int .i64 ((l18.length : Int))), (1, .int .i64 (x12)), (2, .int .i64 (x13)), (3, .slice A274 (l270).length c275)] rfl (fun _ => by kernel_rfl))) ?_ ?_
         ·
          rintro _ _ ⟨rfl, rfl⟩
          refine ⟨.inr (.cons _ (.cons _ (.cons_cons _ (sub_skip hs276 (sub_skip hs228 (sub_skip hs2 (sub_skip hs7 (.refl _)))))))), ?_⟩
          refine D_all [15] (by kernel_rfl) rfl ?_
          refine R_do hle273 rfl rfl (u_storeN (vs := [_, _, _, _]) 0 4 rfl rfl rfl siz32 rfl (mem_c rfl (mem_c rfl (mem_c rfl (mem_c rfl mem_n)))) rfl (by simp)) ?_ ?_
          ·
           rintro _ _ rfl
           refine ⟨.inl (by kernel_rfl), ?_⟩
           refine D_done (by kernel_rfl) ?_
           obtain rfl := some1 hm
           refine x_pullb 2 rfl ?_
           refine x_pullb 2 rfl ?_
           refine x_front4 [_, _, _] hs276 hs228 hs2 hs7 R rfl ?_
           refine x_front4 [_, _, _] hs7 hs276 hs228 hs2 R rfl ?_
           exact x_join (e' := [(0, .pointer (some ⟨g11, 0, none⟩)), (8, .pointer (some ⟨g204, 0, none⟩)), (11, .pointer (some ⟨g278, 0, none⟩))]) ⟨rfl, rfl, rfl, trivial⟩ (.cons_cons _ (.cons_cons _ (.cons_cons _ (sub_app hs2 (sub_app hs7 (sub_app hs276 (sub_skip hs228 (.refl _)))))))) ⟨g278, A274, c275, hs276, rfl, rfl, hle273, h277⟩
          exact R_nil
         exact R_nil
        exact R_nil
       refine R_do (Base.Le.refl _) rfl rfl (u_alloc [.int .i64 0, .int .i64 0, .int .i64 0, .slice none 0 0] zero32 rfl) ?_ ?_
       ·
        rintro _ _ ⟨g278, rfl, rfl⟩
        refine ⟨.inr (.cons _ (.cons _ (sub_skip hs228 (sub_skip hs2 (sub_skip hs7 (.refl _)))))), ?_⟩
        refine d_in3 [_, _] [_] hs228 hs2 hs7 R rfl ?_
        refine d_pullb 1 rfl ?_
        refine d_front3 [_, _, _] hs228 hs2 hs7 R rfl ?_
        refine d_front3 [_, _, _] hs7 hs228 hs2 R rfl ?_
        refine d_front3 [_, _, _] hs2 hs7 hs228 R rfl ?_
        refine d_out3 [_] [_, _] hs228 hs2 hs7 R rfl ?_
        refine D_all [12] (by kernel_rfl) rfl ?_
        refine R_callGl (Base.Le.refl _) rfl rfl _ call20 rfl (cFareCarChoose _ _ x12 x13 x14 x15 x16 x17 l222 l18 l20 g11 A226 c227 hs228 A3 c4 hs2 A8 c9 hs7 h229 (h5.le (hle211.trans hle225)) hnz19 (h10.le (hle211.trans hle225)) hnz21 l270 hcl271) ?_ ?_
        ·
         rintro _ b272 _ hle273 ⟨A274, c275, hs276, rfl, rfl, h277⟩
         refine ⟨.inr (.cons _ (sub_skip hs276 (sub_skip hs228 (sub_skip hs2 (sub_skip hs7 (.cons _ (.refl _))))))), ?_⟩
         refine d_in4 [_] [_, _] hs276 hs228 hs2 hs7 R rfl ?_
         refine D_all [13] (by kernel_rfl) rfl ?_
         refine R_do hle273 rfl rfl (Stable.does (st_build (v := .agg #[.int .i64 ((l18.length : Int)), .int .i64 (x12), .int .i64 (x13), .slice A274 (l270).length c275]) [(0, .int .i64 ((l18.length : Int))), (1, .int .i64 (x12)), (2, .int .i64 (x13)), (3, .slice A274 (l270).length c275)] rfl (fun _ => by kernel_rfl))) ?_ ?_
         ·
          rintro _ _ ⟨rfl, rfl⟩
          refine ⟨.inr (.cons _ (.cons _ (.cons_cons _ (sub_skip hs276 (sub_skip hs228 (sub_skip hs2 (sub_skip hs7 (.refl _)))))))), ?_⟩
          refine D_all [15] (by kernel_rfl) rfl ?_
          refine R_do hle273 rfl rfl (u_storeN (vs := [_, _, _, _]) 1 4 rfl rfl rfl siz32 rfl (mem_c rfl (mem_c rfl (mem_c rfl (mem_c rfl mem_n)))) rfl (by simp)) ?_ ?_
          ·
           rintro _ _ rfl
           refine ⟨.inl (by kernel_rfl), ?_⟩
           refine D_done (by kernel_rfl) ?_
           obtain rfl := some1 hm
           refine x_pullb 1 rfl ?_
           refine x_pullb 2 rfl ?_
           refine x_pullb 2 rfl ?_
           refine x_front4 [_, _, _] hs276 hs228 hs2 hs7 R rfl ?_
           refine x_front4 [_, _, _] hs7 hs276 hs228 hs2 R rfl ?_
           exact x_join (e' := [(0, .pointer (some ⟨g11, 0, none⟩)), (8, .pointer (some ⟨g204, 0, none⟩)), (11, .pointer (some ⟨g278, 0, none⟩))]) ⟨rfl, rfl, rfl, trivial⟩ (.cons_cons _ (.cons_cons _ (.cons_cons _ (sub_app hs2 (sub_app hs7 (sub_app hs276 (sub_skip hs228 (.refl _)))))))) ⟨g278, A274, c275, hs276, rfl, rfl, hle273, h277⟩
          exact R_nil
         exact R_nil
        exact R_nil
       exact R_nil
      refine R_callGl (Base.Le.refl _) rfl rfl _ call20 rfl (cFareCarChoose _ _ x12 x13 x14 x15 x16 x17 l222 l18 l20 g11 A226 c227 hs228 A3 c4 hs2 A8 c9 hs7 h229 (h5.le (hle211.trans hle225)) hnz19 (h10.le (hle211.trans hle225)) hnz21 l270 hcl271) ?_ ?_
      ·
       rintro _ b272 _ hle273 ⟨A274, c275, hs276, rfl, rfl, h277⟩
       refine ⟨.inr (.cons _ (sub_skip hs276 (sub_skip hs228 (sub_skip hs2 (sub_skip hs7 (.refl _)))))), ?_⟩
       refine d_in4 [_] [_] hs276 hs228 hs2 hs7 R rfl ?_
       refine D_all [3, 14] (by kernel_rfl) rfl ?_
       refine R_do hle273 rfl rfl (Stable.does (st_load 0 rfl one37 rfl rfl)) ?_ ?_
       ·
        rintro _ _ ⟨rfl, rfl⟩
        refine ⟨.inr (.cons _ (.cons_cons _ (sub_skip hs276 (sub_skip hs228 (sub_skip hs2 (sub_skip hs7 (.refl _))))))), ?_⟩
        refine E_in hle273 (.cons _ (.cons_cons _ (sub_skip hs276 (sub_skip hs228 (sub_skip hs2 (sub_skip hs7 (.refl _))))))) ?_
        refine E_s0 4 rfl (st_len rfl sl37) ?_
        refine E_out ?_
        refine D_all [13, 14] (by kernel_rfl) rfl ?_
        refine R_do hle273 rfl rfl (Stable.does (st_build (v := .agg #[.int .i64 ((l18.length : Int)), .int .i64 (x12), .int .i64 (x13), .slice A274 (l270).length c275]) [(0, .int .i64 ((l18.length : Int))), (1, .int .i64 (x12)), (2, .int .i64 (x13)), (3, .slice A274 (l270).length c275)] rfl (fun _ => by kernel_rfl))) ?_ ?_
        ·
         rintro _ _ ⟨rfl, rfl⟩
         refine ⟨.inr (.cons _ (.cons_cons _ (sub_skip hs276 (sub_skip hs228 (sub_skip hs2 (sub_skip hs7 (.refl _))))))), ?_⟩
         refine D_all [14] (by kernel_rfl) rfl ?_
         refine R_do hle273 rfl rfl (u_alloc [.int .i64 0, .int .i64 0, .int .i64 0, .slice none 0 0] zero32 rfl) ?_ ?_
         ·
          rintro _ _ ⟨g278, rfl, rfl⟩
          refine ⟨.inr (.cons _ (.cons _ (.cons_cons _ (sub_skip hs276 (sub_skip hs228 (sub_skip hs2 (sub_skip hs7 (.refl _)))))))), ?_⟩
          refine D_all [15] (by kernel_rfl) rfl ?_
          refine R_do hle273 rfl rfl (u_storeN (vs := [_, _, _, _]) 0 4 rfl rfl rfl siz32 rfl (mem_c rfl (mem_c rfl (mem_c rfl (mem_c rfl mem_n)))) rfl (by simp)) ?_ ?_
          ·
           rintro _ _ rfl
           refine ⟨.inl (by kernel_rfl), ?_⟩
           refine D_done (by kernel_rfl) ?_
           obtain rfl := some1 hm
           refine x_pullb 2 rfl ?_
           refine x_pullb 2 rfl ?_
           refine x_front4 [_, _, _] hs276 hs228 hs2 hs7 R rfl ?_
           refine x_front4 [_, _, _] hs7 hs276 hs228 hs2 R rfl ?_
           exact x_join (e' := [(0, .pointer (some ⟨g11, 0, none⟩)), (8, .pointer (some ⟨g204, 0, none⟩)), (11, .pointer (some ⟨g278, 0, none⟩))]) ⟨rfl, rfl, rfl, trivial⟩ (.cons_cons _ (.cons_cons _ (.cons_cons _ (sub_app hs2 (sub_app hs7 (sub_app hs276 (sub_skip hs228 (.refl _)))))))) ⟨g278, A274, c275, hs276, rfl, rfl, hle273, h277⟩
          exact R_nil
         exact R_nil
        refine R_do hle273 rfl rfl (u_alloc [.int .i64 0, .int .i64 0, .int .i64 0, .slice none 0 0] zero32 rfl) ?_ ?_
        ·
         rintro _ _ ⟨g278, rfl, rfl⟩
         refine ⟨.inr (.cons _ (.cons _ (.cons_cons _ (sub_skip hs276 (sub_skip hs228 (sub_skip hs2 (sub_skip hs7 (.refl _)))))))), ?_⟩
         refine D_all [13] (by kernel_rfl) rfl ?_
         refine R_do hle273 rfl rfl (Stable.does (st_build (v := .agg #[.int .i64 ((l18.length : Int)), .int .i64 (x12), .int .i64 (x13), .slice A274 (l270).length c275]) [(0, .int .i64 ((l18.length : Int))), (1, .int .i64 (x12)), (2, .int .i64 (x13)), (3, .slice A274 (l270).length c275)] rfl (fun _ => by kernel_rfl))) ?_ ?_
         ·
          rintro _ _ ⟨rfl, rfl⟩
          refine ⟨.inr (.cons _ (.cons _ (.cons_cons _ (sub_skip hs276 (sub_skip hs228 (sub_skip hs2 (sub_skip hs7 (.refl _)))))))), ?_⟩
          refine D_all [15] (by kernel_rfl) rfl ?_
          refine R_do hle273 rfl rfl (u_storeN (vs := [_, _, _, _]) 0 4 rfl rfl rfl siz32 rfl (mem_c rfl (mem_c rfl (mem_c rfl (mem_c rfl mem_n)))) rfl (by simp)) ?_ ?_
          ·
           rintro _ _ rfl
           refine ⟨.inl (by kernel_rfl), ?_⟩
           refine D_done (by kernel_rfl) ?_
           obtain rfl := some1 hm
           refine x_pullb 2 rfl ?_
           refine x_pullb 2 rfl ?_
           refine x_front4 [_, _, _] hs276 hs228 hs2 hs7 R rfl ?_
           refine x_front4 [_, _, _] hs7 hs276 hs228 hs2 R rfl ?_
           exact x_join (e' := [(0, .pointer (some ⟨g11, 0, none⟩)), (8, .pointer (some ⟨g204, 0, none⟩)), (11, .pointer (some ⟨g278, 0, none⟩))]) ⟨rfl, rfl, rfl, trivial⟩ (.cons_cons _ (.cons_cons _ (.cons_cons _ (sub_app hs2 (sub_app hs7 (sub_app hs276 (sub_skip hs228 (.refl _)))))))) ⟨g278, A274, c275, hs276, rfl, rfl, hle273, h277⟩
          exact R_nil
         exact R_nil
        exact R_nil
       refine R_do hle273 rfl rfl (u_alloc [.int .i64 0, .int .i64 0, .int .i64 0, .slice none 0 0] zero32 rfl) ?_ ?_
       ·
        rintro _ _ ⟨g278, rfl, rfl⟩
        refine ⟨.inr (.cons _ (.cons _ (.cons_cons _ (sub_skip hs276 (sub_skip hs228 (sub_skip hs2 (sub_skip hs7 (.refl _)))))))), ?_⟩
        refine D_all [3] (by kernel_rfl) rfl ?_
        refine R_do hle273 rfl rfl (Stable.does (st_load 1 rfl one37 rfl rfl)) ?_ ?_
        ·
         rintro _ _ ⟨rfl, rfl⟩
         refine ⟨.inr (.cons _ (.cons _ (.cons_cons _ (sub_skip hs276 (sub_skip hs228 (sub_skip hs2 (sub_skip hs7 (.refl _)))))))), ?_⟩
         refine E_in hle273 (.cons _ (.cons _ (.cons_cons _ (sub_skip hs276 (sub_skip hs228 (sub_skip hs2 (sub_skip hs7 (.refl _)))))))) ?_
         refine E_s0 4 rfl (st_len rfl sl37) ?_
         refine E_out ?_
         refine D_all [13] (by kernel_rfl) rfl ?_
         refine R_do hle273 rfl rfl (Stable.does (st_build (v := .agg #[.int .i64 ((l18.length : Int)), .int .i64 (x12), .int .i64 (x13), .slice A274 (l270).length c275]) [(0, .int .i64 ((l18.length : Int))), (1, .int .i64 (x12)), (2, .int .i64 (x13)), (3, .slice A274 (l270).length c275)] rfl (fun _ => by kernel_rfl))) ?_ ?_
         ·
          rintro _ _ ⟨rfl, rfl⟩
          refine ⟨.inr (.cons _ (.cons _ (.cons_cons _ (sub_skip hs276 (sub_skip hs228 (sub_skip hs2 (sub_skip hs7 (.refl _)))))))), ?_⟩
          refine D_all [15] (by kernel_rfl) rfl ?_
          refine R_do hle273 rfl rfl (u_storeN (vs := [_, _, _, _]) 0 4 rfl rfl rfl siz32 rfl (mem_c rfl (mem_c rfl (mem_c rfl (mem_c rfl mem_n)))) rfl (by simp)) ?_ ?_
          ·
           rintro _ _ rfl
           refine ⟨.inl (by kernel_rfl), ?_⟩
           refine D_done (by kernel_rfl) ?_
           obtain rfl := some1 hm
           refine x_pullb 2 rfl ?_
           refine x_pullb 2 rfl ?_
           refine x_front4 [_, _, _] hs276 hs228 hs2 hs7 R rfl ?_
           refine x_front4 [_, _, _] hs7 hs276 hs228 hs2 R rfl ?_
           exact x_join (e' := [(0, .pointer (some ⟨g11, 0, none⟩)), (8, .pointer (some ⟨g204, 0, none⟩)), (11, .pointer (some ⟨g278, 0, none⟩))]) ⟨rfl, rfl, rfl, trivial⟩ (.cons_cons _ (.cons_cons _ (.cons_cons _ (sub_app hs2 (sub_app hs7 (sub_app hs276 (sub_skip hs228 (.refl _)))))))) ⟨g278, A274, c275, hs276, rfl, rfl, hle273, h277⟩
          exact R_nil
         exact R_nil
        exact R_nil
       exact R_nil
      refine R_do (Base.Le.refl _) rfl rfl (u_alloc [.int .i64 0, .int .i64 0, .int .i64 0, .slice none 0 0] zero32 rfl) ?_ ?_
      ·
       rintro _ _ ⟨g278, rfl, rfl⟩
       refine ⟨.inr (.cons _ (.cons _ (sub_skip hs228 (sub_skip hs2 (sub_skip hs7 (.refl _)))))), ?_⟩
       refine d_in3 [_, _] [_] hs228 hs2 hs7 R rfl ?_
       refine d_pullb 1 rfl ?_
       refine d_front3 [_, _, _] hs228 hs2 hs7 R rfl ?_
       refine d_front3 [_, _, _] hs7 hs228 hs2 R rfl ?_
       refine d_front3 [_, _, _] hs2 hs7 hs228 R rfl ?_
       refine d_out3 [_] [_, _] hs228 hs2 hs7 R rfl ?_
       refine D_all [3, 12] (by kernel_rfl) rfl ?_
       refine R_do (Base.Le.refl _) rfl rfl (Stable.does (st_load 0 rfl one37 rfl rfl)) ?_ ?_
       ·
        rintro _ _ ⟨rfl, rfl⟩
        refine ⟨.inr (.cons _ (sub_skip hs228 (sub_skip hs2 (sub_skip hs7 (.cons _ (.refl _)))))), ?_⟩
        refine d_in3 [_] [_, _] hs228 hs2 hs7 R rfl ?_
        refine E_in (Base.Le.refl _) (.cons _ (.cons _ (.cons_cons _ (sub_skip hs228 (sub_skip hs2 (sub_skip hs7 (.refl _))))))) ?_
        refine E_s0 4 rfl (st_len rfl sl37) ?_
        refine E_out ?_
        refine d_front3 [_, _, _] hs228 hs2 hs7 R rfl ?_
        refine d_front3 [_, _, _] hs7 hs228 hs2 R rfl ?_
        refine d_front3 [_, _, _] hs2 hs7 hs228 R rfl ?_
        refine d_out3 [_] [_, _] hs228 hs2 hs7 R rfl ?_
        refine D_all [12] (by kernel_rfl) rfl ?_
        refine R_callGl (Base.Le.refl _) rfl rfl _ call20 rfl (cFareCarChoose _ _ x12 x13 x14 x15 x16 x17 l222 l18 l20 g11 A226 c227 hs228 A3 c4 hs2 A8 c9 hs7 h229 (h5.le (hle211.trans hle225)) hnz19 (h10.le (hle211.trans hle225)) hnz21 l270 hcl271) ?_ ?_
        ·
         rintro _ b272 _ hle273 ⟨A274, c275, hs276, rfl, rfl, h277⟩
         refine ⟨.inr (.cons _ (sub_skip hs276 (sub_skip hs228 (sub_skip hs2 (sub_skip hs7 (.cons _ (.refl _))))))), ?_⟩
         refine d_in4 [_] [_, _] hs276 hs228 hs2 hs7 R rfl ?_
         refine D_all [13] (by kernel_rfl) rfl ?_
         refine R_do hle273 rfl rfl (Stable.does (st_build (v := .agg #[.int .i64 ((l18.length : Int)), .int .i64 (x12), .int .i64 (x13), .slice A274 (l270).length c275]) [(0, .int .i64 ((l18.length : Int))), (1, .int .i64 (x12)), (2, .int .i64 (x13)), (3, .slice A274 (l270).length c275)] rfl (fun _ => by kernel_rfl))) ?_ ?_
         ·
          rintro _ _ ⟨rfl, rfl⟩
          refine ⟨.inr (.cons _ (.cons _ (.cons_cons _ (sub_skip hs276 (sub_skip hs228 (sub_skip hs2 (sub_skip hs7 (.refl _)))))))), ?_⟩
          refine D_all [15] (by kernel_rfl) rfl ?_
          refine R_do hle273 rfl rfl (u_storeN (vs := [_, _, _, _]) 1 4 rfl rfl rfl siz32 rfl (mem_c rfl (mem_c rfl (mem_c rfl (mem_c rfl mem_n)))) rfl (by simp)) ?_ ?_
          ·
           rintro _ _ rfl
           refine ⟨.inl (by kernel_rfl), ?_⟩
           refine D_done (by kernel_rfl) ?_
           obtain rfl := some1 hm
           refine x_pullb 1 rfl ?_
           refine x_pullb 2 rfl ?_
           refine x_pullb 2 rfl ?_
           refine x_front4 [_, _, _] hs276 hs228 hs2 hs7 R rfl ?_
           refine x_front4 [_, _, _] hs7 hs276 hs228 hs2 R rfl ?_
           exact x_join (e' := [(0, .pointer (some ⟨g11, 0, none⟩)), (8, .pointer (some ⟨g204, 0, none⟩)), (11, .pointer (some ⟨g278, 0, none⟩))]) ⟨rfl, rfl, rfl, trivial⟩ (.cons_cons _ (.cons_cons _ (.cons_cons _ (sub_app hs2 (sub_app hs7 (sub_app hs276 (sub_skip hs228 (.refl _)))))))) ⟨g278, A274, c275, hs276, rfl, rfl, hle273, h277⟩
          exact R_nil
         exact R_nil
        exact R_nil
       refine R_callGl (Base.Le.refl _) rfl rfl _ call20 rfl (cFareCarChoose _ _ x12 x13 x14 x15 x16 x17 l222 l18 l20 g11 A226 c227 hs228 A3 c4 hs2 A8 c9 hs7 h229 (h5.le (hle211.trans hle225)) hnz19 (h10.le (hle211.trans hle225)) hnz21 l270 hcl271) ?_ ?_
       ·
        rintro _ b272 _ hle273 ⟨A274, c275, hs276, rfl, rfl, h277⟩
        refine ⟨.inr (.cons _ (sub_skip hs276 (sub_skip hs228 (sub_skip hs2 (sub_skip hs7 (.cons _ (.refl _))))))), ?_⟩
        refine d_in4 [_] [_, _] hs276 hs228 hs2 hs7 R rfl ?_
        refine D_all [3] (by kernel_rfl) rfl ?_
        refine R_do hle273 rfl rfl (Stable.does (st_load 0 rfl one37 rfl rfl)) ?_ ?_
        ·
         rintro _ _ ⟨rfl, rfl⟩
         refine ⟨.inr (.cons _ (.cons _ (.cons_cons _ (sub_skip hs276 (sub_skip hs228 (sub_skip hs2 (sub_skip hs7 (.refl _)))))))), ?_⟩
         refine E_in hle273 (.cons _ (.cons _ (.cons_cons _ (sub_skip hs276 (sub_skip hs228 (sub_skip hs2 (sub_skip hs7 (.refl _)))))))) ?_
         refine E_s0 4 rfl (st_len rfl sl37) ?_
         refine E_out ?_
         refine D_all [13] (by kernel_rfl) rfl ?_
         refine R_do hle273 rfl rfl (Stable.does (st_build (v := .agg #[.int .i64 ((l18.length : Int)), .int .i64 (x12), .int .i64 (x13), .slice A274 (l270).length c275]) [(0, .int .i64 ((l18.length : Int))), (1, .int .i64 (x12)), (2, .int .i64 (x13)), (3, .slice A274 (l270).length c275)] rfl (fun _ => by kernel_rfl))) ?_ ?_
         ·
          rintro _ _ ⟨rfl, rfl⟩
          refine ⟨.inr (.cons _ (.cons _ (.cons_cons _ (sub_skip hs276 (sub_skip hs228 (sub_skip hs2 (sub_skip hs7 (.refl _)))))))), ?_⟩
          refine D_all [15] (by kernel_rfl) rfl ?_
          refine R_do hle273 rfl rfl (u_storeN (vs := [_, _, _, _]) 1 4 rfl rfl rfl siz32 rfl (mem_c rfl (mem_c rfl (mem_c rfl (mem_c rfl mem_n)))) rfl (by simp)) ?_ ?_
          ·
           rintro _ _ rfl
           refine ⟨.inl (by kernel_rfl), ?_⟩
           refine D_done (by kernel_rfl) ?_
           obtain rfl := some1 hm
           refine x_pullb 1 rfl ?_
           refine x_pullb 2 rfl ?_
           refine x_pullb 2 rfl ?_
           refine x_front4 [_, _, _] hs276 hs228 hs2 hs7 R rfl ?_
           refine x_front4 [_, _, _] hs7 hs276 hs228 hs2 R rfl ?_
           exact x_join (e' := [(0, .pointer (some ⟨g11, 0, none⟩)), (8, .pointer (some ⟨g204, 0, none⟩)), (11, .pointer (some ⟨g278, 0, none⟩))]) ⟨rfl, rfl, rfl, trivial⟩ (.cons_cons _ (.cons_cons _ (.cons_cons _ (sub_app hs2 (sub_app hs7 (sub_app hs276 (sub_skip hs228 (.refl _)))))))) ⟨g278, A274, c275, hs276, rfl, rfl, hle273, h277⟩
          exact R_nil
         exact R_nil
        exact R_nil
       exact R_nil
      exact R_nil
     ·
      rintro b251 _ _ ⟨g258, A255, c256, hs254, rfl, rfl, hle252, h257⟩
      have hm := hk260
      obtain ⟨⟨l323, l324, l326⟩, hj328, hk328⟩ := bindS hm
      refine c_join (fun b308 e' hp' => ∃ (A320 : Option Addr), ∃ (c321 : Nat), ∃ (A312 : Option Addr), ∃ (c313 : Nat), ∃ (hs311 : Hp), ∃ (A317 : Option Addr), ∃ (c318 : Nat), ∃ (hs316 : Hp), [(8, .pointer (some ⟨g204, 0, none⟩)), (11, .pointer (some ⟨g258, 0, none⟩))] = e' ∧ (g204, Cl 32 [.int .i64 (0), .int .i64 (0), .int .i64 (0), .slice none 0 0]) :: (g258, Cl 32 [.int .i64 ((l18.length : Int)), .int .i64 (x12), .int .i64 (x13), .slice A320 (l323).length c321]) :: (g11, Cl 54 [.int .i64 (x15), .int .i64 (x16), .int .i64 (x17), .slice A312 (l324).length c313, .slice A317 (l326).length c318]) :: (hs311 ++ (hs316 ++ R)) = hp' ∧ b251.Le b308 ∧ FZ (RT.int .i64) b308.w A320 c321 l323 ∧ OS 32 (OT.fr rFareBooking) b308.w (.slice A312 l324.length c313) l324 hs311 ∧ (A312 = none ↔ l324 = []) ∧ OS 4 (OT.fr RT.bool) b308.w (.slice A317 l326.length c318) l326 hs316 ∧ (A317 = none ↔ l326 = [])) ?_ ?_
      ·
       have hm := hj328
       refine c_front3 [_, _, _] hs2 hs7 hs254 R rfl ?_
       refine c_frz [_, _, _] hs254 (hs2 ++ (hs7 ++ R)) rfl ?_
       intro b330 hle331 hz332
       have h333 := OS.frz (l := l259) h257 hle331.cells hz332
       obtain ⟨_, h347, hm⟩ := bindS hm
       obtain ⟨_, h353, hm⟩ := bindS hm
       refine D_drawI mixed (.cons_cons _ (.cons_cons _ (.cons_cons _ (sub_skip hs2 (sub_skip hs7 (.refl _)))))) ?_
       refine E_s0 0 rfl (st_move rfl) ?_
       refine E_s0 1 rfl (st_move rfl) ?_
       refine E_s0 2 rfl (st_move rfl) ?_
       refine E_s0 3 rfl (st_nil rfl) ?_
       refine E_s0 4 rfl (st_field rfl fld54_3) ?_
       refine E_st 5 rfl (st_load 0 rfl one37 rfl rfl) ?_
       refine E_st 6 rfl (st_loadD (vs := [_, _, _, _]) 2 4 rfl agg32 rfl rfl rfl) ?_
       refine E_s0 9 rfl (st_move rfl) ?_
       refine E_s0 10 rfl (st_nil rfl) ?_
       refine E_s0 11 rfl (st_field rfl fld54_4) ?_
       refine E_st 12 rfl (st_load 0 rfl one52 rfl rfl) ?_
       refine E_out ?_
       refine D_all [7, 13] (by kernel_rfl) rfl ?_
       refine R_do (Base.Le.refl _) rfl rfl (u_bslice (el := 32) [(0, .agg #[.int .i64 ((l18.length : Int)), .int .i64 (x12), .int .i64 (x13), .slice A255 (l259).length c256])] [.int .i64 ((l18.length : Int)), .int .i64 (x12), .int .i64 (x13), .slice A255 (l259).length c256] rfl (fun _ => by kernel_rfl)) ?_ ?_
       ·
        rintro _ _ ⟨g346, rfl, rfl⟩
        refine ⟨.inr (.cons _ (.cons_cons _ (.cons_cons _ (.cons_cons _ (sub_skip hs2 (sub_skip hs7 (.refl _))))))), ?_⟩
        have h347 := room_some h347
        refine D_all [8, 13] (by kernel_rfl) rfl ?_
        refine R_do (Base.Le.refl _) rfl rfl (u_appOS (r := rFareBooking) (l := l18) [_, _, _, _] (hs7 ++ R) [[.int .i64 ((l18.length : Int)), .int .i64 (x12), .int .i64 (x13), .slice A255 (l259).length c256]] [(⟨(l18.length : Int), x12, x13, l259⟩ : FareBooking)] rfl (by decide) sl37 inf32 rfl rfl rfl rfl (h5.le (hle211.trans (hle225.trans (hle252.trans hle331)))) rfl (fun w ho => Rd.own (i := 0) ho rfl) ⟨⟨[.int .i64 ((l18.length : Int))], _, rfl, rfl, ⟨[.int .i64 (x12)], _, rfl, rfl, ⟨[.int .i64 (x13)], _, rfl, rfl, (RT.list_mk h333)⟩⟩⟩, trivial⟩ h347) ?_ ?_
        ·
         rintro _ _ ⟨hs348, rfl, h349⟩
         obtain ⟨A350, c351, rfl, _⟩ := h349.form
         refine ⟨.inr (.cons _ (.cons_cons _ (.cons_cons _ (.cons_cons _ (sub_skip hs348 (sub_skip hs7 (.refl _))))))), ?_⟩
         refine D_all [13] (by kernel_rfl) rfl ?_
         refine R_do (Base.Le.refl _) rfl rfl (u_bslice (el := 4) [(0, .bool (false))] [.bool (false)] rfl (fun _ => by kernel_rfl)) ?_ ?_
         ·
          rintro _ _ ⟨g352, rfl, rfl⟩
          refine ⟨.inr (.cons _ (.cons _ (.cons_cons _ (.cons_cons _ (.cons_cons _ (sub_skip hs348 (sub_skip hs7 (.refl _)))))))), ?_⟩
          have h353 := room_some h353
          refine d_front2 [_, _, _, _, _] hs348 hs7 R rfl ?_
          refine D_all [14] (by kernel_rfl) rfl ?_
          refine R_do (Base.Le.refl _) rfl rfl (u_appOS (r := RT.bool) (l := l20) [_, _, _, _, _] (hs348 ++ R) [[.bool (false)]] [false] rfl (by decide) sl52 inf4 rfl rfl rfl rfl (h10.le (hle211.trans (hle225.trans (hle252.trans hle331)))) rfl (fun w ho => Rd.own (i := 0) ho rfl) ⟨rfl, trivial⟩ h353) ?_ ?_
          ·
           rintro _ _ ⟨hs354, rfl, h355⟩
           obtain ⟨A356, c357, rfl, _⟩ := h355.form
           refine ⟨.inr (.cons _ (.cons _ (.cons_cons _ (.cons_cons _ (.cons_cons _ (sub_skip hs354 (sub_skip hs348 (.refl _)))))))), ?_⟩
           refine E_in (Base.Le.refl _) (.cons _ (.cons _ (.cons_cons _ (.cons_cons _ (.cons_cons _ (sub_skip hs354 (sub_skip hs348 (.refl _)))))))) ?_
           refine E_s0 15 rfl (st_nil rfl) ?_
           refine E_s0 16 rfl (st_field rfl fld54_3) ?_
           refine E_out ?_
           refine D_all [17] (by kernel_rfl) rfl ?_
           refine R_do (Base.Le.refl _) rfl rfl (u_store 2 rfl rfl siz37 rfl rfl (by simp)) ?_ ?_
           ·
            rintro _ _ rfl
            refine ⟨.inl (by kernel_rfl), ?_⟩
            refine E_il (Base.Le.refl _) ?_
            refine E_s0 18 rfl (st_nil rfl) ?_
            refine E_s0 19 rfl (st_field rfl fld54_4) ?_
            refine E_out ?_
            refine D_all [20] (by kernel_rfl) rfl ?_
            refine R_do (Base.Le.refl _) rfl rfl (u_store 2 rfl rfl siz52 rfl rfl (by simp)) ?_ ?_
            ·
             rintro _ _ rfl
             refine ⟨.inl (by kernel_rfl), ?_⟩
             refine D_done (by kernel_rfl) ?_
             obtain ⟨rfl, rfl, rfl⟩ := some3 hm
             refine x_pullb 2 rfl ?_
             refine x_pullb 4 rfl ?_
             refine x_pullb 4 rfl ?_
             refine x_front2 [_, _, _, _, _] hs354 hs348 R rfl ?_
             exact x_join (e' := [(8, .pointer (some ⟨g204, 0, none⟩)), (11, .pointer (some ⟨g258, 0, none⟩))]) ⟨rfl, rfl, trivial⟩ (.cons_cons _ (.cons_cons _ (.cons_cons _ (.cons _ (.cons _ (.refl _)))))) ⟨A255, c256, A350, c351, hs348, A356, c357, hs354, rfl, rfl, hle331, h333, h349, (OS.nz h349 (by simp)), h355, (OS.nz h355 (by simp))⟩
            exact R_nil
           exact R_nil
          exact R_nil
         exact R_nil
        refine R_do (Base.Le.refl _) rfl rfl (u_bslice (el := 4) [(0, .bool (false))] [.bool (false)] rfl (fun _ => by kernel_rfl)) ?_ ?_
        ·
         rintro _ _ ⟨g352, rfl, rfl⟩
         refine ⟨.inr (.cons _ (.cons _ (.cons_cons _ (.cons_cons _ (.cons_cons _ (sub_skip hs2 (sub_skip hs7 (.refl _)))))))), ?_⟩
         refine D_all [8] (by kernel_rfl) rfl ?_
         refine R_do (Base.Le.refl _) rfl rfl (u_appOS (r := rFareBooking) (l := l18) [_, _, _, _, _] (hs7 ++ R) [[.int .i64 ((l18.length : Int)), .int .i64 (x12), .int .i64 (x13), .slice A255 (l259).length c256]] [(⟨(l18.length : Int), x12, x13, l259⟩ : FareBooking)] rfl (by decide) sl37 inf32 rfl rfl rfl rfl (h5.le (hle211.trans (hle225.trans (hle252.trans hle331)))) rfl (fun w ho => Rd.own (i := 1) ho rfl) ⟨⟨[.int .i64 ((l18.length : Int))], _, rfl, rfl, ⟨[.int .i64 (x12)], _, rfl, rfl, ⟨[.int .i64 (x13)], _, rfl, rfl, (RT.list_mk h333)⟩⟩⟩, trivial⟩ h347) ?_ ?_
         ·
          rintro _ _ ⟨hs348, rfl, h349⟩
          obtain ⟨A350, c351, rfl, _⟩ := h349.form
          refine ⟨.inr (.cons _ (.cons _ (.cons_cons _ (.cons_cons _ (.cons_cons _ (sub_skip hs348 (sub_skip hs7 (.refl _)))))))), ?_⟩
          have h353 := room_some h353
          refine d_front2 [_, _, _, _, _] hs348 hs7 R rfl ?_
          refine D_all [14] (by kernel_rfl) rfl ?_
          refine R_do (Base.Le.refl _) rfl rfl (u_appOS (r := RT.bool) (l := l20) [_, _, _, _, _] (hs348 ++ R) [[.bool (false)]] [false] rfl (by decide) sl52 inf4 rfl rfl rfl rfl (h10.le (hle211.trans (hle225.trans (hle252.trans hle331)))) rfl (fun w ho => Rd.own (i := 0) ho rfl) ⟨rfl, trivial⟩ h353) ?_ ?_
          ·
           rintro _ _ ⟨hs354, rfl, h355⟩
           obtain ⟨A356, c357, rfl, _⟩ := h355.form
           refine ⟨.inr (.cons _ (.cons _ (.cons_cons _ (.cons_cons _ (.cons_cons _ (sub_skip hs354 (sub_skip hs348 (.refl _)))))))), ?_⟩
           refine E_in (Base.Le.refl _) (.cons _ (.cons _ (.cons_cons _ (.cons_cons _ (.cons_cons _ (sub_skip hs354 (sub_skip hs348 (.refl _)))))))) ?_
           refine E_s0 15 rfl (st_nil rfl) ?_
           refine E_s0 16 rfl (st_field rfl fld54_3) ?_
           refine E_out ?_
           refine D_all [17] (by kernel_rfl) rfl ?_
           refine R_do (Base.Le.refl _) rfl rfl (u_store 2 rfl rfl siz37 rfl rfl (by simp)) ?_ ?_
           ·
            rintro _ _ rfl
            refine ⟨.inl (by kernel_rfl), ?_⟩
            refine E_il (Base.Le.refl _) ?_
            refine E_s0 18 rfl (st_nil rfl) ?_
            refine E_s0 19 rfl (st_field rfl fld54_4) ?_
            refine E_out ?_
            refine D_all [20] (by kernel_rfl) rfl ?_
            refine R_do (Base.Le.refl _) rfl rfl (u_store 2 rfl rfl siz52 rfl rfl (by simp)) ?_ ?_
            ·
             rintro _ _ rfl
             refine ⟨.inl (by kernel_rfl), ?_⟩
             refine D_done (by kernel_rfl) ?_
             obtain ⟨rfl, rfl, rfl⟩ := some3 hm
             refine x_pullb 2 rfl ?_
             refine x_pullb 4 rfl ?_
             refine x_pullb 4 rfl ?_
             refine x_front2 [_, _, _, _, _] hs354 hs348 R rfl ?_
             exact x_join (e' := [(8, .pointer (some ⟨g204, 0, none⟩)), (11, .pointer (some ⟨g258, 0, none⟩))]) ⟨rfl, rfl, trivial⟩ (.cons_cons _ (.cons_cons _ (.cons_cons _ (.cons _ (.cons _ (.refl _)))))) ⟨A255, c256, A350, c351, hs348, A356, c357, hs354, rfl, rfl, hle331, h333, h349, (OS.nz h349 (by simp)), h355, (OS.nz h355 (by simp))⟩
            exact R_nil
           exact R_nil
          exact R_nil
         exact R_nil
        exact R_nil
       refine R_do (Base.Le.refl _) rfl rfl (u_bslice (el := 4) [(0, .bool (false))] [.bool (false)] rfl (fun _ => by kernel_rfl)) ?_ ?_
       ·
        rintro _ _ ⟨g352, rfl, rfl⟩
        refine ⟨.inr (.cons _ (.cons_cons _ (.cons_cons _ (.cons_cons _ (sub_skip hs2 (sub_skip hs7 (.refl _))))))), ?_⟩
        refine D_all [7] (by kernel_rfl) rfl ?_
        refine R_do (Base.Le.refl _) rfl rfl (u_bslice (el := 32) [(0, .agg #[.int .i64 ((l18.length : Int)), .int .i64 (x12), .int .i64 (x13), .slice A255 (l259).length c256])] [.int .i64 ((l18.length : Int)), .int .i64 (x12), .int .i64 (x13), .slice A255 (l259).length c256] rfl (fun _ => by kernel_rfl)) ?_ ?_
        ·
         rintro _ _ ⟨g346, rfl, rfl⟩
         refine ⟨.inr (.cons _ (.cons _ (.cons_cons _ (.cons_cons _ (.cons_cons _ (sub_skip hs2 (sub_skip hs7 (.refl _)))))))), ?_⟩
         have h347 := room_some h347
         refine D_all [8] (by kernel_rfl) rfl ?_
         refine R_do (Base.Le.refl _) rfl rfl (u_appOS (r := rFareBooking) (l := l18) [_, _, _, _, _] (hs7 ++ R) [[.int .i64 ((l18.length : Int)), .int .i64 (x12), .int .i64 (x13), .slice A255 (l259).length c256]] [(⟨(l18.length : Int), x12, x13, l259⟩ : FareBooking)] rfl (by decide) sl37 inf32 rfl rfl rfl rfl (h5.le (hle211.trans (hle225.trans (hle252.trans hle331)))) rfl (fun w ho => Rd.own (i := 0) ho rfl) ⟨⟨[.int .i64 ((l18.length : Int))], _, rfl, rfl, ⟨[.int .i64 (x12)], _, rfl, rfl, ⟨[.int .i64 (x13)], _, rfl, rfl, (RT.list_mk h333)⟩⟩⟩, trivial⟩ h347) ?_ ?_
         ·
          rintro _ _ ⟨hs348, rfl, h349⟩
          obtain ⟨A350, c351, rfl, _⟩ := h349.form
          refine ⟨.inr (.cons _ (.cons _ (.cons_cons _ (.cons_cons _ (.cons_cons _ (sub_skip hs348 (sub_skip hs7 (.refl _)))))))), ?_⟩
          have h353 := room_some h353
          refine d_front2 [_, _, _, _, _] hs348 hs7 R rfl ?_
          refine D_all [14] (by kernel_rfl) rfl ?_
          refine R_do (Base.Le.refl _) rfl rfl (u_appOS (r := RT.bool) (l := l20) [_, _, _, _, _] (hs348 ++ R) [[.bool (false)]] [false] rfl (by decide) sl52 inf4 rfl rfl rfl rfl (h10.le (hle211.trans (hle225.trans (hle252.trans hle331)))) rfl (fun w ho => Rd.own (i := 1) ho rfl) ⟨rfl, trivial⟩ h353) ?_ ?_
          ·
           rintro _ _ ⟨hs354, rfl, h355⟩
           obtain ⟨A356, c357, rfl, _⟩ := h355.form
           refine ⟨.inr (.cons _ (.cons _ (.cons_cons _ (.cons_cons _ (.cons_cons _ (sub_skip hs354 (sub_skip hs348 (.refl _)))))))), ?_⟩
           refine E_in (Base.Le.refl _) (.cons _ (.cons _ (.cons_cons _ (.cons_cons _ (.cons_cons _ (sub_skip hs354 (sub_skip hs348 (.refl _)))))))) ?_
           refine E_s0 15 rfl (st_nil rfl) ?_
           refine E_s0 16 rfl (st_field rfl fld54_3) ?_
           refine E_out ?_
           refine D_all [17] (by kernel_rfl) rfl ?_
           refine R_do (Base.Le.refl _) rfl rfl (u_store 2 rfl rfl siz37 rfl rfl (by simp)) ?_ ?_
           ·
            rintro _ _ rfl
            refine ⟨.inl (by kernel_rfl), ?_⟩
            refine E_il (Base.Le.refl _) ?_
            refine E_s0 18 rfl (st_nil rfl) ?_
            refine E_s0 19 rfl (st_field rfl fld54_4) ?_
            refine E_out ?_
            refine D_all [20] (by kernel_rfl) rfl ?_
            refine R_do (Base.Le.refl _) rfl rfl (u_store 2 rfl rfl siz52 rfl rfl (by simp)) ?_ ?_
            ·
             rintro _ _ rfl
             refine ⟨.inl (by kernel_rfl), ?_⟩
             refine D_done (by kernel_rfl) ?_
             obtain ⟨rfl, rfl, rfl⟩ := some3 hm
             refine x_pullb 2 rfl ?_
             refine x_pullb 4 rfl ?_
             refine x_pullb 4 rfl ?_
             refine x_front2 [_, _, _, _, _] hs354 hs348 R rfl ?_
             exact x_join (e' := [(8, .pointer (some ⟨g204, 0, none⟩)), (11, .pointer (some ⟨g258, 0, none⟩))]) ⟨rfl, rfl, trivial⟩ (.cons_cons _ (.cons_cons _ (.cons_cons _ (.cons _ (.cons _ (.refl _)))))) ⟨A255, c256, A350, c351, hs348, A356, c357, hs354, rfl, rfl, hle331, h333, h349, (OS.nz h349 (by simp)), h355, (OS.nz h355 (by simp))⟩
            exact R_nil
           exact R_nil
          exact R_nil
         exact R_nil
        exact R_nil
       exact R_nil
      ·
       rintro b308 _ _ ⟨A320, c321, A312, c313, hs311, A317, c318, hs316, rfl, rfl, hle309, h322, h314, hnz325, h319, hnz327⟩
       have hm := (unc3E hk328)
       refine c_sr ?_
       refine t_st rfl (st_field rfl fld32_3) ?_
       refine t_st rfl (st_load 1 rfl one22 rfl rfl) ?_
       obtain ⟨l358, hcl359, hm⟩ := bindS hm
       refine t_callG _ rfl call21 rfl (cSlicesClone _ _ l323 A320 c321 h322 l358 hcl359) ?_
       rintro _ b360 _ hle361 ⟨A362, c363, hs364, rfl, rfl, h365⟩
       refine t_in1 [] [_, _, _] hs364 (hs311 ++ (hs316 ++ R)) rfl ?_
       refine t_st rfl (st_field rfl fld32_3) ?_
       refine t_do rfl (u_store 1 rfl rfl siz22 rfl rfl (by simp)) ?_
       rintro _ _ rfl
       refine t_ne ?_
       refine c_sr ?_
       refine t_st rfl (st_loadD (vs := [_, _, _, _]) 1 4 rfl agg32 rfl rfl rfl) ?_
       refine t_do rfl (u_storeN (vs := [_, _, _, _]) 0 4 rfl rfl rfl siz32 rfl (mem_c rfl (mem_c rfl (mem_c rfl (mem_c rfl mem_n)))) rfl (by simp)) ?_
       rintro _ _ rfl
       refine t_as rfl rfl ?_
       refine t_ne ?_
       refine c_ret ?_
       obtain ⟨rfl, rfl, rfl, rfl, rfl, rfl, rfl⟩ := some7 hm
       refine x_pullb 2 rfl ?_
       refine x_front3 [_, _, _] hs364 hs311 hs316 R rfl ?_
       refine x_front3 [_, _, _] hs316 hs364 hs311 R rfl ?_
       refine x_front3 [_, _, _] hs311 hs316 hs364 R rfl ?_
       have he366 := (h314.le hle361)
       have he367 := (h319.le hle361)
       exact retM (rs := [.cell 8 32, .tmp 9]) [.agg #[.int .i64 ((l18.length : Int)), .int .i64 (x12), .int .i64 (x13), .slice A362 (l358).length c363], .int .i64 (0)] (hle211.trans (hle225.trans (hle252.trans (hle309.trans hle361)))) (by decide) rfl ⟨⟨_, rfl, fun w ho => cell_agg (vs := [_, _, _, _]) 1 4 agg32 rfl rfl rfl w ho⟩, ⟨rfl, trivial⟩⟩ rfl (.cons_cons _ (.cons _ (.cons _ (.refl _)))) ⟨A362, c363, hs364, A312, c313, hs311, A317, c318, hs316, rfl, rfl, h365, he366, hnz325, he367, hnz327⟩

set_option maxRecDepth 20000 in
theorem cFareCarBookings (b : Base) (R : Hp) (x12 : Int) (x13 : Int) (x14 : Int) (l15 : (List FareBooking)) (l17 : (List Bool)) (g11 : Nat) (A3 : Option Addr) (c4 : Nat) (hs2 : Hp) (A8 : Option Addr) (c9 : Nat) (hs7 : Hp) (h5 : OS 32 (OT.fr rFareBooking) b.w (.slice A3 l15.length c4) l15 hs2) (hnz16 : (A3 = none ↔ l15 = [])) (h10 : OS 4 (OT.fr RT.bool) b.w (.slice A8 l17.length c9) l17 hs7) (hnz18 : (A8 = none ↔ l17 = [])) (l209 : (List FareBooking)) (hm : mFareCarBookings x12 x13 x14 l15 l17 = some l209) :
    CallsG Tryz.prog 11 [.pointer (some ⟨g11, 0, none⟩)] b ((g11, Cl 54 [.int .i64 (x12), .int .i64 (x13), .int .i64 (x14), .slice A3 (l15).length c4, .slice A8 (l17).length c9]) :: (hs2 ++ (hs7 ++ R))) (fun v b' hp' => ∃ (A206 : Option Addr), ∃ (c207 : Nat), ∃ (hs205 : Hp), .slice A206 (l209).length c207 = v ∧ (g11, Cl 54 [.int .i64 (x12), .int .i64 (x13), .int .i64 (x14), .slice A3 (l15).length c4, .slice A8 (l17).length c9]) :: (hs205 ++ (hs2 ++ (hs7 ++ R))) = hp' ∧ OS 32 (OT.fr rFareBooking) b'.w (.slice A206 l209.length c207) l209 hs205) := by
  refine fn_enterG 34 Tryz.func11 rfl Tryz.ntmps11 rfl ?_
  unfold mFareCarBookings at hm
  refine c_sr ?_
  refine t_as rfl rfl ?_
  refine t_ne ?_
  refine c_sr ?_
  refine t_as rfl rfl ?_
  refine t_ne ?_
  refine c_seq ?_
  refine c_sr ?_
  refine t_mv rfl rfl ?_
  refine t_st rfl (st_nil rfl) ?_
  refine t_st rfl (st_field rfl fld54_3) ?_
  refine t_st rfl (st_load 0 rfl one37 rfl rfl) ?_
  refine t_st rfl (st_len rfl sl37) ?_
  refine t_mv rfl rfl ?_
  refine t_ne ?_
  refine c_block ?_
  have hb211 : l15.length ≤ 9223372036854775807 := (OS.len h5)
  refine c_front2 [_] hs2 hs7 R rfl ?_
  refine c_front2 [_] hs7 hs2 R rfl ?_
  obtain ⟨l336, hl338, hk339⟩ := bindS hm
  refine c_forS (fun k337 => fun l336 => fun b329 e' hp' => ∃ (A333 : Option Addr), ∃ (c334 : Nat), ∃ (hs332 : Hp), [(0, .pointer (some ⟨g11, 0, none⟩)), (3, .slice A333 (l336).length c334), (9, .slice A3 (l15).length c4), (10, .int .i64 ((l15.length : Int))), (11, .int .i64 ((k337 : Int)))] = e' ∧ (g11, Cl 54 [.int .i64 (x12), .int .i64 (x13), .int .i64 (x14), .slice A3 (l15).length c4, .slice A8 (l17).length c9]) :: (hs332 ++ (hs2 ++ (hs7 ++ R))) = hp' ∧ b.Le b329 ∧ OS 32 (OT.fr rFareBooking) b329.w (.slice A333 l336.length c334) l336 hs332) hl338 (e' := [(0, .pointer (some ⟨g11, 0, none⟩)), (3, .slice none 0 0), (9, .slice A3 (l15).length c4), (10, .int .i64 ((l15.length : Int))), (11, .int .i64 0)]) ⟨rfl, rfl, rfl, rfl, rfl, trivial⟩ (.refl _) ⟨none, 0, [], rfl, rfl, (Base.Le.refl _), OS.nil⟩ ?_ ?_
  ·
   rintro k337 l336 b329 _ _ oL210 hknL210 ⟨A333, c334, hs332, rfl, rfl, hle330, h335⟩ hstepL210
   unfold mFareCarBookings_L210 at hstepL210
   have hm := hstepL210
   refine c_sr ?_
   refine t_st rfl (st_lss_t rfl rfl (by omega)) ?_
   refine t_ne ?_
   refine c_seq ?_
   refine c_cond_t rfl ?_
   refine c_skip ?_
   refine x_then_normal ?_
   refine c_seq ?_
   refine c_block ?_
   refine c_sr ?_
   refine t_mv rfl rfl ?_
   obtain ⟨x340, h341, hm⟩ := bindS hm
   obtain ⟨j342, hj343, hx344⟩ := idx_some h341
   obtain ⟨cs345, hs350, P351, P352, hq353, hr346, hcs347, hA348, hlt349, hb354, hho355⟩ := OS.get (sz := 4) rfl (by decide) (h5.le hle330) hx344
   obtain ⟨⟨_, _, rfl, rfl, ⟨_, _, rfl, rfl, ⟨_, _, rfl, rfl, ⟨A356, c357, rfl, h358⟩⟩⟩⟩, rfl⟩ := hr346
   refine t_st rfl (st_index_old j342 rfl rfl hj343 hlt349 hA348 sl37) ?_
   refine t_st rfl (st_loadN_rd (vs := [.int .i64 (x340.No), .int .i64 (x340.From), .int .i64 (x340.To), .slice A356 (x340.Seats).length c357]) 4 rfl agg32 hA348 rfl (fun w ho j u hu => hcs347 w _ ho (.cons _ (sub_skip hs332 (List.sublist_append_left _ _))) j u hu)) ?_
   refine t_do rfl (u_alloc [.int .i64 0, .int .i64 0, .int .i64 0, .slice none 0 0] zero32 rfl) ?_
   rintro _ _ ⟨g359, rfl, rfl⟩
   refine t_as rfl rfl ?_
   refine t_do rfl (u_storeN (vs := [_, _, _, _]) 0 4 rfl rfl rfl siz32 rfl (mem_c rfl (mem_c rfl (mem_c rfl (mem_c rfl mem_n)))) rfl (by simp)) ?_
   rintro _ _ rfl
   refine t_ne ?_
   refine c_sr ?_
   refine t_mv rfl rfl ?_
   refine t_st rfl (st_nil rfl) ?_
   refine t_st rfl (st_field rfl fld54_4) ?_
   refine t_st rfl (st_load 1 rfl one52 rfl rfl) ?_
   refine t_mv rfl rfl ?_
   obtain ⟨x360, h361, hm⟩ := bindS hm
   obtain ⟨j362, hj363, hx364⟩ := idx_some h361
   obtain ⟨cs365, hs370, P371, P372, hq373, hr366, hcs367, hA368, hlt369, hb374, hho375⟩ := OS.get (sz := 1) rfl (by decide) (h10.le hle330) hx364
   obtain ⟨rfl, rfl⟩ := hr366
   refine t_st rfl (st_index_old j362 rfl rfl hj363 hlt369 hA368 sl52) ?_
   refine t_st rfl (st_load_rd rfl one4 (fun w ho => hcs367 w _ ho (.cons _ (.cons _ (sub_skip hs332 (sub_skip hs2 (List.sublist_append_left _ _))))) 0 _ rfl)) ?_
   refine t_st rfl (st_not rfl) ?_
   refine t_ne ?_
   refine c_cond _ rfl (fun hc376 => ?_) (fun hc376 => ?_)
   ·
    rw [if_neg (fun hh => Bool.noConfusion (hh.symm.trans (notT hc376)))] at hm
    refine c_sr ?_
    refine t_st rfl (st_field rfl fld32_3) ?_
    refine t_st rfl (st_load 0 rfl one22 rfl rfl) ?_
    obtain ⟨l377, hcl378, hm⟩ := bindS hm
    refine t_callG _ rfl call21 rfl (cSlicesClone _ _ x340.Seats A356 c357 h358 l377 hcl378) ?_
    rintro _ b379 _ hle380 ⟨A381, c382, hs383, rfl, rfl, h384⟩
    refine t_in1 [] [_, _] hs383 (hs332 ++ (hs2 ++ (hs7 ++ R))) rfl ?_
    refine t_st rfl (st_field rfl fld32_3) ?_
    refine t_do rfl (u_store 0 rfl rfl siz22 rfl rfl (by simp)) ?_
    rintro _ _ rfl
    refine t_ne ?_
    refine c_region ?_
    refine t_mv rfl rfl ?_
    refine t_st rfl (st_loadD (vs := [_, _, _, _]) 0 4 rfl agg32 rfl rfl rfl) ?_
    refine t_frz [_, _] hs383 (hs332 ++ (hs2 ++ (hs7 ++ R))) rfl ?_
    intro b386 hle387 hz388
    have h389 := OS.frz (l := l377) h384 hle387.cells hz388
    refine t_do rfl (u_bslice (el := 32) [(0, .agg #[.int .i64 (x340.No), .int .i64 (x340.From), .int .i64 (x340.To), .slice A381 (l377).length c382])] [.int .i64 (x340.No), .int .i64 (x340.From), .int .i64 (x340.To), .slice A381 (l377).length c382] rfl (fun _ => by kernel_rfl)) ?_
    rintro _ _ ⟨g385, rfl, rfl⟩
    obtain ⟨_, h390, hm⟩ := bindS hm
    have h390 := room_some h390
    refine t_do rfl (u_appOS (r := rFareBooking) (l := l336) [_, _, _] (hs2 ++ (hs7 ++ R)) [[.int .i64 (x340.No), .int .i64 (x340.From), .int .i64 (x340.To), .slice A381 (l377).length c382]] [(⟨x340.No, x340.From, x340.To, l377⟩ : FareBooking)] rfl (by decide) sl37 inf32 rfl rfl rfl rfl (h335.le (hle380.trans hle387)) rfl (fun w ho => Rd.own (i := 0) ho rfl) ⟨⟨[.int .i64 (x340.No)], _, rfl, rfl, ⟨[.int .i64 (x340.From)], _, rfl, rfl, ⟨[.int .i64 (x340.To)], _, rfl, rfl, (RT.list_mk h389)⟩⟩⟩, trivial⟩ h390) ?_
    rintro _ _ ⟨hs391, rfl, h392⟩
    obtain ⟨A393, c394, rfl, _⟩ := h392.form
    refine t_as rfl rfl ?_
    refine t_nil ?_
    refine x_block_normal ?_
    refine x_then_normal ?_
    refine c_region ?_
    refine t_st rfl (st_add rfl rfl (by omega)) ?_
    refine t_mv rfl rfl ?_
    refine t_nil ?_
    refine x_pullb 2 rfl ?_
    refine x_front3 [_, _, _] hs391 hs2 hs7 R rfl ?_
    refine x_front3 [_, _, _] hs7 hs391 hs2 R rfl ?_
    refine x_front3 [_, _, _] hs2 hs7 hs391 R rfl ?_
    obtain rfl := some1 hm
    exact x_againS (e' := [(0, .pointer (some ⟨g11, 0, none⟩)), (3, .slice A393 (l336 ++ [(⟨x340.No, x340.From, x340.To, l377⟩ : FareBooking)]).length c394), (9, .slice A3 (l15).length c4), (10, .int .i64 ((l15.length : Int))), (11, .int .i64 ((k337 : Int) + 1))]) ⟨rfl, rfl, rfl, rfl, rfl, trivial⟩ (.cons_cons _ (.cons _ (.cons _ (.refl _)))) ⟨A393, c394, hs391, rfl, rfl, ((hle330.trans (hle380.trans hle387))), h392⟩
   ·
    rw [if_pos (notF hc376)] at hm
    refine c_skip ?_
    refine x_block_normal ?_
    refine x_then_normal ?_
    refine c_region ?_
    refine t_st rfl (st_add rfl rfl (by omega)) ?_
    refine t_mv rfl rfl ?_
    refine t_nil ?_
    refine x_pullb 1 rfl ?_
    refine x_front3 [_, _] hs332 hs2 hs7 R rfl ?_
    refine x_front3 [_, _] hs7 hs332 hs2 R rfl ?_
    refine x_front3 [_, _] hs2 hs7 hs332 R rfl ?_
    obtain rfl := some1 hm
    exact x_againS (e' := [(0, .pointer (some ⟨g11, 0, none⟩)), (3, .slice A333 (l336).length c334), (9, .slice A3 (l15).length c4), (10, .int .i64 ((l15.length : Int))), (11, .int .i64 ((k337 : Int) + 1))]) ⟨rfl, rfl, rfl, rfl, rfl, trivial⟩ (.cons_cons _ (.cons _ (.refl _))) ⟨A333, c334, hs332, rfl, rfl, (hle330), h335⟩
  ·
   rintro b329 _ _ ⟨A333, c334, hs332, rfl, rfl, hle330, h335⟩
   have hm := hk339
   refine c_sr ?_
   refine t_st rfl (st_lss_f rfl rfl (by omega)) ?_
   refine t_ne ?_
   refine c_seq ?_
   refine c_cond_f rfl ?_
   refine c_exit ?_
   refine x_then_exit ?_
   refine x_then_exit ?_
   refine x_block_out ?_
   refine x_then_normal ?_
   refine c_sr ?_
   refine t_mv rfl rfl ?_
   refine t_as rfl rfl ?_
   refine t_ne ?_
   refine c_ret ?_
   obtain rfl := some1 hm
   refine x_front3 [_] hs332 hs2 hs7 R rfl ?_
   refine x_front3 [_] hs7 hs332 hs2 R rfl ?_
   refine x_front3 [_] hs2 hs7 hs332 R rfl ?_
   exact retM (rs := [.tmp 2]) [.slice A333 (l336).length c334] hle330 (by decide) rfl ⟨rfl, trivial⟩ rfl (.refl _) ⟨A333, c334, hs332, rfl, rfl, h335⟩

set_option maxRecDepth 20000 in
theorem cFishkeep2FareOnce_1 (b : Base) (R : Hp) (x2 : Int) (x3 : Int) (x4 : Int) (x5 : Int) (l9 : (List Int)) (g1 : Nat) (A6 : Option Addr) (c7 : Nat) (h8 : FZ (RT.int .i64) b.w A6 c7 l9) (x12 : Bool) (hm : mFishkeep2FareOnce_1 x2 x3 x4 x5 l9 = some x12) :
    CallsG Tryz.prog 13 [.int .i64 (x2), .pointer (some ⟨g1, 0, none⟩)] b ((g1, Cl 32 [.int .i64 (x3), .int .i64 (x4), .int .i64 (x5), .slice A6 (l9).length c7]) :: R) (fun v b' hp' => .bool (x12) = v ∧ (g1, Cl 32 [.int .i64 (x3), .int .i64 (x4), .int .i64 (x5), .slice A6 (l9).length c7]) :: R = hp') := by
  refine fn_enterG 8 Tryz.func13 rfl Tryz.ntmps13 rfl ?_
  unfold mFishkeep2FareOnce_1 at hm
  refine c_sr ?_
  refine t_as rfl rfl ?_
  refine t_ne ?_
  refine c_sr ?_
  refine t_st rfl (st_field rfl fld32_3) ?_
  refine t_st rfl (st_load 0 rfl one22 rfl rfl) ?_
  refine t_mv rfl rfl ?_
  obtain ⟨x13, hcl14, hm⟩ := bindS hm
  refine t_do rfl (u_callW0 _ call10 rfl (fun w ho => cSlicesContains _ [] l9 x2 A6 c7 (h8.old ho) x13 hcl14) (fun _ _ _ h => h.2.symm)) ?_
  rintro _ _ ⟨⟨_, rfl, _⟩, rfl⟩
  refine t_as rfl rfl ?_
  refine t_ne ?_
  refine c_ret ?_
  obtain rfl := some1 hm
  exact retM (rs := [.tmp 3]) [.bool (x13)] (Base.Le.refl _) (by decide) rfl ⟨rfl, trivial⟩ rfl (.refl _) ⟨rfl, rfl⟩

set_option maxRecDepth 20000 in
theorem cSlicesIndexFunc_5 (b : Base) (R : Hp) (l5 : (List Int)) (x6 : Int) (x7 : Int) (x8 : Int) (l12 : (List Int)) (g1 : Nat) (A2 : Option Addr) (c3 : Nat) (A9 : Option Addr) (c10 : Nat) (h4 : FZ (RT.int .i64) b.w A2 c3 l5) (h11 : FZ (RT.int .i64) b.w A9 c10 l12) (x53 : Int) (hm : mSlicesIndexFunc_5 l5 x6 x7 x8 l12 = some x53) :
    CallsG Tryz.prog 23 [.slice A2 (l5).length c3, .func (.func 13) #[] #[.pointer (some ⟨g1, 0, none⟩)]] b ((g1, Cl 32 [.int .i64 (x6), .int .i64 (x7), .int .i64 (x8), .slice A9 (l12).length c10]) :: R) (fun v b' hp' => .int .i64 (x53) = v ∧ (g1, Cl 32 [.int .i64 (x6), .int .i64 (x7), .int .i64 (x8), .slice A9 (l12).length c10]) :: R = hp') := by
  refine fn_enterG 19 Tryz.func23 rfl Tryz.ntmps23 rfl ?_
  unfold mSlicesIndexFunc_5 at hm
  refine c_sr ?_
  refine t_as rfl rfl ?_
  refine t_ne ?_
  refine c_seq ?_
  refine c_sr ?_
  refine t_mv rfl rfl ?_
  refine t_st rfl (st_len rfl sl22) ?_
  refine t_mv rfl rfl ?_
  refine t_ne ?_
  refine c_block ?_
  have hb55 : l5.length ≤ 9223372036854775807 := (FZ.bd h4)
  obtain ⟨t74, hl75, hk76⟩ := bindS hm
  refine c_forM (fun k73 => fun _ => fun b71 e' hp' => [(0, .slice A2 (l5).length c3), (1, .func (.func 13) #[] #[.pointer (some ⟨g1, 0, none⟩)]), (7, .int .i64 ((l5.length : Int))), (8, .int .i64 ((k73 : Int)))] = e' ∧ (g1, Cl 32 [.int .i64 (x6), .int .i64 (x7), .int .i64 (x8), .slice A9 (l12).length c10]) :: R = hp' ∧ b.Le b71) hl75 (e' := [(0, .slice A2 (l5).length c3), (1, .func (.func 13) #[] #[.pointer (some ⟨g1, 0, none⟩)]), (7, .int .i64 ((l5.length : Int))), (8, .int .i64 0)]) ⟨rfl, rfl, rfl, rfl, trivial⟩ (.refl _) ⟨rfl, rfl, (Base.Le.refl _)⟩ ?_ ?_
  ·
   rintro k73 _ b71 _ _ oL54 hknL54 ⟨rfl, rfl, hle72⟩ hstepL54 houtL54
   unfold mSlicesIndexFunc_5_L54 at hstepL54
   have hm := hstepL54
   refine c_sr ?_
   refine t_st rfl (st_lss_t rfl rfl (by omega)) ?_
   refine t_ne ?_
   refine c_seq ?_
   refine c_cond_t rfl ?_
   refine c_skip ?_
   refine x_then_normal ?_
   refine c_seq ?_
   refine c_block ?_
   refine c_sr ?_
   refine t_mv rfl rfl ?_
   refine t_as rfl rfl ?_
   refine t_ne ?_
   refine c_sr ?_
   refine t_mv rfl rfl ?_
   refine t_mv rfl rfl ?_
   refine t_mv rfl rfl ?_
   obtain ⟨x77, h78, hm⟩ := bindS hm
   obtain ⟨j79, hj80, hx81⟩ := idx_some h78
   obtain ⟨cs82, hr83, hcs84, hA85, hlt86⟩ := FZ.get (sz := 1) rfl (by decide) (h4.le hle72) hx81
   obtain rfl := hr83
   refine t_st rfl (st_index_old j79 rfl rfl hj80 hlt86 hA85 sl22) ?_
   refine t_st rfl (st_load_old rfl one3 (hcs84 0 _ rfl)) ?_
   obtain ⟨x87, hcl88, hm⟩ := bindS hm
   refine t_callvG #[] #[.pointer (some ⟨g1, 0, none⟩)] [.int .i64 (x77)] rfl rfl call13 rfl (cFishkeep2FareOnce_1 _ _ x77 x6 x7 x8 l12 g1 A9 c10 (h11.le hle72) x87 hcl88) ?_
   rintro _ b89 _ hle90 ⟨rfl, rfl⟩
   refine t_ne ?_
   refine c_cond _ rfl (fun hc91 => ?_) (fun hc91 => ?_)
   ·
    rw [if_pos hc91] at hm
    refine c_sr ?_
    refine t_mv rfl rfl ?_
    refine t_as rfl rfl ?_
    refine t_ne ?_
    refine c_ret ?_
    refine x_block_ret ?_
    refine x_then_ret ?_
    refine x_then_ret ?_
    refine x_block_ret ?_
    refine x_then_ret ?_
    have hq92 := houtL54 _ (Option.some.inj hm).symm
    rw [hq92] at hk76
    have hm := elimR hk76
    obtain rfl := some1 hm
    exact retM (rs := [.tmp 4]) [.int .i64 ((k73 : Int))] (hle72.trans hle90) (by decide) rfl ⟨rfl, trivial⟩ rfl (.refl _) ⟨rfl, rfl⟩
   ·
    rw [if_neg (fun hh => Bool.noConfusion (hh.symm.trans hc91))] at hm
    refine c_skip ?_
    refine x_block_normal ?_
    refine x_then_normal ?_
    refine c_region ?_
    refine t_st rfl (st_add rfl rfl (by omega)) ?_
    refine t_mv rfl rfl ?_
    refine t_nil ?_
    exact x_againM () (Option.some.inj hm).symm (e' := [(0, .slice A2 (l5).length c3), (1, .func (.func 13) #[] #[.pointer (some ⟨g1, 0, none⟩)]), (7, .int .i64 ((l5.length : Int))), (8, .int .i64 ((k73 : Int) + 1))]) ⟨rfl, rfl, rfl, rfl, trivial⟩ (.refl _) ⟨rfl, rfl, ((hle72.trans hle90))⟩
  ·
   rintro _ b71 _ _ ⟨rfl, rfl, hle72⟩ hq93
   rw [hq93] at hk76
   have hm := elimL hk76
   refine c_sr ?_
   refine t_st rfl (st_lss_f rfl rfl (by omega)) ?_
   refine t_ne ?_
   refine c_seq ?_
   refine c_cond_f rfl ?_
   refine c_exit ?_
   refine x_then_exit ?_
   refine x_then_exit ?_
   refine x_block_out ?_
   refine x_then_normal ?_
   refine c_sr ?_
   refine t_as rfl rfl ?_
   refine t_ne ?_
   refine c_ret ?_
   obtain rfl := some1 hm
   exact retM (rs := [.tmp 4]) [.int .i64 ((-1))] hle72 (by decide) rfl ⟨rfl, trivial⟩ rfl (.refl _) ⟨rfl, rfl⟩

set_option maxRecDepth 20000 in
theorem cSlicesContainsFunc_4 (b : Base) (R : Hp) (l5 : (List Int)) (x6 : Int) (x7 : Int) (x8 : Int) (l12 : (List Int)) (g1 : Nat) (A2 : Option Addr) (c3 : Nat) (A9 : Option Addr) (c10 : Nat) (h4 : FZ (RT.int .i64) b.w A2 c3 l5) (h11 : FZ (RT.int .i64) b.w A9 c10 l12) (x17 : Bool) (hm : mSlicesContainsFunc_4 l5 x6 x7 x8 l12 = some x17) :
    CallsG Tryz.prog 12 [.slice A2 (l5).length c3, .func (.func 13) #[] #[.pointer (some ⟨g1, 0, none⟩)]] b ((g1, Cl 32 [.int .i64 (x6), .int .i64 (x7), .int .i64 (x8), .slice A9 (l12).length c10]) :: R) (fun v b' hp' => .bool (x17) = v ∧ (g1, Cl 32 [.int .i64 (x6), .int .i64 (x7), .int .i64 (x8), .slice A9 (l12).length c10]) :: R = hp') := by
  refine fn_enterG 9 Tryz.func12 rfl Tryz.ntmps12 rfl ?_
  unfold mSlicesContainsFunc_4 at hm
  refine c_sr ?_
  refine t_as rfl rfl ?_
  refine t_ne ?_
  refine c_sr ?_
  refine t_mv rfl rfl ?_
  refine t_mv rfl rfl ?_
  obtain ⟨x18, hcl19, hm⟩ := bindS hm
  refine t_callG _ rfl call23 rfl (cSlicesIndexFunc_5 _ _ l5 x6 x7 x8 l12 g1 A2 c3 A9 c10 h4 h11 x18 hcl19) ?_
  rintro _ b20 _ hle21 ⟨rfl, rfl⟩
  refine t_st rfl (st_geq rfl rfl) ?_
  refine t_as rfl rfl ?_
  refine t_ne ?_
  refine c_ret ?_
  obtain rfl := some1 hm
  exact retM (rs := [.tmp 4]) [.bool (decide (0 ≤ x18))] hle21 (by decide) rfl ⟨rfl, trivial⟩ rfl (.refl _) ⟨rfl, rfl⟩

set_option maxRecDepth 20000 in
theorem cFarePack_1 (b : Base) (R : Hp) (x2 : Int) (x3 : Int) (l7 : (List FareSpan)) (g1 : Nat) (A4 : Option Addr) (c5 : Nat) (h6 : FZ rFareSpan b.w A4 c5 l7) (x52 : Int) (hm : mFarePack_1 x2 x3 l7 = some x52) :
    CallsG Tryz.prog 25 [.int .i64 (x2), .int .i64 (x3), .pointer (some ⟨g1, 0, none⟩)] b ((g1, Cl 36 [.slice A4 (l7).length c5]) :: R) (fun v b' hp' => .int .i64 (x52) = v ∧ (g1, Cl 36 [.slice A4 (l7).length c5]) :: R = hp') := by
  refine fn_enterG 17 Tryz.func25 rfl Tryz.ntmps25 rfl ?_
  unfold mFarePack_1 at hm
  refine c_sr ?_
  refine t_as rfl rfl ?_
  refine t_ne ?_
  refine c_seq ?_
  obtain ⟨x75, h76, hm⟩ := bindS hm
  obtain ⟨x85, h86, hm⟩ := bindS hm
  obtain ⟨x95, hcl96, hm⟩ := bindS hm
  refine D_drawI mixed (.refl _) ?_
  refine E_st 0 rfl (st_load 0 rfl one36 rfl rfl) ?_
  refine E_s0 1 rfl (st_move rfl) ?_
  obtain ⟨j77, hj78, hx79⟩ := idx_some h76
  obtain ⟨cs80, hr81, hcs82, hA83, hlt84⟩ := FZ.get (sz := 2) rfl (by decide) h6 hx79
  obtain ⟨_, _, rfl, rfl, rfl⟩ := hr81
  refine E_s0 2 rfl (st_index_old j77 rfl rfl hj78 hlt84 hA83 sl36) ?_
  refine E_s0 3 rfl (st_field_old rfl hA83 fld42_0) ?_
  refine E_st 4 rfl (st_load_old rfl one3 (hcs82 0 _ rfl)) ?_
  refine E_st 5 rfl (st_load 0 rfl one36 rfl rfl) ?_
  refine E_s0 6 rfl (st_move rfl) ?_
  obtain ⟨j87, hj88, hx89⟩ := idx_some h86
  obtain ⟨cs90, hr91, hcs92, hA93, hlt94⟩ := FZ.get (sz := 2) rfl (by decide) h6 hx89
  obtain ⟨_, _, rfl, rfl, rfl⟩ := hr91
  refine E_s0 7 rfl (st_index_old j87 rfl rfl hj88 hlt94 hA93 sl36) ?_
  refine E_s0 8 rfl (st_field_old rfl hA93 fld42_0) ?_
  refine E_st 9 rfl (st_load_old rfl one3 (hcs92 0 _ rfl)) ?_
  refine E_out ?_
  refine D_all [10] (by kernel_rfl) rfl ?_
  refine R_do (Base.Le.refl _) rfl rfl (u_callW0 _ call26 rfl (fun w ho => cCmpCompare _ [] x75.From x85.From x95 hcl96) (fun _ _ _ h => h.2.symm)) ?_ ?_
  ·
   rintro _ _ ⟨⟨_, rfl, _⟩, rfl⟩
   refine ⟨.inr (.refl _), ?_⟩
   refine E_in (Base.Le.refl _) (.refl _) ?_
   refine E_s0 11 rfl (st_assign rfl) ?_
   refine E_out ?_
   refine D_done (by kernel_rfl) ?_
   refine x_then_normal ?_
   refine c_ret ?_
   obtain rfl := some1 hm
   exact retM (rs := [.tmp 5]) [.int .i64 (x95)] (Base.Le.refl _) (by decide) rfl ⟨rfl, trivial⟩ rfl (.refl _) ⟨rfl, rfl⟩
  exact R_nil

set_option maxRecDepth 20000 in
theorem cSlicesInsertionSortCmpFunc_2 (b : Base) (R : Hp) (x7 : Int) (x8 : Int) (l12 : (List FareSpan)) (l13 : (List Int)) (g6 : Nat) (A9 : Option Addr) (c10 : Nat) (A3 : Option Addr) (c4 : Nat) (hs2 : Hp) (h11 : FZ rFareSpan b.w A9 c10 l12) (h5 : OS 3 (OT.fr (RT.int .i64)) b.w (.slice A3 l13.length c4) l13 hs2) (l5517 : (List Int)) (hm : mSlicesInsertionSortCmpFunc_2 x7 x8 l12 l13 = some l5517) :
    CallsG Tryz.prog 58 [.slice A3 (l13).length c4, .int .i64 (x7), .int .i64 (x8), .func (.func 25) #[] #[.pointer (some ⟨g6, 0, none⟩)]] b ((g6, Cl 36 [.slice A9 (l12).length c10]) :: (hs2 ++ R)) (fun v b' hp' => ∃ (hs5515 : Hp), .tuple #[] = v ∧ (g6, Cl 36 [.slice A9 (l12).length c10]) :: (hs5515 ++ R) = hp' ∧ OS 3 (OT.fr (RT.int .i64)) b'.w (.slice A3 l5517.length c4) l5517 hs5515 ∧ l5517.length = l13.length) := by
  refine fn_enterG 53 Tryz.func58 rfl Tryz.ntmps58 rfl ?_
  unfold mSlicesInsertionSortCmpFunc_2 at hm
  refine c_sr ?_
  refine t_mv rfl rfl ?_
  obtain ⟨_, h5519, hm⟩ := bindS hm
  have h5519 := (chk_some h5519).2
  refine t_st rfl (st_add rfl rfl h5519) ?_
  refine t_as rfl rfl ?_
  refine t_ne ?_
  refine c_block ?_
  refine c_loopM (unc2 fun x9188 l9189 => fun b9183 e' hp' => ∃ (hs9186 : Hp), [(0, .slice A3 (l9189).length c4), (1, .int .i64 (x7)), (2, .int .i64 (x8)), (3, .func (.func 25) #[] #[.pointer (some ⟨g6, 0, none⟩)]), (8, .int .i64 (x9188))] = e' ∧ (g6, Cl 36 [.slice A9 (l12).length c10]) :: (hs9186 ++ R) = hp' ∧ b.Le b9183 ∧ OS 3 (OT.fr (RT.int .i64)) b9183.w (.slice A3 l9189.length c4) l9189 hs9186 ∧ l9189.length = l13.length) hm (e' := [(0, .slice A3 (l13).length c4), (1, .int .i64 (x7)), (2, .int .i64 (x8)), (3, .func (.func 25) #[] #[.pointer (some ⟨g6, 0, none⟩)]), (8, .int .i64 (x7 + 1))]) ⟨rfl, rfl, rfl, rfl, rfl, trivial⟩ (.refl _) ⟨hs2, rfl, rfl, (Base.Le.refl _), h5, rfl⟩ ?_
  rintro ⟨x9188, l9189⟩ b9183 _ _ oL5520 ⟨hs9186, rfl, rfl, hle9184, h9187, hln9190⟩ hstepL5520 houtL5520
  unfold mSlicesInsertionSortCmpFunc_2_L5520 at hstepL5520
  have hm := (unc2E hstepL5520)
  refine c_seq ?_
  refine c_sr ?_
  refine t_mv rfl rfl ?_
  refine t_mv rfl rfl ?_
  refine t_st rfl (st_lss rfl rfl) ?_
  refine t_ne ?_
  refine c_cond _ rfl (fun hc9191 => ?_) (fun hc9191 => ?_)
  ·
   rw [if_pos (of_decide_eq_true hc9191)] at hm
   refine c_skip ?_
   refine x_then_normal ?_
   obtain ⟨l10106, hj10108, hk10108⟩ := bindS hm
   refine c_join (fun b10101 e' hp' => ∃ (hs10104 : Hp), [(0, .slice A3 (l10106).length c4), (1, .int .i64 (x7)), (2, .int .i64 (x8)), (3, .func (.func 25) #[] #[.pointer (some ⟨g6, 0, none⟩)]), (8, .int .i64 (x9188))] = e' ∧ (g6, Cl 36 [.slice A9 (l12).length c10]) :: (hs10104 ++ R) = hp' ∧ b9183.Le b10101 ∧ OS 3 (OT.fr (RT.int .i64)) b10101.w (.slice A3 l10106.length c4) l10106 hs10104 ∧ l10106.length = l13.length) ?_ ?_
   ·
    have hm := hj10108
    refine c_block ?_
    refine c_sr ?_
    refine t_mv rfl rfl ?_
    refine t_as rfl rfl ?_
    refine t_ne ?_
    refine c_block ?_
    refine c_loopM (unc2 fun x10717 l10718 => fun b10712 e' hp' => ∃ (hs10715 : Hp), [(0, .slice A3 (l10718).length c4), (1, .int .i64 (x7)), (2, .int .i64 (x8)), (3, .func (.func 25) #[] #[.pointer (some ⟨g6, 0, none⟩)]), (8, .int .i64 (x9188)), (9, .int .i64 (x10717))] = e' ∧ (g6, Cl 36 [.slice A9 (l12).length c10]) :: (hs10715 ++ R) = hp' ∧ b9183.Le b10712 ∧ OS 3 (OT.fr (RT.int .i64)) b10712.w (.slice A3 l10718.length c4) l10718 hs10715 ∧ l10718.length = l13.length) hm (e' := [(0, .slice A3 (l9189).length c4), (1, .int .i64 (x7)), (2, .int .i64 (x8)), (3, .func (.func 25) #[] #[.pointer (some ⟨g6, 0, none⟩)]), (8, .int .i64 (x9188)), (9, .int .i64 (x9188))]) ⟨rfl, rfl, rfl, rfl, rfl, rfl, trivial⟩ (.refl _) ⟨hs9186, rfl, rfl, (Base.Le.refl _), h9187, hln9190⟩ ?_
    rintro ⟨x10717, l10718⟩ b10712 _ _ oL10109 ⟨hs10715, rfl, rfl, hle10713, h10716, hln10719⟩ hstepL10109 houtL10109
    unfold mSlicesInsertionSortCmpFunc_2_L10109 at hstepL10109
    have hm := (unc2E hstepL10109)
    refine c_seq ?_
    obtain ⟨x10798, hj10799, hk10799⟩ := bindS hm
    refine c_join (fun b10796 e' hp' => [(0, .slice A3 (l10718).length c4), (1, .int .i64 (x7)), (2, .int .i64 (x8)), (3, .func (.func 25) #[] #[.pointer (some ⟨g6, 0, none⟩)]), (8, .int .i64 (x9188)), (9, .int .i64 (x10717)), (34, .bool (x10798))] = e' ∧ (g6, Cl 36 [.slice A9 (l12).length c10]) :: (hs10715 ++ R) = hp' ∧ b10712.Le b10796) ?_ ?_
    ·
     have hm := hj10799
     by_cases hc10838 : x7 < x10717
     ·
      rw [if_pos hc10838] at hm
      obtain ⟨x10839, h10840, hm⟩ := bindS hm
      obtain ⟨_, h10855, hm⟩ := bindS hm
      obtain ⟨x10856, h10857, hm⟩ := bindS hm
      obtain ⟨x10872, hcl10873, hm⟩ := bindS hm
      refine D_drawI mixed (.cons _ (.refl _)) ?_
      refine E_s0 0 rfl (st_move rfl) ?_
      refine E_s0 1 rfl (st_move rfl) ?_
      refine E_s0 2 rfl (st_gtr_t rfl rfl hc10838) ?_
      refine E_s0 3 rfl (st_move rfl) ?_
      refine E_y0 4 21 rfl (st_move rfl) ?_
      refine E_y0 5 21 rfl (st_move rfl) ?_
      refine E_y0 6 21 rfl (st_move rfl) ?_
      obtain ⟨j10841, hj10842, hx10843⟩ := idx_some h10840
      obtain ⟨cs10844, hs10849, P10850, P10851, hq10852, hr10845, hcs10846, hA10847, hlt10848, hb10853, hho10854⟩ := OS.get (sz := 1) rfl (by decide) h10716 hx10843
      obtain ⟨rfl, rfl⟩ := hr10845
      refine E_y0 7 21 rfl (st_index_old j10841 rfl rfl hj10842 hlt10848 hA10847 sl22) ?_
      refine E_yes 8 21 rfl (st_load_rd rfl one3 (fun w ho => hcs10846 w _ ho (List.sublist_append_left _ _) 0 _ rfl)) ?_
      refine E_y0 9 21 rfl (st_move rfl) ?_
      refine E_y0 10 21 rfl (st_move rfl) ?_
      have h10855 := (chk_some h10855).2
      refine E_y0 11 21 rfl (st_sub rfl rfl h10855) ?_
      obtain ⟨j10858, hj10859, hx10860⟩ := idx_some h10857
      obtain ⟨cs10861, hs10866, P10867, P10868, hq10869, hr10862, hcs10863, hA10864, hlt10865, hb10870, hho10871⟩ := OS.get (sz := 1) rfl (by decide) h10716 hx10860
      obtain ⟨rfl, rfl⟩ := hr10862
      refine E_y0 12 21 rfl (st_index_old j10858 rfl rfl hj10859 hlt10865 hA10864 sl22) ?_
      refine E_yes 13 21 rfl (st_load_rd rfl one3 (fun w ho => hcs10863 w _ ho (List.sublist_append_left _ _) 0 _ rfl)) ?_
      refine E_out ?_
      refine D_all [14] (by kernel_rfl) rfl ?_
      refine R_callvGY (Base.Le.refl _) rfl rfl 21 rfl rfl rfl #[] #[.pointer (some ⟨g6, 0, none⟩)] [.int .i64 (x10839), .int .i64 (x10856)] rfl call25 rfl (cFarePack_1 _ _ x10839 x10856 l12 g6 A9 c10 (h11.le (hle9184.trans hle10713)) x10872 hcl10873) ?_ ?_
      ·
       rintro _ b10874 _ hle10875 ⟨rfl, rfl⟩
       refine ⟨.inr (.cons _ (.refl _)), ?_⟩
       refine E_in hle10875 (.cons _ (.refl _)) ?_
       refine E_y0 15 21 rfl (st_lss rfl rfl) ?_
       refine E_s0 16 rfl (st_pick_t rfl rfl) ?_
       refine E_out ?_
       refine D_done (by kernel_rfl) ?_
       obtain rfl := some1 hm
       exact x_join (e' := [(0, .slice A3 (l10718).length c4), (1, .int .i64 (x7)), (2, .int .i64 (x8)), (3, .func (.func 25) #[] #[.pointer (some ⟨g6, 0, none⟩)]), (8, .int .i64 (x9188)), (9, .int .i64 (x10717)), (34, .bool (decide (x10872 < 0)))]) ⟨rfl, rfl, rfl, rfl, rfl, rfl, rfl, trivial⟩ (.refl _) ⟨rfl, rfl, hle10875⟩
      exact R_nil
     ·
      rw [if_neg hc10838] at hm
      refine D_drawI mixed (.refl _) ?_
      refine E_s0 0 rfl (st_move rfl) ?_
      refine E_s0 1 rfl (st_move rfl) ?_
      refine E_s0 2 rfl (st_gtr_f rfl rfl hc10838) ?_
      refine E_s0 3 rfl (st_move rfl) ?_
      refine E_no 4 21 rfl rfl rfl ?_
      refine E_no 5 21 rfl rfl rfl ?_
      refine E_no 6 21 rfl rfl rfl ?_
      refine E_no 7 21 rfl rfl rfl ?_
      refine E_no 8 21 rfl rfl rfl ?_
      refine E_no 9 21 rfl rfl rfl ?_
      refine E_no 10 21 rfl rfl rfl ?_
      refine E_no 11 21 rfl rfl rfl ?_
      refine E_no 12 21 rfl rfl rfl ?_
      refine E_no 13 21 rfl rfl rfl ?_
      refine E_no 14 21 rfl rfl rfl ?_
      refine E_no 15 21 rfl rfl rfl ?_
      refine E_s0 16 rfl (st_pick_f rfl rfl) ?_
      refine E_out ?_
      refine D_done (by kernel_rfl) ?_
      obtain rfl := some1 hm
      exact x_join (e' := [(0, .slice A3 (l10718).length c4), (1, .int .i64 (x7)), (2, .int .i64 (x8)), (3, .func (.func 25) #[] #[.pointer (some ⟨g6, 0, none⟩)]), (8, .int .i64 (x9188)), (9, .int .i64 (x10717)), (34, .bool (false))]) ⟨rfl, rfl, rfl, rfl, rfl, rfl, rfl, trivial⟩ (.refl _) ⟨rfl, rfl, (Base.Le.refl _)⟩
    ·
     rintro b10796 _ _ ⟨rfl, rfl, hle10797⟩
     have hm := hk10799
     refine c_cond _ rfl (fun hc10876 => ?_) (fun hc10876 => ?_)
     ·
      rw [if_pos hc10876] at hm
      refine c_skip ?_
      refine x_then_normal ?_
      refine c_seq ?_
      refine c_block ?_
      obtain ⟨_, h10947, hm⟩ := bindS hm
      obtain ⟨_, h10948, hm⟩ := bindS hm
      obtain ⟨x10949, h10950, hm⟩ := bindS hm
      obtain ⟨x10965, h10966, hm⟩ := bindS hm
      obtain ⟨x10981, h10982, hm⟩ := bindS hm
      obtain ⟨x10999, h11000, hm⟩ := bindS hm
      refine D_drawI mixed (.refl _) ?_
      refine E_s0 0 rfl (st_move rfl) ?_
      refine E_s0 1 rfl (st_move rfl) ?_
      refine E_s0 2 rfl (st_move rfl) ?_
      refine E_s0 3 rfl (st_move rfl) ?_
      have h10947 := (chk_some h10947).2
      refine E_s0 4 rfl (st_sub rfl rfl h10947) ?_
      refine E_s0 5 rfl (st_move rfl) ?_
      refine E_s0 6 rfl (st_move rfl) ?_
      have h10948 := (chk_some h10948).2
      refine E_s0 7 rfl (st_sub rfl rfl h10948) ?_
      obtain ⟨j10951, hj10952, hx10953⟩ := idx_some h10950
      obtain ⟨cs10954, hs10959, P10960, P10961, hq10962, hr10955, hcs10956, hA10957, hlt10958, hb10963, hho10964⟩ := OS.get (sz := 1) rfl (by decide) (h10716.le hle10797) hx10953
      obtain ⟨rfl, rfl⟩ := hr10955
      refine E_s0 8 rfl (st_index_old j10951 rfl rfl hj10952 hlt10958 hA10957 sl22) ?_
      refine E_st 9 rfl (st_load_rd rfl one3 (fun w ho => hcs10956 w _ ho (.cons _ (List.sublist_append_left _ _)) 0 _ rfl)) ?_
      refine E_s0 10 rfl (st_move rfl) ?_
      refine E_s0 11 rfl (st_move rfl) ?_
      obtain ⟨j10967, hj10968, hx10969⟩ := idx_some h10966
      obtain ⟨cs10970, hs10975, P10976, P10977, hq10978, hr10971, hcs10972, hA10973, hlt10974, hb10979, hho10980⟩ := OS.get (sz := 1) rfl (by decide) (h10716.le hle10797) hx10969
      obtain ⟨rfl, rfl⟩ := hr10971
      refine E_s0 12 rfl (st_index_old j10967 rfl rfl hj10968 hlt10974 hA10973 sl22) ?_
      refine E_st 13 rfl (st_load_rd rfl one3 (fun w ho => hcs10972 w _ ho (.cons _ (List.sublist_append_left _ _)) 0 _ rfl)) ?_
      obtain ⟨j10983, hj10984, hx10985⟩ := idx_some h10982
      obtain ⟨cs10986, hs10991, P10992, P10993, hq10994, hr10987, hcs10988, hA10989, hlt10990, hb10995, hho10996⟩ := OS.get (sz := 1) rfl (by decide) (h10716.le hle10797) hx10985
      obtain ⟨rfl, rfl⟩ := hr10987
      refine E_s0 14 rfl (st_index_old j10983 rfl rfl hj10984 hlt10990 hA10989 sl22) ?_
      refine E_out ?_
      refine D_all [15] (by kernel_rfl) rfl ?_
      refine R_do (Base.Le.refl _) rfl rfl (u_putOS hj10984 (sz := 1) (a' := x10949) rfl [_] R 0 1 [.int .i64 (x10949)] rfl (h10716.le hle10797) hx10985 rfl rfl rfl siz3 rfl (mem_c rfl mem_n) (fun cs hsj hh => by obtain ⟨rfl, rfl⟩ := hh; exact ⟨by decide, rfl, rfl⟩)) ?_ ?_
      ·
       rintro _ _ ⟨hs10997, rfl, h10998⟩
       refine ⟨.inl (by kernel_rfl), ?_⟩
       refine d_resp 0 rfl (v' := .slice A3 (put l10718 x10717 x10949).length c4) (by simp only [put_length]) ?_
       refine d_resp 39 rfl (v' := .slice A3 (put l10718 x10717 x10949).length c4) (by simp only [put_length]) ?_
       obtain ⟨j11001, hj11002, hx11003⟩ := idx_some h11000
       obtain ⟨cs11004, hs11009, P11010, P11011, hq11012, hr11005, hcs11006, hA11007, hlt11008, hb11013, hho11014⟩ := OS.get (sz := 1) rfl (by decide) h10998 hx11003
       obtain ⟨rfl, rfl⟩ := hr11005
       refine E_il (Base.Le.refl _) ?_
       refine E_s0 16 rfl (st_index_old j11001 rfl rfl hj11002 hlt11008 hA11007 sl22) ?_
       refine E_out ?_
       refine D_all [17] (by kernel_rfl) rfl ?_
       refine R_do (Base.Le.refl _) rfl rfl (u_putOS hj11002 (sz := 1) (a' := x10965) rfl [_] R 0 1 [.int .i64 (x10965)] rfl h10998 hx11003 rfl rfl rfl siz3 rfl (mem_c rfl mem_n) (fun cs hsj hh => by obtain ⟨rfl, rfl⟩ := hh; exact ⟨by decide, rfl, rfl⟩)) ?_ ?_
       ·
        rintro _ _ ⟨hs11015, rfl, h11016⟩
        refine ⟨.inl (by kernel_rfl), ?_⟩
        refine d_resp 0 rfl (v' := .slice A3 (put (put l10718 x10717 x10949) (x10717 - 1) x10965).length c4) (by simp only [put_length]) ?_
        refine D_done (by kernel_rfl) ?_
        refine x_block_normal ?_
        refine x_then_normal ?_
        refine c_region ?_
        refine t_mv rfl rfl ?_
        obtain ⟨_, h11017, hm⟩ := bindS hm
        have h11017 := (chk_some h11017).2
        refine t_st rfl (st_sub rfl rfl h11017) ?_
        refine t_as rfl rfl ?_
        refine t_nil ?_
        exact x_againM (x10717 - 1, put (put l10718 x10717 x10949) (x10717 - 1) x10965) (Option.some.inj hm).symm (e' := [(0, .slice A3 (put (put l10718 x10717 x10949) (x10717 - 1) x10965).length c4), (1, .int .i64 (x7)), (2, .int .i64 (x8)), (3, .func (.func 25) #[] #[.pointer (some ⟨g6, 0, none⟩)]), (8, .int .i64 (x9188)), (9, .int .i64 (x10717 - 1))]) ⟨rfl, rfl, rfl, rfl, rfl, rfl, trivial⟩ (.refl _) ⟨hs11015, rfl, rfl, ((hle10713.trans hle10797)), h11016, ((put_length _ _ _).trans ((put_length _ _ _).trans hln10719))⟩
       exact R_nil
      exact R_nil
     ·
      rw [if_neg (fun hh => Bool.noConfusion (hh.symm.trans hc10876))] at hm
      refine c_exit ?_
      refine x_then_exit ?_
      refine x_then_exit ?_
      refine x_block_out ?_
      have hm := congrArg some (houtL10109 _ (Option.some.inj hm).symm)
      refine x_block_normal ?_
      obtain rfl := some1 hm
      exact x_join (e' := [(0, .slice A3 (l10718).length c4), (1, .int .i64 (x7)), (2, .int .i64 (x8)), (3, .func (.func 25) #[] #[.pointer (some ⟨g6, 0, none⟩)]), (8, .int .i64 (x9188))]) ⟨rfl, rfl, rfl, rfl, rfl, trivial⟩ (.refl _) ⟨hs10715, rfl, rfl, (hle10713.trans hle10797), (h10716.le hle10797), hln10719⟩
   ·
    rintro b10101 _ _ ⟨hs10104, rfl, rfl, hle10102, h10105, hln10107⟩
    have hm := hk10108
    refine c_region ?_
    refine t_mv rfl rfl ?_
    obtain ⟨_, h11018, hm⟩ := bindS hm
    have h11018 := (chk_some h11018).2
    refine t_st rfl (st_add rfl rfl h11018) ?_
    refine t_as rfl rfl ?_
    refine t_nil ?_
    exact x_againM (x9188 + 1, l10106) (Option.some.inj hm).symm (e' := [(0, .slice A3 (l10106).length c4), (1, .int .i64 (x7)), (2, .int .i64 (x8)), (3, .func (.func 25) #[] #[.pointer (some ⟨g6, 0, none⟩)]), (8, .int .i64 (x9188 + 1))]) ⟨rfl, rfl, rfl, rfl, rfl, trivial⟩ (.refl _) ⟨hs10104, rfl, rfl, ((hle9184.trans hle10102)), h10105, hln10107⟩
  ·
   rw [if_neg (of_decide_eq_false hc9191)] at hm
   refine c_exit ?_
   refine x_then_exit ?_
   refine x_then_exit ?_
   refine x_block_out ?_
   have hm := congrArg some (houtL5520 _ (Option.some.inj hm).symm)
   obtain rfl := some1 hm
   exact endM hle9184 rfl (.refl _) ⟨hs9186, rfl, rfl, h9187, hln9190⟩

set_option maxRecDepth 20000 in
theorem cSlicesSwapRangeCmpFunc_2 (b : Base) (R : Hp) (x7 : Int) (x8 : Int) (x9 : Int) (l13 : (List FareSpan)) (l14 : (List Int)) (g6 : Nat) (A10 : Option Addr) (c11 : Nat) (A3 : Option Addr) (c4 : Nat) (hs2 : Hp) (h12 : FZ rFareSpan b.w A10 c11 l13) (h5 : OS 3 (OT.fr (RT.int .i64)) b.w (.slice A3 l14.length c4) l14 hs2) (l471 : (List Int)) (hm : mSlicesSwapRangeCmpFunc_2 x7 x8 x9 l13 l14 = some l471) :
    CallsG Tryz.prog 107 [.slice A3 (l14).length c4, .int .i64 (x7), .int .i64 (x8), .int .i64 (x9), .func (.func 25) #[] #[.pointer (some ⟨g6, 0, none⟩)]] b ((g6, Cl 36 [.slice A10 (l13).length c11]) :: (hs2 ++ R)) (fun v b' hp' => ∃ (hs469 : Hp), .tuple #[] = v ∧ (g6, Cl 36 [.slice A10 (l13).length c11]) :: (hs469 ++ R) = hp' ∧ OS 3 (OT.fr (RT.int .i64)) b'.w (.slice A3 l471.length c4) l471 hs469 ∧ l471.length = l14.length) := by
  refine fn_enterG 38 Tryz.func107 rfl Tryz.ntmps107 rfl ?_
  unfold mSlicesSwapRangeCmpFunc_2 at hm
  refine c_sr ?_
  refine t_as rfl rfl ?_
  refine t_ne ?_
  refine c_block ?_
  refine c_loopM (unc2 fun x777 l778 => fun b772 e' hp' => ∃ (hs775 : Hp), [(0, .slice A3 (l778).length c4), (1, .int .i64 (x7)), (2, .int .i64 (x8)), (3, .int .i64 (x9)), (10, .int .i64 (x777))] = e' ∧ (g6, Cl 36 [.slice A10 (l13).length c11]) :: (hs775 ++ R) = hp' ∧ b.Le b772 ∧ OS 3 (OT.fr (RT.int .i64)) b772.w (.slice A3 l778.length c4) l778 hs775 ∧ l778.length = l14.length) hm (e' := [(0, .slice A3 (l14).length c4), (1, .int .i64 (x7)), (2, .int .i64 (x8)), (3, .int .i64 (x9)), (10, .int .i64 (0))]) ⟨rfl, rfl, rfl, rfl, rfl, trivial⟩ (.refl _) ⟨hs2, rfl, rfl, (Base.Le.refl _), h5, rfl⟩ ?_
  rintro ⟨x777, l778⟩ b772 _ _ oL473 ⟨hs775, rfl, rfl, hle773, h776, hln779⟩ hstepL473 houtL473
  unfold mSlicesSwapRangeCmpFunc_2_L473 at hstepL473
  have hm := (unc2E hstepL473)
  refine c_seq ?_
  refine c_sr ?_
  refine t_mv rfl rfl ?_
  refine t_mv rfl rfl ?_
  refine t_st rfl (st_lss rfl rfl) ?_
  refine t_ne ?_
  refine c_cond _ rfl (fun hc780 => ?_) (fun hc780 => ?_)
  ·
   rw [if_pos (of_decide_eq_true hc780)] at hm
   refine c_skip ?_
   refine x_then_normal ?_
   refine c_seq ?_
   refine c_block ?_
   obtain ⟨_, h853, hm⟩ := bindS hm
   obtain ⟨_, h854, hm⟩ := bindS hm
   obtain ⟨_, h855, hm⟩ := bindS hm
   obtain ⟨x856, h857, hm⟩ := bindS hm
   obtain ⟨_, h872, hm⟩ := bindS hm
   obtain ⟨x873, h874, hm⟩ := bindS hm
   obtain ⟨x889, h890, hm⟩ := bindS hm
   obtain ⟨x907, h908, hm⟩ := bindS hm
   refine D_drawI mixed (.refl _) ?_
   refine E_s0 0 rfl (st_move rfl) ?_
   refine E_s0 1 rfl (st_move rfl) ?_
   refine E_s0 2 rfl (st_move rfl) ?_
   have h853 := (chk_some h853).2
   refine E_s0 3 rfl (st_add rfl rfl h853) ?_
   refine E_s0 4 rfl (st_move rfl) ?_
   refine E_s0 5 rfl (st_move rfl) ?_
   refine E_s0 6 rfl (st_move rfl) ?_
   have h854 := (chk_some h854).2
   refine E_s0 7 rfl (st_add rfl rfl h854) ?_
   refine E_s0 8 rfl (st_move rfl) ?_
   refine E_s0 9 rfl (st_move rfl) ?_
   refine E_s0 10 rfl (st_move rfl) ?_
   have h855 := (chk_some h855).2
   refine E_s0 11 rfl (st_add rfl rfl h855) ?_
   obtain ⟨j858, hj859, hx860⟩ := idx_some h857
   obtain ⟨cs861, hs866, P867, P868, hq869, hr862, hcs863, hA864, hlt865, hb870, hho871⟩ := OS.get (sz := 1) rfl (by decide) h776 hx860
   obtain ⟨rfl, rfl⟩ := hr862
   refine E_s0 12 rfl (st_index_old j858 rfl rfl hj859 hlt865 hA864 sl22) ?_
   refine E_st 13 rfl (st_load_rd rfl one3 (fun w ho => hcs863 w _ ho (.cons _ (List.sublist_append_left _ _)) 0 _ rfl)) ?_
   refine E_s0 14 rfl (st_move rfl) ?_
   refine E_s0 15 rfl (st_move rfl) ?_
   refine E_s0 16 rfl (st_move rfl) ?_
   have h872 := (chk_some h872).2
   refine E_s0 17 rfl (st_add rfl rfl h872) ?_
   obtain ⟨j875, hj876, hx877⟩ := idx_some h874
   obtain ⟨cs878, hs883, P884, P885, hq886, hr879, hcs880, hA881, hlt882, hb887, hho888⟩ := OS.get (sz := 1) rfl (by decide) h776 hx877
   obtain ⟨rfl, rfl⟩ := hr879
   refine E_s0 18 rfl (st_index_old j875 rfl rfl hj876 hlt882 hA881 sl22) ?_
   refine E_st 19 rfl (st_load_rd rfl one3 (fun w ho => hcs880 w _ ho (.cons _ (List.sublist_append_left _ _)) 0 _ rfl)) ?_
   obtain ⟨j891, hj892, hx893⟩ := idx_some h890
   obtain ⟨cs894, hs899, P900, P901, hq902, hr895, hcs896, hA897, hlt898, hb903, hho904⟩ := OS.get (sz := 1) rfl (by decide) h776 hx893
   obtain ⟨rfl, rfl⟩ := hr895
   refine E_s0 20 rfl (st_index_old j891 rfl rfl hj892 hlt898 hA897 sl22) ?_
   refine E_out ?_
   refine D_all [21] (by kernel_rfl) rfl ?_
   refine R_do (Base.Le.refl _) rfl rfl (u_putOS hj892 (sz := 1) (a' := x856) rfl [_] R 0 1 [.int .i64 (x856)] rfl h776 hx893 rfl rfl rfl siz3 rfl (mem_c rfl mem_n) (fun cs hsj hh => by obtain ⟨rfl, rfl⟩ := hh; exact ⟨by decide, rfl, rfl⟩)) ?_ ?_
   ·
    rintro _ _ ⟨hs905, rfl, h906⟩
    refine ⟨.inl (by kernel_rfl), ?_⟩
    refine d_resp 0 rfl (v' := .slice A3 (put l778 (x7 + x777) x856).length c4) (by simp only [put_length]) ?_
    refine d_resp 20 rfl (v' := .slice A3 (put l778 (x7 + x777) x856).length c4) (by simp only [put_length]) ?_
    obtain ⟨j909, hj910, hx911⟩ := idx_some h908
    obtain ⟨cs912, hs917, P918, P919, hq920, hr913, hcs914, hA915, hlt916, hb921, hho922⟩ := OS.get (sz := 1) rfl (by decide) h906 hx911
    obtain ⟨rfl, rfl⟩ := hr913
    refine E_il (Base.Le.refl _) ?_
    refine E_s0 22 rfl (st_index_old j909 rfl rfl hj910 hlt916 hA915 sl22) ?_
    refine E_out ?_
    refine D_all [23] (by kernel_rfl) rfl ?_
    refine R_do (Base.Le.refl _) rfl rfl (u_putOS hj910 (sz := 1) (a' := x873) rfl [_] R 0 1 [.int .i64 (x873)] rfl h906 hx911 rfl rfl rfl siz3 rfl (mem_c rfl mem_n) (fun cs hsj hh => by obtain ⟨rfl, rfl⟩ := hh; exact ⟨by decide, rfl, rfl⟩)) ?_ ?_
    ·
     rintro _ _ ⟨hs923, rfl, h924⟩
     refine ⟨.inl (by kernel_rfl), ?_⟩
     refine d_resp 0 rfl (v' := .slice A3 (put (put l778 (x7 + x777) x856) (x8 + x777) x873).length c4) (by simp only [put_length]) ?_
     refine D_done (by kernel_rfl) ?_
     refine x_block_normal ?_
     refine x_then_normal ?_
     refine c_region ?_
     refine t_mv rfl rfl ?_
     obtain ⟨_, h925, hm⟩ := bindS hm
     have h925 := (chk_some h925).2
     refine t_st rfl (st_add rfl rfl h925) ?_
     refine t_as rfl rfl ?_
     refine t_nil ?_
     exact x_againM (x777 + 1, put (put l778 (x7 + x777) x856) (x8 + x777) x873) (Option.some.inj hm).symm (e' := [(0, .slice A3 (put (put l778 (x7 + x777) x856) (x8 + x777) x873).length c4), (1, .int .i64 (x7)), (2, .int .i64 (x8)), (3, .int .i64 (x9)), (10, .int .i64 (x777 + 1))]) ⟨rfl, rfl, rfl, rfl, rfl, trivial⟩ (.refl _) ⟨hs923, rfl, rfl, (hle773), h924, ((put_length _ _ _).trans ((put_length _ _ _).trans hln779))⟩
    exact R_nil
   exact R_nil
  ·
   rw [if_neg (of_decide_eq_false hc780)] at hm
   refine c_exit ?_
   refine x_then_exit ?_
   refine x_then_exit ?_
   refine x_block_out ?_
   have hm := congrArg some (houtL473 _ (Option.some.inj hm).symm)
   obtain rfl := some1 hm
   exact endM hle773 rfl (.refl _) ⟨hs775, rfl, rfl, h776, hln779⟩

set_option maxRecDepth 20000 in
theorem cSlicesRotateCmpFunc_2 (b : Base) (R : Hp) (x7 : Int) (x8 : Int) (x9 : Int) (l13 : (List FareSpan)) (l14 : (List Int)) (g6 : Nat) (A10 : Option Addr) (c11 : Nat) (A3 : Option Addr) (c4 : Nat) (hs2 : Hp) (h12 : FZ rFareSpan b.w A10 c11 l13) (h5 : OS 3 (OT.fr (RT.int .i64)) b.w (.slice A3 l14.length c4) l14 hs2) (l203 : (List Int)) (hm : mSlicesRotateCmpFunc_2 x7 x8 x9 l13 l14 = some l203) :
    CallsG Tryz.prog 87 [.slice A3 (l14).length c4, .int .i64 (x7), .int .i64 (x8), .int .i64 (x9), .func (.func 25) #[] #[.pointer (some ⟨g6, 0, none⟩)]] b ((g6, Cl 36 [.slice A10 (l13).length c11]) :: (hs2 ++ R)) (fun v b' hp' => ∃ (hs201 : Hp), .tuple #[] = v ∧ (g6, Cl 36 [.slice A10 (l13).length c11]) :: (hs201 ++ R) = hp' ∧ OS 3 (OT.fr (RT.int .i64)) b'.w (.slice A3 l203.length c4) l203 hs201 ∧ l203.length = l14.length) := by
  refine fn_enterG 58 Tryz.func87 rfl Tryz.ntmps87 rfl ?_
  unfold mSlicesRotateCmpFunc_2 at hm
  refine c_sr ?_
  refine t_mv rfl rfl ?_
  refine t_mv rfl rfl ?_
  obtain ⟨_, h205, hm⟩ := bindS hm
  have h205 := (chk_some h205).2
  refine t_st rfl (st_sub rfl rfl h205) ?_
  refine t_as rfl rfl ?_
  refine t_ne ?_
  refine c_sr ?_
  refine t_mv rfl rfl ?_
  refine t_mv rfl rfl ?_
  obtain ⟨_, h206, hm⟩ := bindS hm
  have h206 := (chk_some h206).2
  refine t_st rfl (st_sub rfl rfl h206) ?_
  refine t_as rfl rfl ?_
  refine t_ne ?_
  obtain ⟨⟨x295, l296⟩, hj298, hk298⟩ := bindS hm
  refine c_join (fun b290 e' hp' => ∃ (hs293 : Hp), [(0, .slice A3 (l296).length c4), (2, .int .i64 (x8)), (4, .func (.func 25) #[] #[.pointer (some ⟨g6, 0, none⟩)]), (10, .int .i64 (x295))] = e' ∧ (g6, Cl 36 [.slice A10 (l13).length c11]) :: (hs293 ++ R) = hp' ∧ b.Le b290 ∧ OS 3 (OT.fr (RT.int .i64)) b290.w (.slice A3 l296.length c4) l296 hs293 ∧ l296.length = l14.length) ?_ ?_
  ·
   have hm := hj298
   refine c_block ?_
   refine c_loopM (unc3 fun x356 x357 l358 => fun b351 e' hp' => ∃ (hs354 : Hp), [(0, .slice A3 (l358).length c4), (2, .int .i64 (x8)), (4, .func (.func 25) #[] #[.pointer (some ⟨g6, 0, none⟩)]), (10, .int .i64 (x356)), (11, .int .i64 (x357))] = e' ∧ (g6, Cl 36 [.slice A10 (l13).length c11]) :: (hs354 ++ R) = hp' ∧ b.Le b351 ∧ OS 3 (OT.fr (RT.int .i64)) b351.w (.slice A3 l358.length c4) l358 hs354 ∧ l358.length = l14.length) hm (e' := [(0, .slice A3 (l14).length c4), (2, .int .i64 (x8)), (4, .func (.func 25) #[] #[.pointer (some ⟨g6, 0, none⟩)]), (10, .int .i64 (x8 - x7)), (11, .int .i64 (x9 - x8))]) ⟨rfl, rfl, rfl, rfl, rfl, trivial⟩ (.refl _) ⟨hs2, rfl, rfl, (Base.Le.refl _), h5, rfl⟩ ?_
   rintro ⟨x356, x357, l358⟩ b351 _ _ oL299 ⟨hs354, rfl, rfl, hle352, h355, hln359⟩ hstepL299 houtL299
   unfold mSlicesRotateCmpFunc_2_L299 at hstepL299
   have hm := (unc3E hstepL299)
   refine c_seq ?_
   refine c_sr ?_
   refine t_mv rfl rfl ?_
   refine t_mv rfl rfl ?_
   refine t_st rfl (st_neq rfl rfl) ?_
   refine t_ne ?_
   refine c_cond _ rfl (fun hc360 => ?_) (fun hc360 => ?_)
   ·
    rw [if_pos (of_decide_eq_true hc360)] at hm
    refine c_skip ?_
    refine x_then_normal ?_
    refine c_block ?_
    refine c_sr ?_
    refine t_mv rfl rfl ?_
    refine t_mv rfl rfl ?_
    refine t_st rfl (st_gtr rfl rfl) ?_
    refine t_ne ?_
    refine c_cond _ rfl (fun hc361 => ?_) (fun hc361 => ?_)
    ·
     rw [if_pos (of_decide_eq_true hc361)] at hm
     refine c_sr ?_
     refine t_mv rfl rfl ?_
     refine t_mv rfl rfl ?_
     refine t_mv rfl rfl ?_
     obtain ⟨_, h362, hm⟩ := bindS hm
     have h362 := (chk_some h362).2
     refine t_st rfl (st_sub rfl rfl h362) ?_
     refine t_mv rfl rfl ?_
     refine t_mv rfl rfl ?_
     refine t_mv rfl rfl ?_
     obtain ⟨l363, hcl364, hm⟩ := bindS hm
     refine t_out1 [_] [] hs354 R rfl ?_
     refine t_callG _ rfl call107 rfl (cSlicesSwapRangeCmpFunc_2 _ _ (x8 - x356) x8 x357 l13 l358 g6 A10 c11 A3 c4 hs354 (h12.le hle352) h355 l363 hcl364) ?_
     rintro _ b365 _ hle366 ⟨hs367, rfl, rfl, h368, h369⟩
     refine t_in1 [_] [] hs367 R rfl ?_
     refine t_resp 0 rfl (v' := .slice A3 (l363).length c4) (by rw [h369]) ?_
     refine t_ne ?_
     refine c_region ?_
     refine t_mv rfl rfl ?_
     refine t_mv rfl rfl ?_
     obtain ⟨_, h370, hm⟩ := bindS hm
     have h370 := (chk_some h370).2
     refine t_st rfl (st_sub rfl rfl h370) ?_
     refine t_as rfl rfl ?_
     refine t_nil ?_
     refine x_block_normal ?_
     exact x_againM (x356 - x357, x357, l363) (Option.some.inj hm).symm (e' := [(0, .slice A3 (l363).length c4), (2, .int .i64 (x8)), (4, .func (.func 25) #[] #[.pointer (some ⟨g6, 0, none⟩)]), (10, .int .i64 (x356 - x357)), (11, .int .i64 (x357))]) ⟨rfl, rfl, rfl, rfl, rfl, trivial⟩ (.refl _) ⟨hs367, rfl, rfl, ((hle352.trans hle366)), h368, (h369.trans hln359)⟩
    ·
     rw [if_neg (of_decide_eq_false hc361)] at hm
     refine c_sr ?_
     refine t_mv rfl rfl ?_
     refine t_mv rfl rfl ?_
     refine t_mv rfl rfl ?_
     obtain ⟨_, h371, hm⟩ := bindS hm
     have h371 := (chk_some h371).2
     refine t_st rfl (st_sub rfl rfl h371) ?_
     refine t_mv rfl rfl ?_
     refine t_mv rfl rfl ?_
     obtain ⟨_, h372, hm⟩ := bindS hm
     have h372 := (chk_some h372).2
     refine t_st rfl (st_add rfl rfl h372) ?_
     refine t_mv rfl rfl ?_
     obtain ⟨_, h373, hm⟩ := bindS hm
     have h373 := (chk_some h373).2
     refine t_st rfl (st_sub rfl rfl h373) ?_
     refine t_mv rfl rfl ?_
     refine t_mv rfl rfl ?_
     obtain ⟨l374, hcl375, hm⟩ := bindS hm
     refine t_out1 [_] [] hs354 R rfl ?_
     refine t_callG _ rfl call107 rfl (cSlicesSwapRangeCmpFunc_2 _ _ (x8 - x356) ((x8 + x357) - x356) x356 l13 l358 g6 A10 c11 A3 c4 hs354 (h12.le hle352) h355 l374 hcl375) ?_
     rintro _ b376 _ hle377 ⟨hs378, rfl, rfl, h379, h380⟩
     refine t_in1 [_] [] hs378 R rfl ?_
     refine t_resp 0 rfl (v' := .slice A3 (l374).length c4) (by rw [h380]) ?_
     refine t_ne ?_
     refine c_region ?_
     refine t_mv rfl rfl ?_
     refine t_mv rfl rfl ?_
     obtain ⟨_, h381, hm⟩ := bindS hm
     have h381 := (chk_some h381).2
     refine t_st rfl (st_sub rfl rfl h381) ?_
     refine t_as rfl rfl ?_
     refine t_nil ?_
     refine x_block_normal ?_
     exact x_againM (x356, x357 - x356, l374) (Option.some.inj hm).symm (e' := [(0, .slice A3 (l374).length c4), (2, .int .i64 (x8)), (4, .func (.func 25) #[] #[.pointer (some ⟨g6, 0, none⟩)]), (10, .int .i64 (x356)), (11, .int .i64 (x357 - x356))]) ⟨rfl, rfl, rfl, rfl, rfl, trivial⟩ (.refl _) ⟨hs378, rfl, rfl, ((hle352.trans hle377)), h379, (h380.trans hln359)⟩
   ·
    rw [if_neg (of_decide_eq_false hc360)] at hm
    refine c_exit ?_
    refine x_then_exit ?_
    refine x_then_exit ?_
    refine x_block_out ?_
    have hm := congrArg some (houtL299 _ (Option.some.inj hm).symm)
    obtain ⟨rfl, rfl⟩ := some2 hm
    exact x_join (e' := [(0, .slice A3 (l358).length c4), (2, .int .i64 (x8)), (4, .func (.func 25) #[] #[.pointer (some ⟨g6, 0, none⟩)]), (10, .int .i64 (x356))]) ⟨rfl, rfl, rfl, rfl, trivial⟩ (.refl _) ⟨hs354, rfl, rfl, hle352, h355, hln359⟩
  ·
   rintro b290 _ _ ⟨hs293, rfl, rfl, hle291, h294, hln297⟩
   have hm := (unc2E hk298)
   refine c_region ?_
   refine t_mv rfl rfl ?_
   refine t_mv rfl rfl ?_
   refine t_mv rfl rfl ?_
   obtain ⟨_, h382, hm⟩ := bindS hm
   have h382 := (chk_some h382).2
   refine t_st rfl (st_sub rfl rfl h382) ?_
   refine t_mv rfl rfl ?_
   refine t_mv rfl rfl ?_
   refine t_mv rfl rfl ?_
   obtain ⟨l383, hcl384, hm⟩ := bindS hm
   refine t_out1 [_] [] hs293 R rfl ?_
   refine t_callG _ rfl call107 rfl (cSlicesSwapRangeCmpFunc_2 _ _ (x8 - x295) x8 x295 l13 l296 g6 A10 c11 A3 c4 hs293 (h12.le hle291) h294 l383 hcl384) ?_
   rintro _ b385 _ hle386 ⟨hs387, rfl, rfl, h388, h389⟩
   refine t_in1 [_] [] hs387 R rfl ?_
   refine t_nil ?_
   obtain rfl := some1 hm
   exact endM (hle291.trans hle386) rfl (.refl _) ⟨hs387, rfl, rfl, h388, (h389.trans hln297)⟩

end Go.Proofs.YthcgoaejnpelbaaGreatDoor
