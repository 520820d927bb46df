/- Contracts: the code computes its model (part 4). -/
import Derived.Test.YtcibjjhanafojaaDoorNP3
set_option linter.unusedVariables false
set_option linter.unusedSimpArgs false
namespace Go.Proofs.YtcibjjhanafojaaDoor
open Go.RowKit Go.Fp

set_option maxRecDepth 20000 in
theorem cLineFinderGrow (b : Base) (R : Hp) (x7 : Int) (l11 : (List ApiStep)) (s12 : LineEnd) (l16 : (List ByteArray)) (l20 : (List ApiSection)) (l24 : (List ApiLink)) (l28 : (List ApiSignal)) (l32 : (List ApiGate)) (x33 : Int) (x34 : Bool) (l35 : (List ApiRoute)) (g6 : Nat) (A8 : Option Addr) (c9 : Nat) (A13 : Option Addr) (c14 : Nat) (A17 : Option Addr) (c18 : Nat) (A21 : Option Addr) (c22 : Nat) (A25 : Option Addr) (c26 : Nat) (A29 : Option Addr) (c30 : Nat) (A3 : Option Addr) (c4 : Nat) (hs2 : Hp) (h10 : FZ rApiStep b.w A8 c9 l11) (h15 : FZ RT.str b.w A13 c14 l16) (h19 : FZ rApiSection b.w A17 c18 l20) (h23 : FZ rApiLink b.w A21 c22 l24) (h27 : FZ rApiSignal b.w A25 c26 l28) (h31 : FZ rApiGate b.w A29 c30 l32) (h5 : OS 72 (OT.fr rApiRoute) b.w (.slice A3 l35.length c4) l35 hs2) (hnz36 : (A3 = none ↔ l35 = [])) (x708 : Int) (x709 : Bool) (l710 : (List ApiRoute)) (hm : mLineFinderGrow x7 l11 s12 l16 l20 l24 l28 l32 x33 x34 l35 = some (x708, x709, l710)) :
    CallsG Tryd.prog 61 [.pointer (some ⟨g6, 0, none⟩), .int .i64 (x7), .slice A8 (l11).length c9, .agg #[.int .i64 (s12.section_), .int .i64 (s12.end_)]] b ((g6, Cl 138 [.slice A13 (l16).length c14, .slice A17 (l20).length c18, .slice A21 (l24).length c22, .slice A25 (l28).length c26, .slice A29 (l32).length c30, .slice A3 (l35).length c4, .int .i64 (x33), .bool (x34)]) :: (hs2 ++ R)) (fun v b' hp' => ∃ (A705 : Option Addr), ∃ (c706 : Nat), ∃ (hs704 : Hp), .tuple #[] = v ∧ (g6, Cl 138 [.slice A13 (l16).length c14, .slice A17 (l20).length c18, .slice A21 (l24).length c22, .slice A25 (l28).length c26, .slice A29 (l32).length c30, .slice A705 (l710).length c706, .int .i64 (x708), .bool (x709)]) :: (hs704 ++ R) = hp' ∧ OS 72 (OT.fr rApiRoute) b'.w (.slice A705 l710.length c706) l710 hs704 ∧ (A705 = none ↔ l710 = [])) := by
  refine fn_enterG 103 Tryd.func61 rfl Tryd.ntmps61 rfl ?_
  unfold mLineFinderGrow at hm
  refine c_seq ?_
  refine c_region ?_
  refine t_do rfl (u_box _ rfl rfl) ?_
  rintro _ _ ⟨g712, rfl, rfl⟩
  refine t_do rfl (u_box _ rfl rfl) ?_
  rintro _ _ ⟨g713, rfl, rfl⟩
  refine t_do rfl (u_box _ rfl rfl) ?_
  rintro _ _ ⟨g714, rfl, rfl⟩
  refine t_do rfl (u_box _ rfl rfl) ?_
  rintro _ _ ⟨g715, rfl, rfl⟩
  refine t_nil ?_
  refine x_then_normal ?_
  obtain ⟨x741, hj742, hk742⟩ := bindS hm
  refine c_join (fun b738 e' hp' => ∃ (g740 : Nat), [(4, .pointer (some ⟨g712, 0, none⟩)), (5, .pointer (some ⟨g713, 0, none⟩)), (6, .pointer (some ⟨g714, 0, none⟩)), (7, .pointer (some ⟨g715, 0, none⟩)), (8, .pointer (some ⟨g740, 0, none⟩))] = e' ∧ (g712, Cl 136 [.pointer (some ⟨g6, 0, none⟩)]) :: (g713, Cl 3 [.int .i64 (x7)]) :: (g714, Cl 29 [.slice A8 (l11).length c9]) :: (g715, Cl 77 [.int .i64 (s12.section_), .int .i64 (s12.end_)]) :: (g740, Cl 3 [.int .i64 (x741)]) :: (g6, Cl 138 [.slice A13 (l16).length c14, .slice A17 (l20).length c18, .slice A21 (l24).length c22, .slice A25 (l28).length c26, .slice A29 (l32).length c30, .slice A3 (l35).length c4, .int .i64 (x33), .bool (x34)]) :: (hs2 ++ R) = hp' ∧ b.Le b738) ?_ ?_
  ·
   have hm := hj742
   obtain ⟨x754, h755, hm⟩ := bindS hm
   refine D_drawS ((g715, Cl 77 [.int .i64 (s12.section_), .int .i64 (s12.end_)]) :: (g714, Cl 29 [.slice A8 (l11).length c9]) :: (g713, Cl 3 [.int .i64 (x7)]) :: (g712, Cl 136 [.pointer (some ⟨g6, 0, none⟩)]) :: (g6, Cl 138 [.slice A13 (l16).length c14, .slice A17 (l20).length c18, .slice A21 (l24).length c22, .slice A25 (l28).length c26, .slice A29 (l32).length c30, .slice A3 (l35).length c4, .int .i64 (x33), .bool (x34)]) :: (hs2 ++ R)) mixed ?_
   refine E_in (.cons_cons _ (.cons_cons _ (.cons_cons _ (.cons_cons _ (.cons_cons _ (sub_app hs2 (.refl _))))))) ?_
   refine E_st 0 rfl (st_load 3 rfl one136 rfl rfl) ?_
   refine E_st 1 rfl (st_nil rfl) ?_
   refine E_st 2 rfl (st_field rfl fld138_0) ?_
   refine E_st 3 rfl (st_field rfl fld28_3) ?_
   refine E_st 4 rfl (st_load 4 rfl one25 rfl rfl) ?_
   refine E_st 5 rfl (st_load 2 rfl one3 rfl rfl) ?_
   obtain ⟨j756, hj757, hx758⟩ := idx_some h755
   obtain ⟨cs759, hr760, hcs761, hA762, hlt763⟩ := FZ.get (sz := 2) rfl (by decide) h27 hx758
   obtain ⟨_, _, rfl, rfl, rfl⟩ := hr760
   refine E_st 6 rfl (st_index_old j756 rfl rfl hj757 hlt763 hA762 sl25) ?_
   refine E_st 7 rfl (st_field_old rfl hA762 fld64_0) ?_
   refine E_st 8 rfl (st_load_old rfl one3 (hcs761 0 _ rfl)) ?_
   refine E_out ?_
   refine D_all [9] (by kernel_rfl) rfl ?_
   refine R_do (Base.Le.refl _) rfl rfl (u_alloc [.int .i64 0] zero3 rfl) ?_ ?_
   ·
    rintro _ _ ⟨g764, rfl, rfl⟩
    refine ⟨.inr (.cons _ (.cons_cons _ (.cons_cons _ (.cons_cons _ (.cons_cons _ (.cons_cons _ (sub_app hs2 (.refl _)))))))), ?_⟩
    refine D_all [10] (by kernel_rfl) rfl ?_
    refine R_do (Base.Le.refl _) rfl rfl (u_store 0 rfl rfl siz3 rfl rfl (by simp)) ?_ ?_
    ·
     rintro _ _ rfl
     refine ⟨.inl (by kernel_rfl), ?_⟩
     refine D_done (by kernel_rfl) ?_
     obtain rfl := some1 hm
     refine x_pullb 5 rfl ?_
     refine x_pullb 1 rfl ?_
     refine x_pullb 2 rfl ?_
     refine x_pullb 3 rfl ?_
     refine x_pullb 4 rfl ?_
     refine x_pullb 5 rfl ?_
     exact x_join (e' := [(4, .pointer (some ⟨g712, 0, none⟩)), (5, .pointer (some ⟨g713, 0, none⟩)), (6, .pointer (some ⟨g714, 0, none⟩)), (7, .pointer (some ⟨g715, 0, none⟩)), (8, .pointer (some ⟨g764, 0, none⟩))]) (hp' := (g712, Cl 136 [.pointer (some ⟨g6, 0, none⟩)]) :: (g713, Cl 3 [.int .i64 (x7)]) :: (g714, Cl 29 [.slice A8 (l11).length c9]) :: (g715, Cl 77 [.int .i64 (s12.section_), .int .i64 (s12.end_)]) :: (g764, Cl 3 [.int .i64 (x754.Section)]) :: (g6, Cl 138 [.slice A13 (l16).length c14, .slice A17 (l20).length c18, .slice A21 (l24).length c22, .slice A25 (l28).length c26, .slice A29 (l32).length c30, .slice A3 (l35).length c4, .int .i64 (x33), .bool (x34)]) :: (hs2 ++ R)) ⟨rfl, rfl, rfl, rfl, rfl, trivial⟩ (.cons_cons _ (.cons_cons _ (.cons_cons _ (.cons_cons _ (.cons_cons _ (.cons_cons _ (sub_app hs2 (.refl _)))))))) ⟨g764, rfl, rfl, (Base.Le.refl _)⟩
    exact R_nil
   exact R_nil
  ·
   rintro b738 _ _ ⟨g740, rfl, rfl, hle739⟩
   have hm := hk742
   refine c_seq ?_
   obtain ⟨l771, hcl772, hm⟩ := bindS hm
   refine D_drawS ((g712, Cl 136 [.pointer (some ⟨g6, 0, none⟩)]) :: (g713, Cl 3 [.int .i64 (x7)]) :: (g714, Cl 29 [.slice A8 (l11).length c9]) :: (g715, Cl 77 [.int .i64 (s12.section_), .int .i64 (s12.end_)]) :: (g740, Cl 3 [.int .i64 (x741)]) :: (g6, Cl 138 [.slice A13 (l16).length c14, .slice A17 (l20).length c18, .slice A21 (l24).length c22, .slice A25 (l28).length c26, .slice A29 (l32).length c30, .slice A3 (l35).length c4, .int .i64 (x33), .bool (x34)]) :: (hs2 ++ R)) mixed ?_
   refine E_in (.cons_cons _ (.cons_cons _ (.cons_cons _ (.cons_cons _ (.cons_cons _ (.cons_cons _ (sub_app hs2 (.refl _)))))))) ?_
   refine E_st 0 rfl (st_load 0 rfl one136 rfl rfl) ?_
   refine E_st 1 rfl (st_nil rfl) ?_
   refine E_st 2 rfl (st_field rfl fld138_0) ?_
   refine E_st 3 rfl (st_loadD (vs := [_, _, _, _, _]) 5 5 rfl agg28 rfl rfl rfl) ?_
   refine E_st 4 rfl (st_loadD (vs := [_, _]) 3 2 rfl agg77 rfl rfl rfl) ?_
   refine E_out ?_
   refine D_all [5] (by kernel_rfl) rfl ?_
   refine R_callGl (Base.Le.refl _) rfl rfl _ call73 rfl (cLineWalk _ _ (⟨l16, l20, l24, l28, l32⟩ : ApiNet) s12 A13 c14 A17 c18 A21 c22 A25 c26 A29 c30 (h15.le hle739) (h19.le hle739) (h23.le hle739) (h27.le hle739) (h31.le hle739) l771 hcl772) ?_ ?_
   ·
    rintro _ b773 _ hle774 ⟨v775, rfl, rfl, h776⟩
    refine ⟨.inr (.cons_cons _ (.cons_cons _ (.cons_cons _ (.cons_cons _ (.cons_cons _ (.cons_cons _ (sub_app hs2 (.refl _)))))))), ?_⟩
    refine D_done (by kernel_rfl) ?_
    refine x_then_normal ?_
    refine c_block ?_
    obtain ⟨t1176, hl1177, hk1178⟩ := bindS hm
    refine c_pullb 5 rfl ?_
    refine c_pullb 5 rfl ?_
    refine c_pullb 4 rfl ?_
    refine c_pullb 4 rfl ?_
    refine c_pullb 4 rfl ?_
    have he1179 := (h5.le (hle739.trans hle774))
    refine c_rangeM (fun x : ApiStep => (.agg #[.int .i64 x.Section, .int .i64 x.In, .int .i64 x.Out] : Value)) (unc3 fun x1172 x1173 l1174 => fun b1165 hp' => ∃ (A1169 : Option Addr), ∃ (c1170 : Nat), ∃ (hs1168 : Hp), (g712, Cl 136 [.pointer (some ⟨g6, 0, none⟩)]) :: (g713, Cl 3 [.int .i64 (x7)]) :: (g714, Cl 29 [.slice A8 (l11).length c9]) :: (g740, Cl 3 [.int .i64 (x741)]) :: (g6, Cl 138 [.slice A13 (l16).length c14, .slice A17 (l20).length c18, .slice A21 (l24).length c22, .slice A25 (l28).length c26, .slice A29 (l32).length c30, .slice A1169 (l1174).length c1170, .int .i64 (x1172), .bool (x1173)]) :: (hs1168 ++ R) = hp' ∧ b773.Le b1165 ∧ OS 72 (OT.fr rApiRoute) b1165.w (.slice A1169 l1174.length c1170) l1174 hs1168 ∧ (A1169 = none ↔ l1174 = [])) rfl h776 hl1177 (e' := [(4, .pointer (some ⟨g712, 0, none⟩)), (5, .pointer (some ⟨g713, 0, none⟩)), (6, .pointer (some ⟨g714, 0, none⟩)), (8, .pointer (some ⟨g740, 0, none⟩))]) (hp' := (g712, Cl 136 [.pointer (some ⟨g6, 0, none⟩)]) :: (g713, Cl 3 [.int .i64 (x7)]) :: (g714, Cl 29 [.slice A8 (l11).length c9]) :: (g740, Cl 3 [.int .i64 (x741)]) :: (g6, Cl 138 [.slice A13 (l16).length c14, .slice A17 (l20).length c18, .slice A21 (l24).length c22, .slice A25 (l28).length c26, .slice A29 (l32).length c30, .slice A3 (l35).length c4, .int .i64 (x33), .bool (x34)]) :: (hs2 ++ R)) ⟨rfl, rfl, rfl, rfl, trivial⟩ (.cons_cons _ (.cons_cons _ (.cons_cons _ (.cons_cons _ (.cons_cons _ (.cons _ (sub_app hs2 (.refl _)))))))) rfl (fun dk hdk => ⟨A3, c4, hs2, rfl, Base.Le.dks hdk, he1179, hnz36⟩) ?_ ?_ (fun x hx => (hle739.trans hle774).dk x hx)
    ·
     rintro r1180 l1181 x1182 ⟨x1172, x1173, l1174⟩ b1165 b1183 _ oL777 ⟨A1169, c1170, hs1168, rfl, hle1166, h1171, hnz1175⟩ hle1184 hstepL777 houtL777
     unfold mLineFinderGrow_L777 at hstepL777
     have hm := (unc3E hstepL777)
     refine c_region ?_
     refine t_do rfl (u_alloc [.int .i64 0, .int .i64 0, .int .i64 0] zero43 rfl) ?_
     rintro _ _ ⟨g1185, rfl, rfl⟩
     refine t_do rfl (u_storeN (vs := [_, _, _]) 0 3 rfl rfl rfl siz43 rfl (by intro u hu; simp only [List.mem_cons, List.not_mem_nil, or_false] at hu; rcases hu with rfl | rfl | rfl <;> rfl) rfl (by simp)) ?_
     rintro _ _ rfl
     refine t_nil ?_
     refine x_begin 1 rfl ?_
     refine c_block ?_
     refine c_seq ?_
     refine c_seq ?_
     refine c_region ?_
     refine t_st rfl (st_load 2 rfl one136 rfl rfl) ?_
     refine t_st rfl (st_nil rfl) ?_
     refine t_st rfl (st_field rfl fld138_3) ?_
     refine t_st rfl (st_load 6 rfl one4 rfl rfl) ?_
     refine t_nil ?_
     refine x_then_normal ?_
     refine c_cond _ rfl (fun hc1186 => ?_) (fun hc1186 => ?_)
     ·
      rw [if_pos hc1186] at hm
      refine c_ret ?_
      refine x_then_ret ?_
      refine x_block_ret ?_
      refine x_leaveR 0 rfl (Base.Le.refl _) ?_
      refine c_ret ?_
      refine x_block_ret ?_
      have hq1187 := houtL777 _ (Option.some.inj hm).symm
      rw [hq1187] at hk1178
      have hm := elimR hk1178
      obtain ⟨rfl, rfl, rfl⟩ := some3 hm
      refine x_pullb 5 rfl ?_
      have he1188 := (h1171.le hle1184)
      exact retM (rs := []) [] (hle739.trans (hle774.trans (hle1166.trans hle1184))) (by decide) rfl trivial rfl (hp' := (g6, Cl 138 [.slice A13 (l16).length c14, .slice A17 (l20).length c18, .slice A21 (l24).length c22, .slice A25 (l28).length c26, .slice A29 (l32).length c30, .slice A1169 (l1174).length c1170, .int .i64 (x1172), .bool (x1173)]) :: (hs1168 ++ R)) (.cons_cons _ (.cons _ (.cons _ (.cons _ (.cons _ (.cons _ (sub_app hs1168 (.refl _)))))))) ⟨A1169, c1170, hs1168, rfl, rfl, he1188, hnz1175⟩
     ·
      rw [if_neg (fun hh => Bool.noConfusion (hh.symm.trans hc1186))] at hm
      refine c_skip ?_
      refine x_then_normal ?_
      refine c_seq ?_
      obtain ⟨x1194, hj1195, hk1195⟩ := bindS hm
      refine c_join (fun b1192 e' hp' => [(4, .pointer (some ⟨g712, 0, none⟩)), (5, .pointer (some ⟨g713, 0, none⟩)), (6, .pointer (some ⟨g714, 0, none⟩)), (9, .pointer (some ⟨g1185, 0, none⟩)), (44, .bool (x1194))] = e' ∧ (g712, Cl 136 [.pointer (some ⟨g6, 0, none⟩)]) :: (g713, Cl 3 [.int .i64 (x7)]) :: (g714, Cl 29 [.slice A8 (l11).length c9]) :: (g1185, Cl 43 [.int .i64 (x1182.Section), .int .i64 (x1182.In), .int .i64 (x1182.Out)]) :: (g740, Cl 3 [.int .i64 (x741)]) :: (g6, Cl 138 [.slice A13 (l16).length c14, .slice A17 (l20).length c18, .slice A21 (l24).length c22, .slice A25 (l28).length c26, .slice A29 (l32).length c30, .slice A1169 (l1174).length c1170, .int .i64 (x1172), .bool (x1173)]) :: (l1181, Lb r1180) :: (hs1168 ++ R) = hp' ∧ b1183.Le b1192) ?_ ?_
      ·
       have hm := hj1195
       refine c_region ?_
       refine t_st rfl (st_field rfl fld43_0) ?_
       refine t_st rfl (st_load 1 rfl one3 rfl rfl) ?_
       refine t_st rfl (st_load 5 rfl one3 rfl rfl) ?_
       refine t_bool rfl (st_eql rfl rfl) (fun hc1196 => ?_) (fun hc1196 => ?_)
       ·
        rw [if_pos hc1196] at hm
        refine t_st rfl (st_move rfl) ?_
        refine t_no 39 rfl rfl rfl rfl rfl ?_
        refine t_no 39 rfl rfl rfl rfl rfl ?_
        refine t_no 39 rfl rfl rfl rfl rfl ?_
        refine t_no 39 rfl rfl rfl rfl rfl ?_
        refine t_st rfl (st_pick_t rfl rfl) ?_
        refine t_nil ?_
        obtain rfl := some1 hm
        refine x_pullb 6 rfl ?_
        refine x_pullb 6 rfl ?_
        refine x_pullb 3 rfl ?_
        refine x_pullb 6 rfl ?_
        refine x_pullb 6 rfl ?_
        refine x_pullb 6 rfl ?_
        exact x_join (e' := [(4, .pointer (some ⟨g712, 0, none⟩)), (5, .pointer (some ⟨g713, 0, none⟩)), (6, .pointer (some ⟨g714, 0, none⟩)), (9, .pointer (some ⟨g1185, 0, none⟩)), (44, .bool (true))]) (hp' := (g712, Cl 136 [.pointer (some ⟨g6, 0, none⟩)]) :: (g713, Cl 3 [.int .i64 (x7)]) :: (g714, Cl 29 [.slice A8 (l11).length c9]) :: (g1185, Cl 43 [.int .i64 (x1182.Section), .int .i64 (x1182.In), .int .i64 (x1182.Out)]) :: (g740, Cl 3 [.int .i64 (x741)]) :: (g6, Cl 138 [.slice A13 (l16).length c14, .slice A17 (l20).length c18, .slice A21 (l24).length c22, .slice A25 (l28).length c26, .slice A29 (l32).length c30, .slice A1169 (l1174).length c1170, .int .i64 (x1172), .bool (x1173)]) :: (l1181, Lb r1180) :: (hs1168 ++ R)) ⟨rfl, rfl, rfl, rfl, rfl, trivial⟩ (.cons_cons _ (.cons_cons _ (.cons_cons _ (.cons_cons _ (.cons_cons _ (.cons_cons _ (.cons_cons _ (sub_app hs1168 (.refl _))))))))) ⟨rfl, rfl, (Base.Le.refl _)⟩
       ·
        rw [if_neg hc1196] at hm
        refine t_st rfl (st_move rfl) ?_
        refine t_yes 39 rfl rfl rfl ?_
        refine t_st rfl (st_load 4 rfl one29 rfl rfl) ?_
        refine t_yes 39 rfl rfl rfl ?_
        refine t_st rfl (st_field rfl fld43_0) ?_
        refine t_yes 39 rfl rfl rfl ?_
        refine t_st rfl (st_load 1 rfl one3 rfl rfl) ?_
        refine t_yes 39 rfl rfl rfl ?_
        obtain ⟨x1197, hcl1198, hm⟩ := bindS hm
        refine t_do rfl (u_callW0 _ call74 rfl (fun w ho => cLineStands _ [] l11 x1182.Section A8 c9 ((h10.le (hle739.trans (hle774.trans (hle1166.trans hle1184)))).old ho) x1197 hcl1198) (fun _ _ _ h => h.2.symm)) ?_
        rintro _ _ ⟨⟨_, rfl, _⟩, rfl⟩
        refine t_st rfl (st_pick_f rfl rfl) ?_
        refine t_nil ?_
        obtain rfl := some1 hm
        refine x_pullb 6 rfl ?_
        refine x_pullb 6 rfl ?_
        refine x_pullb 3 rfl ?_
        refine x_pullb 6 rfl ?_
        refine x_pullb 6 rfl ?_
        refine x_pullb 6 rfl ?_
        exact x_join (e' := [(4, .pointer (some ⟨g712, 0, none⟩)), (5, .pointer (some ⟨g713, 0, none⟩)), (6, .pointer (some ⟨g714, 0, none⟩)), (9, .pointer (some ⟨g1185, 0, none⟩)), (44, .bool (x1197))]) (hp' := (g712, Cl 136 [.pointer (some ⟨g6, 0, none⟩)]) :: (g713, Cl 3 [.int .i64 (x7)]) :: (g714, Cl 29 [.slice A8 (l11).length c9]) :: (g1185, Cl 43 [.int .i64 (x1182.Section), .int .i64 (x1182.In), .int .i64 (x1182.Out)]) :: (g740, Cl 3 [.int .i64 (x741)]) :: (g6, Cl 138 [.slice A13 (l16).length c14, .slice A17 (l20).length c18, .slice A21 (l24).length c22, .slice A25 (l28).length c26, .slice A29 (l32).length c30, .slice A1169 (l1174).length c1170, .int .i64 (x1172), .bool (x1173)]) :: (l1181, Lb r1180) :: (hs1168 ++ R)) ⟨rfl, rfl, rfl, rfl, rfl, trivial⟩ (.cons_cons _ (.cons_cons _ (.cons_cons _ (.cons_cons _ (.cons_cons _ (.cons_cons _ (.cons_cons _ (sub_app hs1168 (.refl _))))))))) ⟨rfl, rfl, (Base.Le.refl _)⟩
      ·
       rintro b1192 _ _ ⟨rfl, rfl, hle1193⟩
       have hm := hk1195
       refine c_cond _ rfl (fun hc1199 => ?_) (fun hc1199 => ?_)
       ·
        rw [if_pos hc1199] at hm
        refine c_seq ?_
        refine c_region ?_
        refine t_st rfl (st_load 0 rfl one136 rfl rfl) ?_
        obtain ⟨⟨x1200, x1201⟩, hcl1202, hm⟩ := bindS hm
        have hm := (unc2E hm)
        refine t_pullb 5 rfl ?_
        refine t_out1 [_] [_, _, _, _, _, _] hs1168 R rfl ?_
        refine t_callG _ rfl call75 rfl (cLineFinderCount _ _ l16 l20 l24 l28 l32 x1172 x1173 l1174 g6 A13 c14 A17 c18 A21 c22 A25 c26 A29 c30 A1169 c1170 hs1168 (h15.le (hle739.trans (hle774.trans (hle1166.trans (hle1184.trans hle1193))))) (h19.le (hle739.trans (hle774.trans (hle1166.trans (hle1184.trans hle1193))))) (h23.le (hle739.trans (hle774.trans (hle1166.trans (hle1184.trans hle1193))))) (h27.le (hle739.trans (hle774.trans (hle1166.trans (hle1184.trans hle1193))))) (h31.le (hle739.trans (hle774.trans (hle1166.trans (hle1184.trans hle1193))))) (h1171.le (hle1184.trans hle1193)) hnz1175 x1200 x1201 hcl1202) ?_
        rintro _ b1203 _ hle1204 ⟨rfl, rfl⟩
        refine t_in1 [_] [_, _, _, _, _, _] hs1168 R rfl ?_
        refine t_nil ?_
        refine x_then_normal ?_
        refine c_ret ?_
        refine x_then_ret ?_
        refine x_block_ret ?_
        refine x_leaveR 6 rfl (hle1193.trans hle1204) ?_
        refine c_ret ?_
        refine x_block_ret ?_
        have hq1205 := houtL777 _ (Option.some.inj hm).symm
        rw [hq1205] at hk1178
        have hm := elimR hk1178
        obtain ⟨rfl, rfl, rfl⟩ := some3 hm
        have he1206 := (h1171.le (hle1184.trans (hle1193.trans hle1204)))
        exact retM (rs := []) [] (hle739.trans (hle774.trans (hle1166.trans (hle1184.trans (hle1193.trans hle1204))))) (by decide) rfl trivial rfl (hp' := (g6, Cl 138 [.slice A13 (l16).length c14, .slice A17 (l20).length c18, .slice A21 (l24).length c22, .slice A25 (l28).length c26, .slice A29 (l32).length c30, .slice A1169 (l1174).length c1170, .int .i64 (x1200), .bool (x1201)]) :: (hs1168 ++ R)) (.cons_cons _ (.cons _ (.cons _ (.cons _ (.cons _ (.cons _ (sub_app hs1168 (.refl _)))))))) ⟨A1169, c1170, hs1168, rfl, rfl, he1206, hnz1175⟩
       ·
        rw [if_neg (fun hh => Bool.noConfusion (hh.symm.trans hc1199))] at hm
        refine c_skip ?_
        refine x_then_normal ?_
        obtain ⟨l1242, hj1244, hk1244⟩ := bindS hm
        refine c_join (fun b1235 e' hp' => ∃ (A1239 : Option Addr), ∃ (c1240 : Nat), ∃ (hs1238 : Hp), [(4, .pointer (some ⟨g712, 0, none⟩)), (5, .pointer (some ⟨g713, 0, none⟩)), (9, .pointer (some ⟨g1185, 0, none⟩)), (10, .slice A1239 (l1242).length c1240)] = e' ∧ (g712, Cl 136 [.pointer (some ⟨g6, 0, none⟩)]) :: (g713, Cl 3 [.int .i64 (x7)]) :: (g1185, Cl 43 [.int .i64 (x1182.Section), .int .i64 (x1182.In), .int .i64 (x1182.Out)]) :: (g714, Cl 29 [.slice A8 (l11).length c9]) :: (g740, Cl 3 [.int .i64 (x741)]) :: (g6, Cl 138 [.slice A13 (l16).length c14, .slice A17 (l20).length c18, .slice A21 (l24).length c22, .slice A25 (l28).length c26, .slice A29 (l32).length c30, .slice A1169 (l1174).length c1170, .int .i64 (x1172), .bool (x1173)]) :: (l1181, Lb r1180) :: (hs1238 ++ (hs1168 ++ R)) = hp' ∧ b1192.Le b1235 ∧ OS 43 (OT.fr rApiStep) b1235.w (.slice A1239 l1242.length c1240) l1242 hs1238 ∧ (A1239 = none ↔ l1242 = [])) ?_ ?_
        ·
         have hm := hj1244
         obtain ⟨l1259, hcl1260, hm⟩ := bindS hm
         obtain ⟨_, h1268, hm⟩ := bindS hm
         refine D_drawS ((g712, Cl 136 [.pointer (some ⟨g6, 0, none⟩)]) :: (g713, Cl 3 [.int .i64 (x7)]) :: (g714, Cl 29 [.slice A8 (l11).length c9]) :: (g1185, Cl 43 [.int .i64 (x1182.Section), .int .i64 (x1182.In), .int .i64 (x1182.Out)]) :: (g740, Cl 3 [.int .i64 (x741)]) :: (g6, Cl 138 [.slice A13 (l16).length c14, .slice A17 (l20).length c18, .slice A21 (l24).length c22, .slice A25 (l28).length c26, .slice A29 (l32).length c30, .slice A1169 (l1174).length c1170, .int .i64 (x1172), .bool (x1173)]) :: (l1181, Lb r1180) :: (hs1168 ++ R)) mixed ?_
         refine E_in (.cons_cons _ (.cons_cons _ (.cons_cons _ (.cons_cons _ (.cons_cons _ (.cons_cons _ (.cons_cons _ (sub_app hs1168 (.refl _))))))))) ?_
         refine E_st 0 rfl (st_load 2 rfl one29 rfl rfl) ?_
         refine E_st 2 rfl (st_loadD (vs := [_, _, _]) 3 3 rfl agg43 rfl rfl rfl) ?_
         refine E_out ?_
         refine D_all [1, 3] (by kernel_rfl) rfl ?_
         refine R_callGl (Base.Le.refl _) rfl rfl _ call76 rfl (cSlicesClone _ _ l11 A8 c9 (h10.le (hle739.trans (hle774.trans (hle1166.trans (hle1184.trans hle1193))))) l1259 hcl1260) ?_ ?_
         ·
          rintro _ b1261 _ hle1262 ⟨A1263, c1264, hs1265, rfl, rfl, h1266⟩
          refine ⟨.inr (sub_skip hs1265 (.cons_cons _ (.cons_cons _ (.cons_cons _ (.cons_cons _ (.cons_cons _ (.cons_cons _ (.cons_cons _ (sub_app hs1168 (.refl _)))))))))), ?_⟩
          refine d_in1 [] [_, _, _, _, _, _, _] hs1265 (hs1168 ++ R) rfl ?_
          refine D_all [3] (by kernel_rfl) rfl ?_
          refine R_do hle1262 rfl rfl (u_bslice (el := 43) [(0, .agg #[.int .i64 (x1182.Section), .int .i64 (x1182.In), .int .i64 (x1182.Out)])] [.int .i64 (x1182.Section), .int .i64 (x1182.In), .int .i64 (x1182.Out)] rfl (fun _ => by kernel_rfl)) ?_ ?_
          ·
           rintro _ _ ⟨g1267, rfl, rfl⟩
           refine ⟨.inr (.cons _ (.cons_cons _ (.cons_cons _ (.cons_cons _ (.cons_cons _ (.cons_cons _ (.cons_cons _ (.cons_cons _ (sub_skip hs1265 (sub_app hs1168 (.refl _))))))))))), ?_⟩
           have h1268 := room_some h1268
           refine D_all [4] (by kernel_rfl) rfl ?_
           refine R_do hle1262 rfl rfl (u_appOS (r := rApiStep) (l := l1259) [_, _, _, _, _, _, _, _] (hs1168 ++ R) [[.int .i64 (x1182.Section), .int .i64 (x1182.In), .int .i64 (x1182.Out)]] [x1182] rfl (by decide) sl29 inf43 rfl rfl rfl rfl h1266 rfl (fun w ho => Rd.own (i := 0) ho rfl) ⟨⟨[.int .i64 (x1182.Section)], _, rfl, rfl, ⟨[.int .i64 (x1182.In)], _, rfl, rfl, rfl⟩⟩, trivial⟩ h1268) ?_ ?_
           ·
            rintro _ _ ⟨hs1269, rfl, h1270⟩
            obtain ⟨A1271, c1272, rfl, _⟩ := h1270.form
            refine ⟨.inr (.cons _ (.cons_cons _ (.cons_cons _ (.cons_cons _ (.cons_cons _ (.cons_cons _ (.cons_cons _ (.cons_cons _ (sub_skip hs1269 (sub_app hs1168 (.refl _))))))))))), ?_⟩
            refine D_st hle1262 5 rfl (by kernel_rfl) (by kernel_rfl) (by kernel_rfl) rfl (st_assign rfl) (.cons _ (.cons_cons _ (.cons_cons _ (.cons_cons _ (.cons_cons _ (.cons_cons _ (.cons_cons _ (.cons_cons _ (sub_skip hs1269 (sub_app hs1168 (.refl _))))))))))) ?_
            refine D_done (by kernel_rfl) ?_
            obtain rfl := some1 hm
            refine x_pullb 7 rfl ?_
            refine x_pullb 7 rfl ?_
            refine x_pullb 7 rfl ?_
            refine x_pullb 6 rfl ?_
            refine x_pullb 7 rfl ?_
            refine x_pullb 7 rfl ?_
            refine x_pullb 7 rfl ?_
            refine x_front2 [_, _, _, _, _, _, _, _] hs1269 hs1168 R rfl ?_
            refine x_front2 [_, _, _, _, _, _, _, _] hs1168 hs1269 R rfl ?_
            exact x_join (e' := [(4, .pointer (some ⟨g712, 0, none⟩)), (5, .pointer (some ⟨g713, 0, none⟩)), (9, .pointer (some ⟨g1185, 0, none⟩)), (10, .slice A1271 (l1259 ++ [x1182]).length c1272)]) (hp' := (g712, Cl 136 [.pointer (some ⟨g6, 0, none⟩)]) :: (g713, Cl 3 [.int .i64 (x7)]) :: (g1185, Cl 43 [.int .i64 (x1182.Section), .int .i64 (x1182.In), .int .i64 (x1182.Out)]) :: (g714, Cl 29 [.slice A8 (l11).length c9]) :: (g740, Cl 3 [.int .i64 (x741)]) :: (g6, Cl 138 [.slice A13 (l16).length c14, .slice A17 (l20).length c18, .slice A21 (l24).length c22, .slice A25 (l28).length c26, .slice A29 (l32).length c30, .slice A1169 (l1174).length c1170, .int .i64 (x1172), .bool (x1173)]) :: (l1181, Lb r1180) :: (hs1269 ++ (hs1168 ++ R))) ⟨rfl, rfl, rfl, rfl, trivial⟩ (.cons_cons _ (.cons_cons _ (.cons_cons _ (.cons_cons _ (.cons_cons _ (.cons_cons _ (.cons_cons _ (.cons _ (sub_app hs1269 (sub_app hs1168 (.refl _))))))))))) ⟨A1271, c1272, hs1269, rfl, rfl, hle1262, h1270, (OS.nz h1270 (by simp))⟩
           exact R_nil
          exact R_nil
         refine R_do (Base.Le.refl _) rfl rfl (u_bslice (el := 43) [(0, .agg #[.int .i64 (x1182.Section), .int .i64 (x1182.In), .int .i64 (x1182.Out)])] [.int .i64 (x1182.Section), .int .i64 (x1182.In), .int .i64 (x1182.Out)] rfl (fun _ => by kernel_rfl)) ?_ ?_
         ·
          rintro _ _ ⟨g1267, rfl, rfl⟩
          refine ⟨.inr (.cons _ (.cons_cons _ (.cons_cons _ (.cons_cons _ (.cons_cons _ (.cons_cons _ (.cons_cons _ (.cons_cons _ (sub_app hs1168 (.refl _)))))))))), ?_⟩
          refine D_all [1] (by kernel_rfl) rfl ?_
          refine R_callGl (Base.Le.refl _) rfl rfl _ call76 rfl (cSlicesClone _ _ l11 A8 c9 (h10.le (hle739.trans (hle774.trans (hle1166.trans (hle1184.trans hle1193))))) l1259 hcl1260) ?_ ?_
          ·
           rintro _ b1261 _ hle1262 ⟨A1263, c1264, hs1265, rfl, rfl, h1266⟩
           refine ⟨.inr (sub_skip hs1265 (.cons _ (.cons_cons _ (.cons_cons _ (.cons_cons _ (.cons_cons _ (.cons_cons _ (.cons_cons _ (.cons_cons _ (sub_app hs1168 (.refl _))))))))))), ?_⟩
           refine d_in1 [] [_, _, _, _, _, _, _, _] hs1265 (hs1168 ++ R) rfl ?_
           have h1268 := room_some h1268
           refine D_all [4] (by kernel_rfl) rfl ?_
           refine R_do hle1262 rfl rfl (u_appOS (r := rApiStep) (l := l1259) [_, _, _, _, _, _, _, _] (hs1168 ++ R) [[.int .i64 (x1182.Section), .int .i64 (x1182.In), .int .i64 (x1182.Out)]] [x1182] rfl (by decide) sl29 inf43 rfl rfl rfl rfl h1266 rfl (fun w ho => Rd.own (i := 0) ho rfl) ⟨⟨[.int .i64 (x1182.Section)], _, rfl, rfl, ⟨[.int .i64 (x1182.In)], _, rfl, rfl, rfl⟩⟩, trivial⟩ h1268) ?_ ?_
           ·
            rintro _ _ ⟨hs1269, rfl, h1270⟩
            obtain ⟨A1271, c1272, rfl, _⟩ := h1270.form
            refine ⟨.inr (.cons _ (.cons_cons _ (.cons_cons _ (.cons_cons _ (.cons_cons _ (.cons_cons _ (.cons_cons _ (.cons_cons _ (sub_skip hs1269 (sub_app hs1168 (.refl _))))))))))), ?_⟩
            refine D_st hle1262 5 rfl (by kernel_rfl) (by kernel_rfl) (by kernel_rfl) rfl (st_assign rfl) (.cons _ (.cons_cons _ (.cons_cons _ (.cons_cons _ (.cons_cons _ (.cons_cons _ (.cons_cons _ (.cons_cons _ (sub_skip hs1269 (sub_app hs1168 (.refl _))))))))))) ?_
            refine D_done (by kernel_rfl) ?_
            obtain rfl := some1 hm
            refine x_pullb 7 rfl ?_
            refine x_pullb 7 rfl ?_
            refine x_pullb 7 rfl ?_
            refine x_pullb 6 rfl ?_
            refine x_pullb 7 rfl ?_
            refine x_pullb 7 rfl ?_
            refine x_pullb 7 rfl ?_
            refine x_front2 [_, _, _, _, _, _, _, _] hs1269 hs1168 R rfl ?_
            refine x_front2 [_, _, _, _, _, _, _, _] hs1168 hs1269 R rfl ?_
            exact x_join (e' := [(4, .pointer (some ⟨g712, 0, none⟩)), (5, .pointer (some ⟨g713, 0, none⟩)), (9, .pointer (some ⟨g1185, 0, none⟩)), (10, .slice A1271 (l1259 ++ [x1182]).length c1272)]) (hp' := (g712, Cl 136 [.pointer (some ⟨g6, 0, none⟩)]) :: (g713, Cl 3 [.int .i64 (x7)]) :: (g1185, Cl 43 [.int .i64 (x1182.Section), .int .i64 (x1182.In), .int .i64 (x1182.Out)]) :: (g714, Cl 29 [.slice A8 (l11).length c9]) :: (g740, Cl 3 [.int .i64 (x741)]) :: (g6, Cl 138 [.slice A13 (l16).length c14, .slice A17 (l20).length c18, .slice A21 (l24).length c22, .slice A25 (l28).length c26, .slice A29 (l32).length c30, .slice A1169 (l1174).length c1170, .int .i64 (x1172), .bool (x1173)]) :: (l1181, Lb r1180) :: (hs1269 ++ (hs1168 ++ R))) ⟨rfl, rfl, rfl, rfl, trivial⟩ (.cons_cons _ (.cons_cons _ (.cons_cons _ (.cons_cons _ (.cons_cons _ (.cons_cons _ (.cons_cons _ (.cons _ (sub_app hs1269 (sub_app hs1168 (.refl _))))))))))) ⟨A1271, c1272, hs1269, rfl, rfl, hle1262, h1270, (OS.nz h1270 (by simp))⟩
           exact R_nil
          exact R_nil
         exact R_nil
        ·
         rintro b1235 _ _ ⟨A1239, c1240, hs1238, rfl, rfl, hle1236, h1241, hnz1243⟩
         have hm := hk1244
         refine c_seq ?_
         refine c_seq ?_
         refine c_region ?_
         refine t_st rfl (st_move rfl) ?_
         refine t_st rfl (st_len rfl sl29) ?_
         refine t_st rfl (st_gtr rfl rfl) ?_
         refine t_nil ?_
         refine x_then_normal ?_
         refine c_cond _ rfl (fun hc1273 => ?_) (fun hc1273 => ?_)
         ·
          rw [if_pos (of_decide_eq_true hc1273)] at hm
          refine c_seq ?_
          refine c_region ?_
          refine t_st rfl (st_load 0 rfl one136 rfl rfl) ?_
          refine t_st rfl (st_nil rfl) ?_
          refine t_st rfl (st_field rfl fld138_3) ?_
          refine t_do rfl (u_store 5 rfl rfl siz4 rfl rfl (by simp)) ?_
          rintro _ _ rfl
          refine t_nil ?_
          refine x_then_normal ?_
          refine c_ret ?_
          refine x_then_ret ?_
          refine x_block_ret ?_
          refine x_leaveR 6 rfl (hle1193.trans hle1236) ?_
          refine c_ret ?_
          refine x_block_ret ?_
          have hq1274 := houtL777 _ (Option.some.inj hm).symm
          rw [hq1274] at hk1178
          have hm := elimR hk1178
          obtain ⟨rfl, rfl, rfl⟩ := some3 hm
          refine x_pullb 5 rfl ?_
          refine x_front2 [_, _, _, _, _, _] hs1238 hs1168 R rfl ?_
          have he1275 := (h1171.le (hle1184.trans (hle1193.trans hle1236)))
          exact retM (rs := []) [] (hle739.trans (hle774.trans (hle1166.trans (hle1184.trans (hle1193.trans hle1236))))) (by decide) rfl trivial rfl (hp' := (g6, Cl 138 [.slice A13 (l16).length c14, .slice A17 (l20).length c18, .slice A21 (l24).length c22, .slice A25 (l28).length c26, .slice A29 (l32).length c30, .slice A1169 (l1174).length c1170, .int .i64 (x1172), .bool (true)]) :: (hs1168 ++ R)) (.cons_cons _ (.cons _ (.cons _ (.cons _ (.cons _ (.cons _ (sub_app hs1168 (sub_skip hs1238 (.refl _))))))))) ⟨A1169, c1170, hs1168, rfl, rfl, he1275, hnz1175⟩
         ·
          rw [if_neg (of_decide_eq_false hc1273)] at hm
          refine c_skip ?_
          refine x_then_normal ?_
          refine c_seq ?_
          refine c_region ?_
          refine t_st rfl (st_field rfl fld43_0) ?_
          refine t_st rfl (st_load 2 rfl one3 rfl rfl) ?_
          refine t_st rfl (st_field rfl fld43_2) ?_
          refine t_st rfl (st_load 2 rfl one3 rfl rfl) ?_
          refine t_st rfl (st_build (v := .agg #[.int .i64 (x1182.Section), .int .i64 (x1182.Out)]) [(0, .int .i64 (x1182.Section)), (1, .int .i64 (x1182.Out))] rfl (fun _ => by kernel_rfl)) ?_
          refine t_do rfl (u_alloc [.int .i64 0, .int .i64 0] zero77 rfl) ?_
          rintro _ _ ⟨g1276, rfl, rfl⟩
          refine t_do rfl (u_storeN (vs := [_, _]) 0 2 rfl rfl rfl siz77 rfl (by intro u hu; simp only [List.mem_cons, List.not_mem_nil, or_false] at hu; rcases hu with rfl | rfl <;> rfl) rfl (by simp)) ?_
          rintro _ _ rfl
          refine t_nil ?_
          refine x_then_normal ?_
          refine c_seq ?_
          obtain ⟨x1279, hcl1280, hm⟩ := bindS hm
          refine D_drawS ((g1276, Cl 77 [.int .i64 (x1182.Section), .int .i64 (x1182.Out)]) :: (g712, Cl 136 [.pointer (some ⟨g6, 0, none⟩)]) :: (g713, Cl 3 [.int .i64 (x7)]) :: (g1185, Cl 43 [.int .i64 (x1182.Section), .int .i64 (x1182.In), .int .i64 (x1182.Out)]) :: (g714, Cl 29 [.slice A8 (l11).length c9]) :: (g740, Cl 3 [.int .i64 (x741)]) :: (g6, Cl 138 [.slice A13 (l16).length c14, .slice A17 (l20).length c18, .slice A21 (l24).length c22, .slice A25 (l28).length c26, .slice A29 (l32).length c30, .slice A1169 (l1174).length c1170, .int .i64 (x1172), .bool (x1173)]) :: (l1181, Lb r1180) :: (hs1238 ++ (hs1168 ++ R))) mixed ?_
          refine E_in (.cons_cons _ (.cons_cons _ (.cons_cons _ (.cons_cons _ (.cons_cons _ (.cons_cons _ (.cons_cons _ (.cons_cons _ (sub_app hs1238 (sub_app hs1168 (.refl _))))))))))) ?_
          refine E_st 0 rfl (st_load 1 rfl one136 rfl rfl) ?_
          refine E_st 1 rfl (st_nil rfl) ?_
          refine E_st 2 rfl (st_field rfl fld138_0) ?_
          refine E_st 3 rfl (st_loadD (vs := [_, _, _, _, _]) 6 5 rfl agg28 rfl rfl rfl) ?_
          refine E_st 4 rfl (st_loadD (vs := [_, _]) 0 2 rfl agg77 rfl rfl rfl) ?_
          refine E_out ?_
          refine D_all [5] (by kernel_rfl) rfl ?_
          refine R_do (Base.Le.refl _) rfl rfl (u_callW0 _ call63 rfl (fun w ho => cLineSignal _ [] (⟨l16, l20, l24, l28, l32⟩ : ApiNet) (⟨x1182.Section, x1182.Out⟩ : LineEnd) A13 c14 A17 c18 A21 c22 A25 c26 A29 c30 ((h15.le (hle739.trans (hle774.trans (hle1166.trans (hle1184.trans (hle1193.trans hle1236)))))).old ho) ((h19.le (hle739.trans (hle774.trans (hle1166.trans (hle1184.trans (hle1193.trans hle1236)))))).old ho) ((h23.le (hle739.trans (hle774.trans (hle1166.trans (hle1184.trans (hle1193.trans hle1236)))))).old ho) ((h27.le (hle739.trans (hle774.trans (hle1166.trans (hle1184.trans (hle1193.trans hle1236)))))).old ho) ((h31.le (hle739.trans (hle774.trans (hle1166.trans (hle1184.trans (hle1193.trans hle1236)))))).old ho) x1279 hcl1280) (fun _ _ _ h => h.2.symm)) ?_ ?_
          ·
           rintro _ _ ⟨⟨_, rfl, _⟩, rfl⟩
           refine ⟨.inr (.cons_cons _ (.cons_cons _ (.cons_cons _ (.cons_cons _ (.cons_cons _ (.cons_cons _ (.cons_cons _ (.cons_cons _ (sub_app hs1238 (sub_app hs1168 (.refl _))))))))))), ?_⟩
           refine E_in (.cons_cons _ (.cons_cons _ (.cons_cons _ (.cons_cons _ (.cons_cons _ (.cons_cons _ (.cons_cons _ (.cons_cons _ (sub_app hs1238 (sub_app hs1168 (.refl _))))))))))) ?_
           refine E_st 6 rfl (st_assign rfl) ?_
           refine E_out ?_
           refine D_done (by kernel_rfl) ?_
           refine x_then_normal ?_
           refine c_seq ?_
           obtain ⟨x1297, hj1298, hk1298⟩ := bindS hm
           refine c_join (fun b1295 e' hp' => [(4, .pointer (some ⟨g712, 0, none⟩)), (5, .pointer (some ⟨g713, 0, none⟩)), (10, .slice A1239 (l1242).length c1240), (11, .pointer (some ⟨g1276, 0, none⟩)), (12, .int .i64 (x1279)), (14, .bool (x1297))] = e' ∧ (g712, Cl 136 [.pointer (some ⟨g6, 0, none⟩)]) :: (g713, Cl 3 [.int .i64 (x7)]) :: (g1276, Cl 77 [.int .i64 (x1182.Section), .int .i64 (x1182.Out)]) :: (g714, Cl 29 [.slice A8 (l11).length c9]) :: (g740, Cl 3 [.int .i64 (x741)]) :: (g6, Cl 138 [.slice A13 (l16).length c14, .slice A17 (l20).length c18, .slice A21 (l24).length c22, .slice A25 (l28).length c26, .slice A29 (l32).length c30, .slice A1169 (l1174).length c1170, .int .i64 (x1172), .bool (x1173)]) :: (l1181, Lb r1180) :: (hs1238 ++ (hs1168 ++ R)) = hp' ∧ b1235.Le b1295) ?_ ?_
           ·
            have hm := hj1298
            obtain ⟨⟨x1306, x1307, x1308⟩, hcl1309, hm⟩ := bindS hm
            have hm := (unc3E hm)
            refine D_drawS ((g1276, Cl 77 [.int .i64 (x1182.Section), .int .i64 (x1182.Out)]) :: (g712, Cl 136 [.pointer (some ⟨g6, 0, none⟩)]) :: (g713, Cl 3 [.int .i64 (x7)]) :: (g1185, Cl 43 [.int .i64 (x1182.Section), .int .i64 (x1182.In), .int .i64 (x1182.Out)]) :: (g714, Cl 29 [.slice A8 (l11).length c9]) :: (g740, Cl 3 [.int .i64 (x741)]) :: (g6, Cl 138 [.slice A13 (l16).length c14, .slice A17 (l20).length c18, .slice A21 (l24).length c22, .slice A25 (l28).length c26, .slice A29 (l32).length c30, .slice A1169 (l1174).length c1170, .int .i64 (x1172), .bool (x1173)]) :: (l1181, Lb r1180) :: (hs1238 ++ (hs1168 ++ R))) mixed ?_
            refine E_in (.cons_cons _ (.cons_cons _ (.cons_cons _ (.cons_cons _ (.cons_cons _ (.cons_cons _ (.cons_cons _ (.cons_cons _ (sub_app hs1238 (sub_app hs1168 (.refl _))))))))))) ?_
            refine E_st 0 rfl (st_load 1 rfl one136 rfl rfl) ?_
            refine E_st 1 rfl (st_nil rfl) ?_
            refine E_st 2 rfl (st_field rfl fld138_0) ?_
            refine E_st 3 rfl (st_loadD (vs := [_, _, _, _, _]) 6 5 rfl agg28 rfl rfl rfl) ?_
            refine E_st 4 rfl (st_loadD (vs := [_, _]) 0 2 rfl agg77 rfl rfl rfl) ?_
            refine E_out ?_
            refine D_all [5, 9] (by kernel_rfl) rfl ?_
            refine R_callGl (Base.Le.refl _) rfl rfl _ call27 rfl (cLineJoined _ _ (⟨l16, l20, l24, l28, l32⟩ : ApiNet) (⟨x1182.Section, x1182.Out⟩ : LineEnd) A13 c14 A17 c18 A21 c22 A25 c26 A29 c30 (h15.le (hle739.trans (hle774.trans (hle1166.trans (hle1184.trans (hle1193.trans hle1236)))))) (h19.le (hle739.trans (hle774.trans (hle1166.trans (hle1184.trans (hle1193.trans hle1236)))))) (h23.le (hle739.trans (hle774.trans (hle1166.trans (hle1184.trans (hle1193.trans hle1236)))))) (h27.le (hle739.trans (hle774.trans (hle1166.trans (hle1184.trans (hle1193.trans hle1236)))))) (h31.le (hle739.trans (hle774.trans (hle1166.trans (hle1184.trans (hle1193.trans hle1236)))))) x1306 x1307 x1308 hcl1309) ?_ ?_
            ·
             rintro _ b1310 _ hle1311 ⟨rfl, rfl⟩
             refine ⟨.inr (.cons_cons _ (.cons_cons _ (.cons_cons _ (.cons_cons _ (.cons_cons _ (.cons_cons _ (.cons_cons _ (.cons_cons _ (sub_app hs1238 (sub_app hs1168 (.refl _))))))))))), ?_⟩
             refine D_st hle1311 6 rfl (by kernel_rfl) (by kernel_rfl) (by kernel_rfl) rfl (st_move rfl) (.cons_cons _ (.cons_cons _ (.cons_cons _ (.cons_cons _ (.cons_cons _ (.cons_cons _ (.cons_cons _ (.cons_cons _ (sub_app hs1238 (sub_app hs1168 (.refl _))))))))))) ?_
             refine D_st hle1311 7 rfl (by kernel_rfl) (by kernel_rfl) (by kernel_rfl) rfl (st_extract rfl rfl) (.cons_cons _ (.cons_cons _ (.cons_cons _ (.cons_cons _ (.cons_cons _ (.cons_cons _ (.cons_cons _ (.cons_cons _ (sub_app hs1238 (sub_app hs1168 (.refl _))))))))))) ?_
             refine D_st hle1311 8 rfl (by kernel_rfl) (by kernel_rfl) (by kernel_rfl) rfl (st_extract rfl rfl) (.cons_cons _ (.cons_cons _ (.cons_cons _ (.cons_cons _ (.cons_cons _ (.cons_cons _ (.cons_cons _ (.cons_cons _ (sub_app hs1238 (sub_app hs1168 (.refl _))))))))))) ?_
             refine D_all [9] (by kernel_rfl) rfl ?_
             refine R_do hle1311 rfl rfl (u_alloc [.int .i64 0, .int .i64 0] zero77 rfl) ?_ ?_
             ·
              rintro _ _ ⟨g1312, rfl, rfl⟩
              refine ⟨.inr (.cons _ (.cons_cons _ (.cons_cons _ (.cons_cons _ (.cons_cons _ (.cons_cons _ (.cons_cons _ (.cons_cons _ (.cons_cons _ (sub_app hs1238 (sub_app hs1168 (.refl _)))))))))))), ?_⟩
              refine D_all [10] (by kernel_rfl) rfl ?_
              refine R_do hle1311 rfl rfl (u_storeN (vs := [_, _]) 0 2 rfl rfl rfl siz77 rfl (by intro u hu; simp only [List.mem_cons, List.not_mem_nil, or_false] at hu; rcases hu with rfl | rfl <;> rfl) rfl (by simp)) ?_ ?_
              ·
               rintro _ _ rfl
               refine ⟨.inr (.cons _ (.cons_cons _ (.cons_cons _ (.cons_cons _ (.cons_cons _ (.cons_cons _ (.cons_cons _ (.cons_cons _ (.cons_cons _ (sub_app hs1238 (sub_app hs1168 (.refl _)))))))))))), ?_⟩
               refine D_st hle1311 11 rfl (by kernel_rfl) (by kernel_rfl) (by kernel_rfl) rfl (st_assign rfl) (.cons _ (.cons_cons _ (.cons_cons _ (.cons_cons _ (.cons_cons _ (.cons_cons _ (.cons_cons _ (.cons_cons _ (.cons_cons _ (sub_app hs1238 (sub_app hs1168 (.refl _)))))))))))) ?_
               refine D_done (by kernel_rfl) ?_
               obtain rfl := some1 hm
               refine x_pullb 8 rfl ?_
               refine x_pullb 8 rfl ?_
               refine x_pullb 8 rfl ?_
               refine x_pullb 8 rfl ?_
               refine x_pullb 5 rfl ?_
               refine x_pullb 7 rfl ?_
               refine x_pullb 7 rfl ?_
               refine x_front2 [_, _, _, _, _, _, _, _, _] hs1238 hs1168 R rfl ?_
               refine x_front2 [_, _, _, _, _, _, _, _, _] hs1168 hs1238 R rfl ?_
               exact x_join (e' := [(4, .pointer (some ⟨g712, 0, none⟩)), (5, .pointer (some ⟨g713, 0, none⟩)), (10, .slice A1239 (l1242).length c1240), (11, .pointer (some ⟨g1276, 0, none⟩)), (12, .int .i64 (x1279)), (14, .bool (x1308))]) (hp' := (g712, Cl 136 [.pointer (some ⟨g6, 0, none⟩)]) :: (g713, Cl 3 [.int .i64 (x7)]) :: (g1276, Cl 77 [.int .i64 (x1182.Section), .int .i64 (x1182.Out)]) :: (g714, Cl 29 [.slice A8 (l11).length c9]) :: (g740, Cl 3 [.int .i64 (x741)]) :: (g6, Cl 138 [.slice A13 (l16).length c14, .slice A17 (l20).length c18, .slice A21 (l24).length c22, .slice A25 (l28).length c26, .slice A29 (l32).length c30, .slice A1169 (l1174).length c1170, .int .i64 (x1172), .bool (x1173)]) :: (l1181, Lb r1180) :: (hs1238 ++ (hs1168 ++ R))) ⟨rfl, rfl, rfl, rfl, rfl, rfl, trivial⟩ (.cons_cons _ (.cons_cons _ (.cons_cons _ (.cons_cons _ (.cons_cons _ (.cons_cons _ (.cons_cons _ (.cons _ (.cons _ (sub_app hs1238 (sub_app hs1168 (.refl _)))))))))))) ⟨rfl, rfl, hle1311⟩
              exact R_nil
             exact R_nil
            refine R_do (Base.Le.refl _) rfl rfl (u_alloc [.int .i64 0, .int .i64 0] zero77 rfl) ?_ ?_
            ·
             rintro _ _ ⟨g1312, rfl, rfl⟩
             refine ⟨.inr (.cons _ (.cons_cons _ (.cons_cons _ (.cons_cons _ (.cons_cons _ (.cons_cons _ (.cons_cons _ (.cons_cons _ (.cons_cons _ (sub_app hs1238 (sub_app hs1168 (.refl _)))))))))))), ?_⟩
             refine D_all [5] (by kernel_rfl) rfl ?_
             refine R_callGl (Base.Le.refl _) rfl rfl _ call27 rfl (cLineJoined _ _ (⟨l16, l20, l24, l28, l32⟩ : ApiNet) (⟨x1182.Section, x1182.Out⟩ : LineEnd) A13 c14 A17 c18 A21 c22 A25 c26 A29 c30 (h15.le (hle739.trans (hle774.trans (hle1166.trans (hle1184.trans (hle1193.trans hle1236)))))) (h19.le (hle739.trans (hle774.trans (hle1166.trans (hle1184.trans (hle1193.trans hle1236)))))) (h23.le (hle739.trans (hle774.trans (hle1166.trans (hle1184.trans (hle1193.trans hle1236)))))) (h27.le (hle739.trans (hle774.trans (hle1166.trans (hle1184.trans (hle1193.trans hle1236)))))) (h31.le (hle739.trans (hle774.trans (hle1166.trans (hle1184.trans (hle1193.trans hle1236)))))) x1306 x1307 x1308 hcl1309) ?_ ?_
             ·
              rintro _ b1310 _ hle1311 ⟨rfl, rfl⟩
              refine ⟨.inr (.cons _ (.cons_cons _ (.cons_cons _ (.cons_cons _ (.cons_cons _ (.cons_cons _ (.cons_cons _ (.cons_cons _ (.cons_cons _ (sub_app hs1238 (sub_app hs1168 (.refl _)))))))))))), ?_⟩
              refine D_st hle1311 6 rfl (by kernel_rfl) (by kernel_rfl) (by kernel_rfl) rfl (st_move rfl) (.cons _ (.cons_cons _ (.cons_cons _ (.cons_cons _ (.cons_cons _ (.cons_cons _ (.cons_cons _ (.cons_cons _ (.cons_cons _ (sub_app hs1238 (sub_app hs1168 (.refl _)))))))))))) ?_
              refine D_st hle1311 7 rfl (by kernel_rfl) (by kernel_rfl) (by kernel_rfl) rfl (st_extract rfl rfl) (.cons _ (.cons_cons _ (.cons_cons _ (.cons_cons _ (.cons_cons _ (.cons_cons _ (.cons_cons _ (.cons_cons _ (.cons_cons _ (sub_app hs1238 (sub_app hs1168 (.refl _)))))))))))) ?_
              refine D_st hle1311 8 rfl (by kernel_rfl) (by kernel_rfl) (by kernel_rfl) rfl (st_extract rfl rfl) (.cons _ (.cons_cons _ (.cons_cons _ (.cons_cons _ (.cons_cons _ (.cons_cons _ (.cons_cons _ (.cons_cons _ (.cons_cons _ (sub_app hs1238 (sub_app hs1168 (.refl _)))))))))))) ?_
              refine D_all [10] (by kernel_rfl) rfl ?_
              refine R_do hle1311 rfl rfl (u_storeN (vs := [_, _]) 0 2 rfl rfl rfl siz77 rfl (by intro u hu; simp only [List.mem_cons, List.not_mem_nil, or_false] at hu; rcases hu with rfl | rfl <;> rfl) rfl (by simp)) ?_ ?_
              ·
               rintro _ _ rfl
               refine ⟨.inr (.cons _ (.cons_cons _ (.cons_cons _ (.cons_cons _ (.cons_cons _ (.cons_cons _ (.cons_cons _ (.cons_cons _ (.cons_cons _ (sub_app hs1238 (sub_app hs1168 (.refl _)))))))))))), ?_⟩
               refine D_st hle1311 11 rfl (by kernel_rfl) (by kernel_rfl) (by kernel_rfl) rfl (st_assign rfl) (.cons _ (.cons_cons _ (.cons_cons _ (.cons_cons _ (.cons_cons _ (.cons_cons _ (.cons_cons _ (.cons_cons _ (.cons_cons _ (sub_app hs1238 (sub_app hs1168 (.refl _)))))))))))) ?_
               refine D_done (by kernel_rfl) ?_
               obtain rfl := some1 hm
               refine x_pullb 8 rfl ?_
               refine x_pullb 8 rfl ?_
               refine x_pullb 8 rfl ?_
               refine x_pullb 8 rfl ?_
               refine x_pullb 5 rfl ?_
               refine x_pullb 7 rfl ?_
               refine x_pullb 7 rfl ?_
               refine x_front2 [_, _, _, _, _, _, _, _, _] hs1238 hs1168 R rfl ?_
               refine x_front2 [_, _, _, _, _, _, _, _, _] hs1168 hs1238 R rfl ?_
               exact x_join (e' := [(4, .pointer (some ⟨g712, 0, none⟩)), (5, .pointer (some ⟨g713, 0, none⟩)), (10, .slice A1239 (l1242).length c1240), (11, .pointer (some ⟨g1276, 0, none⟩)), (12, .int .i64 (x1279)), (14, .bool (x1308))]) (hp' := (g712, Cl 136 [.pointer (some ⟨g6, 0, none⟩)]) :: (g713, Cl 3 [.int .i64 (x7)]) :: (g1276, Cl 77 [.int .i64 (x1182.Section), .int .i64 (x1182.Out)]) :: (g714, Cl 29 [.slice A8 (l11).length c9]) :: (g740, Cl 3 [.int .i64 (x741)]) :: (g6, Cl 138 [.slice A13 (l16).length c14, .slice A17 (l20).length c18, .slice A21 (l24).length c22, .slice A25 (l28).length c26, .slice A29 (l32).length c30, .slice A1169 (l1174).length c1170, .int .i64 (x1172), .bool (x1173)]) :: (l1181, Lb r1180) :: (hs1238 ++ (hs1168 ++ R))) ⟨rfl, rfl, rfl, rfl, rfl, rfl, trivial⟩ (.cons_cons _ (.cons_cons _ (.cons_cons _ (.cons_cons _ (.cons_cons _ (.cons_cons _ (.cons_cons _ (.cons _ (.cons _ (sub_app hs1238 (sub_app hs1168 (.refl _)))))))))))) ⟨rfl, rfl, hle1311⟩
              exact R_nil
             exact R_nil
            exact R_nil
           ·
            rintro b1295 _ _ ⟨rfl, rfl, hle1296⟩
            have hm := hk1298
            obtain ⟨x1316, hj1317, hk1317⟩ := bindS hm
            refine c_join (fun b1314 e' hp' => [(4, .pointer (some ⟨g712, 0, none⟩)), (5, .pointer (some ⟨g713, 0, none⟩)), (10, .slice A1239 (l1242).length c1240), (11, .pointer (some ⟨g1276, 0, none⟩)), (12, .int .i64 (x1279)), (82, .bool (x1316))] = e' ∧ (g712, Cl 136 [.pointer (some ⟨g6, 0, none⟩)]) :: (g713, Cl 3 [.int .i64 (x7)]) :: (g1276, Cl 77 [.int .i64 (x1182.Section), .int .i64 (x1182.Out)]) :: (g714, Cl 29 [.slice A8 (l11).length c9]) :: (g740, Cl 3 [.int .i64 (x741)]) :: (g6, Cl 138 [.slice A13 (l16).length c14, .slice A17 (l20).length c18, .slice A21 (l24).length c22, .slice A25 (l28).length c26, .slice A29 (l32).length c30, .slice A1169 (l1174).length c1170, .int .i64 (x1172), .bool (x1173)]) :: (l1181, Lb r1180) :: (hs1238 ++ (hs1168 ++ R)) = hp' ∧ b1295.Le b1314) ?_ ?_
            ·
             have hm := hj1317
             refine c_region ?_
             refine t_st rfl (st_move rfl) ?_
             rcases Bool.eq_false_or_eq_true x1297 with hc1318 | hc1318
             ·
              rw [if_pos hc1318] at hm
              refine t_resp 78 rfl (v' := .bool true) (by rw [hc1318] <;> rfl) ?_
              refine t_st rfl (st_move rfl) ?_
              refine t_yes 79 rfl rfl rfl ?_
              refine t_st rfl (st_move rfl) ?_
              refine t_yes 79 rfl rfl rfl ?_
              refine t_st rfl (st_lss rfl rfl) ?_
              refine t_st rfl (st_pick_t rfl rfl) ?_
              refine t_nil ?_
              obtain rfl := some1 hm
              refine x_pullb 6 rfl ?_
              refine x_pullb 6 rfl ?_
              refine x_pullb 6 rfl ?_
              refine x_pullb 6 rfl ?_
              refine x_pullb 6 rfl ?_
              refine x_pullb 6 rfl ?_
              refine x_pullb 6 rfl ?_
              refine x_front2 [_, _, _, _, _, _, _] hs1238 hs1168 R rfl ?_
              refine x_front2 [_, _, _, _, _, _, _] hs1168 hs1238 R rfl ?_
              exact x_join (e' := [(4, .pointer (some ⟨g712, 0, none⟩)), (5, .pointer (some ⟨g713, 0, none⟩)), (10, .slice A1239 (l1242).length c1240), (11, .pointer (some ⟨g1276, 0, none⟩)), (12, .int .i64 (x1279)), (82, .bool (decide (x1279 < 0)))]) (hp' := (g712, Cl 136 [.pointer (some ⟨g6, 0, none⟩)]) :: (g713, Cl 3 [.int .i64 (x7)]) :: (g1276, Cl 77 [.int .i64 (x1182.Section), .int .i64 (x1182.Out)]) :: (g714, Cl 29 [.slice A8 (l11).length c9]) :: (g740, Cl 3 [.int .i64 (x741)]) :: (g6, Cl 138 [.slice A13 (l16).length c14, .slice A17 (l20).length c18, .slice A21 (l24).length c22, .slice A25 (l28).length c26, .slice A29 (l32).length c30, .slice A1169 (l1174).length c1170, .int .i64 (x1172), .bool (x1173)]) :: (l1181, Lb r1180) :: (hs1238 ++ (hs1168 ++ R))) ⟨rfl, rfl, rfl, rfl, rfl, rfl, trivial⟩ (.cons_cons _ (.cons_cons _ (.cons_cons _ (.cons_cons _ (.cons_cons _ (.cons_cons _ (.cons_cons _ (sub_app hs1238 (sub_app hs1168 (.refl _)))))))))) ⟨rfl, rfl, (Base.Le.refl _)⟩
             ·
              rw [if_neg (fun hh => Bool.noConfusion (hh.symm.trans hc1318))] at hm
              refine t_resp 78 rfl (v' := .bool false) (by rw [hc1318] <;> rfl) ?_
              refine t_st rfl (st_move rfl) ?_
              refine t_no 79 rfl rfl rfl rfl rfl ?_
              refine t_no 79 rfl rfl rfl rfl rfl ?_
              refine t_st rfl (st_pick_f rfl rfl) ?_
              refine t_nil ?_
              obtain rfl := some1 hm
              refine x_pullb 6 rfl ?_
              refine x_pullb 6 rfl ?_
              refine x_pullb 6 rfl ?_
              refine x_pullb 6 rfl ?_
              refine x_pullb 6 rfl ?_
              refine x_pullb 6 rfl ?_
              refine x_pullb 6 rfl ?_
              refine x_front2 [_, _, _, _, _, _, _] hs1238 hs1168 R rfl ?_
              refine x_front2 [_, _, _, _, _, _, _] hs1168 hs1238 R rfl ?_
              exact x_join (e' := [(4, .pointer (some ⟨g712, 0, none⟩)), (5, .pointer (some ⟨g713, 0, none⟩)), (10, .slice A1239 (l1242).length c1240), (11, .pointer (some ⟨g1276, 0, none⟩)), (12, .int .i64 (x1279)), (82, .bool (false))]) (hp' := (g712, Cl 136 [.pointer (some ⟨g6, 0, none⟩)]) :: (g713, Cl 3 [.int .i64 (x7)]) :: (g1276, Cl 77 [.int .i64 (x1182.Section), .int .i64 (x1182.Out)]) :: (g714, Cl 29 [.slice A8 (l11).length c9]) :: (g740, Cl 3 [.int .i64 (x741)]) :: (g6, Cl 138 [.slice A13 (l16).length c14, .slice A17 (l20).length c18, .slice A21 (l24).length c22, .slice A25 (l28).length c26, .slice A29 (l32).length c30, .slice A1169 (l1174).length c1170, .int .i64 (x1172), .bool (x1173)]) :: (l1181, Lb r1180) :: (hs1238 ++ (hs1168 ++ R))) ⟨rfl, rfl, rfl, rfl, rfl, rfl, trivial⟩ (.cons_cons _ (.cons_cons _ (.cons_cons _ (.cons_cons _ (.cons_cons _ (.cons_cons _ (.cons_cons _ (sub_app hs1238 (sub_app hs1168 (.refl _)))))))))) ⟨rfl, rfl, (Base.Le.refl _)⟩
            ·
             rintro b1314 _ _ ⟨rfl, rfl, hle1315⟩
             have hm := hk1317
             refine c_cond _ rfl (fun hc1319 => ?_) (fun hc1319 => ?_)
             ·
              rw [if_pos hc1319] at hm
              refine c_seq ?_
              refine c_region ?_
              refine t_st rfl (st_load 0 rfl one136 rfl rfl) ?_
              refine t_st rfl (st_load 1 rfl one3 rfl rfl) ?_
              refine t_st rfl (st_move rfl) ?_
              refine t_st rfl (st_loadD (vs := [_, _]) 2 2 rfl agg77 rfl rfl rfl) ?_
              obtain ⟨⟨x1320, x1321, l1322⟩, hcl1323, hm⟩ := bindS hm
              obtain ⟨Nhcl1323, hcl1323⟩ := lim_some hcl1323
              have hm := (unc3E hm)
              refine t_pullb 5 rfl ?_
              refine t_front2 [_, _, _, _, _, _, _] hs1238 hs1168 R rfl ?_
              refine t_front2 [_, _, _, _, _, _, _] hs1168 hs1238 R rfl ?_
              refine t_out2 [_] [_, _, _, _, _, _] hs1238 hs1168 R rfl ?_
              refine t_callG _ rfl call61 rfl (cLineFinderGrow_2 Nhcl1323 _ _ x7 (⟨x1182.Section, x1182.Out⟩ : LineEnd) l16 l20 l24 l28 l32 x1172 x1173 l1242 l1174 g6 A13 c14 A17 c18 A21 c22 A25 c26 A29 c30 A1239 c1240 hs1238 A1169 c1170 hs1168 (h15.le (hle739.trans (hle774.trans (hle1166.trans (hle1184.trans (hle1193.trans (hle1236.trans (hle1296.trans hle1315)))))))) (h19.le (hle739.trans (hle774.trans (hle1166.trans (hle1184.trans (hle1193.trans (hle1236.trans (hle1296.trans hle1315)))))))) (h23.le (hle739.trans (hle774.trans (hle1166.trans (hle1184.trans (hle1193.trans (hle1236.trans (hle1296.trans hle1315)))))))) (h27.le (hle739.trans (hle774.trans (hle1166.trans (hle1184.trans (hle1193.trans (hle1236.trans (hle1296.trans hle1315)))))))) (h31.le (hle739.trans (hle774.trans (hle1166.trans (hle1184.trans (hle1193.trans (hle1236.trans (hle1296.trans hle1315)))))))) (h1241.le (hle1296.trans hle1315)) hnz1243 (h1171.le (hle1184.trans (hle1193.trans (hle1236.trans (hle1296.trans hle1315))))) hnz1175 x1320 x1321 l1322 hcl1323) ?_
              rintro _ b1324 _ hle1325 ⟨A1326, c1327, hs1328, rfl, rfl, h1329, h1330⟩
              refine t_in2 [_] [_, _, _, _, _, _] hs1238 hs1328 R rfl ?_
              refine t_nil ?_
              refine x_then_normal ?_
              refine c_exit ?_
              refine x_then_exit ?_
              refine x_block_out ?_
              refine x_pullb 5 rfl ?_
              refine x_pullb 5 rfl ?_
              refine x_pullb 4 rfl ?_
              refine x_pullb 4 rfl ?_
              refine x_front2 [_, _, _, _, _, _, _] hs1238 hs1328 R rfl ?_
              exact x_round 6 rfl (hle1193.trans (hle1236.trans (hle1296.trans (hle1315.trans hle1325)))) (hp' := (g712, Cl 136 [.pointer (some ⟨g6, 0, none⟩)]) :: (g713, Cl 3 [.int .i64 (x7)]) :: (g714, Cl 29 [.slice A8 (l11).length c9]) :: (g740, Cl 3 [.int .i64 (x741)]) :: (g6, Cl 138 [.slice A13 (l16).length c14, .slice A17 (l20).length c18, .slice A21 (l24).length c22, .slice A25 (l28).length c26, .slice A29 (l32).length c30, .slice A1326 (l1322).length c1327, .int .i64 (x1320), .bool (x1321)]) :: (hs1328 ++ R)) (.cons_cons _ (.cons_cons _ (.cons_cons _ (.cons_cons _ (.cons_cons _ (.cons _ (sub_app hs1328 (sub_skip hs1238 (.refl _))))))))) ⟨(x1320, x1321, l1322), (Option.some.inj hm).symm, ⟨A1326, c1327, hs1328, rfl, (hle1166.trans (hle1184.trans (hle1193.trans (hle1236.trans (hle1296.trans (hle1315.trans hle1325)))))), h1329, h1330⟩⟩
             ·
              rw [if_neg (fun hh => Bool.noConfusion (hh.symm.trans hc1319))] at hm
              refine c_skip ?_
              refine x_then_normal ?_
              obtain ⟨l1355, hj1357, hk1357⟩ := bindS hm
              refine c_join (fun b1348 e' hp' => ∃ (A1352 : Option Addr), ∃ (c1353 : Nat), ∃ (hs1351 : Hp), [(4, .pointer (some ⟨g712, 0, none⟩))] = e' ∧ (g712, Cl 136 [.pointer (some ⟨g6, 0, none⟩)]) :: (g713, Cl 3 [.int .i64 (x7)]) :: (g714, Cl 29 [.slice A8 (l11).length c9]) :: (g740, Cl 3 [.int .i64 (x741)]) :: (g6, Cl 138 [.slice A13 (l16).length c14, .slice A17 (l20).length c18, .slice A21 (l24).length c22, .slice A25 (l28).length c26, .slice A29 (l32).length c30, .slice A1352 (l1355).length c1353, .int .i64 (x1172), .bool (x1173)]) :: (l1181, Lb r1180) :: (hs1351 ++ R) = hp' ∧ b1314.Le b1348 ∧ OS 72 (OT.fr rApiRoute) b1348.w (.slice A1352 l1355.length c1353) l1355 hs1351 ∧ (A1352 = none ↔ l1355 = [])) ?_ ?_
              ·
               have hm := hj1357
               refine c_frz [_, _, _, _, _, _, _] hs1238 (hs1168 ++ R) rfl ?_
               intro b1359 hle1360 hz1361
               have h1362 := OS.frz (l := l1242) (h1241.le (hle1296.trans hle1315)) hle1360.cells hz1361
               obtain ⟨_, h1370, hm⟩ := bindS hm
               refine D_drawS ((g712, Cl 136 [.pointer (some ⟨g6, 0, none⟩)]) :: (g713, Cl 3 [.int .i64 (x7)]) :: (g1276, Cl 77 [.int .i64 (x1182.Section), .int .i64 (x1182.Out)]) :: (g714, Cl 29 [.slice A8 (l11).length c9]) :: (g740, Cl 3 [.int .i64 (x741)]) :: (l1181, Lb r1180) :: R) mixed ?_
               refine E_in (.cons_cons _ (.cons_cons _ (.cons_cons _ (.cons_cons _ (.cons_cons _ (.cons _ (.cons_cons _ (sub_skip hs1168 (.refl _))))))))) ?_
               refine E_st 0 rfl (st_load 0 rfl one136 rfl rfl) ?_
               refine E_st 1 rfl (st_load 0 rfl one136 rfl rfl) ?_
               refine E_st 2 rfl (st_nil rfl) ?_
               refine E_st 3 rfl (st_field rfl fld138_1) ?_
               refine E_st 5 rfl (st_load 1 rfl one3 rfl rfl) ?_
               refine E_st 6 rfl (st_move rfl) ?_
               refine E_st 7 rfl (st_move rfl) ?_
               refine E_st 8 rfl (st_build (v := .agg #[.int .i64 (x7), .int .i64 (x1279), .slice A1239 (l1242).length c1240]) [(0, .int .i64 (x7)), (1, .int .i64 (x1279)), (2, .slice A1239 (l1242).length c1240)] rfl (fun _ => by kernel_rfl)) ?_
               refine E_out ?_
               refine D_all [4, 9] (by kernel_rfl) rfl ?_
               refine R_do (Base.Le.refl _) rfl rfl (Stable.does (st_load 5 rfl one68 rfl rfl)) ?_ ?_
               ·
                rintro _ _ ⟨rfl, rfl⟩
                refine ⟨.inr (.cons_cons _ (.cons_cons _ (.cons_cons _ (.cons_cons _ (.cons_cons _ (.cons _ (.cons_cons _ (sub_skip hs1168 (.refl _))))))))), ?_⟩
                refine D_all [9] (by kernel_rfl) rfl ?_
                refine R_do (Base.Le.refl _) rfl rfl (u_bslice (el := 72) [(0, .agg #[.int .i64 (x7), .int .i64 (x1279), .slice A1239 (l1242).length c1240])] [.int .i64 (x7), .int .i64 (x1279), .slice A1239 (l1242).length c1240] rfl (fun _ => by kernel_rfl)) ?_ ?_
                ·
                 rintro _ _ ⟨g1369, rfl, rfl⟩
                 refine ⟨.inr (.cons _ (.cons_cons _ (.cons_cons _ (.cons_cons _ (.cons_cons _ (.cons_cons _ (.cons _ (.cons_cons _ (sub_skip hs1168 (.refl _)))))))))), ?_⟩
                 have h1370 := room_some h1370
                 refine D_all [10] (by kernel_rfl) rfl ?_
                 refine R_do (Base.Le.refl _) rfl rfl (u_appOS (r := rApiRoute) (l := l1174) [_, _, _, _, _, _, _, _] R [[.int .i64 (x7), .int .i64 (x1279), .slice A1239 (l1242).length c1240]] [(⟨x7, x1279, l1242⟩ : ApiRoute)] rfl (by decide) sl68 inf72 rfl rfl rfl rfl (h1171.le (hle1184.trans (hle1193.trans (hle1236.trans (hle1296.trans (hle1315.trans hle1360)))))) rfl (fun w ho => Rd.own (i := 0) ho rfl) ⟨⟨[.int .i64 (x7)], _, rfl, rfl, ⟨[.int .i64 (x1279)], _, rfl, rfl, (RT.list_mk h1362)⟩⟩, trivial⟩ h1370) ?_ ?_
                 ·
                  rintro _ _ ⟨hs1371, rfl, h1372⟩
                  obtain ⟨A1373, c1374, rfl, _⟩ := h1372.form
                  refine ⟨.inr (.cons _ (.cons_cons _ (.cons_cons _ (.cons_cons _ (.cons_cons _ (.cons_cons _ (.cons _ (.cons_cons _ (sub_skip hs1371 (.refl _)))))))))), ?_⟩
                  refine E_in (.cons _ (.cons_cons _ (.cons_cons _ (.cons_cons _ (.cons_cons _ (.cons_cons _ (.cons _ (.cons_cons _ (sub_skip hs1371 (.refl _)))))))))) ?_
                  refine E_st 11 rfl (st_nil rfl) ?_
                  refine E_st 12 rfl (st_field rfl fld138_1) ?_
                  refine E_out ?_
                  refine D_all [13] (by kernel_rfl) rfl ?_
                  refine R_do (Base.Le.refl _) rfl rfl (u_store 6 rfl rfl siz68 rfl rfl (by simp)) ?_ ?_
                  ·
                   rintro _ _ rfl
                   refine ⟨.inr (.cons _ (.cons_cons _ (.cons_cons _ (.cons_cons _ (.cons_cons _ (.cons_cons _ (.cons _ (.cons_cons _ (sub_skip hs1371 (.refl _)))))))))), ?_⟩
                   refine D_done (by kernel_rfl) ?_
                   obtain rfl := some1 hm
                   refine x_pullb 7 rfl ?_
                   refine x_pullb 7 rfl ?_
                   refine x_pullb 7 rfl ?_
                   refine x_pullb 7 rfl ?_
                   refine x_pullb 6 rfl ?_
                   refine x_pullb 6 rfl ?_
                   exact x_join (e' := [(4, .pointer (some ⟨g712, 0, none⟩))]) (hp' := (g712, Cl 136 [.pointer (some ⟨g6, 0, none⟩)]) :: (g713, Cl 3 [.int .i64 (x7)]) :: (g714, Cl 29 [.slice A8 (l11).length c9]) :: (g740, Cl 3 [.int .i64 (x741)]) :: (g6, Cl 138 [.slice A13 (l16).length c14, .slice A17 (l20).length c18, .slice A21 (l24).length c22, .slice A25 (l28).length c26, .slice A29 (l32).length c30, .slice A1373 (l1174 ++ [(⟨x7, x1279, l1242⟩ : ApiRoute)]).length c1374, .int .i64 (x1172), .bool (x1173)]) :: (l1181, Lb r1180) :: (hs1371 ++ R)) ⟨rfl, trivial⟩ (.cons_cons _ (.cons_cons _ (.cons_cons _ (.cons_cons _ (.cons_cons _ (.cons_cons _ (.cons _ (.cons _ (sub_app hs1371 (.refl _)))))))))) ⟨A1373, c1374, hs1371, rfl, rfl, hle1360, h1372, (OS.nz h1372 (by simp))⟩
                  exact R_nil
                 exact R_nil
                exact R_nil
               refine R_do (Base.Le.refl _) rfl rfl (u_bslice (el := 72) [(0, .agg #[.int .i64 (x7), .int .i64 (x1279), .slice A1239 (l1242).length c1240])] [.int .i64 (x7), .int .i64 (x1279), .slice A1239 (l1242).length c1240] rfl (fun _ => by kernel_rfl)) ?_ ?_
               ·
                rintro _ _ ⟨g1369, rfl, rfl⟩
                refine ⟨.inr (.cons _ (.cons_cons _ (.cons_cons _ (.cons_cons _ (.cons_cons _ (.cons_cons _ (.cons _ (.cons_cons _ (sub_skip hs1168 (.refl _)))))))))), ?_⟩
                refine D_all [4] (by kernel_rfl) rfl ?_
                refine R_do (Base.Le.refl _) rfl rfl (Stable.does (st_load 6 rfl one68 rfl rfl)) ?_ ?_
                ·
                 rintro _ _ ⟨rfl, rfl⟩
                 refine ⟨.inr (.cons _ (.cons_cons _ (.cons_cons _ (.cons_cons _ (.cons_cons _ (.cons_cons _ (.cons _ (.cons_cons _ (sub_skip hs1168 (.refl _)))))))))), ?_⟩
                 have h1370 := room_some h1370
                 refine D_all [10] (by kernel_rfl) rfl ?_
                 refine R_do (Base.Le.refl _) rfl rfl (u_appOS (r := rApiRoute) (l := l1174) [_, _, _, _, _, _, _, _] R [[.int .i64 (x7), .int .i64 (x1279), .slice A1239 (l1242).length c1240]] [(⟨x7, x1279, l1242⟩ : ApiRoute)] rfl (by decide) sl68 inf72 rfl rfl rfl rfl (h1171.le (hle1184.trans (hle1193.trans (hle1236.trans (hle1296.trans (hle1315.trans hle1360)))))) rfl (fun w ho => Rd.own (i := 0) ho rfl) ⟨⟨[.int .i64 (x7)], _, rfl, rfl, ⟨[.int .i64 (x1279)], _, rfl, rfl, (RT.list_mk h1362)⟩⟩, trivial⟩ h1370) ?_ ?_
                 ·
                  rintro _ _ ⟨hs1371, rfl, h1372⟩
                  obtain ⟨A1373, c1374, rfl, _⟩ := h1372.form
                  refine ⟨.inr (.cons _ (.cons_cons _ (.cons_cons _ (.cons_cons _ (.cons_cons _ (.cons_cons _ (.cons _ (.cons_cons _ (sub_skip hs1371 (.refl _)))))))))), ?_⟩
                  refine E_in (.cons _ (.cons_cons _ (.cons_cons _ (.cons_cons _ (.cons_cons _ (.cons_cons _ (.cons _ (.cons_cons _ (sub_skip hs1371 (.refl _)))))))))) ?_
                  refine E_st 11 rfl (st_nil rfl) ?_
                  refine E_st 12 rfl (st_field rfl fld138_1) ?_
                  refine E_out ?_
                  refine D_all [13] (by kernel_rfl) rfl ?_
                  refine R_do (Base.Le.refl _) rfl rfl (u_store 6 rfl rfl siz68 rfl rfl (by simp)) ?_ ?_
                  ·
                   rintro _ _ rfl
                   refine ⟨.inr (.cons _ (.cons_cons _ (.cons_cons _ (.cons_cons _ (.cons_cons _ (.cons_cons _ (.cons _ (.cons_cons _ (sub_skip hs1371 (.refl _)))))))))), ?_⟩
                   refine D_done (by kernel_rfl) ?_
                   obtain rfl := some1 hm
                   refine x_pullb 7 rfl ?_
                   refine x_pullb 7 rfl ?_
                   refine x_pullb 7 rfl ?_
                   refine x_pullb 7 rfl ?_
                   refine x_pullb 6 rfl ?_
                   refine x_pullb 6 rfl ?_
                   exact x_join (e' := [(4, .pointer (some ⟨g712, 0, none⟩))]) (hp' := (g712, Cl 136 [.pointer (some ⟨g6, 0, none⟩)]) :: (g713, Cl 3 [.int .i64 (x7)]) :: (g714, Cl 29 [.slice A8 (l11).length c9]) :: (g740, Cl 3 [.int .i64 (x741)]) :: (g6, Cl 138 [.slice A13 (l16).length c14, .slice A17 (l20).length c18, .slice A21 (l24).length c22, .slice A25 (l28).length c26, .slice A29 (l32).length c30, .slice A1373 (l1174 ++ [(⟨x7, x1279, l1242⟩ : ApiRoute)]).length c1374, .int .i64 (x1172), .bool (x1173)]) :: (l1181, Lb r1180) :: (hs1371 ++ R)) ⟨rfl, trivial⟩ (.cons_cons _ (.cons_cons _ (.cons_cons _ (.cons_cons _ (.cons_cons _ (.cons_cons _ (.cons _ (.cons _ (sub_app hs1371 (.refl _)))))))))) ⟨A1373, c1374, hs1371, rfl, rfl, hle1360, h1372, (OS.nz h1372 (by simp))⟩
                  exact R_nil
                 exact R_nil
                exact R_nil
               exact R_nil
              ·
               rintro b1348 _ _ ⟨A1352, c1353, hs1351, rfl, rfl, hle1349, h1354, hnz1356⟩
               have hm := hk1357
               refine c_region ?_
               refine t_st rfl (st_load 0 rfl one136 rfl rfl) ?_
               obtain ⟨⟨x1375, x1376⟩, hcl1377, hm⟩ := bindS hm
               have hm := (unc2E hm)
               refine t_pullb 4 rfl ?_
               refine t_out1 [_] [_, _, _, _, _] hs1351 R rfl ?_
               refine t_callG _ rfl call75 rfl (cLineFinderCount _ _ l16 l20 l24 l28 l32 x1172 x1173 l1355 g6 A13 c14 A17 c18 A21 c22 A25 c26 A29 c30 A1352 c1353 hs1351 (h15.le (hle739.trans (hle774.trans (hle1166.trans (hle1184.trans (hle1193.trans (hle1236.trans (hle1296.trans (hle1315.trans hle1349))))))))) (h19.le (hle739.trans (hle774.trans (hle1166.trans (hle1184.trans (hle1193.trans (hle1236.trans (hle1296.trans (hle1315.trans hle1349))))))))) (h23.le (hle739.trans (hle774.trans (hle1166.trans (hle1184.trans (hle1193.trans (hle1236.trans (hle1296.trans (hle1315.trans hle1349))))))))) (h27.le (hle739.trans (hle774.trans (hle1166.trans (hle1184.trans (hle1193.trans (hle1236.trans (hle1296.trans (hle1315.trans hle1349))))))))) (h31.le (hle739.trans (hle774.trans (hle1166.trans (hle1184.trans (hle1193.trans (hle1236.trans (hle1296.trans (hle1315.trans hle1349))))))))) h1354 hnz1356 x1375 x1376 hcl1377) ?_
               rintro _ b1378 _ hle1379 ⟨rfl, rfl⟩
               refine t_in1 [_] [_, _, _, _, _] hs1351 R rfl ?_
               refine t_nil ?_
               refine x_block_normal ?_
               refine x_pullb 4 rfl ?_
               refine x_pullb 4 rfl ?_
               refine x_pullb 4 rfl ?_
               refine x_pullb 4 rfl ?_
               exact x_round 5 rfl (hle1193.trans (hle1236.trans (hle1296.trans (hle1315.trans (hle1349.trans hle1379))))) (hp' := (g712, Cl 136 [.pointer (some ⟨g6, 0, none⟩)]) :: (g713, Cl 3 [.int .i64 (x7)]) :: (g714, Cl 29 [.slice A8 (l11).length c9]) :: (g740, Cl 3 [.int .i64 (x741)]) :: (g6, Cl 138 [.slice A13 (l16).length c14, .slice A17 (l20).length c18, .slice A21 (l24).length c22, .slice A25 (l28).length c26, .slice A29 (l32).length c30, .slice A1352 (l1355).length c1353, .int .i64 (x1375), .bool (x1376)]) :: (hs1351 ++ R)) (.cons_cons _ (.cons_cons _ (.cons_cons _ (.cons_cons _ (.cons_cons _ (sub_app hs1351 (.refl _))))))) ⟨(x1375, x1376, l1355), (Option.some.inj hm).symm, ⟨A1352, c1353, hs1351, rfl, (hle1166.trans (hle1184.trans (hle1193.trans (hle1236.trans (hle1296.trans (hle1315.trans (hle1349.trans hle1379))))))), (h1354.le hle1379), hnz1356⟩⟩
          exact R_nil
    ·
     rintro ⟨x1172, x1173, l1174⟩ b1165 _ ⟨A1169, c1170, hs1168, rfl, hle1166, h1171, hnz1175⟩ hq1380
     rw [hq1380] at hk1178
     have hm := elimL hk1178
     have hm := (unc3E hm)
     refine x_block_normal ?_
     obtain ⟨rfl, rfl, rfl⟩ := some3 hm
     refine x_pullb 4 rfl ?_
     exact endM (hle739.trans (hle774.trans hle1166)) rfl (.cons_cons _ (.cons _ (.cons _ (.cons _ (.cons _ (sub_app hs1168 (.refl _))))))) ⟨A1169, c1170, hs1168, rfl, rfl, h1171, hnz1175⟩
   exact R_nil

set_option maxRecDepth 20000 in
theorem cLineRoutes_2 (b : Base) (R : Hp) (s1 : ApiNet) (A2 : Option Addr) (c3 : Nat) (A5 : Option Addr) (c6 : Nat) (A8 : Option Addr) (c9 : Nat) (A11 : Option Addr) (c12 : Nat) (A14 : Option Addr) (c15 : Nat) (h4 : FZ RT.str b.w A2 c3 s1.Stations) (h7 : FZ rApiSection b.w A5 c6 s1.Sections) (h10 : FZ rApiLink b.w A8 c9 s1.Links) (h13 : FZ rApiSignal b.w A11 c12 s1.Signals) (h16 : FZ rApiGate b.w A14 c15 s1.Gates) (x116 : Int) (l117 : (List ApiRoute)) (hm : mLineRoutes_2 s1 = some (x116, l117)) :
    CallsG Tryd.prog 43 [.agg #[.slice A2 (s1.Stations).length c3, .slice A5 (s1.Sections).length c6, .slice A8 (s1.Links).length c9, .slice A11 (s1.Signals).length c12, .slice A14 (s1.Gates).length c15]] b (R) (fun v b' hp' => ∃ (A113 : Option Addr), ∃ (c114 : Nat), ∃ (hs112 : Hp), .tuple #[.slice A113 (l117).length c114, .int .i64 (x116)] = v ∧ (hs112 ++ R) = hp' ∧ OS 72 (OT.fr rApiRoute) b'.w (.slice A113 l117.length c114) l117 hs112 ∧ (A113 = none ↔ l117 = [])) := by
  refine fn_enterG 35 Tryd.func43 rfl Tryd.ntmps43 rfl ?_
  unfold mLineRoutes_2 at hm
  refine c_seq ?_
  refine c_region ?_
  refine t_do rfl (u_box _ rfl rfl) ?_
  rintro _ _ ⟨g119, rfl, rfl⟩
  refine t_st rfl (st_assign rfl) ?_
  refine t_st rfl (st_assign rfl) ?_
  refine t_nil ?_
  refine x_then_normal ?_
  refine c_seq ?_
  refine c_region ?_
  refine t_st rfl (st_loadD (vs := [_, _, _, _, _]) 0 5 rfl agg28 rfl rfl rfl) ?_
  refine t_st rfl (st_build (v := .agg #[.slice A2 (s1.Stations).length c3, .slice A5 (s1.Sections).length c6, .slice A8 (s1.Links).length c9, .slice A11 (s1.Signals).length c12, .slice A14 (s1.Gates).length c15, .slice none 0 0, .int .i64 (0), .bool (false)]) [(0, .agg #[.slice A2 (s1.Stations).length c3, .slice A5 (s1.Sections).length c6, .slice A8 (s1.Links).length c9, .slice A11 (s1.Signals).length c12, .slice A14 (s1.Gates).length c15])] rfl (fun _ => by kernel_rfl)) ?_
  refine t_do rfl (u_box _ rfl rfl) ?_
  rintro _ _ ⟨g120, rfl, rfl⟩
  refine t_st rfl (st_assign rfl) ?_
  refine t_nil ?_
  refine x_then_normal ?_
  refine c_seq ?_
  refine c_seq ?_
  refine c_region ?_
  refine t_st rfl (st_field rfl fld28_3) ?_
  refine t_st rfl (st_load 1 rfl one25 rfl rfl) ?_
  refine t_st rfl (st_len rfl sl25) ?_
  refine t_st rfl (st_move rfl) ?_
  refine t_nil ?_
  refine x_then_normal ?_
  refine c_block ?_
  have hb122 : s1.Signals.length ≤ 9223372036854775807 := (FZ.bd h13)
  obtain ⟨⟨x183, x184, l185⟩, hl188, hk189⟩ := bindS hm
  refine c_forS (fun k187 => unc3 fun x183 x184 l185 => fun b176 e' hp' => ∃ (A180 : Option Addr), ∃ (c181 : Nat), ∃ (hs179 : Hp), [(4, .pointer (some ⟨g120, 0, none⟩)), (11, .slice A11 (s1.Signals).length c12), (12, .int .i64 ((s1.Signals.length : Int))), (13, .int .i64 ((k187 : Int)))] = e' ∧ (g120, Cl 138 [.slice A2 (s1.Stations).length c3, .slice A5 (s1.Sections).length c6, .slice A8 (s1.Links).length c9, .slice A11 (s1.Signals).length c12, .slice A14 (s1.Gates).length c15, .slice A180 (l185).length c181, .int .i64 (x183), .bool (x184)]) :: (hs179 ++ R) = hp' ∧ b.Le b176 ∧ OS 72 (OT.fr rApiRoute) b176.w (.slice A180 l185.length c181) l185 hs179 ∧ (A180 = none ↔ l185 = [])) hl188 (e' := [(4, .pointer (some ⟨g120, 0, none⟩)), (11, .slice A11 (s1.Signals).length c12), (12, .int .i64 ((s1.Signals.length : Int))), (13, .int .i64 0)]) (hp' := (g120, Cl 138 [.slice A2 (s1.Stations).length c3, .slice A5 (s1.Sections).length c6, .slice A8 (s1.Links).length c9, .slice A11 (s1.Signals).length c12, .slice A14 (s1.Gates).length c15, .slice none 0 0, .int .i64 (0), .bool (false)]) :: ([] ++ R)) ⟨rfl, rfl, rfl, rfl, trivial⟩ (.cons_cons _ (.cons _ (.refl _))) ⟨none, 0, [], rfl, rfl, (Base.Le.refl _), OS.nil, ⟨fun _ => rfl, fun _ => rfl⟩⟩ ?_ ?_
  ·
   rintro k187 ⟨x183, x184, l185⟩ b176 _ _ oL121 hknL121 ⟨A180, c181, hs179, rfl, rfl, hle177, h182, hnz186⟩ hstepL121
   unfold mLineRoutes_2_L121 at hstepL121
   have hm := (unc3E hstepL121)
   refine c_seq ?_
   refine c_region ?_
   refine t_st rfl (st_lss_t rfl rfl (by omega)) ?_
   refine t_nil ?_
   refine x_then_normal ?_
   refine c_seq ?_
   refine c_cond_t rfl ?_
   refine c_skip ?_
   refine x_then_normal ?_
   refine c_seq ?_
   refine c_block ?_
   refine c_seq ?_
   refine c_region ?_
   refine t_st rfl (st_move rfl) ?_
   obtain ⟨x190, h191, hm⟩ := bindS hm
   obtain ⟨j192, hj193, hx194⟩ := idx_some h191
   obtain ⟨cs195, hr196, hcs197, hA198, hlt199⟩ := FZ.get (sz := 2) rfl (by decide) (h13.le hle177) hx194
   obtain ⟨_, _, rfl, rfl, rfl⟩ := hr196
   refine t_st rfl (st_index_old j192 rfl rfl hj193 hlt199 hA198 sl25) ?_
   refine t_st rfl (st_loadN_old (vs := [.int .i64 (x190.Section), .int .i64 (x190.End)]) 2 rfl agg64 hA198 rfl (fun j u hu => hcs197 j u hu)) ?_
   refine t_do rfl (u_alloc [.int .i64 0, .int .i64 0] zero64 rfl) ?_
   rintro _ _ ⟨g200, rfl, rfl⟩
   refine t_st rfl (st_assign rfl) ?_
   refine t_do rfl (u_storeN (vs := [_, _]) 0 2 rfl rfl rfl siz64 rfl (by intro u hu; simp only [List.mem_cons, List.not_mem_nil, or_false] at hu; rcases hu with rfl | rfl <;> rfl) rfl (by simp)) ?_
   rintro _ _ rfl
   refine t_nil ?_
   refine x_then_normal ?_
   refine c_region ?_
   refine t_st rfl (st_move rfl) ?_
   refine t_st rfl (st_move rfl) ?_
   refine t_st rfl (st_field rfl fld64_0) ?_
   refine t_st rfl (st_load 0 rfl one3 rfl rfl) ?_
   refine t_st rfl (st_field rfl fld64_1) ?_
   refine t_st rfl (st_load 0 rfl one3 rfl rfl) ?_
   refine t_st rfl (st_build (v := .agg #[.int .i64 (x190.Section), .int .i64 (x190.End)]) [(0, .int .i64 (x190.Section)), (1, .int .i64 (x190.End))] rfl (fun _ => by kernel_rfl)) ?_
   obtain ⟨⟨x201, x202, l203⟩, hcl204, hm⟩ := bindS hm
   have hm := (unc3E hm)
   refine t_pullb 1 rfl ?_
   refine t_out1 [_] [_] hs179 R rfl ?_
   refine t_callG _ rfl call61 rfl (cLineFinderGrow _ _ (k187 : Int) [] (⟨x190.Section, x190.End⟩ : LineEnd) s1.Stations s1.Sections s1.Links s1.Signals s1.Gates x183 x184 l185 g120 none 0 A2 c3 A5 c6 A8 c9 A11 c12 A14 c15 A180 c181 hs179 FZ.nil (h4.le hle177) (h7.le hle177) (h10.le hle177) (h13.le hle177) (h16.le hle177) h182 hnz186 x201 x202 l203 hcl204) ?_
   rintro _ b205 _ hle206 ⟨A207, c208, hs209, rfl, rfl, h210, h211⟩
   refine t_in1 [_] [_] hs209 R rfl ?_
   refine t_nil ?_
   refine x_block_normal ?_
   refine x_then_normal ?_
   refine c_region ?_
   refine t_st rfl (st_add rfl rfl (by omega)) ?_
   refine t_st rfl (st_move rfl) ?_
   refine t_nil ?_
   obtain rfl := some1 hm
   exact x_againS (e' := [(4, .pointer (some ⟨g120, 0, none⟩)), (11, .slice A11 (s1.Signals).length c12), (12, .int .i64 ((s1.Signals.length : Int))), (13, .int .i64 ((k187 : Int) + 1))]) (hp' := (g120, Cl 138 [.slice A2 (s1.Stations).length c3, .slice A5 (s1.Sections).length c6, .slice A8 (s1.Links).length c9, .slice A11 (s1.Signals).length c12, .slice A14 (s1.Gates).length c15, .slice A207 (l203).length c208, .int .i64 (x201), .bool (x202)]) :: (hs209 ++ R)) ⟨rfl, rfl, rfl, rfl, trivial⟩ (.cons_cons _ (.cons _ (sub_app hs209 (.refl _)))) ⟨A207, c208, hs209, rfl, rfl, ((hle177.trans hle206)), h210, h211⟩
  ·
   rintro b176 _ _ ⟨A180, c181, hs179, rfl, rfl, hle177, h182, hnz186⟩
   have hm := (unc3E hk189)
   refine c_seq ?_
   refine c_region ?_
   refine t_st rfl (st_lss_f rfl rfl (by omega)) ?_
   refine t_nil ?_
   refine x_then_normal ?_
   refine c_seq ?_
   refine c_cond_f rfl ?_
   refine c_exit ?_
   refine x_then_exit ?_
   refine x_then_exit ?_
   refine x_block_out ?_
   refine x_then_normal ?_
   refine c_seq ?_
   refine c_seq ?_
   refine c_region ?_
   refine t_st rfl (st_move rfl) ?_
   refine t_st rfl (st_nil rfl) ?_
   refine t_st rfl (st_field rfl fld138_3) ?_
   refine t_st rfl (st_load 0 rfl one4 rfl rfl) ?_
   refine t_nil ?_
   refine x_then_normal ?_
   refine c_cond _ rfl (fun hc212 => ?_) (fun hc212 => ?_)
   ·
    rw [if_pos hc212] at hm
    refine c_seq ?_
    refine c_region ?_
    refine t_st rfl (st_assign rfl) ?_
    refine t_st rfl (st_assign rfl) ?_
    refine t_nil ?_
    refine x_then_normal ?_
    refine c_ret ?_
    refine x_then_ret ?_
    obtain ⟨rfl, rfl⟩ := some2 hm
    exact retM (rs := [.tmp 2, .tmp 3]) [.slice none 0 0, .int .i64 (4)] hle177 (by decide) rfl ⟨rfl, ⟨rfl, trivial⟩⟩ rfl (hp' := ([] ++ R)) (.cons _ (sub_skip hs179 (.refl _))) ⟨none, 0, [], rfl, rfl, OS.nil, ⟨fun _ => rfl, fun _ => rfl⟩⟩
   ·
    rw [if_neg (fun hh => Bool.noConfusion (hh.symm.trans hc212))] at hm
    refine c_skip ?_
    refine x_then_normal ?_
    refine c_seq ?_
    refine c_region ?_
    refine t_st rfl (st_move rfl) ?_
    refine t_st rfl (st_nil rfl) ?_
    refine t_st rfl (st_field rfl fld138_1) ?_
    refine t_st rfl (st_load 0 rfl one68 rfl rfl) ?_
    refine t_st rfl (st_assign rfl) ?_
    refine t_st rfl (st_assign rfl) ?_
    refine t_nil ?_
    refine x_then_normal ?_
    refine c_ret ?_
    obtain ⟨rfl, rfl⟩ := some2 hm
    exact retM (rs := [.tmp 2, .tmp 3]) [.slice A180 (l185).length c181, .int .i64 (0)] hle177 (by decide) rfl ⟨rfl, ⟨rfl, trivial⟩⟩ rfl (hp' := (hs179 ++ R)) (.cons _ (sub_app hs179 (.refl _))) ⟨A180, c181, hs179, rfl, rfl, h182, hnz186⟩

set_option maxRecDepth 20000 in
theorem cLineRoutes (b : Base) (R : Hp) (s1 : ApiNet) (A2 : Option Addr) (c3 : Nat) (A5 : Option Addr) (c6 : Nat) (A8 : Option Addr) (c9 : Nat) (A11 : Option Addr) (c12 : Nat) (A14 : Option Addr) (c15 : Nat) (h4 : FZ RT.str b.w A2 c3 s1.Stations) (h7 : FZ rApiSection b.w A5 c6 s1.Sections) (h10 : FZ rApiLink b.w A8 c9 s1.Links) (h13 : FZ rApiSignal b.w A11 c12 s1.Signals) (h16 : FZ rApiGate b.w A14 c15 s1.Gates) (x36 : Int) (l37 : (List ApiRoute)) (hm : mLineRoutes s1 = some (x36, l37)) :
    CallsG Tryd.prog 22 [.agg #[.slice A2 (s1.Stations).length c3, .slice A5 (s1.Sections).length c6, .slice A8 (s1.Links).length c9, .slice A11 (s1.Signals).length c12, .slice A14 (s1.Gates).length c15]] b (R) (fun v b' hp' => ∃ (A33 : Option Addr), ∃ (c34 : Nat), ∃ (hs32 : Hp), .tuple #[.slice A33 (l37).length c34, .int .i64 (x36)] = v ∧ (hs32 ++ R) = hp' ∧ OS 72 (OT.fr rApiRoute) b'.w (.slice A33 l37.length c34) l37 hs32 ∧ (A33 = none ↔ l37 = [])) := by
  refine fn_enterG 14 Tryd.func22 rfl Tryd.ntmps22 rfl ?_
  unfold mLineRoutes at hm
  refine c_seq ?_
  refine c_region ?_
  refine t_do rfl (u_box _ rfl rfl) ?_
  rintro _ _ ⟨g39, rfl, rfl⟩
  refine t_st rfl (st_assign rfl) ?_
  refine t_st rfl (st_assign rfl) ?_
  refine t_nil ?_
  refine x_then_normal ?_
  refine c_seq ?_
  refine c_seq ?_
  refine c_region ?_
  refine t_st rfl (st_loadD (vs := [_, _, _, _, _]) 0 5 rfl agg28 rfl rfl rfl) ?_
  obtain ⟨x40, hcl41, hm⟩ := bindS hm
  refine t_do rfl (u_callW0 _ call15 rfl (fun w ho => cLineCheck _ [] s1 A2 c3 A5 c6 A8 c9 A11 c12 A14 c15 (h4.old ho) (h7.old ho) (h10.old ho) (h13.old ho) (h16.old ho) x40 hcl41) (fun _ _ _ h => h.2.symm)) ?_
  rintro _ _ ⟨⟨_, rfl, _⟩, rfl⟩
  refine t_st rfl (st_assign rfl) ?_
  refine t_nil ?_
  refine x_then_normal ?_
  refine c_seq ?_
  refine c_region ?_
  refine t_st rfl (st_move rfl) ?_
  refine t_st rfl (st_neq rfl rfl) ?_
  refine t_nil ?_
  refine x_then_normal ?_
  refine c_cond _ rfl (fun hc42 => ?_) (fun hc42 => ?_)
  ·
   rw [if_pos (of_decide_eq_true hc42)] at hm
   refine c_seq ?_
   refine c_region ?_
   refine t_st rfl (st_move rfl) ?_
   refine t_st rfl (st_assign rfl) ?_
   refine t_st rfl (st_assign rfl) ?_
   refine t_nil ?_
   refine x_then_normal ?_
   refine c_ret ?_
   refine x_then_ret ?_
   obtain ⟨rfl, rfl⟩ := some2 hm
   exact retM (rs := [.tmp 2, .tmp 3]) [.slice none 0 0, .int .i64 (x40)] (Base.Le.refl _) (by decide) rfl ⟨rfl, ⟨rfl, trivial⟩⟩ rfl (hp' := ([] ++ R)) (.cons _ (.refl _)) ⟨none, 0, [], rfl, rfl, OS.nil, ⟨fun _ => rfl, fun _ => rfl⟩⟩
  ·
   rw [if_neg (of_decide_eq_false hc42)] at hm
   refine c_skip ?_
   refine x_then_normal ?_
   refine c_seq ?_
   refine c_region ?_
   refine t_st rfl (st_loadD (vs := [_, _, _, _, _]) 0 5 rfl agg28 rfl rfl rfl) ?_
   obtain ⟨⟨x43, l44⟩, hcl45, hm⟩ := bindS hm
   have hm := (unc2E hm)
   refine t_callG _ rfl call43 rfl (cLineRoutes_2 _ _ s1 A2 c3 A5 c6 A8 c9 A11 c12 A14 c15 h4 h7 h10 h13 h16 x43 l44 hcl45) ?_
   rintro _ b46 _ hle47 ⟨A48, c49, hs50, rfl, rfl, h51, h52⟩
   refine t_in1 [] [_] hs50 R rfl ?_
   refine t_st rfl (st_extract rfl rfl) ?_
   refine t_st rfl (st_extract rfl rfl) ?_
   refine t_st rfl (st_assign rfl) ?_
   refine t_st rfl (st_assign rfl) ?_
   refine t_nil ?_
   refine x_then_normal ?_
   refine c_ret ?_
   obtain ⟨rfl, rfl⟩ := some2 hm
   exact retM (rs := [.tmp 2, .tmp 3]) [.slice A48 (l44).length c49, .int .i64 (x43)] hle47 (by decide) rfl ⟨rfl, ⟨rfl, trivial⟩⟩ rfl (hp' := (hs50 ++ R)) (.cons _ (sub_app hs50 (.refl _))) ⟨A48, c49, hs50, rfl, rfl, h51, h52⟩

set_option maxRecDepth 20000 in
theorem cSlicesIndex_3 (b : Base) (R : Hp) (l4 : (List Int)) (x5 : Int) (A1 : Option Addr) (c2 : Nat) (h3 : FZ (RT.int .i64) b.w A1 c2 l4) (x38 : Int) (hm : mSlicesIndex_3 l4 x5 = some x38) :
    CallsG Tryd.prog 48 [.slice A1 (l4).length c2, .int .i64 (x5)] b (R) (fun v b' hp' => .int .i64 (x38) = v ∧ R = hp') := by
  refine fn_enterG 19 Tryd.func48 rfl Tryd.ntmps48 rfl ?_
  unfold mSlicesIndex_3 at hm
  refine c_seq ?_
  refine c_region ?_
  refine t_st rfl (st_assign rfl) ?_
  refine t_nil ?_
  refine x_then_normal ?_
  refine c_seq ?_
  refine c_seq ?_
  refine c_region ?_
  refine t_st rfl (st_move rfl) ?_
  refine t_st rfl (st_len rfl sl48) ?_
  refine t_st rfl (st_move rfl) ?_
  refine t_nil ?_
  refine x_then_normal ?_
  refine c_block ?_
  have hb40 : l4.length ≤ 9223372036854775807 := (FZ.bd h3)
  obtain ⟨t55, hl56, hk57⟩ := bindS hm
  refine c_forM (fun k54 => fun _ => fun b52 e' hp' => [(0, .slice A1 (l4).length c2), (1, .int .i64 (x5)), (7, .int .i64 ((l4.length : Int))), (8, .int .i64 ((k54 : Int)))] = e' ∧ R = hp' ∧ b.Le b52) hl56 (e' := [(0, .slice A1 (l4).length c2), (1, .int .i64 (x5)), (7, .int .i64 ((l4.length : Int))), (8, .int .i64 0)]) (hp' := R) ⟨rfl, rfl, rfl, rfl, trivial⟩ (.refl _) ⟨rfl, rfl, (Base.Le.refl _)⟩ ?_ ?_
  ·
   rintro k54 _ b52 _ _ oL39 hknL39 ⟨rfl, rfl, hle53⟩ hstepL39 houtL39
   unfold mSlicesIndex_3_L39 at hstepL39
   have hm := hstepL39
   refine c_seq ?_
   refine c_region ?_
   refine t_st rfl (st_lss_t rfl rfl (by omega)) ?_
   refine t_nil ?_
   refine x_then_normal ?_
   refine c_seq ?_
   refine c_cond_t rfl ?_
   refine c_skip ?_
   refine x_then_normal ?_
   refine c_seq ?_
   refine c_block ?_
   refine c_seq ?_
   refine c_region ?_
   refine t_st rfl (st_move rfl) ?_
   refine t_st rfl (st_assign rfl) ?_
   refine t_nil ?_
   refine x_then_normal ?_
   refine c_seq ?_
   refine c_region ?_
   refine t_st rfl (st_move rfl) ?_
   refine t_st rfl (st_move rfl) ?_
   refine t_st rfl (st_move rfl) ?_
   obtain ⟨x58, h59, hm⟩ := bindS hm
   obtain ⟨j60, hj61, hx62⟩ := idx_some h59
   obtain ⟨cs63, hr64, hcs65, hA66, hlt67⟩ := FZ.get (sz := 1) rfl (by decide) (h3.le hle53) hx62
   obtain rfl := hr64
   refine t_st rfl (st_index_old j60 rfl rfl hj61 hlt67 hA66 sl48) ?_
   refine t_st rfl (st_load_old rfl one3 (hcs65 0 _ rfl)) ?_
   refine t_st rfl (st_eql rfl rfl) ?_
   refine t_nil ?_
   refine x_then_normal ?_
   refine c_cond _ rfl (fun hc68 => ?_) (fun hc68 => ?_)
   ·
    rw [if_pos (of_decide_eq_true hc68)] at hm
    refine c_seq ?_
    refine c_region ?_
    refine t_st rfl (st_move rfl) ?_
    refine t_st rfl (st_assign rfl) ?_
    refine t_nil ?_
    refine x_then_normal ?_
    refine c_ret ?_
    refine x_block_ret ?_
    refine x_then_ret ?_
    refine x_then_ret ?_
    refine x_block_ret ?_
    refine x_then_ret ?_
    have hq69 := houtL39 _ (Option.some.inj hm).symm
    rw [hq69] at hk57
    have hm := elimR hk57
    obtain rfl := some1 hm
    exact retM (rs := [.tmp 4]) [.int .i64 ((k54 : Int))] hle53 (by decide) rfl ⟨rfl, trivial⟩ rfl (hp' := R) (.refl _) ⟨rfl, rfl⟩
   ·
    rw [if_neg (of_decide_eq_false hc68)] at hm
    refine c_skip ?_
    refine x_block_normal ?_
    refine x_then_normal ?_
    refine c_region ?_
    refine t_st rfl (st_add rfl rfl (by omega)) ?_
    refine t_st rfl (st_move rfl) ?_
    refine t_nil ?_
    exact x_againM () (Option.some.inj hm).symm (e' := [(0, .slice A1 (l4).length c2), (1, .int .i64 (x5)), (7, .int .i64 ((l4.length : Int))), (8, .int .i64 ((k54 : Int) + 1))]) (hp' := R) ⟨rfl, rfl, rfl, rfl, trivial⟩ (.refl _) ⟨rfl, rfl, (hle53)⟩
  ·
   rintro _ b52 _ _ ⟨rfl, rfl, hle53⟩ hq70
   rw [hq70] at hk57
   have hm := elimL hk57
   refine c_seq ?_
   refine c_region ?_
   refine t_st rfl (st_lss_f rfl rfl (by omega)) ?_
   refine t_nil ?_
   refine x_then_normal ?_
   refine c_seq ?_
   refine c_cond_f rfl ?_
   refine c_exit ?_
   refine x_then_exit ?_
   refine x_then_exit ?_
   refine x_block_out ?_
   refine x_then_normal ?_
   refine c_seq ?_
   refine c_region ?_
   refine t_st rfl (st_assign rfl) ?_
   refine t_nil ?_
   refine x_then_normal ?_
   refine c_ret ?_
   obtain rfl := some1 hm
   exact retM (rs := [.tmp 4]) [.int .i64 ((-1))] hle53 (by decide) rfl ⟨rfl, trivial⟩ rfl (hp' := R) (.refl _) ⟨rfl, rfl⟩

set_option maxRecDepth 20000 in
theorem cSlicesContains_2 (b : Base) (R : Hp) (l4 : (List Int)) (x5 : Int) (A1 : Option Addr) (c2 : Nat) (h3 : FZ (RT.int .i64) b.w A1 c2 l4) (x8 : Bool) (hm : mSlicesContains_2 l4 x5 = some x8) :
    CallsG Tryd.prog 25 [.slice A1 (l4).length c2, .int .i64 (x5)] b (R) (fun v b' hp' => .bool (x8) = v ∧ R = hp') := by
  refine fn_enterG 9 Tryd.func25 rfl Tryd.ntmps25 rfl ?_
  unfold mSlicesContains_2 at hm
  refine c_seq ?_
  refine c_region ?_
  refine t_st rfl (st_assign rfl) ?_
  refine t_nil ?_
  refine x_then_normal ?_
  refine c_seq ?_
  refine c_region ?_
  refine t_st rfl (st_move rfl) ?_
  refine t_st rfl (st_move rfl) ?_
  obtain ⟨x9, hcl10, hm⟩ := bindS hm
  refine t_do rfl (u_callW0 _ call48 rfl (fun w ho => cSlicesIndex_3 _ [] l4 x5 A1 c2 (h3.old ho) x9 hcl10) (fun _ _ _ h => h.2.symm)) ?_
  rintro _ _ ⟨⟨_, rfl, _⟩, rfl⟩
  refine t_st rfl (st_geq rfl rfl) ?_
  refine t_st rfl (st_assign rfl) ?_
  refine t_nil ?_
  refine x_then_normal ?_
  refine c_ret ?_
  obtain rfl := some1 hm
  exact retM (rs := [.tmp 4]) [.bool (decide (0 ≤ x9))] (Base.Le.refl _) (by decide) rfl ⟨rfl, trivial⟩ rfl (hp' := R) (.refl _) ⟨rfl, rfl⟩

set_option maxRecDepth 20000 in
theorem cLineCheckPath (b : Base) (R : Hp) (s1 : ApiNet) (l20 : (List ApiStep)) (A2 : Option Addr) (c3 : Nat) (A5 : Option Addr) (c6 : Nat) (A8 : Option Addr) (c9 : Nat) (A11 : Option Addr) (c12 : Nat) (A14 : Option Addr) (c15 : Nat) (A17 : Option Addr) (c18 : Nat) (h4 : FZ RT.str b.w A2 c3 s1.Stations) (h7 : FZ rApiSection b.w A5 c6 s1.Sections) (h10 : FZ rApiLink b.w A8 c9 s1.Links) (h13 : FZ rApiSignal b.w A11 c12 s1.Signals) (h16 : FZ rApiGate b.w A14 c15 s1.Gates) (h19 : FZ rApiStep b.w A17 c18 l20) (x582 : Int) (hm : mLineCheckPath s1 l20 = some x582) :
    CallsG Tryd.prog 8 [.agg #[.slice A2 (s1.Stations).length c3, .slice A5 (s1.Sections).length c6, .slice A8 (s1.Links).length c9, .slice A11 (s1.Signals).length c12, .slice A14 (s1.Gates).length c15], .slice A17 (l20).length c18] b (R) (fun v b' hp' => .int .i64 (x582) = v ∧ R = hp') := by
  refine fn_enterG 98 Tryd.func8 rfl Tryd.ntmps8 rfl ?_
  unfold mLineCheckPath at hm
  refine c_seq ?_
  refine c_region ?_
  refine t_do rfl (u_box _ rfl rfl) ?_
  rintro _ _ ⟨g583, rfl, rfl⟩
  refine t_st rfl (st_assign rfl) ?_
  refine t_nil ?_
  refine x_then_normal ?_
  refine c_seq ?_
  refine c_seq ?_
  refine c_region ?_
  refine t_st rfl (st_loadD (vs := [_, _, _, _, _]) 0 5 rfl agg28 rfl rfl rfl) ?_
  obtain ⟨x584, hcl585, hm⟩ := bindS hm
  refine t_do rfl (u_callW0 _ call15 rfl (fun w ho => cLineCheck _ [] s1 A2 c3 A5 c6 A8 c9 A11 c12 A14 c15 (h4.old ho) (h7.old ho) (h10.old ho) (h13.old ho) (h16.old ho) x584 hcl585) (fun _ _ _ h => h.2.symm)) ?_
  rintro _ _ ⟨⟨_, rfl, _⟩, rfl⟩
  refine t_st rfl (st_assign rfl) ?_
  refine t_nil ?_
  refine x_then_normal ?_
  refine c_seq ?_
  refine c_region ?_
  refine t_st rfl (st_move rfl) ?_
  refine t_st rfl (st_neq rfl rfl) ?_
  refine t_nil ?_
  refine x_then_normal ?_
  refine c_cond _ rfl (fun hc586 => ?_) (fun hc586 => ?_)
  ·
   rw [if_pos (of_decide_eq_true hc586)] at hm
   refine c_seq ?_
   refine c_region ?_
   refine t_st rfl (st_move rfl) ?_
   refine t_st rfl (st_assign rfl) ?_
   refine t_nil ?_
   refine x_then_normal ?_
   refine c_ret ?_
   refine x_then_ret ?_
   obtain rfl := some1 hm
   exact retM (rs := [.tmp 4]) [.int .i64 (x584)] (Base.Le.refl _) (by decide) rfl ⟨rfl, trivial⟩ rfl (hp' := R) (.cons _ (.refl _)) ⟨rfl, rfl⟩
  ·
   rw [if_neg (of_decide_eq_false hc586)] at hm
   refine c_skip ?_
   refine x_then_normal ?_
   refine c_seq ?_
   refine c_seq ?_
   refine c_region ?_
   refine t_st rfl (st_move rfl) ?_
   refine t_st rfl (st_len rfl sl29) ?_
   refine t_st rfl (st_gtr rfl rfl) ?_
   refine t_nil ?_
   refine x_then_normal ?_
   refine c_cond _ rfl (fun hc587 => ?_) (fun hc587 => ?_)
   ·
    rw [if_pos (of_decide_eq_true hc587)] at hm
    refine c_seq ?_
    refine c_region ?_
    refine t_st rfl (st_assign rfl) ?_
    refine t_nil ?_
    refine x_then_normal ?_
    refine c_ret ?_
    refine x_then_ret ?_
    obtain rfl := some1 hm
    exact retM (rs := [.tmp 4]) [.int .i64 (4)] (Base.Le.refl _) (by decide) rfl ⟨rfl, trivial⟩ rfl (hp' := R) (.cons _ (.refl _)) ⟨rfl, rfl⟩
   ·
    rw [if_neg (of_decide_eq_false hc587)] at hm
    refine c_skip ?_
    refine x_then_normal ?_
    refine c_seq ?_
    refine c_region ?_
    refine t_do rfl (u_mmap (RT.int .i64) (OT.fr RT.bool) false false [_] R rfl) ?_
    rintro _ _ ⟨g588, hs589, rfl, rfl, h590⟩
    refine t_st rfl (st_assign rfl) ?_
    refine t_nil ?_
    refine x_then_normal ?_
    refine c_seq ?_
    refine c_seq ?_
    refine c_region ?_
    refine t_st rfl (st_move rfl) ?_
    refine t_st rfl (st_len rfl sl29) ?_
    refine t_st rfl (st_move rfl) ?_
    refine t_nil ?_
    refine x_then_normal ?_
    refine c_block ?_
    have hb592 : l20.length ≤ 9223372036854775807 := (FZ.bd h19)
    obtain ⟨t958, hl959, hk960⟩ := bindS hm
    refine c_forM (fun k957 => fun l956 => fun b951 e' hp' => ∃ (hs954 : Hp), [(1, .slice A17 (l20).length c18), (2, .pointer (some ⟨g583, 0, none⟩)), (6, .map (some g588)), (21, .slice A17 (l20).length c18), (22, .int .i64 ((l20.length : Int))), (23, .int .i64 ((k957 : Int)))] = e' ∧ (g583, Cl 28 [.slice A2 (s1.Stations).length c3, .slice A5 (s1.Sections).length c6, .slice A8 (s1.Links).length c9, .slice A11 (s1.Signals).length c12, .slice A14 (s1.Gates).length c15]) :: (hs954 ++ R) = hp' ∧ b.Le b951 ∧ OM (RT.int .i64) (OT.fr RT.bool) false false b951.w g588 l956 hs954) hl959 (e' := [(1, .slice A17 (l20).length c18), (2, .pointer (some ⟨g583, 0, none⟩)), (6, .map (some g588)), (21, .slice A17 (l20).length c18), (22, .int .i64 ((l20.length : Int))), (23, .int .i64 0)]) (hp' := (g583, Cl 28 [.slice A2 (s1.Stations).length c3, .slice A5 (s1.Sections).length c6, .slice A8 (s1.Links).length c9, .slice A11 (s1.Signals).length c12, .slice A14 (s1.Gates).length c15]) :: (hs589 ++ R)) ⟨rfl, rfl, rfl, rfl, rfl, rfl, trivial⟩ (.cons_cons _ (sub_app hs589 (.refl _))) ⟨hs589, rfl, rfl, (Base.Le.refl _), h590⟩ ?_ ?_
    ·
     rintro k957 l956 b951 _ _ oL591 hknL591 ⟨hs954, rfl, rfl, hle952, h955⟩ hstepL591 houtL591
     unfold mLineCheckPath_L591 at hstepL591
     have hm := hstepL591
     refine c_seq ?_
     refine c_region ?_
     refine t_st rfl (st_lss_t rfl rfl (by omega)) ?_
     refine t_nil ?_
     refine x_then_normal ?_
     refine c_seq ?_
     refine c_cond_t rfl ?_
     refine c_skip ?_
     refine x_then_normal ?_
     refine c_seq ?_
     refine c_block ?_
     refine c_seq ?_
     refine c_region ?_
     refine t_st rfl (st_move rfl) ?_
     obtain ⟨x961, h962, hm⟩ := bindS hm
     obtain ⟨j963, hj964, hx965⟩ := idx_some h962
     obtain ⟨cs966, hr967, hcs968, hA969, hlt970⟩ := FZ.get (sz := 3) rfl (by decide) (h19.le hle952) hx965
     obtain ⟨_, _, rfl, rfl, ⟨_, _, rfl, rfl, rfl⟩⟩ := hr967
     refine t_st rfl (st_index_old j963 rfl rfl hj964 hlt970 hA969 sl29) ?_
     refine t_st rfl (st_loadN_old (vs := [.int .i64 (x961.Section), .int .i64 (x961.In), .int .i64 (x961.Out)]) 3 rfl agg43 hA969 rfl (fun j u hu => hcs968 j u hu)) ?_
     refine t_do rfl (u_alloc [.int .i64 0, .int .i64 0, .int .i64 0] zero43 rfl) ?_
     rintro _ _ ⟨g971, rfl, rfl⟩
     refine t_st rfl (st_assign rfl) ?_
     refine t_do rfl (u_storeN (vs := [_, _, _]) 0 3 rfl rfl rfl siz43 rfl (by intro u hu; simp only [List.mem_cons, List.not_mem_nil, or_false] at hu; rcases hu with rfl | rfl | rfl <;> rfl) rfl (by simp)) ?_
     rintro _ _ rfl
     refine t_nil ?_
     refine x_then_normal ?_
     refine c_seq ?_
     refine c_block ?_
     obtain ⟨x979, hj980, hk980⟩ := bindS hm
     refine c_join (fun b977 e' hp' => [(1, .slice A17 (l20).length c18), (2, .pointer (some ⟨g583, 0, none⟩)), (6, .map (some g588)), (7, .int .i64 ((k957 : Int))), (8, .pointer (some ⟨g971, 0, none⟩)), (21, .slice A17 (l20).length c18), (22, .int .i64 ((l20.length : Int))), (23, .int .i64 ((k957 : Int))), (28, .bool (x979))] = e' ∧ (g583, Cl 28 [.slice A2 (s1.Stations).length c3, .slice A5 (s1.Sections).length c6, .slice A8 (s1.Links).length c9, .slice A11 (s1.Signals).length c12, .slice A14 (s1.Gates).length c15]) :: (g971, Cl 43 [.int .i64 (x961.Section), .int .i64 (x961.In), .int .i64 (x961.Out)]) :: (hs954 ++ R) = hp' ∧ b951.Le b977) ?_ ?_
     ·
      have hm := hj980
      refine c_region ?_
      refine t_st rfl (st_loadD (vs := [_, _, _, _, _]) 1 5 rfl agg28 rfl rfl rfl) ?_
      refine t_st rfl (st_field rfl fld43_0) ?_
      refine t_st rfl (st_load 0 rfl one3 rfl rfl) ?_
      refine t_st rfl (st_field rfl fld43_1) ?_
      refine t_st rfl (st_load 0 rfl one3 rfl rfl) ?_
      refine t_st rfl (st_build (v := .agg #[.int .i64 (x961.Section), .int .i64 (x961.In)]) [(0, .int .i64 (x961.Section)), (1, .int .i64 (x961.In))] rfl (fun _ => by kernel_rfl)) ?_
      obtain ⟨x981, hcl982, hm⟩ := bindS hm
      refine t_do rfl (u_callW0 _ call24 rfl (fun w ho => cLineHas _ [] s1 (⟨x961.Section, x961.In⟩ : LineEnd) A2 c3 A5 c6 A8 c9 A11 c12 A14 c15 ((h4.le hle952).old ho) ((h7.le hle952).old ho) ((h10.le hle952).old ho) ((h13.le hle952).old ho) ((h16.le hle952).old ho) x981 hcl982) (fun _ _ _ h => h.2.symm)) ?_
      rintro _ _ ⟨⟨_, rfl, _⟩, rfl⟩
      rcases Bool.eq_false_or_eq_true x981 with hc983 | hc983
      ·
       rw [if_pos hc983] at hm
       refine t_resp 35 rfl (v' := .bool true) (by rw [hc983] <;> rfl) ?_
       refine t_st rfl (st_not_t rfl) ?_
       refine t_st rfl (st_move rfl) ?_
       refine t_yes 37 rfl rfl rfl ?_
       refine t_st rfl (st_loadD (vs := [_, _, _, _, _]) 1 5 rfl agg28 rfl rfl rfl) ?_
       refine t_yes 37 rfl rfl rfl ?_
       refine t_st rfl (st_field rfl fld43_0) ?_
       refine t_yes 37 rfl rfl rfl ?_
       refine t_st rfl (st_load 0 rfl one3 rfl rfl) ?_
       refine t_yes 37 rfl rfl rfl ?_
       refine t_st rfl (st_field rfl fld43_2) ?_
       refine t_yes 37 rfl rfl rfl ?_
       refine t_st rfl (st_load 0 rfl one3 rfl rfl) ?_
       refine t_yes 37 rfl rfl rfl ?_
       refine t_st rfl (st_build (v := .agg #[.int .i64 (x961.Section), .int .i64 (x961.Out)]) [(0, .int .i64 (x961.Section)), (1, .int .i64 (x961.Out))] rfl (fun _ => by kernel_rfl)) ?_
       refine t_yes 37 rfl rfl rfl ?_
       obtain ⟨x984, hcl985, hm⟩ := bindS hm
       refine t_do rfl (u_callW0 _ call24 rfl (fun w ho => cLineHas _ [] s1 (⟨x961.Section, x961.Out⟩ : LineEnd) A2 c3 A5 c6 A8 c9 A11 c12 A14 c15 ((h4.le hle952).old ho) ((h7.le hle952).old ho) ((h10.le hle952).old ho) ((h13.le hle952).old ho) ((h16.le hle952).old ho) x984 hcl985) (fun _ _ _ h => h.2.symm)) ?_
       rintro _ _ ⟨⟨_, rfl, _⟩, rfl⟩
       refine t_yes 37 rfl rfl rfl ?_
       refine t_st rfl (st_not rfl) ?_
       refine t_st rfl (st_pick_f rfl rfl) ?_
       refine t_st rfl (st_assign rfl) ?_
       refine t_nil ?_
       obtain rfl := some1 hm
       refine x_pullb 1 rfl ?_
       exact x_join (e' := [(1, .slice A17 (l20).length c18), (2, .pointer (some ⟨g583, 0, none⟩)), (6, .map (some g588)), (7, .int .i64 ((k957 : Int))), (8, .pointer (some ⟨g971, 0, none⟩)), (21, .slice A17 (l20).length c18), (22, .int .i64 ((l20.length : Int))), (23, .int .i64 ((k957 : Int))), (28, .bool (!x984))]) (hp' := (g583, Cl 28 [.slice A2 (s1.Stations).length c3, .slice A5 (s1.Sections).length c6, .slice A8 (s1.Links).length c9, .slice A11 (s1.Signals).length c12, .slice A14 (s1.Gates).length c15]) :: (g971, Cl 43 [.int .i64 (x961.Section), .int .i64 (x961.In), .int .i64 (x961.Out)]) :: (hs954 ++ R)) ⟨rfl, rfl, rfl, rfl, rfl, rfl, rfl, rfl, rfl, trivial⟩ (.cons_cons _ (.cons_cons _ (sub_app hs954 (.refl _)))) ⟨rfl, rfl, (Base.Le.refl _)⟩
      ·
       rw [if_neg (fun hh => Bool.noConfusion (hh.symm.trans hc983))] at hm
       refine t_resp 35 rfl (v' := .bool false) (by rw [hc983] <;> rfl) ?_
       refine t_st rfl (st_not_f rfl) ?_
       refine t_st rfl (st_move rfl) ?_
       refine t_no 37 rfl rfl rfl rfl rfl ?_
       refine t_no 37 rfl rfl rfl rfl rfl ?_
       refine t_no 37 rfl rfl rfl rfl rfl ?_
       refine t_no 37 rfl rfl rfl rfl rfl ?_
       refine t_no 37 rfl rfl rfl rfl rfl ?_
       refine t_no 37 rfl rfl rfl rfl rfl ?_
       refine t_no 37 rfl rfl rfl rfl rfl ?_
       refine t_no 37 rfl rfl rfl rfl rfl ?_
       refine t_st rfl (st_pick_t rfl rfl) ?_
       refine t_st rfl (st_assign rfl) ?_
       refine t_nil ?_
       obtain rfl := some1 hm
       refine x_pullb 1 rfl ?_
       exact x_join (e' := [(1, .slice A17 (l20).length c18), (2, .pointer (some ⟨g583, 0, none⟩)), (6, .map (some g588)), (7, .int .i64 ((k957 : Int))), (8, .pointer (some ⟨g971, 0, none⟩)), (21, .slice A17 (l20).length c18), (22, .int .i64 ((l20.length : Int))), (23, .int .i64 ((k957 : Int))), (28, .bool (true))]) (hp' := (g583, Cl 28 [.slice A2 (s1.Stations).length c3, .slice A5 (s1.Sections).length c6, .slice A8 (s1.Links).length c9, .slice A11 (s1.Signals).length c12, .slice A14 (s1.Gates).length c15]) :: (g971, Cl 43 [.int .i64 (x961.Section), .int .i64 (x961.In), .int .i64 (x961.Out)]) :: (hs954 ++ R)) ⟨rfl, rfl, rfl, rfl, rfl, rfl, rfl, rfl, rfl, trivial⟩ (.cons_cons _ (.cons_cons _ (sub_app hs954 (.refl _)))) ⟨rfl, rfl, (Base.Le.refl _)⟩
     ·
      rintro b977 _ _ ⟨rfl, rfl, hle978⟩
      have hm := hk980
      refine c_cond _ rfl (fun hc986 => ?_) (fun hc986 => ?_)
      ·
       rw [if_pos hc986] at hm
       refine c_seq ?_
       refine c_region ?_
       refine t_st rfl (st_assign rfl) ?_
       refine t_nil ?_
       refine x_then_normal ?_
       refine c_ret ?_
       refine x_block_ret ?_
       refine x_then_ret ?_
       refine x_block_ret ?_
       refine x_then_ret ?_
       refine x_then_ret ?_
       refine x_block_ret ?_
       refine x_then_ret ?_
       have hq987 := houtL591 _ (Option.some.inj hm).symm
       rw [hq987] at hk960
       have hm := elimR hk960
       obtain rfl := some1 hm
       exact retM (rs := [.tmp 4]) [.int .i64 (3)] (hle952.trans hle978) (by decide) rfl ⟨rfl, trivial⟩ rfl (hp' := R) (.cons _ (.cons _ (sub_skip hs954 (.refl _)))) ⟨rfl, rfl⟩
      ·
       rw [if_neg (fun hh => Bool.noConfusion (hh.symm.trans hc986))] at hm
       obtain ⟨x1028, hj1029, hk1029⟩ := bindS hm
       refine c_join (fun b1026 e' hp' => [(1, .slice A17 (l20).length c18), (2, .pointer (some ⟨g583, 0, none⟩)), (6, .map (some g588)), (7, .int .i64 ((k957 : Int))), (8, .pointer (some ⟨g971, 0, none⟩)), (21, .slice A17 (l20).length c18), (22, .int .i64 ((l20.length : Int))), (23, .int .i64 ((k957 : Int))), (47, .bool (x1028))] = e' ∧ (g583, Cl 28 [.slice A2 (s1.Stations).length c3, .slice A5 (s1.Sections).length c6, .slice A8 (s1.Links).length c9, .slice A11 (s1.Signals).length c12, .slice A14 (s1.Gates).length c15]) :: (g971, Cl 43 [.int .i64 (x961.Section), .int .i64 (x961.In), .int .i64 (x961.Out)]) :: (hs954 ++ R) = hp' ∧ b977.Le b1026) ?_ ?_
       ·
        have hm := hj1029
        obtain ⟨x1049, h1050, hm⟩ := bindS hm
        obtain ⟨l1059, hcl1060, hm⟩ := bindS hm
        obtain ⟨x1066, hcl1067, hm⟩ := bindS hm
        refine D_drawS ((g583, Cl 28 [.slice A2 (s1.Stations).length c3, .slice A5 (s1.Sections).length c6, .slice A8 (s1.Links).length c9, .slice A11 (s1.Signals).length c12, .slice A14 (s1.Gates).length c15]) :: (g971, Cl 43 [.int .i64 (x961.Section), .int .i64 (x961.In), .int .i64 (x961.Out)]) :: (hs954 ++ R)) mixed ?_
        refine E_in (.cons_cons _ (.cons_cons _ (sub_app hs954 (.refl _)))) ?_
        refine E_st 0 rfl (st_field rfl fld28_1) ?_
        refine E_st 1 rfl (st_load 0 rfl one23 rfl rfl) ?_
        refine E_st 2 rfl (st_field rfl fld43_0) ?_
        refine E_st 3 rfl (st_load 1 rfl one3 rfl rfl) ?_
        obtain ⟨j1051, hj1052, hx1053⟩ := idx_some h1050
        obtain ⟨cs1054, hr1055, hcs1056, hA1057, hlt1058⟩ := FZ.get (sz := 7) rfl (by decide) (h7.le (hle952.trans hle978)) hx1053
        obtain ⟨_, _, rfl, rfl, ⟨_, _, rfl, rfl, ⟨_, _, rfl, rfl, ⟨_, _, rfl, rfl, ⟨_, _, rfl, rfl, ⟨_, _, rfl, rfl, rfl⟩⟩⟩⟩⟩⟩ := hr1055
        refine E_st 4 rfl (st_index_old j1051 rfl rfl hj1052 hlt1058 hA1057 sl23) ?_
        refine E_st 5 rfl (st_field_old rfl hA1057 fld58_0) ?_
        refine E_st 6 rfl (st_load_old rfl one3 (hcs1056 0 _ rfl)) ?_
        refine E_st 7 rfl (st_field rfl fld43_1) ?_
        refine E_st 8 rfl (st_load 1 rfl one3 rfl rfl) ?_
        refine E_st 10 rfl (st_field rfl fld43_2) ?_
        refine E_st 11 rfl (st_load 1 rfl one3 rfl rfl) ?_
        refine E_out ?_
        refine D_all [9] (by kernel_rfl) rfl ?_
        refine R_callGl (Base.Le.refl _) rfl rfl _ call26 rfl (cLineOuts _ _ x1049.Kind x961.In l1059 hcl1060) ?_ ?_
        ·
         rintro _ b1061 _ hle1062 ⟨A1063, c1064, rfl, rfl, h1065⟩
         refine ⟨.inr (.cons_cons _ (.cons_cons _ (sub_app hs954 (.refl _)))), ?_⟩
         refine D_all [12] (by kernel_rfl) rfl ?_
         refine R_do hle1062 rfl rfl (u_callW0 _ call25 rfl (fun w ho => cSlicesContains_2 _ [] l1059 x961.Out A1063 c1064 (h1065.old ho) x1066 hcl1067) (fun _ _ _ h => h.2.symm)) ?_ ?_
         ·
          rintro _ _ ⟨⟨_, rfl, _⟩, rfl⟩
          refine ⟨.inr (.cons_cons _ (.cons_cons _ (sub_app hs954 (.refl _)))), ?_⟩
          refine D_st hle1062 13 rfl (by kernel_rfl) (by kernel_rfl) (by kernel_rfl) rfl (st_not rfl) (.cons_cons _ (.cons_cons _ (sub_app hs954 (.refl _)))) ?_
          refine D_st hle1062 14 rfl (by kernel_rfl) (by kernel_rfl) (by kernel_rfl) rfl (st_assign rfl) (.cons_cons _ (.cons_cons _ (sub_app hs954 (.refl _)))) ?_
          refine D_done (by kernel_rfl) ?_
          obtain rfl := some1 hm
          refine x_pullb 1 rfl ?_
          refine x_pullb 1 rfl ?_
          exact x_join (e' := [(1, .slice A17 (l20).length c18), (2, .pointer (some ⟨g583, 0, none⟩)), (6, .map (some g588)), (7, .int .i64 ((k957 : Int))), (8, .pointer (some ⟨g971, 0, none⟩)), (21, .slice A17 (l20).length c18), (22, .int .i64 ((l20.length : Int))), (23, .int .i64 ((k957 : Int))), (47, .bool (!x1066))]) (hp' := (g583, Cl 28 [.slice A2 (s1.Stations).length c3, .slice A5 (s1.Sections).length c6, .slice A8 (s1.Links).length c9, .slice A11 (s1.Signals).length c12, .slice A14 (s1.Gates).length c15]) :: (g971, Cl 43 [.int .i64 (x961.Section), .int .i64 (x961.In), .int .i64 (x961.Out)]) :: (hs954 ++ R)) ⟨rfl, rfl, rfl, rfl, rfl, rfl, rfl, rfl, rfl, trivial⟩ (.cons_cons _ (.cons_cons _ (sub_app hs954 (.refl _)))) ⟨rfl, rfl, hle1062⟩
         exact R_nil
        exact R_nil
       ·
        rintro b1026 _ _ ⟨rfl, rfl, hle1027⟩
        have hm := hk1029
        refine c_cond _ rfl (fun hc1068 => ?_) (fun hc1068 => ?_)
        ·
         rw [if_pos hc1068] at hm
         refine c_seq ?_
         refine c_region ?_
         refine t_st rfl (st_assign rfl) ?_
         refine t_nil ?_
         refine x_then_normal ?_
         refine c_ret ?_
         refine x_block_ret ?_
         refine x_then_ret ?_
         refine x_block_ret ?_
         refine x_then_ret ?_
         refine x_then_ret ?_
         refine x_block_ret ?_
         refine x_then_ret ?_
         have hq1069 := houtL591 _ (Option.some.inj hm).symm
         rw [hq1069] at hk960
         have hm := elimR hk960
         obtain rfl := some1 hm
         exact retM (rs := [.tmp 4]) [.int .i64 (1)] (hle952.trans (hle978.trans hle1027)) (by decide) rfl ⟨rfl, trivial⟩ rfl (hp' := R) (.cons _ (.cons _ (sub_skip hs954 (.refl _)))) ⟨rfl, rfl⟩
        ·
         rw [if_neg (fun hh => Bool.noConfusion (hh.symm.trans hc1068))] at hm
         refine c_skip ?_
         refine x_block_normal ?_
         refine x_then_normal ?_
         obtain ⟨t1100, hj1099, hk1099⟩ := bindS hm
         refine c_join (fun b1097 e' hp' => [(1, .slice A17 (l20).length c18), (2, .pointer (some ⟨g583, 0, none⟩)), (6, .map (some g588)), (8, .pointer (some ⟨g971, 0, none⟩)), (21, .slice A17 (l20).length c18), (22, .int .i64 ((l20.length : Int))), (23, .int .i64 ((k957 : Int)))] = e' ∧ (g583, Cl 28 [.slice A2 (s1.Stations).length c3, .slice A5 (s1.Sections).length c6, .slice A8 (s1.Links).length c9, .slice A11 (s1.Signals).length c12, .slice A14 (s1.Gates).length c15]) :: (g971, Cl 43 [.int .i64 (x961.Section), .int .i64 (x961.In), .int .i64 (x961.Out)]) :: (hs954 ++ R) = hp' ∧ b1026.Le b1097 ∧ t1100 = .inl ()) ?_ ?_
         ·
          have hm := hj1099
          refine c_seq ?_
          refine c_region ?_
          refine t_st rfl (st_move rfl) ?_
          refine t_st rfl (st_gtr rfl rfl) ?_
          refine t_nil ?_
          refine x_then_normal ?_
          refine c_cond _ rfl (fun hc1101 => ?_) (fun hc1101 => ?_)
          ·
           rw [if_pos (of_decide_eq_true hc1101)] at hm
           refine c_seq ?_
           refine c_region ?_
           refine t_st rfl (st_move rfl) ?_
           refine t_st rfl (st_move rfl) ?_
           obtain ⟨_, h1102, hm⟩ := bindS hm
           have h1102 := (chk_some h1102).2
           refine t_st rfl (st_sub rfl rfl h1102) ?_
           obtain ⟨x1103, h1104, hm⟩ := bindS hm
           obtain ⟨j1105, hj1106, hx1107⟩ := idx_some h1104
           obtain ⟨cs1108, hr1109, hcs1110, hA1111, hlt1112⟩ := FZ.get (sz := 3) rfl (by decide) (h19.le (hle952.trans (hle978.trans hle1027))) hx1107
           obtain ⟨_, _, rfl, rfl, ⟨_, _, rfl, rfl, rfl⟩⟩ := hr1109
           refine t_st rfl (st_index_old j1105 rfl rfl hj1106 hlt1112 hA1111 sl29) ?_
           refine t_st rfl (st_loadN_old (vs := [.int .i64 (x1103.Section), .int .i64 (x1103.In), .int .i64 (x1103.Out)]) 3 rfl agg43 hA1111 rfl (fun j u hu => hcs1110 j u hu)) ?_
           refine t_do rfl (u_alloc [.int .i64 0, .int .i64 0, .int .i64 0] zero43 rfl) ?_
           rintro _ _ ⟨g1113, rfl, rfl⟩
           refine t_do rfl (u_storeN (vs := [_, _, _]) 0 3 rfl rfl rfl siz43 rfl (by intro u hu; simp only [List.mem_cons, List.not_mem_nil, or_false] at hu; rcases hu with rfl | rfl | rfl <;> rfl) rfl (by simp)) ?_
           rintro _ _ rfl
           refine t_nil ?_
           refine x_then_normal ?_
           refine c_seq ?_
           refine c_region ?_
           refine t_st rfl (st_loadD (vs := [_, _, _, _, _]) 1 5 rfl agg28 rfl rfl rfl) ?_
           refine t_st rfl (st_field rfl fld43_0) ?_
           refine t_st rfl (st_load 0 rfl one3 rfl rfl) ?_
           refine t_st rfl (st_field rfl fld43_2) ?_
           refine t_st rfl (st_load 0 rfl one3 rfl rfl) ?_
           refine t_st rfl (st_build (v := .agg #[.int .i64 (x1103.Section), .int .i64 (x1103.Out)]) [(0, .int .i64 (x1103.Section)), (1, .int .i64 (x1103.Out))] rfl (fun _ => by kernel_rfl)) ?_
           obtain ⟨⟨x1114, x1115, x1116⟩, hcl1117, hm⟩ := bindS hm
           have hm := (unc3E hm)
           refine t_callG _ rfl call27 rfl (cLineJoined _ _ s1 (⟨x1103.Section, x1103.Out⟩ : LineEnd) A2 c3 A5 c6 A8 c9 A11 c12 A14 c15 (h4.le (hle952.trans (hle978.trans hle1027))) (h7.le (hle952.trans (hle978.trans hle1027))) (h10.le (hle952.trans (hle978.trans hle1027))) (h13.le (hle952.trans (hle978.trans hle1027))) (h16.le (hle952.trans (hle978.trans hle1027))) x1114 x1115 x1116 hcl1117) ?_
           rintro _ b1118 _ hle1119 ⟨rfl, rfl⟩
           refine t_st rfl (st_move rfl) ?_
           refine t_st rfl (st_extract rfl rfl) ?_
           refine t_st rfl (st_extract rfl rfl) ?_
           refine t_do rfl (u_alloc [.int .i64 0, .int .i64 0] zero77 rfl) ?_
           rintro _ _ ⟨g1120, rfl, rfl⟩
           refine t_do rfl (u_storeN (vs := [_, _]) 0 2 rfl rfl rfl siz77 rfl (by intro u hu; simp only [List.mem_cons, List.not_mem_nil, or_false] at hu; rcases hu with rfl | rfl <;> rfl) rfl (by simp)) ?_
           rintro _ _ rfl
           refine t_st rfl (st_assign rfl) ?_
           refine t_nil ?_
           refine x_then_normal ?_
           obtain ⟨x1124, hj1125, hk1125⟩ := bindS hm
           refine c_join (fun b1122 e' hp' => [(1, .slice A17 (l20).length c18), (2, .pointer (some ⟨g583, 0, none⟩)), (6, .map (some g588)), (8, .pointer (some ⟨g971, 0, none⟩)), (21, .slice A17 (l20).length c18), (22, .int .i64 ((l20.length : Int))), (23, .int .i64 ((k957 : Int))), (89, .bool (x1124))] = e' ∧ (g583, Cl 28 [.slice A2 (s1.Stations).length c3, .slice A5 (s1.Sections).length c6, .slice A8 (s1.Links).length c9, .slice A11 (s1.Signals).length c12, .slice A14 (s1.Gates).length c15]) :: (g971, Cl 43 [.int .i64 (x961.Section), .int .i64 (x961.In), .int .i64 (x961.Out)]) :: (hs954 ++ R) = hp' ∧ b1118.Le b1122) ?_ ?_
           ·
            have hm := hj1125
            refine c_region ?_
            refine t_st rfl (st_move rfl) ?_
            rcases Bool.eq_false_or_eq_true x1116 with hc1126 | hc1126
            ·
             rw [if_pos hc1126] at hm
             refine t_resp 79 rfl (v' := .bool true) (by rw [hc1126] <;> rfl) ?_
             refine t_st rfl (st_not_t rfl) ?_
             refine t_st rfl (st_move rfl) ?_
             refine t_yes 81 rfl rfl rfl ?_
             refine t_st rfl (st_loadD (vs := [_, _]) 0 2 rfl agg77 rfl rfl rfl) ?_
             refine t_yes 81 rfl rfl rfl ?_
             refine t_st rfl (st_field rfl fld43_0) ?_
             refine t_yes 81 rfl rfl rfl ?_
             refine t_st rfl (st_load 3 rfl one3 rfl rfl) ?_
             refine t_yes 81 rfl rfl rfl ?_
             refine t_st rfl (st_field rfl fld43_1) ?_
             refine t_yes 81 rfl rfl rfl ?_
             refine t_st rfl (st_load 3 rfl one3 rfl rfl) ?_
             refine t_yes 81 rfl rfl rfl ?_
             refine t_st rfl (st_build (v := .agg #[.int .i64 (x961.Section), .int .i64 (x961.In)]) [(0, .int .i64 (x961.Section)), (1, .int .i64 (x961.In))] rfl (fun _ => by kernel_rfl)) ?_
             refine t_yes 81 rfl rfl rfl ?_
             refine t_st rfl (st_neqA (xs := [.int .i64 (x1114), .int .i64 (x1115)]) (ys := [.int .i64 (x961.Section), .int .i64 (x961.In)]) (p := x1114 = x961.Section ∧ x1115 = x961.In) rfl rfl eqt77 ⟨⟨_, rfl⟩, ⟨⟨_, rfl⟩, trivial⟩⟩ ⟨⟨_, rfl⟩, ⟨⟨_, rfl⟩, trivial⟩⟩ (by simp [eqCells, eqCell, Bool.decide_and, beq_dec])) ?_
             refine t_st rfl (st_pick_f rfl rfl) ?_
             refine t_nil ?_
             obtain rfl := some1 hm
             refine x_pullb 3 rfl ?_
             refine x_pullb 3 rfl ?_
             exact x_join (e' := [(1, .slice A17 (l20).length c18), (2, .pointer (some ⟨g583, 0, none⟩)), (6, .map (some g588)), (8, .pointer (some ⟨g971, 0, none⟩)), (21, .slice A17 (l20).length c18), (22, .int .i64 ((l20.length : Int))), (23, .int .i64 ((k957 : Int))), (89, .bool (!(decide (x1114 = x961.Section ∧ x1115 = x961.In))))]) (hp' := (g583, Cl 28 [.slice A2 (s1.Stations).length c3, .slice A5 (s1.Sections).length c6, .slice A8 (s1.Links).length c9, .slice A11 (s1.Signals).length c12, .slice A14 (s1.Gates).length c15]) :: (g971, Cl 43 [.int .i64 (x961.Section), .int .i64 (x961.In), .int .i64 (x961.Out)]) :: (hs954 ++ R)) ⟨rfl, rfl, rfl, rfl, rfl, rfl, rfl, rfl, trivial⟩ (.cons_cons _ (.cons_cons _ (.cons _ (.cons _ (sub_app hs954 (.refl _)))))) ⟨rfl, rfl, (Base.Le.refl _)⟩
            ·
             rw [if_neg (fun hh => Bool.noConfusion (hh.symm.trans hc1126))] at hm
             refine t_resp 79 rfl (v' := .bool false) (by rw [hc1126] <;> rfl) ?_
             refine t_st rfl (st_not_f rfl) ?_
             refine t_st rfl (st_move rfl) ?_
             refine t_no 81 rfl rfl rfl rfl rfl ?_
             refine t_no 81 rfl rfl rfl rfl rfl ?_
             refine t_no 81 rfl rfl rfl rfl rfl ?_
             refine t_no 81 rfl rfl rfl rfl rfl ?_
             refine t_no 81 rfl rfl rfl rfl rfl ?_
             refine t_no 81 rfl rfl rfl rfl rfl ?_
             refine t_no 81 rfl rfl rfl rfl rfl ?_
             refine t_st rfl (st_pick_t rfl rfl) ?_
             refine t_nil ?_
             obtain rfl := some1 hm
             refine x_pullb 3 rfl ?_
             refine x_pullb 3 rfl ?_
             exact x_join (e' := [(1, .slice A17 (l20).length c18), (2, .pointer (some ⟨g583, 0, none⟩)), (6, .map (some g588)), (8, .pointer (some ⟨g971, 0, none⟩)), (21, .slice A17 (l20).length c18), (22, .int .i64 ((l20.length : Int))), (23, .int .i64 ((k957 : Int))), (89, .bool (true))]) (hp' := (g583, Cl 28 [.slice A2 (s1.Stations).length c3, .slice A5 (s1.Sections).length c6, .slice A8 (s1.Links).length c9, .slice A11 (s1.Signals).length c12, .slice A14 (s1.Gates).length c15]) :: (g971, Cl 43 [.int .i64 (x961.Section), .int .i64 (x961.In), .int .i64 (x961.Out)]) :: (hs954 ++ R)) ⟨rfl, rfl, rfl, rfl, rfl, rfl, rfl, rfl, trivial⟩ (.cons_cons _ (.cons_cons _ (.cons _ (.cons _ (sub_app hs954 (.refl _)))))) ⟨rfl, rfl, (Base.Le.refl _)⟩
           ·
            rintro b1122 _ _ ⟨rfl, rfl, hle1123⟩
            have hm := hk1125
            refine c_cond _ rfl (fun hc1127 => ?_) (fun hc1127 => ?_)
            ·
             rw [if_pos hc1127] at hm
             refine c_seq ?_
             refine c_region ?_
             refine t_st rfl (st_assign rfl) ?_
             refine t_nil ?_
             refine x_then_normal ?_
             refine c_ret ?_
             refine x_then_ret ?_
             refine x_block_ret ?_
             refine x_then_ret ?_
             refine x_then_ret ?_
             refine x_block_ret ?_
             refine x_then_ret ?_
             have hq1128 := (Option.some.inj hm).symm
             rw [hq1128] at hk1099
             have hm := elimR hk1099
             have hq1129 := houtL591 _ (Option.some.inj hm).symm
             rw [hq1129] at hk960
             have hm := elimR hk960
             obtain rfl := some1 hm
             exact retM (rs := [.tmp 4]) [.int .i64 (5)] (hle952.trans (hle978.trans (hle1027.trans (hle1119.trans hle1123)))) (by decide) rfl ⟨rfl, trivial⟩ rfl (hp' := R) (.cons _ (.cons _ (sub_skip hs954 (.refl _)))) ⟨rfl, rfl⟩
            ·
             rw [if_neg (fun hh => Bool.noConfusion (hh.symm.trans hc1127))] at hm
             refine c_skip ?_
             have hq := (Option.some.inj hm).symm
             refine x_pullb 1 rfl ?_
             refine x_pullb 1 rfl ?_
             exact x_join (e' := [(1, .slice A17 (l20).length c18), (2, .pointer (some ⟨g583, 0, none⟩)), (6, .map (some g588)), (8, .pointer (some ⟨g971, 0, none⟩)), (21, .slice A17 (l20).length c18), (22, .int .i64 ((l20.length : Int))), (23, .int .i64 ((k957 : Int)))]) (hp' := (g583, Cl 28 [.slice A2 (s1.Stations).length c3, .slice A5 (s1.Sections).length c6, .slice A8 (s1.Links).length c9, .slice A11 (s1.Signals).length c12, .slice A14 (s1.Gates).length c15]) :: (g971, Cl 43 [.int .i64 (x961.Section), .int .i64 (x961.In), .int .i64 (x961.Out)]) :: (hs954 ++ R)) ⟨rfl, rfl, rfl, rfl, rfl, rfl, rfl, trivial⟩ (.cons_cons _ (.cons_cons _ (sub_app hs954 (.refl _)))) ⟨rfl, rfl, (hle1119.trans hle1123), hq⟩
          ·
           rw [if_neg (of_decide_eq_false hc1101)] at hm
           refine c_skip ?_
           have hq := (Option.some.inj hm).symm
           refine x_pullb 1 rfl ?_
           refine x_pullb 1 rfl ?_
           exact x_join (e' := [(1, .slice A17 (l20).length c18), (2, .pointer (some ⟨g583, 0, none⟩)), (6, .map (some g588)), (8, .pointer (some ⟨g971, 0, none⟩)), (21, .slice A17 (l20).length c18), (22, .int .i64 ((l20.length : Int))), (23, .int .i64 ((k957 : Int)))]) (hp' := (g583, Cl 28 [.slice A2 (s1.Stations).length c3, .slice A5 (s1.Sections).length c6, .slice A8 (s1.Links).length c9, .slice A11 (s1.Signals).length c12, .slice A14 (s1.Gates).length c15]) :: (g971, Cl 43 [.int .i64 (x961.Section), .int .i64 (x961.In), .int .i64 (x961.Out)]) :: (hs954 ++ R)) ⟨rfl, rfl, rfl, rfl, rfl, rfl, rfl, trivial⟩ (.cons_cons _ (.cons_cons _ (sub_app hs954 (.refl _)))) ⟨rfl, rfl, (Base.Le.refl _), hq⟩
         ·
          rintro b1097 _ _ ⟨rfl, rfl, hle1098, hq1130⟩
          rw [hq1130] at hk1099
          have hm := elimL hk1099
          refine c_seq ?_
          refine c_seq ?_
          refine c_region ?_
          refine t_st rfl (st_move rfl) ?_
          refine t_st rfl (st_field rfl fld43_0) ?_
          refine t_st rfl (st_load 1 rfl one3 rfl rfl) ?_
          obtain ⟨x1134, h1136, hm⟩ := bindS hm
          have hx1135 := Option.some.inj h1136
          obtain ⟨v1131, hv1132, hr1133⟩ := OM.lookF kok3 (z0 := false) (h955.le (hle978.trans (hle1027.trans hle1098))) (key := .int .i64 (x961.Section)) (k := x961.Section) rfl mapt74 zero4 rfl
          rw [hx1135] at hv1132
          obtain rfl : v1131 = .bool (x1134) := by have hv1132 : [v1131] = [.bool (x1134)] := hv1132; injection hv1132
          refine t_st rfl (st_mlook (ok := false) rfl rfl (fun w ho => hr1133 _ w ho (.cons _ (.cons _ (List.sublist_append_left _ _))) false)) ?_
          refine t_nil ?_
          refine x_then_normal ?_
          refine c_cond _ rfl (fun hc1137 => ?_) (fun hc1137 => ?_)
          ·
           rw [if_pos hc1137] at hm
           refine c_seq ?_
           refine c_region ?_
           refine t_st rfl (st_assign rfl) ?_
           refine t_nil ?_
           refine x_then_normal ?_
           refine c_ret ?_
           refine x_then_ret ?_
           refine x_block_ret ?_
           refine x_then_ret ?_
           refine x_then_ret ?_
           refine x_block_ret ?_
           refine x_then_ret ?_
           have hq1138 := houtL591 _ (Option.some.inj hm).symm
           rw [hq1138] at hk960
           have hm := elimR hk960
           obtain rfl := some1 hm
           exact retM (rs := [.tmp 4]) [.int .i64 (6)] (hle952.trans (hle978.trans (hle1027.trans hle1098))) (by decide) rfl ⟨rfl, trivial⟩ rfl (hp' := R) (.cons _ (.cons _ (sub_skip hs954 (.refl _)))) ⟨rfl, rfl⟩
          ·
           rw [if_neg (fun hh => Bool.noConfusion (hh.symm.trans hc1137))] at hm
           refine c_skip ?_
           refine x_then_normal ?_
           refine c_region ?_
           refine t_st rfl (st_move rfl) ?_
           refine t_st rfl (st_field rfl fld43_0) ?_
           refine t_st rfl (st_load 1 rfl one3 rfl rfl) ?_
           refine t_do rfl (u_mputF kok3 [_, _] [] R rfl (h955.le (hle978.trans (hle1027.trans hle1098))) mapt74 rfl rfl rfl rfl ⟨rfl, rfl⟩ _ (.inl rfl)) ?_
           rintro _ _ ⟨hs1139, rfl, hsub1140, h1141⟩
           refine t_nil ?_
           refine x_block_normal ?_
           refine x_then_normal ?_
           refine c_region ?_
           refine t_st rfl (st_add rfl rfl (by omega)) ?_
           refine t_st rfl (st_move rfl) ?_
           refine t_nil ?_
           exact x_againM (mput l956 x961.Section true) (Option.some.inj hm).symm (e' := [(1, .slice A17 (l20).length c18), (2, .pointer (some ⟨g583, 0, none⟩)), (6, .map (some g588)), (21, .slice A17 (l20).length c18), (22, .int .i64 ((l20.length : Int))), (23, .int .i64 ((k957 : Int) + 1))]) (hp' := (g583, Cl 28 [.slice A2 (s1.Stations).length c3, .slice A5 (s1.Sections).length c6, .slice A8 (s1.Links).length c9, .slice A11 (s1.Signals).length c12, .slice A14 (s1.Gates).length c15]) :: (hs1139 ++ R)) ⟨rfl, rfl, rfl, rfl, rfl, rfl, trivial⟩ (.cons_cons _ (.cons _ (sub_app hs1139 (.refl _)))) ⟨hs1139, rfl, rfl, ((hle952.trans (hle978.trans (hle1027.trans hle1098)))), h1141⟩
    ·
     rintro l956 b951 _ _ ⟨hs954, rfl, rfl, hle952, h955⟩ hq1143
     rw [hq1143] at hk960
     have hm := elimL hk960
     refine c_seq ?_
     refine c_region ?_
     refine t_st rfl (st_lss_f rfl rfl (by omega)) ?_
     refine t_nil ?_
     refine x_then_normal ?_
     refine c_seq ?_
     refine c_cond_f rfl ?_
     refine c_exit ?_
     refine x_then_exit ?_
     refine x_then_exit ?_
     refine x_block_out ?_
     refine x_then_normal ?_
     refine c_seq ?_
     refine c_region ?_
     refine t_st rfl (st_assign rfl) ?_
     refine t_nil ?_
     refine x_then_normal ?_
     refine c_ret ?_
     obtain rfl := some1 hm
     exact retM (rs := [.tmp 4]) [.int .i64 (0)] hle952 (by decide) rfl ⟨rfl, trivial⟩ rfl (hp' := R) (.cons _ (sub_skip hs954 (.refl _))) ⟨rfl, rfl⟩

set_option maxRecDepth 20000 in
theorem cLineCheckEnd (b : Base) (R : Hp) (s1 : ApiNet) (s17 : LineEnd) (A2 : Option Addr) (c3 : Nat) (A5 : Option Addr) (c6 : Nat) (A8 : Option Addr) (c9 : Nat) (A11 : Option Addr) (c12 : Nat) (A14 : Option Addr) (c15 : Nat) (h4 : FZ RT.str b.w A2 c3 s1.Stations) (h7 : FZ rApiSection b.w A5 c6 s1.Sections) (h10 : FZ rApiLink b.w A8 c9 s1.Links) (h13 : FZ rApiSignal b.w A11 c12 s1.Signals) (h16 : FZ rApiGate b.w A14 c15 s1.Gates) (x26 : Int) (hm : mLineCheckEnd s1 s17 = some x26) :
    CallsG Tryd.prog 62 [.agg #[.slice A2 (s1.Stations).length c3, .slice A5 (s1.Sections).length c6, .slice A8 (s1.Links).length c9, .slice A11 (s1.Signals).length c12, .slice A14 (s1.Gates).length c15], .agg #[.int .i64 (s17.section_), .int .i64 (s17.end_)]] b (R) (fun v b' hp' => .int .i64 (x26) = v ∧ R = hp') := by
  refine fn_enterG 15 Tryd.func62 rfl Tryd.ntmps62 rfl ?_
  unfold mLineCheckEnd at hm
  refine c_seq ?_
  refine c_region ?_
  refine t_do rfl (u_box _ rfl rfl) ?_
  rintro _ _ ⟨g27, rfl, rfl⟩
  refine t_do rfl (u_box _ rfl rfl) ?_
  rintro _ _ ⟨g28, rfl, rfl⟩
  refine t_st rfl (st_assign rfl) ?_
  refine t_nil ?_
  refine x_then_normal ?_
  refine c_seq ?_
  refine c_seq ?_
  refine c_region ?_
  refine t_st rfl (st_loadD (vs := [_, _, _, _, _]) 1 5 rfl agg28 rfl rfl rfl) ?_
  obtain ⟨x29, hcl30, hm⟩ := bindS hm
  refine t_do rfl (u_callW0 _ call15 rfl (fun w ho => cLineCheck _ [] s1 A2 c3 A5 c6 A8 c9 A11 c12 A14 c15 (h4.old ho) (h7.old ho) (h10.old ho) (h13.old ho) (h16.old ho) x29 hcl30) (fun _ _ _ h => h.2.symm)) ?_
  rintro _ _ ⟨⟨_, rfl, _⟩, rfl⟩
  refine t_st rfl (st_assign rfl) ?_
  refine t_nil ?_
  refine x_then_normal ?_
  refine c_seq ?_
  refine c_region ?_
  refine t_st rfl (st_move rfl) ?_
  refine t_st rfl (st_neq rfl rfl) ?_
  refine t_nil ?_
  refine x_then_normal ?_
  refine c_cond _ rfl (fun hc31 => ?_) (fun hc31 => ?_)
  ·
   rw [if_pos (of_decide_eq_true hc31)] at hm
   refine c_seq ?_
   refine c_region ?_
   refine t_st rfl (st_move rfl) ?_
   refine t_st rfl (st_assign rfl) ?_
   refine t_nil ?_
   refine x_then_normal ?_
   refine c_ret ?_
   refine x_then_ret ?_
   obtain rfl := some1 hm
   exact retM (rs := [.tmp 4]) [.int .i64 (x29)] (Base.Le.refl _) (by decide) rfl ⟨rfl, trivial⟩ rfl (hp' := R) (.cons _ (.cons _ (.refl _))) ⟨rfl, rfl⟩
  ·
   rw [if_neg (of_decide_eq_false hc31)] at hm
   refine c_skip ?_
   refine x_then_normal ?_
   refine c_seq ?_
   refine c_seq ?_
   refine c_region ?_
   refine t_st rfl (st_loadD (vs := [_, _, _, _, _]) 1 5 rfl agg28 rfl rfl rfl) ?_
   refine t_st rfl (st_loadD (vs := [_, _]) 0 2 rfl agg77 rfl rfl rfl) ?_
   obtain ⟨x32, hcl33, hm⟩ := bindS hm
   refine t_do rfl (u_callW0 _ call24 rfl (fun w ho => cLineHas _ [] s1 s17 A2 c3 A5 c6 A8 c9 A11 c12 A14 c15 (h4.old ho) (h7.old ho) (h10.old ho) (h13.old ho) (h16.old ho) x32 hcl33) (fun _ _ _ h => h.2.symm)) ?_
   rintro _ _ ⟨⟨_, rfl, _⟩, rfl⟩
   refine t_st rfl (st_not rfl) ?_
   refine t_nil ?_
   refine x_then_normal ?_
   refine c_cond _ rfl (fun hc34 => ?_) (fun hc34 => ?_)
   ·
    rw [if_neg (fun hh => Bool.noConfusion (hh.symm.trans (notT hc34)))] at hm
    refine c_seq ?_
    refine c_region ?_
    refine t_st rfl (st_assign rfl) ?_
    refine t_nil ?_
    refine x_then_normal ?_
    refine c_ret ?_
    refine x_then_ret ?_
    obtain rfl := some1 hm
    exact retM (rs := [.tmp 4]) [.int .i64 (3)] (Base.Le.refl _) (by decide) rfl ⟨rfl, trivial⟩ rfl (hp' := R) (.cons _ (.cons _ (.refl _))) ⟨rfl, rfl⟩
   ·
    rw [if_pos (notF hc34)] at hm
    refine c_skip ?_
    refine x_then_normal ?_
    refine c_seq ?_
    refine c_region ?_
    refine t_st rfl (st_assign rfl) ?_
    refine t_nil ?_
    refine x_then_normal ?_
    refine c_ret ?_
    obtain rfl := some1 hm
    exact retM (rs := [.tmp 4]) [.int .i64 (0)] (Base.Le.refl _) (by decide) rfl ⟨rfl, trivial⟩ rfl (hp' := R) (.cons _ (.cons _ (.refl _))) ⟨rfl, rfl⟩

set_option maxRecDepth 20000 in
theorem cLineNext (b : Base) (R : Hp) (s1 : ApiNet) (x17 : Int) (x18 : Int) (A2 : Option Addr) (c3 : Nat) (A5 : Option Addr) (c6 : Nat) (A8 : Option Addr) (c9 : Nat) (A11 : Option Addr) (c12 : Nat) (A14 : Option Addr) (c15 : Nat) (h4 : FZ RT.str b.w A2 c3 s1.Stations) (h7 : FZ rApiSection b.w A5 c6 s1.Sections) (h10 : FZ rApiLink b.w A8 c9 s1.Links) (h13 : FZ rApiSignal b.w A11 c12 s1.Signals) (h16 : FZ rApiGate b.w A14 c15 s1.Gates) (x32 : Int) (x33 : Int) (x34 : Int) (hm : mLineNext s1 x17 x18 = some (x32, x33, x34)) :
    CallsG Tryd.prog 44 [.agg #[.slice A2 (s1.Stations).length c3, .slice A5 (s1.Sections).length c6, .slice A8 (s1.Links).length c9, .slice A11 (s1.Signals).length c12, .slice A14 (s1.Gates).length c15], .int .i64 (x17), .int .i64 (x18)] b (R) (fun v b' hp' => .tuple #[.int .i64 (x32), .int .i64 (x33), .int .i64 (x34)] = v ∧ R = hp') := by
  refine fn_enterG 34 Tryd.func44 rfl Tryd.ntmps44 rfl ?_
  unfold mLineNext at hm
  refine c_seq ?_
  refine c_region ?_
  refine t_do rfl (u_box _ rfl rfl) ?_
  rintro _ _ ⟨g35, rfl, rfl⟩
  refine t_st rfl (st_assign rfl) ?_
  refine t_st rfl (st_assign rfl) ?_
  refine t_st rfl (st_assign rfl) ?_
  refine t_nil ?_
  refine x_then_normal ?_
  refine c_seq ?_
  refine c_region ?_
  refine t_st rfl (st_move rfl) ?_
  refine t_st rfl (st_move rfl) ?_
  refine t_st rfl (st_build (v := .agg #[.int .i64 (x17), .int .i64 (x18)]) [(0, .int .i64 (x17)), (1, .int .i64 (x18))] rfl (fun _ => by kernel_rfl)) ?_
  refine t_do rfl (u_alloc [.int .i64 0, .int .i64 0] zero77 rfl) ?_
  rintro _ _ ⟨g36, rfl, rfl⟩
  refine t_do rfl (u_storeN (vs := [_, _]) 0 2 rfl rfl rfl siz77 rfl (by intro u hu; simp only [List.mem_cons, List.not_mem_nil, or_false] at hu; rcases hu with rfl | rfl <;> rfl) rfl (by simp)) ?_
  rintro _ _ rfl
  refine t_nil ?_
  refine x_then_normal ?_
  refine c_seq ?_
  refine c_seq ?_
  refine c_region ?_
  refine t_st rfl (st_loadD (vs := [_, _, _, _, _]) 1 5 rfl agg28 rfl rfl rfl) ?_
  refine t_st rfl (st_loadD (vs := [_, _]) 0 2 rfl agg77 rfl rfl rfl) ?_
  obtain ⟨x37, hcl38, hm⟩ := bindS hm
  refine t_do rfl (u_callW0 _ call62 rfl (fun w ho => cLineCheckEnd _ [] s1 (⟨x17, x18⟩ : LineEnd) A2 c3 A5 c6 A8 c9 A11 c12 A14 c15 (h4.old ho) (h7.old ho) (h10.old ho) (h13.old ho) (h16.old ho) x37 hcl38) (fun _ _ _ h => h.2.symm)) ?_
  rintro _ _ ⟨⟨_, rfl, _⟩, rfl⟩
  refine t_st rfl (st_assign rfl) ?_
  refine t_nil ?_
  refine x_then_normal ?_
  refine c_seq ?_
  refine c_region ?_
  refine t_st rfl (st_move rfl) ?_
  refine t_st rfl (st_neq rfl rfl) ?_
  refine t_nil ?_
  refine x_then_normal ?_
  refine c_cond _ rfl (fun hc39 => ?_) (fun hc39 => ?_)
  ·
   rw [if_pos (of_decide_eq_true hc39)] at hm
   refine c_seq ?_
   refine c_region ?_
   refine t_st rfl (st_move rfl) ?_
   refine t_st rfl (st_assign rfl) ?_
   refine t_st rfl (st_assign rfl) ?_
   refine t_st rfl (st_assign rfl) ?_
   refine t_nil ?_
   refine x_then_normal ?_
   refine c_ret ?_
   refine x_then_ret ?_
   obtain ⟨rfl, rfl, rfl⟩ := some3 hm
   exact retM (rs := [.tmp 6, .tmp 7, .tmp 8]) [.int .i64 (0), .int .i64 (0), .int .i64 (x37)] (Base.Le.refl _) (by decide) rfl ⟨rfl, ⟨rfl, ⟨rfl, trivial⟩⟩⟩ rfl (hp' := R) (.cons _ (.cons _ (.refl _))) ⟨rfl, rfl⟩
  ·
   rw [if_neg (of_decide_eq_false hc39)] at hm
   refine c_skip ?_
   refine x_then_normal ?_
   refine c_seq ?_
   refine c_region ?_
   refine t_st rfl (st_loadD (vs := [_, _, _, _, _]) 1 5 rfl agg28 rfl rfl rfl) ?_
   refine t_st rfl (st_loadD (vs := [_, _]) 0 2 rfl agg77 rfl rfl rfl) ?_
   obtain ⟨⟨x40, x41, x42⟩, hcl43, hm⟩ := bindS hm
   have hm := (unc3E hm)
   refine t_callG _ rfl call27 rfl (cLineJoined _ _ s1 (⟨x17, x18⟩ : LineEnd) A2 c3 A5 c6 A8 c9 A11 c12 A14 c15 h4 h7 h10 h13 h16 x40 x41 x42 hcl43) ?_
   rintro _ b44 _ hle45 ⟨rfl, rfl⟩
   refine t_st rfl (st_move rfl) ?_
   refine t_st rfl (st_extract rfl rfl) ?_
   refine t_st rfl (st_extract rfl rfl) ?_
   refine t_do rfl (u_alloc [.int .i64 0, .int .i64 0] zero77 rfl) ?_
   rintro _ _ ⟨g46, rfl, rfl⟩
   refine t_do rfl (u_storeN (vs := [_, _]) 0 2 rfl rfl rfl siz77 rfl (by intro u hu; simp only [List.mem_cons, List.not_mem_nil, or_false] at hu; rcases hu with rfl | rfl <;> rfl) rfl (by simp)) ?_
   rintro _ _ rfl
   refine t_st rfl (st_assign rfl) ?_
   refine t_nil ?_
   refine x_then_normal ?_
   refine c_seq ?_
   refine c_seq ?_
   refine c_region ?_
   refine t_st rfl (st_move rfl) ?_
   refine t_st rfl (st_not rfl) ?_
   refine t_nil ?_
   refine x_then_normal ?_
   refine c_cond _ rfl (fun hc47 => ?_) (fun hc47 => ?_)
   ·
    rw [if_neg (fun hh => Bool.noConfusion (hh.symm.trans (notT hc47)))] at hm
    refine c_seq ?_
    refine c_region ?_
    refine t_st rfl (st_assign rfl) ?_
    refine t_st rfl (st_assign rfl) ?_
    refine t_st rfl (st_assign rfl) ?_
    refine t_nil ?_
    refine x_then_normal ?_
    refine c_ret ?_
    refine x_then_ret ?_
    obtain ⟨rfl, rfl, rfl⟩ := some3 hm
    exact retM (rs := [.tmp 6, .tmp 7, .tmp 8]) [.int .i64 (0), .int .i64 (0), .int .i64 (9)] hle45 (by decide) rfl ⟨rfl, ⟨rfl, ⟨rfl, trivial⟩⟩⟩ rfl (hp' := R) (.cons _ (.cons _ (.cons _ (.refl _)))) ⟨rfl, rfl⟩
   ·
    rw [if_pos (notF hc47)] at hm
    refine c_skip ?_
    refine x_then_normal ?_
    refine c_seq ?_
    refine D_drawS ((g46, Cl 77 [.int .i64 (x40), .int .i64 (x41)]) :: (g36, Cl 77 [.int .i64 (x17), .int .i64 (x18)]) :: (g35, Cl 28 [.slice A2 (s1.Stations).length c3, .slice A5 (s1.Sections).length c6, .slice A8 (s1.Links).length c9, .slice A11 (s1.Signals).length c12, .slice A14 (s1.Gates).length c15]) :: R) mixed ?_
    refine E_in (.cons_cons _ (.cons_cons _ (.cons_cons _ (.refl _)))) ?_
    refine E_st 0 rfl (st_field rfl fld77_0) ?_
    refine E_st 1 rfl (st_load 0 rfl one3 rfl rfl) ?_
    refine E_st 2 rfl (st_field rfl fld77_1) ?_
    refine E_st 3 rfl (st_load 0 rfl one3 rfl rfl) ?_
    refine E_st 4 rfl (st_assign rfl) ?_
    refine E_st 5 rfl (st_assign rfl) ?_
    refine E_st 6 rfl (st_assign rfl) ?_
    refine E_out ?_
    refine D_done (by kernel_rfl) ?_
    refine x_then_normal ?_
    refine c_ret ?_
    obtain ⟨rfl, rfl, rfl⟩ := some3 hm
    exact retM (rs := [.tmp 6, .tmp 7, .tmp 8]) [.int .i64 (x40), .int .i64 (x41), .int .i64 (0)] hle45 (by decide) rfl ⟨rfl, ⟨rfl, ⟨rfl, trivial⟩⟩⟩ rfl (hp' := R) (.cons _ (.cons _ (.cons _ (.refl _)))) ⟨rfl, rfl⟩

set_option maxRecDepth 20000 in
theorem cLineSignalAt (b : Base) (R : Hp) (s1 : ApiNet) (x17 : Int) (x18 : Int) (A2 : Option Addr) (c3 : Nat) (A5 : Option Addr) (c6 : Nat) (A8 : Option Addr) (c9 : Nat) (A11 : Option Addr) (c12 : Nat) (A14 : Option Addr) (c15 : Nat) (h4 : FZ RT.str b.w A2 c3 s1.Stations) (h7 : FZ rApiSection b.w A5 c6 s1.Sections) (h10 : FZ rApiLink b.w A8 c9 s1.Links) (h13 : FZ rApiSignal b.w A11 c12 s1.Signals) (h16 : FZ rApiGate b.w A14 c15 s1.Gates) (x27 : Int) (x28 : Int) (hm : mLineSignalAt s1 x17 x18 = some (x27, x28)) :
    CallsG Tryd.prog 45 [.agg #[.slice A2 (s1.Stations).length c3, .slice A5 (s1.Sections).length c6, .slice A8 (s1.Links).length c9, .slice A11 (s1.Signals).length c12, .slice A14 (s1.Gates).length c15], .int .i64 (x17), .int .i64 (x18)] b (R) (fun v b' hp' => .tuple #[.int .i64 (x27), .int .i64 (x28)] = v ∧ R = hp') := by
  refine fn_enterG 26 Tryd.func45 rfl Tryd.ntmps45 rfl ?_
  unfold mLineSignalAt at hm
  refine c_seq ?_
  refine c_region ?_
  refine t_do rfl (u_box _ rfl rfl) ?_
  rintro _ _ ⟨g29, rfl, rfl⟩
  refine t_st rfl (st_assign rfl) ?_
  refine t_st rfl (st_assign rfl) ?_
  refine t_nil ?_
  refine x_then_normal ?_
  refine c_seq ?_
  refine c_region ?_
  refine t_st rfl (st_move rfl) ?_
  refine t_st rfl (st_move rfl) ?_
  refine t_st rfl (st_build (v := .agg #[.int .i64 (x17), .int .i64 (x18)]) [(0, .int .i64 (x17)), (1, .int .i64 (x18))] rfl (fun _ => by kernel_rfl)) ?_
  refine t_do rfl (u_alloc [.int .i64 0, .int .i64 0] zero77 rfl) ?_
  rintro _ _ ⟨g30, rfl, rfl⟩
  refine t_do rfl (u_storeN (vs := [_, _]) 0 2 rfl rfl rfl siz77 rfl (by intro u hu; simp only [List.mem_cons, List.not_mem_nil, or_false] at hu; rcases hu with rfl | rfl <;> rfl) rfl (by simp)) ?_
  rintro _ _ rfl
  refine t_nil ?_
  refine x_then_normal ?_
  refine c_seq ?_
  refine c_seq ?_
  refine c_region ?_
  refine t_st rfl (st_loadD (vs := [_, _, _, _, _]) 1 5 rfl agg28 rfl rfl rfl) ?_
  refine t_st rfl (st_loadD (vs := [_, _]) 0 2 rfl agg77 rfl rfl rfl) ?_
  obtain ⟨x31, hcl32, hm⟩ := bindS hm
  refine t_do rfl (u_callW0 _ call62 rfl (fun w ho => cLineCheckEnd _ [] s1 (⟨x17, x18⟩ : LineEnd) A2 c3 A5 c6 A8 c9 A11 c12 A14 c15 (h4.old ho) (h7.old ho) (h10.old ho) (h13.old ho) (h16.old ho) x31 hcl32) (fun _ _ _ h => h.2.symm)) ?_
  rintro _ _ ⟨⟨_, rfl, _⟩, rfl⟩
  refine t_st rfl (st_assign rfl) ?_
  refine t_nil ?_
  refine x_then_normal ?_
  refine c_seq ?_
  refine c_region ?_
  refine t_st rfl (st_move rfl) ?_
  refine t_st rfl (st_neq rfl rfl) ?_
  refine t_nil ?_
  refine x_then_normal ?_
  refine c_cond _ rfl (fun hc33 => ?_) (fun hc33 => ?_)
  ·
   rw [if_pos (of_decide_eq_true hc33)] at hm
   refine c_seq ?_
   refine c_region ?_
   refine t_st rfl (st_move rfl) ?_
   refine t_st rfl (st_assign rfl) ?_
   refine t_st rfl (st_assign rfl) ?_
   refine t_nil ?_
   refine x_then_normal ?_
   refine c_ret ?_
   refine x_then_ret ?_
   obtain ⟨rfl, rfl⟩ := some2 hm
   exact retM (rs := [.tmp 6, .tmp 7]) [.int .i64 (0), .int .i64 (x31)] (Base.Le.refl _) (by decide) rfl ⟨rfl, ⟨rfl, trivial⟩⟩ rfl (hp' := R) (.cons _ (.cons _ (.refl _))) ⟨rfl, rfl⟩
  ·
   rw [if_neg (of_decide_eq_false hc33)] at hm
   refine c_skip ?_
   refine x_then_normal ?_
   refine c_seq ?_
   refine c_region ?_
   refine t_st rfl (st_loadD (vs := [_, _, _, _, _]) 1 5 rfl agg28 rfl rfl rfl) ?_
   refine t_st rfl (st_loadD (vs := [_, _]) 0 2 rfl agg77 rfl rfl rfl) ?_
   obtain ⟨x34, hcl35, hm⟩ := bindS hm
   refine t_do rfl (u_callW0 _ call63 rfl (fun w ho => cLineSignal _ [] s1 (⟨x17, x18⟩ : LineEnd) A2 c3 A5 c6 A8 c9 A11 c12 A14 c15 (h4.old ho) (h7.old ho) (h10.old ho) (h13.old ho) (h16.old ho) x34 hcl35) (fun _ _ _ h => h.2.symm)) ?_
   rintro _ _ ⟨⟨_, rfl, _⟩, rfl⟩
   refine t_st rfl (st_assign rfl) ?_
   refine t_nil ?_
   refine x_then_normal ?_
   refine c_seq ?_
   refine c_seq ?_
   refine c_region ?_
   refine t_st rfl (st_move rfl) ?_
   refine t_st rfl (st_lss rfl rfl) ?_
   refine t_nil ?_
   refine x_then_normal ?_
   refine c_cond _ rfl (fun hc36 => ?_) (fun hc36 => ?_)
   ·
    rw [if_pos (of_decide_eq_true hc36)] at hm
    refine c_seq ?_
    refine c_region ?_
    refine t_st rfl (st_assign rfl) ?_
    refine t_st rfl (st_assign rfl) ?_
    refine t_nil ?_
    refine x_then_normal ?_
    refine c_ret ?_
    refine x_then_ret ?_
    obtain ⟨rfl, rfl⟩ := some2 hm
    exact retM (rs := [.tmp 6, .tmp 7]) [.int .i64 (0), .int .i64 (9)] (Base.Le.refl _) (by decide) rfl ⟨rfl, ⟨rfl, trivial⟩⟩ rfl (hp' := R) (.cons _ (.cons _ (.refl _))) ⟨rfl, rfl⟩
   ·
    rw [if_neg (of_decide_eq_false hc36)] at hm
    refine c_skip ?_
    refine x_then_normal ?_
    refine c_seq ?_
    refine c_region ?_
    refine t_st rfl (st_move rfl) ?_
    refine t_st rfl (st_assign rfl) ?_
    refine t_st rfl (st_assign rfl) ?_
    refine t_nil ?_
    refine x_then_normal ?_
    refine c_ret ?_
    obtain ⟨rfl, rfl⟩ := some2 hm
    exact retM (rs := [.tmp 6, .tmp 7]) [.int .i64 (x34), .int .i64 (0)] (Base.Le.refl _) (by decide) rfl ⟨rfl, ⟨rfl, trivial⟩⟩ rfl (hp' := R) (.cons _ (.cons _ (.refl _))) ⟨rfl, rfl⟩

end Go.Proofs.YtcibjjhanafojaaDoor
