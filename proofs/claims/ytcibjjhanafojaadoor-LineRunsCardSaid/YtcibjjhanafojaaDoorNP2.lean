/- Contracts: the code computes its model (part 2). -/
import Derived.Test.YtcibjjhanafojaaDoorNP1
set_option linter.unusedVariables false
set_option linter.unusedSimpArgs false
namespace Go.Proofs.YtcibjjhanafojaaDoor
open Go.RowKit Go.Fp

set_option maxRecDepth 20000 in
theorem cLineCheckLinks (b : Base) (R : Hp) (s1 : ApiNet) (A2 : Option Addr) (c3 : Nat) (A5 : Option Addr) (c6 : Nat) (A8 : Option Addr) (c9 : Nat) (A11 : Option Addr) (c12 : Nat) (A14 : Option Addr) (c15 : Nat) (h4 : FZ RT.str b.w A2 c3 s1.Stations) (h7 : FZ rApiSection b.w A5 c6 s1.Sections) (h10 : FZ rApiLink b.w A8 c9 s1.Links) (h13 : FZ rApiSignal b.w A11 c12 s1.Signals) (h16 : FZ rApiGate b.w A14 c15 s1.Gates) (x638 : Int) (hm : mLineCheckLinks s1 = some x638) :
    CallsG Tryd.prog 38 [.agg #[.slice A2 (s1.Stations).length c3, .slice A5 (s1.Sections).length c6, .slice A8 (s1.Links).length c9, .slice A11 (s1.Signals).length c12, .slice A14 (s1.Gates).length c15]] b (R) (fun v b' hp' => .int .i64 (x638) = v ∧ R = hp') := by
  refine fn_enterG 85 Tryd.func38 rfl Tryd.ntmps38 rfl ?_
  unfold mLineCheckLinks at hm
  refine c_seq ?_
  refine c_region ?_
  refine t_do rfl (u_box _ rfl rfl) ?_
  rintro _ _ ⟨g639, rfl, rfl⟩
  refine t_st rfl (st_assign rfl) ?_
  refine t_nil ?_
  refine x_then_normal ?_
  refine c_seq ?_
  refine c_region ?_
  refine t_do rfl (u_mmap rLineEnd (OT.fr RT.bool) true false [_] R rfl) ?_
  rintro _ _ ⟨g640, hs641, rfl, rfl, h642⟩
  refine t_st rfl (st_assign rfl) ?_
  refine t_nil ?_
  refine x_then_normal ?_
  refine c_seq ?_
  refine c_seq ?_
  refine c_region ?_
  refine t_st rfl (st_field rfl fld28_2) ?_
  refine t_st rfl (st_load 0 rfl one24 rfl rfl) ?_
  refine t_st rfl (st_len rfl sl24) ?_
  refine t_st rfl (st_move rfl) ?_
  refine t_nil ?_
  refine x_then_normal ?_
  refine c_block ?_
  have hb644 : s1.Links.length ≤ 9223372036854775807 := (FZ.bd h10)
  obtain ⟨t1052, hl1053, hk1054⟩ := bindS hm
  refine c_forM (fun k1051 => fun l1050 => fun b1045 e' hp' => ∃ (hs1048 : Hp), [(1, .pointer (some ⟨g639, 0, none⟩)), (3, .map (some g640)), (11, .slice A8 (s1.Links).length c9), (12, .int .i64 ((s1.Links.length : Int))), (13, .int .i64 ((k1051 : Int)))] = e' ∧ (g639, Cl 28 [.slice A2 (s1.Stations).length c3, .slice A5 (s1.Sections).length c6, .slice A8 (s1.Links).length c9, .slice A11 (s1.Signals).length c12, .slice A14 (s1.Gates).length c15]) :: (hs1048 ++ R) = hp' ∧ b.Le b1045 ∧ OM rLineEnd (OT.fr RT.bool) true false b1045.w g640 l1050 hs1048) hl1053 (e' := [(1, .pointer (some ⟨g639, 0, none⟩)), (3, .map (some g640)), (11, .slice A8 (s1.Links).length c9), (12, .int .i64 ((s1.Links.length : Int))), (13, .int .i64 0)]) (hp' := (g639, Cl 28 [.slice A2 (s1.Stations).length c3, .slice A5 (s1.Sections).length c6, .slice A8 (s1.Links).length c9, .slice A11 (s1.Signals).length c12, .slice A14 (s1.Gates).length c15]) :: (hs641 ++ R)) ⟨rfl, rfl, rfl, rfl, rfl, trivial⟩ (.cons_cons _ (sub_app hs641 (.refl _))) ⟨hs641, rfl, rfl, (Base.Le.refl _), h642⟩ ?_ ?_
  ·
   rintro k1051 l1050 b1045 _ _ oL643 hknL643 ⟨hs1048, rfl, rfl, hle1046, h1049⟩ hstepL643 houtL643
   unfold mLineCheckLinks_L643 at hstepL643
   have hm := hstepL643
   refine c_seq ?_
   refine c_region ?_
   refine t_st rfl (st_lss_t rfl rfl (by omega)) ?_
   refine t_nil ?_
   refine x_then_normal ?_
   refine c_seq ?_
   refine c_cond_t rfl ?_
   refine c_skip ?_
   refine x_then_normal ?_
   refine c_seq ?_
   refine c_block ?_
   refine c_seq ?_
   refine c_region ?_
   refine t_st rfl (st_move rfl) ?_
   obtain ⟨x1055, h1056, hm⟩ := bindS hm
   obtain ⟨j1057, hj1058, hx1059⟩ := idx_some h1056
   obtain ⟨cs1060, hr1061, hcs1062, hA1063, hlt1064⟩ := FZ.get (sz := 4) rfl (by decide) (h10.le hle1046) hx1059
   obtain ⟨_, _, rfl, rfl, ⟨_, _, rfl, rfl, ⟨_, _, rfl, rfl, rfl⟩⟩⟩ := hr1061
   refine t_st rfl (st_index_old j1057 rfl rfl hj1058 hlt1064 hA1063 sl24) ?_
   refine t_st rfl (st_loadN_old (vs := [.int .i64 (x1055.A), .int .i64 (x1055.EndA), .int .i64 (x1055.B), .int .i64 (x1055.EndB)]) 4 rfl agg61 hA1063 rfl (fun j u hu => hcs1062 j u hu)) ?_
   refine t_do rfl (u_alloc [.int .i64 0, .int .i64 0, .int .i64 0, .int .i64 0] zero61 rfl) ?_
   rintro _ _ ⟨g1065, rfl, rfl⟩
   refine t_st rfl (st_assign rfl) ?_
   refine t_do rfl (u_storeN (vs := [_, _, _, _]) 0 4 rfl rfl rfl siz61 rfl (by intro u hu; simp only [List.mem_cons, List.not_mem_nil, or_false] at hu; rcases hu with rfl | rfl | rfl | rfl <;> rfl) rfl (by simp)) ?_
   rintro _ _ rfl
   refine t_nil ?_
   refine x_then_normal ?_
   obtain ⟨_, hj1074, hk1074⟩ := bindS hm
   refine c_join (fun b1070 e' hp' => ∃ (g1072 : Nat), ∃ (g1073 : Nat), [(1, .pointer (some ⟨g639, 0, none⟩)), (3, .map (some g640)), (4, .int .i64 ((k1051 : Int))), (5, .pointer (some ⟨g1065, 0, none⟩)), (6, .pointer (some ⟨g1072, 0, none⟩)), (7, .pointer (some ⟨g1073, 0, none⟩)), (11, .slice A8 (s1.Links).length c9), (12, .int .i64 ((s1.Links.length : Int))), (13, .int .i64 ((k1051 : Int)))] = e' ∧ (g639, Cl 28 [.slice A2 (s1.Stations).length c3, .slice A5 (s1.Sections).length c6, .slice A8 (s1.Links).length c9, .slice A11 (s1.Signals).length c12, .slice A14 (s1.Gates).length c15]) :: (g1065, Cl 61 [.int .i64 (x1055.A), .int .i64 (x1055.EndA), .int .i64 (x1055.B), .int .i64 (x1055.EndB)]) :: (g1072, Cl 77 [.int .i64 (x1055.A), .int .i64 (x1055.EndA)]) :: (g1073, Cl 77 [.int .i64 (x1055.B), .int .i64 (x1055.EndB)]) :: (hs1048 ++ R) = hp' ∧ b1045.Le b1070) ?_ ?_
   ·
    have hm := hj1074
    refine D_drawS ((g1065, Cl 61 [.int .i64 (x1055.A), .int .i64 (x1055.EndA), .int .i64 (x1055.B), .int .i64 (x1055.EndB)]) :: (g639, Cl 28 [.slice A2 (s1.Stations).length c3, .slice A5 (s1.Sections).length c6, .slice A8 (s1.Links).length c9, .slice A11 (s1.Signals).length c12, .slice A14 (s1.Gates).length c15]) :: (hs1048 ++ R)) mixed ?_
    refine E_in (.cons_cons _ (.cons_cons _ (sub_app hs1048 (.refl _)))) ?_
    refine E_st 0 rfl (st_field rfl fld61_0) ?_
    refine E_st 1 rfl (st_load 0 rfl one3 rfl rfl) ?_
    refine E_st 2 rfl (st_field rfl fld61_1) ?_
    refine E_st 3 rfl (st_load 0 rfl one3 rfl rfl) ?_
    refine E_st 4 rfl (st_build (v := .agg #[.int .i64 (x1055.A), .int .i64 (x1055.EndA)]) [(0, .int .i64 (x1055.A)), (1, .int .i64 (x1055.EndA))] rfl (fun _ => by kernel_rfl)) ?_
    refine E_st 5 rfl (st_field rfl fld61_2) ?_
    refine E_st 6 rfl (st_load 0 rfl one3 rfl rfl) ?_
    refine E_st 7 rfl (st_field rfl fld61_3) ?_
    refine E_st 8 rfl (st_load 0 rfl one3 rfl rfl) ?_
    refine E_st 9 rfl (st_build (v := .agg #[.int .i64 (x1055.B), .int .i64 (x1055.EndB)]) [(0, .int .i64 (x1055.B)), (1, .int .i64 (x1055.EndB))] rfl (fun _ => by kernel_rfl)) ?_
    refine E_out ?_
    refine D_all [10, 11] (by kernel_rfl) rfl ?_
    refine R_do (Base.Le.refl _) rfl rfl (u_alloc [.int .i64 0, .int .i64 0] zero77 rfl) ?_ ?_
    ·
     rintro _ _ ⟨g1077, rfl, rfl⟩
     refine ⟨.inr (.cons _ (.cons_cons _ (.cons_cons _ (sub_app hs1048 (.refl _))))), ?_⟩
     refine D_all [11] (by kernel_rfl) rfl ?_
     refine R_do (Base.Le.refl _) rfl rfl (u_alloc [.int .i64 0, .int .i64 0] zero77 rfl) ?_ ?_
     ·
      rintro _ _ ⟨g1078, rfl, rfl⟩
      refine ⟨.inr (.cons _ (.cons _ (.cons_cons _ (.cons_cons _ (sub_app hs1048 (.refl _)))))), ?_⟩
      refine D_all [12] (by kernel_rfl) rfl ?_
      refine R_do (Base.Le.refl _) rfl rfl (u_storeN (vs := [_, _]) 1 2 rfl rfl rfl siz77 rfl (by intro u hu; simp only [List.mem_cons, List.not_mem_nil, or_false] at hu; rcases hu with rfl | rfl <;> rfl) rfl (by simp)) ?_ ?_
      ·
       rintro _ _ rfl
       refine ⟨.inr (.cons _ (.cons _ (.cons_cons _ (.cons_cons _ (sub_app hs1048 (.refl _)))))), ?_⟩
       refine D_all [13] (by kernel_rfl) rfl ?_
       refine R_do (Base.Le.refl _) rfl rfl (u_storeN (vs := [_, _]) 0 2 rfl rfl rfl siz77 rfl (by intro u hu; simp only [List.mem_cons, List.not_mem_nil, or_false] at hu; rcases hu with rfl | rfl <;> rfl) rfl (by simp)) ?_ ?_
       ·
        rintro _ _ rfl
        refine ⟨.inl (by kernel_rfl), ?_⟩
        refine D_done (by kernel_rfl) ?_
        clear hm
        refine x_pullb 1 rfl ?_
        refine x_pullb 2 rfl ?_
        refine x_pullb 3 rfl ?_
        exact x_join (e' := [(1, .pointer (some ⟨g639, 0, none⟩)), (3, .map (some g640)), (4, .int .i64 ((k1051 : Int))), (5, .pointer (some ⟨g1065, 0, none⟩)), (6, .pointer (some ⟨g1077, 0, none⟩)), (7, .pointer (some ⟨g1078, 0, none⟩)), (11, .slice A8 (s1.Links).length c9), (12, .int .i64 ((s1.Links.length : Int))), (13, .int .i64 ((k1051 : Int)))]) (hp' := (g639, Cl 28 [.slice A2 (s1.Stations).length c3, .slice A5 (s1.Sections).length c6, .slice A8 (s1.Links).length c9, .slice A11 (s1.Signals).length c12, .slice A14 (s1.Gates).length c15]) :: (g1065, Cl 61 [.int .i64 (x1055.A), .int .i64 (x1055.EndA), .int .i64 (x1055.B), .int .i64 (x1055.EndB)]) :: (g1077, Cl 77 [.int .i64 (x1055.A), .int .i64 (x1055.EndA)]) :: (g1078, Cl 77 [.int .i64 (x1055.B), .int .i64 (x1055.EndB)]) :: (hs1048 ++ R)) ⟨rfl, rfl, rfl, rfl, rfl, rfl, rfl, rfl, rfl, trivial⟩ (.cons_cons _ (.cons_cons _ (.cons_cons _ (.cons_cons _ (sub_app hs1048 (.refl _)))))) ⟨g1077, g1078, rfl, rfl, (Base.Le.refl _)⟩
       exact R_nil
      exact R_nil
     exact R_nil
    refine R_do (Base.Le.refl _) rfl rfl (u_alloc [.int .i64 0, .int .i64 0] zero77 rfl) ?_ ?_
    ·
     rintro _ _ ⟨g1078, rfl, rfl⟩
     refine ⟨.inr (.cons _ (.cons_cons _ (.cons_cons _ (sub_app hs1048 (.refl _))))), ?_⟩
     refine D_all [10] (by kernel_rfl) rfl ?_
     refine R_do (Base.Le.refl _) rfl rfl (u_alloc [.int .i64 0, .int .i64 0] zero77 rfl) ?_ ?_
     ·
      rintro _ _ ⟨g1077, rfl, rfl⟩
      refine ⟨.inr (.cons _ (.cons _ (.cons_cons _ (.cons_cons _ (sub_app hs1048 (.refl _)))))), ?_⟩
      refine D_all [12] (by kernel_rfl) rfl ?_
      refine R_do (Base.Le.refl _) rfl rfl (u_storeN (vs := [_, _]) 0 2 rfl rfl rfl siz77 rfl (by intro u hu; simp only [List.mem_cons, List.not_mem_nil, or_false] at hu; rcases hu with rfl | rfl <;> rfl) rfl (by simp)) ?_ ?_
      ·
       rintro _ _ rfl
       refine ⟨.inr (.cons _ (.cons _ (.cons_cons _ (.cons_cons _ (sub_app hs1048 (.refl _)))))), ?_⟩
       refine D_all [13] (by kernel_rfl) rfl ?_
       refine R_do (Base.Le.refl _) rfl rfl (u_storeN (vs := [_, _]) 1 2 rfl rfl rfl siz77 rfl (by intro u hu; simp only [List.mem_cons, List.not_mem_nil, or_false] at hu; rcases hu with rfl | rfl <;> rfl) rfl (by simp)) ?_ ?_
       ·
        rintro _ _ rfl
        refine ⟨.inl (by kernel_rfl), ?_⟩
        refine D_done (by kernel_rfl) ?_
        clear hm
        refine x_pullb 1 rfl ?_
        refine x_pullb 1 rfl ?_
        refine x_pullb 2 rfl ?_
        refine x_pullb 3 rfl ?_
        exact x_join (e' := [(1, .pointer (some ⟨g639, 0, none⟩)), (3, .map (some g640)), (4, .int .i64 ((k1051 : Int))), (5, .pointer (some ⟨g1065, 0, none⟩)), (6, .pointer (some ⟨g1077, 0, none⟩)), (7, .pointer (some ⟨g1078, 0, none⟩)), (11, .slice A8 (s1.Links).length c9), (12, .int .i64 ((s1.Links.length : Int))), (13, .int .i64 ((k1051 : Int)))]) (hp' := (g639, Cl 28 [.slice A2 (s1.Stations).length c3, .slice A5 (s1.Sections).length c6, .slice A8 (s1.Links).length c9, .slice A11 (s1.Signals).length c12, .slice A14 (s1.Gates).length c15]) :: (g1065, Cl 61 [.int .i64 (x1055.A), .int .i64 (x1055.EndA), .int .i64 (x1055.B), .int .i64 (x1055.EndB)]) :: (g1077, Cl 77 [.int .i64 (x1055.A), .int .i64 (x1055.EndA)]) :: (g1078, Cl 77 [.int .i64 (x1055.B), .int .i64 (x1055.EndB)]) :: (hs1048 ++ R)) ⟨rfl, rfl, rfl, rfl, rfl, rfl, rfl, rfl, rfl, trivial⟩ (.cons_cons _ (.cons_cons _ (.cons_cons _ (.cons_cons _ (sub_app hs1048 (.refl _)))))) ⟨g1077, g1078, rfl, rfl, (Base.Le.refl _)⟩
       exact R_nil
      exact R_nil
     exact R_nil
    exact R_nil
   ·
    rintro b1070 _ _ ⟨g1072, g1073, rfl, rfl, hle1071⟩
    have hm := hk1074
    refine c_seq ?_
    refine c_block ?_
    obtain ⟨x1086, hj1087, hk1087⟩ := bindS hm
    refine c_join (fun b1084 e' hp' => [(1, .pointer (some ⟨g639, 0, none⟩)), (3, .map (some g640)), (4, .int .i64 ((k1051 : Int))), (5, .pointer (some ⟨g1065, 0, none⟩)), (6, .pointer (some ⟨g1072, 0, none⟩)), (7, .pointer (some ⟨g1073, 0, none⟩)), (11, .slice A8 (s1.Links).length c9), (12, .int .i64 ((s1.Links.length : Int))), (13, .int .i64 ((k1051 : Int))), (28, .bool (x1086))] = e' ∧ (g639, Cl 28 [.slice A2 (s1.Stations).length c3, .slice A5 (s1.Sections).length c6, .slice A8 (s1.Links).length c9, .slice A11 (s1.Signals).length c12, .slice A14 (s1.Gates).length c15]) :: (g1065, Cl 61 [.int .i64 (x1055.A), .int .i64 (x1055.EndA), .int .i64 (x1055.B), .int .i64 (x1055.EndB)]) :: (g1072, Cl 77 [.int .i64 (x1055.A), .int .i64 (x1055.EndA)]) :: (g1073, Cl 77 [.int .i64 (x1055.B), .int .i64 (x1055.EndB)]) :: (hs1048 ++ R) = hp' ∧ b1070.Le b1084) ?_ ?_
    ·
     have hm := hj1087
     refine c_region ?_
     refine t_st rfl (st_loadD (vs := [_, _, _, _, _]) 0 5 rfl agg28 rfl rfl rfl) ?_
     refine t_st rfl (st_loadD (vs := [_, _]) 2 2 rfl agg77 rfl rfl rfl) ?_
     obtain ⟨x1088, hcl1089, hm⟩ := bindS hm
     refine t_do rfl (u_callW0 _ call24 rfl (fun w ho => cLineHas _ [] s1 (⟨x1055.A, x1055.EndA⟩ : LineEnd) A2 c3 A5 c6 A8 c9 A11 c12 A14 c15 ((h4.le (hle1046.trans hle1071)).old ho) ((h7.le (hle1046.trans hle1071)).old ho) ((h10.le (hle1046.trans hle1071)).old ho) ((h13.le (hle1046.trans hle1071)).old ho) ((h16.le (hle1046.trans hle1071)).old ho) x1088 hcl1089) (fun _ _ _ h => h.2.symm)) ?_
     rintro _ _ ⟨⟨_, rfl, _⟩, rfl⟩
     rcases Bool.eq_false_or_eq_true x1088 with hc1090 | hc1090
     ·
      rw [if_pos hc1090] at hm
      refine t_resp 31 rfl (v' := .bool true) (by rw [hc1090] <;> rfl) ?_
      refine t_st rfl (st_not_t rfl) ?_
      refine t_st rfl (st_move rfl) ?_
      refine t_yes 33 rfl rfl rfl ?_
      refine t_st rfl (st_loadD (vs := [_, _, _, _, _]) 0 5 rfl agg28 rfl rfl rfl) ?_
      refine t_yes 33 rfl rfl rfl ?_
      refine t_st rfl (st_loadD (vs := [_, _]) 3 2 rfl agg77 rfl rfl rfl) ?_
      refine t_yes 33 rfl rfl rfl ?_
      obtain ⟨x1091, hcl1092, hm⟩ := bindS hm
      refine t_do rfl (u_callW0 _ call24 rfl (fun w ho => cLineHas _ [] s1 (⟨x1055.B, x1055.EndB⟩ : LineEnd) A2 c3 A5 c6 A8 c9 A11 c12 A14 c15 ((h4.le (hle1046.trans hle1071)).old ho) ((h7.le (hle1046.trans hle1071)).old ho) ((h10.le (hle1046.trans hle1071)).old ho) ((h13.le (hle1046.trans hle1071)).old ho) ((h16.le (hle1046.trans hle1071)).old ho) x1091 hcl1092) (fun _ _ _ h => h.2.symm)) ?_
      rintro _ _ ⟨⟨_, rfl, _⟩, rfl⟩
      refine t_yes 33 rfl rfl rfl ?_
      refine t_st rfl (st_not rfl) ?_
      refine t_st rfl (st_pick_f rfl rfl) ?_
      refine t_st rfl (st_assign rfl) ?_
      refine t_nil ?_
      obtain rfl := some1 hm
      refine x_pullb 3 rfl ?_
      refine x_pullb 3 rfl ?_
      refine x_pullb 3 rfl ?_
      refine x_pullb 3 rfl ?_
      exact x_join (e' := [(1, .pointer (some ⟨g639, 0, none⟩)), (3, .map (some g640)), (4, .int .i64 ((k1051 : Int))), (5, .pointer (some ⟨g1065, 0, none⟩)), (6, .pointer (some ⟨g1072, 0, none⟩)), (7, .pointer (some ⟨g1073, 0, none⟩)), (11, .slice A8 (s1.Links).length c9), (12, .int .i64 ((s1.Links.length : Int))), (13, .int .i64 ((k1051 : Int))), (28, .bool (!x1091))]) (hp' := (g639, Cl 28 [.slice A2 (s1.Stations).length c3, .slice A5 (s1.Sections).length c6, .slice A8 (s1.Links).length c9, .slice A11 (s1.Signals).length c12, .slice A14 (s1.Gates).length c15]) :: (g1065, Cl 61 [.int .i64 (x1055.A), .int .i64 (x1055.EndA), .int .i64 (x1055.B), .int .i64 (x1055.EndB)]) :: (g1072, Cl 77 [.int .i64 (x1055.A), .int .i64 (x1055.EndA)]) :: (g1073, Cl 77 [.int .i64 (x1055.B), .int .i64 (x1055.EndB)]) :: (hs1048 ++ R)) ⟨rfl, rfl, rfl, rfl, rfl, rfl, rfl, rfl, rfl, rfl, trivial⟩ (.cons_cons _ (.cons_cons _ (.cons_cons _ (.cons_cons _ (sub_app hs1048 (.refl _)))))) ⟨rfl, rfl, (Base.Le.refl _)⟩
     ·
      rw [if_neg (fun hh => Bool.noConfusion (hh.symm.trans hc1090))] at hm
      refine t_resp 31 rfl (v' := .bool false) (by rw [hc1090] <;> rfl) ?_
      refine t_st rfl (st_not_f rfl) ?_
      refine t_st rfl (st_move rfl) ?_
      refine t_no 33 rfl rfl rfl rfl rfl ?_
      refine t_no 33 rfl rfl rfl rfl rfl ?_
      refine t_no 33 rfl rfl rfl rfl rfl ?_
      refine t_no 33 rfl rfl rfl rfl rfl ?_
      refine t_st rfl (st_pick_t rfl rfl) ?_
      refine t_st rfl (st_assign rfl) ?_
      refine t_nil ?_
      obtain rfl := some1 hm
      refine x_pullb 3 rfl ?_
      refine x_pullb 3 rfl ?_
      refine x_pullb 3 rfl ?_
      refine x_pullb 3 rfl ?_
      exact x_join (e' := [(1, .pointer (some ⟨g639, 0, none⟩)), (3, .map (some g640)), (4, .int .i64 ((k1051 : Int))), (5, .pointer (some ⟨g1065, 0, none⟩)), (6, .pointer (some ⟨g1072, 0, none⟩)), (7, .pointer (some ⟨g1073, 0, none⟩)), (11, .slice A8 (s1.Links).length c9), (12, .int .i64 ((s1.Links.length : Int))), (13, .int .i64 ((k1051 : Int))), (28, .bool (true))]) (hp' := (g639, Cl 28 [.slice A2 (s1.Stations).length c3, .slice A5 (s1.Sections).length c6, .slice A8 (s1.Links).length c9, .slice A11 (s1.Signals).length c12, .slice A14 (s1.Gates).length c15]) :: (g1065, Cl 61 [.int .i64 (x1055.A), .int .i64 (x1055.EndA), .int .i64 (x1055.B), .int .i64 (x1055.EndB)]) :: (g1072, Cl 77 [.int .i64 (x1055.A), .int .i64 (x1055.EndA)]) :: (g1073, Cl 77 [.int .i64 (x1055.B), .int .i64 (x1055.EndB)]) :: (hs1048 ++ R)) ⟨rfl, rfl, rfl, rfl, rfl, rfl, rfl, rfl, rfl, rfl, trivial⟩ (.cons_cons _ (.cons_cons _ (.cons_cons _ (.cons_cons _ (sub_app hs1048 (.refl _)))))) ⟨rfl, rfl, (Base.Le.refl _)⟩
    ·
     rintro b1084 _ _ ⟨rfl, rfl, hle1085⟩
     have hm := hk1087
     refine c_cond _ rfl (fun hc1093 => ?_) (fun hc1093 => ?_)
     ·
      rw [if_pos hc1093] at hm
      refine c_seq ?_
      refine c_region ?_
      refine t_st rfl (st_assign rfl) ?_
      refine t_nil ?_
      refine x_then_normal ?_
      refine c_ret ?_
      refine x_block_ret ?_
      refine x_then_ret ?_
      refine x_block_ret ?_
      refine x_then_ret ?_
      refine x_then_ret ?_
      refine x_block_ret ?_
      refine x_then_ret ?_
      have hq1094 := houtL643 _ (Option.some.inj hm).symm
      rw [hq1094] at hk1054
      have hm := elimR hk1054
      obtain rfl := some1 hm
      exact retM (rs := [.tmp 2]) [.int .i64 (3)] (hle1046.trans (hle1071.trans hle1085)) (by decide) rfl ⟨rfl, trivial⟩ rfl (hp' := R) (.cons _ (.cons _ (.cons _ (.cons _ (sub_skip hs1048 (.refl _)))))) ⟨rfl, rfl⟩
     ·
      rw [if_neg (fun hh => Bool.noConfusion (hh.symm.trans hc1093))] at hm
      refine c_seq ?_
      refine c_region ?_
      refine t_st rfl (st_field rfl fld61_0) ?_
      refine t_st rfl (st_load 1 rfl one3 rfl rfl) ?_
      refine t_st rfl (st_field rfl fld61_2) ?_
      refine t_st rfl (st_load 1 rfl one3 rfl rfl) ?_
      refine t_st rfl (st_eql rfl rfl) ?_
      refine t_st rfl (st_assign rfl) ?_
      refine t_nil ?_
      refine x_then_normal ?_
      refine c_cond _ rfl (fun hc1095 => ?_) (fun hc1095 => ?_)
      ·
       rw [if_pos (of_decide_eq_true hc1095)] at hm
       refine c_seq ?_
       refine c_region ?_
       refine t_st rfl (st_assign rfl) ?_
       refine t_nil ?_
       refine x_then_normal ?_
       refine c_ret ?_
       refine x_block_ret ?_
       refine x_then_ret ?_
       refine x_block_ret ?_
       refine x_then_ret ?_
       refine x_then_ret ?_
       refine x_block_ret ?_
       refine x_then_ret ?_
       have hq1096 := houtL643 _ (Option.some.inj hm).symm
       rw [hq1096] at hk1054
       have hm := elimR hk1054
       obtain rfl := some1 hm
       exact retM (rs := [.tmp 2]) [.int .i64 (1)] (hle1046.trans (hle1071.trans hle1085)) (by decide) rfl ⟨rfl, trivial⟩ rfl (hp' := R) (.cons _ (.cons _ (.cons _ (.cons _ (sub_skip hs1048 (.refl _)))))) ⟨rfl, rfl⟩
      ·
       rw [if_neg (of_decide_eq_false hc1095)] at hm
       refine c_seq ?_
       refine c_region ?_
       refine t_st rfl (st_field rfl fld61_0) ?_
       refine t_st rfl (st_load 1 rfl one3 rfl rfl) ?_
       refine t_st rfl (st_field rfl fld61_2) ?_
       refine t_st rfl (st_load 1 rfl one3 rfl rfl) ?_
       refine t_st rfl (st_gtr rfl rfl) ?_
       refine t_st rfl (st_assign rfl) ?_
       refine t_nil ?_
       refine x_then_normal ?_
       refine c_cond _ rfl (fun hc1097 => ?_) (fun hc1097 => ?_)
       ·
        rw [if_pos (of_decide_eq_true hc1097)] at hm
        refine c_seq ?_
        refine c_region ?_
        refine t_st rfl (st_assign rfl) ?_
        refine t_nil ?_
        refine x_then_normal ?_
        refine c_ret ?_
        refine x_block_ret ?_
        refine x_then_ret ?_
        refine x_block_ret ?_
        refine x_then_ret ?_
        refine x_then_ret ?_
        refine x_block_ret ?_
        refine x_then_ret ?_
        have hq1098 := houtL643 _ (Option.some.inj hm).symm
        rw [hq1098] at hk1054
        have hm := elimR hk1054
        obtain rfl := some1 hm
        exact retM (rs := [.tmp 2]) [.int .i64 (5)] (hle1046.trans (hle1071.trans hle1085)) (by decide) rfl ⟨rfl, trivial⟩ rfl (hp' := R) (.cons _ (.cons _ (.cons _ (.cons _ (sub_skip hs1048 (.refl _)))))) ⟨rfl, rfl⟩
       ·
        rw [if_neg (of_decide_eq_false hc1097)] at hm
        refine c_skip ?_
        refine x_block_normal ?_
        refine x_then_normal ?_
        obtain ⟨t1156, hj1155, hk1155⟩ := bindS hm
        refine c_join (fun b1153 e' hp' => [(1, .pointer (some ⟨g639, 0, none⟩)), (3, .map (some g640)), (6, .pointer (some ⟨g1072, 0, none⟩)), (7, .pointer (some ⟨g1073, 0, none⟩)), (11, .slice A8 (s1.Links).length c9), (12, .int .i64 ((s1.Links.length : Int))), (13, .int .i64 ((k1051 : Int)))] = e' ∧ (g639, Cl 28 [.slice A2 (s1.Stations).length c3, .slice A5 (s1.Sections).length c6, .slice A8 (s1.Links).length c9, .slice A11 (s1.Signals).length c12, .slice A14 (s1.Gates).length c15]) :: (g1072, Cl 77 [.int .i64 (x1055.A), .int .i64 (x1055.EndA)]) :: (g1073, Cl 77 [.int .i64 (x1055.B), .int .i64 (x1055.EndB)]) :: (hs1048 ++ R) = hp' ∧ b1084.Le b1153 ∧ t1156 = .inl ()) ?_ ?_
        ·
         have hm := hj1155
         refine c_seq ?_
         refine c_region ?_
         refine t_st rfl (st_move rfl) ?_
         refine t_st rfl (st_gtr rfl rfl) ?_
         refine t_nil ?_
         refine x_then_normal ?_
         refine c_cond _ rfl (fun hc1157 => ?_) (fun hc1157 => ?_)
         ·
          rw [if_pos (of_decide_eq_true hc1157)] at hm
          refine c_seq ?_
          refine c_region ?_
          refine t_st rfl (st_field rfl fld28_2) ?_
          refine t_st rfl (st_load 0 rfl one24 rfl rfl) ?_
          refine t_st rfl (st_move rfl) ?_
          obtain ⟨_, h1158, hm⟩ := bindS hm
          have h1158 := (chk_some h1158).2
          refine t_st rfl (st_sub rfl rfl h1158) ?_
          obtain ⟨x1159, h1160, hm⟩ := bindS hm
          obtain ⟨j1161, hj1162, hx1163⟩ := idx_some h1160
          obtain ⟨cs1164, hr1165, hcs1166, hA1167, hlt1168⟩ := FZ.get (sz := 4) rfl (by decide) (h10.le (hle1046.trans (hle1071.trans hle1085))) hx1163
          obtain ⟨_, _, rfl, rfl, ⟨_, _, rfl, rfl, ⟨_, _, rfl, rfl, rfl⟩⟩⟩ := hr1165
          refine t_st rfl (st_index_old j1161 rfl rfl hj1162 hlt1168 hA1167 sl24) ?_
          refine t_st rfl (st_loadN_old (vs := [.int .i64 (x1159.A), .int .i64 (x1159.EndA), .int .i64 (x1159.B), .int .i64 (x1159.EndB)]) 4 rfl agg61 hA1167 rfl (fun j u hu => hcs1166 j u hu)) ?_
          refine t_do rfl (u_alloc [.int .i64 0, .int .i64 0, .int .i64 0, .int .i64 0] zero61 rfl) ?_
          rintro _ _ ⟨g1169, rfl, rfl⟩
          refine t_do rfl (u_storeN (vs := [_, _, _, _]) 0 4 rfl rfl rfl siz61 rfl (by intro u hu; simp only [List.mem_cons, List.not_mem_nil, or_false] at hu; rcases hu with rfl | rfl | rfl | rfl <;> rfl) rfl (by simp)) ?_
          rintro _ _ rfl
          refine t_nil ?_
          refine x_then_normal ?_
          obtain ⟨x1190, hj1191, hk1191⟩ := bindS hm
          refine c_join (fun b1188 e' hp' => [(1, .pointer (some ⟨g639, 0, none⟩)), (3, .map (some g640)), (6, .pointer (some ⟨g1072, 0, none⟩)), (7, .pointer (some ⟨g1073, 0, none⟩)), (11, .slice A8 (s1.Links).length c9), (12, .int .i64 ((s1.Links.length : Int))), (13, .int .i64 ((k1051 : Int))), (71, .bool (x1190))] = e' ∧ (g639, Cl 28 [.slice A2 (s1.Stations).length c3, .slice A5 (s1.Sections).length c6, .slice A8 (s1.Links).length c9, .slice A11 (s1.Signals).length c12, .slice A14 (s1.Gates).length c15]) :: (g1072, Cl 77 [.int .i64 (x1055.A), .int .i64 (x1055.EndA)]) :: (g1073, Cl 77 [.int .i64 (x1055.B), .int .i64 (x1055.EndB)]) :: (hs1048 ++ R) = hp' ∧ b1084.Le b1188) ?_ ?_
          ·
           have hm := hj1191
           obtain ⟨x1201, hcl1202, hm⟩ := bindS hm
           obtain ⟨x1203, hcl1204, hm⟩ := bindS hm
           obtain ⟨x1208, hcl1209, hm⟩ := bindS hm
           refine D_drawS ((g1169, Cl 61 [.int .i64 (x1159.A), .int .i64 (x1159.EndA), .int .i64 (x1159.B), .int .i64 (x1159.EndB)]) :: (g639, Cl 28 [.slice A2 (s1.Stations).length c3, .slice A5 (s1.Sections).length c6, .slice A8 (s1.Links).length c9, .slice A11 (s1.Signals).length c12, .slice A14 (s1.Gates).length c15]) :: (g1065, Cl 61 [.int .i64 (x1055.A), .int .i64 (x1055.EndA), .int .i64 (x1055.B), .int .i64 (x1055.EndB)]) :: (g1072, Cl 77 [.int .i64 (x1055.A), .int .i64 (x1055.EndA)]) :: (g1073, Cl 77 [.int .i64 (x1055.B), .int .i64 (x1055.EndB)]) :: (hs1048 ++ R)) mixed ?_
           refine E_in (.cons_cons _ (.cons_cons _ (.cons_cons _ (.cons_cons _ (.cons_cons _ (sub_app hs1048 (.refl _))))))) ?_
           refine E_st 0 rfl (st_field rfl fld61_0) ?_
           refine E_st 1 rfl (st_load 0 rfl one3 rfl rfl) ?_
           refine E_st 2 rfl (st_field rfl fld61_0) ?_
           refine E_st 3 rfl (st_load 2 rfl one3 rfl rfl) ?_
           refine E_st 5 rfl (st_field rfl fld61_1) ?_
           refine E_st 6 rfl (st_load 0 rfl one3 rfl rfl) ?_
           refine E_st 7 rfl (st_field rfl fld61_1) ?_
           refine E_st 8 rfl (st_load 2 rfl one3 rfl rfl) ?_
           refine E_out ?_
           refine D_all [4] (by kernel_rfl) rfl ?_
           refine R_do (Base.Le.refl _) rfl rfl (u_callW0 _ call57 rfl (fun w ho => cCmpCompare _ [] x1159.A x1055.A x1201 hcl1202) (fun _ _ _ h => h.2.symm)) ?_ ?_
           ·
            rintro _ _ ⟨⟨_, rfl, _⟩, rfl⟩
            refine ⟨.inr (.cons_cons _ (.cons_cons _ (.cons_cons _ (.cons_cons _ (.cons_cons _ (sub_app hs1048 (.refl _))))))), ?_⟩
            refine D_all [9] (by kernel_rfl) rfl ?_
            refine R_do (Base.Le.refl _) rfl rfl (u_callW0 _ call57 rfl (fun w ho => cCmpCompare _ [] x1159.EndA x1055.EndA x1203 hcl1204) (fun _ _ _ h => h.2.symm)) ?_ ?_
            ·
             rintro _ _ ⟨⟨_, rfl, _⟩, rfl⟩
             refine ⟨.inr (.cons_cons _ (.cons_cons _ (.cons_cons _ (.cons_cons _ (.cons_cons _ (sub_app hs1048 (.refl _))))))), ?_⟩
             refine D_all [10] (by kernel_rfl) rfl ?_
             refine R_do (Base.Le.refl _) rfl rfl (u_bslice (el := 3) [(0, .int .i64 (x1201)), (1, .int .i64 (x1203))] [.int .i64 (x1201), .int .i64 (x1203)] rfl (fun _ => by kernel_rfl)) ?_ ?_
             ·
              rintro _ _ ⟨g1205, rfl, rfl⟩
              refine ⟨.inr (.cons _ (.cons_cons _ (.cons_cons _ (.cons_cons _ (.cons_cons _ (.cons_cons _ (sub_app hs1048 (.refl _)))))))), ?_⟩
              refine d_seg 0 [_, _, _, _, _] (hs1048 ++ R) rfl rfl ?_
              have h1207 : OS 3 (OT.fr (RT.int .i64)) b1084.w (.slice (some ⟨g1205, 0, none⟩) 2 2) [x1201, x1203] [(g1205, Cl 3 [.int .i64 (x1201), .int .i64 (x1203)])] := OS.lit [[.int .i64 (x1201)], [.int .i64 (x1203)]] rfl ⟨rfl, ⟨rfl, trivial⟩⟩ rfl (by decide)
              refine D_all [11] (by kernel_rfl) rfl ?_
              refine R_do (Base.Le.refl _) rfl rfl (u_callW0 _ call56 rfl (fun w ho => cCmpOr _ [] [x1201, x1203] (some ⟨g1205, 0, none⟩) 2 (OS.now (o := (OT.fr (RT.int .i64))) (l := [x1201, x1203]) (hs := [(g1205, Cl 3 [.int .i64 (x1201), .int .i64 (x1203)])]) h1207 ho (.cons _ (.cons _ (.cons _ (.cons _ (.cons _ (List.sublist_append_left _ _))))))) x1208 hcl1209) (fun _ _ _ h => h.2.symm)) ?_ ?_
              ·
               rintro _ _ ⟨⟨_, rfl, _⟩, rfl⟩
               refine ⟨.inr (.cons_cons _ (.cons_cons _ (.cons_cons _ (.cons_cons _ (.cons_cons _ (sub_skip [(g1205, Cl 3 [.int .i64 (x1201), .int .i64 (x1203)])] (sub_app hs1048 (.refl _)))))))), ?_⟩
               refine E_in (.cons_cons _ (.cons_cons _ (.cons_cons _ (.cons_cons _ (.cons_cons _ (sub_skip [(g1205, Cl 3 [.int .i64 (x1201), .int .i64 (x1203)])] (sub_app hs1048 (.refl _)))))))) ?_
               refine E_st 12 rfl (st_geq rfl rfl) ?_
               refine E_out ?_
               refine D_done (by kernel_rfl) ?_
               obtain rfl := some1 hm
               refine x_pullb 4 rfl ?_
               refine x_pullb 4 rfl ?_
               refine x_pullb 3 rfl ?_
               refine x_front2 [_, _, _, _, _] [(g1205, Cl 3 [.int .i64 (x1201), .int .i64 (x1203)])] hs1048 R rfl ?_
               exact x_join (e' := [(1, .pointer (some ⟨g639, 0, none⟩)), (3, .map (some g640)), (6, .pointer (some ⟨g1072, 0, none⟩)), (7, .pointer (some ⟨g1073, 0, none⟩)), (11, .slice A8 (s1.Links).length c9), (12, .int .i64 ((s1.Links.length : Int))), (13, .int .i64 ((k1051 : Int))), (71, .bool (decide (0 ≤ x1208)))]) (hp' := (g639, Cl 28 [.slice A2 (s1.Stations).length c3, .slice A5 (s1.Sections).length c6, .slice A8 (s1.Links).length c9, .slice A11 (s1.Signals).length c12, .slice A14 (s1.Gates).length c15]) :: (g1072, Cl 77 [.int .i64 (x1055.A), .int .i64 (x1055.EndA)]) :: (g1073, Cl 77 [.int .i64 (x1055.B), .int .i64 (x1055.EndB)]) :: (hs1048 ++ R)) ⟨rfl, rfl, rfl, rfl, rfl, rfl, rfl, rfl, trivial⟩ (.cons_cons _ (.cons_cons _ (.cons_cons _ (.cons _ (.cons _ (sub_app hs1048 (sub_skip [(g1205, Cl 3 [.int .i64 (x1201), .int .i64 (x1203)])] (.refl _)))))))) ⟨rfl, rfl, (Base.Le.refl _)⟩
              exact R_nil
             exact R_nil
            exact R_nil
           exact R_nil
          ·
           rintro b1188 _ _ ⟨rfl, rfl, hle1189⟩
           have hm := hk1191
           refine c_cond _ rfl (fun hc1210 => ?_) (fun hc1210 => ?_)
           ·
            rw [if_pos hc1210] at hm
            refine c_seq ?_
            refine c_region ?_
            refine t_st rfl (st_assign rfl) ?_
            refine t_nil ?_
            refine x_then_normal ?_
            refine c_ret ?_
            refine x_then_ret ?_
            refine x_block_ret ?_
            refine x_then_ret ?_
            refine x_then_ret ?_
            refine x_block_ret ?_
            refine x_then_ret ?_
            have hq1211 := (Option.some.inj hm).symm
            rw [hq1211] at hk1155
            have hm := elimR hk1155
            have hq1212 := houtL643 _ (Option.some.inj hm).symm
            rw [hq1212] at hk1054
            have hm := elimR hk1054
            obtain rfl := some1 hm
            exact retM (rs := [.tmp 2]) [.int .i64 (5)] (hle1046.trans (hle1071.trans (hle1085.trans hle1189))) (by decide) rfl ⟨rfl, trivial⟩ rfl (hp' := R) (.cons _ (.cons _ (.cons _ (sub_skip hs1048 (.refl _))))) ⟨rfl, rfl⟩
           ·
            rw [if_neg (fun hh => Bool.noConfusion (hh.symm.trans hc1210))] at hm
            refine c_skip ?_
            have hq := (Option.some.inj hm).symm
            refine x_pullb 2 rfl ?_
            refine x_pullb 2 rfl ?_
            refine x_pullb 2 rfl ?_
            exact x_join (e' := [(1, .pointer (some ⟨g639, 0, none⟩)), (3, .map (some g640)), (6, .pointer (some ⟨g1072, 0, none⟩)), (7, .pointer (some ⟨g1073, 0, none⟩)), (11, .slice A8 (s1.Links).length c9), (12, .int .i64 ((s1.Links.length : Int))), (13, .int .i64 ((k1051 : Int)))]) (hp' := (g639, Cl 28 [.slice A2 (s1.Stations).length c3, .slice A5 (s1.Sections).length c6, .slice A8 (s1.Links).length c9, .slice A11 (s1.Signals).length c12, .slice A14 (s1.Gates).length c15]) :: (g1072, Cl 77 [.int .i64 (x1055.A), .int .i64 (x1055.EndA)]) :: (g1073, Cl 77 [.int .i64 (x1055.B), .int .i64 (x1055.EndB)]) :: (hs1048 ++ R)) ⟨rfl, rfl, rfl, rfl, rfl, rfl, rfl, trivial⟩ (.cons_cons _ (.cons_cons _ (.cons_cons _ (sub_app hs1048 (.refl _))))) ⟨rfl, rfl, hle1189, hq⟩
         ·
          rw [if_neg (of_decide_eq_false hc1157)] at hm
          refine c_skip ?_
          have hq := (Option.some.inj hm).symm
          refine x_pullb 3 rfl ?_
          refine x_pullb 3 rfl ?_
          refine x_pullb 2 rfl ?_
          exact x_join (e' := [(1, .pointer (some ⟨g639, 0, none⟩)), (3, .map (some g640)), (6, .pointer (some ⟨g1072, 0, none⟩)), (7, .pointer (some ⟨g1073, 0, none⟩)), (11, .slice A8 (s1.Links).length c9), (12, .int .i64 ((s1.Links.length : Int))), (13, .int .i64 ((k1051 : Int)))]) (hp' := (g639, Cl 28 [.slice A2 (s1.Stations).length c3, .slice A5 (s1.Sections).length c6, .slice A8 (s1.Links).length c9, .slice A11 (s1.Signals).length c12, .slice A14 (s1.Gates).length c15]) :: (g1072, Cl 77 [.int .i64 (x1055.A), .int .i64 (x1055.EndA)]) :: (g1073, Cl 77 [.int .i64 (x1055.B), .int .i64 (x1055.EndB)]) :: (hs1048 ++ R)) ⟨rfl, rfl, rfl, rfl, rfl, rfl, rfl, trivial⟩ (.cons_cons _ (.cons_cons _ (.cons_cons _ (.cons _ (sub_app hs1048 (.refl _)))))) ⟨rfl, rfl, (Base.Le.refl _), hq⟩
        ·
         rintro b1153 _ _ ⟨rfl, rfl, hle1154, hq1213⟩
         rw [hq1213] at hk1155
         have hm := elimL hk1155
         refine c_seq ?_
         obtain ⟨x1229, hj1230, hk1230⟩ := bindS hm
         refine c_join (fun b1227 e' hp' => [(1, .pointer (some ⟨g639, 0, none⟩)), (3, .map (some g640)), (6, .pointer (some ⟨g1072, 0, none⟩)), (7, .pointer (some ⟨g1073, 0, none⟩)), (11, .slice A8 (s1.Links).length c9), (12, .int .i64 ((s1.Links.length : Int))), (13, .int .i64 ((k1051 : Int))), (79, .bool (x1229))] = e' ∧ (g639, Cl 28 [.slice A2 (s1.Stations).length c3, .slice A5 (s1.Sections).length c6, .slice A8 (s1.Links).length c9, .slice A11 (s1.Signals).length c12, .slice A14 (s1.Gates).length c15]) :: (g1072, Cl 77 [.int .i64 (x1055.A), .int .i64 (x1055.EndA)]) :: (g1073, Cl 77 [.int .i64 (x1055.B), .int .i64 (x1055.EndB)]) :: (hs1048 ++ R) = hp' ∧ b1153.Le b1227) ?_ ?_
         ·
          have hm := hj1230
          refine c_region ?_
          refine t_st rfl (st_move rfl) ?_
          refine t_st rfl (st_loadD (vs := [_, _]) 1 2 rfl agg77 rfl rfl rfl) ?_
          obtain ⟨x1234, h1236, hm⟩ := bindS hm
          have hx1235 := Option.some.inj h1236
          obtain ⟨v1231, hv1232, hr1233⟩ := OM.lookF kok77 (z0 := false) (h1049.le (hle1071.trans (hle1085.trans hle1154))) (key := .agg #[.int .i64 (x1055.A), .int .i64 (x1055.EndA)]) (k := (⟨x1055.A, x1055.EndA⟩ : LineEnd)) ⟨[.int .i64 (x1055.A), .int .i64 (x1055.EndA)], rfl, ⟨[.int .i64 (x1055.A)], _, rfl, rfl, rfl⟩⟩ mapt127 zero4 rfl
          rw [hx1235] at hv1232
          obtain rfl : v1231 = .bool (x1234) := by have hv1232 : [v1231] = [.bool (x1234)] := hv1232; injection hv1232
          refine t_st rfl (st_mlook (ok := false) rfl rfl (fun w ho => hr1233 _ w ho (.cons _ (.cons _ (.cons _ (List.sublist_append_left _ _)))) false)) ?_
          rcases Bool.eq_false_or_eq_true x1234 with hc1237 | hc1237
          ·
           rw [if_pos hc1237] at hm
           refine t_resp 74 rfl (v' := .bool true) (by rw [hc1237] <;> rfl) ?_
           refine t_st rfl (st_move rfl) ?_
           refine t_no 75 rfl rfl rfl rfl rfl ?_
           refine t_no 75 rfl rfl rfl rfl rfl ?_
           refine t_no 75 rfl rfl rfl rfl rfl ?_
           refine t_st rfl (st_pick_t rfl rfl) ?_
           refine t_nil ?_
           obtain rfl := some1 hm
           refine x_pullb 2 rfl ?_
           refine x_pullb 2 rfl ?_
           refine x_pullb 2 rfl ?_
           exact x_join (e' := [(1, .pointer (some ⟨g639, 0, none⟩)), (3, .map (some g640)), (6, .pointer (some ⟨g1072, 0, none⟩)), (7, .pointer (some ⟨g1073, 0, none⟩)), (11, .slice A8 (s1.Links).length c9), (12, .int .i64 ((s1.Links.length : Int))), (13, .int .i64 ((k1051 : Int))), (79, .bool (true))]) (hp' := (g639, Cl 28 [.slice A2 (s1.Stations).length c3, .slice A5 (s1.Sections).length c6, .slice A8 (s1.Links).length c9, .slice A11 (s1.Signals).length c12, .slice A14 (s1.Gates).length c15]) :: (g1072, Cl 77 [.int .i64 (x1055.A), .int .i64 (x1055.EndA)]) :: (g1073, Cl 77 [.int .i64 (x1055.B), .int .i64 (x1055.EndB)]) :: (hs1048 ++ R)) ⟨rfl, rfl, rfl, rfl, rfl, rfl, rfl, rfl, trivial⟩ (.cons_cons _ (.cons_cons _ (.cons_cons _ (sub_app hs1048 (.refl _))))) ⟨rfl, rfl, (Base.Le.refl _)⟩
          ·
           rw [if_neg (fun hh => Bool.noConfusion (hh.symm.trans hc1237))] at hm
           refine t_resp 74 rfl (v' := .bool false) (by rw [hc1237] <;> rfl) ?_
           refine t_st rfl (st_move rfl) ?_
           refine t_yes 75 rfl rfl rfl ?_
           refine t_st rfl (st_move rfl) ?_
           refine t_yes 75 rfl rfl rfl ?_
           refine t_st rfl (st_loadD (vs := [_, _]) 2 2 rfl agg77 rfl rfl rfl) ?_
           refine t_yes 75 rfl rfl rfl ?_
           obtain ⟨x1241, h1243, hm⟩ := bindS hm
           have hx1242 := Option.some.inj h1243
           obtain ⟨v1238, hv1239, hr1240⟩ := OM.lookF kok77 (z0 := false) (h1049.le (hle1071.trans (hle1085.trans hle1154))) (key := .agg #[.int .i64 (x1055.B), .int .i64 (x1055.EndB)]) (k := (⟨x1055.B, x1055.EndB⟩ : LineEnd)) ⟨[.int .i64 (x1055.B), .int .i64 (x1055.EndB)], rfl, ⟨[.int .i64 (x1055.B)], _, rfl, rfl, rfl⟩⟩ mapt127 zero4 rfl
           rw [hx1242] at hv1239
           obtain rfl : v1238 = .bool (x1241) := by have hv1239 : [v1238] = [.bool (x1241)] := hv1239; injection hv1239
           refine t_st rfl (st_mlook (ok := false) rfl rfl (fun w ho => hr1240 _ w ho (.cons _ (.cons _ (.cons _ (List.sublist_append_left _ _)))) false)) ?_
           refine t_st rfl (st_pick_f rfl rfl) ?_
           refine t_nil ?_
           obtain rfl := some1 hm
           refine x_pullb 2 rfl ?_
           refine x_pullb 2 rfl ?_
           refine x_pullb 2 rfl ?_
           exact x_join (e' := [(1, .pointer (some ⟨g639, 0, none⟩)), (3, .map (some g640)), (6, .pointer (some ⟨g1072, 0, none⟩)), (7, .pointer (some ⟨g1073, 0, none⟩)), (11, .slice A8 (s1.Links).length c9), (12, .int .i64 ((s1.Links.length : Int))), (13, .int .i64 ((k1051 : Int))), (79, .bool (x1241))]) (hp' := (g639, Cl 28 [.slice A2 (s1.Stations).length c3, .slice A5 (s1.Sections).length c6, .slice A8 (s1.Links).length c9, .slice A11 (s1.Signals).length c12, .slice A14 (s1.Gates).length c15]) :: (g1072, Cl 77 [.int .i64 (x1055.A), .int .i64 (x1055.EndA)]) :: (g1073, Cl 77 [.int .i64 (x1055.B), .int .i64 (x1055.EndB)]) :: (hs1048 ++ R)) ⟨rfl, rfl, rfl, rfl, rfl, rfl, rfl, rfl, trivial⟩ (.cons_cons _ (.cons_cons _ (.cons_cons _ (sub_app hs1048 (.refl _))))) ⟨rfl, rfl, (Base.Le.refl _)⟩
         ·
          rintro b1227 _ _ ⟨rfl, rfl, hle1228⟩
          have hm := hk1230
          refine c_cond _ rfl (fun hc1244 => ?_) (fun hc1244 => ?_)
          ·
           rw [if_pos hc1244] at hm
           refine c_seq ?_
           refine c_region ?_
           refine t_st rfl (st_assign rfl) ?_
           refine t_nil ?_
           refine x_then_normal ?_
           refine c_ret ?_
           refine x_then_ret ?_
           refine x_block_ret ?_
           refine x_then_ret ?_
           refine x_then_ret ?_
           refine x_block_ret ?_
           refine x_then_ret ?_
           have hq1245 := houtL643 _ (Option.some.inj hm).symm
           rw [hq1245] at hk1054
           have hm := elimR hk1054
           obtain rfl := some1 hm
           exact retM (rs := [.tmp 2]) [.int .i64 (6)] (hle1046.trans (hle1071.trans (hle1085.trans (hle1154.trans hle1228)))) (by decide) rfl ⟨rfl, trivial⟩ rfl (hp' := R) (.cons _ (.cons _ (.cons _ (sub_skip hs1048 (.refl _))))) ⟨rfl, rfl⟩
          ·
           rw [if_neg (fun hh => Bool.noConfusion (hh.symm.trans hc1244))] at hm
           refine c_skip ?_
           refine x_then_normal ?_
           refine D_drawS ((g639, Cl 28 [.slice A2 (s1.Stations).length c3, .slice A5 (s1.Sections).length c6, .slice A8 (s1.Links).length c9, .slice A11 (s1.Signals).length c12, .slice A14 (s1.Gates).length c15]) :: (g1072, Cl 77 [.int .i64 (x1055.A), .int .i64 (x1055.EndA)]) :: (g1073, Cl 77 [.int .i64 (x1055.B), .int .i64 (x1055.EndB)]) :: R) mixed ?_
           refine E_in (.cons_cons _ (.cons_cons _ (.cons_cons _ (sub_skip hs1048 (.refl _))))) ?_
           refine E_st 0 rfl (st_move rfl) ?_
           refine E_st 1 rfl (st_loadD (vs := [_, _]) 1 2 rfl agg77 rfl rfl rfl) ?_
           refine E_st 2 rfl (st_move rfl) ?_
           refine E_st 3 rfl (st_loadD (vs := [_, _]) 2 2 rfl agg77 rfl rfl rfl) ?_
           refine E_out ?_
           refine D_all [4] (by kernel_rfl) rfl ?_
           refine R_do (Base.Le.refl _) rfl rfl (u_mputF (k := (⟨x1055.A, x1055.EndA⟩ : LineEnd)) kok77 [_, _, _] [] R rfl (h1049.le (hle1071.trans (hle1085.trans (hle1154.trans hle1228)))) mapt127 rfl rfl rfl (⟨[.int .i64 (x1055.A), .int .i64 (x1055.EndA)], rfl, ⟨[.int .i64 (x1055.A)], _, rfl, rfl, rfl⟩⟩) ⟨rfl, rfl⟩ _ (.inl rfl)) ?_ ?_
           ·
            rintro _ _ ⟨hs1252, rfl, hsub1253, h1254⟩
            refine ⟨.inr (.cons_cons _ (.cons_cons _ (.cons_cons _ (sub_skip hs1252 (.refl _))))), ?_⟩
            refine D_all [5] (by kernel_rfl) rfl ?_
            refine R_do (Base.Le.refl _) rfl rfl (u_mputF (k := (⟨x1055.B, x1055.EndB⟩ : LineEnd)) kok77 [_, _, _] [] R rfl h1254 mapt127 rfl rfl rfl (⟨[.int .i64 (x1055.B), .int .i64 (x1055.EndB)], rfl, ⟨[.int .i64 (x1055.B)], _, rfl, rfl, rfl⟩⟩) ⟨rfl, rfl⟩ _ (.inl rfl)) ?_ ?_
            ·
             rintro _ _ ⟨hs1255, rfl, hsub1256, h1257⟩
             refine ⟨.inl (by kernel_rfl), ?_⟩
             refine D_done (by kernel_rfl) ?_
             refine x_block_normal ?_
             refine x_then_normal ?_
             refine c_region ?_
             refine t_st rfl (st_add rfl rfl (by omega)) ?_
             refine t_st rfl (st_move rfl) ?_
             refine t_nil ?_
             exact x_againM (mput (mput l1050 (⟨x1055.A, x1055.EndA⟩ : LineEnd) true) (⟨x1055.B, x1055.EndB⟩ : LineEnd) true) (Option.some.inj hm).symm (e' := [(1, .pointer (some ⟨g639, 0, none⟩)), (3, .map (some g640)), (11, .slice A8 (s1.Links).length c9), (12, .int .i64 ((s1.Links.length : Int))), (13, .int .i64 ((k1051 : Int) + 1))]) (hp' := (g639, Cl 28 [.slice A2 (s1.Stations).length c3, .slice A5 (s1.Sections).length c6, .slice A8 (s1.Links).length c9, .slice A11 (s1.Signals).length c12, .slice A14 (s1.Gates).length c15]) :: (hs1255 ++ R)) ⟨rfl, rfl, rfl, rfl, rfl, trivial⟩ (.cons_cons _ (.cons _ (.cons _ (sub_app hs1255 (.refl _))))) ⟨hs1255, rfl, rfl, ((hle1046.trans (hle1071.trans (hle1085.trans (hle1154.trans hle1228))))), h1257⟩
            exact R_nil
           exact R_nil
  ·
   rintro l1050 b1045 _ _ ⟨hs1048, rfl, rfl, hle1046, h1049⟩ hq1259
   rw [hq1259] at hk1054
   have hm := elimL hk1054
   refine c_seq ?_
   refine c_region ?_
   refine t_st rfl (st_lss_f rfl rfl (by omega)) ?_
   refine t_nil ?_
   refine x_then_normal ?_
   refine c_seq ?_
   refine c_cond_f rfl ?_
   refine c_exit ?_
   refine x_then_exit ?_
   refine x_then_exit ?_
   refine x_block_out ?_
   refine x_then_normal ?_
   refine c_seq ?_
   refine c_region ?_
   refine t_st rfl (st_assign rfl) ?_
   refine t_nil ?_
   refine x_then_normal ?_
   refine c_ret ?_
   obtain rfl := some1 hm
   exact retM (rs := [.tmp 2]) [.int .i64 (0)] hle1046 (by decide) rfl ⟨rfl, trivial⟩ rfl (hp' := R) (.cons _ (sub_skip hs1048 (.refl _))) ⟨rfl, rfl⟩

set_option maxRecDepth 20000 in
theorem cLineJoined (b : Base) (R : Hp) (s1 : ApiNet) (s17 : LineEnd) (A2 : Option Addr) (c3 : Nat) (A5 : Option Addr) (c6 : Nat) (A8 : Option Addr) (c9 : Nat) (A11 : Option Addr) (c12 : Nat) (A14 : Option Addr) (c15 : Nat) (h4 : FZ RT.str b.w A2 c3 s1.Stations) (h7 : FZ rApiSection b.w A5 c6 s1.Sections) (h10 : FZ rApiLink b.w A8 c9 s1.Links) (h13 : FZ rApiSignal b.w A11 c12 s1.Signals) (h16 : FZ rApiGate b.w A14 c15 s1.Gates) (x82 : Int) (x83 : Int) (x84 : Bool) (hm : mLineJoined s1 s17 = some (x82, x83, x84)) :
    CallsG Tryd.prog 27 [.agg #[.slice A2 (s1.Stations).length c3, .slice A5 (s1.Sections).length c6, .slice A8 (s1.Links).length c9, .slice A11 (s1.Signals).length c12, .slice A14 (s1.Gates).length c15], .agg #[.int .i64 (s17.section_), .int .i64 (s17.end_)]] b (R) (fun v b' hp' => .tuple #[.agg #[.int .i64 (x82), .int .i64 (x83)], .bool (x84)] = v ∧ R = hp') := by
  refine fn_enterG 53 Tryd.func27 rfl Tryd.ntmps27 rfl ?_
  unfold mLineJoined at hm
  refine c_seq ?_
  refine c_region ?_
  refine t_do rfl (u_box _ rfl rfl) ?_
  rintro _ _ ⟨g85, rfl, rfl⟩
  refine t_do rfl (u_box _ rfl rfl) ?_
  rintro _ _ ⟨g86, rfl, rfl⟩
  refine t_do rfl (u_alloc [.int .i64 0, .int .i64 0] zero77 rfl) ?_
  rintro _ _ ⟨g87, rfl, rfl⟩
  refine t_st rfl (st_assign rfl) ?_
  refine t_nil ?_
  refine x_then_normal ?_
  refine c_seq ?_
  refine c_seq ?_
  refine c_region ?_
  refine t_st rfl (st_field rfl fld28_2) ?_
  refine t_st rfl (st_load 2 rfl one24 rfl rfl) ?_
  refine t_st rfl (st_len rfl sl24) ?_
  refine t_st rfl (st_move rfl) ?_
  refine t_nil ?_
  refine x_then_normal ?_
  refine c_block ?_
  have hb89 : s1.Links.length ≤ 9223372036854775807 := (FZ.bd h10)
  refine c_pullb 1 rfl ?_
  obtain ⟨t118, hl119, hk120⟩ := bindS hm
  refine c_forM (fun k117 => fun _ => fun b115 e' hp' => [(3, .pointer (some ⟨g86, 0, none⟩)), (4, .pointer (some ⟨g87, 0, none⟩)), (9, .slice A8 (s1.Links).length c9), (10, .int .i64 ((s1.Links.length : Int))), (11, .int .i64 ((k117 : Int)))] = e' ∧ (g86, Cl 77 [.int .i64 (s17.section_), .int .i64 (s17.end_)]) :: (g87, Cl 77 [.int .i64 (0), .int .i64 (0)]) :: R = hp' ∧ b.Le b115) hl119 (e' := [(3, .pointer (some ⟨g86, 0, none⟩)), (4, .pointer (some ⟨g87, 0, none⟩)), (9, .slice A8 (s1.Links).length c9), (10, .int .i64 ((s1.Links.length : Int))), (11, .int .i64 0)]) (hp' := (g86, Cl 77 [.int .i64 (s17.section_), .int .i64 (s17.end_)]) :: (g87, Cl 77 [.int .i64 (0), .int .i64 (0)]) :: R) ⟨rfl, rfl, rfl, rfl, rfl, trivial⟩ (.cons_cons _ (.cons_cons _ (.cons _ (.refl _)))) ⟨rfl, rfl, (Base.Le.refl _)⟩ ?_ ?_
  ·
   rintro k117 _ b115 _ _ oL88 hknL88 ⟨rfl, rfl, hle116⟩ hstepL88 houtL88
   unfold mLineJoined_L88 at hstepL88
   have hm := hstepL88
   refine c_seq ?_
   refine c_region ?_
   refine t_st rfl (st_lss_t rfl rfl (by omega)) ?_
   refine t_nil ?_
   refine x_then_normal ?_
   refine c_seq ?_
   refine c_cond_t rfl ?_
   refine c_skip ?_
   refine x_then_normal ?_
   refine c_seq ?_
   refine c_block ?_
   refine c_seq ?_
   refine c_region ?_
   obtain ⟨x121, h122, hm⟩ := bindS hm
   obtain ⟨j123, hj124, hx125⟩ := idx_some h122
   obtain ⟨cs126, hr127, hcs128, hA129, hlt130⟩ := FZ.get (sz := 4) rfl (by decide) (h10.le hle116) hx125
   obtain ⟨_, _, rfl, rfl, ⟨_, _, rfl, rfl, ⟨_, _, rfl, rfl, rfl⟩⟩⟩ := hr127
   refine t_st rfl (st_index_old j123 rfl rfl hj124 hlt130 hA129 sl24) ?_
   refine t_st rfl (st_loadN_old (vs := [.int .i64 (x121.A), .int .i64 (x121.EndA), .int .i64 (x121.B), .int .i64 (x121.EndB)]) 4 rfl agg61 hA129 rfl (fun j u hu => hcs128 j u hu)) ?_
   refine t_do rfl (u_alloc [.int .i64 0, .int .i64 0, .int .i64 0, .int .i64 0] zero61 rfl) ?_
   rintro _ _ ⟨g131, rfl, rfl⟩
   refine t_do rfl (u_storeN (vs := [_, _, _, _]) 0 4 rfl rfl rfl siz61 rfl (by intro u hu; simp only [List.mem_cons, List.not_mem_nil, or_false] at hu; rcases hu with rfl | rfl | rfl | rfl <;> rfl) rfl (by simp)) ?_
   rintro _ _ rfl
   refine t_nil ?_
   refine x_then_normal ?_
   refine c_block ?_
   obtain ⟨x135, hj136, hk136⟩ := bindS hm
   refine c_join (fun b133 e' hp' => [(3, .pointer (some ⟨g86, 0, none⟩)), (4, .pointer (some ⟨g87, 0, none⟩)), (7, .pointer (some ⟨g131, 0, none⟩)), (9, .slice A8 (s1.Links).length c9), (10, .int .i64 ((s1.Links.length : Int))), (11, .int .i64 ((k117 : Int))), (15, .bool (x135))] = e' ∧ (g86, Cl 77 [.int .i64 (s17.section_), .int .i64 (s17.end_)]) :: (g87, Cl 77 [.int .i64 (0), .int .i64 (0)]) :: (g131, Cl 61 [.int .i64 (x121.A), .int .i64 (x121.EndA), .int .i64 (x121.B), .int .i64 (x121.EndB)]) :: R = hp' ∧ b115.Le b133) ?_ ?_
   ·
    have hm := hj136
    refine c_region ?_
    refine t_st rfl (st_field rfl fld61_0) ?_
    refine t_st rfl (st_load 0 rfl one3 rfl rfl) ?_
    refine t_st rfl (st_field rfl fld77_0) ?_
    refine t_st rfl (st_load 1 rfl one3 rfl rfl) ?_
    refine t_bool rfl (st_eql rfl rfl) (fun hc137 => ?_) (fun hc137 => ?_)
    ·
     rw [if_pos hc137] at hm
     refine t_st rfl (st_move rfl) ?_
     refine t_yes 21 rfl rfl rfl ?_
     refine t_st rfl (st_field rfl fld61_1) ?_
     refine t_yes 21 rfl rfl rfl ?_
     refine t_st rfl (st_load 0 rfl one3 rfl rfl) ?_
     refine t_yes 21 rfl rfl rfl ?_
     refine t_st rfl (st_field rfl fld77_1) ?_
     refine t_yes 21 rfl rfl rfl ?_
     refine t_st rfl (st_load 1 rfl one3 rfl rfl) ?_
     refine t_yes 21 rfl rfl rfl ?_
     refine t_st rfl (st_eql rfl rfl) ?_
     refine t_st rfl (st_pick_t rfl rfl) ?_
     refine t_st rfl (st_assign rfl) ?_
     refine t_nil ?_
     obtain rfl := some1 hm
     refine x_pullb 2 rfl ?_
     refine x_pullb 2 rfl ?_
     exact x_join (e' := [(3, .pointer (some ⟨g86, 0, none⟩)), (4, .pointer (some ⟨g87, 0, none⟩)), (7, .pointer (some ⟨g131, 0, none⟩)), (9, .slice A8 (s1.Links).length c9), (10, .int .i64 ((s1.Links.length : Int))), (11, .int .i64 ((k117 : Int))), (15, .bool (decide (x121.EndA = s17.end_)))]) (hp' := (g86, Cl 77 [.int .i64 (s17.section_), .int .i64 (s17.end_)]) :: (g87, Cl 77 [.int .i64 (0), .int .i64 (0)]) :: (g131, Cl 61 [.int .i64 (x121.A), .int .i64 (x121.EndA), .int .i64 (x121.B), .int .i64 (x121.EndB)]) :: R) ⟨rfl, rfl, rfl, rfl, rfl, rfl, rfl, trivial⟩ (.cons_cons _ (.cons_cons _ (.cons_cons _ (.refl _)))) ⟨rfl, rfl, (Base.Le.refl _)⟩
    ·
     rw [if_neg hc137] at hm
     refine t_st rfl (st_move rfl) ?_
     refine t_no 21 rfl rfl rfl rfl rfl ?_
     refine t_no 21 rfl rfl rfl rfl rfl ?_
     refine t_no 21 rfl rfl rfl rfl rfl ?_
     refine t_no 21 rfl rfl rfl rfl rfl ?_
     refine t_no 21 rfl rfl rfl rfl rfl ?_
     refine t_st rfl (st_pick_f rfl rfl) ?_
     refine t_st rfl (st_assign rfl) ?_
     refine t_nil ?_
     obtain rfl := some1 hm
     refine x_pullb 2 rfl ?_
     refine x_pullb 2 rfl ?_
     exact x_join (e' := [(3, .pointer (some ⟨g86, 0, none⟩)), (4, .pointer (some ⟨g87, 0, none⟩)), (7, .pointer (some ⟨g131, 0, none⟩)), (9, .slice A8 (s1.Links).length c9), (10, .int .i64 ((s1.Links.length : Int))), (11, .int .i64 ((k117 : Int))), (15, .bool (false))]) (hp' := (g86, Cl 77 [.int .i64 (s17.section_), .int .i64 (s17.end_)]) :: (g87, Cl 77 [.int .i64 (0), .int .i64 (0)]) :: (g131, Cl 61 [.int .i64 (x121.A), .int .i64 (x121.EndA), .int .i64 (x121.B), .int .i64 (x121.EndB)]) :: R) ⟨rfl, rfl, rfl, rfl, rfl, rfl, rfl, trivial⟩ (.cons_cons _ (.cons_cons _ (.cons_cons _ (.refl _)))) ⟨rfl, rfl, (Base.Le.refl _)⟩
   ·
    rintro b133 _ _ ⟨rfl, rfl, hle134⟩
    have hm := hk136
    refine c_cond _ rfl (fun hc138 => ?_) (fun hc138 => ?_)
    ·
     rw [if_pos hc138] at hm
     refine c_seq ?_
     refine c_region ?_
     refine t_st rfl (st_field rfl fld61_2) ?_
     refine t_st rfl (st_load 2 rfl one3 rfl rfl) ?_
     refine t_st rfl (st_field rfl fld61_3) ?_
     refine t_st rfl (st_load 2 rfl one3 rfl rfl) ?_
     refine t_st rfl (st_build (v := .agg #[.int .i64 (x121.B), .int .i64 (x121.EndB)]) [(0, .int .i64 (x121.B)), (1, .int .i64 (x121.EndB))] rfl (fun _ => by kernel_rfl)) ?_
     refine t_do rfl (u_storeN (vs := [_, _]) 1 2 rfl rfl rfl siz77 rfl (by intro u hu; simp only [List.mem_cons, List.not_mem_nil, or_false] at hu; rcases hu with rfl | rfl <;> rfl) rfl (by simp)) ?_
     rintro _ _ rfl
     refine t_st rfl (st_assign rfl) ?_
     refine t_nil ?_
     refine x_then_normal ?_
     refine c_ret ?_
     refine x_block_ret ?_
     refine x_block_ret ?_
     refine x_then_ret ?_
     refine x_then_ret ?_
     refine x_block_ret ?_
     refine x_then_ret ?_
     have hq139 := houtL88 _ (Option.some.inj hm).symm
     rw [hq139] at hk120
     have hm := elimR hk120
     obtain ⟨rfl, rfl, rfl⟩ := some3 hm
     exact retM (rs := [.cell 4 77, .tmp 5]) [.agg #[.int .i64 (x121.B), .int .i64 (x121.EndB)], .bool (true)] (hle116.trans hle134) (by decide) rfl ⟨⟨_, rfl, fun w ho => cell_agg (vs := [_, _]) 1 2 agg77 rfl rfl rfl w ho⟩, ⟨rfl, trivial⟩⟩ rfl (hp' := R) (.cons _ (.cons _ (.cons _ (.refl _)))) ⟨rfl, rfl⟩
    ·
     rw [if_neg (fun hh => Bool.noConfusion (hh.symm.trans hc138))] at hm
     obtain ⟨x143, hj144, hk144⟩ := bindS hm
     refine c_join (fun b141 e' hp' => [(3, .pointer (some ⟨g86, 0, none⟩)), (4, .pointer (some ⟨g87, 0, none⟩)), (7, .pointer (some ⟨g131, 0, none⟩)), (9, .slice A8 (s1.Links).length c9), (10, .int .i64 ((s1.Links.length : Int))), (11, .int .i64 ((k117 : Int))), (33, .bool (x143))] = e' ∧ (g86, Cl 77 [.int .i64 (s17.section_), .int .i64 (s17.end_)]) :: (g87, Cl 77 [.int .i64 (0), .int .i64 (0)]) :: (g131, Cl 61 [.int .i64 (x121.A), .int .i64 (x121.EndA), .int .i64 (x121.B), .int .i64 (x121.EndB)]) :: R = hp' ∧ b133.Le b141) ?_ ?_
     ·
      have hm := hj144
      refine c_region ?_
      refine t_st rfl (st_field rfl fld61_2) ?_
      refine t_st rfl (st_load 2 rfl one3 rfl rfl) ?_
      refine t_st rfl (st_field rfl fld77_0) ?_
      refine t_st rfl (st_load 0 rfl one3 rfl rfl) ?_
      refine t_bool rfl (st_eql rfl rfl) (fun hc145 => ?_) (fun hc145 => ?_)
      ·
       rw [if_pos hc145] at hm
       refine t_st rfl (st_move rfl) ?_
       refine t_yes 39 rfl rfl rfl ?_
       refine t_st rfl (st_field rfl fld61_3) ?_
       refine t_yes 39 rfl rfl rfl ?_
       refine t_st rfl (st_load 2 rfl one3 rfl rfl) ?_
       refine t_yes 39 rfl rfl rfl ?_
       refine t_st rfl (st_field rfl fld77_1) ?_
       refine t_yes 39 rfl rfl rfl ?_
       refine t_st rfl (st_load 0 rfl one3 rfl rfl) ?_
       refine t_yes 39 rfl rfl rfl ?_
       refine t_st rfl (st_eql rfl rfl) ?_
       refine t_st rfl (st_pick_t rfl rfl) ?_
       refine t_st rfl (st_assign rfl) ?_
       refine t_nil ?_
       obtain rfl := some1 hm
       refine x_pullb 2 rfl ?_
       refine x_pullb 2 rfl ?_
       refine x_pullb 2 rfl ?_
       exact x_join (e' := [(3, .pointer (some ⟨g86, 0, none⟩)), (4, .pointer (some ⟨g87, 0, none⟩)), (7, .pointer (some ⟨g131, 0, none⟩)), (9, .slice A8 (s1.Links).length c9), (10, .int .i64 ((s1.Links.length : Int))), (11, .int .i64 ((k117 : Int))), (33, .bool (decide (x121.EndB = s17.end_)))]) (hp' := (g86, Cl 77 [.int .i64 (s17.section_), .int .i64 (s17.end_)]) :: (g87, Cl 77 [.int .i64 (0), .int .i64 (0)]) :: (g131, Cl 61 [.int .i64 (x121.A), .int .i64 (x121.EndA), .int .i64 (x121.B), .int .i64 (x121.EndB)]) :: R) ⟨rfl, rfl, rfl, rfl, rfl, rfl, rfl, trivial⟩ (.cons_cons _ (.cons_cons _ (.cons_cons _ (.refl _)))) ⟨rfl, rfl, (Base.Le.refl _)⟩
      ·
       rw [if_neg hc145] at hm
       refine t_st rfl (st_move rfl) ?_
       refine t_no 39 rfl rfl rfl rfl rfl ?_
       refine t_no 39 rfl rfl rfl rfl rfl ?_
       refine t_no 39 rfl rfl rfl rfl rfl ?_
       refine t_no 39 rfl rfl rfl rfl rfl ?_
       refine t_no 39 rfl rfl rfl rfl rfl ?_
       refine t_st rfl (st_pick_f rfl rfl) ?_
       refine t_st rfl (st_assign rfl) ?_
       refine t_nil ?_
       obtain rfl := some1 hm
       refine x_pullb 2 rfl ?_
       refine x_pullb 2 rfl ?_
       refine x_pullb 2 rfl ?_
       exact x_join (e' := [(3, .pointer (some ⟨g86, 0, none⟩)), (4, .pointer (some ⟨g87, 0, none⟩)), (7, .pointer (some ⟨g131, 0, none⟩)), (9, .slice A8 (s1.Links).length c9), (10, .int .i64 ((s1.Links.length : Int))), (11, .int .i64 ((k117 : Int))), (33, .bool (false))]) (hp' := (g86, Cl 77 [.int .i64 (s17.section_), .int .i64 (s17.end_)]) :: (g87, Cl 77 [.int .i64 (0), .int .i64 (0)]) :: (g131, Cl 61 [.int .i64 (x121.A), .int .i64 (x121.EndA), .int .i64 (x121.B), .int .i64 (x121.EndB)]) :: R) ⟨rfl, rfl, rfl, rfl, rfl, rfl, rfl, trivial⟩ (.cons_cons _ (.cons_cons _ (.cons_cons _ (.refl _)))) ⟨rfl, rfl, (Base.Le.refl _)⟩
     ·
      rintro b141 _ _ ⟨rfl, rfl, hle142⟩
      have hm := hk144
      refine c_cond _ rfl (fun hc146 => ?_) (fun hc146 => ?_)
      ·
       rw [if_pos hc146] at hm
       refine c_seq ?_
       refine c_region ?_
       refine t_st rfl (st_field rfl fld61_0) ?_
       refine t_st rfl (st_load 2 rfl one3 rfl rfl) ?_
       refine t_st rfl (st_field rfl fld61_1) ?_
       refine t_st rfl (st_load 2 rfl one3 rfl rfl) ?_
       refine t_st rfl (st_build (v := .agg #[.int .i64 (x121.A), .int .i64 (x121.EndA)]) [(0, .int .i64 (x121.A)), (1, .int .i64 (x121.EndA))] rfl (fun _ => by kernel_rfl)) ?_
       refine t_do rfl (u_storeN (vs := [_, _]) 1 2 rfl rfl rfl siz77 rfl (by intro u hu; simp only [List.mem_cons, List.not_mem_nil, or_false] at hu; rcases hu with rfl | rfl <;> rfl) rfl (by simp)) ?_
       rintro _ _ rfl
       refine t_st rfl (st_assign rfl) ?_
       refine t_nil ?_
       refine x_then_normal ?_
       refine c_ret ?_
       refine x_block_ret ?_
       refine x_block_ret ?_
       refine x_then_ret ?_
       refine x_then_ret ?_
       refine x_block_ret ?_
       refine x_then_ret ?_
       have hq147 := houtL88 _ (Option.some.inj hm).symm
       rw [hq147] at hk120
       have hm := elimR hk120
       obtain ⟨rfl, rfl, rfl⟩ := some3 hm
       exact retM (rs := [.cell 4 77, .tmp 5]) [.agg #[.int .i64 (x121.A), .int .i64 (x121.EndA)], .bool (true)] (hle116.trans (hle134.trans hle142)) (by decide) rfl ⟨⟨_, rfl, fun w ho => cell_agg (vs := [_, _]) 1 2 agg77 rfl rfl rfl w ho⟩, ⟨rfl, trivial⟩⟩ rfl (hp' := R) (.cons _ (.cons _ (.cons _ (.refl _)))) ⟨rfl, rfl⟩
      ·
       rw [if_neg (fun hh => Bool.noConfusion (hh.symm.trans hc146))] at hm
       refine c_skip ?_
       refine x_block_normal ?_
       refine x_block_normal ?_
       refine x_then_normal ?_
       refine c_region ?_
       refine t_st rfl (st_add rfl rfl (by omega)) ?_
       refine t_st rfl (st_move rfl) ?_
       refine t_nil ?_
       refine x_pullb 1 rfl ?_
       refine x_pullb 1 rfl ?_
       exact x_againM () (Option.some.inj hm).symm (e' := [(3, .pointer (some ⟨g86, 0, none⟩)), (4, .pointer (some ⟨g87, 0, none⟩)), (9, .slice A8 (s1.Links).length c9), (10, .int .i64 ((s1.Links.length : Int))), (11, .int .i64 ((k117 : Int) + 1))]) (hp' := (g86, Cl 77 [.int .i64 (s17.section_), .int .i64 (s17.end_)]) :: (g87, Cl 77 [.int .i64 (0), .int .i64 (0)]) :: R) ⟨rfl, rfl, rfl, rfl, rfl, trivial⟩ (.cons_cons _ (.cons_cons _ (.cons _ (.refl _)))) ⟨rfl, rfl, ((hle116.trans (hle134.trans hle142)))⟩
  ·
   rintro _ b115 _ _ ⟨rfl, rfl, hle116⟩ hq148
   rw [hq148] at hk120
   have hm := elimL hk120
   refine c_seq ?_
   refine c_region ?_
   refine t_st rfl (st_lss_f rfl rfl (by omega)) ?_
   refine t_nil ?_
   refine x_then_normal ?_
   refine c_seq ?_
   refine c_cond_f rfl ?_
   refine c_exit ?_
   refine x_then_exit ?_
   refine x_then_exit ?_
   refine x_block_out ?_
   refine x_then_normal ?_
   refine c_seq ?_
   refine c_region ?_
   refine t_st rfl (st_build (v := .agg #[.int .i64 (0), .int .i64 (0)]) [] rfl (fun _ => by kernel_rfl)) ?_
   refine t_do rfl (u_storeN (vs := [_, _]) 1 2 rfl rfl rfl siz77 rfl (by intro u hu; simp only [List.mem_cons, List.not_mem_nil, or_false] at hu; rcases hu with rfl | rfl <;> rfl) rfl (by simp)) ?_
   rintro _ _ rfl
   refine t_st rfl (st_assign rfl) ?_
   refine t_nil ?_
   refine x_then_normal ?_
   refine c_ret ?_
   obtain ⟨rfl, rfl, rfl⟩ := some3 hm
   exact retM (rs := [.cell 4 77, .tmp 5]) [.agg #[.int .i64 (0), .int .i64 (0)], .bool (false)] hle116 (by decide) rfl ⟨⟨_, rfl, fun w ho => cell_agg (vs := [_, _]) 1 2 agg77 rfl rfl rfl w ho⟩, ⟨rfl, trivial⟩⟩ rfl (hp' := R) (.cons _ (.cons _ (.refl _))) ⟨rfl, rfl⟩

set_option maxRecDepth 20000 in
theorem cLineCheckSignals (b : Base) (R : Hp) (s1 : ApiNet) (A2 : Option Addr) (c3 : Nat) (A5 : Option Addr) (c6 : Nat) (A8 : Option Addr) (c9 : Nat) (A11 : Option Addr) (c12 : Nat) (A14 : Option Addr) (c15 : Nat) (h4 : FZ RT.str b.w A2 c3 s1.Stations) (h7 : FZ rApiSection b.w A5 c6 s1.Sections) (h10 : FZ rApiLink b.w A8 c9 s1.Links) (h13 : FZ rApiSignal b.w A11 c12 s1.Signals) (h16 : FZ rApiGate b.w A14 c15 s1.Gates) (x236 : Int) (hm : mLineCheckSignals s1 = some x236) :
    CallsG Tryd.prog 39 [.agg #[.slice A2 (s1.Stations).length c3, .slice A5 (s1.Sections).length c6, .slice A8 (s1.Links).length c9, .slice A11 (s1.Signals).length c12, .slice A14 (s1.Gates).length c15]] b (R) (fun v b' hp' => .int .i64 (x236) = v ∧ R = hp') := by
  refine fn_enterG 66 Tryd.func39 rfl Tryd.ntmps39 rfl ?_
  unfold mLineCheckSignals at hm
  refine c_seq ?_
  refine c_region ?_
  refine t_do rfl (u_box _ rfl rfl) ?_
  rintro _ _ ⟨g237, rfl, rfl⟩
  refine t_st rfl (st_assign rfl) ?_
  refine t_nil ?_
  refine x_then_normal ?_
  refine c_seq ?_
  refine c_seq ?_
  refine c_region ?_
  refine t_st rfl (st_field rfl fld28_3) ?_
  refine t_st rfl (st_load 0 rfl one25 rfl rfl) ?_
  refine t_st rfl (st_len rfl sl25) ?_
  refine t_st rfl (st_move rfl) ?_
  refine t_nil ?_
  refine x_then_normal ?_
  refine c_block ?_
  have hb239 : s1.Signals.length ≤ 9223372036854775807 := (FZ.bd h13)
  obtain ⟨t346, hl347, hk348⟩ := bindS hm
  refine c_forM (fun k345 => fun _ => fun b343 e' hp' => [(1, .pointer (some ⟨g237, 0, none⟩)), (10, .slice A11 (s1.Signals).length c12), (11, .int .i64 ((s1.Signals.length : Int))), (12, .int .i64 ((k345 : Int)))] = e' ∧ (g237, Cl 28 [.slice A2 (s1.Stations).length c3, .slice A5 (s1.Sections).length c6, .slice A8 (s1.Links).length c9, .slice A11 (s1.Signals).length c12, .slice A14 (s1.Gates).length c15]) :: R = hp' ∧ b.Le b343) hl347 (e' := [(1, .pointer (some ⟨g237, 0, none⟩)), (10, .slice A11 (s1.Signals).length c12), (11, .int .i64 ((s1.Signals.length : Int))), (12, .int .i64 0)]) (hp' := (g237, Cl 28 [.slice A2 (s1.Stations).length c3, .slice A5 (s1.Sections).length c6, .slice A8 (s1.Links).length c9, .slice A11 (s1.Signals).length c12, .slice A14 (s1.Gates).length c15]) :: R) ⟨rfl, rfl, rfl, rfl, trivial⟩ (.cons_cons _ (.refl _)) ⟨rfl, rfl, (Base.Le.refl _)⟩ ?_ ?_
  ·
   rintro k345 _ b343 _ _ oL238 hknL238 ⟨rfl, rfl, hle344⟩ hstepL238 houtL238
   unfold mLineCheckSignals_L238 at hstepL238
   have hm := hstepL238
   refine c_seq ?_
   refine c_region ?_
   refine t_st rfl (st_lss_t rfl rfl (by omega)) ?_
   refine t_nil ?_
   refine x_then_normal ?_
   refine c_seq ?_
   refine c_cond_t rfl ?_
   refine c_skip ?_
   refine x_then_normal ?_
   refine c_seq ?_
   refine c_block ?_
   refine c_seq ?_
   refine c_region ?_
   refine t_st rfl (st_move rfl) ?_
   obtain ⟨x349, h350, hm⟩ := bindS hm
   obtain ⟨j351, hj352, hx353⟩ := idx_some h350
   obtain ⟨cs354, hr355, hcs356, hA357, hlt358⟩ := FZ.get (sz := 2) rfl (by decide) (h13.le hle344) hx353
   obtain ⟨_, _, rfl, rfl, rfl⟩ := hr355
   refine t_st rfl (st_index_old j351 rfl rfl hj352 hlt358 hA357 sl25) ?_
   refine t_st rfl (st_loadN_old (vs := [.int .i64 (x349.Section), .int .i64 (x349.End)]) 2 rfl agg64 hA357 rfl (fun j u hu => hcs356 j u hu)) ?_
   refine t_do rfl (u_alloc [.int .i64 0, .int .i64 0] zero64 rfl) ?_
   rintro _ _ ⟨g359, rfl, rfl⟩
   refine t_st rfl (st_assign rfl) ?_
   refine t_do rfl (u_storeN (vs := [_, _]) 0 2 rfl rfl rfl siz64 rfl (by intro u hu; simp only [List.mem_cons, List.not_mem_nil, or_false] at hu; rcases hu with rfl | rfl <;> rfl) rfl (by simp)) ?_
   rintro _ _ rfl
   refine t_nil ?_
   refine x_then_normal ?_
   refine c_seq ?_
   refine c_region ?_
   refine t_st rfl (st_field rfl fld64_0) ?_
   refine t_st rfl (st_load 0 rfl one3 rfl rfl) ?_
   refine t_st rfl (st_field rfl fld64_1) ?_
   refine t_st rfl (st_load 0 rfl one3 rfl rfl) ?_
   refine t_st rfl (st_build (v := .agg #[.int .i64 (x349.Section), .int .i64 (x349.End)]) [(0, .int .i64 (x349.Section)), (1, .int .i64 (x349.End))] rfl (fun _ => by kernel_rfl)) ?_
   refine t_do rfl (u_alloc [.int .i64 0, .int .i64 0] zero77 rfl) ?_
   rintro _ _ ⟨g360, rfl, rfl⟩
   refine t_do rfl (u_storeN (vs := [_, _]) 0 2 rfl rfl rfl siz77 rfl (by intro u hu; simp only [List.mem_cons, List.not_mem_nil, or_false] at hu; rcases hu with rfl | rfl <;> rfl) rfl (by simp)) ?_
   rintro _ _ rfl
   refine t_nil ?_
   refine x_then_normal ?_
   refine c_seq ?_
   refine c_seq ?_
   refine c_region ?_
   refine t_st rfl (st_loadD (vs := [_, _, _, _, _]) 2 5 rfl agg28 rfl rfl rfl) ?_
   refine t_st rfl (st_loadD (vs := [_, _]) 0 2 rfl agg77 rfl rfl rfl) ?_
   obtain ⟨x361, hcl362, hm⟩ := bindS hm
   refine t_do rfl (u_callW0 _ call24 rfl (fun w ho => cLineHas _ [] s1 (⟨x349.Section, x349.End⟩ : LineEnd) A2 c3 A5 c6 A8 c9 A11 c12 A14 c15 ((h4.le hle344).old ho) ((h7.le hle344).old ho) ((h10.le hle344).old ho) ((h13.le hle344).old ho) ((h16.le hle344).old ho) x361 hcl362) (fun _ _ _ h => h.2.symm)) ?_
   rintro _ _ ⟨⟨_, rfl, _⟩, rfl⟩
   refine t_st rfl (st_not rfl) ?_
   refine t_nil ?_
   refine x_then_normal ?_
   refine c_cond _ rfl (fun hc363 => ?_) (fun hc363 => ?_)
   ·
    rw [if_neg (fun hh => Bool.noConfusion (hh.symm.trans (notT hc363)))] at hm
    refine c_seq ?_
    refine c_region ?_
    refine t_st rfl (st_assign rfl) ?_
    refine t_nil ?_
    refine x_then_normal ?_
    refine c_ret ?_
    refine x_then_ret ?_
    refine x_block_ret ?_
    refine x_then_ret ?_
    refine x_then_ret ?_
    refine x_block_ret ?_
    refine x_then_ret ?_
    have hq364 := houtL238 _ (Option.some.inj hm).symm
    rw [hq364] at hk348
    have hm := elimR hk348
    obtain rfl := some1 hm
    exact retM (rs := [.tmp 2]) [.int .i64 (3)] hle344 (by decide) rfl ⟨rfl, trivial⟩ rfl (hp' := R) (.cons _ (.cons _ (.cons _ (.refl _)))) ⟨rfl, rfl⟩
   ·
    rw [if_pos (notF hc363)] at hm
    refine c_skip ?_
    refine x_then_normal ?_
    refine c_seq ?_
    refine c_seq ?_
    refine c_region ?_
    refine t_st rfl (st_loadD (vs := [_, _, _, _, _]) 2 5 rfl agg28 rfl rfl rfl) ?_
    refine t_st rfl (st_loadD (vs := [_, _]) 0 2 rfl agg77 rfl rfl rfl) ?_
    obtain ⟨⟨x365, x366, x367⟩, hcl368, hm⟩ := bindS hm
    have hm := (unc3E hm)
    refine t_callG _ rfl call27 rfl (cLineJoined _ _ s1 (⟨x349.Section, x349.End⟩ : LineEnd) A2 c3 A5 c6 A8 c9 A11 c12 A14 c15 (h4.le hle344) (h7.le hle344) (h10.le hle344) (h13.le hle344) (h16.le hle344) x365 x366 x367 hcl368) ?_
    rintro _ b369 _ hle370 ⟨rfl, rfl⟩
    refine t_st rfl (st_move rfl) ?_
    refine t_st rfl (st_extract rfl rfl) ?_
    refine t_st rfl (st_extract rfl rfl) ?_
    refine t_do rfl (u_alloc [.int .i64 0, .int .i64 0] zero77 rfl) ?_
    rintro _ _ ⟨g371, rfl, rfl⟩
    refine t_do rfl (u_storeN (vs := [_, _]) 0 2 rfl rfl rfl siz77 rfl (by intro u hu; simp only [List.mem_cons, List.not_mem_nil, or_false] at hu; rcases hu with rfl | rfl <;> rfl) rfl (by simp)) ?_
    rintro _ _ rfl
    refine t_st rfl (st_assign rfl) ?_
    refine t_nil ?_
    refine x_then_normal ?_
    obtain ⟨x385, hj386, hk386⟩ := bindS hm
    refine c_join (fun b383 e' hp' => [(1, .pointer (some ⟨g237, 0, none⟩)), (3, .int .i64 ((k345 : Int))), (4, .pointer (some ⟨g359, 0, none⟩)), (10, .slice A11 (s1.Signals).length c12), (11, .int .i64 ((s1.Signals.length : Int))), (12, .int .i64 ((k345 : Int))), (43, .bool (x385))] = e' ∧ (g237, Cl 28 [.slice A2 (s1.Stations).length c3, .slice A5 (s1.Sections).length c6, .slice A8 (s1.Links).length c9, .slice A11 (s1.Signals).length c12, .slice A14 (s1.Gates).length c15]) :: (g359, Cl 64 [.int .i64 (x349.Section), .int .i64 (x349.End)]) :: R = hp' ∧ b369.Le b383) ?_ ?_
    ·
     have hm := hj386
     refine c_region ?_
     refine t_st rfl (st_move rfl) ?_
     rcases Bool.eq_false_or_eq_true x367 with hc387 | hc387
     ·
      rw [if_pos hc387] at hm
      refine t_resp 32 rfl (v' := .bool true) (by rw [hc387] <;> rfl) ?_
      refine t_st rfl (st_not_t rfl) ?_
      refine t_st rfl (st_move rfl) ?_
      refine t_yes 34 rfl rfl rfl ?_
      refine t_st rfl (st_field rfl fld28_1) ?_
      refine t_yes 34 rfl rfl rfl ?_
      refine t_st rfl (st_load 3 rfl one23 rfl rfl) ?_
      refine t_yes 34 rfl rfl rfl ?_
      refine t_st rfl (st_field rfl fld64_0) ?_
      refine t_yes 34 rfl rfl rfl ?_
      refine t_st rfl (st_load 2 rfl one3 rfl rfl) ?_
      refine t_yes 34 rfl rfl rfl ?_
      obtain ⟨x388, h389, hm⟩ := bindS hm
      obtain ⟨j390, hj391, hx392⟩ := idx_some h389
      obtain ⟨cs393, hr394, hcs395, hA396, hlt397⟩ := FZ.get (sz := 7) rfl (by decide) (h7.le (hle344.trans hle370)) hx392
      obtain ⟨_, _, rfl, rfl, ⟨_, _, rfl, rfl, ⟨_, _, rfl, rfl, ⟨_, _, rfl, rfl, ⟨_, _, rfl, rfl, ⟨_, _, rfl, rfl, rfl⟩⟩⟩⟩⟩⟩ := hr394
      refine t_st rfl (st_index_old j390 rfl rfl hj391 hlt397 hA396 sl23) ?_
      refine t_yes 34 rfl rfl rfl ?_
      refine t_st rfl (st_field_old rfl hA396 fld58_0) ?_
      refine t_yes 34 rfl rfl rfl ?_
      refine t_st rfl (st_load_old rfl one3 (hcs395 0 _ rfl)) ?_
      refine t_yes 34 rfl rfl rfl ?_
      refine t_st rfl (st_neq rfl rfl) ?_
      refine t_st rfl (st_pick_f rfl rfl) ?_
      refine t_nil ?_
      obtain rfl := some1 hm
      refine x_pullb 2 rfl ?_
      refine x_pullb 3 rfl ?_
      exact x_join (e' := [(1, .pointer (some ⟨g237, 0, none⟩)), (3, .int .i64 ((k345 : Int))), (4, .pointer (some ⟨g359, 0, none⟩)), (10, .slice A11 (s1.Signals).length c12), (11, .int .i64 ((s1.Signals.length : Int))), (12, .int .i64 ((k345 : Int))), (43, .bool (decide (x388.Kind ≠ 1)))]) (hp' := (g237, Cl 28 [.slice A2 (s1.Stations).length c3, .slice A5 (s1.Sections).length c6, .slice A8 (s1.Links).length c9, .slice A11 (s1.Signals).length c12, .slice A14 (s1.Gates).length c15]) :: (g359, Cl 64 [.int .i64 (x349.Section), .int .i64 (x349.End)]) :: R) ⟨rfl, rfl, rfl, rfl, rfl, rfl, rfl, trivial⟩ (.cons_cons _ (.cons_cons _ (.cons _ (.cons _ (.refl _))))) ⟨rfl, rfl, (Base.Le.refl _)⟩
     ·
      rw [if_neg (fun hh => Bool.noConfusion (hh.symm.trans hc387))] at hm
      refine t_resp 32 rfl (v' := .bool false) (by rw [hc387] <;> rfl) ?_
      refine t_st rfl (st_not_f rfl) ?_
      refine t_st rfl (st_move rfl) ?_
      refine t_no 34 rfl rfl rfl rfl rfl ?_
      refine t_no 34 rfl rfl rfl rfl rfl ?_
      refine t_no 34 rfl rfl rfl rfl rfl ?_
      refine t_no 34 rfl rfl rfl rfl rfl ?_
      refine t_no 34 rfl rfl rfl rfl rfl ?_
      refine t_no 34 rfl rfl rfl rfl rfl ?_
      refine t_no 34 rfl rfl rfl rfl rfl ?_
      refine t_no 34 rfl rfl rfl rfl rfl ?_
      refine t_st rfl (st_pick_t rfl rfl) ?_
      refine t_nil ?_
      obtain rfl := some1 hm
      refine x_pullb 2 rfl ?_
      refine x_pullb 3 rfl ?_
      exact x_join (e' := [(1, .pointer (some ⟨g237, 0, none⟩)), (3, .int .i64 ((k345 : Int))), (4, .pointer (some ⟨g359, 0, none⟩)), (10, .slice A11 (s1.Signals).length c12), (11, .int .i64 ((s1.Signals.length : Int))), (12, .int .i64 ((k345 : Int))), (43, .bool (true))]) (hp' := (g237, Cl 28 [.slice A2 (s1.Stations).length c3, .slice A5 (s1.Sections).length c6, .slice A8 (s1.Links).length c9, .slice A11 (s1.Signals).length c12, .slice A14 (s1.Gates).length c15]) :: (g359, Cl 64 [.int .i64 (x349.Section), .int .i64 (x349.End)]) :: R) ⟨rfl, rfl, rfl, rfl, rfl, rfl, rfl, trivial⟩ (.cons_cons _ (.cons_cons _ (.cons _ (.cons _ (.refl _))))) ⟨rfl, rfl, (Base.Le.refl _)⟩
    ·
     rintro b383 _ _ ⟨rfl, rfl, hle384⟩
     have hm := hk386
     refine c_cond _ rfl (fun hc398 => ?_) (fun hc398 => ?_)
     ·
      rw [if_pos hc398] at hm
      refine c_seq ?_
      refine c_region ?_
      refine t_st rfl (st_assign rfl) ?_
      refine t_nil ?_
      refine x_then_normal ?_
      refine c_ret ?_
      refine x_then_ret ?_
      refine x_block_ret ?_
      refine x_then_ret ?_
      refine x_then_ret ?_
      refine x_block_ret ?_
      refine x_then_ret ?_
      have hq399 := houtL238 _ (Option.some.inj hm).symm
      rw [hq399] at hk348
      have hm := elimR hk348
      obtain rfl := some1 hm
      exact retM (rs := [.tmp 2]) [.int .i64 (1)] (hle344.trans (hle370.trans hle384)) (by decide) rfl ⟨rfl, trivial⟩ rfl (hp' := R) (.cons _ (.cons _ (.refl _))) ⟨rfl, rfl⟩
     ·
      rw [if_neg (fun hh => Bool.noConfusion (hh.symm.trans hc398))] at hm
      refine c_skip ?_
      refine x_then_normal ?_
      refine c_seq ?_
      refine c_region ?_
      refine t_st rfl (st_move rfl) ?_
      refine t_st rfl (st_gtr rfl rfl) ?_
      refine t_nil ?_
      refine x_then_normal ?_
      refine c_cond _ rfl (fun hc400 => ?_) (fun hc400 => ?_)
      ·
       rw [if_pos (of_decide_eq_true hc400)] at hm
       refine c_seq ?_
       refine c_region ?_
       refine t_st rfl (st_field rfl fld28_3) ?_
       refine t_st rfl (st_load 0 rfl one25 rfl rfl) ?_
       refine t_st rfl (st_move rfl) ?_
       obtain ⟨_, h401, hm⟩ := bindS hm
       have h401 := (chk_some h401).2
       refine t_st rfl (st_sub rfl rfl h401) ?_
       obtain ⟨x402, h403, hm⟩ := bindS hm
       obtain ⟨j404, hj405, hx406⟩ := idx_some h403
       obtain ⟨cs407, hr408, hcs409, hA410, hlt411⟩ := FZ.get (sz := 2) rfl (by decide) (h13.le (hle344.trans (hle370.trans hle384))) hx406
       obtain ⟨_, _, rfl, rfl, rfl⟩ := hr408
       refine t_st rfl (st_index_old j404 rfl rfl hj405 hlt411 hA410 sl25) ?_
       refine t_st rfl (st_loadN_old (vs := [.int .i64 (x402.Section), .int .i64 (x402.End)]) 2 rfl agg64 hA410 rfl (fun j u hu => hcs409 j u hu)) ?_
       refine t_do rfl (u_alloc [.int .i64 0, .int .i64 0] zero64 rfl) ?_
       rintro _ _ ⟨g412, rfl, rfl⟩
       refine t_do rfl (u_storeN (vs := [_, _]) 0 2 rfl rfl rfl siz64 rfl (by intro u hu; simp only [List.mem_cons, List.not_mem_nil, or_false] at hu; rcases hu with rfl | rfl <;> rfl) rfl (by simp)) ?_
       rintro _ _ rfl
       refine t_nil ?_
       refine x_then_normal ?_
       obtain ⟨x433, hj434, hk434⟩ := bindS hm
       refine c_join (fun b431 e' hp' => [(1, .pointer (some ⟨g237, 0, none⟩)), (10, .slice A11 (s1.Signals).length c12), (11, .int .i64 ((s1.Signals.length : Int))), (12, .int .i64 ((k345 : Int))), (64, .bool (x433))] = e' ∧ (g237, Cl 28 [.slice A2 (s1.Stations).length c3, .slice A5 (s1.Sections).length c6, .slice A8 (s1.Links).length c9, .slice A11 (s1.Signals).length c12, .slice A14 (s1.Gates).length c15]) :: R = hp' ∧ b383.Le b431) ?_ ?_
       ·
        have hm := hj434
        obtain ⟨x444, hcl445, hm⟩ := bindS hm
        obtain ⟨x446, hcl447, hm⟩ := bindS hm
        obtain ⟨x451, hcl452, hm⟩ := bindS hm
        refine D_drawS ((g412, Cl 64 [.int .i64 (x402.Section), .int .i64 (x402.End)]) :: (g237, Cl 28 [.slice A2 (s1.Stations).length c3, .slice A5 (s1.Sections).length c6, .slice A8 (s1.Links).length c9, .slice A11 (s1.Signals).length c12, .slice A14 (s1.Gates).length c15]) :: (g359, Cl 64 [.int .i64 (x349.Section), .int .i64 (x349.End)]) :: R) mixed ?_
        refine E_in (.cons_cons _ (.cons_cons _ (.cons_cons _ (.refl _)))) ?_
        refine E_st 0 rfl (st_field rfl fld64_0) ?_
        refine E_st 1 rfl (st_load 0 rfl one3 rfl rfl) ?_
        refine E_st 2 rfl (st_field rfl fld64_0) ?_
        refine E_st 3 rfl (st_load 2 rfl one3 rfl rfl) ?_
        refine E_st 5 rfl (st_field rfl fld64_1) ?_
        refine E_st 6 rfl (st_load 0 rfl one3 rfl rfl) ?_
        refine E_st 7 rfl (st_field rfl fld64_1) ?_
        refine E_st 8 rfl (st_load 2 rfl one3 rfl rfl) ?_
        refine E_out ?_
        refine D_all [4] (by kernel_rfl) rfl ?_
        refine R_do (Base.Le.refl _) rfl rfl (u_callW0 _ call57 rfl (fun w ho => cCmpCompare _ [] x402.Section x349.Section x444 hcl445) (fun _ _ _ h => h.2.symm)) ?_ ?_
        ·
         rintro _ _ ⟨⟨_, rfl, _⟩, rfl⟩
         refine ⟨.inr (.cons_cons _ (.cons_cons _ (.cons_cons _ (.refl _)))), ?_⟩
         refine D_all [9] (by kernel_rfl) rfl ?_
         refine R_do (Base.Le.refl _) rfl rfl (u_callW0 _ call57 rfl (fun w ho => cCmpCompare _ [] x402.End x349.End x446 hcl447) (fun _ _ _ h => h.2.symm)) ?_ ?_
         ·
          rintro _ _ ⟨⟨_, rfl, _⟩, rfl⟩
          refine ⟨.inr (.cons_cons _ (.cons_cons _ (.cons_cons _ (.refl _)))), ?_⟩
          refine D_all [10] (by kernel_rfl) rfl ?_
          refine R_do (Base.Le.refl _) rfl rfl (u_bslice (el := 3) [(0, .int .i64 (x444)), (1, .int .i64 (x446))] [.int .i64 (x444), .int .i64 (x446)] rfl (fun _ => by kernel_rfl)) ?_ ?_
          ·
           rintro _ _ ⟨g448, rfl, rfl⟩
           refine ⟨.inr (.cons _ (.cons_cons _ (.cons_cons _ (.cons_cons _ (.refl _))))), ?_⟩
           refine d_seg 0 [_, _, _] R rfl rfl ?_
           have h450 : OS 3 (OT.fr (RT.int .i64)) b383.w (.slice (some ⟨g448, 0, none⟩) 2 2) [x444, x446] [(g448, Cl 3 [.int .i64 (x444), .int .i64 (x446)])] := OS.lit [[.int .i64 (x444)], [.int .i64 (x446)]] rfl ⟨rfl, ⟨rfl, trivial⟩⟩ rfl (by decide)
           refine D_all [11] (by kernel_rfl) rfl ?_
           refine R_do (Base.Le.refl _) rfl rfl (u_callW0 _ call56 rfl (fun w ho => cCmpOr _ [] [x444, x446] (some ⟨g448, 0, none⟩) 2 (OS.now (o := (OT.fr (RT.int .i64))) (l := [x444, x446]) (hs := [(g448, Cl 3 [.int .i64 (x444), .int .i64 (x446)])]) h450 ho (.cons _ (.cons _ (.cons _ (List.sublist_append_left _ _))))) x451 hcl452) (fun _ _ _ h => h.2.symm)) ?_ ?_
           ·
            rintro _ _ ⟨⟨_, rfl, _⟩, rfl⟩
            refine ⟨.inr (.cons_cons _ (.cons_cons _ (.cons_cons _ (sub_skip [(g448, Cl 3 [.int .i64 (x444), .int .i64 (x446)])] (.refl _))))), ?_⟩
            refine E_in (.cons_cons _ (.cons_cons _ (.cons_cons _ (sub_skip [(g448, Cl 3 [.int .i64 (x444), .int .i64 (x446)])] (.refl _))))) ?_
            refine E_st 12 rfl (st_geq rfl rfl) ?_
            refine E_out ?_
            refine D_done (by kernel_rfl) ?_
            obtain rfl := some1 hm
            refine x_pullb 1 rfl ?_
            exact x_join (e' := [(1, .pointer (some ⟨g237, 0, none⟩)), (10, .slice A11 (s1.Signals).length c12), (11, .int .i64 ((s1.Signals.length : Int))), (12, .int .i64 ((k345 : Int))), (64, .bool (decide (0 ≤ x451)))]) (hp' := (g237, Cl 28 [.slice A2 (s1.Stations).length c3, .slice A5 (s1.Sections).length c6, .slice A8 (s1.Links).length c9, .slice A11 (s1.Signals).length c12, .slice A14 (s1.Gates).length c15]) :: R) ⟨rfl, rfl, rfl, rfl, rfl, trivial⟩ (.cons_cons _ (.cons _ (.cons _ (sub_skip [(g448, Cl 3 [.int .i64 (x444), .int .i64 (x446)])] (.refl _))))) ⟨rfl, rfl, (Base.Le.refl _)⟩
           exact R_nil
          exact R_nil
         exact R_nil
        exact R_nil
       ·
        rintro b431 _ _ ⟨rfl, rfl, hle432⟩
        have hm := hk434
        refine c_cond _ rfl (fun hc453 => ?_) (fun hc453 => ?_)
        ·
         rw [if_pos hc453] at hm
         refine c_seq ?_
         refine c_region ?_
         refine t_st rfl (st_assign rfl) ?_
         refine t_nil ?_
         refine x_then_normal ?_
         refine c_ret ?_
         refine x_block_ret ?_
         refine x_then_ret ?_
         refine x_then_ret ?_
         refine x_block_ret ?_
         refine x_then_ret ?_
         have hq454 := houtL238 _ (Option.some.inj hm).symm
         rw [hq454] at hk348
         have hm := elimR hk348
         obtain rfl := some1 hm
         exact retM (rs := [.tmp 2]) [.int .i64 (5)] (hle344.trans (hle370.trans (hle384.trans hle432))) (by decide) rfl ⟨rfl, trivial⟩ rfl (hp' := R) (.cons _ (.refl _)) ⟨rfl, rfl⟩
        ·
         rw [if_neg (fun hh => Bool.noConfusion (hh.symm.trans hc453))] at hm
         refine c_skip ?_
         refine x_block_normal ?_
         refine x_then_normal ?_
         refine c_region ?_
         refine t_st rfl (st_add rfl rfl (by omega)) ?_
         refine t_st rfl (st_move rfl) ?_
         refine t_nil ?_
         exact x_againM () (Option.some.inj hm).symm (e' := [(1, .pointer (some ⟨g237, 0, none⟩)), (10, .slice A11 (s1.Signals).length c12), (11, .int .i64 ((s1.Signals.length : Int))), (12, .int .i64 ((k345 : Int) + 1))]) (hp' := (g237, Cl 28 [.slice A2 (s1.Stations).length c3, .slice A5 (s1.Sections).length c6, .slice A8 (s1.Links).length c9, .slice A11 (s1.Signals).length c12, .slice A14 (s1.Gates).length c15]) :: R) ⟨rfl, rfl, rfl, rfl, trivial⟩ (.cons_cons _ (.refl _)) ⟨rfl, rfl, ((hle344.trans (hle370.trans (hle384.trans hle432))))⟩
      ·
       rw [if_neg (of_decide_eq_false hc400)] at hm
       refine c_skip ?_
       refine x_block_normal ?_
       refine x_then_normal ?_
       refine c_region ?_
       refine t_st rfl (st_add rfl rfl (by omega)) ?_
       refine t_st rfl (st_move rfl) ?_
       refine t_nil ?_
       exact x_againM () (Option.some.inj hm).symm (e' := [(1, .pointer (some ⟨g237, 0, none⟩)), (10, .slice A11 (s1.Signals).length c12), (11, .int .i64 ((s1.Signals.length : Int))), (12, .int .i64 ((k345 : Int) + 1))]) (hp' := (g237, Cl 28 [.slice A2 (s1.Stations).length c3, .slice A5 (s1.Sections).length c6, .slice A8 (s1.Links).length c9, .slice A11 (s1.Signals).length c12, .slice A14 (s1.Gates).length c15]) :: R) ⟨rfl, rfl, rfl, rfl, trivial⟩ (.cons_cons _ (.cons _ (.refl _))) ⟨rfl, rfl, ((hle344.trans (hle370.trans hle384)))⟩
  ·
   rintro _ b343 _ _ ⟨rfl, rfl, hle344⟩ hq455
   rw [hq455] at hk348
   have hm := elimL hk348
   refine c_seq ?_
   refine c_region ?_
   refine t_st rfl (st_lss_f rfl rfl (by omega)) ?_
   refine t_nil ?_
   refine x_then_normal ?_
   refine c_seq ?_
   refine c_cond_f rfl ?_
   refine c_exit ?_
   refine x_then_exit ?_
   refine x_then_exit ?_
   refine x_block_out ?_
   refine x_then_normal ?_
   refine c_seq ?_
   refine c_region ?_
   refine t_st rfl (st_assign rfl) ?_
   refine t_nil ?_
   refine x_then_normal ?_
   refine c_ret ?_
   obtain rfl := some1 hm
   exact retM (rs := [.tmp 2]) [.int .i64 (0)] hle344 (by decide) rfl ⟨rfl, trivial⟩ rfl (hp' := R) (.cons _ (.refl _)) ⟨rfl, rfl⟩

set_option maxRecDepth 20000 in
theorem cLineCheckGates (b : Base) (R : Hp) (s1 : ApiNet) (A2 : Option Addr) (c3 : Nat) (A5 : Option Addr) (c6 : Nat) (A8 : Option Addr) (c9 : Nat) (A11 : Option Addr) (c12 : Nat) (A14 : Option Addr) (c15 : Nat) (h4 : FZ RT.str b.w A2 c3 s1.Stations) (h7 : FZ rApiSection b.w A5 c6 s1.Sections) (h10 : FZ rApiLink b.w A8 c9 s1.Links) (h13 : FZ rApiSignal b.w A11 c12 s1.Signals) (h16 : FZ rApiGate b.w A14 c15 s1.Gates) (x195 : Int) (hm : mLineCheckGates s1 = some x195) :
    CallsG Tryd.prog 40 [.agg #[.slice A2 (s1.Stations).length c3, .slice A5 (s1.Sections).length c6, .slice A8 (s1.Links).length c9, .slice A11 (s1.Signals).length c12, .slice A14 (s1.Gates).length c15]] b (R) (fun v b' hp' => .int .i64 (x195) = v ∧ R = hp') := by
  refine fn_enterG 52 Tryd.func40 rfl Tryd.ntmps40 rfl ?_
  unfold mLineCheckGates at hm
  refine c_seq ?_
  refine c_region ?_
  refine t_do rfl (u_box _ rfl rfl) ?_
  rintro _ _ ⟨g196, rfl, rfl⟩
  refine t_st rfl (st_assign rfl) ?_
  refine t_nil ?_
  refine x_then_normal ?_
  refine c_seq ?_
  refine c_seq ?_
  refine c_region ?_
  refine t_st rfl (st_field rfl fld28_4) ?_
  refine t_st rfl (st_load 0 rfl one26 rfl rfl) ?_
  refine t_st rfl (st_len rfl sl26) ?_
  refine t_st rfl (st_move rfl) ?_
  refine t_nil ?_
  refine x_then_normal ?_
  refine c_block ?_
  have hb198 : s1.Gates.length ≤ 9223372036854775807 := (FZ.bd h16)
  obtain ⟨t284, hl285, hk286⟩ := bindS hm
  refine c_forM (fun k283 => fun _ => fun b281 e' hp' => [(1, .pointer (some ⟨g196, 0, none⟩)), (6, .slice A14 (s1.Gates).length c15), (7, .int .i64 ((s1.Gates.length : Int))), (8, .int .i64 ((k283 : Int)))] = e' ∧ (g196, Cl 28 [.slice A2 (s1.Stations).length c3, .slice A5 (s1.Sections).length c6, .slice A8 (s1.Links).length c9, .slice A11 (s1.Signals).length c12, .slice A14 (s1.Gates).length c15]) :: R = hp' ∧ b.Le b281) hl285 (e' := [(1, .pointer (some ⟨g196, 0, none⟩)), (6, .slice A14 (s1.Gates).length c15), (7, .int .i64 ((s1.Gates.length : Int))), (8, .int .i64 0)]) (hp' := (g196, Cl 28 [.slice A2 (s1.Stations).length c3, .slice A5 (s1.Sections).length c6, .slice A8 (s1.Links).length c9, .slice A11 (s1.Signals).length c12, .slice A14 (s1.Gates).length c15]) :: R) ⟨rfl, rfl, rfl, rfl, trivial⟩ (.cons_cons _ (.refl _)) ⟨rfl, rfl, (Base.Le.refl _)⟩ ?_ ?_
  ·
   rintro k283 _ b281 _ _ oL197 hknL197 ⟨rfl, rfl, hle282⟩ hstepL197 houtL197
   unfold mLineCheckGates_L197 at hstepL197
   have hm := hstepL197
   refine c_seq ?_
   refine c_region ?_
   refine t_st rfl (st_lss_t rfl rfl (by omega)) ?_
   refine t_nil ?_
   refine x_then_normal ?_
   refine c_seq ?_
   refine c_cond_t rfl ?_
   refine c_skip ?_
   refine x_then_normal ?_
   refine c_seq ?_
   refine c_block ?_
   refine c_seq ?_
   refine c_region ?_
   refine t_st rfl (st_move rfl) ?_
   obtain ⟨x287, h288, hm⟩ := bindS hm
   obtain ⟨j289, hj290, hx291⟩ := idx_some h288
   obtain ⟨cs292, hr293, hcs294, hA295, hlt296⟩ := FZ.get (sz := 2) rfl (by decide) (h16.le hle282) hx291
   obtain ⟨_, _, rfl, rfl, rfl⟩ := hr293
   refine t_st rfl (st_index_old j289 rfl rfl hj290 hlt296 hA295 sl26) ?_
   refine t_st rfl (st_loadN_old (vs := [.int .i64 (x287.Section), .int .i64 (x287.Close)]) 2 rfl agg67 hA295 rfl (fun j u hu => hcs294 j u hu)) ?_
   refine t_do rfl (u_alloc [.int .i64 0, .int .i64 0] zero67 rfl) ?_
   rintro _ _ ⟨g297, rfl, rfl⟩
   refine t_st rfl (st_assign rfl) ?_
   refine t_do rfl (u_storeN (vs := [_, _]) 0 2 rfl rfl rfl siz67 rfl (by intro u hu; simp only [List.mem_cons, List.not_mem_nil, or_false] at hu; rcases hu with rfl | rfl <;> rfl) rfl (by simp)) ?_
   rintro _ _ rfl
   refine t_nil ?_
   refine x_then_normal ?_
   refine c_block ?_
   refine c_seq ?_
   refine c_region ?_
   refine t_st rfl (st_field rfl fld67_0) ?_
   refine t_st rfl (st_load 0 rfl one3 rfl rfl) ?_
   refine t_st rfl (st_field rfl fld28_1) ?_
   refine t_st rfl (st_load 1 rfl one23 rfl rfl) ?_
   refine t_st rfl (st_len rfl sl23) ?_
   obtain ⟨_, h298, hm⟩ := bindS hm
   have h298 := (chk_some h298).2
   refine t_st rfl (st_sub rfl rfl h298) ?_
   obtain ⟨x299, hcl300, hm⟩ := bindS hm
   refine t_do rfl (u_callW0 _ call46 rfl (fun w ho => cLineWithin _ [] x287.Section 0 ((s1.Sections.length : Int) - 1) x299 hcl300) (fun _ _ _ h => h.2.symm)) ?_
   rintro _ _ ⟨⟨_, rfl, _⟩, rfl⟩
   refine t_st rfl (st_not rfl) ?_
   refine t_st rfl (st_assign rfl) ?_
   refine t_nil ?_
   refine x_then_normal ?_
   refine c_cond _ rfl (fun hc301 => ?_) (fun hc301 => ?_)
   ·
    rw [if_neg (fun hh => Bool.noConfusion (hh.symm.trans (notT hc301)))] at hm
    refine c_seq ?_
    refine c_region ?_
    refine t_st rfl (st_assign rfl) ?_
    refine t_nil ?_
    refine x_then_normal ?_
    refine c_ret ?_
    refine x_block_ret ?_
    refine x_block_ret ?_
    refine x_then_ret ?_
    refine x_then_ret ?_
    refine x_block_ret ?_
    refine x_then_ret ?_
    have hq302 := houtL197 _ (Option.some.inj hm).symm
    rw [hq302] at hk286
    have hm := elimR hk286
    obtain rfl := some1 hm
    exact retM (rs := [.tmp 2]) [.int .i64 (3)] hle282 (by decide) rfl ⟨rfl, trivial⟩ rfl (hp' := R) (.cons _ (.cons _ (.refl _))) ⟨rfl, rfl⟩
   ·
    rw [if_pos (notF hc301)] at hm
    refine c_seq ?_
    refine c_region ?_
    refine t_st rfl (st_field rfl fld28_1) ?_
    refine t_st rfl (st_load 1 rfl one23 rfl rfl) ?_
    refine t_st rfl (st_field rfl fld67_0) ?_
    refine t_st rfl (st_load 0 rfl one3 rfl rfl) ?_
    obtain ⟨x303, h304, hm⟩ := bindS hm
    obtain ⟨j305, hj306, hx307⟩ := idx_some h304
    obtain ⟨cs308, hr309, hcs310, hA311, hlt312⟩ := FZ.get (sz := 7) rfl (by decide) (h7.le hle282) hx307
    obtain ⟨_, _, rfl, rfl, ⟨_, _, rfl, rfl, ⟨_, _, rfl, rfl, ⟨_, _, rfl, rfl, ⟨_, _, rfl, rfl, ⟨_, _, rfl, rfl, rfl⟩⟩⟩⟩⟩⟩ := hr309
    refine t_st rfl (st_index_old j305 rfl rfl hj306 hlt312 hA311 sl23) ?_
    refine t_st rfl (st_field_old rfl hA311 fld58_0) ?_
    refine t_st rfl (st_load_old rfl one3 (hcs310 0 _ rfl)) ?_
    refine t_st rfl (st_neq rfl rfl) ?_
    refine t_st rfl (st_assign rfl) ?_
    refine t_nil ?_
    refine x_then_normal ?_
    refine c_cond _ rfl (fun hc313 => ?_) (fun hc313 => ?_)
    ·
     rw [if_pos (of_decide_eq_true hc313)] at hm
     refine c_seq ?_
     refine c_region ?_
     refine t_st rfl (st_assign rfl) ?_
     refine t_nil ?_
     refine x_then_normal ?_
     refine c_ret ?_
     refine x_block_ret ?_
     refine x_block_ret ?_
     refine x_then_ret ?_
     refine x_then_ret ?_
     refine x_block_ret ?_
     refine x_then_ret ?_
     have hq314 := houtL197 _ (Option.some.inj hm).symm
     rw [hq314] at hk286
     have hm := elimR hk286
     obtain rfl := some1 hm
     exact retM (rs := [.tmp 2]) [.int .i64 (1)] hle282 (by decide) rfl ⟨rfl, trivial⟩ rfl (hp' := R) (.cons _ (.cons _ (.refl _))) ⟨rfl, rfl⟩
    ·
     rw [if_neg (of_decide_eq_false hc313)] at hm
     refine c_seq ?_
     refine c_region ?_
     refine t_st rfl (st_field rfl fld67_1) ?_
     refine t_st rfl (st_load 0 rfl one3 rfl rfl) ?_
     obtain ⟨x315, hcl316, hm⟩ := bindS hm
     refine t_do rfl (u_callW0 _ call46 rfl (fun w ho => cLineWithin _ [] x287.Close 1 12 x315 hcl316) (fun _ _ _ h => h.2.symm)) ?_
     rintro _ _ ⟨⟨_, rfl, _⟩, rfl⟩
     refine t_st rfl (st_not rfl) ?_
     refine t_st rfl (st_assign rfl) ?_
     refine t_nil ?_
     refine x_then_normal ?_
     refine c_cond _ rfl (fun hc317 => ?_) (fun hc317 => ?_)
     ·
      rw [if_neg (fun hh => Bool.noConfusion (hh.symm.trans (notT hc317)))] at hm
      refine c_seq ?_
      refine c_region ?_
      refine t_st rfl (st_assign rfl) ?_
      refine t_nil ?_
      refine x_then_normal ?_
      refine c_ret ?_
      refine x_block_ret ?_
      refine x_block_ret ?_
      refine x_then_ret ?_
      refine x_then_ret ?_
      refine x_block_ret ?_
      refine x_then_ret ?_
      have hq318 := houtL197 _ (Option.some.inj hm).symm
      rw [hq318] at hk286
      have hm := elimR hk286
      obtain rfl := some1 hm
      exact retM (rs := [.tmp 2]) [.int .i64 (2)] hle282 (by decide) rfl ⟨rfl, trivial⟩ rfl (hp' := R) (.cons _ (.cons _ (.refl _))) ⟨rfl, rfl⟩
     ·
      rw [if_pos (notF hc317)] at hm
      obtain ⟨x345, hj346, hk346⟩ := bindS hm
      refine c_join (fun b343 e' hp' => [(1, .pointer (some ⟨g196, 0, none⟩)), (6, .slice A14 (s1.Gates).length c15), (7, .int .i64 ((s1.Gates.length : Int))), (8, .int .i64 ((k283 : Int))), (36, .bool (x345))] = e' ∧ (g196, Cl 28 [.slice A2 (s1.Stations).length c3, .slice A5 (s1.Sections).length c6, .slice A8 (s1.Links).length c9, .slice A11 (s1.Signals).length c12, .slice A14 (s1.Gates).length c15]) :: R = hp' ∧ b281.Le b343) ?_ ?_
      ·
       have hm := hj346
       by_cases hc359 : 0 < (k283 : Int)
       ·
        rw [if_pos hc359] at hm
        obtain ⟨_, h360, hm⟩ := bindS hm
        obtain ⟨x361, h362, hm⟩ := bindS hm
        refine D_drawS ((g297, Cl 67 [.int .i64 (x287.Section), .int .i64 (x287.Close)]) :: (g196, Cl 28 [.slice A2 (s1.Stations).length c3, .slice A5 (s1.Sections).length c6, .slice A8 (s1.Links).length c9, .slice A11 (s1.Signals).length c12, .slice A14 (s1.Gates).length c15]) :: R) mixed ?_
        refine E_in (.cons_cons _ (.cons_cons _ (.refl _))) ?_
        refine E_st 0 rfl (st_move rfl) ?_
        refine E_st 1 rfl (st_gtr_t rfl rfl hc359) ?_
        refine E_st 2 rfl (st_move rfl) ?_
        refine E_yes 3 39 rfl (st_field rfl fld67_0) ?_
        refine E_yes 4 39 rfl (st_load 0 rfl one3 rfl rfl) ?_
        refine E_yes 5 39 rfl (st_field rfl fld28_4) ?_
        refine E_yes 6 39 rfl (st_load 1 rfl one26 rfl rfl) ?_
        refine E_yes 7 39 rfl (st_move rfl) ?_
        have h360 := (chk_some h360).2
        refine E_yes 8 39 rfl (st_sub rfl rfl h360) ?_
        obtain ⟨j363, hj364, hx365⟩ := idx_some h362
        obtain ⟨cs366, hr367, hcs368, hA369, hlt370⟩ := FZ.get (sz := 2) rfl (by decide) (h16.le hle282) hx365
        obtain ⟨_, _, rfl, rfl, rfl⟩ := hr367
        refine E_yes 9 39 rfl (st_index_old j363 rfl rfl hj364 hlt370 hA369 sl26) ?_
        refine E_yes 10 39 rfl (st_field_old rfl hA369 fld67_0) ?_
        refine E_yes 11 39 rfl (st_load_old rfl one3 (hcs368 0 _ rfl)) ?_
        refine E_yes 12 39 rfl (st_leq rfl rfl) ?_
        refine E_st 13 rfl (st_pick_t rfl rfl) ?_
        refine E_st 14 rfl (st_assign rfl) ?_
        refine E_out ?_
        refine D_done (by kernel_rfl) ?_
        obtain rfl := some1 hm
        refine x_pullb 1 rfl ?_
        exact x_join (e' := [(1, .pointer (some ⟨g196, 0, none⟩)), (6, .slice A14 (s1.Gates).length c15), (7, .int .i64 ((s1.Gates.length : Int))), (8, .int .i64 ((k283 : Int))), (36, .bool (decide (x287.Section ≤ x361.Section)))]) (hp' := (g196, Cl 28 [.slice A2 (s1.Stations).length c3, .slice A5 (s1.Sections).length c6, .slice A8 (s1.Links).length c9, .slice A11 (s1.Signals).length c12, .slice A14 (s1.Gates).length c15]) :: R) ⟨rfl, rfl, rfl, rfl, rfl, trivial⟩ (.cons_cons _ (.cons _ (.refl _))) ⟨rfl, rfl, (Base.Le.refl _)⟩
       ·
        rw [if_neg hc359] at hm
        refine D_drawS ((g297, Cl 67 [.int .i64 (x287.Section), .int .i64 (x287.Close)]) :: (g196, Cl 28 [.slice A2 (s1.Stations).length c3, .slice A5 (s1.Sections).length c6, .slice A8 (s1.Links).length c9, .slice A11 (s1.Signals).length c12, .slice A14 (s1.Gates).length c15]) :: R) mixed ?_
        refine E_in (.cons_cons _ (.cons_cons _ (.refl _))) ?_
        refine E_st 0 rfl (st_move rfl) ?_
        refine E_st 1 rfl (st_gtr_f rfl rfl hc359) ?_
        refine E_st 2 rfl (st_move rfl) ?_
        refine E_no 3 39 rfl rfl rfl ?_
        refine E_no 4 39 rfl rfl rfl ?_
        refine E_no 5 39 rfl rfl rfl ?_
        refine E_no 6 39 rfl rfl rfl ?_
        refine E_no 7 39 rfl rfl rfl ?_
        refine E_no 8 39 rfl rfl rfl ?_
        refine E_no 9 39 rfl rfl rfl ?_
        refine E_no 10 39 rfl rfl rfl ?_
        refine E_no 11 39 rfl rfl rfl ?_
        refine E_no 12 39 rfl rfl rfl ?_
        refine E_st 13 rfl (st_pick_f rfl rfl) ?_
        refine E_st 14 rfl (st_assign rfl) ?_
        refine E_out ?_
        refine D_done (by kernel_rfl) ?_
        obtain rfl := some1 hm
        refine x_pullb 1 rfl ?_
        exact x_join (e' := [(1, .pointer (some ⟨g196, 0, none⟩)), (6, .slice A14 (s1.Gates).length c15), (7, .int .i64 ((s1.Gates.length : Int))), (8, .int .i64 ((k283 : Int))), (36, .bool (false))]) (hp' := (g196, Cl 28 [.slice A2 (s1.Stations).length c3, .slice A5 (s1.Sections).length c6, .slice A8 (s1.Links).length c9, .slice A11 (s1.Signals).length c12, .slice A14 (s1.Gates).length c15]) :: R) ⟨rfl, rfl, rfl, rfl, rfl, trivial⟩ (.cons_cons _ (.cons _ (.refl _))) ⟨rfl, rfl, (Base.Le.refl _)⟩
      ·
       rintro b343 _ _ ⟨rfl, rfl, hle344⟩
       have hm := hk346
       refine c_cond _ rfl (fun hc371 => ?_) (fun hc371 => ?_)
       ·
        rw [if_pos hc371] at hm
        refine c_seq ?_
        refine c_region ?_
        refine t_st rfl (st_assign rfl) ?_
        refine t_nil ?_
        refine x_then_normal ?_
        refine c_ret ?_
        refine x_block_ret ?_
        refine x_block_ret ?_
        refine x_then_ret ?_
        refine x_then_ret ?_
        refine x_block_ret ?_
        refine x_then_ret ?_
        have hq372 := houtL197 _ (Option.some.inj hm).symm
        rw [hq372] at hk286
        have hm := elimR hk286
        obtain rfl := some1 hm
        exact retM (rs := [.tmp 2]) [.int .i64 (5)] (hle282.trans hle344) (by decide) rfl ⟨rfl, trivial⟩ rfl (hp' := R) (.cons _ (.refl _)) ⟨rfl, rfl⟩
       ·
        rw [if_neg (fun hh => Bool.noConfusion (hh.symm.trans hc371))] at hm
        refine c_skip ?_
        refine x_block_normal ?_
        refine x_block_normal ?_
        refine x_then_normal ?_
        refine c_region ?_
        refine t_st rfl (st_add rfl rfl (by omega)) ?_
        refine t_st rfl (st_move rfl) ?_
        refine t_nil ?_
        exact x_againM () (Option.some.inj hm).symm (e' := [(1, .pointer (some ⟨g196, 0, none⟩)), (6, .slice A14 (s1.Gates).length c15), (7, .int .i64 ((s1.Gates.length : Int))), (8, .int .i64 ((k283 : Int) + 1))]) (hp' := (g196, Cl 28 [.slice A2 (s1.Stations).length c3, .slice A5 (s1.Sections).length c6, .slice A8 (s1.Links).length c9, .slice A11 (s1.Signals).length c12, .slice A14 (s1.Gates).length c15]) :: R) ⟨rfl, rfl, rfl, rfl, trivial⟩ (.cons_cons _ (.refl _)) ⟨rfl, rfl, ((hle282.trans hle344))⟩
  ·
   rintro _ b281 _ _ ⟨rfl, rfl, hle282⟩ hq373
   rw [hq373] at hk286
   have hm := elimL hk286
   refine c_seq ?_
   refine c_region ?_
   refine t_st rfl (st_lss_f rfl rfl (by omega)) ?_
   refine t_nil ?_
   refine x_then_normal ?_
   refine c_seq ?_
   refine c_cond_f rfl ?_
   refine c_exit ?_
   refine x_then_exit ?_
   refine x_then_exit ?_
   refine x_block_out ?_
   refine x_then_normal ?_
   refine c_seq ?_
   refine c_region ?_
   refine t_st rfl (st_assign rfl) ?_
   refine t_nil ?_
   refine x_then_normal ?_
   refine c_ret ?_
   obtain rfl := some1 hm
   exact retM (rs := [.tmp 2]) [.int .i64 (0)] hle282 (by decide) rfl ⟨rfl, trivial⟩ rfl (hp' := R) (.cons _ (.refl _)) ⟨rfl, rfl⟩

set_option maxRecDepth 20000 in
theorem cLineCheck (b : Base) (R : Hp) (s1 : ApiNet) (A2 : Option Addr) (c3 : Nat) (A5 : Option Addr) (c6 : Nat) (A8 : Option Addr) (c9 : Nat) (A11 : Option Addr) (c12 : Nat) (A14 : Option Addr) (c15 : Nat) (h4 : FZ RT.str b.w A2 c3 s1.Stations) (h7 : FZ rApiSection b.w A5 c6 s1.Sections) (h10 : FZ rApiLink b.w A8 c9 s1.Links) (h13 : FZ rApiSignal b.w A11 c12 s1.Signals) (h16 : FZ rApiGate b.w A14 c15 s1.Gates) (x178 : Int) (hm : mLineCheck s1 = some x178) :
    CallsG Tryd.prog 15 [.agg #[.slice A2 (s1.Stations).length c3, .slice A5 (s1.Sections).length c6, .slice A8 (s1.Links).length c9, .slice A11 (s1.Signals).length c12, .slice A14 (s1.Gates).length c15]] b (R) (fun v b' hp' => .int .i64 (x178) = v ∧ R = hp') := by
  refine fn_enterG 92 Tryd.func15 rfl Tryd.ntmps15 rfl ?_
  unfold mLineCheck at hm
  refine c_seq ?_
  refine c_region ?_
  refine t_do rfl (u_box _ rfl rfl) ?_
  rintro _ _ ⟨g179, rfl, rfl⟩
  refine t_st rfl (st_assign rfl) ?_
  refine t_nil ?_
  refine x_then_normal ?_
  refine c_seq ?_
  refine c_block ?_
  refine c_seq ?_
  refine c_region ?_
  refine t_st rfl (st_field rfl fld28_1) ?_
  refine t_st rfl (st_load 0 rfl one23 rfl rfl) ?_
  refine t_st rfl (st_len rfl sl23) ?_
  refine t_st rfl (st_eql rfl rfl) ?_
  refine t_st rfl (st_assign rfl) ?_
  refine t_nil ?_
  refine x_then_normal ?_
  refine c_cond _ rfl (fun hc180 => ?_) (fun hc180 => ?_)
  ·
   rw [if_pos (of_decide_eq_true hc180)] at hm
   refine c_seq ?_
   refine c_region ?_
   refine t_st rfl (st_assign rfl) ?_
   refine t_nil ?_
   refine x_then_normal ?_
   refine c_ret ?_
   refine x_block_ret ?_
   refine x_then_ret ?_
   obtain rfl := some1 hm
   exact retM (rs := [.tmp 2]) [.int .i64 (1)] (Base.Le.refl _) (by decide) rfl ⟨rfl, trivial⟩ rfl (hp' := R) (.cons _ (.refl _)) ⟨rfl, rfl⟩
  ·
   rw [if_neg (of_decide_eq_false hc180)] at hm
   obtain ⟨x187, hj188, hk188⟩ := bindS hm
   refine c_join (fun b185 e' hp' => [(1, .pointer (some ⟨g179, 0, none⟩)), (16, .bool (x187))] = e' ∧ (g179, Cl 28 [.slice A2 (s1.Stations).length c3, .slice A5 (s1.Sections).length c6, .slice A8 (s1.Links).length c9, .slice A11 (s1.Signals).length c12, .slice A14 (s1.Gates).length c15]) :: R = hp' ∧ b.Le b185) ?_ ?_
   ·
    have hm := hj188
    refine c_region ?_
    refine t_st rfl (st_field rfl fld28_0) ?_
    refine t_st rfl (st_load 0 rfl one22 rfl rfl) ?_
    refine t_st rfl (st_len rfl sl22) ?_
    refine t_bool rfl (st_gtr rfl rfl) (fun hc189 => ?_) (fun hc189 => ?_)
    ·
     rw [if_pos hc189] at hm
     refine t_st rfl (st_move rfl) ?_
     refine t_no 21 rfl rfl rfl rfl rfl ?_
     refine t_no 21 rfl rfl rfl rfl rfl ?_
     refine t_no 21 rfl rfl rfl rfl rfl ?_
     refine t_no 21 rfl rfl rfl rfl rfl ?_
     refine t_st rfl (st_pick_t rfl rfl) ?_
     refine t_st rfl (st_move rfl) ?_
     refine t_no 27 rfl rfl rfl rfl rfl ?_
     refine t_no 27 rfl rfl rfl rfl rfl ?_
     refine t_no 27 rfl rfl rfl rfl rfl ?_
     refine t_no 27 rfl rfl rfl rfl rfl ?_
     refine t_st rfl (st_pick_t rfl rfl) ?_
     refine t_st rfl (st_move rfl) ?_
     refine t_no 33 rfl rfl rfl rfl rfl ?_
     refine t_no 33 rfl rfl rfl rfl rfl ?_
     refine t_no 33 rfl rfl rfl rfl rfl ?_
     refine t_no 33 rfl rfl rfl rfl rfl ?_
     refine t_st rfl (st_pick_t rfl rfl) ?_
     refine t_st rfl (st_move rfl) ?_
     refine t_no 39 rfl rfl rfl rfl rfl ?_
     refine t_no 39 rfl rfl rfl rfl rfl ?_
     refine t_no 39 rfl rfl rfl rfl rfl ?_
     refine t_no 39 rfl rfl rfl rfl rfl ?_
     refine t_st rfl (st_pick_t rfl rfl) ?_
     refine t_st rfl (st_assign rfl) ?_
     refine t_nil ?_
     obtain rfl := some1 hm
     exact x_join (e' := [(1, .pointer (some ⟨g179, 0, none⟩)), (16, .bool (true))]) (hp' := (g179, Cl 28 [.slice A2 (s1.Stations).length c3, .slice A5 (s1.Sections).length c6, .slice A8 (s1.Links).length c9, .slice A11 (s1.Signals).length c12, .slice A14 (s1.Gates).length c15]) :: R) ⟨rfl, rfl, trivial⟩ (.cons_cons _ (.refl _)) ⟨rfl, rfl, (Base.Le.refl _)⟩
    ·
     rw [if_neg hc189] at hm
     refine t_st rfl (st_move rfl) ?_
     refine t_yes 21 rfl rfl rfl ?_
     refine t_st rfl (st_field rfl fld28_1) ?_
     refine t_yes 21 rfl rfl rfl ?_
     refine t_st rfl (st_load 0 rfl one23 rfl rfl) ?_
     refine t_yes 21 rfl rfl rfl ?_
     refine t_st rfl (st_len rfl sl23) ?_
     refine t_yes 21 rfl rfl rfl ?_
     refine t_bool rfl (st_gtr rfl rfl) (fun hc190 => ?_) (fun hc190 => ?_)
     ·
      rw [if_pos hc190] at hm
      refine t_st rfl (st_pick_f rfl rfl) ?_
      refine t_st rfl (st_move rfl) ?_
      refine t_no 27 rfl rfl rfl rfl rfl ?_
      refine t_no 27 rfl rfl rfl rfl rfl ?_
      refine t_no 27 rfl rfl rfl rfl rfl ?_
      refine t_no 27 rfl rfl rfl rfl rfl ?_
      refine t_st rfl (st_pick_t rfl rfl) ?_
      refine t_st rfl (st_move rfl) ?_
      refine t_no 33 rfl rfl rfl rfl rfl ?_
      refine t_no 33 rfl rfl rfl rfl rfl ?_
      refine t_no 33 rfl rfl rfl rfl rfl ?_
      refine t_no 33 rfl rfl rfl rfl rfl ?_
      refine t_st rfl (st_pick_t rfl rfl) ?_
      refine t_st rfl (st_move rfl) ?_
      refine t_no 39 rfl rfl rfl rfl rfl ?_
      refine t_no 39 rfl rfl rfl rfl rfl ?_
      refine t_no 39 rfl rfl rfl rfl rfl ?_
      refine t_no 39 rfl rfl rfl rfl rfl ?_
      refine t_st rfl (st_pick_t rfl rfl) ?_
      refine t_st rfl (st_assign rfl) ?_
      refine t_nil ?_
      obtain rfl := some1 hm
      exact x_join (e' := [(1, .pointer (some ⟨g179, 0, none⟩)), (16, .bool (true))]) (hp' := (g179, Cl 28 [.slice A2 (s1.Stations).length c3, .slice A5 (s1.Sections).length c6, .slice A8 (s1.Links).length c9, .slice A11 (s1.Signals).length c12, .slice A14 (s1.Gates).length c15]) :: R) ⟨rfl, rfl, trivial⟩ (.cons_cons _ (.refl _)) ⟨rfl, rfl, (Base.Le.refl _)⟩
     ·
      rw [if_neg hc190] at hm
      refine t_st rfl (st_pick_f rfl rfl) ?_
      refine t_st rfl (st_move rfl) ?_
      refine t_yes 27 rfl rfl rfl ?_
      refine t_st rfl (st_field rfl fld28_2) ?_
      refine t_yes 27 rfl rfl rfl ?_
      refine t_st rfl (st_load 0 rfl one24 rfl rfl) ?_
      refine t_yes 27 rfl rfl rfl ?_
      refine t_st rfl (st_len rfl sl24) ?_
      refine t_yes 27 rfl rfl rfl ?_
      refine t_bool rfl (st_gtr rfl rfl) (fun hc191 => ?_) (fun hc191 => ?_)
      ·
       rw [if_pos hc191] at hm
       refine t_st rfl (st_pick_f rfl rfl) ?_
       refine t_st rfl (st_move rfl) ?_
       refine t_no 33 rfl rfl rfl rfl rfl ?_
       refine t_no 33 rfl rfl rfl rfl rfl ?_
       refine t_no 33 rfl rfl rfl rfl rfl ?_
       refine t_no 33 rfl rfl rfl rfl rfl ?_
       refine t_st rfl (st_pick_t rfl rfl) ?_
       refine t_st rfl (st_move rfl) ?_
       refine t_no 39 rfl rfl rfl rfl rfl ?_
       refine t_no 39 rfl rfl rfl rfl rfl ?_
       refine t_no 39 rfl rfl rfl rfl rfl ?_
       refine t_no 39 rfl rfl rfl rfl rfl ?_
       refine t_st rfl (st_pick_t rfl rfl) ?_
       refine t_st rfl (st_assign rfl) ?_
       refine t_nil ?_
       obtain rfl := some1 hm
       exact x_join (e' := [(1, .pointer (some ⟨g179, 0, none⟩)), (16, .bool (true))]) (hp' := (g179, Cl 28 [.slice A2 (s1.Stations).length c3, .slice A5 (s1.Sections).length c6, .slice A8 (s1.Links).length c9, .slice A11 (s1.Signals).length c12, .slice A14 (s1.Gates).length c15]) :: R) ⟨rfl, rfl, trivial⟩ (.cons_cons _ (.refl _)) ⟨rfl, rfl, (Base.Le.refl _)⟩
      ·
       rw [if_neg hc191] at hm
       refine t_st rfl (st_pick_f rfl rfl) ?_
       refine t_st rfl (st_move rfl) ?_
       refine t_yes 33 rfl rfl rfl ?_
       refine t_st rfl (st_field rfl fld28_3) ?_
       refine t_yes 33 rfl rfl rfl ?_
       refine t_st rfl (st_load 0 rfl one25 rfl rfl) ?_
       refine t_yes 33 rfl rfl rfl ?_
       refine t_st rfl (st_len rfl sl25) ?_
       refine t_yes 33 rfl rfl rfl ?_
       refine t_bool rfl (st_gtr rfl rfl) (fun hc192 => ?_) (fun hc192 => ?_)
       ·
        rw [if_pos hc192] at hm
        refine t_st rfl (st_pick_f rfl rfl) ?_
        refine t_st rfl (st_move rfl) ?_
        refine t_no 39 rfl rfl rfl rfl rfl ?_
        refine t_no 39 rfl rfl rfl rfl rfl ?_
        refine t_no 39 rfl rfl rfl rfl rfl ?_
        refine t_no 39 rfl rfl rfl rfl rfl ?_
        refine t_st rfl (st_pick_t rfl rfl) ?_
        refine t_st rfl (st_assign rfl) ?_
        refine t_nil ?_
        obtain rfl := some1 hm
        exact x_join (e' := [(1, .pointer (some ⟨g179, 0, none⟩)), (16, .bool (true))]) (hp' := (g179, Cl 28 [.slice A2 (s1.Stations).length c3, .slice A5 (s1.Sections).length c6, .slice A8 (s1.Links).length c9, .slice A11 (s1.Signals).length c12, .slice A14 (s1.Gates).length c15]) :: R) ⟨rfl, rfl, trivial⟩ (.cons_cons _ (.refl _)) ⟨rfl, rfl, (Base.Le.refl _)⟩
       ·
        rw [if_neg hc192] at hm
        refine t_st rfl (st_pick_f rfl rfl) ?_
        refine t_st rfl (st_move rfl) ?_
        refine t_yes 39 rfl rfl rfl ?_
        refine t_st rfl (st_field rfl fld28_4) ?_
        refine t_yes 39 rfl rfl rfl ?_
        refine t_st rfl (st_load 0 rfl one26 rfl rfl) ?_
        refine t_yes 39 rfl rfl rfl ?_
        refine t_st rfl (st_len rfl sl26) ?_
        refine t_yes 39 rfl rfl rfl ?_
        refine t_st rfl (st_gtr rfl rfl) ?_
        refine t_st rfl (st_pick_f rfl rfl) ?_
        refine t_st rfl (st_assign rfl) ?_
        refine t_nil ?_
        obtain rfl := some1 hm
        exact x_join (e' := [(1, .pointer (some ⟨g179, 0, none⟩)), (16, .bool (decide (8 < (s1.Gates.length : Int))))]) (hp' := (g179, Cl 28 [.slice A2 (s1.Stations).length c3, .slice A5 (s1.Sections).length c6, .slice A8 (s1.Links).length c9, .slice A11 (s1.Signals).length c12, .slice A14 (s1.Gates).length c15]) :: R) ⟨rfl, rfl, trivial⟩ (.cons_cons _ (.refl _)) ⟨rfl, rfl, (Base.Le.refl _)⟩
   ·
    rintro b185 _ _ ⟨rfl, rfl, hle186⟩
    have hm := hk188
    refine c_cond _ rfl (fun hc193 => ?_) (fun hc193 => ?_)
    ·
     rw [if_pos hc193] at hm
     refine c_seq ?_
     refine c_region ?_
     refine t_st rfl (st_assign rfl) ?_
     refine t_nil ?_
     refine x_then_normal ?_
     refine c_ret ?_
     refine x_block_ret ?_
     refine x_then_ret ?_
     obtain rfl := some1 hm
     exact retM (rs := [.tmp 2]) [.int .i64 (4)] hle186 (by decide) rfl ⟨rfl, trivial⟩ rfl (hp' := R) (.cons _ (.refl _)) ⟨rfl, rfl⟩
    ·
     rw [if_neg (fun hh => Bool.noConfusion (hh.symm.trans hc193))] at hm
     refine c_skip ?_
     refine x_block_normal ?_
     refine x_then_normal ?_
     refine c_seq ?_
     refine c_seq ?_
     refine c_region ?_
     refine t_st rfl (st_field rfl fld28_0) ?_
     refine t_st rfl (st_load 0 rfl one22 rfl rfl) ?_
     refine t_st rfl (st_len rfl sl22) ?_
     refine t_st rfl (st_move rfl) ?_
     refine t_nil ?_
     refine x_then_normal ?_
     refine c_block ?_
     have hb195 : s1.Stations.length ≤ 9223372036854775807 := (FZ.bd (h4.le hle186))
     obtain ⟨t230, hl231, hk232⟩ := bindS hm
     refine c_forM (fun k229 => fun _ => fun b227 e' hp' => [(1, .pointer (some ⟨g179, 0, none⟩)), (46, .slice A2 (s1.Stations).length c3), (47, .int .i64 ((s1.Stations.length : Int))), (48, .int .i64 ((k229 : Int)))] = e' ∧ (g179, Cl 28 [.slice A2 (s1.Stations).length c3, .slice A5 (s1.Sections).length c6, .slice A8 (s1.Links).length c9, .slice A11 (s1.Signals).length c12, .slice A14 (s1.Gates).length c15]) :: R = hp' ∧ b185.Le b227) hl231 (e' := [(1, .pointer (some ⟨g179, 0, none⟩)), (46, .slice A2 (s1.Stations).length c3), (47, .int .i64 ((s1.Stations.length : Int))), (48, .int .i64 0)]) (hp' := (g179, Cl 28 [.slice A2 (s1.Stations).length c3, .slice A5 (s1.Sections).length c6, .slice A8 (s1.Links).length c9, .slice A11 (s1.Signals).length c12, .slice A14 (s1.Gates).length c15]) :: R) ⟨rfl, rfl, rfl, rfl, trivial⟩ (.cons_cons _ (.refl _)) ⟨rfl, rfl, (Base.Le.refl _)⟩ ?_ ?_
     ·
      rintro k229 _ b227 _ _ oL194 hknL194 ⟨rfl, rfl, hle228⟩ hstepL194 houtL194
      unfold mLineCheck_L194 at hstepL194
      have hm := hstepL194
      refine c_seq ?_
      refine c_region ?_
      refine t_st rfl (st_lss_t rfl rfl (by omega)) ?_
      refine t_nil ?_
      refine x_then_normal ?_
      refine c_seq ?_
      refine c_cond_t rfl ?_
      refine c_skip ?_
      refine x_then_normal ?_
      refine c_seq ?_
      refine c_block ?_
      refine c_seq ?_
      refine c_region ?_
      refine t_st rfl (st_move rfl) ?_
      obtain ⟨x233, h234, hm⟩ := bindS hm
      obtain ⟨j235, hj236, hx237⟩ := idx_some h234
      obtain ⟨cs238, hr239, hcs240, hA241, hlt242⟩ := FZ.get (sz := 1) rfl (by decide) (h4.le (hle186.trans hle228)) hx237
      obtain rfl := hr239
      refine t_st rfl (st_index_old j235 rfl rfl hj236 hlt242 hA241 sl22) ?_
      refine t_st rfl (st_load_old rfl one9 (hcs240 0 _ rfl)) ?_
      refine t_st rfl (st_assign rfl) ?_
      refine t_st rfl (st_assign rfl) ?_
      refine t_nil ?_
      refine x_then_normal ?_
      refine c_block ?_
      refine c_seq ?_
      refine c_region ?_
      refine t_st rfl (st_move rfl) ?_
      obtain ⟨x243, hcl244, hm⟩ := bindS hm
      refine t_do rfl (u_callW0 _ call35 rfl (fun w ho => cLineName _ [] x233 x243 hcl244) (fun _ _ _ h => h.2.symm)) ?_
      rintro _ _ ⟨⟨_, rfl, _⟩, rfl⟩
      refine t_st rfl (st_not rfl) ?_
      refine t_st rfl (st_assign rfl) ?_
      refine t_nil ?_
      refine x_then_normal ?_
      refine c_cond _ rfl (fun hc245 => ?_) (fun hc245 => ?_)
      ·
       rw [if_neg (fun hh => Bool.noConfusion (hh.symm.trans (notT hc245)))] at hm
       refine c_seq ?_
       refine c_region ?_
       refine t_st rfl (st_assign rfl) ?_
       refine t_nil ?_
       refine x_then_normal ?_
       refine c_ret ?_
       refine x_block_ret ?_
       refine x_block_ret ?_
       refine x_then_ret ?_
       refine x_then_ret ?_
       refine x_block_ret ?_
       refine x_then_ret ?_
       have hq246 := houtL194 _ (Option.some.inj hm).symm
       rw [hq246] at hk232
       have hm := elimR hk232
       obtain rfl := some1 hm
       exact retM (rs := [.tmp 2]) [.int .i64 (1)] (hle186.trans hle228) (by decide) rfl ⟨rfl, trivial⟩ rfl (hp' := R) (.cons _ (.refl _)) ⟨rfl, rfl⟩
      ·
       rw [if_pos (notF hc245)] at hm
       refine c_seq ?_
       refine c_region ?_
       refine t_st rfl (st_field rfl fld28_0) ?_
       refine t_st rfl (st_load 0 rfl one22 rfl rfl) ?_
       refine t_st rfl (st_move rfl) ?_
       obtain ⟨l247, h248, hm⟩ := bindS hm
       obtain ⟨j249, j250, hj251, hj252, hj253, hj254, hx255⟩ := cutS_some h248
       have h256 := FZ.sub (sz := 1) rfl (h4.le (hle186.trans hle228)) hj253 hj254
       have h257 := (h4.le (hle186.trans hle228)).1.1
       rw [← hx255] at h256
       refine t_st rfl (hx255 ▸ st_part (l := s1.Stations) j249 j250 rfl (.inl ⟨rfl, by omega⟩) (.inr ⟨_, _, _, rfl, rfl, hj252⟩) hj253 hj254 h257 sl22) ?_
       refine t_st rfl (st_move rfl) ?_
       obtain ⟨x262, hcl263, hm⟩ := bindS hm
       refine t_do rfl (u_callW0 _ call36 rfl (fun w ho => cSlicesContains _ [] l247 x233 (subA A2 c3 j249 1) (c3 - j249) (h256.old ho) x262 hcl263) (fun _ _ _ h => h.2.symm)) ?_
       rintro _ _ ⟨⟨_, rfl, _⟩, rfl⟩
       refine t_st rfl (st_assign rfl) ?_
       refine t_nil ?_
       refine x_then_normal ?_
       refine c_cond _ rfl (fun hc264 => ?_) (fun hc264 => ?_)
       ·
        rw [if_pos hc264] at hm
        refine c_seq ?_
        refine c_region ?_
        refine t_st rfl (st_assign rfl) ?_
        refine t_nil ?_
        refine x_then_normal ?_
        refine c_ret ?_
        refine x_block_ret ?_
        refine x_block_ret ?_
        refine x_then_ret ?_
        refine x_then_ret ?_
        refine x_block_ret ?_
        refine x_then_ret ?_
        have hq265 := houtL194 _ (Option.some.inj hm).symm
        rw [hq265] at hk232
        have hm := elimR hk232
        obtain rfl := some1 hm
        exact retM (rs := [.tmp 2]) [.int .i64 (6)] (hle186.trans hle228) (by decide) rfl ⟨rfl, trivial⟩ rfl (hp' := R) (.cons _ (.refl _)) ⟨rfl, rfl⟩
       ·
        rw [if_neg (fun hh => Bool.noConfusion (hh.symm.trans hc264))] at hm
        refine c_skip ?_
        refine x_block_normal ?_
        refine x_block_normal ?_
        refine x_then_normal ?_
        refine c_region ?_
        refine t_st rfl (st_add rfl rfl (by omega)) ?_
        refine t_st rfl (st_move rfl) ?_
        refine t_nil ?_
        exact x_againM () (Option.some.inj hm).symm (e' := [(1, .pointer (some ⟨g179, 0, none⟩)), (46, .slice A2 (s1.Stations).length c3), (47, .int .i64 ((s1.Stations.length : Int))), (48, .int .i64 ((k229 : Int) + 1))]) (hp' := (g179, Cl 28 [.slice A2 (s1.Stations).length c3, .slice A5 (s1.Sections).length c6, .slice A8 (s1.Links).length c9, .slice A11 (s1.Signals).length c12, .slice A14 (s1.Gates).length c15]) :: R) ⟨rfl, rfl, rfl, rfl, trivial⟩ (.cons_cons _ (.refl _)) ⟨rfl, rfl, (hle228)⟩
     ·
      rintro _ b227 _ _ ⟨rfl, rfl, hle228⟩ hq266
      rw [hq266] at hk232
      have hm := elimL hk232
      refine c_seq ?_
      refine c_region ?_
      refine t_st rfl (st_lss_f rfl rfl (by omega)) ?_
      refine t_nil ?_
      refine x_then_normal ?_
      refine c_seq ?_
      refine c_cond_f rfl ?_
      refine c_exit ?_
      refine x_then_exit ?_
      refine x_then_exit ?_
      refine x_block_out ?_
      refine x_then_normal ?_
      refine c_seq ?_
      refine c_seq ?_
      refine c_region ?_
      refine t_st rfl (st_field rfl fld28_1) ?_
      refine t_st rfl (st_load 0 rfl one23 rfl rfl) ?_
      refine t_st rfl (st_len rfl sl23) ?_
      refine t_st rfl (st_move rfl) ?_
      refine t_nil ?_
      refine x_then_normal ?_
      refine c_block ?_
      have hb268 : s1.Sections.length ≤ 9223372036854775807 := (FZ.bd (h7.le (hle186.trans hle228)))
      obtain ⟨t286, hl287, hk288⟩ := bindS hm
      refine c_forM (fun k285 => fun _ => fun b283 e' hp' => [(1, .pointer (some ⟨g179, 0, none⟩)), (66, .slice A5 (s1.Sections).length c6), (67, .int .i64 ((s1.Sections.length : Int))), (68, .int .i64 ((k285 : Int)))] = e' ∧ (g179, Cl 28 [.slice A2 (s1.Stations).length c3, .slice A5 (s1.Sections).length c6, .slice A8 (s1.Links).length c9, .slice A11 (s1.Signals).length c12, .slice A14 (s1.Gates).length c15]) :: R = hp' ∧ b227.Le b283) hl287 (e' := [(1, .pointer (some ⟨g179, 0, none⟩)), (66, .slice A5 (s1.Sections).length c6), (67, .int .i64 ((s1.Sections.length : Int))), (68, .int .i64 0)]) (hp' := (g179, Cl 28 [.slice A2 (s1.Stations).length c3, .slice A5 (s1.Sections).length c6, .slice A8 (s1.Links).length c9, .slice A11 (s1.Signals).length c12, .slice A14 (s1.Gates).length c15]) :: R) ⟨rfl, rfl, rfl, rfl, trivial⟩ (.cons_cons _ (.refl _)) ⟨rfl, rfl, (Base.Le.refl _)⟩ ?_ ?_
      ·
       rintro k285 _ b283 _ _ oL267 hknL267 ⟨rfl, rfl, hle284⟩ hstepL267 houtL267
       unfold mLineCheck_L267 at hstepL267
       have hm := hstepL267
       refine c_seq ?_
       refine c_region ?_
       refine t_st rfl (st_lss_t rfl rfl (by omega)) ?_
       refine t_nil ?_
       refine x_then_normal ?_
       refine c_seq ?_
       refine c_cond_t rfl ?_
       refine c_skip ?_
       refine x_then_normal ?_
       refine c_seq ?_
       refine c_block ?_
       refine c_seq ?_
       refine c_region ?_
       obtain ⟨x289, h290, hm⟩ := bindS hm
       obtain ⟨j291, hj292, hx293⟩ := idx_some h290
       obtain ⟨cs294, hr295, hcs296, hA297, hlt298⟩ := FZ.get (sz := 7) rfl (by decide) (h7.le (hle186.trans (hle228.trans hle284))) hx293
       obtain ⟨_, _, rfl, rfl, ⟨_, _, rfl, rfl, ⟨_, _, rfl, rfl, ⟨_, _, rfl, rfl, ⟨_, _, rfl, rfl, ⟨_, _, rfl, rfl, rfl⟩⟩⟩⟩⟩⟩ := hr295
       refine t_st rfl (st_index_old j291 rfl rfl hj292 hlt298 hA297 sl23) ?_
       refine t_st rfl (st_loadN_old (vs := [.int .i64 (x289.Kind), .int .i64 (x289.Length), .int .i64 (x289.Grade), .int .i64 (x289.Speed), .int .i64 (x289.Slow), .int .i64 (x289.Station), .bool (x289.Axles)]) 7 rfl agg58 hA297 rfl (fun j u hu => hcs296 j u hu)) ?_
       refine t_do rfl (u_alloc [.int .i64 0, .int .i64 0, .int .i64 0, .int .i64 0, .int .i64 0, .int .i64 0, .bool false] zero58 rfl) ?_
       rintro _ _ ⟨g299, rfl, rfl⟩
       refine t_do rfl (u_storeN (vs := [_, _, _, _, _, _, _]) 0 7 rfl rfl rfl siz58 rfl (by intro u hu; simp only [List.mem_cons, List.not_mem_nil, or_false] at hu; rcases hu with rfl | rfl | rfl | rfl | rfl | rfl | rfl <;> rfl) rfl (by simp)) ?_
       rintro _ _ rfl
       refine t_nil ?_
       refine x_then_normal ?_
       refine c_seq ?_
       refine c_region ?_
       refine t_st rfl (st_loadD (vs := [_, _, _, _, _, _, _]) 0 7 rfl agg58 rfl rfl rfl) ?_
       refine t_st rfl (st_field rfl fld28_0) ?_
       refine t_st rfl (st_load 1 rfl one22 rfl rfl) ?_
       refine t_st rfl (st_len rfl sl22) ?_
       obtain ⟨x300, hcl301, hm⟩ := bindS hm
       refine t_do rfl (u_callW0 _ call37 rfl (fun w ho => cLineCheckSection _ [] x289 (s1.Stations.length : Int) x300 hcl301) (fun _ _ _ h => h.2.symm)) ?_
       rintro _ _ ⟨⟨_, rfl, _⟩, rfl⟩
       refine t_st rfl (st_assign rfl) ?_
       refine t_nil ?_
       refine x_then_normal ?_
       refine c_seq ?_
       refine c_region ?_
       refine t_st rfl (st_move rfl) ?_
       refine t_st rfl (st_neq rfl rfl) ?_
       refine t_nil ?_
       refine x_then_normal ?_
       refine c_cond _ rfl (fun hc302 => ?_) (fun hc302 => ?_)
       ·
        rw [if_pos (of_decide_eq_true hc302)] at hm
        refine c_seq ?_
        refine c_region ?_
        refine t_st rfl (st_move rfl) ?_
        refine t_st rfl (st_assign rfl) ?_
        refine t_nil ?_
        refine x_then_normal ?_
        refine c_ret ?_
        refine x_block_ret ?_
        refine x_then_ret ?_
        refine x_then_ret ?_
        refine x_block_ret ?_
        refine x_then_ret ?_
        have hq303 := houtL267 _ (Option.some.inj hm).symm
        rw [hq303] at hk288
        have hm := elimR hk288
        obtain rfl := some1 hm
        exact retM (rs := [.tmp 2]) [.int .i64 (x300)] (hle186.trans (hle228.trans hle284)) (by decide) rfl ⟨rfl, trivial⟩ rfl (hp' := R) (.cons _ (.cons _ (.refl _))) ⟨rfl, rfl⟩
       ·
        rw [if_neg (of_decide_eq_false hc302)] at hm
        refine c_skip ?_
        refine x_block_normal ?_
        refine x_then_normal ?_
        refine c_region ?_
        refine t_st rfl (st_add rfl rfl (by omega)) ?_
        refine t_st rfl (st_move rfl) ?_
        refine t_nil ?_
        refine x_pullb 1 rfl ?_
        exact x_againM () (Option.some.inj hm).symm (e' := [(1, .pointer (some ⟨g179, 0, none⟩)), (66, .slice A5 (s1.Sections).length c6), (67, .int .i64 ((s1.Sections.length : Int))), (68, .int .i64 ((k285 : Int) + 1))]) (hp' := (g179, Cl 28 [.slice A2 (s1.Stations).length c3, .slice A5 (s1.Sections).length c6, .slice A8 (s1.Links).length c9, .slice A11 (s1.Signals).length c12, .slice A14 (s1.Gates).length c15]) :: R) ⟨rfl, rfl, rfl, rfl, trivial⟩ (.cons_cons _ (.cons _ (.refl _))) ⟨rfl, rfl, (hle284)⟩
      ·
       rintro _ b283 _ _ ⟨rfl, rfl, hle284⟩ hq304
       rw [hq304] at hk288
       have hm := elimL hk288
       refine c_seq ?_
       refine c_region ?_
       refine t_st rfl (st_lss_f rfl rfl (by omega)) ?_
       refine t_nil ?_
       refine x_then_normal ?_
       refine c_seq ?_
       refine c_cond_f rfl ?_
       refine c_exit ?_
       refine x_then_exit ?_
       refine x_then_exit ?_
       refine x_block_out ?_
       refine x_then_normal ?_
       refine c_seq ?_
       refine c_seq ?_
       refine c_region ?_
       refine t_st rfl (st_build (v := .agg #[.func (.func 38) #[] #[], .func (.func 39) #[] #[], .func (.func 40) #[] #[]]) [(0, .func (.func 38) #[] #[]), (1, .func (.func 39) #[] #[]), (2, .func (.func 40) #[] #[])] rfl (fun _ => by kernel_rfl)) ?_
       refine t_st rfl (st_move rfl) ?_
       refine t_nil ?_
       refine x_then_normal ?_
       refine c_block ?_
       obtain ⟨t321, hl322, hk323⟩ := bindS hm
       refine c_forM (fun k320 => fun _ => fun b318 e' hp' => [(1, .pointer (some ⟨g179, 0, none⟩)), (81, .agg #[.func (.func 38) #[] #[], .func (.func 39) #[] #[], .func (.func 40) #[] #[]]), (82, .int .i64 ((k320 : Int)))] = e' ∧ (g179, Cl 28 [.slice A2 (s1.Stations).length c3, .slice A5 (s1.Sections).length c6, .slice A8 (s1.Links).length c9, .slice A11 (s1.Signals).length c12, .slice A14 (s1.Gates).length c15]) :: R = hp' ∧ b283.Le b318) hl322 (e' := [(1, .pointer (some ⟨g179, 0, none⟩)), (81, .agg #[.func (.func 38) #[] #[], .func (.func 39) #[] #[], .func (.func 40) #[] #[]]), (82, .int .i64 0)]) (hp' := (g179, Cl 28 [.slice A2 (s1.Stations).length c3, .slice A5 (s1.Sections).length c6, .slice A8 (s1.Links).length c9, .slice A11 (s1.Signals).length c12, .slice A14 (s1.Gates).length c15]) :: R) ⟨rfl, rfl, rfl, trivial⟩ (.cons_cons _ (.refl _)) ⟨rfl, rfl, (Base.Le.refl _)⟩ ?_ ?_
       ·
        rintro k320 _ b318 _ _ oL305 hknL305 ⟨rfl, rfl, hle319⟩ hstepL305 houtL305
        unfold mLineCheck_L305 at hstepL305
        have hm := hstepL305
        refine c_seq ?_
        refine c_region ?_
        refine t_st rfl (st_lss_t rfl rfl (by omega)) ?_
        refine t_nil ?_
        refine x_then_normal ?_
        refine c_seq ?_
        refine c_cond_t rfl ?_
        refine c_skip ?_
        refine x_then_normal ?_
        refine c_seq ?_
        refine c_block ?_
        refine c_seq ?_
        refine c_region ?_
        rcases Decidable.em ((k320 : Int) = (0 : Int)) with hi324 | hi324
        ·
         rw [if_pos hi324] at hm
         refine t_st rfl (st_aidx1 (cs := [.func (.func 38) #[] #[], .func (.func 39) #[] #[], .func (.func 40) #[] #[]]) 0 rfl rfl hi324 (by decide) rfl arr102 one52) ?_
         refine t_st rfl (st_assign rfl) ?_
         refine t_nil ?_
         refine x_then_normal ?_
         refine c_seq ?_
         refine c_region ?_
         refine t_st rfl (st_move rfl) ?_
         refine t_st rfl (st_loadD (vs := [_, _, _, _, _]) 0 5 rfl agg28 rfl rfl rfl) ?_
         obtain ⟨x325, hcl326, hm⟩ := bindS hm
         refine t_do rfl (u_callvW0 #[] #[] [.agg #[.slice A2 (s1.Stations).length c3, .slice A5 (s1.Sections).length c6, .slice A8 (s1.Links).length c9, .slice A11 (s1.Signals).length c12, .slice A14 (s1.Gates).length c15]] rfl call38 rfl (fun w ho => cLineCheckLinks _ [] s1 A2 c3 A5 c6 A8 c9 A11 c12 A14 c15 ((h4.le (hle186.trans (hle228.trans (hle284.trans hle319)))).old ho) ((h7.le (hle186.trans (hle228.trans (hle284.trans hle319)))).old ho) ((h10.le (hle186.trans (hle228.trans (hle284.trans hle319)))).old ho) ((h13.le (hle186.trans (hle228.trans (hle284.trans hle319)))).old ho) ((h16.le (hle186.trans (hle228.trans (hle284.trans hle319)))).old ho) x325 hcl326) (fun _ _ _ h => h.2.symm)) ?_
         rintro _ _ ⟨⟨_, rfl, _⟩, rfl⟩
         refine t_st rfl (st_assign rfl) ?_
         refine t_nil ?_
         refine x_then_normal ?_
         refine c_seq ?_
         refine c_region ?_
         refine t_st rfl (st_move rfl) ?_
         refine t_st rfl (st_neq rfl rfl) ?_
         refine t_nil ?_
         refine x_then_normal ?_
         refine c_cond _ rfl (fun hc327 => ?_) (fun hc327 => ?_)
         ·
          rw [if_pos (of_decide_eq_true hc327)] at hm
          refine c_seq ?_
          refine c_region ?_
          refine t_st rfl (st_move rfl) ?_
          refine t_st rfl (st_assign rfl) ?_
          refine t_nil ?_
          refine x_then_normal ?_
          refine c_ret ?_
          refine x_block_ret ?_
          refine x_then_ret ?_
          refine x_then_ret ?_
          refine x_block_ret ?_
          refine x_then_ret ?_
          have hq328 := houtL305 _ (Option.some.inj hm).symm
          rw [hq328] at hk323
          have hm := elimR hk323
          obtain rfl := some1 hm
          exact retM (rs := [.tmp 2]) [.int .i64 (x325)] (hle186.trans (hle228.trans (hle284.trans hle319))) (by decide) rfl ⟨rfl, trivial⟩ rfl (hp' := R) (.cons _ (.refl _)) ⟨rfl, rfl⟩
         ·
          rw [if_neg (of_decide_eq_false hc327)] at hm
          refine c_skip ?_
          refine x_block_normal ?_
          refine x_then_normal ?_
          refine c_region ?_
          refine t_st rfl (st_add rfl rfl (by omega)) ?_
          refine t_st rfl (st_move rfl) ?_
          refine t_nil ?_
          exact x_againM () (Option.some.inj hm).symm (e' := [(1, .pointer (some ⟨g179, 0, none⟩)), (81, .agg #[.func (.func 38) #[] #[], .func (.func 39) #[] #[], .func (.func 40) #[] #[]]), (82, .int .i64 ((k320 : Int) + 1))]) (hp' := (g179, Cl 28 [.slice A2 (s1.Stations).length c3, .slice A5 (s1.Sections).length c6, .slice A8 (s1.Links).length c9, .slice A11 (s1.Signals).length c12, .slice A14 (s1.Gates).length c15]) :: R) ⟨rfl, rfl, rfl, trivial⟩ (.cons_cons _ (.refl _)) ⟨rfl, rfl, (hle319)⟩
        ·
         rw [if_neg hi324] at hm
         rcases Decidable.em ((k320 : Int) = (1 : Int)) with hi329 | hi329
         ·
          rw [if_pos hi329] at hm
          refine t_st rfl (st_aidx1 (cs := [.func (.func 38) #[] #[], .func (.func 39) #[] #[], .func (.func 40) #[] #[]]) 1 rfl rfl hi329 (by decide) rfl arr102 one52) ?_
          refine t_st rfl (st_assign rfl) ?_
          refine t_nil ?_
          refine x_then_normal ?_
          refine c_seq ?_
          refine c_region ?_
          refine t_st rfl (st_move rfl) ?_
          refine t_st rfl (st_loadD (vs := [_, _, _, _, _]) 0 5 rfl agg28 rfl rfl rfl) ?_
          obtain ⟨x330, hcl331, hm⟩ := bindS hm
          refine t_do rfl (u_callvW0 #[] #[] [.agg #[.slice A2 (s1.Stations).length c3, .slice A5 (s1.Sections).length c6, .slice A8 (s1.Links).length c9, .slice A11 (s1.Signals).length c12, .slice A14 (s1.Gates).length c15]] rfl call39 rfl (fun w ho => cLineCheckSignals _ [] s1 A2 c3 A5 c6 A8 c9 A11 c12 A14 c15 ((h4.le (hle186.trans (hle228.trans (hle284.trans hle319)))).old ho) ((h7.le (hle186.trans (hle228.trans (hle284.trans hle319)))).old ho) ((h10.le (hle186.trans (hle228.trans (hle284.trans hle319)))).old ho) ((h13.le (hle186.trans (hle228.trans (hle284.trans hle319)))).old ho) ((h16.le (hle186.trans (hle228.trans (hle284.trans hle319)))).old ho) x330 hcl331) (fun _ _ _ h => h.2.symm)) ?_
          rintro _ _ ⟨⟨_, rfl, _⟩, rfl⟩
          refine t_st rfl (st_assign rfl) ?_
          refine t_nil ?_
          refine x_then_normal ?_
          refine c_seq ?_
          refine c_region ?_
          refine t_st rfl (st_move rfl) ?_
          refine t_st rfl (st_neq rfl rfl) ?_
          refine t_nil ?_
          refine x_then_normal ?_
          refine c_cond _ rfl (fun hc332 => ?_) (fun hc332 => ?_)
          ·
           rw [if_pos (of_decide_eq_true hc332)] at hm
           refine c_seq ?_
           refine c_region ?_
           refine t_st rfl (st_move rfl) ?_
           refine t_st rfl (st_assign rfl) ?_
           refine t_nil ?_
           refine x_then_normal ?_
           refine c_ret ?_
           refine x_block_ret ?_
           refine x_then_ret ?_
           refine x_then_ret ?_
           refine x_block_ret ?_
           refine x_then_ret ?_
           have hq333 := houtL305 _ (Option.some.inj hm).symm
           rw [hq333] at hk323
           have hm := elimR hk323
           obtain rfl := some1 hm
           exact retM (rs := [.tmp 2]) [.int .i64 (x330)] (hle186.trans (hle228.trans (hle284.trans hle319))) (by decide) rfl ⟨rfl, trivial⟩ rfl (hp' := R) (.cons _ (.refl _)) ⟨rfl, rfl⟩
          ·
           rw [if_neg (of_decide_eq_false hc332)] at hm
           refine c_skip ?_
           refine x_block_normal ?_
           refine x_then_normal ?_
           refine c_region ?_
           refine t_st rfl (st_add rfl rfl (by omega)) ?_
           refine t_st rfl (st_move rfl) ?_
           refine t_nil ?_
           exact x_againM () (Option.some.inj hm).symm (e' := [(1, .pointer (some ⟨g179, 0, none⟩)), (81, .agg #[.func (.func 38) #[] #[], .func (.func 39) #[] #[], .func (.func 40) #[] #[]]), (82, .int .i64 ((k320 : Int) + 1))]) (hp' := (g179, Cl 28 [.slice A2 (s1.Stations).length c3, .slice A5 (s1.Sections).length c6, .slice A8 (s1.Links).length c9, .slice A11 (s1.Signals).length c12, .slice A14 (s1.Gates).length c15]) :: R) ⟨rfl, rfl, rfl, trivial⟩ (.cons_cons _ (.refl _)) ⟨rfl, rfl, (hle319)⟩
         ·
          rw [if_neg hi329] at hm
          rcases Decidable.em ((k320 : Int) = (2 : Int)) with hi334 | hi334
          ·
           rw [if_pos hi334] at hm
           refine t_st rfl (st_aidx1 (cs := [.func (.func 38) #[] #[], .func (.func 39) #[] #[], .func (.func 40) #[] #[]]) 2 rfl rfl hi334 (by decide) rfl arr102 one52) ?_
           refine t_st rfl (st_assign rfl) ?_
           refine t_nil ?_
           refine x_then_normal ?_
           refine c_seq ?_
           refine c_region ?_
           refine t_st rfl (st_move rfl) ?_
           refine t_st rfl (st_loadD (vs := [_, _, _, _, _]) 0 5 rfl agg28 rfl rfl rfl) ?_
           obtain ⟨x335, hcl336, hm⟩ := bindS hm
           refine t_do rfl (u_callvW0 #[] #[] [.agg #[.slice A2 (s1.Stations).length c3, .slice A5 (s1.Sections).length c6, .slice A8 (s1.Links).length c9, .slice A11 (s1.Signals).length c12, .slice A14 (s1.Gates).length c15]] rfl call40 rfl (fun w ho => cLineCheckGates _ [] s1 A2 c3 A5 c6 A8 c9 A11 c12 A14 c15 ((h4.le (hle186.trans (hle228.trans (hle284.trans hle319)))).old ho) ((h7.le (hle186.trans (hle228.trans (hle284.trans hle319)))).old ho) ((h10.le (hle186.trans (hle228.trans (hle284.trans hle319)))).old ho) ((h13.le (hle186.trans (hle228.trans (hle284.trans hle319)))).old ho) ((h16.le (hle186.trans (hle228.trans (hle284.trans hle319)))).old ho) x335 hcl336) (fun _ _ _ h => h.2.symm)) ?_
           rintro _ _ ⟨⟨_, rfl, _⟩, rfl⟩
           refine t_st rfl (st_assign rfl) ?_
           refine t_nil ?_
           refine x_then_normal ?_
           refine c_seq ?_
           refine c_region ?_
           refine t_st rfl (st_move rfl) ?_
           refine t_st rfl (st_neq rfl rfl) ?_
           refine t_nil ?_
           refine x_then_normal ?_
           refine c_cond _ rfl (fun hc337 => ?_) (fun hc337 => ?_)
           ·
            rw [if_pos (of_decide_eq_true hc337)] at hm
            refine c_seq ?_
            refine c_region ?_
            refine t_st rfl (st_move rfl) ?_
            refine t_st rfl (st_assign rfl) ?_
            refine t_nil ?_
            refine x_then_normal ?_
            refine c_ret ?_
            refine x_block_ret ?_
            refine x_then_ret ?_
            refine x_then_ret ?_
            refine x_block_ret ?_
            refine x_then_ret ?_
            have hq338 := houtL305 _ (Option.some.inj hm).symm
            rw [hq338] at hk323
            have hm := elimR hk323
            obtain rfl := some1 hm
            exact retM (rs := [.tmp 2]) [.int .i64 (x335)] (hle186.trans (hle228.trans (hle284.trans hle319))) (by decide) rfl ⟨rfl, trivial⟩ rfl (hp' := R) (.cons _ (.refl _)) ⟨rfl, rfl⟩
           ·
            rw [if_neg (of_decide_eq_false hc337)] at hm
            refine c_skip ?_
            refine x_block_normal ?_
            refine x_then_normal ?_
            refine c_region ?_
            refine t_st rfl (st_add rfl rfl (by omega)) ?_
            refine t_st rfl (st_move rfl) ?_
            refine t_nil ?_
            exact x_againM () (Option.some.inj hm).symm (e' := [(1, .pointer (some ⟨g179, 0, none⟩)), (81, .agg #[.func (.func 38) #[] #[], .func (.func 39) #[] #[], .func (.func 40) #[] #[]]), (82, .int .i64 ((k320 : Int) + 1))]) (hp' := (g179, Cl 28 [.slice A2 (s1.Stations).length c3, .slice A5 (s1.Sections).length c6, .slice A8 (s1.Links).length c9, .slice A11 (s1.Signals).length c12, .slice A14 (s1.Gates).length c15]) :: R) ⟨rfl, rfl, rfl, trivial⟩ (.cons_cons _ (.refl _)) ⟨rfl, rfl, (hle319)⟩
          ·
           rw [if_neg hi334] at hm
           cases hm
       ·
        rintro _ b318 _ _ ⟨rfl, rfl, hle319⟩ hq339
        rw [hq339] at hk323
        have hm := elimL hk323
        refine c_seq ?_
        refine c_region ?_
        refine t_st rfl (st_lss_f rfl rfl (by omega)) ?_
        refine t_nil ?_
        refine x_then_normal ?_
        refine c_seq ?_
        refine c_cond_f rfl ?_
        refine c_exit ?_
        refine x_then_exit ?_
        refine x_then_exit ?_
        refine x_block_out ?_
        refine x_then_normal ?_
        refine c_seq ?_
        refine c_region ?_
        refine t_st rfl (st_assign rfl) ?_
        refine t_nil ?_
        refine x_then_normal ?_
        refine c_ret ?_
        obtain rfl := some1 hm
        exact retM (rs := [.tmp 2]) [.int .i64 (0)] (hle186.trans (hle228.trans (hle284.trans hle319))) (by decide) rfl ⟨rfl, trivial⟩ rfl (hp' := R) (.cons _ (.refl _)) ⟨rfl, rfl⟩

set_option maxRecDepth 20000 in
theorem cLineRead (b : Base) (R : Hp) (x1 : ByteArray) (l68 : (List ByteArray)) (l73 : (List ApiSection)) (l78 : (List ApiLink)) (l83 : (List ApiSignal)) (l88 : (List ApiGate)) (x90 : Int) (hm : mLineRead x1 = some (l68, l73, l78, l83, l88, x90)) :
    CallsG Tryd.prog 16 [.string (x1)] b (R) (fun v b' hp' => ∃ (A65 : Option Addr), ∃ (c66 : Nat), ∃ (A70 : Option Addr), ∃ (c71 : Nat), ∃ (A75 : Option Addr), ∃ (c76 : Nat), ∃ (A80 : Option Addr), ∃ (c81 : Nat), ∃ (A85 : Option Addr), ∃ (c86 : Nat), .tuple #[.agg #[.slice A65 (l68).length c66, .slice A70 (l73).length c71, .slice A75 (l78).length c76, .slice A80 (l83).length c81, .slice A85 (l88).length c86], .int .i64 (x90)] = v ∧ R = hp' ∧ FZ RT.str b'.w A65 c66 l68 ∧ (A65 = none ↔ l68 = []) ∧ FZ rApiSection b'.w A70 c71 l73 ∧ (A70 = none ↔ l73 = []) ∧ FZ rApiLink b'.w A75 c76 l78 ∧ (A75 = none ↔ l78 = []) ∧ FZ rApiSignal b'.w A80 c81 l83 ∧ (A80 = none ↔ l83 = []) ∧ FZ rApiGate b'.w A85 c86 l88 ∧ (A85 = none ↔ l88 = [])) := by
  refine fn_enterG 45 Tryd.func16 rfl Tryd.ntmps16 rfl ?_
  unfold mLineRead at hm
  refine c_seq ?_
  refine c_region ?_
  refine t_do rfl (u_alloc [.slice none 0 0, .slice none 0 0, .slice none 0 0, .slice none 0 0, .slice none 0 0] zero28 rfl) ?_
  rintro _ _ ⟨g91, rfl, rfl⟩
  refine t_st rfl (st_assign rfl) ?_
  refine t_nil ?_
  refine x_then_normal ?_
  refine c_seq ?_
  refine c_seq ?_
  refine c_region ?_
  refine t_st rfl (st_move rfl) ?_
  refine t_st rfl (st_slen rfl str9) ?_
  refine t_st rfl (st_gtr rfl rfl) ?_
  refine t_nil ?_
  refine x_then_normal ?_
  refine c_cond _ rfl (fun hc92 => ?_) (fun hc92 => ?_)
  ·
   rw [if_pos (of_decide_eq_true hc92)] at hm
   refine c_seq ?_
   refine c_region ?_
   refine t_st rfl (st_build (v := .agg #[.slice none 0 0, .slice none 0 0, .slice none 0 0, .slice none 0 0, .slice none 0 0]) [] rfl (fun _ => by kernel_rfl)) ?_
   refine t_do rfl (u_storeN (vs := [_, _, _, _, _]) 0 5 rfl rfl rfl siz28 rfl (by intro u hu; simp only [List.mem_cons, List.not_mem_nil, or_false] at hu; rcases hu with rfl | rfl | rfl | rfl | rfl <;> rfl) rfl (by simp)) ?_
   rintro _ _ rfl
   refine t_st rfl (st_assign rfl) ?_
   refine t_nil ?_
   refine x_then_normal ?_
   refine c_ret ?_
   refine x_then_ret ?_
   obtain ⟨rfl, rfl, rfl, rfl, rfl, rfl⟩ := some6 hm
   exact retM (rs := [.cell 2 28, .tmp 3]) [.agg #[.slice none 0 0, .slice none 0 0, .slice none 0 0, .slice none 0 0, .slice none 0 0], .int .i64 (4)] (Base.Le.refl _) (by decide) rfl ⟨⟨_, rfl, fun w ho => cell_agg (vs := [_, _, _, _, _]) 0 5 agg28 rfl rfl rfl w ho⟩, ⟨rfl, trivial⟩⟩ rfl (hp' := R) (.cons _ (.refl _)) ⟨none, 0, none, 0, none, 0, none, 0, none, 0, rfl, rfl, FZ.nil, ⟨fun _ => rfl, fun _ => rfl⟩, FZ.nil, ⟨fun _ => rfl, fun _ => rfl⟩, FZ.nil, ⟨fun _ => rfl, fun _ => rfl⟩, FZ.nil, ⟨fun _ => rfl, fun _ => rfl⟩, FZ.nil, ⟨fun _ => rfl, fun _ => rfl⟩⟩
  ·
   rw [if_neg (of_decide_eq_false hc92)] at hm
   refine c_skip ?_
   refine x_then_normal ?_
   refine c_seq ?_
   refine c_region ?_
   refine t_st rfl (st_move rfl) ?_
   obtain ⟨⟨x93, l94⟩, hcl95, hm⟩ := bindS hm
   have hm := (unc2E hm)
   refine t_callG _ rfl call41 rfl (cLineLines _ _ x1 x93 l94 hcl95) ?_
   rintro _ b96 _ hle97 ⟨A98, c99, hs100, rfl, rfl, h101⟩
   refine t_in1 [] [_] hs100 R rfl ?_
   refine t_st rfl (st_move rfl) ?_
   refine t_st rfl (st_extract rfl rfl) ?_
   refine t_st rfl (st_extract rfl rfl) ?_
   refine t_st rfl (st_assign rfl) ?_
   refine t_st rfl (st_assign rfl) ?_
   refine t_nil ?_
   refine x_then_normal ?_
   refine c_seq ?_
   refine c_seq ?_
   refine c_region ?_
   refine t_st rfl (st_move rfl) ?_
   refine t_st rfl (st_not rfl) ?_
   refine t_nil ?_
   refine x_then_normal ?_
   refine c_cond _ rfl (fun hc102 => ?_) (fun hc102 => ?_)
   ·
    rw [if_neg (fun hh => Bool.noConfusion (hh.symm.trans (notT hc102)))] at hm
    refine c_seq ?_
    refine c_region ?_
    refine t_st rfl (st_build (v := .agg #[.slice none 0 0, .slice none 0 0, .slice none 0 0, .slice none 0 0, .slice none 0 0]) [] rfl (fun _ => by kernel_rfl)) ?_
    refine t_do rfl (u_storeN (vs := [_, _, _, _, _]) 0 5 rfl rfl rfl siz28 rfl (by intro u hu; simp only [List.mem_cons, List.not_mem_nil, or_false] at hu; rcases hu with rfl | rfl | rfl | rfl | rfl <;> rfl) rfl (by simp)) ?_
    rintro _ _ rfl
    refine t_st rfl (st_assign rfl) ?_
    refine t_nil ?_
    refine x_then_normal ?_
    refine c_ret ?_
    refine x_then_ret ?_
    obtain ⟨rfl, rfl, rfl, rfl, rfl, rfl⟩ := some6 hm
    exact retM (rs := [.cell 2 28, .tmp 3]) [.agg #[.slice none 0 0, .slice none 0 0, .slice none 0 0, .slice none 0 0, .slice none 0 0], .int .i64 (10)] hle97 (by decide) rfl ⟨⟨_, rfl, fun w ho => cell_agg (vs := [_, _, _, _, _]) 0 5 agg28 rfl rfl rfl w ho⟩, ⟨rfl, trivial⟩⟩ rfl (hp' := R) (.cons _ (sub_skip hs100 (.refl _))) ⟨none, 0, none, 0, none, 0, none, 0, none, 0, rfl, rfl, FZ.nil, ⟨fun _ => rfl, fun _ => rfl⟩, FZ.nil, ⟨fun _ => rfl, fun _ => rfl⟩, FZ.nil, ⟨fun _ => rfl, fun _ => rfl⟩, FZ.nil, ⟨fun _ => rfl, fun _ => rfl⟩, FZ.nil, ⟨fun _ => rfl, fun _ => rfl⟩⟩
   ·
    rw [if_pos (notF hc102)] at hm
    refine c_skip ?_
    refine x_then_normal ?_
    refine c_seq ?_
    refine c_region ?_
    refine t_do rfl (u_alloc [.slice none 0 0, .slice none 0 0, .slice none 0 0, .slice none 0 0, .slice none 0 0] zero28 rfl) ?_
    rintro _ _ ⟨g103, rfl, rfl⟩
    refine t_nil ?_
    refine x_then_normal ?_
    refine c_seq ?_
    refine c_region ?_
    refine t_st rfl (st_assign rfl) ?_
    refine t_nil ?_
    refine x_then_normal ?_
    refine c_seq ?_
    refine c_seq ?_
    refine c_region ?_
    refine t_st rfl (st_move rfl) ?_
    refine t_st rfl (st_len rfl sl103) ?_
    refine t_st rfl (st_move rfl) ?_
    refine t_nil ?_
    refine x_then_normal ?_
    refine c_block ?_
    have hb105 : l94.length ≤ 9223372036854775807 := (OS.len h101)
    refine c_pullb 1 rfl ?_
    obtain ⟨t128, hl129, hk130⟩ := bindS hm
    refine c_forM (fun k127 => fun _ => fun b125 e' hp' => [(2, .pointer (some ⟨g91, 0, none⟩)), (6, .pointer (some ⟨g103, 0, none⟩)), (7, .int .i64 (0)), (24, .slice A98 (l94).length c99), (25, .int .i64 ((l94.length : Int))), (26, .int .i64 ((k127 : Int)))] = e' ∧ (g91, Cl 28 [.slice none 0 0, .slice none 0 0, .slice none 0 0, .slice none 0 0, .slice none 0 0]) :: (g103, Cl 28 [.slice none 0 0, .slice none 0 0, .slice none 0 0, .slice none 0 0, .slice none 0 0]) :: (hs100 ++ R) = hp' ∧ b96.Le b125) hl129 (e' := [(2, .pointer (some ⟨g91, 0, none⟩)), (6, .pointer (some ⟨g103, 0, none⟩)), (7, .int .i64 (0)), (24, .slice A98 (l94).length c99), (25, .int .i64 ((l94.length : Int))), (26, .int .i64 0)]) (hp' := (g91, Cl 28 [.slice none 0 0, .slice none 0 0, .slice none 0 0, .slice none 0 0, .slice none 0 0]) :: (g103, Cl 28 [.slice none 0 0, .slice none 0 0, .slice none 0 0, .slice none 0 0, .slice none 0 0]) :: (hs100 ++ R)) ⟨rfl, rfl, rfl, rfl, rfl, rfl, trivial⟩ (.cons_cons _ (.cons_cons _ (sub_app hs100 (.refl _)))) ⟨rfl, rfl, (Base.Le.refl _)⟩ ?_ ?_
    ·
     rintro k127 _ b125 _ _ oL104 hknL104 ⟨rfl, rfl, hle126⟩ hstepL104 houtL104
     unfold mLineRead_L104 at hstepL104
     have hm := hstepL104
     refine c_seq ?_
     refine c_region ?_
     refine t_st rfl (st_lss_t rfl rfl (by omega)) ?_
     refine t_nil ?_
     refine x_then_normal ?_
     refine c_seq ?_
     refine c_cond_t rfl ?_
     refine c_skip ?_
     refine x_then_normal ?_
     refine c_seq ?_
     refine c_block ?_
     refine c_seq ?_
     refine c_region ?_
     obtain ⟨x131, h132, hm⟩ := bindS hm
     obtain ⟨j133, hj134, hx135⟩ := idx_some h132
     obtain ⟨cs136, hs141, P142, P143, hq144, hr137, hcs138, hA139, hlt140, hb145, hho146⟩ := OS.get (sz := 1) rfl (by decide) (h101.le hle126) hx135
     obtain ⟨⟨A147, c148, rfl, h149⟩, rfl⟩ := hr137
     refine t_st rfl (st_index_old j133 rfl rfl hj134 hlt140 hA139 sl103) ?_
     refine t_st rfl (st_load_rd rfl one22 (fun w ho => hcs138 w _ ho (.cons _ (.cons _ (List.sublist_append_left _ _))) 0 _ rfl)) ?_
     refine t_st rfl (st_assign rfl) ?_
     refine t_nil ?_
     refine x_then_normal ?_
     refine c_seq ?_
     refine c_region ?_
     refine t_st rfl (st_move rfl) ?_
     cases hm
    ·
     rintro _ b125 _ _ ⟨rfl, rfl, hle126⟩ hq150
     rw [hq150] at hk130
     have hm := elimL hk130
     refine c_seq ?_
     refine c_region ?_
     refine t_st rfl (st_lss_f rfl rfl (by omega)) ?_
     refine t_nil ?_
     refine x_then_normal ?_
     refine c_seq ?_
     refine c_cond_f rfl ?_
     refine c_exit ?_
     refine x_then_exit ?_
     refine x_then_exit ?_
     refine x_block_out ?_
     refine x_then_normal ?_
     refine c_seq ?_
     refine c_seq ?_
     refine c_region ?_
     refine t_st rfl (st_loadD (vs := [_, _, _, _, _]) 1 5 rfl agg28 rfl rfl rfl) ?_
     obtain ⟨x151, hcl152, hm⟩ := bindS hm
     refine t_do rfl (u_callW0 _ call15 rfl (fun w ho => cLineCheck _ [] (⟨[], [], [], [], []⟩ : ApiNet) none 0 none 0 none 0 none 0 none 0 FZ.nil FZ.nil FZ.nil FZ.nil FZ.nil x151 hcl152) (fun _ _ _ h => h.2.symm)) ?_
     rintro _ _ ⟨⟨_, rfl, _⟩, rfl⟩
     refine t_st rfl (st_assign rfl) ?_
     refine t_nil ?_
     refine x_then_normal ?_
     refine c_seq ?_
     refine c_region ?_
     refine t_st rfl (st_move rfl) ?_
     refine t_st rfl (st_neq rfl rfl) ?_
     refine t_nil ?_
     refine x_then_normal ?_
     refine c_cond _ rfl (fun hc153 => ?_) (fun hc153 => ?_)
     ·
      rw [if_pos (of_decide_eq_true hc153)] at hm
      refine c_seq ?_
      refine c_region ?_
      refine t_st rfl (st_build (v := .agg #[.slice none 0 0, .slice none 0 0, .slice none 0 0, .slice none 0 0, .slice none 0 0]) [] rfl (fun _ => by kernel_rfl)) ?_
      refine t_st rfl (st_move rfl) ?_
      refine t_do rfl (u_storeN (vs := [_, _, _, _, _]) 0 5 rfl rfl rfl siz28 rfl (by intro u hu; simp only [List.mem_cons, List.not_mem_nil, or_false] at hu; rcases hu with rfl | rfl | rfl | rfl | rfl <;> rfl) rfl (by simp)) ?_
      rintro _ _ rfl
      refine t_st rfl (st_assign rfl) ?_
      refine t_nil ?_
      refine x_then_normal ?_
      refine c_ret ?_
      refine x_then_ret ?_
      obtain ⟨rfl, rfl, rfl, rfl, rfl, rfl⟩ := some6 hm
      exact retM (rs := [.cell 2 28, .tmp 3]) [.agg #[.slice none 0 0, .slice none 0 0, .slice none 0 0, .slice none 0 0, .slice none 0 0], .int .i64 (x151)] (hle97.trans hle126) (by decide) rfl ⟨⟨_, rfl, fun w ho => cell_agg (vs := [_, _, _, _, _]) 0 5 agg28 rfl rfl rfl w ho⟩, ⟨rfl, trivial⟩⟩ rfl (hp' := R) (.cons _ (.cons _ (sub_skip hs100 (.refl _)))) ⟨none, 0, none, 0, none, 0, none, 0, none, 0, rfl, rfl, FZ.nil, ⟨fun _ => rfl, fun _ => rfl⟩, FZ.nil, ⟨fun _ => rfl, fun _ => rfl⟩, FZ.nil, ⟨fun _ => rfl, fun _ => rfl⟩, FZ.nil, ⟨fun _ => rfl, fun _ => rfl⟩, FZ.nil, ⟨fun _ => rfl, fun _ => rfl⟩⟩
     ·
      rw [if_neg (of_decide_eq_false hc153)] at hm
      refine c_skip ?_
      refine x_then_normal ?_
      refine c_seq ?_
      refine c_region ?_
      refine t_st rfl (st_loadD (vs := [_, _, _, _, _]) 1 5 rfl agg28 rfl rfl rfl) ?_
      refine t_do rfl (u_storeN (vs := [_, _, _, _, _]) 0 5 rfl rfl rfl siz28 rfl (by intro u hu; simp only [List.mem_cons, List.not_mem_nil, or_false] at hu; rcases hu with rfl | rfl | rfl | rfl | rfl <;> rfl) rfl (by simp)) ?_
      rintro _ _ rfl
      refine t_st rfl (st_assign rfl) ?_
      refine t_nil ?_
      refine x_then_normal ?_
      refine c_ret ?_
      obtain ⟨rfl, rfl, rfl, rfl, rfl, rfl⟩ := some6 hm
      exact retM (rs := [.cell 2 28, .tmp 3]) [.agg #[.slice none 0 0, .slice none 0 0, .slice none 0 0, .slice none 0 0, .slice none 0 0], .int .i64 (0)] (hle97.trans hle126) (by decide) rfl ⟨⟨_, rfl, fun w ho => cell_agg (vs := [_, _, _, _, _]) 0 5 agg28 rfl rfl rfl w ho⟩, ⟨rfl, trivial⟩⟩ rfl (hp' := R) (.cons _ (.cons _ (sub_skip hs100 (.refl _)))) ⟨none, 0, none, 0, none, 0, none, 0, none, 0, rfl, rfl, FZ.nil, ⟨fun _ => rfl, fun _ => rfl⟩, FZ.nil, ⟨fun _ => rfl, fun _ => rfl⟩, FZ.nil, ⟨fun _ => rfl, fun _ => rfl⟩, FZ.nil, ⟨fun _ => rfl, fun _ => rfl⟩, FZ.nil, ⟨fun _ => rfl, fun _ => rfl⟩⟩

set_option maxRecDepth 20000 in
theorem cFishkeep1AwakeLine (b : Base) (R : Hp) (x31 : Bool) (hm : mFishkeep1AwakeLine = some x31) :
    CallsG Tryd.prog 7 [] b (R) (fun v b' hp' => .bool (x31) = v ∧ R = hp') := by
  refine fn_enterG 9 Tryd.func7 rfl Tryd.ntmps7 rfl ?_
  unfold mFishkeep1AwakeLine at hm
  refine c_seq ?_
  refine c_region ?_
  refine t_st rfl (st_assign rfl) ?_
  refine t_nil ?_
  refine x_then_normal ?_
  refine c_seq ?_
  refine c_region ?_
  obtain ⟨⟨l32, l33, l34, l35, l36, x37⟩, hcl38, hm⟩ := bindS hm
  have hm := (unc6E hm)
  refine t_callG _ rfl call16 rfl (cLineRead _ _ (ByteArray.mk #[120]) l32 l33 l34 l35 l36 x37 hcl38) ?_
  rintro _ b39 _ hle40 ⟨A41, c42, A43, c44, A45, c46, A47, c48, A49, c50, rfl, rfl, h51, h52, h53, h54, h55, h56, h57, h58, h59, h60⟩
  refine t_st rfl (st_move rfl) ?_
  refine t_st rfl (st_extract rfl rfl) ?_
  refine t_st rfl (st_extract rfl rfl) ?_
  refine t_do rfl (u_alloc [.slice none 0 0, .slice none 0 0, .slice none 0 0, .slice none 0 0, .slice none 0 0] zero28 rfl) ?_
  rintro _ _ ⟨g61, rfl, rfl⟩
  refine t_do rfl (u_storeN (vs := [_, _, _, _, _]) 0 5 rfl rfl rfl siz28 rfl (by intro u hu; simp only [List.mem_cons, List.not_mem_nil, or_false] at hu; rcases hu with rfl | rfl | rfl | rfl | rfl <;> rfl) rfl (by simp)) ?_
  rintro _ _ rfl
  refine t_st rfl (st_assign rfl) ?_
  refine t_nil ?_
  refine x_then_normal ?_
  refine c_seq ?_
  refine c_region ?_
  refine t_st rfl (st_move rfl) ?_
  refine t_st rfl (st_neq rfl rfl) ?_
  refine t_st rfl (st_assign rfl) ?_
  refine t_nil ?_
  refine x_then_normal ?_
  refine c_ret ?_
  obtain rfl := some1 hm
  exact retM (rs := [.tmp 0]) [.bool (decide (x37 ≠ 0))] hle40 (by decide) rfl ⟨rfl, trivial⟩ rfl (hp' := R) (.cons _ (.refl _)) ⟨rfl, rfl⟩

end Go.Proofs.YtcibjjhanafojaaDoor
