/- Contracts: the code computes its model (part 3). -/
import Derived.Test.YtcibjjhanafojaaGreatDoorSP2
set_option linter.unusedVariables false
set_option linter.unusedSimpArgs false
namespace Go.Proofs.YtcibjjhanafojaaGreatDoor
open Go.RowKit Go.Fp

set_option maxRecDepth 20000 in
theorem cLineFinderGrow_2 : ∀ (N : Nat) (b : Base) (R : Hp) (x12 : Int) (s13 : LineEnd) (l17 : (List ByteArray)) (l21 : (List ApiSection)) (l25 : (List ApiLink)) (l29 : (List ApiSignal)) (l33 : (List ApiGate)) (x34 : Int) (x35 : Bool) (l36 : (List ApiStep)) (l38 : (List ApiRoute)) (g11 : Nat) (A14 : Option Addr) (c15 : Nat) (A18 : Option Addr) (c19 : Nat) (A22 : Option Addr) (c23 : Nat) (A26 : Option Addr) (c27 : Nat) (A30 : Option Addr) (c31 : Nat) (A3 : Option Addr) (c4 : Nat) (hs2 : Hp) (A8 : Option Addr) (c9 : Nat) (hs7 : Hp) (h16 : FZ RT.str b.w A14 c15 l17) (h20 : FZ rApiSection b.w A18 c19 l21) (h24 : FZ rApiLink b.w A22 c23 l25) (h28 : FZ rApiSignal b.w A26 c27 l29) (h32 : FZ rApiGate b.w A30 c31 l33) (h5 : OS 56 (OT.fr rApiStep) b.w (.slice A3 l36.length c4) l36 hs2) (hnz37 : (A3 = none ↔ l36 = [])) (h10 : OS 54 (OT.fr rApiRoute) b.w (.slice A8 l38.length c9) l38 hs7) (hnz39 : (A8 = none ↔ l38 = [])) (x1353 : Int) (x1354 : Bool) (l1355 : (List ApiRoute)) (hm : mLineFinderGrow_2 N x12 s13 l17 l21 l25 l29 l33 x34 x35 l36 l38 = some (x1353, x1354, l1355)),
    CallsG Tryz.prog 47 [.pointer (some ⟨g11, 0, none⟩), .int .i64 (x12), .slice A3 (l36).length c4, .agg #[.int .i64 (s13.section_), .int .i64 (s13.end_)]] b ((g11, Cl 106 [.slice A14 (l17).length c15, .slice A18 (l21).length c19, .slice A22 (l25).length c23, .slice A26 (l29).length c27, .slice A30 (l33).length c31, .slice A8 (l38).length c9, .int .i64 (x34), .bool (x35)]) :: (hs2 ++ (hs7 ++ R))) (fun v b' hp' => ∃ (A1350 : Option Addr), ∃ (c1351 : Nat), ∃ (hs1349 : Hp), .tuple #[] = v ∧ (g11, Cl 106 [.slice A14 (l17).length c15, .slice A18 (l21).length c19, .slice A22 (l25).length c23, .slice A26 (l29).length c27, .slice A30 (l33).length c31, .slice A1350 (l1355).length c1351, .int .i64 (x1353), .bool (x1354)]) :: (hs2 ++ (hs1349 ++ R)) = hp' ∧ OS 54 (OT.fr rApiRoute) b'.w (.slice A1350 l1355.length c1351) l1355 hs1349 ∧ (A1350 = none ↔ l1355 = [])) := by
  intro N
  induction N with
  | zero =>
    intro b R x12 s13 l17 l21 l25 l29 l33 x34 x35 l36 l38 g11 A14 c15 A18 c19 A22 c23 A26 c27 A30 c31 A3 c4 hs2 A8 c9 hs7 h16 h20 h24 h28 h32 h5 hnz37 h10 hnz39 x1353 x1354 l1355 hm
    unfold mLineFinderGrow_2 at hm
    cases hm
  | succ N ih =>
    intro b R x12 s13 l17 l21 l25 l29 l33 x34 x35 l36 l38 g11 A14 c15 A18 c19 A22 c23 A26 c27 A30 c31 A3 c4 hs2 A8 c9 hs7 h16 h20 h24 h28 h32 h5 hnz37 h10 hnz39 x1353 x1354 l1355 hm
    refine fn_enterG 103 Tryz.func47 rfl Tryz.ntmps47 rfl ?_
    unfold mLineFinderGrow_2 at hm
    refine c_sr ?_
    refine t_do rfl (u_box _ rfl rfl) ?_
    rintro _ _ ⟨g1357, rfl, rfl⟩
    refine t_do rfl (u_box _ rfl rfl) ?_
    rintro _ _ ⟨g1358, rfl, rfl⟩
    refine t_do rfl (u_box _ rfl rfl) ?_
    rintro _ _ ⟨g1359, rfl, rfl⟩
    refine t_do rfl (u_box _ rfl rfl) ?_
    rintro _ _ ⟨g1360, rfl, rfl⟩
    refine t_ne ?_
    obtain ⟨x1386, hj1387, hk1387⟩ := bindS hm
    refine c_join (fun b1383 e' hp' => ∃ (g1385 : Nat), [(4, .pointer (some ⟨g1357, 0, none⟩)), (5, .pointer (some ⟨g1358, 0, none⟩)), (6, .pointer (some ⟨g1359, 0, none⟩)), (7, .pointer (some ⟨g1360, 0, none⟩)), (8, .pointer (some ⟨g1385, 0, none⟩))] = e' ∧ (g1357, Cl 104 [.pointer (some ⟨g11, 0, none⟩)]) :: (g1358, Cl 3 [.int .i64 (x12)]) :: (g1359, Cl 52 [.slice A3 (l36).length c4]) :: (g1360, Cl 109 [.int .i64 (s13.section_), .int .i64 (s13.end_)]) :: (g1385, Cl 3 [.int .i64 (x1386)]) :: (g11, Cl 106 [.slice A14 (l17).length c15, .slice A18 (l21).length c19, .slice A22 (l25).length c23, .slice A26 (l29).length c27, .slice A30 (l33).length c31, .slice A8 (l38).length c9, .int .i64 (x34), .bool (x35)]) :: (hs2 ++ (hs7 ++ R)) = hp' ∧ b.Le b1383) ?_ ?_
    ·
     have hm := hj1387
     obtain ⟨x1399, h1400, hm⟩ := bindS hm
     refine D_drawI mixed (.refl _) ?_
     refine E_st 0 rfl (st_load 3 rfl one104 rfl rfl) ?_
     refine E_st 1 rfl (st_nil rfl) ?_
     refine E_st 2 rfl (st_field rfl fld106_0) ?_
     refine E_st 3 rfl (st_field rfl fld28_3) ?_
     refine E_st 4 rfl (st_load 4 rfl one25 rfl rfl) ?_
     refine E_st 5 rfl (st_load 2 rfl one3 rfl rfl) ?_
     obtain ⟨j1401, hj1402, hx1403⟩ := idx_some h1400
     obtain ⟨cs1404, hr1405, hcs1406, hA1407, hlt1408⟩ := FZ.get (sz := 2) rfl (by decide) h28 hx1403
     obtain ⟨_, _, rfl, rfl, rfl⟩ := hr1405
     refine E_st 6 rfl (st_index_old j1401 rfl rfl hj1402 hlt1408 hA1407 sl25) ?_
     refine E_st 7 rfl (st_field_old rfl hA1407 fld96_0) ?_
     refine E_st 8 rfl (st_load_old rfl one3 (hcs1406 0 _ rfl)) ?_
     refine E_out ?_
     refine D_all [9] (by kernel_rfl) rfl ?_
     refine R_do (Base.Le.refl _) rfl rfl (u_alloc [.int .i64 0] zero3 rfl) ?_ ?_
     ·
      rintro _ _ ⟨g1409, rfl, rfl⟩
      refine ⟨.inr (.cons _ (.refl _)), ?_⟩
      refine D_all [10] (by kernel_rfl) rfl ?_
      refine R_do (Base.Le.refl _) rfl rfl (u_store 0 rfl rfl siz3 rfl rfl (by simp)) ?_ ?_
      ·
       rintro _ _ rfl
       refine ⟨.inl (by kernel_rfl), ?_⟩
       refine D_done (by kernel_rfl) ?_
       obtain rfl := some1 hm
       refine x_pullb 5 rfl ?_
       refine x_pullb 1 rfl ?_
       refine x_pullb 2 rfl ?_
       refine x_pullb 3 rfl ?_
       refine x_pullb 4 rfl ?_
       refine x_pullb 5 rfl ?_
       refine x_front2 [_, _, _, _, _, _] hs2 hs7 R rfl ?_
       refine x_front2 [_, _, _, _, _, _] hs7 hs2 R rfl ?_
       exact x_join (e' := [(4, .pointer (some ⟨g1357, 0, none⟩)), (5, .pointer (some ⟨g1358, 0, none⟩)), (6, .pointer (some ⟨g1359, 0, none⟩)), (7, .pointer (some ⟨g1360, 0, none⟩)), (8, .pointer (some ⟨g1409, 0, none⟩))]) ⟨rfl, rfl, rfl, rfl, rfl, trivial⟩ (.refl _) ⟨g1409, rfl, rfl, (Base.Le.refl _)⟩
      exact R_nil
     exact R_nil
    ·
     rintro b1383 _ _ ⟨g1385, rfl, rfl, hle1384⟩
     have hm := hk1387
     refine c_seq ?_
     obtain ⟨l1416, hcl1417, hm⟩ := bindS hm
     refine D_drawI mixed (.refl _) ?_
     refine E_st 0 rfl (st_load 0 rfl one104 rfl rfl) ?_
     refine E_st 1 rfl (st_nil rfl) ?_
     refine E_st 2 rfl (st_field rfl fld106_0) ?_
     refine E_st 3 rfl (st_loadD (vs := [_, _, _, _, _]) 5 5 rfl agg28 rfl rfl rfl) ?_
     refine E_st 4 rfl (st_loadD (vs := [_, _]) 3 2 rfl agg109 rfl rfl rfl) ?_
     refine E_out ?_
     refine D_all [5] (by kernel_rfl) rfl ?_
     refine R_callGl (Base.Le.refl _) rfl rfl _ call56 rfl (cLineWalk _ _ (⟨l17, l21, l25, l29, l33⟩ : ApiNet) s13 A14 c15 A18 c19 A22 c23 A26 c27 A30 c31 (h16.le hle1384) (h20.le hle1384) (h24.le hle1384) (h28.le hle1384) (h32.le hle1384) l1416 hcl1417) ?_ ?_
     ·
      rintro _ b1418 _ hle1419 ⟨v1420, rfl, rfl, h1421⟩
      refine ⟨.inr (.refl _), ?_⟩
      refine D_done (by kernel_rfl) ?_
      refine x_then_normal ?_
      refine c_block ?_
      obtain ⟨t1821, hl1822, hk1823⟩ := bindS hm
      refine c_pullb 5 rfl ?_
      refine c_pullb 5 rfl ?_
      refine c_pullb 4 rfl ?_
      refine c_pullb 4 rfl ?_
      refine c_pullb 4 rfl ?_
      refine c_front2 [_, _, _, _, _, _] hs2 hs7 R rfl ?_
      refine c_front2 [_, _, _, _, _, _] hs7 hs2 R rfl ?_
      have he1824 := (h10.le (hle1384.trans hle1419))
      refine c_rangeM (fun x : ApiStep => (.agg #[.int .i64 x.Section, .int .i64 x.In, .int .i64 x.Out] : Value)) (unc3 fun x1817 x1818 l1819 => fun b1810 hp' => ∃ (A1814 : Option Addr), ∃ (c1815 : Nat), ∃ (hs1813 : Hp), (g1357, Cl 104 [.pointer (some ⟨g11, 0, none⟩)]) :: (g1358, Cl 3 [.int .i64 (x12)]) :: (g1359, Cl 52 [.slice A3 (l36).length c4]) :: (g1385, Cl 3 [.int .i64 (x1386)]) :: (g11, Cl 106 [.slice A14 (l17).length c15, .slice A18 (l21).length c19, .slice A22 (l25).length c23, .slice A26 (l29).length c27, .slice A30 (l33).length c31, .slice A1814 (l1819).length c1815, .int .i64 (x1817), .bool (x1818)]) :: (hs2 ++ (hs1813 ++ R)) = hp' ∧ b1418.Le b1810 ∧ OS 54 (OT.fr rApiRoute) b1810.w (.slice A1814 l1819.length c1815) l1819 hs1813 ∧ (A1814 = none ↔ l1819 = [])) rfl h1421 hl1822 (e' := [(4, .pointer (some ⟨g1357, 0, none⟩)), (5, .pointer (some ⟨g1358, 0, none⟩)), (6, .pointer (some ⟨g1359, 0, none⟩)), (8, .pointer (some ⟨g1385, 0, none⟩))]) ⟨rfl, rfl, rfl, rfl, trivial⟩ (.cons_cons _ (.cons_cons _ (.cons_cons _ (.cons_cons _ (.cons_cons _ (.cons _ (.refl _))))))) rfl (fun dk hdk => ⟨A8, c9, hs7, rfl, Base.Le.dks hdk, he1824, hnz39⟩) ?_ ?_ (fun x hx => (hle1384.trans hle1419).dk x hx)
      ·
       rintro r1825 l1826 x1827 ⟨x1817, x1818, l1819⟩ b1810 b1828 _ oL1422 ⟨A1814, c1815, hs1813, rfl, hle1811, h1816, hnz1820⟩ hle1829 hstepL1422 houtL1422
       unfold mLineFinderGrow_2_L1422 at hstepL1422
       have hm := (unc3E hstepL1422)
       refine c_region ?_
       refine t_do rfl (u_alloc [.int .i64 0, .int .i64 0, .int .i64 0] zero56 rfl) ?_
       rintro _ _ ⟨g1830, rfl, rfl⟩
       refine t_do rfl (u_storeN (vs := [_, _, _]) 0 3 rfl rfl rfl siz56 rfl (mem_c rfl (mem_c rfl (mem_c rfl mem_n))) rfl (by simp)) ?_
       rintro _ _ rfl
       refine t_nil ?_
       refine x_begin 1 rfl ?_
       refine c_block ?_
       refine c_seq ?_
       refine c_sr ?_
       refine t_st rfl (st_load 2 rfl one104 rfl rfl) ?_
       refine t_st rfl (st_nil rfl) ?_
       refine t_st rfl (st_field rfl fld106_3) ?_
       refine t_st rfl (st_load 6 rfl one4 rfl rfl) ?_
       refine t_ne ?_
       refine c_cond _ rfl (fun hc1831 => ?_) (fun hc1831 => ?_)
       ·
        rw [if_pos hc1831] at hm
        refine c_ret ?_
        refine x_then_ret ?_
        refine x_block_ret ?_
        refine x_leaveR 0 rfl (Base.Le.refl _) ?_
        refine c_ret ?_
        refine x_block_ret ?_
        have hq1832 := houtL1422 _ (Option.some.inj hm).symm
        rw [hq1832] at hk1823
        have hm := elimR hk1823
        obtain ⟨rfl, rfl, rfl⟩ := some3 hm
        refine x_pullb 5 rfl ?_
        refine x_front2 [_, _, _, _, _, _] hs2 hs1813 R rfl ?_
        refine x_front2 [_, _, _, _, _, _] hs1813 hs2 R rfl ?_
        have he1833 := (h1816.le hle1829)
        exact retM (rs := []) [] (hle1384.trans (hle1419.trans (hle1811.trans hle1829))) (by decide) rfl trivial rfl (.cons_cons _ (.cons _ (.cons _ (.cons _ (.cons _ (.cons _ (.refl _))))))) ⟨A1814, c1815, hs1813, rfl, rfl, he1833, hnz1820⟩
       ·
        rw [if_neg (fun hh => Bool.noConfusion (hh.symm.trans hc1831))] at hm
        refine c_skip ?_
        refine x_then_normal ?_
        refine c_seq ?_
        obtain ⟨x1839, hj1840, hk1840⟩ := bindS hm
        refine c_join (fun b1837 e' hp' => [(4, .pointer (some ⟨g1357, 0, none⟩)), (5, .pointer (some ⟨g1358, 0, none⟩)), (6, .pointer (some ⟨g1359, 0, none⟩)), (9, .pointer (some ⟨g1830, 0, none⟩)), (44, .bool (x1839))] = e' ∧ (g1357, Cl 104 [.pointer (some ⟨g11, 0, none⟩)]) :: (g1358, Cl 3 [.int .i64 (x12)]) :: (g1359, Cl 52 [.slice A3 (l36).length c4]) :: (g1830, Cl 56 [.int .i64 (x1827.Section), .int .i64 (x1827.In), .int .i64 (x1827.Out)]) :: (g1385, Cl 3 [.int .i64 (x1386)]) :: (g11, Cl 106 [.slice A14 (l17).length c15, .slice A18 (l21).length c19, .slice A22 (l25).length c23, .slice A26 (l29).length c27, .slice A30 (l33).length c31, .slice A1814 (l1819).length c1815, .int .i64 (x1817), .bool (x1818)]) :: (l1826, Lb r1825) :: (hs2 ++ (hs1813 ++ R)) = hp' ∧ b1828.Le b1837) ?_ ?_
        ·
         have hm := hj1840
         refine c_region ?_
         refine t_st rfl (st_field rfl fld56_0) ?_
         refine t_st rfl (st_load 1 rfl one3 rfl rfl) ?_
         refine t_st rfl (st_load 5 rfl one3 rfl rfl) ?_
         refine t_bool rfl (st_eql rfl rfl) (fun hc1841 => ?_) (fun hc1841 => ?_)
         ·
          rw [if_pos hc1841] at hm
          refine t_mv rfl rfl ?_
          refine t_no 39 rfl rfl rfl rfl rfl ?_
          refine t_no 39 rfl rfl rfl rfl rfl ?_
          refine t_no 39 rfl rfl rfl rfl rfl ?_
          refine t_no 39 rfl rfl rfl rfl rfl ?_
          refine t_st rfl (st_pick_t rfl rfl) ?_
          refine t_nil ?_
          obtain rfl := some1 hm
          refine x_pullb 6 rfl ?_
          refine x_pullb 6 rfl ?_
          refine x_pullb 3 rfl ?_
          refine x_pullb 6 rfl ?_
          refine x_pullb 6 rfl ?_
          refine x_pullb 6 rfl ?_
          refine x_front2 [_, _, _, _, _, _, _] hs2 hs1813 R rfl ?_
          refine x_front2 [_, _, _, _, _, _, _] hs1813 hs2 R rfl ?_
          exact x_join (e' := [(4, .pointer (some ⟨g1357, 0, none⟩)), (5, .pointer (some ⟨g1358, 0, none⟩)), (6, .pointer (some ⟨g1359, 0, none⟩)), (9, .pointer (some ⟨g1830, 0, none⟩)), (44, .bool (true))]) ⟨rfl, rfl, rfl, rfl, rfl, trivial⟩ (.refl _) ⟨rfl, rfl, (Base.Le.refl _)⟩
         ·
          rw [if_neg hc1841] at hm
          refine t_mv rfl rfl ?_
          refine t_yes 39 rfl rfl rfl ?_
          refine t_st rfl (st_load 4 rfl one52 rfl rfl) ?_
          refine t_yes 39 rfl rfl rfl ?_
          refine t_st rfl (st_field rfl fld56_0) ?_
          refine t_yes 39 rfl rfl rfl ?_
          refine t_st rfl (st_load 1 rfl one3 rfl rfl) ?_
          refine t_yes 39 rfl rfl rfl ?_
          obtain ⟨x1842, hcl1843, hm⟩ := bindS hm
          refine t_do rfl (u_callW0 _ call40 rfl (fun w ho => cLineStands _ [] l36 x1827.Section A3 c4 (OS.now (o := (OT.fr rApiStep)) (l := l36) (hs := hs2) (h5.le (hle1384.trans (hle1419.trans (hle1811.trans hle1829)))) ho (.cons _ (.cons _ (.cons _ (.cons _ (.cons _ (.cons _ (.cons _ (List.sublist_append_left _ _))))))))) x1842 hcl1843) (fun _ _ _ h => h.2.symm)) ?_
          rintro _ _ ⟨⟨_, rfl, _⟩, rfl⟩
          refine t_st rfl (st_pick_f rfl rfl) ?_
          refine t_nil ?_
          obtain rfl := some1 hm
          refine x_pullb 6 rfl ?_
          refine x_pullb 6 rfl ?_
          refine x_pullb 3 rfl ?_
          refine x_pullb 6 rfl ?_
          refine x_pullb 6 rfl ?_
          refine x_pullb 6 rfl ?_
          refine x_front2 [_, _, _, _, _, _, _] hs2 hs1813 R rfl ?_
          refine x_front2 [_, _, _, _, _, _, _] hs1813 hs2 R rfl ?_
          exact x_join (e' := [(4, .pointer (some ⟨g1357, 0, none⟩)), (5, .pointer (some ⟨g1358, 0, none⟩)), (6, .pointer (some ⟨g1359, 0, none⟩)), (9, .pointer (some ⟨g1830, 0, none⟩)), (44, .bool (x1842))]) ⟨rfl, rfl, rfl, rfl, rfl, trivial⟩ (.refl _) ⟨rfl, rfl, (Base.Le.refl _)⟩
        ·
         rintro b1837 _ _ ⟨rfl, rfl, hle1838⟩
         have hm := hk1840
         refine c_cond _ rfl (fun hc1844 => ?_) (fun hc1844 => ?_)
         ·
          rw [if_pos hc1844] at hm
          refine c_sr ?_
          refine t_st rfl (st_load 0 rfl one104 rfl rfl) ?_
          obtain ⟨⟨x1845, x1846⟩, hcl1847, hm⟩ := bindS hm
          have hm := (unc2E hm)
          refine t_pullb 5 rfl ?_
          refine t_front2 [_, _, _, _, _, _, _] hs2 hs1813 R rfl ?_
          refine t_out1 [_] [_, _, _, _, _, _] hs1813 (hs2 ++ R) rfl ?_
          refine t_callG _ rfl call69 rfl (cLineFinderCount _ _ l17 l21 l25 l29 l33 x1817 x1818 l1819 g11 A14 c15 A18 c19 A22 c23 A26 c27 A30 c31 A1814 c1815 hs1813 (h16.le (hle1384.trans (hle1419.trans (hle1811.trans (hle1829.trans hle1838))))) (h20.le (hle1384.trans (hle1419.trans (hle1811.trans (hle1829.trans hle1838))))) (h24.le (hle1384.trans (hle1419.trans (hle1811.trans (hle1829.trans hle1838))))) (h28.le (hle1384.trans (hle1419.trans (hle1811.trans (hle1829.trans hle1838))))) (h32.le (hle1384.trans (hle1419.trans (hle1811.trans (hle1829.trans hle1838))))) (h1816.le (hle1829.trans hle1838)) hnz1820 x1845 x1846 hcl1847) ?_
          rintro _ b1848 _ hle1849 ⟨rfl, rfl⟩
          refine t_in1 [_] [_, _, _, _, _, _] hs1813 (hs2 ++ R) rfl ?_
          refine t_ne ?_
          refine c_ret ?_
          refine x_then_ret ?_
          refine x_block_ret ?_
          refine x_leaveR 6 rfl (hle1838.trans hle1849) ?_
          refine c_ret ?_
          refine x_block_ret ?_
          have hq1850 := houtL1422 _ (Option.some.inj hm).symm
          rw [hq1850] at hk1823
          have hm := elimR hk1823
          obtain ⟨rfl, rfl, rfl⟩ := some3 hm
          refine x_front2 [_, _, _, _, _, _] hs1813 hs2 R rfl ?_
          have he1851 := (h1816.le (hle1829.trans (hle1838.trans hle1849)))
          exact retM (rs := []) [] (hle1384.trans (hle1419.trans (hle1811.trans (hle1829.trans (hle1838.trans hle1849))))) (by decide) rfl trivial rfl (.cons_cons _ (.cons _ (.cons _ (.cons _ (.cons _ (.cons _ (.refl _))))))) ⟨A1814, c1815, hs1813, rfl, rfl, he1851, hnz1820⟩
         ·
          rw [if_neg (fun hh => Bool.noConfusion (hh.symm.trans hc1844))] at hm
          refine c_skip ?_
          refine x_then_normal ?_
          obtain ⟨l1887, hj1889, hk1889⟩ := bindS hm
          refine c_join (fun b1880 e' hp' => ∃ (A1884 : Option Addr), ∃ (c1885 : Nat), ∃ (hs1883 : Hp), [(4, .pointer (some ⟨g1357, 0, none⟩)), (5, .pointer (some ⟨g1358, 0, none⟩)), (9, .pointer (some ⟨g1830, 0, none⟩)), (10, .slice A1884 (l1887).length c1885)] = e' ∧ (g1357, Cl 104 [.pointer (some ⟨g11, 0, none⟩)]) :: (g1358, Cl 3 [.int .i64 (x12)]) :: (g1830, Cl 56 [.int .i64 (x1827.Section), .int .i64 (x1827.In), .int .i64 (x1827.Out)]) :: (g1359, Cl 52 [.slice A3 (l36).length c4]) :: (g1385, Cl 3 [.int .i64 (x1386)]) :: (g11, Cl 106 [.slice A14 (l17).length c15, .slice A18 (l21).length c19, .slice A22 (l25).length c23, .slice A26 (l29).length c27, .slice A30 (l33).length c31, .slice A1814 (l1819).length c1815, .int .i64 (x1817), .bool (x1818)]) :: (l1826, Lb r1825) :: (hs1883 ++ (hs2 ++ (hs1813 ++ R))) = hp' ∧ b1837.Le b1880 ∧ OS 56 (OT.fr rApiStep) b1880.w (.slice A1884 l1887.length c1885) l1887 hs1883 ∧ (A1884 = none ↔ l1887 = [])) ?_ ?_
          ·
           have hm := hj1889
           obtain ⟨l1904, hcl1905, hm⟩ := bindS hm
           obtain ⟨_, h1913, hm⟩ := bindS hm
           refine D_drawI mixed (.refl _) ?_
           refine E_st 0 rfl (st_load 2 rfl one52 rfl rfl) ?_
           refine E_st 2 rfl (st_loadD (vs := [_, _, _]) 3 3 rfl agg56 rfl rfl rfl) ?_
           refine E_out ?_
           refine D_all [1, 3] (by kernel_rfl) rfl ?_
           refine R_do (Base.Le.refl _) rfl rfl (u_callWF [_, _, _, _, _, _, _] (hs2 ++ (hs1813 ++ R)) _ rfl call70 rfl (fun w ho => cSlicesClone _ [] l36 A3 c4 (OS.now (o := (OT.fr rApiStep)) (l := l36) (hs := hs2) (h5.le (hle1384.trans (hle1419.trans (hle1811.trans (hle1829.trans hle1838))))) ho (.cons _ (.cons _ (.cons _ (.cons _ (.cons _ (.cons _ (.cons _ (List.sublist_append_left _ _))))))))) l1904 hcl1905)) ?_ ?_
           ·
            rintro _ _ ⟨_, _, rfl, A1906, c1907, hs1908, rfl, hq1911, h1909⟩
            obtain rfl := List.append_cancel_right hq1911
            have h1910 := flat_fz (w' := b1837.w) (cat_flat (fun _ _ _ _ h => h) (cat_flat (fun _ _ _ _ h => h) (fun _ _ _ _ h => h))) h1909
            refine ⟨.inr (.cons_cons _ (.cons_cons _ (.cons_cons _ (.cons_cons _ (.cons_cons _ (.cons_cons _ (.cons_cons _ (sub_skip hs1908 (.refl _))))))))), ?_⟩
            refine D_all [3] (by kernel_rfl) rfl ?_
            refine R_do (Base.Le.refl _) rfl rfl (u_bslice (el := 56) [(0, .agg #[.int .i64 (x1827.Section), .int .i64 (x1827.In), .int .i64 (x1827.Out)])] [.int .i64 (x1827.Section), .int .i64 (x1827.In), .int .i64 (x1827.Out)] rfl (fun _ => by kernel_rfl)) ?_ ?_
            ·
             rintro _ _ ⟨g1912, rfl, rfl⟩
             refine ⟨.inr (.cons _ (.cons_cons _ (.cons_cons _ (.cons_cons _ (.cons_cons _ (.cons_cons _ (.cons_cons _ (.cons_cons _ (sub_skip hs1908 (.refl _)))))))))), ?_⟩
             have h1913 := room_some h1913
             refine D_all [4] (by kernel_rfl) rfl ?_
             refine R_do (Base.Le.refl _) rfl rfl (u_appOS (r := rApiStep) (l := l1904) [_, _, _, _, _, _, _, _] (hs2 ++ (hs1813 ++ R)) [[.int .i64 (x1827.Section), .int .i64 (x1827.In), .int .i64 (x1827.Out)]] [x1827] rfl (by decide) sl52 inf56 rfl rfl rfl rfl h1910 rfl (fun w ho => Rd.own (i := 0) ho rfl) ⟨⟨[.int .i64 (x1827.Section)], _, rfl, rfl, ⟨[.int .i64 (x1827.In)], _, rfl, rfl, rfl⟩⟩, trivial⟩ h1913) ?_ ?_
             ·
              rintro _ _ ⟨hs1914, rfl, h1915⟩
              obtain ⟨A1916, c1917, rfl, _⟩ := h1915.form
              refine ⟨.inr (.cons _ (.cons_cons _ (.cons_cons _ (.cons_cons _ (.cons_cons _ (.cons_cons _ (.cons_cons _ (.cons_cons _ (sub_skip hs1914 (.refl _)))))))))), ?_⟩
              refine E_in (.cons _ (.cons_cons _ (.cons_cons _ (.cons_cons _ (.cons_cons _ (.cons_cons _ (.cons_cons _ (.cons_cons _ (sub_skip hs1914 (.refl _)))))))))) ?_
              refine E_st 5 rfl (st_assign rfl) ?_
              refine E_out ?_
              refine D_done (by kernel_rfl) ?_
              obtain rfl := some1 hm
              refine x_pullb 7 rfl ?_
              refine x_pullb 7 rfl ?_
              refine x_pullb 7 rfl ?_
              refine x_pullb 6 rfl ?_
              refine x_pullb 7 rfl ?_
              refine x_pullb 7 rfl ?_
              refine x_pullb 7 rfl ?_
              refine x_front3 [_, _, _, _, _, _, _, _] hs1914 hs2 hs1813 R rfl ?_
              refine x_front3 [_, _, _, _, _, _, _, _] hs1813 hs1914 hs2 R rfl ?_
              refine x_front3 [_, _, _, _, _, _, _, _] hs2 hs1813 hs1914 R rfl ?_
              exact x_join (e' := [(4, .pointer (some ⟨g1357, 0, none⟩)), (5, .pointer (some ⟨g1358, 0, none⟩)), (9, .pointer (some ⟨g1830, 0, none⟩)), (10, .slice A1916 (l1904 ++ [x1827]).length c1917)]) ⟨rfl, rfl, rfl, rfl, trivial⟩ (.cons_cons _ (.cons_cons _ (.cons_cons _ (.cons_cons _ (.cons_cons _ (.cons_cons _ (.cons_cons _ (.cons _ (.refl _))))))))) ⟨A1916, c1917, hs1914, rfl, rfl, (Base.Le.refl _), h1915, (OS.nz h1915 (by simp))⟩
             exact R_nil
            exact R_nil
           refine R_do (Base.Le.refl _) rfl rfl (u_bslice (el := 56) [(0, .agg #[.int .i64 (x1827.Section), .int .i64 (x1827.In), .int .i64 (x1827.Out)])] [.int .i64 (x1827.Section), .int .i64 (x1827.In), .int .i64 (x1827.Out)] rfl (fun _ => by kernel_rfl)) ?_ ?_
           ·
            rintro _ _ ⟨g1912, rfl, rfl⟩
            refine ⟨.inr (.cons _ (.refl _)), ?_⟩
            refine D_all [1] (by kernel_rfl) rfl ?_
            refine R_do (Base.Le.refl _) rfl rfl (u_callWF [_, _, _, _, _, _, _, _] (hs2 ++ (hs1813 ++ R)) _ rfl call70 rfl (fun w ho => cSlicesClone _ [] l36 A3 c4 (OS.now (o := (OT.fr rApiStep)) (l := l36) (hs := hs2) (h5.le (hle1384.trans (hle1419.trans (hle1811.trans (hle1829.trans hle1838))))) ho (.cons _ (.cons _ (.cons _ (.cons _ (.cons _ (.cons _ (.cons _ (.cons _ (List.sublist_append_left _ _)))))))))) l1904 hcl1905)) ?_ ?_
            ·
             rintro _ _ ⟨_, _, rfl, A1906, c1907, hs1908, rfl, hq1911, h1909⟩
             obtain rfl := List.append_cancel_right hq1911
             have h1910 := flat_fz (w' := b1837.w) (cat_flat (fun _ _ _ _ h => h) (cat_flat (fun _ _ _ _ h => h) (fun _ _ _ _ h => h))) h1909
             refine ⟨.inr (.cons _ (.cons_cons _ (.cons_cons _ (.cons_cons _ (.cons_cons _ (.cons_cons _ (.cons_cons _ (.cons_cons _ (sub_skip hs1908 (.refl _)))))))))), ?_⟩
             have h1913 := room_some h1913
             refine D_all [4] (by kernel_rfl) rfl ?_
             refine R_do (Base.Le.refl _) rfl rfl (u_appOS (r := rApiStep) (l := l1904) [_, _, _, _, _, _, _, _] (hs2 ++ (hs1813 ++ R)) [[.int .i64 (x1827.Section), .int .i64 (x1827.In), .int .i64 (x1827.Out)]] [x1827] rfl (by decide) sl52 inf56 rfl rfl rfl rfl h1910 rfl (fun w ho => Rd.own (i := 0) ho rfl) ⟨⟨[.int .i64 (x1827.Section)], _, rfl, rfl, ⟨[.int .i64 (x1827.In)], _, rfl, rfl, rfl⟩⟩, trivial⟩ h1913) ?_ ?_
             ·
              rintro _ _ ⟨hs1914, rfl, h1915⟩
              obtain ⟨A1916, c1917, rfl, _⟩ := h1915.form
              refine ⟨.inr (.cons _ (.cons_cons _ (.cons_cons _ (.cons_cons _ (.cons_cons _ (.cons_cons _ (.cons_cons _ (.cons_cons _ (sub_skip hs1914 (.refl _)))))))))), ?_⟩
              refine E_in (.cons _ (.cons_cons _ (.cons_cons _ (.cons_cons _ (.cons_cons _ (.cons_cons _ (.cons_cons _ (.cons_cons _ (sub_skip hs1914 (.refl _)))))))))) ?_
              refine E_st 5 rfl (st_assign rfl) ?_
              refine E_out ?_
              refine D_done (by kernel_rfl) ?_
              obtain rfl := some1 hm
              refine x_pullb 7 rfl ?_
              refine x_pullb 7 rfl ?_
              refine x_pullb 7 rfl ?_
              refine x_pullb 6 rfl ?_
              refine x_pullb 7 rfl ?_
              refine x_pullb 7 rfl ?_
              refine x_pullb 7 rfl ?_
              refine x_front3 [_, _, _, _, _, _, _, _] hs1914 hs2 hs1813 R rfl ?_
              refine x_front3 [_, _, _, _, _, _, _, _] hs1813 hs1914 hs2 R rfl ?_
              refine x_front3 [_, _, _, _, _, _, _, _] hs2 hs1813 hs1914 R rfl ?_
              exact x_join (e' := [(4, .pointer (some ⟨g1357, 0, none⟩)), (5, .pointer (some ⟨g1358, 0, none⟩)), (9, .pointer (some ⟨g1830, 0, none⟩)), (10, .slice A1916 (l1904 ++ [x1827]).length c1917)]) ⟨rfl, rfl, rfl, rfl, trivial⟩ (.cons_cons _ (.cons_cons _ (.cons_cons _ (.cons_cons _ (.cons_cons _ (.cons_cons _ (.cons_cons _ (.cons _ (.refl _))))))))) ⟨A1916, c1917, hs1914, rfl, rfl, (Base.Le.refl _), h1915, (OS.nz h1915 (by simp))⟩
             exact R_nil
            exact R_nil
           exact R_nil
          ·
           rintro b1880 _ _ ⟨A1884, c1885, hs1883, rfl, rfl, hle1881, h1886, hnz1888⟩
           have hm := hk1889
           refine c_seq ?_
           refine c_sr ?_
           refine t_mv rfl rfl ?_
           refine t_st rfl (st_len rfl sl52) ?_
           refine t_st rfl (st_gtr rfl rfl) ?_
           refine t_ne ?_
           refine c_cond _ rfl (fun hc1918 => ?_) (fun hc1918 => ?_)
           ·
            rw [if_pos (of_decide_eq_true hc1918)] at hm
            refine c_sr ?_
            refine t_st rfl (st_load 0 rfl one104 rfl rfl) ?_
            refine t_st rfl (st_nil rfl) ?_
            refine t_st rfl (st_field rfl fld106_3) ?_
            refine t_do rfl (u_store 5 rfl rfl siz4 rfl rfl (by simp)) ?_
            rintro _ _ rfl
            refine t_ne ?_
            refine c_ret ?_
            refine x_then_ret ?_
            refine x_block_ret ?_
            refine x_leaveR 6 rfl (hle1838.trans hle1881) ?_
            refine c_ret ?_
            refine x_block_ret ?_
            have hq1919 := houtL1422 _ (Option.some.inj hm).symm
            rw [hq1919] at hk1823
            have hm := elimR hk1823
            obtain ⟨rfl, rfl, rfl⟩ := some3 hm
            refine x_pullb 5 rfl ?_
            refine x_front3 [_, _, _, _, _, _] hs1883 hs2 hs1813 R rfl ?_
            refine x_front3 [_, _, _, _, _, _] hs1813 hs1883 hs2 R rfl ?_
            have he1920 := (h1816.le (hle1829.trans (hle1838.trans hle1881)))
            exact retM (rs := []) [] (hle1384.trans (hle1419.trans (hle1811.trans (hle1829.trans (hle1838.trans hle1881))))) (by decide) rfl trivial rfl (.cons_cons _ (.cons _ (.cons _ (.cons _ (.cons _ (.cons _ (sub_app hs2 (sub_app hs1813 (sub_skip hs1883 (.refl _)))))))))) ⟨A1814, c1815, hs1813, rfl, rfl, he1920, hnz1820⟩
           ·
            rw [if_neg (of_decide_eq_false hc1918)] at hm
            refine c_skip ?_
            refine x_then_normal ?_
            refine c_sr ?_
            refine t_st rfl (st_field rfl fld56_0) ?_
            refine t_st rfl (st_load 2 rfl one3 rfl rfl) ?_
            refine t_st rfl (st_field rfl fld56_2) ?_
            refine t_st rfl (st_load 2 rfl one3 rfl rfl) ?_
            refine t_st rfl (st_build (v := .agg #[.int .i64 (x1827.Section), .int .i64 (x1827.Out)]) [(0, .int .i64 (x1827.Section)), (1, .int .i64 (x1827.Out))] rfl (fun _ => by kernel_rfl)) ?_
            refine t_do rfl (u_alloc [.int .i64 0, .int .i64 0] zero109 rfl) ?_
            rintro _ _ ⟨g1921, rfl, rfl⟩
            refine t_do rfl (u_storeN (vs := [_, _]) 0 2 rfl rfl rfl siz109 rfl (mem_c rfl (mem_c rfl mem_n)) rfl (by simp)) ?_
            rintro _ _ rfl
            refine t_ne ?_
            refine c_seq ?_
            obtain ⟨x1924, hcl1925, hm⟩ := bindS hm
            refine D_drawI mixed (.refl _) ?_
            refine E_st 0 rfl (st_load 1 rfl one104 rfl rfl) ?_
            refine E_st 1 rfl (st_nil rfl) ?_
            refine E_st 2 rfl (st_field rfl fld106_0) ?_
            refine E_st 3 rfl (st_loadD (vs := [_, _, _, _, _]) 6 5 rfl agg28 rfl rfl rfl) ?_
            refine E_st 4 rfl (st_loadD (vs := [_, _]) 0 2 rfl agg109 rfl rfl rfl) ?_
            refine E_out ?_
            refine D_all [5] (by kernel_rfl) rfl ?_
            refine R_do (Base.Le.refl _) rfl rfl (u_callW0 _ call60 rfl (fun w ho => cLineSignal _ [] (⟨l17, l21, l25, l29, l33⟩ : ApiNet) (⟨x1827.Section, x1827.Out⟩ : LineEnd) A14 c15 A18 c19 A22 c23 A26 c27 A30 c31 ((h16.le (hle1384.trans (hle1419.trans (hle1811.trans (hle1829.trans (hle1838.trans hle1881)))))).old ho) ((h20.le (hle1384.trans (hle1419.trans (hle1811.trans (hle1829.trans (hle1838.trans hle1881)))))).old ho) ((h24.le (hle1384.trans (hle1419.trans (hle1811.trans (hle1829.trans (hle1838.trans hle1881)))))).old ho) ((h28.le (hle1384.trans (hle1419.trans (hle1811.trans (hle1829.trans (hle1838.trans hle1881)))))).old ho) ((h32.le (hle1384.trans (hle1419.trans (hle1811.trans (hle1829.trans (hle1838.trans hle1881)))))).old ho) x1924 hcl1925) (fun _ _ _ h => h.2.symm)) ?_ ?_
            ·
             rintro _ _ ⟨⟨_, rfl, _⟩, rfl⟩
             refine ⟨.inr (.refl _), ?_⟩
             refine E_in (.refl _) ?_
             refine E_st 6 rfl (st_assign rfl) ?_
             refine E_out ?_
             refine D_done (by kernel_rfl) ?_
             refine x_then_normal ?_
             refine c_seq ?_
             obtain ⟨x1942, hj1943, hk1943⟩ := bindS hm
             refine c_join (fun b1940 e' hp' => [(4, .pointer (some ⟨g1357, 0, none⟩)), (5, .pointer (some ⟨g1358, 0, none⟩)), (10, .slice A1884 (l1887).length c1885), (11, .pointer (some ⟨g1921, 0, none⟩)), (12, .int .i64 (x1924)), (14, .bool (x1942))] = e' ∧ (g1357, Cl 104 [.pointer (some ⟨g11, 0, none⟩)]) :: (g1358, Cl 3 [.int .i64 (x12)]) :: (g1921, Cl 109 [.int .i64 (x1827.Section), .int .i64 (x1827.Out)]) :: (g1359, Cl 52 [.slice A3 (l36).length c4]) :: (g1385, Cl 3 [.int .i64 (x1386)]) :: (g11, Cl 106 [.slice A14 (l17).length c15, .slice A18 (l21).length c19, .slice A22 (l25).length c23, .slice A26 (l29).length c27, .slice A30 (l33).length c31, .slice A1814 (l1819).length c1815, .int .i64 (x1817), .bool (x1818)]) :: (l1826, Lb r1825) :: (hs1883 ++ (hs2 ++ (hs1813 ++ R))) = hp' ∧ b1880.Le b1940) ?_ ?_
             ·
              have hm := hj1943
              obtain ⟨⟨x1951, x1952, x1953⟩, hcl1954, hm⟩ := bindS hm
              have hm := (unc3E hm)
              refine D_drawI mixed (.refl _) ?_
              refine E_st 0 rfl (st_load 1 rfl one104 rfl rfl) ?_
              refine E_st 1 rfl (st_nil rfl) ?_
              refine E_st 2 rfl (st_field rfl fld106_0) ?_
              refine E_st 3 rfl (st_loadD (vs := [_, _, _, _, _]) 6 5 rfl agg28 rfl rfl rfl) ?_
              refine E_st 4 rfl (st_loadD (vs := [_, _]) 0 2 rfl agg109 rfl rfl rfl) ?_
              refine E_out ?_
              refine D_all [5, 9] (by kernel_rfl) rfl ?_
              refine R_callGl (Base.Le.refl _) rfl rfl _ call58 rfl (cLineJoined _ _ (⟨l17, l21, l25, l29, l33⟩ : ApiNet) (⟨x1827.Section, x1827.Out⟩ : LineEnd) A14 c15 A18 c19 A22 c23 A26 c27 A30 c31 (h16.le (hle1384.trans (hle1419.trans (hle1811.trans (hle1829.trans (hle1838.trans hle1881)))))) (h20.le (hle1384.trans (hle1419.trans (hle1811.trans (hle1829.trans (hle1838.trans hle1881)))))) (h24.le (hle1384.trans (hle1419.trans (hle1811.trans (hle1829.trans (hle1838.trans hle1881)))))) (h28.le (hle1384.trans (hle1419.trans (hle1811.trans (hle1829.trans (hle1838.trans hle1881)))))) (h32.le (hle1384.trans (hle1419.trans (hle1811.trans (hle1829.trans (hle1838.trans hle1881)))))) x1951 x1952 x1953 hcl1954) ?_ ?_
              ·
               rintro _ b1955 _ hle1956 ⟨rfl, rfl⟩
               refine ⟨.inr (.refl _), ?_⟩
               refine D_st hle1956 6 rfl (by kernel_rfl) (by kernel_rfl) (by kernel_rfl) rfl (st_move rfl) (.refl _) ?_
               refine D_st hle1956 7 rfl (by kernel_rfl) (by kernel_rfl) (by kernel_rfl) rfl (st_extract rfl rfl) (.refl _) ?_
               refine D_st hle1956 8 rfl (by kernel_rfl) (by kernel_rfl) (by kernel_rfl) rfl (st_extract rfl rfl) (.refl _) ?_
               refine D_all [9] (by kernel_rfl) rfl ?_
               refine R_do hle1956 rfl rfl (u_alloc [.int .i64 0, .int .i64 0] zero109 rfl) ?_ ?_
               ·
                rintro _ _ ⟨g1957, rfl, rfl⟩
                refine ⟨.inr (.cons _ (.refl _)), ?_⟩
                refine D_all [10] (by kernel_rfl) rfl ?_
                refine R_do hle1956 rfl rfl (u_storeN (vs := [_, _]) 0 2 rfl rfl rfl siz109 rfl (mem_c rfl (mem_c rfl mem_n)) rfl (by simp)) ?_ ?_
                ·
                 rintro _ _ rfl
                 refine ⟨.inr (.cons _ (.refl _)), ?_⟩
                 refine D_st hle1956 11 rfl (by kernel_rfl) (by kernel_rfl) (by kernel_rfl) rfl (st_assign rfl) (.cons _ (.refl _)) ?_
                 refine D_done (by kernel_rfl) ?_
                 obtain rfl := some1 hm
                 refine x_pullb 8 rfl ?_
                 refine x_pullb 8 rfl ?_
                 refine x_pullb 8 rfl ?_
                 refine x_pullb 8 rfl ?_
                 refine x_pullb 5 rfl ?_
                 refine x_pullb 7 rfl ?_
                 refine x_pullb 7 rfl ?_
                 refine x_front3 [_, _, _, _, _, _, _, _, _] hs1883 hs2 hs1813 R rfl ?_
                 refine x_front3 [_, _, _, _, _, _, _, _, _] hs1813 hs1883 hs2 R rfl ?_
                 refine x_front3 [_, _, _, _, _, _, _, _, _] hs2 hs1813 hs1883 R rfl ?_
                 exact x_join (e' := [(4, .pointer (some ⟨g1357, 0, none⟩)), (5, .pointer (some ⟨g1358, 0, none⟩)), (10, .slice A1884 (l1887).length c1885), (11, .pointer (some ⟨g1921, 0, none⟩)), (12, .int .i64 (x1924)), (14, .bool (x1953))]) ⟨rfl, rfl, rfl, rfl, rfl, rfl, trivial⟩ (.cons_cons _ (.cons_cons _ (.cons_cons _ (.cons_cons _ (.cons_cons _ (.cons_cons _ (.cons_cons _ (.cons _ (.cons _ (.refl _)))))))))) ⟨rfl, rfl, hle1956⟩
                exact R_nil
               exact R_nil
              refine R_do (Base.Le.refl _) rfl rfl (u_alloc [.int .i64 0, .int .i64 0] zero109 rfl) ?_ ?_
              ·
               rintro _ _ ⟨g1957, rfl, rfl⟩
               refine ⟨.inr (.cons _ (.refl _)), ?_⟩
               refine D_all [5] (by kernel_rfl) rfl ?_
               refine R_callGl (Base.Le.refl _) rfl rfl _ call58 rfl (cLineJoined _ _ (⟨l17, l21, l25, l29, l33⟩ : ApiNet) (⟨x1827.Section, x1827.Out⟩ : LineEnd) A14 c15 A18 c19 A22 c23 A26 c27 A30 c31 (h16.le (hle1384.trans (hle1419.trans (hle1811.trans (hle1829.trans (hle1838.trans hle1881)))))) (h20.le (hle1384.trans (hle1419.trans (hle1811.trans (hle1829.trans (hle1838.trans hle1881)))))) (h24.le (hle1384.trans (hle1419.trans (hle1811.trans (hle1829.trans (hle1838.trans hle1881)))))) (h28.le (hle1384.trans (hle1419.trans (hle1811.trans (hle1829.trans (hle1838.trans hle1881)))))) (h32.le (hle1384.trans (hle1419.trans (hle1811.trans (hle1829.trans (hle1838.trans hle1881)))))) x1951 x1952 x1953 hcl1954) ?_ ?_
               ·
                rintro _ b1955 _ hle1956 ⟨rfl, rfl⟩
                refine ⟨.inr (.cons _ (.refl _)), ?_⟩
                refine D_st hle1956 6 rfl (by kernel_rfl) (by kernel_rfl) (by kernel_rfl) rfl (st_move rfl) (.cons _ (.refl _)) ?_
                refine D_st hle1956 7 rfl (by kernel_rfl) (by kernel_rfl) (by kernel_rfl) rfl (st_extract rfl rfl) (.cons _ (.refl _)) ?_
                refine D_st hle1956 8 rfl (by kernel_rfl) (by kernel_rfl) (by kernel_rfl) rfl (st_extract rfl rfl) (.cons _ (.refl _)) ?_
                refine D_all [10] (by kernel_rfl) rfl ?_
                refine R_do hle1956 rfl rfl (u_storeN (vs := [_, _]) 0 2 rfl rfl rfl siz109 rfl (mem_c rfl (mem_c rfl mem_n)) rfl (by simp)) ?_ ?_
                ·
                 rintro _ _ rfl
                 refine ⟨.inr (.cons _ (.refl _)), ?_⟩
                 refine D_st hle1956 11 rfl (by kernel_rfl) (by kernel_rfl) (by kernel_rfl) rfl (st_assign rfl) (.cons _ (.refl _)) ?_
                 refine D_done (by kernel_rfl) ?_
                 obtain rfl := some1 hm
                 refine x_pullb 8 rfl ?_
                 refine x_pullb 8 rfl ?_
                 refine x_pullb 8 rfl ?_
                 refine x_pullb 8 rfl ?_
                 refine x_pullb 5 rfl ?_
                 refine x_pullb 7 rfl ?_
                 refine x_pullb 7 rfl ?_
                 refine x_front3 [_, _, _, _, _, _, _, _, _] hs1883 hs2 hs1813 R rfl ?_
                 refine x_front3 [_, _, _, _, _, _, _, _, _] hs1813 hs1883 hs2 R rfl ?_
                 refine x_front3 [_, _, _, _, _, _, _, _, _] hs2 hs1813 hs1883 R rfl ?_
                 exact x_join (e' := [(4, .pointer (some ⟨g1357, 0, none⟩)), (5, .pointer (some ⟨g1358, 0, none⟩)), (10, .slice A1884 (l1887).length c1885), (11, .pointer (some ⟨g1921, 0, none⟩)), (12, .int .i64 (x1924)), (14, .bool (x1953))]) ⟨rfl, rfl, rfl, rfl, rfl, rfl, trivial⟩ (.cons_cons _ (.cons_cons _ (.cons_cons _ (.cons_cons _ (.cons_cons _ (.cons_cons _ (.cons_cons _ (.cons _ (.cons _ (.refl _)))))))))) ⟨rfl, rfl, hle1956⟩
                exact R_nil
               exact R_nil
              exact R_nil
             ·
              rintro b1940 _ _ ⟨rfl, rfl, hle1941⟩
              have hm := hk1943
              obtain ⟨x1961, hj1962, hk1962⟩ := bindS hm
              refine c_join (fun b1959 e' hp' => [(4, .pointer (some ⟨g1357, 0, none⟩)), (5, .pointer (some ⟨g1358, 0, none⟩)), (10, .slice A1884 (l1887).length c1885), (11, .pointer (some ⟨g1921, 0, none⟩)), (12, .int .i64 (x1924)), (82, .bool (x1961))] = e' ∧ (g1357, Cl 104 [.pointer (some ⟨g11, 0, none⟩)]) :: (g1358, Cl 3 [.int .i64 (x12)]) :: (g1921, Cl 109 [.int .i64 (x1827.Section), .int .i64 (x1827.Out)]) :: (g1359, Cl 52 [.slice A3 (l36).length c4]) :: (g1385, Cl 3 [.int .i64 (x1386)]) :: (g11, Cl 106 [.slice A14 (l17).length c15, .slice A18 (l21).length c19, .slice A22 (l25).length c23, .slice A26 (l29).length c27, .slice A30 (l33).length c31, .slice A1814 (l1819).length c1815, .int .i64 (x1817), .bool (x1818)]) :: (l1826, Lb r1825) :: (hs1883 ++ (hs2 ++ (hs1813 ++ R))) = hp' ∧ b1940.Le b1959) ?_ ?_
              ·
               have hm := hj1962
               refine c_region ?_
               refine t_mv rfl rfl ?_
               rcases Bool.eq_false_or_eq_true x1942 with hc1963 | hc1963
               ·
                rw [if_pos hc1963] at hm
                refine t_resp 78 rfl (v' := .bool true) (by rw [hc1963] <;> rfl) ?_
                refine t_mv rfl rfl ?_
                refine t_yes 79 rfl rfl rfl ?_
                refine t_mv rfl rfl ?_
                refine t_yes 79 rfl rfl rfl ?_
                refine t_st rfl (st_lss rfl rfl) ?_
                refine t_st rfl (st_pick_t rfl rfl) ?_
                refine t_nil ?_
                obtain rfl := some1 hm
                refine x_pullb 6 rfl ?_
                refine x_pullb 6 rfl ?_
                refine x_pullb 6 rfl ?_
                refine x_pullb 6 rfl ?_
                refine x_pullb 6 rfl ?_
                refine x_pullb 6 rfl ?_
                refine x_pullb 6 rfl ?_
                refine x_front3 [_, _, _, _, _, _, _] hs1883 hs2 hs1813 R rfl ?_
                refine x_front3 [_, _, _, _, _, _, _] hs1813 hs1883 hs2 R rfl ?_
                refine x_front3 [_, _, _, _, _, _, _] hs2 hs1813 hs1883 R rfl ?_
                exact x_join (e' := [(4, .pointer (some ⟨g1357, 0, none⟩)), (5, .pointer (some ⟨g1358, 0, none⟩)), (10, .slice A1884 (l1887).length c1885), (11, .pointer (some ⟨g1921, 0, none⟩)), (12, .int .i64 (x1924)), (82, .bool (decide (x1924 < 0)))]) ⟨rfl, rfl, rfl, rfl, rfl, rfl, trivial⟩ (.refl _) ⟨rfl, rfl, (Base.Le.refl _)⟩
               ·
                rw [if_neg (fun hh => Bool.noConfusion (hh.symm.trans hc1963))] at hm
                refine t_resp 78 rfl (v' := .bool false) (by rw [hc1963] <;> rfl) ?_
                refine t_mv rfl rfl ?_
                refine t_no 79 rfl rfl rfl rfl rfl ?_
                refine t_no 79 rfl rfl rfl rfl rfl ?_
                refine t_st rfl (st_pick_f rfl rfl) ?_
                refine t_nil ?_
                obtain rfl := some1 hm
                refine x_pullb 6 rfl ?_
                refine x_pullb 6 rfl ?_
                refine x_pullb 6 rfl ?_
                refine x_pullb 6 rfl ?_
                refine x_pullb 6 rfl ?_
                refine x_pullb 6 rfl ?_
                refine x_pullb 6 rfl ?_
                refine x_front3 [_, _, _, _, _, _, _] hs1883 hs2 hs1813 R rfl ?_
                refine x_front3 [_, _, _, _, _, _, _] hs1813 hs1883 hs2 R rfl ?_
                refine x_front3 [_, _, _, _, _, _, _] hs2 hs1813 hs1883 R rfl ?_
                exact x_join (e' := [(4, .pointer (some ⟨g1357, 0, none⟩)), (5, .pointer (some ⟨g1358, 0, none⟩)), (10, .slice A1884 (l1887).length c1885), (11, .pointer (some ⟨g1921, 0, none⟩)), (12, .int .i64 (x1924)), (82, .bool (false))]) ⟨rfl, rfl, rfl, rfl, rfl, rfl, trivial⟩ (.refl _) ⟨rfl, rfl, (Base.Le.refl _)⟩
              ·
               rintro b1959 _ _ ⟨rfl, rfl, hle1960⟩
               have hm := hk1962
               refine c_cond _ rfl (fun hc1964 => ?_) (fun hc1964 => ?_)
               ·
                rw [if_pos hc1964] at hm
                refine c_sr ?_
                refine t_st rfl (st_load 0 rfl one104 rfl rfl) ?_
                refine t_st rfl (st_load 1 rfl one3 rfl rfl) ?_
                refine t_mv rfl rfl ?_
                refine t_st rfl (st_loadD (vs := [_, _]) 2 2 rfl agg109 rfl rfl rfl) ?_
                obtain ⟨⟨x1965, x1966, l1967⟩, hcl1968, hm⟩ := bindS hm
                have hm := (unc3E hm)
                refine t_pullb 5 rfl ?_
                refine t_front3 [_, _, _, _, _, _, _] hs1883 hs2 hs1813 R rfl ?_
                refine t_front2 [_, _, _, _, _, _, _] hs1813 hs1883 (hs2 ++ R) rfl ?_
                refine t_out2 [_] [_, _, _, _, _, _] hs1883 hs1813 (hs2 ++ R) rfl ?_
                refine t_callG _ rfl call47 rfl (ih _ _ x12 (⟨x1827.Section, x1827.Out⟩ : LineEnd) l17 l21 l25 l29 l33 x1817 x1818 l1887 l1819 g11 A14 c15 A18 c19 A22 c23 A26 c27 A30 c31 A1884 c1885 hs1883 A1814 c1815 hs1813 (h16.le (hle1384.trans (hle1419.trans (hle1811.trans (hle1829.trans (hle1838.trans (hle1881.trans (hle1941.trans hle1960)))))))) (h20.le (hle1384.trans (hle1419.trans (hle1811.trans (hle1829.trans (hle1838.trans (hle1881.trans (hle1941.trans hle1960)))))))) (h24.le (hle1384.trans (hle1419.trans (hle1811.trans (hle1829.trans (hle1838.trans (hle1881.trans (hle1941.trans hle1960)))))))) (h28.le (hle1384.trans (hle1419.trans (hle1811.trans (hle1829.trans (hle1838.trans (hle1881.trans (hle1941.trans hle1960)))))))) (h32.le (hle1384.trans (hle1419.trans (hle1811.trans (hle1829.trans (hle1838.trans (hle1881.trans (hle1941.trans hle1960)))))))) (h1886.le (hle1941.trans hle1960)) hnz1888 (h1816.le (hle1829.trans (hle1838.trans (hle1881.trans (hle1941.trans hle1960))))) hnz1820 x1965 x1966 l1967 hcl1968) ?_
                rintro _ b1969 _ hle1970 ⟨A1971, c1972, hs1973, rfl, rfl, h1974, h1975⟩
                refine t_in2 [_] [_, _, _, _, _, _] hs1883 hs1973 (hs2 ++ R) rfl ?_
                refine t_ne ?_
                refine c_exit ?_
                refine x_then_exit ?_
                refine x_block_out ?_
                refine x_pullb 5 rfl ?_
                refine x_pullb 5 rfl ?_
                refine x_pullb 4 rfl ?_
                refine x_pullb 4 rfl ?_
                refine x_front2 [_, _, _, _, _, _, _] hs1883 hs1973 (hs2 ++ R) rfl ?_
                refine x_front3 [_, _, _, _, _, _, _] hs1973 hs1883 hs2 R rfl ?_
                exact x_round 6 rfl (hle1838.trans (hle1881.trans (hle1941.trans (hle1960.trans hle1970)))) (.cons_cons _ (.cons_cons _ (.cons_cons _ (.cons_cons _ (.cons_cons _ (.cons _ (sub_app hs2 (sub_app hs1973 (sub_skip hs1883 (.refl _)))))))))) ⟨(x1965, x1966, l1967), (Option.some.inj hm).symm, ⟨A1971, c1972, hs1973, rfl, (hle1811.trans (hle1829.trans (hle1838.trans (hle1881.trans (hle1941.trans (hle1960.trans hle1970)))))), h1974, h1975⟩⟩
               ·
                rw [if_neg (fun hh => Bool.noConfusion (hh.symm.trans hc1964))] at hm
                refine c_skip ?_
                refine x_then_normal ?_
                obtain ⟨l2000, hj2002, hk2002⟩ := bindS hm
                refine c_join (fun b1993 e' hp' => ∃ (A1997 : Option Addr), ∃ (c1998 : Nat), ∃ (hs1996 : Hp), [(4, .pointer (some ⟨g1357, 0, none⟩))] = e' ∧ (g1357, Cl 104 [.pointer (some ⟨g11, 0, none⟩)]) :: (g1358, Cl 3 [.int .i64 (x12)]) :: (g1359, Cl 52 [.slice A3 (l36).length c4]) :: (g1385, Cl 3 [.int .i64 (x1386)]) :: (g11, Cl 106 [.slice A14 (l17).length c15, .slice A18 (l21).length c19, .slice A22 (l25).length c23, .slice A26 (l29).length c27, .slice A30 (l33).length c31, .slice A1997 (l2000).length c1998, .int .i64 (x1817), .bool (x1818)]) :: (l1826, Lb r1825) :: (hs2 ++ (hs1996 ++ R)) = hp' ∧ b1959.Le b1993 ∧ OS 54 (OT.fr rApiRoute) b1993.w (.slice A1997 l2000.length c1998) l2000 hs1996 ∧ (A1997 = none ↔ l2000 = [])) ?_ ?_
                ·
                 have hm := hj2002
                 refine c_frz [_, _, _, _, _, _, _] hs1883 (hs2 ++ (hs1813 ++ R)) rfl ?_
                 intro b2004 hle2005 hz2006
                 have h2007 := OS.frz (l := l1887) (h1886.le (hle1941.trans hle1960)) hle2005.cells hz2006
                 obtain ⟨_, h2015, hm⟩ := bindS hm
                 refine D_drawI mixed (.cons_cons _ (.cons_cons _ (.cons_cons _ (.cons_cons _ (.cons_cons _ (.cons _ (.cons_cons _ (sub_app hs2 (sub_skip hs1813 (.refl _)))))))))) ?_
                 refine E_st 0 rfl (st_load 0 rfl one104 rfl rfl) ?_
                 refine E_st 1 rfl (st_load 0 rfl one104 rfl rfl) ?_
                 refine E_st 2 rfl (st_nil rfl) ?_
                 refine E_st 3 rfl (st_field rfl fld106_1) ?_
                 refine E_st 5 rfl (st_load 1 rfl one3 rfl rfl) ?_
                 refine E_st 6 rfl (st_move rfl) ?_
                 refine E_st 7 rfl (st_move rfl) ?_
                 refine E_st 8 rfl (st_build (v := .agg #[.int .i64 (x12), .int .i64 (x1924), .slice A1884 (l1887).length c1885]) [(0, .int .i64 (x12)), (1, .int .i64 (x1924)), (2, .slice A1884 (l1887).length c1885)] rfl (fun _ => by kernel_rfl)) ?_
                 refine E_out ?_
                 refine D_all [4, 9] (by kernel_rfl) rfl ?_
                 refine R_do (Base.Le.refl _) rfl rfl (Stable.does (st_load 5 rfl one47 rfl rfl)) ?_ ?_
                 ·
                  rintro _ _ ⟨rfl, rfl⟩
                  refine ⟨.inr (.cons_cons _ (.cons_cons _ (.cons_cons _ (.cons_cons _ (.cons_cons _ (.cons _ (.cons_cons _ (sub_app hs2 (sub_skip hs1813 (.refl _)))))))))), ?_⟩
                  refine D_all [9] (by kernel_rfl) rfl ?_
                  refine R_do (Base.Le.refl _) rfl rfl (u_bslice (el := 54) [(0, .agg #[.int .i64 (x12), .int .i64 (x1924), .slice A1884 (l1887).length c1885])] [.int .i64 (x12), .int .i64 (x1924), .slice A1884 (l1887).length c1885] rfl (fun _ => by kernel_rfl)) ?_ ?_
                  ·
                   rintro _ _ ⟨g2014, rfl, rfl⟩
                   refine ⟨.inr (.cons _ (.cons_cons _ (.cons_cons _ (.cons_cons _ (.cons_cons _ (.cons_cons _ (.cons _ (.cons_cons _ (sub_app hs2 (sub_skip hs1813 (.refl _))))))))))), ?_⟩
                   have h2015 := room_some h2015
                   refine d_front2 [_, _, _, _, _, _, _, _] hs2 hs1813 R rfl ?_
                   refine D_all [10] (by kernel_rfl) rfl ?_
                   refine R_do (Base.Le.refl _) rfl rfl (u_appOS (r := rApiRoute) (l := l1819) [_, _, _, _, _, _, _, _] (hs2 ++ R) [[.int .i64 (x12), .int .i64 (x1924), .slice A1884 (l1887).length c1885]] [(⟨x12, x1924, l1887⟩ : ApiRoute)] rfl (by decide) sl47 inf54 rfl rfl rfl rfl (h1816.le (hle1829.trans (hle1838.trans (hle1881.trans (hle1941.trans (hle1960.trans hle2005)))))) rfl (fun w ho => Rd.own (i := 0) ho rfl) ⟨⟨[.int .i64 (x12)], _, rfl, rfl, ⟨[.int .i64 (x1924)], _, rfl, rfl, (RT.list_mk h2007)⟩⟩, trivial⟩ h2015) ?_ ?_
                   ·
                    rintro _ _ ⟨hs2016, rfl, h2017⟩
                    obtain ⟨A2018, c2019, rfl, _⟩ := h2017.form
                    refine ⟨.inr (.cons _ (.cons_cons _ (.cons_cons _ (.cons_cons _ (.cons_cons _ (.cons_cons _ (.cons _ (.cons_cons _ (sub_skip hs2016 (.refl _)))))))))), ?_⟩
                    refine E_in (.cons _ (.cons_cons _ (.cons_cons _ (.cons_cons _ (.cons_cons _ (.cons_cons _ (.cons _ (.cons_cons _ (sub_skip hs2016 (.refl _)))))))))) ?_
                    refine E_st 11 rfl (st_nil rfl) ?_
                    refine E_st 12 rfl (st_field rfl fld106_1) ?_
                    refine E_out ?_
                    refine D_all [13] (by kernel_rfl) rfl ?_
                    refine R_do (Base.Le.refl _) rfl rfl (u_store 6 rfl rfl siz47 rfl rfl (by simp)) ?_ ?_
                    ·
                     rintro _ _ rfl
                     refine ⟨.inr (.cons _ (.cons_cons _ (.cons_cons _ (.cons_cons _ (.cons_cons _ (.cons_cons _ (.cons _ (.cons_cons _ (sub_skip hs2016 (.refl _)))))))))), ?_⟩
                     refine D_done (by kernel_rfl) ?_
                     obtain rfl := some1 hm
                     refine x_pullb 7 rfl ?_
                     refine x_pullb 7 rfl ?_
                     refine x_pullb 7 rfl ?_
                     refine x_pullb 7 rfl ?_
                     refine x_pullb 6 rfl ?_
                     refine x_pullb 6 rfl ?_
                     refine x_front2 [_, _, _, _, _, _, _, _] hs2016 hs2 R rfl ?_
                     exact x_join (e' := [(4, .pointer (some ⟨g1357, 0, none⟩))]) ⟨rfl, trivial⟩ (.cons_cons _ (.cons_cons _ (.cons_cons _ (.cons_cons _ (.cons_cons _ (.cons_cons _ (.cons _ (.cons _ (.refl _))))))))) ⟨A2018, c2019, hs2016, rfl, rfl, hle2005, h2017, (OS.nz h2017 (by simp))⟩
                    exact R_nil
                   exact R_nil
                  exact R_nil
                 refine R_do (Base.Le.refl _) rfl rfl (u_bslice (el := 54) [(0, .agg #[.int .i64 (x12), .int .i64 (x1924), .slice A1884 (l1887).length c1885])] [.int .i64 (x12), .int .i64 (x1924), .slice A1884 (l1887).length c1885] rfl (fun _ => by kernel_rfl)) ?_ ?_
                 ·
                  rintro _ _ ⟨g2014, rfl, rfl⟩
                  refine ⟨.inr (.cons _ (.cons_cons _ (.cons_cons _ (.cons_cons _ (.cons_cons _ (.cons_cons _ (.cons _ (.cons_cons _ (sub_app hs2 (sub_skip hs1813 (.refl _))))))))))), ?_⟩
                  refine D_all [4] (by kernel_rfl) rfl ?_
                  refine R_do (Base.Le.refl _) rfl rfl (Stable.does (st_load 6 rfl one47 rfl rfl)) ?_ ?_
                  ·
                   rintro _ _ ⟨rfl, rfl⟩
                   refine ⟨.inr (.cons _ (.cons_cons _ (.cons_cons _ (.cons_cons _ (.cons_cons _ (.cons_cons _ (.cons _ (.cons_cons _ (sub_app hs2 (sub_skip hs1813 (.refl _))))))))))), ?_⟩
                   have h2015 := room_some h2015
                   refine d_front2 [_, _, _, _, _, _, _, _] hs2 hs1813 R rfl ?_
                   refine D_all [10] (by kernel_rfl) rfl ?_
                   refine R_do (Base.Le.refl _) rfl rfl (u_appOS (r := rApiRoute) (l := l1819) [_, _, _, _, _, _, _, _] (hs2 ++ R) [[.int .i64 (x12), .int .i64 (x1924), .slice A1884 (l1887).length c1885]] [(⟨x12, x1924, l1887⟩ : ApiRoute)] rfl (by decide) sl47 inf54 rfl rfl rfl rfl (h1816.le (hle1829.trans (hle1838.trans (hle1881.trans (hle1941.trans (hle1960.trans hle2005)))))) rfl (fun w ho => Rd.own (i := 0) ho rfl) ⟨⟨[.int .i64 (x12)], _, rfl, rfl, ⟨[.int .i64 (x1924)], _, rfl, rfl, (RT.list_mk h2007)⟩⟩, trivial⟩ h2015) ?_ ?_
                   ·
                    rintro _ _ ⟨hs2016, rfl, h2017⟩
                    obtain ⟨A2018, c2019, rfl, _⟩ := h2017.form
                    refine ⟨.inr (.cons _ (.cons_cons _ (.cons_cons _ (.cons_cons _ (.cons_cons _ (.cons_cons _ (.cons _ (.cons_cons _ (sub_skip hs2016 (.refl _)))))))))), ?_⟩
                    refine E_in (.cons _ (.cons_cons _ (.cons_cons _ (.cons_cons _ (.cons_cons _ (.cons_cons _ (.cons _ (.cons_cons _ (sub_skip hs2016 (.refl _)))))))))) ?_
                    refine E_st 11 rfl (st_nil rfl) ?_
                    refine E_st 12 rfl (st_field rfl fld106_1) ?_
                    refine E_out ?_
                    refine D_all [13] (by kernel_rfl) rfl ?_
                    refine R_do (Base.Le.refl _) rfl rfl (u_store 6 rfl rfl siz47 rfl rfl (by simp)) ?_ ?_
                    ·
                     rintro _ _ rfl
                     refine ⟨.inr (.cons _ (.cons_cons _ (.cons_cons _ (.cons_cons _ (.cons_cons _ (.cons_cons _ (.cons _ (.cons_cons _ (sub_skip hs2016 (.refl _)))))))))), ?_⟩
                     refine D_done (by kernel_rfl) ?_
                     obtain rfl := some1 hm
                     refine x_pullb 7 rfl ?_
                     refine x_pullb 7 rfl ?_
                     refine x_pullb 7 rfl ?_
                     refine x_pullb 7 rfl ?_
                     refine x_pullb 6 rfl ?_
                     refine x_pullb 6 rfl ?_
                     refine x_front2 [_, _, _, _, _, _, _, _] hs2016 hs2 R rfl ?_
                     exact x_join (e' := [(4, .pointer (some ⟨g1357, 0, none⟩))]) ⟨rfl, trivial⟩ (.cons_cons _ (.cons_cons _ (.cons_cons _ (.cons_cons _ (.cons_cons _ (.cons_cons _ (.cons _ (.cons _ (.refl _))))))))) ⟨A2018, c2019, hs2016, rfl, rfl, hle2005, h2017, (OS.nz h2017 (by simp))⟩
                    exact R_nil
                   exact R_nil
                  exact R_nil
                 exact R_nil
                ·
                 rintro b1993 _ _ ⟨A1997, c1998, hs1996, rfl, rfl, hle1994, h1999, hnz2001⟩
                 have hm := hk2002
                 refine c_region ?_
                 refine t_st rfl (st_load 0 rfl one104 rfl rfl) ?_
                 obtain ⟨⟨x2020, x2021⟩, hcl2022, hm⟩ := bindS hm
                 have hm := (unc2E hm)
                 refine t_pullb 4 rfl ?_
                 refine t_front2 [_, _, _, _, _, _] hs2 hs1996 R rfl ?_
                 refine t_out1 [_] [_, _, _, _, _] hs1996 (hs2 ++ R) rfl ?_
                 refine t_callG _ rfl call69 rfl (cLineFinderCount _ _ l17 l21 l25 l29 l33 x1817 x1818 l2000 g11 A14 c15 A18 c19 A22 c23 A26 c27 A30 c31 A1997 c1998 hs1996 (h16.le (hle1384.trans (hle1419.trans (hle1811.trans (hle1829.trans (hle1838.trans (hle1881.trans (hle1941.trans (hle1960.trans hle1994))))))))) (h20.le (hle1384.trans (hle1419.trans (hle1811.trans (hle1829.trans (hle1838.trans (hle1881.trans (hle1941.trans (hle1960.trans hle1994))))))))) (h24.le (hle1384.trans (hle1419.trans (hle1811.trans (hle1829.trans (hle1838.trans (hle1881.trans (hle1941.trans (hle1960.trans hle1994))))))))) (h28.le (hle1384.trans (hle1419.trans (hle1811.trans (hle1829.trans (hle1838.trans (hle1881.trans (hle1941.trans (hle1960.trans hle1994))))))))) (h32.le (hle1384.trans (hle1419.trans (hle1811.trans (hle1829.trans (hle1838.trans (hle1881.trans (hle1941.trans (hle1960.trans hle1994))))))))) h1999 hnz2001 x2020 x2021 hcl2022) ?_
                 rintro _ b2023 _ hle2024 ⟨rfl, rfl⟩
                 refine t_in1 [_] [_, _, _, _, _] hs1996 (hs2 ++ R) rfl ?_
                 refine t_nil ?_
                 refine x_block_normal ?_
                 refine x_pullb 4 rfl ?_
                 refine x_pullb 4 rfl ?_
                 refine x_pullb 4 rfl ?_
                 refine x_pullb 4 rfl ?_
                 refine x_front2 [_, _, _, _, _, _] hs1996 hs2 R rfl ?_
                 exact x_round 5 rfl (hle1838.trans (hle1881.trans (hle1941.trans (hle1960.trans (hle1994.trans hle2024))))) (.refl _) ⟨(x2020, x2021, l2000), (Option.some.inj hm).symm, ⟨A1997, c1998, hs1996, rfl, (hle1811.trans (hle1829.trans (hle1838.trans (hle1881.trans (hle1941.trans (hle1960.trans (hle1994.trans hle2024))))))), (h1999.le hle2024), hnz2001⟩⟩
            exact R_nil
      ·
       rintro ⟨x1817, x1818, l1819⟩ b1810 _ ⟨A1814, c1815, hs1813, rfl, hle1811, h1816, hnz1820⟩ hq2025
       rw [hq2025] at hk1823
       have hm := elimL hk1823
       have hm := (unc3E hm)
       refine x_block_normal ?_
       obtain ⟨rfl, rfl, rfl⟩ := some3 hm
       refine x_pullb 4 rfl ?_
       refine x_front2 [_, _, _, _, _] hs2 hs1813 R rfl ?_
       refine x_front2 [_, _, _, _, _] hs1813 hs2 R rfl ?_
       exact endM (hle1384.trans (hle1419.trans hle1811)) rfl (.cons_cons _ (.cons _ (.cons _ (.cons _ (.cons _ (.refl _)))))) ⟨A1814, c1815, hs1813, rfl, rfl, h1816, hnz1820⟩
     exact R_nil

set_option maxRecDepth 20000 in
theorem cLineFinderGrow (b : Base) (R : Hp) (x7 : Int) (l11 : (List ApiStep)) (s12 : LineEnd) (l16 : (List ByteArray)) (l20 : (List ApiSection)) (l24 : (List ApiLink)) (l28 : (List ApiSignal)) (l32 : (List ApiGate)) (x33 : Int) (x34 : Bool) (l35 : (List ApiRoute)) (g6 : Nat) (A8 : Option Addr) (c9 : Nat) (A13 : Option Addr) (c14 : Nat) (A17 : Option Addr) (c18 : Nat) (A21 : Option Addr) (c22 : Nat) (A25 : Option Addr) (c26 : Nat) (A29 : Option Addr) (c30 : Nat) (A3 : Option Addr) (c4 : Nat) (hs2 : Hp) (h10 : FZ rApiStep b.w A8 c9 l11) (h15 : FZ RT.str b.w A13 c14 l16) (h19 : FZ rApiSection b.w A17 c18 l20) (h23 : FZ rApiLink b.w A21 c22 l24) (h27 : FZ rApiSignal b.w A25 c26 l28) (h31 : FZ rApiGate b.w A29 c30 l32) (h5 : OS 54 (OT.fr rApiRoute) b.w (.slice A3 l35.length c4) l35 hs2) (hnz36 : (A3 = none ↔ l35 = [])) (x708 : Int) (x709 : Bool) (l710 : (List ApiRoute)) (hm : mLineFinderGrow x7 l11 s12 l16 l20 l24 l28 l32 x33 x34 l35 = some (x708, x709, l710)) :
    CallsG Tryz.prog 47 [.pointer (some ⟨g6, 0, none⟩), .int .i64 (x7), .slice A8 (l11).length c9, .agg #[.int .i64 (s12.section_), .int .i64 (s12.end_)]] b ((g6, Cl 106 [.slice A13 (l16).length c14, .slice A17 (l20).length c18, .slice A21 (l24).length c22, .slice A25 (l28).length c26, .slice A29 (l32).length c30, .slice A3 (l35).length c4, .int .i64 (x33), .bool (x34)]) :: (hs2 ++ R)) (fun v b' hp' => ∃ (A705 : Option Addr), ∃ (c706 : Nat), ∃ (hs704 : Hp), .tuple #[] = v ∧ (g6, Cl 106 [.slice A13 (l16).length c14, .slice A17 (l20).length c18, .slice A21 (l24).length c22, .slice A25 (l28).length c26, .slice A29 (l32).length c30, .slice A705 (l710).length c706, .int .i64 (x708), .bool (x709)]) :: (hs704 ++ R) = hp' ∧ OS 54 (OT.fr rApiRoute) b'.w (.slice A705 l710.length c706) l710 hs704 ∧ (A705 = none ↔ l710 = [])) := by
  refine fn_enterG 103 Tryz.func47 rfl Tryz.ntmps47 rfl ?_
  unfold mLineFinderGrow at hm
  refine c_sr ?_
  refine t_do rfl (u_box _ rfl rfl) ?_
  rintro _ _ ⟨g712, rfl, rfl⟩
  refine t_do rfl (u_box _ rfl rfl) ?_
  rintro _ _ ⟨g713, rfl, rfl⟩
  refine t_do rfl (u_box _ rfl rfl) ?_
  rintro _ _ ⟨g714, rfl, rfl⟩
  refine t_do rfl (u_box _ rfl rfl) ?_
  rintro _ _ ⟨g715, rfl, rfl⟩
  refine t_ne ?_
  obtain ⟨x741, hj742, hk742⟩ := bindS hm
  refine c_join (fun b738 e' hp' => ∃ (g740 : Nat), [(4, .pointer (some ⟨g712, 0, none⟩)), (5, .pointer (some ⟨g713, 0, none⟩)), (6, .pointer (some ⟨g714, 0, none⟩)), (7, .pointer (some ⟨g715, 0, none⟩)), (8, .pointer (some ⟨g740, 0, none⟩))] = e' ∧ (g712, Cl 104 [.pointer (some ⟨g6, 0, none⟩)]) :: (g713, Cl 3 [.int .i64 (x7)]) :: (g714, Cl 52 [.slice A8 (l11).length c9]) :: (g715, Cl 109 [.int .i64 (s12.section_), .int .i64 (s12.end_)]) :: (g740, Cl 3 [.int .i64 (x741)]) :: (g6, Cl 106 [.slice A13 (l16).length c14, .slice A17 (l20).length c18, .slice A21 (l24).length c22, .slice A25 (l28).length c26, .slice A29 (l32).length c30, .slice A3 (l35).length c4, .int .i64 (x33), .bool (x34)]) :: (hs2 ++ R) = hp' ∧ b.Le b738) ?_ ?_
  ·
   have hm := hj742
   obtain ⟨x754, h755, hm⟩ := bindS hm
   refine D_drawI mixed (.refl _) ?_
   refine E_st 0 rfl (st_load 3 rfl one104 rfl rfl) ?_
   refine E_st 1 rfl (st_nil rfl) ?_
   refine E_st 2 rfl (st_field rfl fld106_0) ?_
   refine E_st 3 rfl (st_field rfl fld28_3) ?_
   refine E_st 4 rfl (st_load 4 rfl one25 rfl rfl) ?_
   refine E_st 5 rfl (st_load 2 rfl one3 rfl rfl) ?_
   obtain ⟨j756, hj757, hx758⟩ := idx_some h755
   obtain ⟨cs759, hr760, hcs761, hA762, hlt763⟩ := FZ.get (sz := 2) rfl (by decide) h27 hx758
   obtain ⟨_, _, rfl, rfl, rfl⟩ := hr760
   refine E_st 6 rfl (st_index_old j756 rfl rfl hj757 hlt763 hA762 sl25) ?_
   refine E_st 7 rfl (st_field_old rfl hA762 fld96_0) ?_
   refine E_st 8 rfl (st_load_old rfl one3 (hcs761 0 _ rfl)) ?_
   refine E_out ?_
   refine D_all [9] (by kernel_rfl) rfl ?_
   refine R_do (Base.Le.refl _) rfl rfl (u_alloc [.int .i64 0] zero3 rfl) ?_ ?_
   ·
    rintro _ _ ⟨g764, rfl, rfl⟩
    refine ⟨.inr (.cons _ (.refl _)), ?_⟩
    refine D_all [10] (by kernel_rfl) rfl ?_
    refine R_do (Base.Le.refl _) rfl rfl (u_store 0 rfl rfl siz3 rfl rfl (by simp)) ?_ ?_
    ·
     rintro _ _ rfl
     refine ⟨.inl (by kernel_rfl), ?_⟩
     refine D_done (by kernel_rfl) ?_
     obtain rfl := some1 hm
     refine x_pullb 5 rfl ?_
     refine x_pullb 1 rfl ?_
     refine x_pullb 2 rfl ?_
     refine x_pullb 3 rfl ?_
     refine x_pullb 4 rfl ?_
     refine x_pullb 5 rfl ?_
     exact x_join (e' := [(4, .pointer (some ⟨g712, 0, none⟩)), (5, .pointer (some ⟨g713, 0, none⟩)), (6, .pointer (some ⟨g714, 0, none⟩)), (7, .pointer (some ⟨g715, 0, none⟩)), (8, .pointer (some ⟨g764, 0, none⟩))]) ⟨rfl, rfl, rfl, rfl, rfl, trivial⟩ (.refl _) ⟨g764, rfl, rfl, (Base.Le.refl _)⟩
    exact R_nil
   exact R_nil
  ·
   rintro b738 _ _ ⟨g740, rfl, rfl, hle739⟩
   have hm := hk742
   refine c_seq ?_
   obtain ⟨l771, hcl772, hm⟩ := bindS hm
   refine D_drawI mixed (.refl _) ?_
   refine E_st 0 rfl (st_load 0 rfl one104 rfl rfl) ?_
   refine E_st 1 rfl (st_nil rfl) ?_
   refine E_st 2 rfl (st_field rfl fld106_0) ?_
   refine E_st 3 rfl (st_loadD (vs := [_, _, _, _, _]) 5 5 rfl agg28 rfl rfl rfl) ?_
   refine E_st 4 rfl (st_loadD (vs := [_, _]) 3 2 rfl agg109 rfl rfl rfl) ?_
   refine E_out ?_
   refine D_all [5] (by kernel_rfl) rfl ?_
   refine R_callGl (Base.Le.refl _) rfl rfl _ call56 rfl (cLineWalk _ _ (⟨l16, l20, l24, l28, l32⟩ : ApiNet) s12 A13 c14 A17 c18 A21 c22 A25 c26 A29 c30 (h15.le hle739) (h19.le hle739) (h23.le hle739) (h27.le hle739) (h31.le hle739) l771 hcl772) ?_ ?_
   ·
    rintro _ b773 _ hle774 ⟨v775, rfl, rfl, h776⟩
    refine ⟨.inr (.refl _), ?_⟩
    refine D_done (by kernel_rfl) ?_
    refine x_then_normal ?_
    refine c_block ?_
    obtain ⟨t1176, hl1177, hk1178⟩ := bindS hm
    refine c_pullb 5 rfl ?_
    refine c_pullb 5 rfl ?_
    refine c_pullb 4 rfl ?_
    refine c_pullb 4 rfl ?_
    refine c_pullb 4 rfl ?_
    have he1179 := (h5.le (hle739.trans hle774))
    refine c_rangeM (fun x : ApiStep => (.agg #[.int .i64 x.Section, .int .i64 x.In, .int .i64 x.Out] : Value)) (unc3 fun x1172 x1173 l1174 => fun b1165 hp' => ∃ (A1169 : Option Addr), ∃ (c1170 : Nat), ∃ (hs1168 : Hp), (g712, Cl 104 [.pointer (some ⟨g6, 0, none⟩)]) :: (g713, Cl 3 [.int .i64 (x7)]) :: (g714, Cl 52 [.slice A8 (l11).length c9]) :: (g740, Cl 3 [.int .i64 (x741)]) :: (g6, Cl 106 [.slice A13 (l16).length c14, .slice A17 (l20).length c18, .slice A21 (l24).length c22, .slice A25 (l28).length c26, .slice A29 (l32).length c30, .slice A1169 (l1174).length c1170, .int .i64 (x1172), .bool (x1173)]) :: (hs1168 ++ R) = hp' ∧ b773.Le b1165 ∧ OS 54 (OT.fr rApiRoute) b1165.w (.slice A1169 l1174.length c1170) l1174 hs1168 ∧ (A1169 = none ↔ l1174 = [])) rfl h776 hl1177 (e' := [(4, .pointer (some ⟨g712, 0, none⟩)), (5, .pointer (some ⟨g713, 0, none⟩)), (6, .pointer (some ⟨g714, 0, none⟩)), (8, .pointer (some ⟨g740, 0, none⟩))]) ⟨rfl, rfl, rfl, rfl, trivial⟩ (.cons_cons _ (.cons_cons _ (.cons_cons _ (.cons_cons _ (.cons_cons _ (.cons _ (.refl _))))))) rfl (fun dk hdk => ⟨A3, c4, hs2, rfl, Base.Le.dks hdk, he1179, hnz36⟩) ?_ ?_ (fun x hx => (hle739.trans hle774).dk x hx)
    ·
     rintro r1180 l1181 x1182 ⟨x1172, x1173, l1174⟩ b1165 b1183 _ oL777 ⟨A1169, c1170, hs1168, rfl, hle1166, h1171, hnz1175⟩ hle1184 hstepL777 houtL777
     unfold mLineFinderGrow_L777 at hstepL777
     have hm := (unc3E hstepL777)
     refine c_region ?_
     refine t_do rfl (u_alloc [.int .i64 0, .int .i64 0, .int .i64 0] zero56 rfl) ?_
     rintro _ _ ⟨g1185, rfl, rfl⟩
     refine t_do rfl (u_storeN (vs := [_, _, _]) 0 3 rfl rfl rfl siz56 rfl (mem_c rfl (mem_c rfl (mem_c rfl mem_n))) rfl (by simp)) ?_
     rintro _ _ rfl
     refine t_nil ?_
     refine x_begin 1 rfl ?_
     refine c_block ?_
     refine c_seq ?_
     refine c_sr ?_
     refine t_st rfl (st_load 2 rfl one104 rfl rfl) ?_
     refine t_st rfl (st_nil rfl) ?_
     refine t_st rfl (st_field rfl fld106_3) ?_
     refine t_st rfl (st_load 6 rfl one4 rfl rfl) ?_
     refine t_ne ?_
     refine c_cond _ rfl (fun hc1186 => ?_) (fun hc1186 => ?_)
     ·
      rw [if_pos hc1186] at hm
      refine c_ret ?_
      refine x_then_ret ?_
      refine x_block_ret ?_
      refine x_leaveR 0 rfl (Base.Le.refl _) ?_
      refine c_ret ?_
      refine x_block_ret ?_
      have hq1187 := houtL777 _ (Option.some.inj hm).symm
      rw [hq1187] at hk1178
      have hm := elimR hk1178
      obtain ⟨rfl, rfl, rfl⟩ := some3 hm
      refine x_pullb 5 rfl ?_
      have he1188 := (h1171.le hle1184)
      exact retM (rs := []) [] (hle739.trans (hle774.trans (hle1166.trans hle1184))) (by decide) rfl trivial rfl (.cons_cons _ (.cons _ (.cons _ (.cons _ (.cons _ (.cons _ (.refl _))))))) ⟨A1169, c1170, hs1168, rfl, rfl, he1188, hnz1175⟩
     ·
      rw [if_neg (fun hh => Bool.noConfusion (hh.symm.trans hc1186))] at hm
      refine c_skip ?_
      refine x_then_normal ?_
      refine c_seq ?_
      obtain ⟨x1194, hj1195, hk1195⟩ := bindS hm
      refine c_join (fun b1192 e' hp' => [(4, .pointer (some ⟨g712, 0, none⟩)), (5, .pointer (some ⟨g713, 0, none⟩)), (6, .pointer (some ⟨g714, 0, none⟩)), (9, .pointer (some ⟨g1185, 0, none⟩)), (44, .bool (x1194))] = e' ∧ (g712, Cl 104 [.pointer (some ⟨g6, 0, none⟩)]) :: (g713, Cl 3 [.int .i64 (x7)]) :: (g714, Cl 52 [.slice A8 (l11).length c9]) :: (g1185, Cl 56 [.int .i64 (x1182.Section), .int .i64 (x1182.In), .int .i64 (x1182.Out)]) :: (g740, Cl 3 [.int .i64 (x741)]) :: (g6, Cl 106 [.slice A13 (l16).length c14, .slice A17 (l20).length c18, .slice A21 (l24).length c22, .slice A25 (l28).length c26, .slice A29 (l32).length c30, .slice A1169 (l1174).length c1170, .int .i64 (x1172), .bool (x1173)]) :: (l1181, Lb r1180) :: (hs1168 ++ R) = hp' ∧ b1183.Le b1192) ?_ ?_
      ·
       have hm := hj1195
       refine c_region ?_
       refine t_st rfl (st_field rfl fld56_0) ?_
       refine t_st rfl (st_load 1 rfl one3 rfl rfl) ?_
       refine t_st rfl (st_load 5 rfl one3 rfl rfl) ?_
       refine t_bool rfl (st_eql rfl rfl) (fun hc1196 => ?_) (fun hc1196 => ?_)
       ·
        rw [if_pos hc1196] at hm
        refine t_mv rfl rfl ?_
        refine t_no 39 rfl rfl rfl rfl rfl ?_
        refine t_no 39 rfl rfl rfl rfl rfl ?_
        refine t_no 39 rfl rfl rfl rfl rfl ?_
        refine t_no 39 rfl rfl rfl rfl rfl ?_
        refine t_st rfl (st_pick_t rfl rfl) ?_
        refine t_nil ?_
        obtain rfl := some1 hm
        refine x_pullb 6 rfl ?_
        refine x_pullb 6 rfl ?_
        refine x_pullb 3 rfl ?_
        refine x_pullb 6 rfl ?_
        refine x_pullb 6 rfl ?_
        refine x_pullb 6 rfl ?_
        exact x_join (e' := [(4, .pointer (some ⟨g712, 0, none⟩)), (5, .pointer (some ⟨g713, 0, none⟩)), (6, .pointer (some ⟨g714, 0, none⟩)), (9, .pointer (some ⟨g1185, 0, none⟩)), (44, .bool (true))]) ⟨rfl, rfl, rfl, rfl, rfl, trivial⟩ (.refl _) ⟨rfl, rfl, (Base.Le.refl _)⟩
       ·
        rw [if_neg hc1196] at hm
        refine t_mv rfl rfl ?_
        refine t_yes 39 rfl rfl rfl ?_
        refine t_st rfl (st_load 4 rfl one52 rfl rfl) ?_
        refine t_yes 39 rfl rfl rfl ?_
        refine t_st rfl (st_field rfl fld56_0) ?_
        refine t_yes 39 rfl rfl rfl ?_
        refine t_st rfl (st_load 1 rfl one3 rfl rfl) ?_
        refine t_yes 39 rfl rfl rfl ?_
        obtain ⟨x1197, hcl1198, hm⟩ := bindS hm
        refine t_do rfl (u_callW0 _ call40 rfl (fun w ho => cLineStands _ [] l11 x1182.Section A8 c9 ((h10.le (hle739.trans (hle774.trans (hle1166.trans hle1184)))).old ho) x1197 hcl1198) (fun _ _ _ h => h.2.symm)) ?_
        rintro _ _ ⟨⟨_, rfl, _⟩, rfl⟩
        refine t_st rfl (st_pick_f rfl rfl) ?_
        refine t_nil ?_
        obtain rfl := some1 hm
        refine x_pullb 6 rfl ?_
        refine x_pullb 6 rfl ?_
        refine x_pullb 3 rfl ?_
        refine x_pullb 6 rfl ?_
        refine x_pullb 6 rfl ?_
        refine x_pullb 6 rfl ?_
        exact x_join (e' := [(4, .pointer (some ⟨g712, 0, none⟩)), (5, .pointer (some ⟨g713, 0, none⟩)), (6, .pointer (some ⟨g714, 0, none⟩)), (9, .pointer (some ⟨g1185, 0, none⟩)), (44, .bool (x1197))]) ⟨rfl, rfl, rfl, rfl, rfl, trivial⟩ (.refl _) ⟨rfl, rfl, (Base.Le.refl _)⟩
      ·
       rintro b1192 _ _ ⟨rfl, rfl, hle1193⟩
       have hm := hk1195
       refine c_cond _ rfl (fun hc1199 => ?_) (fun hc1199 => ?_)
       ·
        rw [if_pos hc1199] at hm
        refine c_sr ?_
        refine t_st rfl (st_load 0 rfl one104 rfl rfl) ?_
        obtain ⟨⟨x1200, x1201⟩, hcl1202, hm⟩ := bindS hm
        have hm := (unc2E hm)
        refine t_pullb 5 rfl ?_
        refine t_out1 [_] [_, _, _, _, _, _] hs1168 R rfl ?_
        refine t_callG _ rfl call69 rfl (cLineFinderCount _ _ l16 l20 l24 l28 l32 x1172 x1173 l1174 g6 A13 c14 A17 c18 A21 c22 A25 c26 A29 c30 A1169 c1170 hs1168 (h15.le (hle739.trans (hle774.trans (hle1166.trans (hle1184.trans hle1193))))) (h19.le (hle739.trans (hle774.trans (hle1166.trans (hle1184.trans hle1193))))) (h23.le (hle739.trans (hle774.trans (hle1166.trans (hle1184.trans hle1193))))) (h27.le (hle739.trans (hle774.trans (hle1166.trans (hle1184.trans hle1193))))) (h31.le (hle739.trans (hle774.trans (hle1166.trans (hle1184.trans hle1193))))) (h1171.le (hle1184.trans hle1193)) hnz1175 x1200 x1201 hcl1202) ?_
        rintro _ b1203 _ hle1204 ⟨rfl, rfl⟩
        refine t_in1 [_] [_, _, _, _, _, _] hs1168 R rfl ?_
        refine t_ne ?_
        refine c_ret ?_
        refine x_then_ret ?_
        refine x_block_ret ?_
        refine x_leaveR 6 rfl (hle1193.trans hle1204) ?_
        refine c_ret ?_
        refine x_block_ret ?_
        have hq1205 := houtL777 _ (Option.some.inj hm).symm
        rw [hq1205] at hk1178
        have hm := elimR hk1178
        obtain ⟨rfl, rfl, rfl⟩ := some3 hm
        have he1206 := (h1171.le (hle1184.trans (hle1193.trans hle1204)))
        exact retM (rs := []) [] (hle739.trans (hle774.trans (hle1166.trans (hle1184.trans (hle1193.trans hle1204))))) (by decide) rfl trivial rfl (.cons_cons _ (.cons _ (.cons _ (.cons _ (.cons _ (.cons _ (.refl _))))))) ⟨A1169, c1170, hs1168, rfl, rfl, he1206, hnz1175⟩
       ·
        rw [if_neg (fun hh => Bool.noConfusion (hh.symm.trans hc1199))] at hm
        refine c_skip ?_
        refine x_then_normal ?_
        obtain ⟨l1242, hj1244, hk1244⟩ := bindS hm
        refine c_join (fun b1235 e' hp' => ∃ (A1239 : Option Addr), ∃ (c1240 : Nat), ∃ (hs1238 : Hp), [(4, .pointer (some ⟨g712, 0, none⟩)), (5, .pointer (some ⟨g713, 0, none⟩)), (9, .pointer (some ⟨g1185, 0, none⟩)), (10, .slice A1239 (l1242).length c1240)] = e' ∧ (g712, Cl 104 [.pointer (some ⟨g6, 0, none⟩)]) :: (g713, Cl 3 [.int .i64 (x7)]) :: (g1185, Cl 56 [.int .i64 (x1182.Section), .int .i64 (x1182.In), .int .i64 (x1182.Out)]) :: (g714, Cl 52 [.slice A8 (l11).length c9]) :: (g740, Cl 3 [.int .i64 (x741)]) :: (g6, Cl 106 [.slice A13 (l16).length c14, .slice A17 (l20).length c18, .slice A21 (l24).length c22, .slice A25 (l28).length c26, .slice A29 (l32).length c30, .slice A1169 (l1174).length c1170, .int .i64 (x1172), .bool (x1173)]) :: (l1181, Lb r1180) :: (hs1238 ++ (hs1168 ++ R)) = hp' ∧ b1192.Le b1235 ∧ OS 56 (OT.fr rApiStep) b1235.w (.slice A1239 l1242.length c1240) l1242 hs1238 ∧ (A1239 = none ↔ l1242 = [])) ?_ ?_
        ·
         have hm := hj1244
         obtain ⟨l1259, hcl1260, hm⟩ := bindS hm
         obtain ⟨_, h1268, hm⟩ := bindS hm
         refine D_drawI mixed (.refl _) ?_
         refine E_st 0 rfl (st_load 2 rfl one52 rfl rfl) ?_
         refine E_st 2 rfl (st_loadD (vs := [_, _, _]) 3 3 rfl agg56 rfl rfl rfl) ?_
         refine E_out ?_
         refine D_all [1, 3] (by kernel_rfl) rfl ?_
         refine R_callGl (Base.Le.refl _) rfl rfl _ call70 rfl (cSlicesClone _ _ l11 A8 c9 (h10.le (hle739.trans (hle774.trans (hle1166.trans (hle1184.trans hle1193))))) l1259 hcl1260) ?_ ?_
         ·
          rintro _ b1261 _ hle1262 ⟨A1263, c1264, hs1265, rfl, rfl, h1266⟩
          refine ⟨.inr (sub_skip hs1265 (.refl _)), ?_⟩
          refine d_in1 [] [_, _, _, _, _, _, _] hs1265 (hs1168 ++ R) rfl ?_
          refine D_all [3] (by kernel_rfl) rfl ?_
          refine R_do hle1262 rfl rfl (u_bslice (el := 56) [(0, .agg #[.int .i64 (x1182.Section), .int .i64 (x1182.In), .int .i64 (x1182.Out)])] [.int .i64 (x1182.Section), .int .i64 (x1182.In), .int .i64 (x1182.Out)] rfl (fun _ => by kernel_rfl)) ?_ ?_
          ·
           rintro _ _ ⟨g1267, rfl, rfl⟩
           refine ⟨.inr (.cons _ (.cons_cons _ (.cons_cons _ (.cons_cons _ (.cons_cons _ (.cons_cons _ (.cons_cons _ (.cons_cons _ (sub_skip hs1265 (.refl _)))))))))), ?_⟩
           have h1268 := room_some h1268
           refine D_all [4] (by kernel_rfl) rfl ?_
           refine R_do hle1262 rfl rfl (u_appOS (r := rApiStep) (l := l1259) [_, _, _, _, _, _, _, _] (hs1168 ++ R) [[.int .i64 (x1182.Section), .int .i64 (x1182.In), .int .i64 (x1182.Out)]] [x1182] rfl (by decide) sl52 inf56 rfl rfl rfl rfl h1266 rfl (fun w ho => Rd.own (i := 0) ho rfl) ⟨⟨[.int .i64 (x1182.Section)], _, rfl, rfl, ⟨[.int .i64 (x1182.In)], _, rfl, rfl, rfl⟩⟩, trivial⟩ h1268) ?_ ?_
           ·
            rintro _ _ ⟨hs1269, rfl, h1270⟩
            obtain ⟨A1271, c1272, rfl, _⟩ := h1270.form
            refine ⟨.inr (.cons _ (.cons_cons _ (.cons_cons _ (.cons_cons _ (.cons_cons _ (.cons_cons _ (.cons_cons _ (.cons_cons _ (sub_skip hs1269 (.refl _)))))))))), ?_⟩
            refine D_st hle1262 5 rfl (by kernel_rfl) (by kernel_rfl) (by kernel_rfl) rfl (st_assign rfl) (.cons _ (.cons_cons _ (.cons_cons _ (.cons_cons _ (.cons_cons _ (.cons_cons _ (.cons_cons _ (.cons_cons _ (sub_skip hs1269 (.refl _)))))))))) ?_
            refine D_done (by kernel_rfl) ?_
            obtain rfl := some1 hm
            refine x_pullb 7 rfl ?_
            refine x_pullb 7 rfl ?_
            refine x_pullb 7 rfl ?_
            refine x_pullb 6 rfl ?_
            refine x_pullb 7 rfl ?_
            refine x_pullb 7 rfl ?_
            refine x_pullb 7 rfl ?_
            refine x_front2 [_, _, _, _, _, _, _, _] hs1269 hs1168 R rfl ?_
            refine x_front2 [_, _, _, _, _, _, _, _] hs1168 hs1269 R rfl ?_
            exact x_join (e' := [(4, .pointer (some ⟨g712, 0, none⟩)), (5, .pointer (some ⟨g713, 0, none⟩)), (9, .pointer (some ⟨g1185, 0, none⟩)), (10, .slice A1271 (l1259 ++ [x1182]).length c1272)]) ⟨rfl, rfl, rfl, rfl, trivial⟩ (.cons_cons _ (.cons_cons _ (.cons_cons _ (.cons_cons _ (.cons_cons _ (.cons_cons _ (.cons_cons _ (.cons _ (.refl _))))))))) ⟨A1271, c1272, hs1269, rfl, rfl, hle1262, h1270, (OS.nz h1270 (by simp))⟩
           exact R_nil
          exact R_nil
         refine R_do (Base.Le.refl _) rfl rfl (u_bslice (el := 56) [(0, .agg #[.int .i64 (x1182.Section), .int .i64 (x1182.In), .int .i64 (x1182.Out)])] [.int .i64 (x1182.Section), .int .i64 (x1182.In), .int .i64 (x1182.Out)] rfl (fun _ => by kernel_rfl)) ?_ ?_
         ·
          rintro _ _ ⟨g1267, rfl, rfl⟩
          refine ⟨.inr (.cons _ (.refl _)), ?_⟩
          refine D_all [1] (by kernel_rfl) rfl ?_
          refine R_callGl (Base.Le.refl _) rfl rfl _ call70 rfl (cSlicesClone _ _ l11 A8 c9 (h10.le (hle739.trans (hle774.trans (hle1166.trans (hle1184.trans hle1193))))) l1259 hcl1260) ?_ ?_
          ·
           rintro _ b1261 _ hle1262 ⟨A1263, c1264, hs1265, rfl, rfl, h1266⟩
           refine ⟨.inr (sub_skip hs1265 (.cons _ (.refl _))), ?_⟩
           refine d_in1 [] [_, _, _, _, _, _, _, _] hs1265 (hs1168 ++ R) rfl ?_
           have h1268 := room_some h1268
           refine D_all [4] (by kernel_rfl) rfl ?_
           refine R_do hle1262 rfl rfl (u_appOS (r := rApiStep) (l := l1259) [_, _, _, _, _, _, _, _] (hs1168 ++ R) [[.int .i64 (x1182.Section), .int .i64 (x1182.In), .int .i64 (x1182.Out)]] [x1182] rfl (by decide) sl52 inf56 rfl rfl rfl rfl h1266 rfl (fun w ho => Rd.own (i := 0) ho rfl) ⟨⟨[.int .i64 (x1182.Section)], _, rfl, rfl, ⟨[.int .i64 (x1182.In)], _, rfl, rfl, rfl⟩⟩, trivial⟩ h1268) ?_ ?_
           ·
            rintro _ _ ⟨hs1269, rfl, h1270⟩
            obtain ⟨A1271, c1272, rfl, _⟩ := h1270.form
            refine ⟨.inr (.cons _ (.cons_cons _ (.cons_cons _ (.cons_cons _ (.cons_cons _ (.cons_cons _ (.cons_cons _ (.cons_cons _ (sub_skip hs1269 (.refl _)))))))))), ?_⟩
            refine D_st hle1262 5 rfl (by kernel_rfl) (by kernel_rfl) (by kernel_rfl) rfl (st_assign rfl) (.cons _ (.cons_cons _ (.cons_cons _ (.cons_cons _ (.cons_cons _ (.cons_cons _ (.cons_cons _ (.cons_cons _ (sub_skip hs1269 (.refl _)))))))))) ?_
            refine D_done (by kernel_rfl) ?_
            obtain rfl := some1 hm
            refine x_pullb 7 rfl ?_
            refine x_pullb 7 rfl ?_
            refine x_pullb 7 rfl ?_
            refine x_pullb 6 rfl ?_
            refine x_pullb 7 rfl ?_
            refine x_pullb 7 rfl ?_
            refine x_pullb 7 rfl ?_
            refine x_front2 [_, _, _, _, _, _, _, _] hs1269 hs1168 R rfl ?_
            refine x_front2 [_, _, _, _, _, _, _, _] hs1168 hs1269 R rfl ?_
            exact x_join (e' := [(4, .pointer (some ⟨g712, 0, none⟩)), (5, .pointer (some ⟨g713, 0, none⟩)), (9, .pointer (some ⟨g1185, 0, none⟩)), (10, .slice A1271 (l1259 ++ [x1182]).length c1272)]) ⟨rfl, rfl, rfl, rfl, trivial⟩ (.cons_cons _ (.cons_cons _ (.cons_cons _ (.cons_cons _ (.cons_cons _ (.cons_cons _ (.cons_cons _ (.cons _ (.refl _))))))))) ⟨A1271, c1272, hs1269, rfl, rfl, hle1262, h1270, (OS.nz h1270 (by simp))⟩
           exact R_nil
          exact R_nil
         exact R_nil
        ·
         rintro b1235 _ _ ⟨A1239, c1240, hs1238, rfl, rfl, hle1236, h1241, hnz1243⟩
         have hm := hk1244
         refine c_seq ?_
         refine c_sr ?_
         refine t_mv rfl rfl ?_
         refine t_st rfl (st_len rfl sl52) ?_
         refine t_st rfl (st_gtr rfl rfl) ?_
         refine t_ne ?_
         refine c_cond _ rfl (fun hc1273 => ?_) (fun hc1273 => ?_)
         ·
          rw [if_pos (of_decide_eq_true hc1273)] at hm
          refine c_sr ?_
          refine t_st rfl (st_load 0 rfl one104 rfl rfl) ?_
          refine t_st rfl (st_nil rfl) ?_
          refine t_st rfl (st_field rfl fld106_3) ?_
          refine t_do rfl (u_store 5 rfl rfl siz4 rfl rfl (by simp)) ?_
          rintro _ _ rfl
          refine t_ne ?_
          refine c_ret ?_
          refine x_then_ret ?_
          refine x_block_ret ?_
          refine x_leaveR 6 rfl (hle1193.trans hle1236) ?_
          refine c_ret ?_
          refine x_block_ret ?_
          have hq1274 := houtL777 _ (Option.some.inj hm).symm
          rw [hq1274] at hk1178
          have hm := elimR hk1178
          obtain ⟨rfl, rfl, rfl⟩ := some3 hm
          refine x_pullb 5 rfl ?_
          refine x_front2 [_, _, _, _, _, _] hs1238 hs1168 R rfl ?_
          have he1275 := (h1171.le (hle1184.trans (hle1193.trans hle1236)))
          exact retM (rs := []) [] (hle739.trans (hle774.trans (hle1166.trans (hle1184.trans (hle1193.trans hle1236))))) (by decide) rfl trivial rfl (.cons_cons _ (.cons _ (.cons _ (.cons _ (.cons _ (.cons _ (sub_app hs1168 (sub_skip hs1238 (.refl _))))))))) ⟨A1169, c1170, hs1168, rfl, rfl, he1275, hnz1175⟩
         ·
          rw [if_neg (of_decide_eq_false hc1273)] at hm
          refine c_skip ?_
          refine x_then_normal ?_
          refine c_sr ?_
          refine t_st rfl (st_field rfl fld56_0) ?_
          refine t_st rfl (st_load 2 rfl one3 rfl rfl) ?_
          refine t_st rfl (st_field rfl fld56_2) ?_
          refine t_st rfl (st_load 2 rfl one3 rfl rfl) ?_
          refine t_st rfl (st_build (v := .agg #[.int .i64 (x1182.Section), .int .i64 (x1182.Out)]) [(0, .int .i64 (x1182.Section)), (1, .int .i64 (x1182.Out))] rfl (fun _ => by kernel_rfl)) ?_
          refine t_do rfl (u_alloc [.int .i64 0, .int .i64 0] zero109 rfl) ?_
          rintro _ _ ⟨g1276, rfl, rfl⟩
          refine t_do rfl (u_storeN (vs := [_, _]) 0 2 rfl rfl rfl siz109 rfl (mem_c rfl (mem_c rfl mem_n)) rfl (by simp)) ?_
          rintro _ _ rfl
          refine t_ne ?_
          refine c_seq ?_
          obtain ⟨x1279, hcl1280, hm⟩ := bindS hm
          refine D_drawI mixed (.refl _) ?_
          refine E_st 0 rfl (st_load 1 rfl one104 rfl rfl) ?_
          refine E_st 1 rfl (st_nil rfl) ?_
          refine E_st 2 rfl (st_field rfl fld106_0) ?_
          refine E_st 3 rfl (st_loadD (vs := [_, _, _, _, _]) 6 5 rfl agg28 rfl rfl rfl) ?_
          refine E_st 4 rfl (st_loadD (vs := [_, _]) 0 2 rfl agg109 rfl rfl rfl) ?_
          refine E_out ?_
          refine D_all [5] (by kernel_rfl) rfl ?_
          refine R_do (Base.Le.refl _) rfl rfl (u_callW0 _ call60 rfl (fun w ho => cLineSignal _ [] (⟨l16, l20, l24, l28, l32⟩ : ApiNet) (⟨x1182.Section, x1182.Out⟩ : LineEnd) A13 c14 A17 c18 A21 c22 A25 c26 A29 c30 ((h15.le (hle739.trans (hle774.trans (hle1166.trans (hle1184.trans (hle1193.trans hle1236)))))).old ho) ((h19.le (hle739.trans (hle774.trans (hle1166.trans (hle1184.trans (hle1193.trans hle1236)))))).old ho) ((h23.le (hle739.trans (hle774.trans (hle1166.trans (hle1184.trans (hle1193.trans hle1236)))))).old ho) ((h27.le (hle739.trans (hle774.trans (hle1166.trans (hle1184.trans (hle1193.trans hle1236)))))).old ho) ((h31.le (hle739.trans (hle774.trans (hle1166.trans (hle1184.trans (hle1193.trans hle1236)))))).old ho) x1279 hcl1280) (fun _ _ _ h => h.2.symm)) ?_ ?_
          ·
           rintro _ _ ⟨⟨_, rfl, _⟩, rfl⟩
           refine ⟨.inr (.refl _), ?_⟩
           refine E_in (.refl _) ?_
           refine E_st 6 rfl (st_assign rfl) ?_
           refine E_out ?_
           refine D_done (by kernel_rfl) ?_
           refine x_then_normal ?_
           refine c_seq ?_
           obtain ⟨x1297, hj1298, hk1298⟩ := bindS hm
           refine c_join (fun b1295 e' hp' => [(4, .pointer (some ⟨g712, 0, none⟩)), (5, .pointer (some ⟨g713, 0, none⟩)), (10, .slice A1239 (l1242).length c1240), (11, .pointer (some ⟨g1276, 0, none⟩)), (12, .int .i64 (x1279)), (14, .bool (x1297))] = e' ∧ (g712, Cl 104 [.pointer (some ⟨g6, 0, none⟩)]) :: (g713, Cl 3 [.int .i64 (x7)]) :: (g1276, Cl 109 [.int .i64 (x1182.Section), .int .i64 (x1182.Out)]) :: (g714, Cl 52 [.slice A8 (l11).length c9]) :: (g740, Cl 3 [.int .i64 (x741)]) :: (g6, Cl 106 [.slice A13 (l16).length c14, .slice A17 (l20).length c18, .slice A21 (l24).length c22, .slice A25 (l28).length c26, .slice A29 (l32).length c30, .slice A1169 (l1174).length c1170, .int .i64 (x1172), .bool (x1173)]) :: (l1181, Lb r1180) :: (hs1238 ++ (hs1168 ++ R)) = hp' ∧ b1235.Le b1295) ?_ ?_
           ·
            have hm := hj1298
            obtain ⟨⟨x1306, x1307, x1308⟩, hcl1309, hm⟩ := bindS hm
            have hm := (unc3E hm)
            refine D_drawI mixed (.refl _) ?_
            refine E_st 0 rfl (st_load 1 rfl one104 rfl rfl) ?_
            refine E_st 1 rfl (st_nil rfl) ?_
            refine E_st 2 rfl (st_field rfl fld106_0) ?_
            refine E_st 3 rfl (st_loadD (vs := [_, _, _, _, _]) 6 5 rfl agg28 rfl rfl rfl) ?_
            refine E_st 4 rfl (st_loadD (vs := [_, _]) 0 2 rfl agg109 rfl rfl rfl) ?_
            refine E_out ?_
            refine D_all [5, 9] (by kernel_rfl) rfl ?_
            refine R_callGl (Base.Le.refl _) rfl rfl _ call58 rfl (cLineJoined _ _ (⟨l16, l20, l24, l28, l32⟩ : ApiNet) (⟨x1182.Section, x1182.Out⟩ : LineEnd) A13 c14 A17 c18 A21 c22 A25 c26 A29 c30 (h15.le (hle739.trans (hle774.trans (hle1166.trans (hle1184.trans (hle1193.trans hle1236)))))) (h19.le (hle739.trans (hle774.trans (hle1166.trans (hle1184.trans (hle1193.trans hle1236)))))) (h23.le (hle739.trans (hle774.trans (hle1166.trans (hle1184.trans (hle1193.trans hle1236)))))) (h27.le (hle739.trans (hle774.trans (hle1166.trans (hle1184.trans (hle1193.trans hle1236)))))) (h31.le (hle739.trans (hle774.trans (hle1166.trans (hle1184.trans (hle1193.trans hle1236)))))) x1306 x1307 x1308 hcl1309) ?_ ?_
            ·
             rintro _ b1310 _ hle1311 ⟨rfl, rfl⟩
             refine ⟨.inr (.refl _), ?_⟩
             refine D_st hle1311 6 rfl (by kernel_rfl) (by kernel_rfl) (by kernel_rfl) rfl (st_move rfl) (.refl _) ?_
             refine D_st hle1311 7 rfl (by kernel_rfl) (by kernel_rfl) (by kernel_rfl) rfl (st_extract rfl rfl) (.refl _) ?_
             refine D_st hle1311 8 rfl (by kernel_rfl) (by kernel_rfl) (by kernel_rfl) rfl (st_extract rfl rfl) (.refl _) ?_
             refine D_all [9] (by kernel_rfl) rfl ?_
             refine R_do hle1311 rfl rfl (u_alloc [.int .i64 0, .int .i64 0] zero109 rfl) ?_ ?_
             ·
              rintro _ _ ⟨g1312, rfl, rfl⟩
              refine ⟨.inr (.cons _ (.refl _)), ?_⟩
              refine D_all [10] (by kernel_rfl) rfl ?_
              refine R_do hle1311 rfl rfl (u_storeN (vs := [_, _]) 0 2 rfl rfl rfl siz109 rfl (mem_c rfl (mem_c rfl mem_n)) rfl (by simp)) ?_ ?_
              ·
               rintro _ _ rfl
               refine ⟨.inr (.cons _ (.refl _)), ?_⟩
               refine D_st hle1311 11 rfl (by kernel_rfl) (by kernel_rfl) (by kernel_rfl) rfl (st_assign rfl) (.cons _ (.refl _)) ?_
               refine D_done (by kernel_rfl) ?_
               obtain rfl := some1 hm
               refine x_pullb 8 rfl ?_
               refine x_pullb 8 rfl ?_
               refine x_pullb 8 rfl ?_
               refine x_pullb 8 rfl ?_
               refine x_pullb 5 rfl ?_
               refine x_pullb 7 rfl ?_
               refine x_pullb 7 rfl ?_
               refine x_front2 [_, _, _, _, _, _, _, _, _] hs1238 hs1168 R rfl ?_
               refine x_front2 [_, _, _, _, _, _, _, _, _] hs1168 hs1238 R rfl ?_
               exact x_join (e' := [(4, .pointer (some ⟨g712, 0, none⟩)), (5, .pointer (some ⟨g713, 0, none⟩)), (10, .slice A1239 (l1242).length c1240), (11, .pointer (some ⟨g1276, 0, none⟩)), (12, .int .i64 (x1279)), (14, .bool (x1308))]) ⟨rfl, rfl, rfl, rfl, rfl, rfl, trivial⟩ (.cons_cons _ (.cons_cons _ (.cons_cons _ (.cons_cons _ (.cons_cons _ (.cons_cons _ (.cons_cons _ (.cons _ (.cons _ (.refl _)))))))))) ⟨rfl, rfl, hle1311⟩
              exact R_nil
             exact R_nil
            refine R_do (Base.Le.refl _) rfl rfl (u_alloc [.int .i64 0, .int .i64 0] zero109 rfl) ?_ ?_
            ·
             rintro _ _ ⟨g1312, rfl, rfl⟩
             refine ⟨.inr (.cons _ (.refl _)), ?_⟩
             refine D_all [5] (by kernel_rfl) rfl ?_
             refine R_callGl (Base.Le.refl _) rfl rfl _ call58 rfl (cLineJoined _ _ (⟨l16, l20, l24, l28, l32⟩ : ApiNet) (⟨x1182.Section, x1182.Out⟩ : LineEnd) A13 c14 A17 c18 A21 c22 A25 c26 A29 c30 (h15.le (hle739.trans (hle774.trans (hle1166.trans (hle1184.trans (hle1193.trans hle1236)))))) (h19.le (hle739.trans (hle774.trans (hle1166.trans (hle1184.trans (hle1193.trans hle1236)))))) (h23.le (hle739.trans (hle774.trans (hle1166.trans (hle1184.trans (hle1193.trans hle1236)))))) (h27.le (hle739.trans (hle774.trans (hle1166.trans (hle1184.trans (hle1193.trans hle1236)))))) (h31.le (hle739.trans (hle774.trans (hle1166.trans (hle1184.trans (hle1193.trans hle1236)))))) x1306 x1307 x1308 hcl1309) ?_ ?_
             ·
              rintro _ b1310 _ hle1311 ⟨rfl, rfl⟩
              refine ⟨.inr (.cons _ (.refl _)), ?_⟩
              refine D_st hle1311 6 rfl (by kernel_rfl) (by kernel_rfl) (by kernel_rfl) rfl (st_move rfl) (.cons _ (.refl _)) ?_
              refine D_st hle1311 7 rfl (by kernel_rfl) (by kernel_rfl) (by kernel_rfl) rfl (st_extract rfl rfl) (.cons _ (.refl _)) ?_
              refine D_st hle1311 8 rfl (by kernel_rfl) (by kernel_rfl) (by kernel_rfl) rfl (st_extract rfl rfl) (.cons _ (.refl _)) ?_
              refine D_all [10] (by kernel_rfl) rfl ?_
              refine R_do hle1311 rfl rfl (u_storeN (vs := [_, _]) 0 2 rfl rfl rfl siz109 rfl (mem_c rfl (mem_c rfl mem_n)) rfl (by simp)) ?_ ?_
              ·
               rintro _ _ rfl
               refine ⟨.inr (.cons _ (.refl _)), ?_⟩
               refine D_st hle1311 11 rfl (by kernel_rfl) (by kernel_rfl) (by kernel_rfl) rfl (st_assign rfl) (.cons _ (.refl _)) ?_
               refine D_done (by kernel_rfl) ?_
               obtain rfl := some1 hm
               refine x_pullb 8 rfl ?_
               refine x_pullb 8 rfl ?_
               refine x_pullb 8 rfl ?_
               refine x_pullb 8 rfl ?_
               refine x_pullb 5 rfl ?_
               refine x_pullb 7 rfl ?_
               refine x_pullb 7 rfl ?_
               refine x_front2 [_, _, _, _, _, _, _, _, _] hs1238 hs1168 R rfl ?_
               refine x_front2 [_, _, _, _, _, _, _, _, _] hs1168 hs1238 R rfl ?_
               exact x_join (e' := [(4, .pointer (some ⟨g712, 0, none⟩)), (5, .pointer (some ⟨g713, 0, none⟩)), (10, .slice A1239 (l1242).length c1240), (11, .pointer (some ⟨g1276, 0, none⟩)), (12, .int .i64 (x1279)), (14, .bool (x1308))]) ⟨rfl, rfl, rfl, rfl, rfl, rfl, trivial⟩ (.cons_cons _ (.cons_cons _ (.cons_cons _ (.cons_cons _ (.cons_cons _ (.cons_cons _ (.cons_cons _ (.cons _ (.cons _ (.refl _)))))))))) ⟨rfl, rfl, hle1311⟩
              exact R_nil
             exact R_nil
            exact R_nil
           ·
            rintro b1295 _ _ ⟨rfl, rfl, hle1296⟩
            have hm := hk1298
            obtain ⟨x1316, hj1317, hk1317⟩ := bindS hm
            refine c_join (fun b1314 e' hp' => [(4, .pointer (some ⟨g712, 0, none⟩)), (5, .pointer (some ⟨g713, 0, none⟩)), (10, .slice A1239 (l1242).length c1240), (11, .pointer (some ⟨g1276, 0, none⟩)), (12, .int .i64 (x1279)), (82, .bool (x1316))] = e' ∧ (g712, Cl 104 [.pointer (some ⟨g6, 0, none⟩)]) :: (g713, Cl 3 [.int .i64 (x7)]) :: (g1276, Cl 109 [.int .i64 (x1182.Section), .int .i64 (x1182.Out)]) :: (g714, Cl 52 [.slice A8 (l11).length c9]) :: (g740, Cl 3 [.int .i64 (x741)]) :: (g6, Cl 106 [.slice A13 (l16).length c14, .slice A17 (l20).length c18, .slice A21 (l24).length c22, .slice A25 (l28).length c26, .slice A29 (l32).length c30, .slice A1169 (l1174).length c1170, .int .i64 (x1172), .bool (x1173)]) :: (l1181, Lb r1180) :: (hs1238 ++ (hs1168 ++ R)) = hp' ∧ b1295.Le b1314) ?_ ?_
            ·
             have hm := hj1317
             refine c_region ?_
             refine t_mv rfl rfl ?_
             rcases Bool.eq_false_or_eq_true x1297 with hc1318 | hc1318
             ·
              rw [if_pos hc1318] at hm
              refine t_resp 78 rfl (v' := .bool true) (by rw [hc1318] <;> rfl) ?_
              refine t_mv rfl rfl ?_
              refine t_yes 79 rfl rfl rfl ?_
              refine t_mv rfl rfl ?_
              refine t_yes 79 rfl rfl rfl ?_
              refine t_st rfl (st_lss rfl rfl) ?_
              refine t_st rfl (st_pick_t rfl rfl) ?_
              refine t_nil ?_
              obtain rfl := some1 hm
              refine x_pullb 6 rfl ?_
              refine x_pullb 6 rfl ?_
              refine x_pullb 6 rfl ?_
              refine x_pullb 6 rfl ?_
              refine x_pullb 6 rfl ?_
              refine x_pullb 6 rfl ?_
              refine x_pullb 6 rfl ?_
              refine x_front2 [_, _, _, _, _, _, _] hs1238 hs1168 R rfl ?_
              refine x_front2 [_, _, _, _, _, _, _] hs1168 hs1238 R rfl ?_
              exact x_join (e' := [(4, .pointer (some ⟨g712, 0, none⟩)), (5, .pointer (some ⟨g713, 0, none⟩)), (10, .slice A1239 (l1242).length c1240), (11, .pointer (some ⟨g1276, 0, none⟩)), (12, .int .i64 (x1279)), (82, .bool (decide (x1279 < 0)))]) ⟨rfl, rfl, rfl, rfl, rfl, rfl, trivial⟩ (.refl _) ⟨rfl, rfl, (Base.Le.refl _)⟩
             ·
              rw [if_neg (fun hh => Bool.noConfusion (hh.symm.trans hc1318))] at hm
              refine t_resp 78 rfl (v' := .bool false) (by rw [hc1318] <;> rfl) ?_
              refine t_mv rfl rfl ?_
              refine t_no 79 rfl rfl rfl rfl rfl ?_
              refine t_no 79 rfl rfl rfl rfl rfl ?_
              refine t_st rfl (st_pick_f rfl rfl) ?_
              refine t_nil ?_
              obtain rfl := some1 hm
              refine x_pullb 6 rfl ?_
              refine x_pullb 6 rfl ?_
              refine x_pullb 6 rfl ?_
              refine x_pullb 6 rfl ?_
              refine x_pullb 6 rfl ?_
              refine x_pullb 6 rfl ?_
              refine x_pullb 6 rfl ?_
              refine x_front2 [_, _, _, _, _, _, _] hs1238 hs1168 R rfl ?_
              refine x_front2 [_, _, _, _, _, _, _] hs1168 hs1238 R rfl ?_
              exact x_join (e' := [(4, .pointer (some ⟨g712, 0, none⟩)), (5, .pointer (some ⟨g713, 0, none⟩)), (10, .slice A1239 (l1242).length c1240), (11, .pointer (some ⟨g1276, 0, none⟩)), (12, .int .i64 (x1279)), (82, .bool (false))]) ⟨rfl, rfl, rfl, rfl, rfl, rfl, trivial⟩ (.refl _) ⟨rfl, rfl, (Base.Le.refl _)⟩
            ·
             rintro b1314 _ _ ⟨rfl, rfl, hle1315⟩
             have hm := hk1317
             refine c_cond _ rfl (fun hc1319 => ?_) (fun hc1319 => ?_)
             ·
              rw [if_pos hc1319] at hm
              refine c_sr ?_
              refine t_st rfl (st_load 0 rfl one104 rfl rfl) ?_
              refine t_st rfl (st_load 1 rfl one3 rfl rfl) ?_
              refine t_mv rfl rfl ?_
              refine t_st rfl (st_loadD (vs := [_, _]) 2 2 rfl agg109 rfl rfl rfl) ?_
              obtain ⟨⟨x1320, x1321, l1322⟩, hcl1323, hm⟩ := bindS hm
              obtain ⟨Nhcl1323, hcl1323⟩ := lim_some hcl1323
              have hm := (unc3E hm)
              refine t_pullb 5 rfl ?_
              refine t_front2 [_, _, _, _, _, _, _] hs1238 hs1168 R rfl ?_
              refine t_front2 [_, _, _, _, _, _, _] hs1168 hs1238 R rfl ?_
              refine t_out2 [_] [_, _, _, _, _, _] hs1238 hs1168 R rfl ?_
              refine t_callG _ rfl call47 rfl (cLineFinderGrow_2 Nhcl1323 _ _ x7 (⟨x1182.Section, x1182.Out⟩ : LineEnd) l16 l20 l24 l28 l32 x1172 x1173 l1242 l1174 g6 A13 c14 A17 c18 A21 c22 A25 c26 A29 c30 A1239 c1240 hs1238 A1169 c1170 hs1168 (h15.le (hle739.trans (hle774.trans (hle1166.trans (hle1184.trans (hle1193.trans (hle1236.trans (hle1296.trans hle1315)))))))) (h19.le (hle739.trans (hle774.trans (hle1166.trans (hle1184.trans (hle1193.trans (hle1236.trans (hle1296.trans hle1315)))))))) (h23.le (hle739.trans (hle774.trans (hle1166.trans (hle1184.trans (hle1193.trans (hle1236.trans (hle1296.trans hle1315)))))))) (h27.le (hle739.trans (hle774.trans (hle1166.trans (hle1184.trans (hle1193.trans (hle1236.trans (hle1296.trans hle1315)))))))) (h31.le (hle739.trans (hle774.trans (hle1166.trans (hle1184.trans (hle1193.trans (hle1236.trans (hle1296.trans hle1315)))))))) (h1241.le (hle1296.trans hle1315)) hnz1243 (h1171.le (hle1184.trans (hle1193.trans (hle1236.trans (hle1296.trans hle1315))))) hnz1175 x1320 x1321 l1322 hcl1323) ?_
              rintro _ b1324 _ hle1325 ⟨A1326, c1327, hs1328, rfl, rfl, h1329, h1330⟩
              refine t_in2 [_] [_, _, _, _, _, _] hs1238 hs1328 R rfl ?_
              refine t_ne ?_
              refine c_exit ?_
              refine x_then_exit ?_
              refine x_block_out ?_
              refine x_pullb 5 rfl ?_
              refine x_pullb 5 rfl ?_
              refine x_pullb 4 rfl ?_
              refine x_pullb 4 rfl ?_
              refine x_front2 [_, _, _, _, _, _, _] hs1238 hs1328 R rfl ?_
              exact x_round 6 rfl (hle1193.trans (hle1236.trans (hle1296.trans (hle1315.trans hle1325)))) (.cons_cons _ (.cons_cons _ (.cons_cons _ (.cons_cons _ (.cons_cons _ (.cons _ (sub_app hs1328 (sub_skip hs1238 (.refl _))))))))) ⟨(x1320, x1321, l1322), (Option.some.inj hm).symm, ⟨A1326, c1327, hs1328, rfl, (hle1166.trans (hle1184.trans (hle1193.trans (hle1236.trans (hle1296.trans (hle1315.trans hle1325)))))), h1329, h1330⟩⟩
             ·
              rw [if_neg (fun hh => Bool.noConfusion (hh.symm.trans hc1319))] at hm
              refine c_skip ?_
              refine x_then_normal ?_
              obtain ⟨l1355, hj1357, hk1357⟩ := bindS hm
              refine c_join (fun b1348 e' hp' => ∃ (A1352 : Option Addr), ∃ (c1353 : Nat), ∃ (hs1351 : Hp), [(4, .pointer (some ⟨g712, 0, none⟩))] = e' ∧ (g712, Cl 104 [.pointer (some ⟨g6, 0, none⟩)]) :: (g713, Cl 3 [.int .i64 (x7)]) :: (g714, Cl 52 [.slice A8 (l11).length c9]) :: (g740, Cl 3 [.int .i64 (x741)]) :: (g6, Cl 106 [.slice A13 (l16).length c14, .slice A17 (l20).length c18, .slice A21 (l24).length c22, .slice A25 (l28).length c26, .slice A29 (l32).length c30, .slice A1352 (l1355).length c1353, .int .i64 (x1172), .bool (x1173)]) :: (l1181, Lb r1180) :: (hs1351 ++ R) = hp' ∧ b1314.Le b1348 ∧ OS 54 (OT.fr rApiRoute) b1348.w (.slice A1352 l1355.length c1353) l1355 hs1351 ∧ (A1352 = none ↔ l1355 = [])) ?_ ?_
              ·
               have hm := hj1357
               refine c_frz [_, _, _, _, _, _, _] hs1238 (hs1168 ++ R) rfl ?_
               intro b1359 hle1360 hz1361
               have h1362 := OS.frz (l := l1242) (h1241.le (hle1296.trans hle1315)) hle1360.cells hz1361
               obtain ⟨_, h1370, hm⟩ := bindS hm
               refine D_drawI mixed (.cons_cons _ (.cons_cons _ (.cons_cons _ (.cons_cons _ (.cons_cons _ (.cons _ (.cons_cons _ (sub_skip hs1168 (.refl _))))))))) ?_
               refine E_st 0 rfl (st_load 0 rfl one104 rfl rfl) ?_
               refine E_st 1 rfl (st_load 0 rfl one104 rfl rfl) ?_
               refine E_st 2 rfl (st_nil rfl) ?_
               refine E_st 3 rfl (st_field rfl fld106_1) ?_
               refine E_st 5 rfl (st_load 1 rfl one3 rfl rfl) ?_
               refine E_st 6 rfl (st_move rfl) ?_
               refine E_st 7 rfl (st_move rfl) ?_
               refine E_st 8 rfl (st_build (v := .agg #[.int .i64 (x7), .int .i64 (x1279), .slice A1239 (l1242).length c1240]) [(0, .int .i64 (x7)), (1, .int .i64 (x1279)), (2, .slice A1239 (l1242).length c1240)] rfl (fun _ => by kernel_rfl)) ?_
               refine E_out ?_
               refine D_all [4, 9] (by kernel_rfl) rfl ?_
               refine R_do (Base.Le.refl _) rfl rfl (Stable.does (st_load 5 rfl one47 rfl rfl)) ?_ ?_
               ·
                rintro _ _ ⟨rfl, rfl⟩
                refine ⟨.inr (.cons_cons _ (.cons_cons _ (.cons_cons _ (.cons_cons _ (.cons_cons _ (.cons _ (.cons_cons _ (sub_skip hs1168 (.refl _))))))))), ?_⟩
                refine D_all [9] (by kernel_rfl) rfl ?_
                refine R_do (Base.Le.refl _) rfl rfl (u_bslice (el := 54) [(0, .agg #[.int .i64 (x7), .int .i64 (x1279), .slice A1239 (l1242).length c1240])] [.int .i64 (x7), .int .i64 (x1279), .slice A1239 (l1242).length c1240] rfl (fun _ => by kernel_rfl)) ?_ ?_
                ·
                 rintro _ _ ⟨g1369, rfl, rfl⟩
                 refine ⟨.inr (.cons _ (.cons_cons _ (.cons_cons _ (.cons_cons _ (.cons_cons _ (.cons_cons _ (.cons _ (.cons_cons _ (sub_skip hs1168 (.refl _)))))))))), ?_⟩
                 have h1370 := room_some h1370
                 refine D_all [10] (by kernel_rfl) rfl ?_
                 refine R_do (Base.Le.refl _) rfl rfl (u_appOS (r := rApiRoute) (l := l1174) [_, _, _, _, _, _, _, _] R [[.int .i64 (x7), .int .i64 (x1279), .slice A1239 (l1242).length c1240]] [(⟨x7, x1279, l1242⟩ : ApiRoute)] rfl (by decide) sl47 inf54 rfl rfl rfl rfl (h1171.le (hle1184.trans (hle1193.trans (hle1236.trans (hle1296.trans (hle1315.trans hle1360)))))) rfl (fun w ho => Rd.own (i := 0) ho rfl) ⟨⟨[.int .i64 (x7)], _, rfl, rfl, ⟨[.int .i64 (x1279)], _, rfl, rfl, (RT.list_mk h1362)⟩⟩, trivial⟩ h1370) ?_ ?_
                 ·
                  rintro _ _ ⟨hs1371, rfl, h1372⟩
                  obtain ⟨A1373, c1374, rfl, _⟩ := h1372.form
                  refine ⟨.inr (.cons _ (.cons_cons _ (.cons_cons _ (.cons_cons _ (.cons_cons _ (.cons_cons _ (.cons _ (.cons_cons _ (sub_skip hs1371 (.refl _)))))))))), ?_⟩
                  refine E_in (.cons _ (.cons_cons _ (.cons_cons _ (.cons_cons _ (.cons_cons _ (.cons_cons _ (.cons _ (.cons_cons _ (sub_skip hs1371 (.refl _)))))))))) ?_
                  refine E_st 11 rfl (st_nil rfl) ?_
                  refine E_st 12 rfl (st_field rfl fld106_1) ?_
                  refine E_out ?_
                  refine D_all [13] (by kernel_rfl) rfl ?_
                  refine R_do (Base.Le.refl _) rfl rfl (u_store 6 rfl rfl siz47 rfl rfl (by simp)) ?_ ?_
                  ·
                   rintro _ _ rfl
                   refine ⟨.inr (.cons _ (.cons_cons _ (.cons_cons _ (.cons_cons _ (.cons_cons _ (.cons_cons _ (.cons _ (.cons_cons _ (sub_skip hs1371 (.refl _)))))))))), ?_⟩
                   refine D_done (by kernel_rfl) ?_
                   obtain rfl := some1 hm
                   refine x_pullb 7 rfl ?_
                   refine x_pullb 7 rfl ?_
                   refine x_pullb 7 rfl ?_
                   refine x_pullb 7 rfl ?_
                   refine x_pullb 6 rfl ?_
                   refine x_pullb 6 rfl ?_
                   exact x_join (e' := [(4, .pointer (some ⟨g712, 0, none⟩))]) ⟨rfl, trivial⟩ (.cons_cons _ (.cons_cons _ (.cons_cons _ (.cons_cons _ (.cons_cons _ (.cons_cons _ (.cons _ (.cons _ (.refl _))))))))) ⟨A1373, c1374, hs1371, rfl, rfl, hle1360, h1372, (OS.nz h1372 (by simp))⟩
                  exact R_nil
                 exact R_nil
                exact R_nil
               refine R_do (Base.Le.refl _) rfl rfl (u_bslice (el := 54) [(0, .agg #[.int .i64 (x7), .int .i64 (x1279), .slice A1239 (l1242).length c1240])] [.int .i64 (x7), .int .i64 (x1279), .slice A1239 (l1242).length c1240] rfl (fun _ => by kernel_rfl)) ?_ ?_
               ·
                rintro _ _ ⟨g1369, rfl, rfl⟩
                refine ⟨.inr (.cons _ (.cons_cons _ (.cons_cons _ (.cons_cons _ (.cons_cons _ (.cons_cons _ (.cons _ (.cons_cons _ (sub_skip hs1168 (.refl _)))))))))), ?_⟩
                refine D_all [4] (by kernel_rfl) rfl ?_
                refine R_do (Base.Le.refl _) rfl rfl (Stable.does (st_load 6 rfl one47 rfl rfl)) ?_ ?_
                ·
                 rintro _ _ ⟨rfl, rfl⟩
                 refine ⟨.inr (.cons _ (.cons_cons _ (.cons_cons _ (.cons_cons _ (.cons_cons _ (.cons_cons _ (.cons _ (.cons_cons _ (sub_skip hs1168 (.refl _)))))))))), ?_⟩
                 have h1370 := room_some h1370
                 refine D_all [10] (by kernel_rfl) rfl ?_
                 refine R_do (Base.Le.refl _) rfl rfl (u_appOS (r := rApiRoute) (l := l1174) [_, _, _, _, _, _, _, _] R [[.int .i64 (x7), .int .i64 (x1279), .slice A1239 (l1242).length c1240]] [(⟨x7, x1279, l1242⟩ : ApiRoute)] rfl (by decide) sl47 inf54 rfl rfl rfl rfl (h1171.le (hle1184.trans (hle1193.trans (hle1236.trans (hle1296.trans (hle1315.trans hle1360)))))) rfl (fun w ho => Rd.own (i := 0) ho rfl) ⟨⟨[.int .i64 (x7)], _, rfl, rfl, ⟨[.int .i64 (x1279)], _, rfl, rfl, (RT.list_mk h1362)⟩⟩, trivial⟩ h1370) ?_ ?_
                 ·
                  rintro _ _ ⟨hs1371, rfl, h1372⟩
                  obtain ⟨A1373, c1374, rfl, _⟩ := h1372.form
                  refine ⟨.inr (.cons _ (.cons_cons _ (.cons_cons _ (.cons_cons _ (.cons_cons _ (.cons_cons _ (.cons _ (.cons_cons _ (sub_skip hs1371 (.refl _)))))))))), ?_⟩
                  refine E_in (.cons _ (.cons_cons _ (.cons_cons _ (.cons_cons _ (.cons_cons _ (.cons_cons _ (.cons _ (.cons_cons _ (sub_skip hs1371 (.refl _)))))))))) ?_
                  refine E_st 11 rfl (st_nil rfl) ?_
                  refine E_st 12 rfl (st_field rfl fld106_1) ?_
                  refine E_out ?_
                  refine D_all [13] (by kernel_rfl) rfl ?_
                  refine R_do (Base.Le.refl _) rfl rfl (u_store 6 rfl rfl siz47 rfl rfl (by simp)) ?_ ?_
                  ·
                   rintro _ _ rfl
                   refine ⟨.inr (.cons _ (.cons_cons _ (.cons_cons _ (.cons_cons _ (.cons_cons _ (.cons_cons _ (.cons _ (.cons_cons _ (sub_skip hs1371 (.refl _)))))))))), ?_⟩
                   refine D_done (by kernel_rfl) ?_
                   obtain rfl := some1 hm
                   refine x_pullb 7 rfl ?_
                   refine x_pullb 7 rfl ?_
                   refine x_pullb 7 rfl ?_
                   refine x_pullb 7 rfl ?_
                   refine x_pullb 6 rfl ?_
                   refine x_pullb 6 rfl ?_
                   exact x_join (e' := [(4, .pointer (some ⟨g712, 0, none⟩))]) ⟨rfl, trivial⟩ (.cons_cons _ (.cons_cons _ (.cons_cons _ (.cons_cons _ (.cons_cons _ (.cons_cons _ (.cons _ (.cons _ (.refl _))))))))) ⟨A1373, c1374, hs1371, rfl, rfl, hle1360, h1372, (OS.nz h1372 (by simp))⟩
                  exact R_nil
                 exact R_nil
                exact R_nil
               exact R_nil
              ·
               rintro b1348 _ _ ⟨A1352, c1353, hs1351, rfl, rfl, hle1349, h1354, hnz1356⟩
               have hm := hk1357
               refine c_region ?_
               refine t_st rfl (st_load 0 rfl one104 rfl rfl) ?_
               obtain ⟨⟨x1375, x1376⟩, hcl1377, hm⟩ := bindS hm
               have hm := (unc2E hm)
               refine t_pullb 4 rfl ?_
               refine t_out1 [_] [_, _, _, _, _] hs1351 R rfl ?_
               refine t_callG _ rfl call69 rfl (cLineFinderCount _ _ l16 l20 l24 l28 l32 x1172 x1173 l1355 g6 A13 c14 A17 c18 A21 c22 A25 c26 A29 c30 A1352 c1353 hs1351 (h15.le (hle739.trans (hle774.trans (hle1166.trans (hle1184.trans (hle1193.trans (hle1236.trans (hle1296.trans (hle1315.trans hle1349))))))))) (h19.le (hle739.trans (hle774.trans (hle1166.trans (hle1184.trans (hle1193.trans (hle1236.trans (hle1296.trans (hle1315.trans hle1349))))))))) (h23.le (hle739.trans (hle774.trans (hle1166.trans (hle1184.trans (hle1193.trans (hle1236.trans (hle1296.trans (hle1315.trans hle1349))))))))) (h27.le (hle739.trans (hle774.trans (hle1166.trans (hle1184.trans (hle1193.trans (hle1236.trans (hle1296.trans (hle1315.trans hle1349))))))))) (h31.le (hle739.trans (hle774.trans (hle1166.trans (hle1184.trans (hle1193.trans (hle1236.trans (hle1296.trans (hle1315.trans hle1349))))))))) h1354 hnz1356 x1375 x1376 hcl1377) ?_
               rintro _ b1378 _ hle1379 ⟨rfl, rfl⟩
               refine t_in1 [_] [_, _, _, _, _] hs1351 R rfl ?_
               refine t_nil ?_
               refine x_block_normal ?_
               refine x_pullb 4 rfl ?_
               refine x_pullb 4 rfl ?_
               refine x_pullb 4 rfl ?_
               refine x_pullb 4 rfl ?_
               exact x_round 5 rfl (hle1193.trans (hle1236.trans (hle1296.trans (hle1315.trans (hle1349.trans hle1379))))) (.refl _) ⟨(x1375, x1376, l1355), (Option.some.inj hm).symm, ⟨A1352, c1353, hs1351, rfl, (hle1166.trans (hle1184.trans (hle1193.trans (hle1236.trans (hle1296.trans (hle1315.trans (hle1349.trans hle1379))))))), (h1354.le hle1379), hnz1356⟩⟩
          exact R_nil
    ·
     rintro ⟨x1172, x1173, l1174⟩ b1165 _ ⟨A1169, c1170, hs1168, rfl, hle1166, h1171, hnz1175⟩ hq1380
     rw [hq1380] at hk1178
     have hm := elimL hk1178
     have hm := (unc3E hm)
     refine x_block_normal ?_
     obtain ⟨rfl, rfl, rfl⟩ := some3 hm
     refine x_pullb 4 rfl ?_
     exact endM (hle739.trans (hle774.trans hle1166)) rfl (.cons_cons _ (.cons _ (.cons _ (.cons _ (.cons _ (.refl _)))))) ⟨A1169, c1170, hs1168, rfl, rfl, h1171, hnz1175⟩
   exact R_nil

set_option maxRecDepth 20000 in
theorem cLineRoutes_2 (b : Base) (R : Hp) (s1 : ApiNet) (A2 : Option Addr) (c3 : Nat) (A5 : Option Addr) (c6 : Nat) (A8 : Option Addr) (c9 : Nat) (A11 : Option Addr) (c12 : Nat) (A14 : Option Addr) (c15 : Nat) (h4 : FZ RT.str b.w A2 c3 s1.Stations) (h7 : FZ rApiSection b.w A5 c6 s1.Sections) (h10 : FZ rApiLink b.w A8 c9 s1.Links) (h13 : FZ rApiSignal b.w A11 c12 s1.Signals) (h16 : FZ rApiGate b.w A14 c15 s1.Gates) (x116 : Int) (l117 : (List ApiRoute)) (hm : mLineRoutes_2 s1 = some (x116, l117)) :
    CallsG Tryz.prog 26 [.agg #[.slice A2 (s1.Stations).length c3, .slice A5 (s1.Sections).length c6, .slice A8 (s1.Links).length c9, .slice A11 (s1.Signals).length c12, .slice A14 (s1.Gates).length c15]] b (R) (fun v b' hp' => ∃ (A113 : Option Addr), ∃ (c114 : Nat), ∃ (hs112 : Hp), .tuple #[.slice A113 (l117).length c114, .int .i64 (x116)] = v ∧ (hs112 ++ R) = hp' ∧ OS 54 (OT.fr rApiRoute) b'.w (.slice A113 l117.length c114) l117 hs112 ∧ (A113 = none ↔ l117 = [])) := by
  refine fn_enterG 35 Tryz.func26 rfl Tryz.ntmps26 rfl ?_
  unfold mLineRoutes_2 at hm
  refine c_sr ?_
  refine t_do rfl (u_box _ rfl rfl) ?_
  rintro _ _ ⟨g119, rfl, rfl⟩
  refine t_as rfl rfl ?_
  refine t_as rfl rfl ?_
  refine t_ne ?_
  refine c_sr ?_
  refine t_st rfl (st_loadD (vs := [_, _, _, _, _]) 0 5 rfl agg28 rfl rfl rfl) ?_
  refine t_st rfl (st_build (v := .agg #[.slice A2 (s1.Stations).length c3, .slice A5 (s1.Sections).length c6, .slice A8 (s1.Links).length c9, .slice A11 (s1.Signals).length c12, .slice A14 (s1.Gates).length c15, .slice none 0 0, .int .i64 (0), .bool (false)]) [(0, .agg #[.slice A2 (s1.Stations).length c3, .slice A5 (s1.Sections).length c6, .slice A8 (s1.Links).length c9, .slice A11 (s1.Signals).length c12, .slice A14 (s1.Gates).length c15])] rfl (fun _ => by kernel_rfl)) ?_
  refine t_do rfl (u_box _ rfl rfl) ?_
  rintro _ _ ⟨g120, rfl, rfl⟩
  refine t_as rfl rfl ?_
  refine t_ne ?_
  refine c_seq ?_
  refine c_sr ?_
  refine t_st rfl (st_field rfl fld28_3) ?_
  refine t_st rfl (st_load 1 rfl one25 rfl rfl) ?_
  refine t_st rfl (st_len rfl sl25) ?_
  refine t_mv rfl rfl ?_
  refine t_ne ?_
  refine c_block ?_
  have hb122 : s1.Signals.length ≤ 9223372036854775807 := (FZ.bd h13)
  obtain ⟨⟨x183, x184, l185⟩, hl188, hk189⟩ := bindS hm
  refine c_forS (fun k187 => unc3 fun x183 x184 l185 => fun b176 e' hp' => ∃ (A180 : Option Addr), ∃ (c181 : Nat), ∃ (hs179 : Hp), [(4, .pointer (some ⟨g120, 0, none⟩)), (11, .slice A11 (s1.Signals).length c12), (12, .int .i64 ((s1.Signals.length : Int))), (13, .int .i64 ((k187 : Int)))] = e' ∧ (g120, Cl 106 [.slice A2 (s1.Stations).length c3, .slice A5 (s1.Sections).length c6, .slice A8 (s1.Links).length c9, .slice A11 (s1.Signals).length c12, .slice A14 (s1.Gates).length c15, .slice A180 (l185).length c181, .int .i64 (x183), .bool (x184)]) :: (hs179 ++ R) = hp' ∧ b.Le b176 ∧ OS 54 (OT.fr rApiRoute) b176.w (.slice A180 l185.length c181) l185 hs179 ∧ (A180 = none ↔ l185 = [])) hl188 (e' := [(4, .pointer (some ⟨g120, 0, none⟩)), (11, .slice A11 (s1.Signals).length c12), (12, .int .i64 ((s1.Signals.length : Int))), (13, .int .i64 0)]) ⟨rfl, rfl, rfl, rfl, trivial⟩ (.cons_cons _ (.cons _ (.refl _))) ⟨none, 0, [], rfl, rfl, (Base.Le.refl _), OS.nil, ⟨fun _ => rfl, fun _ => rfl⟩⟩ ?_ ?_
  ·
   rintro k187 ⟨x183, x184, l185⟩ b176 _ _ oL121 hknL121 ⟨A180, c181, hs179, rfl, rfl, hle177, h182, hnz186⟩ hstepL121
   unfold mLineRoutes_2_L121 at hstepL121
   have hm := (unc3E hstepL121)
   refine c_sr ?_
   refine t_st rfl (st_lss_t rfl rfl (by omega)) ?_
   refine t_ne ?_
   refine c_seq ?_
   refine c_cond_t rfl ?_
   refine c_skip ?_
   refine x_then_normal ?_
   refine c_seq ?_
   refine c_block ?_
   refine c_sr ?_
   refine t_mv rfl rfl ?_
   obtain ⟨x190, h191, hm⟩ := bindS hm
   obtain ⟨j192, hj193, hx194⟩ := idx_some h191
   obtain ⟨cs195, hr196, hcs197, hA198, hlt199⟩ := FZ.get (sz := 2) rfl (by decide) (h13.le hle177) hx194
   obtain ⟨_, _, rfl, rfl, rfl⟩ := hr196
   refine t_st rfl (st_index_old j192 rfl rfl hj193 hlt199 hA198 sl25) ?_
   refine t_st rfl (st_loadN_old (vs := [.int .i64 (x190.Section), .int .i64 (x190.End)]) 2 rfl agg96 hA198 rfl (fun j u hu => hcs197 j u hu)) ?_
   refine t_do rfl (u_alloc [.int .i64 0, .int .i64 0] zero96 rfl) ?_
   rintro _ _ ⟨g200, rfl, rfl⟩
   refine t_as rfl rfl ?_
   refine t_do rfl (u_storeN (vs := [_, _]) 0 2 rfl rfl rfl siz96 rfl (mem_c rfl (mem_c rfl mem_n)) rfl (by simp)) ?_
   rintro _ _ rfl
   refine t_ne ?_
   refine c_region ?_
   refine t_mv rfl rfl ?_
   refine t_mv rfl rfl ?_
   refine t_st rfl (st_field rfl fld96_0) ?_
   refine t_st rfl (st_load 0 rfl one3 rfl rfl) ?_
   refine t_st rfl (st_field rfl fld96_1) ?_
   refine t_st rfl (st_load 0 rfl one3 rfl rfl) ?_
   refine t_st rfl (st_build (v := .agg #[.int .i64 (x190.Section), .int .i64 (x190.End)]) [(0, .int .i64 (x190.Section)), (1, .int .i64 (x190.End))] rfl (fun _ => by kernel_rfl)) ?_
   obtain ⟨⟨x201, x202, l203⟩, hcl204, hm⟩ := bindS hm
   have hm := (unc3E hm)
   refine t_pullb 1 rfl ?_
   refine t_out1 [_] [_] hs179 R rfl ?_
   refine t_callG _ rfl call47 rfl (cLineFinderGrow _ _ (k187 : Int) [] (⟨x190.Section, x190.End⟩ : LineEnd) s1.Stations s1.Sections s1.Links s1.Signals s1.Gates x183 x184 l185 g120 none 0 A2 c3 A5 c6 A8 c9 A11 c12 A14 c15 A180 c181 hs179 FZ.nil (h4.le hle177) (h7.le hle177) (h10.le hle177) (h13.le hle177) (h16.le hle177) h182 hnz186 x201 x202 l203 hcl204) ?_
   rintro _ b205 _ hle206 ⟨A207, c208, hs209, rfl, rfl, h210, h211⟩
   refine t_in1 [_] [_] hs209 R rfl ?_
   refine t_nil ?_
   refine x_block_normal ?_
   refine x_then_normal ?_
   refine c_region ?_
   refine t_st rfl (st_add rfl rfl (by omega)) ?_
   refine t_mv rfl rfl ?_
   refine t_nil ?_
   obtain rfl := some1 hm
   exact x_againS (e' := [(4, .pointer (some ⟨g120, 0, none⟩)), (11, .slice A11 (s1.Signals).length c12), (12, .int .i64 ((s1.Signals.length : Int))), (13, .int .i64 ((k187 : Int) + 1))]) ⟨rfl, rfl, rfl, rfl, trivial⟩ (.cons_cons _ (.cons _ (.refl _))) ⟨A207, c208, hs209, rfl, rfl, ((hle177.trans hle206)), h210, h211⟩
  ·
   rintro b176 _ _ ⟨A180, c181, hs179, rfl, rfl, hle177, h182, hnz186⟩
   have hm := (unc3E hk189)
   refine c_sr ?_
   refine t_st rfl (st_lss_f rfl rfl (by omega)) ?_
   refine t_ne ?_
   refine c_seq ?_
   refine c_cond_f rfl ?_
   refine c_exit ?_
   refine x_then_exit ?_
   refine x_then_exit ?_
   refine x_block_out ?_
   refine x_then_normal ?_
   refine c_seq ?_
   refine c_sr ?_
   refine t_mv rfl rfl ?_
   refine t_st rfl (st_nil rfl) ?_
   refine t_st rfl (st_field rfl fld106_3) ?_
   refine t_st rfl (st_load 0 rfl one4 rfl rfl) ?_
   refine t_ne ?_
   refine c_cond _ rfl (fun hc212 => ?_) (fun hc212 => ?_)
   ·
    rw [if_pos hc212] at hm
    refine c_sr ?_
    refine t_as rfl rfl ?_
    refine t_as rfl rfl ?_
    refine t_ne ?_
    refine c_ret ?_
    refine x_then_ret ?_
    obtain ⟨rfl, rfl⟩ := some2 hm
    exact retM (rs := [.tmp 2, .tmp 3]) [.slice none 0 0, .int .i64 (4)] hle177 (by decide) rfl ⟨rfl, ⟨rfl, trivial⟩⟩ rfl (.cons _ (sub_skip hs179 (.refl _))) ⟨none, 0, [], rfl, rfl, OS.nil, ⟨fun _ => rfl, fun _ => rfl⟩⟩
   ·
    rw [if_neg (fun hh => Bool.noConfusion (hh.symm.trans hc212))] at hm
    refine c_skip ?_
    refine x_then_normal ?_
    refine c_sr ?_
    refine t_mv rfl rfl ?_
    refine t_st rfl (st_nil rfl) ?_
    refine t_st rfl (st_field rfl fld106_1) ?_
    refine t_st rfl (st_load 0 rfl one47 rfl rfl) ?_
    refine t_as rfl rfl ?_
    refine t_as rfl rfl ?_
    refine t_ne ?_
    refine c_ret ?_
    obtain ⟨rfl, rfl⟩ := some2 hm
    exact retM (rs := [.tmp 2, .tmp 3]) [.slice A180 (l185).length c181, .int .i64 (0)] hle177 (by decide) rfl ⟨rfl, ⟨rfl, trivial⟩⟩ rfl (.cons _ (.refl _)) ⟨A180, c181, hs179, rfl, rfl, h182, hnz186⟩

set_option maxRecDepth 20000 in
theorem cLineRoutes (b : Base) (R : Hp) (s1 : ApiNet) (A2 : Option Addr) (c3 : Nat) (A5 : Option Addr) (c6 : Nat) (A8 : Option Addr) (c9 : Nat) (A11 : Option Addr) (c12 : Nat) (A14 : Option Addr) (c15 : Nat) (h4 : FZ RT.str b.w A2 c3 s1.Stations) (h7 : FZ rApiSection b.w A5 c6 s1.Sections) (h10 : FZ rApiLink b.w A8 c9 s1.Links) (h13 : FZ rApiSignal b.w A11 c12 s1.Signals) (h16 : FZ rApiGate b.w A14 c15 s1.Gates) (x36 : Int) (l37 : (List ApiRoute)) (hm : mLineRoutes s1 = some (x36, l37)) :
    CallsG Tryz.prog 10 [.agg #[.slice A2 (s1.Stations).length c3, .slice A5 (s1.Sections).length c6, .slice A8 (s1.Links).length c9, .slice A11 (s1.Signals).length c12, .slice A14 (s1.Gates).length c15]] b (R) (fun v b' hp' => ∃ (A33 : Option Addr), ∃ (c34 : Nat), ∃ (hs32 : Hp), .tuple #[.slice A33 (l37).length c34, .int .i64 (x36)] = v ∧ (hs32 ++ R) = hp' ∧ OS 54 (OT.fr rApiRoute) b'.w (.slice A33 l37.length c34) l37 hs32 ∧ (A33 = none ↔ l37 = [])) := by
  refine fn_enterG 14 Tryz.func10 rfl Tryz.ntmps10 rfl ?_
  unfold mLineRoutes at hm
  refine c_sr ?_
  refine t_do rfl (u_box _ rfl rfl) ?_
  rintro _ _ ⟨g39, rfl, rfl⟩
  refine t_as rfl rfl ?_
  refine t_as rfl rfl ?_
  refine t_ne ?_
  refine c_seq ?_
  refine c_sr ?_
  refine t_st rfl (st_loadD (vs := [_, _, _, _, _]) 0 5 rfl agg28 rfl rfl rfl) ?_
  obtain ⟨x40, hcl41, hm⟩ := bindS hm
  refine t_do rfl (u_callW0 _ call25 rfl (fun w ho => cLineCheck _ [] s1 A2 c3 A5 c6 A8 c9 A11 c12 A14 c15 (h4.old ho) (h7.old ho) (h10.old ho) (h13.old ho) (h16.old ho) x40 hcl41) (fun _ _ _ h => h.2.symm)) ?_
  rintro _ _ ⟨⟨_, rfl, _⟩, rfl⟩
  refine t_as rfl rfl ?_
  refine t_ne ?_
  refine c_sr ?_
  refine t_mv rfl rfl ?_
  refine t_st rfl (st_neq rfl rfl) ?_
  refine t_ne ?_
  refine c_cond _ rfl (fun hc42 => ?_) (fun hc42 => ?_)
  ·
   rw [if_pos (of_decide_eq_true hc42)] at hm
   refine c_sr ?_
   refine t_mv rfl rfl ?_
   refine t_as rfl rfl ?_
   refine t_as rfl rfl ?_
   refine t_ne ?_
   refine c_ret ?_
   refine x_then_ret ?_
   obtain ⟨rfl, rfl⟩ := some2 hm
   exact retM (rs := [.tmp 2, .tmp 3]) [.slice none 0 0, .int .i64 (x40)] (Base.Le.refl _) (by decide) rfl ⟨rfl, ⟨rfl, trivial⟩⟩ rfl (.cons _ (.refl _)) ⟨none, 0, [], rfl, rfl, OS.nil, ⟨fun _ => rfl, fun _ => rfl⟩⟩
  ·
   rw [if_neg (of_decide_eq_false hc42)] at hm
   refine c_skip ?_
   refine x_then_normal ?_
   refine c_sr ?_
   refine t_st rfl (st_loadD (vs := [_, _, _, _, _]) 0 5 rfl agg28 rfl rfl rfl) ?_
   obtain ⟨⟨x43, l44⟩, hcl45, hm⟩ := bindS hm
   have hm := (unc2E hm)
   refine t_callG _ rfl call26 rfl (cLineRoutes_2 _ _ s1 A2 c3 A5 c6 A8 c9 A11 c12 A14 c15 h4 h7 h10 h13 h16 x43 l44 hcl45) ?_
   rintro _ b46 _ hle47 ⟨A48, c49, hs50, rfl, rfl, h51, h52⟩
   refine t_in1 [] [_] hs50 R rfl ?_
   refine t_st rfl (st_extract rfl rfl) ?_
   refine t_st rfl (st_extract rfl rfl) ?_
   refine t_as rfl rfl ?_
   refine t_as rfl rfl ?_
   refine t_ne ?_
   refine c_ret ?_
   obtain ⟨rfl, rfl⟩ := some2 hm
   exact retM (rs := [.tmp 2, .tmp 3]) [.slice A48 (l44).length c49, .int .i64 (x43)] hle47 (by decide) rfl ⟨rfl, ⟨rfl, trivial⟩⟩ rfl (.cons _ (.refl _)) ⟨A48, c49, hs50, rfl, rfl, h51, h52⟩

set_option maxRecDepth 20000 in
theorem cLineSome (b : Base) (R : Hp) (s1 : ApiNet) (l20 : (List Int)) (A2 : Option Addr) (c3 : Nat) (A5 : Option Addr) (c6 : Nat) (A8 : Option Addr) (c9 : Nat) (A11 : Option Addr) (c12 : Nat) (A14 : Option Addr) (c15 : Nat) (A17 : Option Addr) (c18 : Nat) (h4 : FZ RT.str b.w A2 c3 s1.Stations) (h7 : FZ rApiSection b.w A5 c6 s1.Sections) (h10 : FZ rApiLink b.w A8 c9 s1.Links) (h13 : FZ rApiSignal b.w A11 c12 s1.Signals) (h16 : FZ rApiGate b.w A14 c15 s1.Gates) (h19 : FZ (RT.int .i64) b.w A17 c18 l20) (x76 : Int) (l77 : (List ApiRoute)) (hm : mLineSome s1 l20 = some (x76, l77)) :
    CallsG Tryz.prog 14 [.agg #[.slice A2 (s1.Stations).length c3, .slice A5 (s1.Sections).length c6, .slice A8 (s1.Links).length c9, .slice A11 (s1.Signals).length c12, .slice A14 (s1.Gates).length c15], .slice A17 (l20).length c18] b (R) (fun v b' hp' => ∃ (A73 : Option Addr), ∃ (c74 : Nat), ∃ (hs72 : Hp), .tuple #[.slice A73 (l77).length c74, .int .i64 (x76)] = v ∧ (hs72 ++ R) = hp' ∧ OS 54 (OT.fr rApiRoute) b'.w (.slice A73 l77.length c74) l77 hs72 ∧ (A73 = none ↔ l77 = [])) := by
  refine fn_enterG 32 Tryz.func14 rfl Tryz.ntmps14 rfl ?_
  unfold mLineSome at hm
  refine c_sr ?_
  refine t_do rfl (u_box _ rfl rfl) ?_
  rintro _ _ ⟨g79, rfl, rfl⟩
  refine t_as rfl rfl ?_
  refine t_as rfl rfl ?_
  refine t_ne ?_
  refine c_sr ?_
  refine t_st rfl (st_loadD (vs := [_, _, _, _, _]) 0 5 rfl agg28 rfl rfl rfl) ?_
  obtain ⟨⟨x80, l81⟩, hcl82, hm⟩ := bindS hm
  have hm := (unc2E hm)
  refine t_callG _ rfl call10 rfl (cLineRoutes _ _ s1 A2 c3 A5 c6 A8 c9 A11 c12 A14 c15 h4 h7 h10 h13 h16 x80 l81 hcl82) ?_
  rintro _ b83 _ hle84 ⟨A85, c86, hs87, rfl, rfl, h88, h89⟩
  refine t_in1 [] [_] hs87 R rfl ?_
  refine t_mv rfl rfl ?_
  refine t_st rfl (st_extract rfl rfl) ?_
  refine t_st rfl (st_extract rfl rfl) ?_
  refine t_as rfl rfl ?_
  refine t_as rfl rfl ?_
  refine t_ne ?_
  refine c_seq ?_
  refine c_sr ?_
  refine t_mv rfl rfl ?_
  refine t_st rfl (st_neq rfl rfl) ?_
  refine t_ne ?_
  refine c_cond _ rfl (fun hc90 => ?_) (fun hc90 => ?_)
  ·
   rw [if_pos (of_decide_eq_true hc90)] at hm
   refine c_sr ?_
   refine t_mv rfl rfl ?_
   refine t_as rfl rfl ?_
   refine t_as rfl rfl ?_
   refine t_ne ?_
   refine c_ret ?_
   refine x_then_ret ?_
   obtain ⟨rfl, rfl⟩ := some2 hm
   exact retM (rs := [.tmp 4, .tmp 5]) [.slice none 0 0, .int .i64 (x80)] hle84 (by decide) rfl ⟨rfl, ⟨rfl, trivial⟩⟩ rfl (.cons _ (sub_skip hs87 (.refl _))) ⟨none, 0, [], rfl, rfl, OS.nil, ⟨fun _ => rfl, fun _ => rfl⟩⟩
  ·
   rw [if_neg (of_decide_eq_false hc90)] at hm
   refine c_skip ?_
   refine x_then_normal ?_
   refine c_seq ?_
   refine c_sr ?_
   refine t_mv rfl rfl ?_
   refine t_st rfl (st_len rfl sl37) ?_
   refine t_mv rfl rfl ?_
   refine t_ne ?_
   refine c_block ?_
   have hb92 : l20.length ≤ 9223372036854775807 := (FZ.bd (h19.le hle84))
   obtain ⟨t110, hl111, hk112⟩ := bindS hm
   refine c_forM (fun k109 => fun _ => fun b107 e' hp' => [(6, .slice A85 (l81).length c86), (18, .slice A17 (l20).length c18), (19, .int .i64 ((l20.length : Int))), (20, .int .i64 ((k109 : Int)))] = e' ∧ (hs87 ++ R) = hp' ∧ b83.Le b107) hl111 (e' := [(6, .slice A85 (l81).length c86), (18, .slice A17 (l20).length c18), (19, .int .i64 ((l20.length : Int))), (20, .int .i64 0)]) ⟨rfl, rfl, rfl, rfl, trivial⟩ (.cons _ (.refl _)) ⟨rfl, rfl, (Base.Le.refl _)⟩ ?_ ?_
   ·
    rintro k109 _ b107 _ _ oL91 hknL91 ⟨rfl, rfl, hle108⟩ hstepL91 houtL91
    unfold mLineSome_L91 at hstepL91
    have hm := hstepL91
    refine c_sr ?_
    refine t_st rfl (st_lss_t rfl rfl (by omega)) ?_
    refine t_ne ?_
    refine c_seq ?_
    refine c_cond_t rfl ?_
    refine c_skip ?_
    refine x_then_normal ?_
    refine c_seq ?_
    refine c_block ?_
    refine c_sr ?_
    obtain ⟨x113, h114, hm⟩ := bindS hm
    obtain ⟨j115, hj116, hx117⟩ := idx_some h114
    obtain ⟨cs118, hr119, hcs120, hA121, hlt122⟩ := FZ.get (sz := 1) rfl (by decide) (h19.le (hle84.trans hle108)) hx117
    obtain rfl := hr119
    refine t_st rfl (st_index_old j115 rfl rfl hj116 hlt122 hA121 sl37) ?_
    refine t_st rfl (st_load_old rfl one3 (hcs120 0 _ rfl)) ?_
    refine t_as rfl rfl ?_
    refine t_ne ?_
    refine c_sr ?_
    refine t_mv rfl rfl ?_
    refine t_mv rfl rfl ?_
    refine t_st rfl (st_len rfl sl47) ?_
    obtain ⟨_, h123, hm⟩ := bindS hm
    have h123 := (chk_some h123).2
    refine t_st rfl (st_sub rfl rfl h123) ?_
    obtain ⟨x124, hcl125, hm⟩ := bindS hm
    refine t_do rfl (u_callW0 _ call19 rfl (fun w ho => cLineWithin _ [] x113 0 ((l81.length : Int) - 1) x124 hcl125) (fun _ _ _ h => h.2.symm)) ?_
    rintro _ _ ⟨⟨_, rfl, _⟩, rfl⟩
    refine t_st rfl (st_not rfl) ?_
    refine t_ne ?_
    refine c_cond _ rfl (fun hc126 => ?_) (fun hc126 => ?_)
    ·
     rw [if_neg (fun hh => Bool.noConfusion (hh.symm.trans (notT hc126)))] at hm
     refine c_sr ?_
     refine t_as rfl rfl ?_
     refine t_as rfl rfl ?_
     refine t_ne ?_
     refine c_ret ?_
     refine x_block_ret ?_
     refine x_then_ret ?_
     refine x_then_ret ?_
     refine x_block_ret ?_
     refine x_then_ret ?_
     have hq127 := houtL91 _ (Option.some.inj hm).symm
     rw [hq127] at hk112
     have hm := elimR hk112
     obtain ⟨rfl, rfl⟩ := some2 hm
     exact retM (rs := [.tmp 4, .tmp 5]) [.slice none 0 0, .int .i64 (3)] (hle84.trans hle108) (by decide) rfl ⟨rfl, ⟨rfl, trivial⟩⟩ rfl (sub_skip hs87 (.refl _)) ⟨none, 0, [], rfl, rfl, OS.nil, ⟨fun _ => rfl, fun _ => rfl⟩⟩
    ·
     rw [if_pos (notF hc126)] at hm
     refine c_skip ?_
     refine x_block_normal ?_
     refine x_then_normal ?_
     refine c_region ?_
     refine t_st rfl (st_add rfl rfl (by omega)) ?_
     refine t_mv rfl rfl ?_
     refine t_nil ?_
     exact x_againM () (Option.some.inj hm).symm (e' := [(6, .slice A85 (l81).length c86), (18, .slice A17 (l20).length c18), (19, .int .i64 ((l20.length : Int))), (20, .int .i64 ((k109 : Int) + 1))]) ⟨rfl, rfl, rfl, rfl, trivial⟩ (.refl _) ⟨rfl, rfl, (hle108)⟩
   ·
    rintro _ b107 _ _ ⟨rfl, rfl, hle108⟩ hq128
    rw [hq128] at hk112
    have hm := elimL hk112
    refine c_sr ?_
    refine t_st rfl (st_lss_f rfl rfl (by omega)) ?_
    refine t_ne ?_
    refine c_seq ?_
    refine c_cond_f rfl ?_
    refine c_exit ?_
    refine x_then_exit ?_
    refine x_then_exit ?_
    refine x_block_out ?_
    refine x_then_normal ?_
    refine c_sr ?_
    refine t_mv rfl rfl ?_
    refine t_as rfl rfl ?_
    refine t_as rfl rfl ?_
    refine t_ne ?_
    refine c_ret ?_
    obtain ⟨rfl, rfl⟩ := some2 hm
    have he129 := (h88.le hle108)
    exact retM (rs := [.tmp 4, .tmp 5]) [.slice A85 (l81).length c86, .int .i64 (0)] (hle84.trans hle108) (by decide) rfl ⟨rfl, ⟨rfl, trivial⟩⟩ rfl (.refl _) ⟨A85, c86, hs87, rfl, rfl, he129, h89⟩

end Go.Proofs.YtcibjjhanafojaaGreatDoor
