/- Contracts: the code computes its model (part 4). -/
import Derived.Test.YtcibjjhanafojaaGreatDoorSP3
set_option linter.unusedVariables false
set_option linter.unusedSimpArgs false
namespace Go.Proofs.YtcibjjhanafojaaGreatDoor
open Go.RowKit Go.Fp

set_option maxRecDepth 20000 in
theorem cLineOverlap (b : Base) (R : Hp) (s1 : ApiNet) (s17 : ApiRoute) (A2 : Option Addr) (c3 : Nat) (A5 : Option Addr) (c6 : Nat) (A8 : Option Addr) (c9 : Nat) (A11 : Option Addr) (c12 : Nat) (A14 : Option Addr) (c15 : Nat) (A18 : Option Addr) (c19 : Nat) (h4 : FZ RT.str b.w A2 c3 s1.Stations) (h7 : FZ rApiSection b.w A5 c6 s1.Sections) (h10 : FZ rApiLink b.w A8 c9 s1.Links) (h13 : FZ rApiSignal b.w A11 c12 s1.Signals) (h16 : FZ rApiGate b.w A14 c15 s1.Gates) (h20 : FZ rApiStep b.w A18 c19 s17.Steps) (l1024 : (List ApiStep)) (hm : mLineOverlap s1 s17 = some l1024) :
    CallsG Tryz.prog 34 [.agg #[.slice A2 (s1.Stations).length c3, .slice A5 (s1.Sections).length c6, .slice A8 (s1.Links).length c9, .slice A11 (s1.Signals).length c12, .slice A14 (s1.Gates).length c15], .agg #[.int .i64 (s17.From), .int .i64 (s17.To), .slice A18 (s17.Steps).length c19]] b (R) (fun v b' hp' => ∃ (A1021 : Option Addr), ∃ (c1022 : Nat), ∃ (hs1020 : Hp), .slice A1021 (l1024).length c1022 = v ∧ (hs1020 ++ R) = hp' ∧ OS 56 (OT.fr rApiStep) b'.w (.slice A1021 l1024.length c1022) l1024 hs1020) := by
  refine fn_enterG 83 Tryz.func34 rfl Tryz.ntmps34 rfl ?_
  unfold mLineOverlap at hm
  refine c_sr ?_
  refine t_do rfl (u_box _ rfl rfl) ?_
  rintro _ _ ⟨g1025, rfl, rfl⟩
  refine t_do rfl (u_box _ rfl rfl) ?_
  rintro _ _ ⟨g1026, rfl, rfl⟩
  refine t_as rfl rfl ?_
  refine t_ne ?_
  refine c_seq ?_
  refine c_sr ?_
  refine t_st rfl (st_field rfl fld54_1) ?_
  refine t_st rfl (st_load 0 rfl one3 rfl rfl) ?_
  refine t_st rfl (st_lss rfl rfl) ?_
  refine t_ne ?_
  refine c_cond _ rfl (fun hc1027 => ?_) (fun hc1027 => ?_)
  ·
   rw [if_pos (of_decide_eq_true hc1027)] at hm
   refine c_sr ?_
   refine t_as rfl rfl ?_
   refine t_ne ?_
   refine c_ret ?_
   refine x_then_ret ?_
   obtain rfl := some1 hm
   exact retM (rs := [.tmp 4]) [.slice none 0 0] (Base.Le.refl _) (by decide) rfl ⟨rfl, trivial⟩ rfl (.cons _ (.cons _ (.refl _))) ⟨none, 0, [], rfl, rfl, OS.nil⟩
  ·
   rw [if_neg (of_decide_eq_false hc1027)] at hm
   refine c_skip ?_
   refine x_then_normal ?_
   refine c_sr ?_
   refine t_as rfl rfl ?_
   refine t_ne ?_
   obtain ⟨⟨x1073, x1074⟩, hj1075, hk1075⟩ := bindS hm
   refine c_join (fun b1070 e' hp' => ∃ (g1072 : Nat), [(2, .pointer (some ⟨g1025, 0, none⟩)), (3, .pointer (some ⟨g1026, 0, none⟩)), (5, .slice none 0 0), (6, .pointer (some ⟨g1072, 0, none⟩))] = e' ∧ (g1025, Cl 28 [.slice A2 (s1.Stations).length c3, .slice A5 (s1.Sections).length c6, .slice A8 (s1.Links).length c9, .slice A11 (s1.Signals).length c12, .slice A14 (s1.Gates).length c15]) :: (g1026, Cl 54 [.int .i64 (s17.From), .int .i64 (s17.To), .slice A18 (s17.Steps).length c19]) :: (g1072, Cl 109 [.int .i64 (x1073), .int .i64 (x1074)]) :: R = hp' ∧ b.Le b1070) ?_ ?_
   ·
    have hm := hj1075
    obtain ⟨x1097, h1098, hm⟩ := bindS hm
    obtain ⟨x1107, h1108, hm⟩ := bindS hm
    refine D_drawI mixed (.refl _) ?_
    refine E_st 0 rfl (st_field rfl fld28_3) ?_
    refine E_st 1 rfl (st_load 1 rfl one25 rfl rfl) ?_
    refine E_st 2 rfl (st_field rfl fld54_1) ?_
    refine E_st 3 rfl (st_load 0 rfl one3 rfl rfl) ?_
    obtain ⟨j1099, hj1100, hx1101⟩ := idx_some h1098
    obtain ⟨cs1102, hr1103, hcs1104, hA1105, hlt1106⟩ := FZ.get (sz := 2) rfl (by decide) h13 hx1101
    obtain ⟨_, _, rfl, rfl, rfl⟩ := hr1103
    refine E_st 4 rfl (st_index_old j1099 rfl rfl hj1100 hlt1106 hA1105 sl25) ?_
    refine E_st 5 rfl (st_field_old rfl hA1105 fld96_0) ?_
    refine E_st 6 rfl (st_load_old rfl one3 (hcs1104 0 _ rfl)) ?_
    refine E_st 7 rfl (st_field rfl fld28_3) ?_
    refine E_st 8 rfl (st_load 1 rfl one25 rfl rfl) ?_
    refine E_st 9 rfl (st_field rfl fld54_1) ?_
    refine E_st 10 rfl (st_load 0 rfl one3 rfl rfl) ?_
    obtain ⟨j1109, hj1110, hx1111⟩ := idx_some h1108
    obtain ⟨cs1112, hr1113, hcs1114, hA1115, hlt1116⟩ := FZ.get (sz := 2) rfl (by decide) h13 hx1111
    obtain ⟨_, _, rfl, rfl, rfl⟩ := hr1113
    refine E_st 11 rfl (st_index_old j1109 rfl rfl hj1110 hlt1116 hA1115 sl25) ?_
    refine E_st 12 rfl (st_field_old rfl hA1115 fld96_1) ?_
    refine E_st 13 rfl (st_load_old rfl one3 (hcs1114 1 _ rfl)) ?_
    refine E_st 14 rfl (st_build (v := .agg #[.int .i64 (x1097.Section), .int .i64 (x1107.End)]) [(0, .int .i64 (x1097.Section)), (1, .int .i64 (x1107.End))] rfl (fun _ => by kernel_rfl)) ?_
    refine E_out ?_
    refine D_all [15] (by kernel_rfl) rfl ?_
    refine R_do (Base.Le.refl _) rfl rfl (u_alloc [.int .i64 0, .int .i64 0] zero109 rfl) ?_ ?_
    ·
     rintro _ _ ⟨g1117, rfl, rfl⟩
     refine ⟨.inr (.cons _ (.refl _)), ?_⟩
     refine D_all [16] (by kernel_rfl) rfl ?_
     refine R_do (Base.Le.refl _) rfl rfl (u_storeN (vs := [_, _]) 0 2 rfl rfl rfl siz109 rfl (mem_c rfl (mem_c rfl mem_n)) rfl (by simp)) ?_ ?_
     ·
      rintro _ _ rfl
      refine ⟨.inl (by kernel_rfl), ?_⟩
      refine D_done (by kernel_rfl) ?_
      obtain ⟨rfl, rfl⟩ := some2 hm
      refine x_pullb 1 rfl ?_
      refine x_pullb 2 rfl ?_
      exact x_join (e' := [(2, .pointer (some ⟨g1025, 0, none⟩)), (3, .pointer (some ⟨g1026, 0, none⟩)), (5, .slice none 0 0), (6, .pointer (some ⟨g1117, 0, none⟩))]) ⟨rfl, rfl, rfl, rfl, trivial⟩ (.refl _) ⟨g1117, rfl, rfl, (Base.Le.refl _)⟩
     exact R_nil
    exact R_nil
   ·
    rintro b1070 _ _ ⟨g1072, rfl, rfl, hle1071⟩
    have hm := (unc2E hk1075)
    obtain ⟨l1573, hj1574, hk1574⟩ := bindS hm
    refine c_join (fun b1566 e' hp' => ∃ (A1570 : Option Addr), ∃ (c1571 : Nat), ∃ (hs1569 : Hp), [(5, .slice A1570 (l1573).length c1571)] = e' ∧ (hs1569 ++ R) = hp' ∧ b1070.Le b1566 ∧ OS 56 (OT.fr rApiStep) b1566.w (.slice A1570 l1573.length c1571) l1573 hs1569) ?_ ?_
    ·
     have hm := hj1574
     refine c_sr ?_
     refine t_as rfl rfl ?_
     refine t_ne ?_
     refine c_block ?_
     refine c_pullb 2 rfl ?_
     refine c_pullb 2 rfl ?_
     refine c_pullb 2 rfl ?_
     refine c_loopM (unc4 fun x1877 x1878 x1879 l1880 => fun b1870 e' hp' => ∃ (A1874 : Option Addr), ∃ (c1875 : Nat), ∃ (hs1873 : Hp), [(2, .pointer (some ⟨g1025, 0, none⟩)), (3, .pointer (some ⟨g1026, 0, none⟩)), (5, .slice A1874 (l1880).length c1875), (6, .pointer (some ⟨g1072, 0, none⟩)), (7, .int .i64 (x1877))] = e' ∧ (g1025, Cl 28 [.slice A2 (s1.Stations).length c3, .slice A5 (s1.Sections).length c6, .slice A8 (s1.Links).length c9, .slice A11 (s1.Signals).length c12, .slice A14 (s1.Gates).length c15]) :: (g1026, Cl 54 [.int .i64 (s17.From), .int .i64 (s17.To), .slice A18 (s17.Steps).length c19]) :: (g1072, Cl 109 [.int .i64 (x1878), .int .i64 (x1879)]) :: (hs1873 ++ R) = hp' ∧ b1070.Le b1870 ∧ OS 56 (OT.fr rApiStep) b1870.w (.slice A1874 l1880.length c1875) l1880 hs1873) hm (e' := [(2, .pointer (some ⟨g1025, 0, none⟩)), (3, .pointer (some ⟨g1026, 0, none⟩)), (5, .slice none 0 0), (6, .pointer (some ⟨g1072, 0, none⟩)), (7, .int .i64 (0))]) ⟨rfl, rfl, rfl, rfl, rfl, trivial⟩ (.refl _) ⟨none, 0, [], rfl, rfl, (Base.Le.refl _), OS.nil⟩ ?_
     rintro ⟨x1877, x1878, x1879, l1880⟩ b1870 _ _ oL1575 ⟨A1874, c1875, hs1873, rfl, rfl, hle1871, h1876⟩ hstepL1575 houtL1575
     unfold mLineOverlap_L1575 at hstepL1575
     have hm := (unc4E hstepL1575)
     refine c_seq ?_
     refine c_sr ?_
     refine t_mv rfl rfl ?_
     refine t_st rfl (st_lss rfl rfl) ?_
     refine t_ne ?_
     refine c_cond _ rfl (fun hc1881 => ?_) (fun hc1881 => ?_)
     ·
      rw [if_pos (of_decide_eq_true hc1881)] at hm
      refine c_skip ?_
      refine x_then_normal ?_
      refine c_block ?_
      refine c_sr ?_
      refine t_st rfl (st_build (v := .agg #[.int .i64 (0), .int .i64 (0), .int .i64 (0)]) [] rfl (fun _ => by kernel_rfl)) ?_
      refine t_do rfl (u_alloc [.int .i64 0, .int .i64 0, .int .i64 0] zero56 rfl) ?_
      rintro _ _ ⟨g1882, rfl, rfl⟩
      refine t_do rfl (u_alloc [.bool false] zero4 rfl) ?_
      rintro _ _ ⟨g1883, rfl, rfl⟩
      refine t_do rfl (u_storeN (vs := [_, _, _]) 1 3 rfl rfl rfl siz56 rfl (mem_c rfl (mem_c rfl (mem_c rfl mem_n))) rfl (by simp)) ?_
      rintro _ _ rfl
      refine t_do rfl (u_store 0 rfl rfl siz4 rfl rfl (by simp)) ?_
      rintro _ _ rfl
      refine t_ne ?_
      obtain ⟨⟨x1907, x1908, x1909, x1910⟩, hj1911, hk1911⟩ := bindS hm
      refine c_join (fun b1905 e' hp' => [(2, .pointer (some ⟨g1025, 0, none⟩)), (3, .pointer (some ⟨g1026, 0, none⟩)), (5, .slice A1874 (l1880).length c1875), (6, .pointer (some ⟨g1072, 0, none⟩)), (7, .int .i64 (x1877)), (8, .pointer (some ⟨g1882, 0, none⟩)), (9, .pointer (some ⟨g1883, 0, none⟩))] = e' ∧ (g1025, Cl 28 [.slice A2 (s1.Stations).length c3, .slice A5 (s1.Sections).length c6, .slice A8 (s1.Links).length c9, .slice A11 (s1.Signals).length c12, .slice A14 (s1.Gates).length c15]) :: (g1026, Cl 54 [.int .i64 (s17.From), .int .i64 (s17.To), .slice A18 (s17.Steps).length c19]) :: (g1072, Cl 109 [.int .i64 (x1878), .int .i64 (x1879)]) :: (g1882, Cl 56 [.int .i64 (x1907), .int .i64 (x1908), .int .i64 (x1909)]) :: (g1883, Cl 4 [.bool (x1910)]) :: (hs1873 ++ R) = hp' ∧ b1870.Le b1905) ?_ ?_
      ·
       have hm := hj1911
       refine c_sr ?_
       refine t_st rfl (st_loadD (vs := [_, _, _, _, _]) 2 5 rfl agg28 rfl rfl rfl) ?_
       refine t_st rfl (st_loadD (vs := [_, _]) 4 2 rfl agg109 rfl rfl rfl) ?_
       obtain ⟨l1912, hcl1913, hm⟩ := bindS hm
       refine t_callG _ rfl call56 rfl (cLineWalk _ _ s1 (⟨x1878, x1879⟩ : LineEnd) A2 c3 A5 c6 A8 c9 A11 c12 A14 c15 (h4.le (hle1071.trans hle1871)) (h7.le (hle1071.trans hle1871)) (h10.le (hle1071.trans hle1871)) (h13.le (hle1071.trans hle1871)) (h16.le (hle1071.trans hle1871)) l1912 hcl1913) ?_
       rintro _ b1914 _ hle1915 ⟨v1916, rfl, rfl, h1917⟩
       refine t_ne ?_
       refine c_block ?_
       obtain ⟨t1922, hl1923, hk1924⟩ := bindS hm
       refine c_pullb 1 rfl ?_
       refine c_pullb 4 rfl ?_
       refine c_pullb 4 rfl ?_
       refine c_pullb 4 rfl ?_
       refine c_rangeM (fun x : ApiStep => (.agg #[.int .i64 x.Section, .int .i64 x.In, .int .i64 x.Out] : Value)) (fun _ => fun b1920 hp' => (g1025, Cl 28 [.slice A2 (s1.Stations).length c3, .slice A5 (s1.Sections).length c6, .slice A8 (s1.Links).length c9, .slice A11 (s1.Signals).length c12, .slice A14 (s1.Gates).length c15]) :: (g1026, Cl 54 [.int .i64 (s17.From), .int .i64 (s17.To), .slice A18 (s17.Steps).length c19]) :: (g1072, Cl 109 [.int .i64 (x1878), .int .i64 (x1879)]) :: (g1882, Cl 56 [.int .i64 (0), .int .i64 (0), .int .i64 (0)]) :: (g1883, Cl 4 [.bool (false)]) :: (hs1873 ++ R) = hp' ∧ b1914.Le b1920) rfl h1917 hl1923 (e' := [(2, .pointer (some ⟨g1025, 0, none⟩)), (3, .pointer (some ⟨g1026, 0, none⟩)), (5, .slice A1874 (l1880).length c1875), (6, .pointer (some ⟨g1072, 0, none⟩)), (7, .int .i64 (x1877)), (8, .pointer (some ⟨g1882, 0, none⟩)), (9, .pointer (some ⟨g1883, 0, none⟩))]) ⟨rfl, rfl, rfl, rfl, rfl, rfl, rfl, trivial⟩ (.refl _) rfl (fun dk hdk => ⟨rfl, Base.Le.dks hdk⟩) ?_ ?_ (fun x hx => (hle1071.trans (hle1871.trans hle1915)).dk x hx)
       ·
        rintro r1925 l1926 x1927 _ b1920 b1928 _ oL1918 ⟨rfl, hle1921⟩ hle1929 hstepL1918 houtL1918
        unfold mLineOverlap_L1918 at hstepL1918
        have hm := hstepL1918
        refine c_region ?_
        refine t_do rfl (u_alloc [.int .i64 0, .int .i64 0, .int .i64 0] zero56 rfl) ?_
        rintro _ _ ⟨g1930, rfl, rfl⟩
        refine t_do rfl (u_storeN (vs := [_, _, _]) 0 3 rfl rfl rfl siz56 rfl (mem_c rfl (mem_c rfl (mem_c rfl mem_n))) rfl (by simp)) ?_
        rintro _ _ rfl
        refine t_nil ?_
        refine x_begin 1 rfl ?_
        refine c_block ?_
        refine c_sr ?_
        refine t_st rfl (st_loadD (vs := [_, _, _]) 1 3 rfl agg56 rfl rfl rfl) ?_
        refine t_do rfl (u_storeN (vs := [_, _, _]) 5 3 rfl rfl rfl siz56 rfl (mem_c rfl (mem_c rfl (mem_c rfl mem_n))) rfl (by simp)) ?_
        rintro _ _ rfl
        refine t_do rfl (u_store 6 rfl rfl siz4 rfl rfl (by simp)) ?_
        rintro _ _ rfl
        refine t_ne ?_
        refine c_exit ?_
        refine x_block_on rfl ?_
        refine x_leave 0 rfl (Base.Le.refl _) ?_
        refine c_exit ?_
        refine x_block_out ?_
        have hq1931 := houtL1918 _ (Option.some.inj hm).symm
        rw [hq1931] at hk1924
        have hm := elimR hk1924
        obtain ⟨rfl, rfl, rfl, rfl⟩ := some4 hm
        refine x_pullb 5 rfl ?_
        refine x_pullb 5 rfl ?_
        refine x_pullb 5 rfl ?_
        refine x_pullb 5 rfl ?_
        refine x_pullb 5 rfl ?_
        exact x_join (e' := [(2, .pointer (some ⟨g1025, 0, none⟩)), (3, .pointer (some ⟨g1026, 0, none⟩)), (5, .slice A1874 (l1880).length c1875), (6, .pointer (some ⟨g1072, 0, none⟩)), (7, .int .i64 (x1877)), (8, .pointer (some ⟨g1882, 0, none⟩)), (9, .pointer (some ⟨g1883, 0, none⟩))]) ⟨rfl, rfl, rfl, rfl, rfl, rfl, rfl, trivial⟩ (.cons_cons _ (.cons_cons _ (.cons_cons _ (.cons_cons _ (.cons_cons _ (.cons _ (.refl _))))))) ⟨rfl, rfl, (hle1915.trans (hle1921.trans hle1929))⟩
       ·
        rintro _ b1920 _ ⟨rfl, hle1921⟩ hq1932
        rw [hq1932] at hk1924
        have hm := elimL hk1924
        refine x_block_normal ?_
        obtain ⟨rfl, rfl, rfl, rfl⟩ := some4 hm
        refine x_pullb 4 rfl ?_
        refine x_pullb 4 rfl ?_
        refine x_pullb 4 rfl ?_
        refine x_pullb 4 rfl ?_
        refine x_pullb 4 rfl ?_
        exact x_join (e' := [(2, .pointer (some ⟨g1025, 0, none⟩)), (3, .pointer (some ⟨g1026, 0, none⟩)), (5, .slice A1874 (l1880).length c1875), (6, .pointer (some ⟨g1072, 0, none⟩)), (7, .int .i64 (x1877)), (8, .pointer (some ⟨g1882, 0, none⟩)), (9, .pointer (some ⟨g1883, 0, none⟩))]) ⟨rfl, rfl, rfl, rfl, rfl, rfl, rfl, trivial⟩ (.refl _) ⟨rfl, rfl, (hle1915.trans hle1921)⟩
      ·
       rintro b1905 _ _ ⟨rfl, rfl, hle1906⟩
       have hm := (unc4E hk1911)
       refine c_seq ?_
       obtain ⟨x1969, hj1970, hk1970⟩ := bindS hm
       refine c_join (fun b1967 e' hp' => [(2, .pointer (some ⟨g1025, 0, none⟩)), (3, .pointer (some ⟨g1026, 0, none⟩)), (5, .slice A1874 (l1880).length c1875), (6, .pointer (some ⟨g1072, 0, none⟩)), (7, .int .i64 (x1877)), (8, .pointer (some ⟨g1882, 0, none⟩)), (63, .bool (x1969))] = e' ∧ (g1025, Cl 28 [.slice A2 (s1.Stations).length c3, .slice A5 (s1.Sections).length c6, .slice A8 (s1.Links).length c9, .slice A11 (s1.Signals).length c12, .slice A14 (s1.Gates).length c15]) :: (g1026, Cl 54 [.int .i64 (s17.From), .int .i64 (s17.To), .slice A18 (s17.Steps).length c19]) :: (g1072, Cl 109 [.int .i64 (x1878), .int .i64 (x1879)]) :: (g1882, Cl 56 [.int .i64 (x1907), .int .i64 (x1908), .int .i64 (x1909)]) :: (hs1873 ++ R) = hp' ∧ b1905.Le b1967) ?_ ?_
       ·
        have hm := hj1970
        rcases Bool.eq_false_or_eq_true x1910 with hc1988 | hc1988
        ·
         rw [if_pos hc1988] at hm
         obtain ⟨x1989, hcl1990, hm⟩ := bindS hm
         rcases Bool.eq_false_or_eq_true x1989 with hc1991 | hc1991
         ·
          rw [if_pos hc1991] at hm
          refine D_drawI mixed (.refl _) ?_
          refine E_st 0 rfl (stB (st_load 4 rfl one4 rfl rfl) hc1988) ?_
          refine E_st 1 rfl (st_not_t rfl) ?_
          refine E_st 2 rfl (st_move rfl) ?_
          refine E_yes 3 39 rfl (st_field rfl fld54_2) ?_
          refine E_yes 4 39 rfl (st_load 1 rfl one52 rfl rfl) ?_
          refine E_yes 5 39 rfl (st_field rfl fld56_0) ?_
          refine E_yes 6 39 rfl (st_load 3 rfl one3 rfl rfl) ?_
          refine E_out ?_
          refine D_all [7] (by kernel_rfl) rfl ?_
          refine R_doY (Base.Le.refl _) rfl rfl 39 rfl rfl rfl (u_callW0 _ call40 rfl (fun w ho => cLineStands _ [] s17.Steps x1907 A18 c19 ((h20.le (hle1071.trans (hle1871.trans hle1906))).old ho) x1989 hcl1990) (fun _ _ _ h => h.2.symm)) ?_ ?_
          ·
           rintro _ _ ⟨⟨_, rfl, _⟩, rfl⟩
           refine ⟨.inr (.refl _), ?_⟩
           refine d_resp 44 rfl (v' := .bool true) (by rw [hc1991]) ?_
           refine E_in (.refl _) ?_
           refine E_st 8 rfl (st_pick_f rfl rfl) ?_
           refine E_st 9 rfl (st_move rfl) ?_
           refine E_no 10 46 rfl rfl rfl ?_
           refine E_no 11 46 rfl rfl rfl ?_
           refine E_no 12 46 rfl rfl rfl ?_
           refine E_no 13 46 rfl rfl rfl ?_
           refine E_st 14 rfl (st_pick_t rfl rfl) ?_
           refine E_st 15 rfl (st_move rfl) ?_
           refine E_no 16 52 rfl rfl rfl ?_
           refine E_no 17 52 rfl rfl rfl ?_
           refine E_no 18 52 rfl rfl rfl ?_
           refine E_no 19 52 rfl rfl rfl ?_
           refine E_no 20 52 rfl rfl rfl ?_
           refine E_no 21 52 rfl rfl rfl ?_
           refine E_no 22 52 rfl rfl rfl ?_
           refine E_no 23 52 rfl rfl rfl ?_
           refine E_no 24 52 rfl rfl rfl ?_
           refine E_no 25 52 rfl rfl rfl ?_
           refine E_st 26 rfl (st_pick_t rfl rfl) ?_
           refine E_out ?_
           refine D_done (by kernel_rfl) ?_
           obtain rfl := some1 hm
           refine x_pullb 3 rfl ?_
           refine x_pullb 3 rfl ?_
           refine x_pullb 3 rfl ?_
           refine x_pullb 3 rfl ?_
           exact x_join (e' := [(2, .pointer (some ⟨g1025, 0, none⟩)), (3, .pointer (some ⟨g1026, 0, none⟩)), (5, .slice A1874 (l1880).length c1875), (6, .pointer (some ⟨g1072, 0, none⟩)), (7, .int .i64 (x1877)), (8, .pointer (some ⟨g1882, 0, none⟩)), (63, .bool (true))]) ⟨rfl, rfl, rfl, rfl, rfl, rfl, rfl, trivial⟩ (.cons_cons _ (.cons_cons _ (.cons_cons _ (.cons_cons _ (.cons _ (.refl _)))))) ⟨rfl, rfl, (Base.Le.refl _)⟩
          exact R_nil
         ·
          rw [if_neg (fun hh => Bool.noConfusion (hh.symm.trans hc1991))] at hm
          obtain ⟨x1992, hcl1993, hm⟩ := bindS hm
          rcases Bool.eq_false_or_eq_true x1992 with hc1994 | hc1994
          ·
           rw [if_pos hc1994] at hm
           refine D_drawI mixed (.refl _) ?_
           refine E_st 0 rfl (stB (st_load 4 rfl one4 rfl rfl) hc1988) ?_
           refine E_st 1 rfl (st_not_t rfl) ?_
           refine E_st 2 rfl (st_move rfl) ?_
           refine E_yes 3 39 rfl (st_field rfl fld54_2) ?_
           refine E_yes 4 39 rfl (st_load 1 rfl one52 rfl rfl) ?_
           refine E_yes 5 39 rfl (st_field rfl fld56_0) ?_
           refine E_yes 6 39 rfl (st_load 3 rfl one3 rfl rfl) ?_
           refine E_out ?_
           refine D_all [7] (by kernel_rfl) rfl ?_
           refine R_doY (Base.Le.refl _) rfl rfl 39 rfl rfl rfl (u_callW0 _ call40 rfl (fun w ho => cLineStands _ [] s17.Steps x1907 A18 c19 ((h20.le (hle1071.trans (hle1871.trans hle1906))).old ho) x1989 hcl1990) (fun _ _ _ h => h.2.symm)) ?_ ?_
           ·
            rintro _ _ ⟨⟨_, rfl, _⟩, rfl⟩
            refine ⟨.inr (.refl _), ?_⟩
            refine d_resp 44 rfl (v' := .bool false) (by rw [hc1991]) ?_
            refine E_in (.refl _) ?_
            refine E_st 8 rfl (st_pick_f rfl rfl) ?_
            refine E_st 9 rfl (st_move rfl) ?_
            refine E_yes 10 46 rfl (st_move rfl) ?_
            refine E_yes 11 46 rfl (st_field rfl fld56_0) ?_
            refine E_yes 12 46 rfl (st_load 3 rfl one3 rfl rfl) ?_
            refine E_out ?_
            refine D_all [13] (by kernel_rfl) rfl ?_
            refine R_doY (Base.Le.refl _) rfl rfl 46 rfl rfl rfl (u_callW0 _ call40 rfl (fun w ho => cLineStands _ [] l1880 x1907 A1874 c1875 (OS.now (o := (OT.fr rApiStep)) (l := l1880) (hs := hs1873) (h1876.le hle1906) ho (.cons _ (.cons _ (.cons _ (.cons _ (.cons _ (List.sublist_append_left _ _))))))) x1992 hcl1993) (fun _ _ _ h => h.2.symm)) ?_ ?_
            ·
             rintro _ _ ⟨⟨_, rfl, _⟩, rfl⟩
             refine ⟨.inr (.refl _), ?_⟩
             refine d_resp 50 rfl (v' := .bool true) (by rw [hc1994]) ?_
             refine E_in (.refl _) ?_
             refine E_st 14 rfl (st_pick_f rfl rfl) ?_
             refine E_st 15 rfl (st_move rfl) ?_
             refine E_no 16 52 rfl rfl rfl ?_
             refine E_no 17 52 rfl rfl rfl ?_
             refine E_no 18 52 rfl rfl rfl ?_
             refine E_no 19 52 rfl rfl rfl ?_
             refine E_no 20 52 rfl rfl rfl ?_
             refine E_no 21 52 rfl rfl rfl ?_
             refine E_no 22 52 rfl rfl rfl ?_
             refine E_no 23 52 rfl rfl rfl ?_
             refine E_no 24 52 rfl rfl rfl ?_
             refine E_no 25 52 rfl rfl rfl ?_
             refine E_st 26 rfl (st_pick_t rfl rfl) ?_
             refine E_out ?_
             refine D_done (by kernel_rfl) ?_
             obtain rfl := some1 hm
             refine x_pullb 3 rfl ?_
             refine x_pullb 3 rfl ?_
             refine x_pullb 3 rfl ?_
             refine x_pullb 3 rfl ?_
             exact x_join (e' := [(2, .pointer (some ⟨g1025, 0, none⟩)), (3, .pointer (some ⟨g1026, 0, none⟩)), (5, .slice A1874 (l1880).length c1875), (6, .pointer (some ⟨g1072, 0, none⟩)), (7, .int .i64 (x1877)), (8, .pointer (some ⟨g1882, 0, none⟩)), (63, .bool (true))]) ⟨rfl, rfl, rfl, rfl, rfl, rfl, rfl, trivial⟩ (.cons_cons _ (.cons_cons _ (.cons_cons _ (.cons_cons _ (.cons _ (.refl _)))))) ⟨rfl, rfl, (Base.Le.refl _)⟩
            exact R_nil
           exact R_nil
          ·
           rw [if_neg (fun hh => Bool.noConfusion (hh.symm.trans hc1994))] at hm
           obtain ⟨x1995, h1996, hm⟩ := bindS hm
           refine D_drawI mixed (.refl _) ?_
           refine E_st 0 rfl (stB (st_load 4 rfl one4 rfl rfl) hc1988) ?_
           refine E_st 1 rfl (st_not_t rfl) ?_
           refine E_st 2 rfl (st_move rfl) ?_
           refine E_yes 3 39 rfl (st_field rfl fld54_2) ?_
           refine E_yes 4 39 rfl (st_load 1 rfl one52 rfl rfl) ?_
           refine E_yes 5 39 rfl (st_field rfl fld56_0) ?_
           refine E_yes 6 39 rfl (st_load 3 rfl one3 rfl rfl) ?_
           refine E_out ?_
           refine D_all [7] (by kernel_rfl) rfl ?_
           refine R_doY (Base.Le.refl _) rfl rfl 39 rfl rfl rfl (u_callW0 _ call40 rfl (fun w ho => cLineStands _ [] s17.Steps x1907 A18 c19 ((h20.le (hle1071.trans (hle1871.trans hle1906))).old ho) x1989 hcl1990) (fun _ _ _ h => h.2.symm)) ?_ ?_
           ·
            rintro _ _ ⟨⟨_, rfl, _⟩, rfl⟩
            refine ⟨.inr (.refl _), ?_⟩
            refine d_resp 44 rfl (v' := .bool false) (by rw [hc1991]) ?_
            refine E_in (.refl _) ?_
            refine E_st 8 rfl (st_pick_f rfl rfl) ?_
            refine E_st 9 rfl (st_move rfl) ?_
            refine E_yes 10 46 rfl (st_move rfl) ?_
            refine E_yes 11 46 rfl (st_field rfl fld56_0) ?_
            refine E_yes 12 46 rfl (st_load 3 rfl one3 rfl rfl) ?_
            refine E_out ?_
            refine D_all [13] (by kernel_rfl) rfl ?_
            refine R_doY (Base.Le.refl _) rfl rfl 46 rfl rfl rfl (u_callW0 _ call40 rfl (fun w ho => cLineStands _ [] l1880 x1907 A1874 c1875 (OS.now (o := (OT.fr rApiStep)) (l := l1880) (hs := hs1873) (h1876.le hle1906) ho (.cons _ (.cons _ (.cons _ (.cons _ (.cons _ (List.sublist_append_left _ _))))))) x1992 hcl1993) (fun _ _ _ h => h.2.symm)) ?_ ?_
            ·
             rintro _ _ ⟨⟨_, rfl, _⟩, rfl⟩
             refine ⟨.inr (.refl _), ?_⟩
             refine d_resp 50 rfl (v' := .bool false) (by rw [hc1994]) ?_
             refine E_in (.refl _) ?_
             refine E_st 14 rfl (st_pick_f rfl rfl) ?_
             refine E_st 15 rfl (st_move rfl) ?_
             refine E_yes 16 52 rfl (st_field rfl fld56_0) ?_
             refine E_yes 17 52 rfl (st_load 3 rfl one3 rfl rfl) ?_
             refine E_yes 18 52 rfl (st_field rfl fld28_3) ?_
             refine E_yes 19 52 rfl (st_load 0 rfl one25 rfl rfl) ?_
             refine E_yes 20 52 rfl (st_field rfl fld54_0) ?_
             refine E_yes 21 52 rfl (st_load 1 rfl one3 rfl rfl) ?_
             obtain ⟨j1997, hj1998, hx1999⟩ := idx_some h1996
             obtain ⟨cs2000, hr2001, hcs2002, hA2003, hlt2004⟩ := FZ.get (sz := 2) rfl (by decide) (h13.le (hle1071.trans (hle1871.trans hle1906))) hx1999
             obtain ⟨_, _, rfl, rfl, rfl⟩ := hr2001
             refine E_yes 22 52 rfl (st_index_old j1997 rfl rfl hj1998 hlt2004 hA2003 sl25) ?_
             refine E_yes 23 52 rfl (st_field_old rfl hA2003 fld96_0) ?_
             refine E_yes 24 52 rfl (st_load_old rfl one3 (hcs2002 0 _ rfl)) ?_
             refine E_yes 25 52 rfl (st_eql rfl rfl) ?_
             refine E_st 26 rfl (st_pick_f rfl rfl) ?_
             refine E_out ?_
             refine D_done (by kernel_rfl) ?_
             obtain rfl := some1 hm
             refine x_pullb 3 rfl ?_
             refine x_pullb 3 rfl ?_
             refine x_pullb 3 rfl ?_
             refine x_pullb 3 rfl ?_
             exact x_join (e' := [(2, .pointer (some ⟨g1025, 0, none⟩)), (3, .pointer (some ⟨g1026, 0, none⟩)), (5, .slice A1874 (l1880).length c1875), (6, .pointer (some ⟨g1072, 0, none⟩)), (7, .int .i64 (x1877)), (8, .pointer (some ⟨g1882, 0, none⟩)), (63, .bool (decide (x1907 = x1995.Section)))]) ⟨rfl, rfl, rfl, rfl, rfl, rfl, rfl, trivial⟩ (.cons_cons _ (.cons_cons _ (.cons_cons _ (.cons_cons _ (.cons _ (.refl _)))))) ⟨rfl, rfl, (Base.Le.refl _)⟩
            exact R_nil
           exact R_nil
        ·
         rw [if_neg (fun hh => Bool.noConfusion (hh.symm.trans hc1988))] at hm
         refine D_drawI mixed (.refl _) ?_
         refine E_st 0 rfl (stB (st_load 4 rfl one4 rfl rfl) hc1988) ?_
         refine E_st 1 rfl (st_not_f rfl) ?_
         refine E_st 2 rfl (st_move rfl) ?_
         refine E_no 3 39 rfl rfl rfl ?_
         refine E_no 4 39 rfl rfl rfl ?_
         refine E_no 5 39 rfl rfl rfl ?_
         refine E_no 6 39 rfl rfl rfl ?_
         refine E_no 7 39 rfl rfl rfl ?_
         refine E_st 8 rfl (st_pick_t rfl rfl) ?_
         refine E_st 9 rfl (st_move rfl) ?_
         refine E_no 10 46 rfl rfl rfl ?_
         refine E_no 11 46 rfl rfl rfl ?_
         refine E_no 12 46 rfl rfl rfl ?_
         refine E_no 13 46 rfl rfl rfl ?_
         refine E_st 14 rfl (st_pick_t rfl rfl) ?_
         refine E_st 15 rfl (st_move rfl) ?_
         refine E_no 16 52 rfl rfl rfl ?_
         refine E_no 17 52 rfl rfl rfl ?_
         refine E_no 18 52 rfl rfl rfl ?_
         refine E_no 19 52 rfl rfl rfl ?_
         refine E_no 20 52 rfl rfl rfl ?_
         refine E_no 21 52 rfl rfl rfl ?_
         refine E_no 22 52 rfl rfl rfl ?_
         refine E_no 23 52 rfl rfl rfl ?_
         refine E_no 24 52 rfl rfl rfl ?_
         refine E_no 25 52 rfl rfl rfl ?_
         refine E_st 26 rfl (st_pick_t rfl rfl) ?_
         refine E_out ?_
         refine D_done (by kernel_rfl) ?_
         obtain rfl := some1 hm
         refine x_pullb 3 rfl ?_
         refine x_pullb 3 rfl ?_
         refine x_pullb 3 rfl ?_
         refine x_pullb 3 rfl ?_
         exact x_join (e' := [(2, .pointer (some ⟨g1025, 0, none⟩)), (3, .pointer (some ⟨g1026, 0, none⟩)), (5, .slice A1874 (l1880).length c1875), (6, .pointer (some ⟨g1072, 0, none⟩)), (7, .int .i64 (x1877)), (8, .pointer (some ⟨g1882, 0, none⟩)), (63, .bool (true))]) ⟨rfl, rfl, rfl, rfl, rfl, rfl, rfl, trivial⟩ (.cons_cons _ (.cons_cons _ (.cons_cons _ (.cons_cons _ (.cons _ (.refl _)))))) ⟨rfl, rfl, (Base.Le.refl _)⟩
       ·
        rintro b1967 _ _ ⟨rfl, rfl, hle1968⟩
        have hm := hk1970
        refine c_cond _ rfl (fun hc2005 => ?_) (fun hc2005 => ?_)
        ·
         rw [if_pos hc2005] at hm
         refine c_exit ?_
         refine x_then_exit ?_
         refine x_block_on rfl ?_
         refine x_then_exit ?_
         refine x_block_out ?_
         have hm := congrArg some (houtL1575 _ (Option.some.inj hm).symm)
         obtain rfl := some1 hm
         exact x_join (e' := [(5, .slice A1874 (l1880).length c1875)]) ⟨rfl, trivial⟩ (.cons _ (.cons _ (.cons _ (.cons _ (.refl _))))) ⟨A1874, c1875, hs1873, rfl, rfl, (hle1871.trans (hle1906.trans hle1968)), (h1876.le (hle1906.trans hle1968))⟩
        ·
         rw [if_neg (fun hh => Bool.noConfusion (hh.symm.trans hc2005))] at hm
         refine c_skip ?_
         refine x_then_normal ?_
         refine c_sr ?_
         refine t_mv rfl rfl ?_
         refine t_st rfl (st_loadD (vs := [_, _, _]) 3 3 rfl agg56 rfl rfl rfl) ?_
         refine t_do rfl (u_bslice (el := 56) [(0, .agg #[.int .i64 (x1907), .int .i64 (x1908), .int .i64 (x1909)])] [.int .i64 (x1907), .int .i64 (x1908), .int .i64 (x1909)] rfl (fun _ => by kernel_rfl)) ?_
         rintro _ _ ⟨g2006, rfl, rfl⟩
         obtain ⟨_, h2007, hm⟩ := bindS hm
         have h2007 := room_some h2007
         refine t_do rfl (u_appOS (r := rApiStep) (l := l1880) [_, _, _, _, _] R [[.int .i64 (x1907), .int .i64 (x1908), .int .i64 (x1909)]] [(⟨x1907, x1908, x1909⟩ : ApiStep)] rfl (by decide) sl52 inf56 rfl rfl rfl rfl (h1876.le (hle1906.trans hle1968)) rfl (fun w ho => Rd.own (i := 0) ho rfl) ⟨⟨[.int .i64 (x1907)], _, rfl, rfl, ⟨[.int .i64 (x1908)], _, rfl, rfl, rfl⟩⟩, trivial⟩ h2007) ?_
         rintro _ _ ⟨hs2008, rfl, h2009⟩
         obtain ⟨A2010, c2011, rfl, _⟩ := h2009.form
         refine t_as rfl rfl ?_
         refine t_ne ?_
         refine c_sr ?_
         refine t_mv rfl rfl ?_
         refine t_st rfl (st_field rfl fld28_1) ?_
         refine t_st rfl (st_load 1 rfl one23 rfl rfl) ?_
         refine t_st rfl (st_field rfl fld56_0) ?_
         refine t_st rfl (st_load 4 rfl one3 rfl rfl) ?_
         obtain ⟨x2012, h2013, hm⟩ := bindS hm
         obtain ⟨j2014, hj2015, hx2016⟩ := idx_some h2013
         obtain ⟨cs2017, hr2018, hcs2019, hA2020, hlt2021⟩ := FZ.get (sz := 7) rfl (by decide) (h7.le (hle1071.trans (hle1871.trans (hle1906.trans hle1968)))) hx2016
         obtain ⟨_, _, rfl, rfl, ⟨_, _, rfl, rfl, ⟨_, _, rfl, rfl, ⟨_, _, rfl, rfl, ⟨_, _, rfl, rfl, ⟨_, _, rfl, rfl, rfl⟩⟩⟩⟩⟩⟩ := hr2018
         refine t_st rfl (st_index_old j2014 rfl rfl hj2015 hlt2021 hA2020 sl23) ?_
         refine t_st rfl (st_field_old rfl hA2020 fld91_1) ?_
         refine t_st rfl (st_load_old rfl one3 (hcs2019 1 _ rfl)) ?_
         obtain ⟨_, h2022, hm⟩ := bindS hm
         have h2022 := (chk_some h2022).2
         refine t_st rfl (st_add rfl rfl h2022) ?_
         refine t_as rfl rfl ?_
         refine t_ne ?_
         refine c_region ?_
         refine t_st rfl (st_field rfl fld56_0) ?_
         refine t_st rfl (st_load 4 rfl one3 rfl rfl) ?_
         refine t_st rfl (st_field rfl fld56_2) ?_
         refine t_st rfl (st_load 4 rfl one3 rfl rfl) ?_
         refine t_st rfl (st_build (v := .agg #[.int .i64 (x1907), .int .i64 (x1909)]) [(0, .int .i64 (x1907)), (1, .int .i64 (x1909))] rfl (fun _ => by kernel_rfl)) ?_
         refine t_do rfl (u_storeN (vs := [_, _]) 3 2 rfl rfl rfl siz109 rfl (mem_c rfl (mem_c rfl mem_n)) rfl (by simp)) ?_
         rintro _ _ rfl
         refine t_nil ?_
         refine x_block_normal ?_
         refine x_pullb 3 rfl ?_
         refine x_pullb 3 rfl ?_
         refine x_pullb 3 rfl ?_
         exact x_againM (x1877 + x2012.Length, x1907, x1909, l1880 ++ [(⟨x1907, x1908, x1909⟩ : ApiStep)]) (Option.some.inj hm).symm (e' := [(2, .pointer (some ⟨g1025, 0, none⟩)), (3, .pointer (some ⟨g1026, 0, none⟩)), (5, .slice A2010 (l1880 ++ [(⟨x1907, x1908, x1909⟩ : ApiStep)]).length c2011), (6, .pointer (some ⟨g1072, 0, none⟩)), (7, .int .i64 (x1877 + x2012.Length))]) ⟨rfl, rfl, rfl, rfl, rfl, trivial⟩ (.cons_cons _ (.cons_cons _ (.cons_cons _ (.cons _ (.cons _ (.refl _)))))) ⟨A2010, c2011, hs2008, rfl, rfl, ((hle1871.trans (hle1906.trans hle1968))), h2009⟩
     ·
      rw [if_neg (of_decide_eq_false hc1881)] at hm
      refine c_exit ?_
      refine x_then_exit ?_
      refine x_then_exit ?_
      refine x_block_out ?_
      have hm := congrArg some (houtL1575 _ (Option.some.inj hm).symm)
      obtain rfl := some1 hm
      exact x_join (e' := [(5, .slice A1874 (l1880).length c1875)]) ⟨rfl, trivial⟩ (.cons _ (.cons _ (.cons _ (.refl _)))) ⟨A1874, c1875, hs1873, rfl, rfl, hle1871, h1876⟩
    ·
     rintro b1566 _ _ ⟨A1570, c1571, hs1569, rfl, rfl, hle1567, h1572⟩
     have hm := hk1574
     refine c_sr ?_
     refine t_mv rfl rfl ?_
     refine t_as rfl rfl ?_
     refine t_ne ?_
     refine c_ret ?_
     obtain rfl := some1 hm
     exact retM (rs := [.tmp 4]) [.slice A1570 (l1573).length c1571] (hle1071.trans hle1567) (by decide) rfl ⟨rfl, trivial⟩ rfl (.refl _) ⟨A1570, c1571, hs1569, rfl, rfl, h1572⟩

set_option maxRecDepth 20000 in
theorem cLinePosition (b : Base) (R : Hp) (s1 : ApiNet) (s17 : ApiStep) (A2 : Option Addr) (c3 : Nat) (A5 : Option Addr) (c6 : Nat) (A8 : Option Addr) (c9 : Nat) (A11 : Option Addr) (c12 : Nat) (A14 : Option Addr) (c15 : Nat) (h4 : FZ RT.str b.w A2 c3 s1.Stations) (h7 : FZ rApiSection b.w A5 c6 s1.Sections) (h10 : FZ rApiLink b.w A8 c9 s1.Links) (h13 : FZ rApiSignal b.w A11 c12 s1.Signals) (h16 : FZ rApiGate b.w A14 c15 s1.Gates) (x31 : Int) (hm : mLinePosition s1 s17 = some x31) :
    CallsG Tryz.prog 36 [.agg #[.slice A2 (s1.Stations).length c3, .slice A5 (s1.Sections).length c6, .slice A8 (s1.Links).length c9, .slice A11 (s1.Signals).length c12, .slice A14 (s1.Gates).length c15], .agg #[.int .i64 (s17.Section), .int .i64 (s17.In), .int .i64 (s17.Out)]] b (R) (fun v b' hp' => .int .i64 (x31) = v ∧ R = hp') := by
  refine fn_enterG 18 Tryz.func36 rfl Tryz.ntmps36 rfl ?_
  unfold mLinePosition at hm
  refine c_sr ?_
  refine t_do rfl (u_box _ rfl rfl) ?_
  rintro _ _ ⟨g32, rfl, rfl⟩
  refine t_do rfl (u_box _ rfl rfl) ?_
  rintro _ _ ⟨g33, rfl, rfl⟩
  refine t_as rfl rfl ?_
  refine t_ne ?_
  refine c_seq ?_
  refine c_sr ?_
  refine t_st rfl (st_field rfl fld28_1) ?_
  refine t_st rfl (st_load 1 rfl one23 rfl rfl) ?_
  refine t_st rfl (st_field rfl fld56_0) ?_
  refine t_st rfl (st_load 0 rfl one3 rfl rfl) ?_
  obtain ⟨x34, h35, hm⟩ := bindS hm
  obtain ⟨j36, hj37, hx38⟩ := idx_some h35
  obtain ⟨cs39, hr40, hcs41, hA42, hlt43⟩ := FZ.get (sz := 7) rfl (by decide) h7 hx38
  obtain ⟨_, _, rfl, rfl, ⟨_, _, rfl, rfl, ⟨_, _, rfl, rfl, ⟨_, _, rfl, rfl, ⟨_, _, rfl, rfl, ⟨_, _, rfl, rfl, rfl⟩⟩⟩⟩⟩⟩ := hr40
  refine t_st rfl (st_index_old j36 rfl rfl hj37 hlt43 hA42 sl23) ?_
  refine t_st rfl (st_field_old rfl hA42 fld91_0) ?_
  refine t_st rfl (st_load_old rfl one3 (hcs41 0 _ rfl)) ?_
  refine t_st rfl (st_eql rfl rfl) ?_
  refine t_ne ?_
  refine c_cond _ rfl (fun hc44 => ?_) (fun hc44 => ?_)
  ·
   rw [if_pos (of_decide_eq_true hc44)] at hm
   refine c_sr ?_
   refine t_st rfl (st_field rfl fld56_1) ?_
   refine t_st rfl (st_load 0 rfl one3 rfl rfl) ?_
   refine t_st rfl (st_field rfl fld56_2) ?_
   refine t_st rfl (st_load 0 rfl one3 rfl rfl) ?_
   refine t_st rfl (st_max rfl rfl) ?_
   refine t_as rfl rfl ?_
   refine t_ne ?_
   refine c_ret ?_
   refine x_then_ret ?_
   obtain rfl := some1 hm
   exact retM (rs := [.tmp 4]) [.int .i64 (max s17.In s17.Out)] (Base.Le.refl _) (by decide) rfl ⟨rfl, trivial⟩ rfl (.cons _ (.cons _ (.refl _))) ⟨rfl, rfl⟩
  ·
   rw [if_neg (of_decide_eq_false hc44)] at hm
   refine c_skip ?_
   refine x_then_normal ?_
   refine c_sr ?_
   refine t_as rfl rfl ?_
   refine t_ne ?_
   refine c_ret ?_
   obtain rfl := some1 hm
   exact retM (rs := [.tmp 4]) [.int .i64 (0)] (Base.Le.refl _) (by decide) rfl ⟨rfl, trivial⟩ rfl (.cons _ (.cons _ (.refl _))) ⟨rfl, rfl⟩

set_option maxRecDepth 20000 in
theorem cLineLookerNeed (b : Base) (R : Hp) (s16 : ApiNeed) (l20 : (List ByteArray)) (l24 : (List ApiSection)) (l28 : (List ApiLink)) (l32 : (List ApiSignal)) (l36 : (List ApiGate)) (x37 : Int) (x38 : Int) (l42 : (List ApiStep)) (l43 : (List ApiStep)) (l44 : (List ApiNeed)) (l46 : (List (ApiNeed × Bool))) (g15 : Nat) (A17 : Option Addr) (c18 : Nat) (A21 : Option Addr) (c22 : Nat) (A25 : Option Addr) (c26 : Nat) (A29 : Option Addr) (c30 : Nat) (A33 : Option Addr) (c34 : Nat) (A39 : Option Addr) (c40 : Nat) (A3 : Option Addr) (c4 : Nat) (hs2 : Hp) (A8 : Option Addr) (c9 : Nat) (hs7 : Hp) (g13 : Nat) (hs12 : Hp) (h19 : FZ RT.str b.w A17 c18 l20) (h23 : FZ rApiSection b.w A21 c22 l24) (h27 : FZ rApiLink b.w A25 c26 l28) (h31 : FZ rApiSignal b.w A29 c30 l32) (h35 : FZ rApiGate b.w A33 c34 l36) (h41 : FZ rApiStep b.w A39 c40 l42) (h5 : OS 56 (OT.fr rApiStep) b.w (.slice A3 l43.length c4) l43 hs2) (h10 : OS 42 (OT.fr rApiNeed) b.w (.slice A8 l44.length c9) l44 hs7) (hnz45 : (A8 = none ↔ l44 = [])) (h14 : OM rApiNeed (OT.fr RT.bool) true false b.w g13 l46 hs12) (l87 : (List ApiNeed)) (l89 : (List (ApiNeed × Bool))) (hm : mLineLookerNeed s16 l20 l24 l28 l32 l36 x37 x38 l42 l43 l44 l46 = some (l87, l89)) :
    CallsG Tryz.prog 35 [.pointer (some ⟨g15, 0, none⟩), .agg #[.int .i64 (s16.Kind), .int .i64 (s16.Place), .int .i64 (s16.Position), .int .i64 (s16.At)]] b ((g15, Cl 86 [.slice A17 (l20).length c18, .slice A21 (l24).length c22, .slice A25 (l28).length c26, .slice A29 (l32).length c30, .slice A33 (l36).length c34, .int .i64 (x37), .int .i64 (x38), .slice A39 (l42).length c40, .slice A3 (l43).length c4, .slice A8 (l44).length c9, .map (some g13)]) :: (hs2 ++ (hs7 ++ (hs12 ++ R)))) (fun v b' hp' => ∃ (A81 : Option Addr), ∃ (c82 : Nat), ∃ (hs80 : Hp), ∃ (hs85 : Hp), .tuple #[] = v ∧ (g15, Cl 86 [.slice A17 (l20).length c18, .slice A21 (l24).length c22, .slice A25 (l28).length c26, .slice A29 (l32).length c30, .slice A33 (l36).length c34, .int .i64 (x37), .int .i64 (x38), .slice A39 (l42).length c40, .slice A3 (l43).length c4, .slice A81 (l87).length c82, .map (some g13)]) :: (hs2 ++ (hs80 ++ (hs85 ++ R))) = hp' ∧ OS 42 (OT.fr rApiNeed) b'.w (.slice A81 l87.length c82) l87 hs80 ∧ (A81 = none ↔ l87 = []) ∧ OM rApiNeed (OT.fr RT.bool) true false b'.w g13 l89 hs85) := by
  refine fn_enterG 26 Tryz.func35 rfl Tryz.ntmps35 rfl ?_
  unfold mLineLookerNeed at hm
  refine c_sr ?_
  refine t_do rfl (u_box _ rfl rfl) ?_
  rintro _ _ ⟨g90, rfl, rfl⟩
  refine t_ne ?_
  refine c_seq ?_
  obtain ⟨x100, h102, hm⟩ := bindS hm
  refine D_drawI mixed (.refl _) ?_
  refine E_st 0 rfl (st_move rfl) ?_
  refine E_st 1 rfl (st_nil rfl) ?_
  refine E_st 2 rfl (st_field rfl fld86_4) ?_
  refine E_st 3 rfl (st_load 1 rfl one84 rfl rfl) ?_
  refine E_st 4 rfl (st_loadD (vs := [_, _, _, _]) 0 4 rfl agg42 rfl rfl rfl) ?_
  have hx101 := Option.some.inj h102
  obtain ⟨v97, hv98, hr99⟩ := OM.lookF kok42 (z0 := false) h14 (key := .agg #[.int .i64 (s16.Kind), .int .i64 (s16.Place), .int .i64 (s16.Position), .int .i64 (s16.At)]) (k := s16) ⟨[.int .i64 (s16.Kind), .int .i64 (s16.Place), .int .i64 (s16.Position), .int .i64 (s16.At)], rfl, ⟨[.int .i64 (s16.Kind)], _, rfl, rfl, ⟨[.int .i64 (s16.Place)], _, rfl, rfl, ⟨[.int .i64 (s16.Position)], _, rfl, rfl, rfl⟩⟩⟩⟩ mapt84 zero4 rfl
  rw [hx101] at hv98
  obtain rfl : v97 = .bool (x100) := by have hv98 : [v97] = [.bool (x100)] := hv98; injection hv98
  refine E_st 5 rfl (st_mlook (ok := false) rfl rfl (fun w ho => hr99 _ w ho (.cons _ (.cons _ (sub_skip hs2 (sub_skip hs7 (List.sublist_append_left _ _))))) false)) ?_
  refine E_st 6 rfl (st_not rfl) ?_
  refine E_out ?_
  refine D_done (by kernel_rfl) ?_
  refine x_then_normal ?_
  refine c_cond _ rfl (fun hc103 => ?_) (fun hc103 => ?_)
  ·
   rw [if_neg (fun hh => Bool.noConfusion (hh.symm.trans (notT hc103)))] at hm
   refine c_seq ?_
   refine D_drawI mixed (.refl _) ?_
   refine E_st 0 rfl (st_move rfl) ?_
   refine E_st 1 rfl (st_nil rfl) ?_
   refine E_st 2 rfl (st_field rfl fld86_4) ?_
   refine E_st 3 rfl (st_load 1 rfl one84 rfl rfl) ?_
   refine E_st 4 rfl (st_loadD (vs := [_, _, _, _]) 0 4 rfl agg42 rfl rfl rfl) ?_
   refine E_out ?_
   refine d_front3 [_, _] hs2 hs7 hs12 R rfl ?_
   refine D_all [5] (by kernel_rfl) rfl ?_
   refine R_do (Base.Le.refl _) rfl rfl (u_mputF (k := s16) kok42 [_, _] [] (hs2 ++ (hs7 ++ R)) rfl h14 mapt84 rfl rfl rfl (⟨[.int .i64 (s16.Kind), .int .i64 (s16.Place), .int .i64 (s16.Position), .int .i64 (s16.At)], rfl, ⟨[.int .i64 (s16.Kind)], _, rfl, rfl, ⟨[.int .i64 (s16.Place)], _, rfl, rfl, ⟨[.int .i64 (s16.Position)], _, rfl, rfl, rfl⟩⟩⟩⟩) ⟨rfl, rfl⟩ _ (.inl rfl)) ?_ ?_
   ·
    rintro _ _ ⟨hs107, rfl, hsub108, h109⟩
    refine ⟨.inl (by kernel_rfl), ?_⟩
    refine D_done (by kernel_rfl) ?_
    refine x_then_normal ?_
    obtain ⟨_, h117, hm⟩ := bindS hm
    refine D_drawI mixed (.cons_cons _ (.cons _ (sub_app hs107 (sub_app hs2 (sub_skip hs7 (.refl _)))))) ?_
    refine E_st 0 rfl (st_move rfl) ?_
    refine E_st 1 rfl (st_move rfl) ?_
    refine E_st 2 rfl (st_nil rfl) ?_
    refine E_st 3 rfl (st_field rfl fld86_3) ?_
    refine E_st 5 rfl (st_loadD (vs := [_, _, _, _]) 0 4 rfl agg42 rfl rfl rfl) ?_
    refine E_out ?_
    refine D_all [4, 6] (by kernel_rfl) rfl ?_
    refine R_do (Base.Le.refl _) rfl rfl (Stable.does (st_load 1 rfl one38 rfl rfl)) ?_ ?_
    ·
     rintro _ _ ⟨rfl, rfl⟩
     refine ⟨.inr (.cons_cons _ (.cons _ (sub_app hs107 (sub_app hs2 (sub_skip hs7 (.refl _)))))), ?_⟩
     refine D_all [6] (by kernel_rfl) rfl ?_
     refine R_do (Base.Le.refl _) rfl rfl (u_bslice (el := 42) [(0, .agg #[.int .i64 (s16.Kind), .int .i64 (s16.Place), .int .i64 (s16.Position), .int .i64 (s16.At)])] [.int .i64 (s16.Kind), .int .i64 (s16.Place), .int .i64 (s16.Position), .int .i64 (s16.At)] rfl (fun _ => by kernel_rfl)) ?_ ?_
     ·
      rintro _ _ ⟨g116, rfl, rfl⟩
      refine ⟨.inr (.cons _ (.cons_cons _ (.cons _ (sub_app hs107 (sub_app hs2 (sub_skip hs7 (.refl _))))))), ?_⟩
      have h117 := room_some h117
      refine d_front3 [_, _, _] hs107 hs2 hs7 R rfl ?_
      refine D_all [7] (by kernel_rfl) rfl ?_
      refine R_do (Base.Le.refl _) rfl rfl (u_appOS (r := rApiNeed) (l := l44) [_, _, _] (hs107 ++ (hs2 ++ R)) [[.int .i64 (s16.Kind), .int .i64 (s16.Place), .int .i64 (s16.Position), .int .i64 (s16.At)]] [s16] rfl (by decide) sl38 inf42 rfl rfl rfl rfl h10 rfl (fun w ho => Rd.own (i := 0) ho rfl) ⟨⟨[.int .i64 (s16.Kind)], _, rfl, rfl, ⟨[.int .i64 (s16.Place)], _, rfl, rfl, ⟨[.int .i64 (s16.Position)], _, rfl, rfl, rfl⟩⟩⟩, trivial⟩ h117) ?_ ?_
      ·
       rintro _ _ ⟨hs118, rfl, h119⟩
       obtain ⟨A120, c121, rfl, _⟩ := h119.form
       refine ⟨.inr (.cons _ (.cons_cons _ (.cons _ (sub_skip hs118 (.refl _))))), ?_⟩
       refine E_in (.cons _ (.cons_cons _ (.cons _ (sub_skip hs118 (.refl _))))) ?_
       refine E_st 8 rfl (st_nil rfl) ?_
       refine E_st 9 rfl (st_field rfl fld86_3) ?_
       refine E_out ?_
       refine D_all [10] (by kernel_rfl) rfl ?_
       refine R_do (Base.Le.refl _) rfl rfl (u_store 2 rfl rfl siz38 rfl rfl (by simp)) ?_ ?_
       ·
        rintro _ _ rfl
        refine ⟨.inr (.cons _ (.cons_cons _ (.cons _ (sub_skip hs118 (.refl _))))), ?_⟩
        refine D_done (by kernel_rfl) ?_
        obtain ⟨rfl, rfl⟩ := some2 hm
        refine x_pullb 2 rfl ?_
        refine x_front2 [_, _, _] hs118 hs107 (hs2 ++ R) rfl ?_
        refine x_front2 [_, _, _] hs107 hs118 (hs2 ++ R) rfl ?_
        refine x_front3 [_, _, _] hs118 hs107 hs2 R rfl ?_
        exact endM (Base.Le.refl _) rfl (.cons_cons _ (.cons _ (.cons _ (.refl _)))) ⟨A120, c121, hs118, hs107, rfl, rfl, h119, (OS.nz h119 (by simp)), h109⟩
       exact R_nil
      exact R_nil
     exact R_nil
    refine R_do (Base.Le.refl _) rfl rfl (u_bslice (el := 42) [(0, .agg #[.int .i64 (s16.Kind), .int .i64 (s16.Place), .int .i64 (s16.Position), .int .i64 (s16.At)])] [.int .i64 (s16.Kind), .int .i64 (s16.Place), .int .i64 (s16.Position), .int .i64 (s16.At)] rfl (fun _ => by kernel_rfl)) ?_ ?_
    ·
     rintro _ _ ⟨g116, rfl, rfl⟩
     refine ⟨.inr (.cons _ (.cons_cons _ (.cons _ (sub_app hs107 (sub_app hs2 (sub_skip hs7 (.refl _))))))), ?_⟩
     refine D_all [4] (by kernel_rfl) rfl ?_
     refine R_do (Base.Le.refl _) rfl rfl (Stable.does (st_load 2 rfl one38 rfl rfl)) ?_ ?_
     ·
      rintro _ _ ⟨rfl, rfl⟩
      refine ⟨.inr (.cons _ (.cons_cons _ (.cons _ (sub_app hs107 (sub_app hs2 (sub_skip hs7 (.refl _))))))), ?_⟩
      have h117 := room_some h117
      refine d_front3 [_, _, _] hs107 hs2 hs7 R rfl ?_
      refine D_all [7] (by kernel_rfl) rfl ?_
      refine R_do (Base.Le.refl _) rfl rfl (u_appOS (r := rApiNeed) (l := l44) [_, _, _] (hs107 ++ (hs2 ++ R)) [[.int .i64 (s16.Kind), .int .i64 (s16.Place), .int .i64 (s16.Position), .int .i64 (s16.At)]] [s16] rfl (by decide) sl38 inf42 rfl rfl rfl rfl h10 rfl (fun w ho => Rd.own (i := 0) ho rfl) ⟨⟨[.int .i64 (s16.Kind)], _, rfl, rfl, ⟨[.int .i64 (s16.Place)], _, rfl, rfl, ⟨[.int .i64 (s16.Position)], _, rfl, rfl, rfl⟩⟩⟩, trivial⟩ h117) ?_ ?_
      ·
       rintro _ _ ⟨hs118, rfl, h119⟩
       obtain ⟨A120, c121, rfl, _⟩ := h119.form
       refine ⟨.inr (.cons _ (.cons_cons _ (.cons _ (sub_skip hs118 (.refl _))))), ?_⟩
       refine E_in (.cons _ (.cons_cons _ (.cons _ (sub_skip hs118 (.refl _))))) ?_
       refine E_st 8 rfl (st_nil rfl) ?_
       refine E_st 9 rfl (st_field rfl fld86_3) ?_
       refine E_out ?_
       refine D_all [10] (by kernel_rfl) rfl ?_
       refine R_do (Base.Le.refl _) rfl rfl (u_store 2 rfl rfl siz38 rfl rfl (by simp)) ?_ ?_
       ·
        rintro _ _ rfl
        refine ⟨.inr (.cons _ (.cons_cons _ (.cons _ (sub_skip hs118 (.refl _))))), ?_⟩
        refine D_done (by kernel_rfl) ?_
        obtain ⟨rfl, rfl⟩ := some2 hm
        refine x_pullb 2 rfl ?_
        refine x_front2 [_, _, _] hs118 hs107 (hs2 ++ R) rfl ?_
        refine x_front2 [_, _, _] hs107 hs118 (hs2 ++ R) rfl ?_
        refine x_front3 [_, _, _] hs118 hs107 hs2 R rfl ?_
        exact endM (Base.Le.refl _) rfl (.cons_cons _ (.cons _ (.cons _ (.refl _)))) ⟨A120, c121, hs118, hs107, rfl, rfl, h119, (OS.nz h119 (by simp)), h109⟩
       exact R_nil
      exact R_nil
     exact R_nil
    exact R_nil
   exact R_nil
  ·
   rw [if_pos (notF hc103)] at hm
   refine c_skip ?_
   obtain ⟨rfl, rfl⟩ := some2 hm
   refine x_pullb 1 rfl ?_
   refine x_front3 [_, _] hs2 hs7 hs12 R rfl ?_
   refine x_front3 [_, _] hs12 hs2 hs7 R rfl ?_
   refine x_front3 [_, _] hs7 hs12 hs2 R rfl ?_
   exact endM (Base.Le.refl _) rfl (.cons_cons _ (.cons _ (.refl _))) ⟨A8, c9, hs7, hs12, rfl, rfl, h10, hnz45, h14⟩

set_option maxRecDepth 20000 in
theorem cLineLookerFlank_1 (b : Base) (R : Hp) (s3 : ApiNeed) (x4 : Int) (x5 : Int) (g1 : Nat) (g2 : Nat) (x15 : Bool) (hm : mLineLookerFlank_1 s3 x4 x5 = some x15) :
    CallsG Tryz.prog 75 [.agg #[.int .i64 (s3.Kind), .int .i64 (s3.Place), .int .i64 (s3.Position), .int .i64 (s3.At)], .pointer (some ⟨g1, 0, none⟩), .pointer (some ⟨g2, 0, none⟩)] b ((g1, Cl 3 [.int .i64 (x4)]) :: (g2, Cl 3 [.int .i64 (x5)]) :: R) (fun v b' hp' => .bool (x15) = v ∧ (g1, Cl 3 [.int .i64 (x4)]) :: (g2, Cl 3 [.int .i64 (x5)]) :: R = hp') := by
  refine fn_enterG 20 Tryz.func75 rfl Tryz.ntmps75 rfl ?_
  unfold mLineLookerFlank_1 at hm
  refine c_sr ?_
  refine t_do rfl (u_box _ rfl rfl) ?_
  rintro _ _ ⟨g16, rfl, rfl⟩
  refine t_as rfl rfl ?_
  refine t_ne ?_
  obtain ⟨x21, hj22, hk22⟩ := bindS hm
  refine c_join (fun b19 e' hp' => [(4, .bool (x21))] = e' ∧ (g1, Cl 3 [.int .i64 (x4)]) :: (g2, Cl 3 [.int .i64 (x5)]) :: R = hp' ∧ b.Le b19) ?_ ?_
  ·
   have hm := hj22
   refine c_region ?_
   refine t_st rfl (st_field rfl fld42_0) ?_
   refine t_st rfl (st_load 0 rfl one3 rfl rfl) ?_
   refine t_bool rfl (st_eql rfl rfl) (fun hc23 => ?_) (fun hc23 => ?_)
   ·
    rw [if_pos hc23] at hm
    refine t_mv rfl rfl ?_
    refine t_yes 8 rfl rfl rfl ?_
    refine t_st rfl (st_field rfl fld42_1) ?_
    refine t_yes 8 rfl rfl rfl ?_
    refine t_st rfl (st_load 0 rfl one3 rfl rfl) ?_
    refine t_yes 8 rfl rfl rfl ?_
    refine t_st rfl (st_load 1 rfl one3 rfl rfl) ?_
    refine t_yes 8 rfl rfl rfl ?_
    refine t_bool rfl (st_eql rfl rfl) (fun hc24 => ?_) (fun hc24 => ?_)
    ·
     rw [if_pos hc24] at hm
     refine t_st rfl (st_pick_t rfl rfl) ?_
     refine t_mv rfl rfl ?_
     refine t_yes 14 rfl rfl rfl ?_
     refine t_st rfl (st_field rfl fld42_2) ?_
     refine t_yes 14 rfl rfl rfl ?_
     refine t_st rfl (st_load 0 rfl one3 rfl rfl) ?_
     refine t_yes 14 rfl rfl rfl ?_
     refine t_st rfl (st_load 2 rfl one3 rfl rfl) ?_
     refine t_yes 14 rfl rfl rfl ?_
     refine t_st rfl (st_eql rfl rfl) ?_
     refine t_st rfl (st_pick_t rfl rfl) ?_
     refine t_as rfl rfl ?_
     refine t_nil ?_
     obtain rfl := some1 hm
     refine x_pullb 2 rfl ?_
     refine x_pullb 2 rfl ?_
     exact x_join (e' := [(4, .bool (decide (s3.Position = x5)))]) ⟨rfl, trivial⟩ (.cons_cons _ (.cons_cons _ (.cons _ (.refl _)))) ⟨rfl, rfl, (Base.Le.refl _)⟩
    ·
     rw [if_neg hc24] at hm
     refine t_st rfl (st_pick_t rfl rfl) ?_
     refine t_mv rfl rfl ?_
     refine t_no 14 rfl rfl rfl rfl rfl ?_
     refine t_no 14 rfl rfl rfl rfl rfl ?_
     refine t_no 14 rfl rfl rfl rfl rfl ?_
     refine t_no 14 rfl rfl rfl rfl rfl ?_
     refine t_st rfl (st_pick_f rfl rfl) ?_
     refine t_as rfl rfl ?_
     refine t_nil ?_
     obtain rfl := some1 hm
     refine x_pullb 2 rfl ?_
     refine x_pullb 2 rfl ?_
     exact x_join (e' := [(4, .bool (false))]) ⟨rfl, trivial⟩ (.cons_cons _ (.cons_cons _ (.cons _ (.refl _)))) ⟨rfl, rfl, (Base.Le.refl _)⟩
   ·
    rw [if_neg hc23] at hm
    refine t_mv rfl rfl ?_
    refine t_no 8 rfl rfl rfl rfl rfl ?_
    refine t_no 8 rfl rfl rfl rfl rfl ?_
    refine t_no 8 rfl rfl rfl rfl rfl ?_
    refine t_no 8 rfl rfl rfl rfl rfl ?_
    refine t_st rfl (st_pick_f rfl rfl) ?_
    refine t_mv rfl rfl ?_
    refine t_no 14 rfl rfl rfl rfl rfl ?_
    refine t_no 14 rfl rfl rfl rfl rfl ?_
    refine t_no 14 rfl rfl rfl rfl rfl ?_
    refine t_no 14 rfl rfl rfl rfl rfl ?_
    refine t_st rfl (st_pick_f rfl rfl) ?_
    refine t_as rfl rfl ?_
    refine t_nil ?_
    obtain rfl := some1 hm
    refine x_pullb 2 rfl ?_
    refine x_pullb 2 rfl ?_
    exact x_join (e' := [(4, .bool (false))]) ⟨rfl, trivial⟩ (.cons_cons _ (.cons_cons _ (.cons _ (.refl _)))) ⟨rfl, rfl, (Base.Le.refl _)⟩
  ·
   rintro b19 _ _ ⟨rfl, rfl, hle20⟩
   have hm := hk22
   refine c_ret ?_
   obtain rfl := some1 hm
   refine x_pullb 1 rfl ?_
   refine x_pullb 1 rfl ?_
   exact retM (rs := [.tmp 4]) [.bool (x21)] hle20 (by decide) rfl ⟨rfl, trivial⟩ rfl (.refl _) ⟨rfl, rfl⟩

set_option maxRecDepth 20000 in
theorem cSlicesIndexFunc_2 (b : Base) (R : Hp) (x8 : Int) (x9 : Int) (l10 : (List ApiNeed)) (g6 : Nat) (g7 : Nat) (A3 : Option Addr) (c4 : Nat) (hs2 : Hp) (h5 : OS 42 (OT.fr rApiNeed) b.w (.slice A3 l10.length c4) l10 hs2) (hnz11 : (A3 = none ↔ l10 = [])) (x64 : Int) (hm : mSlicesIndexFunc_2 x8 x9 l10 = some x64) :
    CallsG Tryz.prog 52 [.slice A3 (l10).length c4, .func (.func 75) #[] #[.pointer (some ⟨g6, 0, none⟩), .pointer (some ⟨g7, 0, none⟩)]] b ((g6, Cl 3 [.int .i64 (x8)]) :: (g7, Cl 3 [.int .i64 (x9)]) :: (hs2 ++ R)) (fun v b' hp' => .int .i64 (x64) = v ∧ (g6, Cl 3 [.int .i64 (x8)]) :: (g7, Cl 3 [.int .i64 (x9)]) :: (hs2 ++ R) = hp') := by
  refine fn_enterG 19 Tryz.func52 rfl Tryz.ntmps52 rfl ?_
  unfold mSlicesIndexFunc_2 at hm
  refine c_sr ?_
  refine t_as rfl rfl ?_
  refine t_ne ?_
  refine c_seq ?_
  refine c_sr ?_
  refine t_mv rfl rfl ?_
  refine t_st rfl (st_len rfl sl38) ?_
  refine t_mv rfl rfl ?_
  refine t_ne ?_
  refine c_block ?_
  have hb66 : l10.length ≤ 9223372036854775807 := (OS.len h5)
  refine c_pullb 1 rfl ?_
  refine c_pullb 1 rfl ?_
  obtain ⟨t91, hl92, hk93⟩ := bindS hm
  refine c_forM (fun k90 => fun _ => fun b88 e' hp' => [(0, .slice A3 (l10).length c4), (1, .func (.func 75) #[] #[.pointer (some ⟨g6, 0, none⟩), .pointer (some ⟨g7, 0, none⟩)]), (7, .int .i64 ((l10.length : Int))), (8, .int .i64 ((k90 : Int)))] = e' ∧ (g6, Cl 3 [.int .i64 (x8)]) :: (g7, Cl 3 [.int .i64 (x9)]) :: (hs2 ++ R) = hp' ∧ b.Le b88) hl92 (e' := [(0, .slice A3 (l10).length c4), (1, .func (.func 75) #[] #[.pointer (some ⟨g6, 0, none⟩), .pointer (some ⟨g7, 0, none⟩)]), (7, .int .i64 ((l10.length : Int))), (8, .int .i64 0)]) ⟨rfl, rfl, rfl, rfl, trivial⟩ (.refl _) ⟨rfl, rfl, (Base.Le.refl _)⟩ ?_ ?_
  ·
   rintro k90 _ b88 _ _ oL65 hknL65 ⟨rfl, rfl, hle89⟩ hstepL65 houtL65
   unfold mSlicesIndexFunc_2_L65 at hstepL65
   have hm := hstepL65
   refine c_sr ?_
   refine t_st rfl (st_lss_t rfl rfl (by omega)) ?_
   refine t_ne ?_
   refine c_seq ?_
   refine c_cond_t rfl ?_
   refine c_skip ?_
   refine x_then_normal ?_
   refine c_seq ?_
   refine c_block ?_
   refine c_sr ?_
   refine t_mv rfl rfl ?_
   refine t_as rfl rfl ?_
   refine t_ne ?_
   refine c_sr ?_
   refine t_mv rfl rfl ?_
   refine t_mv rfl rfl ?_
   refine t_mv rfl rfl ?_
   obtain ⟨x94, h95, hm⟩ := bindS hm
   obtain ⟨j96, hj97, hx98⟩ := idx_some h95
   obtain ⟨cs99, hs104, P105, P106, hq107, hr100, hcs101, hA102, hlt103, hb108, hho109⟩ := OS.get (sz := 4) rfl (by decide) (h5.le hle89) hx98
   obtain ⟨⟨_, _, rfl, rfl, ⟨_, _, rfl, rfl, ⟨_, _, rfl, rfl, rfl⟩⟩⟩, rfl⟩ := hr100
   refine t_st rfl (st_index_old j96 rfl rfl hj97 hlt103 hA102 sl38) ?_
   refine t_st rfl (st_loadN_rd (vs := [.int .i64 (x94.Kind), .int .i64 (x94.Place), .int .i64 (x94.Position), .int .i64 (x94.At)]) 4 rfl agg42 hA102 rfl (fun w ho j u hu => hcs101 w _ ho (.cons _ (.cons _ (List.sublist_append_left _ _))) j u hu)) ?_
   obtain ⟨x110, hcl111, hm⟩ := bindS hm
   refine t_pullb 1 rfl ?_
   refine t_pullb 1 rfl ?_
   refine t_callvG #[] #[.pointer (some ⟨g6, 0, none⟩), .pointer (some ⟨g7, 0, none⟩)] [.agg #[.int .i64 (x94.Kind), .int .i64 (x94.Place), .int .i64 (x94.Position), .int .i64 (x94.At)]] rfl rfl call75 rfl (cLineLookerFlank_1 _ _ x94 x8 x9 g6 g7 x110 hcl111) ?_
   rintro _ b112 _ hle113 ⟨rfl, rfl⟩
   refine t_ne ?_
   refine c_cond _ rfl (fun hc114 => ?_) (fun hc114 => ?_)
   ·
    rw [if_pos hc114] at hm
    refine c_sr ?_
    refine t_mv rfl rfl ?_
    refine t_as rfl rfl ?_
    refine t_ne ?_
    refine c_ret ?_
    refine x_block_ret ?_
    refine x_then_ret ?_
    refine x_then_ret ?_
    refine x_block_ret ?_
    refine x_then_ret ?_
    have hq115 := houtL65 _ (Option.some.inj hm).symm
    rw [hq115] at hk93
    have hm := elimR hk93
    obtain rfl := some1 hm
    refine x_pullb 1 rfl ?_
    refine x_pullb 1 rfl ?_
    exact retM (rs := [.tmp 4]) [.int .i64 ((k90 : Int))] (hle89.trans hle113) (by decide) rfl ⟨rfl, trivial⟩ rfl (.refl _) ⟨rfl, rfl⟩
   ·
    rw [if_neg (fun hh => Bool.noConfusion (hh.symm.trans hc114))] at hm
    refine c_skip ?_
    refine x_block_normal ?_
    refine x_then_normal ?_
    refine c_region ?_
    refine t_st rfl (st_add rfl rfl (by omega)) ?_
    refine t_mv rfl rfl ?_
    refine t_nil ?_
    refine x_pullb 1 rfl ?_
    refine x_pullb 1 rfl ?_
    exact x_againM () (Option.some.inj hm).symm (e' := [(0, .slice A3 (l10).length c4), (1, .func (.func 75) #[] #[.pointer (some ⟨g6, 0, none⟩), .pointer (some ⟨g7, 0, none⟩)]), (7, .int .i64 ((l10.length : Int))), (8, .int .i64 ((k90 : Int) + 1))]) ⟨rfl, rfl, rfl, rfl, trivial⟩ (.refl _) ⟨rfl, rfl, ((hle89.trans hle113))⟩
  ·
   rintro _ b88 _ _ ⟨rfl, rfl, hle89⟩ hq116
   rw [hq116] at hk93
   have hm := elimL hk93
   refine c_sr ?_
   refine t_st rfl (st_lss_f rfl rfl (by omega)) ?_
   refine t_ne ?_
   refine c_seq ?_
   refine c_cond_f rfl ?_
   refine c_exit ?_
   refine x_then_exit ?_
   refine x_then_exit ?_
   refine x_block_out ?_
   refine x_then_normal ?_
   refine c_sr ?_
   refine t_as rfl rfl ?_
   refine t_ne ?_
   refine c_ret ?_
   obtain rfl := some1 hm
   refine x_pullb 1 rfl ?_
   refine x_pullb 1 rfl ?_
   exact retM (rs := [.tmp 4]) [.int .i64 ((-1))] hle89 (by decide) rfl ⟨rfl, trivial⟩ rfl (.refl _) ⟨rfl, rfl⟩

set_option maxRecDepth 20000 in
theorem cSlicesContainsFunc_2 (b : Base) (R : Hp) (x8 : Int) (x9 : Int) (l10 : (List ApiNeed)) (g6 : Nat) (g7 : Nat) (A3 : Option Addr) (c4 : Nat) (hs2 : Hp) (h5 : OS 42 (OT.fr rApiNeed) b.w (.slice A3 l10.length c4) l10 hs2) (hnz11 : (A3 = none ↔ l10 = [])) (x16 : Bool) (hm : mSlicesContainsFunc_2 x8 x9 l10 = some x16) :
    CallsG Tryz.prog 30 [.slice A3 (l10).length c4, .func (.func 75) #[] #[.pointer (some ⟨g6, 0, none⟩), .pointer (some ⟨g7, 0, none⟩)]] b ((g6, Cl 3 [.int .i64 (x8)]) :: (g7, Cl 3 [.int .i64 (x9)]) :: (hs2 ++ R)) (fun v b' hp' => .bool (x16) = v ∧ (g6, Cl 3 [.int .i64 (x8)]) :: (g7, Cl 3 [.int .i64 (x9)]) :: (hs2 ++ R) = hp') := by
  refine fn_enterG 9 Tryz.func30 rfl Tryz.ntmps30 rfl ?_
  unfold mSlicesContainsFunc_2 at hm
  refine c_sr ?_
  refine t_as rfl rfl ?_
  refine t_ne ?_
  refine c_sr ?_
  refine t_mv rfl rfl ?_
  refine t_mv rfl rfl ?_
  obtain ⟨x17, hcl18, hm⟩ := bindS hm
  refine t_pullb 1 rfl ?_
  refine t_pullb 1 rfl ?_
  refine t_out1 [_, _] [] hs2 R rfl ?_
  refine t_callG _ rfl call52 rfl (cSlicesIndexFunc_2 _ _ x8 x9 l10 g6 g7 A3 c4 hs2 h5 hnz11 x17 hcl18) ?_
  rintro _ b19 _ hle20 ⟨rfl, rfl⟩
  refine t_in1 [_, _] [] hs2 R rfl ?_
  refine t_st rfl (st_geq rfl rfl) ?_
  refine t_as rfl rfl ?_
  refine t_ne ?_
  refine c_ret ?_
  obtain rfl := some1 hm
  refine x_pullb 1 rfl ?_
  refine x_pullb 1 rfl ?_
  exact retM (rs := [.tmp 4]) [.bool (decide (0 ≤ x17))] hle20 (by decide) rfl ⟨rfl, trivial⟩ rfl (.refl _) ⟨rfl, rfl⟩

set_option maxRecDepth 20000 in
theorem cLineLookerFlank (b : Base) (R : Hp) (x16 : Int) (x17 : Int) (l21 : (List ByteArray)) (l25 : (List ApiSection)) (l29 : (List ApiLink)) (l33 : (List ApiSignal)) (l37 : (List ApiGate)) (x38 : Int) (x39 : Int) (l43 : (List ApiStep)) (l44 : (List ApiStep)) (l45 : (List ApiNeed)) (l47 : (List (ApiNeed × Bool))) (g15 : Nat) (A18 : Option Addr) (c19 : Nat) (A22 : Option Addr) (c23 : Nat) (A26 : Option Addr) (c27 : Nat) (A30 : Option Addr) (c31 : Nat) (A34 : Option Addr) (c35 : Nat) (A40 : Option Addr) (c41 : Nat) (A3 : Option Addr) (c4 : Nat) (hs2 : Hp) (A8 : Option Addr) (c9 : Nat) (hs7 : Hp) (g13 : Nat) (hs12 : Hp) (h20 : FZ RT.str b.w A18 c19 l21) (h24 : FZ rApiSection b.w A22 c23 l25) (h28 : FZ rApiLink b.w A26 c27 l29) (h32 : FZ rApiSignal b.w A30 c31 l33) (h36 : FZ rApiGate b.w A34 c35 l37) (h42 : FZ rApiStep b.w A40 c41 l43) (h5 : OS 56 (OT.fr rApiStep) b.w (.slice A3 l44.length c4) l44 hs2) (h10 : OS 42 (OT.fr rApiNeed) b.w (.slice A8 l45.length c9) l45 hs7) (hnz46 : (A8 = none ↔ l45 = [])) (h14 : OM rApiNeed (OT.fr RT.bool) true false b.w g13 l47 hs12) (x54 : Bool) (hm : mLineLookerFlank x16 x17 l21 l25 l29 l33 l37 x38 x39 l43 l44 l45 l47 = some x54) :
    CallsG Tryz.prog 59 [.pointer (some ⟨g15, 0, none⟩), .int .i64 (x16), .int .i64 (x17)] b ((g15, Cl 86 [.slice A18 (l21).length c19, .slice A22 (l25).length c23, .slice A26 (l29).length c27, .slice A30 (l33).length c31, .slice A34 (l37).length c35, .int .i64 (x38), .int .i64 (x39), .slice A40 (l43).length c41, .slice A3 (l44).length c4, .slice A8 (l45).length c9, .map (some g13)]) :: (hs2 ++ (hs7 ++ (hs12 ++ R)))) (fun v b' hp' => .bool (x54) = v ∧ (g15, Cl 86 [.slice A18 (l21).length c19, .slice A22 (l25).length c23, .slice A26 (l29).length c27, .slice A30 (l33).length c31, .slice A34 (l37).length c35, .int .i64 (x38), .int .i64 (x39), .slice A40 (l43).length c41, .slice A3 (l44).length c4, .slice A8 (l45).length c9, .map (some g13)]) :: (hs2 ++ (hs7 ++ (hs12 ++ R))) = hp') := by
  refine fn_enterG 13 Tryz.func59 rfl Tryz.ntmps59 rfl ?_
  unfold mLineLookerFlank at hm
  refine c_sr ?_
  refine t_do rfl (u_box _ rfl rfl) ?_
  rintro _ _ ⟨g55, rfl, rfl⟩
  refine t_do rfl (u_box _ rfl rfl) ?_
  rintro _ _ ⟨g56, rfl, rfl⟩
  refine t_as rfl rfl ?_
  refine t_ne ?_
  refine c_sr ?_
  refine t_mv rfl rfl ?_
  refine t_st rfl (st_nil rfl) ?_
  refine t_st rfl (st_field rfl fld86_3) ?_
  refine t_st rfl (st_load 2 rfl one38 rfl rfl) ?_
  refine t_st rfl (st_func _ _ rfl rfl) ?_
  obtain ⟨x57, hcl58, hm⟩ := bindS hm
  refine t_pullb 1 rfl ?_
  refine t_front2 [_, _, _] hs2 hs7 (hs12 ++ R) rfl ?_
  refine t_out1 [_, _] [_] hs7 (hs2 ++ (hs12 ++ R)) rfl ?_
  refine t_callG _ rfl call30 rfl (cSlicesContainsFunc_2 _ _ x16 x17 l45 g55 g56 A8 c9 hs7 h10 hnz46 x57 hcl58) ?_
  rintro _ b59 _ hle60 ⟨rfl, rfl⟩
  refine t_in1 [_, _] [_] hs7 (hs2 ++ (hs12 ++ R)) rfl ?_
  refine t_as rfl rfl ?_
  refine t_ne ?_
  refine c_ret ?_
  obtain rfl := some1 hm
  refine x_pullb 2 rfl ?_
  refine x_front3 [_, _, _] hs7 hs2 hs12 R rfl ?_
  refine x_front2 [_, _, _] hs12 hs7 (hs2 ++ R) rfl ?_
  refine x_front3 [_, _, _] hs7 hs12 hs2 R rfl ?_
  exact retM (rs := [.tmp 6]) [.bool (x57)] hle60 (by decide) rfl ⟨rfl, trivial⟩ rfl (.cons_cons _ (.cons _ (.cons _ (.refl _)))) ⟨rfl, rfl⟩

set_option maxRecDepth 20000 in
theorem cLineLookerLook_1 : ∀ (N : Nat) (b : Base) (R : Hp) (s19 : LineEnd) (x20 : Int) (x21 : Int) (l25 : (List ByteArray)) (l29 : (List ApiSection)) (l33 : (List ApiLink)) (l37 : (List ApiSignal)) (l41 : (List ApiGate)) (x42 : Int) (x43 : Int) (l47 : (List ApiStep)) (l48 : (List ApiStep)) (l49 : (List ApiNeed)) (l51 : (List (ApiNeed × Bool))) (g15 : Nat) (g16 : Nat) (g17 : Nat) (g18 : Nat) (A22 : Option Addr) (c23 : Nat) (A26 : Option Addr) (c27 : Nat) (A30 : Option Addr) (c31 : Nat) (A34 : Option Addr) (c35 : Nat) (A38 : Option Addr) (c39 : Nat) (A44 : Option Addr) (c45 : Nat) (A3 : Option Addr) (c4 : Nat) (hs2 : Hp) (A8 : Option Addr) (c9 : Nat) (hs7 : Hp) (g13 : Nat) (hs12 : Hp) (h24 : FZ RT.str b.w A22 c23 l25) (h28 : FZ rApiSection b.w A26 c27 l29) (h32 : FZ rApiLink b.w A30 c31 l33) (h36 : FZ rApiSignal b.w A34 c35 l37) (h40 : FZ rApiGate b.w A38 c39 l41) (h46 : FZ rApiStep b.w A44 c45 l47) (h5 : OS 56 (OT.fr rApiStep) b.w (.slice A3 l48.length c4) l48 hs2) (h10 : OS 42 (OT.fr rApiNeed) b.w (.slice A8 l49.length c9) l49 hs7) (hnz50 : (A8 = none ↔ l49 = [])) (h14 : OM rApiNeed (OT.fr RT.bool) true false b.w g13 l51 hs12) (l825 : (List ApiNeed)) (l827 : (List (ApiNeed × Bool))) (hm : mLineLookerLook_1 N s19 x20 x21 l25 l29 l33 l37 l41 x42 x43 l47 l48 l49 l51 = some (l825, l827)),
    CallsG Tryz.prog 57 [.agg #[.int .i64 (s19.section_), .int .i64 (s19.end_)], .int .i64 (x20), .pointer (some ⟨g15, 0, none⟩), .pointer (some ⟨g16, 0, none⟩), .pointer (some ⟨g17, 0, none⟩)] b ((g15, Cl 82 [.pointer (some ⟨g18, 0, none⟩)]) :: (g16, Cl 3 [.int .i64 (x21)]) :: (g17, Cl 125 [.func (.func 57) #[] #[.pointer (some ⟨g15, 0, none⟩), .pointer (some ⟨g16, 0, none⟩), .pointer (some ⟨g17, 0, none⟩)]]) :: (g18, Cl 86 [.slice A22 (l25).length c23, .slice A26 (l29).length c27, .slice A30 (l33).length c31, .slice A34 (l37).length c35, .slice A38 (l41).length c39, .int .i64 (x42), .int .i64 (x43), .slice A44 (l47).length c45, .slice A3 (l48).length c4, .slice A8 (l49).length c9, .map (some g13)]) :: (hs2 ++ (hs7 ++ (hs12 ++ R)))) (fun v b' hp' => ∃ (A818 : Option Addr), ∃ (c819 : Nat), ∃ (hs817 : Hp), ∃ (g823 : Nat), ∃ (hs822 : Hp), .tuple #[] = v ∧ (g15, Cl 82 [.pointer (some ⟨g18, 0, none⟩)]) :: (g16, Cl 3 [.int .i64 (x21)]) :: (g17, Cl 125 [.func (.func 57) #[] #[.pointer (some ⟨g15, 0, none⟩), .pointer (some ⟨g16, 0, none⟩), .pointer (some ⟨g17, 0, none⟩)]]) :: (g18, Cl 86 [.slice A22 (l25).length c23, .slice A26 (l29).length c27, .slice A30 (l33).length c31, .slice A34 (l37).length c35, .slice A38 (l41).length c39, .int .i64 (x42), .int .i64 (x43), .slice A44 (l47).length c45, .slice A3 (l48).length c4, .slice A818 (l825).length c819, .map (some g823)]) :: (hs2 ++ (hs817 ++ (hs822 ++ R))) = hp' ∧ OS 42 (OT.fr rApiNeed) b'.w (.slice A818 l825.length c819) l825 hs817 ∧ (A818 = none ↔ l825 = []) ∧ OM rApiNeed (OT.fr RT.bool) true false b'.w g823 l827 hs822) := by
  intro N
  induction N with
  | zero =>
    intro b R s19 x20 x21 l25 l29 l33 l37 l41 x42 x43 l47 l48 l49 l51 g15 g16 g17 g18 A22 c23 A26 c27 A30 c31 A34 c35 A38 c39 A44 c45 A3 c4 hs2 A8 c9 hs7 g13 hs12 h24 h28 h32 h36 h40 h46 h5 h10 hnz50 h14 l825 l827 hm
    unfold mLineLookerLook_1 at hm
    cases hm
  | succ N ih =>
    intro b R s19 x20 x21 l25 l29 l33 l37 l41 x42 x43 l47 l48 l49 l51 g15 g16 g17 g18 A22 c23 A26 c27 A30 c31 A34 c35 A38 c39 A44 c45 A3 c4 hs2 A8 c9 hs7 g13 hs12 h24 h28 h32 h36 h40 h46 h5 h10 hnz50 h14 l825 l827 hm
    refine fn_enterG 122 Tryz.func57 rfl Tryz.ntmps57 rfl ?_
    unfold mLineLookerLook_1 at hm
    refine c_sr ?_
    refine t_do rfl (u_box _ rfl rfl) ?_
    rintro _ _ ⟨g828, rfl, rfl⟩
    refine t_ne ?_
    obtain ⟨⟨x846, x847, x848⟩, hj849, hk849⟩ := bindS hm
    refine c_join (fun b843 e' hp' => ∃ (g845 : Nat), [(1, .int .i64 (x20)), (2, .pointer (some ⟨g15, 0, none⟩)), (3, .pointer (some ⟨g16, 0, none⟩)), (4, .pointer (some ⟨g17, 0, none⟩)), (7, .pointer (some ⟨g845, 0, none⟩)), (8, .bool (x846))] = e' ∧ (g15, Cl 82 [.pointer (some ⟨g18, 0, none⟩)]) :: (g16, Cl 3 [.int .i64 (x21)]) :: (g17, Cl 125 [.func (.func 57) #[] #[.pointer (some ⟨g15, 0, none⟩), .pointer (some ⟨g16, 0, none⟩), .pointer (some ⟨g17, 0, none⟩)]]) :: (g845, Cl 109 [.int .i64 (x847), .int .i64 (x848)]) :: (g18, Cl 86 [.slice A22 (l25).length c23, .slice A26 (l29).length c27, .slice A30 (l33).length c31, .slice A34 (l37).length c35, .slice A38 (l41).length c39, .int .i64 (x42), .int .i64 (x43), .slice A44 (l47).length c45, .slice A3 (l48).length c4, .slice A8 (l49).length c9, .map (some g13)]) :: (hs2 ++ (hs7 ++ (hs12 ++ R))) = hp' ∧ b.Le b843) ?_ ?_
    ·
     have hm := hj849
     obtain ⟨⟨x857, x858, x859⟩, hcl860, hm⟩ := bindS hm
     have hm := (unc3E hm)
     refine D_drawI mixed (.refl _) ?_
     refine E_st 0 rfl (st_load 1 rfl one82 rfl rfl) ?_
     refine E_st 1 rfl (st_nil rfl) ?_
     refine E_st 2 rfl (st_field rfl fld86_0) ?_
     refine E_st 3 rfl (st_loadD (vs := [_, _, _, _, _]) 4 5 rfl agg28 rfl rfl rfl) ?_
     refine E_st 4 rfl (st_loadD (vs := [_, _]) 0 2 rfl agg109 rfl rfl rfl) ?_
     refine E_out ?_
     refine D_all [5, 9] (by kernel_rfl) rfl ?_
     refine R_callGl (Base.Le.refl _) rfl rfl _ call58 rfl (cLineJoined _ _ (⟨l25, l29, l33, l37, l41⟩ : ApiNet) s19 A22 c23 A26 c27 A30 c31 A34 c35 A38 c39 h24 h28 h32 h36 h40 x857 x858 x859 hcl860) ?_ ?_
     ·
      rintro _ b861 _ hle862 ⟨rfl, rfl⟩
      refine ⟨.inr (.refl _), ?_⟩
      refine D_st hle862 6 rfl (by kernel_rfl) (by kernel_rfl) (by kernel_rfl) rfl (st_move rfl) (.refl _) ?_
      refine D_st hle862 7 rfl (by kernel_rfl) (by kernel_rfl) (by kernel_rfl) rfl (st_extract rfl rfl) (.refl _) ?_
      refine D_st hle862 8 rfl (by kernel_rfl) (by kernel_rfl) (by kernel_rfl) rfl (st_extract rfl rfl) (.refl _) ?_
      refine D_all [9] (by kernel_rfl) rfl ?_
      refine R_do hle862 rfl rfl (u_alloc [.int .i64 0, .int .i64 0] zero109 rfl) ?_ ?_
      ·
       rintro _ _ ⟨g863, rfl, rfl⟩
       refine ⟨.inr (.cons _ (.refl _)), ?_⟩
       refine D_all [10] (by kernel_rfl) rfl ?_
       refine R_do hle862 rfl rfl (u_storeN (vs := [_, _]) 0 2 rfl rfl rfl siz109 rfl (mem_c rfl (mem_c rfl mem_n)) rfl (by simp)) ?_ ?_
       ·
        rintro _ _ rfl
        refine ⟨.inr (.cons _ (.refl _)), ?_⟩
        refine D_st hle862 11 rfl (by kernel_rfl) (by kernel_rfl) (by kernel_rfl) rfl (st_assign rfl) (.cons _ (.refl _)) ?_
        refine D_done (by kernel_rfl) ?_
        obtain ⟨rfl, rfl, rfl⟩ := some3 hm
        refine x_pullb 5 rfl ?_
        refine x_pullb 1 rfl ?_
        refine x_pullb 5 rfl ?_
        refine x_pullb 5 rfl ?_
        refine x_pullb 5 rfl ?_
        refine x_front3 [_, _, _, _, _, _] hs2 hs7 hs12 R rfl ?_
        refine x_front3 [_, _, _, _, _, _] hs12 hs2 hs7 R rfl ?_
        refine x_front3 [_, _, _, _, _, _] hs7 hs12 hs2 R rfl ?_
        exact x_join (e' := [(1, .int .i64 (x20)), (2, .pointer (some ⟨g15, 0, none⟩)), (3, .pointer (some ⟨g16, 0, none⟩)), (4, .pointer (some ⟨g17, 0, none⟩)), (7, .pointer (some ⟨g863, 0, none⟩)), (8, .bool (x859))]) ⟨rfl, rfl, rfl, rfl, rfl, rfl, trivial⟩ (.cons_cons _ (.cons_cons _ (.cons_cons _ (.cons_cons _ (.cons_cons _ (.cons _ (.refl _))))))) ⟨g863, rfl, rfl, hle862⟩
       exact R_nil
      exact R_nil
     refine R_do (Base.Le.refl _) rfl rfl (u_alloc [.int .i64 0, .int .i64 0] zero109 rfl) ?_ ?_
     ·
      rintro _ _ ⟨g863, rfl, rfl⟩
      refine ⟨.inr (.cons _ (.refl _)), ?_⟩
      refine D_all [5] (by kernel_rfl) rfl ?_
      refine R_callGl (Base.Le.refl _) rfl rfl _ call58 rfl (cLineJoined _ _ (⟨l25, l29, l33, l37, l41⟩ : ApiNet) s19 A22 c23 A26 c27 A30 c31 A34 c35 A38 c39 h24 h28 h32 h36 h40 x857 x858 x859 hcl860) ?_ ?_
      ·
       rintro _ b861 _ hle862 ⟨rfl, rfl⟩
       refine ⟨.inr (.cons _ (.refl _)), ?_⟩
       refine D_st hle862 6 rfl (by kernel_rfl) (by kernel_rfl) (by kernel_rfl) rfl (st_move rfl) (.cons _ (.refl _)) ?_
       refine D_st hle862 7 rfl (by kernel_rfl) (by kernel_rfl) (by kernel_rfl) rfl (st_extract rfl rfl) (.cons _ (.refl _)) ?_
       refine D_st hle862 8 rfl (by kernel_rfl) (by kernel_rfl) (by kernel_rfl) rfl (st_extract rfl rfl) (.cons _ (.refl _)) ?_
       refine D_all [10] (by kernel_rfl) rfl ?_
       refine R_do hle862 rfl rfl (u_storeN (vs := [_, _]) 0 2 rfl rfl rfl siz109 rfl (mem_c rfl (mem_c rfl mem_n)) rfl (by simp)) ?_ ?_
       ·
        rintro _ _ rfl
        refine ⟨.inr (.cons _ (.refl _)), ?_⟩
        refine D_st hle862 11 rfl (by kernel_rfl) (by kernel_rfl) (by kernel_rfl) rfl (st_assign rfl) (.cons _ (.refl _)) ?_
        refine D_done (by kernel_rfl) ?_
        obtain ⟨rfl, rfl, rfl⟩ := some3 hm
        refine x_pullb 5 rfl ?_
        refine x_pullb 1 rfl ?_
        refine x_pullb 5 rfl ?_
        refine x_pullb 5 rfl ?_
        refine x_pullb 5 rfl ?_
        refine x_front3 [_, _, _, _, _, _] hs2 hs7 hs12 R rfl ?_
        refine x_front3 [_, _, _, _, _, _] hs12 hs2 hs7 R rfl ?_
        refine x_front3 [_, _, _, _, _, _] hs7 hs12 hs2 R rfl ?_
        exact x_join (e' := [(1, .int .i64 (x20)), (2, .pointer (some ⟨g15, 0, none⟩)), (3, .pointer (some ⟨g16, 0, none⟩)), (4, .pointer (some ⟨g17, 0, none⟩)), (7, .pointer (some ⟨g863, 0, none⟩)), (8, .bool (x859))]) ⟨rfl, rfl, rfl, rfl, rfl, rfl, trivial⟩ (.cons_cons _ (.cons_cons _ (.cons_cons _ (.cons_cons _ (.cons_cons _ (.cons _ (.refl _))))))) ⟨g863, rfl, rfl, hle862⟩
       exact R_nil
      exact R_nil
     exact R_nil
    ·
     rintro b843 _ _ ⟨g845, rfl, rfl, hle844⟩
     have hm := (unc3E hk849)
     refine c_seq ?_
     obtain ⟨x880, hj881, hk881⟩ := bindS hm
     refine c_join (fun b878 e' hp' => [(1, .int .i64 (x20)), (2, .pointer (some ⟨g15, 0, none⟩)), (3, .pointer (some ⟨g16, 0, none⟩)), (4, .pointer (some ⟨g17, 0, none⟩)), (7, .pointer (some ⟨g845, 0, none⟩)), (46, .bool (x880))] = e' ∧ (g15, Cl 82 [.pointer (some ⟨g18, 0, none⟩)]) :: (g16, Cl 3 [.int .i64 (x21)]) :: (g17, Cl 125 [.func (.func 57) #[] #[.pointer (some ⟨g15, 0, none⟩), .pointer (some ⟨g16, 0, none⟩), .pointer (some ⟨g17, 0, none⟩)]]) :: (g845, Cl 109 [.int .i64 (x847), .int .i64 (x848)]) :: (g18, Cl 86 [.slice A22 (l25).length c23, .slice A26 (l29).length c27, .slice A30 (l33).length c31, .slice A34 (l37).length c35, .slice A38 (l41).length c39, .int .i64 (x42), .int .i64 (x43), .slice A44 (l47).length c45, .slice A3 (l48).length c4, .slice A8 (l49).length c9, .map (some g13)]) :: (hs2 ++ (hs7 ++ (hs12 ++ R))) = hp' ∧ b843.Le b878) ?_ ?_
     ·
      have hm := hj881
      rcases Bool.eq_false_or_eq_true x846 with hc889 | hc889
      ·
       rw [if_pos hc889] at hm
       by_cases hc890 : x20 = 8
       ·
        rw [if_pos hc890] at hm
        refine D_drawI mixed (.refl _) ?_
        refine E_st 0 rfl (stB (st_move rfl) hc889) ?_
        refine E_st 1 rfl (st_not_t rfl) ?_
        refine E_st 2 rfl (st_move rfl) ?_
        refine E_yes 3 24 rfl (st_move rfl) ?_
        refine E_yes 4 24 rfl (st_eql_t rfl rfl hc890) ?_
        refine E_st 5 rfl (st_pick_f rfl rfl) ?_
        refine E_st 6 rfl (st_move rfl) ?_
        refine E_no 7 28 rfl rfl rfl ?_
        refine E_no 8 28 rfl rfl rfl ?_
        refine E_no 9 28 rfl rfl rfl ?_
        refine E_no 10 28 rfl rfl rfl ?_
        refine E_no 11 28 rfl rfl rfl ?_
        refine E_no 12 28 rfl rfl rfl ?_
        refine E_no 13 28 rfl rfl rfl ?_
        refine E_no 14 28 rfl rfl rfl ?_
        refine E_st 15 rfl (st_pick_t rfl rfl) ?_
        refine E_st 16 rfl (st_move rfl) ?_
        refine E_no 17 38 rfl rfl rfl ?_
        refine E_no 18 38 rfl rfl rfl ?_
        refine E_no 19 38 rfl rfl rfl ?_
        refine E_no 20 38 rfl rfl rfl ?_
        refine E_no 21 38 rfl rfl rfl ?_
        refine E_no 22 38 rfl rfl rfl ?_
        refine E_no 23 38 rfl rfl rfl ?_
        refine E_st 24 rfl (st_pick_t rfl rfl) ?_
        refine E_out ?_
        refine D_done (by kernel_rfl) ?_
        obtain rfl := some1 hm
        refine x_pullb 4 rfl ?_
        refine x_pullb 4 rfl ?_
        refine x_pullb 4 rfl ?_
        refine x_pullb 4 rfl ?_
        refine x_pullb 4 rfl ?_
        refine x_front3 [_, _, _, _, _] hs2 hs7 hs12 R rfl ?_
        refine x_front3 [_, _, _, _, _] hs12 hs2 hs7 R rfl ?_
        refine x_front3 [_, _, _, _, _] hs7 hs12 hs2 R rfl ?_
        exact x_join (e' := [(1, .int .i64 (x20)), (2, .pointer (some ⟨g15, 0, none⟩)), (3, .pointer (some ⟨g16, 0, none⟩)), (4, .pointer (some ⟨g17, 0, none⟩)), (7, .pointer (some ⟨g845, 0, none⟩)), (46, .bool (true))]) ⟨rfl, rfl, rfl, rfl, rfl, rfl, trivial⟩ (.refl _) ⟨rfl, rfl, (Base.Le.refl _)⟩
       ·
        rw [if_neg hc890] at hm
        obtain ⟨x891, hcl892, hm⟩ := bindS hm
        rcases Bool.eq_false_or_eq_true x891 with hc893 | hc893
        ·
         rw [if_pos hc893] at hm
         refine D_drawI mixed (.refl _) ?_
         refine E_st 0 rfl (stB (st_move rfl) hc889) ?_
         refine E_st 1 rfl (st_not_t rfl) ?_
         refine E_st 2 rfl (st_move rfl) ?_
         refine E_yes 3 24 rfl (st_move rfl) ?_
         refine E_yes 4 24 rfl (st_eql_f rfl rfl hc890) ?_
         refine E_st 5 rfl (st_pick_f rfl rfl) ?_
         refine E_st 6 rfl (st_move rfl) ?_
         refine E_yes 7 28 rfl (st_load 0 rfl one82 rfl rfl) ?_
         refine E_yes 8 28 rfl (st_nil rfl) ?_
         refine E_yes 9 28 rfl (st_field rfl fld86_1) ?_
         refine E_yes 10 28 rfl (st_field rfl fld54_2) ?_
         refine E_yes 11 28 rfl (st_load 4 rfl one52 rfl rfl) ?_
         refine E_yes 12 28 rfl (st_field rfl fld109_0) ?_
         refine E_yes 13 28 rfl (st_load 3 rfl one3 rfl rfl) ?_
         refine E_out ?_
         refine D_all [14] (by kernel_rfl) rfl ?_
         refine R_doY (Base.Le.refl _) rfl rfl 28 rfl rfl rfl (u_callW0 _ call40 rfl (fun w ho => cLineStands _ [] l47 x847 A44 c45 ((h46.le hle844).old ho) x891 hcl892) (fun _ _ _ h => h.2.symm)) ?_ ?_
         ·
          rintro _ _ ⟨⟨_, rfl, _⟩, rfl⟩
          refine ⟨.inr (.refl _), ?_⟩
          refine d_resp 36 rfl (v' := .bool true) (by rw [hc893]) ?_
          refine E_in (.refl _) ?_
          refine E_st 15 rfl (st_pick_f rfl rfl) ?_
          refine E_st 16 rfl (st_move rfl) ?_
          refine E_no 17 38 rfl rfl rfl ?_
          refine E_no 18 38 rfl rfl rfl ?_
          refine E_no 19 38 rfl rfl rfl ?_
          refine E_no 20 38 rfl rfl rfl ?_
          refine E_no 21 38 rfl rfl rfl ?_
          refine E_no 22 38 rfl rfl rfl ?_
          refine E_no 23 38 rfl rfl rfl ?_
          refine E_st 24 rfl (st_pick_t rfl rfl) ?_
          refine E_out ?_
          refine D_done (by kernel_rfl) ?_
          obtain rfl := some1 hm
          refine x_pullb 4 rfl ?_
          refine x_pullb 4 rfl ?_
          refine x_pullb 4 rfl ?_
          refine x_pullb 4 rfl ?_
          refine x_pullb 4 rfl ?_
          refine x_front3 [_, _, _, _, _] hs2 hs7 hs12 R rfl ?_
          refine x_front3 [_, _, _, _, _] hs12 hs2 hs7 R rfl ?_
          refine x_front3 [_, _, _, _, _] hs7 hs12 hs2 R rfl ?_
          exact x_join (e' := [(1, .int .i64 (x20)), (2, .pointer (some ⟨g15, 0, none⟩)), (3, .pointer (some ⟨g16, 0, none⟩)), (4, .pointer (some ⟨g17, 0, none⟩)), (7, .pointer (some ⟨g845, 0, none⟩)), (46, .bool (true))]) ⟨rfl, rfl, rfl, rfl, rfl, rfl, trivial⟩ (.refl _) ⟨rfl, rfl, (Base.Le.refl _)⟩
         exact R_nil
        ·
         rw [if_neg (fun hh => Bool.noConfusion (hh.symm.trans hc893))] at hm
         obtain ⟨x894, hcl895, hm⟩ := bindS hm
         refine D_drawI mixed (.refl _) ?_
         refine E_st 0 rfl (stB (st_move rfl) hc889) ?_
         refine E_st 1 rfl (st_not_t rfl) ?_
         refine E_st 2 rfl (st_move rfl) ?_
         refine E_yes 3 24 rfl (st_move rfl) ?_
         refine E_yes 4 24 rfl (st_eql_f rfl rfl hc890) ?_
         refine E_st 5 rfl (st_pick_f rfl rfl) ?_
         refine E_st 6 rfl (st_move rfl) ?_
         refine E_yes 7 28 rfl (st_load 0 rfl one82 rfl rfl) ?_
         refine E_yes 8 28 rfl (st_nil rfl) ?_
         refine E_yes 9 28 rfl (st_field rfl fld86_1) ?_
         refine E_yes 10 28 rfl (st_field rfl fld54_2) ?_
         refine E_yes 11 28 rfl (st_load 4 rfl one52 rfl rfl) ?_
         refine E_yes 12 28 rfl (st_field rfl fld109_0) ?_
         refine E_yes 13 28 rfl (st_load 3 rfl one3 rfl rfl) ?_
         refine E_out ?_
         refine D_all [14] (by kernel_rfl) rfl ?_
         refine R_doY (Base.Le.refl _) rfl rfl 28 rfl rfl rfl (u_callW0 _ call40 rfl (fun w ho => cLineStands _ [] l47 x847 A44 c45 ((h46.le hle844).old ho) x891 hcl892) (fun _ _ _ h => h.2.symm)) ?_ ?_
         ·
          rintro _ _ ⟨⟨_, rfl, _⟩, rfl⟩
          refine ⟨.inr (.refl _), ?_⟩
          refine d_resp 36 rfl (v' := .bool false) (by rw [hc893]) ?_
          refine E_in (.refl _) ?_
          refine E_st 15 rfl (st_pick_f rfl rfl) ?_
          refine E_st 16 rfl (st_move rfl) ?_
          refine E_yes 17 38 rfl (st_load 0 rfl one82 rfl rfl) ?_
          refine E_yes 18 38 rfl (st_nil rfl) ?_
          refine E_yes 19 38 rfl (st_field rfl fld86_2) ?_
          refine E_yes 20 38 rfl (st_load 4 rfl one52 rfl rfl) ?_
          refine E_yes 21 38 rfl (st_field rfl fld109_0) ?_
          refine E_yes 22 38 rfl (st_load 3 rfl one3 rfl rfl) ?_
          refine E_out ?_
          refine D_all [23] (by kernel_rfl) rfl ?_
          refine R_doY (Base.Le.refl _) rfl rfl 38 rfl rfl rfl (u_callW0 _ call40 rfl (fun w ho => cLineStands _ [] l48 x847 A3 c4 (OS.now (o := (OT.fr rApiStep)) (l := l48) (hs := hs2) (h5.le hle844) ho (.cons _ (.cons _ (.cons _ (.cons _ (.cons _ (List.sublist_append_left _ _))))))) x894 hcl895) (fun _ _ _ h => h.2.symm)) ?_ ?_
          ·
           rintro _ _ ⟨⟨_, rfl, _⟩, rfl⟩
           refine ⟨.inr (.refl _), ?_⟩
           refine E_in (.refl _) ?_
           refine E_st 24 rfl (st_pick_f rfl rfl) ?_
           refine E_out ?_
           refine D_done (by kernel_rfl) ?_
           obtain rfl := some1 hm
           refine x_pullb 4 rfl ?_
           refine x_pullb 4 rfl ?_
           refine x_pullb 4 rfl ?_
           refine x_pullb 4 rfl ?_
           refine x_pullb 4 rfl ?_
           refine x_front3 [_, _, _, _, _] hs2 hs7 hs12 R rfl ?_
           refine x_front3 [_, _, _, _, _] hs12 hs2 hs7 R rfl ?_
           refine x_front3 [_, _, _, _, _] hs7 hs12 hs2 R rfl ?_
           exact x_join (e' := [(1, .int .i64 (x20)), (2, .pointer (some ⟨g15, 0, none⟩)), (3, .pointer (some ⟨g16, 0, none⟩)), (4, .pointer (some ⟨g17, 0, none⟩)), (7, .pointer (some ⟨g845, 0, none⟩)), (46, .bool (x894))]) ⟨rfl, rfl, rfl, rfl, rfl, rfl, trivial⟩ (.refl _) ⟨rfl, rfl, (Base.Le.refl _)⟩
          exact R_nil
         exact R_nil
      ·
       rw [if_neg (fun hh => Bool.noConfusion (hh.symm.trans hc889))] at hm
       refine D_drawI mixed (.refl _) ?_
       refine E_st 0 rfl (stB (st_move rfl) hc889) ?_
       refine E_st 1 rfl (st_not_f rfl) ?_
       refine E_st 2 rfl (st_move rfl) ?_
       refine E_no 3 24 rfl rfl rfl ?_
       refine E_no 4 24 rfl rfl rfl ?_
       refine E_st 5 rfl (st_pick_t rfl rfl) ?_
       refine E_st 6 rfl (st_move rfl) ?_
       refine E_no 7 28 rfl rfl rfl ?_
       refine E_no 8 28 rfl rfl rfl ?_
       refine E_no 9 28 rfl rfl rfl ?_
       refine E_no 10 28 rfl rfl rfl ?_
       refine E_no 11 28 rfl rfl rfl ?_
       refine E_no 12 28 rfl rfl rfl ?_
       refine E_no 13 28 rfl rfl rfl ?_
       refine E_no 14 28 rfl rfl rfl ?_
       refine E_st 15 rfl (st_pick_t rfl rfl) ?_
       refine E_st 16 rfl (st_move rfl) ?_
       refine E_no 17 38 rfl rfl rfl ?_
       refine E_no 18 38 rfl rfl rfl ?_
       refine E_no 19 38 rfl rfl rfl ?_
       refine E_no 20 38 rfl rfl rfl ?_
       refine E_no 21 38 rfl rfl rfl ?_
       refine E_no 22 38 rfl rfl rfl ?_
       refine E_no 23 38 rfl rfl rfl ?_
       refine E_st 24 rfl (st_pick_t rfl rfl) ?_
       refine E_out ?_
       refine D_done (by kernel_rfl) ?_
       obtain rfl := some1 hm
       refine x_pullb 4 rfl ?_
       refine x_pullb 4 rfl ?_
       refine x_pullb 4 rfl ?_
       refine x_pullb 4 rfl ?_
       refine x_pullb 4 rfl ?_
       refine x_front3 [_, _, _, _, _] hs2 hs7 hs12 R rfl ?_
       refine x_front3 [_, _, _, _, _] hs12 hs2 hs7 R rfl ?_
       refine x_front3 [_, _, _, _, _] hs7 hs12 hs2 R rfl ?_
       exact x_join (e' := [(1, .int .i64 (x20)), (2, .pointer (some ⟨g15, 0, none⟩)), (3, .pointer (some ⟨g16, 0, none⟩)), (4, .pointer (some ⟨g17, 0, none⟩)), (7, .pointer (some ⟨g845, 0, none⟩)), (46, .bool (true))]) ⟨rfl, rfl, rfl, rfl, rfl, rfl, trivial⟩ (.refl _) ⟨rfl, rfl, (Base.Le.refl _)⟩
     ·
      rintro b878 _ _ ⟨rfl, rfl, hle879⟩
      have hm := hk881
      refine c_cond _ rfl (fun hc896 => ?_) (fun hc896 => ?_)
      ·
       rw [if_pos hc896] at hm
       refine c_ret ?_
       refine x_then_ret ?_
       obtain ⟨rfl, rfl⟩ := some2 hm
       refine x_pullb 4 rfl ?_
       refine x_pullb 3 rfl ?_
       refine x_pullb 3 rfl ?_
       refine x_pullb 3 rfl ?_
       refine x_front3 [_, _, _, _, _] hs2 hs7 hs12 R rfl ?_
       refine x_front3 [_, _, _, _, _] hs12 hs2 hs7 R rfl ?_
       refine x_front3 [_, _, _, _, _] hs7 hs12 hs2 R rfl ?_
       have he897 := (h10.le (hle844.trans hle879))
       have he898 := (h14.le (hle844.trans hle879))
       exact retM (rs := []) [] (hle844.trans hle879) (by decide) rfl trivial rfl (.cons_cons _ (.cons_cons _ (.cons_cons _ (.cons_cons _ (.cons _ (.refl _)))))) ⟨A8, c9, hs7, g13, hs12, rfl, rfl, he897, hnz50, he898⟩
      ·
       rw [if_neg (fun hh => Bool.noConfusion (hh.symm.trans hc896))] at hm
       refine c_skip ?_
       refine x_then_normal ?_
       refine c_seq ?_
       obtain ⟨x909, h910, hm⟩ := bindS hm
       refine D_drawI mixed (.refl _) ?_
       refine E_st 0 rfl (st_load 0 rfl one82 rfl rfl) ?_
       refine E_st 1 rfl (st_nil rfl) ?_
       refine E_st 2 rfl (st_field rfl fld86_0) ?_
       refine E_st 3 rfl (st_field rfl fld28_1) ?_
       refine E_st 4 rfl (st_load 4 rfl one23 rfl rfl) ?_
       refine E_st 5 rfl (st_field rfl fld109_0) ?_
       refine E_st 6 rfl (st_load 3 rfl one3 rfl rfl) ?_
       obtain ⟨j911, hj912, hx913⟩ := idx_some h910
       obtain ⟨cs914, hr915, hcs916, hA917, hlt918⟩ := FZ.get (sz := 7) rfl (by decide) (h28.le (hle844.trans hle879)) hx913
       obtain ⟨_, _, rfl, rfl, ⟨_, _, rfl, rfl, ⟨_, _, rfl, rfl, ⟨_, _, rfl, rfl, ⟨_, _, rfl, rfl, ⟨_, _, rfl, rfl, rfl⟩⟩⟩⟩⟩⟩ := hr915
       refine E_st 7 rfl (st_index_old j911 rfl rfl hj912 hlt918 hA917 sl23) ?_
       refine E_st 8 rfl (st_field_old rfl hA917 fld91_0) ?_
       refine E_st 9 rfl (st_load_old rfl one3 (hcs916 0 _ rfl)) ?_
       refine E_st 10 rfl (st_assign rfl) ?_
       refine E_out ?_
       refine D_done (by kernel_rfl) ?_
       refine x_then_normal ?_
       obtain ⟨t1025, hj1024, hk1024⟩ := bindS hm
       refine c_join (fun b1022 e' hp' => [(1, .int .i64 (x20)), (4, .pointer (some ⟨g17, 0, none⟩)), (7, .pointer (some ⟨g845, 0, none⟩)), (9, .int .i64 (x909.Kind))] = e' ∧ (g17, Cl 125 [.func (.func 57) #[] #[.pointer (some ⟨g15, 0, none⟩), .pointer (some ⟨g16, 0, none⟩), .pointer (some ⟨g17, 0, none⟩)]]) :: (g845, Cl 109 [.int .i64 (x847), .int .i64 (x848)]) :: (g15, Cl 82 [.pointer (some ⟨g18, 0, none⟩)]) :: (g16, Cl 3 [.int .i64 (x21)]) :: (g18, Cl 86 [.slice A22 (l25).length c23, .slice A26 (l29).length c27, .slice A30 (l33).length c31, .slice A34 (l37).length c35, .slice A38 (l41).length c39, .int .i64 (x42), .int .i64 (x43), .slice A44 (l47).length c45, .slice A3 (l48).length c4, .slice A8 (l49).length c9, .map (some g13)]) :: (hs2 ++ (hs7 ++ (hs12 ++ R))) = hp' ∧ b878.Le b1022 ∧ t1025 = .inl ()) ?_ ?_
       ·
        have hm := hj1024
        refine c_block ?_
        obtain ⟨x1029, hj1030, hk1030⟩ := bindS hm
        refine c_join (fun b1027 e' hp' => [(1, .int .i64 (x20)), (2, .pointer (some ⟨g15, 0, none⟩)), (3, .pointer (some ⟨g16, 0, none⟩)), (4, .pointer (some ⟨g17, 0, none⟩)), (7, .pointer (some ⟨g845, 0, none⟩)), (9, .int .i64 (x909.Kind)), (57, .bool (x1029))] = e' ∧ (g15, Cl 82 [.pointer (some ⟨g18, 0, none⟩)]) :: (g16, Cl 3 [.int .i64 (x21)]) :: (g17, Cl 125 [.func (.func 57) #[] #[.pointer (some ⟨g15, 0, none⟩), .pointer (some ⟨g16, 0, none⟩), .pointer (some ⟨g17, 0, none⟩)]]) :: (g845, Cl 109 [.int .i64 (x847), .int .i64 (x848)]) :: (g18, Cl 86 [.slice A22 (l25).length c23, .slice A26 (l29).length c27, .slice A30 (l33).length c31, .slice A34 (l37).length c35, .slice A38 (l41).length c39, .int .i64 (x42), .int .i64 (x43), .slice A44 (l47).length c45, .slice A3 (l48).length c4, .slice A8 (l49).length c9, .map (some g13)]) :: (hs2 ++ (hs7 ++ (hs12 ++ R))) = hp' ∧ b878.Le b1027) ?_ ?_
        ·
         have hm := hj1030
         refine c_region ?_
         refine t_mv rfl rfl ?_
         refine t_bool rfl (st_eql rfl rfl) (fun hc1031 => ?_) (fun hc1031 => ?_)
         ·
          rw [if_pos hc1031] at hm
          refine t_mv rfl rfl ?_
          refine t_yes 60 rfl rfl rfl ?_
          refine t_st rfl (st_field rfl fld109_1) ?_
          refine t_yes 60 rfl rfl rfl ?_
          refine t_st rfl (st_load 3 rfl one3 rfl rfl) ?_
          refine t_yes 60 rfl rfl rfl ?_
          refine t_st rfl (st_gtr rfl rfl) ?_
          refine t_st rfl (st_pick_t rfl rfl) ?_
          refine t_as rfl rfl ?_
          refine t_nil ?_
          obtain rfl := some1 hm
          refine x_pullb 4 rfl ?_
          refine x_pullb 4 rfl ?_
          refine x_pullb 4 rfl ?_
          refine x_pullb 4 rfl ?_
          refine x_pullb 4 rfl ?_
          refine x_front3 [_, _, _, _, _] hs2 hs7 hs12 R rfl ?_
          refine x_front3 [_, _, _, _, _] hs12 hs2 hs7 R rfl ?_
          refine x_front3 [_, _, _, _, _] hs7 hs12 hs2 R rfl ?_
          exact x_join (e' := [(1, .int .i64 (x20)), (2, .pointer (some ⟨g15, 0, none⟩)), (3, .pointer (some ⟨g16, 0, none⟩)), (4, .pointer (some ⟨g17, 0, none⟩)), (7, .pointer (some ⟨g845, 0, none⟩)), (9, .int .i64 (x909.Kind)), (57, .bool (decide (0 < x848)))]) ⟨rfl, rfl, rfl, rfl, rfl, rfl, rfl, trivial⟩ (.refl _) ⟨rfl, rfl, (Base.Le.refl _)⟩
         ·
          rw [if_neg hc1031] at hm
          refine t_mv rfl rfl ?_
          refine t_no 60 rfl rfl rfl rfl rfl ?_
          refine t_no 60 rfl rfl rfl rfl rfl ?_
          refine t_no 60 rfl rfl rfl rfl rfl ?_
          refine t_st rfl (st_pick_f rfl rfl) ?_
          refine t_as rfl rfl ?_
          refine t_nil ?_
          obtain rfl := some1 hm
          refine x_pullb 4 rfl ?_
          refine x_pullb 4 rfl ?_
          refine x_pullb 4 rfl ?_
          refine x_pullb 4 rfl ?_
          refine x_pullb 4 rfl ?_
          refine x_front3 [_, _, _, _, _] hs2 hs7 hs12 R rfl ?_
          refine x_front3 [_, _, _, _, _] hs12 hs2 hs7 R rfl ?_
          refine x_front3 [_, _, _, _, _] hs7 hs12 hs2 R rfl ?_
          exact x_join (e' := [(1, .int .i64 (x20)), (2, .pointer (some ⟨g15, 0, none⟩)), (3, .pointer (some ⟨g16, 0, none⟩)), (4, .pointer (some ⟨g17, 0, none⟩)), (7, .pointer (some ⟨g845, 0, none⟩)), (9, .int .i64 (x909.Kind)), (57, .bool (false))]) ⟨rfl, rfl, rfl, rfl, rfl, rfl, rfl, trivial⟩ (.refl _) ⟨rfl, rfl, (Base.Le.refl _)⟩
        ·
         rintro b1027 _ _ ⟨rfl, rfl, hle1028⟩
         have hm := hk1030
         refine c_cond _ rfl (fun hc1032 => ?_) (fun hc1032 => ?_)
         ·
          rw [if_pos hc1032] at hm
          obtain ⟨⟨l1061, l1063⟩, hj1064, hk1064⟩ := bindS hm
          refine c_join (fun b1051 e' hp' => ∃ (A1055 : Option Addr), ∃ (c1056 : Nat), ∃ (hs1054 : Hp), ∃ (hs1059 : Hp), [] = e' ∧ (g15, Cl 82 [.pointer (some ⟨g18, 0, none⟩)]) :: (g16, Cl 3 [.int .i64 (x21)]) :: (g17, Cl 125 [.func (.func 57) #[] #[.pointer (some ⟨g15, 0, none⟩), .pointer (some ⟨g16, 0, none⟩), .pointer (some ⟨g17, 0, none⟩)]]) :: (g18, Cl 86 [.slice A22 (l25).length c23, .slice A26 (l29).length c27, .slice A30 (l33).length c31, .slice A34 (l37).length c35, .slice A38 (l41).length c39, .int .i64 (x42), .int .i64 (x43), .slice A44 (l47).length c45, .slice A3 (l48).length c4, .slice A1055 (l1061).length c1056, .map (some g13)]) :: (hs2 ++ (hs1054 ++ (hs1059 ++ R))) = hp' ∧ b1027.Le b1051 ∧ OS 42 (OT.fr rApiNeed) b1051.w (.slice A1055 l1061.length c1056) l1061 hs1054 ∧ (A1055 = none ↔ l1061 = []) ∧ OM rApiNeed (OT.fr RT.bool) true false b1051.w g13 l1063 hs1059) ?_ ?_
          ·
           have hm := hj1064
           refine c_sr ?_
           refine t_st rfl (st_load 0 rfl one82 rfl rfl) ?_
           refine t_st rfl (st_field rfl fld109_0) ?_
           refine t_st rfl (st_load 3 rfl one3 rfl rfl) ?_
           refine t_st rfl (st_field rfl fld109_1) ?_
           refine t_st rfl (st_load 3 rfl one3 rfl rfl) ?_
           obtain ⟨x1065, hcl1066, hm⟩ := bindS hm
           refine t_pullb 4 rfl ?_
           refine t_front3 [_, _, _, _, _] hs2 hs7 hs12 R rfl ?_
           refine t_front3 [_, _, _, _, _] hs12 hs2 hs7 R rfl ?_
           refine t_front3 [_, _, _, _, _] hs7 hs12 hs2 R rfl ?_
           refine t_out3 [_] [_, _, _, _] hs2 hs7 hs12 R rfl ?_
           refine t_callG _ rfl call59 rfl (cLineLookerFlank _ _ x847 x848 l25 l29 l33 l37 l41 x42 x43 l47 l48 l49 l51 g18 A22 c23 A26 c27 A30 c31 A34 c35 A38 c39 A44 c45 A3 c4 hs2 A8 c9 hs7 g13 hs12 (h24.le (hle844.trans (hle879.trans hle1028))) (h28.le (hle844.trans (hle879.trans hle1028))) (h32.le (hle844.trans (hle879.trans hle1028))) (h36.le (hle844.trans (hle879.trans hle1028))) (h40.le (hle844.trans (hle879.trans hle1028))) (h46.le (hle844.trans (hle879.trans hle1028))) (h5.le (hle844.trans (hle879.trans hle1028))) (h10.le (hle844.trans (hle879.trans hle1028))) hnz50 (h14.le (hle844.trans (hle879.trans hle1028))) x1065 hcl1066) ?_
           rintro _ b1067 _ hle1068 ⟨rfl, rfl⟩
           refine t_in3 [_] [_, _, _, _] hs2 hs7 hs12 R rfl ?_
           refine t_st rfl (st_not rfl) ?_
           refine t_ne ?_
           refine c_cond _ rfl (fun hc1069 => ?_) (fun hc1069 => ?_)
           ·
            rw [if_neg (fun hh => Bool.noConfusion (hh.symm.trans (notT hc1069)))] at hm
            refine c_region ?_
            refine t_st rfl (st_load 1 rfl one82 rfl rfl) ?_
            refine t_st rfl (st_field rfl fld109_0) ?_
            refine t_st rfl (st_load 4 rfl one3 rfl rfl) ?_
            refine t_st rfl (st_field rfl fld109_1) ?_
            refine t_st rfl (st_load 4 rfl one3 rfl rfl) ?_
            obtain ⟨_, h1070, hm⟩ := bindS hm
            have h1070 := (chk_some h1070).2
            refine t_st rfl (st_sub rfl rfl h1070) ?_
            refine t_st rfl (st_load 2 rfl one3 rfl rfl) ?_
            refine t_st rfl (st_build (v := .agg #[.int .i64 (3), .int .i64 (x847), .int .i64 (3 - x848), .int .i64 (x21)]) [(0, .int .i64 (3)), (1, .int .i64 (x847)), (2, .int .i64 (3 - x848)), (3, .int .i64 (x21))] rfl (fun _ => by kernel_rfl)) ?_
            obtain ⟨⟨l1071, l1072⟩, hcl1073, hm⟩ := bindS hm
            have hm := (unc2E hm)
            refine t_front3 [_, _, _, _, _] hs2 hs7 hs12 R rfl ?_
            refine t_front3 [_, _, _, _, _] hs12 hs2 hs7 R rfl ?_
            refine t_front3 [_, _, _, _, _] hs7 hs12 hs2 R rfl ?_
            refine t_out3 [_] [_, _, _, _] hs2 hs7 hs12 R rfl ?_
            refine t_callG _ rfl call35 rfl (cLineLookerNeed _ _ (⟨3, x847, 3 - x848, x21⟩ : ApiNeed) l25 l29 l33 l37 l41 x42 x43 l47 l48 l49 l51 g18 A22 c23 A26 c27 A30 c31 A34 c35 A38 c39 A44 c45 A3 c4 hs2 A8 c9 hs7 g13 hs12 (h24.le (hle844.trans (hle879.trans (hle1028.trans hle1068)))) (h28.le (hle844.trans (hle879.trans (hle1028.trans hle1068)))) (h32.le (hle844.trans (hle879.trans (hle1028.trans hle1068)))) (h36.le (hle844.trans (hle879.trans (hle1028.trans hle1068)))) (h40.le (hle844.trans (hle879.trans (hle1028.trans hle1068)))) (h46.le (hle844.trans (hle879.trans (hle1028.trans hle1068)))) (h5.le (hle844.trans (hle879.trans (hle1028.trans hle1068)))) (h10.le (hle844.trans (hle879.trans (hle1028.trans hle1068)))) hnz50 (h14.le (hle844.trans (hle879.trans (hle1028.trans hle1068)))) l1071 l1072 hcl1073) ?_
            rintro _ b1074 _ hle1075 ⟨A1076, c1077, hs1078, hs1079, rfl, rfl, h1080, h1081, h1082⟩
            refine t_in3 [_] [_, _, _, _] hs2 hs1078 hs1079 R rfl ?_
            refine t_nil ?_
            obtain ⟨rfl, rfl⟩ := some2 hm
            refine x_pullb 3 rfl ?_
            refine x_pullb 3 rfl ?_
            refine x_pullb 3 rfl ?_
            refine x_front3 [_, _, _, _, _] hs2 hs1078 hs1079 R rfl ?_
            refine x_front3 [_, _, _, _, _] hs1079 hs2 hs1078 R rfl ?_
            refine x_front3 [_, _, _, _, _] hs1078 hs1079 hs2 R rfl ?_
            exact x_join (e' := []) trivial (.cons_cons _ (.cons_cons _ (.cons_cons _ (.cons_cons _ (.cons _ (.refl _)))))) ⟨A1076, c1077, hs1078, hs1079, rfl, rfl, (hle1068.trans hle1075), h1080, h1081, h1082⟩
           ·
            rw [if_pos (notF hc1069)] at hm
            refine c_skip ?_
            obtain ⟨rfl, rfl⟩ := some2 hm
            refine x_pullb 3 rfl ?_
            refine x_pullb 3 rfl ?_
            refine x_pullb 3 rfl ?_
            refine x_front3 [_, _, _, _, _] hs2 hs7 hs12 R rfl ?_
            refine x_front3 [_, _, _, _, _] hs12 hs2 hs7 R rfl ?_
            refine x_front3 [_, _, _, _, _] hs7 hs12 hs2 R rfl ?_
            exact x_join (e' := []) trivial (.cons_cons _ (.cons_cons _ (.cons_cons _ (.cons_cons _ (.cons _ (.refl _)))))) ⟨A8, c9, hs7, hs12, rfl, rfl, hle1068, (h10.le (hle844.trans (hle879.trans (hle1028.trans hle1068)))), hnz50, (h14.le (hle844.trans (hle879.trans (hle1028.trans hle1068))))⟩
          ·
           rintro b1051 _ _ ⟨A1055, c1056, hs1054, hs1059, rfl, rfl, hle1052, h1057, hnz1062, h1060⟩
           have hm := (unc2E hk1064)
           refine c_ret ?_
           refine x_block_ret ?_
           refine x_then_ret ?_
           have hq1083 := (Option.some.inj hm).symm
           rw [hq1083] at hk1024
           have hm := elimR hk1024
           obtain ⟨rfl, rfl⟩ := some2 hm
           refine x_pullb 3 rfl ?_
           refine x_pullb 3 rfl ?_
           refine x_pullb 3 rfl ?_
           refine x_pullb 3 rfl ?_
           refine x_front3 [_, _, _, _] hs2 hs1054 hs1059 R rfl ?_
           refine x_front3 [_, _, _, _] hs1059 hs2 hs1054 R rfl ?_
           refine x_front3 [_, _, _, _] hs1054 hs1059 hs2 R rfl ?_
           exact retM (rs := []) [] (hle844.trans (hle879.trans (hle1028.trans hle1052))) (by decide) rfl trivial rfl (.refl _) ⟨A1055, c1056, hs1054, g13, hs1059, rfl, rfl, h1057, hnz1062, h1060⟩
         ·
          rw [if_neg (fun hh => Bool.noConfusion (hh.symm.trans hc1032))] at hm
          refine c_sr ?_
          refine t_mv rfl rfl ?_
          refine t_st rfl (st_eql rfl rfl) ?_
          refine t_as rfl rfl ?_
          refine t_ne ?_
          refine c_cond _ rfl (fun hc1084 => ?_) (fun hc1084 => ?_)
          ·
           rw [if_pos (of_decide_eq_true hc1084)] at hm
           refine c_seq ?_
           obtain ⟨x1087, hcl1088, hm⟩ := bindS hm
           refine D_drawI mixed (.refl _) ?_
           refine E_st 0 rfl (st_load 0 rfl one82 rfl rfl) ?_
           refine E_st 1 rfl (st_nil rfl) ?_
           refine E_st 2 rfl (st_field rfl fld86_0) ?_
           refine E_st 3 rfl (st_loadD (vs := [_, _, _, _, _]) 4 5 rfl agg28 rfl rfl rfl) ?_
           refine E_st 4 rfl (st_loadD (vs := [_, _]) 3 2 rfl agg109 rfl rfl rfl) ?_
           refine E_out ?_
           refine D_all [5] (by kernel_rfl) rfl ?_
           refine R_do (Base.Le.refl _) rfl rfl (u_callW0 _ call60 rfl (fun w ho => cLineSignal _ [] (⟨l25, l29, l33, l37, l41⟩ : ApiNet) (⟨x847, x848⟩ : LineEnd) A22 c23 A26 c27 A30 c31 A34 c35 A38 c39 ((h24.le (hle844.trans (hle879.trans hle1028))).old ho) ((h28.le (hle844.trans (hle879.trans hle1028))).old ho) ((h32.le (hle844.trans (hle879.trans hle1028))).old ho) ((h36.le (hle844.trans (hle879.trans hle1028))).old ho) ((h40.le (hle844.trans (hle879.trans hle1028))).old ho) x1087 hcl1088) (fun _ _ _ h => h.2.symm)) ?_ ?_
           ·
            rintro _ _ ⟨⟨_, rfl, _⟩, rfl⟩
            refine ⟨.inr (.refl _), ?_⟩
            refine E_in (.refl _) ?_
            refine E_st 6 rfl (st_assign rfl) ?_
            refine E_out ?_
            refine D_done (by kernel_rfl) ?_
            refine x_then_normal ?_
            refine c_sr ?_
            refine t_mv rfl rfl ?_
            refine t_st rfl (st_geq rfl rfl) ?_
            refine t_ne ?_
            refine c_cond _ rfl (fun hc1089 => ?_) (fun hc1089 => ?_)
            ·
             rw [if_pos (of_decide_eq_true hc1089)] at hm
             obtain ⟨⟨l1113, l1115⟩, hj1116, hk1116⟩ := bindS hm
             refine c_join (fun b1103 e' hp' => ∃ (A1107 : Option Addr), ∃ (c1108 : Nat), ∃ (hs1106 : Hp), ∃ (hs1111 : Hp), [] = e' ∧ (g15, Cl 82 [.pointer (some ⟨g18, 0, none⟩)]) :: (g16, Cl 3 [.int .i64 (x21)]) :: (g17, Cl 125 [.func (.func 57) #[] #[.pointer (some ⟨g15, 0, none⟩), .pointer (some ⟨g16, 0, none⟩), .pointer (some ⟨g17, 0, none⟩)]]) :: (g18, Cl 86 [.slice A22 (l25).length c23, .slice A26 (l29).length c27, .slice A30 (l33).length c31, .slice A34 (l37).length c35, .slice A38 (l41).length c39, .int .i64 (x42), .int .i64 (x43), .slice A44 (l47).length c45, .slice A3 (l48).length c4, .slice A1107 (l1113).length c1108, .map (some g13)]) :: (hs2 ++ (hs1106 ++ (hs1111 ++ R))) = hp' ∧ b1027.Le b1103 ∧ OS 42 (OT.fr rApiNeed) b1103.w (.slice A1107 l1113.length c1108) l1113 hs1106 ∧ (A1107 = none ↔ l1113 = []) ∧ OM rApiNeed (OT.fr RT.bool) true false b1103.w g13 l1115 hs1111) ?_ ?_
             ·
              have hm := hj1116
              refine c_sr ?_
              refine t_mv rfl rfl ?_
              refine t_st rfl (st_load 0 rfl one82 rfl rfl) ?_
              refine t_st rfl (st_nil rfl) ?_
              refine t_st rfl (st_field rfl fld86_1) ?_
              refine t_st rfl (st_field rfl fld54_0) ?_
              refine t_st rfl (st_load 4 rfl one3 rfl rfl) ?_
              refine t_st rfl (st_neq rfl rfl) ?_
              refine t_ne ?_
              refine c_cond _ rfl (fun hc1117 => ?_) (fun hc1117 => ?_)
              ·
               rw [if_pos (of_decide_eq_true hc1117)] at hm
               refine c_region ?_
               refine t_st rfl (st_load 0 rfl one82 rfl rfl) ?_
               refine t_mv rfl rfl ?_
               refine t_st rfl (st_load 1 rfl one3 rfl rfl) ?_
               refine t_st rfl (st_build (v := .agg #[.int .i64 (4), .int .i64 (x1087), .int .i64 (0), .int .i64 (x21)]) [(0, .int .i64 (4)), (1, .int .i64 (x1087)), (3, .int .i64 (x21))] rfl (fun _ => by kernel_rfl)) ?_
               obtain ⟨⟨l1118, l1119⟩, hcl1120, hm⟩ := bindS hm
               have hm := (unc2E hm)
               refine t_pullb 4 rfl ?_
               refine t_front3 [_, _, _, _, _] hs2 hs7 hs12 R rfl ?_
               refine t_front3 [_, _, _, _, _] hs12 hs2 hs7 R rfl ?_
               refine t_front3 [_, _, _, _, _] hs7 hs12 hs2 R rfl ?_
               refine t_out3 [_] [_, _, _, _] hs2 hs7 hs12 R rfl ?_
               refine t_callG _ rfl call35 rfl (cLineLookerNeed _ _ (⟨4, x1087, 0, x21⟩ : ApiNeed) l25 l29 l33 l37 l41 x42 x43 l47 l48 l49 l51 g18 A22 c23 A26 c27 A30 c31 A34 c35 A38 c39 A44 c45 A3 c4 hs2 A8 c9 hs7 g13 hs12 (h24.le (hle844.trans (hle879.trans hle1028))) (h28.le (hle844.trans (hle879.trans hle1028))) (h32.le (hle844.trans (hle879.trans hle1028))) (h36.le (hle844.trans (hle879.trans hle1028))) (h40.le (hle844.trans (hle879.trans hle1028))) (h46.le (hle844.trans (hle879.trans hle1028))) (h5.le (hle844.trans (hle879.trans hle1028))) (h10.le (hle844.trans (hle879.trans hle1028))) hnz50 (h14.le (hle844.trans (hle879.trans hle1028))) l1118 l1119 hcl1120) ?_
               rintro _ b1121 _ hle1122 ⟨A1123, c1124, hs1125, hs1126, rfl, rfl, h1127, h1128, h1129⟩
               refine t_in3 [_] [_, _, _, _] hs2 hs1125 hs1126 R rfl ?_
               refine t_nil ?_
               obtain ⟨rfl, rfl⟩ := some2 hm
               refine x_pullb 3 rfl ?_
               refine x_pullb 3 rfl ?_
               refine x_pullb 3 rfl ?_
               refine x_front3 [_, _, _, _, _] hs2 hs1125 hs1126 R rfl ?_
               refine x_front3 [_, _, _, _, _] hs1126 hs2 hs1125 R rfl ?_
               refine x_front3 [_, _, _, _, _] hs1125 hs1126 hs2 R rfl ?_
               exact x_join (e' := []) trivial (.cons_cons _ (.cons_cons _ (.cons_cons _ (.cons_cons _ (.cons _ (.refl _)))))) ⟨A1123, c1124, hs1125, hs1126, rfl, rfl, hle1122, h1127, h1128, h1129⟩
              ·
               rw [if_neg (of_decide_eq_false hc1117)] at hm
               refine c_skip ?_
               obtain ⟨rfl, rfl⟩ := some2 hm
               refine x_pullb 4 rfl ?_
               refine x_pullb 3 rfl ?_
               refine x_pullb 3 rfl ?_
               refine x_pullb 3 rfl ?_
               refine x_front3 [_, _, _, _, _] hs2 hs7 hs12 R rfl ?_
               refine x_front3 [_, _, _, _, _] hs12 hs2 hs7 R rfl ?_
               refine x_front3 [_, _, _, _, _] hs7 hs12 hs2 R rfl ?_
               exact x_join (e' := []) trivial (.cons_cons _ (.cons_cons _ (.cons_cons _ (.cons_cons _ (.cons _ (.refl _)))))) ⟨A8, c9, hs7, hs12, rfl, rfl, (Base.Le.refl _), (h10.le (hle844.trans (hle879.trans hle1028))), hnz50, (h14.le (hle844.trans (hle879.trans hle1028)))⟩
             ·
              rintro b1103 _ _ ⟨A1107, c1108, hs1106, hs1111, rfl, rfl, hle1104, h1109, hnz1114, h1112⟩
              have hm := (unc2E hk1116)
              refine c_ret ?_
              refine x_block_ret ?_
              refine x_then_ret ?_
              have hq1130 := (Option.some.inj hm).symm
              rw [hq1130] at hk1024
              have hm := elimR hk1024
              obtain ⟨rfl, rfl⟩ := some2 hm
              refine x_pullb 3 rfl ?_
              refine x_pullb 3 rfl ?_
              refine x_pullb 3 rfl ?_
              refine x_pullb 3 rfl ?_
              refine x_front3 [_, _, _, _] hs2 hs1106 hs1111 R rfl ?_
              refine x_front3 [_, _, _, _] hs1111 hs2 hs1106 R rfl ?_
              refine x_front3 [_, _, _, _] hs1106 hs1111 hs2 R rfl ?_
              exact retM (rs := []) [] (hle844.trans (hle879.trans (hle1028.trans hle1104))) (by decide) rfl trivial rfl (.refl _) ⟨A1107, c1108, hs1106, g13, hs1111, rfl, rfl, h1109, hnz1114, h1112⟩
            ·
             rw [if_neg (of_decide_eq_false hc1089)] at hm
             refine c_skip ?_
             refine x_block_normal ?_
             have hq := (Option.some.inj hm).symm
             refine x_pullb 4 rfl ?_
             refine x_pullb 2 rfl ?_
             refine x_pullb 2 rfl ?_
             refine x_pullb 4 rfl ?_
             refine x_pullb 4 rfl ?_
             refine x_front3 [_, _, _, _, _] hs2 hs7 hs12 R rfl ?_
             refine x_front3 [_, _, _, _, _] hs12 hs2 hs7 R rfl ?_
             refine x_front3 [_, _, _, _, _] hs7 hs12 hs2 R rfl ?_
             exact x_join (e' := [(1, .int .i64 (x20)), (4, .pointer (some ⟨g17, 0, none⟩)), (7, .pointer (some ⟨g845, 0, none⟩)), (9, .int .i64 (x909.Kind))]) ⟨rfl, rfl, rfl, rfl, trivial⟩ (.refl _) ⟨rfl, rfl, hle1028, hq⟩
           exact R_nil
          ·
           rw [if_neg (of_decide_eq_false hc1084)] at hm
           refine c_skip ?_
           refine x_block_normal ?_
           have hq := (Option.some.inj hm).symm
           refine x_pullb 4 rfl ?_
           refine x_pullb 2 rfl ?_
           refine x_pullb 2 rfl ?_
           refine x_pullb 4 rfl ?_
           refine x_pullb 4 rfl ?_
           refine x_front3 [_, _, _, _, _] hs2 hs7 hs12 R rfl ?_
           refine x_front3 [_, _, _, _, _] hs12 hs2 hs7 R rfl ?_
           refine x_front3 [_, _, _, _, _] hs7 hs12 hs2 R rfl ?_
           exact x_join (e' := [(1, .int .i64 (x20)), (4, .pointer (some ⟨g17, 0, none⟩)), (7, .pointer (some ⟨g845, 0, none⟩)), (9, .int .i64 (x909.Kind))]) ⟨rfl, rfl, rfl, rfl, trivial⟩ (.refl _) ⟨rfl, rfl, hle1028, hq⟩
       ·
        rintro b1022 _ _ ⟨rfl, rfl, hle1023, hq1131⟩
        rw [hq1131] at hk1024
        have hm := elimL hk1024
        refine c_sr ?_
        refine t_mv rfl rfl ?_
        refine t_st rfl (st_field rfl fld109_1) ?_
        refine t_st rfl (st_load 1 rfl one3 rfl rfl) ?_
        obtain ⟨l1132, hcl1133, hm⟩ := bindS hm
        refine t_callG _ rfl call61 rfl (cLineOuts _ _ x909.Kind x848 l1132 hcl1133) ?_
        rintro _ b1134 _ hle1135 ⟨A1136, c1137, rfl, rfl, h1138⟩
        refine t_st rfl (st_len rfl sl37) ?_
        refine t_mv rfl rfl ?_
        refine t_ne ?_
        refine c_block ?_
        have hb1140 : l1132.length ≤ 9223372036854775807 := (FZ.bd h1138)
        refine c_pullb 4 rfl ?_
        refine c_pullb 4 rfl ?_
        refine c_pullb 4 rfl ?_
        refine c_pullb 4 rfl ?_
        refine c_pullb 4 rfl ?_
        refine c_front3 [_, _, _, _, _] hs2 hs7 hs12 R rfl ?_
        refine c_front3 [_, _, _, _, _] hs12 hs2 hs7 R rfl ?_
        refine c_front3 [_, _, _, _, _] hs7 hs12 hs2 R rfl ?_
        obtain ⟨⟨l1212, l1214⟩, hl1216, hk1217⟩ := bindS hm
        refine c_forS (fun k1215 => unc2 fun l1212 l1214 => fun b1201 e' hp' => ∃ (A1205 : Option Addr), ∃ (c1206 : Nat), ∃ (hs1204 : Hp), ∃ (g1210 : Nat), ∃ (hs1209 : Hp), [(1, .int .i64 (x20)), (4, .pointer (some ⟨g17, 0, none⟩)), (7, .pointer (some ⟨g845, 0, none⟩)), (107, .slice A1136 (l1132).length c1137), (108, .int .i64 ((l1132.length : Int))), (109, .int .i64 ((k1215 : Int)))] = e' ∧ (g17, Cl 125 [.func (.func 57) #[] #[.pointer (some ⟨g15, 0, none⟩), .pointer (some ⟨g16, 0, none⟩), .pointer (some ⟨g17, 0, none⟩)]]) :: (g845, Cl 109 [.int .i64 (x847), .int .i64 (x848)]) :: (g15, Cl 82 [.pointer (some ⟨g18, 0, none⟩)]) :: (g16, Cl 3 [.int .i64 (x21)]) :: (g18, Cl 86 [.slice A22 (l25).length c23, .slice A26 (l29).length c27, .slice A30 (l33).length c31, .slice A34 (l37).length c35, .slice A38 (l41).length c39, .int .i64 (x42), .int .i64 (x43), .slice A44 (l47).length c45, .slice A3 (l48).length c4, .slice A1205 (l1212).length c1206, .map (some g1210)]) :: (hs2 ++ (hs1204 ++ (hs1209 ++ R))) = hp' ∧ b1134.Le b1201 ∧ OS 42 (OT.fr rApiNeed) b1201.w (.slice A1205 l1212.length c1206) l1212 hs1204 ∧ (A1205 = none ↔ l1212 = []) ∧ OM rApiNeed (OT.fr RT.bool) true false b1201.w g1210 l1214 hs1209) hl1216 (e' := [(1, .int .i64 (x20)), (4, .pointer (some ⟨g17, 0, none⟩)), (7, .pointer (some ⟨g845, 0, none⟩)), (107, .slice A1136 (l1132).length c1137), (108, .int .i64 ((l1132.length : Int))), (109, .int .i64 0)]) ⟨rfl, rfl, rfl, rfl, rfl, rfl, trivial⟩ (.refl _) ⟨A8, c9, hs7, g13, hs12, rfl, rfl, (Base.Le.refl _), (h10.le (hle844.trans (hle879.trans (hle1023.trans hle1135)))), hnz50, (h14.le (hle844.trans (hle879.trans (hle1023.trans hle1135))))⟩ ?_ ?_
        ·
         rintro k1215 ⟨l1212, l1214⟩ b1201 _ _ oL1139 hknL1139 ⟨A1205, c1206, hs1204, g1210, hs1209, rfl, rfl, hle1202, h1207, hnz1213, h1211⟩ hstepL1139
         unfold mLineLookerLook_1_L1139 at hstepL1139
         have hm := (unc2E hstepL1139)
         refine c_sr ?_
         refine t_st rfl (st_lss_t rfl rfl (by omega)) ?_
         refine t_ne ?_
         refine c_seq ?_
         refine c_cond_t rfl ?_
         refine c_skip ?_
         refine x_then_normal ?_
         refine c_seq ?_
         refine c_block ?_
         refine c_sr ?_
         obtain ⟨x1218, h1219, hm⟩ := bindS hm
         obtain ⟨j1220, hj1221, hx1222⟩ := idx_some h1219
         obtain ⟨cs1223, hr1224, hcs1225, hA1226, hlt1227⟩ := FZ.get (sz := 1) rfl (by decide) (h1138.le hle1202) hx1222
         obtain rfl := hr1224
         refine t_st rfl (st_index_old j1220 rfl rfl hj1221 hlt1227 hA1226 sl37) ?_
         refine t_st rfl (st_load_old rfl one3 (hcs1225 0 _ rfl)) ?_
         refine t_as rfl rfl ?_
         refine t_ne ?_
         refine c_region ?_
         refine t_st rfl (st_load 0 rfl one125 rfl rfl) ?_
         refine t_st rfl (st_field rfl fld109_0) ?_
         refine t_st rfl (st_load 1 rfl one3 rfl rfl) ?_
         refine t_mv rfl rfl ?_
         refine t_st rfl (st_build (v := .agg #[.int .i64 (x847), .int .i64 (x1218)]) [(0, .int .i64 (x847)), (1, .int .i64 (x1218))] rfl (fun _ => by kernel_rfl)) ?_
         refine t_mv rfl rfl ?_
         obtain ⟨_, h1228, hm⟩ := bindS hm
         have h1228 := (chk_some h1228).2
         refine t_st rfl (st_add rfl rfl h1228) ?_
         obtain ⟨⟨l1229, l1230⟩, hcl1231, hm⟩ := bindS hm
         have hm := (unc2E hm)
         refine t_pullb 4 rfl ?_
         refine t_pullb 1 rfl ?_
         refine t_pullb 4 rfl ?_
         refine t_pullb 4 rfl ?_
         refine t_front3 [_, _, _, _, _] hs2 hs1204 hs1209 R rfl ?_
         refine t_front3 [_, _, _, _, _] hs1209 hs2 hs1204 R rfl ?_
         refine t_front3 [_, _, _, _, _] hs1204 hs1209 hs2 R rfl ?_
         refine t_out3 [_, _, _, _] [_] hs2 hs1204 hs1209 R rfl ?_
         refine t_callvG #[] #[.pointer (some ⟨g15, 0, none⟩), .pointer (some ⟨g16, 0, none⟩), .pointer (some ⟨g17, 0, none⟩)] [.agg #[.int .i64 (x847), .int .i64 (x1218)], .int .i64 (x20 + 1)] rfl rfl call57 rfl (ih _ _ (⟨x847, x1218⟩ : LineEnd) (x20 + 1) x21 l25 l29 l33 l37 l41 x42 x43 l47 l48 l1212 l1214 g15 g16 g17 g18 A22 c23 A26 c27 A30 c31 A34 c35 A38 c39 A44 c45 A3 c4 hs2 A1205 c1206 hs1204 g1210 hs1209 (h24.le (hle844.trans (hle879.trans (hle1023.trans (hle1135.trans hle1202))))) (h28.le (hle844.trans (hle879.trans (hle1023.trans (hle1135.trans hle1202))))) (h32.le (hle844.trans (hle879.trans (hle1023.trans (hle1135.trans hle1202))))) (h36.le (hle844.trans (hle879.trans (hle1023.trans (hle1135.trans hle1202))))) (h40.le (hle844.trans (hle879.trans (hle1023.trans (hle1135.trans hle1202))))) (h46.le (hle844.trans (hle879.trans (hle1023.trans (hle1135.trans hle1202))))) (h5.le (hle844.trans (hle879.trans (hle1023.trans (hle1135.trans hle1202))))) h1207 hnz1213 h1211 l1229 l1230 hcl1231) ?_
         rintro _ b1232 _ hle1233 ⟨A1234, c1235, hs1236, g1237, hs1238, rfl, rfl, h1239, h1240, h1241⟩
         refine t_in3 [_, _, _, _] [_] hs2 hs1236 hs1238 R rfl ?_
         refine t_nil ?_
         refine x_block_normal ?_
         refine x_then_normal ?_
         refine c_region ?_
         refine t_st rfl (st_add rfl rfl (by omega)) ?_
         refine t_mv rfl rfl ?_
         refine t_nil ?_
         refine x_pullb 3 rfl ?_
         refine x_pullb 2 rfl ?_
         refine x_pullb 2 rfl ?_
         refine x_pullb 4 rfl ?_
         refine x_pullb 4 rfl ?_
         refine x_front3 [_, _, _, _, _] hs2 hs1236 hs1238 R rfl ?_
         refine x_front3 [_, _, _, _, _] hs1238 hs2 hs1236 R rfl ?_
         refine x_front3 [_, _, _, _, _] hs1236 hs1238 hs2 R rfl ?_
         obtain rfl := some1 hm
         exact x_againS (e' := [(1, .int .i64 (x20)), (4, .pointer (some ⟨g17, 0, none⟩)), (7, .pointer (some ⟨g845, 0, none⟩)), (107, .slice A1136 (l1132).length c1137), (108, .int .i64 ((l1132.length : Int))), (109, .int .i64 ((k1215 : Int) + 1))]) ⟨rfl, rfl, rfl, rfl, rfl, rfl, trivial⟩ (.refl _) ⟨A1234, c1235, hs1236, g1237, hs1238, rfl, rfl, ((hle1202.trans hle1233)), h1239, h1240, h1241⟩
        ·
         rintro b1201 _ _ ⟨A1205, c1206, hs1204, g1210, hs1209, rfl, rfl, hle1202, h1207, hnz1213, h1211⟩
         have hm := (unc2E hk1217)
         refine c_sr ?_
         refine t_st rfl (st_lss_f rfl rfl (by omega)) ?_
         refine t_ne ?_
         refine c_seq ?_
         refine c_cond_f rfl ?_
         refine c_exit ?_
         refine x_then_exit ?_
         refine x_then_exit ?_
         refine x_block_out ?_
         obtain ⟨rfl, rfl⟩ := some2 hm
         refine x_pullb 4 rfl ?_
         refine x_pullb 1 rfl ?_
         refine x_pullb 4 rfl ?_
         refine x_pullb 4 rfl ?_
         refine x_front3 [_, _, _, _, _] hs2 hs1204 hs1209 R rfl ?_
         refine x_front3 [_, _, _, _, _] hs1209 hs2 hs1204 R rfl ?_
         refine x_front3 [_, _, _, _, _] hs1204 hs1209 hs2 R rfl ?_
         exact endM (hle844.trans (hle879.trans (hle1023.trans (hle1135.trans hle1202)))) rfl (.cons_cons _ (.cons_cons _ (.cons_cons _ (.cons_cons _ (.cons _ (.refl _)))))) ⟨A1205, c1206, hs1204, g1210, hs1209, rfl, rfl, h1207, hnz1213, h1211⟩

set_option maxRecDepth 20000 in
theorem cLineLookerLook (b : Base) (R : Hp) (x16 : Int) (l20 : (List ByteArray)) (l24 : (List ApiSection)) (l28 : (List ApiLink)) (l32 : (List ApiSignal)) (l36 : (List ApiGate)) (x37 : Int) (x38 : Int) (l42 : (List ApiStep)) (l43 : (List ApiStep)) (l44 : (List ApiNeed)) (l46 : (List (ApiNeed × Bool))) (g15 : Nat) (A17 : Option Addr) (c18 : Nat) (A21 : Option Addr) (c22 : Nat) (A25 : Option Addr) (c26 : Nat) (A29 : Option Addr) (c30 : Nat) (A33 : Option Addr) (c34 : Nat) (A39 : Option Addr) (c40 : Nat) (A3 : Option Addr) (c4 : Nat) (hs2 : Hp) (A8 : Option Addr) (c9 : Nat) (hs7 : Hp) (g13 : Nat) (hs12 : Hp) (h19 : FZ RT.str b.w A17 c18 l20) (h23 : FZ rApiSection b.w A21 c22 l24) (h27 : FZ rApiLink b.w A25 c26 l28) (h31 : FZ rApiSignal b.w A29 c30 l32) (h35 : FZ rApiGate b.w A33 c34 l36) (h41 : FZ rApiStep b.w A39 c40 l42) (h5 : OS 56 (OT.fr rApiStep) b.w (.slice A3 l43.length c4) l43 hs2) (h10 : OS 42 (OT.fr rApiNeed) b.w (.slice A8 l44.length c9) l44 hs7) (hnz45 : (A8 = none ↔ l44 = [])) (h14 : OM rApiNeed (OT.fr RT.bool) true false b.w g13 l46 hs12) (l225 : (List ApiNeed)) (l227 : (List (ApiNeed × Bool))) (hm : mLineLookerLook x16 l20 l24 l28 l32 l36 x37 x38 l42 l43 l44 l46 = some (l225, l227)) :
    CallsG Tryz.prog 37 [.pointer (some ⟨g15, 0, none⟩), .int .i64 (x16)] b ((g15, Cl 86 [.slice A17 (l20).length c18, .slice A21 (l24).length c22, .slice A25 (l28).length c26, .slice A29 (l32).length c30, .slice A33 (l36).length c34, .int .i64 (x37), .int .i64 (x38), .slice A39 (l42).length c40, .slice A3 (l43).length c4, .slice A8 (l44).length c9, .map (some g13)]) :: (hs2 ++ (hs7 ++ (hs12 ++ R)))) (fun v b' hp' => ∃ (A218 : Option Addr), ∃ (c219 : Nat), ∃ (hs217 : Hp), ∃ (g223 : Nat), ∃ (hs222 : Hp), .tuple #[] = v ∧ (g15, Cl 86 [.slice A17 (l20).length c18, .slice A21 (l24).length c22, .slice A25 (l28).length c26, .slice A29 (l32).length c30, .slice A33 (l36).length c34, .int .i64 (x37), .int .i64 (x38), .slice A39 (l42).length c40, .slice A3 (l43).length c4, .slice A218 (l225).length c219, .map (some g223)]) :: (hs2 ++ (hs217 ++ (hs222 ++ R))) = hp' ∧ OS 42 (OT.fr rApiNeed) b'.w (.slice A218 l225.length c219) l225 hs217 ∧ (A218 = none ↔ l225 = []) ∧ OM rApiNeed (OT.fr RT.bool) true false b'.w g223 l227 hs222) := by
  refine fn_enterG 47 Tryz.func37 rfl Tryz.ntmps37 rfl ?_
  unfold mLineLookerLook at hm
  refine c_sr ?_
  refine t_do rfl (u_box _ rfl rfl) ?_
  rintro _ _ ⟨g228, rfl, rfl⟩
  refine t_do rfl (u_box _ rfl rfl) ?_
  rintro _ _ ⟨g229, rfl, rfl⟩
  refine t_ne ?_
  refine c_sr ?_
  refine t_do rfl (u_alloc [.nilFunc] zero125 rfl) ?_
  rintro _ _ ⟨g230, rfl, rfl⟩
  refine t_ne ?_
  refine c_sr ?_
  refine t_st rfl (st_func _ _ rfl rfl) ?_
  refine t_do rfl (u_store 0 rfl rfl siz125 rfl rfl (by simp)) ?_
  rintro _ _ rfl
  refine t_ne ?_
  obtain ⟨⟨x256, x257, x258⟩, hj259, hk259⟩ := bindS hm
  refine c_join (fun b253 e' hp' => ∃ (g255 : Nat), [(2, .pointer (some ⟨g228, 0, none⟩)), (4, .pointer (some ⟨g230, 0, none⟩)), (5, .pointer (some ⟨g255, 0, none⟩))] = e' ∧ (g228, Cl 82 [.pointer (some ⟨g15, 0, none⟩)]) :: (g230, Cl 125 [.func (.func 57) #[] #[.pointer (some ⟨g228, 0, none⟩), .pointer (some ⟨g229, 0, none⟩), .pointer (some ⟨g230, 0, none⟩)]]) :: (g255, Cl 56 [.int .i64 (x256), .int .i64 (x257), .int .i64 (x258)]) :: (g15, Cl 86 [.slice A17 (l20).length c18, .slice A21 (l24).length c22, .slice A25 (l28).length c26, .slice A29 (l32).length c30, .slice A33 (l36).length c34, .int .i64 (x37), .int .i64 (x38), .slice A39 (l42).length c40, .slice A3 (l43).length c4, .slice A8 (l44).length c9, .map (some g13)]) :: (g229, Cl 3 [.int .i64 (x16)]) :: (hs2 ++ (hs7 ++ (hs12 ++ R))) = hp' ∧ b.Le b253) ?_ ?_
  ·
   have hm := hj259
   obtain ⟨x271, h272, hm⟩ := bindS hm
   refine D_drawI mixed (.refl _) ?_
   refine E_st 0 rfl (st_load 2 rfl one82 rfl rfl) ?_
   refine E_st 1 rfl (st_nil rfl) ?_
   refine E_st 2 rfl (st_field rfl fld86_1) ?_
   refine E_st 3 rfl (st_field rfl fld54_2) ?_
   refine E_st 4 rfl (st_load 3 rfl one52 rfl rfl) ?_
   refine E_st 5 rfl (st_load 1 rfl one3 rfl rfl) ?_
   obtain ⟨j273, hj274, hx275⟩ := idx_some h272
   obtain ⟨cs276, hr277, hcs278, hA279, hlt280⟩ := FZ.get (sz := 3) rfl (by decide) h41 hx275
   obtain ⟨_, _, rfl, rfl, ⟨_, _, rfl, rfl, rfl⟩⟩ := hr277
   refine E_st 6 rfl (st_index_old j273 rfl rfl hj274 hlt280 hA279 sl52) ?_
   refine E_st 7 rfl (st_loadN_old (vs := [.int .i64 (x271.Section), .int .i64 (x271.In), .int .i64 (x271.Out)]) 3 rfl agg56 hA279 rfl (fun j u hu => hcs278 j u hu)) ?_
   refine E_out ?_
   refine D_all [8] (by kernel_rfl) rfl ?_
   refine R_do (Base.Le.refl _) rfl rfl (u_alloc [.int .i64 0, .int .i64 0, .int .i64 0] zero56 rfl) ?_ ?_
   ·
    rintro _ _ ⟨g281, rfl, rfl⟩
    refine ⟨.inr (.cons _ (.refl _)), ?_⟩
    refine D_all [9] (by kernel_rfl) rfl ?_
    refine R_do (Base.Le.refl _) rfl rfl (u_storeN (vs := [_, _, _]) 0 3 rfl rfl rfl siz56 rfl (mem_c rfl (mem_c rfl (mem_c rfl mem_n))) rfl (by simp)) ?_ ?_
    ·
     rintro _ _ rfl
     refine ⟨.inl (by kernel_rfl), ?_⟩
     refine D_done (by kernel_rfl) ?_
     obtain ⟨rfl, rfl, rfl⟩ := some3 hm
     refine x_pullb 2 rfl ?_
     refine x_pullb 4 rfl ?_
     refine x_pullb 2 rfl ?_
     refine x_pullb 3 rfl ?_
     refine x_pullb 4 rfl ?_
     refine x_front3 [_, _, _, _, _] hs2 hs7 hs12 R rfl ?_
     refine x_front3 [_, _, _, _, _] hs12 hs2 hs7 R rfl ?_
     refine x_front3 [_, _, _, _, _] hs7 hs12 hs2 R rfl ?_
     exact x_join (e' := [(2, .pointer (some ⟨g228, 0, none⟩)), (4, .pointer (some ⟨g230, 0, none⟩)), (5, .pointer (some ⟨g281, 0, none⟩))]) ⟨rfl, rfl, rfl, trivial⟩ (.refl _) ⟨g281, rfl, rfl, (Base.Le.refl _)⟩
    exact R_nil
   exact R_nil
  ·
   rintro b253 _ _ ⟨g255, rfl, rfl, hle254⟩
   have hm := (unc3E hk259)
   refine c_seq ?_
   obtain ⟨x294, h295, hm⟩ := bindS hm
   obtain ⟨x304, hcl305, hm⟩ := bindS hm
   refine D_drawI mixed (.refl _) ?_
   refine E_st 0 rfl (st_load 0 rfl one82 rfl rfl) ?_
   refine E_st 1 rfl (st_nil rfl) ?_
   refine E_st 2 rfl (st_field rfl fld86_0) ?_
   refine E_st 3 rfl (st_field rfl fld28_1) ?_
   refine E_st 4 rfl (st_load 3 rfl one23 rfl rfl) ?_
   refine E_st 5 rfl (st_field rfl fld56_0) ?_
   refine E_st 6 rfl (st_load 2 rfl one3 rfl rfl) ?_
   obtain ⟨j296, hj297, hx298⟩ := idx_some h295
   obtain ⟨cs299, hr300, hcs301, hA302, hlt303⟩ := FZ.get (sz := 7) rfl (by decide) (h23.le hle254) hx298
   obtain ⟨_, _, rfl, rfl, ⟨_, _, rfl, rfl, ⟨_, _, rfl, rfl, ⟨_, _, rfl, rfl, ⟨_, _, rfl, rfl, ⟨_, _, rfl, rfl, rfl⟩⟩⟩⟩⟩⟩ := hr300
   refine E_st 7 rfl (st_index_old j296 rfl rfl hj297 hlt303 hA302 sl23) ?_
   refine E_st 8 rfl (st_field_old rfl hA302 fld91_0) ?_
   refine E_st 9 rfl (st_load_old rfl one3 (hcs301 0 _ rfl)) ?_
   refine E_st 11 rfl (st_move rfl) ?_
   refine E_out ?_
   refine D_all [10] (by kernel_rfl) rfl ?_
   refine R_do (Base.Le.refl _) rfl rfl (u_callW0 _ call62 rfl (fun w ho => cLineEnds _ [] x294.Kind x304 hcl305) (fun _ _ _ h => h.2.symm)) ?_ ?_
   ·
    rintro _ _ ⟨⟨_, rfl, _⟩, rfl⟩
    refine ⟨.inr (.refl _), ?_⟩
    refine D_done (by kernel_rfl) ?_
    refine x_then_normal ?_
    refine c_block ?_
    obtain ⟨_, h307, hm⟩ := bindS hm
    have h307 := (chk_some h307).2
    refine c_pullb 4 rfl ?_
    refine c_pullb 1 rfl ?_
    refine c_pullb 4 rfl ?_
    refine c_pullb 4 rfl ?_
    refine c_pullb 4 rfl ?_
    refine c_front3 [_, _, _, _, _] hs2 hs7 hs12 R rfl ?_
    refine c_front3 [_, _, _, _, _] hs12 hs2 hs7 R rfl ?_
    refine c_front3 [_, _, _, _, _] hs7 hs12 hs2 R rfl ?_
    obtain ⟨⟨l371, l373⟩, hl375, hk376⟩ := bindS hm
    refine c_forS (fun k374 => unc2 fun l371 l373 => fun b360 e' hp' => ∃ (A364 : Option Addr), ∃ (c365 : Nat), ∃ (hs363 : Hp), ∃ (g369 : Nat), ∃ (hs368 : Hp), [(4, .pointer (some ⟨g230, 0, none⟩)), (5, .pointer (some ⟨g255, 0, none⟩)), (26, .int .i64 (x304)), (27, .int .i64 ((k374 : Int)))] = e' ∧ (g230, Cl 125 [.func (.func 57) #[] #[.pointer (some ⟨g228, 0, none⟩), .pointer (some ⟨g229, 0, none⟩), .pointer (some ⟨g230, 0, none⟩)]]) :: (g255, Cl 56 [.int .i64 (x256), .int .i64 (x257), .int .i64 (x258)]) :: (g15, Cl 86 [.slice A17 (l20).length c18, .slice A21 (l24).length c22, .slice A25 (l28).length c26, .slice A29 (l32).length c30, .slice A33 (l36).length c34, .int .i64 (x37), .int .i64 (x38), .slice A39 (l42).length c40, .slice A3 (l43).length c4, .slice A364 (l371).length c365, .map (some g369)]) :: (g228, Cl 82 [.pointer (some ⟨g15, 0, none⟩)]) :: (g229, Cl 3 [.int .i64 (x16)]) :: (hs2 ++ (hs363 ++ (hs368 ++ R))) = hp' ∧ b253.Le b360 ∧ OS 42 (OT.fr rApiNeed) b360.w (.slice A364 l371.length c365) l371 hs363 ∧ (A364 = none ↔ l371 = []) ∧ OM rApiNeed (OT.fr RT.bool) true false b360.w g369 l373 hs368) hl375 (e' := [(4, .pointer (some ⟨g230, 0, none⟩)), (5, .pointer (some ⟨g255, 0, none⟩)), (26, .int .i64 (x304)), (27, .int .i64 0)]) ⟨rfl, rfl, rfl, rfl, trivial⟩ (.refl _) ⟨A8, c9, hs7, g13, hs12, rfl, rfl, (Base.Le.refl _), (h10.le hle254), hnz45, (h14.le hle254)⟩ ?_ ?_
    ·
     rintro k374 ⟨l371, l373⟩ b360 _ _ oL306 hknL306 ⟨A364, c365, hs363, g369, hs368, rfl, rfl, hle361, h366, hnz372, h370⟩ hstepL306
     unfold mLineLookerLook_L306 at hstepL306
     have hm := (unc2E hstepL306)
     refine c_sr ?_
     refine t_st rfl (st_lss_t rfl rfl (by omega)) ?_
     refine t_ne ?_
     refine c_seq ?_
     refine c_cond_t rfl ?_
     refine c_skip ?_
     refine x_then_normal ?_
     refine c_seq ?_
     refine c_block ?_
     refine c_sr ?_
     refine t_mv rfl rfl ?_
     refine t_as rfl rfl ?_
     refine t_ne ?_
     obtain ⟨x380, hj381, hk381⟩ := bindS hm
     refine c_join (fun b378 e' hp' => [(4, .pointer (some ⟨g230, 0, none⟩)), (5, .pointer (some ⟨g255, 0, none⟩)), (6, .int .i64 ((k374 : Int))), (26, .int .i64 (x304)), (27, .int .i64 ((k374 : Int))), (39, .bool (x380))] = e' ∧ (g230, Cl 125 [.func (.func 57) #[] #[.pointer (some ⟨g228, 0, none⟩), .pointer (some ⟨g229, 0, none⟩), .pointer (some ⟨g230, 0, none⟩)]]) :: (g255, Cl 56 [.int .i64 (x256), .int .i64 (x257), .int .i64 (x258)]) :: (g15, Cl 86 [.slice A17 (l20).length c18, .slice A21 (l24).length c22, .slice A25 (l28).length c26, .slice A29 (l32).length c30, .slice A33 (l36).length c34, .int .i64 (x37), .int .i64 (x38), .slice A39 (l42).length c40, .slice A3 (l43).length c4, .slice A364 (l371).length c365, .map (some g369)]) :: (g228, Cl 82 [.pointer (some ⟨g15, 0, none⟩)]) :: (g229, Cl 3 [.int .i64 (x16)]) :: (hs2 ++ (hs363 ++ (hs368 ++ R))) = hp' ∧ b360.Le b378) ?_ ?_
     ·
      have hm := hj381
      refine c_region ?_
      refine t_mv rfl rfl ?_
      refine t_st rfl (st_field rfl fld56_1) ?_
      refine t_st rfl (st_load 1 rfl one3 rfl rfl) ?_
      refine t_bool rfl (st_neq rfl rfl) (fun hc382 => ?_) (fun hc382 => ?_)
      ·
       rw [if_pos hc382] at hm
       refine t_mv rfl rfl ?_
       refine t_yes 34 rfl rfl rfl ?_
       refine t_mv rfl rfl ?_
       refine t_yes 34 rfl rfl rfl ?_
       refine t_st rfl (st_field rfl fld56_2) ?_
       refine t_yes 34 rfl rfl rfl ?_
       refine t_st rfl (st_load 1 rfl one3 rfl rfl) ?_
       refine t_yes 34 rfl rfl rfl ?_
       refine t_st rfl (st_neq rfl rfl) ?_
       refine t_st rfl (st_pick_t rfl rfl) ?_
       refine t_nil ?_
       obtain rfl := some1 hm
       refine x_pullb 4 rfl ?_
       refine x_pullb 4 rfl ?_
       refine x_pullb 4 rfl ?_
       refine x_pullb 4 rfl ?_
       refine x_pullb 4 rfl ?_
       refine x_front3 [_, _, _, _, _] hs2 hs363 hs368 R rfl ?_
       refine x_front3 [_, _, _, _, _] hs368 hs2 hs363 R rfl ?_
       refine x_front3 [_, _, _, _, _] hs363 hs368 hs2 R rfl ?_
       exact x_join (e' := [(4, .pointer (some ⟨g230, 0, none⟩)), (5, .pointer (some ⟨g255, 0, none⟩)), (6, .int .i64 ((k374 : Int))), (26, .int .i64 (x304)), (27, .int .i64 ((k374 : Int))), (39, .bool (decide ((k374 : Int) ≠ x258)))]) ⟨rfl, rfl, rfl, rfl, rfl, rfl, trivial⟩ (.refl _) ⟨rfl, rfl, (Base.Le.refl _)⟩
      ·
       rw [if_neg hc382] at hm
       refine t_mv rfl rfl ?_
       refine t_no 34 rfl rfl rfl rfl rfl ?_
       refine t_no 34 rfl rfl rfl rfl rfl ?_
       refine t_no 34 rfl rfl rfl rfl rfl ?_
       refine t_no 34 rfl rfl rfl rfl rfl ?_
       refine t_st rfl (st_pick_f rfl rfl) ?_
       refine t_nil ?_
       obtain rfl := some1 hm
       refine x_pullb 4 rfl ?_
       refine x_pullb 4 rfl ?_
       refine x_pullb 4 rfl ?_
       refine x_pullb 4 rfl ?_
       refine x_pullb 4 rfl ?_
       refine x_front3 [_, _, _, _, _] hs2 hs363 hs368 R rfl ?_
       refine x_front3 [_, _, _, _, _] hs368 hs2 hs363 R rfl ?_
       refine x_front3 [_, _, _, _, _] hs363 hs368 hs2 R rfl ?_
       exact x_join (e' := [(4, .pointer (some ⟨g230, 0, none⟩)), (5, .pointer (some ⟨g255, 0, none⟩)), (6, .int .i64 ((k374 : Int))), (26, .int .i64 (x304)), (27, .int .i64 ((k374 : Int))), (39, .bool (false))]) ⟨rfl, rfl, rfl, rfl, rfl, rfl, trivial⟩ (.refl _) ⟨rfl, rfl, (Base.Le.refl _)⟩
     ·
      rintro b378 _ _ ⟨rfl, rfl, hle379⟩
      have hm := hk381
      refine c_cond _ rfl (fun hc383 => ?_) (fun hc383 => ?_)
      ·
       rw [if_pos hc383] at hm
       refine c_region ?_
       refine t_st rfl (st_load 0 rfl one125 rfl rfl) ?_
       refine t_st rfl (st_field rfl fld56_0) ?_
       refine t_st rfl (st_load 1 rfl one3 rfl rfl) ?_
       refine t_mv rfl rfl ?_
       refine t_st rfl (st_build (v := .agg #[.int .i64 (x256), .int .i64 ((k374 : Int))]) [(0, .int .i64 (x256)), (1, .int .i64 ((k374 : Int)))] rfl (fun _ => by kernel_rfl)) ?_
       obtain ⟨⟨l384, l385⟩, hcl386, hm⟩ := bindS hm
       obtain ⟨Nhcl386, hcl386⟩ := lim_some hcl386
       have hm := (unc2E hm)
       refine t_pullb 2 rfl ?_
       refine t_pullb 1 rfl ?_
       refine t_pullb 4 rfl ?_
       refine t_pullb 4 rfl ?_
       refine t_front3 [_, _, _, _, _] hs2 hs363 hs368 R rfl ?_
       refine t_front3 [_, _, _, _, _] hs368 hs2 hs363 R rfl ?_
       refine t_front3 [_, _, _, _, _] hs363 hs368 hs2 R rfl ?_
       refine t_out3 [_, _, _, _] [_] hs2 hs363 hs368 R rfl ?_
       refine t_callvG #[] #[.pointer (some ⟨g228, 0, none⟩), .pointer (some ⟨g229, 0, none⟩), .pointer (some ⟨g230, 0, none⟩)] [.agg #[.int .i64 (x256), .int .i64 ((k374 : Int))], .int .i64 (0)] rfl rfl call57 rfl (cLineLookerLook_1 Nhcl386 _ _ (⟨x256, (k374 : Int)⟩ : LineEnd) 0 x16 l20 l24 l28 l32 l36 x37 x38 l42 l43 l371 l373 g228 g229 g230 g15 A17 c18 A21 c22 A25 c26 A29 c30 A33 c34 A39 c40 A3 c4 hs2 A364 c365 hs363 g369 hs368 (h19.le (hle254.trans (hle361.trans hle379))) (h23.le (hle254.trans (hle361.trans hle379))) (h27.le (hle254.trans (hle361.trans hle379))) (h31.le (hle254.trans (hle361.trans hle379))) (h35.le (hle254.trans (hle361.trans hle379))) (h41.le (hle254.trans (hle361.trans hle379))) (h5.le (hle254.trans (hle361.trans hle379))) (h366.le hle379) hnz372 (h370.le hle379) l384 l385 hcl386) ?_
       rintro _ b387 _ hle388 ⟨A389, c390, hs391, g392, hs393, rfl, rfl, h394, h395, h396⟩
       refine t_in3 [_, _, _, _] [_] hs2 hs391 hs393 R rfl ?_
       refine t_nil ?_
       refine x_block_normal ?_
       refine x_then_normal ?_
       refine c_region ?_
       refine t_st rfl (st_add rfl rfl (by omega)) ?_
       refine t_mv rfl rfl ?_
       refine t_nil ?_
       refine x_pullb 1 rfl ?_
       refine x_pullb 1 rfl ?_
       refine x_pullb 3 rfl ?_
       refine x_pullb 4 rfl ?_
       refine x_pullb 4 rfl ?_
       refine x_front3 [_, _, _, _, _] hs2 hs391 hs393 R rfl ?_
       refine x_front3 [_, _, _, _, _] hs393 hs2 hs391 R rfl ?_
       refine x_front3 [_, _, _, _, _] hs391 hs393 hs2 R rfl ?_
       obtain rfl := some1 hm
       exact x_againS (e' := [(4, .pointer (some ⟨g230, 0, none⟩)), (5, .pointer (some ⟨g255, 0, none⟩)), (26, .int .i64 (x304)), (27, .int .i64 ((k374 : Int) + 1))]) ⟨rfl, rfl, rfl, rfl, trivial⟩ (.refl _) ⟨A389, c390, hs391, g392, hs393, rfl, rfl, ((hle361.trans (hle379.trans hle388))), h394, h395, h396⟩
      ·
       rw [if_neg (fun hh => Bool.noConfusion (hh.symm.trans hc383))] at hm
       refine c_skip ?_
       refine x_block_normal ?_
       refine x_then_normal ?_
       refine c_region ?_
       refine t_st rfl (st_add rfl rfl (by omega)) ?_
       refine t_mv rfl rfl ?_
       refine t_nil ?_
       refine x_pullb 4 rfl ?_
       refine x_pullb 4 rfl ?_
       refine x_pullb 4 rfl ?_
       refine x_pullb 4 rfl ?_
       refine x_pullb 4 rfl ?_
       refine x_front3 [_, _, _, _, _] hs2 hs363 hs368 R rfl ?_
       refine x_front3 [_, _, _, _, _] hs368 hs2 hs363 R rfl ?_
       refine x_front3 [_, _, _, _, _] hs363 hs368 hs2 R rfl ?_
       obtain rfl := some1 hm
       exact x_againS (e' := [(4, .pointer (some ⟨g230, 0, none⟩)), (5, .pointer (some ⟨g255, 0, none⟩)), (26, .int .i64 (x304)), (27, .int .i64 ((k374 : Int) + 1))]) ⟨rfl, rfl, rfl, rfl, trivial⟩ (.refl _) ⟨A364, c365, hs363, g369, hs368, rfl, rfl, ((hle361.trans hle379)), (h366.le hle379), hnz372, (h370.le hle379)⟩
    ·
     rintro b360 _ _ ⟨A364, c365, hs363, g369, hs368, rfl, rfl, hle361, h366, hnz372, h370⟩
     have hm := (unc2E hk376)
     refine c_sr ?_
     refine t_st rfl (st_lss_f rfl rfl (by omega)) ?_
     refine t_ne ?_
     refine c_seq ?_
     refine c_cond_f rfl ?_
     refine c_exit ?_
     refine x_then_exit ?_
     refine x_then_exit ?_
     refine x_block_out ?_
     obtain ⟨rfl, rfl⟩ := some2 hm
     refine x_pullb 2 rfl ?_
     refine x_front3 [_, _, _, _, _] hs2 hs363 hs368 R rfl ?_
     refine x_front3 [_, _, _, _, _] hs368 hs2 hs363 R rfl ?_
     refine x_front3 [_, _, _, _, _] hs363 hs368 hs2 R rfl ?_
     exact endM (hle254.trans hle361) rfl (.cons_cons _ (.cons _ (.cons _ (.cons _ (.cons _ (.refl _)))))) ⟨A364, c365, hs363, g369, hs368, rfl, rfl, h366, hnz372, h370⟩
   exact R_nil

end Go.Proofs.YtcibjjhanafojaaGreatDoor
