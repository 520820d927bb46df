/- Contracts: the code computes its model (part 2). -/
import Derived.Test.YtdphlkddelnaiaaKP1
set_option linter.unusedVariables false
set_option linter.unusedSimpArgs false
namespace Go.Proofs.Ytdphlkddelnaiaa
open Go.RowKit Go.Fp

set_option maxRecDepth 20000 in
theorem cPlanSearchRun : ∀ (N : Nat) (b : Base) (R : Hp) (q14 : (Option (List (List Int)))) (x17 : Int) (x18 : Int) (l22 : (List PlanRule)) (x23 : Int) (x24 : Int) (l25 : (List Int)) (l26 : (List Bool)) (g11 : Nat) (g12 : Nat) (g13 : Nat) (v15 : Value) (A19 : Option Addr) (c20 : Nat) (A3 : Option Addr) (c4 : Nat) (hs2 : Hp) (A8 : Option Addr) (c9 : Nat) (hs7 : Hp) (h16 : (RT.ptr (RT.arr 8 (RT.arr 8 (RT.int .i64)))).rep b.w [v15] q14) (h21 : FZ rPlanRule b.w A19 c20 l22) (h5 : OS 3 (OT.fr (RT.int .i64)) b.w (.slice A3 l25.length c4) l25 hs2) (h10 : OS 4 (OT.fr RT.bool) b.w (.slice A8 l26.length c9) l26 hs7) (x1769 : Int) (l1770 : (List Int)) (l1772 : (List Bool)) (hm : mPlanSearchRun N q14 x17 x18 l22 x23 x24 l25 l26 = some (x1769, l1770, l1772)),
    CallsG Try.prog 41 [.pointer (some ⟨g11, 0, none⟩), v15] b ((g11, Cl 63 [.int .i64 (x17), .int .i64 (x18), .slice A19 (l22).length c20, .func (.func 44) #[] #[.pointer (some ⟨g12, 0, none⟩), .pointer (some ⟨g13, 0, none⟩)], .func (.func 43) #[] #[.pointer (some ⟨g12, 0, none⟩), .pointer (some ⟨g13, 0, none⟩)], .slice A3 (l25).length c4, .slice A8 (l26).length c9]) :: (g12, Cl 3 [.int .i64 (x23)]) :: (g13, Cl 3 [.int .i64 (x24)]) :: (hs2 ++ (hs7 ++ R))) (fun v b' hp' => ∃ (hs1764 : Hp), ∃ (hs1767 : Hp), .tuple #[] = v ∧ (g11, Cl 63 [.int .i64 (x17), .int .i64 (x18), .slice A19 (l22).length c20, .func (.func 44) #[] #[.pointer (some ⟨g12, 0, none⟩), .pointer (some ⟨g13, 0, none⟩)], .func (.func 43) #[] #[.pointer (some ⟨g12, 0, none⟩), .pointer (some ⟨g13, 0, none⟩)], .slice A3 (l1770).length c4, .slice A8 (l1772).length c9]) :: (g12, Cl 3 [.int .i64 (x23)]) :: (g13, Cl 3 [.int .i64 (x1769)]) :: (hs1764 ++ (hs1767 ++ R)) = hp' ∧ OS 3 (OT.fr (RT.int .i64)) b'.w (.slice A3 l1770.length c4) l1770 hs1764 ∧ l1770.length = l25.length ∧ OS 4 (OT.fr RT.bool) b'.w (.slice A8 l1772.length c9) l1772 hs1767 ∧ l1772.length = l26.length) := by
  intro N
  induction N with
  | zero =>
    intro b R q14 x17 x18 l22 x23 x24 l25 l26 g11 g12 g13 v15 A19 c20 A3 c4 hs2 A8 c9 hs7 h16 h21 h5 h10 x1769 l1770 l1772 hm
    unfold mPlanSearchRun at hm
    cases hm
  | succ N ih =>
    intro b R q14 x17 x18 l22 x23 x24 l25 l26 g11 g12 g13 v15 A19 c20 A3 c4 hs2 A8 c9 hs7 h16 h21 h5 h10 x1769 l1770 l1772 hm
    refine fn_enterG 142 Try.func41 rfl Try.ntmps41 rfl ?_
    unfold mPlanSearchRun at hm
    refine c_seq ?_
    refine c_seq ?_
    refine c_region ?_
    refine t_st rfl (st_move rfl) ?_
    refine t_st rfl (st_nil rfl) ?_
    refine t_st rfl (st_field rfl fld63_2) ?_
    refine t_st rfl (st_load 0 rfl one60 rfl rfl) ?_
    refine t_st rfl (st_move rfl) ?_
    obtain ⟨x1774, hcl1775, hm⟩ := bindS hm
    refine t_pullb 2 rfl ?_
    refine t_pullb 2 rfl ?_
    refine t_callvG #[] #[.pointer (some ⟨g12, 0, none⟩), .pointer (some ⟨g13, 0, none⟩)] [v15] rfl rfl call43 rfl (cPlanSolve_1 _ _ q14 x23 x24 g12 g13 v15 h16 x1774 hcl1775) ?_
    rintro _ b1776 _ hle1777 ⟨rfl, rfl⟩
    refine t_nil ?_
    refine x_then_normal ?_
    refine c_cond _ rfl (fun hc1778 => ?_) (fun hc1778 => ?_)
    ·
     rw [if_pos hc1778] at hm
     refine c_ret ?_
     refine x_then_ret ?_
     obtain ⟨rfl, rfl, rfl⟩ := some3 hm
     refine x_pullb 1 rfl ?_
     refine x_pullb 1 rfl ?_
     refine x_pullb 2 rfl ?_
     refine x_front2 [_, _, _] hs2 hs7 R rfl ?_
     refine x_front2 [_, _, _] hs7 hs2 R rfl ?_
     exact retM (rs := []) [] hle1777 (by decide) rfl trivial rfl (hp' := (g11, Cl 63 [.int .i64 (x17), .int .i64 (x18), .slice A19 (l22).length c20, .func (.func 44) #[] #[.pointer (some ⟨g12, 0, none⟩), .pointer (some ⟨g13, 0, none⟩)], .func (.func 43) #[] #[.pointer (some ⟨g12, 0, none⟩), .pointer (some ⟨g13, 0, none⟩)], .slice A3 (l25).length c4, .slice A8 (l26).length c9]) :: (g12, Cl 3 [.int .i64 (x23)]) :: (g13, Cl 3 [.int .i64 (x24)]) :: (hs2 ++ (hs7 ++ R))) (.cons_cons _ (.cons_cons _ (.cons_cons _ (sub_app hs2 (sub_app hs7 (.refl _)))))) ⟨hs2, hs7, rfl, rfl, (h5.le hle1777), rfl, (h10.le hle1777), rfl⟩
    ·
     rw [if_neg (fun hh => Bool.noConfusion (hh.symm.trans hc1778))] at hm
     refine c_skip ?_
     refine x_then_normal ?_
     refine c_seq ?_
     refine c_region ?_
     refine t_st rfl (st_assign rfl) ?_
     refine t_st rfl (st_assign rfl) ?_
     refine t_nil ?_
     refine x_then_normal ?_
     refine c_seq ?_
     refine c_seq ?_
     refine c_region ?_
     refine t_st rfl (st_move rfl) ?_
     refine t_st rfl (st_nil rfl) ?_
     refine t_st rfl (st_field rfl fld63_0) ?_
     refine t_st rfl (st_field rfl fld24_2) ?_
     refine t_st rfl (st_load 2 rfl one22 rfl rfl) ?_
     refine t_st rfl (st_len rfl sl22) ?_
     refine t_st rfl (st_move rfl) ?_
     refine t_nil ?_
     refine x_then_normal ?_
     refine c_block ?_
     have hb1780 : l22.length ≤ 9223372036854775807 := (FZ.bd (h21.le hle1777))
     refine c_pullb 1 rfl ?_
     refine c_pullb 1 rfl ?_
     refine c_pullb 2 rfl ?_
     refine c_front2 [_, _, _] hs2 hs7 R rfl ?_
     refine c_front2 [_, _, _] hs7 hs2 R rfl ?_
     obtain ⟨t1952, hl1953, hk1954⟩ := bindS hm
     refine c_forM (fun k1951 => unc2 fun x1946 l1950 => fun b1944 e' hp' => ∃ (A1947 : Option Addr), ∃ (c1948 : Nat), [(0, .pointer (some ⟨g11, 0, none⟩)), (1, v15), (4, .int .i64 (x1946)), (5, .slice A1947 (l1950).length c1948), (24, .slice A19 (l22).length c20), (25, .int .i64 ((l22.length : Int))), (26, .int .i64 ((k1951 : Int)))] = e' ∧ (g11, Cl 63 [.int .i64 (x17), .int .i64 (x18), .slice A19 (l22).length c20, .func (.func 44) #[] #[.pointer (some ⟨g12, 0, none⟩), .pointer (some ⟨g13, 0, none⟩)], .func (.func 43) #[] #[.pointer (some ⟨g12, 0, none⟩), .pointer (some ⟨g13, 0, none⟩)], .slice A3 (l25).length c4, .slice A8 (l26).length c9]) :: (g12, Cl 3 [.int .i64 (x23)]) :: (g13, Cl 3 [.int .i64 (x24)]) :: (hs2 ++ (hs7 ++ R)) = hp' ∧ b1776.Le b1944 ∧ FZ (RT.int .i64) b1944.w A1947 c1948 l1950) hl1953 (e' := [(0, .pointer (some ⟨g11, 0, none⟩)), (1, v15), (4, .int .i64 ((-1))), (5, .slice none 0 0), (24, .slice A19 (l22).length c20), (25, .int .i64 ((l22.length : Int))), (26, .int .i64 0)]) (hp' := (g11, Cl 63 [.int .i64 (x17), .int .i64 (x18), .slice A19 (l22).length c20, .func (.func 44) #[] #[.pointer (some ⟨g12, 0, none⟩), .pointer (some ⟨g13, 0, none⟩)], .func (.func 43) #[] #[.pointer (some ⟨g12, 0, none⟩), .pointer (some ⟨g13, 0, none⟩)], .slice A3 (l25).length c4, .slice A8 (l26).length c9]) :: (g12, Cl 3 [.int .i64 (x23)]) :: (g13, Cl 3 [.int .i64 (x24)]) :: (hs2 ++ (hs7 ++ R))) ⟨rfl, rfl, rfl, rfl, rfl, rfl, rfl, trivial⟩ (.cons_cons _ (.cons_cons _ (.cons_cons _ (sub_app hs2 (sub_app hs7 (.refl _)))))) ⟨none, 0, rfl, rfl, (Base.Le.refl _), FZ.nil⟩ ?_ ?_
     ·
      rintro k1951 ⟨x1946, l1950⟩ b1944 _ _ oL1779 hknL1779 ⟨A1947, c1948, rfl, rfl, hle1945, h1949⟩ hstepL1779 houtL1779
      unfold mPlanSearchRun_L1779 at hstepL1779
      have hm := (unc2E hstepL1779)
      refine c_seq ?_
      refine c_region ?_
      refine t_st rfl (st_lss_t rfl rfl (by omega)) ?_
      refine t_nil ?_
      refine x_then_normal ?_
      refine c_seq ?_
      refine c_cond_t rfl ?_
      refine c_skip ?_
      refine x_then_normal ?_
      refine c_seq ?_
      refine c_block ?_
      refine c_seq ?_
      refine c_region ?_
      refine t_st rfl (st_move rfl) ?_
      obtain ⟨x1955, h1956, hm⟩ := bindS hm
      obtain ⟨j1957, hj1958, hx1959⟩ := idx_some h1956
      obtain ⟨cs1960, hr1961, hcs1962, hA1963, hlt1964⟩ := FZ.get (sz := 5) rfl (by decide) (h21.le (hle1777.trans hle1945)) hx1959
      obtain ⟨_, _, rfl, rfl, ⟨_, _, rfl, rfl, ⟨_, _, rfl, rfl, ⟨_, _, rfl, rfl, rfl⟩⟩⟩⟩ := hr1961
      refine t_st rfl (st_index_old j1957 rfl rfl hj1958 hlt1964 hA1963 sl22) ?_
      refine t_st rfl (st_loadN_old (vs := [.int .i64 (x1955.From), .int .i64 (x1955.To), .int .i64 (x1955.Min), .int .i64 (x1955.Max), .int .i64 (x1955.Weight)]) 5 rfl agg29 hA1963 rfl (fun j u hu => hcs1962 j u hu)) ?_
      refine t_do rfl (u_alloc [.int .i64 0, .int .i64 0, .int .i64 0, .int .i64 0, .int .i64 0] zero29 rfl) ?_
      rintro _ _ ⟨g1965, rfl, rfl⟩
      refine t_st rfl (st_assign rfl) ?_
      refine t_do rfl (u_storeN (vs := [_, _, _, _, _]) 0 5 rfl rfl rfl siz29 rfl (by intro u hu; simp only [List.mem_cons, List.not_mem_nil, or_false] at hu; rcases hu with rfl | rfl | rfl | rfl | rfl <;> rfl) rfl (by simp)) ?_
      rintro _ _ rfl
      refine t_nil ?_
      refine x_then_normal ?_
      refine c_seq ?_
      refine c_seq ?_
      refine c_region ?_
      refine t_st rfl (st_move rfl) ?_
      refine t_st rfl (st_nil rfl) ?_
      refine t_st rfl (st_field rfl fld63_4) ?_
      refine t_st rfl (st_load 1 rfl one61 rfl rfl) ?_
      refine t_st rfl (st_move rfl) ?_
      obtain ⟨x1966, h1967, hm⟩ := bindS hm
      obtain ⟨j1968, hj1969, hx1970⟩ := idx_some h1967
      obtain ⟨cs1971, hs1976, P1977, P1978, hq1979, hr1972, hcs1973, hA1974, hlt1975, hb1980, hho1981⟩ := OS.get (sz := 1) rfl (by decide) (h10.le (hle1777.trans hle1945)) hx1970
      obtain ⟨rfl, rfl⟩ := hr1972
      refine t_st rfl (st_index_old j1968 rfl rfl hj1969 hlt1975 hA1974 sl61) ?_
      refine t_st rfl (st_load_rd rfl one4 (fun w ho => hcs1973 w _ ho (.cons _ (.cons _ (.cons _ (.cons _ (sub_skip hs2 (List.sublist_append_left _ _)))))) 0 _ rfl)) ?_
      refine t_st rfl (st_not rfl) ?_
      refine t_nil ?_
      refine x_then_normal ?_
      refine c_cond _ rfl (fun hc1982 => ?_) (fun hc1982 => ?_)
      ·
       rw [if_neg (fun hh => Bool.noConfusion (hh.symm.trans (notT hc1982)))] at hm
       refine c_exit ?_
       refine x_then_exit ?_
       refine x_block_out ?_
       refine x_then_normal ?_
       refine c_region ?_
       refine t_st rfl (st_add rfl rfl (by omega)) ?_
       refine t_st rfl (st_move rfl) ?_
       refine t_nil ?_
       refine x_pullb 3 rfl ?_
       refine x_pullb 3 rfl ?_
       refine x_pullb 3 rfl ?_
       refine x_front2 [_, _, _, _] hs2 hs7 R rfl ?_
       refine x_front2 [_, _, _, _] hs7 hs2 R rfl ?_
       exact x_againM (x1946, l1950) (Option.some.inj hm).symm (e' := [(0, .pointer (some ⟨g11, 0, none⟩)), (1, v15), (4, .int .i64 (x1946)), (5, .slice A1947 (l1950).length c1948), (24, .slice A19 (l22).length c20), (25, .int .i64 ((l22.length : Int))), (26, .int .i64 ((k1951 : Int) + 1))]) (hp' := (g11, Cl 63 [.int .i64 (x17), .int .i64 (x18), .slice A19 (l22).length c20, .func (.func 44) #[] #[.pointer (some ⟨g12, 0, none⟩), .pointer (some ⟨g13, 0, none⟩)], .func (.func 43) #[] #[.pointer (some ⟨g12, 0, none⟩), .pointer (some ⟨g13, 0, none⟩)], .slice A3 (l25).length c4, .slice A8 (l26).length c9]) :: (g12, Cl 3 [.int .i64 (x23)]) :: (g13, Cl 3 [.int .i64 (x24)]) :: (hs2 ++ (hs7 ++ R))) ⟨rfl, rfl, rfl, rfl, rfl, rfl, rfl, trivial⟩ (.cons_cons _ (.cons_cons _ (.cons_cons _ (.cons _ (sub_app hs2 (sub_app hs7 (.refl _))))))) ⟨A1947, c1948, rfl, rfl, (hle1945), h1949⟩
      ·
       rw [if_pos (notF hc1982)] at hm
       refine c_skip ?_
       refine x_then_normal ?_
       refine c_seq ?_
       refine c_region ?_
       refine t_st rfl (st_move rfl) ?_
       refine t_st rfl (st_move rfl) ?_
       refine t_st rfl (st_loadD (vs := [_, _, _, _, _]) 0 5 rfl agg29 rfl rfl rfl) ?_
       obtain ⟨l1983, hcl1984, hm⟩ := bindS hm
       refine t_pullb 3 rfl ?_
       refine t_pullb 3 rfl ?_
       refine t_pullb 3 rfl ?_
       refine t_front2 [_, _, _, _] hs2 hs7 R rfl ?_
       refine t_front2 [_, _, _, _] hs7 hs2 R rfl ?_
       refine t_out2 [_, _, _] [_] hs2 hs7 R rfl ?_
       refine t_callG _ rfl call52 rfl (cPlanSearchChoices _ _ q14 x1955 x17 x18 l22 x23 x24 l25 l26 g11 g12 g13 v15 A19 c20 A3 c4 hs2 A8 c9 hs7 (RT.le (RT.ptr (RT.arr 8 (RT.arr 8 (RT.int .i64)))) h16 (hle1777.trans hle1945)) (h21.le (hle1777.trans hle1945)) (h5.le (hle1777.trans hle1945)) (h10.le (hle1777.trans hle1945)) l1983 hcl1984) ?_
       rintro _ b1985 _ hle1986 ⟨A1987, c1988, hs1989, rfl, rfl, h1990⟩
       refine t_in3 [_, _, _] [_] hs1989 hs2 hs7 R rfl ?_
       refine t_st rfl (st_assign rfl) ?_
       refine t_nil ?_
       refine x_then_normal ?_
       obtain ⟨⟨x2008, l2012, l2016⟩, hj2017, hk2017⟩ := bindS hm
       refine c_join (fun b2006 e' hp' => ∃ (A2009 : Option Addr), ∃ (c2010 : Nat), ∃ (A2013 : Option Addr), ∃ (c2014 : Nat), [(0, .pointer (some ⟨g11, 0, none⟩)), (1, v15), (4, .int .i64 (x2008)), (5, .slice A2009 (l2012).length c2010), (8, .slice A2013 (l2016).length c2014), (24, .slice A19 (l22).length c20), (25, .int .i64 ((l22.length : Int))), (26, .int .i64 ((k1951 : Int)))] = e' ∧ (g11, Cl 63 [.int .i64 (x17), .int .i64 (x18), .slice A19 (l22).length c20, .func (.func 44) #[] #[.pointer (some ⟨g12, 0, none⟩), .pointer (some ⟨g13, 0, none⟩)], .func (.func 43) #[] #[.pointer (some ⟨g12, 0, none⟩), .pointer (some ⟨g13, 0, none⟩)], .slice A3 (l25).length c4, .slice A8 (l26).length c9]) :: (g12, Cl 3 [.int .i64 (x23)]) :: (g13, Cl 3 [.int .i64 (x24)]) :: (hs2 ++ (hs7 ++ R)) = hp' ∧ b1985.Le b2006 ∧ FZ (RT.int .i64) b2006.w A2009 c2010 l2012 ∧ FZ (RT.int .i64) b2006.w A2013 c2014 l2016) ?_ ?_
       ·
        have hm := hj2017
        obtain ⟨x2021, hj2022, hk2022⟩ := bindS hm
        refine c_join (fun b2019 e' hp' => [(0, .pointer (some ⟨g11, 0, none⟩)), (1, v15), (4, .int .i64 (x1946)), (5, .slice A1947 (l1950).length c1948), (6, .int .i64 ((k1951 : Int))), (8, .slice A1987 (l1983).length c1988), (24, .slice A19 (l22).length c20), (25, .int .i64 ((l22.length : Int))), (26, .int .i64 ((k1951 : Int))), (51, .bool (x2021))] = e' ∧ (g11, Cl 63 [.int .i64 (x17), .int .i64 (x18), .slice A19 (l22).length c20, .func (.func 44) #[] #[.pointer (some ⟨g12, 0, none⟩), .pointer (some ⟨g13, 0, none⟩)], .func (.func 43) #[] #[.pointer (some ⟨g12, 0, none⟩), .pointer (some ⟨g13, 0, none⟩)], .slice A3 (l25).length c4, .slice A8 (l26).length c9]) :: (g12, Cl 3 [.int .i64 (x23)]) :: (g13, Cl 3 [.int .i64 (x24)]) :: (hs1989 ++ (hs2 ++ (hs7 ++ R))) = hp' ∧ b1985.Le b2019) ?_ ?_
        ·
         have hm := hj2022
         refine c_region ?_
         refine t_st rfl (st_move rfl) ?_
         refine t_bool rfl (st_lss rfl rfl) (fun hc2023 => ?_) (fun hc2023 => ?_)
         ·
          rw [if_pos hc2023] at hm
          refine t_st rfl (st_move rfl) ?_
          refine t_no 45 rfl rfl rfl rfl rfl ?_
          refine t_no 45 rfl rfl rfl rfl rfl ?_
          refine t_no 45 rfl rfl rfl rfl rfl ?_
          refine t_no 45 rfl rfl rfl rfl rfl ?_
          refine t_no 45 rfl rfl rfl rfl rfl ?_
          refine t_st rfl (st_pick_t rfl rfl) ?_
          refine t_nil ?_
          obtain rfl := some1 hm
          refine x_pullb 2 rfl ?_
          refine x_pullb 2 rfl ?_
          refine x_pullb 2 rfl ?_
          refine x_front3 [_, _, _, _] hs1989 hs2 hs7 R rfl ?_
          refine x_front3 [_, _, _, _] hs7 hs1989 hs2 R rfl ?_
          refine x_front3 [_, _, _, _] hs2 hs7 hs1989 R rfl ?_
          exact x_join (e' := [(0, .pointer (some ⟨g11, 0, none⟩)), (1, v15), (4, .int .i64 (x1946)), (5, .slice A1947 (l1950).length c1948), (6, .int .i64 ((k1951 : Int))), (8, .slice A1987 (l1983).length c1988), (24, .slice A19 (l22).length c20), (25, .int .i64 ((l22.length : Int))), (26, .int .i64 ((k1951 : Int))), (51, .bool (true))]) (hp' := (g11, Cl 63 [.int .i64 (x17), .int .i64 (x18), .slice A19 (l22).length c20, .func (.func 44) #[] #[.pointer (some ⟨g12, 0, none⟩), .pointer (some ⟨g13, 0, none⟩)], .func (.func 43) #[] #[.pointer (some ⟨g12, 0, none⟩), .pointer (some ⟨g13, 0, none⟩)], .slice A3 (l25).length c4, .slice A8 (l26).length c9]) :: (g12, Cl 3 [.int .i64 (x23)]) :: (g13, Cl 3 [.int .i64 (x24)]) :: (hs1989 ++ (hs2 ++ (hs7 ++ R)))) ⟨rfl, rfl, rfl, rfl, rfl, rfl, rfl, rfl, rfl, rfl, trivial⟩ (.cons_cons _ (.cons_cons _ (.cons_cons _ (.cons _ (sub_app hs1989 (sub_app hs2 (sub_app hs7 (.refl _)))))))) ⟨rfl, rfl, (Base.Le.refl _)⟩
         ·
          rw [if_neg hc2023] at hm
          refine t_st rfl (st_move rfl) ?_
          refine t_yes 45 rfl rfl rfl ?_
          refine t_st rfl (st_move rfl) ?_
          refine t_yes 45 rfl rfl rfl ?_
          refine t_st rfl (st_len rfl sl30) ?_
          refine t_yes 45 rfl rfl rfl ?_
          refine t_st rfl (st_move rfl) ?_
          refine t_yes 45 rfl rfl rfl ?_
          refine t_st rfl (st_len rfl sl30) ?_
          refine t_yes 45 rfl rfl rfl ?_
          refine t_st rfl (st_lss rfl rfl) ?_
          refine t_st rfl (st_pick_f rfl rfl) ?_
          refine t_nil ?_
          obtain rfl := some1 hm
          refine x_pullb 2 rfl ?_
          refine x_pullb 2 rfl ?_
          refine x_pullb 2 rfl ?_
          refine x_front3 [_, _, _, _] hs1989 hs2 hs7 R rfl ?_
          refine x_front3 [_, _, _, _] hs7 hs1989 hs2 R rfl ?_
          refine x_front3 [_, _, _, _] hs2 hs7 hs1989 R rfl ?_
          exact x_join (e' := [(0, .pointer (some ⟨g11, 0, none⟩)), (1, v15), (4, .int .i64 (x1946)), (5, .slice A1947 (l1950).length c1948), (6, .int .i64 ((k1951 : Int))), (8, .slice A1987 (l1983).length c1988), (24, .slice A19 (l22).length c20), (25, .int .i64 ((l22.length : Int))), (26, .int .i64 ((k1951 : Int))), (51, .bool (decide ((l1983.length : Int) < (l1950.length : Int))))]) (hp' := (g11, Cl 63 [.int .i64 (x17), .int .i64 (x18), .slice A19 (l22).length c20, .func (.func 44) #[] #[.pointer (some ⟨g12, 0, none⟩), .pointer (some ⟨g13, 0, none⟩)], .func (.func 43) #[] #[.pointer (some ⟨g12, 0, none⟩), .pointer (some ⟨g13, 0, none⟩)], .slice A3 (l25).length c4, .slice A8 (l26).length c9]) :: (g12, Cl 3 [.int .i64 (x23)]) :: (g13, Cl 3 [.int .i64 (x24)]) :: (hs1989 ++ (hs2 ++ (hs7 ++ R)))) ⟨rfl, rfl, rfl, rfl, rfl, rfl, rfl, rfl, rfl, rfl, trivial⟩ (.cons_cons _ (.cons_cons _ (.cons_cons _ (.cons _ (sub_app hs1989 (sub_app hs2 (sub_app hs7 (.refl _)))))))) ⟨rfl, rfl, (Base.Le.refl _)⟩
        ·
         rintro b2019 _ _ ⟨rfl, rfl, hle2020⟩
         have hm := hk2022
         refine c_cond _ rfl (fun hc2024 => ?_) (fun hc2024 => ?_)
         ·
          rw [if_pos hc2024] at hm
          refine c_region ?_
          refine t_st rfl (st_move rfl) ?_
          refine t_st rfl (st_move rfl) ?_
          refine t_st rfl (st_assign rfl) ?_
          refine t_st rfl (st_assign rfl) ?_
          refine t_nil ?_
          refine x_frz [_, _, _] hs1989 (hs2 ++ (hs7 ++ R)) rfl ?_
          intro b2025 hle2026 hz2027
          have h2028 := OS.frz (l := l1983) (h1990.le hle2020) hle2026.cells hz2027
          obtain ⟨rfl, rfl, rfl⟩ := some3 hm
          refine x_pullb 2 rfl ?_
          refine x_pullb 2 rfl ?_
          refine x_pullb 2 rfl ?_
          refine x_front2 [_, _, _] hs2 hs7 R rfl ?_
          refine x_front2 [_, _, _] hs7 hs2 R rfl ?_
          exact x_join (e' := [(0, .pointer (some ⟨g11, 0, none⟩)), (1, v15), (4, .int .i64 ((k1951 : Int))), (5, .slice A1987 (l1983).length c1988), (8, .slice A1987 (l1983).length c1988), (24, .slice A19 (l22).length c20), (25, .int .i64 ((l22.length : Int))), (26, .int .i64 ((k1951 : Int)))]) (hp' := (g11, Cl 63 [.int .i64 (x17), .int .i64 (x18), .slice A19 (l22).length c20, .func (.func 44) #[] #[.pointer (some ⟨g12, 0, none⟩), .pointer (some ⟨g13, 0, none⟩)], .func (.func 43) #[] #[.pointer (some ⟨g12, 0, none⟩), .pointer (some ⟨g13, 0, none⟩)], .slice A3 (l25).length c4, .slice A8 (l26).length c9]) :: (g12, Cl 3 [.int .i64 (x23)]) :: (g13, Cl 3 [.int .i64 (x24)]) :: (hs2 ++ (hs7 ++ R))) ⟨rfl, rfl, rfl, rfl, rfl, rfl, rfl, rfl, trivial⟩ (.cons_cons _ (.cons_cons _ (.cons_cons _ (sub_app hs2 (sub_app hs7 (.refl _)))))) ⟨A1987, c1988, A1987, c1988, rfl, rfl, (hle2020.trans hle2026), h2028, h2028⟩
         ·
          rw [if_neg (fun hh => Bool.noConfusion (hh.symm.trans hc2024))] at hm
          refine c_skip ?_
          refine x_frz [_, _, _] hs1989 (hs2 ++ (hs7 ++ R)) rfl ?_
          intro b2029 hle2030 hz2031
          have h2032 := OS.frz (l := l1983) (h1990.le hle2020) hle2030.cells hz2031
          obtain ⟨rfl, rfl, rfl⟩ := some3 hm
          refine x_pullb 2 rfl ?_
          refine x_pullb 2 rfl ?_
          refine x_pullb 2 rfl ?_
          refine x_front2 [_, _, _] hs2 hs7 R rfl ?_
          refine x_front2 [_, _, _] hs7 hs2 R rfl ?_
          exact x_join (e' := [(0, .pointer (some ⟨g11, 0, none⟩)), (1, v15), (4, .int .i64 (x1946)), (5, .slice A1947 (l1950).length c1948), (8, .slice A1987 (l1983).length c1988), (24, .slice A19 (l22).length c20), (25, .int .i64 ((l22.length : Int))), (26, .int .i64 ((k1951 : Int)))]) (hp' := (g11, Cl 63 [.int .i64 (x17), .int .i64 (x18), .slice A19 (l22).length c20, .func (.func 44) #[] #[.pointer (some ⟨g12, 0, none⟩), .pointer (some ⟨g13, 0, none⟩)], .func (.func 43) #[] #[.pointer (some ⟨g12, 0, none⟩), .pointer (some ⟨g13, 0, none⟩)], .slice A3 (l25).length c4, .slice A8 (l26).length c9]) :: (g12, Cl 3 [.int .i64 (x23)]) :: (g13, Cl 3 [.int .i64 (x24)]) :: (hs2 ++ (hs7 ++ R))) ⟨rfl, rfl, rfl, rfl, rfl, rfl, rfl, rfl, trivial⟩ (.cons_cons _ (.cons_cons _ (.cons_cons _ (sub_app hs2 (sub_app hs7 (.refl _)))))) ⟨A1947, c1948, A1987, c1988, rfl, rfl, (hle2020.trans hle2030), (h1949.le (hle1986.trans (hle2020.trans hle2030))), h2032⟩
       ·
        rintro b2006 _ _ ⟨A2009, c2010, A2013, c2014, rfl, rfl, hle2007, h2011, h2015⟩
        have hm := (unc3E hk2017)
        refine c_seq ?_
        refine c_region ?_
        refine t_st rfl (st_move rfl) ?_
        refine t_st rfl (st_len rfl sl30) ?_
        refine t_st rfl (st_eql rfl rfl) ?_
        refine t_nil ?_
        refine x_then_normal ?_
        refine c_cond _ rfl (fun hc2033 => ?_) (fun hc2033 => ?_)
        ·
         rw [if_pos (of_decide_eq_true hc2033)] at hm
         refine c_ret ?_
         refine x_block_ret ?_
         refine x_then_ret ?_
         refine x_then_ret ?_
         refine x_block_ret ?_
         refine x_then_ret ?_
         have hq2034 := houtL1779 _ (Option.some.inj hm).symm
         rw [hq2034] at hk1954
         have hm := elimR hk1954
         obtain ⟨rfl, rfl, rfl⟩ := some3 hm
         refine x_pullb 2 rfl ?_
         refine x_pullb 2 rfl ?_
         refine x_pullb 2 rfl ?_
         refine x_front2 [_, _, _] hs2 hs7 R rfl ?_
         refine x_front2 [_, _, _] hs7 hs2 R rfl ?_
         exact retM (rs := []) [] (hle1777.trans (hle1945.trans (hle1986.trans hle2007))) (by decide) rfl trivial rfl (hp' := (g11, Cl 63 [.int .i64 (x17), .int .i64 (x18), .slice A19 (l22).length c20, .func (.func 44) #[] #[.pointer (some ⟨g12, 0, none⟩), .pointer (some ⟨g13, 0, none⟩)], .func (.func 43) #[] #[.pointer (some ⟨g12, 0, none⟩), .pointer (some ⟨g13, 0, none⟩)], .slice A3 (l25).length c4, .slice A8 (l26).length c9]) :: (g12, Cl 3 [.int .i64 (x23)]) :: (g13, Cl 3 [.int .i64 (x24)]) :: (hs2 ++ (hs7 ++ R))) (.cons_cons _ (.cons_cons _ (.cons_cons _ (sub_app hs2 (sub_app hs7 (.refl _)))))) ⟨hs2, hs7, rfl, rfl, (h5.le (hle1777.trans (hle1945.trans (hle1986.trans hle2007)))), rfl, (h10.le (hle1777.trans (hle1945.trans (hle1986.trans hle2007)))), rfl⟩
        ·
         rw [if_neg (of_decide_eq_false hc2033)] at hm
         refine c_skip ?_
         refine x_block_normal ?_
         refine x_then_normal ?_
         refine c_region ?_
         refine t_st rfl (st_add rfl rfl (by omega)) ?_
         refine t_st rfl (st_move rfl) ?_
         refine t_nil ?_
         refine x_pullb 2 rfl ?_
         refine x_pullb 2 rfl ?_
         refine x_pullb 2 rfl ?_
         refine x_front2 [_, _, _] hs2 hs7 R rfl ?_
         refine x_front2 [_, _, _] hs7 hs2 R rfl ?_
         exact x_againM (x2008, l2012) (Option.some.inj hm).symm (e' := [(0, .pointer (some ⟨g11, 0, none⟩)), (1, v15), (4, .int .i64 (x2008)), (5, .slice A2009 (l2012).length c2010), (24, .slice A19 (l22).length c20), (25, .int .i64 ((l22.length : Int))), (26, .int .i64 ((k1951 : Int) + 1))]) (hp' := (g11, Cl 63 [.int .i64 (x17), .int .i64 (x18), .slice A19 (l22).length c20, .func (.func 44) #[] #[.pointer (some ⟨g12, 0, none⟩), .pointer (some ⟨g13, 0, none⟩)], .func (.func 43) #[] #[.pointer (some ⟨g12, 0, none⟩), .pointer (some ⟨g13, 0, none⟩)], .slice A3 (l25).length c4, .slice A8 (l26).length c9]) :: (g12, Cl 3 [.int .i64 (x23)]) :: (g13, Cl 3 [.int .i64 (x24)]) :: (hs2 ++ (hs7 ++ R))) ⟨rfl, rfl, rfl, rfl, rfl, rfl, rfl, trivial⟩ (.cons_cons _ (.cons_cons _ (.cons_cons _ (sub_app hs2 (sub_app hs7 (.refl _)))))) ⟨A2009, c2010, rfl, rfl, ((hle1945.trans (hle1986.trans hle2007))), h2011⟩
     ·
      rintro ⟨x1946, l1950⟩ b1944 _ _ ⟨A1947, c1948, rfl, rfl, hle1945, h1949⟩ hq2035
      rw [hq2035] at hk1954
      have hm := elimL hk1954
      have hm := (unc2E hm)
      refine c_seq ?_
      refine c_region ?_
      refine t_st rfl (st_lss_f rfl rfl (by omega)) ?_
      refine t_nil ?_
      refine x_then_normal ?_
      refine c_seq ?_
      refine c_cond_f rfl ?_
      refine c_exit ?_
      refine x_then_exit ?_
      refine x_then_exit ?_
      refine x_block_out ?_
      refine x_then_normal ?_
      refine c_seq ?_
      refine c_seq ?_
      refine c_region ?_
      refine t_st rfl (st_move rfl) ?_
      refine t_st rfl (st_lss rfl rfl) ?_
      refine t_nil ?_
      refine x_then_normal ?_
      refine c_cond _ rfl (fun hc2036 => ?_) (fun hc2036 => ?_)
      ·
       rw [if_pos (of_decide_eq_true hc2036)] at hm
       refine c_seq ?_
       obtain ⟨x2041, hcl2042, hm⟩ := bindS hm
       refine D_drawS ((hs7 ++ R)) mixed ?_
       refine E_in (.cons _ (.cons _ (.cons _ (sub_skip hs2 (sub_app hs7 (.refl _)))))) ?_
       refine E_st 0 rfl (st_move rfl) ?_
       refine E_st 1 rfl (st_nil rfl) ?_
       refine E_st 2 rfl (st_field rfl fld63_1) ?_
       refine E_st 4 rfl (st_move rfl) ?_
       refine E_st 5 rfl (st_move rfl) ?_
       refine E_st 6 rfl (st_nil rfl) ?_
       refine E_st 7 rfl (st_field rfl fld63_3) ?_
       refine E_out ?_
       refine D_all [3, 8] (by kernel_rfl) rfl ?_
       refine R_do (Base.Le.refl _) rfl rfl (Stable.does (st_load 0 rfl one59 rfl rfl)) ?_ ?_
       ·
        rintro _ _ ⟨rfl, rfl⟩
        refine ⟨.inr (.cons _ (.cons _ (.cons _ (sub_skip hs2 (sub_app hs7 (.refl _)))))), ?_⟩
        refine D_all [8] (by kernel_rfl) rfl ?_
        refine R_do (Base.Le.refl _) rfl rfl (Stable.does (st_load 0 rfl one30 rfl rfl)) ?_ ?_
        ·
         rintro _ _ ⟨rfl, rfl⟩
         refine ⟨.inr (.cons _ (.cons _ (.cons _ (sub_skip hs2 (sub_app hs7 (.refl _)))))), ?_⟩
         refine d_pullb 2 rfl ?_
         refine d_pullb 2 rfl ?_
         refine d_out1 [_, _] [_] hs2 (hs7 ++ R) rfl ?_
         refine D_all [9] (by kernel_rfl) rfl ?_
         refine R_callvG (Base.Le.refl _) rfl rfl #[] #[.pointer (some ⟨g12, 0, none⟩), .pointer (some ⟨g13, 0, none⟩)] [v15, .slice A3 (l25).length c4] rfl call44 rfl (cPlanSolve_2_2 _ _ q14 x23 x24 l25 g12 g13 v15 A3 c4 hs2 (RT.le (RT.ptr (RT.arr 8 (RT.arr 8 (RT.int .i64)))) h16 (hle1777.trans hle1945)) (h5.le (hle1777.trans hle1945)) x2041 hcl2042) ?_ ?_
         ·
          rintro _ b2043 _ hle2044 ⟨rfl, rfl⟩
          refine ⟨.inr (.cons _ (.cons _ (sub_skip hs2 (.cons _ (sub_app hs7 (.refl _)))))), ?_⟩
          refine d_in1 [_, _] [_] hs2 (hs7 ++ R) rfl ?_
          refine D_done (by kernel_rfl) ?_
          refine x_then_normal ?_
          refine c_ret ?_
          refine x_then_ret ?_
          obtain ⟨rfl, rfl, rfl⟩ := some3 hm
          refine x_pullb 1 rfl ?_
          refine x_pullb 1 rfl ?_
          refine x_pullb 2 rfl ?_
          refine x_front2 [_, _, _] hs2 hs7 R rfl ?_
          refine x_front2 [_, _, _] hs7 hs2 R rfl ?_
          exact retM (rs := []) [] (hle1777.trans (hle1945.trans hle2044)) (by decide) rfl trivial rfl (hp' := (g11, Cl 63 [.int .i64 (x17), .int .i64 (x18), .slice A19 (l22).length c20, .func (.func 44) #[] #[.pointer (some ⟨g12, 0, none⟩), .pointer (some ⟨g13, 0, none⟩)], .func (.func 43) #[] #[.pointer (some ⟨g12, 0, none⟩), .pointer (some ⟨g13, 0, none⟩)], .slice A3 (l25).length c4, .slice A8 (l26).length c9]) :: (g12, Cl 3 [.int .i64 (x23)]) :: (g13, Cl 3 [.int .i64 (x2041)]) :: (hs2 ++ (hs7 ++ R))) (.cons_cons _ (.cons_cons _ (.cons_cons _ (sub_app hs2 (sub_app hs7 (.refl _)))))) ⟨hs2, hs7, rfl, rfl, (h5.le (hle1777.trans (hle1945.trans hle2044))), rfl, (h10.le (hle1777.trans (hle1945.trans hle2044))), rfl⟩
         exact R_nil
        exact R_nil
       refine R_do (Base.Le.refl _) rfl rfl (Stable.does (st_load 0 rfl one30 rfl rfl)) ?_ ?_
       ·
        rintro _ _ ⟨rfl, rfl⟩
        refine ⟨.inr (.cons _ (.cons _ (.cons _ (sub_skip hs2 (sub_app hs7 (.refl _)))))), ?_⟩
        refine D_all [3] (by kernel_rfl) rfl ?_
        refine R_do (Base.Le.refl _) rfl rfl (Stable.does (st_load 0 rfl one59 rfl rfl)) ?_ ?_
        ·
         rintro _ _ ⟨rfl, rfl⟩
         refine ⟨.inr (.cons _ (.cons _ (.cons _ (sub_skip hs2 (sub_app hs7 (.refl _)))))), ?_⟩
         refine d_pullb 2 rfl ?_
         refine d_pullb 2 rfl ?_
         refine d_out1 [_, _] [_] hs2 (hs7 ++ R) rfl ?_
         refine D_all [9] (by kernel_rfl) rfl ?_
         refine R_callvG (Base.Le.refl _) rfl rfl #[] #[.pointer (some ⟨g12, 0, none⟩), .pointer (some ⟨g13, 0, none⟩)] [v15, .slice A3 (l25).length c4] rfl call44 rfl (cPlanSolve_2_2 _ _ q14 x23 x24 l25 g12 g13 v15 A3 c4 hs2 (RT.le (RT.ptr (RT.arr 8 (RT.arr 8 (RT.int .i64)))) h16 (hle1777.trans hle1945)) (h5.le (hle1777.trans hle1945)) x2041 hcl2042) ?_ ?_
         ·
          rintro _ b2043 _ hle2044 ⟨rfl, rfl⟩
          refine ⟨.inr (.cons _ (.cons _ (sub_skip hs2 (.cons _ (sub_app hs7 (.refl _)))))), ?_⟩
          refine d_in1 [_, _] [_] hs2 (hs7 ++ R) rfl ?_
          refine D_done (by kernel_rfl) ?_
          refine x_then_normal ?_
          refine c_ret ?_
          refine x_then_ret ?_
          obtain ⟨rfl, rfl, rfl⟩ := some3 hm
          refine x_pullb 1 rfl ?_
          refine x_pullb 1 rfl ?_
          refine x_pullb 2 rfl ?_
          refine x_front2 [_, _, _] hs2 hs7 R rfl ?_
          refine x_front2 [_, _, _] hs7 hs2 R rfl ?_
          exact retM (rs := []) [] (hle1777.trans (hle1945.trans hle2044)) (by decide) rfl trivial rfl (hp' := (g11, Cl 63 [.int .i64 (x17), .int .i64 (x18), .slice A19 (l22).length c20, .func (.func 44) #[] #[.pointer (some ⟨g12, 0, none⟩), .pointer (some ⟨g13, 0, none⟩)], .func (.func 43) #[] #[.pointer (some ⟨g12, 0, none⟩), .pointer (some ⟨g13, 0, none⟩)], .slice A3 (l25).length c4, .slice A8 (l26).length c9]) :: (g12, Cl 3 [.int .i64 (x23)]) :: (g13, Cl 3 [.int .i64 (x2041)]) :: (hs2 ++ (hs7 ++ R))) (.cons_cons _ (.cons_cons _ (.cons_cons _ (sub_app hs2 (sub_app hs7 (.refl _)))))) ⟨hs2, hs7, rfl, rfl, (h5.le (hle1777.trans (hle1945.trans hle2044))), rfl, (h10.le (hle1777.trans (hle1945.trans hle2044))), rfl⟩
         exact R_nil
        exact R_nil
       exact R_nil
      ·
       rw [if_neg (of_decide_eq_false hc2036)] at hm
       refine c_skip ?_
       refine x_then_normal ?_
       refine c_seq ?_
       refine c_region ?_
       refine t_st rfl (st_move rfl) ?_
       refine t_st rfl (st_nil rfl) ?_
       refine t_st rfl (st_field rfl fld63_0) ?_
       refine t_st rfl (st_field rfl fld24_2) ?_
       refine t_st rfl (st_load 0 rfl one22 rfl rfl) ?_
       refine t_st rfl (st_move rfl) ?_
       obtain ⟨x2045, h2046, hm⟩ := bindS hm
       obtain ⟨j2047, hj2048, hx2049⟩ := idx_some h2046
       obtain ⟨cs2050, hr2051, hcs2052, hA2053, hlt2054⟩ := FZ.get (sz := 5) rfl (by decide) (h21.le (hle1777.trans hle1945)) hx2049
       obtain ⟨_, _, rfl, rfl, ⟨_, _, rfl, rfl, ⟨_, _, rfl, rfl, ⟨_, _, rfl, rfl, rfl⟩⟩⟩⟩ := hr2051
       refine t_st rfl (st_index_old j2047 rfl rfl hj2048 hlt2054 hA2053 sl22) ?_
       refine t_st rfl (st_loadN_old (vs := [.int .i64 (x2045.From), .int .i64 (x2045.To), .int .i64 (x2045.Min), .int .i64 (x2045.Max), .int .i64 (x2045.Weight)]) 5 rfl agg29 hA2053 rfl (fun j u hu => hcs2052 j u hu)) ?_
       refine t_do rfl (u_alloc [.int .i64 0, .int .i64 0, .int .i64 0, .int .i64 0, .int .i64 0] zero29 rfl) ?_
       rintro _ _ ⟨g2055, rfl, rfl⟩
       refine t_do rfl (u_storeN (vs := [_, _, _, _, _]) 0 5 rfl rfl rfl siz29 rfl (by intro u hu; simp only [List.mem_cons, List.not_mem_nil, or_false] at hu; rcases hu with rfl | rfl | rfl | rfl | rfl <;> rfl) rfl (by simp)) ?_
       rintro _ _ rfl
       refine t_nil ?_
       refine x_then_normal ?_
       refine c_seq ?_
       refine c_region ?_
       refine t_st rfl (st_move rfl) ?_
       refine t_st rfl (st_nil rfl) ?_
       refine t_st rfl (st_field rfl fld63_4) ?_
       refine t_st rfl (st_load 1 rfl one61 rfl rfl) ?_
       refine t_st rfl (st_move rfl) ?_
       obtain ⟨x2056, h2057, hm⟩ := bindS hm
       obtain ⟨j2058, hj2059, hx2060⟩ := idx_some h2057
       obtain ⟨cs2061, hs2066, P2067, P2068, hq2069, hr2062, hcs2063, hA2064, hlt2065, hb2070, hho2071⟩ := OS.get (sz := 1) rfl (by decide) (h10.le (hle1777.trans hle1945)) hx2060
       obtain ⟨rfl, rfl⟩ := hr2062
       refine t_st rfl (st_index_old j2058 rfl rfl hj2059 hlt2065 hA2064 sl61) ?_
       refine t_front2 [_, _, _, _] hs2 hs7 R rfl ?_
       refine t_do rfl (u_putOS hj2059 (sz := 1) (a' := false) rfl [_, _, _, _] (hs2 ++ R) 0 1 [.bool (false)] rfl (h10.le (hle1777.trans hle1945)) hx2060 rfl rfl rfl siz4 rfl (by intro u hu; simp only [List.mem_cons, List.not_mem_nil, or_false] at hu; subst hu; rfl) (fun cs hsj hh => by obtain ⟨rfl, rfl⟩ := hh; exact ⟨by decide, rfl, rfl⟩)) ?_
       rintro _ _ ⟨hs2072, rfl, h2073⟩
       refine t_hresp 1 rfl (o' := Cl 63 [.int .i64 (x17), .int .i64 (x18), .slice A19 (l22).length c20, .func (.func 44) #[] #[.pointer (some ⟨g12, 0, none⟩), .pointer (some ⟨g13, 0, none⟩)], .func (.func 43) #[] #[.pointer (some ⟨g12, 0, none⟩), .pointer (some ⟨g13, 0, none⟩)], .slice A3 (l25).length c4, .slice A8 (put l26 x1946 false).length c9]) (by simp only [put_length]) ?_
       refine t_nil ?_
       refine x_then_normal ?_
       refine c_seq ?_
       refine c_seq ?_
       refine c_region ?_
       refine t_st rfl (st_move rfl) ?_
       refine t_st rfl (st_len rfl sl30) ?_
       refine t_st rfl (st_move rfl) ?_
       refine t_nil ?_
       refine x_then_normal ?_
       refine c_block ?_
       have hb2075 : l1950.length ≤ 9223372036854775807 := (FZ.bd h1949)
       refine c_pullb 3 rfl ?_
       refine c_pullb 3 rfl ?_
       refine c_pullb 2 rfl ?_
       refine c_pullb 3 rfl ?_
       refine c_front2 [_, _, _, _] hs2072 hs2 R rfl ?_
       obtain ⟨⟨x2279, l2280, l2282⟩, hl2285, hk2286⟩ := bindS hm
       refine c_forS (fun k2284 => unc3 fun x2279 l2280 l2282 => fun b2271 e' hp' => ∃ (hs2274 : Hp), ∃ (hs2277 : Hp), [(0, .pointer (some ⟨g11, 0, none⟩)), (1, v15), (4, .int .i64 (x1946)), (9, .pointer (some ⟨g2055, 0, none⟩)), (84, .slice A1947 (l1950).length c1948), (85, .int .i64 ((l1950.length : Int))), (86, .int .i64 ((k2284 : Int)))] = e' ∧ (g11, Cl 63 [.int .i64 (x17), .int .i64 (x18), .slice A19 (l22).length c20, .func (.func 44) #[] #[.pointer (some ⟨g12, 0, none⟩), .pointer (some ⟨g13, 0, none⟩)], .func (.func 43) #[] #[.pointer (some ⟨g12, 0, none⟩), .pointer (some ⟨g13, 0, none⟩)], .slice A3 (l2280).length c4, .slice A8 (l2282).length c9]) :: (g2055, Cl 29 [.int .i64 (x2045.From), .int .i64 (x2045.To), .int .i64 (x2045.Min), .int .i64 (x2045.Max), .int .i64 (x2045.Weight)]) :: (g12, Cl 3 [.int .i64 (x23)]) :: (g13, Cl 3 [.int .i64 (x2279)]) :: (hs2274 ++ (hs2277 ++ R)) = hp' ∧ b1944.Le b2271 ∧ OS 3 (OT.fr (RT.int .i64)) b2271.w (.slice A3 l2280.length c4) l2280 hs2274 ∧ l2280.length = l25.length ∧ OS 4 (OT.fr RT.bool) b2271.w (.slice A8 l2282.length c9) l2282 hs2277 ∧ l2282.length = l26.length) hl2285 (e' := [(0, .pointer (some ⟨g11, 0, none⟩)), (1, v15), (4, .int .i64 (x1946)), (9, .pointer (some ⟨g2055, 0, none⟩)), (84, .slice A1947 (l1950).length c1948), (85, .int .i64 ((l1950.length : Int))), (86, .int .i64 0)]) (hp' := (g11, Cl 63 [.int .i64 (x17), .int .i64 (x18), .slice A19 (l22).length c20, .func (.func 44) #[] #[.pointer (some ⟨g12, 0, none⟩), .pointer (some ⟨g13, 0, none⟩)], .func (.func 43) #[] #[.pointer (some ⟨g12, 0, none⟩), .pointer (some ⟨g13, 0, none⟩)], .slice A3 (l25).length c4, .slice A8 (put l26 x1946 false).length c9]) :: (g2055, Cl 29 [.int .i64 (x2045.From), .int .i64 (x2045.To), .int .i64 (x2045.Min), .int .i64 (x2045.Max), .int .i64 (x2045.Weight)]) :: (g12, Cl 3 [.int .i64 (x23)]) :: (g13, Cl 3 [.int .i64 (x24)]) :: (hs2 ++ (hs2072 ++ R))) ⟨rfl, rfl, rfl, rfl, rfl, rfl, rfl, trivial⟩ (.cons_cons _ (.cons_cons _ (.cons_cons _ (.cons_cons _ (sub_app hs2 (sub_app hs2072 (.refl _))))))) ⟨hs2, hs2072, rfl, rfl, (Base.Le.refl _), (h5.le (hle1777.trans hle1945)), rfl, h2073, ((put_length _ _ _).trans rfl)⟩ ?_ ?_
       ·
        rintro k2284 ⟨x2279, l2280, l2282⟩ b2271 _ _ oL2074 hknL2074 ⟨hs2274, hs2277, rfl, rfl, hle2272, h2275, hln2281, h2278, hln2283⟩ hstepL2074
        unfold mPlanSearchRun_L2074 at hstepL2074
        have hm := (unc3E hstepL2074)
        refine c_seq ?_
        refine c_region ?_
        refine t_st rfl (st_lss_t rfl rfl (by omega)) ?_
        refine t_nil ?_
        refine x_then_normal ?_
        refine c_seq ?_
        refine c_cond_t rfl ?_
        refine c_skip ?_
        refine x_then_normal ?_
        refine c_seq ?_
        refine c_block ?_
        refine c_seq ?_
        refine c_region ?_
        obtain ⟨x2287, h2288, hm⟩ := bindS hm
        obtain ⟨j2289, hj2290, hx2291⟩ := idx_some h2288
        obtain ⟨cs2292, hr2293, hcs2294, hA2295, hlt2296⟩ := FZ.get (sz := 1) rfl (by decide) (h1949.le hle2272) hx2291
        obtain rfl := hr2293
        refine t_st rfl (st_index_old j2289 rfl rfl hj2290 hlt2296 hA2295 sl30) ?_
        refine t_st rfl (st_load_old rfl one3 (hcs2294 0 _ rfl)) ?_
        refine t_st rfl (st_assign rfl) ?_
        refine t_nil ?_
        refine x_then_normal ?_
        obtain ⟨⟨q2321, x2324⟩, hj2325, hk2325⟩ := bindS hm
        refine c_join (fun b2319 e' hp' => ∃ (v2322 : Value), [(0, .pointer (some ⟨g11, 0, none⟩)), (1, v15), (4, .int .i64 (x1946)), (9, .pointer (some ⟨g2055, 0, none⟩)), (11, .int .i64 (x2287)), (12, v2322), (13, .bool (x2324)), (84, .slice A1947 (l1950).length c1948), (85, .int .i64 ((l1950.length : Int))), (86, .int .i64 ((k2284 : Int)))] = e' ∧ (g11, Cl 63 [.int .i64 (x17), .int .i64 (x18), .slice A19 (l22).length c20, .func (.func 44) #[] #[.pointer (some ⟨g12, 0, none⟩), .pointer (some ⟨g13, 0, none⟩)], .func (.func 43) #[] #[.pointer (some ⟨g12, 0, none⟩), .pointer (some ⟨g13, 0, none⟩)], .slice A3 (l2280).length c4, .slice A8 (l2282).length c9]) :: (g2055, Cl 29 [.int .i64 (x2045.From), .int .i64 (x2045.To), .int .i64 (x2045.Min), .int .i64 (x2045.Max), .int .i64 (x2045.Weight)]) :: (g12, Cl 3 [.int .i64 (x23)]) :: (g13, Cl 3 [.int .i64 (x2279)]) :: (hs2274 ++ (hs2277 ++ R)) = hp' ∧ b2271.Le b2319 ∧ (RT.ptr (RT.arr 8 (RT.arr 8 (RT.int .i64)))).rep b2319.w [v2322] q2321) ?_ ?_
        ·
         have hm := hj2325
         obtain ⟨_, h2337, hm⟩ := bindS hm
         obtain ⟨_, h2338, hm⟩ := bindS hm
         obtain ⟨_, h2339, hm⟩ := bindS hm
         obtain ⟨_, h2340, hm⟩ := bindS hm
         obtain ⟨⟨q2341, x2342⟩, hcl2343, hm⟩ := bindS hm
         have hm := (unc2E hm)
         refine D_drawS ((g11, Cl 63 [.int .i64 (x17), .int .i64 (x18), .slice A19 (l22).length c20, .func (.func 44) #[] #[.pointer (some ⟨g12, 0, none⟩), .pointer (some ⟨g13, 0, none⟩)], .func (.func 43) #[] #[.pointer (some ⟨g12, 0, none⟩), .pointer (some ⟨g13, 0, none⟩)], .slice A3 (l2280).length c4, .slice A8 (l2282).length c9]) :: (g2055, Cl 29 [.int .i64 (x2045.From), .int .i64 (x2045.To), .int .i64 (x2045.Min), .int .i64 (x2045.Max), .int .i64 (x2045.Weight)]) :: (g12, Cl 3 [.int .i64 (x23)]) :: (g13, Cl 3 [.int .i64 (x2279)]) :: (hs2274 ++ (hs2277 ++ R))) mixed ?_
         refine E_in (.cons_cons _ (.cons_cons _ (.cons_cons _ (.cons_cons _ (sub_app hs2274 (sub_app hs2277 (.refl _))))))) ?_
         refine E_st 0 rfl (st_move rfl) ?_
         refine E_st 1 rfl (st_move rfl) ?_
         refine E_st 2 rfl (st_nil rfl) ?_
         refine E_st 3 rfl (st_field rfl fld63_0) ?_
         refine E_st 4 rfl (st_field rfl fld24_1) ?_
         refine E_st 5 rfl (st_load 0 rfl one3 rfl rfl) ?_
         refine E_st 6 rfl (st_field rfl fld29_0) ?_
         refine E_st 7 rfl (st_load 1 rfl one3 rfl rfl) ?_
         refine E_st 8 rfl (st_field rfl fld29_1) ?_
         refine E_st 9 rfl (st_load 1 rfl one3 rfl rfl) ?_
         refine E_st 10 rfl (st_field rfl fld29_2) ?_
         refine E_st 11 rfl (st_load 1 rfl one3 rfl rfl) ?_
         refine E_st 12 rfl (st_move rfl) ?_
         refine E_st 13 rfl (st_move rfl) ?_
         refine E_st 14 rfl (st_nil rfl) ?_
         refine E_st 15 rfl (st_field rfl fld63_0) ?_
         refine E_st 16 rfl (st_field rfl fld24_0) ?_
         refine E_st 17 rfl (st_load 0 rfl one3 rfl rfl) ?_
         have h2337 := (chk_some h2337).2
         refine E_st 18 rfl (st_mul rfl rfl h2337) ?_
         have h2338 := (chk_some h2338).2
         refine E_st 19 rfl (st_sub rfl rfl h2338) ?_
         refine E_st 20 rfl (st_field rfl fld29_3) ?_
         refine E_st 21 rfl (st_load 1 rfl one3 rfl rfl) ?_
         refine E_st 22 rfl (st_move rfl) ?_
         refine E_st 23 rfl (st_move rfl) ?_
         refine E_st 24 rfl (st_nil rfl) ?_
         refine E_st 25 rfl (st_field rfl fld63_0) ?_
         refine E_st 26 rfl (st_field rfl fld24_0) ?_
         refine E_st 27 rfl (st_load 0 rfl one3 rfl rfl) ?_
         have h2339 := (chk_some h2339).2
         refine E_st 28 rfl (st_mul rfl rfl h2339) ?_
         have h2340 := (chk_some h2340).2
         refine E_st 29 rfl (st_sub rfl rfl h2340) ?_
         refine E_out ?_
         refine D_all [30] (by kernel_rfl) rfl ?_
         refine R_callGl (Base.Le.refl _) rfl rfl _ call45 rfl (cPlanBoundsBetween _ _ q14 x18 x2045.From x2045.To (x2045.Min - (x2287 * x17)) (x2045.Max - (x2287 * x17)) v15 (RT.le (RT.ptr (RT.arr 8 (RT.arr 8 (RT.int .i64)))) h16 (hle1777.trans (hle1945.trans hle2272))) q2341 x2342 hcl2343) ?_ ?_
         ·
          rintro _ b2344 _ hle2345 ⟨v2346, rfl, rfl, h2347⟩
          refine ⟨.inr (.cons_cons _ (.cons_cons _ (.cons_cons _ (.cons_cons _ (sub_app hs2274 (sub_app hs2277 (.refl _))))))), ?_⟩
          refine D_st hle2345 31 rfl (by kernel_rfl) (by kernel_rfl) (by kernel_rfl) rfl (st_move rfl) (.cons_cons _ (.cons_cons _ (.cons_cons _ (.cons_cons _ (sub_app hs2274 (sub_app hs2277 (.refl _))))))) ?_
          refine D_st hle2345 32 rfl (by kernel_rfl) (by kernel_rfl) (by kernel_rfl) rfl (st_extract rfl rfl) (.cons_cons _ (.cons_cons _ (.cons_cons _ (.cons_cons _ (sub_app hs2274 (sub_app hs2277 (.refl _))))))) ?_
          refine D_st hle2345 33 rfl (by kernel_rfl) (by kernel_rfl) (by kernel_rfl) rfl (st_extract rfl rfl) (.cons_cons _ (.cons_cons _ (.cons_cons _ (.cons_cons _ (sub_app hs2274 (sub_app hs2277 (.refl _))))))) ?_
          refine D_st hle2345 34 rfl (by kernel_rfl) (by kernel_rfl) (by kernel_rfl) rfl (st_assign rfl) (.cons_cons _ (.cons_cons _ (.cons_cons _ (.cons_cons _ (sub_app hs2274 (sub_app hs2277 (.refl _))))))) ?_
          refine D_st hle2345 35 rfl (by kernel_rfl) (by kernel_rfl) (by kernel_rfl) rfl (st_assign rfl) (.cons_cons _ (.cons_cons _ (.cons_cons _ (.cons_cons _ (sub_app hs2274 (sub_app hs2277 (.refl _))))))) ?_
          refine D_done (by kernel_rfl) ?_
          obtain ⟨rfl, rfl⟩ := some2 hm
          refine x_pullb 3 rfl ?_
          refine x_pullb 3 rfl ?_
          refine x_pullb 3 rfl ?_
          refine x_pullb 3 rfl ?_
          refine x_front2 [_, _, _, _] hs2274 hs2277 R rfl ?_
          refine x_front2 [_, _, _, _] hs2277 hs2274 R rfl ?_
          exact x_join (e' := [(0, .pointer (some ⟨g11, 0, none⟩)), (1, v15), (4, .int .i64 (x1946)), (9, .pointer (some ⟨g2055, 0, none⟩)), (11, .int .i64 (x2287)), (12, v2346), (13, .bool (x2342)), (84, .slice A1947 (l1950).length c1948), (85, .int .i64 ((l1950.length : Int))), (86, .int .i64 ((k2284 : Int)))]) (hp' := (g11, Cl 63 [.int .i64 (x17), .int .i64 (x18), .slice A19 (l22).length c20, .func (.func 44) #[] #[.pointer (some ⟨g12, 0, none⟩), .pointer (some ⟨g13, 0, none⟩)], .func (.func 43) #[] #[.pointer (some ⟨g12, 0, none⟩), .pointer (some ⟨g13, 0, none⟩)], .slice A3 (l2280).length c4, .slice A8 (l2282).length c9]) :: (g2055, Cl 29 [.int .i64 (x2045.From), .int .i64 (x2045.To), .int .i64 (x2045.Min), .int .i64 (x2045.Max), .int .i64 (x2045.Weight)]) :: (g12, Cl 3 [.int .i64 (x23)]) :: (g13, Cl 3 [.int .i64 (x2279)]) :: (hs2274 ++ (hs2277 ++ R))) ⟨rfl, rfl, rfl, rfl, rfl, rfl, rfl, rfl, rfl, rfl, trivial⟩ (.cons_cons _ (.cons_cons _ (.cons_cons _ (.cons_cons _ (sub_app hs2274 (sub_app hs2277 (.refl _))))))) ⟨v2346, rfl, rfl, hle2345, h2347⟩
         exact R_nil
        ·
         rintro b2319 _ _ ⟨v2322, rfl, rfl, hle2320, h2323⟩
         have hm := (unc2E hk2325)
         refine c_seq ?_
         refine c_region ?_
         refine t_st rfl (st_move rfl) ?_
         refine t_nil ?_
         refine x_then_normal ?_
         refine c_cond _ rfl (fun hc2348 => ?_) (fun hc2348 => ?_)
         ·
          rw [if_pos hc2348] at hm
          refine c_seq ?_
          refine c_region ?_
          refine t_st rfl (st_move rfl) ?_
          refine t_st rfl (st_nil rfl) ?_
          refine t_st rfl (st_field rfl fld63_3) ?_
          refine t_st rfl (st_load 0 rfl one30 rfl rfl) ?_
          refine t_st rfl (st_move rfl) ?_
          refine t_st rfl (st_move rfl) ?_
          obtain ⟨x2349, h2350, hm⟩ := bindS hm
          obtain ⟨j2351, hj2352, hx2353⟩ := idx_some h2350
          obtain ⟨cs2354, hs2359, P2360, P2361, hq2362, hr2355, hcs2356, hA2357, hlt2358, hb2363, hho2364⟩ := OS.get (sz := 1) rfl (by decide) (h2275.le hle2320) hx2353
          obtain ⟨rfl, rfl⟩ := hr2355
          refine t_st rfl (st_index_old j2351 rfl rfl hj2352 hlt2358 hA2357 sl30) ?_
          refine t_do rfl (u_putOS hj2352 (sz := 1) (a' := x2287) rfl [_, _, _, _] (hs2277 ++ R) 0 1 [.int .i64 (x2287)] rfl (h2275.le hle2320) hx2353 rfl rfl rfl siz3 rfl (by intro u hu; simp only [List.mem_cons, List.not_mem_nil, or_false] at hu; subst hu; rfl) (fun cs hsj hh => by obtain ⟨rfl, rfl⟩ := hh; exact ⟨by decide, rfl, rfl⟩)) ?_
          rintro _ _ ⟨hs2365, rfl, h2366⟩
          refine t_hresp 0 rfl (o' := Cl 63 [.int .i64 (x17), .int .i64 (x18), .slice A19 (l22).length c20, .func (.func 44) #[] #[.pointer (some ⟨g12, 0, none⟩), .pointer (some ⟨g13, 0, none⟩)], .func (.func 43) #[] #[.pointer (some ⟨g12, 0, none⟩), .pointer (some ⟨g13, 0, none⟩)], .slice A3 (put l2280 x1946 x2287).length c4, .slice A8 (l2282).length c9]) (by simp only [put_length]) ?_
          refine t_nil ?_
          refine x_then_normal ?_
          refine c_region ?_
          refine t_st rfl (st_move rfl) ?_
          refine t_st rfl (st_move rfl) ?_
          obtain ⟨⟨x2367, l2368, l2369⟩, hcl2370, hm⟩ := bindS hm
          have hm := (unc3E hm)
          refine t_pullb 3 rfl ?_
          refine t_pullb 3 rfl ?_
          refine t_pullb 2 rfl ?_
          refine t_front2 [_, _, _, _] hs2365 hs2277 R rfl ?_
          refine t_front2 [_, _, _, _] hs2277 hs2365 R rfl ?_
          refine t_out2 [_, _, _] [_] hs2365 hs2277 R rfl ?_
          refine t_callG _ rfl call41 rfl (ih _ _ q2321 x17 x18 l22 x23 x2279 (put l2280 x1946 x2287) l2282 g11 g12 g13 v2322 A19 c20 A3 c4 hs2365 A8 c9 hs2277 h2323 (h21.le (hle1777.trans (hle1945.trans (hle2272.trans hle2320)))) h2366 (h2278.le hle2320) x2367 l2368 l2369 hcl2370) ?_
          rintro _ b2371 _ hle2372 ⟨hs2373, hs2374, rfl, rfl, h2375, h2376, h2377, h2378⟩
          refine t_in2 [_, _, _] [_] hs2373 hs2374 R rfl ?_
          refine t_hresp 0 rfl (o' := Cl 63 [.int .i64 (x17), .int .i64 (x18), .slice A19 (l22).length c20, .func (.func 44) #[] #[.pointer (some ⟨g12, 0, none⟩), .pointer (some ⟨g13, 0, none⟩)], .func (.func 43) #[] #[.pointer (some ⟨g12, 0, none⟩), .pointer (some ⟨g13, 0, none⟩)], .slice A3 (l2368).length c4, .slice A8 (l2369).length c9]) (by simp only [h2376]) ?_
          refine t_hresp 0 rfl (o' := Cl 63 [.int .i64 (x17), .int .i64 (x18), .slice A19 (l22).length c20, .func (.func 44) #[] #[.pointer (some ⟨g12, 0, none⟩), .pointer (some ⟨g13, 0, none⟩)], .func (.func 43) #[] #[.pointer (some ⟨g12, 0, none⟩), .pointer (some ⟨g13, 0, none⟩)], .slice A3 (l2368).length c4, .slice A8 (l2369).length c9]) (by simp only [h2378]) ?_
          refine t_nil ?_
          refine x_block_normal ?_
          refine x_then_normal ?_
          refine c_region ?_
          refine t_st rfl (st_add rfl rfl (by omega)) ?_
          refine t_st rfl (st_move rfl) ?_
          refine t_nil ?_
          refine x_pullb 2 rfl ?_
          refine x_pullb 2 rfl ?_
          refine x_pullb 3 rfl ?_
          refine x_pullb 3 rfl ?_
          refine x_front2 [_, _, _, _] hs2373 hs2374 R rfl ?_
          refine x_front2 [_, _, _, _] hs2374 hs2373 R rfl ?_
          obtain rfl := some1 hm
          exact x_againS (e' := [(0, .pointer (some ⟨g11, 0, none⟩)), (1, v15), (4, .int .i64 (x1946)), (9, .pointer (some ⟨g2055, 0, none⟩)), (84, .slice A1947 (l1950).length c1948), (85, .int .i64 ((l1950.length : Int))), (86, .int .i64 ((k2284 : Int) + 1))]) (hp' := (g11, Cl 63 [.int .i64 (x17), .int .i64 (x18), .slice A19 (l22).length c20, .func (.func 44) #[] #[.pointer (some ⟨g12, 0, none⟩), .pointer (some ⟨g13, 0, none⟩)], .func (.func 43) #[] #[.pointer (some ⟨g12, 0, none⟩), .pointer (some ⟨g13, 0, none⟩)], .slice A3 (l2368).length c4, .slice A8 (l2369).length c9]) :: (g2055, Cl 29 [.int .i64 (x2045.From), .int .i64 (x2045.To), .int .i64 (x2045.Min), .int .i64 (x2045.Max), .int .i64 (x2045.Weight)]) :: (g12, Cl 3 [.int .i64 (x23)]) :: (g13, Cl 3 [.int .i64 (x2367)]) :: (hs2373 ++ (hs2374 ++ R))) ⟨rfl, rfl, rfl, rfl, rfl, rfl, rfl, trivial⟩ (.cons_cons _ (.cons_cons _ (.cons_cons _ (.cons_cons _ (sub_app hs2373 (sub_app hs2374 (.refl _))))))) ⟨hs2373, hs2374, rfl, rfl, ((hle2272.trans (hle2320.trans hle2372))), h2375, (h2376.trans ((put_length _ _ _).trans hln2281)), h2377, (h2378.trans hln2283)⟩
         ·
          rw [if_neg (fun hh => Bool.noConfusion (hh.symm.trans hc2348))] at hm
          refine c_skip ?_
          refine x_block_normal ?_
          refine x_then_normal ?_
          refine c_region ?_
          refine t_st rfl (st_add rfl rfl (by omega)) ?_
          refine t_st rfl (st_move rfl) ?_
          refine t_nil ?_
          refine x_pullb 3 rfl ?_
          refine x_pullb 3 rfl ?_
          refine x_pullb 3 rfl ?_
          refine x_pullb 3 rfl ?_
          refine x_front2 [_, _, _, _] hs2274 hs2277 R rfl ?_
          refine x_front2 [_, _, _, _] hs2277 hs2274 R rfl ?_
          obtain rfl := some1 hm
          exact x_againS (e' := [(0, .pointer (some ⟨g11, 0, none⟩)), (1, v15), (4, .int .i64 (x1946)), (9, .pointer (some ⟨g2055, 0, none⟩)), (84, .slice A1947 (l1950).length c1948), (85, .int .i64 ((l1950.length : Int))), (86, .int .i64 ((k2284 : Int) + 1))]) (hp' := (g11, Cl 63 [.int .i64 (x17), .int .i64 (x18), .slice A19 (l22).length c20, .func (.func 44) #[] #[.pointer (some ⟨g12, 0, none⟩), .pointer (some ⟨g13, 0, none⟩)], .func (.func 43) #[] #[.pointer (some ⟨g12, 0, none⟩), .pointer (some ⟨g13, 0, none⟩)], .slice A3 (l2280).length c4, .slice A8 (l2282).length c9]) :: (g2055, Cl 29 [.int .i64 (x2045.From), .int .i64 (x2045.To), .int .i64 (x2045.Min), .int .i64 (x2045.Max), .int .i64 (x2045.Weight)]) :: (g12, Cl 3 [.int .i64 (x23)]) :: (g13, Cl 3 [.int .i64 (x2279)]) :: (hs2274 ++ (hs2277 ++ R))) ⟨rfl, rfl, rfl, rfl, rfl, rfl, rfl, trivial⟩ (.cons_cons _ (.cons_cons _ (.cons_cons _ (.cons_cons _ (sub_app hs2274 (sub_app hs2277 (.refl _))))))) ⟨hs2274, hs2277, rfl, rfl, ((hle2272.trans hle2320)), (h2275.le hle2320), hln2281, (h2278.le hle2320), hln2283⟩
       ·
        rintro b2271 _ _ ⟨hs2274, hs2277, rfl, rfl, hle2272, h2275, hln2281, h2278, hln2283⟩
        have hm := (unc3E hk2286)
        refine c_seq ?_
        refine c_region ?_
        refine t_st rfl (st_lss_f rfl rfl (by omega)) ?_
        refine t_nil ?_
        refine x_then_normal ?_
        refine c_seq ?_
        refine c_cond_f rfl ?_
        refine c_exit ?_
        refine x_then_exit ?_
        refine x_then_exit ?_
        refine x_block_out ?_
        refine x_then_normal ?_
        refine c_region ?_
        refine t_st rfl (st_move rfl) ?_
        refine t_st rfl (st_nil rfl) ?_
        refine t_st rfl (st_field rfl fld63_4) ?_
        refine t_st rfl (st_load 0 rfl one61 rfl rfl) ?_
        refine t_st rfl (st_move rfl) ?_
        obtain ⟨x2379, h2380, hm⟩ := bindS hm
        obtain ⟨j2381, hj2382, hx2383⟩ := idx_some h2380
        obtain ⟨cs2384, hs2389, P2390, P2391, hq2392, hr2385, hcs2386, hA2387, hlt2388, hb2393, hho2394⟩ := OS.get (sz := 1) rfl (by decide) h2278 hx2383
        obtain ⟨rfl, rfl⟩ := hr2385
        refine t_st rfl (st_index_old j2381 rfl rfl hj2382 hlt2388 hA2387 sl61) ?_
        refine t_front2 [_, _, _, _] hs2274 hs2277 R rfl ?_
        refine t_do rfl (u_putOS hj2382 (sz := 1) (a' := true) rfl [_, _, _, _] (hs2274 ++ R) 0 1 [.bool (true)] rfl h2278 hx2383 rfl rfl rfl siz4 rfl (by intro u hu; simp only [List.mem_cons, List.not_mem_nil, or_false] at hu; subst hu; rfl) (fun cs hsj hh => by obtain ⟨rfl, rfl⟩ := hh; exact ⟨by decide, rfl, rfl⟩)) ?_
        rintro _ _ ⟨hs2395, rfl, h2396⟩
        refine t_hresp 0 rfl (o' := Cl 63 [.int .i64 (x17), .int .i64 (x18), .slice A19 (l22).length c20, .func (.func 44) #[] #[.pointer (some ⟨g12, 0, none⟩), .pointer (some ⟨g13, 0, none⟩)], .func (.func 43) #[] #[.pointer (some ⟨g12, 0, none⟩), .pointer (some ⟨g13, 0, none⟩)], .slice A3 (l2280).length c4, .slice A8 (put l2282 x1946 true).length c9]) (by simp only [put_length]) ?_
        refine t_nil ?_
        obtain ⟨rfl, rfl, rfl⟩ := some3 hm
        refine x_pullb 3 rfl ?_
        refine x_pullb 3 rfl ?_
        refine x_pullb 2 rfl ?_
        refine x_front2 [_, _, _, _] hs2395 hs2274 R rfl ?_
        exact endM (hle1777.trans (hle1945.trans hle2272)) rfl (.cons_cons _ (.cons_cons _ (.cons_cons _ (.cons _ (sub_app hs2274 (sub_app hs2395 (.refl _))))))) ⟨hs2274, hs2395, rfl, rfl, h2275, hln2281, h2396, ((put_length _ _ _).trans hln2283)⟩

set_option maxRecDepth 20000 in
theorem cPlanSolve_2 (b : Base) (R : Hp) (s1 : PlanPeriodic) (A2 : Option Addr) (c3 : Nat) (h4 : FZ rPlanRule b.w A2 c3 s1.Rules) (l365 : (List Int)) (hm : mPlanSolve_2 s1 = some l365) :
    CallsG Try.prog 25 [.agg #[.int .i64 (s1.Period), .int .i64 (s1.Events), .slice A2 (s1.Rules).length c3]] b (R) (fun v b' hp' => ∃ (A362 : Option Addr), ∃ (c363 : Nat), ∃ (hs361 : Hp), .slice A362 (l365).length c363 = v ∧ (hs361 ++ R) = hp' ∧ OS 3 (OT.fr (RT.int .i64)) b'.w (.slice A362 l365.length c363) l365 hs361 ∧ (A362 = none ↔ l365 = [])) := by
  refine fn_enterG 52 Try.func25 rfl Try.ntmps25 rfl ?_
  unfold mPlanSolve_2 at hm
  refine c_seq ?_
  refine c_region ?_
  refine t_do rfl (u_box _ rfl rfl) ?_
  rintro _ _ ⟨g367, rfl, rfl⟩
  refine t_st rfl (st_assign rfl) ?_
  refine t_nil ?_
  refine x_then_normal ?_
  refine c_seq ?_
  refine c_region ?_
  refine t_st rfl (st_loadD (vs := [_, _, _]) 0 3 rfl agg24 rfl rfl rfl) ?_
  obtain ⟨⟨x368, x369, l370, l371, l372⟩, hcl373, hm⟩ := bindS hm
  have hm := (unc5E hm)
  refine t_callG _ rfl call36 rfl (cPlanNewSearch _ _ s1 A2 c3 h4 x368 x369 l370 l371 l372 hcl373) ?_
  rintro _ b374 _ hle375 ⟨g376, A377, c378, A379, c380, hs381, A382, c383, hs384, rfl, rfl, h385, h386, h387⟩
  refine t_in2 [_] [_] hs381 hs384 R rfl ?_
  refine t_st rfl (st_assign rfl) ?_
  refine t_nil ?_
  refine x_then_normal ?_
  refine c_seq ?_
  refine c_region ?_
  refine t_st rfl (st_move rfl) ?_
  obtain ⟨l388, hcl389, hm⟩ := bindS hm
  refine t_front2 [_, _] hs381 hs384 R rfl ?_
  refine t_front2 [_, _] hs384 hs381 R rfl ?_
  refine t_out2 [_] [_] hs381 hs384 R rfl ?_
  refine t_callG _ rfl call40 rfl (cPlanSearchStart _ _ x368 x369 l370 l371 l372 g376 A377 c378 A379 c380 hs381 A382 c383 hs384 h385 h386 h387 l388 hcl389) ?_
  rintro _ b390 _ hle391 ⟨g392, cs393, rfl, rfl, h394⟩
  refine t_in2 [_, _] [_] hs381 hs384 R rfl ?_
  refine t_st rfl (st_assign rfl) ?_
  refine t_nil ?_
  refine x_then_normal ?_
  refine c_seq ?_
  refine c_region ?_
  refine t_do rfl (u_bslice (el := 3) [(0, .int .i64 (0))] [.int .i64 (0)] rfl (fun _ => by kernel_rfl)) ?_
  rintro _ _ ⟨g395, rfl, rfl⟩
  refine t_st rfl (st_assign rfl) ?_
  refine t_nil ?_
  refine x_then_normal ?_
  obtain ⟨t562, hj561, hk561⟩ := bindS hm
  refine c_join (fun b552 e' hp' => ∃ (l559 : (List Int)), ∃ (A556 : Option Addr), ∃ (c557 : Nat), ∃ (hs555 : Hp), [(5, .slice A556 (l559).length c557)] = e' ∧ (hs555 ++ R) = hp' ∧ b390.Le b552 ∧ OS 3 (OT.fr (RT.int .i64)) b552.w (.slice A556 l559.length c557) l559 hs555 ∧ (A556 = none ↔ l559 = []) ∧ t562 = .inl l559) ?_ ?_
  ·
   have hm := hj561
   refine c_seq ?_
   refine c_region ?_
   refine t_do rfl (u_alloc [.int .i64 0] zero3 rfl) ?_
   rintro _ _ ⟨g563, rfl, rfl⟩
   refine t_do rfl (u_store 0 rfl rfl siz3 rfl rfl (by simp)) ?_
   rintro _ _ rfl
   refine t_nil ?_
   refine x_then_normal ?_
   refine c_block ?_
   refine c_seg 1 [_, _, _, _] (hs381 ++ (hs384 ++ R)) rfl rfl ?_
   have h566 : OS 3 (OT.fr (RT.int .i64)) b390.w (.slice (some ⟨g395, 0, none⟩) 1 1) [0] [(g395, Cl 3 [.int .i64 (0)])] := OS.lit [[.int .i64 (0)]] rfl ⟨rfl, trivial⟩ rfl (by decide)
   refine c_frzb 1 rfl ?_
   intro b601 hle602 hz603
   have hat604 := at_fz hz603
   refine c_pullb 1 rfl ?_
   refine c_pullb 2 rfl ?_
   refine c_front3 [_, _, _] [(g395, Cl 3 [.int .i64 (0)])] hs381 hs384 R rfl ?_
   refine c_front3 [_, _, _] hs384 [(g395, Cl 3 [.int .i64 (0)])] hs381 R rfl ?_
   refine c_front3 [_, _, _] hs381 hs384 [(g395, Cl 3 [.int .i64 (0)])] R rfl ?_
   refine c_loopM (unc5 fun q679 x684 l685 l687 l688 => fun b661 e' hp' => ∃ (g678 : Nat), ∃ (v680 : Value), ∃ (v682 : Value), ∃ (v683 : Value), ∃ (A665 : Option Addr), ∃ (c666 : Nat), ∃ (hs664 : Hp), ∃ (A670 : Option Addr), ∃ (c671 : Nat), ∃ (hs669 : Hp), ∃ (A675 : Option Addr), ∃ (c676 : Nat), ∃ (hs674 : Hp), [(1, .pointer (some ⟨g367, 0, none⟩)), (3, .pointer (some ⟨g376, 0, none⟩)), (4, v680), (5, .slice A665 (l685).length c666), (6, .pointer (some ⟨g678, 0, none⟩))] = e' ∧ (g367, Cl 24 [.int .i64 (s1.Period), .int .i64 (s1.Events), .slice A2 (s1.Rules).length c3]) :: (g376, Cl 63 [.int .i64 (x368), .int .i64 (x369), .slice A377 (l370).length c378, v682, v683, .slice A670 (l687).length c671, .slice A675 (l688).length c676]) :: (g678, Cl 3 [.int .i64 (x684)]) :: (hs664 ++ (hs669 ++ (hs674 ++ R))) = hp' ∧ b601.Le b661 ∧ (RT.ptr (RT.arr 8 (RT.arr 8 (RT.int .i64)))).rep b661.w [v680] q679 ∧ OS 3 (OT.fr (RT.int .i64)) b661.w (.slice A665 l685.length c666) l685 hs664 ∧ (A665 = none ↔ l685 = []) ∧ OS 3 (OT.fr (RT.int .i64)) b661.w (.slice A670 l687.length c671) l687 hs669 ∧ OS 4 (OT.fr RT.bool) b661.w (.slice A675 l688.length c676) l688 hs674) hm (e' := [(1, .pointer (some ⟨g367, 0, none⟩)), (3, .pointer (some ⟨g376, 0, none⟩)), (4, .pointer (some (⟨g392, 0, none⟩))), (5, .slice (some ⟨g395, 0, none⟩) ([0]).length 1), (6, .pointer (some ⟨g563, 0, none⟩))]) (hp' := (g367, Cl 24 [.int .i64 (s1.Period), .int .i64 (s1.Events), .slice A2 (s1.Rules).length c3]) :: (g376, Cl 63 [.int .i64 (x368), .int .i64 (x369), .slice A377 (l370).length c378, .nilFunc, .func (.func 49) #[] #[], .slice A379 (l371).length c380, .slice A382 (l372).length c383]) :: (g563, Cl 3 [.int .i64 (1)]) :: ([(g395, Cl 3 [.int .i64 (0)])] ++ (hs381 ++ (hs384 ++ R)))) ⟨rfl, rfl, rfl, rfl, rfl, trivial⟩ (.cons_cons _ (.cons_cons _ (.cons_cons _ (sub_app [(g395, Cl 3 [.int .i64 (0)])] (sub_app hs381 (sub_app hs384 (.refl _))))))) ⟨g563, (.pointer (some (⟨g392, 0, none⟩))), .nilFunc, (.func (.func 49) #[] #[]), (some ⟨g395, 0, none⟩), 1, [(g395, Cl 3 [.int .i64 (0)])], A379, c380, hs381, A382, c383, hs384, rfl, rfl, (Base.Le.refl _), ⟨_, cs393, rfl, (RT.le (RT.arr 8 (RT.arr 8 (RT.int .i64))) h394 hle602), hat604⟩, (h566.le hle602), ⟨nofun, nofun⟩, (h386.le (hle391.trans hle602)), (h387.le (hle391.trans hle602))⟩ ?_
   rintro ⟨q679, x684, l685, l687, l688⟩ b661 _ _ oL564 ⟨g678, v680, v682, v683, A665, c666, hs664, A670, c671, hs669, A675, c676, hs674, rfl, rfl, hle662, h681, h667, hnz686, h672, h677⟩ hstepL564 houtL564
   unfold mPlanSolve_2_L564 at hstepL564
   have hm := (unc5E hstepL564)
   refine c_seq ?_
   refine c_seq ?_
   refine c_region ?_
   refine t_st rfl (st_load 2 rfl one3 rfl rfl) ?_
   refine t_st rfl (st_field rfl fld24_1) ?_
   refine t_st rfl (st_load 0 rfl one3 rfl rfl) ?_
   refine t_st rfl (st_lss rfl rfl) ?_
   refine t_nil ?_
   refine x_then_normal ?_
   refine c_cond _ rfl (fun hc689 => ?_) (fun hc689 => ?_)
   ·
    rw [if_pos (of_decide_eq_true hc689)] at hm
    refine c_skip ?_
    refine x_then_normal ?_
    refine c_seq ?_
    refine c_block ?_
    refine c_seq ?_
    refine c_region ?_
    refine t_st rfl (st_field rfl fld24_0) ?_
    refine t_st rfl (st_load 0 rfl one3 rfl rfl) ?_
    refine t_do rfl (u_alloc [.int .i64 0] zero3 rfl) ?_
    rintro _ _ ⟨g690, rfl, rfl⟩
    refine t_do rfl (u_store 0 rfl rfl siz3 rfl rfl (by simp)) ?_
    rintro _ _ rfl
    refine t_nil ?_
    refine x_then_normal ?_
    refine c_seq ?_
    refine c_region ?_
    refine t_st rfl (st_move rfl) ?_
    refine t_st rfl (st_func _ _ rfl rfl) ?_
    refine t_st rfl (st_nil rfl) ?_
    refine t_st rfl (st_field rfl fld63_2) ?_
    refine t_do rfl (u_store 2 rfl rfl siz60 rfl rfl (by simp)) ?_
    rintro _ _ rfl
    refine t_nil ?_
    refine x_then_normal ?_
    refine c_seq ?_
    refine c_region ?_
    refine t_st rfl (st_move rfl) ?_
    refine t_st rfl (st_func _ _ rfl rfl) ?_
    refine t_st rfl (st_nil rfl) ?_
    refine t_st rfl (st_field rfl fld63_1) ?_
    refine t_do rfl (u_store 2 rfl rfl siz59 rfl rfl (by simp)) ?_
    rintro _ _ rfl
    refine t_nil ?_
    refine x_then_normal ?_
    refine c_seq ?_
    refine c_region ?_
    refine t_st rfl (st_move rfl) ?_
    refine t_st rfl (st_move rfl) ?_
    obtain ⟨⟨x691, l692, l693⟩, hcl694, hm⟩ := bindS hm
    obtain ⟨Nhcl694, hcl694⟩ := lim_some hcl694
    have hm := (unc3E hm)
    refine t_pullb 3 rfl ?_
    refine t_pullb 3 rfl ?_
    refine t_front3 [_, _, _, _] hs664 hs669 hs674 R rfl ?_
    refine t_front3 [_, _, _, _] hs674 hs664 hs669 R rfl ?_
    refine t_out2 [_, _, _] [_] hs669 hs674 (hs664 ++ R) rfl ?_
    refine t_callG _ rfl call41 rfl (cPlanSearchRun Nhcl694 _ _ q679 x368 x369 l370 x684 s1.Period l687 l688 g376 g678 g690 v680 A377 c378 A670 c671 hs669 A675 c676 hs674 h681 (h385.le (hle391.trans (hle602.trans hle662))) h672 h677 x691 l692 l693 hcl694) ?_
    rintro _ b695 _ hle696 ⟨hs697, hs698, rfl, rfl, h699, h700, h701, h702⟩
    refine t_in2 [_, _, _] [_] hs697 hs698 (hs664 ++ R) rfl ?_
    refine t_hresp 0 rfl (o' := Cl 63 [.int .i64 (x368), .int .i64 (x369), .slice A377 (l370).length c378, .func (.func 44) #[] #[.pointer (some ⟨g678, 0, none⟩), .pointer (some ⟨g690, 0, none⟩)], .func (.func 43) #[] #[.pointer (some ⟨g678, 0, none⟩), .pointer (some ⟨g690, 0, none⟩)], .slice A670 (l692).length c671, .slice A675 (l693).length c676]) (by simp only [h700]) ?_
    refine t_hresp 0 rfl (o' := Cl 63 [.int .i64 (x368), .int .i64 (x369), .slice A377 (l370).length c378, .func (.func 44) #[] #[.pointer (some ⟨g678, 0, none⟩), .pointer (some ⟨g690, 0, none⟩)], .func (.func 43) #[] #[.pointer (some ⟨g678, 0, none⟩), .pointer (some ⟨g690, 0, none⟩)], .slice A670 (l692).length c671, .slice A675 (l693).length c676]) (by simp only [h702]) ?_
    refine t_nil ?_
    refine x_then_normal ?_
    refine c_seq ?_
    refine c_seq ?_
    refine c_region ?_
    refine t_st rfl (st_load 2 rfl one3 rfl rfl) ?_
    refine t_st rfl (st_field rfl fld24_0) ?_
    refine t_st rfl (st_load 3 rfl one3 rfl rfl) ?_
    refine t_st rfl (st_eql rfl rfl) ?_
    refine t_nil ?_
    refine x_then_normal ?_
    refine c_cond _ rfl (fun hc703 => ?_) (fun hc703 => ?_)
    ·
     rw [if_pos (of_decide_eq_true hc703)] at hm
     refine c_seq ?_
     refine c_region ?_
     refine t_st rfl (st_assign rfl) ?_
     refine t_nil ?_
     refine x_then_normal ?_
     refine c_ret ?_
     refine x_then_ret ?_
     refine x_block_ret ?_
     refine x_then_ret ?_
     refine x_then_ret ?_
     refine x_block_ret ?_
     refine x_then_ret ?_
     have hm := congrArg some (houtL564 _ (Option.some.inj hm).symm)
     have hq704 := (Option.some.inj hm).symm
     rw [hq704] at hk561
     have hm := elimR hk561
     obtain rfl := some1 hm
     exact retM (rs := [.tmp 2]) [.slice none 0 0] (hle375.trans (hle391.trans (hle602.trans (hle662.trans hle696)))) (by decide) rfl ⟨rfl, trivial⟩ rfl (hp' := ([] ++ R)) (.cons _ (.cons _ (.cons _ (.cons _ (sub_skip hs697 (sub_skip hs698 (sub_skip hs664 (.refl _)))))))) ⟨none, 0, [], rfl, rfl, OS.nil, ⟨fun _ => rfl, fun _ => rfl⟩⟩
    ·
     rw [if_neg (of_decide_eq_false hc703)] at hm
     refine c_skip ?_
     refine x_then_normal ?_
     refine c_seq ?_
     refine c_region ?_
     refine t_st rfl (st_move rfl) ?_
     refine t_st rfl (st_load 2 rfl one3 rfl rfl) ?_
     refine t_do rfl (u_bslice (el := 3) [(0, .int .i64 (x691))] [.int .i64 (x691)] rfl (fun _ => by kernel_rfl)) ?_
     rintro _ _ ⟨g705, rfl, rfl⟩
     obtain ⟨_, h706, hm⟩ := bindS hm
     have h706 := room_some h706
     refine t_front3 [_, _, _, _, _] hs697 hs698 hs664 R rfl ?_
     refine t_do rfl (u_appOS (r := (RT.int .i64)) (l := l685) [_, _, _, _, _] (hs697 ++ (hs698 ++ R)) [[.int .i64 (x691)]] [x691] rfl (by decide) sl30 inf3 rfl rfl rfl rfl (h667.le hle696) rfl (fun w ho => Rd.own (i := 0) ho rfl) ⟨rfl, trivial⟩ h706) ?_
     rintro _ _ ⟨hs707, rfl, h708⟩
     obtain ⟨A709, c710, rfl, _⟩ := h708.form
     refine t_st rfl (st_assign rfl) ?_
     refine t_nil ?_
     refine x_then_normal ?_
     refine c_region ?_
     refine t_st rfl (st_move rfl) ?_
     refine t_st rfl (st_field rfl fld24_1) ?_
     refine t_st rfl (st_load 4 rfl one3 rfl rfl) ?_
     refine t_st rfl (st_load 2 rfl one3 rfl rfl) ?_
     refine t_st rfl (st_load 3 rfl one3 rfl rfl) ?_
     refine t_st rfl (st_load 3 rfl one3 rfl rfl) ?_
     obtain ⟨⟨q711, x712⟩, hcl713, hm⟩ := bindS hm
     have hm := (unc2E hm)
     refine t_callG _ rfl call45 rfl (cPlanBoundsBetween _ _ q679 s1.Events 0 x684 x691 x691 v680 (RT.le (RT.ptr (RT.arr 8 (RT.arr 8 (RT.int .i64)))) h681 hle696) q711 x712 hcl713) ?_
     rintro _ b714 _ hle715 ⟨v716, rfl, rfl, h717⟩
     refine t_st rfl (st_move rfl) ?_
     refine t_st rfl (st_extract rfl rfl) ?_
     refine t_st rfl (st_extract rfl rfl) ?_
     refine t_st rfl (st_assign rfl) ?_
     refine t_nil ?_
     refine x_block_normal ?_
     refine x_then_normal ?_
     refine c_seq ?_
     refine c_seq ?_
     refine c_region ?_
     refine t_st rfl (st_load 2 rfl one3 rfl rfl) ?_
     refine t_nil ?_
     refine x_then_normal ?_
     refine c_region ?_
     refine t_do rfl (u_alloc [.int .i64 0] zero3 rfl) ?_
     rintro _ _ ⟨g718, rfl, rfl⟩
     refine t_do rfl (u_store 0 rfl rfl siz3 rfl rfl (by simp)) ?_
     rintro _ _ rfl
     refine t_nil ?_
     refine x_then_normal ?_
     refine c_region ?_
     refine t_st rfl (st_load 0 rfl one3 rfl rfl) ?_
     obtain ⟨_, h719, hm⟩ := bindS hm
     have h719 := (chk_some h719).2
     refine t_st rfl (st_add rfl rfl h719) ?_
     refine t_do rfl (u_store 0 rfl rfl siz3 rfl rfl (by simp)) ?_
     rintro _ _ rfl
     refine t_nil ?_
     refine x_pullb 2 rfl ?_
     refine x_pullb 5 rfl ?_
     refine x_front3 [_, _, _, _, _, _] hs707 hs697 hs698 R rfl ?_
     refine x_front3 [_, _, _, _, _, _] hs698 hs707 hs697 R rfl ?_
     refine x_front3 [_, _, _, _, _, _] hs697 hs698 hs707 R rfl ?_
     exact x_againM (q711, x684 + 1, l685 ++ [x691], l692, l693) (Option.some.inj hm).symm (e' := [(1, .pointer (some ⟨g367, 0, none⟩)), (3, .pointer (some ⟨g376, 0, none⟩)), (4, v716), (5, .slice A709 (l685 ++ [x691]).length c710), (6, .pointer (some ⟨g718, 0, none⟩))]) (hp' := (g367, Cl 24 [.int .i64 (s1.Period), .int .i64 (s1.Events), .slice A2 (s1.Rules).length c3]) :: (g376, Cl 63 [.int .i64 (x368), .int .i64 (x369), .slice A377 (l370).length c378, .func (.func 44) #[] #[.pointer (some ⟨g678, 0, none⟩), .pointer (some ⟨g690, 0, none⟩)], .func (.func 43) #[] #[.pointer (some ⟨g678, 0, none⟩), .pointer (some ⟨g690, 0, none⟩)], .slice A670 (l692).length c671, .slice A675 (l693).length c676]) :: (g718, Cl 3 [.int .i64 (x684 + 1)]) :: (hs707 ++ (hs697 ++ (hs698 ++ R)))) ⟨rfl, rfl, rfl, rfl, rfl, trivial⟩ (.cons_cons _ (.cons_cons _ (.cons_cons _ (.cons _ (.cons _ (.cons _ (sub_app hs707 (sub_app hs697 (sub_app hs698 (.refl _)))))))))) ⟨g718, v716, (.func (.func 44) #[] #[.pointer (some ⟨g678, 0, none⟩), .pointer (some ⟨g690, 0, none⟩)]), (.func (.func 43) #[] #[.pointer (some ⟨g678, 0, none⟩), .pointer (some ⟨g690, 0, none⟩)]), A709, c710, hs707, A670, c671, hs697, A675, c676, hs698, rfl, rfl, ((hle662.trans (hle696.trans hle715))), h717, (h708.le hle715), (OS.nz (h708.le hle715) (by simp)), (h699.le hle715), (h701.le hle715)⟩
   ·
    rw [if_neg (of_decide_eq_false hc689)] at hm
    refine c_exit ?_
    refine x_then_exit ?_
    refine x_then_exit ?_
    refine x_block_out ?_
    have hm := congrArg some (houtL564 _ (Option.some.inj hm).symm)
    have hq := (Option.some.inj hm).symm
    exact x_join (e' := [(5, .slice A665 (l685).length c666)]) (hp' := (hs664 ++ R)) ⟨rfl, trivial⟩ (.cons _ (.cons _ (.cons _ (sub_app hs664 (sub_skip hs669 (sub_skip hs674 (.refl _))))))) ⟨l685, A665, c666, hs664, rfl, rfl, (hle602.trans hle662), h667, hnz686, hq⟩
  ·
   rintro b552 _ _ ⟨l559, A556, c557, hs555, rfl, rfl, hle553, h558, hnz560, hq720⟩
   rw [hq720] at hk561
   have hm := elimL hk561
   refine c_seq ?_
   refine c_region ?_
   refine t_st rfl (st_move rfl) ?_
   refine t_st rfl (st_assign rfl) ?_
   refine t_nil ?_
   refine x_then_normal ?_
   refine c_ret ?_
   obtain rfl := some1 hm
   exact retM (rs := [.tmp 2]) [.slice A556 (l559).length c557] (hle375.trans (hle391.trans hle553)) (by decide) rfl ⟨rfl, trivial⟩ rfl (hp' := (hs555 ++ R)) (sub_app hs555 (.refl _)) ⟨A556, c557, hs555, rfl, rfl, h558, hnz560⟩

set_option maxRecDepth 20000 in
theorem cPlanSolve (b : Base) (R : Hp) (s1 : PlanPeriodic) (A2 : Option Addr) (c3 : Nat) (h4 : FZ rPlanRule b.w A2 c3 s1.Rules) (x24 : Int) (l25 : (List Int)) (hm : mPlanSolve s1 = some (x24, l25)) :
    CallsG Try.prog 9 [.agg #[.int .i64 (s1.Period), .int .i64 (s1.Events), .slice A2 (s1.Rules).length c3]] b (R) (fun v b' hp' => ∃ (A21 : Option Addr), ∃ (c22 : Nat), ∃ (hs20 : Hp), .tuple #[.slice A21 (l25).length c22, .int .i64 (x24)] = v ∧ (hs20 ++ R) = hp' ∧ OS 3 (OT.fr (RT.int .i64)) b'.w (.slice A21 l25.length c22) l25 hs20 ∧ (A21 = none ↔ l25 = [])) := by
  refine fn_enterG 16 Try.func9 rfl Try.ntmps9 rfl ?_
  unfold mPlanSolve at hm
  refine c_seq ?_
  refine c_region ?_
  refine t_do rfl (u_box _ rfl rfl) ?_
  rintro _ _ ⟨g27, rfl, rfl⟩
  refine t_st rfl (st_assign rfl) ?_
  refine t_st rfl (st_assign rfl) ?_
  refine t_nil ?_
  refine x_then_normal ?_
  refine c_seq ?_
  refine c_seq ?_
  refine c_region ?_
  refine t_st rfl (st_loadD (vs := [_, _, _]) 0 3 rfl agg24 rfl rfl rfl) ?_
  obtain ⟨x28, hcl29, hm⟩ := bindS hm
  refine t_do rfl (u_callW0 _ call24 rfl (fun w ho => cPlanCheckPeriodic _ [] s1 A2 c3 (h4.old ho) x28 hcl29) (fun _ _ _ h => h.2.symm)) ?_
  rintro _ _ ⟨⟨_, rfl, _⟩, rfl⟩
  refine t_st rfl (st_assign rfl) ?_
  refine t_nil ?_
  refine x_then_normal ?_
  refine c_seq ?_
  refine c_region ?_
  refine t_st rfl (st_move rfl) ?_
  refine t_st rfl (st_neq rfl rfl) ?_
  refine t_nil ?_
  refine x_then_normal ?_
  refine c_cond _ rfl (fun hc30 => ?_) (fun hc30 => ?_)
  ·
   rw [if_pos (of_decide_eq_true hc30)] at hm
   refine c_seq ?_
   refine c_region ?_
   refine t_st rfl (st_move rfl) ?_
   refine t_st rfl (st_assign rfl) ?_
   refine t_st rfl (st_assign rfl) ?_
   refine t_nil ?_
   refine x_then_normal ?_
   refine c_ret ?_
   refine x_then_ret ?_
   obtain ⟨rfl, rfl⟩ := some2 hm
   exact retM (rs := [.tmp 2, .tmp 3]) [.slice none 0 0, .int .i64 (x28)] (Base.Le.refl _) (by decide) rfl ⟨rfl, ⟨rfl, trivial⟩⟩ rfl (hp' := ([] ++ R)) (.cons _ (.refl _)) ⟨none, 0, [], rfl, rfl, OS.nil, ⟨fun _ => rfl, fun _ => rfl⟩⟩
  ·
   rw [if_neg (of_decide_eq_false hc30)] at hm
   refine c_skip ?_
   refine x_then_normal ?_
   refine c_seq ?_
   refine c_region ?_
   refine t_st rfl (st_loadD (vs := [_, _, _]) 0 3 rfl agg24 rfl rfl rfl) ?_
   obtain ⟨l31, hcl32, hm⟩ := bindS hm
   refine t_callG _ rfl call25 rfl (cPlanSolve_2 _ _ s1 A2 c3 h4 l31 hcl32) ?_
   rintro _ b33 _ hle34 ⟨A35, c36, hs37, rfl, rfl, h38, h39⟩
   refine t_in1 [] [_] hs37 R rfl ?_
   refine t_st rfl (st_assign rfl) ?_
   refine t_nil ?_
   refine x_then_normal ?_
   refine c_seq ?_
   refine c_seq ?_
   refine c_region ?_
   refine t_st rfl (st_move rfl) ?_
   refine t_st rfl (st_eqnil_z rfl rfl h39 sl30) ?_
   refine t_nil ?_
   refine x_then_normal ?_
   refine c_cond _ rfl (fun hc40 => ?_) (fun hc40 => ?_)
   ·
    rw [if_pos hc40] at hm
    refine c_seq ?_
    refine c_region ?_
    refine t_st rfl (st_assign rfl) ?_
    refine t_st rfl (st_assign rfl) ?_
    refine t_nil ?_
    refine x_then_normal ?_
    refine c_ret ?_
    refine x_then_ret ?_
    obtain ⟨rfl, rfl⟩ := some2 hm
    exact retM (rs := [.tmp 2, .tmp 3]) [.slice none 0 0, .int .i64 (9)] hle34 (by decide) rfl ⟨rfl, ⟨rfl, trivial⟩⟩ rfl (hp' := ([] ++ R)) (.cons _ (sub_skip hs37 (.refl _))) ⟨none, 0, [], rfl, rfl, OS.nil, ⟨fun _ => rfl, fun _ => rfl⟩⟩
   ·
    rw [if_neg (fun hh => Bool.noConfusion (hh.symm.trans hc40))] at hm
    refine c_skip ?_
    refine x_then_normal ?_
    refine c_seq ?_
    refine c_region ?_
    refine t_st rfl (st_move rfl) ?_
    refine t_st rfl (st_assign rfl) ?_
    refine t_st rfl (st_assign rfl) ?_
    refine t_nil ?_
    refine x_then_normal ?_
    refine c_ret ?_
    obtain ⟨rfl, rfl⟩ := some2 hm
    exact retM (rs := [.tmp 2, .tmp 3]) [.slice A35 (l31).length c36, .int .i64 (0)] hle34 (by decide) rfl ⟨rfl, ⟨rfl, trivial⟩⟩ rfl (hp' := (hs37 ++ R)) (.cons _ (sub_app hs37 (.refl _))) ⟨A35, c36, hs37, rfl, rfl, h38, h39⟩

set_option maxRecDepth 20000 in
theorem cSlicesEqual (b : Base) (R : Hp) (l4 : (List Int)) (l8 : (List Int)) (A1 : Option Addr) (c2 : Nat) (A5 : Option Addr) (c6 : Nat) (h3 : FZ (RT.int .i64) b.w A1 c2 l4) (h7 : FZ (RT.int .i64) b.w A5 c6 l8) (x102 : Bool) (hm : mSlicesEqual l4 l8 = some x102) :
    CallsG Try.prog 22 [.slice A1 (l4).length c2, .slice A5 (l8).length c6] b (R) (fun v b' hp' => .bool (x102) = v ∧ R = hp') := by
  refine fn_enterG 26 Try.func22 rfl Try.ntmps22 rfl ?_
  unfold mSlicesEqual at hm
  refine c_seq ?_
  refine c_region ?_
  refine t_st rfl (st_assign rfl) ?_
  refine t_nil ?_
  refine x_then_normal ?_
  refine c_seq ?_
  refine c_seq ?_
  refine c_region ?_
  refine t_st rfl (st_move rfl) ?_
  refine t_st rfl (st_len rfl sl30) ?_
  refine t_st rfl (st_move rfl) ?_
  refine t_st rfl (st_len rfl sl30) ?_
  refine t_st rfl (st_neq rfl rfl) ?_
  refine t_nil ?_
  refine x_then_normal ?_
  refine c_cond _ rfl (fun hc103 => ?_) (fun hc103 => ?_)
  ·
   rw [if_pos (of_decide_eq_true hc103)] at hm
   refine c_seq ?_
   refine c_region ?_
   refine t_st rfl (st_assign rfl) ?_
   refine t_nil ?_
   refine x_then_normal ?_
   refine c_ret ?_
   refine x_then_ret ?_
   obtain rfl := some1 hm
   exact retM (rs := [.tmp 4]) [.bool (false)] (Base.Le.refl _) (by decide) rfl ⟨rfl, trivial⟩ rfl (hp' := R) (.refl _) ⟨rfl, rfl⟩
  ·
   rw [if_neg (of_decide_eq_false hc103)] at hm
   refine c_skip ?_
   refine x_then_normal ?_
   refine c_seq ?_
   refine c_seq ?_
   refine c_region ?_
   refine t_st rfl (st_move rfl) ?_
   refine t_st rfl (st_len rfl sl30) ?_
   refine t_st rfl (st_move rfl) ?_
   refine t_nil ?_
   refine x_then_normal ?_
   refine c_block ?_
   have hb105 : l4.length ≤ 9223372036854775807 := (FZ.bd h3)
   obtain ⟨t150, hl151, hk152⟩ := bindS hm
   refine c_forM (fun k149 => fun _ => fun b147 e' hp' => [(0, .slice A1 (l4).length c2), (1, .slice A5 (l8).length c6), (12, .int .i64 ((l4.length : Int))), (13, .int .i64 ((k149 : Int)))] = e' ∧ R = hp' ∧ b.Le b147) hl151 (e' := [(0, .slice A1 (l4).length c2), (1, .slice A5 (l8).length c6), (12, .int .i64 ((l4.length : Int))), (13, .int .i64 0)]) (hp' := R) ⟨rfl, rfl, rfl, rfl, trivial⟩ (.refl _) ⟨rfl, rfl, (Base.Le.refl _)⟩ ?_ ?_
   ·
    rintro k149 _ b147 _ _ oL104 hknL104 ⟨rfl, rfl, hle148⟩ hstepL104 houtL104
    unfold mSlicesEqual_L104 at hstepL104
    have hm := hstepL104
    refine c_seq ?_
    refine c_region ?_
    refine t_st rfl (st_lss_t rfl rfl (by omega)) ?_
    refine t_nil ?_
    refine x_then_normal ?_
    refine c_seq ?_
    refine c_cond_t rfl ?_
    refine c_skip ?_
    refine x_then_normal ?_
    refine c_seq ?_
    refine c_block ?_
    refine c_seq ?_
    refine c_region ?_
    refine t_st rfl (st_move rfl) ?_
    refine t_st rfl (st_assign rfl) ?_
    refine t_nil ?_
    refine x_then_normal ?_
    refine c_seq ?_
    obtain ⟨x173, h174, hm⟩ := bindS hm
    obtain ⟨x183, h184, hm⟩ := bindS hm
    refine D_drawS (R) mixed ?_
    refine E_in (.refl _) ?_
    refine E_st 0 rfl (st_move rfl) ?_
    refine E_st 1 rfl (st_move rfl) ?_
    obtain ⟨j175, hj176, hx177⟩ := idx_some h174
    obtain ⟨cs178, hr179, hcs180, hA181, hlt182⟩ := FZ.get (sz := 1) rfl (by decide) (h3.le hle148) hx177
    obtain rfl := hr179
    refine E_st 2 rfl (st_index_old j175 rfl rfl hj176 hlt182 hA181 sl30) ?_
    refine E_st 3 rfl (st_load_old rfl one3 (hcs180 0 _ rfl)) ?_
    refine E_st 4 rfl (st_move rfl) ?_
    refine E_st 5 rfl (st_move rfl) ?_
    obtain ⟨j185, hj186, hx187⟩ := idx_some h184
    obtain ⟨cs188, hr189, hcs190, hA191, hlt192⟩ := FZ.get (sz := 1) rfl (by decide) (h7.le hle148) hx187
    obtain rfl := hr189
    refine E_st 6 rfl (st_index_old j185 rfl rfl hj186 hlt192 hA191 sl30) ?_
    refine E_st 7 rfl (st_load_old rfl one3 (hcs190 0 _ rfl)) ?_
    refine E_st 8 rfl (st_neq rfl rfl) ?_
    refine E_out ?_
    refine D_done (by kernel_rfl) ?_
    refine x_then_normal ?_
    refine c_cond _ rfl (fun hc193 => ?_) (fun hc193 => ?_)
    ·
     rw [if_pos (of_decide_eq_true hc193)] at hm
     refine c_seq ?_
     refine c_region ?_
     refine t_st rfl (st_assign rfl) ?_
     refine t_nil ?_
     refine x_then_normal ?_
     refine c_ret ?_
     refine x_block_ret ?_
     refine x_then_ret ?_
     refine x_then_ret ?_
     refine x_block_ret ?_
     refine x_then_ret ?_
     have hq194 := houtL104 _ (Option.some.inj hm).symm
     rw [hq194] at hk152
     have hm := elimR hk152
     obtain rfl := some1 hm
     exact retM (rs := [.tmp 4]) [.bool (false)] hle148 (by decide) rfl ⟨rfl, trivial⟩ rfl (hp' := R) (.refl _) ⟨rfl, rfl⟩
    ·
     rw [if_neg (of_decide_eq_false hc193)] at hm
     refine c_skip ?_
     refine x_block_normal ?_
     refine x_then_normal ?_
     refine c_region ?_
     refine t_st rfl (st_add rfl rfl (by omega)) ?_
     refine t_st rfl (st_move rfl) ?_
     refine t_nil ?_
     exact x_againM () (Option.some.inj hm).symm (e' := [(0, .slice A1 (l4).length c2), (1, .slice A5 (l8).length c6), (12, .int .i64 ((l4.length : Int))), (13, .int .i64 ((k149 : Int) + 1))]) (hp' := R) ⟨rfl, rfl, rfl, rfl, trivial⟩ (.refl _) ⟨rfl, rfl, (hle148)⟩
   ·
    rintro _ b147 _ _ ⟨rfl, rfl, hle148⟩ hq195
    rw [hq195] at hk152
    have hm := elimL hk152
    refine c_seq ?_
    refine c_region ?_
    refine t_st rfl (st_lss_f rfl rfl (by omega)) ?_
    refine t_nil ?_
    refine x_then_normal ?_
    refine c_seq ?_
    refine c_cond_f rfl ?_
    refine c_exit ?_
    refine x_then_exit ?_
    refine x_then_exit ?_
    refine x_block_out ?_
    refine x_then_normal ?_
    refine c_seq ?_
    refine c_region ?_
    refine t_st rfl (st_assign rfl) ?_
    refine t_nil ?_
    refine x_then_normal ?_
    refine c_ret ?_
    obtain rfl := some1 hm
    exact retM (rs := [.tmp 4]) [.bool (true)] hle148 (by decide) rfl ⟨rfl, trivial⟩ rfl (hp' := R) (.refl _) ⟨rfl, rfl⟩

set_option maxRecDepth 20000 in
theorem cFishkeep2Periods (b : Base) (R : Hp) (x31 : Bool) (hm : mFishkeep2Periods = some x31) :
    CallsG Try.prog 7 [] b (R) (fun v b' hp' => .bool (x31) = v ∧ R = hp') := by
  refine fn_enterG 19 Try.func7 rfl Try.ntmps7 rfl ?_
  unfold mFishkeep2Periods at hm
  refine c_seq ?_
  refine c_region ?_
  refine t_st rfl (st_assign rfl) ?_
  refine t_nil ?_
  refine x_then_normal ?_
  refine c_seq ?_
  refine c_region ?_
  refine t_st rfl (st_build (v := .agg #[.int .i64 (0), .int .i64 (1), .int .i64 (3), .int .i64 (4), .int .i64 (0)]) [(0, .int .i64 (0)), (1, .int .i64 (1)), (2, .int .i64 (3)), (3, .int .i64 (4))] rfl (fun _ => by kernel_rfl)) ?_
  refine t_do rfl (u_bslice (el := 29) [(0, .agg #[.int .i64 (0), .int .i64 (1), .int .i64 (3), .int .i64 (4), .int .i64 (0)])] [.int .i64 (0), .int .i64 (1), .int .i64 (3), .int .i64 (4), .int .i64 (0)] rfl (fun _ => by kernel_rfl)) ?_
  rintro _ _ ⟨g32, rfl, rfl⟩
  refine t_st rfl (st_build (v := .agg #[.int .i64 (10), .int .i64 (2), .slice (some ⟨g32, 0, none⟩) 1 1]) [(0, .int .i64 (10)), (1, .int .i64 (2)), (2, .slice (some ⟨g32, 0, none⟩) 1 1)] rfl (fun _ => by kernel_rfl)) ?_
  refine t_do rfl (u_alloc [.int .i64 0, .int .i64 0, .slice none 0 0] zero24 rfl) ?_
  rintro _ _ ⟨g33, rfl, rfl⟩
  refine t_seg 1 [_] R rfl rfl ?_
  have h35 : OS 29 (OT.fr rPlanRule) b.w (.slice (some ⟨g32, 0, none⟩) 1 1) [(⟨0, 1, 3, 4, 0⟩ : PlanRule)] [(g32, Cl 29 [.int .i64 (0), .int .i64 (1), .int .i64 (3), .int .i64 (4), .int .i64 (0)])] := OS.lit [[.int .i64 (0), .int .i64 (1), .int .i64 (3), .int .i64 (4), .int .i64 (0)]] rfl ⟨⟨[.int .i64 (0)], _, rfl, rfl, ⟨[.int .i64 (1)], _, rfl, rfl, ⟨[.int .i64 (3)], _, rfl, rfl, ⟨[.int .i64 (4)], _, rfl, rfl, rfl⟩⟩⟩⟩, trivial⟩ rfl (by decide)
  refine t_do rfl (u_storeN (vs := [_, _, _]) 0 3 rfl rfl rfl siz24 rfl (by intro u hu; simp only [List.mem_cons, List.not_mem_nil, or_false] at hu; rcases hu with rfl | rfl | rfl <;> rfl) rfl (by simp)) ?_
  rintro _ _ rfl
  refine t_nil ?_
  refine x_then_normal ?_
  refine c_seq ?_
  refine c_region ?_
  refine t_st rfl (st_loadD (vs := [_, _, _]) 0 3 rfl agg24 rfl rfl rfl) ?_
  obtain ⟨⟨x36, l37⟩, hcl38, hm⟩ := bindS hm
  have hm := (unc2E hm)
  refine t_do rfl (u_callWF [_] ([(g32, Cl 29 [.int .i64 (0), .int .i64 (1), .int .i64 (3), .int .i64 (4), .int .i64 (0)])] ++ R) _ rfl call9 rfl (fun w ho => cPlanSolve _ [] (⟨10, 2, [(⟨0, 1, 3, 4, 0⟩ : PlanRule)]⟩ : PlanPeriodic) (some ⟨g32, 0, none⟩) 1 (OS.now (o := (OT.fr rPlanRule)) (l := [(⟨0, 1, 3, 4, 0⟩ : PlanRule)]) (hs := [(g32, Cl 29 [.int .i64 (0), .int .i64 (1), .int .i64 (3), .int .i64 (4), .int .i64 (0)])]) h35 ho (.cons _ (List.sublist_append_left _ _))) x36 l37 hcl38)) ?_
  rintro _ _ ⟨_, _, rfl, A39, c40, hs41, rfl, hq44, h42, hnz45⟩
  obtain rfl := List.append_cancel_right hq44
  have h43 := flat_fz (w' := b.w) (fun _ _ _ _ h => h) h42
  refine t_st rfl (st_move rfl) ?_
  refine t_st rfl (st_extract rfl rfl) ?_
  refine t_st rfl (st_extract rfl rfl) ?_
  refine t_st rfl (st_assign rfl) ?_
  refine t_st rfl (st_assign rfl) ?_
  refine t_nil ?_
  refine x_then_normal ?_
  obtain ⟨x54, hj55, hk55⟩ := bindS hm
  refine c_join (fun b52 e' hp' => [(0, .bool (x54))] = e' ∧ R = hp' ∧ b.Le b52) ?_ ?_
  ·
   have hm := hj55
   refine c_region ?_
   refine t_st rfl (st_move rfl) ?_
   refine t_bool rfl (st_eql rfl rfl) (fun hc56 => ?_) (fun hc56 => ?_)
   ·
    rw [if_pos hc56] at hm
    refine t_st rfl (st_move rfl) ?_
    refine t_yes 14 rfl rfl rfl ?_
    refine t_st rfl (st_move rfl) ?_
    refine t_yes 14 rfl rfl rfl ?_
    refine t_do rfl (u_bslice (el := 3) [(0, .int .i64 (0)), (1, .int .i64 (3))] [.int .i64 (0), .int .i64 (3)] rfl (fun _ => by kernel_rfl)) ?_
    rintro _ _ ⟨g57, rfl, rfl⟩
    refine t_yes 14 rfl rfl rfl ?_
    refine t_seg 0 [_] (hs41 ++ ([(g32, Cl 29 [.int .i64 (0), .int .i64 (1), .int .i64 (3), .int .i64 (4), .int .i64 (0)])] ++ R)) rfl rfl ?_
    have h59 : OS 3 (OT.fr (RT.int .i64)) b.w (.slice (some ⟨g57, 0, none⟩) 2 2) [0, 3] [(g57, Cl 3 [.int .i64 (0), .int .i64 (3)])] := OS.lit [[.int .i64 (0)], [.int .i64 (3)]] rfl ⟨rfl, ⟨rfl, trivial⟩⟩ rfl (by decide)
    obtain ⟨x60, hcl61, hm⟩ := bindS hm
    refine t_do rfl (u_callW0 _ call22 rfl (fun w ho => cSlicesEqual _ [] l37 [0, 3] A39 c40 (some ⟨g57, 0, none⟩) 2 (OS.now (o := (OT.fr (RT.int .i64))) (l := l37) (hs := hs41) h43 ho (.cons _ (sub_skip [(g57, Cl 3 [.int .i64 (0), .int .i64 (3)])] (List.sublist_append_left _ _)))) (OS.now (o := (OT.fr (RT.int .i64))) (l := [0, 3]) (hs := [(g57, Cl 3 [.int .i64 (0), .int .i64 (3)])]) h59 ho (.cons _ (List.sublist_append_left _ _))) x60 hcl61) (fun _ _ _ h => h.2.symm)) ?_
    rintro _ _ ⟨⟨_, rfl, _⟩, rfl⟩
    refine t_st rfl (st_pick_t rfl rfl) ?_
    refine t_st rfl (st_assign rfl) ?_
    refine t_nil ?_
    obtain rfl := some1 hm
    exact x_join (e' := [(0, .bool (x60))]) (hp' := R) ⟨rfl, trivial⟩ (.cons _ (sub_skip [(g57, Cl 3 [.int .i64 (0), .int .i64 (3)])] (sub_skip hs41 (sub_skip [(g32, Cl 29 [.int .i64 (0), .int .i64 (1), .int .i64 (3), .int .i64 (4), .int .i64 (0)])] (.refl _))))) ⟨rfl, rfl, (Base.Le.refl _)⟩
   ·
    rw [if_neg hc56] at hm
    refine t_st rfl (st_move rfl) ?_
    refine t_no 14 rfl rfl rfl rfl rfl ?_
    refine t_no 14 rfl rfl rfl rfl rfl ?_
    refine t_no 14 rfl rfl rfl rfl rfl ?_
    refine t_st rfl (st_pick_f rfl rfl) ?_
    refine t_st rfl (st_assign rfl) ?_
    refine t_nil ?_
    obtain rfl := some1 hm
    exact x_join (e' := [(0, .bool (false))]) (hp' := R) ⟨rfl, trivial⟩ (.cons _ (sub_skip hs41 (sub_skip [(g32, Cl 29 [.int .i64 (0), .int .i64 (1), .int .i64 (3), .int .i64 (4), .int .i64 (0)])] (.refl _)))) ⟨rfl, rfl, (Base.Le.refl _)⟩
  ·
   rintro b52 _ _ ⟨rfl, rfl, hle53⟩
   have hm := hk55
   refine c_ret ?_
   obtain rfl := some1 hm
   exact retM (rs := [.tmp 0]) [.bool (x54)] hle53 (by decide) rfl ⟨rfl, trivial⟩ rfl (hp' := R) (.refl _) ⟨rfl, rfl⟩

set_option maxRecDepth 20000 in
theorem cFishref2Within (b : Base) (R : Hp) (x1 : Int) (x2 : Int) (x3 : Int) (x10 : Bool) (hm : mFishref2Within x1 x2 x3 = some x10) :
    CallsG Try.prog 23 [.int .i64 (x1), .int .i64 (x2), .int .i64 (x3)] b (R) (fun v b' hp' => .bool (x10) = v ∧ R = hp') := by
  refine fn_enterG 15 Try.func23 rfl Try.ntmps23 rfl ?_
  unfold mFishref2Within at hm
  refine c_seq ?_
  refine c_region ?_
  refine t_st rfl (st_assign rfl) ?_
  refine t_nil ?_
  refine x_then_normal ?_
  obtain ⟨x14, hj15, hk15⟩ := bindS hm
  refine c_join (fun b12 e' hp' => [(6, .bool (x14))] = e' ∧ R = hp' ∧ b.Le b12) ?_ ?_
  ·
   have hm := hj15
   refine c_region ?_
   refine t_st rfl (st_move rfl) ?_
   refine t_st rfl (st_move rfl) ?_
   refine t_bool rfl (st_geq rfl rfl) (fun hc16 => ?_) (fun hc16 => ?_)
   ·
    rw [if_pos hc16] at hm
    refine t_st rfl (st_move rfl) ?_
    refine t_yes 10 rfl rfl rfl ?_
    refine t_st rfl (st_move rfl) ?_
    refine t_yes 10 rfl rfl rfl ?_
    refine t_st rfl (st_move rfl) ?_
    refine t_yes 10 rfl rfl rfl ?_
    refine t_st rfl (st_leq rfl rfl) ?_
    refine t_st rfl (st_pick_t rfl rfl) ?_
    refine t_st rfl (st_assign rfl) ?_
    refine t_nil ?_
    obtain rfl := some1 hm
    exact x_join (e' := [(6, .bool (decide (x1 ≤ x3)))]) (hp' := R) ⟨rfl, trivial⟩ (.refl _) ⟨rfl, rfl, (Base.Le.refl _)⟩
   ·
    rw [if_neg hc16] at hm
    refine t_st rfl (st_move rfl) ?_
    refine t_no 10 rfl rfl rfl rfl rfl ?_
    refine t_no 10 rfl rfl rfl rfl rfl ?_
    refine t_no 10 rfl rfl rfl rfl rfl ?_
    refine t_st rfl (st_pick_f rfl rfl) ?_
    refine t_st rfl (st_assign rfl) ?_
    refine t_nil ?_
    obtain rfl := some1 hm
    exact x_join (e' := [(6, .bool (false))]) (hp' := R) ⟨rfl, trivial⟩ (.refl _) ⟨rfl, rfl, (Base.Le.refl _)⟩
  ·
   rintro b12 _ _ ⟨rfl, rfl, hle13⟩
   have hm := hk15
   refine c_ret ?_
   obtain rfl := some1 hm
   exact retM (rs := [.tmp 6]) [.bool (x14)] hle13 (by decide) rfl ⟨rfl, trivial⟩ rfl (hp' := R) (.refl _) ⟨rfl, rfl⟩

set_option maxRecDepth 20000 in
theorem cFishref2PeriodicFault (b : Base) (R : Hp) (s1 : PlanPeriodic) (A2 : Option Addr) (c3 : Nat) (h4 : FZ rPlanRule b.w A2 c3 s1.Rules) (x142 : Int) (hm : mFishref2PeriodicFault s1 = some x142) :
    CallsG Try.prog 8 [.agg #[.int .i64 (s1.Period), .int .i64 (s1.Events), .slice A2 (s1.Rules).length c3]] b (R) (fun v b' hp' => .int .i64 (x142) = v ∧ R = hp') := by
  refine fn_enterG 79 Try.func8 rfl Try.ntmps8 rfl ?_
  unfold mFishref2PeriodicFault at hm
  refine c_seq ?_
  refine c_region ?_
  refine t_do rfl (u_box _ rfl rfl) ?_
  rintro _ _ ⟨g143, rfl, rfl⟩
  refine t_st rfl (st_assign rfl) ?_
  refine t_nil ?_
  refine x_then_normal ?_
  refine c_seq ?_
  obtain ⟨x151, hj152, hk152⟩ := bindS hm
  refine c_join (fun b149 e' hp' => [(1, .pointer (some ⟨g143, 0, none⟩)), (14, .bool (x151))] = e' ∧ (g143, Cl 24 [.int .i64 (s1.Period), .int .i64 (s1.Events), .slice A2 (s1.Rules).length c3]) :: R = hp' ∧ b.Le b149) ?_ ?_
  ·
   have hm := hj152
   refine c_region ?_
   refine t_st rfl (st_field rfl fld24_0) ?_
   refine t_st rfl (st_load 0 rfl one3 rfl rfl) ?_
   obtain ⟨x153, hcl154, hm⟩ := bindS hm
   refine t_do rfl (u_callW0 _ call23 rfl (fun w ho => cFishref2Within _ [] s1.Period 2 3600 x153 hcl154) (fun _ _ _ h => h.2.symm)) ?_
   rintro _ _ ⟨⟨_, rfl, _⟩, rfl⟩
   rcases Bool.eq_false_or_eq_true x153 with hc155 | hc155
   ·
    rw [if_pos hc155] at hm
    refine t_resp 7 rfl (v' := .bool true) (by rw [hc155] <;> rfl) ?_
    refine t_st rfl (st_not_t rfl) ?_
    refine t_st rfl (st_move rfl) ?_
    refine t_yes 9 rfl rfl rfl ?_
    refine t_st rfl (st_field rfl fld24_1) ?_
    refine t_yes 9 rfl rfl rfl ?_
    refine t_st rfl (st_load 0 rfl one3 rfl rfl) ?_
    refine t_yes 9 rfl rfl rfl ?_
    obtain ⟨x156, hcl157, hm⟩ := bindS hm
    refine t_do rfl (u_callW0 _ call23 rfl (fun w ho => cFishref2Within _ [] s1.Events 1 8 x156 hcl157) (fun _ _ _ h => h.2.symm)) ?_
    rintro _ _ ⟨⟨_, rfl, _⟩, rfl⟩
    refine t_yes 9 rfl rfl rfl ?_
    refine t_st rfl (st_not rfl) ?_
    refine t_st rfl (st_pick_f rfl rfl) ?_
    refine t_nil ?_
    obtain rfl := some1 hm
    exact x_join (e' := [(1, .pointer (some ⟨g143, 0, none⟩)), (14, .bool (!x156))]) (hp' := (g143, Cl 24 [.int .i64 (s1.Period), .int .i64 (s1.Events), .slice A2 (s1.Rules).length c3]) :: R) ⟨rfl, rfl, trivial⟩ (.cons_cons _ (.refl _)) ⟨rfl, rfl, (Base.Le.refl _)⟩
   ·
    rw [if_neg (fun hh => Bool.noConfusion (hh.symm.trans hc155))] at hm
    refine t_resp 7 rfl (v' := .bool false) (by rw [hc155] <;> rfl) ?_
    refine t_st rfl (st_not_f rfl) ?_
    refine t_st rfl (st_move rfl) ?_
    refine t_no 9 rfl rfl rfl rfl rfl ?_
    refine t_no 9 rfl rfl rfl rfl rfl ?_
    refine t_no 9 rfl rfl rfl rfl rfl ?_
    refine t_no 9 rfl rfl rfl rfl rfl ?_
    refine t_st rfl (st_pick_t rfl rfl) ?_
    refine t_nil ?_
    obtain rfl := some1 hm
    exact x_join (e' := [(1, .pointer (some ⟨g143, 0, none⟩)), (14, .bool (true))]) (hp' := (g143, Cl 24 [.int .i64 (s1.Period), .int .i64 (s1.Events), .slice A2 (s1.Rules).length c3]) :: R) ⟨rfl, rfl, trivial⟩ (.cons_cons _ (.refl _)) ⟨rfl, rfl, (Base.Le.refl _)⟩
  ·
   rintro b149 _ _ ⟨rfl, rfl, hle150⟩
   have hm := hk152
   refine c_cond _ rfl (fun hc158 => ?_) (fun hc158 => ?_)
   ·
    rw [if_pos hc158] at hm
    refine c_seq ?_
    refine c_region ?_
    refine t_st rfl (st_assign rfl) ?_
    refine t_nil ?_
    refine x_then_normal ?_
    refine c_ret ?_
    refine x_then_ret ?_
    obtain rfl := some1 hm
    exact retM (rs := [.tmp 2]) [.int .i64 (2)] hle150 (by decide) rfl ⟨rfl, trivial⟩ rfl (hp' := R) (.cons _ (.refl _)) ⟨rfl, rfl⟩
   ·
    rw [if_neg (fun hh => Bool.noConfusion (hh.symm.trans hc158))] at hm
    refine c_skip ?_
    refine x_then_normal ?_
    refine c_seq ?_
    refine c_seq ?_
    refine c_region ?_
    refine t_st rfl (st_field rfl fld24_2) ?_
    refine t_st rfl (st_load 0 rfl one22 rfl rfl) ?_
    refine t_st rfl (st_len rfl sl22) ?_
    refine t_st rfl (st_gtr rfl rfl) ?_
    refine t_nil ?_
    refine x_then_normal ?_
    refine c_cond _ rfl (fun hc159 => ?_) (fun hc159 => ?_)
    ·
     rw [if_pos (of_decide_eq_true hc159)] at hm
     refine c_seq ?_
     refine c_region ?_
     refine t_st rfl (st_assign rfl) ?_
     refine t_nil ?_
     refine x_then_normal ?_
     refine c_ret ?_
     refine x_then_ret ?_
     obtain rfl := some1 hm
     exact retM (rs := [.tmp 2]) [.int .i64 (4)] hle150 (by decide) rfl ⟨rfl, trivial⟩ rfl (hp' := R) (.cons _ (.refl _)) ⟨rfl, rfl⟩
    ·
     rw [if_neg (of_decide_eq_false hc159)] at hm
     refine c_skip ?_
     refine x_then_normal ?_
     refine c_seq ?_
     refine c_seq ?_
     refine c_region ?_
     refine t_st rfl (st_field rfl fld24_2) ?_
     refine t_st rfl (st_load 0 rfl one22 rfl rfl) ?_
     refine t_st rfl (st_len rfl sl22) ?_
     refine t_st rfl (st_move rfl) ?_
     refine t_nil ?_
     refine x_then_normal ?_
     refine c_block ?_
     have hb161 : s1.Rules.length ≤ 9223372036854775807 := (FZ.bd (h4.le hle150))
     obtain ⟨t219, hl220, hk221⟩ := bindS hm
     refine c_forM (fun k218 => fun _ => fun b216 e' hp' => [(1, .pointer (some ⟨g143, 0, none⟩)), (20, .slice A2 (s1.Rules).length c3), (21, .int .i64 ((s1.Rules.length : Int))), (22, .int .i64 ((k218 : Int)))] = e' ∧ (g143, Cl 24 [.int .i64 (s1.Period), .int .i64 (s1.Events), .slice A2 (s1.Rules).length c3]) :: R = hp' ∧ b149.Le b216) hl220 (e' := [(1, .pointer (some ⟨g143, 0, none⟩)), (20, .slice A2 (s1.Rules).length c3), (21, .int .i64 ((s1.Rules.length : Int))), (22, .int .i64 0)]) (hp' := (g143, Cl 24 [.int .i64 (s1.Period), .int .i64 (s1.Events), .slice A2 (s1.Rules).length c3]) :: R) ⟨rfl, rfl, rfl, rfl, trivial⟩ (.cons_cons _ (.refl _)) ⟨rfl, rfl, (Base.Le.refl _)⟩ ?_ ?_
     ·
      rintro k218 _ b216 _ _ oL160 hknL160 ⟨rfl, rfl, hle217⟩ hstepL160 houtL160
      unfold mFishref2PeriodicFault_L160 at hstepL160
      have hm := hstepL160
      refine c_seq ?_
      refine c_region ?_
      refine t_st rfl (st_lss_t rfl rfl (by omega)) ?_
      refine t_nil ?_
      refine x_then_normal ?_
      refine c_seq ?_
      refine c_cond_t rfl ?_
      refine c_skip ?_
      refine x_then_normal ?_
      refine c_seq ?_
      refine c_block ?_
      refine c_seq ?_
      refine c_region ?_
      obtain ⟨x222, h223, hm⟩ := bindS hm
      obtain ⟨j224, hj225, hx226⟩ := idx_some h223
      obtain ⟨cs227, hr228, hcs229, hA230, hlt231⟩ := FZ.get (sz := 5) rfl (by decide) (h4.le (hle150.trans hle217)) hx226
      obtain ⟨_, _, rfl, rfl, ⟨_, _, rfl, rfl, ⟨_, _, rfl, rfl, ⟨_, _, rfl, rfl, rfl⟩⟩⟩⟩ := hr228
      refine t_st rfl (st_index_old j224 rfl rfl hj225 hlt231 hA230 sl22) ?_
      refine t_st rfl (st_loadN_old (vs := [.int .i64 (x222.From), .int .i64 (x222.To), .int .i64 (x222.Min), .int .i64 (x222.Max), .int .i64 (x222.Weight)]) 5 rfl agg29 hA230 rfl (fun j u hu => hcs229 j u hu)) ?_
      refine t_do rfl (u_alloc [.int .i64 0, .int .i64 0, .int .i64 0, .int .i64 0, .int .i64 0] zero29 rfl) ?_
      rintro _ _ ⟨g232, rfl, rfl⟩
      refine t_do rfl (u_storeN (vs := [_, _, _, _, _]) 0 5 rfl rfl rfl siz29 rfl (by intro u hu; simp only [List.mem_cons, List.not_mem_nil, or_false] at hu; rcases hu with rfl | rfl | rfl | rfl | rfl <;> rfl) rfl (by simp)) ?_
      rintro _ _ rfl
      refine t_nil ?_
      refine x_then_normal ?_
      refine c_block ?_
      obtain ⟨x242, hj243, hk243⟩ := bindS hm
      refine c_join (fun b240 e' hp' => [(1, .pointer (some ⟨g143, 0, none⟩)), (4, .pointer (some ⟨g232, 0, none⟩)), (20, .slice A2 (s1.Rules).length c3), (21, .int .i64 ((s1.Rules.length : Int))), (22, .int .i64 ((k218 : Int))), (26, .bool (x242))] = e' ∧ (g143, Cl 24 [.int .i64 (s1.Period), .int .i64 (s1.Events), .slice A2 (s1.Rules).length c3]) :: (g232, Cl 29 [.int .i64 (x222.From), .int .i64 (x222.To), .int .i64 (x222.Min), .int .i64 (x222.Max), .int .i64 (x222.Weight)]) :: R = hp' ∧ b216.Le b240) ?_ ?_
      ·
       have hm := hj243
       refine c_region ?_
       refine t_st rfl (st_field rfl fld29_0) ?_
       refine t_st rfl (st_load 0 rfl one3 rfl rfl) ?_
       refine t_st rfl (st_field rfl fld24_1) ?_
       refine t_st rfl (st_load 1 rfl one3 rfl rfl) ?_
       obtain ⟨_, h244, hm⟩ := bindS hm
       have h244 := (chk_some h244).2
       refine t_st rfl (st_sub rfl rfl h244) ?_
       obtain ⟨x245, hcl246, hm⟩ := bindS hm
       refine t_do rfl (u_callW0 _ call23 rfl (fun w ho => cFishref2Within _ [] x222.From 0 (s1.Events - 1) x245 hcl246) (fun _ _ _ h => h.2.symm)) ?_
       rintro _ _ ⟨⟨_, rfl, _⟩, rfl⟩
       rcases Bool.eq_false_or_eq_true x245 with hc247 | hc247
       ·
        rw [if_pos hc247] at hm
        refine t_resp 32 rfl (v' := .bool true) (by rw [hc247] <;> rfl) ?_
        refine t_st rfl (st_not_t rfl) ?_
        refine t_st rfl (st_move rfl) ?_
        refine t_yes 34 rfl rfl rfl ?_
        refine t_st rfl (st_field rfl fld29_1) ?_
        refine t_yes 34 rfl rfl rfl ?_
        refine t_st rfl (st_load 0 rfl one3 rfl rfl) ?_
        refine t_yes 34 rfl rfl rfl ?_
        refine t_st rfl (st_field rfl fld24_1) ?_
        refine t_yes 34 rfl rfl rfl ?_
        refine t_st rfl (st_load 1 rfl one3 rfl rfl) ?_
        refine t_yes 34 rfl rfl rfl ?_
        obtain ⟨_, h248, hm⟩ := bindS hm
        have h248 := (chk_some h248).2
        refine t_st rfl (st_sub rfl rfl h248) ?_
        refine t_yes 34 rfl rfl rfl ?_
        obtain ⟨x249, hcl250, hm⟩ := bindS hm
        refine t_do rfl (u_callW0 _ call23 rfl (fun w ho => cFishref2Within _ [] x222.To 0 (s1.Events - 1) x249 hcl250) (fun _ _ _ h => h.2.symm)) ?_
        rintro _ _ ⟨⟨_, rfl, _⟩, rfl⟩
        refine t_yes 34 rfl rfl rfl ?_
        refine t_st rfl (st_not rfl) ?_
        refine t_st rfl (st_pick_f rfl rfl) ?_
        refine t_st rfl (st_assign rfl) ?_
        refine t_nil ?_
        obtain rfl := some1 hm
        refine x_pullb 1 rfl ?_
        exact x_join (e' := [(1, .pointer (some ⟨g143, 0, none⟩)), (4, .pointer (some ⟨g232, 0, none⟩)), (20, .slice A2 (s1.Rules).length c3), (21, .int .i64 ((s1.Rules.length : Int))), (22, .int .i64 ((k218 : Int))), (26, .bool (!x249))]) (hp' := (g143, Cl 24 [.int .i64 (s1.Period), .int .i64 (s1.Events), .slice A2 (s1.Rules).length c3]) :: (g232, Cl 29 [.int .i64 (x222.From), .int .i64 (x222.To), .int .i64 (x222.Min), .int .i64 (x222.Max), .int .i64 (x222.Weight)]) :: R) ⟨rfl, rfl, rfl, rfl, rfl, rfl, trivial⟩ (.cons_cons _ (.cons_cons _ (.refl _))) ⟨rfl, rfl, (Base.Le.refl _)⟩
       ·
        rw [if_neg (fun hh => Bool.noConfusion (hh.symm.trans hc247))] at hm
        refine t_resp 32 rfl (v' := .bool false) (by rw [hc247] <;> rfl) ?_
        refine t_st rfl (st_not_f rfl) ?_
        refine t_st rfl (st_move rfl) ?_
        refine t_no 34 rfl rfl rfl rfl rfl ?_
        refine t_no 34 rfl rfl rfl rfl rfl ?_
        refine t_no 34 rfl rfl rfl rfl rfl ?_
        refine t_no 34 rfl rfl rfl rfl rfl ?_
        refine t_no 34 rfl rfl rfl rfl rfl ?_
        refine t_no 34 rfl rfl rfl rfl rfl ?_
        refine t_no 34 rfl rfl rfl rfl rfl ?_
        refine t_st rfl (st_pick_t rfl rfl) ?_
        refine t_st rfl (st_assign rfl) ?_
        refine t_nil ?_
        obtain rfl := some1 hm
        refine x_pullb 1 rfl ?_
        exact x_join (e' := [(1, .pointer (some ⟨g143, 0, none⟩)), (4, .pointer (some ⟨g232, 0, none⟩)), (20, .slice A2 (s1.Rules).length c3), (21, .int .i64 ((s1.Rules.length : Int))), (22, .int .i64 ((k218 : Int))), (26, .bool (true))]) (hp' := (g143, Cl 24 [.int .i64 (s1.Period), .int .i64 (s1.Events), .slice A2 (s1.Rules).length c3]) :: (g232, Cl 29 [.int .i64 (x222.From), .int .i64 (x222.To), .int .i64 (x222.Min), .int .i64 (x222.Max), .int .i64 (x222.Weight)]) :: R) ⟨rfl, rfl, rfl, rfl, rfl, rfl, trivial⟩ (.cons_cons _ (.cons_cons _ (.refl _))) ⟨rfl, rfl, (Base.Le.refl _)⟩
      ·
       rintro b240 _ _ ⟨rfl, rfl, hle241⟩
       have hm := hk243
       refine c_cond _ rfl (fun hc251 => ?_) (fun hc251 => ?_)
       ·
        rw [if_pos hc251] at hm
        refine c_seq ?_
        refine c_region ?_
        refine t_st rfl (st_assign rfl) ?_
        refine t_nil ?_
        refine x_then_normal ?_
        refine c_ret ?_
        refine x_block_ret ?_
        refine x_block_ret ?_
        refine x_then_ret ?_
        refine x_then_ret ?_
        refine x_block_ret ?_
        refine x_then_ret ?_
        have hq252 := houtL160 _ (Option.some.inj hm).symm
        rw [hq252] at hk221
        have hm := elimR hk221
        obtain rfl := some1 hm
        exact retM (rs := [.tmp 2]) [.int .i64 (3)] (hle150.trans (hle217.trans hle241)) (by decide) rfl ⟨rfl, trivial⟩ rfl (hp' := R) (.cons _ (.cons _ (.refl _))) ⟨rfl, rfl⟩
       ·
        rw [if_neg (fun hh => Bool.noConfusion (hh.symm.trans hc251))] at hm
        refine c_seq ?_
        refine c_region ?_
        refine t_st rfl (st_field rfl fld29_0) ?_
        refine t_st rfl (st_load 1 rfl one3 rfl rfl) ?_
        refine t_st rfl (st_field rfl fld29_1) ?_
        refine t_st rfl (st_load 1 rfl one3 rfl rfl) ?_
        refine t_st rfl (st_eql rfl rfl) ?_
        refine t_st rfl (st_assign rfl) ?_
        refine t_nil ?_
        refine x_then_normal ?_
        refine c_cond _ rfl (fun hc253 => ?_) (fun hc253 => ?_)
        ·
         rw [if_pos (of_decide_eq_true hc253)] at hm
         refine c_seq ?_
         refine c_region ?_
         refine t_st rfl (st_assign rfl) ?_
         refine t_nil ?_
         refine x_then_normal ?_
         refine c_ret ?_
         refine x_block_ret ?_
         refine x_block_ret ?_
         refine x_then_ret ?_
         refine x_then_ret ?_
         refine x_block_ret ?_
         refine x_then_ret ?_
         have hq254 := houtL160 _ (Option.some.inj hm).symm
         rw [hq254] at hk221
         have hm := elimR hk221
         obtain rfl := some1 hm
         exact retM (rs := [.tmp 2]) [.int .i64 (1)] (hle150.trans (hle217.trans hle241)) (by decide) rfl ⟨rfl, trivial⟩ rfl (hp' := R) (.cons _ (.cons _ (.refl _))) ⟨rfl, rfl⟩
        ·
         rw [if_neg (of_decide_eq_false hc253)] at hm
         obtain ⟨x266, hj267, hk267⟩ := bindS hm
         refine c_join (fun b264 e' hp' => [(1, .pointer (some ⟨g143, 0, none⟩)), (20, .slice A2 (s1.Rules).length c3), (21, .int .i64 ((s1.Rules.length : Int))), (22, .int .i64 ((k218 : Int))), (49, .bool (x266))] = e' ∧ (g143, Cl 24 [.int .i64 (s1.Period), .int .i64 (s1.Events), .slice A2 (s1.Rules).length c3]) :: R = hp' ∧ b240.Le b264) ?_ ?_
         ·
          have hm := hj267
          refine c_region ?_
          refine t_st rfl (st_field rfl fld29_2) ?_
          refine t_st rfl (st_load 1 rfl one3 rfl rfl) ?_
          obtain ⟨x268, hcl269, hm⟩ := bindS hm
          refine t_do rfl (u_callW0 _ call23 rfl (fun w ho => cFishref2Within _ [] x222.Min 0 3600 x268 hcl269) (fun _ _ _ h => h.2.symm)) ?_
          rintro _ _ ⟨⟨_, rfl, _⟩, rfl⟩
          rcases Bool.eq_false_or_eq_true x268 with hc270 | hc270
          ·
           rw [if_pos hc270] at hm
           refine t_resp 52 rfl (v' := .bool true) (by rw [hc270] <;> rfl) ?_
           refine t_st rfl (st_not_t rfl) ?_
           refine t_st rfl (st_move rfl) ?_
           refine t_yes 54 rfl rfl rfl ?_
           refine t_st rfl (st_field rfl fld29_3) ?_
           refine t_yes 54 rfl rfl rfl ?_
           refine t_st rfl (st_load 1 rfl one3 rfl rfl) ?_
           refine t_yes 54 rfl rfl rfl ?_
           refine t_st rfl (st_field rfl fld29_2) ?_
           refine t_yes 54 rfl rfl rfl ?_
           refine t_st rfl (st_load 1 rfl one3 rfl rfl) ?_
           refine t_yes 54 rfl rfl rfl ?_
           refine t_bool rfl (st_lss rfl rfl) (fun hc271 => ?_) (fun hc271 => ?_)
           ·
            rw [if_pos hc271] at hm
            refine t_st rfl (st_pick_f rfl rfl) ?_
            refine t_st rfl (st_move rfl) ?_
            refine t_no 61 rfl rfl rfl rfl rfl ?_
            refine t_no 61 rfl rfl rfl rfl rfl ?_
            refine t_no 61 rfl rfl rfl rfl rfl ?_
            refine t_no 61 rfl rfl rfl rfl rfl ?_
            refine t_no 61 rfl rfl rfl rfl rfl ?_
            refine t_no 61 rfl rfl rfl rfl rfl ?_
            refine t_no 61 rfl rfl rfl rfl rfl ?_
            refine t_no 61 rfl rfl rfl rfl rfl ?_
            refine t_no 61 rfl rfl rfl rfl rfl ?_
            refine t_st rfl (st_pick_t rfl rfl) ?_
            refine t_st rfl (st_move rfl) ?_
            refine t_no 72 rfl rfl rfl rfl rfl ?_
            refine t_no 72 rfl rfl rfl rfl rfl ?_
            refine t_no 72 rfl rfl rfl rfl rfl ?_
            refine t_no 72 rfl rfl rfl rfl rfl ?_
            refine t_st rfl (st_pick_t rfl rfl) ?_
            refine t_st rfl (st_assign rfl) ?_
            refine t_nil ?_
            obtain rfl := some1 hm
            exact x_join (e' := [(1, .pointer (some ⟨g143, 0, none⟩)), (20, .slice A2 (s1.Rules).length c3), (21, .int .i64 ((s1.Rules.length : Int))), (22, .int .i64 ((k218 : Int))), (49, .bool (true))]) (hp' := (g143, Cl 24 [.int .i64 (s1.Period), .int .i64 (s1.Events), .slice A2 (s1.Rules).length c3]) :: R) ⟨rfl, rfl, rfl, rfl, rfl, trivial⟩ (.cons_cons _ (.cons _ (.refl _))) ⟨rfl, rfl, (Base.Le.refl _)⟩
           ·
            rw [if_neg hc271] at hm
            refine t_st rfl (st_pick_f rfl rfl) ?_
            refine t_st rfl (st_move rfl) ?_
            refine t_yes 61 rfl rfl rfl ?_
            refine t_st rfl (st_field rfl fld29_3) ?_
            refine t_yes 61 rfl rfl rfl ?_
            refine t_st rfl (st_load 1 rfl one3 rfl rfl) ?_
            refine t_yes 61 rfl rfl rfl ?_
            refine t_st rfl (st_field rfl fld29_2) ?_
            refine t_yes 61 rfl rfl rfl ?_
            refine t_st rfl (st_load 1 rfl one3 rfl rfl) ?_
            refine t_yes 61 rfl rfl rfl ?_
            refine t_st rfl (st_field rfl fld24_0) ?_
            refine t_yes 61 rfl rfl rfl ?_
            refine t_st rfl (st_load 0 rfl one3 rfl rfl) ?_
            refine t_yes 61 rfl rfl rfl ?_
            obtain ⟨_, h272, hm⟩ := bindS hm
            have h272 := (chk_some h272).2
            refine t_st rfl (st_add rfl rfl h272) ?_
            refine t_yes 61 rfl rfl rfl ?_
            obtain ⟨_, h273, hm⟩ := bindS hm
            have h273 := (chk_some h273).2
            refine t_st rfl (st_sub rfl rfl h273) ?_
            refine t_yes 61 rfl rfl rfl ?_
            refine t_bool rfl (st_gtr rfl rfl) (fun hc274 => ?_) (fun hc274 => ?_)
            ·
             rw [if_pos hc274] at hm
             refine t_st rfl (st_pick_f rfl rfl) ?_
             refine t_st rfl (st_move rfl) ?_
             refine t_no 72 rfl rfl rfl rfl rfl ?_
             refine t_no 72 rfl rfl rfl rfl rfl ?_
             refine t_no 72 rfl rfl rfl rfl rfl ?_
             refine t_no 72 rfl rfl rfl rfl rfl ?_
             refine t_st rfl (st_pick_t rfl rfl) ?_
             refine t_st rfl (st_assign rfl) ?_
             refine t_nil ?_
             obtain rfl := some1 hm
             exact x_join (e' := [(1, .pointer (some ⟨g143, 0, none⟩)), (20, .slice A2 (s1.Rules).length c3), (21, .int .i64 ((s1.Rules.length : Int))), (22, .int .i64 ((k218 : Int))), (49, .bool (true))]) (hp' := (g143, Cl 24 [.int .i64 (s1.Period), .int .i64 (s1.Events), .slice A2 (s1.Rules).length c3]) :: R) ⟨rfl, rfl, rfl, rfl, rfl, trivial⟩ (.cons_cons _ (.cons _ (.refl _))) ⟨rfl, rfl, (Base.Le.refl _)⟩
            ·
             rw [if_neg hc274] at hm
             refine t_st rfl (st_pick_f rfl rfl) ?_
             refine t_st rfl (st_move rfl) ?_
             refine t_yes 72 rfl rfl rfl ?_
             refine t_st rfl (st_field rfl fld29_4) ?_
             refine t_yes 72 rfl rfl rfl ?_
             refine t_st rfl (st_load 1 rfl one3 rfl rfl) ?_
             refine t_yes 72 rfl rfl rfl ?_
             obtain ⟨x275, hcl276, hm⟩ := bindS hm
             refine t_do rfl (u_callW0 _ call23 rfl (fun w ho => cFishref2Within _ [] x222.Weight 0 1000 x275 hcl276) (fun _ _ _ h => h.2.symm)) ?_
             rintro _ _ ⟨⟨_, rfl, _⟩, rfl⟩
             refine t_yes 72 rfl rfl rfl ?_
             refine t_st rfl (st_not rfl) ?_
             refine t_st rfl (st_pick_f rfl rfl) ?_
             refine t_st rfl (st_assign rfl) ?_
             refine t_nil ?_
             obtain rfl := some1 hm
             exact x_join (e' := [(1, .pointer (some ⟨g143, 0, none⟩)), (20, .slice A2 (s1.Rules).length c3), (21, .int .i64 ((s1.Rules.length : Int))), (22, .int .i64 ((k218 : Int))), (49, .bool (!x275))]) (hp' := (g143, Cl 24 [.int .i64 (s1.Period), .int .i64 (s1.Events), .slice A2 (s1.Rules).length c3]) :: R) ⟨rfl, rfl, rfl, rfl, rfl, trivial⟩ (.cons_cons _ (.cons _ (.refl _))) ⟨rfl, rfl, (Base.Le.refl _)⟩
          ·
           rw [if_neg (fun hh => Bool.noConfusion (hh.symm.trans hc270))] at hm
           refine t_resp 52 rfl (v' := .bool false) (by rw [hc270] <;> rfl) ?_
           refine t_st rfl (st_not_f rfl) ?_
           refine t_st rfl (st_move rfl) ?_
           refine t_no 54 rfl rfl rfl rfl rfl ?_
           refine t_no 54 rfl rfl rfl rfl rfl ?_
           refine t_no 54 rfl rfl rfl rfl rfl ?_
           refine t_no 54 rfl rfl rfl rfl rfl ?_
           refine t_no 54 rfl rfl rfl rfl rfl ?_
           refine t_st rfl (st_pick_t rfl rfl) ?_
           refine t_st rfl (st_move rfl) ?_
           refine t_no 61 rfl rfl rfl rfl rfl ?_
           refine t_no 61 rfl rfl rfl rfl rfl ?_
           refine t_no 61 rfl rfl rfl rfl rfl ?_
           refine t_no 61 rfl rfl rfl rfl rfl ?_
           refine t_no 61 rfl rfl rfl rfl rfl ?_
           refine t_no 61 rfl rfl rfl rfl rfl ?_
           refine t_no 61 rfl rfl rfl rfl rfl ?_
           refine t_no 61 rfl rfl rfl rfl rfl ?_
           refine t_no 61 rfl rfl rfl rfl rfl ?_
           refine t_st rfl (st_pick_t rfl rfl) ?_
           refine t_st rfl (st_move rfl) ?_
           refine t_no 72 rfl rfl rfl rfl rfl ?_
           refine t_no 72 rfl rfl rfl rfl rfl ?_
           refine t_no 72 rfl rfl rfl rfl rfl ?_
           refine t_no 72 rfl rfl rfl rfl rfl ?_
           refine t_st rfl (st_pick_t rfl rfl) ?_
           refine t_st rfl (st_assign rfl) ?_
           refine t_nil ?_
           obtain rfl := some1 hm
           exact x_join (e' := [(1, .pointer (some ⟨g143, 0, none⟩)), (20, .slice A2 (s1.Rules).length c3), (21, .int .i64 ((s1.Rules.length : Int))), (22, .int .i64 ((k218 : Int))), (49, .bool (true))]) (hp' := (g143, Cl 24 [.int .i64 (s1.Period), .int .i64 (s1.Events), .slice A2 (s1.Rules).length c3]) :: R) ⟨rfl, rfl, rfl, rfl, rfl, trivial⟩ (.cons_cons _ (.cons _ (.refl _))) ⟨rfl, rfl, (Base.Le.refl _)⟩
         ·
          rintro b264 _ _ ⟨rfl, rfl, hle265⟩
          have hm := hk267
          refine c_cond _ rfl (fun hc277 => ?_) (fun hc277 => ?_)
          ·
           rw [if_pos hc277] at hm
           refine c_seq ?_
           refine c_region ?_
           refine t_st rfl (st_assign rfl) ?_
           refine t_nil ?_
           refine x_then_normal ?_
           refine c_ret ?_
           refine x_block_ret ?_
           refine x_block_ret ?_
           refine x_then_ret ?_
           refine x_then_ret ?_
           refine x_block_ret ?_
           refine x_then_ret ?_
           have hq278 := houtL160 _ (Option.some.inj hm).symm
           rw [hq278] at hk221
           have hm := elimR hk221
           obtain rfl := some1 hm
           exact retM (rs := [.tmp 2]) [.int .i64 (2)] (hle150.trans (hle217.trans (hle241.trans hle265))) (by decide) rfl ⟨rfl, trivial⟩ rfl (hp' := R) (.cons _ (.refl _)) ⟨rfl, rfl⟩
          ·
           rw [if_neg (fun hh => Bool.noConfusion (hh.symm.trans hc277))] at hm
           refine c_skip ?_
           refine x_block_normal ?_
           refine x_block_normal ?_
           refine x_then_normal ?_
           refine c_region ?_
           refine t_st rfl (st_add rfl rfl (by omega)) ?_
           refine t_st rfl (st_move rfl) ?_
           refine t_nil ?_
           exact x_againM () (Option.some.inj hm).symm (e' := [(1, .pointer (some ⟨g143, 0, none⟩)), (20, .slice A2 (s1.Rules).length c3), (21, .int .i64 ((s1.Rules.length : Int))), (22, .int .i64 ((k218 : Int) + 1))]) (hp' := (g143, Cl 24 [.int .i64 (s1.Period), .int .i64 (s1.Events), .slice A2 (s1.Rules).length c3]) :: R) ⟨rfl, rfl, rfl, rfl, trivial⟩ (.cons_cons _ (.refl _)) ⟨rfl, rfl, ((hle217.trans (hle241.trans hle265)))⟩
     ·
      rintro _ b216 _ _ ⟨rfl, rfl, hle217⟩ hq279
      rw [hq279] at hk221
      have hm := elimL hk221
      refine c_seq ?_
      refine c_region ?_
      refine t_st rfl (st_lss_f rfl rfl (by omega)) ?_
      refine t_nil ?_
      refine x_then_normal ?_
      refine c_seq ?_
      refine c_cond_f rfl ?_
      refine c_exit ?_
      refine x_then_exit ?_
      refine x_then_exit ?_
      refine x_block_out ?_
      refine x_then_normal ?_
      refine c_seq ?_
      refine c_region ?_
      refine t_st rfl (st_assign rfl) ?_
      refine t_nil ?_
      refine x_then_normal ?_
      refine c_ret ?_
      obtain rfl := some1 hm
      exact retM (rs := [.tmp 2]) [.int .i64 (0)] (hle150.trans hle217) (by decide) rfl ⟨rfl, trivial⟩ rfl (hp' := R) (.cons _ (.refl _)) ⟨rfl, rfl⟩

set_option maxRecDepth 20000 in
theorem cFishref2TimesFault (b : Base) (R : Hp) (s1 : PlanPeriodic) (l8 : (List Int)) (A2 : Option Addr) (c3 : Nat) (A5 : Option Addr) (c6 : Nat) (h4 : FZ rPlanRule b.w A2 c3 s1.Rules) (h7 : FZ (RT.int .i64) b.w A5 c6 l8) (x52 : Int) (hm : mFishref2TimesFault s1 l8 = some x52) :
    CallsG Try.prog 10 [.agg #[.int .i64 (s1.Period), .int .i64 (s1.Events), .slice A2 (s1.Rules).length c3], .slice A5 (l8).length c6] b (R) (fun v b' hp' => .int .i64 (x52) = v ∧ R = hp') := by
  refine fn_enterG 31 Try.func10 rfl Try.ntmps10 rfl ?_
  unfold mFishref2TimesFault at hm
  refine c_seq ?_
  refine c_region ?_
  refine t_do rfl (u_box _ rfl rfl) ?_
  rintro _ _ ⟨g53, rfl, rfl⟩
  refine t_st rfl (st_assign rfl) ?_
  refine t_nil ?_
  refine x_then_normal ?_
  refine c_seq ?_
  refine c_seq ?_
  refine c_region ?_
  refine t_st rfl (st_loadD (vs := [_, _, _]) 0 3 rfl agg24 rfl rfl rfl) ?_
  obtain ⟨x54, hcl55, hm⟩ := bindS hm
  refine t_do rfl (u_callW0 _ call8 rfl (fun w ho => cFishref2PeriodicFault _ [] s1 A2 c3 (h4.old ho) x54 hcl55) (fun _ _ _ h => h.2.symm)) ?_
  rintro _ _ ⟨⟨_, rfl, _⟩, rfl⟩
  refine t_st rfl (st_assign rfl) ?_
  refine t_nil ?_
  refine x_then_normal ?_
  refine c_seq ?_
  refine c_region ?_
  refine t_st rfl (st_move rfl) ?_
  refine t_st rfl (st_neq rfl rfl) ?_
  refine t_nil ?_
  refine x_then_normal ?_
  refine c_cond _ rfl (fun hc56 => ?_) (fun hc56 => ?_)
  ·
   rw [if_pos (of_decide_eq_true hc56)] at hm
   refine c_seq ?_
   refine c_region ?_
   refine t_st rfl (st_move rfl) ?_
   refine t_st rfl (st_assign rfl) ?_
   refine t_nil ?_
   refine x_then_normal ?_
   refine c_ret ?_
   refine x_then_ret ?_
   obtain rfl := some1 hm
   exact retM (rs := [.tmp 4]) [.int .i64 (x54)] (Base.Le.refl _) (by decide) rfl ⟨rfl, trivial⟩ rfl (hp' := R) (.cons _ (.refl _)) ⟨rfl, rfl⟩
  ·
   rw [if_neg (of_decide_eq_false hc56)] at hm
   refine c_skip ?_
   refine x_then_normal ?_
   refine c_seq ?_
   refine c_seq ?_
   refine c_region ?_
   refine t_st rfl (st_move rfl) ?_
   refine t_st rfl (st_len rfl sl30) ?_
   refine t_st rfl (st_field rfl fld24_1) ?_
   refine t_st rfl (st_load 0 rfl one3 rfl rfl) ?_
   refine t_st rfl (st_neq rfl rfl) ?_
   refine t_nil ?_
   refine x_then_normal ?_
   refine c_cond _ rfl (fun hc57 => ?_) (fun hc57 => ?_)
   ·
    rw [if_pos (of_decide_eq_true hc57)] at hm
    refine c_seq ?_
    refine c_region ?_
    refine t_st rfl (st_assign rfl) ?_
    refine t_nil ?_
    refine x_then_normal ?_
    refine c_ret ?_
    refine x_then_ret ?_
    obtain rfl := some1 hm
    exact retM (rs := [.tmp 4]) [.int .i64 (1)] (Base.Le.refl _) (by decide) rfl ⟨rfl, trivial⟩ rfl (hp' := R) (.cons _ (.refl _)) ⟨rfl, rfl⟩
   ·
    rw [if_neg (of_decide_eq_false hc57)] at hm
    refine c_skip ?_
    refine x_then_normal ?_
    refine c_seq ?_
    refine c_seq ?_
    refine c_region ?_
    refine t_st rfl (st_move rfl) ?_
    refine t_st rfl (st_len rfl sl30) ?_
    refine t_st rfl (st_move rfl) ?_
    refine t_nil ?_
    refine x_then_normal ?_
    refine c_block ?_
    have hb59 : l8.length ≤ 9223372036854775807 := (FZ.bd h7)
    obtain ⟨t77, hl78, hk79⟩ := bindS hm
    refine c_forM (fun k76 => fun _ => fun b74 e' hp' => [(2, .pointer (some ⟨g53, 0, none⟩)), (18, .slice A5 (l8).length c6), (19, .int .i64 ((l8.length : Int))), (20, .int .i64 ((k76 : Int)))] = e' ∧ (g53, Cl 24 [.int .i64 (s1.Period), .int .i64 (s1.Events), .slice A2 (s1.Rules).length c3]) :: R = hp' ∧ b.Le b74) hl78 (e' := [(2, .pointer (some ⟨g53, 0, none⟩)), (18, .slice A5 (l8).length c6), (19, .int .i64 ((l8.length : Int))), (20, .int .i64 0)]) (hp' := (g53, Cl 24 [.int .i64 (s1.Period), .int .i64 (s1.Events), .slice A2 (s1.Rules).length c3]) :: R) ⟨rfl, rfl, rfl, rfl, trivial⟩ (.cons_cons _ (.refl _)) ⟨rfl, rfl, (Base.Le.refl _)⟩ ?_ ?_
    ·
     rintro k76 _ b74 _ _ oL58 hknL58 ⟨rfl, rfl, hle75⟩ hstepL58 houtL58
     unfold mFishref2TimesFault_L58 at hstepL58
     have hm := hstepL58
     refine c_seq ?_
     refine c_region ?_
     refine t_st rfl (st_lss_t rfl rfl (by omega)) ?_
     refine t_nil ?_
     refine x_then_normal ?_
     refine c_seq ?_
     refine c_cond_t rfl ?_
     refine c_skip ?_
     refine x_then_normal ?_
     refine c_seq ?_
     refine c_block ?_
     refine c_seq ?_
     refine c_region ?_
     obtain ⟨x80, h81, hm⟩ := bindS hm
     obtain ⟨j82, hj83, hx84⟩ := idx_some h81
     obtain ⟨cs85, hr86, hcs87, hA88, hlt89⟩ := FZ.get (sz := 1) rfl (by decide) (h7.le hle75) hx84
     obtain rfl := hr86
     refine t_st rfl (st_index_old j82 rfl rfl hj83 hlt89 hA88 sl30) ?_
     refine t_st rfl (st_load_old rfl one3 (hcs87 0 _ rfl)) ?_
     refine t_st rfl (st_assign rfl) ?_
     refine t_nil ?_
     refine x_then_normal ?_
     refine c_seq ?_
     refine c_region ?_
     refine t_st rfl (st_move rfl) ?_
     refine t_st rfl (st_field rfl fld24_0) ?_
     refine t_st rfl (st_load 0 rfl one3 rfl rfl) ?_
     obtain ⟨_, h90, hm⟩ := bindS hm
     have h90 := (chk_some h90).2
     refine t_st rfl (st_sub rfl rfl h90) ?_
     obtain ⟨x91, hcl92, hm⟩ := bindS hm
     refine t_do rfl (u_callW0 _ call23 rfl (fun w ho => cFishref2Within _ [] x80 0 (s1.Period - 1) x91 hcl92) (fun _ _ _ h => h.2.symm)) ?_
     rintro _ _ ⟨⟨_, rfl, _⟩, rfl⟩
     refine t_st rfl (st_not rfl) ?_
     refine t_nil ?_
     refine x_then_normal ?_
     refine c_cond _ rfl (fun hc93 => ?_) (fun hc93 => ?_)
     ·
      rw [if_neg (fun hh => Bool.noConfusion (hh.symm.trans (notT hc93)))] at hm
      refine c_seq ?_
      refine c_region ?_
      refine t_st rfl (st_assign rfl) ?_
      refine t_nil ?_
      refine x_then_normal ?_
      refine c_ret ?_
      refine x_block_ret ?_
      refine x_then_ret ?_
      refine x_then_ret ?_
      refine x_block_ret ?_
      refine x_then_ret ?_
      have hq94 := houtL58 _ (Option.some.inj hm).symm
      rw [hq94] at hk79
      have hm := elimR hk79
      obtain rfl := some1 hm
      exact retM (rs := [.tmp 4]) [.int .i64 (2)] hle75 (by decide) rfl ⟨rfl, trivial⟩ rfl (hp' := R) (.cons _ (.refl _)) ⟨rfl, rfl⟩
     ·
      rw [if_pos (notF hc93)] at hm
      refine c_skip ?_
      refine x_block_normal ?_
      refine x_then_normal ?_
      refine c_region ?_
      refine t_st rfl (st_add rfl rfl (by omega)) ?_
      refine t_st rfl (st_move rfl) ?_
      refine t_nil ?_
      exact x_againM () (Option.some.inj hm).symm (e' := [(2, .pointer (some ⟨g53, 0, none⟩)), (18, .slice A5 (l8).length c6), (19, .int .i64 ((l8.length : Int))), (20, .int .i64 ((k76 : Int) + 1))]) (hp' := (g53, Cl 24 [.int .i64 (s1.Period), .int .i64 (s1.Events), .slice A2 (s1.Rules).length c3]) :: R) ⟨rfl, rfl, rfl, rfl, trivial⟩ (.cons_cons _ (.refl _)) ⟨rfl, rfl, (hle75)⟩
    ·
     rintro _ b74 _ _ ⟨rfl, rfl, hle75⟩ hq95
     rw [hq95] at hk79
     have hm := elimL hk79
     refine c_seq ?_
     refine c_region ?_
     refine t_st rfl (st_lss_f rfl rfl (by omega)) ?_
     refine t_nil ?_
     refine x_then_normal ?_
     refine c_seq ?_
     refine c_cond_f rfl ?_
     refine c_exit ?_
     refine x_then_exit ?_
     refine x_then_exit ?_
     refine x_block_out ?_
     refine x_then_normal ?_
     refine c_seq ?_
     refine c_region ?_
     refine t_st rfl (st_assign rfl) ?_
     refine t_nil ?_
     refine x_then_normal ?_
     refine c_ret ?_
     obtain rfl := some1 hm
     exact retM (rs := [.tmp 4]) [.int .i64 (0)] hle75 (by decide) rfl ⟨rfl, trivial⟩ rfl (hp' := R) (.cons _ (.refl _)) ⟨rfl, rfl⟩

set_option maxRecDepth 20000 in
theorem cFishref2GapOf (b : Base) (R : Hp) (s1 : PlanPeriodic) (s5 : PlanRule) (l9 : (List Int)) (A2 : Option Addr) (c3 : Nat) (A6 : Option Addr) (c7 : Nat) (h4 : FZ rPlanRule b.w A2 c3 s1.Rules) (h8 : FZ (RT.int .i64) b.w A6 c7 l9) (x112 : Int) (hm : mFishref2GapOf s1 s5 l9 = some x112) :
    CallsG Try.prog 28 [.agg #[.int .i64 (s1.Period), .int .i64 (s1.Events), .slice A2 (s1.Rules).length c3], .agg #[.int .i64 (s5.From), .int .i64 (s5.To), .int .i64 (s5.Min), .int .i64 (s5.Max), .int .i64 (s5.Weight)], .slice A6 (l9).length c7] b (R) (fun v b' hp' => .int .i64 (x112) = v ∧ R = hp') := by
  refine fn_enterG 39 Try.func28 rfl Try.ntmps28 rfl ?_
  unfold mFishref2GapOf at hm
  refine c_seq ?_
  refine c_region ?_
  refine t_do rfl (u_box _ rfl rfl) ?_
  rintro _ _ ⟨g113, rfl, rfl⟩
  refine t_do rfl (u_box _ rfl rfl) ?_
  rintro _ _ ⟨g114, rfl, rfl⟩
  refine t_st rfl (st_assign rfl) ?_
  refine t_nil ?_
  refine x_then_normal ?_
  refine c_seq ?_
  obtain ⟨x136, h137, hm⟩ := bindS hm
  obtain ⟨x146, h147, hm⟩ := bindS hm
  obtain ⟨_, h156, hm⟩ := bindS hm
  refine D_drawS ((g114, Cl 29 [.int .i64 (s5.From), .int .i64 (s5.To), .int .i64 (s5.Min), .int .i64 (s5.Max), .int .i64 (s5.Weight)]) :: (g113, Cl 24 [.int .i64 (s1.Period), .int .i64 (s1.Events), .slice A2 (s1.Rules).length c3]) :: R) mixed ?_
  refine E_in (.cons_cons _ (.cons_cons _ (.refl _))) ?_
  refine E_st 0 rfl (st_move rfl) ?_
  refine E_st 1 rfl (st_field rfl fld29_1) ?_
  refine E_st 2 rfl (st_load 0 rfl one3 rfl rfl) ?_
  obtain ⟨j138, hj139, hx140⟩ := idx_some h137
  obtain ⟨cs141, hr142, hcs143, hA144, hlt145⟩ := FZ.get (sz := 1) rfl (by decide) h8 hx140
  obtain rfl := hr142
  refine E_st 3 rfl (st_index_old j138 rfl rfl hj139 hlt145 hA144 sl30) ?_
  refine E_st 4 rfl (st_load_old rfl one3 (hcs143 0 _ rfl)) ?_
  refine E_st 5 rfl (st_move rfl) ?_
  refine E_st 6 rfl (st_field rfl fld29_0) ?_
  refine E_st 7 rfl (st_load 0 rfl one3 rfl rfl) ?_
  obtain ⟨j148, hj149, hx150⟩ := idx_some h147
  obtain ⟨cs151, hr152, hcs153, hA154, hlt155⟩ := FZ.get (sz := 1) rfl (by decide) h8 hx150
  obtain rfl := hr152
  refine E_st 8 rfl (st_index_old j148 rfl rfl hj149 hlt155 hA154 sl30) ?_
  refine E_st 9 rfl (st_load_old rfl one3 (hcs153 0 _ rfl)) ?_
  have h156 := (chk_some h156).2
  refine E_st 10 rfl (st_sub rfl rfl h156) ?_
  refine E_st 11 rfl (st_assign rfl) ?_
  refine E_out ?_
  refine D_done (by kernel_rfl) ?_
  refine x_then_normal ?_
  obtain ⟨x170, hj171, hk171⟩ := bindS hm
  refine c_join (fun b168 e' hp' => [(3, .pointer (some ⟨g113, 0, none⟩)), (4, .pointer (some ⟨g114, 0, none⟩)), (7, .int .i64 (x170))] = e' ∧ (g113, Cl 24 [.int .i64 (s1.Period), .int .i64 (s1.Events), .slice A2 (s1.Rules).length c3]) :: (g114, Cl 29 [.int .i64 (s5.From), .int .i64 (s5.To), .int .i64 (s5.Min), .int .i64 (s5.Max), .int .i64 (s5.Weight)]) :: R = hp' ∧ b.Le b168) ?_ ?_
  ·
   have hm := hj171
   refine c_block ?_
   refine c_pullb 1 rfl ?_
   refine c_loopM (fun x180 => fun b178 e' hp' => [(3, .pointer (some ⟨g113, 0, none⟩)), (4, .pointer (some ⟨g114, 0, none⟩)), (7, .int .i64 (x180))] = e' ∧ (g113, Cl 24 [.int .i64 (s1.Period), .int .i64 (s1.Events), .slice A2 (s1.Rules).length c3]) :: (g114, Cl 29 [.int .i64 (s5.From), .int .i64 (s5.To), .int .i64 (s5.Min), .int .i64 (s5.Max), .int .i64 (s5.Weight)]) :: R = hp' ∧ b.Le b178) hm (e' := [(3, .pointer (some ⟨g113, 0, none⟩)), (4, .pointer (some ⟨g114, 0, none⟩)), (7, .int .i64 (x136 - x146))]) (hp' := (g113, Cl 24 [.int .i64 (s1.Period), .int .i64 (s1.Events), .slice A2 (s1.Rules).length c3]) :: (g114, Cl 29 [.int .i64 (s5.From), .int .i64 (s5.To), .int .i64 (s5.Min), .int .i64 (s5.Max), .int .i64 (s5.Weight)]) :: R) ⟨rfl, rfl, rfl, trivial⟩ (.cons_cons _ (.cons_cons _ (.refl _))) ⟨rfl, rfl, (Base.Le.refl _)⟩ ?_
   rintro x180 b178 _ _ oL172 ⟨rfl, rfl, hle179⟩ hstepL172 houtL172
   unfold mFishref2GapOf_L172 at hstepL172
   have hm := hstepL172
   refine c_seq ?_
   refine c_seq ?_
   refine c_region ?_
   refine t_st rfl (st_move rfl) ?_
   refine t_st rfl (st_field rfl fld29_2) ?_
   refine t_st rfl (st_load 1 rfl one3 rfl rfl) ?_
   refine t_st rfl (st_lss rfl rfl) ?_
   refine t_nil ?_
   refine x_then_normal ?_
   refine c_cond _ rfl (fun hc181 => ?_) (fun hc181 => ?_)
   ·
    rw [if_pos (of_decide_eq_true hc181)] at hm
    refine c_skip ?_
    refine x_then_normal ?_
    refine c_block ?_
    refine c_region ?_
    refine t_st rfl (st_move rfl) ?_
    refine t_st rfl (st_field rfl fld24_0) ?_
    refine t_st rfl (st_load 0 rfl one3 rfl rfl) ?_
    obtain ⟨_, h182, hm⟩ := bindS hm
    have h182 := (chk_some h182).2
    refine t_st rfl (st_add rfl rfl h182) ?_
    refine t_st rfl (st_assign rfl) ?_
    refine t_nil ?_
    refine x_block_normal ?_
    refine x_pullb 1 rfl ?_
    refine x_pullb 1 rfl ?_
    exact x_againM (x180 + s1.Period) (Option.some.inj hm).symm (e' := [(3, .pointer (some ⟨g113, 0, none⟩)), (4, .pointer (some ⟨g114, 0, none⟩)), (7, .int .i64 (x180 + s1.Period))]) (hp' := (g113, Cl 24 [.int .i64 (s1.Period), .int .i64 (s1.Events), .slice A2 (s1.Rules).length c3]) :: (g114, Cl 29 [.int .i64 (s5.From), .int .i64 (s5.To), .int .i64 (s5.Min), .int .i64 (s5.Max), .int .i64 (s5.Weight)]) :: R) ⟨rfl, rfl, rfl, trivial⟩ (.cons_cons _ (.cons_cons _ (.refl _))) ⟨rfl, rfl, (hle179)⟩
   ·
    rw [if_neg (of_decide_eq_false hc181)] at hm
    refine c_exit ?_
    refine x_then_exit ?_
    refine x_then_exit ?_
    refine x_block_out ?_
    have hm := congrArg some (houtL172 _ (Option.some.inj hm).symm)
    obtain rfl := some1 hm
    refine x_pullb 1 rfl ?_
    refine x_pullb 1 rfl ?_
    exact x_join (e' := [(3, .pointer (some ⟨g113, 0, none⟩)), (4, .pointer (some ⟨g114, 0, none⟩)), (7, .int .i64 (x180))]) (hp' := (g113, Cl 24 [.int .i64 (s1.Period), .int .i64 (s1.Events), .slice A2 (s1.Rules).length c3]) :: (g114, Cl 29 [.int .i64 (s5.From), .int .i64 (s5.To), .int .i64 (s5.Min), .int .i64 (s5.Max), .int .i64 (s5.Weight)]) :: R) ⟨rfl, rfl, rfl, trivial⟩ (.cons_cons _ (.cons_cons _ (.refl _))) ⟨rfl, rfl, hle179⟩
  ·
   rintro b168 _ _ ⟨rfl, rfl, hle169⟩
   have hm := hk171
   obtain ⟨x199, hj200, hk200⟩ := bindS hm
   refine c_join (fun b197 e' hp' => [(7, .int .i64 (x199))] = e' ∧ R = hp' ∧ b168.Le b197) ?_ ?_
   ·
    have hm := hj200
    refine c_block ?_
    refine c_pullb 1 rfl ?_
    refine c_pullb 1 rfl ?_
    refine c_loopM (fun x211 => fun b209 e' hp' => [(3, .pointer (some ⟨g113, 0, none⟩)), (4, .pointer (some ⟨g114, 0, none⟩)), (7, .int .i64 (x211))] = e' ∧ (g113, Cl 24 [.int .i64 (s1.Period), .int .i64 (s1.Events), .slice A2 (s1.Rules).length c3]) :: (g114, Cl 29 [.int .i64 (s5.From), .int .i64 (s5.To), .int .i64 (s5.Min), .int .i64 (s5.Max), .int .i64 (s5.Weight)]) :: R = hp' ∧ b168.Le b209) hm (e' := [(3, .pointer (some ⟨g113, 0, none⟩)), (4, .pointer (some ⟨g114, 0, none⟩)), (7, .int .i64 (x170))]) (hp' := (g113, Cl 24 [.int .i64 (s1.Period), .int .i64 (s1.Events), .slice A2 (s1.Rules).length c3]) :: (g114, Cl 29 [.int .i64 (s5.From), .int .i64 (s5.To), .int .i64 (s5.Min), .int .i64 (s5.Max), .int .i64 (s5.Weight)]) :: R) ⟨rfl, rfl, rfl, trivial⟩ (.cons_cons _ (.cons_cons _ (.refl _))) ⟨rfl, rfl, (Base.Le.refl _)⟩ ?_
    rintro x211 b209 _ _ oL201 ⟨rfl, rfl, hle210⟩ hstepL201 houtL201
    unfold mFishref2GapOf_L201 at hstepL201
    have hm := hstepL201
    refine c_seq ?_
    refine c_seq ?_
    refine c_region ?_
    refine t_st rfl (st_move rfl) ?_
    refine t_st rfl (st_field rfl fld29_2) ?_
    refine t_st rfl (st_load 1 rfl one3 rfl rfl) ?_
    refine t_st rfl (st_field rfl fld24_0) ?_
    refine t_st rfl (st_load 0 rfl one3 rfl rfl) ?_
    obtain ⟨_, h212, hm⟩ := bindS hm
    have h212 := (chk_some h212).2
    refine t_st rfl (st_add rfl rfl h212) ?_
    refine t_st rfl (st_geq rfl rfl) ?_
    refine t_nil ?_
    refine x_then_normal ?_
    refine c_cond _ rfl (fun hc213 => ?_) (fun hc213 => ?_)
    ·
     rw [if_pos (of_decide_eq_true hc213)] at hm
     refine c_skip ?_
     refine x_then_normal ?_
     refine c_block ?_
     refine c_region ?_
     refine t_st rfl (st_move rfl) ?_
     refine t_st rfl (st_field rfl fld24_0) ?_
     refine t_st rfl (st_load 0 rfl one3 rfl rfl) ?_
     obtain ⟨_, h214, hm⟩ := bindS hm
     have h214 := (chk_some h214).2
     refine t_st rfl (st_sub rfl rfl h214) ?_
     refine t_st rfl (st_assign rfl) ?_
     refine t_nil ?_
     refine x_block_normal ?_
     refine x_pullb 1 rfl ?_
     refine x_pullb 1 rfl ?_
     exact x_againM (x211 - s1.Period) (Option.some.inj hm).symm (e' := [(3, .pointer (some ⟨g113, 0, none⟩)), (4, .pointer (some ⟨g114, 0, none⟩)), (7, .int .i64 (x211 - s1.Period))]) (hp' := (g113, Cl 24 [.int .i64 (s1.Period), .int .i64 (s1.Events), .slice A2 (s1.Rules).length c3]) :: (g114, Cl 29 [.int .i64 (s5.From), .int .i64 (s5.To), .int .i64 (s5.Min), .int .i64 (s5.Max), .int .i64 (s5.Weight)]) :: R) ⟨rfl, rfl, rfl, trivial⟩ (.cons_cons _ (.cons_cons _ (.refl _))) ⟨rfl, rfl, (hle210)⟩
    ·
     rw [if_neg (of_decide_eq_false hc213)] at hm
     refine c_exit ?_
     refine x_then_exit ?_
     refine x_then_exit ?_
     refine x_block_out ?_
     have hm := congrArg some (houtL201 _ (Option.some.inj hm).symm)
     obtain rfl := some1 hm
     exact x_join (e' := [(7, .int .i64 (x211))]) (hp' := R) ⟨rfl, trivial⟩ (.cons _ (.cons _ (.refl _))) ⟨rfl, rfl, hle210⟩
   ·
    rintro b197 _ _ ⟨rfl, rfl, hle198⟩
    have hm := hk200
    refine c_seq ?_
    refine c_region ?_
    refine t_st rfl (st_move rfl) ?_
    refine t_st rfl (st_assign rfl) ?_
    refine t_nil ?_
    refine x_then_normal ?_
    refine c_ret ?_
    obtain rfl := some1 hm
    exact retM (rs := [.tmp 6]) [.int .i64 (x199)] (hle169.trans hle198) (by decide) rfl ⟨rfl, trivial⟩ rfl (hp' := R) (.refl _) ⟨rfl, rfl⟩

set_option maxRecDepth 20000 in
theorem cFishref2BrokenOf_1 (b : Base) (R : Hp) (s3 : PlanRule) (x4 : Int) (x5 : Int) (l9 : (List PlanRule)) (l13 : (List Int)) (g1 : Nat) (g2 : Nat) (A6 : Option Addr) (c7 : Nat) (A10 : Option Addr) (c11 : Nat) (h8 : FZ rPlanRule b.w A6 c7 l9) (h12 : FZ (RT.int .i64) b.w A10 c11 l13) (x19 : Bool) (hm : mFishref2BrokenOf_1 s3 x4 x5 l9 l13 = some x19) :
    CallsG Try.prog 27 [.agg #[.int .i64 (s3.From), .int .i64 (s3.To), .int .i64 (s3.Min), .int .i64 (s3.Max), .int .i64 (s3.Weight)], .pointer (some ⟨g1, 0, none⟩), .pointer (some ⟨g2, 0, none⟩)] b ((g1, Cl 24 [.int .i64 (x4), .int .i64 (x5), .slice A6 (l9).length c7]) :: (g2, Cl 30 [.slice A10 (l13).length c11]) :: R) (fun v b' hp' => .bool (x19) = v ∧ (g1, Cl 24 [.int .i64 (x4), .int .i64 (x5), .slice A6 (l9).length c7]) :: (g2, Cl 30 [.slice A10 (l13).length c11]) :: R = hp') := by
  refine fn_enterG 12 Try.func27 rfl Try.ntmps27 rfl ?_
  unfold mFishref2BrokenOf_1 at hm
  refine c_seq ?_
  refine c_region ?_
  refine t_do rfl (u_box _ rfl rfl) ?_
  rintro _ _ ⟨g20, rfl, rfl⟩
  refine t_st rfl (st_assign rfl) ?_
  refine t_nil ?_
  refine x_then_normal ?_
  refine c_seq ?_
  obtain ⟨x23, hcl24, hm⟩ := bindS hm
  refine D_drawS ((g20, Cl 29 [.int .i64 (s3.From), .int .i64 (s3.To), .int .i64 (s3.Min), .int .i64 (s3.Max), .int .i64 (s3.Weight)]) :: (g1, Cl 24 [.int .i64 (x4), .int .i64 (x5), .slice A6 (l9).length c7]) :: (g2, Cl 30 [.slice A10 (l13).length c11]) :: R) mixed ?_
  refine E_in (.cons_cons _ (.cons_cons _ (.cons_cons _ (.refl _)))) ?_
  refine E_st 0 rfl (st_loadD (vs := [_, _, _]) 1 3 rfl agg24 rfl rfl rfl) ?_
  refine E_st 1 rfl (st_loadD (vs := [_, _, _, _, _]) 0 5 rfl agg29 rfl rfl rfl) ?_
  refine E_st 2 rfl (st_load 2 rfl one30 rfl rfl) ?_
  refine E_st 4 rfl (st_field rfl fld29_3) ?_
  refine E_st 5 rfl (st_load 0 rfl one3 rfl rfl) ?_
  refine E_out ?_
  refine D_all [3] (by kernel_rfl) rfl ?_
  refine R_do (Base.Le.refl _) rfl rfl (u_callW0 _ call28 rfl (fun w ho => cFishref2GapOf _ [] (⟨x4, x5, l9⟩ : PlanPeriodic) s3 l13 A6 c7 A10 c11 (h8.old ho) (h12.old ho) x23 hcl24) (fun _ _ _ h => h.2.symm)) ?_ ?_
  ·
   rintro _ _ ⟨⟨_, rfl, _⟩, rfl⟩
   refine ⟨.inr (.cons_cons _ (.cons_cons _ (.cons_cons _ (.refl _)))), ?_⟩
   refine E_in (.cons_cons _ (.cons_cons _ (.cons_cons _ (.refl _)))) ?_
   refine E_st 6 rfl (st_gtr rfl rfl) ?_
   refine E_st 7 rfl (st_assign rfl) ?_
   refine E_out ?_
   refine D_done (by kernel_rfl) ?_
   refine x_then_normal ?_
   refine c_ret ?_
   obtain rfl := some1 hm
   refine x_pullb 2 rfl ?_
   refine x_pullb 2 rfl ?_
   exact retM (rs := [.tmp 4]) [.bool (decide (s3.Max < x23))] (Base.Le.refl _) (by decide) rfl ⟨rfl, trivial⟩ rfl (hp' := (g1, Cl 24 [.int .i64 (x4), .int .i64 (x5), .slice A6 (l9).length c7]) :: (g2, Cl 30 [.slice A10 (l13).length c11]) :: R) (.cons_cons _ (.cons_cons _ (.cons _ (.refl _)))) ⟨rfl, rfl⟩
  exact R_nil

set_option maxRecDepth 20000 in
theorem cSlicesIndexFunc (b : Base) (R : Hp) (l6 : (List PlanRule)) (x7 : Int) (x8 : Int) (l12 : (List PlanRule)) (l16 : (List Int)) (g1 : Nat) (g2 : Nat) (A3 : Option Addr) (c4 : Nat) (A9 : Option Addr) (c10 : Nat) (A13 : Option Addr) (c14 : Nat) (h5 : FZ rPlanRule b.w A3 c4 l6) (h11 : FZ rPlanRule b.w A9 c10 l12) (h15 : FZ (RT.int .i64) b.w A13 c14 l16) (x57 : Int) (hm : mSlicesIndexFunc l6 x7 x8 l12 l16 = some x57) :
    CallsG Try.prog 26 [.slice A3 (l6).length c4, .func (.func 27) #[] #[.pointer (some ⟨g1, 0, none⟩), .pointer (some ⟨g2, 0, none⟩)]] b ((g1, Cl 24 [.int .i64 (x7), .int .i64 (x8), .slice A9 (l12).length c10]) :: (g2, Cl 30 [.slice A13 (l16).length c14]) :: R) (fun v b' hp' => .int .i64 (x57) = v ∧ (g1, Cl 24 [.int .i64 (x7), .int .i64 (x8), .slice A9 (l12).length c10]) :: (g2, Cl 30 [.slice A13 (l16).length c14]) :: R = hp') := by
  refine fn_enterG 19 Try.func26 rfl Try.ntmps26 rfl ?_
  unfold mSlicesIndexFunc at hm
  refine c_seq ?_
  refine c_region ?_
  refine t_st rfl (st_assign rfl) ?_
  refine t_nil ?_
  refine x_then_normal ?_
  refine c_seq ?_
  refine c_seq ?_
  refine c_region ?_
  refine t_st rfl (st_move rfl) ?_
  refine t_st rfl (st_len rfl sl22) ?_
  refine t_st rfl (st_move rfl) ?_
  refine t_nil ?_
  refine x_then_normal ?_
  refine c_block ?_
  have hb59 : l6.length ≤ 9223372036854775807 := (FZ.bd h5)
  refine c_pullb 1 rfl ?_
  refine c_pullb 1 rfl ?_
  obtain ⟨t78, hl79, hk80⟩ := bindS hm
  refine c_forM (fun k77 => fun _ => fun b75 e' hp' => [(0, .slice A3 (l6).length c4), (1, .func (.func 27) #[] #[.pointer (some ⟨g1, 0, none⟩), .pointer (some ⟨g2, 0, none⟩)]), (7, .int .i64 ((l6.length : Int))), (8, .int .i64 ((k77 : Int)))] = e' ∧ (g1, Cl 24 [.int .i64 (x7), .int .i64 (x8), .slice A9 (l12).length c10]) :: (g2, Cl 30 [.slice A13 (l16).length c14]) :: R = hp' ∧ b.Le b75) hl79 (e' := [(0, .slice A3 (l6).length c4), (1, .func (.func 27) #[] #[.pointer (some ⟨g1, 0, none⟩), .pointer (some ⟨g2, 0, none⟩)]), (7, .int .i64 ((l6.length : Int))), (8, .int .i64 0)]) (hp' := (g1, Cl 24 [.int .i64 (x7), .int .i64 (x8), .slice A9 (l12).length c10]) :: (g2, Cl 30 [.slice A13 (l16).length c14]) :: R) ⟨rfl, rfl, rfl, rfl, trivial⟩ (.cons_cons _ (.cons_cons _ (.refl _))) ⟨rfl, rfl, (Base.Le.refl _)⟩ ?_ ?_
  ·
   rintro k77 _ b75 _ _ oL58 hknL58 ⟨rfl, rfl, hle76⟩ hstepL58 houtL58
   unfold mSlicesIndexFunc_L58 at hstepL58
   have hm := hstepL58
   refine c_seq ?_
   refine c_region ?_
   refine t_st rfl (st_lss_t rfl rfl (by omega)) ?_
   refine t_nil ?_
   refine x_then_normal ?_
   refine c_seq ?_
   refine c_cond_t rfl ?_
   refine c_skip ?_
   refine x_then_normal ?_
   refine c_seq ?_
   refine c_block ?_
   refine c_seq ?_
   refine c_region ?_
   refine t_st rfl (st_move rfl) ?_
   refine t_st rfl (st_assign rfl) ?_
   refine t_nil ?_
   refine x_then_normal ?_
   refine c_seq ?_
   refine c_region ?_
   refine t_st rfl (st_move rfl) ?_
   refine t_st rfl (st_move rfl) ?_
   refine t_st rfl (st_move rfl) ?_
   obtain ⟨x81, h82, hm⟩ := bindS hm
   obtain ⟨j83, hj84, hx85⟩ := idx_some h82
   obtain ⟨cs86, hr87, hcs88, hA89, hlt90⟩ := FZ.get (sz := 5) rfl (by decide) (h5.le hle76) hx85
   obtain ⟨_, _, rfl, rfl, ⟨_, _, rfl, rfl, ⟨_, _, rfl, rfl, ⟨_, _, rfl, rfl, rfl⟩⟩⟩⟩ := hr87
   refine t_st rfl (st_index_old j83 rfl rfl hj84 hlt90 hA89 sl22) ?_
   refine t_st rfl (st_loadN_old (vs := [.int .i64 (x81.From), .int .i64 (x81.To), .int .i64 (x81.Min), .int .i64 (x81.Max), .int .i64 (x81.Weight)]) 5 rfl agg29 hA89 rfl (fun j u hu => hcs88 j u hu)) ?_
   obtain ⟨x91, hcl92, hm⟩ := bindS hm
   refine t_pullb 1 rfl ?_
   refine t_pullb 1 rfl ?_
   refine t_callvG #[] #[.pointer (some ⟨g1, 0, none⟩), .pointer (some ⟨g2, 0, none⟩)] [.agg #[.int .i64 (x81.From), .int .i64 (x81.To), .int .i64 (x81.Min), .int .i64 (x81.Max), .int .i64 (x81.Weight)]] rfl rfl call27 rfl (cFishref2BrokenOf_1 _ _ x81 x7 x8 l12 l16 g1 g2 A9 c10 A13 c14 (h11.le hle76) (h15.le hle76) x91 hcl92) ?_
   rintro _ b93 _ hle94 ⟨rfl, rfl⟩
   refine t_nil ?_
   refine x_then_normal ?_
   refine c_cond _ rfl (fun hc95 => ?_) (fun hc95 => ?_)
   ·
    rw [if_pos hc95] at hm
    refine c_seq ?_
    refine c_region ?_
    refine t_st rfl (st_move rfl) ?_
    refine t_st rfl (st_assign rfl) ?_
    refine t_nil ?_
    refine x_then_normal ?_
    refine c_ret ?_
    refine x_block_ret ?_
    refine x_then_ret ?_
    refine x_then_ret ?_
    refine x_block_ret ?_
    refine x_then_ret ?_
    have hq96 := houtL58 _ (Option.some.inj hm).symm
    rw [hq96] at hk80
    have hm := elimR hk80
    obtain rfl := some1 hm
    refine x_pullb 1 rfl ?_
    refine x_pullb 1 rfl ?_
    exact retM (rs := [.tmp 4]) [.int .i64 ((k77 : Int))] (hle76.trans hle94) (by decide) rfl ⟨rfl, trivial⟩ rfl (hp' := (g1, Cl 24 [.int .i64 (x7), .int .i64 (x8), .slice A9 (l12).length c10]) :: (g2, Cl 30 [.slice A13 (l16).length c14]) :: R) (.cons_cons _ (.cons_cons _ (.refl _))) ⟨rfl, rfl⟩
   ·
    rw [if_neg (fun hh => Bool.noConfusion (hh.symm.trans hc95))] at hm
    refine c_skip ?_
    refine x_block_normal ?_
    refine x_then_normal ?_
    refine c_region ?_
    refine t_st rfl (st_add rfl rfl (by omega)) ?_
    refine t_st rfl (st_move rfl) ?_
    refine t_nil ?_
    refine x_pullb 1 rfl ?_
    refine x_pullb 1 rfl ?_
    exact x_againM () (Option.some.inj hm).symm (e' := [(0, .slice A3 (l6).length c4), (1, .func (.func 27) #[] #[.pointer (some ⟨g1, 0, none⟩), .pointer (some ⟨g2, 0, none⟩)]), (7, .int .i64 ((l6.length : Int))), (8, .int .i64 ((k77 : Int) + 1))]) (hp' := (g1, Cl 24 [.int .i64 (x7), .int .i64 (x8), .slice A9 (l12).length c10]) :: (g2, Cl 30 [.slice A13 (l16).length c14]) :: R) ⟨rfl, rfl, rfl, rfl, trivial⟩ (.cons_cons _ (.cons_cons _ (.refl _))) ⟨rfl, rfl, ((hle76.trans hle94))⟩
  ·
   rintro _ b75 _ _ ⟨rfl, rfl, hle76⟩ hq97
   rw [hq97] at hk80
   have hm := elimL hk80
   refine c_seq ?_
   refine c_region ?_
   refine t_st rfl (st_lss_f rfl rfl (by omega)) ?_
   refine t_nil ?_
   refine x_then_normal ?_
   refine c_seq ?_
   refine c_cond_f rfl ?_
   refine c_exit ?_
   refine x_then_exit ?_
   refine x_then_exit ?_
   refine x_block_out ?_
   refine x_then_normal ?_
   refine c_seq ?_
   refine c_region ?_
   refine t_st rfl (st_assign rfl) ?_
   refine t_nil ?_
   refine x_then_normal ?_
   refine c_ret ?_
   obtain rfl := some1 hm
   refine x_pullb 1 rfl ?_
   refine x_pullb 1 rfl ?_
   exact retM (rs := [.tmp 4]) [.int .i64 ((-1))] hle76 (by decide) rfl ⟨rfl, trivial⟩ rfl (hp' := (g1, Cl 24 [.int .i64 (x7), .int .i64 (x8), .slice A9 (l12).length c10]) :: (g2, Cl 30 [.slice A13 (l16).length c14]) :: R) (.cons_cons _ (.cons_cons _ (.refl _))) ⟨rfl, rfl⟩

set_option maxRecDepth 20000 in
theorem cFishref2BrokenOf (b : Base) (R : Hp) (s1 : PlanPeriodic) (l8 : (List Int)) (A2 : Option Addr) (c3 : Nat) (A5 : Option Addr) (c6 : Nat) (h4 : FZ rPlanRule b.w A2 c3 s1.Rules) (h7 : FZ (RT.int .i64) b.w A5 c6 l8) (x15 : Int) (hm : mFishref2BrokenOf s1 l8 = some x15) :
    CallsG Try.prog 11 [.agg #[.int .i64 (s1.Period), .int .i64 (s1.Events), .slice A2 (s1.Rules).length c3], .slice A5 (l8).length c6] b (R) (fun v b' hp' => .int .i64 (x15) = v ∧ R = hp') := by
  refine fn_enterG 9 Try.func11 rfl Try.ntmps11 rfl ?_
  unfold mFishref2BrokenOf at hm
  refine c_seq ?_
  refine c_region ?_
  refine t_do rfl (u_box _ rfl rfl) ?_
  rintro _ _ ⟨g16, rfl, rfl⟩
  refine t_do rfl (u_box _ rfl rfl) ?_
  rintro _ _ ⟨g17, rfl, rfl⟩
  refine t_st rfl (st_assign rfl) ?_
  refine t_nil ?_
  refine x_then_normal ?_
  refine c_seq ?_
  refine c_region ?_
  refine t_st rfl (st_field rfl fld24_2) ?_
  refine t_st rfl (st_load 1 rfl one22 rfl rfl) ?_
  refine t_st rfl (st_func _ _ rfl rfl) ?_
  obtain ⟨x18, hcl19, hm⟩ := bindS hm
  refine t_pullb 1 rfl ?_
  refine t_callG _ rfl call26 rfl (cSlicesIndexFunc _ _ s1.Rules s1.Period s1.Events s1.Rules l8 g16 g17 A2 c3 A2 c3 A5 c6 h4 h4 h7 x18 hcl19) ?_
  rintro _ b20 _ hle21 ⟨rfl, rfl⟩
  refine t_st rfl (st_assign rfl) ?_
  refine t_nil ?_
  refine x_then_normal ?_
  refine c_ret ?_
  obtain rfl := some1 hm
  exact retM (rs := [.tmp 4]) [.int .i64 (x18)] hle21 (by decide) rfl ⟨rfl, trivial⟩ rfl (hp' := R) (.cons _ (.cons _ (.refl _))) ⟨rfl, rfl⟩

set_option maxRecDepth 20000 in
theorem cCmpIsNaN (b : Base) (R : Hp) (x1 : Int) (x2 : Bool) (hm : mCmpIsNaN x1 = some x2) :
    CallsG Try.prog 47 [.int .i64 (x1)] b (R) (fun v b' hp' => .bool (x2) = v ∧ R = hp') := by
  refine fn_enterG 6 Try.func47 rfl Try.ntmps47 rfl ?_
  unfold mCmpIsNaN at hm
  refine c_seq ?_
  refine c_region ?_
  refine t_st rfl (st_assign rfl) ?_
  refine t_nil ?_
  refine x_then_normal ?_
  refine c_seq ?_
  refine c_region ?_
  refine t_st rfl (st_move rfl) ?_
  refine t_st rfl (st_move rfl) ?_
  refine t_st rfl (st_neq rfl rfl) ?_
  refine t_st rfl (st_assign rfl) ?_
  refine t_nil ?_
  refine x_then_normal ?_
  refine c_ret ?_
  obtain rfl := some1 hm
  exact retM (rs := [.tmp 2]) [.bool (decide (x1 ≠ x1))] (Base.Le.refl _) (by decide) rfl ⟨rfl, trivial⟩ rfl (hp' := R) (.refl _) ⟨rfl, rfl⟩

set_option maxRecDepth 20000 in
theorem cCmpCompare (b : Base) (R : Hp) (x1 : Int) (x2 : Int) (x12 : Int) (hm : mCmpCompare x1 x2 = some x12) :
    CallsG Try.prog 31 [.int .i64 (x1), .int .i64 (x2)] b (R) (fun v b' hp' => .int .i64 (x12) = v ∧ R = hp') := by
  refine fn_enterG 20 Try.func31 rfl Try.ntmps31 rfl ?_
  unfold mCmpCompare at hm
  refine c_seq ?_
  refine c_region ?_
  refine t_st rfl (st_assign rfl) ?_
  refine t_nil ?_
  refine x_then_normal ?_
  refine c_seq ?_
  refine c_region ?_
  refine t_st rfl (st_move rfl) ?_
  obtain ⟨x13, hcl14, hm⟩ := bindS hm
  refine t_do rfl (u_callW0 _ call47 rfl (fun w ho => cCmpIsNaN _ [] x1 x13 hcl14) (fun _ _ _ h => h.2.symm)) ?_
  rintro _ _ ⟨⟨_, rfl, _⟩, rfl⟩
  refine t_st rfl (st_assign rfl) ?_
  refine t_nil ?_
  refine x_then_normal ?_
  refine c_seq ?_
  refine c_region ?_
  refine t_st rfl (st_move rfl) ?_
  obtain ⟨x15, hcl16, hm⟩ := bindS hm
  refine t_do rfl (u_callW0 _ call47 rfl (fun w ho => cCmpIsNaN _ [] x2 x15 hcl16) (fun _ _ _ h => h.2.symm)) ?_
  rintro _ _ ⟨⟨_, rfl, _⟩, rfl⟩
  refine t_st rfl (st_assign rfl) ?_
  refine t_nil ?_
  refine x_then_normal ?_
  refine c_seq ?_
  refine c_seq ?_
  refine c_region ?_
  refine t_st rfl (st_move rfl) ?_
  refine t_nil ?_
  refine x_then_normal ?_
  refine c_cond _ rfl (fun hc17 => ?_) (fun hc17 => ?_)
  ·
   rw [if_pos hc17] at hm
   refine c_seq ?_
   refine c_seq ?_
   refine c_region ?_
   refine t_st rfl (st_move rfl) ?_
   refine t_nil ?_
   refine x_then_normal ?_
   refine c_cond _ rfl (fun hc18 => ?_) (fun hc18 => ?_)
   ·
    rw [if_pos hc18] at hm
    refine c_seq ?_
    refine c_region ?_
    refine t_st rfl (st_assign rfl) ?_
    refine t_nil ?_
    refine x_then_normal ?_
    refine c_ret ?_
    refine x_then_ret ?_
    refine x_then_ret ?_
    obtain rfl := some1 hm
    exact retM (rs := [.tmp 4]) [.int .i64 (0)] (Base.Le.refl _) (by decide) rfl ⟨rfl, trivial⟩ rfl (hp' := R) (.refl _) ⟨rfl, rfl⟩
   ·
    rw [if_neg (fun hh => Bool.noConfusion (hh.symm.trans hc18))] at hm
    refine c_skip ?_
    refine x_then_normal ?_
    refine c_seq ?_
    refine c_region ?_
    refine t_st rfl (st_assign rfl) ?_
    refine t_nil ?_
    refine x_then_normal ?_
    refine c_ret ?_
    refine x_then_ret ?_
    obtain rfl := some1 hm
    exact retM (rs := [.tmp 4]) [.int .i64 ((-1))] (Base.Le.refl _) (by decide) rfl ⟨rfl, trivial⟩ rfl (hp' := R) (.refl _) ⟨rfl, rfl⟩
  ·
   rw [if_neg (fun hh => Bool.noConfusion (hh.symm.trans hc17))] at hm
   refine c_skip ?_
   refine x_then_normal ?_
   refine c_seq ?_
   refine c_seq ?_
   refine c_region ?_
   refine t_st rfl (st_move rfl) ?_
   refine t_nil ?_
   refine x_then_normal ?_
   refine c_cond _ rfl (fun hc19 => ?_) (fun hc19 => ?_)
   ·
    rw [if_pos hc19] at hm
    refine c_seq ?_
    refine c_region ?_
    refine t_st rfl (st_assign rfl) ?_
    refine t_nil ?_
    refine x_then_normal ?_
    refine c_ret ?_
    refine x_then_ret ?_
    obtain rfl := some1 hm
    exact retM (rs := [.tmp 4]) [.int .i64 (1)] (Base.Le.refl _) (by decide) rfl ⟨rfl, trivial⟩ rfl (hp' := R) (.refl _) ⟨rfl, rfl⟩
   ·
    rw [if_neg (fun hh => Bool.noConfusion (hh.symm.trans hc19))] at hm
    refine c_skip ?_
    refine x_then_normal ?_
    refine c_seq ?_
    refine c_seq ?_
    refine c_region ?_
    refine t_st rfl (st_move rfl) ?_
    refine t_st rfl (st_move rfl) ?_
    refine t_st rfl (st_lss rfl rfl) ?_
    refine t_nil ?_
    refine x_then_normal ?_
    refine c_cond _ rfl (fun hc20 => ?_) (fun hc20 => ?_)
    ·
     rw [if_pos (of_decide_eq_true hc20)] at hm
     refine c_seq ?_
     refine c_region ?_
     refine t_st rfl (st_assign rfl) ?_
     refine t_nil ?_
     refine x_then_normal ?_
     refine c_ret ?_
     refine x_then_ret ?_
     obtain rfl := some1 hm
     exact retM (rs := [.tmp 4]) [.int .i64 ((-1))] (Base.Le.refl _) (by decide) rfl ⟨rfl, trivial⟩ rfl (hp' := R) (.refl _) ⟨rfl, rfl⟩
    ·
     rw [if_neg (of_decide_eq_false hc20)] at hm
     refine c_skip ?_
     refine x_then_normal ?_
     refine c_seq ?_
     refine c_seq ?_
     refine c_region ?_
     refine t_st rfl (st_move rfl) ?_
     refine t_st rfl (st_move rfl) ?_
     refine t_st rfl (st_gtr rfl rfl) ?_
     refine t_nil ?_
     refine x_then_normal ?_
     refine c_cond _ rfl (fun hc21 => ?_) (fun hc21 => ?_)
     ·
      rw [if_pos (of_decide_eq_true hc21)] at hm
      refine c_seq ?_
      refine c_region ?_
      refine t_st rfl (st_assign rfl) ?_
      refine t_nil ?_
      refine x_then_normal ?_
      refine c_ret ?_
      refine x_then_ret ?_
      obtain rfl := some1 hm
      exact retM (rs := [.tmp 4]) [.int .i64 (1)] (Base.Le.refl _) (by decide) rfl ⟨rfl, trivial⟩ rfl (hp' := R) (.refl _) ⟨rfl, rfl⟩
     ·
      rw [if_neg (of_decide_eq_false hc21)] at hm
      refine c_skip ?_
      refine x_then_normal ?_
      refine c_seq ?_
      refine c_region ?_
      refine t_st rfl (st_assign rfl) ?_
      refine t_nil ?_
      refine x_then_normal ?_
      refine c_ret ?_
      obtain rfl := some1 hm
      exact retM (rs := [.tmp 4]) [.int .i64 (0)] (Base.Le.refl _) (by decide) rfl ⟨rfl, trivial⟩ rfl (hp' := R) (.refl _) ⟨rfl, rfl⟩

end Go.Proofs.Ytdphlkddelnaiaa
