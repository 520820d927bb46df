/- Contracts: the code computes its model (part 4). -/
import Derived.Test.YtajmocgpjkhjlaaVP3
set_option linter.unusedVariables false
set_option linter.unusedSimpArgs false
namespace Go.Proofs.Ytajmocgpjkhjlaa
open Go.RowKit Go.Fp

set_option maxRecDepth 20000 in
theorem cFleetJudge (b : Base) (R : Hp) (l4 : (List FleetTask)) (l8 : (List Int)) (s9 : FleetLimits) (A1 : Option Addr) (c2 : Nat) (A5 : Option Addr) (c6 : Nat) (h3 : FZ rFleetTask b.w A1 c2 l4) (h7 : FZ (RT.int .i64) b.w A5 c6 l8) (x410 : Int) (hm : mFleetJudge l4 l8 s9 = some x410) :
    CallsG Try.prog 56 [.slice A1 (l4).length c2, .slice A5 (l8).length c6, .agg #[.int .i64 (s9.Change), .int .i64 (s9.Long), .int .i64 (s9.Work), .int .i64 (s9.After), .int .i64 (s9.Break), .int .i64 (s9.Rest), .int .i64 (s9.Row)]] b (R) (fun v b' hp' => .int .i64 (x410) = v ∧ R = hp') := by
  refine fn_enterG 121 Try.func56 rfl Try.ntmps56 rfl ?_
  unfold mFleetJudge at hm
  refine c_seq ?_
  refine c_region ?_
  refine t_do rfl (u_box _ rfl rfl) ?_
  rintro _ _ ⟨g411, rfl, rfl⟩
  refine t_st rfl (st_assign rfl) ?_
  refine t_nil ?_
  refine x_then_normal ?_
  obtain ⟨⟨x502, x503, x504, x505, x506, x507, x508, x509, x510, x511, x512, x513⟩, hj514, hk514⟩ := bindS hm
  refine c_join (fun b498 e' hp' => ∃ (g500 : Nat), ∃ (g501 : Nat), [(0, .slice A1 (l4).length c2), (1, .slice A5 (l8).length c6), (5, .pointer (some ⟨g411, 0, none⟩)), (7, .pointer (some ⟨g500, 0, none⟩)), (8, .pointer (some ⟨g501, 0, none⟩))] = e' ∧ (g411, Cl 55 [.int .i64 (s9.Change), .int .i64 (s9.Long), .int .i64 (s9.Work), .int .i64 (s9.After), .int .i64 (s9.Break), .int .i64 (s9.Rest), .int .i64 (s9.Row)]) :: (g500, Cl 36 [.int .i64 (x502), .int .i64 (x503), .int .i64 (x504), .int .i64 (x505), .int .i64 (x506), .int .i64 (x507)]) :: (g501, Cl 36 [.int .i64 (x508), .int .i64 (x509), .int .i64 (x510), .int .i64 (x511), .int .i64 (x512), .int .i64 (x513)]) :: R = hp' ∧ b.Le b498) ?_ ?_
  ·
    have hm := hj514
    obtain ⟨x558, h559, hm⟩ := bindS hm
    obtain ⟨x568, h569, hm⟩ := bindS hm
    obtain ⟨_, h578, hm⟩ := bindS hm
    obtain ⟨x579, h580, hm⟩ := bindS hm
    obtain ⟨x589, h590, hm⟩ := bindS hm
    refine D_drawS ((g411, Cl 55 [.int .i64 (s9.Change), .int .i64 (s9.Long), .int .i64 (s9.Work), .int .i64 (s9.After), .int .i64 (s9.Break), .int .i64 (s9.Rest), .int .i64 (s9.Row)]) :: R) mixed ?_
    refine D_st (Base.Le.refl _) 0 rfl (by kernel_rfl) (by kernel_rfl) (by kernel_rfl) rfl (st_move rfl) (.cons_cons _ (.refl _)) ?_
    refine D_st (Base.Le.refl _) 1 rfl (by kernel_rfl) (by kernel_rfl) (by kernel_rfl) rfl (st_move rfl) (.cons_cons _ (.refl _)) ?_
    obtain ⟨j560, hj561, hx562⟩ := idx_some h559
    obtain ⟨cs563, hr564, hcs565, hA566, hlt567⟩ := FZ.get (sz := 1) rfl (by decide) h7 hx562
    obtain rfl := hr564
    refine D_st (Base.Le.refl _) 2 rfl (by kernel_rfl) (by kernel_rfl) (by kernel_rfl) rfl (st_index_old j560 rfl rfl hj561 hlt567 hA566 sl45) (.cons_cons _ (.refl _)) ?_
    refine D_st (Base.Le.refl _) 3 rfl (by kernel_rfl) (by kernel_rfl) (by kernel_rfl) rfl (st_load_old rfl one3 (hcs565 0 _ rfl)) (.cons_cons _ (.refl _)) ?_
    obtain ⟨j570, hj571, hx572⟩ := idx_some h569
    obtain ⟨cs573, hr574, hcs575, hA576, hlt577⟩ := FZ.get (sz := 6) rfl (by decide) h3 hx572
    obtain ⟨_, _, rfl, rfl, ⟨_, _, rfl, rfl, ⟨_, _, rfl, rfl, ⟨_, _, rfl, rfl, ⟨_, _, rfl, rfl, rfl⟩⟩⟩⟩⟩ := hr574
    refine D_st (Base.Le.refl _) 4 rfl (by kernel_rfl) (by kernel_rfl) (by kernel_rfl) rfl (st_index_old j570 rfl rfl hj571 hlt577 hA576 sl22) (.cons_cons _ (.refl _)) ?_
    refine D_st (Base.Le.refl _) 5 rfl (by kernel_rfl) (by kernel_rfl) (by kernel_rfl) rfl (st_loadN_old (vs := [.int .i64 (x568.From), .int .i64 (x568.To), .int .i64 (x568.Dep), .int .i64 (x568.Arr), .int .i64 (x568.Km), .int .i64 (x568.Units)]) 6 rfl agg36 hA576 rfl (fun j u hu => hcs575 j u hu)) (.cons_cons _ (.refl _)) ?_
    refine D_st (Base.Le.refl _) 6 rfl (by kernel_rfl) (by kernel_rfl) (by kernel_rfl) rfl (st_move rfl) (.cons_cons _ (.refl _)) ?_
    refine D_st (Base.Le.refl _) 7 rfl (by kernel_rfl) (by kernel_rfl) (by kernel_rfl) rfl (st_move rfl) (.cons_cons _ (.refl _)) ?_
    refine D_st (Base.Le.refl _) 8 rfl (by kernel_rfl) (by kernel_rfl) (by kernel_rfl) rfl (st_move rfl) (.cons_cons _ (.refl _)) ?_
    refine D_st (Base.Le.refl _) 9 rfl (by kernel_rfl) (by kernel_rfl) (by kernel_rfl) rfl (st_len rfl sl45) (.cons_cons _ (.refl _)) ?_
    have h578 := (chk_some h578).2
    refine D_st (Base.Le.refl _) 10 rfl (by kernel_rfl) (by kernel_rfl) (by kernel_rfl) rfl (st_sub rfl rfl h578) (.cons_cons _ (.refl _)) ?_
    obtain ⟨j581, hj582, hx583⟩ := idx_some h580
    obtain ⟨cs584, hr585, hcs586, hA587, hlt588⟩ := FZ.get (sz := 1) rfl (by decide) h7 hx583
    obtain rfl := hr585
    refine D_st (Base.Le.refl _) 11 rfl (by kernel_rfl) (by kernel_rfl) (by kernel_rfl) rfl (st_index_old j581 rfl rfl hj582 hlt588 hA587 sl45) (.cons_cons _ (.refl _)) ?_
    refine D_st (Base.Le.refl _) 12 rfl (by kernel_rfl) (by kernel_rfl) (by kernel_rfl) rfl (st_load_old rfl one3 (hcs586 0 _ rfl)) (.cons_cons _ (.refl _)) ?_
    obtain ⟨j591, hj592, hx593⟩ := idx_some h590
    obtain ⟨cs594, hr595, hcs596, hA597, hlt598⟩ := FZ.get (sz := 6) rfl (by decide) h3 hx593
    obtain ⟨_, _, rfl, rfl, ⟨_, _, rfl, rfl, ⟨_, _, rfl, rfl, ⟨_, _, rfl, rfl, ⟨_, _, rfl, rfl, rfl⟩⟩⟩⟩⟩ := hr595
    refine D_st (Base.Le.refl _) 13 rfl (by kernel_rfl) (by kernel_rfl) (by kernel_rfl) rfl (st_index_old j591 rfl rfl hj592 hlt598 hA597 sl22) (.cons_cons _ (.refl _)) ?_
    refine D_st (Base.Le.refl _) 14 rfl (by kernel_rfl) (by kernel_rfl) (by kernel_rfl) rfl (st_loadN_old (vs := [.int .i64 (x589.From), .int .i64 (x589.To), .int .i64 (x589.Dep), .int .i64 (x589.Arr), .int .i64 (x589.Km), .int .i64 (x589.Units)]) 6 rfl agg36 hA597 rfl (fun j u hu => hcs596 j u hu)) (.cons_cons _ (.refl _)) ?_
    refine D_all [15, 16] (by kernel_rfl) rfl ?_
    refine R_do (Base.Le.refl _) rfl rfl (u_alloc [.int .i64 0, .int .i64 0, .int .i64 0, .int .i64 0, .int .i64 0, .int .i64 0] zero36 rfl) ?_ ?_
    ·
      rintro _ _ ⟨g599, rfl, rfl⟩
      refine ⟨.inr (.cons _ (.cons_cons _ (.refl _))), ?_⟩
      refine D_all [16] (by kernel_rfl) rfl ?_
      refine R_do (Base.Le.refl _) rfl rfl (u_alloc [.int .i64 0, .int .i64 0, .int .i64 0, .int .i64 0, .int .i64 0, .int .i64 0] zero36 rfl) ?_ ?_
      ·
        rintro _ _ ⟨g600, rfl, rfl⟩
        refine ⟨.inr (.cons _ (.cons _ (.cons_cons _ (.refl _)))), ?_⟩
        refine D_all [17] (by kernel_rfl) rfl ?_
        refine R_do (Base.Le.refl _) rfl rfl (u_storeN (vs := [_, _, _, _, _, _]) 1 6 rfl rfl rfl siz36 rfl (by intro u hu; simp only [List.mem_cons, List.not_mem_nil, or_false] at hu; rcases hu with rfl | rfl | rfl | rfl | rfl | rfl <;> rfl) rfl (by simp)) ?_ ?_
        ·
          rintro _ _ rfl
          refine ⟨.inr (.cons _ (.cons _ (.cons_cons _ (.refl _)))), ?_⟩
          refine D_all [18] (by kernel_rfl) rfl ?_
          refine R_do (Base.Le.refl _) rfl rfl (u_storeN (vs := [_, _, _, _, _, _]) 0 6 rfl rfl rfl siz36 rfl (by intro u hu; simp only [List.mem_cons, List.not_mem_nil, or_false] at hu; rcases hu with rfl | rfl | rfl | rfl | rfl | rfl <;> rfl) rfl (by simp)) ?_ ?_
          ·
            rintro _ _ rfl
            refine ⟨.inl (by kernel_rfl), ?_⟩
            refine D_done (by kernel_rfl) ?_
            obtain ⟨rfl, rfl, rfl, rfl, rfl, rfl, rfl, rfl, rfl, rfl, rfl, rfl⟩ := some12 hm
            refine x_pullb 1 rfl ?_
            refine x_pullb 2 rfl ?_
            exact x_join (e' := [(0, .slice A1 (l4).length c2), (1, .slice A5 (l8).length c6), (5, .pointer (some ⟨g411, 0, none⟩)), (7, .pointer (some ⟨g599, 0, none⟩)), (8, .pointer (some ⟨g600, 0, none⟩))]) (hp' := (g411, Cl 55 [.int .i64 (s9.Change), .int .i64 (s9.Long), .int .i64 (s9.Work), .int .i64 (s9.After), .int .i64 (s9.Break), .int .i64 (s9.Rest), .int .i64 (s9.Row)]) :: (g599, Cl 36 [.int .i64 (x568.From), .int .i64 (x568.To), .int .i64 (x568.Dep), .int .i64 (x568.Arr), .int .i64 (x568.Km), .int .i64 (x568.Units)]) :: (g600, Cl 36 [.int .i64 (x589.From), .int .i64 (x589.To), .int .i64 (x589.Dep), .int .i64 (x589.Arr), .int .i64 (x589.Km), .int .i64 (x589.Units)]) :: R) ⟨rfl, rfl, rfl, rfl, rfl, trivial⟩ (.cons_cons _ (.cons_cons _ (.cons_cons _ (.refl _)))) ⟨g599, g600, rfl, rfl, (Base.Le.refl _)⟩
          exact R_nil
        exact R_nil
      exact R_nil
    refine R_do (Base.Le.refl _) rfl rfl (u_alloc [.int .i64 0, .int .i64 0, .int .i64 0, .int .i64 0, .int .i64 0, .int .i64 0] zero36 rfl) ?_ ?_
    ·
      rintro _ _ ⟨g600, rfl, rfl⟩
      refine ⟨.inr (.cons _ (.cons_cons _ (.refl _))), ?_⟩
      refine D_all [15] (by kernel_rfl) rfl ?_
      refine R_do (Base.Le.refl _) rfl rfl (u_alloc [.int .i64 0, .int .i64 0, .int .i64 0, .int .i64 0, .int .i64 0, .int .i64 0] zero36 rfl) ?_ ?_
      ·
        rintro _ _ ⟨g599, rfl, rfl⟩
        refine ⟨.inr (.cons _ (.cons _ (.cons_cons _ (.refl _)))), ?_⟩
        refine D_all [17] (by kernel_rfl) rfl ?_
        refine R_do (Base.Le.refl _) rfl rfl (u_storeN (vs := [_, _, _, _, _, _]) 0 6 rfl rfl rfl siz36 rfl (by intro u hu; simp only [List.mem_cons, List.not_mem_nil, or_false] at hu; rcases hu with rfl | rfl | rfl | rfl | rfl | rfl <;> rfl) rfl (by simp)) ?_ ?_
        ·
          rintro _ _ rfl
          refine ⟨.inr (.cons _ (.cons _ (.cons_cons _ (.refl _)))), ?_⟩
          refine D_all [18] (by kernel_rfl) rfl ?_
          refine R_do (Base.Le.refl _) rfl rfl (u_storeN (vs := [_, _, _, _, _, _]) 1 6 rfl rfl rfl siz36 rfl (by intro u hu; simp only [List.mem_cons, List.not_mem_nil, or_false] at hu; rcases hu with rfl | rfl | rfl | rfl | rfl | rfl <;> rfl) rfl (by simp)) ?_ ?_
          ·
            rintro _ _ rfl
            refine ⟨.inl (by kernel_rfl), ?_⟩
            refine D_done (by kernel_rfl) ?_
            obtain ⟨rfl, rfl, rfl, rfl, rfl, rfl, rfl, rfl, rfl, rfl, rfl, rfl⟩ := some12 hm
            refine x_pullb 1 rfl ?_
            refine x_pullb 1 rfl ?_
            refine x_pullb 2 rfl ?_
            exact x_join (e' := [(0, .slice A1 (l4).length c2), (1, .slice A5 (l8).length c6), (5, .pointer (some ⟨g411, 0, none⟩)), (7, .pointer (some ⟨g599, 0, none⟩)), (8, .pointer (some ⟨g600, 0, none⟩))]) (hp' := (g411, Cl 55 [.int .i64 (s9.Change), .int .i64 (s9.Long), .int .i64 (s9.Work), .int .i64 (s9.After), .int .i64 (s9.Break), .int .i64 (s9.Rest), .int .i64 (s9.Row)]) :: (g599, Cl 36 [.int .i64 (x568.From), .int .i64 (x568.To), .int .i64 (x568.Dep), .int .i64 (x568.Arr), .int .i64 (x568.Km), .int .i64 (x568.Units)]) :: (g600, Cl 36 [.int .i64 (x589.From), .int .i64 (x589.To), .int .i64 (x589.Dep), .int .i64 (x589.Arr), .int .i64 (x589.Km), .int .i64 (x589.Units)]) :: R) ⟨rfl, rfl, rfl, rfl, rfl, trivial⟩ (.cons_cons _ (.cons_cons _ (.cons_cons _ (.refl _)))) ⟨g599, g600, rfl, rfl, (Base.Le.refl _)⟩
          exact R_nil
        exact R_nil
      exact R_nil
    exact R_nil
  ·
    rintro b498 _ _ ⟨g500, g501, rfl, rfl, hle499⟩
    have hm := (unc12E hk514)
    refine c_seq ?_
    refine c_region ?_
    refine t_do rfl (u_alloc [.int .i64 0] zero3 rfl) ?_
    rintro _ _ ⟨g601, rfl, rfl⟩
    refine t_st rfl (st_assign rfl) ?_
    refine t_do rfl (u_store 0 rfl rfl siz3 rfl rfl (by simp)) ?_
    rintro _ _ rfl
    refine t_nil ?_
    refine x_then_normal ?_
    refine c_seq ?_
    refine c_region ?_
    refine t_st rfl (st_field rfl fld36_2) ?_
    refine t_st rfl (st_load 2 rfl one3 rfl rfl) ?_
    refine t_do rfl (u_alloc [.int .i64 0] zero3 rfl) ?_
    rintro _ _ ⟨g602, rfl, rfl⟩
    refine t_do rfl (u_store 0 rfl rfl siz3 rfl rfl (by simp)) ?_
    rintro _ _ rfl
    refine t_nil ?_
    refine x_then_normal ?_
    refine c_seq ?_
    refine c_region ?_
    refine t_st rfl (st_func _ _ rfl rfl) ?_
    refine t_st rfl (st_assign rfl) ?_
    refine t_nil ?_
    refine x_then_normal ?_
    refine c_seq ?_
    refine c_seq ?_
    refine c_region ?_
    refine t_st rfl (st_move rfl) ?_
    refine t_st rfl (st_len rfl sl45) ?_
    refine t_st rfl (st_move rfl) ?_
    refine t_nil ?_
    refine x_then_normal ?_
    refine c_block ?_
    have hb604 := (FZ.bd (h7.le hle499))
    refine c_pullb 1 rfl ?_
    refine c_pullb 4 rfl ?_
    refine c_pullb 4 rfl ?_
    refine c_pullb 4 rfl ?_
    obtain ⟨t736, hl737, hk738⟩ := bindS hm
    refine c_forM (fun k735 => unc3 fun x732 x733 x734 => fun b730 e' hp' => [(0, .slice A1 (l4).length c2), (1, .slice A5 (l8).length c6), (5, .pointer (some ⟨g411, 0, none⟩)), (7, .pointer (some ⟨g500, 0, none⟩)), (8, .pointer (some ⟨g501, 0, none⟩)), (9, .int .i64 (x732)), (10, .pointer (some ⟨g601, 0, none⟩)), (11, .pointer (some ⟨g602, 0, none⟩)), (12, .func (.func 95) #[] #[.pointer (some ⟨g602, 0, none⟩), .pointer (some ⟨g411, 0, none⟩), .pointer (some ⟨g601, 0, none⟩)]), (35, .slice A5 (l8).length c6), (36, .int .i64 ((l8.length : Int))), (37, .int .i64 ((k735 : Int)))] = e' ∧ (g411, Cl 55 [.int .i64 (s9.Change), .int .i64 (s9.Long), .int .i64 (s9.Work), .int .i64 (s9.After), .int .i64 (s9.Break), .int .i64 (s9.Rest), .int .i64 (s9.Row)]) :: (g500, Cl 36 [.int .i64 (x502), .int .i64 (x503), .int .i64 (x504), .int .i64 (x505), .int .i64 (x506), .int .i64 (x507)]) :: (g501, Cl 36 [.int .i64 (x508), .int .i64 (x509), .int .i64 (x510), .int .i64 (x511), .int .i64 (x512), .int .i64 (x513)]) :: (g601, Cl 3 [.int .i64 (x733)]) :: (g602, Cl 3 [.int .i64 (x734)]) :: R = hp' ∧ b498.Le b730) hl737 (e' := [(0, .slice A1 (l4).length c2), (1, .slice A5 (l8).length c6), (5, .pointer (some ⟨g411, 0, none⟩)), (7, .pointer (some ⟨g500, 0, none⟩)), (8, .pointer (some ⟨g501, 0, none⟩)), (9, .int .i64 (0)), (10, .pointer (some ⟨g601, 0, none⟩)), (11, .pointer (some ⟨g602, 0, none⟩)), (12, .func (.func 95) #[] #[.pointer (some ⟨g602, 0, none⟩), .pointer (some ⟨g411, 0, none⟩), .pointer (some ⟨g601, 0, none⟩)]), (35, .slice A5 (l8).length c6), (36, .int .i64 ((l8.length : Int))), (37, .int .i64 0)]) (hp' := (g411, Cl 55 [.int .i64 (s9.Change), .int .i64 (s9.Long), .int .i64 (s9.Work), .int .i64 (s9.After), .int .i64 (s9.Break), .int .i64 (s9.Rest), .int .i64 (s9.Row)]) :: (g500, Cl 36 [.int .i64 (x502), .int .i64 (x503), .int .i64 (x504), .int .i64 (x505), .int .i64 (x506), .int .i64 (x507)]) :: (g501, Cl 36 [.int .i64 (x508), .int .i64 (x509), .int .i64 (x510), .int .i64 (x511), .int .i64 (x512), .int .i64 (x513)]) :: (g601, Cl 3 [.int .i64 (0)]) :: (g602, Cl 3 [.int .i64 (x504)]) :: R) ⟨rfl, rfl, rfl, rfl, rfl, rfl, rfl, rfl, rfl, rfl, rfl, rfl, trivial⟩ (.cons_cons _ (.cons_cons _ (.cons_cons _ (.cons_cons _ (.cons_cons _ (.refl _)))))) ⟨rfl, rfl, (Base.Le.refl _)⟩ ?_ ?_
    ·
      rintro k735 ⟨x732, x733, x734⟩ b730 _ _ oL603 hknL603 ⟨rfl, rfl, hle731⟩ hstepL603 houtL603
      unfold mFleetJudge_L603 at hstepL603
      have hm := (unc3E hstepL603)
      refine c_seq ?_
      refine c_region ?_
      refine t_st rfl (st_lss_t rfl rfl (by omega)) ?_
      refine t_nil ?_
      refine x_then_normal ?_
      refine c_seq ?_
      refine c_cond_t rfl ?_
      refine c_skip ?_
      refine x_then_normal ?_
      refine c_seq ?_
      refine c_block ?_
      refine c_seq ?_
      refine c_region ?_
      refine t_st rfl (st_move rfl) ?_
      obtain ⟨x739, h740, hm⟩ := bindS hm
      obtain ⟨j741, hj742, hx743⟩ := idx_some h740
      obtain ⟨cs744, hr745, hcs746, hA747, hlt748⟩ := FZ.get (sz := 1) rfl (by decide) (h7.le (hle499.trans hle731)) hx743
      obtain rfl := hr745
      refine t_st rfl (st_index_old j741 rfl rfl hj742 hlt748 hA747 sl45) ?_
      refine t_st rfl (st_load_old rfl one3 (hcs746 0 _ rfl)) ?_
      refine t_st rfl (st_assign rfl) ?_
      refine t_st rfl (st_assign rfl) ?_
      refine t_nil ?_
      refine x_then_normal ?_
      refine c_seq ?_
      refine c_region ?_
      refine t_st rfl (st_move rfl) ?_
      refine t_st rfl (st_move rfl) ?_
      obtain ⟨x749, h750, hm⟩ := bindS hm
      obtain ⟨j751, hj752, hx753⟩ := idx_some h750
      obtain ⟨cs754, hr755, hcs756, hA757, hlt758⟩ := FZ.get (sz := 6) rfl (by decide) (h3.le (hle499.trans hle731)) hx753
      obtain ⟨_, _, rfl, rfl, ⟨_, _, rfl, rfl, ⟨_, _, rfl, rfl, ⟨_, _, rfl, rfl, ⟨_, _, rfl, rfl, rfl⟩⟩⟩⟩⟩ := hr755
      refine t_st rfl (st_index_old j751 rfl rfl hj752 hlt758 hA757 sl22) ?_
      refine t_st rfl (st_loadN_old (vs := [.int .i64 (x749.From), .int .i64 (x749.To), .int .i64 (x749.Dep), .int .i64 (x749.Arr), .int .i64 (x749.Km), .int .i64 (x749.Units)]) 6 rfl agg36 hA757 rfl (fun j u hu => hcs756 j u hu)) ?_
      refine t_do rfl (u_alloc [.int .i64 0, .int .i64 0, .int .i64 0, .int .i64 0, .int .i64 0, .int .i64 0] zero36 rfl) ?_
      rintro _ _ ⟨g759, rfl, rfl⟩
      refine t_do rfl (u_storeN (vs := [_, _, _, _, _, _]) 0 6 rfl rfl rfl siz36 rfl (by intro u hu; simp only [List.mem_cons, List.not_mem_nil, or_false] at hu; rcases hu with rfl | rfl | rfl | rfl | rfl | rfl <;> rfl) rfl (by simp)) ?_
      rintro _ _ rfl
      refine t_nil ?_
      refine x_then_normal ?_
      refine c_seq ?_
      refine c_region ?_
      refine t_st rfl (st_move rfl) ?_
      refine t_st rfl (st_field rfl fld36_3) ?_
      refine t_st rfl (st_load 0 rfl one3 rfl rfl) ?_
      refine t_st rfl (st_field rfl fld36_2) ?_
      refine t_st rfl (st_load 0 rfl one3 rfl rfl) ?_
      obtain ⟨_, h760, hm⟩ := bindS hm
      have h760 := (chk_some h760).2
      refine t_st rfl (st_sub rfl rfl h760) ?_
      obtain ⟨_, h761, hm⟩ := bindS hm
      have h761 := (chk_some h761).2
      refine t_st rfl (st_add rfl rfl h761) ?_
      refine t_st rfl (st_assign rfl) ?_
      refine t_nil ?_
      refine x_then_normal ?_
      refine c_seq ?_
      refine c_seq ?_
      refine c_region ?_
      refine t_st rfl (st_move rfl) ?_
      refine t_st rfl (st_eql rfl rfl) ?_
      refine t_nil ?_
      refine x_then_normal ?_
      refine c_cond _ rfl (fun hc762 => ?_) (fun hc762 => ?_)
      ·
        rw [if_pos (of_decide_eq_true hc762)] at hm
        refine c_exit ?_
        refine x_then_exit ?_
        refine x_block_out ?_
        refine x_then_normal ?_
        refine c_region ?_
        refine t_st rfl (st_add rfl rfl (by omega)) ?_
        refine t_st rfl (st_move rfl) ?_
        refine t_nil ?_
        refine x_pullb 5 rfl ?_
        refine x_pullb 5 rfl ?_
        refine x_pullb 5 rfl ?_
        refine x_pullb 5 rfl ?_
        refine x_pullb 5 rfl ?_
        exact x_againM (x732 + (x749.Arr - x749.Dep), x733, x734) (Option.some.inj hm).symm (e' := [(0, .slice A1 (l4).length c2), (1, .slice A5 (l8).length c6), (5, .pointer (some ⟨g411, 0, none⟩)), (7, .pointer (some ⟨g500, 0, none⟩)), (8, .pointer (some ⟨g501, 0, none⟩)), (9, .int .i64 (x732 + (x749.Arr - x749.Dep))), (10, .pointer (some ⟨g601, 0, none⟩)), (11, .pointer (some ⟨g602, 0, none⟩)), (12, .func (.func 95) #[] #[.pointer (some ⟨g602, 0, none⟩), .pointer (some ⟨g411, 0, none⟩), .pointer (some ⟨g601, 0, none⟩)]), (35, .slice A5 (l8).length c6), (36, .int .i64 ((l8.length : Int))), (37, .int .i64 ((k735 : Int) + 1))]) (hp' := (g411, Cl 55 [.int .i64 (s9.Change), .int .i64 (s9.Long), .int .i64 (s9.Work), .int .i64 (s9.After), .int .i64 (s9.Break), .int .i64 (s9.Rest), .int .i64 (s9.Row)]) :: (g500, Cl 36 [.int .i64 (x502), .int .i64 (x503), .int .i64 (x504), .int .i64 (x505), .int .i64 (x506), .int .i64 (x507)]) :: (g501, Cl 36 [.int .i64 (x508), .int .i64 (x509), .int .i64 (x510), .int .i64 (x511), .int .i64 (x512), .int .i64 (x513)]) :: (g601, Cl 3 [.int .i64 (x733)]) :: (g602, Cl 3 [.int .i64 (x734)]) :: R) ⟨rfl, rfl, rfl, rfl, rfl, rfl, rfl, rfl, rfl, rfl, rfl, rfl, trivial⟩ (.cons_cons _ (.cons_cons _ (.cons_cons _ (.cons_cons _ (.cons_cons _ (.cons _ (.refl _))))))) ⟨rfl, rfl, (hle731)⟩
      ·
        rw [if_neg (of_decide_eq_false hc762)] at hm
        refine c_skip ?_
        refine x_then_normal ?_
        refine c_seq ?_
        refine c_region ?_
        refine t_st rfl (st_move rfl) ?_
        refine t_st rfl (st_move rfl) ?_
        refine t_st rfl (st_move rfl) ?_
        obtain ⟨_, h763, hm⟩ := bindS hm
        have h763 := (chk_some h763).2
        refine t_st rfl (st_sub rfl rfl h763) ?_
        obtain ⟨x764, h765, hm⟩ := bindS hm
        obtain ⟨j766, hj767, hx768⟩ := idx_some h765
        obtain ⟨cs769, hr770, hcs771, hA772, hlt773⟩ := FZ.get (sz := 1) rfl (by decide) (h7.le (hle499.trans hle731)) hx768
        obtain rfl := hr770
        refine t_st rfl (st_index_old j766 rfl rfl hj767 hlt773 hA772 sl45) ?_
        refine t_st rfl (st_load_old rfl one3 (hcs771 0 _ rfl)) ?_
        obtain ⟨x774, h775, hm⟩ := bindS hm
        obtain ⟨j776, hj777, hx778⟩ := idx_some h775
        obtain ⟨cs779, hr780, hcs781, hA782, hlt783⟩ := FZ.get (sz := 6) rfl (by decide) (h3.le (hle499.trans hle731)) hx778
        obtain ⟨_, _, rfl, rfl, ⟨_, _, rfl, rfl, ⟨_, _, rfl, rfl, ⟨_, _, rfl, rfl, ⟨_, _, rfl, rfl, rfl⟩⟩⟩⟩⟩ := hr780
        refine t_st rfl (st_index_old j776 rfl rfl hj777 hlt783 hA782 sl22) ?_
        refine t_st rfl (st_loadN_old (vs := [.int .i64 (x774.From), .int .i64 (x774.To), .int .i64 (x774.Dep), .int .i64 (x774.Arr), .int .i64 (x774.Km), .int .i64 (x774.Units)]) 6 rfl agg36 hA782 rfl (fun j u hu => hcs781 j u hu)) ?_
        refine t_do rfl (u_alloc [.int .i64 0, .int .i64 0, .int .i64 0, .int .i64 0, .int .i64 0, .int .i64 0] zero36 rfl) ?_
        rintro _ _ ⟨g784, rfl, rfl⟩
        refine t_do rfl (u_storeN (vs := [_, _, _, _, _, _]) 0 6 rfl rfl rfl siz36 rfl (by intro u hu; simp only [List.mem_cons, List.not_mem_nil, or_false] at hu; rcases hu with rfl | rfl | rfl | rfl | rfl | rfl <;> rfl) rfl (by simp)) ?_
        rintro _ _ rfl
        refine t_nil ?_
        refine x_then_normal ?_
        refine c_seq ?_
        obtain ⟨x789, hj790, hk790⟩ := bindS hm
        refine c_join (fun b787 e' hp' => [(0, .slice A1 (l4).length c2), (1, .slice A5 (l8).length c6), (5, .pointer (some ⟨g411, 0, none⟩)), (7, .pointer (some ⟨g500, 0, none⟩)), (8, .pointer (some ⟨g501, 0, none⟩)), (9, .int .i64 (x732 + (x749.Arr - x749.Dep))), (10, .pointer (some ⟨g601, 0, none⟩)), (11, .pointer (some ⟨g602, 0, none⟩)), (12, .func (.func 95) #[] #[.pointer (some ⟨g602, 0, none⟩), .pointer (some ⟨g411, 0, none⟩), .pointer (some ⟨g601, 0, none⟩)]), (15, .pointer (some ⟨g759, 0, none⟩)), (16, .pointer (some ⟨g784, 0, none⟩)), (35, .slice A5 (l8).length c6), (36, .int .i64 ((l8.length : Int))), (37, .int .i64 ((k735 : Int))), (77, .bool (x789))] = e' ∧ (g411, Cl 55 [.int .i64 (s9.Change), .int .i64 (s9.Long), .int .i64 (s9.Work), .int .i64 (s9.After), .int .i64 (s9.Break), .int .i64 (s9.Rest), .int .i64 (s9.Row)]) :: (g500, Cl 36 [.int .i64 (x502), .int .i64 (x503), .int .i64 (x504), .int .i64 (x505), .int .i64 (x506), .int .i64 (x507)]) :: (g501, Cl 36 [.int .i64 (x508), .int .i64 (x509), .int .i64 (x510), .int .i64 (x511), .int .i64 (x512), .int .i64 (x513)]) :: (g601, Cl 3 [.int .i64 (x733)]) :: (g602, Cl 3 [.int .i64 (x734)]) :: (g759, Cl 36 [.int .i64 (x749.From), .int .i64 (x749.To), .int .i64 (x749.Dep), .int .i64 (x749.Arr), .int .i64 (x749.Km), .int .i64 (x749.Units)]) :: (g784, Cl 36 [.int .i64 (x774.From), .int .i64 (x774.To), .int .i64 (x774.Dep), .int .i64 (x774.Arr), .int .i64 (x774.Km), .int .i64 (x774.Units)]) :: R = hp' ∧ b730.Le b787) ?_ ?_
        ·
          have hm := hj790
          refine c_region ?_
          refine t_st rfl (st_field rfl fld36_0) ?_
          refine t_st rfl (st_load 1 rfl one3 rfl rfl) ?_
          refine t_st rfl (st_field rfl fld36_1) ?_
          refine t_st rfl (st_load 0 rfl one3 rfl rfl) ?_
          refine t_bool rfl (st_neq rfl rfl) (fun hc791 => ?_) (fun hc791 => ?_)
          ·
            rw [if_pos hc791] at hm
            refine t_st rfl (st_move rfl) ?_
            refine t_no 68 rfl rfl rfl rfl rfl ?_
            refine t_no 68 rfl rfl rfl rfl rfl ?_
            refine t_no 68 rfl rfl rfl rfl rfl ?_
            refine t_no 68 rfl rfl rfl rfl rfl ?_
            refine t_no 68 rfl rfl rfl rfl rfl ?_
            refine t_no 68 rfl rfl rfl rfl rfl ?_
            refine t_no 68 rfl rfl rfl rfl rfl ?_
            refine t_no 68 rfl rfl rfl rfl rfl ?_
            refine t_st rfl (st_pick_t rfl rfl) ?_
            refine t_nil ?_
            obtain rfl := some1 hm
            refine x_pullb 1 rfl ?_
            refine x_pullb 6 rfl ?_
            refine x_pullb 6 rfl ?_
            refine x_pullb 6 rfl ?_
            refine x_pullb 6 rfl ?_
            refine x_pullb 6 rfl ?_
            exact x_join (e' := [(0, .slice A1 (l4).length c2), (1, .slice A5 (l8).length c6), (5, .pointer (some ⟨g411, 0, none⟩)), (7, .pointer (some ⟨g500, 0, none⟩)), (8, .pointer (some ⟨g501, 0, none⟩)), (9, .int .i64 (x732 + (x749.Arr - x749.Dep))), (10, .pointer (some ⟨g601, 0, none⟩)), (11, .pointer (some ⟨g602, 0, none⟩)), (12, .func (.func 95) #[] #[.pointer (some ⟨g602, 0, none⟩), .pointer (some ⟨g411, 0, none⟩), .pointer (some ⟨g601, 0, none⟩)]), (15, .pointer (some ⟨g759, 0, none⟩)), (16, .pointer (some ⟨g784, 0, none⟩)), (35, .slice A5 (l8).length c6), (36, .int .i64 ((l8.length : Int))), (37, .int .i64 ((k735 : Int))), (77, .bool (true))]) (hp' := (g411, Cl 55 [.int .i64 (s9.Change), .int .i64 (s9.Long), .int .i64 (s9.Work), .int .i64 (s9.After), .int .i64 (s9.Break), .int .i64 (s9.Rest), .int .i64 (s9.Row)]) :: (g500, Cl 36 [.int .i64 (x502), .int .i64 (x503), .int .i64 (x504), .int .i64 (x505), .int .i64 (x506), .int .i64 (x507)]) :: (g501, Cl 36 [.int .i64 (x508), .int .i64 (x509), .int .i64 (x510), .int .i64 (x511), .int .i64 (x512), .int .i64 (x513)]) :: (g601, Cl 3 [.int .i64 (x733)]) :: (g602, Cl 3 [.int .i64 (x734)]) :: (g759, Cl 36 [.int .i64 (x749.From), .int .i64 (x749.To), .int .i64 (x749.Dep), .int .i64 (x749.Arr), .int .i64 (x749.Km), .int .i64 (x749.Units)]) :: (g784, Cl 36 [.int .i64 (x774.From), .int .i64 (x774.To), .int .i64 (x774.Dep), .int .i64 (x774.Arr), .int .i64 (x774.Km), .int .i64 (x774.Units)]) :: R) ⟨rfl, rfl, rfl, rfl, rfl, rfl, rfl, rfl, rfl, rfl, rfl, rfl, rfl, rfl, rfl, trivial⟩ (.cons_cons _ (.cons_cons _ (.cons_cons _ (.cons_cons _ (.cons_cons _ (.cons_cons _ (.cons_cons _ (.refl _)))))))) ⟨rfl, rfl, (Base.Le.refl _)⟩
          ·
            rw [if_neg hc791] at hm
            refine t_st rfl (st_move rfl) ?_
            refine t_yes 68 rfl rfl rfl ?_
            refine t_st rfl (st_field rfl fld36_2) ?_
            refine t_yes 68 rfl rfl rfl ?_
            refine t_st rfl (st_load 1 rfl one3 rfl rfl) ?_
            refine t_yes 68 rfl rfl rfl ?_
            refine t_st rfl (st_field rfl fld36_3) ?_
            refine t_yes 68 rfl rfl rfl ?_
            refine t_st rfl (st_load 0 rfl one3 rfl rfl) ?_
            refine t_yes 68 rfl rfl rfl ?_
            refine t_st rfl (st_field rfl fld55_0) ?_
            refine t_yes 68 rfl rfl rfl ?_
            refine t_st rfl (st_load 2 rfl one3 rfl rfl) ?_
            refine t_yes 68 rfl rfl rfl ?_
            obtain ⟨_, h792, hm⟩ := bindS hm
            have h792 := (chk_some h792).2
            refine t_st rfl (st_add rfl rfl h792) ?_
            refine t_yes 68 rfl rfl rfl ?_
            refine t_st rfl (st_lss rfl rfl) ?_
            refine t_st rfl (st_pick_f rfl rfl) ?_
            refine t_nil ?_
            obtain rfl := some1 hm
            refine x_pullb 1 rfl ?_
            refine x_pullb 6 rfl ?_
            refine x_pullb 6 rfl ?_
            refine x_pullb 6 rfl ?_
            refine x_pullb 6 rfl ?_
            refine x_pullb 6 rfl ?_
            exact x_join (e' := [(0, .slice A1 (l4).length c2), (1, .slice A5 (l8).length c6), (5, .pointer (some ⟨g411, 0, none⟩)), (7, .pointer (some ⟨g500, 0, none⟩)), (8, .pointer (some ⟨g501, 0, none⟩)), (9, .int .i64 (x732 + (x749.Arr - x749.Dep))), (10, .pointer (some ⟨g601, 0, none⟩)), (11, .pointer (some ⟨g602, 0, none⟩)), (12, .func (.func 95) #[] #[.pointer (some ⟨g602, 0, none⟩), .pointer (some ⟨g411, 0, none⟩), .pointer (some ⟨g601, 0, none⟩)]), (15, .pointer (some ⟨g759, 0, none⟩)), (16, .pointer (some ⟨g784, 0, none⟩)), (35, .slice A5 (l8).length c6), (36, .int .i64 ((l8.length : Int))), (37, .int .i64 ((k735 : Int))), (77, .bool (decide (x749.Dep < (x774.Arr + s9.Change))))]) (hp' := (g411, Cl 55 [.int .i64 (s9.Change), .int .i64 (s9.Long), .int .i64 (s9.Work), .int .i64 (s9.After), .int .i64 (s9.Break), .int .i64 (s9.Rest), .int .i64 (s9.Row)]) :: (g500, Cl 36 [.int .i64 (x502), .int .i64 (x503), .int .i64 (x504), .int .i64 (x505), .int .i64 (x506), .int .i64 (x507)]) :: (g501, Cl 36 [.int .i64 (x508), .int .i64 (x509), .int .i64 (x510), .int .i64 (x511), .int .i64 (x512), .int .i64 (x513)]) :: (g601, Cl 3 [.int .i64 (x733)]) :: (g602, Cl 3 [.int .i64 (x734)]) :: (g759, Cl 36 [.int .i64 (x749.From), .int .i64 (x749.To), .int .i64 (x749.Dep), .int .i64 (x749.Arr), .int .i64 (x749.Km), .int .i64 (x749.Units)]) :: (g784, Cl 36 [.int .i64 (x774.From), .int .i64 (x774.To), .int .i64 (x774.Dep), .int .i64 (x774.Arr), .int .i64 (x774.Km), .int .i64 (x774.Units)]) :: R) ⟨rfl, rfl, rfl, rfl, rfl, rfl, rfl, rfl, rfl, rfl, rfl, rfl, rfl, rfl, rfl, trivial⟩ (.cons_cons _ (.cons_cons _ (.cons_cons _ (.cons_cons _ (.cons_cons _ (.cons_cons _ (.cons_cons _ (.refl _)))))))) ⟨rfl, rfl, (Base.Le.refl _)⟩
        ·
          rintro b787 _ _ ⟨rfl, rfl, hle788⟩
          have hm := hk790
          refine c_cond _ rfl (fun hc793 => ?_) (fun hc793 => ?_)
          ·
            rw [if_pos hc793] at hm
            refine c_seq ?_
            refine c_region ?_
            refine t_st rfl (st_assign rfl) ?_
            refine t_nil ?_
            refine x_then_normal ?_
            refine c_ret ?_
            refine x_then_ret ?_
            refine x_block_ret ?_
            refine x_then_ret ?_
            refine x_then_ret ?_
            refine x_block_ret ?_
            refine x_then_ret ?_
            have hq794 := houtL603 _ (Option.some.inj hm).symm
            rw [hq794] at hk738
            have hm := elimR hk738
            obtain rfl := some1 hm
            exact retM (rs := [.tmp 6]) [.int .i64 (1)] (hle499.trans (hle731.trans hle788)) (by decide) rfl ⟨rfl, trivial⟩ rfl (hp' := R) (.cons _ (.cons _ (.cons _ (.cons _ (.cons _ (.cons _ (.cons _ (.refl _)))))))) ⟨rfl, rfl⟩
          ·
            rw [if_neg (fun hh => Bool.noConfusion (hh.symm.trans hc793))] at hm
            refine c_skip ?_
            refine x_then_normal ?_
            refine c_seq ?_
            refine c_region ?_
            refine t_st rfl (st_field rfl fld36_2) ?_
            refine t_st rfl (st_load 5 rfl one3 rfl rfl) ?_
            refine t_st rfl (st_field rfl fld36_3) ?_
            refine t_st rfl (st_load 6 rfl one3 rfl rfl) ?_
            obtain ⟨_, h795, hm⟩ := bindS hm
            have h795 := (chk_some h795).2
            refine t_st rfl (st_sub rfl rfl h795) ?_
            refine t_st rfl (st_field rfl fld55_4) ?_
            refine t_st rfl (st_load 0 rfl one3 rfl rfl) ?_
            refine t_st rfl (st_geq rfl rfl) ?_
            refine t_nil ?_
            refine x_then_normal ?_
            refine c_cond _ rfl (fun hc796 => ?_) (fun hc796 => ?_)
            ·
              rw [if_pos (of_decide_eq_true hc796)] at hm
              refine c_seq ?_
              refine c_region ?_
              refine t_st rfl (st_move rfl) ?_
              refine t_st rfl (st_field rfl fld36_3) ?_
              refine t_st rfl (st_load 6 rfl one3 rfl rfl) ?_
              obtain ⟨x797, hcl798, hm⟩ := bindS hm
              refine t_pullb 3 rfl ?_
              refine t_pullb 1 rfl ?_
              refine t_pullb 4 rfl ?_
              refine t_callvG #[] #[.pointer (some ⟨g602, 0, none⟩), .pointer (some ⟨g411, 0, none⟩), .pointer (some ⟨g601, 0, none⟩)] [.int .i64 (x774.Arr)] rfl rfl call95 rfl (cFleetJudge_1 _ _ x774.Arr x734 s9.Change s9.Long s9.Work s9.After s9.Break s9.Rest s9.Row x733 g602 g411 g601 x797 hcl798) ?_
              rintro _ b799 _ hle800 ⟨rfl, rfl⟩
              refine t_nil ?_
              refine x_then_normal ?_
              refine c_region ?_
              refine t_st rfl (st_field rfl fld36_2) ?_
              refine t_st rfl (st_load 5 rfl one3 rfl rfl) ?_
              refine t_do rfl (u_store 0 rfl rfl siz3 rfl rfl (by simp)) ?_
              rintro _ _ rfl
              refine t_nil ?_
              refine x_block_normal ?_
              refine x_then_normal ?_
              refine c_region ?_
              refine t_st rfl (st_add rfl rfl (by omega)) ?_
              refine t_st rfl (st_move rfl) ?_
              refine t_nil ?_
              refine x_pullb 2 rfl ?_
              refine x_pullb 4 rfl ?_
              refine x_pullb 4 rfl ?_
              refine x_pullb 4 rfl ?_
              exact x_againM (x732 + (x749.Arr - x749.Dep), x797, x749.Dep) (Option.some.inj hm).symm (e' := [(0, .slice A1 (l4).length c2), (1, .slice A5 (l8).length c6), (5, .pointer (some ⟨g411, 0, none⟩)), (7, .pointer (some ⟨g500, 0, none⟩)), (8, .pointer (some ⟨g501, 0, none⟩)), (9, .int .i64 (x732 + (x749.Arr - x749.Dep))), (10, .pointer (some ⟨g601, 0, none⟩)), (11, .pointer (some ⟨g602, 0, none⟩)), (12, .func (.func 95) #[] #[.pointer (some ⟨g602, 0, none⟩), .pointer (some ⟨g411, 0, none⟩), .pointer (some ⟨g601, 0, none⟩)]), (35, .slice A5 (l8).length c6), (36, .int .i64 ((l8.length : Int))), (37, .int .i64 ((k735 : Int) + 1))]) (hp' := (g411, Cl 55 [.int .i64 (s9.Change), .int .i64 (s9.Long), .int .i64 (s9.Work), .int .i64 (s9.After), .int .i64 (s9.Break), .int .i64 (s9.Rest), .int .i64 (s9.Row)]) :: (g500, Cl 36 [.int .i64 (x502), .int .i64 (x503), .int .i64 (x504), .int .i64 (x505), .int .i64 (x506), .int .i64 (x507)]) :: (g501, Cl 36 [.int .i64 (x508), .int .i64 (x509), .int .i64 (x510), .int .i64 (x511), .int .i64 (x512), .int .i64 (x513)]) :: (g601, Cl 3 [.int .i64 (x797)]) :: (g602, Cl 3 [.int .i64 (x749.Dep)]) :: R) ⟨rfl, rfl, rfl, rfl, rfl, rfl, rfl, rfl, rfl, rfl, rfl, rfl, trivial⟩ (.cons_cons _ (.cons_cons _ (.cons_cons _ (.cons_cons _ (.cons_cons _ (.cons _ (.cons _ (.refl _)))))))) ⟨rfl, rfl, ((hle731.trans (hle788.trans hle800)))⟩
            ·
              rw [if_neg (of_decide_eq_false hc796)] at hm
              refine c_skip ?_
              refine x_block_normal ?_
              refine x_then_normal ?_
              refine c_region ?_
              refine t_st rfl (st_add rfl rfl (by omega)) ?_
              refine t_st rfl (st_move rfl) ?_
              refine t_nil ?_
              refine x_pullb 4 rfl ?_
              refine x_pullb 4 rfl ?_
              refine x_pullb 4 rfl ?_
              refine x_pullb 4 rfl ?_
              refine x_pullb 4 rfl ?_
              exact x_againM (x732 + (x749.Arr - x749.Dep), x733, x734) (Option.some.inj hm).symm (e' := [(0, .slice A1 (l4).length c2), (1, .slice A5 (l8).length c6), (5, .pointer (some ⟨g411, 0, none⟩)), (7, .pointer (some ⟨g500, 0, none⟩)), (8, .pointer (some ⟨g501, 0, none⟩)), (9, .int .i64 (x732 + (x749.Arr - x749.Dep))), (10, .pointer (some ⟨g601, 0, none⟩)), (11, .pointer (some ⟨g602, 0, none⟩)), (12, .func (.func 95) #[] #[.pointer (some ⟨g602, 0, none⟩), .pointer (some ⟨g411, 0, none⟩), .pointer (some ⟨g601, 0, none⟩)]), (35, .slice A5 (l8).length c6), (36, .int .i64 ((l8.length : Int))), (37, .int .i64 ((k735 : Int) + 1))]) (hp' := (g411, Cl 55 [.int .i64 (s9.Change), .int .i64 (s9.Long), .int .i64 (s9.Work), .int .i64 (s9.After), .int .i64 (s9.Break), .int .i64 (s9.Rest), .int .i64 (s9.Row)]) :: (g500, Cl 36 [.int .i64 (x502), .int .i64 (x503), .int .i64 (x504), .int .i64 (x505), .int .i64 (x506), .int .i64 (x507)]) :: (g501, Cl 36 [.int .i64 (x508), .int .i64 (x509), .int .i64 (x510), .int .i64 (x511), .int .i64 (x512), .int .i64 (x513)]) :: (g601, Cl 3 [.int .i64 (x733)]) :: (g602, Cl 3 [.int .i64 (x734)]) :: R) ⟨rfl, rfl, rfl, rfl, rfl, rfl, rfl, rfl, rfl, rfl, rfl, rfl, trivial⟩ (.cons_cons _ (.cons_cons _ (.cons_cons _ (.cons_cons _ (.cons_cons _ (.cons _ (.cons _ (.refl _)))))))) ⟨rfl, rfl, ((hle731.trans hle788))⟩
    ·
      rintro ⟨x732, x733, x734⟩ b730 _ _ ⟨rfl, rfl, hle731⟩ hq801
      rw [hq801] at hk738
      have hm := elimL hk738
      have hm := (unc3E hm)
      refine c_seq ?_
      refine c_region ?_
      refine t_st rfl (st_lss_f rfl rfl (by omega)) ?_
      refine t_nil ?_
      refine x_then_normal ?_
      refine c_seq ?_
      refine c_cond_f rfl ?_
      refine c_exit ?_
      refine x_then_exit ?_
      refine x_then_exit ?_
      refine x_block_out ?_
      refine x_then_normal ?_
      refine c_seq ?_
      refine c_region ?_
      refine t_st rfl (st_move rfl) ?_
      refine t_st rfl (st_field rfl fld36_3) ?_
      refine t_st rfl (st_load 2 rfl one3 rfl rfl) ?_
      obtain ⟨x802, hcl803, hm⟩ := bindS hm
      refine t_pullb 3 rfl ?_
      refine t_pullb 1 rfl ?_
      refine t_pullb 4 rfl ?_
      refine t_callvG #[] #[.pointer (some ⟨g602, 0, none⟩), .pointer (some ⟨g411, 0, none⟩), .pointer (some ⟨g601, 0, none⟩)] [.int .i64 (x511)] rfl rfl call95 rfl (cFleetJudge_1 _ _ x511 x734 s9.Change s9.Long s9.Work s9.After s9.Break s9.Rest s9.Row x733 g602 g411 g601 x802 hcl803) ?_
      rintro _ b804 _ hle805 ⟨rfl, rfl⟩
      refine t_nil ?_
      refine x_then_normal ?_
      refine c_seq ?_
      refine c_block ?_
      refine c_seq ?_
      refine c_region ?_
      refine t_st rfl (st_field rfl fld36_3) ?_
      refine t_st rfl (st_load 4 rfl one3 rfl rfl) ?_
      refine t_st rfl (st_field rfl fld36_2) ?_
      refine t_st rfl (st_load 3 rfl one3 rfl rfl) ?_
      obtain ⟨_, h806, hm⟩ := bindS hm
      have h806 := (chk_some h806).2
      refine t_st rfl (st_sub rfl rfl h806) ?_
      refine t_st rfl (st_field rfl fld55_1) ?_
      refine t_st rfl (st_load 1 rfl one3 rfl rfl) ?_
      refine t_st rfl (st_gtr rfl rfl) ?_
      refine t_st rfl (st_assign rfl) ?_
      refine t_nil ?_
      refine x_then_normal ?_
      refine c_cond _ rfl (fun hc807 => ?_) (fun hc807 => ?_)
      ·
        rw [if_pos (of_decide_eq_true hc807)] at hm
        refine c_seq ?_
        refine c_region ?_
        refine t_st rfl (st_assign rfl) ?_
        refine t_nil ?_
        refine x_then_normal ?_
        refine c_ret ?_
        refine x_block_ret ?_
        refine x_then_ret ?_
        obtain rfl := some1 hm
        exact retM (rs := [.tmp 6]) [.int .i64 (2)] (hle499.trans (hle731.trans hle805)) (by decide) rfl ⟨rfl, trivial⟩ rfl (hp' := R) (.cons _ (.cons _ (.cons _ (.cons _ (.cons _ (.refl _)))))) ⟨rfl, rfl⟩
      ·
        rw [if_neg (of_decide_eq_false hc807)] at hm
        refine c_seq ?_
        refine c_region ?_
        refine t_st rfl (st_move rfl) ?_
        refine t_st rfl (st_field rfl fld55_2) ?_
        refine t_st rfl (st_load 1 rfl one3 rfl rfl) ?_
        refine t_st rfl (st_gtr rfl rfl) ?_
        refine t_st rfl (st_assign rfl) ?_
        refine t_nil ?_
        refine x_then_normal ?_
        refine c_cond _ rfl (fun hc808 => ?_) (fun hc808 => ?_)
        ·
          rw [if_pos (of_decide_eq_true hc808)] at hm
          refine c_seq ?_
          refine c_region ?_
          refine t_st rfl (st_assign rfl) ?_
          refine t_nil ?_
          refine x_then_normal ?_
          refine c_ret ?_
          refine x_block_ret ?_
          refine x_then_ret ?_
          obtain rfl := some1 hm
          exact retM (rs := [.tmp 6]) [.int .i64 (3)] (hle499.trans (hle731.trans hle805)) (by decide) rfl ⟨rfl, trivial⟩ rfl (hp' := R) (.cons _ (.cons _ (.cons _ (.cons _ (.cons _ (.refl _)))))) ⟨rfl, rfl⟩
        ·
          rw [if_neg (of_decide_eq_false hc808)] at hm
          refine c_seq ?_
          refine c_region ?_
          refine t_st rfl (st_load 2 rfl one3 rfl rfl) ?_
          refine t_st rfl (st_gtr rfl rfl) ?_
          refine t_st rfl (st_assign rfl) ?_
          refine t_nil ?_
          refine x_then_normal ?_
          refine c_cond _ rfl (fun hc809 => ?_) (fun hc809 => ?_)
          ·
            rw [if_pos (of_decide_eq_true hc809)] at hm
            refine c_seq ?_
            refine c_region ?_
            refine t_st rfl (st_load 2 rfl one3 rfl rfl) ?_
            refine t_st rfl (st_assign rfl) ?_
            refine t_nil ?_
            refine x_then_normal ?_
            refine c_ret ?_
            refine x_block_ret ?_
            refine x_then_ret ?_
            obtain rfl := some1 hm
            exact retM (rs := [.tmp 6]) [.int .i64 (x802)] (hle499.trans (hle731.trans hle805)) (by decide) rfl ⟨rfl, trivial⟩ rfl (hp' := R) (.cons _ (.cons _ (.cons _ (.cons _ (.cons _ (.refl _)))))) ⟨rfl, rfl⟩
          ·
            rw [if_neg (of_decide_eq_false hc809)] at hm
            refine c_seq ?_
            refine c_region ?_
            refine t_st rfl (st_field rfl fld36_1) ?_
            refine t_st rfl (st_load 4 rfl one3 rfl rfl) ?_
            refine t_st rfl (st_field rfl fld36_0) ?_
            refine t_st rfl (st_load 3 rfl one3 rfl rfl) ?_
            refine t_st rfl (st_neq rfl rfl) ?_
            refine t_st rfl (st_assign rfl) ?_
            refine t_nil ?_
            refine x_then_normal ?_
            refine c_cond _ rfl (fun hc810 => ?_) (fun hc810 => ?_)
            ·
              rw [if_pos (of_decide_eq_true hc810)] at hm
              refine c_seq ?_
              refine c_region ?_
              refine t_st rfl (st_assign rfl) ?_
              refine t_nil ?_
              refine x_then_normal ?_
              refine c_ret ?_
              refine x_block_ret ?_
              refine x_then_ret ?_
              obtain rfl := some1 hm
              exact retM (rs := [.tmp 6]) [.int .i64 (5)] (hle499.trans (hle731.trans hle805)) (by decide) rfl ⟨rfl, trivial⟩ rfl (hp' := R) (.cons _ (.cons _ (.cons _ (.cons _ (.cons _ (.refl _)))))) ⟨rfl, rfl⟩
            ·
              rw [if_neg (of_decide_eq_false hc810)] at hm
              refine c_skip ?_
              refine x_block_normal ?_
              refine x_then_normal ?_
              refine c_seq ?_
              refine c_region ?_
              refine t_st rfl (st_assign rfl) ?_
              refine t_nil ?_
              refine x_then_normal ?_
              refine c_ret ?_
              obtain rfl := some1 hm
              exact retM (rs := [.tmp 6]) [.int .i64 (0)] (hle499.trans (hle731.trans hle805)) (by decide) rfl ⟨rfl, trivial⟩ rfl (hp' := R) (.cons _ (.cons _ (.cons _ (.cons _ (.cons _ (.refl _)))))) ⟨rfl, rfl⟩

set_option maxRecDepth 20000 in
theorem cFleetDividerTake (rcmFleetDividerDivide : (Int) → (Int) → ((List Int)) → ((List FleetTask)) → (Int) → (Int) → (Int) → (Int) → (Int) → (Int) → (Int) → ((List Bool)) → ((List (List Int))) → Option (Bool × (List Bool) × (List (List Int)))) (ihmFleetDividerDivide : ∀ (b : Base) (R : Hp) (x12 : Int) (x13 : Int) (l17 : (List Int)) (l22 : (List FleetTask)) (x23 : Int) (x24 : Int) (x25 : Int) (x26 : Int) (x27 : Int) (x28 : Int) (x29 : Int) (l30 : (List Bool)) (l31 : (List (List Int))) (g11 : Nat) (A14 : Option Addr) (c15 : Nat) (A19 : Option Addr) (c20 : Nat) (A3 : Option Addr) (c4 : Nat) (hs2 : Hp) (A8 : Option Addr) (c9 : Nat) (hs7 : Hp) (h16 : FZ (RT.int .i64) b.w A14 c15 l17) (hnz18 : (A14 = none ↔ l17 = [])) (h21 : FZ rFleetTask b.w A19 c20 l22) (h5 : OS 4 (OT.fr RT.bool) b.w (.slice A3 l30.length c4) l30 hs2) (h10 : OS 45 (OT.fr (RT.list (RT.int .i64))) b.w (.slice A8 l31.length c9) l31 hs7) (x851 : Bool) (l852 : (List Bool)) (l854 : (List (List Int))) (hm : rcmFleetDividerDivide x12 x13 l17 l22 x23 x24 x25 x26 x27 x28 x29 l30 l31 = some (x851, l852, l854)),
    CallsG Try.prog 55 [.pointer (some ⟨g11, 0, none⟩), .int .i64 (x12), .int .i64 (x13), .slice A14 (l17).length c15] b ((g11, Cl 106 [.slice A19 (l22).length c20, .int .i64 (x23), .int .i64 (x24), .int .i64 (x25), .int .i64 (x26), .int .i64 (x27), .int .i64 (x28), .int .i64 (x29), .slice A3 (l30).length c4, .slice A8 (l31).length c9]) :: (hs2 ++ (hs7 ++ R))) (fun v b' hp' => ∃ (hs844 : Hp), ∃ (A848 : Option Addr), ∃ (c849 : Nat), ∃ (hs847 : Hp), .bool (x851) = v ∧ (g11, Cl 106 [.slice A19 (l22).length c20, .int .i64 (x23), .int .i64 (x24), .int .i64 (x25), .int .i64 (x26), .int .i64 (x27), .int .i64 (x28), .int .i64 (x29), .slice A3 (l852).length c4, .slice A848 (l854).length c849]) :: (hs844 ++ (hs847 ++ R)) = hp' ∧ OS 4 (OT.fr RT.bool) b'.w (.slice A3 l852.length c4) l852 hs844 ∧ l852.length = l30.length ∧ OS 45 (OT.fr (RT.list (RT.int .i64))) b'.w (.slice A848 l854.length c849) l854 hs847)) (b : Base) (R : Hp) (x12 : Int) (x13 : Int) (l17 : (List Int)) (x19 : Int) (l23 : (List FleetTask)) (x24 : Int) (x25 : Int) (x26 : Int) (x27 : Int) (x28 : Int) (x29 : Int) (x30 : Int) (l31 : (List Bool)) (l32 : (List (List Int))) (g11 : Nat) (A14 : Option Addr) (c15 : Nat) (A20 : Option Addr) (c21 : Nat) (A3 : Option Addr) (c4 : Nat) (hs2 : Hp) (A8 : Option Addr) (c9 : Nat) (hs7 : Hp) (h16 : FZ (RT.int .i64) b.w A14 c15 l17) (hnz18 : (A14 = none ↔ l17 = [])) (h22 : FZ rFleetTask b.w A20 c21 l23) (h5 : OS 4 (OT.fr RT.bool) b.w (.slice A3 l31.length c4) l31 hs2) (h10 : OS 45 (OT.fr (RT.list (RT.int .i64))) b.w (.slice A8 l32.length c9) l32 hs7) (x518 : Bool) (l519 : (List Bool)) (l521 : (List (List Int))) (hm : mFleetDividerTake rcmFleetDividerDivide x12 x13 l17 x19 l23 x24 x25 x26 x27 x28 x29 x30 l31 l32 = some (x518, l519, l521)) :
    CallsG Try.prog 94 [.pointer (some ⟨g11, 0, none⟩), .int .i64 (x12), .int .i64 (x13), .slice A14 (l17).length c15, .int .i64 (x19)] b ((g11, Cl 106 [.slice A20 (l23).length c21, .int .i64 (x24), .int .i64 (x25), .int .i64 (x26), .int .i64 (x27), .int .i64 (x28), .int .i64 (x29), .int .i64 (x30), .slice A3 (l31).length c4, .slice A8 (l32).length c9]) :: (hs2 ++ (hs7 ++ R))) (fun v b' hp' => ∃ (hs511 : Hp), ∃ (A515 : Option Addr), ∃ (c516 : Nat), ∃ (hs514 : Hp), .bool (x518) = v ∧ (g11, Cl 106 [.slice A20 (l23).length c21, .int .i64 (x24), .int .i64 (x25), .int .i64 (x26), .int .i64 (x27), .int .i64 (x28), .int .i64 (x29), .int .i64 (x30), .slice A3 (l519).length c4, .slice A515 (l521).length c516]) :: (hs511 ++ (hs514 ++ R)) = hp' ∧ OS 4 (OT.fr RT.bool) b'.w (.slice A3 l519.length c4) l519 hs511 ∧ l519.length = l31.length ∧ OS 45 (OT.fr (RT.list (RT.int .i64))) b'.w (.slice A515 l521.length c516) l521 hs514) := by
  refine fn_enterG 86 Try.func94 rfl Try.ntmps94 rfl ?_
  unfold mFleetDividerTake at hm
  refine c_seq ?_
  refine c_region ?_
  refine t_st rfl (st_assign rfl) ?_
  refine t_nil ?_
  refine x_then_normal ?_
  refine c_seq ?_
  refine c_seq ?_
  refine c_region ?_
  refine t_st rfl (st_move rfl) ?_
  refine t_st rfl (st_nil rfl) ?_
  refine t_st rfl (st_field rfl fld106_2) ?_
  refine t_st rfl (st_load 0 rfl one104 rfl rfl) ?_
  refine t_st rfl (st_move rfl) ?_
  obtain ⟨x522, h523, hm⟩ := bindS hm
  obtain ⟨j524, hj525, hx526⟩ := idx_some h523
  obtain ⟨cs527, hs532, P533, P534, hq535, hr528, hcs529, hA530, hlt531, hb536, hho537⟩ := OS.get (sz := 1) rfl (by decide) h5 hx526
  obtain ⟨rfl, rfl⟩ := hr528
  refine t_st rfl (st_index_old j524 rfl rfl hj525 hlt531 hA530 sl104) ?_
  refine t_st rfl (st_load_rd rfl one4 (fun w ho => hcs529 w _ ho (.cons _ (List.sublist_append_left _ _)) 0 _ rfl)) ?_
  refine t_nil ?_
  refine x_then_normal ?_
  refine c_cond _ rfl (fun hc538 => ?_) (fun hc538 => ?_)
  ·
    rw [if_pos hc538] at hm
    refine c_seq ?_
    refine c_region ?_
    refine t_st rfl (st_assign rfl) ?_
    refine t_nil ?_
    refine x_then_normal ?_
    refine c_ret ?_
    refine x_then_ret ?_
    obtain ⟨rfl, rfl, rfl⟩ := some3 hm
    refine x_front2 [_] hs2 hs7 R rfl ?_
    refine x_front2 [_] hs7 hs2 R rfl ?_
    exact retM (rs := [.tmp 10]) [.bool (false)] (Base.Le.refl _) (by decide) rfl ⟨rfl, trivial⟩ rfl (hp' := (g11, Cl 106 [.slice A20 (l23).length c21, .int .i64 (x24), .int .i64 (x25), .int .i64 (x26), .int .i64 (x27), .int .i64 (x28), .int .i64 (x29), .int .i64 (x30), .slice A3 (l31).length c4, .slice A8 (l32).length c9]) :: (hs2 ++ (hs7 ++ R))) (.cons_cons _ (sub_app hs2 (sub_app hs7 (.refl _)))) ⟨hs2, A8, c9, hs7, rfl, rfl, h5, rfl, h10⟩
  ·
    rw [if_neg (fun hh => Bool.noConfusion (hh.symm.trans hc538))] at hm
    refine c_skip ?_
    refine x_then_normal ?_
    obtain ⟨t734, hj733, hk733⟩ := bindS hm
    refine c_join (fun b731 e' hp' => [(0, .pointer (some ⟨g11, 0, none⟩)), (1, .int .i64 (x12)), (2, .int .i64 (x13)), (3, .slice A14 (l17).length c15), (4, .int .i64 (x19))] = e' ∧ (g11, Cl 106 [.slice A20 (l23).length c21, .int .i64 (x24), .int .i64 (x25), .int .i64 (x26), .int .i64 (x27), .int .i64 (x28), .int .i64 (x29), .int .i64 (x30), .slice A3 (l31).length c4, .slice A8 (l32).length c9]) :: (hs2 ++ (hs7 ++ R)) = hp' ∧ b.Le b731 ∧ t734 = .inl ()) ?_ ?_
    ·
      have hm := hj733
      refine c_seq ?_
      refine c_region ?_
      refine t_st rfl (st_move rfl) ?_
      refine t_st rfl (st_len rfl sl45) ?_
      refine t_st rfl (st_assign rfl) ?_
      refine t_nil ?_
      refine x_then_normal ?_
      refine c_seq ?_
      refine c_region ?_
      refine t_st rfl (st_move rfl) ?_
      refine t_st rfl (st_gtr rfl rfl) ?_
      refine t_nil ?_
      refine x_then_normal ?_
      refine c_cond _ rfl (fun hc735 => ?_) (fun hc735 => ?_)
      ·
        rw [if_pos (of_decide_eq_true hc735)] at hm
        obtain ⟨⟨x783, x784, x785, x786, x787, x788⟩, hj789, hk789⟩ := bindS hm
        refine c_join (fun b780 e' hp' => ∃ (g782 : Nat), [(0, .pointer (some ⟨g11, 0, none⟩)), (1, .int .i64 (x12)), (2, .int .i64 (x13)), (3, .slice A14 (l17).length c15), (4, .int .i64 (x19)), (12, .pointer (some ⟨g782, 0, none⟩))] = e' ∧ (g11, Cl 106 [.slice A20 (l23).length c21, .int .i64 (x24), .int .i64 (x25), .int .i64 (x26), .int .i64 (x27), .int .i64 (x28), .int .i64 (x29), .int .i64 (x30), .slice A3 (l31).length c4, .slice A8 (l32).length c9]) :: (g782, Cl 36 [.int .i64 (x783), .int .i64 (x784), .int .i64 (x785), .int .i64 (x786), .int .i64 (x787), .int .i64 (x788)]) :: (hs2 ++ (hs7 ++ R)) = hp' ∧ b.Le b780) ?_ ?_
        ·
          have hm := hj789
          obtain ⟨_, h812, hm⟩ := bindS hm
          obtain ⟨x813, h814, hm⟩ := bindS hm
          obtain ⟨x823, h824, hm⟩ := bindS hm
          refine D_drawS ((g11, Cl 106 [.slice A20 (l23).length c21, .int .i64 (x24), .int .i64 (x25), .int .i64 (x26), .int .i64 (x27), .int .i64 (x28), .int .i64 (x29), .int .i64 (x30), .slice A3 (l31).length c4, .slice A8 (l32).length c9]) :: (hs2 ++ (hs7 ++ R))) mixed ?_
          refine D_st (Base.Le.refl _) 0 rfl (by kernel_rfl) (by kernel_rfl) (by kernel_rfl) rfl (st_move rfl) (.cons_cons _ (sub_app hs2 (sub_app hs7 (.refl _)))) ?_
          refine D_st (Base.Le.refl _) 1 rfl (by kernel_rfl) (by kernel_rfl) (by kernel_rfl) rfl (st_nil rfl) (.cons_cons _ (sub_app hs2 (sub_app hs7 (.refl _)))) ?_
          refine D_st (Base.Le.refl _) 2 rfl (by kernel_rfl) (by kernel_rfl) (by kernel_rfl) rfl (st_field rfl fld106_0) (.cons_cons _ (sub_app hs2 (sub_app hs7 (.refl _)))) ?_
          refine D_st (Base.Le.refl _) 3 rfl (by kernel_rfl) (by kernel_rfl) (by kernel_rfl) rfl (st_load 0 rfl one22 rfl rfl) (.cons_cons _ (sub_app hs2 (sub_app hs7 (.refl _)))) ?_
          refine D_st (Base.Le.refl _) 4 rfl (by kernel_rfl) (by kernel_rfl) (by kernel_rfl) rfl (st_move rfl) (.cons_cons _ (sub_app hs2 (sub_app hs7 (.refl _)))) ?_
          refine D_st (Base.Le.refl _) 5 rfl (by kernel_rfl) (by kernel_rfl) (by kernel_rfl) rfl (st_move rfl) (.cons_cons _ (sub_app hs2 (sub_app hs7 (.refl _)))) ?_
          have h812 := (chk_some h812).2
          refine D_st (Base.Le.refl _) 6 rfl (by kernel_rfl) (by kernel_rfl) (by kernel_rfl) rfl (st_sub rfl rfl h812) (.cons_cons _ (sub_app hs2 (sub_app hs7 (.refl _)))) ?_
          obtain ⟨j815, hj816, hx817⟩ := idx_some h814
          obtain ⟨cs818, hr819, hcs820, hA821, hlt822⟩ := FZ.get (sz := 1) rfl (by decide) h16 hx817
          obtain rfl := hr819
          refine D_st (Base.Le.refl _) 7 rfl (by kernel_rfl) (by kernel_rfl) (by kernel_rfl) rfl (st_index_old j815 rfl rfl hj816 hlt822 hA821 sl45) (.cons_cons _ (sub_app hs2 (sub_app hs7 (.refl _)))) ?_
          refine D_st (Base.Le.refl _) 8 rfl (by kernel_rfl) (by kernel_rfl) (by kernel_rfl) rfl (st_load_old rfl one3 (hcs820 0 _ rfl)) (.cons_cons _ (sub_app hs2 (sub_app hs7 (.refl _)))) ?_
          obtain ⟨j825, hj826, hx827⟩ := idx_some h824
          obtain ⟨cs828, hr829, hcs830, hA831, hlt832⟩ := FZ.get (sz := 6) rfl (by decide) h22 hx827
          obtain ⟨_, _, rfl, rfl, ⟨_, _, rfl, rfl, ⟨_, _, rfl, rfl, ⟨_, _, rfl, rfl, ⟨_, _, rfl, rfl, rfl⟩⟩⟩⟩⟩ := hr829
          refine D_st (Base.Le.refl _) 9 rfl (by kernel_rfl) (by kernel_rfl) (by kernel_rfl) rfl (st_index_old j825 rfl rfl hj826 hlt832 hA831 sl22) (.cons_cons _ (sub_app hs2 (sub_app hs7 (.refl _)))) ?_
          refine D_st (Base.Le.refl _) 10 rfl (by kernel_rfl) (by kernel_rfl) (by kernel_rfl) rfl (st_loadN_old (vs := [.int .i64 (x823.From), .int .i64 (x823.To), .int .i64 (x823.Dep), .int .i64 (x823.Arr), .int .i64 (x823.Km), .int .i64 (x823.Units)]) 6 rfl agg36 hA831 rfl (fun j u hu => hcs830 j u hu)) (.cons_cons _ (sub_app hs2 (sub_app hs7 (.refl _)))) ?_
          refine D_all [11] (by kernel_rfl) rfl ?_
          refine R_do (Base.Le.refl _) rfl rfl (u_alloc [.int .i64 0, .int .i64 0, .int .i64 0, .int .i64 0, .int .i64 0, .int .i64 0] zero36 rfl) ?_ ?_
          ·
            rintro _ _ ⟨g833, rfl, rfl⟩
            refine ⟨.inr (.cons _ (.cons_cons _ (sub_app hs2 (sub_app hs7 (.refl _))))), ?_⟩
            refine D_all [12] (by kernel_rfl) rfl ?_
            refine R_do (Base.Le.refl _) rfl rfl (u_storeN (vs := [_, _, _, _, _, _]) 0 6 rfl rfl rfl siz36 rfl (by intro u hu; simp only [List.mem_cons, List.not_mem_nil, or_false] at hu; rcases hu with rfl | rfl | rfl | rfl | rfl | rfl <;> rfl) rfl (by simp)) ?_ ?_
            ·
              rintro _ _ rfl
              refine ⟨.inl (by kernel_rfl), ?_⟩
              refine D_done (by kernel_rfl) ?_
              obtain ⟨rfl, rfl, rfl, rfl, rfl, rfl⟩ := some6 hm
              refine x_pullb 1 rfl ?_
              refine x_front2 [_, _] hs2 hs7 R rfl ?_
              refine x_front2 [_, _] hs7 hs2 R rfl ?_
              exact x_join (e' := [(0, .pointer (some ⟨g11, 0, none⟩)), (1, .int .i64 (x12)), (2, .int .i64 (x13)), (3, .slice A14 (l17).length c15), (4, .int .i64 (x19)), (12, .pointer (some ⟨g833, 0, none⟩))]) (hp' := (g11, Cl 106 [.slice A20 (l23).length c21, .int .i64 (x24), .int .i64 (x25), .int .i64 (x26), .int .i64 (x27), .int .i64 (x28), .int .i64 (x29), .int .i64 (x30), .slice A3 (l31).length c4, .slice A8 (l32).length c9]) :: (g833, Cl 36 [.int .i64 (x823.From), .int .i64 (x823.To), .int .i64 (x823.Dep), .int .i64 (x823.Arr), .int .i64 (x823.Km), .int .i64 (x823.Units)]) :: (hs2 ++ (hs7 ++ R))) ⟨rfl, rfl, rfl, rfl, rfl, rfl, trivial⟩ (.cons_cons _ (.cons_cons _ (sub_app hs2 (sub_app hs7 (.refl _))))) ⟨g833, rfl, rfl, (Base.Le.refl _)⟩
            exact R_nil
          exact R_nil
        ·
          rintro b780 _ _ ⟨g782, rfl, rfl, hle781⟩
          have hm := (unc6E hk789)
          obtain ⟨x880, hj881, hk881⟩ := bindS hm
          refine c_join (fun b878 e' hp' => [(0, .pointer (some ⟨g11, 0, none⟩)), (1, .int .i64 (x12)), (2, .int .i64 (x13)), (3, .slice A14 (l17).length c15), (4, .int .i64 (x19)), (64, .bool (x880))] = e' ∧ (g11, Cl 106 [.slice A20 (l23).length c21, .int .i64 (x24), .int .i64 (x25), .int .i64 (x26), .int .i64 (x27), .int .i64 (x28), .int .i64 (x29), .int .i64 (x30), .slice A3 (l31).length c4, .slice A8 (l32).length c9]) :: (hs2 ++ (hs7 ++ R)) = hp' ∧ b780.Le b878) ?_ ?_
          ·
            have hm := hj881
            obtain ⟨x904, h905, hm⟩ := bindS hm
            by_cases hc914 : x904.From ≠ x784
            ·
              rw [if_pos hc914] at hm
              refine D_drawS ((g11, Cl 106 [.slice A20 (l23).length c21, .int .i64 (x24), .int .i64 (x25), .int .i64 (x26), .int .i64 (x27), .int .i64 (x28), .int .i64 (x29), .int .i64 (x30), .slice A3 (l31).length c4, .slice A8 (l32).length c9]) :: (g782, Cl 36 [.int .i64 (x783), .int .i64 (x784), .int .i64 (x785), .int .i64 (x786), .int .i64 (x787), .int .i64 (x788)]) :: (hs2 ++ (hs7 ++ R))) mixed ?_
              refine D_st (Base.Le.refl _) 0 rfl (by kernel_rfl) (by kernel_rfl) (by kernel_rfl) rfl (st_move rfl) (.cons_cons _ (.cons_cons _ (sub_app hs2 (sub_app hs7 (.refl _))))) ?_
              refine D_st (Base.Le.refl _) 1 rfl (by kernel_rfl) (by kernel_rfl) (by kernel_rfl) rfl (st_nil rfl) (.cons_cons _ (.cons_cons _ (sub_app hs2 (sub_app hs7 (.refl _))))) ?_
              refine D_st (Base.Le.refl _) 2 rfl (by kernel_rfl) (by kernel_rfl) (by kernel_rfl) rfl (st_field rfl fld106_0) (.cons_cons _ (.cons_cons _ (sub_app hs2 (sub_app hs7 (.refl _))))) ?_
              refine D_st (Base.Le.refl _) 3 rfl (by kernel_rfl) (by kernel_rfl) (by kernel_rfl) rfl (st_load 0 rfl one22 rfl rfl) (.cons_cons _ (.cons_cons _ (sub_app hs2 (sub_app hs7 (.refl _))))) ?_
              refine D_st (Base.Le.refl _) 4 rfl (by kernel_rfl) (by kernel_rfl) (by kernel_rfl) rfl (st_move rfl) (.cons_cons _ (.cons_cons _ (sub_app hs2 (sub_app hs7 (.refl _))))) ?_
              obtain ⟨j906, hj907, hx908⟩ := idx_some h905
              obtain ⟨cs909, hr910, hcs911, hA912, hlt913⟩ := FZ.get (sz := 6) rfl (by decide) (h22.le hle781) hx908
              obtain ⟨_, _, rfl, rfl, ⟨_, _, rfl, rfl, ⟨_, _, rfl, rfl, ⟨_, _, rfl, rfl, ⟨_, _, rfl, rfl, rfl⟩⟩⟩⟩⟩ := hr910
              refine D_st (Base.Le.refl _) 5 rfl (by kernel_rfl) (by kernel_rfl) (by kernel_rfl) rfl (st_index_old j906 rfl rfl hj907 hlt913 hA912 sl22) (.cons_cons _ (.cons_cons _ (sub_app hs2 (sub_app hs7 (.refl _))))) ?_
              refine D_st (Base.Le.refl _) 6 rfl (by kernel_rfl) (by kernel_rfl) (by kernel_rfl) rfl (st_field_old rfl hA912 fld36_0) (.cons_cons _ (.cons_cons _ (sub_app hs2 (sub_app hs7 (.refl _))))) ?_
              refine D_st (Base.Le.refl _) 7 rfl (by kernel_rfl) (by kernel_rfl) (by kernel_rfl) rfl (st_load_old rfl one3 (hcs911 0 _ rfl)) (.cons_cons _ (.cons_cons _ (sub_app hs2 (sub_app hs7 (.refl _))))) ?_
              refine D_st (Base.Le.refl _) 8 rfl (by kernel_rfl) (by kernel_rfl) (by kernel_rfl) rfl (st_field rfl fld36_1) (.cons_cons _ (.cons_cons _ (sub_app hs2 (sub_app hs7 (.refl _))))) ?_
              refine D_st (Base.Le.refl _) 9 rfl (by kernel_rfl) (by kernel_rfl) (by kernel_rfl) rfl (st_load 1 rfl one3 rfl rfl) (.cons_cons _ (.cons_cons _ (sub_app hs2 (sub_app hs7 (.refl _))))) ?_
              refine D_st (Base.Le.refl _) 10 rfl (by kernel_rfl) (by kernel_rfl) (by kernel_rfl) rfl (st_neq_t rfl rfl hc914) (.cons_cons _ (.cons_cons _ (sub_app hs2 (sub_app hs7 (.refl _))))) ?_
              refine D_st (Base.Le.refl _) 11 rfl (by kernel_rfl) (by kernel_rfl) (by kernel_rfl) rfl (st_move rfl) (.cons_cons _ (.cons_cons _ (sub_app hs2 (sub_app hs7 (.refl _))))) ?_
              refine D_no (Base.Le.refl _) 12 46 rfl (by kernel_rfl) (by kernel_rfl) (by kernel_rfl) rfl rfl rfl rfl rfl (.cons_cons _ (.cons_cons _ (sub_app hs2 (sub_app hs7 (.refl _))))) ?_
              refine D_no (Base.Le.refl _) 13 46 rfl (by kernel_rfl) (by kernel_rfl) (by kernel_rfl) rfl rfl rfl rfl rfl (.cons_cons _ (.cons_cons _ (sub_app hs2 (sub_app hs7 (.refl _))))) ?_
              refine D_no (Base.Le.refl _) 14 46 rfl (by kernel_rfl) (by kernel_rfl) (by kernel_rfl) rfl rfl rfl rfl rfl (.cons_cons _ (.cons_cons _ (sub_app hs2 (sub_app hs7 (.refl _))))) ?_
              refine D_no (Base.Le.refl _) 15 46 rfl (by kernel_rfl) (by kernel_rfl) (by kernel_rfl) rfl rfl rfl rfl rfl (.cons_cons _ (.cons_cons _ (sub_app hs2 (sub_app hs7 (.refl _))))) ?_
              refine D_no (Base.Le.refl _) 16 46 rfl (by kernel_rfl) (by kernel_rfl) (by kernel_rfl) rfl rfl rfl rfl rfl (.cons_cons _ (.cons_cons _ (sub_app hs2 (sub_app hs7 (.refl _))))) ?_
              refine D_no (Base.Le.refl _) 17 46 rfl (by kernel_rfl) (by kernel_rfl) (by kernel_rfl) rfl rfl rfl rfl rfl (.cons_cons _ (.cons_cons _ (sub_app hs2 (sub_app hs7 (.refl _))))) ?_
              refine D_no (Base.Le.refl _) 18 46 rfl (by kernel_rfl) (by kernel_rfl) (by kernel_rfl) rfl rfl rfl rfl rfl (.cons_cons _ (.cons_cons _ (sub_app hs2 (sub_app hs7 (.refl _))))) ?_
              refine D_no (Base.Le.refl _) 19 46 rfl (by kernel_rfl) (by kernel_rfl) (by kernel_rfl) rfl rfl rfl rfl rfl (.cons_cons _ (.cons_cons _ (sub_app hs2 (sub_app hs7 (.refl _))))) ?_
              refine D_no (Base.Le.refl _) 20 46 rfl (by kernel_rfl) (by kernel_rfl) (by kernel_rfl) rfl rfl rfl rfl rfl (.cons_cons _ (.cons_cons _ (sub_app hs2 (sub_app hs7 (.refl _))))) ?_
              refine D_no (Base.Le.refl _) 21 46 rfl (by kernel_rfl) (by kernel_rfl) (by kernel_rfl) rfl rfl rfl rfl rfl (.cons_cons _ (.cons_cons _ (sub_app hs2 (sub_app hs7 (.refl _))))) ?_
              refine D_no (Base.Le.refl _) 22 46 rfl (by kernel_rfl) (by kernel_rfl) (by kernel_rfl) rfl rfl rfl rfl rfl (.cons_cons _ (.cons_cons _ (sub_app hs2 (sub_app hs7 (.refl _))))) ?_
              refine D_no (Base.Le.refl _) 23 46 rfl (by kernel_rfl) (by kernel_rfl) (by kernel_rfl) rfl rfl rfl rfl rfl (.cons_cons _ (.cons_cons _ (sub_app hs2 (sub_app hs7 (.refl _))))) ?_
              refine D_no (Base.Le.refl _) 24 46 rfl (by kernel_rfl) (by kernel_rfl) (by kernel_rfl) rfl rfl rfl rfl rfl (.cons_cons _ (.cons_cons _ (sub_app hs2 (sub_app hs7 (.refl _))))) ?_
              refine D_no (Base.Le.refl _) 25 46 rfl (by kernel_rfl) (by kernel_rfl) (by kernel_rfl) rfl rfl rfl rfl rfl (.cons_cons _ (.cons_cons _ (sub_app hs2 (sub_app hs7 (.refl _))))) ?_
              refine D_no (Base.Le.refl _) 26 46 rfl (by kernel_rfl) (by kernel_rfl) (by kernel_rfl) rfl rfl rfl rfl rfl (.cons_cons _ (.cons_cons _ (sub_app hs2 (sub_app hs7 (.refl _))))) ?_
              refine D_no (Base.Le.refl _) 27 46 rfl (by kernel_rfl) (by kernel_rfl) (by kernel_rfl) rfl rfl rfl rfl rfl (.cons_cons _ (.cons_cons _ (sub_app hs2 (sub_app hs7 (.refl _))))) ?_
              refine D_no (Base.Le.refl _) 28 46 rfl (by kernel_rfl) (by kernel_rfl) (by kernel_rfl) rfl rfl rfl rfl rfl (.cons_cons _ (.cons_cons _ (sub_app hs2 (sub_app hs7 (.refl _))))) ?_
              refine D_st (Base.Le.refl _) 29 rfl (by kernel_rfl) (by kernel_rfl) (by kernel_rfl) rfl (st_pick_t rfl rfl) (.cons_cons _ (.cons_cons _ (sub_app hs2 (sub_app hs7 (.refl _))))) ?_
              refine D_done (by kernel_rfl) ?_
              obtain rfl := some1 hm
              refine x_front2 [_, _] hs2 hs7 R rfl ?_
              refine x_front2 [_, _] hs7 hs2 R rfl ?_
              exact x_join (e' := [(0, .pointer (some ⟨g11, 0, none⟩)), (1, .int .i64 (x12)), (2, .int .i64 (x13)), (3, .slice A14 (l17).length c15), (4, .int .i64 (x19)), (64, .bool (true))]) (hp' := (g11, Cl 106 [.slice A20 (l23).length c21, .int .i64 (x24), .int .i64 (x25), .int .i64 (x26), .int .i64 (x27), .int .i64 (x28), .int .i64 (x29), .int .i64 (x30), .slice A3 (l31).length c4, .slice A8 (l32).length c9]) :: (hs2 ++ (hs7 ++ R))) ⟨rfl, rfl, rfl, rfl, rfl, rfl, trivial⟩ (.cons_cons _ (.cons _ (sub_app hs2 (sub_app hs7 (.refl _))))) ⟨rfl, rfl, (Base.Le.refl _)⟩
            ·
              rw [if_neg hc914] at hm
              obtain ⟨x915, h916, hm⟩ := bindS hm
              obtain ⟨_, h925, hm⟩ := bindS hm
              refine D_drawS ((g11, Cl 106 [.slice A20 (l23).length c21, .int .i64 (x24), .int .i64 (x25), .int .i64 (x26), .int .i64 (x27), .int .i64 (x28), .int .i64 (x29), .int .i64 (x30), .slice A3 (l31).length c4, .slice A8 (l32).length c9]) :: (g782, Cl 36 [.int .i64 (x783), .int .i64 (x784), .int .i64 (x785), .int .i64 (x786), .int .i64 (x787), .int .i64 (x788)]) :: (hs2 ++ (hs7 ++ R))) mixed ?_
              refine D_st (Base.Le.refl _) 0 rfl (by kernel_rfl) (by kernel_rfl) (by kernel_rfl) rfl (st_move rfl) (.cons_cons _ (.cons_cons _ (sub_app hs2 (sub_app hs7 (.refl _))))) ?_
              refine D_st (Base.Le.refl _) 1 rfl (by kernel_rfl) (by kernel_rfl) (by kernel_rfl) rfl (st_nil rfl) (.cons_cons _ (.cons_cons _ (sub_app hs2 (sub_app hs7 (.refl _))))) ?_
              refine D_st (Base.Le.refl _) 2 rfl (by kernel_rfl) (by kernel_rfl) (by kernel_rfl) rfl (st_field rfl fld106_0) (.cons_cons _ (.cons_cons _ (sub_app hs2 (sub_app hs7 (.refl _))))) ?_
              refine D_st (Base.Le.refl _) 3 rfl (by kernel_rfl) (by kernel_rfl) (by kernel_rfl) rfl (st_load 0 rfl one22 rfl rfl) (.cons_cons _ (.cons_cons _ (sub_app hs2 (sub_app hs7 (.refl _))))) ?_
              refine D_st (Base.Le.refl _) 4 rfl (by kernel_rfl) (by kernel_rfl) (by kernel_rfl) rfl (st_move rfl) (.cons_cons _ (.cons_cons _ (sub_app hs2 (sub_app hs7 (.refl _))))) ?_
              obtain ⟨j906, hj907, hx908⟩ := idx_some h905
              obtain ⟨cs909, hr910, hcs911, hA912, hlt913⟩ := FZ.get (sz := 6) rfl (by decide) (h22.le hle781) hx908
              obtain ⟨_, _, rfl, rfl, ⟨_, _, rfl, rfl, ⟨_, _, rfl, rfl, ⟨_, _, rfl, rfl, ⟨_, _, rfl, rfl, rfl⟩⟩⟩⟩⟩ := hr910
              refine D_st (Base.Le.refl _) 5 rfl (by kernel_rfl) (by kernel_rfl) (by kernel_rfl) rfl (st_index_old j906 rfl rfl hj907 hlt913 hA912 sl22) (.cons_cons _ (.cons_cons _ (sub_app hs2 (sub_app hs7 (.refl _))))) ?_
              refine D_st (Base.Le.refl _) 6 rfl (by kernel_rfl) (by kernel_rfl) (by kernel_rfl) rfl (st_field_old rfl hA912 fld36_0) (.cons_cons _ (.cons_cons _ (sub_app hs2 (sub_app hs7 (.refl _))))) ?_
              refine D_st (Base.Le.refl _) 7 rfl (by kernel_rfl) (by kernel_rfl) (by kernel_rfl) rfl (st_load_old rfl one3 (hcs911 0 _ rfl)) (.cons_cons _ (.cons_cons _ (sub_app hs2 (sub_app hs7 (.refl _))))) ?_
              refine D_st (Base.Le.refl _) 8 rfl (by kernel_rfl) (by kernel_rfl) (by kernel_rfl) rfl (st_field rfl fld36_1) (.cons_cons _ (.cons_cons _ (sub_app hs2 (sub_app hs7 (.refl _))))) ?_
              refine D_st (Base.Le.refl _) 9 rfl (by kernel_rfl) (by kernel_rfl) (by kernel_rfl) rfl (st_load 1 rfl one3 rfl rfl) (.cons_cons _ (.cons_cons _ (sub_app hs2 (sub_app hs7 (.refl _))))) ?_
              refine D_st (Base.Le.refl _) 10 rfl (by kernel_rfl) (by kernel_rfl) (by kernel_rfl) rfl (st_neq_f rfl rfl hc914) (.cons_cons _ (.cons_cons _ (sub_app hs2 (sub_app hs7 (.refl _))))) ?_
              refine D_st (Base.Le.refl _) 11 rfl (by kernel_rfl) (by kernel_rfl) (by kernel_rfl) rfl (st_move rfl) (.cons_cons _ (.cons_cons _ (sub_app hs2 (sub_app hs7 (.refl _))))) ?_
              refine D_yes (Base.Le.refl _) 12 46 rfl (by kernel_rfl) (by kernel_rfl) (by kernel_rfl) rfl rfl rfl rfl (st_move rfl) (.cons_cons _ (.cons_cons _ (sub_app hs2 (sub_app hs7 (.refl _))))) ?_
              refine D_yes (Base.Le.refl _) 13 46 rfl (by kernel_rfl) (by kernel_rfl) (by kernel_rfl) rfl rfl rfl rfl (st_nil rfl) (.cons_cons _ (.cons_cons _ (sub_app hs2 (sub_app hs7 (.refl _))))) ?_
              refine D_yes (Base.Le.refl _) 14 46 rfl (by kernel_rfl) (by kernel_rfl) (by kernel_rfl) rfl rfl rfl rfl (st_field rfl fld106_0) (.cons_cons _ (.cons_cons _ (sub_app hs2 (sub_app hs7 (.refl _))))) ?_
              refine D_yes (Base.Le.refl _) 15 46 rfl (by kernel_rfl) (by kernel_rfl) (by kernel_rfl) rfl rfl rfl rfl (st_load 0 rfl one22 rfl rfl) (.cons_cons _ (.cons_cons _ (sub_app hs2 (sub_app hs7 (.refl _))))) ?_
              refine D_yes (Base.Le.refl _) 16 46 rfl (by kernel_rfl) (by kernel_rfl) (by kernel_rfl) rfl rfl rfl rfl (st_move rfl) (.cons_cons _ (.cons_cons _ (sub_app hs2 (sub_app hs7 (.refl _))))) ?_
              obtain ⟨j917, hj918, hx919⟩ := idx_some h916
              obtain ⟨cs920, hr921, hcs922, hA923, hlt924⟩ := FZ.get (sz := 6) rfl (by decide) (h22.le hle781) hx919
              obtain ⟨_, _, rfl, rfl, ⟨_, _, rfl, rfl, ⟨_, _, rfl, rfl, ⟨_, _, rfl, rfl, ⟨_, _, rfl, rfl, rfl⟩⟩⟩⟩⟩ := hr921
              refine D_yes (Base.Le.refl _) 17 46 rfl (by kernel_rfl) (by kernel_rfl) (by kernel_rfl) rfl rfl rfl rfl (st_index_old j917 rfl rfl hj918 hlt924 hA923 sl22) (.cons_cons _ (.cons_cons _ (sub_app hs2 (sub_app hs7 (.refl _))))) ?_
              refine D_yes (Base.Le.refl _) 18 46 rfl (by kernel_rfl) (by kernel_rfl) (by kernel_rfl) rfl rfl rfl rfl (st_field_old rfl hA923 fld36_2) (.cons_cons _ (.cons_cons _ (sub_app hs2 (sub_app hs7 (.refl _))))) ?_
              refine D_yes (Base.Le.refl _) 19 46 rfl (by kernel_rfl) (by kernel_rfl) (by kernel_rfl) rfl rfl rfl rfl (st_load_old rfl one3 (hcs922 2 _ rfl)) (.cons_cons _ (.cons_cons _ (sub_app hs2 (sub_app hs7 (.refl _))))) ?_
              refine D_yes (Base.Le.refl _) 20 46 rfl (by kernel_rfl) (by kernel_rfl) (by kernel_rfl) rfl rfl rfl rfl (st_field rfl fld36_3) (.cons_cons _ (.cons_cons _ (sub_app hs2 (sub_app hs7 (.refl _))))) ?_
              refine D_yes (Base.Le.refl _) 21 46 rfl (by kernel_rfl) (by kernel_rfl) (by kernel_rfl) rfl rfl rfl rfl (st_load 1 rfl one3 rfl rfl) (.cons_cons _ (.cons_cons _ (sub_app hs2 (sub_app hs7 (.refl _))))) ?_
              refine D_yes (Base.Le.refl _) 22 46 rfl (by kernel_rfl) (by kernel_rfl) (by kernel_rfl) rfl rfl rfl rfl (st_move rfl) (.cons_cons _ (.cons_cons _ (sub_app hs2 (sub_app hs7 (.refl _))))) ?_
              refine D_yes (Base.Le.refl _) 23 46 rfl (by kernel_rfl) (by kernel_rfl) (by kernel_rfl) rfl rfl rfl rfl (st_nil rfl) (.cons_cons _ (.cons_cons _ (sub_app hs2 (sub_app hs7 (.refl _))))) ?_
              refine D_yes (Base.Le.refl _) 24 46 rfl (by kernel_rfl) (by kernel_rfl) (by kernel_rfl) rfl rfl rfl rfl (st_field rfl fld106_1) (.cons_cons _ (.cons_cons _ (sub_app hs2 (sub_app hs7 (.refl _))))) ?_
              refine D_yes (Base.Le.refl _) 25 46 rfl (by kernel_rfl) (by kernel_rfl) (by kernel_rfl) rfl rfl rfl rfl (st_field rfl fld55_0) (.cons_cons _ (.cons_cons _ (sub_app hs2 (sub_app hs7 (.refl _))))) ?_
              refine D_yes (Base.Le.refl _) 26 46 rfl (by kernel_rfl) (by kernel_rfl) (by kernel_rfl) rfl rfl rfl rfl (st_load 0 rfl one3 rfl rfl) (.cons_cons _ (.cons_cons _ (sub_app hs2 (sub_app hs7 (.refl _))))) ?_
              have h925 := (chk_some h925).2
              refine D_yes (Base.Le.refl _) 27 46 rfl (by kernel_rfl) (by kernel_rfl) (by kernel_rfl) rfl rfl rfl rfl (st_add rfl rfl h925) (.cons_cons _ (.cons_cons _ (sub_app hs2 (sub_app hs7 (.refl _))))) ?_
              refine D_yes (Base.Le.refl _) 28 46 rfl (by kernel_rfl) (by kernel_rfl) (by kernel_rfl) rfl rfl rfl rfl (st_lss rfl rfl) (.cons_cons _ (.cons_cons _ (sub_app hs2 (sub_app hs7 (.refl _))))) ?_
              refine D_st (Base.Le.refl _) 29 rfl (by kernel_rfl) (by kernel_rfl) (by kernel_rfl) rfl (st_pick_f rfl rfl) (.cons_cons _ (.cons_cons _ (sub_app hs2 (sub_app hs7 (.refl _))))) ?_
              refine D_done (by kernel_rfl) ?_
              obtain rfl := some1 hm
              refine x_front2 [_, _] hs2 hs7 R rfl ?_
              refine x_front2 [_, _] hs7 hs2 R rfl ?_
              exact x_join (e' := [(0, .pointer (some ⟨g11, 0, none⟩)), (1, .int .i64 (x12)), (2, .int .i64 (x13)), (3, .slice A14 (l17).length c15), (4, .int .i64 (x19)), (64, .bool (decide (x915.Dep < (x786 + x24))))]) (hp' := (g11, Cl 106 [.slice A20 (l23).length c21, .int .i64 (x24), .int .i64 (x25), .int .i64 (x26), .int .i64 (x27), .int .i64 (x28), .int .i64 (x29), .int .i64 (x30), .slice A3 (l31).length c4, .slice A8 (l32).length c9]) :: (hs2 ++ (hs7 ++ R))) ⟨rfl, rfl, rfl, rfl, rfl, rfl, trivial⟩ (.cons_cons _ (.cons _ (sub_app hs2 (sub_app hs7 (.refl _))))) ⟨rfl, rfl, (Base.Le.refl _)⟩
          ·
            rintro b878 _ _ ⟨rfl, rfl, hle879⟩
            have hm := hk881
            refine c_cond _ rfl (fun hc926 => ?_) (fun hc926 => ?_)
            ·
              rw [if_pos hc926] at hm
              refine c_seq ?_
              refine c_region ?_
              refine t_st rfl (st_assign rfl) ?_
              refine t_nil ?_
              refine x_then_normal ?_
              refine c_ret ?_
              refine x_then_ret ?_
              have hq927 := (Option.some.inj hm).symm
              rw [hq927] at hk733
              have hm := elimR hk733
              obtain ⟨rfl, rfl, rfl⟩ := some3 hm
              refine x_front2 [_] hs2 hs7 R rfl ?_
              refine x_front2 [_] hs7 hs2 R rfl ?_
              exact retM (rs := [.tmp 10]) [.bool (false)] (hle781.trans hle879) (by decide) rfl ⟨rfl, trivial⟩ rfl (hp' := (g11, Cl 106 [.slice A20 (l23).length c21, .int .i64 (x24), .int .i64 (x25), .int .i64 (x26), .int .i64 (x27), .int .i64 (x28), .int .i64 (x29), .int .i64 (x30), .slice A3 (l31).length c4, .slice A8 (l32).length c9]) :: (hs2 ++ (hs7 ++ R))) (.cons_cons _ (sub_app hs2 (sub_app hs7 (.refl _)))) ⟨hs2, A8, c9, hs7, rfl, rfl, (h5.le (hle781.trans hle879)), rfl, (h10.le (hle781.trans hle879))⟩
            ·
              rw [if_neg (fun hh => Bool.noConfusion (hh.symm.trans hc926))] at hm
              refine c_skip ?_
              have hq := (Option.some.inj hm).symm
              refine x_front2 [_] hs2 hs7 R rfl ?_
              refine x_front2 [_] hs7 hs2 R rfl ?_
              exact x_join (e' := [(0, .pointer (some ⟨g11, 0, none⟩)), (1, .int .i64 (x12)), (2, .int .i64 (x13)), (3, .slice A14 (l17).length c15), (4, .int .i64 (x19))]) (hp' := (g11, Cl 106 [.slice A20 (l23).length c21, .int .i64 (x24), .int .i64 (x25), .int .i64 (x26), .int .i64 (x27), .int .i64 (x28), .int .i64 (x29), .int .i64 (x30), .slice A3 (l31).length c4, .slice A8 (l32).length c9]) :: (hs2 ++ (hs7 ++ R))) ⟨rfl, rfl, rfl, rfl, rfl, trivial⟩ (.cons_cons _ (sub_app hs2 (sub_app hs7 (.refl _)))) ⟨rfl, rfl, (hle781.trans hle879), hq⟩
      ·
        rw [if_neg (of_decide_eq_false hc735)] at hm
        refine c_skip ?_
        have hq := (Option.some.inj hm).symm
        refine x_front2 [_] hs2 hs7 R rfl ?_
        refine x_front2 [_] hs7 hs2 R rfl ?_
        exact x_join (e' := [(0, .pointer (some ⟨g11, 0, none⟩)), (1, .int .i64 (x12)), (2, .int .i64 (x13)), (3, .slice A14 (l17).length c15), (4, .int .i64 (x19))]) (hp' := (g11, Cl 106 [.slice A20 (l23).length c21, .int .i64 (x24), .int .i64 (x25), .int .i64 (x26), .int .i64 (x27), .int .i64 (x28), .int .i64 (x29), .int .i64 (x30), .slice A3 (l31).length c4, .slice A8 (l32).length c9]) :: (hs2 ++ (hs7 ++ R))) ⟨rfl, rfl, rfl, rfl, rfl, trivial⟩ (.cons_cons _ (sub_app hs2 (sub_app hs7 (.refl _)))) ⟨rfl, rfl, (Base.Le.refl _), hq⟩
    ·
      rintro b731 _ _ ⟨rfl, rfl, hle732, hq928⟩
      rw [hq928] at hk733
      have hm := elimL hk733
      refine c_seq ?_
      refine c_region ?_
      refine t_st rfl (st_move rfl) ?_
      refine t_st rfl (st_nil rfl) ?_
      refine t_st rfl (st_field rfl fld106_2) ?_
      refine t_st rfl (st_load 0 rfl one104 rfl rfl) ?_
      refine t_st rfl (st_move rfl) ?_
      obtain ⟨x929, h930, hm⟩ := bindS hm
      obtain ⟨j931, hj932, hx933⟩ := idx_some h930
      obtain ⟨cs934, hs939, P940, P941, hq942, hr935, hcs936, hA937, hlt938, hb943, hho944⟩ := OS.get (sz := 1) rfl (by decide) (h5.le hle732) hx933
      obtain ⟨rfl, rfl⟩ := hr935
      refine t_st rfl (st_index_old j931 rfl rfl hj932 hlt938 hA937 sl104) ?_
      refine t_do rfl (u_putOS hj932 (sz := 1) (a' := true) rfl [_] (hs7 ++ R) 0 1 [.bool (true)] rfl (h5.le hle732) hx933 rfl rfl rfl siz4 rfl (by intro u hu; simp only [List.mem_cons, List.not_mem_nil, or_false] at hu; subst hu; rfl) (fun cs hsj hh => by obtain ⟨rfl, rfl⟩ := hh; exact ⟨by decide, rfl, rfl⟩)) ?_
      rintro _ _ ⟨hs945, rfl, h946⟩
      refine t_hresp 0 rfl (o' := Cl 106 [.slice A20 (l23).length c21, .int .i64 (x24), .int .i64 (x25), .int .i64 (x26), .int .i64 (x27), .int .i64 (x28), .int .i64 (x29), .int .i64 (x30), .slice A3 (put l31 x19 true).length c4, .slice A8 (l32).length c9]) (by simp only [put_length]) ?_
      refine t_nil ?_
      refine x_then_normal ?_
      refine c_seq ?_
      refine c_seq ?_
      refine c_region ?_
      refine t_st rfl (st_move rfl) ?_
      refine t_st rfl (st_move rfl) ?_
      refine t_st rfl (st_move rfl) ?_
      refine t_st rfl (st_move rfl) ?_
      obtain ⟨l947, hcl948, hm⟩ := bindS hm
      refine t_callG _ rfl call66 rfl (cSlicesClone _ _ l17 A14 c15 (h16.le hle732) l947 hcl948) ?_
      rintro _ b949 _ hle950 ⟨A951, c952, hs953, rfl, rfl, h954⟩
      refine t_in1 [] [_] hs953 (hs945 ++ (hs7 ++ R)) rfl ?_
      refine t_st rfl (st_move rfl) ?_
      refine t_do rfl (u_bslice (el := 3) [(0, .int .i64 (x19))] [.int .i64 (x19)] rfl (fun _ => by kernel_rfl)) ?_
      rintro _ _ ⟨g955, rfl, rfl⟩
      obtain ⟨_, h956, hm⟩ := bindS hm
      have h956 := room_some h956
      refine t_do rfl (u_appOS (r := (RT.int .i64)) (l := l947) [_, _] (hs945 ++ (hs7 ++ R)) [[.int .i64 (x19)]] [x19] rfl (by decide) sl45 inf3 rfl rfl rfl rfl h954 rfl (fun w ho => Rd.own (i := 0) ho rfl) ⟨rfl, trivial⟩ h956) ?_
      rintro _ _ ⟨hs957, rfl, h958⟩
      obtain ⟨A959, c960, rfl, _⟩ := h958.form
      have hnz961 : (A959 = none ↔ l947 ++ [x19] = []) := (OS.nz h958 (by simp))
      refine t_frz [_, _] hs957 (hs945 ++ (hs7 ++ R)) rfl ?_
      intro b962 hle963 hz964
      have h965 := OS.frz (l := l947 ++ [x19]) h958 hle963.cells hz964
      obtain ⟨⟨x966, l967, l968⟩, hcl969, hm⟩ := bindS hm
      have hm := (unc3E hm)
      refine t_pullb 1 rfl ?_
      refine t_front2 [_, _] hs945 hs7 R rfl ?_
      refine t_front2 [_, _] hs7 hs945 R rfl ?_
      refine t_out2 [_] [_] hs945 hs7 R rfl ?_
      refine t_callG _ rfl call55 rfl (ihmFleetDividerDivide _ _ x12 x13 (l947 ++ [x19]) l23 x24 x25 x26 x27 x28 x29 x30 (put l31 x19 true) l32 g11 A959 c960 A20 c21 A3 c4 hs945 A8 c9 hs7 h965 hnz961 (h22.le (hle732.trans (hle950.trans hle963))) (h946.le (hle950.trans hle963)) (h10.le (hle732.trans (hle950.trans hle963))) x966 l967 l968 hcl969) ?_
      rintro _ b970 _ hle971 ⟨hs972, A973, c974, hs975, rfl, rfl, h976, h977, h978⟩
      refine t_in2 [_] [_] hs972 hs975 R rfl ?_
      refine t_hresp 0 rfl (o' := Cl 106 [.slice A20 (l23).length c21, .int .i64 (x24), .int .i64 (x25), .int .i64 (x26), .int .i64 (x27), .int .i64 (x28), .int .i64 (x29), .int .i64 (x30), .slice A3 (l967).length c4, .slice A973 (l968).length c974]) (by simp only [h977]) ?_
      refine t_nil ?_
      refine x_then_normal ?_
      refine c_cond _ rfl (fun hc979 => ?_) (fun hc979 => ?_)
      ·
        rw [if_pos hc979] at hm
        refine c_seq ?_
        refine c_region ?_
        refine t_st rfl (st_assign rfl) ?_
        refine t_nil ?_
        refine x_then_normal ?_
        refine c_ret ?_
        refine x_then_ret ?_
        obtain ⟨rfl, rfl, rfl⟩ := some3 hm
        refine x_front2 [_, _] hs972 hs975 R rfl ?_
        refine x_front2 [_, _] hs975 hs972 R rfl ?_
        exact retM (rs := [.tmp 10]) [.bool (true)] (hle732.trans (hle950.trans (hle963.trans hle971))) (by decide) rfl ⟨rfl, trivial⟩ rfl (hp' := (g11, Cl 106 [.slice A20 (l23).length c21, .int .i64 (x24), .int .i64 (x25), .int .i64 (x26), .int .i64 (x27), .int .i64 (x28), .int .i64 (x29), .int .i64 (x30), .slice A3 (l967).length c4, .slice A973 (l968).length c974]) :: (hs972 ++ (hs975 ++ R))) (.cons_cons _ (.cons _ (sub_app hs972 (sub_app hs975 (.refl _))))) ⟨hs972, A973, c974, hs975, rfl, rfl, h976, (h977.trans ((put_length _ _ _).trans rfl)), h978⟩
      ·
        rw [if_neg (fun hh => Bool.noConfusion (hh.symm.trans hc979))] at hm
        refine c_skip ?_
        refine x_then_normal ?_
        refine c_seq ?_
        refine c_region ?_
        refine t_st rfl (st_move rfl) ?_
        refine t_st rfl (st_nil rfl) ?_
        refine t_st rfl (st_field rfl fld106_2) ?_
        refine t_st rfl (st_load 0 rfl one104 rfl rfl) ?_
        refine t_st rfl (st_move rfl) ?_
        obtain ⟨x980, h981, hm⟩ := bindS hm
        obtain ⟨j982, hj983, hx984⟩ := idx_some h981
        obtain ⟨cs985, hs990, P991, P992, hq993, hr986, hcs987, hA988, hlt989, hb994, hho995⟩ := OS.get (sz := 1) rfl (by decide) h976 hx984
        obtain ⟨rfl, rfl⟩ := hr986
        refine t_st rfl (st_index_old j982 rfl rfl hj983 hlt989 hA988 sl104) ?_
        refine t_do rfl (u_putOS hj983 (sz := 1) (a' := false) rfl [_, _] (hs975 ++ R) 0 1 [.bool (false)] rfl h976 hx984 rfl rfl rfl siz4 rfl (by intro u hu; simp only [List.mem_cons, List.not_mem_nil, or_false] at hu; subst hu; rfl) (fun cs hsj hh => by obtain ⟨rfl, rfl⟩ := hh; exact ⟨by decide, rfl, rfl⟩)) ?_
        rintro _ _ ⟨hs996, rfl, h997⟩
        refine t_hresp 0 rfl (o' := Cl 106 [.slice A20 (l23).length c21, .int .i64 (x24), .int .i64 (x25), .int .i64 (x26), .int .i64 (x27), .int .i64 (x28), .int .i64 (x29), .int .i64 (x30), .slice A3 (put l967 x19 false).length c4, .slice A973 (l968).length c974]) (by simp only [put_length]) ?_
        refine t_nil ?_
        refine x_then_normal ?_
        refine c_seq ?_
        refine c_region ?_
        refine t_st rfl (st_assign rfl) ?_
        refine t_nil ?_
        refine x_then_normal ?_
        refine c_ret ?_
        obtain ⟨rfl, rfl, rfl⟩ := some3 hm
        refine x_front2 [_, _] hs996 hs975 R rfl ?_
        refine x_front2 [_, _] hs975 hs996 R rfl ?_
        exact retM (rs := [.tmp 10]) [.bool (false)] (hle732.trans (hle950.trans (hle963.trans hle971))) (by decide) rfl ⟨rfl, trivial⟩ rfl (hp' := (g11, Cl 106 [.slice A20 (l23).length c21, .int .i64 (x24), .int .i64 (x25), .int .i64 (x26), .int .i64 (x27), .int .i64 (x28), .int .i64 (x29), .int .i64 (x30), .slice A3 (put l967 x19 false).length c4, .slice A973 (l968).length c974]) :: (hs996 ++ (hs975 ++ R))) (.cons_cons _ (.cons _ (sub_app hs996 (sub_app hs975 (.refl _))))) ⟨hs996, A973, c974, hs975, rfl, rfl, h997, ((put_length _ _ _).trans (h977.trans ((put_length _ _ _).trans rfl))), h978⟩

set_option maxRecDepth 20000 in
theorem cFleetDividerDivide : ∀ (N : Nat) (b : Base) (R : Hp) (x12 : Int) (x13 : Int) (l17 : (List Int)) (l22 : (List FleetTask)) (x23 : Int) (x24 : Int) (x25 : Int) (x26 : Int) (x27 : Int) (x28 : Int) (x29 : Int) (l30 : (List Bool)) (l31 : (List (List Int))) (g11 : Nat) (A14 : Option Addr) (c15 : Nat) (A19 : Option Addr) (c20 : Nat) (A3 : Option Addr) (c4 : Nat) (hs2 : Hp) (A8 : Option Addr) (c9 : Nat) (hs7 : Hp) (h16 : FZ (RT.int .i64) b.w A14 c15 l17) (hnz18 : (A14 = none ↔ l17 = [])) (h21 : FZ rFleetTask b.w A19 c20 l22) (h5 : OS 4 (OT.fr RT.bool) b.w (.slice A3 l30.length c4) l30 hs2) (h10 : OS 45 (OT.fr (RT.list (RT.int .i64))) b.w (.slice A8 l31.length c9) l31 hs7) (x851 : Bool) (l852 : (List Bool)) (l854 : (List (List Int))) (hm : mFleetDividerDivide N x12 x13 l17 l22 x23 x24 x25 x26 x27 x28 x29 l30 l31 = some (x851, l852, l854)),
    CallsG Try.prog 55 [.pointer (some ⟨g11, 0, none⟩), .int .i64 (x12), .int .i64 (x13), .slice A14 (l17).length c15] b ((g11, Cl 106 [.slice A19 (l22).length c20, .int .i64 (x23), .int .i64 (x24), .int .i64 (x25), .int .i64 (x26), .int .i64 (x27), .int .i64 (x28), .int .i64 (x29), .slice A3 (l30).length c4, .slice A8 (l31).length c9]) :: (hs2 ++ (hs7 ++ R))) (fun v b' hp' => ∃ (hs844 : Hp), ∃ (A848 : Option Addr), ∃ (c849 : Nat), ∃ (hs847 : Hp), .bool (x851) = v ∧ (g11, Cl 106 [.slice A19 (l22).length c20, .int .i64 (x23), .int .i64 (x24), .int .i64 (x25), .int .i64 (x26), .int .i64 (x27), .int .i64 (x28), .int .i64 (x29), .slice A3 (l852).length c4, .slice A848 (l854).length c849]) :: (hs844 ++ (hs847 ++ R)) = hp' ∧ OS 4 (OT.fr RT.bool) b'.w (.slice A3 l852.length c4) l852 hs844 ∧ l852.length = l30.length ∧ OS 45 (OT.fr (RT.list (RT.int .i64))) b'.w (.slice A848 l854.length c849) l854 hs847) := by
  intro N
  induction N with
  | zero =>
    intro b R x12 x13 l17 l22 x23 x24 x25 x26 x27 x28 x29 l30 l31 g11 A14 c15 A19 c20 A3 c4 hs2 A8 c9 hs7 h16 hnz18 h21 h5 h10 x851 l852 l854 hm
    unfold mFleetDividerDivide at hm
    cases hm
  | succ N ih =>
    intro b R x12 x13 l17 l22 x23 x24 x25 x26 x27 x28 x29 l30 l31 g11 A14 c15 A19 c20 A3 c4 hs2 A8 c9 hs7 h16 hnz18 h21 h5 h10 x851 l852 l854 hm
    refine fn_enterG 96 Try.func55 rfl Try.ntmps55 rfl ?_
    unfold mFleetDividerDivide at hm
    refine c_seq ?_
    refine c_region ?_
    refine t_st rfl (st_assign rfl) ?_
    refine t_nil ?_
    refine x_then_normal ?_
    refine c_seq ?_
    refine c_seq ?_
    refine c_region ?_
    refine t_st rfl (st_move rfl) ?_
    refine t_st rfl (st_eqnil_z rfl rfl hnz18 sl45) ?_
    refine t_nil ?_
    refine x_then_normal ?_
    refine c_cond _ rfl (fun hc855 => ?_) (fun hc855 => ?_)
    ·
      rw [if_pos hc855] at hm
      refine c_seq ?_
      refine c_seq ?_
      refine c_region ?_
      refine t_st rfl (st_move rfl) ?_
      refine t_st rfl (st_nil rfl) ?_
      refine t_st rfl (st_field rfl fld106_2) ?_
      refine t_st rfl (st_load 0 rfl one104 rfl rfl) ?_
      obtain ⟨x856, hcl857, hm⟩ := bindS hm
      refine t_do rfl (u_callW0 _ call93 rfl (fun w ho => cSlicesContains _ [] l30 false A3 c4 (OS.now (o := (OT.fr RT.bool)) (l := l30) (hs := hs2) h5 ho (.cons _ (List.sublist_append_left _ _))) x856 hcl857) (fun _ _ _ h => h.2.symm)) ?_
      rintro _ _ ⟨⟨_, rfl, _⟩, rfl⟩
      refine t_st rfl (st_not rfl) ?_
      refine t_nil ?_
      refine x_then_normal ?_
      refine c_cond _ rfl (fun hc858 => ?_) (fun hc858 => ?_)
      ·
        rw [if_neg (fun hh => Bool.noConfusion (hh.symm.trans (notT hc858)))] at hm
        refine c_seq ?_
        refine c_region ?_
        refine t_st rfl (st_move rfl) ?_
        refine t_st rfl (st_eql rfl rfl) ?_
        refine t_st rfl (st_assign rfl) ?_
        refine t_nil ?_
        refine x_then_normal ?_
        refine c_ret ?_
        refine x_then_ret ?_
        refine x_then_ret ?_
        obtain ⟨rfl, rfl, rfl⟩ := some3 hm
        refine x_front2 [_] hs2 hs7 R rfl ?_
        refine x_front2 [_] hs7 hs2 R rfl ?_
        exact retM (rs := [.tmp 8]) [.bool (decide (x12 = 0))] (Base.Le.refl _) (by decide) rfl ⟨rfl, trivial⟩ rfl (hp' := (g11, Cl 106 [.slice A19 (l22).length c20, .int .i64 (x23), .int .i64 (x24), .int .i64 (x25), .int .i64 (x26), .int .i64 (x27), .int .i64 (x28), .int .i64 (x29), .slice A3 (l30).length c4, .slice A8 (l31).length c9]) :: (hs2 ++ (hs7 ++ R))) (.cons_cons _ (sub_app hs2 (sub_app hs7 (.refl _)))) ⟨hs2, A8, c9, hs7, rfl, rfl, h5, rfl, h10⟩
      ·
        rw [if_pos (notF hc858)] at hm
        refine c_skip ?_
        refine x_then_normal ?_
        refine c_seq ?_
        refine c_seq ?_
        refine c_region ?_
        refine t_st rfl (st_move rfl) ?_
        refine t_st rfl (st_eql rfl rfl) ?_
        refine t_nil ?_
        refine x_then_normal ?_
        refine c_cond _ rfl (fun hc859 => ?_) (fun hc859 => ?_)
        ·
          rw [if_pos (of_decide_eq_true hc859)] at hm
          refine c_seq ?_
          refine c_region ?_
          refine t_st rfl (st_assign rfl) ?_
          refine t_nil ?_
          refine x_then_normal ?_
          refine c_ret ?_
          refine x_then_ret ?_
          refine x_then_ret ?_
          obtain ⟨rfl, rfl, rfl⟩ := some3 hm
          refine x_front2 [_] hs2 hs7 R rfl ?_
          refine x_front2 [_] hs7 hs2 R rfl ?_
          exact retM (rs := [.tmp 8]) [.bool (false)] (Base.Le.refl _) (by decide) rfl ⟨rfl, trivial⟩ rfl (hp' := (g11, Cl 106 [.slice A19 (l22).length c20, .int .i64 (x23), .int .i64 (x24), .int .i64 (x25), .int .i64 (x26), .int .i64 (x27), .int .i64 (x28), .int .i64 (x29), .slice A3 (l30).length c4, .slice A8 (l31).length c9]) :: (hs2 ++ (hs7 ++ R))) (.cons_cons _ (sub_app hs2 (sub_app hs7 (.refl _)))) ⟨hs2, A8, c9, hs7, rfl, rfl, h5, rfl, h10⟩
        ·
          rw [if_neg (of_decide_eq_false hc859)] at hm
          refine c_skip ?_
          refine x_then_normal ?_
          obtain ⟨t950, hj949, hk949⟩ := bindS hm
          refine c_join (fun b936 e' hp' => ∃ (l946 : (List Bool)), ∃ (l948 : (List (List Int))), ∃ (hs939 : Hp), ∃ (A943 : Option Addr), ∃ (c944 : Nat), ∃ (hs942 : Hp), [] = e' ∧ (g11, Cl 106 [.slice A19 (l22).length c20, .int .i64 (x23), .int .i64 (x24), .int .i64 (x25), .int .i64 (x26), .int .i64 (x27), .int .i64 (x28), .int .i64 (x29), .slice A3 (l946).length c4, .slice A943 (l948).length c944]) :: (hs939 ++ (hs942 ++ R)) = hp' ∧ b.Le b936 ∧ OS 4 (OT.fr RT.bool) b936.w (.slice A3 l946.length c4) l946 hs939 ∧ l946.length = l30.length ∧ OS 45 (OT.fr (RT.list (RT.int .i64))) b936.w (.slice A943 l948.length c944) l948 hs942 ∧ t950 = .inl (l946, l948)) ?_ ?_
          ·
            have hm := hj949
            refine c_seq ?_
            refine c_region ?_
            refine t_st rfl (st_move rfl) ?_
            obtain ⟨_, h951, hm⟩ := bindS hm
            have h951 := (chk_some h951).2
            refine t_st rfl (st_add rfl rfl h951) ?_
            refine t_st rfl (st_assign rfl) ?_
            refine t_nil ?_
            refine x_then_normal ?_
            refine c_block ?_
            refine c_front2 [_] hs2 hs7 R rfl ?_
            refine c_front2 [_] hs7 hs2 R rfl ?_
            refine c_loopM (unc3 fun x1007 l1008 l1010 => fun b997 e' hp' => ∃ (hs1000 : Hp), ∃ (A1004 : Option Addr), ∃ (c1005 : Nat), ∃ (hs1003 : Hp), [(0, .pointer (some ⟨g11, 0, none⟩)), (1, .int .i64 (x12)), (2, .int .i64 (x13)), (9, .int .i64 (x1007))] = e' ∧ (g11, Cl 106 [.slice A19 (l22).length c20, .int .i64 (x23), .int .i64 (x24), .int .i64 (x25), .int .i64 (x26), .int .i64 (x27), .int .i64 (x28), .int .i64 (x29), .slice A3 (l1008).length c4, .slice A1004 (l1010).length c1005]) :: (hs1000 ++ (hs1003 ++ R)) = hp' ∧ b.Le b997 ∧ OS 4 (OT.fr RT.bool) b997.w (.slice A3 l1008.length c4) l1008 hs1000 ∧ l1008.length = l30.length ∧ OS 45 (OT.fr (RT.list (RT.int .i64))) b997.w (.slice A1004 l1010.length c1005) l1010 hs1003) hm (e' := [(0, .pointer (some ⟨g11, 0, none⟩)), (1, .int .i64 (x12)), (2, .int .i64 (x13)), (9, .int .i64 (x13 + 1))]) (hp' := (g11, Cl 106 [.slice A19 (l22).length c20, .int .i64 (x23), .int .i64 (x24), .int .i64 (x25), .int .i64 (x26), .int .i64 (x27), .int .i64 (x28), .int .i64 (x29), .slice A3 (l30).length c4, .slice A8 (l31).length c9]) :: (hs2 ++ (hs7 ++ R))) ⟨rfl, rfl, rfl, rfl, trivial⟩ (.cons_cons _ (sub_app hs2 (sub_app hs7 (.refl _)))) ⟨hs2, A8, c9, hs7, rfl, rfl, (Base.Le.refl _), h5, rfl, h10⟩ ?_
            rintro ⟨x1007, l1008, l1010⟩ b997 _ _ oL952 ⟨hs1000, A1004, c1005, hs1003, rfl, rfl, hle998, h1001, hln1009, h1006⟩ hstepL952 houtL952
            unfold mFleetDividerDivide_L952 at hstepL952
            have hm := (unc3E hstepL952)
            refine c_seq ?_
            refine c_seq ?_
            refine c_region ?_
            refine t_st rfl (st_move rfl) ?_
            refine t_st rfl (st_move rfl) ?_
            refine t_st rfl (st_nil rfl) ?_
            refine t_st rfl (st_field rfl fld106_0) ?_
            refine t_st rfl (st_load 0 rfl one22 rfl rfl) ?_
            refine t_st rfl (st_len rfl sl22) ?_
            refine t_st rfl (st_lss rfl rfl) ?_
            refine t_nil ?_
            refine x_then_normal ?_
            refine c_cond _ rfl (fun hc1011 => ?_) (fun hc1011 => ?_)
            ·
              rw [if_pos (of_decide_eq_true hc1011)] at hm
              refine c_skip ?_
              refine x_then_normal ?_
              refine c_seq ?_
              refine c_block ?_
              refine c_seq ?_
              refine c_region ?_
              refine t_st rfl (st_move rfl) ?_
              refine t_st rfl (st_move rfl) ?_
              refine t_st rfl (st_move rfl) ?_
              refine t_st rfl (st_move rfl) ?_
              obtain ⟨⟨x1012, l1013, l1014⟩, hcl1015, hm⟩ := bindS hm
              have hm := (unc3E hm)
              refine t_front2 [_] hs1000 hs1003 R rfl ?_
              refine t_front2 [_] hs1003 hs1000 R rfl ?_
              refine t_out2 [_] [] hs1000 hs1003 R rfl ?_
              refine t_callG _ rfl call94 rfl (cFleetDividerTake (mFleetDividerDivide N) ih _ _ x12 x13 [] x1007 l22 x23 x24 x25 x26 x27 x28 x29 l1008 l1010 g11 none 0 A19 c20 A3 c4 hs1000 A1004 c1005 hs1003 FZ.nil ⟨fun _ => rfl, fun _ => rfl⟩ (h21.le hle998) h1001 h1006 x1012 l1013 l1014 hcl1015) ?_
              rintro _ b1016 _ hle1017 ⟨hs1018, A1019, c1020, hs1021, rfl, rfl, h1022, h1023, h1024⟩
              refine t_in2 [_] [] hs1018 hs1021 R rfl ?_
              refine t_hresp 0 rfl (o' := Cl 106 [.slice A19 (l22).length c20, .int .i64 (x23), .int .i64 (x24), .int .i64 (x25), .int .i64 (x26), .int .i64 (x27), .int .i64 (x28), .int .i64 (x29), .slice A3 (l1013).length c4, .slice A1019 (l1014).length c1020]) (by simp only [h1023]) ?_
              refine t_nil ?_
              refine x_then_normal ?_
              refine c_cond _ rfl (fun hc1025 => ?_) (fun hc1025 => ?_)
              ·
                rw [if_pos hc1025] at hm
                refine c_seq ?_
                refine c_region ?_
                refine t_st rfl (st_assign rfl) ?_
                refine t_nil ?_
                refine x_then_normal ?_
                refine c_ret ?_
                refine x_block_ret ?_
                refine x_then_ret ?_
                refine x_then_ret ?_
                refine x_block_ret ?_
                refine x_then_ret ?_
                refine x_then_ret ?_
                have hm := congrArg some (houtL952 _ (Option.some.inj hm).symm)
                have hq1026 := (Option.some.inj hm).symm
                rw [hq1026] at hk949
                have hm := elimR hk949
                obtain ⟨rfl, rfl, rfl⟩ := some3 hm
                refine x_front2 [_] hs1018 hs1021 R rfl ?_
                refine x_front2 [_] hs1021 hs1018 R rfl ?_
                exact retM (rs := [.tmp 8]) [.bool (true)] (hle998.trans hle1017) (by decide) rfl ⟨rfl, trivial⟩ rfl (hp' := (g11, Cl 106 [.slice A19 (l22).length c20, .int .i64 (x23), .int .i64 (x24), .int .i64 (x25), .int .i64 (x26), .int .i64 (x27), .int .i64 (x28), .int .i64 (x29), .slice A3 (l1013).length c4, .slice A1019 (l1014).length c1020]) :: (hs1018 ++ (hs1021 ++ R))) (.cons_cons _ (sub_app hs1018 (sub_app hs1021 (.refl _)))) ⟨hs1018, A1019, c1020, hs1021, rfl, rfl, h1022, (h1023.trans hln1009), h1024⟩
              ·
                rw [if_neg (fun hh => Bool.noConfusion (hh.symm.trans hc1025))] at hm
                refine c_skip ?_
                refine x_block_normal ?_
                refine x_then_normal ?_
                refine c_region ?_
                refine t_st rfl (st_move rfl) ?_
                obtain ⟨_, h1027, hm⟩ := bindS hm
                have h1027 := (chk_some h1027).2
                refine t_st rfl (st_add rfl rfl h1027) ?_
                refine t_st rfl (st_assign rfl) ?_
                refine t_nil ?_
                refine x_front2 [_] hs1018 hs1021 R rfl ?_
                refine x_front2 [_] hs1021 hs1018 R rfl ?_
                exact x_againM (x1007 + 1, l1013, l1014) (Option.some.inj hm).symm (e' := [(0, .pointer (some ⟨g11, 0, none⟩)), (1, .int .i64 (x12)), (2, .int .i64 (x13)), (9, .int .i64 (x1007 + 1))]) (hp' := (g11, Cl 106 [.slice A19 (l22).length c20, .int .i64 (x23), .int .i64 (x24), .int .i64 (x25), .int .i64 (x26), .int .i64 (x27), .int .i64 (x28), .int .i64 (x29), .slice A3 (l1013).length c4, .slice A1019 (l1014).length c1020]) :: (hs1018 ++ (hs1021 ++ R))) ⟨rfl, rfl, rfl, rfl, trivial⟩ (.cons_cons _ (sub_app hs1018 (sub_app hs1021 (.refl _)))) ⟨hs1018, A1019, c1020, hs1021, rfl, rfl, ((hle998.trans hle1017)), h1022, (h1023.trans hln1009), h1024⟩
            ·
              rw [if_neg (of_decide_eq_false hc1011)] at hm
              refine c_exit ?_
              refine x_then_exit ?_
              refine x_then_exit ?_
              refine x_block_out ?_
              have hm := congrArg some (houtL952 _ (Option.some.inj hm).symm)
              have hq := (Option.some.inj hm).symm
              refine x_front2 [_] hs1000 hs1003 R rfl ?_
              refine x_front2 [_] hs1003 hs1000 R rfl ?_
              exact x_join (e' := []) (hp' := (g11, Cl 106 [.slice A19 (l22).length c20, .int .i64 (x23), .int .i64 (x24), .int .i64 (x25), .int .i64 (x26), .int .i64 (x27), .int .i64 (x28), .int .i64 (x29), .slice A3 (l1008).length c4, .slice A1004 (l1010).length c1005]) :: (hs1000 ++ (hs1003 ++ R))) trivial (.cons_cons _ (sub_app hs1000 (sub_app hs1003 (.refl _)))) ⟨l1008, l1010, hs1000, A1004, c1005, hs1003, rfl, rfl, hle998, h1001, hln1009, h1006, hq⟩
          ·
            rintro b936 _ _ ⟨l946, l948, hs939, A943, c944, hs942, rfl, rfl, hle937, h940, hln947, h945, hq1028⟩
            rw [hq1028] at hk949
            have hm := elimL hk949
            have hm := (unc2E hm)
            refine c_seq ?_
            refine c_region ?_
            refine t_st rfl (st_assign rfl) ?_
            refine t_nil ?_
            refine x_then_normal ?_
            refine c_ret ?_
            refine x_then_ret ?_
            obtain ⟨rfl, rfl, rfl⟩ := some3 hm
            refine x_front2 [_] hs939 hs942 R rfl ?_
            refine x_front2 [_] hs942 hs939 R rfl ?_
            exact retM (rs := [.tmp 8]) [.bool (false)] hle937 (by decide) rfl ⟨rfl, trivial⟩ rfl (hp' := (g11, Cl 106 [.slice A19 (l22).length c20, .int .i64 (x23), .int .i64 (x24), .int .i64 (x25), .int .i64 (x26), .int .i64 (x27), .int .i64 (x28), .int .i64 (x29), .slice A3 (l946).length c4, .slice A943 (l948).length c944]) :: (hs939 ++ (hs942 ++ R))) (.cons_cons _ (sub_app hs939 (sub_app hs942 (.refl _)))) ⟨hs939, A943, c944, hs942, rfl, rfl, h940, hln947, h945⟩
    ·
      rw [if_neg (fun hh => Bool.noConfusion (hh.symm.trans hc855))] at hm
      refine c_skip ?_
      refine x_then_normal ?_
      obtain ⟨t1108, hj1107, hk1107⟩ := bindS hm
      refine c_join (fun b1094 e' hp' => ∃ (l1104 : (List Bool)), ∃ (l1106 : (List (List Int))), ∃ (hs1097 : Hp), ∃ (A1101 : Option Addr), ∃ (c1102 : Nat), ∃ (hs1100 : Hp), [(0, .pointer (some ⟨g11, 0, none⟩)), (1, .int .i64 (x12)), (2, .int .i64 (x13)), (3, .slice A14 (l17).length c15)] = e' ∧ (g11, Cl 106 [.slice A19 (l22).length c20, .int .i64 (x23), .int .i64 (x24), .int .i64 (x25), .int .i64 (x26), .int .i64 (x27), .int .i64 (x28), .int .i64 (x29), .slice A3 (l1104).length c4, .slice A1101 (l1106).length c1102]) :: (hs1097 ++ (hs1100 ++ R)) = hp' ∧ b.Le b1094 ∧ OS 4 (OT.fr RT.bool) b1094.w (.slice A3 l1104.length c4) l1104 hs1097 ∧ l1104.length = l30.length ∧ OS 45 (OT.fr (RT.list (RT.int .i64))) b1094.w (.slice A1101 l1106.length c1102) l1106 hs1100 ∧ t1108 = .inl (l1104, l1106)) ?_ ?_
      ·
        have hm := hj1107
        refine c_seq ?_
        obtain ⟨x1111, hcl1112, hm⟩ := bindS hm
        refine D_drawS ((g11, Cl 106 [.slice A19 (l22).length c20, .int .i64 (x23), .int .i64 (x24), .int .i64 (x25), .int .i64 (x26), .int .i64 (x27), .int .i64 (x28), .int .i64 (x29), .slice A3 (l30).length c4, .slice A8 (l31).length c9]) :: (hs2 ++ (hs7 ++ R))) mixed ?_
        refine D_st (Base.Le.refl _) 0 rfl (by kernel_rfl) (by kernel_rfl) (by kernel_rfl) rfl (st_move rfl) (.cons_cons _ (sub_app hs2 (sub_app hs7 (.refl _)))) ?_
        refine D_st (Base.Le.refl _) 1 rfl (by kernel_rfl) (by kernel_rfl) (by kernel_rfl) rfl (st_nil rfl) (.cons_cons _ (sub_app hs2 (sub_app hs7 (.refl _)))) ?_
        refine D_st (Base.Le.refl _) 2 rfl (by kernel_rfl) (by kernel_rfl) (by kernel_rfl) rfl (st_field rfl fld106_0) (.cons_cons _ (sub_app hs2 (sub_app hs7 (.refl _)))) ?_
        refine D_st (Base.Le.refl _) 3 rfl (by kernel_rfl) (by kernel_rfl) (by kernel_rfl) rfl (st_load 0 rfl one22 rfl rfl) (.cons_cons _ (sub_app hs2 (sub_app hs7 (.refl _)))) ?_
        refine D_st (Base.Le.refl _) 4 rfl (by kernel_rfl) (by kernel_rfl) (by kernel_rfl) rfl (st_move rfl) (.cons_cons _ (sub_app hs2 (sub_app hs7 (.refl _)))) ?_
        refine D_st (Base.Le.refl _) 5 rfl (by kernel_rfl) (by kernel_rfl) (by kernel_rfl) rfl (st_move rfl) (.cons_cons _ (sub_app hs2 (sub_app hs7 (.refl _)))) ?_
        refine D_st (Base.Le.refl _) 6 rfl (by kernel_rfl) (by kernel_rfl) (by kernel_rfl) rfl (st_nil rfl) (.cons_cons _ (sub_app hs2 (sub_app hs7 (.refl _)))) ?_
        refine D_st (Base.Le.refl _) 7 rfl (by kernel_rfl) (by kernel_rfl) (by kernel_rfl) rfl (st_field rfl fld106_1) (.cons_cons _ (sub_app hs2 (sub_app hs7 (.refl _)))) ?_
        refine D_st (Base.Le.refl _) 8 rfl (by kernel_rfl) (by kernel_rfl) (by kernel_rfl) rfl (st_loadD (vs := [_, _, _, _, _, _, _]) 0 7 rfl agg55 rfl rfl rfl) (.cons_cons _ (sub_app hs2 (sub_app hs7 (.refl _)))) ?_
        refine D_all [9] (by kernel_rfl) rfl ?_
        refine R_do (Base.Le.refl _) rfl rfl (u_callW0 _ call56 rfl (fun w ho => cFleetJudge _ [] l22 l17 (⟨x23, x24, x25, x26, x27, x28, x29⟩ : FleetLimits) A19 c20 A14 c15 (h21.old ho) (h16.old ho) x1111 hcl1112) (fun _ _ _ h => h.2.symm)) ?_ ?_
        ·
          rintro _ _ ⟨⟨_, rfl, _⟩, rfl⟩
          refine ⟨.inr (.cons_cons _ (sub_app hs2 (sub_app hs7 (.refl _)))), ?_⟩
          refine D_st (Base.Le.refl _) 10 rfl (by kernel_rfl) (by kernel_rfl) (by kernel_rfl) rfl (st_eql rfl rfl) (.cons_cons _ (sub_app hs2 (sub_app hs7 (.refl _)))) ?_
          refine D_done (by kernel_rfl) ?_
          refine x_then_normal ?_
          refine c_cond _ rfl (fun hc1113 => ?_) (fun hc1113 => ?_)
          ·
            rw [if_pos (of_decide_eq_true hc1113)] at hm
            refine c_seq ?_
            refine c_region ?_
            refine t_st rfl (st_move rfl) ?_
            refine t_st rfl (st_move rfl) ?_
            refine t_st rfl (st_nil rfl) ?_
            refine t_st rfl (st_field rfl fld106_3) ?_
            refine t_st rfl (st_load 0 rfl one26 rfl rfl) ?_
            refine t_st rfl (st_move rfl) ?_
            refine t_do rfl (u_bslice (el := 45) [(0, .slice A14 (l17).length c15)] [.slice A14 (l17).length c15] rfl (fun _ => by kernel_rfl)) ?_
            rintro _ _ ⟨g1114, rfl, rfl⟩
            obtain ⟨_, h1115, hm⟩ := bindS hm
            have h1115 := room_some h1115
            refine t_front2 [_, _] hs2 hs7 R rfl ?_
            refine t_do rfl (u_appOS (r := (RT.list (RT.int .i64))) (l := l31) [_, _] (hs2 ++ R) [[.slice A14 (l17).length c15]] [l17] rfl (by decide) sl26 inf45 rfl rfl rfl rfl h10 rfl (fun w ho => Rd.own (i := 0) ho rfl) ⟨(RT.list_mk h16), trivial⟩ h1115) ?_
            rintro _ _ ⟨hs1116, rfl, h1117⟩
            obtain ⟨A1118, c1119, rfl, _⟩ := h1117.form
            refine t_st rfl (st_nil rfl) ?_
            refine t_st rfl (st_field rfl fld106_3) ?_
            refine t_do rfl (u_store 1 rfl rfl siz26 rfl rfl (by simp)) ?_
            rintro _ _ rfl
            refine t_nil ?_
            refine x_then_normal ?_
            refine c_seq ?_
            refine c_seq ?_
            refine c_region ?_
            refine t_st rfl (st_move rfl) ?_
            refine t_st rfl (st_move rfl) ?_
            obtain ⟨_, h1120, hm⟩ := bindS hm
            have h1120 := (chk_some h1120).2
            refine t_st rfl (st_sub rfl rfl h1120) ?_
            refine t_st rfl (st_move rfl) ?_
            obtain ⟨x1121, h1122, hm⟩ := bindS hm
            obtain ⟨j1123, hj1124, hx1125⟩ := idx_some h1122
            obtain ⟨cs1126, hr1127, hcs1128, hA1129, hlt1130⟩ := FZ.get (sz := 1) rfl (by decide) h16 hx1125
            obtain rfl := hr1127
            refine t_st rfl (st_index_old j1123 rfl rfl hj1124 hlt1130 hA1129 sl45) ?_
            refine t_st rfl (st_load_old rfl one3 (hcs1128 0 _ rfl)) ?_
            obtain ⟨⟨x1131, l1132, l1133⟩, hcl1134, hm⟩ := bindS hm
            have hm := (unc3E hm)
            refine t_pullb 1 rfl ?_
            refine t_front2 [_, _] hs1116 hs2 R rfl ?_
            refine t_out2 [_] [_] hs2 hs1116 R rfl ?_
            refine t_callG _ rfl call55 rfl (ih _ _ (x12 - 1) x1121 [] l22 x23 x24 x25 x26 x27 x28 x29 l30 (l31 ++ [l17]) g11 none 0 A19 c20 A3 c4 hs2 A1118 c1119 hs1116 FZ.nil ⟨fun _ => rfl, fun _ => rfl⟩ h21 h5 h1117 x1131 l1132 l1133 hcl1134) ?_
            rintro _ b1135 _ hle1136 ⟨hs1137, A1138, c1139, hs1140, rfl, rfl, h1141, h1142, h1143⟩
            refine t_in2 [_] [_] hs1137 hs1140 R rfl ?_
            refine t_hresp 0 rfl (o' := Cl 106 [.slice A19 (l22).length c20, .int .i64 (x23), .int .i64 (x24), .int .i64 (x25), .int .i64 (x26), .int .i64 (x27), .int .i64 (x28), .int .i64 (x29), .slice A3 (l1132).length c4, .slice A1138 (l1133).length c1139]) (by simp only [h1142]) ?_
            refine t_nil ?_
            refine x_then_normal ?_
            refine c_cond _ rfl (fun hc1144 => ?_) (fun hc1144 => ?_)
            ·
              rw [if_pos hc1144] at hm
              refine c_seq ?_
              refine c_region ?_
              refine t_st rfl (st_assign rfl) ?_
              refine t_nil ?_
              refine x_then_normal ?_
              refine c_ret ?_
              refine x_then_ret ?_
              refine x_then_ret ?_
              have hq1145 := (Option.some.inj hm).symm
              rw [hq1145] at hk1107
              have hm := elimR hk1107
              obtain ⟨rfl, rfl, rfl⟩ := some3 hm
              refine x_front2 [_, _] hs1137 hs1140 R rfl ?_
              refine x_front2 [_, _] hs1140 hs1137 R rfl ?_
              exact retM (rs := [.tmp 8]) [.bool (true)] hle1136 (by decide) rfl ⟨rfl, trivial⟩ rfl (hp' := (g11, Cl 106 [.slice A19 (l22).length c20, .int .i64 (x23), .int .i64 (x24), .int .i64 (x25), .int .i64 (x26), .int .i64 (x27), .int .i64 (x28), .int .i64 (x29), .slice A3 (l1132).length c4, .slice A1138 (l1133).length c1139]) :: (hs1137 ++ (hs1140 ++ R))) (.cons_cons _ (.cons _ (sub_app hs1137 (sub_app hs1140 (.refl _))))) ⟨hs1137, A1138, c1139, hs1140, rfl, rfl, h1141, (h1142.trans rfl), h1143⟩
            ·
              rw [if_neg (fun hh => Bool.noConfusion (hh.symm.trans hc1144))] at hm
              refine c_skip ?_
              refine x_then_normal ?_
              obtain ⟨_, h1160, hm⟩ := bindS hm
              obtain ⟨l1161, h1162, hm⟩ := bindS hm
              refine D_drawS ((g1114, Cl 45 [.slice A14 (l17).length c15]) :: (hs1137 ++ R)) mixed ?_
              refine D_st (Base.Le.refl _) 0 rfl (by kernel_rfl) (by kernel_rfl) (by kernel_rfl) rfl (st_move rfl) (.cons _ (.cons_cons _ (sub_app hs1137 (sub_skip hs1140 (.refl _))))) ?_
              refine D_st (Base.Le.refl _) 1 rfl (by kernel_rfl) (by kernel_rfl) (by kernel_rfl) rfl (st_move rfl) (.cons _ (.cons_cons _ (sub_app hs1137 (sub_skip hs1140 (.refl _))))) ?_
              refine D_st (Base.Le.refl _) 2 rfl (by kernel_rfl) (by kernel_rfl) (by kernel_rfl) rfl (st_nil rfl) (.cons _ (.cons_cons _ (sub_app hs1137 (sub_skip hs1140 (.refl _))))) ?_
              refine D_st (Base.Le.refl _) 3 rfl (by kernel_rfl) (by kernel_rfl) (by kernel_rfl) rfl (st_field rfl fld106_3) (.cons _ (.cons_cons _ (sub_app hs1137 (sub_skip hs1140 (.refl _))))) ?_
              refine D_st (Base.Le.refl _) 5 rfl (by kernel_rfl) (by kernel_rfl) (by kernel_rfl) rfl (st_move rfl) (.cons _ (.cons_cons _ (sub_app hs1137 (sub_skip hs1140 (.refl _))))) ?_
              refine D_st (Base.Le.refl _) 6 rfl (by kernel_rfl) (by kernel_rfl) (by kernel_rfl) rfl (st_nil rfl) (.cons _ (.cons_cons _ (sub_app hs1137 (sub_skip hs1140 (.refl _))))) ?_
              refine D_st (Base.Le.refl _) 7 rfl (by kernel_rfl) (by kernel_rfl) (by kernel_rfl) rfl (st_field rfl fld106_3) (.cons _ (.cons_cons _ (sub_app hs1137 (sub_skip hs1140 (.refl _))))) ?_
              refine D_all [4, 8] (by kernel_rfl) rfl ?_
              refine R_do (Base.Le.refl _) rfl rfl (Stable.does (st_load 0 rfl one26 rfl rfl)) ?_ ?_
              ·
                rintro _ _ ⟨rfl, rfl⟩
                refine ⟨.inr (.cons _ (.cons_cons _ (sub_app hs1137 (sub_skip hs1140 (.refl _))))), ?_⟩
                refine D_all [8] (by kernel_rfl) rfl ?_
                refine R_do (Base.Le.refl _) rfl rfl (Stable.does (st_load 0 rfl one26 rfl rfl)) ?_ ?_
                ·
                  rintro _ _ ⟨rfl, rfl⟩
                  refine ⟨.inr (.cons _ (.cons_cons _ (sub_app hs1137 (sub_skip hs1140 (.refl _))))), ?_⟩
                  refine D_st (Base.Le.refl _) 9 rfl (by kernel_rfl) (by kernel_rfl) (by kernel_rfl) rfl (st_len rfl sl26) (.cons _ (.cons_cons _ (sub_app hs1137 (sub_skip hs1140 (.refl _))))) ?_
                  have h1160 := (chk_some h1160).2
                  refine D_st (Base.Le.refl _) 10 rfl (by kernel_rfl) (by kernel_rfl) (by kernel_rfl) rfl (st_sub rfl rfl h1160) (.cons _ (.cons_cons _ (sub_app hs1137 (sub_skip hs1140 (.refl _))))) ?_
                  obtain ⟨j1163, j1164, hj1165, hj1166, hj1167, hj1168, hx1169⟩ := cutS_some h1162
                  have h1170 := OS.lc h1143
                  refine D_all [11] (by kernel_rfl) rfl ?_
                  refine R_do (Base.Le.refl _) rfl rfl (Stable.does (hx1169 ▸ st_part (l := l1133) j1163 j1164 rfl (.inl ⟨rfl, by omega⟩) (.inr ⟨_, _, _, rfl, rfl, hj1166⟩) hj1167 hj1168 h1170 sl26)) ?_ ?_
                  ·
                    rintro _ _ ⟨rfl, rfl⟩
                    obtain ⟨hs1171, hq1172, h1173⟩ := OS.sub (sz := 1) rfl h1143 hj1167 hj1168
                    rw [← hx1169] at h1173
                    refine ⟨.inr (.cons _ (.cons_cons _ (sub_app hs1137 (sub_skip hs1140 (.refl _))))), ?_⟩
                    refine d_front2 [_, _] hs1137 hs1140 R rfl ?_
                    refine d_less [_, _] hs1140 hs1171 (hs1137 ++ R) rfl hq1172 ?_
                    refine D_st (Base.Le.refl _) 12 rfl (by kernel_rfl) (by kernel_rfl) (by kernel_rfl) rfl (st_nil rfl) (.cons _ (.cons_cons _ (sub_skip hs1171 (sub_app hs1137 (.refl _))))) ?_
                    refine D_st (Base.Le.refl _) 13 rfl (by kernel_rfl) (by kernel_rfl) (by kernel_rfl) rfl (st_field rfl fld106_3) (.cons _ (.cons_cons _ (sub_skip hs1171 (sub_app hs1137 (.refl _))))) ?_
                    refine D_all [14] (by kernel_rfl) rfl ?_
                    refine R_do (Base.Le.refl _) rfl rfl (u_store 0 rfl rfl siz26 rfl rfl (by simp)) ?_ ?_
                    ·
                      rintro _ _ rfl
                      refine ⟨.inr (.cons _ (.cons_cons _ (sub_skip hs1171 (sub_app hs1137 (.refl _))))), ?_⟩
                      refine D_done (by kernel_rfl) ?_
                      have hq := (Option.some.inj hm).symm
                      refine x_front2 [_, _] hs1171 hs1137 R rfl ?_
                      exact x_join (e' := [(0, .pointer (some ⟨g11, 0, none⟩)), (1, .int .i64 (x12)), (2, .int .i64 (x13)), (3, .slice A14 (l17).length c15)]) (hp' := (g11, Cl 106 [.slice A19 (l22).length c20, .int .i64 (x23), .int .i64 (x24), .int .i64 (x25), .int .i64 (x26), .int .i64 (x27), .int .i64 (x28), .int .i64 (x29), .slice A3 (l1132).length c4, .slice (subA A1138 c1139 j1163 1) (l1161).length (c1139 - j1163)]) :: (hs1137 ++ (hs1171 ++ R))) ⟨rfl, rfl, rfl, rfl, trivial⟩ (.cons_cons _ (.cons _ (sub_app hs1137 (sub_app hs1171 (.refl _))))) ⟨l1132, l1161, hs1137, (subA A1138 c1139 j1163 1), (c1139 - j1163), hs1171, rfl, rfl, hle1136, h1141, (h1142.trans rfl), h1173, hq⟩
                    exact R_nil
                  exact R_nil
                exact R_nil
              refine R_do (Base.Le.refl _) rfl rfl (Stable.does (st_load 0 rfl one26 rfl rfl)) ?_ ?_
              ·
                rintro _ _ ⟨rfl, rfl⟩
                refine ⟨.inr (.cons _ (.cons_cons _ (sub_app hs1137 (sub_skip hs1140 (.refl _))))), ?_⟩
                refine D_st (Base.Le.refl _) 9 rfl (by kernel_rfl) (by kernel_rfl) (by kernel_rfl) rfl (st_len rfl sl26) (.cons _ (.cons_cons _ (sub_app hs1137 (sub_skip hs1140 (.refl _))))) ?_
                have h1160 := (chk_some h1160).2
                refine D_st (Base.Le.refl _) 10 rfl (by kernel_rfl) (by kernel_rfl) (by kernel_rfl) rfl (st_sub rfl rfl h1160) (.cons _ (.cons_cons _ (sub_app hs1137 (sub_skip hs1140 (.refl _))))) ?_
                refine D_all [4] (by kernel_rfl) rfl ?_
                refine R_do (Base.Le.refl _) rfl rfl (Stable.does (st_load 0 rfl one26 rfl rfl)) ?_ ?_
                ·
                  rintro _ _ ⟨rfl, rfl⟩
                  refine ⟨.inr (.cons _ (.cons_cons _ (sub_app hs1137 (sub_skip hs1140 (.refl _))))), ?_⟩
                  obtain ⟨j1163, j1164, hj1165, hj1166, hj1167, hj1168, hx1169⟩ := cutS_some h1162
                  have h1170 := OS.lc h1143
                  refine D_all [11] (by kernel_rfl) rfl ?_
                  refine R_do (Base.Le.refl _) rfl rfl (Stable.does (hx1169 ▸ st_part (l := l1133) j1163 j1164 rfl (.inl ⟨rfl, by omega⟩) (.inr ⟨_, _, _, rfl, rfl, hj1166⟩) hj1167 hj1168 h1170 sl26)) ?_ ?_
                  ·
                    rintro _ _ ⟨rfl, rfl⟩
                    obtain ⟨hs1171, hq1172, h1173⟩ := OS.sub (sz := 1) rfl h1143 hj1167 hj1168
                    rw [← hx1169] at h1173
                    refine ⟨.inr (.cons _ (.cons_cons _ (sub_app hs1137 (sub_skip hs1140 (.refl _))))), ?_⟩
                    refine d_front2 [_, _] hs1137 hs1140 R rfl ?_
                    refine d_less [_, _] hs1140 hs1171 (hs1137 ++ R) rfl hq1172 ?_
                    refine D_st (Base.Le.refl _) 12 rfl (by kernel_rfl) (by kernel_rfl) (by kernel_rfl) rfl (st_nil rfl) (.cons _ (.cons_cons _ (sub_skip hs1171 (sub_app hs1137 (.refl _))))) ?_
                    refine D_st (Base.Le.refl _) 13 rfl (by kernel_rfl) (by kernel_rfl) (by kernel_rfl) rfl (st_field rfl fld106_3) (.cons _ (.cons_cons _ (sub_skip hs1171 (sub_app hs1137 (.refl _))))) ?_
                    refine D_all [14] (by kernel_rfl) rfl ?_
                    refine R_do (Base.Le.refl _) rfl rfl (u_store 0 rfl rfl siz26 rfl rfl (by simp)) ?_ ?_
                    ·
                      rintro _ _ rfl
                      refine ⟨.inr (.cons _ (.cons_cons _ (sub_skip hs1171 (sub_app hs1137 (.refl _))))), ?_⟩
                      refine D_done (by kernel_rfl) ?_
                      have hq := (Option.some.inj hm).symm
                      refine x_front2 [_, _] hs1171 hs1137 R rfl ?_
                      exact x_join (e' := [(0, .pointer (some ⟨g11, 0, none⟩)), (1, .int .i64 (x12)), (2, .int .i64 (x13)), (3, .slice A14 (l17).length c15)]) (hp' := (g11, Cl 106 [.slice A19 (l22).length c20, .int .i64 (x23), .int .i64 (x24), .int .i64 (x25), .int .i64 (x26), .int .i64 (x27), .int .i64 (x28), .int .i64 (x29), .slice A3 (l1132).length c4, .slice (subA A1138 c1139 j1163 1) (l1161).length (c1139 - j1163)]) :: (hs1137 ++ (hs1171 ++ R))) ⟨rfl, rfl, rfl, rfl, trivial⟩ (.cons_cons _ (.cons _ (sub_app hs1137 (sub_app hs1171 (.refl _))))) ⟨l1132, l1161, hs1137, (subA A1138 c1139 j1163 1), (c1139 - j1163), hs1171, rfl, rfl, hle1136, h1141, (h1142.trans rfl), h1173, hq⟩
                    exact R_nil
                  exact R_nil
                exact R_nil
              exact R_nil
          ·
            rw [if_neg (of_decide_eq_false hc1113)] at hm
            refine c_skip ?_
            have hq := (Option.some.inj hm).symm
            refine x_front2 [_] hs2 hs7 R rfl ?_
            refine x_front2 [_] hs7 hs2 R rfl ?_
            exact x_join (e' := [(0, .pointer (some ⟨g11, 0, none⟩)), (1, .int .i64 (x12)), (2, .int .i64 (x13)), (3, .slice A14 (l17).length c15)]) (hp' := (g11, Cl 106 [.slice A19 (l22).length c20, .int .i64 (x23), .int .i64 (x24), .int .i64 (x25), .int .i64 (x26), .int .i64 (x27), .int .i64 (x28), .int .i64 (x29), .slice A3 (l30).length c4, .slice A8 (l31).length c9]) :: (hs2 ++ (hs7 ++ R))) ⟨rfl, rfl, rfl, rfl, trivial⟩ (.cons_cons _ (sub_app hs2 (sub_app hs7 (.refl _)))) ⟨l30, l31, hs2, A8, c9, hs7, rfl, rfl, (Base.Le.refl _), h5, rfl, h10, hq⟩
        exact R_nil
      ·
        rintro b1094 _ _ ⟨l1104, l1106, hs1097, A1101, c1102, hs1100, rfl, rfl, hle1095, h1098, hln1105, h1103, hq1174⟩
        rw [hq1174] at hk1107
        have hm := elimL hk1107
        have hm := (unc2E hm)
        refine c_seq ?_
        refine c_seq ?_
        refine c_region ?_
        refine t_st rfl (st_move rfl) ?_
        refine t_st rfl (st_nil rfl) ?_
        refine t_st rfl (st_field rfl fld106_0) ?_
        refine t_st rfl (st_load 0 rfl one22 rfl rfl) ?_
        refine t_st rfl (st_len rfl sl22) ?_
        refine t_st rfl (st_move rfl) ?_
        refine t_nil ?_
        refine x_then_normal ?_
        refine c_block ?_
        have hb1176 := (FZ.bd (h21.le hle1095))
        refine c_front2 [_] hs1097 hs1100 R rfl ?_
        refine c_front2 [_] hs1100 hs1097 R rfl ?_
        obtain ⟨t1230, hl1231, hk1232⟩ := bindS hm
        refine c_forM (fun k1229 => unc2 fun l1226 l1228 => fun b1216 e' hp' => ∃ (hs1219 : Hp), ∃ (A1223 : Option Addr), ∃ (c1224 : Nat), ∃ (hs1222 : Hp), [(0, .pointer (some ⟨g11, 0, none⟩)), (1, .int .i64 (x12)), (2, .int .i64 (x13)), (3, .slice A14 (l17).length c15), (85, .int .i64 ((l22.length : Int))), (86, .int .i64 ((k1229 : Int)))] = e' ∧ (g11, Cl 106 [.slice A19 (l22).length c20, .int .i64 (x23), .int .i64 (x24), .int .i64 (x25), .int .i64 (x26), .int .i64 (x27), .int .i64 (x28), .int .i64 (x29), .slice A3 (l1226).length c4, .slice A1223 (l1228).length c1224]) :: (hs1219 ++ (hs1222 ++ R)) = hp' ∧ b1094.Le b1216 ∧ OS 4 (OT.fr RT.bool) b1216.w (.slice A3 l1226.length c4) l1226 hs1219 ∧ l1226.length = l30.length ∧ OS 45 (OT.fr (RT.list (RT.int .i64))) b1216.w (.slice A1223 l1228.length c1224) l1228 hs1222) hl1231 (e' := [(0, .pointer (some ⟨g11, 0, none⟩)), (1, .int .i64 (x12)), (2, .int .i64 (x13)), (3, .slice A14 (l17).length c15), (85, .int .i64 ((l22.length : Int))), (86, .int .i64 0)]) (hp' := (g11, Cl 106 [.slice A19 (l22).length c20, .int .i64 (x23), .int .i64 (x24), .int .i64 (x25), .int .i64 (x26), .int .i64 (x27), .int .i64 (x28), .int .i64 (x29), .slice A3 (l1104).length c4, .slice A1101 (l1106).length c1102]) :: (hs1097 ++ (hs1100 ++ R))) ⟨rfl, rfl, rfl, rfl, rfl, rfl, trivial⟩ (.cons_cons _ (sub_app hs1097 (sub_app hs1100 (.refl _)))) ⟨hs1097, A1101, c1102, hs1100, rfl, rfl, (Base.Le.refl _), h1098, hln1105, h1103⟩ ?_ ?_
        ·
          rintro k1229 ⟨l1226, l1228⟩ b1216 _ _ oL1175 hknL1175 ⟨hs1219, A1223, c1224, hs1222, rfl, rfl, hle1217, h1220, hln1227, h1225⟩ hstepL1175 houtL1175
          unfold mFleetDividerDivide_L1175 at hstepL1175
          have hm := (unc2E hstepL1175)
          refine c_seq ?_
          refine c_region ?_
          refine t_st rfl (st_lss_t rfl rfl (by omega)) ?_
          refine t_nil ?_
          refine x_then_normal ?_
          refine c_seq ?_
          refine c_cond_t rfl ?_
          refine c_skip ?_
          refine x_then_normal ?_
          refine c_seq ?_
          refine c_block ?_
          refine c_seq ?_
          refine c_region ?_
          refine t_st rfl (st_move rfl) ?_
          refine t_st rfl (st_assign rfl) ?_
          refine t_nil ?_
          refine x_then_normal ?_
          refine c_seq ?_
          refine c_region ?_
          refine t_st rfl (st_move rfl) ?_
          refine t_st rfl (st_move rfl) ?_
          refine t_st rfl (st_move rfl) ?_
          refine t_st rfl (st_move rfl) ?_
          refine t_st rfl (st_move rfl) ?_
          obtain ⟨⟨x1233, l1234, l1235⟩, hcl1236, hm⟩ := bindS hm
          have hm := (unc3E hm)
          refine t_front2 [_] hs1219 hs1222 R rfl ?_
          refine t_front2 [_] hs1222 hs1219 R rfl ?_
          refine t_out2 [_] [] hs1219 hs1222 R rfl ?_
          refine t_callG _ rfl call94 rfl (cFleetDividerTake (mFleetDividerDivide N) ih _ _ x12 x13 l17 (k1229 : Int) l22 x23 x24 x25 x26 x27 x28 x29 l1226 l1228 g11 A14 c15 A19 c20 A3 c4 hs1219 A1223 c1224 hs1222 (h16.le (hle1095.trans hle1217)) hnz18 (h21.le (hle1095.trans hle1217)) h1220 h1225 x1233 l1234 l1235 hcl1236) ?_
          rintro _ b1237 _ hle1238 ⟨hs1239, A1240, c1241, hs1242, rfl, rfl, h1243, h1244, h1245⟩
          refine t_in2 [_] [] hs1239 hs1242 R rfl ?_
          refine t_hresp 0 rfl (o' := Cl 106 [.slice A19 (l22).length c20, .int .i64 (x23), .int .i64 (x24), .int .i64 (x25), .int .i64 (x26), .int .i64 (x27), .int .i64 (x28), .int .i64 (x29), .slice A3 (l1234).length c4, .slice A1240 (l1235).length c1241]) (by simp only [h1244]) ?_
          refine t_nil ?_
          refine x_then_normal ?_
          refine c_cond _ rfl (fun hc1246 => ?_) (fun hc1246 => ?_)
          ·
            rw [if_pos hc1246] at hm
            refine c_seq ?_
            refine c_region ?_
            refine t_st rfl (st_assign rfl) ?_
            refine t_nil ?_
            refine x_then_normal ?_
            refine c_ret ?_
            refine x_block_ret ?_
            refine x_then_ret ?_
            refine x_then_ret ?_
            refine x_block_ret ?_
            refine x_then_ret ?_
            have hq1247 := houtL1175 _ (Option.some.inj hm).symm
            rw [hq1247] at hk1232
            have hm := elimR hk1232
            obtain ⟨rfl, rfl, rfl⟩ := some3 hm
            refine x_front2 [_] hs1239 hs1242 R rfl ?_
            refine x_front2 [_] hs1242 hs1239 R rfl ?_
            exact retM (rs := [.tmp 8]) [.bool (true)] (hle1095.trans (hle1217.trans hle1238)) (by decide) rfl ⟨rfl, trivial⟩ rfl (hp' := (g11, Cl 106 [.slice A19 (l22).length c20, .int .i64 (x23), .int .i64 (x24), .int .i64 (x25), .int .i64 (x26), .int .i64 (x27), .int .i64 (x28), .int .i64 (x29), .slice A3 (l1234).length c4, .slice A1240 (l1235).length c1241]) :: (hs1239 ++ (hs1242 ++ R))) (.cons_cons _ (sub_app hs1239 (sub_app hs1242 (.refl _)))) ⟨hs1239, A1240, c1241, hs1242, rfl, rfl, h1243, (h1244.trans hln1227), h1245⟩
          ·
            rw [if_neg (fun hh => Bool.noConfusion (hh.symm.trans hc1246))] at hm
            refine c_skip ?_
            refine x_block_normal ?_
            refine x_then_normal ?_
            refine c_region ?_
            refine t_st rfl (st_add rfl rfl (by omega)) ?_
            refine t_st rfl (st_move rfl) ?_
            refine t_nil ?_
            refine x_front2 [_] hs1239 hs1242 R rfl ?_
            refine x_front2 [_] hs1242 hs1239 R rfl ?_
            exact x_againM (l1234, l1235) (Option.some.inj hm).symm (e' := [(0, .pointer (some ⟨g11, 0, none⟩)), (1, .int .i64 (x12)), (2, .int .i64 (x13)), (3, .slice A14 (l17).length c15), (85, .int .i64 ((l22.length : Int))), (86, .int .i64 ((k1229 : Int) + 1))]) (hp' := (g11, Cl 106 [.slice A19 (l22).length c20, .int .i64 (x23), .int .i64 (x24), .int .i64 (x25), .int .i64 (x26), .int .i64 (x27), .int .i64 (x28), .int .i64 (x29), .slice A3 (l1234).length c4, .slice A1240 (l1235).length c1241]) :: (hs1239 ++ (hs1242 ++ R))) ⟨rfl, rfl, rfl, rfl, rfl, rfl, trivial⟩ (.cons_cons _ (sub_app hs1239 (sub_app hs1242 (.refl _)))) ⟨hs1239, A1240, c1241, hs1242, rfl, rfl, ((hle1217.trans hle1238)), h1243, (h1244.trans hln1227), h1245⟩
        ·
          rintro ⟨l1226, l1228⟩ b1216 _ _ ⟨hs1219, A1223, c1224, hs1222, rfl, rfl, hle1217, h1220, hln1227, h1225⟩ hq1248
          rw [hq1248] at hk1232
          have hm := elimL hk1232
          have hm := (unc2E hm)
          refine c_seq ?_
          refine c_region ?_
          refine t_st rfl (st_lss_f rfl rfl (by omega)) ?_
          refine t_nil ?_
          refine x_then_normal ?_
          refine c_seq ?_
          refine c_cond_f rfl ?_
          refine c_exit ?_
          refine x_then_exit ?_
          refine x_then_exit ?_
          refine x_block_out ?_
          refine x_then_normal ?_
          refine c_seq ?_
          refine c_region ?_
          refine t_st rfl (st_assign rfl) ?_
          refine t_nil ?_
          refine x_then_normal ?_
          refine c_ret ?_
          obtain ⟨rfl, rfl, rfl⟩ := some3 hm
          refine x_front2 [_] hs1219 hs1222 R rfl ?_
          refine x_front2 [_] hs1222 hs1219 R rfl ?_
          exact retM (rs := [.tmp 8]) [.bool (false)] (hle1095.trans hle1217) (by decide) rfl ⟨rfl, trivial⟩ rfl (hp' := (g11, Cl 106 [.slice A19 (l22).length c20, .int .i64 (x23), .int .i64 (x24), .int .i64 (x25), .int .i64 (x26), .int .i64 (x27), .int .i64 (x28), .int .i64 (x29), .slice A3 (l1226).length c4, .slice A1223 (l1228).length c1224]) :: (hs1219 ++ (hs1222 ++ R))) (.cons_cons _ (sub_app hs1219 (sub_app hs1222 (.refl _)))) ⟨hs1219, A1223, c1224, hs1222, rfl, rfl, h1220, hln1227, h1225⟩

set_option maxRecDepth 20000 in
theorem cFleetDuties (b : Base) (R : Hp) (l4 : (List FleetTask)) (s5 : FleetLimits) (A1 : Option Addr) (c2 : Nat) (h3 : FZ rFleetTask b.w A1 c2 l4) (x131 : Int) (l132 : (List (List Int))) (hm : mFleetDuties l4 s5 = some (x131, l132)) :
    CallsG Try.prog 25 [.slice A1 (l4).length c2, .agg #[.int .i64 (s5.Change), .int .i64 (s5.Long), .int .i64 (s5.Work), .int .i64 (s5.After), .int .i64 (s5.Break), .int .i64 (s5.Rest), .int .i64 (s5.Row)]] b (R) (fun v b' hp' => ∃ (A128 : Option Addr), ∃ (c129 : Nat), ∃ (hs127 : Hp), .tuple #[.slice A128 (l132).length c129, .int .i64 (x131)] = v ∧ (hs127 ++ R) = hp' ∧ OS 45 (OT.fr (RT.list (RT.int .i64))) b'.w (.slice A128 l132.length c129) l132 hs127) := by
  refine fn_enterG 39 Try.func25 rfl Try.ntmps25 rfl ?_
  unfold mFleetDuties at hm
  refine c_seq ?_
  refine c_region ?_
  refine t_do rfl (u_box _ rfl rfl) ?_
  rintro _ _ ⟨g133, rfl, rfl⟩
  refine t_st rfl (st_assign rfl) ?_
  refine t_st rfl (st_assign rfl) ?_
  refine t_nil ?_
  refine x_then_normal ?_
  refine c_seq ?_
  refine c_seq ?_
  refine c_region ?_
  refine t_st rfl (st_move rfl) ?_
  refine t_st rfl (st_loadD (vs := [_, _, _, _, _, _, _]) 0 7 rfl agg55 rfl rfl rfl) ?_
  obtain ⟨x134, hcl135, hm⟩ := bindS hm
  refine t_do rfl (u_callW0 _ call54 rfl (fun w ho => cFleetCheckTasks_2 _ [] l4 s5 A1 c2 (h3.old ho) x134 hcl135) (fun _ _ _ h => h.2.symm)) ?_
  rintro _ _ ⟨⟨_, rfl, _⟩, rfl⟩
  refine t_st rfl (st_assign rfl) ?_
  refine t_nil ?_
  refine x_then_normal ?_
  refine c_seq ?_
  refine c_region ?_
  refine t_st rfl (st_move rfl) ?_
  refine t_st rfl (st_neq rfl rfl) ?_
  refine t_nil ?_
  refine x_then_normal ?_
  refine c_cond _ rfl (fun hc136 => ?_) (fun hc136 => ?_)
  ·
    rw [if_pos (of_decide_eq_true hc136)] at hm
    refine c_seq ?_
    refine c_region ?_
    refine t_st rfl (st_move rfl) ?_
    refine t_st rfl (st_assign rfl) ?_
    refine t_st rfl (st_assign rfl) ?_
    refine t_nil ?_
    refine x_then_normal ?_
    refine c_ret ?_
    refine x_then_ret ?_
    obtain ⟨rfl, rfl⟩ := some2 hm
    exact retM (rs := [.tmp 4, .tmp 5]) [.slice none 0 0, .int .i64 (x134)] (Base.Le.refl _) (by decide) rfl ⟨rfl, ⟨rfl, trivial⟩⟩ rfl (hp' := ([] ++ R)) (.cons _ (.refl _)) ⟨none, 0, [], rfl, rfl, OS.nil⟩
  ·
    rw [if_neg (of_decide_eq_false hc136)] at hm
    refine c_skip ?_
    refine x_then_normal ?_
    refine c_seq ?_
    refine c_seq ?_
    refine c_region ?_
    refine t_st rfl (st_move rfl) ?_
    refine t_st rfl (st_len rfl sl22) ?_
    refine t_st rfl (st_gtr rfl rfl) ?_
    refine t_nil ?_
    refine x_then_normal ?_
    refine c_cond _ rfl (fun hc137 => ?_) (fun hc137 => ?_)
    ·
      rw [if_pos (of_decide_eq_true hc137)] at hm
      refine c_seq ?_
      refine c_region ?_
      refine t_st rfl (st_assign rfl) ?_
      refine t_st rfl (st_assign rfl) ?_
      refine t_nil ?_
      refine x_then_normal ?_
      refine c_ret ?_
      refine x_then_ret ?_
      obtain ⟨rfl, rfl⟩ := some2 hm
      exact retM (rs := [.tmp 4, .tmp 5]) [.slice none 0 0, .int .i64 (4)] (Base.Le.refl _) (by decide) rfl ⟨rfl, ⟨rfl, trivial⟩⟩ rfl (hp' := ([] ++ R)) (.cons _ (.refl _)) ⟨none, 0, [], rfl, rfl, OS.nil⟩
    ·
      rw [if_neg (of_decide_eq_false hc137)] at hm
      refine c_skip ?_
      refine x_then_normal ?_
      refine c_seq ?_
      refine c_seq ?_
      refine c_region ?_
      refine t_st rfl (st_move rfl) ?_
      refine t_st rfl (st_len rfl sl22) ?_
      obtain ⟨_, h138, hm⟩ := bindS hm
      have h138 := (chk_some h138).2
      refine t_st rfl (st_add rfl rfl h138) ?_
      refine t_st rfl (st_move rfl) ?_
      refine t_nil ?_
      refine x_then_normal ?_
      refine c_block ?_
      obtain ⟨_, h140, hm⟩ := bindS hm
      have h140 := (chk_some h140).2
      obtain ⟨t196, hl197, hk198⟩ := bindS hm
      refine c_forM (fun k195 => fun _ => fun b193 e' hp' => [(0, .slice A1 (l4).length c2), (3, .pointer (some ⟨g133, 0, none⟩)), (20, .int .i64 ((l4.length : Int) + 1)), (21, .int .i64 ((k195 : Int)))] = e' ∧ (g133, Cl 55 [.int .i64 (s5.Change), .int .i64 (s5.Long), .int .i64 (s5.Work), .int .i64 (s5.After), .int .i64 (s5.Break), .int .i64 (s5.Rest), .int .i64 (s5.Row)]) :: R = hp' ∧ b.Le b193) hl197 (e' := [(0, .slice A1 (l4).length c2), (3, .pointer (some ⟨g133, 0, none⟩)), (20, .int .i64 ((l4.length : Int) + 1)), (21, .int .i64 0)]) (hp' := (g133, Cl 55 [.int .i64 (s5.Change), .int .i64 (s5.Long), .int .i64 (s5.Work), .int .i64 (s5.After), .int .i64 (s5.Break), .int .i64 (s5.Rest), .int .i64 (s5.Row)]) :: R) ⟨rfl, rfl, rfl, rfl, trivial⟩ (.cons_cons _ (.refl _)) ⟨rfl, rfl, (Base.Le.refl _)⟩ ?_ ?_
      ·
        rintro k195 _ b193 _ _ oL139 hknL139 ⟨rfl, rfl, hle194⟩ hstepL139 houtL139
        unfold mFleetDuties_L139 at hstepL139
        have hm := hstepL139
        refine c_seq ?_
        refine c_region ?_
        refine t_st rfl (st_lss_t rfl rfl (by omega)) ?_
        refine t_nil ?_
        refine x_then_normal ?_
        refine c_seq ?_
        refine c_cond_t rfl ?_
        refine c_skip ?_
        refine x_then_normal ?_
        refine c_seq ?_
        refine c_block ?_
        refine c_seq ?_
        refine c_region ?_
        refine t_st rfl (st_move rfl) ?_
        refine t_st rfl (st_assign rfl) ?_
        refine t_nil ?_
        refine x_then_normal ?_
        obtain ⟨l221, hj222, hk222⟩ := bindS hm
        refine c_join (fun b213 e' hp' => ∃ (g220 : Nat), ∃ (A217 : Option Addr), ∃ (c218 : Nat), ∃ (hs216 : Hp), [(0, .slice A1 (l4).length c2), (3, .pointer (some ⟨g133, 0, none⟩)), (7, .int .i64 ((k195 : Int))), (8, .pointer (some ⟨g220, 0, none⟩)), (20, .int .i64 ((l4.length : Int) + 1)), (21, .int .i64 ((k195 : Int)))] = e' ∧ (g133, Cl 55 [.int .i64 (s5.Change), .int .i64 (s5.Long), .int .i64 (s5.Work), .int .i64 (s5.After), .int .i64 (s5.Break), .int .i64 (s5.Rest), .int .i64 (s5.Row)]) :: (g220, Cl 106 [.slice A1 (l4).length c2, .int .i64 (s5.Change), .int .i64 (s5.Long), .int .i64 (s5.Work), .int .i64 (s5.After), .int .i64 (s5.Break), .int .i64 (s5.Rest), .int .i64 (s5.Row), .slice A217 (l221).length c218, .slice none 0 0]) :: (hs216 ++ R) = hp' ∧ b193.Le b213 ∧ OS 4 (OT.fr RT.bool) b213.w (.slice A217 l221.length c218) l221 hs216) ?_ ?_
        ·
          have hm := hj222
          obtain ⟨m230, h231, hm⟩ := bindS hm
          refine D_drawS ((g133, Cl 55 [.int .i64 (s5.Change), .int .i64 (s5.Long), .int .i64 (s5.Work), .int .i64 (s5.After), .int .i64 (s5.Break), .int .i64 (s5.Rest), .int .i64 (s5.Row)]) :: R) mixed ?_
          refine D_st (Base.Le.refl _) 0 rfl (by kernel_rfl) (by kernel_rfl) (by kernel_rfl) rfl (st_move rfl) (.cons_cons _ (.refl _)) ?_
          refine D_st (Base.Le.refl _) 1 rfl (by kernel_rfl) (by kernel_rfl) (by kernel_rfl) rfl (st_loadD (vs := [_, _, _, _, _, _, _]) 0 7 rfl agg55 rfl rfl rfl) (.cons_cons _ (.refl _)) ?_
          refine D_st (Base.Le.refl _) 2 rfl (by kernel_rfl) (by kernel_rfl) (by kernel_rfl) rfl (st_move rfl) (.cons_cons _ (.refl _)) ?_
          refine D_st (Base.Le.refl _) 3 rfl (by kernel_rfl) (by kernel_rfl) (by kernel_rfl) rfl (st_len rfl sl22) (.cons_cons _ (.refl _)) ?_
          have h231 := mkLen_some h231
          refine D_all [4] (by kernel_rfl) rfl ?_
          refine R_do (Base.Le.refl _) rfl rfl (u_mkOS (r := RT.bool) [_] R [.bool (false)] false m230 rfl h231.1 rfl rfl sl104 inf4 rfl rfl rfl (by decide) rfl h231.2.1 h231.2.2) ?_ ?_
          ·
            rintro _ _ ⟨hs232, rfl, h233⟩
            obtain ⟨A234, c235, rfl, _⟩ := h233.form
            refine ⟨.inr (.cons_cons _ (sub_skip hs232 (.refl _))), ?_⟩
            refine D_all [5] (by kernel_rfl) rfl ?_
            refine R_do (Base.Le.refl _) rfl rfl (Stable.does (st_build (v := .agg #[.slice A1 (l4).length c2, .int .i64 (s5.Change), .int .i64 (s5.Long), .int .i64 (s5.Work), .int .i64 (s5.After), .int .i64 (s5.Break), .int .i64 (s5.Rest), .int .i64 (s5.Row), .slice A234 (List.replicate m230 (false : Bool)).length c235, .slice none 0 0]) [(0, .slice A1 (l4).length c2), (1, .agg #[.int .i64 (s5.Change), .int .i64 (s5.Long), .int .i64 (s5.Work), .int .i64 (s5.After), .int .i64 (s5.Break), .int .i64 (s5.Rest), .int .i64 (s5.Row)]), (2, .slice A234 (List.replicate m230 (false : Bool)).length c235)] rfl (fun _ => by kernel_rfl))) ?_ ?_
            ·
              rintro _ _ ⟨rfl, rfl⟩
              refine ⟨.inr (.cons_cons _ (sub_skip hs232 (.refl _))), ?_⟩
              refine D_all [6] (by kernel_rfl) rfl ?_
              refine R_do (Base.Le.refl _) rfl rfl (u_box _ rfl rfl) ?_ ?_
              ·
                rintro _ _ ⟨g236, rfl, rfl⟩
                refine ⟨.inr (.cons _ (.cons_cons _ (sub_skip hs232 (.refl _)))), ?_⟩
                refine D_st (Base.Le.refl _) 7 rfl (by kernel_rfl) (by kernel_rfl) (by kernel_rfl) rfl (st_assign rfl) (.cons _ (.cons_cons _ (sub_skip hs232 (.refl _)))) ?_
                refine D_done (by kernel_rfl) ?_
                obtain rfl := some1 hm
                refine x_pullb 1 rfl ?_
                exact x_join (e' := [(0, .slice A1 (l4).length c2), (3, .pointer (some ⟨g133, 0, none⟩)), (7, .int .i64 ((k195 : Int))), (8, .pointer (some ⟨g236, 0, none⟩)), (20, .int .i64 ((l4.length : Int) + 1)), (21, .int .i64 ((k195 : Int)))]) (hp' := (g133, Cl 55 [.int .i64 (s5.Change), .int .i64 (s5.Long), .int .i64 (s5.Work), .int .i64 (s5.After), .int .i64 (s5.Break), .int .i64 (s5.Rest), .int .i64 (s5.Row)]) :: (g236, Cl 106 [.slice A1 (l4).length c2, .int .i64 (s5.Change), .int .i64 (s5.Long), .int .i64 (s5.Work), .int .i64 (s5.After), .int .i64 (s5.Break), .int .i64 (s5.Rest), .int .i64 (s5.Row), .slice A234 (List.replicate m230 (false : Bool)).length c235, .slice none 0 0]) :: (hs232 ++ R)) ⟨rfl, rfl, rfl, rfl, rfl, rfl, trivial⟩ (.cons_cons _ (.cons_cons _ (sub_app hs232 (.refl _)))) ⟨g236, A234, c235, hs232, rfl, rfl, (Base.Le.refl _), h233⟩
              exact R_nil
            exact R_nil
          exact R_nil
        ·
          rintro b213 _ _ ⟨g220, A217, c218, hs216, rfl, rfl, hle214, h219⟩
          have hm := hk222
          refine c_seq ?_
          refine c_region ?_
          refine t_st rfl (st_move rfl) ?_
          refine t_st rfl (st_move rfl) ?_
          obtain ⟨⟨x237, l238, l239⟩, hcl240, hm⟩ := bindS hm
          obtain ⟨Nhcl240, hcl240⟩ := lim_some hcl240
          have hm := (unc3E hm)
          refine t_pullb 1 rfl ?_
          refine t_out1 [_] [_] hs216 R rfl ?_
          refine t_callG _ rfl call55 rfl (cFleetDividerDivide Nhcl240 _ _ (k195 : Int) (-1) [] l4 s5.Change s5.Long s5.Work s5.After s5.Break s5.Rest s5.Row l221 [] g220 none 0 A1 c2 A217 c218 hs216 none 0 [] FZ.nil ⟨fun _ => rfl, fun _ => rfl⟩ (h3.le (hle194.trans hle214)) h219 OS.nil x237 l238 l239 hcl240) ?_
          rintro _ b241 _ hle242 ⟨hs243, A244, c245, hs246, rfl, rfl, h247, h248, h249⟩
          refine t_in2 [_] [_] hs243 hs246 R rfl ?_
          refine t_hresp 0 rfl (o' := Cl 106 [.slice A1 (l4).length c2, .int .i64 (s5.Change), .int .i64 (s5.Long), .int .i64 (s5.Work), .int .i64 (s5.After), .int .i64 (s5.Break), .int .i64 (s5.Rest), .int .i64 (s5.Row), .slice A217 (l238).length c218, .slice A244 (l239).length c245]) (by simp only [h248]) ?_
          refine t_nil ?_
          refine x_then_normal ?_
          refine c_cond _ rfl (fun hc250 => ?_) (fun hc250 => ?_)
          ·
            rw [if_pos hc250] at hm
            refine c_seq ?_
            refine c_region ?_
            refine t_st rfl (st_move rfl) ?_
            refine t_st rfl (st_nil rfl) ?_
            refine t_st rfl (st_field rfl fld106_3) ?_
            refine t_st rfl (st_load 0 rfl one26 rfl rfl) ?_
            refine t_st rfl (st_assign rfl) ?_
            refine t_st rfl (st_assign rfl) ?_
            refine t_nil ?_
            refine x_then_normal ?_
            refine c_ret ?_
            refine x_block_ret ?_
            refine x_then_ret ?_
            refine x_then_ret ?_
            refine x_block_ret ?_
            refine x_then_ret ?_
            have hq251 := houtL139 _ (Option.some.inj hm).symm
            rw [hq251] at hk198
            have hm := elimR hk198
            obtain ⟨rfl, rfl⟩ := some2 hm
            refine x_front2 [_, _] hs243 hs246 R rfl ?_
            exact retM (rs := [.tmp 4, .tmp 5]) [.slice A244 (l239).length c245, .int .i64 (0)] (hle194.trans (hle214.trans hle242)) (by decide) rfl ⟨rfl, ⟨rfl, trivial⟩⟩ rfl (hp' := (hs246 ++ R)) (.cons _ (.cons _ (sub_app hs246 (sub_skip hs243 (.refl _))))) ⟨A244, c245, hs246, rfl, rfl, h249⟩
          ·
            rw [if_neg (fun hh => Bool.noConfusion (hh.symm.trans hc250))] at hm
            refine c_skip ?_
            refine x_block_normal ?_
            refine x_then_normal ?_
            refine c_region ?_
            refine t_st rfl (st_add rfl rfl (by omega)) ?_
            refine t_st rfl (st_move rfl) ?_
            refine t_nil ?_
            refine x_pullb 1 rfl ?_
            exact x_againM () (Option.some.inj hm).symm (e' := [(0, .slice A1 (l4).length c2), (3, .pointer (some ⟨g133, 0, none⟩)), (20, .int .i64 ((l4.length : Int) + 1)), (21, .int .i64 ((k195 : Int) + 1))]) (hp' := (g133, Cl 55 [.int .i64 (s5.Change), .int .i64 (s5.Long), .int .i64 (s5.Work), .int .i64 (s5.After), .int .i64 (s5.Break), .int .i64 (s5.Rest), .int .i64 (s5.Row)]) :: R) ⟨rfl, rfl, rfl, rfl, trivial⟩ (.cons_cons _ (.cons _ (sub_skip hs243 (sub_skip hs246 (.refl _))))) ⟨rfl, rfl, ((hle194.trans (hle214.trans hle242)))⟩
      ·
        rintro _ b193 _ _ ⟨rfl, rfl, hle194⟩ hq252
        rw [hq252] at hk198
        have hm := elimL hk198
        refine c_seq ?_
        refine c_region ?_
        refine t_st rfl (st_lss_f rfl rfl (by omega)) ?_
        refine t_nil ?_
        refine x_then_normal ?_
        refine c_seq ?_
        refine c_cond_f rfl ?_
        refine c_exit ?_
        refine x_then_exit ?_
        refine x_then_exit ?_
        refine x_block_out ?_
        refine x_then_normal ?_
        refine c_seq ?_
        refine c_region ?_
        refine t_st rfl (st_assign rfl) ?_
        refine t_st rfl (st_assign rfl) ?_
        refine t_nil ?_
        refine x_then_normal ?_
        refine c_ret ?_
        obtain ⟨rfl, rfl⟩ := some2 hm
        exact retM (rs := [.tmp 4, .tmp 5]) [.slice none 0 0, .int .i64 (9)] hle194 (by decide) rfl ⟨rfl, ⟨rfl, trivial⟩⟩ rfl (hp' := ([] ++ R)) (.cons _ (.refl _)) ⟨none, 0, [], rfl, rfl, OS.nil⟩

set_option maxRecDepth 20000 in
theorem cSlicesIndex_2 (b : Base) (R : Hp) (l4 : (List Int)) (x5 : Int) (A1 : Option Addr) (c2 : Nat) (h3 : FZ (RT.int .i64) b.w A1 c2 l4) (x38 : Int) (hm : mSlicesIndex_2 l4 x5 = some x38) :
    CallsG Try.prog 51 [.slice A1 (l4).length c2, .int .i64 (x5)] b (R) (fun v b' hp' => .int .i64 (x38) = v ∧ R = hp') := by
  refine fn_enterG 19 Try.func51 rfl Try.ntmps51 rfl ?_
  unfold mSlicesIndex_2 at hm
  refine c_seq ?_
  refine c_region ?_
  refine t_st rfl (st_assign rfl) ?_
  refine t_nil ?_
  refine x_then_normal ?_
  refine c_seq ?_
  refine c_seq ?_
  refine c_region ?_
  refine t_st rfl (st_move rfl) ?_
  refine t_st rfl (st_len rfl sl45) ?_
  refine t_st rfl (st_move rfl) ?_
  refine t_nil ?_
  refine x_then_normal ?_
  refine c_block ?_
  have hb40 := (FZ.bd h3)
  obtain ⟨t55, hl56, hk57⟩ := bindS hm
  refine c_forM (fun k54 => fun _ => fun b52 e' hp' => [(0, .slice A1 (l4).length c2), (1, .int .i64 (x5)), (7, .int .i64 ((l4.length : Int))), (8, .int .i64 ((k54 : Int)))] = e' ∧ R = hp' ∧ b.Le b52) hl56 (e' := [(0, .slice A1 (l4).length c2), (1, .int .i64 (x5)), (7, .int .i64 ((l4.length : Int))), (8, .int .i64 0)]) (hp' := R) ⟨rfl, rfl, rfl, rfl, trivial⟩ (.refl _) ⟨rfl, rfl, (Base.Le.refl _)⟩ ?_ ?_
  ·
    rintro k54 _ b52 _ _ oL39 hknL39 ⟨rfl, rfl, hle53⟩ hstepL39 houtL39
    unfold mSlicesIndex_2_L39 at hstepL39
    have hm := hstepL39
    refine c_seq ?_
    refine c_region ?_
    refine t_st rfl (st_lss_t rfl rfl (by omega)) ?_
    refine t_nil ?_
    refine x_then_normal ?_
    refine c_seq ?_
    refine c_cond_t rfl ?_
    refine c_skip ?_
    refine x_then_normal ?_
    refine c_seq ?_
    refine c_block ?_
    refine c_seq ?_
    refine c_region ?_
    refine t_st rfl (st_move rfl) ?_
    refine t_st rfl (st_assign rfl) ?_
    refine t_nil ?_
    refine x_then_normal ?_
    refine c_seq ?_
    refine c_region ?_
    refine t_st rfl (st_move rfl) ?_
    refine t_st rfl (st_move rfl) ?_
    refine t_st rfl (st_move rfl) ?_
    obtain ⟨x58, h59, hm⟩ := bindS hm
    obtain ⟨j60, hj61, hx62⟩ := idx_some h59
    obtain ⟨cs63, hr64, hcs65, hA66, hlt67⟩ := FZ.get (sz := 1) rfl (by decide) (h3.le hle53) hx62
    obtain rfl := hr64
    refine t_st rfl (st_index_old j60 rfl rfl hj61 hlt67 hA66 sl45) ?_
    refine t_st rfl (st_load_old rfl one3 (hcs65 0 _ rfl)) ?_
    refine t_st rfl (st_eql rfl rfl) ?_
    refine t_nil ?_
    refine x_then_normal ?_
    refine c_cond _ rfl (fun hc68 => ?_) (fun hc68 => ?_)
    ·
      rw [if_pos (of_decide_eq_true hc68)] at hm
      refine c_seq ?_
      refine c_region ?_
      refine t_st rfl (st_move rfl) ?_
      refine t_st rfl (st_assign rfl) ?_
      refine t_nil ?_
      refine x_then_normal ?_
      refine c_ret ?_
      refine x_block_ret ?_
      refine x_then_ret ?_
      refine x_then_ret ?_
      refine x_block_ret ?_
      refine x_then_ret ?_
      have hq69 := houtL39 _ (Option.some.inj hm).symm
      rw [hq69] at hk57
      have hm := elimR hk57
      obtain rfl := some1 hm
      exact retM (rs := [.tmp 4]) [.int .i64 ((k54 : Int))] hle53 (by decide) rfl ⟨rfl, trivial⟩ rfl (hp' := R) (.refl _) ⟨rfl, rfl⟩
    ·
      rw [if_neg (of_decide_eq_false hc68)] at hm
      refine c_skip ?_
      refine x_block_normal ?_
      refine x_then_normal ?_
      refine c_region ?_
      refine t_st rfl (st_add rfl rfl (by omega)) ?_
      refine t_st rfl (st_move rfl) ?_
      refine t_nil ?_
      exact x_againM () (Option.some.inj hm).symm (e' := [(0, .slice A1 (l4).length c2), (1, .int .i64 (x5)), (7, .int .i64 ((l4.length : Int))), (8, .int .i64 ((k54 : Int) + 1))]) (hp' := R) ⟨rfl, rfl, rfl, rfl, trivial⟩ (.refl _) ⟨rfl, rfl, (hle53)⟩
  ·
    rintro _ b52 _ _ ⟨rfl, rfl, hle53⟩ hq70
    rw [hq70] at hk57
    have hm := elimL hk57
    refine c_seq ?_
    refine c_region ?_
    refine t_st rfl (st_lss_f rfl rfl (by omega)) ?_
    refine t_nil ?_
    refine x_then_normal ?_
    refine c_seq ?_
    refine c_cond_f rfl ?_
    refine c_exit ?_
    refine x_then_exit ?_
    refine x_then_exit ?_
    refine x_block_out ?_
    refine x_then_normal ?_
    refine c_seq ?_
    refine c_region ?_
    refine t_st rfl (st_assign rfl) ?_
    refine t_nil ?_
    refine x_then_normal ?_
    refine c_ret ?_
    obtain rfl := some1 hm
    exact retM (rs := [.tmp 4]) [.int .i64 ((-1))] hle53 (by decide) rfl ⟨rfl, trivial⟩ rfl (hp' := R) (.refl _) ⟨rfl, rfl⟩

set_option maxRecDepth 20000 in
theorem cSlicesContains_2 (b : Base) (R : Hp) (l4 : (List Int)) (x5 : Int) (A1 : Option Addr) (c2 : Nat) (h3 : FZ (RT.int .i64) b.w A1 c2 l4) (x8 : Bool) (hm : mSlicesContains_2 l4 x5 = some x8) :
    CallsG Try.prog 20 [.slice A1 (l4).length c2, .int .i64 (x5)] b (R) (fun v b' hp' => .bool (x8) = v ∧ R = hp') := by
  refine fn_enterG 9 Try.func20 rfl Try.ntmps20 rfl ?_
  unfold mSlicesContains_2 at hm
  refine c_seq ?_
  refine c_region ?_
  refine t_st rfl (st_assign rfl) ?_
  refine t_nil ?_
  refine x_then_normal ?_
  refine c_seq ?_
  refine c_region ?_
  refine t_st rfl (st_move rfl) ?_
  refine t_st rfl (st_move rfl) ?_
  obtain ⟨x9, hcl10, hm⟩ := bindS hm
  refine t_do rfl (u_callW0 _ call51 rfl (fun w ho => cSlicesIndex_2 _ [] l4 x5 A1 c2 (h3.old ho) x9 hcl10) (fun _ _ _ h => h.2.symm)) ?_
  rintro _ _ ⟨⟨_, rfl, _⟩, rfl⟩
  refine t_st rfl (st_geq rfl rfl) ?_
  refine t_st rfl (st_assign rfl) ?_
  refine t_nil ?_
  refine x_then_normal ?_
  refine c_ret ?_
  obtain rfl := some1 hm
  exact retM (rs := [.tmp 4]) [.bool (decide (0 ≤ x9))] (Base.Le.refl _) (by decide) rfl ⟨rfl, trivial⟩ rfl (hp' := R) (.refl _) ⟨rfl, rfl⟩

end Go.Proofs.Ytajmocgpjkhjlaa
