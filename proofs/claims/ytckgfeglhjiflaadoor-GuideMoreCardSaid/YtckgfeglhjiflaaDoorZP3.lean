/- Contracts: the code computes its model (part 3). -/
import Derived.Test.YtckgfeglhjiflaaDoorZP2
set_option linter.unusedVariables false
set_option linter.unusedSimpArgs false
namespace Go.Proofs.YtckgfeglhjiflaaDoor
open Go.RowKit Go.Fp

open Go.Fp renaming t_ne → Te, t_nil → Tn, t_bool → Tb, t_callG → Tg, t_callvG → Tv, t_resp → Tr, c_sr → Cr, c_seq → Cs, c_region → Cg, c_block → Cb, c_ret → Ct, c_skip → Ck, c_exit → Ce, c_join → Cj, c_pullb → Cp, x_then_normal → Xn, x_then_ret → Xr, x_then_exit → Xe, x_block_ret → Xb, x_block_normal → Xm, x_block_out → Xo, x_pullb → Xp, x_front2 → X2, x_front3 → X3, x_front4 → X4, x_front5 → X5, x_front6 → X6, E_st → Es, E_s0 → E0, E_in → Ei, E_il → El, E_out → Eo, D_all → Da, D_done → Dd, D_drawI → Di, R_do → Rd2, R_nil → Rn, R_callGl → Rg, R_callvG → Rv, st_load → sL, st_loadD → sD, st_field → sF, st_len → sE, st_move → sM, st_assign → sA, st_pick_t → pT, st_pick_f → pF, st_index_old → sI, st_load_old → sO, st_loadN_old → sP, st_field_old → sQ, st_add → sa, st_sub → sb, st_lss_t → lT, st_lss_f → lF, st_not → sn2, st_build → sB, u_box → uB, u_alloc → uA, u_store → uS, u_storeN → uN, u_callW0 → uW, u_putOS → uP, u_appOS → uQ, fn_enterG → fE, bindS → bS, some1 → o1, idx_some → iS, sub_skip → ss, sub_app → sp, chk_some → kS, d_front2 → d2, d_front3 → d3, mem_c → mc, mem_n → mn, st_eql → q1, st_neq → q2, st_lss → q3, st_leq → q4, st_gtr → q5, st_geq → q6
set_option maxRecDepth 20000 in
theorem cGuideNetPoints (b : Base) (R : Hp) (s1 : GuideNet) (x8 x9 A2 c3 A5 c6) (h4 : FZ rApiTrain b.w A2 c3 s1.Day.Trains) (h7 : FZ (RT.list rI) b.w A5 c6 s1.Day.Turns) (b7) (hm : mGuideNetPoints s1 x8 x9 = some b7):
    CallsG Tryd.prog 39 [.agg #[sv A2 s1.Day.Trains c3, sv A5 s1.Day.Turns c6, iv s1.least], iv x8, iv x9] b (R) (fun v b' hp' => ∃ dz dA dd, sv dz b7 dA = v ∧ (dd ++ R) = hp' ∧ OSP 42 (OT.fr rGuidePoint) b'.w (sv dz b7 dA) b7 dd) := by
 refine fE 96 Tryd.func39 rfl Tryd.ntmps39 rfl ?_
 unfold mGuideNetPoints at hm
 refine Cr<|tD (uB _ rfl rfl) ?_
 rintro _ _ ⟨h, rfl, rfl⟩
 refine aS rfl<|Te<|Cr<|tD (u_mmap rI (OT.list 86 (OT.fr rGuideRide)) false false [_] R rfl) ?_
 rintro _ _ ⟨dB, e4, rfl, rfl, gx⟩
 refine tD (uA [.map none] zero141 rfl) ?_
 rintro _ _ ⟨dC, rfl, rfl⟩
 refine tD (uS 0 rfl rfl siz141 rfl rfl (by simp)) ?_
 rintro _ _ rfl
 refine Te<|Cs<|Cr<|tS (sD (vs := [_, _, _]) 1 3 rfl agg91 rfl rfl rfl)<|mV rfl ?_
 obtain ⟨gy, ew, hm⟩ := bS hm
 refine Tg _ rfl call54 rfl (cGuideNetRides _ _ s1 x8 0 (-1) A2 c3 A5 c6 h4 h7 gy ew) ?_
 rintro _ gz _ C ⟨iJ, rfl, rfl, gA⟩
 refine Te<|Cb ?_
 obtain ⟨iK, e5, de⟩ := bS hm
 refine Cp 1 rfl ?_
 have e6 := (gx.le C)
 refine c_rangeM (fun x : GuideRide => (.agg #[iv x.Train, iv x.On, iv x.Off] : Value)) (fun aj => fun bC hp' => ∃ H, (h, Cl 91 [sv A2 s1.Day.Trains c3, sv A5 s1.Day.Turns c6, iv s1.least]) :: (dC, Cl 141 [.map (some dB)]) :: (H ++ R) = hp' ∧ gz.Le bC ∧ OM rI (OT.list 86 (OT.fr rGuideRide)) false false bC.w dB aj H) rfl gA e5 (e' := [(2, iv x9), (3, pb h), (7, pb dC)]) ⟨rfl, rfl, rfl, trivial⟩ (.refl _) rfl (fun dk hdk => ⟨e4, rfl, Base.Le.dks hdk, e6⟩) ?_ ?_ (fun x hx => C.dk x hx)
 rintro iL iM g aj bC iN _ iA ⟨H, rfl, z, bD⟩ D bE ig
 unfold mGuideNetPoints_L26195 at bE
 have hm := bE
 refine Cg<|tD (uA [iv 0, iv 0, iv 0] zero86 rfl) ?_
 rintro _ _ ⟨iO, rfl, rfl⟩
 refine tD (uN (vs := [_, _, _]) 0 3 rfl rfl rfl siz86 rfl (mc rfl (mc rfl (mc rfl mn))) rfl (by simp)) ?_
 rintro _ _ rfl
 refine Tn<|x_begin 1 rfl<|Cb ?_
 obtain ⟨⟨aL, aM, aN, B⟩, bb, hm⟩ := bS hm
 have hm := (unc4E hm)
 obtain ⟨_, aC, hm⟩ := bS hm
 refine Di mixed (.cons_cons _ (.cons_cons _ (.cons_cons _ (.cons_cons _ (ss H (.refl _))))))<|Es 0 rfl (sL 3 rfl one141 rfl rfl)<|Es 1 rfl (sD (vs := [_, _, _]) 2 3 rfl agg91 rfl rfl rfl)<|Es 2 rfl (sD (vs := [_, _, _]) 1 3 rfl agg86 rfl rfl rfl)<|Es 5 rfl (sL 3 rfl one141 rfl rfl)<|Es 6 rfl (sD (vs := [_, _, _]) 2 3 rfl agg91 rfl rfl rfl)<|Es 7 rfl (sD (vs := [_, _, _]) 1 3 rfl agg86 rfl rfl rfl)<|Es 11 rfl (sD (vs := [_, _, _]) 1 3 rfl agg86 rfl rfl rfl)<|Eo<|Da [3, 12] (by kernel_rfl) rfl ?_
 refine Rg lr rfl rfl _ call60 rfl (cGuideNetOn _ _ s1 g A2 c3 A5 c6 (h4.le (C.trans (z.trans D))) (h7.le (C.trans (z.trans D))) aL aM aN B bb) ?_ ?_
 rintro _ gB _ f ⟨rfl, rfl⟩
 refine iR<|Ei f (.cons_cons _ (.cons_cons _ (.cons_cons _ (.cons_cons _ (ss H (.refl _))))))<|E0 4 rfl (st_vfield1 (cs := [iv aL, iv aM, iv aN, iv B]) rfl fdv83_3 one3 rfl)<|Eo<|Da [8, 12] (by kernel_rfl) rfl ?_
 refine Rg f rfl rfl _ call60 rfl (cGuideNetOn _ _ s1 g A2 c3 A5 c6 (h4.le (C.trans (z.trans (D.trans f)))) (h7.le (C.trans (z.trans (D.trans f)))) aL aM aN B bb) ?_ ?_
 rintro _ dD _ n ⟨rfl, rfl⟩
 refine iR<|Ei (f.trans n) (.cons_cons _ (.cons_cons _ (.cons_cons _ (.cons_cons _ (ss H (.refl _))))))<|E0 9 rfl (st_vfield1 (cs := [iv aL, iv aM, iv aN, iv B]) rfl fdv83_3 one3 rfl)<|Eo ?_
 obtain ⟨dE, dF, bc, aa, bo, hpm26362, bp, bd⟩ := OM.take kok3 (bD.le (D.trans (f.trans n))) (key := iv B) (k := B) rfl mapt141 zero31
 refine Da [10, 12] (by kernel_rfl) rfl ?_
 refine Rd2 (f.trans n) rfl rfl (Stable.does (st_mlook (ok := false) rfl rfl (fun w ho => bd _ w ho (.cons _ (.cons _ (.cons _ (.cons _ (List.sublist_append_left _ _)))))))) ?_ ?_
 rintro _ _ ⟨rfl, rfl⟩
 refine iR<|d_prm [_, _, _, _] H aa bc R rfl hpm26362<|Da [12] (by kernel_rfl) rfl ?_
 refine Rd2 (f.trans n) rfl rfl (u_bslice (el := 86) [(0, .agg #[iv g.Train, iv g.On, iv g.Off])] [iv g.Train, iv g.On, iv g.Off] rfl (fun _ => by kernel_rfl)) ?_ ?_
 rintro _ _ ⟨cA, rfl, rfl⟩
 refine iR ?_
 have aC := room_some aC
 refine Da [13] (by kernel_rfl) rfl ?_
 refine Rd2 (f.trans n) rfl rfl (uQ (r := rGuideRide) (l := mgetD aj B []) [_, _, _, _, _] (aa ++ R) [[iv g.Train, iv g.On, iv g.Off]] [g] rfl (by decide) sl31 inf86 rfl rfl rfl rfl bo rfl (fun w ho => Rd.own (i := 0) ho rfl) ⟨⟨[iv g.Train], _, rfl, rfl, ⟨[iv g.On], _, rfl, rfl, rfl⟩⟩, trivial⟩ aC) ?_ ?_
 rintro _ _ ⟨ar, rfl, aD⟩
 obtain ⟨cC, cD, rfl, _⟩ := aD.form
 refine iR<|d2 [_, _, _, _, _] ar aa R rfl<|Da [14] (by kernel_rfl) rfl ?_
 refine Rd2 (f.trans n) rfl rfl (u_mput kok3 [_, _, _, _, _] ar R rfl bp mapt141 rfl rfl rfl rfl ⟨_, rfl, aD⟩ _ (.inl rfl)) ?_ ?_
 rintro _ _ ⟨a0, rfl, bB, bh⟩
 refine ⟨.inl (by kernel_rfl), ?_⟩
 refine Dd (by kernel_rfl)<|Xm<|Xp 4 rfl<|Xp 4 rfl ?_
 exact x_round 3 rfl (f.trans n) (.cons_cons _ (.cons_cons _ (.cons _ (.cons _ (.refl _))))) ⟨(mput aj B ((mgetD aj B []) ++ [g])), (Option.some.inj hm).symm, ⟨a0, rfl, (z.trans (D.trans (f.trans n))), bh⟩⟩
 exact Rn
 exact Rn
 exact Rn
 refine Rd2 (f.trans n) rfl rfl (u_bslice (el := 86) [(0, .agg #[iv g.Train, iv g.On, iv g.Off])] [iv g.Train, iv g.On, iv g.Off] rfl (fun _ => by kernel_rfl)) ?_ ?_
 rintro _ _ ⟨cA, rfl, rfl⟩
 refine iR<|Da [10] (by kernel_rfl) rfl ?_
 refine Rd2 (f.trans n) rfl rfl (Stable.does (st_mlook (ok := false) rfl rfl (fun w ho => bd _ w ho (.cons _ (.cons _ (.cons _ (.cons _ (.cons _ (List.sublist_append_left _ _))))))))) ?_ ?_
 rintro _ _ ⟨rfl, rfl⟩
 refine iR<|d_prm [_, _, _, _, _] H aa bc R rfl hpm26362 ?_
 have aC := room_some aC
 refine Da [13] (by kernel_rfl) rfl ?_
 refine Rd2 (f.trans n) rfl rfl (uQ (r := rGuideRide) (l := mgetD aj B []) [_, _, _, _, _] (aa ++ R) [[iv g.Train, iv g.On, iv g.Off]] [g] rfl (by decide) sl31 inf86 rfl rfl rfl rfl bo rfl (fun w ho => Rd.own (i := 0) ho rfl) ⟨⟨[iv g.Train], _, rfl, rfl, ⟨[iv g.On], _, rfl, rfl, rfl⟩⟩, trivial⟩ aC) ?_ ?_
 rintro _ _ ⟨ar, rfl, aD⟩
 obtain ⟨cC, cD, rfl, _⟩ := aD.form
 refine iR<|d2 [_, _, _, _, _] ar aa R rfl<|Da [14] (by kernel_rfl) rfl ?_
 refine Rd2 (f.trans n) rfl rfl (u_mput kok3 [_, _, _, _, _] ar R rfl bp mapt141 rfl rfl rfl rfl ⟨_, rfl, aD⟩ _ (.inl rfl)) ?_ ?_
 rintro _ _ ⟨a0, rfl, bB, bh⟩
 refine ⟨.inl (by kernel_rfl), ?_⟩
 refine Dd (by kernel_rfl)<|Xm<|Xp 4 rfl<|Xp 4 rfl ?_
 exact x_round 3 rfl (f.trans n) (.cons_cons _ (.cons_cons _ (.cons _ (.cons _ (.refl _))))) ⟨(mput aj B ((mgetD aj B []) ++ [g])), (Option.some.inj hm).symm, ⟨a0, rfl, (z.trans (D.trans (f.trans n))), bh⟩⟩
 exact Rn
 exact Rn
 exact Rn
 exact Rn
 refine Rd2 f rfl rfl (u_bslice (el := 86) [(0, .agg #[iv g.Train, iv g.On, iv g.Off])] [iv g.Train, iv g.On, iv g.Off] rfl (fun _ => by kernel_rfl)) ?_ ?_
 rintro _ _ ⟨cA, rfl, rfl⟩
 refine iR<|Da [8] (by kernel_rfl) rfl ?_
 refine Rg f rfl rfl _ call60 rfl (cGuideNetOn _ _ s1 g A2 c3 A5 c6 (h4.le (C.trans (z.trans (D.trans f)))) (h7.le (C.trans (z.trans (D.trans f)))) aL aM aN B bb) ?_ ?_
 rintro _ dD _ n ⟨rfl, rfl⟩
 refine iR<|Ei (f.trans n) (.cons _ (.cons_cons _ (.cons_cons _ (.cons_cons _ (.cons_cons _ (ss H (.refl _)))))))<|E0 9 rfl (st_vfield1 (cs := [iv aL, iv aM, iv aN, iv B]) rfl fdv83_3 one3 rfl)<|Eo ?_
 obtain ⟨dE, dF, bc, aa, bo, hpm26362, bp, bd⟩ := OM.take kok3 (bD.le (D.trans (f.trans n))) (key := iv B) (k := B) rfl mapt141 zero31
 refine Da [10] (by kernel_rfl) rfl ?_
 refine Rd2 (f.trans n) rfl rfl (Stable.does (st_mlook (ok := false) rfl rfl (fun w ho => bd _ w ho (.cons _ (.cons _ (.cons _ (.cons _ (.cons _ (List.sublist_append_left _ _))))))))) ?_ ?_
 rintro _ _ ⟨rfl, rfl⟩
 refine iR<|d_prm [_, _, _, _, _] H aa bc R rfl hpm26362 ?_
 have aC := room_some aC
 refine Da [13] (by kernel_rfl) rfl ?_
 refine Rd2 (f.trans n) rfl rfl (uQ (r := rGuideRide) (l := mgetD aj B []) [_, _, _, _, _] (aa ++ R) [[iv g.Train, iv g.On, iv g.Off]] [g] rfl (by decide) sl31 inf86 rfl rfl rfl rfl bo rfl (fun w ho => Rd.own (i := 0) ho rfl) ⟨⟨[iv g.Train], _, rfl, rfl, ⟨[iv g.On], _, rfl, rfl, rfl⟩⟩, trivial⟩ aC) ?_ ?_
 rintro _ _ ⟨ar, rfl, aD⟩
 obtain ⟨cC, cD, rfl, _⟩ := aD.form
 refine iR<|d2 [_, _, _, _, _] ar aa R rfl<|Da [14] (by kernel_rfl) rfl ?_
 refine Rd2 (f.trans n) rfl rfl (u_mput kok3 [_, _, _, _, _] ar R rfl bp mapt141 rfl rfl rfl rfl ⟨_, rfl, aD⟩ _ (.inl rfl)) ?_ ?_
 rintro _ _ ⟨a0, rfl, bB, bh⟩
 refine ⟨.inl (by kernel_rfl), ?_⟩
 refine Dd (by kernel_rfl)<|Xm<|Xp 4 rfl<|Xp 4 rfl ?_
 exact x_round 3 rfl (f.trans n) (.cons_cons _ (.cons_cons _ (.cons _ (.cons _ (.refl _))))) ⟨(mput aj B ((mgetD aj B []) ++ [g])), (Option.some.inj hm).symm, ⟨a0, rfl, (z.trans (D.trans (f.trans n))), bh⟩⟩
 exact Rn
 exact Rn
 exact Rn
 exact Rn
 exact Rn
 refine Rd2 lr rfl rfl (u_bslice (el := 86) [(0, .agg #[iv g.Train, iv g.On, iv g.Off])] [iv g.Train, iv g.On, iv g.Off] rfl (fun _ => by kernel_rfl)) ?_ ?_
 rintro _ _ ⟨cA, rfl, rfl⟩
 refine iR<|Da [3] (by kernel_rfl) rfl ?_
 refine Rg lr rfl rfl _ call60 rfl (cGuideNetOn _ _ s1 g A2 c3 A5 c6 (h4.le (C.trans (z.trans D))) (h7.le (C.trans (z.trans D))) aL aM aN B bb) ?_ ?_
 rintro _ gB _ f ⟨rfl, rfl⟩
 refine iR<|Ei f (.cons _ (.cons_cons _ (.cons_cons _ (.cons_cons _ (.cons_cons _ (ss H (.refl _)))))))<|E0 4 rfl (st_vfield1 (cs := [iv aL, iv aM, iv aN, iv B]) rfl fdv83_3 one3 rfl)<|Eo<|Da [8] (by kernel_rfl) rfl ?_
 refine Rg f rfl rfl _ call60 rfl (cGuideNetOn _ _ s1 g A2 c3 A5 c6 (h4.le (C.trans (z.trans (D.trans f)))) (h7.le (C.trans (z.trans (D.trans f)))) aL aM aN B bb) ?_ ?_
 rintro _ dD _ n ⟨rfl, rfl⟩
 refine iR<|Ei (f.trans n) (.cons _ (.cons_cons _ (.cons_cons _ (.cons_cons _ (.cons_cons _ (ss H (.refl _)))))))<|E0 9 rfl (st_vfield1 (cs := [iv aL, iv aM, iv aN, iv B]) rfl fdv83_3 one3 rfl)<|Eo ?_
 obtain ⟨dE, dF, bc, aa, bo, hpm26362, bp, bd⟩ := OM.take kok3 (bD.le (D.trans (f.trans n))) (key := iv B) (k := B) rfl mapt141 zero31
 refine Da [10] (by kernel_rfl) rfl ?_
 refine Rd2 (f.trans n) rfl rfl (Stable.does (st_mlook (ok := false) rfl rfl (fun w ho => bd _ w ho (.cons _ (.cons _ (.cons _ (.cons _ (.cons _ (List.sublist_append_left _ _))))))))) ?_ ?_
 rintro _ _ ⟨rfl, rfl⟩
 refine iR<|d_prm [_, _, _, _, _] H aa bc R rfl hpm26362 ?_
 have aC := room_some aC
 refine Da [13] (by kernel_rfl) rfl ?_
 refine Rd2 (f.trans n) rfl rfl (uQ (r := rGuideRide) (l := mgetD aj B []) [_, _, _, _, _] (aa ++ R) [[iv g.Train, iv g.On, iv g.Off]] [g] rfl (by decide) sl31 inf86 rfl rfl rfl rfl bo rfl (fun w ho => Rd.own (i := 0) ho rfl) ⟨⟨[iv g.Train], _, rfl, rfl, ⟨[iv g.On], _, rfl, rfl, rfl⟩⟩, trivial⟩ aC) ?_ ?_
 rintro _ _ ⟨ar, rfl, aD⟩
 obtain ⟨cC, cD, rfl, _⟩ := aD.form
 refine iR<|d2 [_, _, _, _, _] ar aa R rfl<|Da [14] (by kernel_rfl) rfl ?_
 refine Rd2 (f.trans n) rfl rfl (u_mput kok3 [_, _, _, _, _] ar R rfl bp mapt141 rfl rfl rfl rfl ⟨_, rfl, aD⟩ _ (.inl rfl)) ?_ ?_
 rintro _ _ ⟨a0, rfl, bB, bh⟩
 refine ⟨.inl (by kernel_rfl), ?_⟩
 refine Dd (by kernel_rfl)<|Xm<|Xp 4 rfl<|Xp 4 rfl ?_
 exact x_round 3 rfl (f.trans n) (.cons_cons _ (.cons_cons _ (.cons _ (.cons _ (.refl _))))) ⟨(mput aj B ((mgetD aj B []) ++ [g])), (Option.some.inj hm).symm, ⟨a0, rfl, (z.trans (D.trans (f.trans n))), bh⟩⟩
 exact Rn
 exact Rn
 exact Rn
 exact Rn
 exact Rn
 exact Rn
 rintro aj bC _ ⟨H, rfl, z, bD⟩ e7
 rw [e7] at de
 have hm := elimL de
 refine Xm<|Xn<|Cr<|tD (u_mmap rGuidePoint (OT.fr RT.bool) true false [_, _] (H ++ R) rfl) ?_
 rintro _ _ ⟨o, aO, rfl, rfl, gC⟩
 refine aS rfl<|Te<|Cr<|aS rfl<|Te ?_
 obtain ⟨cE, e8, e9⟩ := bS hm
 refine Cj (fun cG e' hp' => ∃ aU aV bi, [(10, sv aU cE aV)] = e' ∧ (bi ++ R) = hp' ∧ bC.Le cG ∧ OSP 42 (OT.fr rGuidePoint) cG.w (sv aU cE aV) cE bi) ?_ ?_
 have hm := e8
 refine Cr<|tS (sL 1 rfl one141 rfl rfl)<|t_front2 [_, _] aO H R rfl ?_
 obtain ⟨df, dg, hpm39366, gD⟩ := OM.frzM bD
 refine t_prm [_, _] H dg df (aO ++ R) rfl hpm39366<|t_frz [_, _] df (dg ++ (aO ++ R)) rfl ?_
 intro gE ax fa
 have gF := gD _ ax fa
 refine tD (u_range [_, _] (aO ++ R) rfl gF mapt141 rfl) ?_
 rintro _ _ ⟨A, dh, rfl, rfl, gG⟩
 refine Te<|Cb<|c_front2 [_, _] dh aO R rfl<|c_front2 [_, _] aO dh R rfl ?_
 obtain ⟨iP, fb, di⟩ := bS hm
 refine c_mapM (unc2 fun dH bG => fun b8 e' hp' => ∃ O bq br I, [(2, iv x9), (3, pb h), (9, .map (some o)), (10, sv bq bG br), (39, pb A)] = e' ∧ (h, Cl 91 [sv A2 s1.Day.Trains c3, sv A5 s1.Day.Turns c6, iv s1.least]) :: (O ++ (I ++ R)) = hp' ∧ gE.Le b8 ∧ OM rGuidePoint (OT.fr RT.bool) true false b8.w o dH O ∧ OSP 42 (OT.fr rGuidePoint) b8.w (sv bq bG br) bG I) fb gG (e' := [(2, iv x9), (3, pb h), (9, .map (some o)), (10, sn), (39, pb A)]) ⟨rfl, rfl, rfl, rfl, rfl, trivial⟩ [_, _] (aO ++ R) rfl (.cons_cons _ (.cons _ (.refl _))) ⟨aO, none, 0, [], rfl, rfl, lr, (gC.le ax), OSP.nil⟩ ?_
 rintro ⟨dH, bG⟩ iQ b8 _ _ fc ⟨O, bq, br, I, rfl, rfl, ay, gH, dI⟩ iu gI hd48024 hall48025
 refine c_mid [_] fc (O ++ (I ++ R)) ?_ rfl
 refine Cr ?_
 refine t_next [_] (O ++ (I ++ R)) rfl rfl rfl gI (fun hnil48027 => ?_) (fun d iT iU iV a hperm48033 fd gJ => ?_)
 have hend48036 := hd48024 hnil48027
 refine tS (st_extract rfl rfl)<|Te<|Cs<|c_cond_f rfl<|Ce<|Xe<|Xe<|Xo ?_
 rw [hend48036] at di
 have hm := elimL di
 have hm := (unc2E hm)
 obtain rfl := o1 hm
 exact jJ ⟨bq, br, I, rfl, rfl, (ax.trans ay), dI⟩
 obtain ⟨iW, b6, ii⟩ := hall48025 _ _ hperm48033
 have bH := b6
 unfold mGuideNetPoints_L39375 at bH
 have hm := (unc2E bH)
 refine tS (st_extract rfl rfl)<|Te<|Cs<|c_cond_t rfl<|Ck<|Xn<|Cb<|Cr ?_
 obtain ⟨dJ, gK, cq, fe, ff⟩ := MIx.entry Tryd.prog fd
 obtain rfl : dJ = iv d.1 := by have cq : [dJ] = [iv d.1] := cq; injection cq
 obtain ⟨dK, dL, fg, gL⟩ := fe
 obtain rfl : gK = sv dK d.2 dL := by injection fg
 refine tS (ff (.cons _ (List.sublist_append_left _ _)) rfl)<|tS (st_extract rfl rfl)<|tS (st_extract rfl rfl)<|aS rfl<|aS rfl<|Te<|Cr<|tS (sD (vs := [_, _, _]) 0 3 rfl agg91 rfl rfl rfl)<|mV rfl ?_
 obtain ⟨⟨gM, gN, gO, gP⟩, ex, hm⟩ := bS hm
 have hm := (unc4E hm)
 refine Tg _ rfl call52 rfl (cGuideNetEnds _ _ s1 d.2 A2 c3 A5 c6 dK dL (h4.le (C.trans (z.trans (ax.trans ay)))) (h7.le (C.trans (z.trans (ax.trans ay)))) gL gM gN gO gP ex) ?_
 rintro _ dM _ az ⟨q, fh, s, m, t, e, y, c, rfl, rfl, gQ, gR, gS, gT⟩
 refine t_in4 [] [_] fh m e c (a ++ (O ++ (I ++ R))) rfl<|mV rfl<|Te<|Cb<|c_unroll<|Cr<|tS (lT rfl rfl (by omega))<|Te<|Cs<|c_cond_t rfl ?_
 refine Ck<|Xn ?_
 obtain ⟨⟨gU, b9⟩, fi, fj⟩ := bS hm
 refine Cj (fun bs e' hp' => ∃ ac bI bJ ad, [(2, iv x9), (3, pb h), (9, .map (some o)), (10, sv bI b9 bJ), (11, iv d.1), (39, pb A), (47, .agg #[.map (some q), .map (some s), .map (some t), .map (some y)]), (48, iv 0)] = e' ∧ (h, Cl 91 [sv A2 s1.Day.Trains c3, sv A5 s1.Day.Turns c6, iv s1.least]) :: (ac ++ (ad ++ (a ++ (m ++ (e ++ (c ++ R)))))) = hp' ∧ dM.Le bs ∧ OM rGuidePoint (OT.fr RT.bool) true false bs.w o gU ac ∧ OSP 42 (OT.fr rGuidePoint) bs.w (sv bI b9 bJ) b9 ad) ?_ ?_
 have hm := fi
 refine Cb<|Cr<|mV rfl<|tS (st_aidx1 (cs := [.map (some q), .map (some s), .map (some t), .map (some y)]) 0 rfl rfl rfl (by decide) rfl arr106 one105)<|aS rfl<|aS rfl<|Te<|Cr<|mV rfl<|tD (u_range [_] (m ++ (e ++ (c ++ (a ++ (O ++ (I ++ R)))))) rfl gQ mapt105 rfl) ?_
 rintro _ _ ⟨bt, a1, rfl, rfl, gV⟩
 refine Te<|Cb<|c_front4 [_] a1 m e c (a ++ (O ++ (I ++ R))) rfl<|c_front4 [_] c a1 m e (a ++ (O ++ (I ++ R))) rfl<|c_front4 [_] e c a1 m (a ++ (O ++ (I ++ R))) rfl<|c_front5 [_] m e c a1 a (O ++ (I ++ R)) rfl<|c_front7 [_] a m e c a1 O I R rfl<|c_front7 [_] I a m e c a1 O R rfl<|c_front7 [_] O I a m e c a1 R rfl ?_
 obtain ⟨iX, fk, dj⟩ := bS hm
 refine c_mapM (unc2 fun ca aE => fun bK e' hp' => ∃ J a3 a4 E, [(2, iv x9), (3, pb h), (9, .map (some o)), (10, sv a3 aE a4), (11, iv d.1), (13, iv 0), (39, pb A), (47, .agg #[.map (some q), .map (some s), .map (some t), .map (some y)]), (48, iv 0), (53, pb bt)] = e' ∧ (h, Cl 91 [sv A2 s1.Day.Trains c3, sv A5 s1.Day.Turns c6, iv s1.least]) :: (J ++ (E ++ (a ++ (m ++ (e ++ (c ++ R)))))) = hp' ∧ dM.Le bK ∧ OM rGuidePoint (OT.fr RT.bool) true false bK.w o ca J ∧ OSP 42 (OT.fr rGuidePoint) bK.w (sv a3 aE a4) aE E) fk gV (e' := [(2, iv x9), (3, pb h), (9, .map (some o)), (10, sv bq bG br), (11, iv d.1), (13, iv 0), (39, pb A), (47, .agg #[.map (some q), .map (some s), .map (some t), .map (some y)]), (48, iv 0), (53, pb bt)]) ⟨rfl, rfl, rfl, rfl, rfl, rfl, rfl, rfl, rfl, rfl, trivial⟩ [_] (O ++ (I ++ (a ++ (m ++ (e ++ (c ++ R)))))) rfl (.refl _) ⟨O, bq, br, I, rfl, rfl, lr, (gH.le az), (dI.le az)⟩ ?_
 rintro ⟨ca, aE⟩ iY bK _ _ fl ⟨J, a3, a4, E, rfl, rfl, aW, cb, cH⟩ iw gW hd48964 hall48965
 refine c_mid [_] fl (J ++ (E ++ (a ++ (m ++ (e ++ (c ++ R)))))) ?_ rfl
 refine Cr ?_
 refine t_next [_] (J ++ (E ++ (a ++ (m ++ (e ++ (c ++ R)))))) rfl rfl rfl gW (fun hnil48967 => ?_) (fun dN iZ i0 i1 F hperm48973 fm dO => ?_)
 have hend48976 := hd48964 hnil48967
 refine tS (st_extract rfl rfl)<|Te<|Cs<|c_cond_f rfl<|Ce<|Xe<|Xe<|Xo ?_
 rw [hend48976] at dj
 have hm := elimL dj
 have hm := (unc2E hm)
 refine Xm ?_
 obtain ⟨rfl, rfl⟩ := some2 hm
 exact jJ ⟨J, a3, a4, E, rfl, rfl, aW, cb, cH⟩
 obtain ⟨i2, bj, ij⟩ := hall48965 _ _ hperm48973
 have bL := bj
 unfold mGuideNetPoints_L48611 at bL
 have hm := (unc2E bL)
 refine tS (st_extract rfl rfl)<|Te<|Cs<|c_cond_t rfl<|Ck<|Xn<|Cb<|Cr ?_
 obtain ⟨i3, dP, fn, cr, fo⟩ := MIx.entry Tryd.prog fm
 obtain ⟨_, rfl, ⟨_, _, rfl, rfl, rfl⟩⟩ := fn
 obtain rfl : dP = bv dN.2 := by have cr : [dP] = [bv dN.2] := cr; injection cr
 refine tS (fo (.cons _ (List.sublist_append_left _ _)) rfl)<|tS (st_extract rfl rfl)<|tD (uA [iv 0, iv 0] zero113 rfl) ?_
 rintro _ _ ⟨i4, rfl, rfl⟩
 refine tD (uN (vs := [_, _]) 0 2 rfl rfl rfl siz113 rfl (mc rfl (mc rfl mn)) rfl (by simp)) ?_
 rintro _ _ rfl
 refine Te ?_
 obtain ⟨⟨gX, gY, U, gZ⟩, fp, fq⟩ := bS hm
 refine Cj (fun cJ e' hp' => ∃ cK, [(2, iv x9), (3, pb h), (9, .map (some o)), (10, sv a3 aE a4), (11, iv d.1), (13, iv 0), (16, pb cK), (39, pb A), (47, .agg #[.map (some q), .map (some s), .map (some t), .map (some y)]), (48, iv 0), (53, pb bt)] = e' ∧ (h, Cl 91 [sv A2 s1.Day.Trains c3, sv A5 s1.Day.Turns c6, iv s1.least]) :: (cK, Cl 83 [iv gX, iv gY, iv U, iv gZ]) :: (J ++ (E ++ (a ++ (m ++ (e ++ (c ++ (F ++ R))))))) = hp' ∧ bK.Le cJ) ?_ ?_
 have hm := fp
 obtain ⟨i5, g0, hm⟩ := bS hm
 obtain ⟨cc, g1, hm⟩ := bS hm
 refine Di mixed (.refl _)<|E0 0 rfl (sF rfl fld91_0)<|E0 1 rfl (sF rfl fld25_0)<|Es 2 rfl (sL 1 rfl one22 rfl rfl)<|E0 3 rfl (sF rfl fld113_0)<|Es 4 rfl (sL 0 rfl one3 rfl rfl) ?_
 obtain ⟨g2, fr, fs⟩ := iS g0
 obtain ⟨iB, ft, ey, dl, ez⟩ := FZ.get (sz := 4) rfl (by decide) (h4.le (C.trans (z.trans (ax.trans (ay.trans (az.trans aW)))))) fs
 obtain ⟨_, _, rfl, rfl, ⟨_, _, rfl, rfl, ⟨_, _, rfl, ⟨i6, i7, rfl, g3⟩, ⟨i8, i9, rfl, ja⟩⟩⟩⟩ := ft
 refine E0 5 rfl (sI g2 rfl rfl fr ez dl sl22)<|E0 6 rfl (sQ rfl dl fld47_2)<|Es 7 rfl (sO rfl one45 (ey 2 _ rfl))<|E0 8 rfl (sF rfl fld113_1)<|Es 9 rfl (sL 0 rfl one3 rfl rfl) ?_
 obtain ⟨g4, fu, fv⟩ := iS g1
 obtain ⟨iC, fw, eA, dm, eB⟩ := FZ.get (sz := 4) rfl (by decide) g3 fv
 obtain ⟨_, _, rfl, rfl, ⟨_, _, rfl, rfl, ⟨_, _, rfl, rfl, rfl⟩⟩⟩ := fw
 refine E0 10 rfl (sI g4 rfl rfl fu eB dm sl45)<|Es 11 rfl (sP (vs := [iv cc.Station, iv cc.Track, iv cc.Arr, iv cc.Dep]) 4 rfl agg83 dm rfl (fun j u hu => eA j u hu))<|Eo<|Da [12] (by kernel_rfl) rfl ?_
 refine Rd2 lr rfl rfl (uA [iv 0, iv 0, iv 0, iv 0] zero83 rfl) ?_ ?_
 rintro _ _ ⟨g5, rfl, rfl⟩
 refine iR<|Da [13] (by kernel_rfl) rfl ?_
 refine Rd2 lr rfl rfl (uN (vs := [_, _, _, _]) 0 4 rfl rfl rfl siz83 rfl (mc rfl (mc rfl (mc rfl (mc rfl mn)))) rfl (by simp)) ?_ ?_
 rintro _ _ rfl
 refine ⟨.inl (by kernel_rfl), ?_⟩
 refine Dd (by kernel_rfl) ?_
 obtain ⟨rfl, rfl, rfl, rfl⟩ := some4 hm
 exact jJ ⟨g5, rfl, rfl, lr⟩
 exact Rn
 exact Rn
 rintro cJ _ _ ⟨cK, rfl, rfl, ae⟩
 have hm := (unc4E fq)
 refine Cr<|mV rfl<|tS (sF rfl fld83_2)<|tS (sL 1 rfl one3 rfl rfl)<|mV rfl ?_
 obtain ⟨_, cO, hm⟩ := bS hm
 have cO := (kS cO).2
 refine tS (sa rfl rfl cO)<|tS (sB (v := .agg #[iv d.1, iv U, iv (0 + 1)]) [(0, iv d.1), (1, iv U), (2, iv (0 + 1))] rfl (fun _ => by kernel_rfl))<|tD (uA [iv 0, iv 0, iv 0] zero42 rfl) ?_
 rintro _ _ ⟨dQ, rfl, rfl⟩
 refine tD (uN (vs := [_, _, _]) 0 3 rfl rfl rfl siz42 rfl (mc rfl (mc rfl (mc rfl mn))) rfl (by simp)) ?_
 rintro _ _ rfl
 refine Te ?_
 obtain ⟨g6, fx, fy⟩ := bS hm
 refine Cj (fun dR e' hp' => [(2, iv x9), (3, pb h), (9, .map (some o)), (10, sv a3 aE a4), (11, iv d.1), (13, iv 0), (17, pb dQ), (39, pb A), (47, .agg #[.map (some q), .map (some s), .map (some t), .map (some y)]), (48, iv 0), (53, pb bt), (85, bv g6)] = e' ∧ (h, Cl 91 [sv A2 s1.Day.Trains c3, sv A5 s1.Day.Turns c6, iv s1.least]) :: (dQ, Cl 42 [iv d.1, iv U, iv (0 + 1)]) :: (J ++ (E ++ (a ++ (m ++ (e ++ (c ++ (F ++ R))))))) = hp' ∧ cJ.Le dR) ?_ ?_
 have hm := fx
 refine Cg<|tS (sF rfl fld83_0)<|tS (sL 2 rfl one3 rfl rfl)<|mV rfl ?_
 refine Tb rfl (q1 rfl rfl) (fun ct => ?_) (fun ct => ?_)
 rw [if_pos ct] at hm
 refine mV rfl<|yS<|mV rfl<|yS<|tS (sD (vs := [_, _, _]) 0 3 rfl agg42 rfl rfl rfl)<|yS ?_
 obtain ⟨dS, g7, hm⟩ := bS hm
 have fz := Option.some.inj g7
 obtain ⟨dT, bM, fA⟩ := OM.lookF kok42 (z0 := false) (cb.le ae) (key := .agg #[iv d.1, iv U, iv (0 + 1)]) (k := (⟨d.1, U, 0 + 1⟩ : GuidePoint)) ⟨[iv d.1, iv U, iv (0 + 1)], rfl, ⟨[iv d.1], _, rfl, rfl, ⟨[iv U], _, rfl, rfl, rfl⟩⟩⟩ mapt142 zero4 rfl
 rw [fz] at bM
 obtain rfl : dT = bv dS := by have bM : [dT] = [bv dS] := bM; injection bM
 refine tS (st_mlook (ok := false) rfl rfl (fun w ho => fA _ w ho (.cons _ (.cons _ (.cons _ (List.sublist_append_left _ _)))) false))<|yS<|tS (sn2 rfl)<|tS (pT rfl rfl)<|Tn ?_
 obtain rfl := o1 hm
 exact jJ ⟨rfl, rfl, lr⟩
 rw [if_neg ct] at hm
 refine mV rfl<|nO<|nO<|nO<|nO<|tS (pF rfl rfl)<|Tn ?_
 obtain rfl := o1 hm
 exact jJ ⟨rfl, rfl, lr⟩
 rintro dR _ _ ⟨rfl, rfl, am⟩
 have hm := fy
 refine cB hm rfl (fun hm => ?_) fun hm => ?_
 refine Cr<|mV rfl<|tS (sD (vs := [_, _, _]) 1 3 rfl agg42 rfl rfl rfl)<|tD (u_mputF (k := (⟨d.1, U, 0 + 1⟩ : GuidePoint)) kok42 [_, _] [] (E ++ (a ++ (m ++ (e ++ (c ++ (F ++ R)))))) rfl (cb.le (ae.trans am)) mapt142 rfl rfl rfl (⟨[iv d.1, iv U, iv (0 + 1)], rfl, ⟨[iv d.1], _, rfl, rfl, ⟨[iv U], _, rfl, rfl, rfl⟩⟩⟩) ⟨rfl, rfl⟩ _ (.inl rfl)) ?_
 rintro _ _ ⟨au, rfl, ik, g8⟩
 have g9 := g8.prm (canB_perm (fun p => kGuidePoint p.1) _).symm
 refine Te<|Cg<|mV rfl<|tS (sD (vs := [_, _, _]) 1 3 rfl agg42 rfl rfl rfl)<|tD (u_bslice (el := 42) [(0, .agg #[iv d.1, iv U, iv (0 + 1)])] [iv d.1, iv U, iv (0 + 1)] rfl (fun _ => by kernel_rfl)) ?_
 rintro _ _ ⟨jb, rfl, rfl⟩
 obtain ⟨_, cP, hm⟩ := bS hm
 have cP := room_some cP
 refine t_front2 [_, _, _] au E (a ++ (m ++ (e ++ (c ++ (F ++ R))))) rfl<|tD (u_appP (r := rGuidePoint) (l := aE) kGuidePoint [_, _, _] (au ++ (a ++ (m ++ (e ++ (c ++ (F ++ R)))))) [[iv d.1, iv U, iv (0 + 1)]] (⟨d.1, U, 0 + 1⟩ : GuidePoint) rfl (by decide) sl38 inf42 rfl rfl rfl rfl (cH.le (ae.trans am)) rfl (fun w ho => Rd.own (i := 0) ho rfl) ⟨⟨[iv d.1], _, rfl, rfl, ⟨[iv U], _, rfl, rfl, rfl⟩⟩, trivial⟩ cP) ?_
 rintro _ _ ⟨aF, rfl, dU⟩
 obtain ⟨dV, dW, rfl⟩ := OSP.form dU
 refine aS rfl<|Tn<|Xm<|Xp 1 rfl<|X6 [_, _, _] aF au a m e c (F ++ R) rfl<|X6 [_, _, _] c aF au a m e (F ++ R) rfl<|X6 [_, _, _] e c aF au a m (F ++ R) rfl<|X6 [_, _, _] m e c aF au a (F ++ R) rfl<|X5 [_, _, _] a m e c aF (au ++ (F ++ R)) rfl<|X6 [_, _, _] aF a m e c au (F ++ R) rfl ?_
 refine x_front7 [_, _, _] au aF a m e c F R rfl ?_
 have eC := (aW.trans (ae.trans am))
 exact x_mapM (s' := (canB (fun p => kGuidePoint p.1) (mput ca (⟨d.1, U, 0 + 1⟩ : GuidePoint) true), insB kGuidePoint (⟨d.1, U, 0 + 1⟩ : GuidePoint) aE)) [_, _, _] (au ++ (aF ++ (a ++ (m ++ (e ++ (c ++ R)))))) rfl hperm48973 (bj.trans (Option.some.inj hm ▸ rfl)) eC (dO.le (ae.trans am)) (e' := [(2, iv x9), (3, pb h), (9, .map (some o)), (10, .slice dV (insB kGuidePoint (⟨d.1, U, 0 + 1⟩ : GuidePoint) aE).length dW), (11, iv d.1), (13, iv 0), (39, pb A), (47, .agg #[.map (some q), .map (some s), .map (some t), .map (some y)]), (48, iv 0), (53, pb bt)]) ⟨rfl, rfl, rfl, rfl, rfl, rfl, rfl, rfl, rfl, rfl, trivial⟩ (.cons_cons _ (.cons _ (.cons _ (.refl _)))) ⟨au, dV, dW, aF, rfl, rfl, ((aW.trans (ae.trans am))), g9, dU⟩
 refine Ck<|Xm<|X6 [_, _] J E a m e c (F ++ R) rfl<|X6 [_, _] c J E a m e (F ++ R) rfl<|X6 [_, _] e c J E a m (F ++ R) rfl<|X6 [_, _] m e c J E a (F ++ R) rfl<|X6 [_, _] a m e c J E (F ++ R) rfl<|X6 [_, _] E a m e c J (F ++ R) rfl<|x_front7 [_, _] J E a m e c F R rfl ?_
 have eD := (aW.trans (ae.trans am))
 exact x_mapM (s' := (ca, aE)) [_, _] (J ++ (E ++ (a ++ (m ++ (e ++ (c ++ R)))))) rfl hperm48973 (bj.trans (Option.some.inj hm ▸ rfl)) eD (dO.le (ae.trans am)) (e' := [(2, iv x9), (3, pb h), (9, .map (some o)), (10, sv a3 aE a4), (11, iv d.1), (13, iv 0), (39, pb A), (47, .agg #[.map (some q), .map (some s), .map (some t), .map (some y)]), (48, iv 0), (53, pb bt)]) ⟨rfl, rfl, rfl, rfl, rfl, rfl, rfl, rfl, rfl, rfl, trivial⟩ (.cons_cons _ (.cons _ (.refl _))) ⟨J, a3, a4, E, rfl, rfl, ((aW.trans (ae.trans am))), (cb.le (ae.trans am)), (cH.le (ae.trans am))⟩
 rintro bs _ _ ⟨ac, bI, bJ, ad, rfl, rfl, aA, ha, hb⟩
 have hm := (unc2E fj)
 refine Cg ?_
 obtain ⟨_, cQ, hm⟩ := bS hm
 have cQ := (kS cQ).2
 refine tS (sa rfl rfl cQ)<|mV rfl<|Tn<|x_unroll<|Cr<|tS (lT rfl rfl (by omega))<|Te<|Cs<|c_cond_t rfl<|Ck ?_
 refine Xn ?_
 obtain ⟨⟨hc, cd⟩, fB, fC⟩ := bS hm
 refine Cj (fun bu e' hp' => ∃ ak bN bO al, [(2, iv x9), (3, pb h), (9, .map (some o)), (10, sv bN cd bO), (11, iv d.1), (39, pb A), (47, .agg #[.map (some q), .map (some s), .map (some t), .map (some y)]), (48, iv 1)] = e' ∧ (h, Cl 91 [sv A2 s1.Day.Trains c3, sv A5 s1.Day.Turns c6, iv s1.least]) :: (ak ++ (al ++ (a ++ (e ++ (c ++ R))))) = hp' ∧ bs.Le bu ∧ OM rGuidePoint (OT.fr RT.bool) true false bu.w o hc ak ∧ OSP 42 (OT.fr rGuidePoint) bu.w (sv bN cd bO) cd al) ?_ ?_
 have hm := fB
 refine Cb<|Cr<|mV rfl<|tS (st_aidx1 (cs := [.map (some q), .map (some s), .map (some t), .map (some y)]) 1 rfl rfl rfl (by decide) rfl arr106 one105)<|aS rfl<|aS rfl<|Te<|Cr<|mV rfl<|t_front4 [_] ac ad a m (e ++ (c ++ R)) rfl ?_
 refine tD (u_range [_] (ac ++ (ad ++ (a ++ (e ++ (c ++ R))))) rfl (gR.le aA) mapt105 rfl) ?_
 rintro _ _ ⟨bw, be, rfl, rfl, hd⟩
 refine Te<|Cb<|c_front6 [_] be ac ad a e c R rfl<|c_front6 [_] c be ac ad a e R rfl<|c_front6 [_] e c be ac ad a R rfl<|c_front6 [_] a e c be ac ad R rfl<|c_front6 [_] ad a e c be ac R rfl<|c_front6 [_] ac ad a e c be R rfl ?_
 obtain ⟨jc, fD, dn⟩ := bS hm
 refine c_mapM (unc2 fun ce aG => fun bP e' hp' => ∃ S a5 a6 G, [(2, iv x9), (3, pb h), (9, .map (some o)), (10, sv a5 aG a6), (11, iv d.1), (13, iv 1), (39, pb A), (47, .agg #[.map (some q), .map (some s), .map (some t), .map (some y)]), (48, iv 1), (53, pb bw)] = e' ∧ (h, Cl 91 [sv A2 s1.Day.Trains c3, sv A5 s1.Day.Turns c6, iv s1.least]) :: (S ++ (G ++ (a ++ (e ++ (c ++ R))))) = hp' ∧ bs.Le bP ∧ OM rGuidePoint (OT.fr RT.bool) true false bP.w o ce S ∧ OSP 42 (OT.fr rGuidePoint) bP.w (sv a5 aG a6) aG G) fD hd (e' := [(2, iv x9), (3, pb h), (9, .map (some o)), (10, sv bI b9 bJ), (11, iv d.1), (13, iv 1), (39, pb A), (47, .agg #[.map (some q), .map (some s), .map (some t), .map (some y)]), (48, iv 1), (53, pb bw)]) ⟨rfl, rfl, rfl, rfl, rfl, rfl, rfl, rfl, rfl, rfl, trivial⟩ [_] (ac ++ (ad ++ (a ++ (e ++ (c ++ R))))) rfl (.refl _) ⟨ac, bI, bJ, ad, rfl, rfl, lr, ha, hb⟩ ?_
 rintro ⟨ce, aG⟩ jd bP _ _ fF ⟨S, a5, a6, G, rfl, rfl, aX, cf, cR⟩ ix he hd50032 hall50033
 refine c_mid [_] fF (S ++ (G ++ (a ++ (e ++ (c ++ R))))) ?_ rfl
 refine Cr ?_
 refine t_next [_] (S ++ (G ++ (a ++ (e ++ (c ++ R))))) rfl rfl rfl he (fun hnil50035 => ?_) (fun dX je jf jg K hperm50041 fG dY => ?_)
 have hend50044 := hd50032 hnil50035
 refine tS (st_extract rfl rfl)<|Te<|Cs<|c_cond_f rfl<|Ce<|Xe<|Xe<|Xo ?_
 rw [hend50044] at dn
 have hm := elimL dn
 have hm := (unc2E hm)
 refine Xm ?_
 obtain ⟨rfl, rfl⟩ := some2 hm
 exact jJ ⟨S, a5, a6, G, rfl, rfl, aX, cf, cR⟩
 obtain ⟨jh, bk, il⟩ := hall50033 _ _ hperm50041
 have bQ := bk
 unfold mGuideNetPoints_L49679 at bQ
 have hm := (unc2E bQ)
 refine tS (st_extract rfl rfl)<|Te<|Cs<|c_cond_t rfl<|Ck<|Xn<|Cb<|Cr ?_
 obtain ⟨ji, dZ, fH, cu, fI⟩ := MIx.entry Tryd.prog fG
 obtain ⟨_, rfl, ⟨_, _, rfl, rfl, rfl⟩⟩ := fH
 obtain rfl : dZ = bv dX.2 := by have cu : [dZ] = [bv dX.2] := cu; injection cu
 refine tS (fI (.cons _ (List.sublist_append_left _ _)) rfl)<|tS (st_extract rfl rfl)<|tD (uA [iv 0, iv 0] zero113 rfl) ?_
 rintro _ _ ⟨jj, rfl, rfl⟩
 refine tD (uN (vs := [_, _]) 0 2 rfl rfl rfl siz113 rfl (mc rfl (mc rfl mn)) rfl (by simp)) ?_
 rintro _ _ rfl
 refine Te ?_
 obtain ⟨⟨hf, hg, V, hh⟩, fJ, fK⟩ := bS hm
 refine Cj (fun cT e' hp' => ∃ cU, [(2, iv x9), (3, pb h), (9, .map (some o)), (10, sv a5 aG a6), (11, iv d.1), (13, iv 1), (16, pb cU), (39, pb A), (47, .agg #[.map (some q), .map (some s), .map (some t), .map (some y)]), (48, iv 1), (53, pb bw)] = e' ∧ (h, Cl 91 [sv A2 s1.Day.Trains c3, sv A5 s1.Day.Turns c6, iv s1.least]) :: (cU, Cl 83 [iv hf, iv hg, iv V, iv hh]) :: (S ++ (G ++ (a ++ (e ++ (c ++ (K ++ R)))))) = hp' ∧ bP.Le cT) ?_ ?_
 have hm := fJ
 obtain ⟨jk, hi, hm⟩ := bS hm
 obtain ⟨cg, hj, hm⟩ := bS hm
 refine Di mixed (.refl _)<|E0 0 rfl (sF rfl fld91_0)<|E0 1 rfl (sF rfl fld25_0)<|Es 2 rfl (sL 1 rfl one22 rfl rfl)<|E0 3 rfl (sF rfl fld113_0)<|Es 4 rfl (sL 0 rfl one3 rfl rfl) ?_
 obtain ⟨hk, fL, fM⟩ := iS hi
 obtain ⟨iD, fN, eE, dp, eG⟩ := FZ.get (sz := 4) rfl (by decide) (h4.le (C.trans (z.trans (ax.trans (ay.trans (az.trans (aA.trans aX))))))) fM
 obtain ⟨_, _, rfl, rfl, ⟨_, _, rfl, rfl, ⟨_, _, rfl, ⟨jl, jm, rfl, hl⟩, ⟨jn, jo, rfl, jp⟩⟩⟩⟩ := fN
 refine E0 5 rfl (sI hk rfl rfl fL eG dp sl22)<|E0 6 rfl (sQ rfl dp fld47_2)<|Es 7 rfl (sO rfl one45 (eE 2 _ rfl))<|E0 8 rfl (sF rfl fld113_1)<|Es 9 rfl (sL 0 rfl one3 rfl rfl) ?_
 obtain ⟨hn, fO, fP⟩ := iS hj
 obtain ⟨iE, fQ, eH, dq, eI⟩ := FZ.get (sz := 4) rfl (by decide) hl fP
 obtain ⟨_, _, rfl, rfl, ⟨_, _, rfl, rfl, ⟨_, _, rfl, rfl, rfl⟩⟩⟩ := fQ
 refine E0 10 rfl (sI hn rfl rfl fO eI dq sl45)<|Es 11 rfl (sP (vs := [iv cg.Station, iv cg.Track, iv cg.Arr, iv cg.Dep]) 4 rfl agg83 dq rfl (fun j u hu => eH j u hu))<|Eo<|Da [12] (by kernel_rfl) rfl ?_
 refine Rd2 lr rfl rfl (uA [iv 0, iv 0, iv 0, iv 0] zero83 rfl) ?_ ?_
 rintro _ _ ⟨hq, rfl, rfl⟩
 refine iR<|Da [13] (by kernel_rfl) rfl ?_
 refine Rd2 lr rfl rfl (uN (vs := [_, _, _, _]) 0 4 rfl rfl rfl siz83 rfl (mc rfl (mc rfl (mc rfl (mc rfl mn)))) rfl (by simp)) ?_ ?_
 rintro _ _ rfl
 refine ⟨.inl (by kernel_rfl), ?_⟩
 refine Dd (by kernel_rfl) ?_
 obtain ⟨rfl, rfl, rfl, rfl⟩ := some4 hm
 exact jJ ⟨hq, rfl, rfl, lr⟩
 exact Rn
 exact Rn
 rintro cT _ _ ⟨cU, rfl, rfl, af⟩
 have hm := (unc4E fK)
 refine Cr<|mV rfl<|tS (sF rfl fld83_2)<|tS (sL 1 rfl one3 rfl rfl)<|mV rfl ?_
 obtain ⟨_, cV, hm⟩ := bS hm
 have cV := (kS cV).2
 refine tS (sa rfl rfl cV)<|tS (sB (v := .agg #[iv d.1, iv V, iv (1 + 1)]) [(0, iv d.1), (1, iv V), (2, iv (1 + 1))] rfl (fun _ => by kernel_rfl))<|tD (uA [iv 0, iv 0, iv 0] zero42 rfl) ?_
 rintro _ _ ⟨d0, rfl, rfl⟩
 refine tD (uN (vs := [_, _, _]) 0 3 rfl rfl rfl siz42 rfl (mc rfl (mc rfl (mc rfl mn))) rfl (by simp)) ?_
 rintro _ _ rfl
 refine Te ?_
 obtain ⟨hr, fR, fS⟩ := bS hm
 refine Cj (fun d1 e' hp' => [(2, iv x9), (3, pb h), (9, .map (some o)), (10, sv a5 aG a6), (11, iv d.1), (13, iv 1), (17, pb d0), (39, pb A), (47, .agg #[.map (some q), .map (some s), .map (some t), .map (some y)]), (48, iv 1), (53, pb bw), (85, bv hr)] = e' ∧ (h, Cl 91 [sv A2 s1.Day.Trains c3, sv A5 s1.Day.Turns c6, iv s1.least]) :: (d0, Cl 42 [iv d.1, iv V, iv (1 + 1)]) :: (S ++ (G ++ (a ++ (e ++ (c ++ (K ++ R)))))) = hp' ∧ cT.Le d1) ?_ ?_
 have hm := fR
 refine Cg<|tS (sF rfl fld83_0)<|tS (sL 2 rfl one3 rfl rfl)<|mV rfl ?_
 refine Tb rfl (q1 rfl rfl) (fun cv => ?_) (fun cv => ?_)
 rw [if_pos cv] at hm
 refine mV rfl<|yS<|mV rfl<|yS<|tS (sD (vs := [_, _, _]) 0 3 rfl agg42 rfl rfl rfl)<|yS ?_
 obtain ⟨d5, hs, hm⟩ := bS hm
 have fT := Option.some.inj hs
 obtain ⟨d6, bR, fU⟩ := OM.lookF kok42 (z0 := false) (cf.le af) (key := .agg #[iv d.1, iv V, iv (1 + 1)]) (k := (⟨d.1, V, 1 + 1⟩ : GuidePoint)) ⟨[iv d.1, iv V, iv (1 + 1)], rfl, ⟨[iv d.1], _, rfl, rfl, ⟨[iv V], _, rfl, rfl, rfl⟩⟩⟩ mapt142 zero4 rfl
 rw [fT] at bR
 obtain rfl : d6 = bv d5 := by have bR : [d6] = [bv d5] := bR; injection bR
 refine tS (st_mlook (ok := false) rfl rfl (fun w ho => fU _ w ho (.cons _ (.cons _ (.cons _ (List.sublist_append_left _ _)))) false))<|yS<|tS (sn2 rfl)<|tS (pT rfl rfl)<|Tn ?_
 obtain rfl := o1 hm
 exact jJ ⟨rfl, rfl, lr⟩
 rw [if_neg cv] at hm
 refine mV rfl<|nO<|nO<|nO<|nO<|tS (pF rfl rfl)<|Tn ?_
 obtain rfl := o1 hm
 exact jJ ⟨rfl, rfl, lr⟩
 rintro d1 _ _ ⟨rfl, rfl, an⟩
 have hm := fS
 refine cB hm rfl (fun hm => ?_) fun hm => ?_
 refine Cr<|mV rfl<|tS (sD (vs := [_, _, _]) 1 3 rfl agg42 rfl rfl rfl)<|tD (u_mputF (k := (⟨d.1, V, 1 + 1⟩ : GuidePoint)) kok42 [_, _] [] (G ++ (a ++ (e ++ (c ++ (K ++ R))))) rfl (cf.le (af.trans an)) mapt142 rfl rfl rfl (⟨[iv d.1, iv V, iv (1 + 1)], rfl, ⟨[iv d.1], _, rfl, rfl, ⟨[iv V], _, rfl, rfl, rfl⟩⟩⟩) ⟨rfl, rfl⟩ _ (.inl rfl)) ?_
 rintro _ _ ⟨aB, rfl, im, ht⟩
 have hv := ht.prm (canB_perm (fun p => kGuidePoint p.1) _).symm
 refine Te<|Cg<|mV rfl<|tS (sD (vs := [_, _, _]) 1 3 rfl agg42 rfl rfl rfl)<|tD (u_bslice (el := 42) [(0, .agg #[iv d.1, iv V, iv (1 + 1)])] [iv d.1, iv V, iv (1 + 1)] rfl (fun _ => by kernel_rfl)) ?_
 rintro _ _ ⟨jq, rfl, rfl⟩
 obtain ⟨_, cW, hm⟩ := bS hm
 have cW := room_some cW
 refine t_front2 [_, _, _] aB G (a ++ (e ++ (c ++ (K ++ R)))) rfl<|tD (u_appP (r := rGuidePoint) (l := aG) kGuidePoint [_, _, _] (aB ++ (a ++ (e ++ (c ++ (K ++ R))))) [[iv d.1, iv V, iv (1 + 1)]] (⟨d.1, V, 1 + 1⟩ : GuidePoint) rfl (by decide) sl38 inf42 rfl rfl rfl rfl (cR.le (af.trans an)) rfl (fun w ho => Rd.own (i := 0) ho rfl) ⟨⟨[iv d.1], _, rfl, rfl, ⟨[iv V], _, rfl, rfl, rfl⟩⟩, trivial⟩ cW) ?_
 rintro _ _ ⟨aP, rfl, d7⟩
 obtain ⟨d8, d9, rfl⟩ := OSP.form d7
 refine aS rfl<|Tn<|Xm<|Xp 1 rfl<|X5 [_, _, _] aP aB a e c (K ++ R) rfl<|X5 [_, _, _] c aP aB a e (K ++ R) rfl<|X5 [_, _, _] e c aP aB a (K ++ R) rfl<|X4 [_, _, _] a e c aP (aB ++ (K ++ R)) rfl<|X5 [_, _, _] aP a e c aB (K ++ R) rfl<|X6 [_, _, _] aB aP a e c K R rfl ?_
 have eJ := (aX.trans (af.trans an))
 exact x_mapM (s' := (canB (fun p => kGuidePoint p.1) (mput ce (⟨d.1, V, 1 + 1⟩ : GuidePoint) true), insB kGuidePoint (⟨d.1, V, 1 + 1⟩ : GuidePoint) aG)) [_, _, _] (aB ++ (aP ++ (a ++ (e ++ (c ++ R))))) rfl hperm50041 (bk.trans (Option.some.inj hm ▸ rfl)) eJ (dY.le (af.trans an)) (e' := [(2, iv x9), (3, pb h), (9, .map (some o)), (10, .slice d8 (insB kGuidePoint (⟨d.1, V, 1 + 1⟩ : GuidePoint) aG).length d9), (11, iv d.1), (13, iv 1), (39, pb A), (47, .agg #[.map (some q), .map (some s), .map (some t), .map (some y)]), (48, iv 1), (53, pb bw)]) ⟨rfl, rfl, rfl, rfl, rfl, rfl, rfl, rfl, rfl, rfl, trivial⟩ (.cons_cons _ (.cons _ (.cons _ (.refl _)))) ⟨aB, d8, d9, aP, rfl, rfl, ((aX.trans (af.trans an))), hv, d7⟩
 refine Ck<|Xm<|X5 [_, _] S G a e c (K ++ R) rfl<|X5 [_, _] c S G a e (K ++ R) rfl<|X5 [_, _] e c S G a (K ++ R) rfl<|X5 [_, _] a e c S G (K ++ R) rfl<|X5 [_, _] G a e c S (K ++ R) rfl<|X6 [_, _] S G a e c K R rfl ?_
 have eK := (aX.trans (af.trans an))
 exact x_mapM (s' := (ce, aG)) [_, _] (S ++ (G ++ (a ++ (e ++ (c ++ R))))) rfl hperm50041 (bk.trans (Option.some.inj hm ▸ rfl)) eK (dY.le (af.trans an)) (e' := [(2, iv x9), (3, pb h), (9, .map (some o)), (10, sv a5 aG a6), (11, iv d.1), (13, iv 1), (39, pb A), (47, .agg #[.map (some q), .map (some s), .map (some t), .map (some y)]), (48, iv 1), (53, pb bw)]) ⟨rfl, rfl, rfl, rfl, rfl, rfl, rfl, rfl, rfl, rfl, trivial⟩ (.cons_cons _ (.cons _ (.refl _))) ⟨S, a5, a6, G, rfl, rfl, ((aX.trans (af.trans an))), (cf.le (af.trans an)), (cR.le (af.trans an))⟩
 rintro bu _ _ ⟨ak, bN, bO, al, rfl, rfl, aK, hw, hy⟩
 have hm := (unc2E fC)
 refine Cg ?_
 obtain ⟨_, cX, hm⟩ := bS hm
 have cX := (kS cX).2
 refine tS (sa rfl rfl cX)<|mV rfl<|Tn<|x_unroll<|Cr<|tS (lT rfl rfl (by omega))<|Te<|Cs<|c_cond_t rfl<|Ck ?_
 refine Xn ?_
 obtain ⟨⟨hz, ch⟩, fV, fW⟩ := bS hm
 refine Cj (fun bx e' hp' => ∃ av bT bU aw, [(2, iv x9), (3, pb h), (9, .map (some o)), (10, sv bT ch bU), (11, iv d.1), (39, pb A), (47, .agg #[.map (some q), .map (some s), .map (some t), .map (some y)]), (48, iv 2)] = e' ∧ (h, Cl 91 [sv A2 s1.Day.Trains c3, sv A5 s1.Day.Turns c6, iv s1.least]) :: (av ++ (aw ++ (a ++ (c ++ R)))) = hp' ∧ bu.Le bx ∧ OM rGuidePoint (OT.fr RT.bool) true false bx.w o hz av ∧ OSP 42 (OT.fr rGuidePoint) bx.w (sv bT ch bU) ch aw) ?_ ?_
 have hm := fV
 refine Cb<|Cr<|mV rfl<|tS (st_aidx1 (cs := [.map (some q), .map (some s), .map (some t), .map (some y)]) 2 rfl rfl rfl (by decide) rfl arr106 one105)<|aS rfl<|aS rfl<|Te<|Cr<|mV rfl<|t_front4 [_] ak al a e (c ++ R) rfl ?_
 refine tD (u_range [_] (ak ++ (al ++ (a ++ (c ++ R)))) rfl (gS.le (aA.trans aK)) mapt105 rfl) ?_
 rintro _ _ ⟨bz, bl, rfl, rfl, hA⟩
 refine Te<|Cb<|c_front5 [_] bl ak al a c R rfl<|c_front5 [_] c bl ak al a R rfl<|c_front5 [_] a c bl ak al R rfl<|c_front5 [_] al a c bl ak R rfl<|c_front5 [_] ak al a c bl R rfl ?_
 obtain ⟨jr, fX, dr⟩ := bS hm
 refine c_mapM (unc2 fun ci aH => fun bV e' hp' => ∃ Y a7 a8 L, [(2, iv x9), (3, pb h), (9, .map (some o)), (10, sv a7 aH a8), (11, iv d.1), (13, iv 2), (39, pb A), (47, .agg #[.map (some q), .map (some s), .map (some t), .map (some y)]), (48, iv 2), (53, pb bz)] = e' ∧ (h, Cl 91 [sv A2 s1.Day.Trains c3, sv A5 s1.Day.Turns c6, iv s1.least]) :: (Y ++ (L ++ (a ++ (c ++ R)))) = hp' ∧ bu.Le bV ∧ OM rGuidePoint (OT.fr RT.bool) true false bV.w o ci Y ∧ OSP 42 (OT.fr rGuidePoint) bV.w (sv a7 aH a8) aH L) fX hA (e' := [(2, iv x9), (3, pb h), (9, .map (some o)), (10, sv bN cd bO), (11, iv d.1), (13, iv 2), (39, pb A), (47, .agg #[.map (some q), .map (some s), .map (some t), .map (some y)]), (48, iv 2), (53, pb bz)]) ⟨rfl, rfl, rfl, rfl, rfl, rfl, rfl, rfl, rfl, rfl, trivial⟩ [_] (ak ++ (al ++ (a ++ (c ++ R)))) rfl (.refl _) ⟨ak, bN, bO, al, rfl, rfl, lr, hw, hy⟩ ?_
 rintro ⟨ci, aH⟩ js bV _ _ fY ⟨Y, a7, a8, L, rfl, rfl, aY, cj, cY⟩ iy hB hd51100 hall51101
 refine c_mid [_] fY (Y ++ (L ++ (a ++ (c ++ R)))) ?_ rfl
 refine Cr ?_
 refine t_next [_] (Y ++ (L ++ (a ++ (c ++ R)))) rfl rfl rfl hB (fun hnil51103 => ?_) (fun ea jt ju jv Z hperm51109 fZ eb => ?_)
 have hend51112 := hd51100 hnil51103
 refine tS (st_extract rfl rfl)<|Te<|Cs<|c_cond_f rfl<|Ce<|Xe<|Xe<|Xo ?_
 rw [hend51112] at dr
 have hm := elimL dr
 have hm := (unc2E hm)
 refine Xm ?_
 obtain ⟨rfl, rfl⟩ := some2 hm
 exact jJ ⟨Y, a7, a8, L, rfl, rfl, aY, cj, cY⟩
 obtain ⟨jw, bm, io⟩ := hall51101 _ _ hperm51109
 have bW := bm
 unfold mGuideNetPoints_L50747 at bW
 have hm := (unc2E bW)
 refine tS (st_extract rfl rfl)<|Te<|Cs<|c_cond_t rfl<|Ck<|Xn<|Cb<|Cr ?_
 obtain ⟨jx, ec, f0, cw, f1⟩ := MIx.entry Tryd.prog fZ
 obtain ⟨_, rfl, ⟨_, _, rfl, rfl, rfl⟩⟩ := f0
 obtain rfl : ec = bv ea.2 := by have cw : [ec] = [bv ea.2] := cw; injection cw
 refine tS (f1 (.cons _ (List.sublist_append_left _ _)) rfl)<|tS (st_extract rfl rfl)<|tD (uA [iv 0, iv 0] zero113 rfl) ?_
 rintro _ _ ⟨jy, rfl, rfl⟩
 refine tD (uN (vs := [_, _]) 0 2 rfl rfl rfl siz113 rfl (mc rfl (mc rfl mn)) rfl (by simp)) ?_
 rintro _ _ rfl
 refine Te ?_
 obtain ⟨⟨hC, hD, W, hE⟩, f2, f3⟩ := bS hm
 refine Cj (fun cZ e' hp' => ∃ c0, [(2, iv x9), (3, pb h), (9, .map (some o)), (10, sv a7 aH a8), (11, iv d.1), (13, iv 2), (16, pb c0), (39, pb A), (47, .agg #[.map (some q), .map (some s), .map (some t), .map (some y)]), (48, iv 2), (53, pb bz)] = e' ∧ (h, Cl 91 [sv A2 s1.Day.Trains c3, sv A5 s1.Day.Turns c6, iv s1.least]) :: (c0, Cl 83 [iv hC, iv hD, iv W, iv hE]) :: (Y ++ (L ++ (a ++ (c ++ (Z ++ R))))) = hp' ∧ bV.Le cZ) ?_ ?_
 have hm := f2
 obtain ⟨jz, hF, hm⟩ := bS hm
 obtain ⟨ck, hG, hm⟩ := bS hm
 refine Di mixed (.refl _)<|E0 0 rfl (sF rfl fld91_0)<|E0 1 rfl (sF rfl fld25_0)<|Es 2 rfl (sL 1 rfl one22 rfl rfl)<|E0 3 rfl (sF rfl fld113_0)<|Es 4 rfl (sL 0 rfl one3 rfl rfl) ?_
 obtain ⟨hH, f4, f5⟩ := iS hF
 obtain ⟨iF, f6, eL, ds, eM⟩ := FZ.get (sz := 4) rfl (by decide) (h4.le (C.trans (z.trans (ax.trans (ay.trans (az.trans (aA.trans (aK.trans aY)))))))) f5
 obtain ⟨_, _, rfl, rfl, ⟨_, _, rfl, rfl, ⟨_, _, rfl, ⟨jA, jB, rfl, hI⟩, ⟨jC, jD, rfl, jE⟩⟩⟩⟩ := f6
 refine E0 5 rfl (sI hH rfl rfl f4 eM ds sl22)<|E0 6 rfl (sQ rfl ds fld47_2)<|Es 7 rfl (sO rfl one45 (eL 2 _ rfl))<|E0 8 rfl (sF rfl fld113_1)<|Es 9 rfl (sL 0 rfl one3 rfl rfl) ?_
 obtain ⟨hJ, f7, f8⟩ := iS hG
 obtain ⟨iG, f9, eO, dt, eP⟩ := FZ.get (sz := 4) rfl (by decide) hI f8
 obtain ⟨_, _, rfl, rfl, ⟨_, _, rfl, rfl, ⟨_, _, rfl, rfl, rfl⟩⟩⟩ := f9
 refine E0 10 rfl (sI hJ rfl rfl f7 eP dt sl45)<|Es 11 rfl (sP (vs := [iv ck.Station, iv ck.Track, iv ck.Arr, iv ck.Dep]) 4 rfl agg83 dt rfl (fun j u hu => eO j u hu))<|Eo<|Da [12] (by kernel_rfl) rfl ?_
 refine Rd2 lr rfl rfl (uA [iv 0, iv 0, iv 0, iv 0] zero83 rfl) ?_ ?_
 rintro _ _ ⟨hK, rfl, rfl⟩
 refine iR<|Da [13] (by kernel_rfl) rfl ?_
 refine Rd2 lr rfl rfl (uN (vs := [_, _, _, _]) 0 4 rfl rfl rfl siz83 rfl (mc rfl (mc rfl (mc rfl (mc rfl mn)))) rfl (by simp)) ?_ ?_
 rintro _ _ rfl
 refine ⟨.inl (by kernel_rfl), ?_⟩
 refine Dd (by kernel_rfl) ?_
 obtain ⟨rfl, rfl, rfl, rfl⟩ := some4 hm
 exact jJ ⟨hK, rfl, rfl, lr⟩
 exact Rn
 exact Rn
 rintro cZ _ _ ⟨c0, rfl, rfl, ag⟩
 have hm := (unc4E f3)
 refine Cr<|mV rfl<|tS (sF rfl fld83_2)<|tS (sL 1 rfl one3 rfl rfl)<|mV rfl ?_
 obtain ⟨_, c1, hm⟩ := bS hm
 have c1 := (kS c1).2
 refine tS (sa rfl rfl c1)<|tS (sB (v := .agg #[iv d.1, iv W, iv (2 + 1)]) [(0, iv d.1), (1, iv W), (2, iv (2 + 1))] rfl (fun _ => by kernel_rfl))<|tD (uA [iv 0, iv 0, iv 0] zero42 rfl) ?_
 rintro _ _ ⟨ed, rfl, rfl⟩
 refine tD (uN (vs := [_, _, _]) 0 3 rfl rfl rfl siz42 rfl (mc rfl (mc rfl (mc rfl mn))) rfl (by simp)) ?_
 rintro _ _ rfl
 refine Te ?_
 obtain ⟨hL, ga, gb⟩ := bS hm
 refine Cj (fun ee e' hp' => [(2, iv x9), (3, pb h), (9, .map (some o)), (10, sv a7 aH a8), (11, iv d.1), (13, iv 2), (17, pb ed), (39, pb A), (47, .agg #[.map (some q), .map (some s), .map (some t), .map (some y)]), (48, iv 2), (53, pb bz), (85, bv hL)] = e' ∧ (h, Cl 91 [sv A2 s1.Day.Trains c3, sv A5 s1.Day.Turns c6, iv s1.least]) :: (ed, Cl 42 [iv d.1, iv W, iv (2 + 1)]) :: (Y ++ (L ++ (a ++ (c ++ (Z ++ R))))) = hp' ∧ cZ.Le ee) ?_ ?_
 have hm := ga
 refine Cg<|tS (sF rfl fld83_0)<|tS (sL 2 rfl one3 rfl rfl)<|mV rfl ?_
 refine Tb rfl (q1 rfl rfl) (fun cx => ?_) (fun cx => ?_)
 rw [if_pos cx] at hm
 refine mV rfl<|yS<|mV rfl<|yS<|tS (sD (vs := [_, _, _]) 0 3 rfl agg42 rfl rfl rfl)<|yS ?_
 obtain ⟨ef, hM, hm⟩ := bS hm
 have gc := Option.some.inj hM
 obtain ⟨eg, bX, gd⟩ := OM.lookF kok42 (z0 := false) (cj.le ag) (key := .agg #[iv d.1, iv W, iv (2 + 1)]) (k := (⟨d.1, W, 2 + 1⟩ : GuidePoint)) ⟨[iv d.1, iv W, iv (2 + 1)], rfl, ⟨[iv d.1], _, rfl, rfl, ⟨[iv W], _, rfl, rfl, rfl⟩⟩⟩ mapt142 zero4 rfl
 rw [gc] at bX
 obtain rfl : eg = bv ef := by have bX : [eg] = [bv ef] := bX; injection bX
 refine tS (st_mlook (ok := false) rfl rfl (fun w ho => gd _ w ho (.cons _ (.cons _ (.cons _ (List.sublist_append_left _ _)))) false))<|yS<|tS (sn2 rfl)<|tS (pT rfl rfl)<|Tn ?_
 obtain rfl := o1 hm
 exact jJ ⟨rfl, rfl, lr⟩
 rw [if_neg cx] at hm
 refine mV rfl<|nO<|nO<|nO<|nO<|tS (pF rfl rfl)<|Tn ?_
 obtain rfl := o1 hm
 exact jJ ⟨rfl, rfl, lr⟩
 rintro ee _ _ ⟨rfl, rfl, ao⟩
 have hm := gb
 refine cB hm rfl (fun hm => ?_) fun hm => ?_
 refine Cr<|mV rfl<|tS (sD (vs := [_, _, _]) 1 3 rfl agg42 rfl rfl rfl)<|tD (u_mputF (k := (⟨d.1, W, 2 + 1⟩ : GuidePoint)) kok42 [_, _] [] (L ++ (a ++ (c ++ (Z ++ R)))) rfl (cj.le (ag.trans ao)) mapt142 rfl rfl rfl (⟨[iv d.1, iv W, iv (2 + 1)], rfl, ⟨[iv d.1], _, rfl, rfl, ⟨[iv W], _, rfl, rfl, rfl⟩⟩⟩) ⟨rfl, rfl⟩ _ (.inl rfl)) ?_
 rintro _ _ ⟨aI, rfl, ip, hN⟩
 have hO := hN.prm (canB_perm (fun p => kGuidePoint p.1) _).symm
 refine Te<|Cg<|mV rfl<|tS (sD (vs := [_, _, _]) 1 3 rfl agg42 rfl rfl rfl)<|tD (u_bslice (el := 42) [(0, .agg #[iv d.1, iv W, iv (2 + 1)])] [iv d.1, iv W, iv (2 + 1)] rfl (fun _ => by kernel_rfl)) ?_
 rintro _ _ ⟨jF, rfl, rfl⟩
 obtain ⟨_, c2, hm⟩ := bS hm
 have c2 := room_some c2
 refine t_front2 [_, _, _] aI L (a ++ (c ++ (Z ++ R))) rfl<|tD (u_appP (r := rGuidePoint) (l := aH) kGuidePoint [_, _, _] (aI ++ (a ++ (c ++ (Z ++ R)))) [[iv d.1, iv W, iv (2 + 1)]] (⟨d.1, W, 2 + 1⟩ : GuidePoint) rfl (by decide) sl38 inf42 rfl rfl rfl rfl (cY.le (ag.trans ao)) rfl (fun w ho => Rd.own (i := 0) ho rfl) ⟨⟨[iv d.1], _, rfl, rfl, ⟨[iv W], _, rfl, rfl, rfl⟩⟩, trivial⟩ c2) ?_
 rintro _ _ ⟨a2, rfl, eh⟩
 obtain ⟨ei, ej, rfl⟩ := OSP.form eh
 refine aS rfl<|Tn<|Xm<|Xp 1 rfl<|X4 [_, _, _] a2 aI a c (Z ++ R) rfl<|X4 [_, _, _] c a2 aI a (Z ++ R) rfl<|X3 [_, _, _] a c a2 (aI ++ (Z ++ R)) rfl<|X4 [_, _, _] a2 a c aI (Z ++ R) rfl<|X5 [_, _, _] aI a2 a c Z R rfl ?_
 have eQ := (aY.trans (ag.trans ao))
 exact x_mapM (s' := (canB (fun p => kGuidePoint p.1) (mput ci (⟨d.1, W, 2 + 1⟩ : GuidePoint) true), insB kGuidePoint (⟨d.1, W, 2 + 1⟩ : GuidePoint) aH)) [_, _, _] (aI ++ (a2 ++ (a ++ (c ++ R)))) rfl hperm51109 (bm.trans (Option.some.inj hm ▸ rfl)) eQ (eb.le (ag.trans ao)) (e' := [(2, iv x9), (3, pb h), (9, .map (some o)), (10, .slice ei (insB kGuidePoint (⟨d.1, W, 2 + 1⟩ : GuidePoint) aH).length ej), (11, iv d.1), (13, iv 2), (39, pb A), (47, .agg #[.map (some q), .map (some s), .map (some t), .map (some y)]), (48, iv 2), (53, pb bz)]) ⟨rfl, rfl, rfl, rfl, rfl, rfl, rfl, rfl, rfl, rfl, trivial⟩ (.cons_cons _ (.cons _ (.cons _ (.refl _)))) ⟨aI, ei, ej, a2, rfl, rfl, ((aY.trans (ag.trans ao))), hO, eh⟩
 refine Ck<|Xm<|X4 [_, _] Y L a c (Z ++ R) rfl<|X4 [_, _] c Y L a (Z ++ R) rfl<|X4 [_, _] a c Y L (Z ++ R) rfl<|X4 [_, _] L a c Y (Z ++ R) rfl<|X5 [_, _] Y L a c Z R rfl ?_
 have eR := (aY.trans (ag.trans ao))
 exact x_mapM (s' := (ci, aH)) [_, _] (Y ++ (L ++ (a ++ (c ++ R)))) rfl hperm51109 (bm.trans (Option.some.inj hm ▸ rfl)) eR (eb.le (ag.trans ao)) (e' := [(2, iv x9), (3, pb h), (9, .map (some o)), (10, sv a7 aH a8), (11, iv d.1), (13, iv 2), (39, pb A), (47, .agg #[.map (some q), .map (some s), .map (some t), .map (some y)]), (48, iv 2), (53, pb bz)]) ⟨rfl, rfl, rfl, rfl, rfl, rfl, rfl, rfl, rfl, rfl, trivial⟩ (.cons_cons _ (.cons _ (.refl _))) ⟨Y, a7, a8, L, rfl, rfl, ((aY.trans (ag.trans ao))), (cj.le (ag.trans ao)), (cY.le (ag.trans ao))⟩
 rintro bx _ _ ⟨av, bT, bU, aw, rfl, rfl, bf, hP, hQ⟩
 have hm := (unc2E fW)
 refine Cg ?_
 obtain ⟨_, c4, hm⟩ := bS hm
 have c4 := (kS c4).2
 refine tS (sa rfl rfl c4)<|mV rfl<|Tn<|x_unroll<|Cr<|tS (lT rfl rfl (by omega))<|Te<|Cs<|c_cond_t rfl<|Ck ?_
 refine Xn ?_
 obtain ⟨⟨ek, bY⟩, ge, gf⟩ := bS hm
 refine Cj (fun cl e' hp' => ∃ aQ bZ b0 aR, [(2, iv x9), (3, pb h), (9, .map (some o)), (10, sv bZ bY b0), (11, iv d.1), (39, pb A), (47, .agg #[.map (some q), .map (some s), .map (some t), .map (some y)]), (48, iv 3)] = e' ∧ (h, Cl 91 [sv A2 s1.Day.Trains c3, sv A5 s1.Day.Turns c6, iv s1.least]) :: (aQ ++ (aR ++ (a ++ R))) = hp' ∧ bx.Le cl ∧ OM rGuidePoint (OT.fr RT.bool) true false cl.w o ek aQ ∧ OSP 42 (OT.fr rGuidePoint) cl.w (sv bZ bY b0) bY aR) ?_ ?_
 have hm := ge
 refine Cb<|Cr<|mV rfl<|tS (st_aidx1 (cs := [.map (some q), .map (some s), .map (some t), .map (some y)]) 3 rfl rfl rfl (by decide) rfl arr106 one105)<|aS rfl<|aS rfl<|Te<|Cr<|mV rfl<|t_front4 [_] av aw a c R rfl ?_
 refine tD (u_range [_] (av ++ (aw ++ (a ++ R))) rfl (gT.le (aA.trans (aK.trans bf))) mapt105 rfl) ?_
 rintro _ _ ⟨bA, b1, rfl, rfl, hR⟩
 refine Te<|Cb<|c_front4 [_] b1 av aw a R rfl<|c_front4 [_] a b1 av aw R rfl<|c_front4 [_] aw a b1 av R rfl<|c_front4 [_] av aw a b1 R rfl ?_
 obtain ⟨jG, gg, du⟩ := bS hm
 refine c_mapM (unc2 fun cm aJ => fun b2 e' hp' => ∃ ab a9 ba T, [(2, iv x9), (3, pb h), (9, .map (some o)), (10, sv a9 aJ ba), (11, iv d.1), (13, iv 3), (39, pb A), (47, .agg #[.map (some q), .map (some s), .map (some t), .map (some y)]), (48, iv 3), (53, pb bA)] = e' ∧ (h, Cl 91 [sv A2 s1.Day.Trains c3, sv A5 s1.Day.Turns c6, iv s1.least]) :: (ab ++ (T ++ (a ++ R))) = hp' ∧ bx.Le b2 ∧ OM rGuidePoint (OT.fr RT.bool) true false b2.w o cm ab ∧ OSP 42 (OT.fr rGuidePoint) b2.w (sv a9 aJ ba) aJ T) gg hR (e' := [(2, iv x9), (3, pb h), (9, .map (some o)), (10, sv bT ch bU), (11, iv d.1), (13, iv 3), (39, pb A), (47, .agg #[.map (some q), .map (some s), .map (some t), .map (some y)]), (48, iv 3), (53, pb bA)]) ⟨rfl, rfl, rfl, rfl, rfl, rfl, rfl, rfl, rfl, rfl, trivial⟩ [_] (av ++ (aw ++ (a ++ R))) rfl (.refl _) ⟨av, bT, bU, aw, rfl, rfl, lr, hP, hQ⟩ ?_
 rintro ⟨cm, aJ⟩ jH b2 _ _ gh ⟨ab, a9, ba, T, rfl, rfl, aZ, cn, c5⟩ iz hS hd52168 hall52169
 refine c_mid [_] gh (ab ++ (T ++ (a ++ R))) ?_ rfl
 refine Cr ?_
 refine t_next [_] (ab ++ (T ++ (a ++ R))) rfl rfl rfl hS (fun hnil52171 => ?_) (fun em jI jK jL ah hperm52177 gi en => ?_)
 have hend52180 := hd52168 hnil52171
 refine tS (st_extract rfl rfl)<|Te<|Cs<|c_cond_f rfl<|Ce<|Xe<|Xe<|Xo ?_
 rw [hend52180] at du
 have hm := elimL du
 have hm := (unc2E hm)
 refine Xm ?_
 obtain ⟨rfl, rfl⟩ := some2 hm
 exact jJ ⟨ab, a9, ba, T, rfl, rfl, aZ, cn, c5⟩
 obtain ⟨jN, bn, iq⟩ := hall52169 _ _ hperm52177
 have b3 := bn
 unfold mGuideNetPoints_L51815 at b3
 have hm := (unc2E b3)
 refine tS (st_extract rfl rfl)<|Te<|Cs<|c_cond_t rfl<|Ck<|Xn<|Cb<|Cr ?_
 obtain ⟨jO, eo, gj, cy, gk⟩ := MIx.entry Tryd.prog gi
 obtain ⟨_, rfl, ⟨_, _, rfl, rfl, rfl⟩⟩ := gj
 obtain rfl : eo = bv em.2 := by have cy : [eo] = [bv em.2] := cy; injection cy
 refine tS (gk (.cons _ (List.sublist_append_left _ _)) rfl)<|tS (st_extract rfl rfl)<|tD (uA [iv 0, iv 0] zero113 rfl) ?_
 rintro _ _ ⟨jP, rfl, rfl⟩
 refine tD (uN (vs := [_, _]) 0 2 rfl rfl rfl siz113 rfl (mc rfl (mc rfl mn)) rfl (by simp)) ?_
 rintro _ _ rfl
 refine Te ?_
 obtain ⟨⟨hT, hU, X, hV⟩, gl, gm⟩ := bS hm
 refine Cj (fun c7 e' hp' => ∃ c8, [(2, iv x9), (3, pb h), (9, .map (some o)), (10, sv a9 aJ ba), (11, iv d.1), (13, iv 3), (16, pb c8), (39, pb A), (47, .agg #[.map (some q), .map (some s), .map (some t), .map (some y)]), (48, iv 3), (53, pb bA)] = e' ∧ (h, Cl 91 [sv A2 s1.Day.Trains c3, sv A5 s1.Day.Turns c6, iv s1.least]) :: (c8, Cl 83 [iv hT, iv hU, iv X, iv hV]) :: (ab ++ (T ++ (a ++ (ah ++ R)))) = hp' ∧ b2.Le c7) ?_ ?_
 have hm := gl
 obtain ⟨jQ, hW, hm⟩ := bS hm
 obtain ⟨co, hX, hm⟩ := bS hm
 refine Di mixed (.refl _)<|E0 0 rfl (sF rfl fld91_0)<|E0 1 rfl (sF rfl fld25_0)<|Es 2 rfl (sL 1 rfl one22 rfl rfl)<|E0 3 rfl (sF rfl fld113_0)<|Es 4 rfl (sL 0 rfl one3 rfl rfl) ?_
 obtain ⟨hY, gn, go⟩ := iS hW
 obtain ⟨iH, gp, eS, dv, eU⟩ := FZ.get (sz := 4) rfl (by decide) (h4.le (C.trans (z.trans (ax.trans (ay.trans (az.trans (aA.trans (aK.trans (bf.trans aZ))))))))) go
 obtain ⟨_, _, rfl, rfl, ⟨_, _, rfl, rfl, ⟨_, _, rfl, ⟨jR, jT, rfl, hZ⟩, ⟨jU, jV, rfl, jW⟩⟩⟩⟩ := gp
 refine E0 5 rfl (sI hY rfl rfl gn eU dv sl22)<|E0 6 rfl (sQ rfl dv fld47_2)<|Es 7 rfl (sO rfl one45 (eS 2 _ rfl))<|E0 8 rfl (sF rfl fld113_1)<|Es 9 rfl (sL 0 rfl one3 rfl rfl) ?_
 obtain ⟨h0, gq, gr⟩ := iS hX
 obtain ⟨iI, gs, eV, dw, eW⟩ := FZ.get (sz := 4) rfl (by decide) hZ gr
 obtain ⟨_, _, rfl, rfl, ⟨_, _, rfl, rfl, ⟨_, _, rfl, rfl, rfl⟩⟩⟩ := gs
 refine E0 10 rfl (sI h0 rfl rfl gq eW dw sl45)<|Es 11 rfl (sP (vs := [iv co.Station, iv co.Track, iv co.Arr, iv co.Dep]) 4 rfl agg83 dw rfl (fun j u hu => eV j u hu))<|Eo<|Da [12] (by kernel_rfl) rfl ?_
 refine Rd2 lr rfl rfl (uA [iv 0, iv 0, iv 0, iv 0] zero83 rfl) ?_ ?_
 rintro _ _ ⟨h1, rfl, rfl⟩
 refine iR<|Da [13] (by kernel_rfl) rfl ?_
 refine Rd2 lr rfl rfl (uN (vs := [_, _, _, _]) 0 4 rfl rfl rfl siz83 rfl (mc rfl (mc rfl (mc rfl (mc rfl mn)))) rfl (by simp)) ?_ ?_
 rintro _ _ rfl
 refine ⟨.inl (by kernel_rfl), ?_⟩
 refine Dd (by kernel_rfl) ?_
 obtain ⟨rfl, rfl, rfl, rfl⟩ := some4 hm
 exact jJ ⟨h1, rfl, rfl, lr⟩
 exact Rn
 exact Rn
 rintro c7 _ _ ⟨c8, rfl, rfl, ai⟩
 have hm := (unc4E gm)
 refine Cr<|mV rfl<|tS (sF rfl fld83_2)<|tS (sL 1 rfl one3 rfl rfl)<|mV rfl ?_
 obtain ⟨_, c9, hm⟩ := bS hm
 have c9 := (kS c9).2
 refine tS (sa rfl rfl c9)<|tS (sB (v := .agg #[iv d.1, iv X, iv (3 + 1)]) [(0, iv d.1), (1, iv X), (2, iv (3 + 1))] rfl (fun _ => by kernel_rfl))<|tD (uA [iv 0, iv 0, iv 0] zero42 rfl) ?_
 rintro _ _ ⟨ep, rfl, rfl⟩
 refine tD (uN (vs := [_, _, _]) 0 3 rfl rfl rfl siz42 rfl (mc rfl (mc rfl (mc rfl mn))) rfl (by simp)) ?_
 rintro _ _ rfl
 refine Te ?_
 obtain ⟨h2, gt, gu⟩ := bS hm
 refine Cj (fun eq e' hp' => [(2, iv x9), (3, pb h), (9, .map (some o)), (10, sv a9 aJ ba), (11, iv d.1), (13, iv 3), (17, pb ep), (39, pb A), (47, .agg #[.map (some q), .map (some s), .map (some t), .map (some y)]), (48, iv 3), (53, pb bA), (85, bv h2)] = e' ∧ (h, Cl 91 [sv A2 s1.Day.Trains c3, sv A5 s1.Day.Turns c6, iv s1.least]) :: (ep, Cl 42 [iv d.1, iv X, iv (3 + 1)]) :: (ab ++ (T ++ (a ++ (ah ++ R)))) = hp' ∧ c7.Le eq) ?_ ?_
 have hm := gt
 refine Cg<|tS (sF rfl fld83_0)<|tS (sL 2 rfl one3 rfl rfl)<|mV rfl ?_
 refine Tb rfl (q1 rfl rfl) (fun cz => ?_) (fun cz => ?_)
 rw [if_pos cz] at hm
 refine mV rfl<|yS<|mV rfl<|yS<|tS (sD (vs := [_, _, _]) 0 3 rfl agg42 rfl rfl rfl)<|yS ?_
 obtain ⟨er, h3, hm⟩ := bS hm
 have gv := Option.some.inj h3
 obtain ⟨es, b4, gw⟩ := OM.lookF kok42 (z0 := false) (cn.le ai) (key := .agg #[iv d.1, iv X, iv (3 + 1)]) (k := (⟨d.1, X, 3 + 1⟩ : GuidePoint)) ⟨[iv d.1, iv X, iv (3 + 1)], rfl, ⟨[iv d.1], _, rfl, rfl, ⟨[iv X], _, rfl, rfl, rfl⟩⟩⟩ mapt142 zero4 rfl
 rw [gv] at b4
 obtain rfl : es = bv er := by have b4 : [es] = [bv er] := b4; injection b4
 refine tS (st_mlook (ok := false) rfl rfl (fun w ho => gw _ w ho (.cons _ (.cons _ (.cons _ (List.sublist_append_left _ _)))) false))<|yS<|tS (sn2 rfl)<|tS (pT rfl rfl)<|Tn ?_
 obtain rfl := o1 hm
 exact jJ ⟨rfl, rfl, lr⟩
 rw [if_neg cz] at hm
 refine mV rfl<|nO<|nO<|nO<|nO<|tS (pF rfl rfl)<|Tn ?_
 obtain rfl := o1 hm
 exact jJ ⟨rfl, rfl, lr⟩
 rintro eq _ _ ⟨rfl, rfl, aq⟩
 have hm := gu
 refine cB hm rfl (fun hm => ?_) fun hm => ?_
 refine Cr<|mV rfl<|tS (sD (vs := [_, _, _]) 1 3 rfl agg42 rfl rfl rfl)<|tD (u_mputF (k := (⟨d.1, X, 3 + 1⟩ : GuidePoint)) kok42 [_, _] [] (T ++ (a ++ (ah ++ R))) rfl (cn.le (ai.trans aq)) mapt142 rfl rfl rfl (⟨[iv d.1, iv X, iv (3 + 1)], rfl, ⟨[iv d.1], _, rfl, rfl, ⟨[iv X], _, rfl, rfl, rfl⟩⟩⟩) ⟨rfl, rfl⟩ _ (.inl rfl)) ?_
 rintro _ _ ⟨aT, rfl, ir, h5⟩
 have h6 := h5.prm (canB_perm (fun p => kGuidePoint p.1) _).symm
 refine Te<|Cg<|mV rfl<|tS (sD (vs := [_, _, _]) 1 3 rfl agg42 rfl rfl rfl)<|tD (u_bslice (el := 42) [(0, .agg #[iv d.1, iv X, iv (3 + 1)])] [iv d.1, iv X, iv (3 + 1)] rfl (fun _ => by kernel_rfl)) ?_
 rintro _ _ ⟨jX, rfl, rfl⟩
 obtain ⟨_, da, hm⟩ := bS hm
 have da := room_some da
 refine t_front2 [_, _, _] aT T (a ++ (ah ++ R)) rfl<|tD (u_appP (r := rGuidePoint) (l := aJ) kGuidePoint [_, _, _] (aT ++ (a ++ (ah ++ R))) [[iv d.1, iv X, iv (3 + 1)]] (⟨d.1, X, 3 + 1⟩ : GuidePoint) rfl (by decide) sl38 inf42 rfl rfl rfl rfl (c5.le (ai.trans aq)) rfl (fun w ho => Rd.own (i := 0) ho rfl) ⟨⟨[iv d.1], _, rfl, rfl, ⟨[iv X], _, rfl, rfl, rfl⟩⟩, trivial⟩ da) ?_
 rintro _ _ ⟨bg, rfl, et⟩
 obtain ⟨eu, ev, rfl⟩ := OSP.form et
 refine aS rfl<|Tn<|Xm<|Xp 1 rfl<|X3 [_, _, _] bg aT a (ah ++ R) rfl<|X2 [_, _, _] a bg (aT ++ (ah ++ R)) rfl<|X3 [_, _, _] bg a aT (ah ++ R) rfl<|X4 [_, _, _] aT bg a ah R rfl ?_
 have eX := (aZ.trans (ai.trans aq))
 exact x_mapM (s' := (canB (fun p => kGuidePoint p.1) (mput cm (⟨d.1, X, 3 + 1⟩ : GuidePoint) true), insB kGuidePoint (⟨d.1, X, 3 + 1⟩ : GuidePoint) aJ)) [_, _, _] (aT ++ (bg ++ (a ++ R))) rfl hperm52177 (bn.trans (Option.some.inj hm ▸ rfl)) eX (en.le (ai.trans aq)) (e' := [(2, iv x9), (3, pb h), (9, .map (some o)), (10, .slice eu (insB kGuidePoint (⟨d.1, X, 3 + 1⟩ : GuidePoint) aJ).length ev), (11, iv d.1), (13, iv 3), (39, pb A), (47, .agg #[.map (some q), .map (some s), .map (some t), .map (some y)]), (48, iv 3), (53, pb bA)]) ⟨rfl, rfl, rfl, rfl, rfl, rfl, rfl, rfl, rfl, rfl, trivial⟩ (.cons_cons _ (.cons _ (.cons _ (.refl _)))) ⟨aT, eu, ev, bg, rfl, rfl, ((aZ.trans (ai.trans aq))), h6, et⟩
 refine Ck<|Xm<|X3 [_, _] ab T a (ah ++ R) rfl<|X3 [_, _] a ab T (ah ++ R) rfl<|X3 [_, _] T a ab (ah ++ R) rfl<|X4 [_, _] ab T a ah R rfl ?_
 have eY := (aZ.trans (ai.trans aq))
 exact x_mapM (s' := (cm, aJ)) [_, _] (ab ++ (T ++ (a ++ R))) rfl hperm52177 (bn.trans (Option.some.inj hm ▸ rfl)) eY (en.le (ai.trans aq)) (e' := [(2, iv x9), (3, pb h), (9, .map (some o)), (10, sv a9 aJ ba), (11, iv d.1), (13, iv 3), (39, pb A), (47, .agg #[.map (some q), .map (some s), .map (some t), .map (some y)]), (48, iv 3), (53, pb bA)]) ⟨rfl, rfl, rfl, rfl, rfl, rfl, rfl, rfl, rfl, rfl, trivial⟩ (.cons_cons _ (.cons _ (.refl _))) ⟨ab, a9, ba, T, rfl, rfl, ((aZ.trans (ai.trans aq))), (cn.le (ai.trans aq)), (c5.le (ai.trans aq))⟩
 rintro cl _ _ ⟨aQ, bZ, b0, aR, rfl, rfl, b5, h8, h9⟩
 have hm := (unc2E gf)
 refine Cg ?_
 obtain ⟨_, db, hm⟩ := bS hm
 have db := (kS db).2
 refine tS (sa rfl rfl db)<|mV rfl<|Tn<|x_unroll<|Cr<|tS (lF rfl rfl (by omega))<|Te<|Cs<|c_cond_f rfl<|Ce ?_
 refine Xe<|Xe<|Xo<|Xm<|X2 [_] aQ aR (a ++ R) rfl<|X2 [_] aR aQ (a ++ R) rfl<|X3 [_] aQ aR a R rfl ?_
 have e0 := (ay.trans (az.trans (aA.trans (aK.trans (bf.trans b5)))))
 exact x_mapM (s' := (ek, bY)) [_] (aQ ++ (aR ++ R)) rfl hperm48033 (b6.trans (Option.some.inj hm ▸ rfl)) e0 (gJ.le (az.trans (aA.trans (aK.trans (bf.trans b5))))) (e' := [(2, iv x9), (3, pb h), (9, .map (some o)), (10, sv bZ bY b0), (39, pb A)]) ⟨rfl, rfl, rfl, rfl, rfl, trivial⟩ (.refl _) ⟨aQ, bZ, b0, aR, rfl, rfl, ((ay.trans (az.trans (aA.trans (aK.trans (bf.trans b5)))))), h8, h9⟩
 rintro cG _ _ ⟨aU, aV, bi, rfl, rfl, e1, ia⟩
 have hm := e9
 refine Cr<|mV rfl ?_
 obtain ⟨cp, hp52342, dx, ib⟩ := OSP.ex ia
 have hm := ordM_some hm cp hp52342
 refine Tr 10 rfl (v' := sv aU cp aV) (by show Value.slice _ _ _ = Value.slice _ _ _; rw [dx])<|Tr 93 rfl (v' := sv aU cp aV) (by show Value.slice _ _ _ = Value.slice _ _ _; rw [dx]) ?_
 obtain ⟨dc, e2, hm⟩ := bS hm
 refine t_out1 [] [] bi R rfl<|Tg _ rfl call75 rfl (cSlicesSortFunc _ _ cp aU aV bi ib dc e2) ?_
 rintro _ jY _ e3 ⟨dy, rfl, rfl, ic, id⟩
 refine t_in1 [] [] dy R rfl<|Tr 10 rfl (v' := sv aU dc aV) (by show Value.slice _ _ _ = Value.slice _ _ _; rw [id])<|Te<|Cr<|mV rfl<|aS rfl<|Te<|Ct ?_
 have ie := OSP.canon kGuidePoint ic
 refine x_resp 6 rfl (v' := .slice aU (canB kGuidePoint dc).length aV) (by rw [canB_length]) ?_
 obtain rfl := o1 hm
 exact rO ⟨aU, aV, dy, rfl, rfl, ie⟩ (C.trans (z.trans (e1.trans e3)))

set_option maxRecDepth 20000 in
theorem cGuideNetEarliest_1 (b : Base) (R : Hp) (a : GuidePoint) (c d e) (hm : mGuideNetEarliest_1 a c = some e):
    CallsG Tryd.prog 72 [.agg #[iv a.Dep, iv a.Arr, iv a.Rides], pb d] b ((d, Cl 3 [iv c]) :: R) (fun v b' hp' => bv e = v ∧ (d, Cl 3 [iv c]) :: R = hp') := by
 refine fE 8 Tryd.func72 rfl Tryd.ntmps72 rfl ?_
 unfold mGuideNetEarliest_1 at hm
 refine Cr<|tD (uB _ rfl rfl) ?_
 rintro _ _ ⟨f, rfl, rfl⟩
 refine aS rfl<|Te<|Cr<|tS (sF rfl fld42_0)<|tS (sL 0 rfl one3 rfl rfl)<|tS (sL 1 rfl one3 rfl rfl)<|tS (q3 rfl rfl)<|aS rfl<|Te<|Ct ?_
 obtain rfl := o1 hm
 exact rO ⟨rfl, rfl⟩ lr

set_option maxRecDepth 20000 in
theorem cSlicesIndexFunc (b : Base) (R : Hp) (s m n F G h) (O : OS 42 (OT.fr rGuidePoint) b.w (sv F m G) m h) (t) (hm : mSlicesIndexFunc s m = some t):
    CallsG Tryd.prog 74 [sv F m G, .func (.func 72) #[] #[pb n]] b ((n, Cl 3 [iv s]) :: (h ++ R)) (fun v b' hp' => iv t = v ∧ (n, Cl 3 [iv s]) :: (h ++ R) = hp') := by
 refine fE 19 Tryd.func74 rfl Tryd.ntmps74 rfl ?_
 unfold mSlicesIndexFunc at hm
 refine Cr<|aS rfl<|Te<|Cs<|Cr<|mV rfl<|tS (sE rfl sl38)<|mV rfl<|Te<|Cb ?_
 have S : m.length ≤ 9223372036854775807 := (OS.len O)
 obtain ⟨Y, x, e⟩ := bS hm
 refine lF (fun y => fun _ => fun o e' hp' => [(0, sv F m G), (1, .func (.func 72) #[] #[pb n]), (7, iv ((m.length : Int))), (8, iv ((y : Int)))] = e' ∧ (n, Cl 3 [iv s]) :: (h ++ R) = hp' ∧ b.Le o) x ⟨rfl, rfl, lr⟩ ?_ ?_
 rintro y _ o _ _ T D ⟨rfl, rfl, a⟩ c g
 unfold mSlicesIndexFunc_L62 at c
 have hm := c
 refine Cr<|tS (lT rfl rfl (by omega))<|Te<|Cs<|c_cond_t rfl<|Ck<|Xn<|Cs<|Cb<|Cr ?_
 refine mV rfl<|aS rfl<|Te<|Cr<|mV rfl<|mV rfl<|mV rfl ?_
 obtain ⟨d, H, hm⟩ := bS hm
 obtain ⟨I, z, A⟩ := iS H
 obtain ⟨U, J, V, W, K, B, p, l, i, L, E⟩ := OS.get (sz := 3) rfl (by decide) (O.le a) A
 obtain ⟨⟨_, _, rfl, rfl, ⟨_, _, rfl, rfl, rfl⟩⟩, rfl⟩ := B
 refine tS (sI I rfl rfl z i l sl38)<|tS (st_loadN_rd (vs := [iv d.Dep, iv d.Arr, iv d.Rides]) 3 rfl agg42 l rfl (fun w ho j u hu => p w _ ho (.cons _ (List.sublist_append_left _ _)) j u hu)) ?_
 obtain ⟨C, k, hm⟩ := bS hm
 refine Tv #[] #[pb n] [.agg #[iv d.Dep, iv d.Arr, iv d.Rides]] rfl rfl call72 rfl (cGuideNetEarliest_1 _ _ d s n C k) ?_
 rintro _ X _ f ⟨rfl, rfl⟩
 refine Te ?_
 refine cB hm rfl (fun hm => ?_) fun hm => ?_
 refine Cr<|mV rfl<|aS rfl<|Te<|Ct<|Xb<|Xr<|Xr<|Xb<|Xr ?_
 have q := g _ (Option.some.inj hm).symm
 rw [q] at e
 have hm := elimR e
 obtain rfl := o1 hm
 exact rO ⟨rfl, rfl⟩ (a.trans f)
 refine Ck<|Xm<|Xn<|Cg<|tS (sa rfl rfl (by omega))<|mV rfl<|Tn ?_
 exact jM hm ⟨rfl, rfl, ((a.trans f))⟩
 rintro _ o _ _ ⟨rfl, rfl, a⟩ r
 rw [r] at e
 have hm := elimL e
 refine Cr<|tS (lF rfl rfl (by omega))<|Te<|Cs<|c_cond_f rfl<|Ce<|Xe<|Xe<|Xo<|Xn ?_
 refine Cr<|aS rfl<|Te<|Ct ?_
 obtain rfl := o1 hm
 exact rO ⟨rfl, rfl⟩ a

set_option maxRecDepth 20000 in
theorem cSlicesDeleteFunc (b : Base) (R : Hp) (x7 l8 Z X E s) (h5 : OS 42 (OT.fr rGuidePoint) b.w (sv X l8 E) l8 s) (F) (hm : mSlicesDeleteFunc x7 l8 = some F):
    CallsG Tryd.prog 38 [sv X l8 E, .func (.func 72) #[] #[pb Z]] b ((Z, Cl 3 [iv x7]) :: (s ++ R)) (fun v b' hp' => ∃ aC aD aa, sv aC F aD = v ∧ (Z, Cl 3 [iv x7]) :: (aa ++ R) = hp' ∧ OS 42 (OT.fr rGuidePoint) b'.w (sv aC F aD) F aa) := by
 refine fE 42 Tryd.func38 rfl Tryd.ntmps38 rfl ?_
 unfold mSlicesDeleteFunc at hm
 refine Cr<|aS rfl<|Te<|Cr<|mV rfl<|mV rfl ?_
 obtain ⟨aZ, al, hm⟩ := bS hm
 refine t_out1 [_] [] s R rfl<|Tg _ rfl call74 rfl (cSlicesIndexFunc _ _ x7 l8 Z X E s h5 aZ al) ?_
 rintro _ aE _ g ⟨rfl, rfl⟩
 refine t_in1 [_] [] s R rfl<|aS rfl<|Te<|Cs<|Cr<|mV rfl<|tS (q1 rfl rfl)<|Te ?_
 refine cI hm rfl (fun hm => ?_) fun hm => ?_
 refine Cr<|mV rfl<|aS rfl<|Te<|Ct<|Xr ?_
 obtain rfl := o1 hm
 have aG := (h5.le g)
 exact rO ⟨X, E, s, rfl, rfl, aG⟩ g
 refine Ck<|Xn ?_
 obtain ⟨⟨G, f⟩, aH, aI⟩ := bS hm
 refine Cj (fun ab e' hp' => ∃ t, [(0, sv X f E), (5, iv G)] = e' ∧ (Z, Cl 3 [iv x7]) :: (t ++ R) = hp' ∧ aE.Le ab ∧ OS 42 (OT.fr rGuidePoint) ab.w (sv X f E) f t ∧ f.length = l8.length) ?_ ?_
 have hm := aH
 refine Cr<|mV rfl ?_
 obtain ⟨_, ac, hm⟩ := bS hm
 have ac := (kS ac).2
 refine tS (sa rfl rfl ac)<|aS rfl<|Te<|Cb<|lL (unc3 fun x y e => fun o e' hp' => ∃ d, [(0, sv X e E), (1, .func (.func 72) #[] #[pb Z]), (5, iv x), (6, iv y)] = e' ∧ (Z, Cl 3 [iv x7]) :: (d ++ R) = hp' ∧ aE.Le o ∧ OS 42 (OT.fr rGuidePoint) o.w (sv X e E) e d ∧ e.length = l8.length) hm ⟨s, rfl, rfl, lr, (h5.le g), rfl⟩ ?_
 rintro ⟨x, y, e⟩ o _ _ be ⟨d, rfl, rfl, q, k, m⟩ n Y
 unfold mSlicesDeleteFunc_L962 at n
 have hm := (unc3E n)
 refine Cs<|Cr<|mV rfl<|mV rfl<|tS (sE rfl sl38)<|tS (q3 rfl rfl)<|Te ?_
 refine cI hm rfl (fun hm => ?_) fun hm => ?_
 refine Ck<|Xn ?_
 obtain ⟨⟨aJ, p⟩, am, an⟩ := bS hm
 refine Cj (fun z e' hp' => ∃ h, [(0, sv X p E), (1, .func (.func 72) #[] #[pb Z]), (5, iv aJ), (6, iv y)] = e' ∧ (Z, Cl 3 [iv x7]) :: (h ++ R) = hp' ∧ o.Le z ∧ OS 42 (OT.fr rGuidePoint) z.w (sv X p E) p h ∧ p.length = l8.length) ?_ ?_
 have hm := am
 refine Cb<|Cr<|mV rfl<|mV rfl ?_
 obtain ⟨a, aK, hm⟩ := bS hm
 obtain ⟨aL, ao, aq⟩ := iS aK
 obtain ⟨a3, a4, bf, bg, a5, ar, ad, H, ae, a6, a0⟩ := OS.get (sz := 3) rfl (by decide) k aq
 obtain ⟨⟨_, _, rfl, rfl, ⟨_, _, rfl, rfl, rfl⟩⟩, rfl⟩ := ar
 refine tS (sI aL rfl rfl ao ae H sl38)<|tS (st_loadN_rd (vs := [iv a.Dep, iv a.Arr, iv a.Rides]) 3 rfl agg42 H rfl (fun w ho j u hu => ad w _ ho (.cons _ (List.sublist_append_left _ _)) j u hu))<|tD (uA [iv 0, iv 0, iv 0] zero42 rfl) ?_
 rintro _ _ ⟨bh, rfl, rfl⟩
 refine tD (uN (vs := [_, _, _]) 0 3 rfl rfl rfl siz42 rfl (mc rfl (mc rfl (mc rfl mn))) rfl (by simp)) ?_
 rintro _ _ rfl
 refine Te<|Cr<|mV rfl<|tS (sD (vs := [_, _, _]) 0 3 rfl agg42 rfl rfl rfl) ?_
 obtain ⟨aM, af, hm⟩ := bS hm
 refine t_pullb 1 rfl<|Tv #[] #[pb Z] [.agg #[iv a.Dep, iv a.Arr, iv a.Rides]] rfl rfl call72 rfl (cGuideNetEarliest_1 _ _ a x7 Z aM af) ?_
 rintro _ bi _ c ⟨rfl, rfl⟩
 refine tS (sn2 rfl)<|Te ?_
 refine cM hm rfl (fun hm => ?_) fun hm => ?_
 refine Cr<|mV rfl<|mV rfl<|tS (sD (vs := [_, _, _]) 1 3 rfl agg42 rfl rfl rfl) ?_
 obtain ⟨bj, aN, hm⟩ := bS hm
 obtain ⟨aO, I, J⟩ := iS aN
 obtain ⟨a7, a8, bk, bl, a9, au, a1, av, ag, ba, a2⟩ := OS.get (sz := 3) rfl (by decide) (k.le c) J
 obtain ⟨⟨_, _, rfl, rfl, ⟨_, _, rfl, rfl, rfl⟩⟩, rfl⟩ := au
 refine tS (sI aO rfl rfl I ag av sl38)<|tD (uP I (sz := 3) (a' := a) rfl [_, _] R 0 3 [iv a.Dep, iv a.Arr, iv a.Rides] rfl (k.le c) J rfl rfl rfl siz42 rfl (mc rfl (mc rfl (mc rfl mn))) (fun cs hsj hh => by obtain ⟨⟨_, _, rfl, rfl, ⟨_, _, rfl, rfl, rfl⟩⟩, rfl⟩ := hh; exact ⟨by first | decide | exact Nat.le_refl _, ⟨[iv a.Dep], _, rfl, rfl, ⟨[iv a.Arr], _, rfl, rfl, rfl⟩⟩, rfl⟩)) ?_
 rintro _ _ ⟨aw, rfl, aP⟩
 refine Tr 0 rfl (v' := .slice X (put e x a).length E) (by simp only [put_length])<|Te<|Cg<|mV rfl ?_
 obtain ⟨_, A, hm⟩ := bS hm
 have A := (kS A).2
 refine tS (sa rfl rfl A)<|aS rfl<|Tn<|Xm ?_
 obtain ⟨rfl, rfl⟩ := some2 hm
 exact jJ ⟨aw, rfl, rfl, c, aP, ((put_length _ _ _).trans m)⟩
 refine Ck<|Xm ?_
 obtain ⟨rfl, rfl⟩ := some2 hm
 exact jJ ⟨d, rfl, rfl, c, (k.le c), m⟩
 rintro z _ _ ⟨h, rfl, rfl, ah, aQ, ai⟩
 have hm := (unc2E an)
 refine Cg<|mV rfl ?_
 obtain ⟨_, B, hm⟩ := bS hm
 have B := (kS B).2
 refine tS (sa rfl rfl B)<|aS rfl<|Tn ?_
 exact jM hm ⟨h, rfl, rfl, ((q.trans ah)), aQ, ai⟩
 refine Ce<|Xe<|Xe<|Xo ?_
 have hm := congrArg some (Y _ (Option.some.inj hm).symm)
 obtain ⟨rfl, rfl⟩ := some2 hm
 exact jJ ⟨d, rfl, rfl, q, k, m⟩
 rintro ab _ _ ⟨t, rfl, rfl, ax, aF, bb⟩
 have hm := (unc2E aI)
 refine Cr<|mV rfl<|mV rfl ?_
 obtain ⟨aR, aT, hm⟩ := bS hm
 obtain ⟨C, aU, K, bc, L, O, S⟩ := cutS_some aT
 have aV := OS.lc aF
 refine tS (S ▸ st_part (l := f) C aU rfl (.inr ⟨_, _, _, rfl, rfl, K⟩) (.inl ⟨rfl, by omega⟩) L O aV sl38) ?_
 have ay : (aR).length = f.length - C := by rw [S]; simp only [List.length_drop, List.length_take]; omega
 refine tD (u_clr (r := rGuidePoint) (i := G) [_] R [iv 0, iv 0, iv 0] ((⟨0, 0, 0⟩ : GuidePoint) : GuidePoint) C rfl aF K (Nat.le_trans L O) ay rfl sl38 inf42 rfl rfl rfl ⟨[iv 0], _, rfl, rfl, ⟨[iv 0], _, rfl, rfl, rfl⟩⟩) ?_
 rintro _ _ ⟨az, rfl, rfl, aj⟩
 refine Tr 0 rfl (v' := .slice X (clrM f G ((⟨0, 0, 0⟩ : GuidePoint) : GuidePoint)).length E) (by simp only [clrM_length])<|Te<|Cr<|mV rfl<|mV rfl ?_
 obtain ⟨bm, aW, hm⟩ := bS hm
 obtain ⟨D, aX, bd, aA, T, U, V⟩ := cutS_some aW
 have aY := OS.lc aj
 refine tS (V ▸ st_part (l := clrM f G ((⟨0, 0, 0⟩ : GuidePoint) : GuidePoint)) D aX rfl (.inl ⟨rfl, by omega⟩) (.inr ⟨_, _, _, rfl, rfl, aA⟩) T U aY sl38) ?_
 obtain ⟨W, aB, ak⟩ := OS.sub (sz := 3) rfl aj T U
 rw [← V] at ak
 refine t_less [_] az W R rfl aB<|aS rfl<|Te<|Ct ?_
 obtain rfl := o1 hm
 exact rO ⟨(subA X E D 3), (E - D), W, rfl, rfl, ak⟩ (g.trans ax)

set_option maxRecDepth 20000 in
theorem cGuideNetEarliest_2 (b : Base) (R : Hp) (g : GuidePoint) (i : GuidePoint) (p) (hm : mGuideNetEarliest_2 g i = some p):
    CallsG Tryd.prog 73 [.agg #[iv g.Dep, iv g.Arr, iv g.Rides], .agg #[iv i.Dep, iv i.Arr, iv i.Rides]] b (R) (fun v b' hp' => iv p = v ∧ R = hp') := by
 refine fE 22 Tryd.func73 rfl Tryd.ntmps73 rfl ?_
 unfold mGuideNetEarliest_2 at hm
 refine Cr<|tD (uB _ rfl rfl) ?_
 rintro _ _ ⟨y, rfl, rfl⟩
 refine tD (uB _ rfl rfl) ?_
 rintro _ _ ⟨z, rfl, rfl⟩
 refine aS rfl<|Te ?_
 obtain ⟨x, q, r⟩ := bS hm
 refine Cj (fun s e' hp' => [(4, iv x)] = e' ∧ R = hp' ∧ b.Le s) ?_ ?_
 have hm := q
 obtain ⟨a, j, hm⟩ := bS hm
 obtain ⟨c, k, hm⟩ := bS hm
 obtain ⟨d, m, hm⟩ := bS hm
 obtain ⟨t, f, hm⟩ := bS hm
 refine Di mixed (.refl _)<|E0 0 rfl (sF rfl fld42_1)<|Es 1 rfl (sL 1 rfl one3 rfl rfl)<|E0 2 rfl (sF rfl fld42_1)<|Es 3 rfl (sL 0 rfl one3 rfl rfl)<|E0 5 rfl (sF rfl fld42_2)<|Es 6 rfl (sL 1 rfl one3 rfl rfl)<|E0 7 rfl (sF rfl fld42_2)<|Es 8 rfl (sL 0 rfl one3 rfl rfl)<|E0 10 rfl (sF rfl fld42_0) ?_
 refine Es 11 rfl (sL 0 rfl one3 rfl rfl)<|E0 12 rfl (sF rfl fld42_0)<|Es 13 rfl (sL 1 rfl one3 rfl rfl)<|Eo<|Da [4] (by kernel_rfl) rfl ?_
 refine Rd2 lr rfl rfl (uW _ call44 rfl (fun w ho => cCmpCompare _ [] g.Arr i.Arr a j) (fun _ _ _ h => h.2.symm)) ?_ ?_
 rintro _ _ ⟨⟨_, rfl, _⟩, rfl⟩
 refine iR<|Da [9] (by kernel_rfl) rfl ?_
 refine Rd2 lr rfl rfl (uW _ call44 rfl (fun w ho => cCmpCompare _ [] g.Rides i.Rides c k) (fun _ _ _ h => h.2.symm)) ?_ ?_
 rintro _ _ ⟨⟨_, rfl, _⟩, rfl⟩
 refine iR<|Da [14] (by kernel_rfl) rfl ?_
 refine Rd2 lr rfl rfl (uW _ call44 rfl (fun w ho => cCmpCompare _ [] i.Dep g.Dep d m) (fun _ _ _ h => h.2.symm)) ?_ ?_
 rintro _ _ ⟨⟨_, rfl, _⟩, rfl⟩
 refine iR<|Da [15] (by kernel_rfl) rfl ?_
 refine Rd2 lr rfl rfl (u_bslice (el := 3) [(0, iv a), (1, iv c), (2, iv d)] [iv a, iv c, iv d] rfl (fun _ => by kernel_rfl)) ?_ ?_
 rintro _ _ ⟨e, rfl, rfl⟩
 refine iR<|d_seg 0 [_, _] R rfl rfl ?_
 have u : OS 3 (OT.fr rI) b.w (.slice (some ⟨e, 0, none⟩) 3 3) [a, c, d] [(e, Cl 3 [iv a, iv c, iv d])] := OS.lit [[iv a], [iv c], [iv d]] rfl ⟨rfl, ⟨rfl, ⟨rfl, trivial⟩⟩⟩ rfl (by decide)
 refine Da [16] (by kernel_rfl) rfl ?_
 refine Rd2 lr rfl rfl (uW _ call43 rfl (fun w ho => cCmpOr _ [] [a, c, d] (some ⟨e, 0, none⟩) 3 (OS.now (o := (OT.fr rI)) (l := [a, c, d]) (hs := [(e, Cl 3 [iv a, iv c, iv d])]) u ho (.cons _ (.cons _ (List.sublist_append_left _ _)))) t f) (fun _ _ _ h => h.2.symm)) ?_ ?_
 rintro _ _ ⟨⟨_, rfl, _⟩, rfl⟩
 refine iR<|Ei lr (.cons_cons _ (.cons_cons _ (ss [(e, Cl 3 [iv a, iv c, iv d])] (.refl _))))<|E0 17 rfl (sA rfl)<|Eo<|Dd (by kernel_rfl) ?_
 obtain rfl := o1 hm
 exact jJ ⟨rfl, rfl, lr⟩
 exact Rn
 exact Rn
 exact Rn
 exact Rn
 exact Rn
 rintro s _ _ ⟨rfl, rfl, n⟩
 have hm := r
 refine Ct ?_
 obtain rfl := o1 hm
 exact rO ⟨rfl, rfl⟩ n

set_option maxRecDepth 20000 in
theorem cSlicesMinFunc (b : Base) (R : Hp) (l4 A1 c2) (h3 : FZ rGuidePoint b.w A1 c2 l4) (L O S) (hm : mSlicesMinFunc l4 = some (L, O, S)):
    CallsG Tryd.prog 41 [sv A1 l4 c2, .func (.func 73) #[] #[]] b (R) (fun v b' hp' => .agg #[iv L, iv O, iv S] = v ∧ R = hp') := by
 refine fE 33 Tryd.func41 rfl Tryd.ntmps41 rfl ?_
 unfold mSlicesMinFunc at hm
 refine Cr<|tD (uA [iv 0, iv 0, iv 0] zero42 rfl) ?_
 rintro _ _ ⟨e, rfl, rfl⟩
 refine Te<|Cs<|Cr<|mV rfl<|tS (sE rfl sl38)<|tS (q3 rfl rfl)<|Te ?_
 refine cI hm rfl (fun hm => ?_) fun hm => ?_
 cases hm
 refine Ck<|Xn<|Cr<|mV rfl ?_
 obtain ⟨q, ai, aq, Y, ar, Z, C, r, D, hm⟩ := bF (sz := 3) hm h3
 obtain ⟨_, _, rfl, rfl, ⟨_, _, rfl, rfl, rfl⟩⟩ := Z
 refine tS (sI ai rfl rfl Y D r sl38)<|tS (sP (vs := [iv q.Dep, iv q.Arr, iv q.Rides]) 3 rfl agg42 r rfl (fun j u hu => C j u hu))<|tD (uA [iv 0, iv 0, iv 0] zero42 rfl) ?_
 rintro _ _ ⟨f, rfl, rfl⟩
 refine tD (uN (vs := [_, _, _]) 0 3 rfl rfl rfl siz42 rfl (mc rfl (mc rfl (mc rfl mn))) rfl (by simp)) ?_
 rintro _ _ rfl
 refine Te ?_
 obtain ⟨⟨T, U, V⟩, aa, ab⟩ := bS hm
 refine Cj (fun W e' hp' => [(4, pb e), (5, pb f)] = e' ∧ (e, Cl 42 [iv 0, iv 0, iv 0]) :: (f, Cl 42 [iv T, iv U, iv V]) :: R = hp' ∧ b.Le W) ?_ ?_
 have hm := aa
 refine Cr<|aS rfl<|Te<|Cb<|lL (unc4 fun s k l m => fun t e' hp' => [(0, sv A1 l4 c2), (1, .func (.func 73) #[] #[]), (4, pb e), (5, pb f), (6, iv s)] = e' ∧ (e, Cl 42 [iv 0, iv 0, iv 0]) :: (f, Cl 42 [iv k, iv l, iv m]) :: R = hp' ∧ b.Le t) hm ⟨rfl, rfl, lr⟩ ?_
 rintro ⟨s, k, l, m⟩ t _ _ au ⟨rfl, rfl, c⟩ d p
 unfold mSlicesMinFunc_L781 at d
 have hm := (unc4E d)
 refine Cs<|Cr<|mV rfl<|mV rfl<|tS (sE rfl sl38)<|tS (q3 rfl rfl)<|Te ?_
 refine cI hm rfl (fun hm => ?_) fun hm => ?_
 refine Ck<|Xn ?_
 obtain ⟨⟨aj, ak, al⟩, ac, ad⟩ := bS hm
 refine Cj (fun X e' hp' => [(0, sv A1 l4 c2), (1, .func (.func 73) #[] #[]), (4, pb e), (5, pb f), (6, iv s)] = e' ∧ (e, Cl 42 [iv 0, iv 0, iv 0]) :: (f, Cl 42 [iv aj, iv ak, iv al]) :: R = hp' ∧ t.Le X) ?_ ?_
 have hm := ac
 refine Cb<|Cs ?_
 obtain ⟨a, ae, hm⟩ := bS hm
 obtain ⟨af, x, hm⟩ := bS hm
 refine Di mixed (.refl _)<|E0 0 rfl (sM rfl)<|E0 1 rfl (sM rfl)<|E0 2 rfl (sM rfl) ?_
 obtain ⟨ag, E, F⟩ := iS ae
 obtain ⟨am, G, y, n, z⟩ := FZ.get (sz := 3) rfl (by decide) (h3.le c) F
 obtain ⟨_, _, rfl, rfl, ⟨_, _, rfl, rfl, rfl⟩⟩ := G
 refine E0 3 rfl (sI ag rfl rfl E z n sl38)<|Es 4 rfl (sP (vs := [iv a.Dep, iv a.Arr, iv a.Rides]) 3 rfl agg42 n rfl (fun j u hu => y j u hu))<|Es 5 rfl (sD (vs := [_, _, _]) 1 3 rfl agg42 rfl rfl rfl)<|Eo<|Da [6] (by kernel_rfl) rfl ?_
 refine Rd2 lr rfl rfl (u_callvW0 #[] #[] [.agg #[iv a.Dep, iv a.Arr, iv a.Rides], .agg #[iv k, iv l, iv m]] rfl call73 rfl (fun w ho => cGuideNetEarliest_2 _ [] a (⟨k, l, m⟩ : GuidePoint) af x) (fun _ _ _ h => h.2.symm)) ?_ ?_
 rintro _ _ ⟨⟨_, rfl, _⟩, rfl⟩
 refine ⟨.inl (by kernel_rfl), ?_⟩
 refine El lr<|E0 7 rfl (q3 rfl rfl)<|Eo<|Dd (by kernel_rfl)<|Xn ?_
 refine cI hm rfl (fun hm => ?_) fun hm => ?_
 refine Cg<|mV rfl<|mV rfl ?_
 obtain ⟨g, ah, an, H, ao, I, A, o, B, hm⟩ := bF (sz := 3) hm (h3.le c)
 obtain ⟨_, _, rfl, rfl, ⟨_, _, rfl, rfl, rfl⟩⟩ := I
 refine tS (sI ah rfl rfl H B o sl38)<|tS (sP (vs := [iv g.Dep, iv g.Arr, iv g.Rides]) 3 rfl agg42 o rfl (fun j u hu => A j u hu))<|tD (uN (vs := [_, _, _]) 1 3 rfl rfl rfl siz42 rfl (mc rfl (mc rfl (mc rfl mn))) rfl (by simp)) ?_
 rintro _ _ rfl
 refine Tn<|Xm ?_
 obtain ⟨rfl, rfl, rfl⟩ := some3 hm
 exact jJ ⟨rfl, rfl, lr⟩
 refine Ck<|Xm ?_
 obtain ⟨rfl, rfl, rfl⟩ := some3 hm
 exact jJ ⟨rfl, rfl, lr⟩
 exact Rn
 rintro X _ _ ⟨rfl, rfl, J⟩
 have hm := (unc3E ad)
 refine Cg<|mV rfl ?_
 obtain ⟨_, i, hm⟩ := bS hm
 have i := (kS i).2
 refine tS (sa rfl rfl i)<|aS rfl<|Tn ?_
 exact jM hm ⟨rfl, rfl, ((c.trans J))⟩
 refine Ce<|Xe<|Xe<|Xo ?_
 have hm := congrArg some (p _ (Option.some.inj hm).symm)
 obtain ⟨rfl, rfl, rfl⟩ := some3 hm
 exact jJ ⟨rfl, rfl, c⟩
 rintro W _ _ ⟨rfl, rfl, K⟩
 have hm := (unc3E ab)
 refine Cr<|tS (sD (vs := [_, _, _]) 1 3 rfl agg42 rfl rfl rfl)<|tD (uN (vs := [_, _, _]) 0 3 rfl rfl rfl siz42 rfl (mc rfl (mc rfl (mc rfl mn))) rfl (by simp)) ?_
 rintro _ _ rfl
 refine Te<|Ct ?_
 obtain ⟨rfl, rfl, rfl⟩ := some3 hm
 exact rM (rs := [.cell 4 42]) (vs := [.agg #[iv T, iv U, iv V]]) ⟨⟨_, rfl, fun w ho => cell_agg (vs := [_, _, _]) 0 3 agg42 rfl rfl rfl w ho⟩, trivial⟩ ⟨rfl, rfl⟩ (.cons _ (.cons _ (.refl _))) K

set_option maxRecDepth 20000 in
theorem clSlicesClone (A : Option Addr) (n c : Nat) (xs : List Value) (w : World) (hR : Rd w A xs) (hl : xs.length = n * 3) (hn : n * 24 ≤ 140737488355328 ∧ n ≤ 9223372036854775807) :
    CallsH Tryd.prog 56 [.slice A n c] w [] (fun v hp' => Seg0 86 3 v n xs hp') := by
  refine fn_enter 8 Tryd.func56 rfl Tryd.ntmps56 rfl ?_
  refine c_sr ?_
  refine t_as rfl rfl ?_
  refine t_ne ?_
  refine c_seq ?_
  refine c_sr ?_
  refine t_mv rfl rfl ?_
  refine t_bool rfl (st_eqnil rfl rfl sl31) (fun hc1 => ?_) (fun hc1 => ?_)
  ·
    refine t_ne ?_
    refine c_cond_t rfl ?_
    refine c_sr ?_
    refine t_as rfl rfl ?_
    refine t_ne ?_
    refine c_ret ?_
    refine x_then_ret ?_
    subst hc1
    obtain rfl := hR.none_nil
    obtain rfl : n = 0 := by simp at hl; omega
    refine x_drop (hp' := []) (by repeat (first | exact List.Sublist.refl _ | exact List.nil_sublist _ | exact List.sublist_append_left _ _ | exact List.sublist_append_right _ _ | exact (List.sublist_append_right _ _).trans (List.sublist_append_right _ _) | apply List.Sublist.cons_cons | apply List.Sublist.cons)) ?_
    exact ret1 (Base.Le.refl _) rfl rfl (Seg0.nil)
  ·
    refine t_ne ?_
    refine c_cond_f rfl ?_
    refine c_skip ?_
    refine x_then_normal ?_
    refine c_sr ?_
    refine t_do rfl (u_bslice (el := 86) [] [] rfl (fun _ => by kernel_rfl)) ?_
    rintro _ _ ⟨g0, rfl, rfl⟩
    refine t_mv rfl rfl ?_
    refine t_do rfl (u_app0 xs sl31 inf86 rfl (by decide) rfl rfl hl (fun w ho => hR.old ho) hn.2 hn.1) ?_
    rintro _ _ ⟨hs, rfl, hseg⟩
    refine t_as rfl rfl ?_
    refine t_ne ?_
    refine c_ret ?_
    refine x_drop (hp' := hs) (by repeat (first | exact List.Sublist.refl _ | exact List.nil_sublist _ | exact List.sublist_append_left _ _ | exact List.sublist_append_right _ _ | exact (List.sublist_append_right _ _).trans (List.sublist_append_right _ _) | apply List.Sublist.cons_cons | apply List.Sublist.cons)) ?_
    exact ret1 (Base.Le.refl _) rfl rfl hseg

set_option maxRecDepth 20000 in
theorem cSlicesClone (b : Base) (R : Hp) (d e f) (i : FZ rGuideRide b.w e f d) (a) (hm : mSlicesClone d = some a):
    CallsG Tryd.prog 56 [sv e d f] b (R) (fun v b' hp' => ∃ g h c, sv g a h = v ∧ (c ++ R) = hp' ∧ OS 86 (OT.fr rGuideRide) b'.w (sv g a h) a c) := by
 unfold mSlicesClone at hm
 obtain ⟨_, hroom, hm⟩ := bS hm
 have hroom := room_some hroom
 obtain rfl := o1 hm
 exact clone_of (r := rGuideRide) (sz := 3) (by_ := 24) rfl (by decide) clSlicesClone i hroom

set_option maxRecDepth 20000 in
theorem cGuideNetLeastOf_1 : ∀ (N : Nat) (b : Base) (R : Hp) (ad ae af an ao F aq q bb K O S H I ag ah ai aj A3 c4 d g8 Y) (aN : FZ rApiTrain b.w ag ah ad) (aO : FZ (RT.list rI) b.w ai aj ae) (h5 : OS 86 (OT.fr rGuideRide) b.w (sv A3 q c4) q d) (aP : (A3 = none ↔ q = [])) (h9 : OM (RT.arr 3 rI) (OT.fr RT.bool) true false b.w g8 bb Y) (au aU) (hm : mGuideNetLeastOf_1 N ad ae af an ao F aq q bb = some (au, aU)),
    CallsG Tryd.prog 78 [sv A3 q c4, pb K, pb O, pb S, pb H, pb I] b ((K, Cl 91 [sv ag ad ah, sv ai ae aj, iv af]) :: (O, Cl 42 [iv an, iv ao, iv F]) :: (S, Cl 3 [iv aq]) :: (H, Cl 136 [.map (some g8)]) :: (I, Cl 120 [.func (.func 78) #[] #[pb K, pb O, pb S, pb H, pb I]]) :: (d ++ (Y ++ R))) (fun v b' hp' => ∃ aY bk aZ a0, sv aY au bk = v ∧ (K, Cl 91 [sv ag ad ah, sv ai ae aj, iv af]) :: (O, Cl 42 [iv an, iv ao, iv F]) :: (S, Cl 3 [iv aq]) :: (H, Cl 136 [.map (some g8)]) :: (I, Cl 120 [.func (.func 78) #[] #[pb K, pb O, pb S, pb H, pb I]]) :: (aZ ++ (a0 ++ R)) = hp' ∧ OS 86 (OT.fr rGuideRide) b'.w (sv aY au bk) au aZ ∧ (aY = none ↔ au = []) ∧ OM (RT.arr 3 rI) (OT.fr RT.bool) true false b'.w g8 aU a0) := by
  intro N
  induction N with
  | zero =>
    intro b R ad ae af an ao F aq q bb K O S H I ag ah ai aj A3 c4 d g8 Y aN aO h5 aP h9 au aU hm
    unfold mGuideNetLeastOf_1 at hm
    cases hm
  | succ N ih =>
   intro b R ad ae af an ao F aq q bb K O S H I ag ah ai aj A3 c4 d g8 Y aN aO h5 aP h9 au aU hm
   refine fE 74 Tryd.func78 rfl Tryd.ntmps78 rfl ?_
   unfold mGuideNetLeastOf_1 at hm
   refine Cr<|tD (uB _ rfl rfl) ?_
   rintro _ _ ⟨ak, rfl, rfl⟩
   refine tD (uA [sn] zero31 rfl) ?_
   rintro _ _ ⟨Z, rfl, rfl⟩
   refine Te<|Cr<|tS (sL 1 rfl one31 rfl rfl)<|tS (sL 1 rfl one31 rfl rfl)<|tS (sE rfl sl31) ?_
   obtain ⟨_, a1, hm⟩ := bS hm
   have a1 := (kS a1).2
   refine tS (sb rfl rfl a1) ?_
   obtain ⟨f, bN, hm⟩ := bS hm
   obtain ⟨bO, br, bs⟩ := iS bN
   obtain ⟨b1, b2, b6, b7, b3, bt, bc, a2, bd, b4, b0⟩ := OS.get (sz := 3) rfl (by decide) h5 bs
   obtain ⟨⟨_, _, rfl, rfl, ⟨_, _, rfl, rfl, rfl⟩⟩, rfl⟩ := bt
   refine tS (sI bO rfl rfl br bd a2 sl31)<|tS (st_loadN_rd (vs := [iv f.Train, iv f.On, iv f.Off]) 3 rfl agg86 a2 rfl (fun w ho j u hu => bc w _ ho (.cons _ (.cons _ (.cons _ (.cons _ (.cons _ (.cons _ (.cons _ (List.sublist_append_left _ _)))))))) j u hu))<|tD (uA [iv 0, iv 0, iv 0] zero86 rfl) ?_
   rintro _ _ ⟨bl, rfl, rfl⟩
   refine tD (uN (vs := [_, _, _]) 0 3 rfl rfl rfl siz86 rfl (mc rfl (mc rfl (mc rfl mn))) rfl (by simp)) ?_
   rintro _ _ rfl
   refine Te<|Cr<|tS (sD (vs := [_, _, _]) 3 3 rfl agg91 rfl rfl rfl)<|tS (sD (vs := [_, _, _]) 0 3 rfl agg86 rfl rfl rfl) ?_
   obtain ⟨⟨bP, bQ, bR, bT⟩, be, hm⟩ := bS hm
   have hm := (unc4E hm)
   refine Tg _ rfl call61 rfl (cGuideNetOff _ _ (⟨(⟨ad, ae⟩ : ApiDay), af⟩ : GuideNet) f ag ah ai aj aN aO bP bQ bR bT be) ?_
   rintro _ bm _ c ⟨rfl, rfl⟩
   refine tD (uA [iv 0, iv 0, iv 0, iv 0] zero83 rfl) ?_
   rintro _ _ ⟨b8, rfl, rfl⟩
   refine tD (uN (vs := [_, _, _, _]) 0 4 rfl rfl rfl siz83 rfl (mc rfl (mc rfl (mc rfl (mc rfl mn)))) rfl (by simp)) ?_
   rintro _ _ rfl
   refine Te<|Cr<|tS (sF rfl fld42_2)<|tS (sL 5 rfl one3 rfl rfl)<|tS (sL 3 rfl one31 rfl rfl)<|tS (sE rfl sl31) ?_
   obtain ⟨_, a3, hm⟩ := bS hm
   have a3 := (kS a3).2
   refine tS (sb rfl rfl a3)<|aS rfl<|Te<|Cs<|Cr<|mV rfl<|tS (q1 rfl rfl)<|Te ?_
   refine cI hm rfl (fun hm => ?_) fun hm => ?_
   refine Cs ?_
   obtain ⟨bU, bu, bw⟩ := bS hm
   refine Cj (fun bn e' hp' => [(6, pb ak), (7, pb Z), (40, bv bU)] = e' ∧ (ak, Cl 31 [sv A3 q c4]) :: (Z, Cl 31 [sn]) :: (K, Cl 91 [sv ag ad ah, sv ai ae aj, iv af]) :: (O, Cl 42 [iv an, iv ao, iv F]) :: (S, Cl 3 [iv aq]) :: (H, Cl 136 [.map (some g8)]) :: (I, Cl 120 [.func (.func 78) #[] #[pb K, pb O, pb S, pb H, pb I]]) :: (d ++ (Y ++ R)) = hp' ∧ bm.Le bn) ?_ ?_
   have hm := bu
   refine Cg<|tS (sF rfl fld83_0)<|tS (sL 0 rfl one3 rfl rfl)<|tS (sL 6 rfl one3 rfl rfl) ?_
   refine Tb rfl (q1 rfl rfl) (fun aQ => ?_) (fun aQ => ?_)
   rw [if_pos aQ] at hm
   refine mV rfl<|yS<|tS (sF rfl fld83_2)<|yS<|tS (sL 0 rfl one3 rfl rfl)<|yS<|tS (sF rfl fld42_1)<|yS<|tS (sL 5 rfl one3 rfl rfl)<|yS ?_
   refine tS (q1 rfl rfl)<|tS (pT rfl rfl)<|Tn ?_
   obtain rfl := o1 hm
   exact jJ ⟨rfl, rfl, lr⟩
   rw [if_neg aQ] at hm
   refine mV rfl<|nO<|nO<|nO<|nO<|nO<|tS (pF rfl rfl)<|Tn ?_
   obtain rfl := o1 hm
   exact jJ ⟨rfl, rfl, lr⟩
   rintro bn _ _ ⟨rfl, rfl, al⟩
   have hm := bw
   refine cB hm rfl (fun hm => ?_) fun hm => ?_
   refine Cr<|tS (sL 0 rfl one31 rfl rfl)<|tD (uS 1 rfl rfl siz31 rfl rfl (by simp)) ?_
   rintro _ _ rfl
   refine Te<|Ct<|Xr<|Xr ?_
   obtain ⟨rfl, rfl⟩ := some2 hm
   refine Xp 6 rfl<|Xp 6 rfl<|Xp 6 rfl<|Xp 6 rfl<|Xp 6 rfl<|X2 [_, _, _, _, _, _, _] d Y R rfl<|X2 [_, _, _, _, _, _, _] Y d R rfl ?_
   have bx := (h5.le (c.trans al))
   have bz := (h9.le (c.trans al))
   exact rM (rs := [.cell 7 31]) (vs := [sv A3 q c4]) ⟨⟨_, rfl, fun w ho => cell_one 6 one31 rfl rfl w ho⟩, trivial⟩ ⟨A3, c4, d, Y, rfl, rfl, bx, aP, bz⟩ (.cons_cons _ (.cons_cons _ (.cons_cons _ (.cons_cons _ (.cons_cons _ (.cons _ (.cons _ (.refl _)))))))) (c.trans al)
   refine Ck<|Xn<|Cr<|tD (uS 1 rfl rfl siz31 rfl rfl (by simp)) ?_
   rintro _ _ rfl
   refine Te<|Ct<|Xr ?_
   obtain ⟨rfl, rfl⟩ := some2 hm
   refine Xp 6 rfl<|Xp 6 rfl<|Xp 6 rfl<|Xp 6 rfl<|Xp 6 rfl<|X2 [_, _, _, _, _, _, _] d Y R rfl ?_
   have bA := (h9.le (c.trans al))
   exact rM (rs := [.cell 7 31]) (vs := [sn]) ⟨⟨_, rfl, fun w ho => cell_one 6 one31 rfl rfl w ho⟩, trivial⟩ ⟨none, 0, [], Y, rfl, rfl, OS.nil, ⟨fun _ => rfl, fun _ => rfl⟩, bA⟩ (.cons_cons _ (.cons_cons _ (.cons_cons _ (.cons_cons _ (.cons_cons _ (.cons _ (.cons _ (sp Y (ss d (.refl _)))))))))) (c.trans al)
   refine Ck<|Xn<|Cr<|tS (sF rfl fld86_0)<|tS (sL 1 rfl one3 rfl rfl)<|tS (sF rfl fld86_2)<|tS (sL 1 rfl one3 rfl rfl)<|mV rfl<|tS (sB (v := .agg #[iv f.Train, iv f.Off, iv (F - (q.length : Int))]) [(0, iv f.Train), (1, iv f.Off), (2, iv (F - (q.length : Int)))] rfl (fun _ => by kernel_rfl))<|tD (uA [iv 0, iv 0, iv 0] zero138 rfl) ?_
   rintro _ _ ⟨av, rfl, rfl⟩
   refine tD (uN (vs := [_, _, _]) 0 3 rfl rfl rfl siz138 rfl (mc rfl (mc rfl (mc rfl mn))) rfl (by simp)) ?_
   rintro _ _ rfl
   refine Te<|Cs ?_
   obtain ⟨bV, bB, bC⟩ := bS hm
   refine Cj (fun bo e' hp' => [(1, pb K), (4, pb H), (5, pb I), (6, pb ak), (7, pb Z), (8, pb bl), (11, pb av), (57, bv bV)] = e' ∧ (K, Cl 91 [sv ag ad ah, sv ai ae aj, iv af]) :: (H, Cl 136 [.map (some g8)]) :: (I, Cl 120 [.func (.func 78) #[] #[pb K, pb O, pb S, pb H, pb I]]) :: (ak, Cl 31 [sv A3 q c4]) :: (Z, Cl 31 [sn]) :: (bl, Cl 86 [iv f.Train, iv f.On, iv f.Off]) :: (av, Cl 138 [iv f.Train, iv f.Off, iv (F - (q.length : Int))]) :: (O, Cl 42 [iv an, iv ao, iv F]) :: (S, Cl 3 [iv aq]) :: (d ++ (Y ++ R)) = hp' ∧ bm.Le bo) ?_ ?_
   have hm := bB
   refine Cg<|tS (sL 8 rfl one136 rfl rfl)<|tS (sD (vs := [_, _, _]) 0 3 rfl agg138 rfl rfl rfl) ?_
   obtain ⟨a4, bW, hm⟩ := bS hm
   have bD := Option.some.inj bW
   obtain ⟨bp, aI, bE⟩ := OM.lookF kok138 (z0 := false) (h9.le c) (key := .agg #[iv f.Train, iv f.Off, iv (F - (q.length : Int))]) (k := [f.Train, f.Off, F - (q.length : Int)]) ⟨[iv f.Train, iv f.Off, iv (F - (q.length : Int))], rfl, ⟨rfl, [[iv f.Train], [iv f.Off], [iv (F - (q.length : Int))]], rfl, ⟨rfl, ⟨rfl, ⟨rfl, trivial⟩⟩⟩⟩⟩ mapt136 zero4 rfl
   rw [bD] at aI
   obtain rfl : bp = bv a4 := by have aI : [bp] = [bv a4] := aI; injection aI
   refine tS (st_mlook (ok := false) rfl rfl (fun w ho => bE _ w ho (.cons _ (.cons _ (.cons _ (.cons _ (.cons _ (.cons _ (.cons _ (.cons _ (.cons _ (.cons _ (ss d (List.sublist_append_left _ _)))))))))))) false)) ?_
   rcases Bool.eq_false_or_eq_true a4 with aw | aw
   rw [if_pos aw] at hm
   refine Tr 50 rfl (v' := .bool true) (by rw [aw] <;> rfl)<|mV rfl<|nO<|nO<|nO<|nO<|nO<|tS (pT rfl rfl)<|Tn ?_
   obtain rfl := o1 hm
   exact jJ ⟨rfl, rfl, lr⟩
   rw [if_neg (fun hh => Bool.noConfusion (hh.symm.trans aw))] at hm
   refine Tr 50 rfl (v' := .bool false) (by rw [aw] <;> rfl)<|mV rfl<|yS<|tS (sF rfl fld83_2)<|yS<|tS (sL 1 rfl one3 rfl rfl)<|yS<|tS (sF rfl fld42_1)<|yS<|tS (sL 6 rfl one3 rfl rfl) ?_
   refine yS<|tS (q5 rfl rfl)<|tS (pF rfl rfl)<|Tn ?_
   obtain rfl := o1 hm
   exact jJ ⟨rfl, rfl, lr⟩
   rintro bo _ _ ⟨rfl, rfl, g⟩
   have hm := bC
   refine cB hm rfl (fun hm => ?_) fun hm => ?_
   refine Cr<|tD (uS 4 rfl rfl siz31 rfl rfl (by simp)) ?_
   rintro _ _ rfl
   refine Te<|Ct<|Xr ?_
   obtain ⟨rfl, rfl⟩ := some2 hm
   refine Xp 2 rfl<|Xp 2 rfl<|Xp 8 rfl<|Xp 8 rfl<|Xp 4 rfl<|X2 [_, _, _, _, _, _, _, _, _] d Y R rfl ?_
   have bG := (h9.le (c.trans g))
   exact rM (rs := [.cell 7 31]) (vs := [sn]) ⟨⟨_, rfl, fun w ho => cell_one 6 one31 rfl rfl w ho⟩, trivial⟩ ⟨none, 0, [], Y, rfl, rfl, OS.nil, ⟨fun _ => rfl, fun _ => rfl⟩, bG⟩ (.cons_cons _ (.cons_cons _ (.cons_cons _ (.cons_cons _ (.cons_cons _ (.cons _ (.cons _ (.cons _ (.cons _ (sp Y (ss d (.refl _)))))))))))) (c.trans g)
   refine Ck<|Xn<|Cs<|Cr<|tS (sD (vs := [_, _, _]) 0 3 rfl agg91 rfl rfl rfl)<|tS (sD (vs := [_, _, _]) 5 3 rfl agg86 rfl rfl rfl) ?_
   obtain ⟨bX, bf, hm⟩ := bS hm
   refine Tg _ rfl call67 rfl (cGuideNetBehind _ _ (⟨(⟨ad, ae⟩ : ApiDay), af⟩ : GuideNet) f ag ah ai aj (aN.le (c.trans g)) (aO.le (c.trans g)) bX bf) ?_
   rintro _ bY _ n ⟨b9, rfl, rfl, bZ⟩
   refine Te<|Cb ?_
   obtain ⟨ca, bH, aJ⟩ := bS hm
   refine Cp 8 rfl<|Cp 8 rfl<|Cp 2 rfl<|Cp 8 rfl<|Cp 7 rfl<|Cp 7 rfl<|Cp 7 rfl<|Cp 7 rfl<|c_front2 [_, _, _, _, _, _, _, _, _] d Y R rfl<|c_front2 [_, _, _, _, _, _, _, _, _] Y d R rfl ?_
   have bI := (h9.le (c.trans (g.trans n)))
   refine c_rangeM (fun x : GuideRide => (.agg #[iv x.Train, iv x.On, iv x.Off] : Value)) (fun aG => fun aV hp' => ∃ e, (H, Cl 136 [.map (some g8)]) :: (I, Cl 120 [.func (.func 78) #[] #[pb K, pb O, pb S, pb H, pb I]]) :: (ak, Cl 31 [sv A3 q c4]) :: (Z, Cl 31 [sn]) :: (av, Cl 138 [iv f.Train, iv f.Off, iv (F - (q.length : Int))]) :: (K, Cl 91 [sv ag ad ah, sv ai ae aj, iv af]) :: (O, Cl 42 [iv an, iv ao, iv F]) :: (S, Cl 3 [iv aq]) :: (d ++ (e ++ R)) = hp' ∧ bY.Le aV ∧ OM (RT.arr 3 rI) (OT.fr RT.bool) true false aV.w g8 aG e) rfl bZ bH (e' := [(4, pb H), (5, pb I), (6, pb ak), (7, pb Z), (11, pb av)]) ⟨rfl, rfl, rfl, rfl, rfl, trivial⟩ (.cons_cons _ (.cons_cons _ (.cons_cons _ (.cons_cons _ (.cons_cons _ (.cons_cons _ (.cons_cons _ (.cons_cons _ (.cons _ (.refl _)))))))))) rfl (fun dk hdk => ⟨Y, rfl, Base.Le.dks hdk, bI⟩) ?_ ?_ (fun x hx => (c.trans (g.trans n)).dk x hx)
   rintro a5 a6 a aG aV aH _ b5 ⟨e, rfl, p, aL⟩ m ax aX
   unfold mGuideNetLeastOf_1_L704 at ax
   have hm := ax
   refine Cg<|tD (uA [iv 0, iv 0, iv 0] zero86 rfl) ?_
   rintro _ _ ⟨bq, rfl, rfl⟩
   refine tD (uN (vs := [_, _, _]) 0 3 rfl rfl rfl siz86 rfl (mc rfl (mc rfl (mc rfl mn))) rfl (by simp)) ?_
   rintro _ _ rfl
   refine Tn<|x_begin 1 rfl<|Cb ?_
   obtain ⟨⟨ay, a7⟩, bg, bh⟩ := bS hm
   refine Cj (fun aK e' hp' => ∃ ar az G z, [(7, pb Z), (13, sv ar ay az)] = e' ∧ (Z, Cl 31 [sn]) :: (H, Cl 136 [.map (some g8)]) :: (I, Cl 120 [.func (.func 78) #[] #[pb K, pb O, pb S, pb H, pb I]]) :: (ak, Cl 31 [sv A3 q c4]) :: (av, Cl 138 [iv f.Train, iv f.Off, iv (F - (q.length : Int))]) :: (K, Cl 91 [sv ag ad ah, sv ai ae aj, iv af]) :: (O, Cl 42 [iv an, iv ao, iv F]) :: (S, Cl 3 [iv aq]) :: (a6, Lb a5) :: (G ++ (d ++ (z ++ R))) = hp' ∧ aH.Le aK ∧ OS 86 (OT.fr rGuideRide) aK.w (sv ar ay az) ay G ∧ (ar = none ↔ ay = []) ∧ OM (RT.arr 3 rI) (OT.fr RT.bool) true false aK.w g8 a7 z) ?_ ?_
   have hm := bg
   obtain ⟨y, aa, hm⟩ := bS hm
   obtain ⟨_, W, hm⟩ := bS hm
   obtain ⟨⟨aR, aT⟩, aA, hm⟩ := bS hm
   have hm := (unc2E hm)
   refine D_drawS ((a6, Lb a5) :: (bq, Cl 86 [iv a.Train, iv a.On, iv a.Off]) :: (ak, Cl 31 [sv A3 q c4]) :: (Z, Cl 31 [sn]) :: (av, Cl 138 [iv f.Train, iv f.Off, iv (F - (q.length : Int))]) :: (d ++ R)) mixed ?_
   refine D_tail (fun a8 e' hp' => ∃ s A B C, [(7, pb Z), (62, .func (.func 78) #[] #[pb K, pb O, pb S, pb H, pb I]), (64, sv A y B), (66, .slice (some ⟨C, 0, none⟩) 1 1)] = e' ∧ (C, Cl 86 [iv a.Train, iv a.On, iv a.Off]) :: (a6, Lb a5) :: (bq, Cl 86 [iv a.Train, iv a.On, iv a.Off]) :: (H, Cl 136 [.map (some g8)]) :: (I, Cl 120 [.func (.func 78) #[] #[pb K, pb O, pb S, pb H, pb I]]) :: (ak, Cl 31 [sv A3 q c4]) :: (Z, Cl 31 [sn]) :: (av, Cl 138 [iv f.Train, iv f.Off, iv (F - (q.length : Int))]) :: (K, Cl 91 [sv ag ad ah, sv ai ae aj, iv af]) :: (O, Cl 42 [iv an, iv ao, iv F]) :: (S, Cl 3 [iv aq]) :: (s ++ (d ++ (e ++ R))) = hp' ∧ OS 86 (OT.fr rGuideRide) a8.w (sv A y B) y s) 3 #[true, true, true, true, true, false, false, false] ?_ (fun tl1086 => ?_)
   rintro a8 _ _ U ⟨s, A, B, C, rfl, rfl, bJ⟩
   have W := room_some W
   refine Da [5] (by kernel_rfl) rfl ?_
   refine Rd2 U rfl rfl (uQ (r := rGuideRide) (l := y) [_, _, _, _, _, _, _, _, _, _, _] (d ++ (e ++ R)) [[iv a.Train, iv a.On, iv a.Off]] [a] rfl (by decide) sl31 inf86 rfl rfl rfl rfl bJ rfl (fun w ho => Rd.own (i := 0) ho rfl) ⟨⟨[iv a.Train], _, rfl, rfl, ⟨[iv a.On], _, rfl, rfl, rfl⟩⟩, trivial⟩ W) ?_ ?_
   rintro _ _ ⟨t, rfl, V⟩
   obtain ⟨ab, ac, rfl, _⟩ := V.form
   refine iR<|d_pullb 4 rfl<|d_pullb 4 rfl<|d_pullb 10 rfl<|d_pullb 10 rfl<|d_pullb 10 rfl<|d3 [_, _, _, _, _, _, _, _, _, _, _] t d e R rfl<|d2 [_, _, _, _, _, _, _, _, _, _, _] e t (d ++ R) rfl<|d_out2 [_, _, _, _, _] [_, _, _, _, _, _] t e (d ++ R) rfl<|Da [6] (by kernel_rfl) rfl ?_
   refine Rv U rfl rfl #[] #[pb K, pb O, pb S, pb H, pb I] [.slice ab (y ++ [a]).length ac] rfl call78 rfl (ih _ _ ad ae af an ao F aq (y ++ [a]) aG K O S H I ag ah ai aj ab ac t g8 e (aN.le (c.trans (g.trans (n.trans (p.trans (m.trans U)))))) (aO.le (c.trans (g.trans (n.trans (p.trans (m.trans U)))))) V (OS.nz V (by simp)) (aL.le (m.trans U)) aR aT aA) ?_ ?_
   rintro _ a9 _ J ⟨aB, aC, D, E, rfl, rfl, aD, aE, aF⟩
   refine iR<|d_in2 [_, _, _, _, _] [_, _, _, _, _, _] D E (d ++ R) rfl<|Ei (U.trans J) (.cons _ (.cons _ (.cons _ (.cons _ (.cons _ (.cons _ (.cons_cons _ (.cons_cons _ (.cons_cons _ (.cons_cons _ (.cons_cons _ (ss D (ss E (.refl _))))))))))))))<|E0 7 rfl (sA rfl)<|Eo<|Dd (by kernel_rfl) ?_
   obtain ⟨rfl, rfl⟩ := some2 hm
   exact jJ ⟨aB, aC, D, E, rfl, rfl, (U.trans J), aD, aE, aF⟩
   exact Rn
   exact Rn
   refine Ei lr (.cons_cons _ (.cons_cons _ (.cons _ (.cons _ (.cons_cons _ (.cons_cons _ (.cons_cons _ (.cons _ (.cons _ (.cons _ (sp d (ss e (.refl _)))))))))))))<|Es 1 rfl (sL 2 rfl one31 rfl rfl)<|Es 3 rfl (sD (vs := [_, _, _]) 1 3 rfl agg86 rfl rfl rfl)<|Eo<|Da [0, 2, 4] (by kernel_rfl) rfl ?_
   refine Rd2 lr rfl rfl (Stable.does (sL 3 rfl one120 rfl rfl)) ?_ ?_
   rintro _ _ ⟨rfl, rfl⟩
   refine iR<|Da [2, 4] (by kernel_rfl) rfl ?_
   refine Rd2 lr rfl rfl (u_callWF [_, _, _, _, _, _, _, _, _, _] (d ++ (e ++ R)) _ rfl call56 rfl (fun w ho => cSlicesClone _ [] q A3 c4 (OS.now (o := (OT.fr rGuideRide)) (l := q) (hs := d) (h5.le (c.trans (g.trans (n.trans (p.trans m))))) ho (.cons _ (.cons _ (.cons _ (.cons _ (.cons _ (.cons _ (.cons _ (.cons _ (.cons _ (.cons _ (List.sublist_append_left _ _)))))))))))) y aa)) ?_ ?_
   rintro _ _ ⟨_, _, rfl, A, B, s, rfl, T, X⟩
   obtain rfl := List.append_cancel_right T
   have L := flat_fz (w' := aH.w) (cat_flat (fun _ _ _ _ h => h) (cat_flat (fun _ _ _ _ h => h) (fun _ _ _ _ h => h))) X
   refine iR<|Da [4] (by kernel_rfl) rfl ?_
   refine Rd2 lr rfl rfl (u_bslice (el := 86) [(0, .agg #[iv a.Train, iv a.On, iv a.Off])] [iv a.Train, iv a.On, iv a.Off] rfl (fun _ => by kernel_rfl)) ?_ ?_
   rintro _ _ ⟨C, rfl, rfl⟩
   refine iR ?_
   exact dG tl1086 ⟨s, A, B, C, rfl, rfl, L⟩ lr
   exact Rn
   refine Rd2 lr rfl rfl (u_bslice (el := 86) [(0, .agg #[iv a.Train, iv a.On, iv a.Off])] [iv a.Train, iv a.On, iv a.Off] rfl (fun _ => by kernel_rfl)) ?_ ?_
   rintro _ _ ⟨C, rfl, rfl⟩
   refine iR<|Da [2] (by kernel_rfl) rfl ?_
   refine Rd2 lr rfl rfl (u_callWF [_, _, _, _, _, _, _, _, _, _, _] (d ++ (e ++ R)) _ rfl call56 rfl (fun w ho => cSlicesClone _ [] q A3 c4 (OS.now (o := (OT.fr rGuideRide)) (l := q) (hs := d) (h5.le (c.trans (g.trans (n.trans (p.trans m))))) ho (.cons _ (.cons _ (.cons _ (.cons _ (.cons _ (.cons _ (.cons _ (.cons _ (.cons _ (.cons _ (.cons _ (List.sublist_append_left _ _))))))))))))) y aa)) ?_ ?_
   rintro _ _ ⟨_, _, rfl, A, B, s, rfl, T, X⟩
   obtain rfl := List.append_cancel_right T
   have L := flat_fz (w' := aH.w) (cat_flat (fun _ _ _ _ h => h) (cat_flat (fun _ _ _ _ h => h) (fun _ _ _ _ h => h))) X
   refine iR ?_
   exact dG tl1086 ⟨s, A, B, C, rfl, rfl, L⟩ lr
   exact Rn
   exact Rn
   refine Rd2 lr rfl rfl (u_callWF [_, _, _, _, _, _, _, _, _, _] (d ++ (e ++ R)) _ rfl call56 rfl (fun w ho => cSlicesClone _ [] q A3 c4 (OS.now (o := (OT.fr rGuideRide)) (l := q) (hs := d) (h5.le (c.trans (g.trans (n.trans (p.trans m))))) ho (.cons _ (.cons _ (.cons _ (.cons _ (.cons _ (.cons _ (.cons _ (.cons _ (.cons _ (.cons _ (List.sublist_append_left _ _)))))))))))) y aa)) ?_ ?_
   rintro _ _ ⟨_, _, rfl, A, B, s, rfl, T, X⟩
   obtain rfl := List.append_cancel_right T
   have L := flat_fz (w' := aH.w) (cat_flat (fun _ _ _ _ h => h) (cat_flat (fun _ _ _ _ h => h) (fun _ _ _ _ h => h))) X
   refine iR<|Da [0, 4] (by kernel_rfl) rfl ?_
   refine Rd2 lr rfl rfl (Stable.does (sL 3 rfl one120 rfl rfl)) ?_ ?_
   rintro _ _ ⟨rfl, rfl⟩
   refine iR<|Da [4] (by kernel_rfl) rfl ?_
   refine Rd2 lr rfl rfl (u_bslice (el := 86) [(0, .agg #[iv a.Train, iv a.On, iv a.Off])] [iv a.Train, iv a.On, iv a.Off] rfl (fun _ => by kernel_rfl)) ?_ ?_
   rintro _ _ ⟨C, rfl, rfl⟩
   refine iR ?_
   exact dG tl1086 ⟨s, A, B, C, rfl, rfl, L⟩ lr
   exact Rn
   refine Rd2 lr rfl rfl (u_bslice (el := 86) [(0, .agg #[iv a.Train, iv a.On, iv a.Off])] [iv a.Train, iv a.On, iv a.Off] rfl (fun _ => by kernel_rfl)) ?_ ?_
   rintro _ _ ⟨C, rfl, rfl⟩
   refine iR ?_
   have W := room_some W
   refine Da [0, 5] (by kernel_rfl) rfl ?_
   refine Rd2 lr rfl rfl (Stable.does (sL 4 rfl one120 rfl rfl)) ?_ ?_
   rintro _ _ ⟨rfl, rfl⟩
   refine iR ?_
   exact dG tl1086 ⟨s, A, B, C, rfl, rfl, L⟩ lr
   refine Rd2 lr rfl rfl (uQ (r := rGuideRide) (l := y) [_, _, _, _, _, _, _, _, _, _, _] (d ++ (e ++ R)) [[iv a.Train, iv a.On, iv a.Off]] [a] rfl (by decide) sl31 inf86 rfl rfl rfl rfl L rfl (fun w ho => Rd.own (i := 0) ho rfl) ⟨⟨[iv a.Train], _, rfl, rfl, ⟨[iv a.On], _, rfl, rfl, rfl⟩⟩, trivial⟩ W) ?_ ?_
   rintro _ _ ⟨t, rfl, V⟩
   obtain ⟨ab, ac, rfl, _⟩ := V.form
   refine iR<|Da [0] (by kernel_rfl) rfl ?_
   refine Rd2 lr rfl rfl (Stable.does (sL 4 rfl one120 rfl rfl)) ?_ ?_
   rintro _ _ ⟨rfl, rfl⟩
   refine iR<|d_pullb 4 rfl<|d_pullb 4 rfl<|d_pullb 10 rfl<|d_pullb 10 rfl<|d_pullb 10 rfl<|d3 [_, _, _, _, _, _, _, _, _, _, _] t d e R rfl<|d2 [_, _, _, _, _, _, _, _, _, _, _] e t (d ++ R) rfl<|d_out2 [_, _, _, _, _] [_, _, _, _, _, _] t e (d ++ R) rfl<|Da [6] (by kernel_rfl) rfl ?_
   refine Rv lr rfl rfl #[] #[pb K, pb O, pb S, pb H, pb I] [.slice ab (y ++ [a]).length ac] rfl call78 rfl (ih _ _ ad ae af an ao F aq (y ++ [a]) aG K O S H I ag ah ai aj ab ac t g8 e (aN.le (c.trans (g.trans (n.trans (p.trans m))))) (aO.le (c.trans (g.trans (n.trans (p.trans m))))) V (OS.nz V (by simp)) (aL.le m) aR aT aA) ?_ ?_
   rintro _ a9 _ J ⟨aB, aC, D, E, rfl, rfl, aD, aE, aF⟩
   refine iR<|d_in2 [_, _, _, _, _] [_, _, _, _, _, _] D E (d ++ R) rfl<|Ei J (.cons _ (.cons _ (.cons _ (.cons _ (.cons _ (.cons _ (.cons_cons _ (.cons_cons _ (.cons_cons _ (.cons_cons _ (.cons_cons _ (ss D (ss E (.refl _))))))))))))))<|E0 7 rfl (sA rfl)<|Eo<|Dd (by kernel_rfl) ?_
   obtain ⟨rfl, rfl⟩ := some2 hm
   exact jJ ⟨aB, aC, D, E, rfl, rfl, J, aD, aE, aF⟩
   exact Rn
   exact Rn
   exact Rn
   exact Rn
   refine Rd2 lr rfl rfl (u_bslice (el := 86) [(0, .agg #[iv a.Train, iv a.On, iv a.Off])] [iv a.Train, iv a.On, iv a.Off] rfl (fun _ => by kernel_rfl)) ?_ ?_
   rintro _ _ ⟨C, rfl, rfl⟩
   refine iR<|Da [0, 2] (by kernel_rfl) rfl ?_
   refine Rd2 lr rfl rfl (Stable.does (sL 4 rfl one120 rfl rfl)) ?_ ?_
   rintro _ _ ⟨rfl, rfl⟩
   refine iR<|Da [2] (by kernel_rfl) rfl ?_
   refine Rd2 lr rfl rfl (u_callWF [_, _, _, _, _, _, _, _, _, _, _] (d ++ (e ++ R)) _ rfl call56 rfl (fun w ho => cSlicesClone _ [] q A3 c4 (OS.now (o := (OT.fr rGuideRide)) (l := q) (hs := d) (h5.le (c.trans (g.trans (n.trans (p.trans m))))) ho (.cons _ (.cons _ (.cons _ (.cons _ (.cons _ (.cons _ (.cons _ (.cons _ (.cons _ (.cons _ (.cons _ (List.sublist_append_left _ _))))))))))))) y aa)) ?_ ?_
   rintro _ _ ⟨_, _, rfl, A, B, s, rfl, T, X⟩
   obtain rfl := List.append_cancel_right T
   have L := flat_fz (w' := aH.w) (cat_flat (fun _ _ _ _ h => h) (cat_flat (fun _ _ _ _ h => h) (fun _ _ _ _ h => h))) X
   refine iR ?_
   exact dG tl1086 ⟨s, A, B, C, rfl, rfl, L⟩ lr
   exact Rn
   refine Rd2 lr rfl rfl (u_callWF [_, _, _, _, _, _, _, _, _, _, _] (d ++ (e ++ R)) _ rfl call56 rfl (fun w ho => cSlicesClone _ [] q A3 c4 (OS.now (o := (OT.fr rGuideRide)) (l := q) (hs := d) (h5.le (c.trans (g.trans (n.trans (p.trans m))))) ho (.cons _ (.cons _ (.cons _ (.cons _ (.cons _ (.cons _ (.cons _ (.cons _ (.cons _ (.cons _ (.cons _ (List.sublist_append_left _ _))))))))))))) y aa)) ?_ ?_
   rintro _ _ ⟨_, _, rfl, A, B, s, rfl, T, X⟩
   obtain rfl := List.append_cancel_right T
   have L := flat_fz (w' := aH.w) (cat_flat (fun _ _ _ _ h => h) (cat_flat (fun _ _ _ _ h => h) (fun _ _ _ _ h => h))) X
   refine iR ?_
   have W := room_some W
   refine Da [0, 5] (by kernel_rfl) rfl ?_
   refine Rd2 lr rfl rfl (Stable.does (sL 4 rfl one120 rfl rfl)) ?_ ?_
   rintro _ _ ⟨rfl, rfl⟩
   refine iR ?_
   exact dG tl1086 ⟨s, A, B, C, rfl, rfl, L⟩ lr
   refine Rd2 lr rfl rfl (uQ (r := rGuideRide) (l := y) [_, _, _, _, _, _, _, _, _, _, _] (d ++ (e ++ R)) [[iv a.Train, iv a.On, iv a.Off]] [a] rfl (by decide) sl31 inf86 rfl rfl rfl rfl L rfl (fun w ho => Rd.own (i := 0) ho rfl) ⟨⟨[iv a.Train], _, rfl, rfl, ⟨[iv a.On], _, rfl, rfl, rfl⟩⟩, trivial⟩ W) ?_ ?_
   rintro _ _ ⟨t, rfl, V⟩
   obtain ⟨ab, ac, rfl, _⟩ := V.form
   refine iR<|Da [0] (by kernel_rfl) rfl ?_
   refine Rd2 lr rfl rfl (Stable.does (sL 4 rfl one120 rfl rfl)) ?_ ?_
   rintro _ _ ⟨rfl, rfl⟩
   refine iR<|d_pullb 4 rfl<|d_pullb 4 rfl<|d_pullb 10 rfl<|d_pullb 10 rfl<|d_pullb 10 rfl<|d3 [_, _, _, _, _, _, _, _, _, _, _] t d e R rfl<|d2 [_, _, _, _, _, _, _, _, _, _, _] e t (d ++ R) rfl<|d_out2 [_, _, _, _, _] [_, _, _, _, _, _] t e (d ++ R) rfl<|Da [6] (by kernel_rfl) rfl ?_
   refine Rv lr rfl rfl #[] #[pb K, pb O, pb S, pb H, pb I] [.slice ab (y ++ [a]).length ac] rfl call78 rfl (ih _ _ ad ae af an ao F aq (y ++ [a]) aG K O S H I ag ah ai aj ab ac t g8 e (aN.le (c.trans (g.trans (n.trans (p.trans m))))) (aO.le (c.trans (g.trans (n.trans (p.trans m))))) V (OS.nz V (by simp)) (aL.le m) aR aT aA) ?_ ?_
   rintro _ a9 _ J ⟨aB, aC, D, E, rfl, rfl, aD, aE, aF⟩
   refine iR<|d_in2 [_, _, _, _, _] [_, _, _, _, _, _] D E (d ++ R) rfl<|Ei J (.cons _ (.cons _ (.cons _ (.cons _ (.cons _ (.cons _ (.cons_cons _ (.cons_cons _ (.cons_cons _ (.cons_cons _ (.cons_cons _ (ss D (ss E (.refl _))))))))))))))<|E0 7 rfl (sA rfl)<|Eo<|Dd (by kernel_rfl) ?_
   obtain ⟨rfl, rfl⟩ := some2 hm
   exact jJ ⟨aB, aC, D, E, rfl, rfl, J, aD, aE, aF⟩
   exact Rn
   exact Rn
   exact Rn
   exact Rn
   exact Rn
   rintro aK _ _ ⟨ar, az, G, z, rfl, rfl, am, bK, aM, ba⟩
   have hm := (unc2E bh)
   refine Cr<|mV rfl<|tS (st_neqnil_z rfl rfl aM sl31)<|Te ?_
   refine cM hm rfl (fun hm => ?_) fun hm => ?_
   refine Cr<|mV rfl<|tD (uS 0 rfl rfl siz31 rfl rfl (by simp)) ?_
   rintro _ _ rfl
   refine Te<|Ct<|Xb<|x_leaveR 8 rfl am<|Ct<|Xb<|Xr ?_
   have bi := aX _ (Option.some.inj hm).symm
   rw [bi] at aJ
   have hm := elimR aJ
   obtain ⟨rfl, rfl⟩ := some2 hm
   refine Xp 2 rfl<|Xp 2 rfl<|Xp 7 rfl<|Xp 7 rfl<|Xp 7 rfl<|X3 [_, _, _, _, _, _, _, _] G d z R rfl<|X2 [_, _, _, _, _, _, _, _] z G (d ++ R) rfl ?_
   exact rM (rs := [.cell 7 31]) (vs := [sv ar ay az]) ⟨⟨_, rfl, fun w ho => cell_one 5 one31 rfl rfl w ho⟩, trivial⟩ ⟨ar, az, G, z, rfl, rfl, bK, aM, ba⟩ (.cons_cons _ (.cons_cons _ (.cons_cons _ (.cons_cons _ (.cons_cons _ (.cons _ (.cons _ (.cons _ (sp G (sp z (ss d (.refl _)))))))))))) (c.trans (g.trans (n.trans (p.trans (m.trans am)))))
   refine Ck<|Xm<|Xp 7 rfl<|Xp 7 rfl<|Xp 7 rfl<|Xp 7 rfl<|Xp 4 rfl<|Xp 7 rfl<|Xp 7 rfl<|Xp 7 rfl ?_
   refine X3 [_, _, _, _, _, _, _, _, _] G d z R rfl<|X3 [_, _, _, _, _, _, _, _, _] z G d R rfl ?_
   exact x_round 8 rfl am (.cons_cons _ (.cons_cons _ (.cons_cons _ (.cons_cons _ (.cons_cons _ (.cons_cons _ (.cons_cons _ (.cons_cons _ (sp d (sp z (ss G (.refl _)))))))))))) ⟨a7, (Option.some.inj hm).symm, ⟨z, rfl, (p.trans (m.trans am)), ba⟩⟩
   rintro aG aV _ ⟨e, rfl, p, aL⟩ bj
   rw [bj] at aJ
   have hm := elimL aJ
   refine Xm<|Xn<|Cr<|tS (sL 0 rfl one136 rfl rfl)<|tS (sD (vs := [_, _, _]) 4 3 rfl agg138 rfl rfl rfl)<|t_front2 [_, _, _, _, _, _, _, _] d e R rfl<|tD (u_mputF (k := [f.Train, f.Off, F - (q.length : Int)]) kok138 [_, _, _, _, _, _, _, _] [] (d ++ R) rfl aL mapt136 rfl rfl rfl (⟨[iv f.Train, iv f.Off, iv (F - (q.length : Int))], rfl, ⟨rfl, [[iv f.Train], [iv f.Off], [iv (F - (q.length : Int))]], rfl, ⟨rfl, ⟨rfl, ⟨rfl, trivial⟩⟩⟩⟩⟩) ⟨rfl, rfl⟩ _ (.inl rfl)) ?_
   rintro _ _ ⟨aW, rfl, bM, bL⟩
   refine Te<|Cr<|tD (uS 3 rfl rfl siz31 rfl rfl (by simp)) ?_
   rintro _ _ rfl
   refine Te<|Ct ?_
   obtain ⟨rfl, rfl⟩ := some2 hm
   refine Xp 1 rfl<|Xp 1 rfl<|Xp 7 rfl<|Xp 7 rfl<|Xp 7 rfl ?_
   exact rM (rs := [.cell 7 31]) (vs := [sn]) ⟨⟨_, rfl, fun w ho => cell_one 6 one31 rfl rfl w ho⟩, trivial⟩ ⟨none, 0, [], aW, rfl, rfl, OS.nil, ⟨fun _ => rfl, fun _ => rfl⟩, bL⟩ (.cons_cons _ (.cons_cons _ (.cons_cons _ (.cons_cons _ (.cons_cons _ (.cons _ (.cons _ (.cons _ (sp aW (ss d (.refl _))))))))))) (c.trans (g.trans (n.trans p)))

set_option maxRecDepth 20000 in
theorem cGuideNetLeastOf (b : Base) (R : Hp) (u : GuideNet) (x8 x9) (j : GuidePoint) (A2 c3 A5 c6) (h4 : FZ rApiTrain b.w A2 c3 u.Day.Trains) (h7 : FZ (RT.list rI) b.w A5 c6 u.Day.Turns) (p) (hm : mGuideNetLeastOf u x8 x9 j = some p):
    CallsG Tryd.prog 45 [.agg #[sv A2 u.Day.Trains c3, sv A5 u.Day.Turns c6, iv u.least], iv x8, iv x9, .agg #[iv j.Dep, iv j.Arr, iv j.Rides]] b (R) (fun v b' hp' => ∃ F O G, .agg #[sv F p O] = v ∧ (G ++ R) = hp' ∧ OS 86 (OT.fr rGuideRide) b'.w (sv F p O) p G ∧ (F = none ↔ p = [])) := by
 refine fE 37 Tryd.func45 rfl Tryd.ntmps45 rfl ?_
 unfold mGuideNetLeastOf at hm
 refine Cr<|tD (uB _ rfl rfl) ?_
 rintro _ _ ⟨q, rfl, rfl⟩
 refine tD (uB _ rfl rfl) ?_
 rintro _ _ ⟨y, rfl, rfl⟩
 refine tD (uB _ rfl rfl) ?_
 rintro _ _ ⟨r, rfl, rfl⟩
 refine tD (uA [sn] zero33 rfl) ?_
 rintro _ _ ⟨S, rfl, rfl⟩
 refine Te<|Cr<|tD (u_mmap (RT.arr 3 rI) (OT.fr RT.bool) true false [_, _, _, _] R rfl) ?_
 rintro _ _ ⟨H, Z, rfl, rfl, ae⟩
 refine tD (uA [.map none] zero136 rfl) ?_
 rintro _ _ ⟨z, rfl, rfl⟩
 refine tD (uS 0 rfl rfl siz136 rfl rfl (by simp)) ?_
 rintro _ _ rfl
 refine Te<|Cr<|tD (uA [.nilFunc] zero120 rfl) ?_
 rintro _ _ ⟨s, rfl, rfl⟩
 refine Te<|Cr<|tS (st_func _ _ rfl rfl)<|tD (uS 0 rfl rfl siz120 rfl rfl (by simp)) ?_
 rintro _ _ rfl
 refine Te<|Cs<|Cr<|tS (sD (vs := [_, _, _]) 5 3 rfl agg91 rfl rfl rfl)<|mV rfl<|tS (sF rfl fld42_0)<|tS (sL 3 rfl one3 rfl rfl) ?_
 obtain ⟨af, K, hm⟩ := bS hm
 refine Tg _ rfl call54 rfl (cGuideNetRides _ _ u x8 j.Dep (-1) A2 c3 A5 c6 h4 h7 af K) ?_
 rintro _ ag _ g ⟨an, rfl, rfl, ah⟩
 refine Te<|Cb ?_
 obtain ⟨ao, aa, n⟩ := bS hm
 refine Cp 1 rfl<|Cp 4 rfl<|Cp 2 rfl<|Cp 3 rfl<|Cp 4 rfl<|Cp 5 rfl ?_
 have ab := (ae.le g)
 refine c_rangeM (fun x : GuideRide => (.agg #[iv x.Train, iv x.On, iv x.Off] : Value)) (fun t => fun A hp' => ∃ f, (q, Cl 91 [sv A2 u.Day.Trains c3, sv A5 u.Day.Turns c6, iv u.least]) :: (r, Cl 42 [iv j.Dep, iv j.Arr, iv j.Rides]) :: (S, Cl 33 [sn]) :: (s, Cl 120 [.func (.func 78) #[] #[pb q, pb r, pb y, pb z, pb s]]) :: (y, Cl 3 [iv x9]) :: (z, Cl 136 [.map (some H)]) :: (f ++ R) = hp' ∧ ag.Le A ∧ OM (RT.arr 3 rI) (OT.fr RT.bool) true false A.w H t f) rfl ah aa (e' := [(4, pb q), (7, pb r), (8, pb S), (10, pb s)]) ⟨rfl, rfl, rfl, rfl, trivial⟩ (.refl _) rfl (fun dk hdk => ⟨Z, rfl, Base.Le.dks hdk, ab⟩) ?_ ?_ (fun x hx => g.dk x hx)
 rintro aq ar a t A au _ am ⟨f, rfl, d, I⟩ e k E
 unfold mGuideNetLeastOf_L166 at k
 have hm := k
 refine Cg<|tD (uA [iv 0, iv 0, iv 0] zero86 rfl) ?_
 rintro _ _ ⟨av, rfl, rfl⟩
 refine tD (uN (vs := [_, _, _]) 0 3 rfl rfl rfl siz86 rfl (mc rfl (mc rfl (mc rfl mn))) rfl (by simp)) ?_
 rintro _ _ rfl
 refine Tn<|x_begin 1 rfl<|Cb<|Cs<|Cs ?_
 obtain ⟨⟨T, U, V, W⟩, L, hm⟩ := bS hm
 have hm := (unc4E hm)
 refine Di mixed (.refl _)<|Es 0 rfl (sD (vs := [_, _, _]) 2 3 rfl agg91 rfl rfl rfl)<|Es 1 rfl (sD (vs := [_, _, _]) 1 3 rfl agg86 rfl rfl rfl)<|E0 4 rfl (sF rfl fld42_0)<|Es 5 rfl (sL 3 rfl one3 rfl rfl)<|Eo<|Da [2] (by kernel_rfl) rfl ?_
 refine Rg lr rfl rfl _ call60 rfl (cGuideNetOn _ _ u a A2 c3 A5 c6 (h4.le (g.trans (d.trans e))) (h7.le (g.trans (d.trans e))) T U V W L) ?_ ?_
 rintro _ ai _ c ⟨rfl, rfl⟩
 refine iR<|Ei c (.refl _)<|E0 3 rfl (st_vfield1 (cs := [iv T, iv U, iv V, iv W]) rfl fdv83_3 one3 rfl)<|E0 6 rfl (q2 rfl rfl)<|Eo<|Dd (by kernel_rfl)<|Xn ?_
 refine cI hm rfl (fun hm => ?_) fun hm => ?_
 refine Ce<|Xe<|Xo<|Xp 7 rfl<|Xp 7 rfl<|Xp 7 rfl<|Xp 7 rfl<|Xp 7 rfl<|Xp 7 rfl ?_
 exact x_round 6 rfl c (.cons_cons _ (.cons_cons _ (.cons_cons _ (.cons_cons _ (.cons_cons _ (.cons_cons _ (.cons _ (.refl _)))))))) ⟨t, (Option.some.inj hm).symm, ⟨f, rfl, (d.trans (e.trans c)), (I.le (e.trans c))⟩⟩
 refine Ck<|Xn<|Cr<|tS (sL 5 rfl one120 rfl rfl)<|tS (sD (vs := [_, _, _]) 1 3 rfl agg86 rfl rfl rfl)<|tD (u_bslice (el := 86) [(0, .agg #[iv a.Train, iv a.On, iv a.Off])] [iv a.Train, iv a.On, iv a.Off] rfl (fun _ => by kernel_rfl)) ?_
 rintro _ _ ⟨h, rfl, rfl⟩
 refine t_seg 0 [_, _, _, _, _, _, _, _] (f ++ R) rfl rfl ?_
 have aj : OS 86 (OT.fr rGuideRide) ai.w (.slice (some ⟨h, 0, none⟩) 1 1) [a] [(h, Cl 86 [iv a.Train, iv a.On, iv a.Off])] := OS.lit [[iv a.Train, iv a.On, iv a.Off]] rfl ⟨⟨[iv a.Train], _, rfl, rfl, ⟨[iv a.On], _, rfl, rfl, rfl⟩⟩, trivial⟩ rfl (by decide)
 obtain ⟨⟨B, X⟩, o, hm⟩ := bS hm
 obtain ⟨J, o⟩ := lim_some o
 have hm := (unc2E hm)
 refine t_pullb 5 rfl<|t_pullb 7 rfl<|t_pullb 7 rfl<|t_pullb 6 rfl<|t_pullb 6 rfl<|t_front2 [_, _, _, _, _, _, _, _] [(h, Cl 86 [iv a.Train, iv a.On, iv a.Off])] f R rfl<|t_front2 [_, _, _, _, _, _, _, _] f [(h, Cl 86 [iv a.Train, iv a.On, iv a.Off])] R rfl<|t_out2 [_, _, _, _, _] [_, _, _] [(h, Cl 86 [iv a.Train, iv a.On, iv a.Off])] f R rfl<|Tv #[] #[pb q, pb r, pb y, pb z, pb s] [.slice (some ⟨h, 0, none⟩) ([a]).length 1] rfl rfl call78 rfl (cGuideNetLeastOf_1 J _ _ u.Day.Trains u.Day.Turns u.least j.Dep j.Arr j.Rides x9 [a] t q r y z s A2 c3 A5 c6 (some ⟨h, 0, none⟩) 1 [(h, Cl 86 [iv a.Train, iv a.On, iv a.Off])] H f (h4.le (g.trans (d.trans (e.trans c)))) (h7.le (g.trans (d.trans (e.trans c)))) aj ⟨nofun, nofun⟩ (I.le (e.trans c)) B X o) ?_
 rintro _ aw _ i ⟨C, D, l, m, rfl, rfl, ak, Y, al⟩
 refine t_in2 [_, _, _, _, _] [_, _, _] l m R rfl<|aS rfl<|Te<|Cr<|mV rfl<|tS (st_neqnil_z rfl rfl Y sl31)<|Te ?_
 refine cM hm rfl (fun hm => ?_) fun hm => ?_
 refine Cr<|mV rfl<|tS (sB (v := .agg #[sv C B D]) [(0, sv C B D)] rfl (fun _ => by kernel_rfl))<|tD (uN (vs := [_]) 7 1 rfl rfl rfl siz33 rfl (mc rfl mn) rfl (by simp)) ?_
 rintro _ _ rfl
 refine Te<|Ct<|Xb<|x_leaveR 5 rfl (c.trans i)<|Ct<|Xb<|Xr ?_
 have ac := E _ (Option.some.inj hm).symm
 rw [ac] at n
 have hm := elimR n
 obtain rfl := o1 hm
 exact rM (rs := [.cell 8 33]) (vs := [.agg #[sv C B D]]) ⟨⟨_, rfl, fun w ho => cell_agg (vs := [_]) 6 1 agg33 rfl rfl rfl w ho⟩, trivial⟩ ⟨C, D, l, rfl, rfl, ak, Y⟩ (.cons _ (.cons _ (.cons _ (.cons _ (.cons _ (.cons _ (.cons _ (sp l (ss m (.refl _)))))))))) (g.trans (d.trans (e.trans (c.trans i))))
 refine Ck<|Xm<|Xp 3 rfl<|Xp 3 rfl<|Xp 4 rfl<|Xp 7 rfl<|Xp 5 rfl<|Xp 5 rfl<|X2 [_, _, _, _, _, _, _, _] l m R rfl ?_
 exact x_round 6 rfl (c.trans i) (.cons_cons _ (.cons_cons _ (.cons_cons _ (.cons_cons _ (.cons_cons _ (.cons_cons _ (.cons _ (sp m (ss l (.refl _)))))))))) ⟨X, (Option.some.inj hm).symm, ⟨m, rfl, (d.trans (e.trans (c.trans i))), al⟩⟩
 exact Rn
 rintro t A _ ⟨f, rfl, d, I⟩ ad
 rw [ad] at n
 have hm := elimL n
 refine Xm<|Xn<|Cr<|tS (sB (v := .agg #[sn]) [] rfl (fun _ => by kernel_rfl))<|tD (uN (vs := [_]) 2 1 rfl rfl rfl siz33 rfl (mc rfl mn) rfl (by simp)) ?_
 rintro _ _ rfl
 refine Te<|Ct ?_
 obtain rfl := o1 hm
 exact rM (rs := [.cell 8 33]) (vs := [.agg #[sn]]) ⟨⟨_, rfl, fun w ho => cell_agg (vs := [_]) 2 1 agg33 rfl rfl rfl w ho⟩, trivial⟩ ⟨none, 0, [], rfl, rfl, OS.nil, ⟨fun _ => rfl, fun _ => rfl⟩⟩ (.cons _ (.cons _ (.cons _ (.cons _ (.cons _ (.cons _ (ss f (.refl _)))))))) (g.trans d)

set_option maxRecDepth 20000 in
theorem cGuideNetEarliest (b : Base) (R : Hp) (m : GuideNet) (L V j O S T U) (h4 : FZ rApiTrain b.w O S m.Day.Trains) (h7 : FZ (RT.list rI) b.w T U m.Day.Turns) (z f) (hm : mGuideNetEarliest m L V j = some (z, f)):
    CallsG Tryd.prog 37 [.agg #[sv O m.Day.Trains S, sv T m.Day.Turns U, iv m.least], iv L, iv V, iv j] b (R) (fun v b' hp' => ∃ q A n, .tuple #[.agg #[sv q f A], bv z] = v ∧ (n ++ R) = hp' ∧ OS 86 (OT.fr rGuideRide) b'.w (sv q f A) f n ∧ (q = none ↔ f = [])) := by
 refine fE 29 Tryd.func37 rfl Tryd.ntmps37 rfl ?_
 unfold mGuideNetEarliest at hm
 refine Cr<|tD (uB _ rfl rfl) ?_
 rintro _ _ ⟨af, rfl, rfl⟩
 refine tD (uB _ rfl rfl) ?_
 rintro _ _ ⟨W, rfl, rfl⟩
 refine tD (uA [sn] zero33 rfl) ?_
 rintro _ _ ⟨ag, rfl, rfl⟩
 refine aS rfl<|Te<|Cr<|tS (sD (vs := [_, _, _]) 2 3 rfl agg91 rfl rfl rfl)<|mV rfl<|mV rfl ?_
 obtain ⟨X, r, hm⟩ := bS hm
 refine Tg _ rfl call39 rfl (cGuideNetPoints _ _ m L j O S T U h4 h7 X r) ?_
 rintro _ ah _ a ⟨B, C, g, rfl, rfl, Y⟩
 refine t_in1 [] [_, _, _] g R rfl<|tS (st_func _ _ rfl rfl) ?_
 obtain ⟨s, hp75, D, Z⟩ := OSP.ex Y
 have hm := ordM_some hm s hp75
 refine Tr 15 rfl (v' := sv B s C) (by show Value.slice _ _ _ = Value.slice _ _ _; rw [D]) ?_
 obtain ⟨t, u, hm⟩ := bS hm
 refine t_pullb 1 rfl<|t_out1 [_] [_, _] g R rfl<|Tg _ rfl call38 rfl (cSlicesDeleteFunc _ _ V s W B C g Z t u) ?_
 rintro _ ai _ c ⟨aa, ab, h, rfl, rfl, ac⟩
 refine t_in1 [_] [_, _] h R rfl<|aS rfl<|Te<|Cs<|Cr<|mV rfl<|tS (sE rfl sl38)<|tS (q1 rfl rfl)<|Te ?_
 refine cI hm rfl (fun hm => ?_) fun hm => ?_
 refine Cr<|tS (sB (v := .agg #[sn]) [] rfl (fun _ => by kernel_rfl))<|tD (uN (vs := [_]) 1 1 rfl rfl rfl siz33 rfl (mc rfl mn) rfl (by simp)) ?_
 rintro _ _ rfl
 refine aS rfl<|Te<|Ct<|Xr ?_
 obtain ⟨rfl, rfl⟩ := some2 hm
 exact rM (rs := [.cell 8 33, .tmp 9]) (vs := [.agg #[sn], bv false]) ⟨⟨_, rfl, fun w ho => cell_agg (vs := [_]) 1 1 agg33 rfl rfl rfl w ho⟩, ⟨rfl, trivial⟩⟩ ⟨none, 0, [], rfl, rfl, OS.nil, ⟨fun _ => rfl, fun _ => rfl⟩⟩ (.cons _ (.cons _ (.cons _ (ss h (.refl _))))) (a.trans c)
 refine Ck<|Xn<|Cr<|mV rfl<|t_frz [_, _, _] h R rfl ?_
 intro aj d E
 have ad := OS.frz (l := t) ac d.cells E
 obtain ⟨⟨F, G, H⟩, x, hm⟩ := bS hm
 have hm := (unc3E hm)
 refine Tg _ rfl call41 rfl (cSlicesMinFunc _ _ t aa ab ad F G H x) ?_
 rintro _ ak _ e ⟨rfl, rfl⟩
 refine tD (uA [iv 0, iv 0, iv 0] zero42 rfl) ?_
 rintro _ _ ⟨al, rfl, rfl⟩
 refine tD (uN (vs := [_, _, _]) 0 3 rfl rfl rfl siz42 rfl (mc rfl (mc rfl (mc rfl mn))) rfl (by simp)) ?_
 rintro _ _ rfl
 refine Te<|Cr<|tS (sD (vs := [_, _, _]) 3 3 rfl agg91 rfl rfl rfl)<|mV rfl<|mV rfl<|tS (sD (vs := [_, _, _]) 0 3 rfl agg42 rfl rfl rfl) ?_
 obtain ⟨I, y, hm⟩ := bS hm
 refine Tg _ rfl call45 rfl (cGuideNetLeastOf _ _ m L j (⟨F, G, H⟩ : GuidePoint) O S T U (h4.le (a.trans (c.trans (d.trans e)))) (h7.le (a.trans (c.trans (d.trans e)))) I y) ?_
 rintro _ ae _ k ⟨o, p, i, rfl, rfl, J, K⟩
 refine t_in1 [] [_, _, _, _] i R rfl<|tD (uN (vs := [_]) 2 1 rfl rfl rfl siz33 rfl (mc rfl mn) rfl (by simp)) ?_
 rintro _ _ rfl
 refine aS rfl<|Te<|Ct ?_
 obtain ⟨rfl, rfl⟩ := some2 hm
 exact rM (rs := [.cell 8 33, .tmp 9]) (vs := [.agg #[sv o I p], bv true]) ⟨⟨_, rfl, fun w ho => cell_agg (vs := [_]) 2 1 agg33 rfl rfl rfl w ho⟩, ⟨rfl, trivial⟩⟩ ⟨o, p, i, rfl, rfl, J, K⟩ (.cons _ (.cons _ (.cons _ (.cons _ (.refl _))))) (a.trans (c.trans (d.trans (e.trans k))))

set_option maxRecDepth 20000 in
theorem cGuideEarliest (b : Base) (R : Hp) (hG : GOn GT b) (f : ApiDay) (C c j e q r s t) (H : FZ rApiTrain b.w q r f.Trains) (I : FZ (RT.list rI) b.w s t f.Turns) (u g) (hm : mGuideEarliest f C c j e = some (u, g)):
    CallsG Tryd.prog 12 [.agg #[sv q f.Trains r, sv s f.Turns t], iv C, iv c, iv j, iv e] b (R) (fun v b' hp' => ∃ m x k, .tuple #[.agg #[sv m g x], iv u] = v ∧ (k ++ R) = hp' ∧ OS 86 (OT.fr rGuideRide) b'.w (sv m g x) g k ∧ (m = none ↔ g = [])) := by
 refine fE 40 Tryd.func12 rfl Tryd.ntmps12 rfl ?_
 unfold mGuideEarliest at hm
 refine Cr<|tD (uB _ rfl rfl) ?_
 rintro _ _ ⟨J, rfl, rfl⟩
 refine tD (uA [sn] zero33 rfl) ?_
 rintro _ _ ⟨K, rfl, rfl⟩
 refine aS rfl<|Te<|Cs<|Cr<|tS (sD (vs := [_, _]) 1 2 rfl agg25 rfl rfl rfl)<|mV rfl<|mV rfl<|mV rfl<|mV rfl<|tD (u_bslice (el := 3) [(0, iv c)] [iv c] rfl (fun _ => by kernel_rfl)) ?_
 rintro _ _ ⟨a, rfl, rfl⟩
 refine t_seg 0 [_, _] R rfl rfl ?_
 have D : OS 3 (OT.fr rI) b.w (.slice (some ⟨a, 0, none⟩) 1 1) [c] [(a, Cl 3 [iv c])] := OS.lit [[iv c]] rfl ⟨rfl, trivial⟩ rfl (by decide)
 obtain ⟨y, n, hm⟩ := bS hm
 refine tD (uW _ call36 rfl (fun w ho => cGuideCheck_2 _ [] ((hG.le lr).old ho) f e C j [c] q r s t (some ⟨a, 0, none⟩) 1 (H.old ho) (I.old ho) (OS.now (o := (OT.fr rI)) (l := [c]) (hs := [(a, Cl 3 [iv c])]) D ho (.cons _ (.cons _ (List.sublist_append_left _ _)))) y n) (fun _ _ _ h => h.2.symm)) ?_
 rintro _ _ ⟨⟨_, rfl, _⟩, rfl⟩
 refine aS rfl<|Te<|Cr<|mV rfl<|tS (q2 rfl rfl)<|Te ?_
 refine cI hm rfl (fun hm => ?_) fun hm => ?_
 refine Cr<|tS (sB (v := .agg #[sn]) [] rfl (fun _ => by kernel_rfl))<|mV rfl<|tD (uN (vs := [_]) 0 1 rfl rfl rfl siz33 rfl (mc rfl mn) rfl (by simp)) ?_
 rintro _ _ rfl
 refine aS rfl<|Te<|Ct<|Xr ?_
 obtain ⟨rfl, rfl⟩ := some2 hm
 exact rM (rs := [.cell 10 33, .tmp 11]) (vs := [.agg #[sn], iv y]) ⟨⟨_, rfl, fun w ho => cell_agg (vs := [_]) 0 1 agg33 rfl rfl rfl w ho⟩, ⟨rfl, trivial⟩⟩ ⟨none, 0, [], rfl, rfl, OS.nil, ⟨fun _ => rfl, fun _ => rfl⟩⟩ (.cons _ (.cons _ (ss [(a, Cl 3 [iv c])] (.refl _)))) lr
 refine Ck<|Xn<|Cr<|tS (sD (vs := [_, _]) 1 2 rfl agg25 rfl rfl rfl)<|mV rfl<|tS (sB (v := .agg #[sv q f.Trains r, sv s f.Turns t, iv e]) [(0, .agg #[sv q f.Trains r, sv s f.Turns t]), (1, iv e)] rfl (fun _ => by kernel_rfl))<|mV rfl<|mV rfl<|mV rfl ?_
 obtain ⟨⟨E, z⟩, p, hm⟩ := bS hm
 have hm := (unc2E hm)
 refine Tg _ rfl call37 rfl (cGuideNetEarliest _ _ (⟨f, e⟩ : GuideNet) C c j q r s t H I E z p) ?_
 rintro _ L _ i ⟨A, B, d, rfl, rfl, F, G⟩
 refine t_in1 [] [_, _] d ([(a, Cl 3 [iv c])] ++ R) rfl<|mV rfl<|tS (st_extract rfl rfl)<|tS (st_extract rfl rfl)<|tD (uA [sn] zero33 rfl) ?_
 rintro _ _ ⟨O, rfl, rfl⟩
 refine tD (uN (vs := [_]) 0 1 rfl rfl rfl siz33 rfl (mc rfl mn) rfl (by simp)) ?_
 rintro _ _ rfl
 refine aS rfl<|Te<|Cs<|Cr<|mV rfl<|tS (sn2 rfl)<|Te ?_
 refine cM hm rfl (fun hm => ?_) fun hm => ?_
 refine Cr<|tS (sB (v := .agg #[sn]) [] rfl (fun _ => by kernel_rfl))<|tD (uN (vs := [_]) 1 1 rfl rfl rfl siz33 rfl (mc rfl mn) rfl (by simp)) ?_
 rintro _ _ rfl
 refine aS rfl<|Te<|Ct<|Xr ?_
 obtain ⟨rfl, rfl⟩ := some2 hm
 exact rM (rs := [.cell 10 33, .tmp 11]) (vs := [.agg #[sn], iv 9]) ⟨⟨_, rfl, fun w ho => cell_agg (vs := [_]) 1 1 agg33 rfl rfl rfl w ho⟩, ⟨rfl, trivial⟩⟩ ⟨none, 0, [], rfl, rfl, OS.nil, ⟨fun _ => rfl, fun _ => rfl⟩⟩ (.cons _ (.cons _ (.cons _ (ss d (ss [(a, Cl 3 [iv c])] (.refl _)))))) i
 refine Ck<|Xn<|Cr<|tS (sD (vs := [_]) 0 1 rfl agg33 rfl rfl rfl)<|tD (uN (vs := [_]) 1 1 rfl rfl rfl siz33 rfl (mc rfl mn) rfl (by simp)) ?_
 rintro _ _ rfl
 refine aS rfl<|Te<|Ct ?_
 obtain ⟨rfl, rfl⟩ := some2 hm
 exact rM (rs := [.cell 10 33, .tmp 11]) (vs := [.agg #[sv A z B], iv 0]) ⟨⟨_, rfl, fun w ho => cell_agg (vs := [_]) 1 1 agg33 rfl rfl rfl w ho⟩, ⟨rfl, trivial⟩⟩ ⟨A, B, d, rfl, rfl, F, G⟩ (.cons _ (.cons _ (.cons _ (sp d (ss [(a, Cl 3 [iv c])] (.refl _)))))) i

set_option maxRecDepth 20000 in
theorem cSlicesEqual (b : Base) (R : Hp) (D J K L O S) (X : FZ rGuideRide b.w K L D) (Z : FZ rGuideRide b.w O S J) (q) (hm : mSlicesEqual D J = some q):
    CallsG Tryd.prog 33 [sv K D L, sv O J S] b (R) (fun v b' hp' => bv q = v ∧ R = hp') := by
 refine fE 26 Tryd.func33 rfl Tryd.ntmps33 rfl ?_
 unfold mSlicesEqual at hm
 refine Cr<|aS rfl<|Te<|Cs<|Cr<|mV rfl<|tS (sE rfl sl31)<|mV rfl<|tS (sE rfl sl31)<|tS (q2 rfl rfl) ?_
 refine Te ?_
 refine cI hm rfl (fun hm => ?_) fun hm => ?_
 refine Cr<|aS rfl<|Te<|Ct<|Xr ?_
 obtain rfl := o1 hm
 exact rO ⟨rfl, rfl⟩ lr
 refine Ck<|Xn<|Cs<|Cr<|mV rfl<|tS (sE rfl sl31)<|mV rfl<|Te<|Cb ?_
 have T : D.length ≤ 9223372036854775807 := (FZ.bd X)
 obtain ⟨Y, s, f⟩ := bS hm
 refine lF (fun r => fun _ => fun h e' hp' => [(0, sv K D L), (1, sv O J S), (12, iv ((D.length : Int))), (13, iv ((r : Int)))] = e' ∧ R = hp' ∧ b.Le h) s ⟨rfl, rfl, lr⟩ ?_ ?_
 rintro r _ h _ _ U E ⟨rfl, rfl, a⟩ e g
 unfold mSlicesEqual_L104 at e
 have hm := e
 refine Cr<|tS (lT rfl rfl (by omega))<|Te<|Cs<|c_cond_t rfl<|Ck<|Xn<|Cs<|Cb<|Cr ?_
 refine mV rfl<|aS rfl<|Te<|Cs ?_
 obtain ⟨c, F, hm⟩ := bS hm
 obtain ⟨d, G, hm⟩ := bS hm
 refine Di mixed (.refl _)<|E0 0 rfl (sM rfl)<|E0 1 rfl (sM rfl) ?_
 obtain ⟨H, t, w⟩ := iS F
 obtain ⟨V, x, l, i, m⟩ := FZ.get (sz := 3) rfl (by decide) (X.le a) w
 obtain ⟨_, _, rfl, rfl, ⟨_, _, rfl, rfl, rfl⟩⟩ := x
 refine E0 2 rfl (sI H rfl rfl t m i sl31)<|Es 3 rfl (sP (vs := [iv c.Train, iv c.On, iv c.Off]) 3 rfl agg86 i rfl (fun j u hu => l j u hu))<|E0 4 rfl (sM rfl)<|E0 5 rfl (sM rfl) ?_
 obtain ⟨I, y, z⟩ := iS G
 obtain ⟨W, A, n, k, o⟩ := FZ.get (sz := 3) rfl (by decide) (Z.le a) z
 obtain ⟨_, _, rfl, rfl, ⟨_, _, rfl, rfl, rfl⟩⟩ := A
 refine E0 6 rfl (sI I rfl rfl y o k sl31)<|Es 7 rfl (sP (vs := [iv d.Train, iv d.On, iv d.Off]) 3 rfl agg86 k rfl (fun j u hu => n j u hu))<|E0 8 rfl (st_neqA (xs := [iv c.Train, iv c.On, iv c.Off]) (ys := [iv d.Train, iv d.On, iv d.Off]) (p := c.Train = d.Train ∧ c.On = d.On ∧ c.Off = d.Off) rfl rfl eqt86 ⟨⟨_, rfl⟩, ⟨⟨_, rfl⟩, ⟨⟨_, rfl⟩, trivial⟩⟩⟩ ⟨⟨_, rfl⟩, ⟨⟨_, rfl⟩, ⟨⟨_, rfl⟩, trivial⟩⟩⟩ (by simp [eqCells, eqCell, Bool.decide_and, beq_dec]))<|Eo<|Dd (by kernel_rfl)<|Xn ?_
 refine cN hm rfl (fun hm => ?_) fun hm => ?_
 refine Cr<|aS rfl<|Te<|Ct<|Xb<|Xr<|Xr<|Xb<|Xr ?_
 have B := g _ (Option.some.inj hm).symm
 rw [B] at f
 have hm := elimR f
 obtain rfl := o1 hm
 exact rO ⟨rfl, rfl⟩ a
 refine Ck<|Xm<|Xn<|Cg<|tS (sa rfl rfl (by omega))<|mV rfl<|Tn ?_
 exact jM hm ⟨rfl, rfl, (a)⟩
 rintro _ h _ _ ⟨rfl, rfl, a⟩ C
 rw [C] at f
 have hm := elimL f
 refine Cr<|tS (lF rfl rfl (by omega))<|Te<|Cs<|c_cond_f rfl<|Ce<|Xe<|Xe<|Xo<|Xn ?_
 refine Cr<|aS rfl<|Te<|Ct ?_
 obtain rfl := o1 hm
 exact rO ⟨rfl, rfl⟩ a

set_option maxRecDepth 20000 in
theorem cFishkeep2Guides (b : Base) (R : Hp) (hG : GOn GT b) (z) (hm : mFishkeep2Guides = some z):
    CallsG Tryd.prog 8 [] b (R) (fun v b' hp' => bv z = v ∧ R = hp') := by
 refine fE 26 Tryd.func8 rfl Tryd.ntmps8 rfl ?_
 unfold mFishkeep2Guides at hm
 refine Cr<|aS rfl<|Te<|Cr<|tS (sB (v := .agg #[iv 0, iv 0, iv 5, iv 5]) [(2, iv 5), (3, iv 5)] rfl (fun _ => by kernel_rfl))<|tS (sB (v := .agg #[iv 1, iv 0, iv 9, iv 9]) [(0, iv 1), (2, iv 9), (3, iv 9)] rfl (fun _ => by kernel_rfl))<|tD (u_bslice (el := 83) [(0, .agg #[iv 0, iv 0, iv 5, iv 5]), (1, .agg #[iv 1, iv 0, iv 9, iv 9])] [iv 0, iv 0, iv 5, iv 5, iv 1, iv 0, iv 9, iv 9] rfl (fun _ => by kernel_rfl)) ?_
 rintro _ _ ⟨a, rfl, rfl⟩
 refine tD (u_bslice (el := 3) [(0, iv 0)] [iv 0] rfl (fun _ => by kernel_rfl)) ?_
 rintro _ _ ⟨c, rfl, rfl⟩
 refine t_seg 0 [_] R rfl rfl ?_
 have I : OS 3 (OT.fr rI) b.w (.slice (some ⟨c, 0, none⟩) 1 1) [0] [(c, Cl 3 [iv 0])] := OS.lit [[iv 0]] rfl ⟨rfl, trivial⟩ rfl (by decide)
 refine tD (u_bslice (el := 49) [(0, .slice (some ⟨c, 0, none⟩) ([0]).length 1)] [.slice (some ⟨c, 0, none⟩) ([0]).length 1] rfl (fun _ => by kernel_rfl)) ?_
 rintro _ _ ⟨d, rfl, rfl⟩
 refine tS (sB (v := .agg #[iv 1, iv 0, .slice (some ⟨a, 0, none⟩) 2 2, .slice (some ⟨d, 0, none⟩) 1 1]) [(0, iv 1), (2, .slice (some ⟨a, 0, none⟩) 2 2), (3, .slice (some ⟨d, 0, none⟩) 1 1)] rfl (fun _ => by kernel_rfl))<|t_seg 1 [_] ([(c, Cl 3 [iv 0])] ++ R) rfl rfl ?_
 have J : OS 83 (OT.fr rApiStop) b.w (.slice (some ⟨a, 0, none⟩) 2 2) [(⟨0, 0, 5, 5⟩ : ApiStop), (⟨1, 0, 9, 9⟩ : ApiStop)] [(a, Cl 83 [iv 0, iv 0, iv 5, iv 5, iv 1, iv 0, iv 9, iv 9])] := OS.lit [[iv 0, iv 0, iv 5, iv 5], [iv 1, iv 0, iv 9, iv 9]] rfl ⟨⟨[iv 0], _, rfl, rfl, ⟨[iv 0], _, rfl, rfl, ⟨[iv 5], _, rfl, rfl, rfl⟩⟩⟩, ⟨⟨[iv 1], _, rfl, rfl, ⟨[iv 0], _, rfl, rfl, ⟨[iv 9], _, rfl, rfl, rfl⟩⟩⟩, trivial⟩⟩ rfl (by decide)
 have K : (((some ⟨a, 0, none⟩) : OA) = none ↔ [(⟨0, 0, 5, 5⟩ : ApiStop), (⟨1, 0, 9, 9⟩ : ApiStop)] = []) := ⟨nofun, nofun⟩
 refine t_frz [_] [(a, Cl 83 [iv 0, iv 0, iv 5, iv 5, iv 1, iv 0, iv 9, iv 9])] ([(c, Cl 3 [iv 0])] ++ R) rfl ?_
 intro af e A
 have L := OS.frz (l := [(⟨0, 0, 5, 5⟩ : ApiStop), (⟨1, 0, 9, 9⟩ : ApiStop)]) J e.cells A
 have O : (((some ⟨c, 0, none⟩) : OA) = none ↔ [0] = []) := ⟨nofun, nofun⟩
 refine t_frz [_] [(c, Cl 3 [iv 0])] R rfl ?_
 intro S f B
 have T := OS.frz (l := [0]) (I.le e) f.cells B
 refine t_seg 0 [] R rfl rfl ?_
 have U : OS 49 (OT.fr (RT.list rI)) S.w (.slice (some ⟨d, 0, none⟩) 1 1) [[0]] [(d, Cl 49 [.slice (some ⟨c, 0, none⟩) ([0]).length 1])] := OS.lit [[.slice (some ⟨c, 0, none⟩) ([0]).length 1]] rfl ⟨(RT.list_mk T), trivial⟩ rfl (by decide)
 refine t_frz [] [(d, Cl 49 [.slice (some ⟨c, 0, none⟩) ([0]).length 1])] R rfl ?_
 intro V g C
 have W := OS.frz (l := [[0]]) U g.cells C
 refine tD (u_bslice (el := 47) [(0, .agg #[iv 1, iv 0, .slice (some ⟨a, 0, none⟩) ([(⟨0, 0, 5, 5⟩ : ApiStop), (⟨1, 0, 9, 9⟩ : ApiStop)]).length 2, .slice (some ⟨d, 0, none⟩) ([[0]]).length 1])] [iv 1, iv 0, .slice (some ⟨a, 0, none⟩) ([(⟨0, 0, 5, 5⟩ : ApiStop), (⟨1, 0, 9, 9⟩ : ApiStop)]).length 2, .slice (some ⟨d, 0, none⟩) ([[0]]).length 1] rfl (fun _ => by kernel_rfl)) ?_
 rintro _ _ ⟨m, rfl, rfl⟩
 refine tS (sB (v := .agg #[.slice (some ⟨m, 0, none⟩) 1 1, sn]) [(0, .slice (some ⟨m, 0, none⟩) 1 1)] rfl (fun _ => by kernel_rfl))<|tD (uA [sn, sn] zero25 rfl) ?_
 rintro _ _ ⟨ag, rfl, rfl⟩
 refine t_seg 1 [_] R rfl rfl ?_
 have X : OS 47 (OT.fr rApiTrain) V.w (.slice (some ⟨m, 0, none⟩) 1 1) [(⟨1, 0, [(⟨0, 0, 5, 5⟩ : ApiStop), (⟨1, 0, 9, 9⟩ : ApiStop)], [[0]]⟩ : ApiTrain)] [(m, Cl 47 [iv 1, iv 0, .slice (some ⟨a, 0, none⟩) ([(⟨0, 0, 5, 5⟩ : ApiStop), (⟨1, 0, 9, 9⟩ : ApiStop)]).length 2, .slice (some ⟨d, 0, none⟩) ([[0]]).length 1])] := OS.lit [[iv 1, iv 0, .slice (some ⟨a, 0, none⟩) ([(⟨0, 0, 5, 5⟩ : ApiStop), (⟨1, 0, 9, 9⟩ : ApiStop)]).length 2, .slice (some ⟨d, 0, none⟩) ([[0]]).length 1]] rfl ⟨⟨[iv 1], _, rfl, rfl, ⟨[iv 0], _, rfl, rfl, ⟨[.slice (some ⟨a, 0, none⟩) ([(⟨0, 0, 5, 5⟩ : ApiStop), (⟨1, 0, 9, 9⟩ : ApiStop)]).length 2], _, rfl, (RT.list_mk (L.le (f.trans g))), (RT.list_mk W)⟩⟩⟩, trivial⟩ rfl (by decide)
 refine tD (uN (vs := [_, _]) 0 2 rfl rfl rfl siz25 rfl (mc rfl (mc rfl mn)) rfl (by simp)) ?_
 rintro _ _ rfl
 refine Te<|Cr<|tS (sD (vs := [_, _]) 0 2 rfl agg25 rfl rfl rfl)<|t_frz [_] [(m, Cl 47 [iv 1, iv 0, .slice (some ⟨a, 0, none⟩) ([(⟨0, 0, 5, 5⟩ : ApiStop), (⟨1, 0, 9, 9⟩ : ApiStop)]).length 2, .slice (some ⟨d, 0, none⟩) ([[0]]).length 1])] R rfl ?_
 intro ah j D
 have Y := OS.frz (l := [(⟨1, 0, [(⟨0, 0, 5, 5⟩ : ApiStop), (⟨1, 0, 9, 9⟩ : ApiStop)], [[0]]⟩ : ApiTrain)]) X j.cells D
 obtain ⟨⟨Z, s⟩, t, hm⟩ := bS hm
 have hm := (unc2E hm)
 refine Tg _ rfl call12 rfl (cGuideEarliest _ _ (hG.le (e.trans (f.trans (g.trans j)))) (⟨[(⟨1, 0, [(⟨0, 0, 5, 5⟩ : ApiStop), (⟨1, 0, 9, 9⟩ : ApiStop)], [[0]]⟩ : ApiTrain)], []⟩ : ApiDay) 0 0 1 0 (some ⟨m, 0, none⟩) 1 none 0 Y FZ.nil Z s t) ?_
 rintro _ E _ u ⟨aa, ab, n, rfl, rfl, ac, ad⟩
 refine t_in1 [] [_] n R rfl<|mV rfl<|tS (st_extract rfl rfl)<|tS (st_extract rfl rfl)<|tD (uA [sn] zero33 rfl) ?_
 rintro _ _ ⟨ae, rfl, rfl⟩
 refine tD (uN (vs := [_]) 0 1 rfl rfl rfl siz33 rfl (mc rfl mn) rfl (by simp)) ?_
 rintro _ _ rfl
 refine aS rfl<|Te ?_
 obtain ⟨F, x, y⟩ := bS hm
 refine Cj (fun r e' hp' => [(0, bv F)] = e' ∧ R = hp' ∧ E.Le r) ?_ ?_
 have hm := x
 refine Cg<|mV rfl ?_
 refine Tb rfl (q1 rfl rfl) (fun k => ?_) (fun k => ?_)
 rw [if_pos k] at hm
 refine mV rfl<|yS<|tS (sF rfl fld33_0)<|yS<|tS (sL 0 rfl one31 rfl rfl)<|yS<|tS (sB (v := .agg #[iv 0, iv 0, iv 1]) [(0, iv 0), (1, iv 0), (2, iv 1)] rfl (fun _ => by kernel_rfl))<|yS<|tD (u_bslice (el := 86) [(0, .agg #[iv 0, iv 0, iv 1])] [iv 0, iv 0, iv 1] rfl (fun _ => by kernel_rfl)) ?_
 rintro _ _ ⟨i, rfl, rfl⟩
 refine yS<|t_seg 0 [_, _] (n ++ R) rfl rfl ?_
 have G : OS 86 (OT.fr rGuideRide) E.w (.slice (some ⟨i, 0, none⟩) 1 1) [(⟨0, 0, 1⟩ : GuideRide)] [(i, Cl 86 [iv 0, iv 0, iv 1])] := OS.lit [[iv 0, iv 0, iv 1]] rfl ⟨⟨[iv 0], _, rfl, rfl, ⟨[iv 0], _, rfl, rfl, rfl⟩⟩, trivial⟩ rfl (by decide)
 obtain ⟨H, p, hm⟩ := bS hm
 refine tD (uW _ call33 rfl (fun w ho => cSlicesEqual _ [] s [(⟨0, 0, 1⟩ : GuideRide)] aa ab (some ⟨i, 0, none⟩) 1 (OS.now (o := (OT.fr rGuideRide)) (l := s) (hs := n) ac ho (.cons _ (.cons _ (ss [(i, Cl 86 [iv 0, iv 0, iv 1])] (List.sublist_append_left _ _))))) (OS.now (o := (OT.fr rGuideRide)) (l := [(⟨0, 0, 1⟩ : GuideRide)]) (hs := [(i, Cl 86 [iv 0, iv 0, iv 1])]) G ho (.cons _ (.cons _ (List.sublist_append_left _ _)))) H p) (fun _ _ _ h => h.2.symm)) ?_
 rintro _ _ ⟨⟨_, rfl, _⟩, rfl⟩
 refine tS (pT rfl rfl)<|aS rfl<|Tn ?_
 obtain rfl := o1 hm
 exact jJ ⟨rfl, rfl, lr⟩
 rw [if_neg k] at hm
 refine mV rfl<|nO<|nO<|nO<|nO<|nO<|tS (pF rfl rfl)<|aS rfl<|Tn ?_
 obtain rfl := o1 hm
 exact jJ ⟨rfl, rfl, lr⟩
 rintro r _ _ ⟨rfl, rfl, q⟩
 have hm := y
 refine Ct ?_
 obtain rfl := o1 hm
 exact rO ⟨rfl, rfl⟩ (e.trans (f.trans (g.trans (j.trans (u.trans q)))))

set_option maxRecDepth 20000 in
theorem clSlicesClone_2 (A : Option Addr) (n c : Nat) (xs : List Value) (w : World) (hR : Rd w A xs) (hl : xs.length = n * 4) (hn : n * 64 ≤ 140737488355328 ∧ n ≤ 9223372036854775807) :
    CallsH Tryd.prog 19 [.slice A n c] w [] (fun v hp' => Seg0 47 4 v n xs hp') := by
  refine fn_enter 8 Tryd.func19 rfl Tryd.ntmps19 rfl ?_
  refine c_sr ?_
  refine t_as rfl rfl ?_
  refine t_ne ?_
  refine c_seq ?_
  refine c_sr ?_
  refine t_mv rfl rfl ?_
  refine t_bool rfl (st_eqnil rfl rfl sl22) (fun hc1 => ?_) (fun hc1 => ?_)
  ·
    refine t_ne ?_
    refine c_cond_t rfl ?_
    refine c_sr ?_
    refine t_as rfl rfl ?_
    refine t_ne ?_
    refine c_ret ?_
    refine x_then_ret ?_
    subst hc1
    obtain rfl := hR.none_nil
    obtain rfl : n = 0 := by simp at hl; omega
    refine x_drop (hp' := []) (by repeat (first | exact List.Sublist.refl _ | exact List.nil_sublist _ | exact List.sublist_append_left _ _ | exact List.sublist_append_right _ _ | exact (List.sublist_append_right _ _).trans (List.sublist_append_right _ _) | apply List.Sublist.cons_cons | apply List.Sublist.cons)) ?_
    exact ret1 (Base.Le.refl _) rfl rfl (Seg0.nil)
  ·
    refine t_ne ?_
    refine c_cond_f rfl ?_
    refine c_skip ?_
    refine x_then_normal ?_
    refine c_sr ?_
    refine t_do rfl (u_bslice (el := 47) [] [] rfl (fun _ => by kernel_rfl)) ?_
    rintro _ _ ⟨g0, rfl, rfl⟩
    refine t_mv rfl rfl ?_
    refine t_do rfl (u_app0 xs sl22 inf47 rfl (by decide) rfl rfl hl (fun w ho => hR.old ho) hn.2 hn.1) ?_
    rintro _ _ ⟨hs, rfl, hseg⟩
    refine t_as rfl rfl ?_
    refine t_ne ?_
    refine c_ret ?_
    refine x_drop (hp' := hs) (by repeat (first | exact List.Sublist.refl _ | exact List.nil_sublist _ | exact List.sublist_append_left _ _ | exact List.sublist_append_right _ _ | exact (List.sublist_append_right _ _).trans (List.sublist_append_right _ _) | apply List.Sublist.cons_cons | apply List.Sublist.cons)) ?_
    exact ret1 (Base.Le.refl _) rfl rfl hseg

set_option maxRecDepth 20000 in
theorem cSlicesClone_2 (b : Base) (R : Hp) (d e f) (i : FZ rApiTrain b.w e f d) (a) (hm : mSlicesClone_2 d = some a):
    CallsG Tryd.prog 19 [sv e d f] b (R) (fun v b' hp' => ∃ g h c, sv g a h = v ∧ (c ++ R) = hp' ∧ OS 47 (OT.fr rApiTrain) b'.w (sv g a h) a c) := by
 unfold mSlicesClone_2 at hm
 obtain ⟨_, hroom, hm⟩ := bS hm
 have hroom := room_some hroom
 obtain rfl := o1 hm
 exact clone_of (r := rApiTrain) (sz := 4) (by_ := 64) rfl (by decide) clSlicesClone_2 i hroom

set_option maxRecDepth 20000 in
theorem cFishref2NumbersIn (b : Base) (R : Hp) (y : ApiDay) (A2 c3 A5 c6) (h4 : FZ rApiTrain b.w A2 c3 y.Trains) (h7 : FZ (RT.list rI) b.w A5 c6 y.Turns) (z) (hm : mFishref2NumbersIn y = some z):
    CallsG Tryd.prog 71 [.agg #[sv A2 y.Trains c3, sv A5 y.Turns c6]] b (R) (fun v b' hp' => ∃ ac ad F, sv ac z ad = v ∧ (F ++ R) = hp' ∧ OS 49 (OT.fr (RT.list rI)) b'.w (sv ac z ad) z F) := by
 refine fE 52 Tryd.func71 rfl Tryd.ntmps71 rfl ?_
 unfold mFishref2NumbersIn at hm
 refine Cr<|tD (uB _ rfl rfl) ?_
 rintro _ _ ⟨A, rfl, rfl⟩
 refine aS rfl<|Te<|Cr<|aS rfl<|Te<|Cs<|Cr<|tS (sF rfl fld25_0)<|tS (sL 0 rfl one22 rfl rfl)<|tS (sE rfl sl22) ?_
 refine mV rfl<|Te<|Cb ?_
 have a3 : y.Trains.length ≤ 9223372036854775807 := (FZ.bd h4)
 obtain ⟨k, an, ao⟩ := bS hm
 refine lS (fun G => fun k => fun t e' hp' => ∃ B C g, [(1, pb A), (3, sv B k C), (9, sv A2 y.Trains c3), (10, iv ((y.Trains.length : Int))), (11, iv ((G : Int)))] = e' ∧ (A, Cl 25 [sv A2 y.Trains c3, sv A5 y.Turns c6]) :: (g ++ R) = hp' ∧ b.Le t ∧ OS 49 (OT.fr (RT.list rI)) t.w (sv B k C) k g) an ⟨none, 0, [], rfl, rfl, lr, OS.nil⟩ ?_ ?_
 rintro G k t _ _ a4 aE ⟨B, C, g, rfl, rfl, e, H⟩ m
 unfold mFishref2NumbersIn_L443 at m
 have hm := m
 refine Cr<|tS (lT rfl rfl (by omega))<|Te<|Cs<|c_cond_t rfl<|Ck<|Xn<|Cs<|Cb<|Cr ?_
 obtain ⟨c, aF, a5, aq, a6, ar, W, I, X, hm⟩ := bF (sz := 4) hm (h4.le e)
 obtain ⟨_, _, rfl, rfl, ⟨_, _, rfl, rfl, ⟨_, _, rfl, ⟨J, K, rfl, ae⟩, ⟨af, ag, rfl, aG⟩⟩⟩⟩ := ar
 refine tS (sI aF rfl rfl aq X I sl22)<|tS (sP (vs := [iv c.No, iv c.Stock, sv J c.Stops K, sv af c.Legs ag]) 4 rfl agg47 I rfl (fun j u hu => W j u hu))<|tD (uA [iv 0, iv 0, sn, sn] zero47 rfl) ?_
 rintro _ _ ⟨ah, rfl, rfl⟩
 refine tD (uN (vs := [_, _, _, _]) 0 4 rfl rfl rfl siz47 rfl (mc rfl (mc rfl (mc rfl (mc rfl mn)))) rfl (by simp)) ?_
 rintro _ _ rfl
 refine Te<|Cr<|mV rfl<|tS (sF rfl fld47_0)<|tS (sL 0 rfl one3 rfl rfl)<|tS (sF rfl fld47_1)<|tS (sL 0 rfl one3 rfl rfl)<|tD (u_bslice (el := 3) [(0, iv c.No), (1, iv c.Stock)] [iv c.No, iv c.Stock] rfl (fun _ => by kernel_rfl)) ?_
 rintro _ _ ⟨n, rfl, rfl⟩
 refine t_seg 0 [_, _] (g ++ R) rfl rfl ?_
 have aH : OS 3 (OT.fr rI) t.w (.slice (some ⟨n, 0, none⟩) 2 2) [c.No, c.Stock] [(n, Cl 3 [iv c.No, iv c.Stock])] := OS.lit [[iv c.No], [iv c.Stock]] rfl ⟨rfl, ⟨rfl, trivial⟩⟩ rfl (by decide)
 refine tD (u_bslice (el := 49) [(0, .slice (some ⟨n, 0, none⟩) ([c.No, c.Stock]).length 2)] [.slice (some ⟨n, 0, none⟩) ([c.No, c.Stock]).length 2] rfl (fun _ => by kernel_rfl)) ?_
 rintro _ _ ⟨bb, rfl, rfl⟩
 have a1 : (((some ⟨n, 0, none⟩) : OA) = none ↔ [c.No, c.Stock] = []) := ⟨nofun, nofun⟩
 refine t_frz [_, _, _] [(n, Cl 3 [iv c.No, iv c.Stock])] (g ++ R) rfl ?_
 intro aI d au
 have aJ := OS.frz (l := [c.No, c.Stock]) aH d.cells au
 obtain ⟨_, L, hm⟩ := bS hm
 have L := room_some L
 refine tD (uQ (r := (RT.list rI)) (l := k) [_, _, _] R [[.slice (some ⟨n, 0, none⟩) ([c.No, c.Stock]).length 2]] [[c.No, c.Stock]] rfl (by decide) sl23 inf49 rfl rfl rfl rfl (H.le d) rfl (fun w ho => Rd.own (i := 0) ho rfl) ⟨(RT.list_mk aJ), trivial⟩ L) ?_
 rintro _ _ ⟨av, rfl, ai⟩
 obtain ⟨aK, aL, rfl, _⟩ := ai.form
 refine aS rfl<|Te<|Cs<|Cr<|tS (sF rfl fld47_2)<|tS (sL 1 rfl one45 rfl rfl)<|tS (sE rfl sl45)<|mV rfl<|Te<|Cb ?_
 have a7 : c.Stops.length ≤ 9223372036854775807 := (FZ.bd (ae.le d))
 refine Cp 1 rfl<|Cp 2 rfl ?_
 obtain ⟨o, aw, ax⟩ := bS hm
 refine lS (fun aj => fun o => fun x e' hp' => ∃ D E h, [(1, pb A), (3, sv D o E), (5, pb ah), (9, sv A2 y.Trains c3), (10, iv ((y.Trains.length : Int))), (11, iv ((G : Int))), (24, sv J c.Stops K), (25, iv ((c.Stops.length : Int))), (26, iv ((aj : Int)))] = e' ∧ (A, Cl 25 [sv A2 y.Trains c3, sv A5 y.Turns c6]) :: (ah, Cl 47 [iv c.No, iv c.Stock, sv J c.Stops K, sv af c.Legs ag]) :: (h ++ R) = hp' ∧ aI.Le x ∧ OS 49 (OT.fr (RT.list rI)) x.w (sv D o E) o h) aw ⟨aK, aL, av, rfl, rfl, lr, ai⟩ ?_ ?_
 rintro aj o x _ _ a8 aM ⟨D, E, h, rfl, rfl, f, O⟩ p
 unfold mFishref2NumbersIn_L760 at p
 have hm := p
 refine Cr<|tS (lT rfl rfl (by omega))<|Te<|Cs<|c_cond_t rfl<|Ck<|Xn<|Cs<|Cb<|Cr ?_
 obtain ⟨a, aN, a9, ay, ba, az, Y, S, Z, hm⟩ := bF (sz := 4) hm (ae.le (d.trans f))
 obtain ⟨_, _, rfl, rfl, ⟨_, _, rfl, rfl, ⟨_, _, rfl, rfl, rfl⟩⟩⟩ := az
 refine tS (sI aN rfl rfl ay Z S sl45)<|tS (sP (vs := [iv a.Station, iv a.Track, iv a.Arr, iv a.Dep]) 4 rfl agg83 S rfl (fun j u hu => Y j u hu))<|tD (uA [iv 0, iv 0, iv 0, iv 0] zero83 rfl) ?_
 rintro _ _ ⟨bc, rfl, rfl⟩
 refine tD (uN (vs := [_, _, _, _]) 0 4 rfl rfl rfl siz83 rfl (mc rfl (mc rfl (mc rfl (mc rfl mn)))) rfl (by simp)) ?_
 rintro _ _ rfl
 refine Te<|Cg<|mV rfl<|tS (sF rfl fld83_0)<|tS (sL 0 rfl one3 rfl rfl)<|tS (sF rfl fld83_1)<|tS (sL 0 rfl one3 rfl rfl)<|tS (sF rfl fld83_2)<|tS (sL 0 rfl one3 rfl rfl)<|tS (sF rfl fld83_3) ?_
 refine tS (sL 0 rfl one3 rfl rfl)<|tD (u_bslice (el := 3) [(0, iv a.Station), (1, iv a.Track), (2, iv a.Arr), (3, iv a.Dep)] [iv a.Station, iv a.Track, iv a.Arr, iv a.Dep] rfl (fun _ => by kernel_rfl)) ?_
 rintro _ _ ⟨q, rfl, rfl⟩
 refine t_seg 0 [_, _, _] (h ++ R) rfl rfl ?_
 have aO : OS 3 (OT.fr rI) x.w (.slice (some ⟨q, 0, none⟩) 4 4) [a.Station, a.Track, a.Arr, a.Dep] [(q, Cl 3 [iv a.Station, iv a.Track, iv a.Arr, iv a.Dep])] := OS.lit [[iv a.Station], [iv a.Track], [iv a.Arr], [iv a.Dep]] rfl ⟨rfl, ⟨rfl, ⟨rfl, ⟨rfl, trivial⟩⟩⟩⟩ rfl (by decide)
 refine tD (u_bslice (el := 49) [(0, .slice (some ⟨q, 0, none⟩) ([a.Station, a.Track, a.Arr, a.Dep]).length 4)] [.slice (some ⟨q, 0, none⟩) ([a.Station, a.Track, a.Arr, a.Dep]).length 4] rfl (fun _ => by kernel_rfl)) ?_
 rintro _ _ ⟨bd, rfl, rfl⟩
 have a2 : (((some ⟨q, 0, none⟩) : OA) = none ↔ [a.Station, a.Track, a.Arr, a.Dep] = []) := ⟨nofun, nofun⟩
 refine t_frz [_, _, _, _] [(q, Cl 3 [iv a.Station, iv a.Track, iv a.Arr, iv a.Dep])] (h ++ R) rfl ?_
 intro be s aA
 have aP := OS.frz (l := [a.Station, a.Track, a.Arr, a.Dep]) aO s.cells aA
 obtain ⟨_, T, hm⟩ := bS hm
 have T := room_some T
 refine tD (uQ (r := (RT.list rI)) (l := o) [_, _, _, _] R [[.slice (some ⟨q, 0, none⟩) ([a.Station, a.Track, a.Arr, a.Dep]).length 4]] [[a.Station, a.Track, a.Arr, a.Dep]] rfl (by decide) sl23 inf49 rfl rfl rfl rfl (O.le s) rfl (fun w ho => Rd.own (i := 0) ho rfl) ⟨(RT.list_mk aP), trivial⟩ T) ?_
 rintro _ _ ⟨aB, rfl, ak⟩
 obtain ⟨aQ, aR, rfl, _⟩ := ak.form
 refine aS rfl<|Tn<|Xm<|Xn<|Cg<|tS (sa rfl rfl (by omega))<|mV rfl<|Tn ?_
 obtain rfl := o1 hm
 exact jS ⟨aQ, aR, aB, rfl, rfl, ((f.trans s)), ak⟩
 rintro x _ _ ⟨D, E, h, rfl, rfl, f, O⟩
 have hm := ax
 refine Cr<|tS (lF rfl rfl (by omega))<|Te<|Cs<|c_cond_f rfl<|Ce<|Xe<|Xe<|Xo<|Xn ?_
 refine Cg<|mV rfl<|tS (sF rfl fld47_3)<|tS (sL 1 rfl one23 rfl rfl) ?_
 obtain ⟨aa, aT, aU⟩ := rd_src (aG.le (d.trans f))
 obtain ⟨_, U, hm⟩ := bS hm
 have U := room_some U
 refine tD (uQ (r := (RT.list rI)) (l := o) [_, _] R aa c.Legs rfl (by decide) sl23 inf49 rfl rfl rfl rfl O rfl (fun w ho => aT.old ho) aU U) ?_
 rintro _ _ ⟨aC, rfl, al⟩
 obtain ⟨aV, aW, rfl, _⟩ := al.form
 refine aS rfl<|Tn<|Xm<|Xn<|Cg<|tS (sa rfl rfl (by omega))<|mV rfl<|Tn ?_
 obtain rfl := o1 hm
 exact jS ⟨aV, aW, aC, rfl, rfl, ((e.trans (d.trans f))), al⟩
 rintro t _ _ ⟨B, C, g, rfl, rfl, e, H⟩
 have hm := ao
 refine Cr<|tS (lF rfl rfl (by omega))<|Te<|Cs<|c_cond_f rfl<|Ce<|Xe<|Xe<|Xo<|Xn ?_
 refine Cr<|mV rfl<|tS (sF rfl fld25_1)<|tS (sL 0 rfl one23 rfl rfl) ?_
 obtain ⟨ab, aX, aY⟩ := rd_src (h7.le e)
 obtain ⟨_, V, hm⟩ := bS hm
 have V := room_some V
 refine tD (uQ (r := (RT.list rI)) (l := k) [_] R ab y.Turns rfl (by decide) sl23 inf49 rfl rfl rfl rfl H rfl (fun w ho => aX.old ho) aY V) ?_
 rintro _ _ ⟨aD, rfl, am⟩
 obtain ⟨aZ, a0, rfl, _⟩ := am.form
 refine aS rfl<|Te<|Ct ?_
 obtain rfl := o1 hm
 exact rO ⟨aZ, a0, aD, rfl, rfl, am⟩ e

set_option maxRecDepth 20000 in
theorem cFishref2Within (b : Base) (R : Hp) (i j k d) (hm : mFishref2Within i j k = some d):
    CallsG Tryd.prog 35 [iv i, iv j, iv k] b (R) (fun v b' hp' => bv d = v ∧ R = hp') := by
 refine fE 15 Tryd.func35 rfl Tryd.ntmps35 rfl ?_
 unfold mFishref2Within at hm
 refine Cr<|aS rfl<|Te ?_
 obtain ⟨h, e, f⟩ := bS hm
 refine Cj (fun g e' hp' => [(6, bv h)] = e' ∧ R = hp' ∧ b.Le g) ?_ ?_
 have hm := e
 refine Cg<|mV rfl<|mV rfl ?_
 refine Tb rfl (q6 rfl rfl) (fun a => ?_) (fun a => ?_)
 rw [if_pos a] at hm
 refine mV rfl<|yS<|mV rfl<|yS<|mV rfl<|yS<|tS (q4 rfl rfl)<|tS (pT rfl rfl)<|aS rfl<|Tn ?_
 obtain rfl := o1 hm
 exact jJ ⟨rfl, rfl, lr⟩
 rw [if_neg a] at hm
 refine mV rfl<|nO<|nO<|nO<|tS (pF rfl rfl)<|aS rfl<|Tn ?_
 obtain rfl := o1 hm
 exact jJ ⟨rfl, rfl, lr⟩
 rintro g _ _ ⟨rfl, rfl, c⟩
 have hm := f
 refine Ct ?_
 obtain rfl := o1 hm
 exact rO ⟨rfl, rfl⟩ c

end Go.Proofs.YtckgfeglhjiflaaDoor
