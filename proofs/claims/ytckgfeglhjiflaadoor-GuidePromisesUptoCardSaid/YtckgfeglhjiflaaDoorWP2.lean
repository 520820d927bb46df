/- Contracts: the code computes its model (part 2). -/
import Derived.Test.YtckgfeglhjiflaaDoorWP1
set_option linter.unusedVariables false
set_option linter.unusedSimpArgs false
namespace Go.Proofs.YtckgfeglhjiflaaDoor
open Go.RowKit Go.Fp

open Go.Fp renaming t_ne → Te, t_nil → Tn, t_bool → Tb, t_callG → Tg, t_callvG → Tv, t_resp → Tr, c_sr → Cr, c_seq → Cs, c_region → Cg, c_block → Cb, c_ret → Ct, c_skip → Ck, c_exit → Ce, c_join → Cj, c_pullb → Cp, x_then_normal → Xn, x_then_ret → Xr, x_then_exit → Xe, x_block_ret → Xb, x_block_normal → Xm, x_block_out → Xo, x_pullb → Xp, x_front2 → X2, x_front3 → X3, x_front4 → X4, x_front5 → X5, x_front6 → X6, E_st → Es, E_s0 → E0, E_yes → Ey, E_y0 → Yz, E_in → Ei, E_il → El, E_out → Eo, D_all → Da, D_done → Dd, D_drawI → Di, R_do → Rd2, R_nil → Rn, R_callGl → Rg, R_callvG → Rv, st_load → sL, st_loadD → sD, st_field → sF, st_nil → sN, st_len → sE, st_move → sM, st_assign → sA, st_pick_t → pT, st_pick_f → pF, st_index_old → sI, st_load_old → sO, st_loadN_old → sP, st_field_old → sQ, st_add → sa, st_sub → sb, st_lss_t → lT, st_lss_f → lF, st_not → sn2, st_build → sB, u_box → uB, u_alloc → uA, u_store → uS, u_storeN → uN, u_callW0 → uW, u_putOS → uP, u_appOS → uQ, fn_enterG → fE, bindS → bS, some1 → o1, idx_some → iS, sub_skip → ss, sub_app → sp, chk_some → kS, d_front2 → d2, d_front3 → d3, mem_c → mc, mem_n → mn, st_eql → q1, st_neq → q2, st_lss → q3, st_leq → q4, st_gtr → q5, st_geq → q6
set_option maxHeartbeats 4000000 in
set_option maxRecDepth 20000 in
theorem cGuideNetPoints (b : Base) (R : Hp) (s1 : GuideNet) (x8 x9 A2 c3 A5 c6) (h4 : FZ rApiTrain b.w A2 c3 s1.Day.Trains) (h7 : FZ (RT.list rI) b.w A5 c6 s1.Day.Turns) (b6) (hm : mGuideNetPoints s1 x8 x9 = some b6):
    CallsG Tryd.prog 39 [.agg #[sv A2 s1.Day.Trains c3, sv A5 s1.Day.Turns c6, iv s1.least], iv x8, iv x9] b (R) (fun v b' hp' => ∃ dv dw da, sv dv b6 dw = v ∧ (da ++ R) = hp' ∧ OS 42 (OT.fr rGuidePoint) b'.w (sv dv b6 dw) b6 da) := by
 refine fE 96 Tryd.func39 rfl Tryd.ntmps39 rfl ?_
 unfold mGuideNetPoints at hm
 refine Cr<|tD (uB _ rfl rfl) ?_
 rintro _ _ ⟨h, rfl, rfl⟩
 refine aS rfl<|Te<|Cr<|tD (u_mmap rI (OT.list 86 (OT.fr rGuideRide)) false false [_] R rfl) ?_
 rintro _ _ ⟨dx, e1, rfl, rfl, gu⟩
 refine tD (uA [.map none] zero141 rfl) ?_
 rintro _ _ ⟨dy, rfl, rfl⟩
 refine tD (uS 0 rfl rfl siz141 rfl rfl (by simp)) ?_
 rintro _ _ rfl
 refine Te<|Cs<|Cr<|tS (sD (vs := [_, _, _]) 1 3 rfl agg91 rfl rfl rfl)<|mV rfl ?_
 obtain ⟨gv, et, hm⟩ := bS hm
 refine Tg _ rfl call54 rfl (cGuideNetRides _ _ s1 x8 0 (-1) A2 c3 A5 c6 h4 h7 gv et) ?_
 rintro _ gw _ B ⟨iA, rfl, rfl, gx⟩
 refine Te<|Cb ?_
 obtain ⟨iB, e2, db⟩ := bS hm
 refine Cp 1 rfl ?_
 have e3 := (gu.le B)
 refine c_rangeM (fun x : GuideRide => (.agg #[iv x.Train, iv x.On, iv x.Off] : Value)) (fun ai => fun bB hp' => ∃ G, (h, Cl 91 [sv A2 s1.Day.Trains c3, sv A5 s1.Day.Turns c6, iv s1.least]) :: (dy, Cl 141 [.map (some dx)]) :: (G ++ R) = hp' ∧ gw.Le bB ∧ OM rI (OT.list 86 (OT.fr rGuideRide)) false false bB.w dx ai G) rfl gx e2 (e' := [(2, iv x9), (3, pb h), (7, pb dy)]) ⟨rfl, rfl, rfl, trivial⟩ (.refl _) rfl (fun dk hdk => ⟨e1, rfl, Base.Le.dks hdk, e3⟩) ?_ ?_ (fun x hx => B.dk x hx)
 rintro iC iD g ai bB iE _ io ⟨G, rfl, y, bC⟩ C bD h5
 unfold mGuideNetPoints_L26047 at bD
 have hm := bD
 refine Cg<|tD (uA [iv 0, iv 0, iv 0] zero86 rfl) ?_
 rintro _ _ ⟨iF, rfl, rfl⟩
 refine tD (uN (vs := [_, _, _]) 0 3 rfl rfl rfl siz86 rfl (mc rfl (mc rfl (mc rfl mn))) rfl (by simp)) ?_
 rintro _ _ rfl
 refine Tn<|x_begin 1 rfl<|Cb ?_
 obtain ⟨⟨aK, aL, aM, A⟩, a8, hm⟩ := bS hm
 have hm := (unc4E hm)
 obtain ⟨_, aB, hm⟩ := bS hm
 refine Di mixed (.cons_cons _ (.cons_cons _ (.cons_cons _ (.cons_cons _ (ss G (.refl _))))))<|Es 0 rfl (sL 3 rfl one141 rfl rfl)<|Es 1 rfl (sD (vs := [_, _, _]) 2 3 rfl agg91 rfl rfl rfl)<|Es 2 rfl (sD (vs := [_, _, _]) 1 3 rfl agg86 rfl rfl rfl)<|Es 5 rfl (sL 3 rfl one141 rfl rfl)<|Es 6 rfl (sD (vs := [_, _, _]) 2 3 rfl agg91 rfl rfl rfl)<|Es 7 rfl (sD (vs := [_, _, _]) 1 3 rfl agg86 rfl rfl rfl)<|Es 11 rfl (sD (vs := [_, _, _]) 1 3 rfl agg86 rfl rfl rfl)<|Eo<|Da [3, 12] (by kernel_rfl) rfl ?_
 refine Rg lr rfl rfl _ call60 rfl (cGuideNetOn _ _ s1 g A2 c3 A5 c6 (h4.le (B.trans (y.trans C))) (h7.le (B.trans (y.trans C))) aK aL aM A a8) ?_ ?_
 rintro _ gy _ f ⟨rfl, rfl⟩
 refine iR<|Ei f (.cons_cons _ (.cons_cons _ (.cons_cons _ (.cons_cons _ (ss G (.refl _))))))<|E0 4 rfl (st_vfield1 (cs := [iv aK, iv aL, iv aM, iv A]) rfl fdv83_3 one3 rfl)<|Eo<|Da [8, 12] (by kernel_rfl) rfl ?_
 refine Rg f rfl rfl _ call60 rfl (cGuideNetOn _ _ s1 g A2 c3 A5 c6 (h4.le (B.trans (y.trans (C.trans f)))) (h7.le (B.trans (y.trans (C.trans f)))) aK aL aM A a8) ?_ ?_
 rintro _ dz _ n ⟨rfl, rfl⟩
 refine iR<|Ei (f.trans n) (.cons_cons _ (.cons_cons _ (.cons_cons _ (.cons_cons _ (ss G (.refl _))))))<|E0 9 rfl (st_vfield1 (cs := [iv aK, iv aL, iv aM, iv A]) rfl fdv83_3 one3 rfl)<|Eo ?_
 obtain ⟨dA, dB, a9, Z, bl, hpm26214, bm, ba⟩ := OM.take kok3 (bC.le (C.trans (f.trans n))) (key := iv A) (k := A) rfl mapt141 zero31
 refine Da [10, 12] (by kernel_rfl) rfl ?_
 refine Rd2 (f.trans n) rfl rfl (Stable.does (st_mlook (ok := false) rfl rfl (fun w ho => ba _ w ho (.cons _ (.cons _ (.cons _ (.cons _ (List.sublist_append_left _ _)))))))) ?_ ?_
 rintro _ _ ⟨rfl, rfl⟩
 refine iR<|d_prm [_, _, _, _] G Z a9 R rfl hpm26214<|Da [12] (by kernel_rfl) rfl ?_
 refine Rd2 (f.trans n) rfl rfl (u_bslice (el := 86) [(0, .agg #[iv g.Train, iv g.On, iv g.Off])] [iv g.Train, iv g.On, iv g.Off] rfl (fun _ => by kernel_rfl)) ?_ ?_
 rintro _ _ ⟨cz, rfl, rfl⟩
 refine iR ?_
 have aB := room_some aB
 refine Da [13] (by kernel_rfl) rfl ?_
 refine Rd2 (f.trans n) rfl rfl (uQ (r := rGuideRide) (l := mgetD ai A []) [_, _, _, _, _] (Z ++ R) [[iv g.Train, iv g.On, iv g.Off]] [g] rfl (by decide) sl31 inf86 rfl rfl rfl rfl bl rfl (fun w ho => Rd.own (i := 0) ho rfl) ⟨⟨[iv g.Train], _, rfl, rfl, ⟨[iv g.On], _, rfl, rfl, rfl⟩⟩, trivial⟩ aB) ?_ ?_
 rintro _ _ ⟨aq, rfl, aC⟩
 obtain ⟨cA, cC, rfl, _⟩ := aC.form
 refine iR<|d2 [_, _, _, _, _] aq Z R rfl<|Da [14] (by kernel_rfl) rfl ?_
 refine Rd2 (f.trans n) rfl rfl (u_mput kok3 [_, _, _, _, _] aq R rfl bm mapt141 rfl rfl rfl rfl ⟨_, rfl, aC⟩ _ (.inl rfl)) ?_ ?_
 rintro _ _ ⟨aX, rfl, bA, be⟩
 refine ⟨.inl (by kernel_rfl), ?_⟩
 refine Dd (by kernel_rfl)<|Xm<|Xp 4 rfl<|Xp 4 rfl ?_
 exact x_round 3 rfl (f.trans n) (.cons_cons _ (.cons_cons _ (.cons _ (.cons _ (.refl _))))) ⟨(mput ai A ((mgetD ai A []) ++ [g])), (Option.some.inj hm).symm, ⟨aX, rfl, (y.trans (C.trans (f.trans n))), be⟩⟩
 exact Rn
 exact Rn
 exact Rn
 refine Rd2 (f.trans n) rfl rfl (u_bslice (el := 86) [(0, .agg #[iv g.Train, iv g.On, iv g.Off])] [iv g.Train, iv g.On, iv g.Off] rfl (fun _ => by kernel_rfl)) ?_ ?_
 rintro _ _ ⟨cz, rfl, rfl⟩
 refine iR<|Da [10] (by kernel_rfl) rfl ?_
 refine Rd2 (f.trans n) rfl rfl (Stable.does (st_mlook (ok := false) rfl rfl (fun w ho => ba _ w ho (.cons _ (.cons _ (.cons _ (.cons _ (.cons _ (List.sublist_append_left _ _))))))))) ?_ ?_
 rintro _ _ ⟨rfl, rfl⟩
 refine iR<|d_prm [_, _, _, _, _] G Z a9 R rfl hpm26214 ?_
 have aB := room_some aB
 refine Da [13] (by kernel_rfl) rfl ?_
 refine Rd2 (f.trans n) rfl rfl (uQ (r := rGuideRide) (l := mgetD ai A []) [_, _, _, _, _] (Z ++ R) [[iv g.Train, iv g.On, iv g.Off]] [g] rfl (by decide) sl31 inf86 rfl rfl rfl rfl bl rfl (fun w ho => Rd.own (i := 0) ho rfl) ⟨⟨[iv g.Train], _, rfl, rfl, ⟨[iv g.On], _, rfl, rfl, rfl⟩⟩, trivial⟩ aB) ?_ ?_
 rintro _ _ ⟨aq, rfl, aC⟩
 obtain ⟨cA, cC, rfl, _⟩ := aC.form
 refine iR<|d2 [_, _, _, _, _] aq Z R rfl<|Da [14] (by kernel_rfl) rfl ?_
 refine Rd2 (f.trans n) rfl rfl (u_mput kok3 [_, _, _, _, _] aq R rfl bm mapt141 rfl rfl rfl rfl ⟨_, rfl, aC⟩ _ (.inl rfl)) ?_ ?_
 rintro _ _ ⟨aX, rfl, bA, be⟩
 refine ⟨.inl (by kernel_rfl), ?_⟩
 refine Dd (by kernel_rfl)<|Xm<|Xp 4 rfl<|Xp 4 rfl ?_
 exact x_round 3 rfl (f.trans n) (.cons_cons _ (.cons_cons _ (.cons _ (.cons _ (.refl _))))) ⟨(mput ai A ((mgetD ai A []) ++ [g])), (Option.some.inj hm).symm, ⟨aX, rfl, (y.trans (C.trans (f.trans n))), be⟩⟩
 exact Rn
 exact Rn
 exact Rn
 exact Rn
 refine Rd2 f rfl rfl (u_bslice (el := 86) [(0, .agg #[iv g.Train, iv g.On, iv g.Off])] [iv g.Train, iv g.On, iv g.Off] rfl (fun _ => by kernel_rfl)) ?_ ?_
 rintro _ _ ⟨cz, rfl, rfl⟩
 refine iR<|Da [8] (by kernel_rfl) rfl ?_
 refine Rg f rfl rfl _ call60 rfl (cGuideNetOn _ _ s1 g A2 c3 A5 c6 (h4.le (B.trans (y.trans (C.trans f)))) (h7.le (B.trans (y.trans (C.trans f)))) aK aL aM A a8) ?_ ?_
 rintro _ dz _ n ⟨rfl, rfl⟩
 refine iR<|Ei (f.trans n) (.cons _ (.cons_cons _ (.cons_cons _ (.cons_cons _ (.cons_cons _ (ss G (.refl _)))))))<|E0 9 rfl (st_vfield1 (cs := [iv aK, iv aL, iv aM, iv A]) rfl fdv83_3 one3 rfl)<|Eo ?_
 obtain ⟨dA, dB, a9, Z, bl, hpm26214, bm, ba⟩ := OM.take kok3 (bC.le (C.trans (f.trans n))) (key := iv A) (k := A) rfl mapt141 zero31
 refine Da [10] (by kernel_rfl) rfl ?_
 refine Rd2 (f.trans n) rfl rfl (Stable.does (st_mlook (ok := false) rfl rfl (fun w ho => ba _ w ho (.cons _ (.cons _ (.cons _ (.cons _ (.cons _ (List.sublist_append_left _ _))))))))) ?_ ?_
 rintro _ _ ⟨rfl, rfl⟩
 refine iR<|d_prm [_, _, _, _, _] G Z a9 R rfl hpm26214 ?_
 have aB := room_some aB
 refine Da [13] (by kernel_rfl) rfl ?_
 refine Rd2 (f.trans n) rfl rfl (uQ (r := rGuideRide) (l := mgetD ai A []) [_, _, _, _, _] (Z ++ R) [[iv g.Train, iv g.On, iv g.Off]] [g] rfl (by decide) sl31 inf86 rfl rfl rfl rfl bl rfl (fun w ho => Rd.own (i := 0) ho rfl) ⟨⟨[iv g.Train], _, rfl, rfl, ⟨[iv g.On], _, rfl, rfl, rfl⟩⟩, trivial⟩ aB) ?_ ?_
 rintro _ _ ⟨aq, rfl, aC⟩
 obtain ⟨cA, cC, rfl, _⟩ := aC.form
 refine iR<|d2 [_, _, _, _, _] aq Z R rfl<|Da [14] (by kernel_rfl) rfl ?_
 refine Rd2 (f.trans n) rfl rfl (u_mput kok3 [_, _, _, _, _] aq R rfl bm mapt141 rfl rfl rfl rfl ⟨_, rfl, aC⟩ _ (.inl rfl)) ?_ ?_
 rintro _ _ ⟨aX, rfl, bA, be⟩
 refine ⟨.inl (by kernel_rfl), ?_⟩
 refine Dd (by kernel_rfl)<|Xm<|Xp 4 rfl<|Xp 4 rfl ?_
 exact x_round 3 rfl (f.trans n) (.cons_cons _ (.cons_cons _ (.cons _ (.cons _ (.refl _))))) ⟨(mput ai A ((mgetD ai A []) ++ [g])), (Option.some.inj hm).symm, ⟨aX, rfl, (y.trans (C.trans (f.trans n))), be⟩⟩
 exact Rn
 exact Rn
 exact Rn
 exact Rn
 exact Rn
 refine Rd2 lr rfl rfl (u_bslice (el := 86) [(0, .agg #[iv g.Train, iv g.On, iv g.Off])] [iv g.Train, iv g.On, iv g.Off] rfl (fun _ => by kernel_rfl)) ?_ ?_
 rintro _ _ ⟨cz, rfl, rfl⟩
 refine iR<|Da [3] (by kernel_rfl) rfl ?_
 refine Rg lr rfl rfl _ call60 rfl (cGuideNetOn _ _ s1 g A2 c3 A5 c6 (h4.le (B.trans (y.trans C))) (h7.le (B.trans (y.trans C))) aK aL aM A a8) ?_ ?_
 rintro _ gy _ f ⟨rfl, rfl⟩
 refine iR<|Ei f (.cons _ (.cons_cons _ (.cons_cons _ (.cons_cons _ (.cons_cons _ (ss G (.refl _)))))))<|E0 4 rfl (st_vfield1 (cs := [iv aK, iv aL, iv aM, iv A]) rfl fdv83_3 one3 rfl)<|Eo<|Da [8] (by kernel_rfl) rfl ?_
 refine Rg f rfl rfl _ call60 rfl (cGuideNetOn _ _ s1 g A2 c3 A5 c6 (h4.le (B.trans (y.trans (C.trans f)))) (h7.le (B.trans (y.trans (C.trans f)))) aK aL aM A a8) ?_ ?_
 rintro _ dz _ n ⟨rfl, rfl⟩
 refine iR<|Ei (f.trans n) (.cons _ (.cons_cons _ (.cons_cons _ (.cons_cons _ (.cons_cons _ (ss G (.refl _)))))))<|E0 9 rfl (st_vfield1 (cs := [iv aK, iv aL, iv aM, iv A]) rfl fdv83_3 one3 rfl)<|Eo ?_
 obtain ⟨dA, dB, a9, Z, bl, hpm26214, bm, ba⟩ := OM.take kok3 (bC.le (C.trans (f.trans n))) (key := iv A) (k := A) rfl mapt141 zero31
 refine Da [10] (by kernel_rfl) rfl ?_
 refine Rd2 (f.trans n) rfl rfl (Stable.does (st_mlook (ok := false) rfl rfl (fun w ho => ba _ w ho (.cons _ (.cons _ (.cons _ (.cons _ (.cons _ (List.sublist_append_left _ _))))))))) ?_ ?_
 rintro _ _ ⟨rfl, rfl⟩
 refine iR<|d_prm [_, _, _, _, _] G Z a9 R rfl hpm26214 ?_
 have aB := room_some aB
 refine Da [13] (by kernel_rfl) rfl ?_
 refine Rd2 (f.trans n) rfl rfl (uQ (r := rGuideRide) (l := mgetD ai A []) [_, _, _, _, _] (Z ++ R) [[iv g.Train, iv g.On, iv g.Off]] [g] rfl (by decide) sl31 inf86 rfl rfl rfl rfl bl rfl (fun w ho => Rd.own (i := 0) ho rfl) ⟨⟨[iv g.Train], _, rfl, rfl, ⟨[iv g.On], _, rfl, rfl, rfl⟩⟩, trivial⟩ aB) ?_ ?_
 rintro _ _ ⟨aq, rfl, aC⟩
 obtain ⟨cA, cC, rfl, _⟩ := aC.form
 refine iR<|d2 [_, _, _, _, _] aq Z R rfl<|Da [14] (by kernel_rfl) rfl ?_
 refine Rd2 (f.trans n) rfl rfl (u_mput kok3 [_, _, _, _, _] aq R rfl bm mapt141 rfl rfl rfl rfl ⟨_, rfl, aC⟩ _ (.inl rfl)) ?_ ?_
 rintro _ _ ⟨aX, rfl, bA, be⟩
 refine ⟨.inl (by kernel_rfl), ?_⟩
 refine Dd (by kernel_rfl)<|Xm<|Xp 4 rfl<|Xp 4 rfl ?_
 exact x_round 3 rfl (f.trans n) (.cons_cons _ (.cons_cons _ (.cons _ (.cons _ (.refl _))))) ⟨(mput ai A ((mgetD ai A []) ++ [g])), (Option.some.inj hm).symm, ⟨aX, rfl, (y.trans (C.trans (f.trans n))), be⟩⟩
 exact Rn
 exact Rn
 exact Rn
 exact Rn
 exact Rn
 exact Rn
 rintro ai bB _ ⟨G, rfl, y, bC⟩ e4
 rw [e4] at db
 have hm := elimL db
 refine Xm<|Xn<|Cr<|tD (u_mmap rGuidePoint (OT.fr RT.bool) true false [_, _] (G ++ R) rfl) ?_
 rintro _ _ ⟨o, aN, rfl, rfl, gz⟩
 refine aS rfl<|Te<|Cr<|aS rfl<|Te ?_
 obtain ⟨b7, e5, e6⟩ := bS hm
 refine Cj (fun cD e' hp' => ∃ bn bo bf, [(10, sv bn b7 bo)] = e' ∧ (bf ++ R) = hp' ∧ bB.Le cD ∧ OS 42 (OT.fr rGuidePoint) cD.w (sv bn b7 bo) b7 bf) ?_ ?_
 have hm := e5
 refine Cr<|tS (sL 1 rfl one141 rfl rfl)<|t_front2 [_, _] aN G R rfl ?_
 obtain ⟨dc, dd, hpm39146, gA⟩ := OM.frzM bC
 refine t_prm [_, _] G dd dc (aN ++ R) rfl hpm39146<|t_frz [_, _] dc (dd ++ (aN ++ R)) rfl ?_
 intro gB aw e7
 have gC := gA _ aw e7
 refine tD (u_range [_, _] (aN ++ R) rfl gC mapt141 rfl) ?_
 rintro _ _ ⟨z, de, rfl, rfl, gD⟩
 refine Te<|Cb<|c_front2 [_, _] de aN R rfl<|c_front2 [_, _] aN de R rfl ?_
 obtain ⟨iG, e8, df⟩ := bS hm
 refine c_mapM (unc2 fun dC bE => fun b8 e' hp' => ∃ L bp bq H, [(2, iv x9), (3, pb h), (9, .map (some o)), (10, sv bp bE bq), (39, pb z)] = e' ∧ (h, Cl 91 [sv A2 s1.Day.Trains c3, sv A5 s1.Day.Turns c6, iv s1.least]) :: (L ++ (H ++ R)) = hp' ∧ gB.Le b8 ∧ OM rGuidePoint (OT.fr RT.bool) true false b8.w o dC L ∧ OS 42 (OT.fr rGuidePoint) b8.w (sv bp bE bq) bE H) e8 gD (e' := [(2, iv x9), (3, pb h), (9, .map (some o)), (10, sn), (39, pb z)]) ⟨rfl, rfl, rfl, rfl, rfl, trivial⟩ [_, _] (aN ++ R) rfl (.cons_cons _ (.cons _ (.refl _))) ⟨aN, none, 0, [], rfl, rfl, lr, (gz.le aw), OS.nil⟩ ?_
 rintro ⟨dC, bE⟩ iH b8 _ _ e9 ⟨L, bp, bq, H, rfl, rfl, ax, gE, dD⟩ ii gF hd47756 hall47757
 refine c_mid [_] e9 (L ++ (H ++ R)) ?_ rfl
 refine Cr ?_
 refine t_next [_] (L ++ (H ++ R)) rfl rfl rfl gF (fun hnil47759 => ?_) (fun d iI iJ iK a hperm47765 fa gG => ?_)
 have hend47768 := hd47756 hnil47759
 refine tS (st_extract rfl rfl)<|Te<|Cs<|c_cond_f rfl<|Ce<|Xe<|Xe<|Xo ?_
 rw [hend47768] at df
 have hm := elimL df
 have hm := (unc2E hm)
 obtain rfl := o1 hm
 exact jJ ⟨bp, bq, H, rfl, rfl, (aw.trans ax), dD⟩
 obtain ⟨iL, b5, h6⟩ := hall47757 _ _ hperm47765
 have bG := b5
 unfold mGuideNetPoints_L39155 at bG
 have hm := (unc2E bG)
 refine tS (st_extract rfl rfl)<|Te<|Cs<|c_cond_t rfl<|Ck<|Xn<|Cb<|Cr ?_
 obtain ⟨dE, gH, cp, fb, fc⟩ := MIx.entry Tryd.prog fa
 obtain rfl : dE = iv d.1 := by have cp : [dE] = [iv d.1] := cp; injection cp
 obtain ⟨dF, dH, fd, gI⟩ := fb
 obtain rfl : gH = sv dF d.2 dH := by injection fd
 refine tS (fc (.cons _ (List.sublist_append_left _ _)) rfl)<|tS (st_extract rfl rfl)<|tS (st_extract rfl rfl)<|aS rfl<|aS rfl<|Te<|Cr<|tS (sD (vs := [_, _, _]) 0 3 rfl agg91 rfl rfl rfl)<|mV rfl ?_
 obtain ⟨⟨gJ, gK, gL, gM⟩, eu, hm⟩ := bS hm
 have hm := (unc4E hm)
 refine Tg _ rfl call52 rfl (cGuideNetEnds _ _ s1 d.2 A2 c3 A5 c6 dF dH (h4.le (B.trans (y.trans (aw.trans ax)))) (h7.le (B.trans (y.trans (aw.trans ax)))) gI gJ gK gL gM eu) ?_
 rintro _ dI _ ay ⟨p, fe, q, m, s, e, t, c, rfl, rfl, gN, gO, gP, gQ⟩
 refine t_in4 [] [_] fe m e c (a ++ (L ++ (H ++ R))) rfl<|mV rfl<|Te<|Cb<|c_unroll<|Cr<|tS (lT rfl rfl (by omega))<|Te<|Cs<|c_cond_t rfl ?_
 refine Ck<|Xn ?_
 obtain ⟨⟨gR, b9⟩, ff, fg⟩ := bS hm
 refine Cj (fun br e' hp' => ∃ ab bH bI ac, [(2, iv x9), (3, pb h), (9, .map (some o)), (10, sv bH b9 bI), (11, iv d.1), (39, pb z), (47, .agg #[.map (some p), .map (some q), .map (some s), .map (some t)]), (48, iv 0)] = e' ∧ (h, Cl 91 [sv A2 s1.Day.Trains c3, sv A5 s1.Day.Turns c6, iv s1.least]) :: (ab ++ (ac ++ (a ++ (m ++ (e ++ (c ++ R)))))) = hp' ∧ dI.Le br ∧ OM rGuidePoint (OT.fr RT.bool) true false br.w o gR ab ∧ OS 42 (OT.fr rGuidePoint) br.w (sv bH b9 bI) b9 ac) ?_ ?_
 have hm := ff
 refine Cb<|Cr<|mV rfl<|tS (st_aidx1 (cs := [.map (some p), .map (some q), .map (some s), .map (some t)]) 0 rfl rfl rfl (by decide) rfl arr106 one105)<|aS rfl<|aS rfl<|Te<|Cr<|mV rfl<|tD (u_range [_] (m ++ (e ++ (c ++ (a ++ (L ++ (H ++ R)))))) rfl gN mapt105 rfl) ?_
 rintro _ _ ⟨bs, aY, rfl, rfl, gS⟩
 refine Te<|Cb<|c_front4 [_] aY m e c (a ++ (L ++ (H ++ R))) rfl<|c_front4 [_] c aY m e (a ++ (L ++ (H ++ R))) rfl<|c_front4 [_] e c aY m (a ++ (L ++ (H ++ R))) rfl<|c_front5 [_] m e c aY a (L ++ (H ++ R)) rfl<|c_front7 [_] a m e c aY L H R rfl<|c_front7 [_] H a m e c aY L R rfl<|c_front7 [_] L H a m e c aY R rfl ?_
 obtain ⟨iM, fh, dg⟩ := bS hm
 refine c_mapM (unc2 fun ca aD => fun bJ e' hp' => ∃ I a0 a1 D, [(2, iv x9), (3, pb h), (9, .map (some o)), (10, sv a0 aD a1), (11, iv d.1), (13, iv 0), (39, pb z), (47, .agg #[.map (some p), .map (some q), .map (some s), .map (some t)]), (48, iv 0), (53, pb bs)] = e' ∧ (h, Cl 91 [sv A2 s1.Day.Trains c3, sv A5 s1.Day.Turns c6, iv s1.least]) :: (I ++ (D ++ (a ++ (m ++ (e ++ (c ++ R)))))) = hp' ∧ dI.Le bJ ∧ OM rGuidePoint (OT.fr RT.bool) true false bJ.w o ca I ∧ OS 42 (OT.fr rGuidePoint) bJ.w (sv a0 aD a1) aD D) fh gS (e' := [(2, iv x9), (3, pb h), (9, .map (some o)), (10, sv bp bE bq), (11, iv d.1), (13, iv 0), (39, pb z), (47, .agg #[.map (some p), .map (some q), .map (some s), .map (some t)]), (48, iv 0), (53, pb bs)]) ⟨rfl, rfl, rfl, rfl, rfl, rfl, rfl, rfl, rfl, rfl, trivial⟩ [_] (L ++ (H ++ (a ++ (m ++ (e ++ (c ++ R)))))) rfl (.refl _) ⟨L, bp, bq, H, rfl, rfl, lr, (gE.le ay), (dD.le ay)⟩ ?_
 rintro ⟨ca, aD⟩ iN bJ _ _ fi ⟨I, a0, a1, D, rfl, rfl, aT, cb, cE⟩ ij gT hd48691 hall48692
 refine c_mid [_] fi (I ++ (D ++ (a ++ (m ++ (e ++ (c ++ R)))))) ?_ rfl
 refine Cr ?_
 refine t_next [_] (I ++ (D ++ (a ++ (m ++ (e ++ (c ++ R)))))) rfl rfl rfl gT (fun hnil48694 => ?_) (fun dJ iO iP iQ E hperm48700 fj dK => ?_)
 have hend48703 := hd48691 hnil48694
 refine tS (st_extract rfl rfl)<|Te<|Cs<|c_cond_f rfl<|Ce<|Xe<|Xe<|Xo ?_
 rw [hend48703] at dg
 have hm := elimL dg
 have hm := (unc2E hm)
 refine Xm ?_
 obtain ⟨rfl, rfl⟩ := some2 hm
 exact jJ ⟨I, a0, a1, D, rfl, rfl, aT, cb, cE⟩
 obtain ⟨iT, bg, h8⟩ := hall48692 _ _ hperm48700
 have bK := bg
 unfold mGuideNetPoints_L48340 at bK
 have hm := (unc2E bK)
 refine tS (st_extract rfl rfl)<|Te<|Cs<|c_cond_t rfl<|Ck<|Xn<|Cb<|Cr ?_
 obtain ⟨iU, dL, fk, cq, fl⟩ := MIx.entry Tryd.prog fj
 obtain ⟨_, rfl, ⟨_, _, rfl, rfl, rfl⟩⟩ := fk
 obtain rfl : dL = bv dJ.2 := by have cq : [dL] = [bv dJ.2] := cq; injection cq
 refine tS (fl (.cons _ (List.sublist_append_left _ _)) rfl)<|tS (st_extract rfl rfl)<|tD (uA [iv 0, iv 0] zero113 rfl) ?_
 rintro _ _ ⟨iV, rfl, rfl⟩
 refine tD (uN (vs := [_, _]) 0 2 rfl rfl rfl siz113 rfl (mc rfl (mc rfl mn)) rfl (by simp)) ?_
 rintro _ _ rfl
 refine Te ?_
 obtain ⟨⟨gU, gV, T, gW⟩, fm, fn⟩ := bS hm
 refine Cj (fun cG e' hp' => ∃ cH, [(2, iv x9), (3, pb h), (9, .map (some o)), (10, sv a0 aD a1), (11, iv d.1), (13, iv 0), (16, pb cH), (39, pb z), (47, .agg #[.map (some p), .map (some q), .map (some s), .map (some t)]), (48, iv 0), (53, pb bs)] = e' ∧ (h, Cl 91 [sv A2 s1.Day.Trains c3, sv A5 s1.Day.Turns c6, iv s1.least]) :: (cH, Cl 83 [iv gU, iv gV, iv T, iv gW]) :: (I ++ (D ++ (a ++ (m ++ (e ++ (c ++ (E ++ R))))))) = hp' ∧ bJ.Le cG) ?_ ?_
 have hm := fm
 obtain ⟨iW, gX, hm⟩ := bS hm
 obtain ⟨cc, gY, hm⟩ := bS hm
 refine Di mixed (.refl _)<|E0 0 rfl (sF rfl fld91_0)<|E0 1 rfl (sF rfl fld25_0)<|Es 2 rfl (sL 1 rfl one22 rfl rfl)<|E0 3 rfl (sF rfl fld113_0)<|Es 4 rfl (sL 0 rfl one3 rfl rfl) ?_
 obtain ⟨gZ, fo, fp⟩ := iS gX
 obtain ⟨ip, fq, ev, dh, ew⟩ := FZ.get (sz := 4) rfl (by decide) (h4.le (B.trans (y.trans (aw.trans (ax.trans (ay.trans aT)))))) fp
 obtain ⟨_, _, rfl, rfl, ⟨_, _, rfl, rfl, ⟨_, _, rfl, ⟨iX, iY, rfl, g0⟩, ⟨iZ, i0, rfl, i1⟩⟩⟩⟩ := fq
 refine E0 5 rfl (sI gZ rfl rfl fo ew dh sl22)<|E0 6 rfl (sQ rfl dh fld47_2)<|Es 7 rfl (sO rfl one45 (ev 2 _ rfl))<|E0 8 rfl (sF rfl fld113_1)<|Es 9 rfl (sL 0 rfl one3 rfl rfl) ?_
 obtain ⟨g1, fr, fs⟩ := iS gY
 obtain ⟨iq, ft, ex, di, ey⟩ := FZ.get (sz := 4) rfl (by decide) g0 fs
 obtain ⟨_, _, rfl, rfl, ⟨_, _, rfl, rfl, ⟨_, _, rfl, rfl, rfl⟩⟩⟩ := ft
 refine E0 10 rfl (sI g1 rfl rfl fr ey di sl45)<|Es 11 rfl (sP (vs := [iv cc.Station, iv cc.Track, iv cc.Arr, iv cc.Dep]) 4 rfl agg83 di rfl (fun j u hu => ex j u hu))<|Eo<|Da [12] (by kernel_rfl) rfl ?_
 refine Rd2 lr rfl rfl (uA [iv 0, iv 0, iv 0, iv 0] zero83 rfl) ?_ ?_
 rintro _ _ ⟨g2, rfl, rfl⟩
 refine iR<|Da [13] (by kernel_rfl) rfl ?_
 refine Rd2 lr rfl rfl (uN (vs := [_, _, _, _]) 0 4 rfl rfl rfl siz83 rfl (mc rfl (mc rfl (mc rfl (mc rfl mn)))) rfl (by simp)) ?_ ?_
 rintro _ _ rfl
 refine ⟨.inl (by kernel_rfl), ?_⟩
 refine Dd (by kernel_rfl) ?_
 obtain ⟨rfl, rfl, rfl, rfl⟩ := some4 hm
 exact jJ ⟨g2, rfl, rfl, lr⟩
 exact Rn
 exact Rn
 rintro cG _ _ ⟨cH, rfl, rfl, ad⟩
 have hm := (unc4E fn)
 refine Cr<|mV rfl<|tS (sF rfl fld83_2)<|tS (sL 1 rfl one3 rfl rfl)<|mV rfl ?_
 obtain ⟨_, cJ, hm⟩ := bS hm
 have cJ := (kS cJ).2
 refine tS (sa rfl rfl cJ)<|tS (sB (v := .agg #[iv d.1, iv T, iv (0 + 1)]) [(0, iv d.1), (1, iv T), (2, iv (0 + 1))] rfl (fun _ => by kernel_rfl))<|tD (uA [iv 0, iv 0, iv 0] zero42 rfl) ?_
 rintro _ _ ⟨dM, rfl, rfl⟩
 refine tD (uN (vs := [_, _, _]) 0 3 rfl rfl rfl siz42 rfl (mc rfl (mc rfl (mc rfl mn))) rfl (by simp)) ?_
 rintro _ _ rfl
 refine Te ?_
 obtain ⟨g3, fu, fv⟩ := bS hm
 refine Cj (fun dN e' hp' => [(2, iv x9), (3, pb h), (9, .map (some o)), (10, sv a0 aD a1), (11, iv d.1), (13, iv 0), (17, pb dM), (39, pb z), (47, .agg #[.map (some p), .map (some q), .map (some s), .map (some t)]), (48, iv 0), (53, pb bs), (85, bv g3)] = e' ∧ (h, Cl 91 [sv A2 s1.Day.Trains c3, sv A5 s1.Day.Turns c6, iv s1.least]) :: (dM, Cl 42 [iv d.1, iv T, iv (0 + 1)]) :: (I ++ (D ++ (a ++ (m ++ (e ++ (c ++ (E ++ R))))))) = hp' ∧ cG.Le dN) ?_ ?_
 have hm := fu
 refine Cg<|tS (sF rfl fld83_0)<|tS (sL 2 rfl one3 rfl rfl)<|mV rfl ?_
 refine Tb rfl (q1 rfl rfl) (fun cr => ?_) (fun cr => ?_)
 rw [if_pos cr] at hm
 refine mV rfl<|yS<|mV rfl<|yS<|tS (sD (vs := [_, _, _]) 0 3 rfl agg42 rfl rfl rfl)<|yS ?_
 obtain ⟨dO, g4, hm⟩ := bS hm
 have fw := Option.some.inj g4
 obtain ⟨dP, bL, fx⟩ := OM.lookF kok42 (z0 := false) (cb.le ad) (key := .agg #[iv d.1, iv T, iv (0 + 1)]) (k := (⟨d.1, T, 0 + 1⟩ : GuidePoint)) ⟨[iv d.1, iv T, iv (0 + 1)], rfl, ⟨[iv d.1], _, rfl, rfl, ⟨[iv T], _, rfl, rfl, rfl⟩⟩⟩ mapt142 zero4 rfl
 rw [fw] at bL
 obtain rfl : dP = bv dO := by have bL : [dP] = [bv dO] := bL; injection bL
 refine tS (st_mlook (ok := false) rfl rfl (fun w ho => fx _ w ho (.cons _ (.cons _ (.cons _ (List.sublist_append_left _ _)))) false))<|yS<|tS (sn2 rfl)<|tS (pT rfl rfl)<|Tn ?_
 obtain rfl := o1 hm
 exact jJ ⟨rfl, rfl, lr⟩
 rw [if_neg cr] at hm
 refine mV rfl<|nO<|nO<|nO<|nO<|tS (pF rfl rfl)<|Tn ?_
 obtain rfl := o1 hm
 exact jJ ⟨rfl, rfl, lr⟩
 rintro dN _ _ ⟨rfl, rfl, al⟩
 have hm := fv
 refine cB hm rfl (fun hm => ?_) fun hm => ?_
 refine Cr<|mV rfl<|tS (sD (vs := [_, _, _]) 1 3 rfl agg42 rfl rfl rfl)<|tD (u_mputF (k := (⟨d.1, T, 0 + 1⟩ : GuidePoint)) kok42 [_, _] [] (D ++ (a ++ (m ++ (e ++ (c ++ (E ++ R)))))) rfl (cb.le (ad.trans al)) mapt142 rfl rfl rfl (⟨[iv d.1, iv T, iv (0 + 1)], rfl, ⟨[iv d.1], _, rfl, rfl, ⟨[iv T], _, rfl, rfl, rfl⟩⟩⟩) ⟨rfl, rfl⟩ _ (.inl rfl)) ?_
 rintro _ _ ⟨ar, rfl, h9, g5⟩
 refine Te<|Cg<|mV rfl<|tS (sD (vs := [_, _, _]) 1 3 rfl agg42 rfl rfl rfl)<|tD (u_bslice (el := 42) [(0, .agg #[iv d.1, iv T, iv (0 + 1)])] [iv d.1, iv T, iv (0 + 1)] rfl (fun _ => by kernel_rfl)) ?_
 rintro _ _ ⟨i2, rfl, rfl⟩
 obtain ⟨_, cK, hm⟩ := bS hm
 have cK := room_some cK
 refine t_front2 [_, _, _] ar D (a ++ (m ++ (e ++ (c ++ (E ++ R))))) rfl<|tD (uQ (r := rGuidePoint) (l := aD) [_, _, _] (ar ++ (a ++ (m ++ (e ++ (c ++ (E ++ R)))))) [[iv d.1, iv T, iv (0 + 1)]] [(⟨d.1, T, 0 + 1⟩ : GuidePoint)] rfl (by decide) sl38 inf42 rfl rfl rfl rfl (cE.le (ad.trans al)) rfl (fun w ho => Rd.own (i := 0) ho rfl) ⟨⟨[iv d.1], _, rfl, rfl, ⟨[iv T], _, rfl, rfl, rfl⟩⟩, trivial⟩ cK) ?_
 rintro _ _ ⟨aE, rfl, dQ⟩
 obtain ⟨dR, dS, rfl, _⟩ := dQ.form
 refine aS rfl<|Tn<|Xm<|Xp 1 rfl<|X6 [_, _, _] aE ar a m e c (E ++ R) rfl<|X6 [_, _, _] c aE ar a m e (E ++ R) rfl<|X6 [_, _, _] e c aE ar a m (E ++ R) rfl<|X6 [_, _, _] m e c aE ar a (E ++ R) rfl<|X5 [_, _, _] a m e c aE (ar ++ (E ++ R)) rfl<|X6 [_, _, _] aE a m e c ar (E ++ R) rfl ?_
 refine x_front7 [_, _, _] ar aE a m e c E R rfl ?_
 have ez := (aT.trans (ad.trans al))
 exact x_mapM (s' := (mput ca (⟨d.1, T, 0 + 1⟩ : GuidePoint) true, aD ++ [(⟨d.1, T, 0 + 1⟩ : GuidePoint)])) [_, _, _] (ar ++ (aE ++ (a ++ (m ++ (e ++ (c ++ R)))))) rfl hperm48700 (bg.trans (Option.some.inj hm ▸ rfl)) ez (dK.le (ad.trans al)) (e' := [(2, iv x9), (3, pb h), (9, .map (some o)), (10, .slice dR (aD ++ [(⟨d.1, T, 0 + 1⟩ : GuidePoint)]).length dS), (11, iv d.1), (13, iv 0), (39, pb z), (47, .agg #[.map (some p), .map (some q), .map (some s), .map (some t)]), (48, iv 0), (53, pb bs)]) ⟨rfl, rfl, rfl, rfl, rfl, rfl, rfl, rfl, rfl, rfl, trivial⟩ (.cons_cons _ (.cons _ (.cons _ (.refl _)))) ⟨ar, dR, dS, aE, rfl, rfl, ((aT.trans (ad.trans al))), g5, dQ⟩
 refine Ck<|Xm<|X6 [_, _] I D a m e c (E ++ R) rfl<|X6 [_, _] c I D a m e (E ++ R) rfl<|X6 [_, _] e c I D a m (E ++ R) rfl<|X6 [_, _] m e c I D a (E ++ R) rfl<|X6 [_, _] a m e c I D (E ++ R) rfl<|X6 [_, _] D a m e c I (E ++ R) rfl<|x_front7 [_, _] I D a m e c E R rfl ?_
 have eA := (aT.trans (ad.trans al))
 exact x_mapM (s' := (ca, aD)) [_, _] (I ++ (D ++ (a ++ (m ++ (e ++ (c ++ R)))))) rfl hperm48700 (bg.trans (Option.some.inj hm ▸ rfl)) eA (dK.le (ad.trans al)) (e' := [(2, iv x9), (3, pb h), (9, .map (some o)), (10, sv a0 aD a1), (11, iv d.1), (13, iv 0), (39, pb z), (47, .agg #[.map (some p), .map (some q), .map (some s), .map (some t)]), (48, iv 0), (53, pb bs)]) ⟨rfl, rfl, rfl, rfl, rfl, rfl, rfl, rfl, rfl, rfl, trivial⟩ (.cons_cons _ (.cons _ (.refl _))) ⟨I, a0, a1, D, rfl, rfl, ((aT.trans (ad.trans al))), (cb.le (ad.trans al)), (cE.le (ad.trans al))⟩
 rintro br _ _ ⟨ab, bH, bI, ac, rfl, rfl, az, g6, g7⟩
 have hm := (unc2E fg)
 refine Cg ?_
 obtain ⟨_, cO, hm⟩ := bS hm
 have cO := (kS cO).2
 refine tS (sa rfl rfl cO)<|mV rfl<|Tn<|x_unroll<|Cr<|tS (lT rfl rfl (by omega))<|Te<|Cs<|c_cond_t rfl<|Ck ?_
 refine Xn ?_
 obtain ⟨⟨g8, cd⟩, fy, fz⟩ := bS hm
 refine Cj (fun bt e' hp' => ∃ aj bM bN ak, [(2, iv x9), (3, pb h), (9, .map (some o)), (10, sv bM cd bN), (11, iv d.1), (39, pb z), (47, .agg #[.map (some p), .map (some q), .map (some s), .map (some t)]), (48, iv 1)] = e' ∧ (h, Cl 91 [sv A2 s1.Day.Trains c3, sv A5 s1.Day.Turns c6, iv s1.least]) :: (aj ++ (ak ++ (a ++ (e ++ (c ++ R))))) = hp' ∧ br.Le bt ∧ OM rGuidePoint (OT.fr RT.bool) true false bt.w o g8 aj ∧ OS 42 (OT.fr rGuidePoint) bt.w (sv bM cd bN) cd ak) ?_ ?_
 have hm := fy
 refine Cb<|Cr<|mV rfl<|tS (st_aidx1 (cs := [.map (some p), .map (some q), .map (some s), .map (some t)]) 1 rfl rfl rfl (by decide) rfl arr106 one105)<|aS rfl<|aS rfl<|Te<|Cr<|mV rfl<|t_front4 [_] ab ac a m (e ++ (c ++ R)) rfl ?_
 refine tD (u_range [_] (ab ++ (ac ++ (a ++ (e ++ (c ++ R))))) rfl (gO.le az) mapt105 rfl) ?_
 rintro _ _ ⟨bu, bb, rfl, rfl, g9⟩
 refine Te<|Cb<|c_front6 [_] bb ab ac a e c R rfl<|c_front6 [_] c bb ab ac a e R rfl<|c_front6 [_] e c bb ab ac a R rfl<|c_front6 [_] a e c bb ab ac R rfl<|c_front6 [_] ac a e c bb ab R rfl<|c_front6 [_] ab ac a e c bb R rfl ?_
 obtain ⟨i3, fA, dj⟩ := bS hm
 refine c_mapM (unc2 fun ce aF => fun bO e' hp' => ∃ O a2 a3 F, [(2, iv x9), (3, pb h), (9, .map (some o)), (10, sv a2 aF a3), (11, iv d.1), (13, iv 1), (39, pb z), (47, .agg #[.map (some p), .map (some q), .map (some s), .map (some t)]), (48, iv 1), (53, pb bu)] = e' ∧ (h, Cl 91 [sv A2 s1.Day.Trains c3, sv A5 s1.Day.Turns c6, iv s1.least]) :: (O ++ (F ++ (a ++ (e ++ (c ++ R))))) = hp' ∧ br.Le bO ∧ OM rGuidePoint (OT.fr RT.bool) true false bO.w o ce O ∧ OS 42 (OT.fr rGuidePoint) bO.w (sv a2 aF a3) aF F) fA g9 (e' := [(2, iv x9), (3, pb h), (9, .map (some o)), (10, sv bH b9 bI), (11, iv d.1), (13, iv 1), (39, pb z), (47, .agg #[.map (some p), .map (some q), .map (some s), .map (some t)]), (48, iv 1), (53, pb bu)]) ⟨rfl, rfl, rfl, rfl, rfl, rfl, rfl, rfl, rfl, rfl, trivial⟩ [_] (ab ++ (ac ++ (a ++ (e ++ (c ++ R))))) rfl (.refl _) ⟨ab, bH, bI, ac, rfl, rfl, lr, g6, g7⟩ ?_
 rintro ⟨ce, aF⟩ i4 bO _ _ fB ⟨O, a2, a3, F, rfl, rfl, aU, cf, cP⟩ ik ha hd49753 hall49754
 refine c_mid [_] fB (O ++ (F ++ (a ++ (e ++ (c ++ R))))) ?_ rfl
 refine Cr ?_
 refine t_next [_] (O ++ (F ++ (a ++ (e ++ (c ++ R))))) rfl rfl rfl ha (fun hnil49756 => ?_) (fun dT i5 i6 i7 J hperm49762 fC dU => ?_)
 have hend49765 := hd49753 hnil49756
 refine tS (st_extract rfl rfl)<|Te<|Cs<|c_cond_f rfl<|Ce<|Xe<|Xe<|Xo ?_
 rw [hend49765] at dj
 have hm := elimL dj
 have hm := (unc2E hm)
 refine Xm ?_
 obtain ⟨rfl, rfl⟩ := some2 hm
 exact jJ ⟨O, a2, a3, F, rfl, rfl, aU, cf, cP⟩
 obtain ⟨i8, bh, ia⟩ := hall49754 _ _ hperm49762
 have bP := bh
 unfold mGuideNetPoints_L49402 at bP
 have hm := (unc2E bP)
 refine tS (st_extract rfl rfl)<|Te<|Cs<|c_cond_t rfl<|Ck<|Xn<|Cb<|Cr ?_
 obtain ⟨i9, dV, fD, ct, fF⟩ := MIx.entry Tryd.prog fC
 obtain ⟨_, rfl, ⟨_, _, rfl, rfl, rfl⟩⟩ := fD
 obtain rfl : dV = bv dT.2 := by have ct : [dV] = [bv dT.2] := ct; injection ct
 refine tS (fF (.cons _ (List.sublist_append_left _ _)) rfl)<|tS (st_extract rfl rfl)<|tD (uA [iv 0, iv 0] zero113 rfl) ?_
 rintro _ _ ⟨ja, rfl, rfl⟩
 refine tD (uN (vs := [_, _]) 0 2 rfl rfl rfl siz113 rfl (mc rfl (mc rfl mn)) rfl (by simp)) ?_
 rintro _ _ rfl
 refine Te ?_
 obtain ⟨⟨hb, hc, U, hd⟩, fG, fH⟩ := bS hm
 refine Cj (fun cQ e' hp' => ∃ cR, [(2, iv x9), (3, pb h), (9, .map (some o)), (10, sv a2 aF a3), (11, iv d.1), (13, iv 1), (16, pb cR), (39, pb z), (47, .agg #[.map (some p), .map (some q), .map (some s), .map (some t)]), (48, iv 1), (53, pb bu)] = e' ∧ (h, Cl 91 [sv A2 s1.Day.Trains c3, sv A5 s1.Day.Turns c6, iv s1.least]) :: (cR, Cl 83 [iv hb, iv hc, iv U, iv hd]) :: (O ++ (F ++ (a ++ (e ++ (c ++ (J ++ R)))))) = hp' ∧ bO.Le cQ) ?_ ?_
 have hm := fG
 obtain ⟨jb, he, hm⟩ := bS hm
 obtain ⟨cg, hf, hm⟩ := bS hm
 refine Di mixed (.refl _)<|E0 0 rfl (sF rfl fld91_0)<|E0 1 rfl (sF rfl fld25_0)<|Es 2 rfl (sL 1 rfl one22 rfl rfl)<|E0 3 rfl (sF rfl fld113_0)<|Es 4 rfl (sL 0 rfl one3 rfl rfl) ?_
 obtain ⟨hg, fI, fJ⟩ := iS he
 obtain ⟨ir, fK, eB, dl, eC⟩ := FZ.get (sz := 4) rfl (by decide) (h4.le (B.trans (y.trans (aw.trans (ax.trans (ay.trans (az.trans aU))))))) fJ
 obtain ⟨_, _, rfl, rfl, ⟨_, _, rfl, rfl, ⟨_, _, rfl, ⟨jc, jd, rfl, hh⟩, ⟨je, jf, rfl, jg⟩⟩⟩⟩ := fK
 refine E0 5 rfl (sI hg rfl rfl fI eC dl sl22)<|E0 6 rfl (sQ rfl dl fld47_2)<|Es 7 rfl (sO rfl one45 (eB 2 _ rfl))<|E0 8 rfl (sF rfl fld113_1)<|Es 9 rfl (sL 0 rfl one3 rfl rfl) ?_
 obtain ⟨hi, fL, fM⟩ := iS hf
 obtain ⟨iu, fN, eD, dm, eE⟩ := FZ.get (sz := 4) rfl (by decide) hh fM
 obtain ⟨_, _, rfl, rfl, ⟨_, _, rfl, rfl, ⟨_, _, rfl, rfl, rfl⟩⟩⟩ := fN
 refine E0 10 rfl (sI hi rfl rfl fL eE dm sl45)<|Es 11 rfl (sP (vs := [iv cg.Station, iv cg.Track, iv cg.Arr, iv cg.Dep]) 4 rfl agg83 dm rfl (fun j u hu => eD j u hu))<|Eo<|Da [12] (by kernel_rfl) rfl ?_
 refine Rd2 lr rfl rfl (uA [iv 0, iv 0, iv 0, iv 0] zero83 rfl) ?_ ?_
 rintro _ _ ⟨hj, rfl, rfl⟩
 refine iR<|Da [13] (by kernel_rfl) rfl ?_
 refine Rd2 lr rfl rfl (uN (vs := [_, _, _, _]) 0 4 rfl rfl rfl siz83 rfl (mc rfl (mc rfl (mc rfl (mc rfl mn)))) rfl (by simp)) ?_ ?_
 rintro _ _ rfl
 refine ⟨.inl (by kernel_rfl), ?_⟩
 refine Dd (by kernel_rfl) ?_
 obtain ⟨rfl, rfl, rfl, rfl⟩ := some4 hm
 exact jJ ⟨hj, rfl, rfl, lr⟩
 exact Rn
 exact Rn
 rintro cQ _ _ ⟨cR, rfl, rfl, ae⟩
 have hm := (unc4E fH)
 refine Cr<|mV rfl<|tS (sF rfl fld83_2)<|tS (sL 1 rfl one3 rfl rfl)<|mV rfl ?_
 obtain ⟨_, cT, hm⟩ := bS hm
 have cT := (kS cT).2
 refine tS (sa rfl rfl cT)<|tS (sB (v := .agg #[iv d.1, iv U, iv (1 + 1)]) [(0, iv d.1), (1, iv U), (2, iv (1 + 1))] rfl (fun _ => by kernel_rfl))<|tD (uA [iv 0, iv 0, iv 0] zero42 rfl) ?_
 rintro _ _ ⟨dW, rfl, rfl⟩
 refine tD (uN (vs := [_, _, _]) 0 3 rfl rfl rfl siz42 rfl (mc rfl (mc rfl (mc rfl mn))) rfl (by simp)) ?_
 rintro _ _ rfl
 refine Te ?_
 obtain ⟨hk, fO, fP⟩ := bS hm
 refine Cj (fun dX e' hp' => [(2, iv x9), (3, pb h), (9, .map (some o)), (10, sv a2 aF a3), (11, iv d.1), (13, iv 1), (17, pb dW), (39, pb z), (47, .agg #[.map (some p), .map (some q), .map (some s), .map (some t)]), (48, iv 1), (53, pb bu), (85, bv hk)] = e' ∧ (h, Cl 91 [sv A2 s1.Day.Trains c3, sv A5 s1.Day.Turns c6, iv s1.least]) :: (dW, Cl 42 [iv d.1, iv U, iv (1 + 1)]) :: (O ++ (F ++ (a ++ (e ++ (c ++ (J ++ R)))))) = hp' ∧ cQ.Le dX) ?_ ?_
 have hm := fO
 refine Cg<|tS (sF rfl fld83_0)<|tS (sL 2 rfl one3 rfl rfl)<|mV rfl ?_
 refine Tb rfl (q1 rfl rfl) (fun cu => ?_) (fun cu => ?_)
 rw [if_pos cu] at hm
 refine mV rfl<|yS<|mV rfl<|yS<|tS (sD (vs := [_, _, _]) 0 3 rfl agg42 rfl rfl rfl)<|yS ?_
 obtain ⟨dY, hl, hm⟩ := bS hm
 have fQ := Option.some.inj hl
 obtain ⟨dZ, bQ, fR⟩ := OM.lookF kok42 (z0 := false) (cf.le ae) (key := .agg #[iv d.1, iv U, iv (1 + 1)]) (k := (⟨d.1, U, 1 + 1⟩ : GuidePoint)) ⟨[iv d.1, iv U, iv (1 + 1)], rfl, ⟨[iv d.1], _, rfl, rfl, ⟨[iv U], _, rfl, rfl, rfl⟩⟩⟩ mapt142 zero4 rfl
 rw [fQ] at bQ
 obtain rfl : dZ = bv dY := by have bQ : [dZ] = [bv dY] := bQ; injection bQ
 refine tS (st_mlook (ok := false) rfl rfl (fun w ho => fR _ w ho (.cons _ (.cons _ (.cons _ (List.sublist_append_left _ _)))) false))<|yS<|tS (sn2 rfl)<|tS (pT rfl rfl)<|Tn ?_
 obtain rfl := o1 hm
 exact jJ ⟨rfl, rfl, lr⟩
 rw [if_neg cu] at hm
 refine mV rfl<|nO<|nO<|nO<|nO<|tS (pF rfl rfl)<|Tn ?_
 obtain rfl := o1 hm
 exact jJ ⟨rfl, rfl, lr⟩
 rintro dX _ _ ⟨rfl, rfl, am⟩
 have hm := fP
 refine cB hm rfl (fun hm => ?_) fun hm => ?_
 refine Cr<|mV rfl<|tS (sD (vs := [_, _, _]) 1 3 rfl agg42 rfl rfl rfl)<|tD (u_mputF (k := (⟨d.1, U, 1 + 1⟩ : GuidePoint)) kok42 [_, _] [] (F ++ (a ++ (e ++ (c ++ (J ++ R))))) rfl (cf.le (ae.trans am)) mapt142 rfl rfl rfl (⟨[iv d.1, iv U, iv (1 + 1)], rfl, ⟨[iv d.1], _, rfl, rfl, ⟨[iv U], _, rfl, rfl, rfl⟩⟩⟩) ⟨rfl, rfl⟩ _ (.inl rfl)) ?_
 rintro _ _ ⟨aA, rfl, ib, hn⟩
 refine Te<|Cg<|mV rfl<|tS (sD (vs := [_, _, _]) 1 3 rfl agg42 rfl rfl rfl)<|tD (u_bslice (el := 42) [(0, .agg #[iv d.1, iv U, iv (1 + 1)])] [iv d.1, iv U, iv (1 + 1)] rfl (fun _ => by kernel_rfl)) ?_
 rintro _ _ ⟨jh, rfl, rfl⟩
 obtain ⟨_, cU, hm⟩ := bS hm
 have cU := room_some cU
 refine t_front2 [_, _, _] aA F (a ++ (e ++ (c ++ (J ++ R)))) rfl<|tD (uQ (r := rGuidePoint) (l := aF) [_, _, _] (aA ++ (a ++ (e ++ (c ++ (J ++ R))))) [[iv d.1, iv U, iv (1 + 1)]] [(⟨d.1, U, 1 + 1⟩ : GuidePoint)] rfl (by decide) sl38 inf42 rfl rfl rfl rfl (cP.le (ae.trans am)) rfl (fun w ho => Rd.own (i := 0) ho rfl) ⟨⟨[iv d.1], _, rfl, rfl, ⟨[iv U], _, rfl, rfl, rfl⟩⟩, trivial⟩ cU) ?_
 rintro _ _ ⟨aO, rfl, d0⟩
 obtain ⟨d1, d5, rfl, _⟩ := d0.form
 refine aS rfl<|Tn<|Xm<|Xp 1 rfl<|X5 [_, _, _] aO aA a e c (J ++ R) rfl<|X5 [_, _, _] c aO aA a e (J ++ R) rfl<|X5 [_, _, _] e c aO aA a (J ++ R) rfl<|X4 [_, _, _] a e c aO (aA ++ (J ++ R)) rfl<|X5 [_, _, _] aO a e c aA (J ++ R) rfl<|X6 [_, _, _] aA aO a e c J R rfl ?_
 have eG := (aU.trans (ae.trans am))
 exact x_mapM (s' := (mput ce (⟨d.1, U, 1 + 1⟩ : GuidePoint) true, aF ++ [(⟨d.1, U, 1 + 1⟩ : GuidePoint)])) [_, _, _] (aA ++ (aO ++ (a ++ (e ++ (c ++ R))))) rfl hperm49762 (bh.trans (Option.some.inj hm ▸ rfl)) eG (dU.le (ae.trans am)) (e' := [(2, iv x9), (3, pb h), (9, .map (some o)), (10, .slice d1 (aF ++ [(⟨d.1, U, 1 + 1⟩ : GuidePoint)]).length d5), (11, iv d.1), (13, iv 1), (39, pb z), (47, .agg #[.map (some p), .map (some q), .map (some s), .map (some t)]), (48, iv 1), (53, pb bu)]) ⟨rfl, rfl, rfl, rfl, rfl, rfl, rfl, rfl, rfl, rfl, trivial⟩ (.cons_cons _ (.cons _ (.cons _ (.refl _)))) ⟨aA, d1, d5, aO, rfl, rfl, ((aU.trans (ae.trans am))), hn, d0⟩
 refine Ck<|Xm<|X5 [_, _] O F a e c (J ++ R) rfl<|X5 [_, _] c O F a e (J ++ R) rfl<|X5 [_, _] e c O F a (J ++ R) rfl<|X5 [_, _] a e c O F (J ++ R) rfl<|X5 [_, _] F a e c O (J ++ R) rfl<|X6 [_, _] O F a e c J R rfl ?_
 have eH := (aU.trans (ae.trans am))
 exact x_mapM (s' := (ce, aF)) [_, _] (O ++ (F ++ (a ++ (e ++ (c ++ R))))) rfl hperm49762 (bh.trans (Option.some.inj hm ▸ rfl)) eH (dU.le (ae.trans am)) (e' := [(2, iv x9), (3, pb h), (9, .map (some o)), (10, sv a2 aF a3), (11, iv d.1), (13, iv 1), (39, pb z), (47, .agg #[.map (some p), .map (some q), .map (some s), .map (some t)]), (48, iv 1), (53, pb bu)]) ⟨rfl, rfl, rfl, rfl, rfl, rfl, rfl, rfl, rfl, rfl, trivial⟩ (.cons_cons _ (.cons _ (.refl _))) ⟨O, a2, a3, F, rfl, rfl, ((aU.trans (ae.trans am))), (cf.le (ae.trans am)), (cP.le (ae.trans am))⟩
 rintro bt _ _ ⟨aj, bM, bN, ak, rfl, rfl, aJ, hq, hr⟩
 have hm := (unc2E fz)
 refine Cg ?_
 obtain ⟨_, cV, hm⟩ := bS hm
 have cV := (kS cV).2
 refine tS (sa rfl rfl cV)<|mV rfl<|Tn<|x_unroll<|Cr<|tS (lT rfl rfl (by omega))<|Te<|Cs<|c_cond_t rfl<|Ck ?_
 refine Xn ?_
 obtain ⟨⟨hs, ch⟩, fS, fT⟩ := bS hm
 refine Cj (fun bw e' hp' => ∃ au bR bT av, [(2, iv x9), (3, pb h), (9, .map (some o)), (10, sv bR ch bT), (11, iv d.1), (39, pb z), (47, .agg #[.map (some p), .map (some q), .map (some s), .map (some t)]), (48, iv 2)] = e' ∧ (h, Cl 91 [sv A2 s1.Day.Trains c3, sv A5 s1.Day.Turns c6, iv s1.least]) :: (au ++ (av ++ (a ++ (c ++ R)))) = hp' ∧ bt.Le bw ∧ OM rGuidePoint (OT.fr RT.bool) true false bw.w o hs au ∧ OS 42 (OT.fr rGuidePoint) bw.w (sv bR ch bT) ch av) ?_ ?_
 have hm := fS
 refine Cb<|Cr<|mV rfl<|tS (st_aidx1 (cs := [.map (some p), .map (some q), .map (some s), .map (some t)]) 2 rfl rfl rfl (by decide) rfl arr106 one105)<|aS rfl<|aS rfl<|Te<|Cr<|mV rfl<|t_front4 [_] aj ak a e (c ++ R) rfl ?_
 refine tD (u_range [_] (aj ++ (ak ++ (a ++ (c ++ R)))) rfl (gP.le (az.trans aJ)) mapt105 rfl) ?_
 rintro _ _ ⟨bx, bi, rfl, rfl, ht⟩
 refine Te<|Cb<|c_front5 [_] bi aj ak a c R rfl<|c_front5 [_] c bi aj ak a R rfl<|c_front5 [_] a c bi aj ak R rfl<|c_front5 [_] ak a c bi aj R rfl<|c_front5 [_] aj ak a c bi R rfl ?_
 obtain ⟨ji, fU, dn⟩ := bS hm
 refine c_mapM (unc2 fun ci aG => fun bU e' hp' => ∃ X a4 a5 K, [(2, iv x9), (3, pb h), (9, .map (some o)), (10, sv a4 aG a5), (11, iv d.1), (13, iv 2), (39, pb z), (47, .agg #[.map (some p), .map (some q), .map (some s), .map (some t)]), (48, iv 2), (53, pb bx)] = e' ∧ (h, Cl 91 [sv A2 s1.Day.Trains c3, sv A5 s1.Day.Turns c6, iv s1.least]) :: (X ++ (K ++ (a ++ (c ++ R)))) = hp' ∧ bt.Le bU ∧ OM rGuidePoint (OT.fr RT.bool) true false bU.w o ci X ∧ OS 42 (OT.fr rGuidePoint) bU.w (sv a4 aG a5) aG K) fU ht (e' := [(2, iv x9), (3, pb h), (9, .map (some o)), (10, sv bM cd bN), (11, iv d.1), (13, iv 2), (39, pb z), (47, .agg #[.map (some p), .map (some q), .map (some s), .map (some t)]), (48, iv 2), (53, pb bx)]) ⟨rfl, rfl, rfl, rfl, rfl, rfl, rfl, rfl, rfl, rfl, trivial⟩ [_] (aj ++ (ak ++ (a ++ (c ++ R)))) rfl (.refl _) ⟨aj, bM, bN, ak, rfl, rfl, lr, hq, hr⟩ ?_
 rintro ⟨ci, aG⟩ jj bU _ _ fV ⟨X, a4, a5, K, rfl, rfl, aV, cj, cW⟩ il hv hd50815 hall50816
 refine c_mid [_] fV (X ++ (K ++ (a ++ (c ++ R)))) ?_ rfl
 refine Cr ?_
 refine t_next [_] (X ++ (K ++ (a ++ (c ++ R)))) rfl rfl rfl hv (fun hnil50818 => ?_) (fun d6 jk jl jm Y hperm50824 fW d7 => ?_)
 have hend50827 := hd50815 hnil50818
 refine tS (st_extract rfl rfl)<|Te<|Cs<|c_cond_f rfl<|Ce<|Xe<|Xe<|Xo ?_
 rw [hend50827] at dn
 have hm := elimL dn
 have hm := (unc2E hm)
 refine Xm ?_
 obtain ⟨rfl, rfl⟩ := some2 hm
 exact jJ ⟨X, a4, a5, K, rfl, rfl, aV, cj, cW⟩
 obtain ⟨jn, bj, ic⟩ := hall50816 _ _ hperm50824
 have bV := bj
 unfold mGuideNetPoints_L50464 at bV
 have hm := (unc2E bV)
 refine tS (st_extract rfl rfl)<|Te<|Cs<|c_cond_t rfl<|Ck<|Xn<|Cb<|Cr ?_
 obtain ⟨jo, d8, fX, cv, fY⟩ := MIx.entry Tryd.prog fW
 obtain ⟨_, rfl, ⟨_, _, rfl, rfl, rfl⟩⟩ := fX
 obtain rfl : d8 = bv d6.2 := by have cv : [d8] = [bv d6.2] := cv; injection cv
 refine tS (fY (.cons _ (List.sublist_append_left _ _)) rfl)<|tS (st_extract rfl rfl)<|tD (uA [iv 0, iv 0] zero113 rfl) ?_
 rintro _ _ ⟨jp, rfl, rfl⟩
 refine tD (uN (vs := [_, _]) 0 2 rfl rfl rfl siz113 rfl (mc rfl (mc rfl mn)) rfl (by simp)) ?_
 rintro _ _ rfl
 refine Te ?_
 obtain ⟨⟨hw, hy, V, hz⟩, fZ, f0⟩ := bS hm
 refine Cj (fun cX e' hp' => ∃ cY, [(2, iv x9), (3, pb h), (9, .map (some o)), (10, sv a4 aG a5), (11, iv d.1), (13, iv 2), (16, pb cY), (39, pb z), (47, .agg #[.map (some p), .map (some q), .map (some s), .map (some t)]), (48, iv 2), (53, pb bx)] = e' ∧ (h, Cl 91 [sv A2 s1.Day.Trains c3, sv A5 s1.Day.Turns c6, iv s1.least]) :: (cY, Cl 83 [iv hw, iv hy, iv V, iv hz]) :: (X ++ (K ++ (a ++ (c ++ (Y ++ R))))) = hp' ∧ bU.Le cX) ?_ ?_
 have hm := fZ
 obtain ⟨jq, hA, hm⟩ := bS hm
 obtain ⟨ck, hB, hm⟩ := bS hm
 refine Di mixed (.refl _)<|E0 0 rfl (sF rfl fld91_0)<|E0 1 rfl (sF rfl fld25_0)<|Es 2 rfl (sL 1 rfl one22 rfl rfl)<|E0 3 rfl (sF rfl fld113_0)<|Es 4 rfl (sL 0 rfl one3 rfl rfl) ?_
 obtain ⟨hC, f1, f2⟩ := iS hA
 obtain ⟨iw, f3, eI, dp, eJ⟩ := FZ.get (sz := 4) rfl (by decide) (h4.le (B.trans (y.trans (aw.trans (ax.trans (ay.trans (az.trans (aJ.trans aV)))))))) f2
 obtain ⟨_, _, rfl, rfl, ⟨_, _, rfl, rfl, ⟨_, _, rfl, ⟨jr, js, rfl, hD⟩, ⟨jt, ju, rfl, jv⟩⟩⟩⟩ := f3
 refine E0 5 rfl (sI hC rfl rfl f1 eJ dp sl22)<|E0 6 rfl (sQ rfl dp fld47_2)<|Es 7 rfl (sO rfl one45 (eI 2 _ rfl))<|E0 8 rfl (sF rfl fld113_1)<|Es 9 rfl (sL 0 rfl one3 rfl rfl) ?_
 obtain ⟨hE, f4, f5⟩ := iS hB
 obtain ⟨ix, f6, eK, dq, eL⟩ := FZ.get (sz := 4) rfl (by decide) hD f5
 obtain ⟨_, _, rfl, rfl, ⟨_, _, rfl, rfl, ⟨_, _, rfl, rfl, rfl⟩⟩⟩ := f6
 refine E0 10 rfl (sI hE rfl rfl f4 eL dq sl45)<|Es 11 rfl (sP (vs := [iv ck.Station, iv ck.Track, iv ck.Arr, iv ck.Dep]) 4 rfl agg83 dq rfl (fun j u hu => eK j u hu))<|Eo<|Da [12] (by kernel_rfl) rfl ?_
 refine Rd2 lr rfl rfl (uA [iv 0, iv 0, iv 0, iv 0] zero83 rfl) ?_ ?_
 rintro _ _ ⟨hF, rfl, rfl⟩
 refine iR<|Da [13] (by kernel_rfl) rfl ?_
 refine Rd2 lr rfl rfl (uN (vs := [_, _, _, _]) 0 4 rfl rfl rfl siz83 rfl (mc rfl (mc rfl (mc rfl (mc rfl mn)))) rfl (by simp)) ?_ ?_
 rintro _ _ rfl
 refine ⟨.inl (by kernel_rfl), ?_⟩
 refine Dd (by kernel_rfl) ?_
 obtain ⟨rfl, rfl, rfl, rfl⟩ := some4 hm
 exact jJ ⟨hF, rfl, rfl, lr⟩
 exact Rn
 exact Rn
 rintro cX _ _ ⟨cY, rfl, rfl, af⟩
 have hm := (unc4E f0)
 refine Cr<|mV rfl<|tS (sF rfl fld83_2)<|tS (sL 1 rfl one3 rfl rfl)<|mV rfl ?_
 obtain ⟨_, cZ, hm⟩ := bS hm
 have cZ := (kS cZ).2
 refine tS (sa rfl rfl cZ)<|tS (sB (v := .agg #[iv d.1, iv V, iv (2 + 1)]) [(0, iv d.1), (1, iv V), (2, iv (2 + 1))] rfl (fun _ => by kernel_rfl))<|tD (uA [iv 0, iv 0, iv 0] zero42 rfl) ?_
 rintro _ _ ⟨d9, rfl, rfl⟩
 refine tD (uN (vs := [_, _, _]) 0 3 rfl rfl rfl siz42 rfl (mc rfl (mc rfl (mc rfl mn))) rfl (by simp)) ?_
 rintro _ _ rfl
 refine Te ?_
 obtain ⟨hG, f7, f8⟩ := bS hm
 refine Cj (fun ea e' hp' => [(2, iv x9), (3, pb h), (9, .map (some o)), (10, sv a4 aG a5), (11, iv d.1), (13, iv 2), (17, pb d9), (39, pb z), (47, .agg #[.map (some p), .map (some q), .map (some s), .map (some t)]), (48, iv 2), (53, pb bx), (85, bv hG)] = e' ∧ (h, Cl 91 [sv A2 s1.Day.Trains c3, sv A5 s1.Day.Turns c6, iv s1.least]) :: (d9, Cl 42 [iv d.1, iv V, iv (2 + 1)]) :: (X ++ (K ++ (a ++ (c ++ (Y ++ R))))) = hp' ∧ cX.Le ea) ?_ ?_
 have hm := f7
 refine Cg<|tS (sF rfl fld83_0)<|tS (sL 2 rfl one3 rfl rfl)<|mV rfl ?_
 refine Tb rfl (q1 rfl rfl) (fun cw => ?_) (fun cw => ?_)
 rw [if_pos cw] at hm
 refine mV rfl<|yS<|mV rfl<|yS<|tS (sD (vs := [_, _, _]) 0 3 rfl agg42 rfl rfl rfl)<|yS ?_
 obtain ⟨eb, hH, hm⟩ := bS hm
 have f9 := Option.some.inj hH
 obtain ⟨ec, bW, ga⟩ := OM.lookF kok42 (z0 := false) (cj.le af) (key := .agg #[iv d.1, iv V, iv (2 + 1)]) (k := (⟨d.1, V, 2 + 1⟩ : GuidePoint)) ⟨[iv d.1, iv V, iv (2 + 1)], rfl, ⟨[iv d.1], _, rfl, rfl, ⟨[iv V], _, rfl, rfl, rfl⟩⟩⟩ mapt142 zero4 rfl
 rw [f9] at bW
 obtain rfl : ec = bv eb := by have bW : [ec] = [bv eb] := bW; injection bW
 refine tS (st_mlook (ok := false) rfl rfl (fun w ho => ga _ w ho (.cons _ (.cons _ (.cons _ (List.sublist_append_left _ _)))) false))<|yS<|tS (sn2 rfl)<|tS (pT rfl rfl)<|Tn ?_
 obtain rfl := o1 hm
 exact jJ ⟨rfl, rfl, lr⟩
 rw [if_neg cw] at hm
 refine mV rfl<|nO<|nO<|nO<|nO<|tS (pF rfl rfl)<|Tn ?_
 obtain rfl := o1 hm
 exact jJ ⟨rfl, rfl, lr⟩
 rintro ea _ _ ⟨rfl, rfl, an⟩
 have hm := f8
 refine cB hm rfl (fun hm => ?_) fun hm => ?_
 refine Cr<|mV rfl<|tS (sD (vs := [_, _, _]) 1 3 rfl agg42 rfl rfl rfl)<|tD (u_mputF (k := (⟨d.1, V, 2 + 1⟩ : GuidePoint)) kok42 [_, _] [] (K ++ (a ++ (c ++ (Y ++ R)))) rfl (cj.le (af.trans an)) mapt142 rfl rfl rfl (⟨[iv d.1, iv V, iv (2 + 1)], rfl, ⟨[iv d.1], _, rfl, rfl, ⟨[iv V], _, rfl, rfl, rfl⟩⟩⟩) ⟨rfl, rfl⟩ _ (.inl rfl)) ?_
 rintro _ _ ⟨aH, rfl, id, hI⟩
 refine Te<|Cg<|mV rfl<|tS (sD (vs := [_, _, _]) 1 3 rfl agg42 rfl rfl rfl)<|tD (u_bslice (el := 42) [(0, .agg #[iv d.1, iv V, iv (2 + 1)])] [iv d.1, iv V, iv (2 + 1)] rfl (fun _ => by kernel_rfl)) ?_
 rintro _ _ ⟨jw, rfl, rfl⟩
 obtain ⟨_, c0, hm⟩ := bS hm
 have c0 := room_some c0
 refine t_front2 [_, _, _] aH K (a ++ (c ++ (Y ++ R))) rfl<|tD (uQ (r := rGuidePoint) (l := aG) [_, _, _] (aH ++ (a ++ (c ++ (Y ++ R)))) [[iv d.1, iv V, iv (2 + 1)]] [(⟨d.1, V, 2 + 1⟩ : GuidePoint)] rfl (by decide) sl38 inf42 rfl rfl rfl rfl (cW.le (af.trans an)) rfl (fun w ho => Rd.own (i := 0) ho rfl) ⟨⟨[iv d.1], _, rfl, rfl, ⟨[iv V], _, rfl, rfl, rfl⟩⟩, trivial⟩ c0) ?_
 rintro _ _ ⟨aZ, rfl, ed⟩
 obtain ⟨ee, ef, rfl, _⟩ := ed.form
 refine aS rfl<|Tn<|Xm<|Xp 1 rfl<|X4 [_, _, _] aZ aH a c (Y ++ R) rfl<|X4 [_, _, _] c aZ aH a (Y ++ R) rfl<|X3 [_, _, _] a c aZ (aH ++ (Y ++ R)) rfl<|X4 [_, _, _] aZ a c aH (Y ++ R) rfl<|X5 [_, _, _] aH aZ a c Y R rfl ?_
 have eM := (aV.trans (af.trans an))
 exact x_mapM (s' := (mput ci (⟨d.1, V, 2 + 1⟩ : GuidePoint) true, aG ++ [(⟨d.1, V, 2 + 1⟩ : GuidePoint)])) [_, _, _] (aH ++ (aZ ++ (a ++ (c ++ R)))) rfl hperm50824 (bj.trans (Option.some.inj hm ▸ rfl)) eM (d7.le (af.trans an)) (e' := [(2, iv x9), (3, pb h), (9, .map (some o)), (10, .slice ee (aG ++ [(⟨d.1, V, 2 + 1⟩ : GuidePoint)]).length ef), (11, iv d.1), (13, iv 2), (39, pb z), (47, .agg #[.map (some p), .map (some q), .map (some s), .map (some t)]), (48, iv 2), (53, pb bx)]) ⟨rfl, rfl, rfl, rfl, rfl, rfl, rfl, rfl, rfl, rfl, trivial⟩ (.cons_cons _ (.cons _ (.cons _ (.refl _)))) ⟨aH, ee, ef, aZ, rfl, rfl, ((aV.trans (af.trans an))), hI, ed⟩
 refine Ck<|Xm<|X4 [_, _] X K a c (Y ++ R) rfl<|X4 [_, _] c X K a (Y ++ R) rfl<|X4 [_, _] a c X K (Y ++ R) rfl<|X4 [_, _] K a c X (Y ++ R) rfl<|X5 [_, _] X K a c Y R rfl ?_
 have eO := (aV.trans (af.trans an))
 exact x_mapM (s' := (ci, aG)) [_, _] (X ++ (K ++ (a ++ (c ++ R)))) rfl hperm50824 (bj.trans (Option.some.inj hm ▸ rfl)) eO (d7.le (af.trans an)) (e' := [(2, iv x9), (3, pb h), (9, .map (some o)), (10, sv a4 aG a5), (11, iv d.1), (13, iv 2), (39, pb z), (47, .agg #[.map (some p), .map (some q), .map (some s), .map (some t)]), (48, iv 2), (53, pb bx)]) ⟨rfl, rfl, rfl, rfl, rfl, rfl, rfl, rfl, rfl, rfl, trivial⟩ (.cons_cons _ (.cons _ (.refl _))) ⟨X, a4, a5, K, rfl, rfl, ((aV.trans (af.trans an))), (cj.le (af.trans an)), (cW.le (af.trans an))⟩
 rintro bw _ _ ⟨au, bR, bT, av, rfl, rfl, bc, hJ, hK⟩
 have hm := (unc2E fT)
 refine Cg ?_
 obtain ⟨_, c1, hm⟩ := bS hm
 have c1 := (kS c1).2
 refine tS (sa rfl rfl c1)<|mV rfl<|Tn<|x_unroll<|Cr<|tS (lT rfl rfl (by omega))<|Te<|Cs<|c_cond_t rfl<|Ck ?_
 refine Xn ?_
 obtain ⟨⟨eg, bX⟩, gb, gc⟩ := bS hm
 refine Cj (fun cl e' hp' => ∃ aP bY bZ aQ, [(2, iv x9), (3, pb h), (9, .map (some o)), (10, sv bY bX bZ), (11, iv d.1), (39, pb z), (47, .agg #[.map (some p), .map (some q), .map (some s), .map (some t)]), (48, iv 3)] = e' ∧ (h, Cl 91 [sv A2 s1.Day.Trains c3, sv A5 s1.Day.Turns c6, iv s1.least]) :: (aP ++ (aQ ++ (a ++ R))) = hp' ∧ bw.Le cl ∧ OM rGuidePoint (OT.fr RT.bool) true false cl.w o eg aP ∧ OS 42 (OT.fr rGuidePoint) cl.w (sv bY bX bZ) bX aQ) ?_ ?_
 have hm := gb
 refine Cb<|Cr<|mV rfl<|tS (st_aidx1 (cs := [.map (some p), .map (some q), .map (some s), .map (some t)]) 3 rfl rfl rfl (by decide) rfl arr106 one105)<|aS rfl<|aS rfl<|Te<|Cr<|mV rfl<|t_front4 [_] au av a c R rfl ?_
 refine tD (u_range [_] (au ++ (av ++ (a ++ R))) rfl (gQ.le (az.trans (aJ.trans bc))) mapt105 rfl) ?_
 rintro _ _ ⟨bz, b0, rfl, rfl, hL⟩
 refine Te<|Cb<|c_front4 [_] b0 au av a R rfl<|c_front4 [_] a b0 au av R rfl<|c_front4 [_] av a b0 au R rfl<|c_front4 [_] au av a b0 R rfl ?_
 obtain ⟨jx, gd, dr⟩ := bS hm
 refine c_mapM (unc2 fun cm aI => fun b1 e' hp' => ∃ aa a6 a7 S, [(2, iv x9), (3, pb h), (9, .map (some o)), (10, sv a6 aI a7), (11, iv d.1), (13, iv 3), (39, pb z), (47, .agg #[.map (some p), .map (some q), .map (some s), .map (some t)]), (48, iv 3), (53, pb bz)] = e' ∧ (h, Cl 91 [sv A2 s1.Day.Trains c3, sv A5 s1.Day.Turns c6, iv s1.least]) :: (aa ++ (S ++ (a ++ R))) = hp' ∧ bw.Le b1 ∧ OM rGuidePoint (OT.fr RT.bool) true false b1.w o cm aa ∧ OS 42 (OT.fr rGuidePoint) b1.w (sv a6 aI a7) aI S) gd hL (e' := [(2, iv x9), (3, pb h), (9, .map (some o)), (10, sv bR ch bT), (11, iv d.1), (13, iv 3), (39, pb z), (47, .agg #[.map (some p), .map (some q), .map (some s), .map (some t)]), (48, iv 3), (53, pb bz)]) ⟨rfl, rfl, rfl, rfl, rfl, rfl, rfl, rfl, rfl, rfl, trivial⟩ [_] (au ++ (av ++ (a ++ R))) rfl (.refl _) ⟨au, bR, bT, av, rfl, rfl, lr, hJ, hK⟩ ?_
 rintro ⟨cm, aI⟩ jy b1 _ _ ge ⟨aa, a6, a7, S, rfl, rfl, aW, cn, c2⟩ im hM hd51877 hall51878
 refine c_mid [_] ge (aa ++ (S ++ (a ++ R))) ?_ rfl
 refine Cr ?_
 refine t_next [_] (aa ++ (S ++ (a ++ R))) rfl rfl rfl hM (fun hnil51880 => ?_) (fun eh jz jA jB ag hperm51886 gf ei => ?_)
 have hend51889 := hd51877 hnil51880
 refine tS (st_extract rfl rfl)<|Te<|Cs<|c_cond_f rfl<|Ce<|Xe<|Xe<|Xo ?_
 rw [hend51889] at dr
 have hm := elimL dr
 have hm := (unc2E hm)
 refine Xm ?_
 obtain ⟨rfl, rfl⟩ := some2 hm
 exact jJ ⟨aa, a6, a7, S, rfl, rfl, aW, cn, c2⟩
 obtain ⟨jC, bk, ie⟩ := hall51878 _ _ hperm51886
 have b2 := bk
 unfold mGuideNetPoints_L51526 at b2
 have hm := (unc2E b2)
 refine tS (st_extract rfl rfl)<|Te<|Cs<|c_cond_t rfl<|Ck<|Xn<|Cb<|Cr ?_
 obtain ⟨jD, ej, gg, cx, gh⟩ := MIx.entry Tryd.prog gf
 obtain ⟨_, rfl, ⟨_, _, rfl, rfl, rfl⟩⟩ := gg
 obtain rfl : ej = bv eh.2 := by have cx : [ej] = [bv eh.2] := cx; injection cx
 refine tS (gh (.cons _ (List.sublist_append_left _ _)) rfl)<|tS (st_extract rfl rfl)<|tD (uA [iv 0, iv 0] zero113 rfl) ?_
 rintro _ _ ⟨jE, rfl, rfl⟩
 refine tD (uN (vs := [_, _]) 0 2 rfl rfl rfl siz113 rfl (mc rfl (mc rfl mn)) rfl (by simp)) ?_
 rintro _ _ rfl
 refine Te ?_
 obtain ⟨⟨hN, hO, W, hP⟩, gi, gj⟩ := bS hm
 refine Cj (fun c4 e' hp' => ∃ c5, [(2, iv x9), (3, pb h), (9, .map (some o)), (10, sv a6 aI a7), (11, iv d.1), (13, iv 3), (16, pb c5), (39, pb z), (47, .agg #[.map (some p), .map (some q), .map (some s), .map (some t)]), (48, iv 3), (53, pb bz)] = e' ∧ (h, Cl 91 [sv A2 s1.Day.Trains c3, sv A5 s1.Day.Turns c6, iv s1.least]) :: (c5, Cl 83 [iv hN, iv hO, iv W, iv hP]) :: (aa ++ (S ++ (a ++ (ag ++ R)))) = hp' ∧ b1.Le c4) ?_ ?_
 have hm := gi
 obtain ⟨jF, hQ, hm⟩ := bS hm
 obtain ⟨co, hR, hm⟩ := bS hm
 refine Di mixed (.refl _)<|E0 0 rfl (sF rfl fld91_0)<|E0 1 rfl (sF rfl fld25_0)<|Es 2 rfl (sL 1 rfl one22 rfl rfl)<|E0 3 rfl (sF rfl fld113_0)<|Es 4 rfl (sL 0 rfl one3 rfl rfl) ?_
 obtain ⟨hS, gk, gl⟩ := iS hQ
 obtain ⟨iy, gm, eP, ds, eQ⟩ := FZ.get (sz := 4) rfl (by decide) (h4.le (B.trans (y.trans (aw.trans (ax.trans (ay.trans (az.trans (aJ.trans (bc.trans aW))))))))) gl
 obtain ⟨_, _, rfl, rfl, ⟨_, _, rfl, rfl, ⟨_, _, rfl, ⟨jG, jH, rfl, hT⟩, ⟨jI, jK, rfl, jL⟩⟩⟩⟩ := gm
 refine E0 5 rfl (sI hS rfl rfl gk eQ ds sl22)<|E0 6 rfl (sQ rfl ds fld47_2)<|Es 7 rfl (sO rfl one45 (eP 2 _ rfl))<|E0 8 rfl (sF rfl fld113_1)<|Es 9 rfl (sL 0 rfl one3 rfl rfl) ?_
 obtain ⟨hU, gn, go⟩ := iS hR
 obtain ⟨iz, gp, eR, dt, eS⟩ := FZ.get (sz := 4) rfl (by decide) hT go
 obtain ⟨_, _, rfl, rfl, ⟨_, _, rfl, rfl, ⟨_, _, rfl, rfl, rfl⟩⟩⟩ := gp
 refine E0 10 rfl (sI hU rfl rfl gn eS dt sl45)<|Es 11 rfl (sP (vs := [iv co.Station, iv co.Track, iv co.Arr, iv co.Dep]) 4 rfl agg83 dt rfl (fun j u hu => eR j u hu))<|Eo<|Da [12] (by kernel_rfl) rfl ?_
 refine Rd2 lr rfl rfl (uA [iv 0, iv 0, iv 0, iv 0] zero83 rfl) ?_ ?_
 rintro _ _ ⟨hV, rfl, rfl⟩
 refine iR<|Da [13] (by kernel_rfl) rfl ?_
 refine Rd2 lr rfl rfl (uN (vs := [_, _, _, _]) 0 4 rfl rfl rfl siz83 rfl (mc rfl (mc rfl (mc rfl (mc rfl mn)))) rfl (by simp)) ?_ ?_
 rintro _ _ rfl
 refine ⟨.inl (by kernel_rfl), ?_⟩
 refine Dd (by kernel_rfl) ?_
 obtain ⟨rfl, rfl, rfl, rfl⟩ := some4 hm
 exact jJ ⟨hV, rfl, rfl, lr⟩
 exact Rn
 exact Rn
 rintro c4 _ _ ⟨c5, rfl, rfl, ah⟩
 have hm := (unc4E gj)
 refine Cr<|mV rfl<|tS (sF rfl fld83_2)<|tS (sL 1 rfl one3 rfl rfl)<|mV rfl ?_
 obtain ⟨_, c7, hm⟩ := bS hm
 have c7 := (kS c7).2
 refine tS (sa rfl rfl c7)<|tS (sB (v := .agg #[iv d.1, iv W, iv (3 + 1)]) [(0, iv d.1), (1, iv W), (2, iv (3 + 1))] rfl (fun _ => by kernel_rfl))<|tD (uA [iv 0, iv 0, iv 0] zero42 rfl) ?_
 rintro _ _ ⟨ek, rfl, rfl⟩
 refine tD (uN (vs := [_, _, _]) 0 3 rfl rfl rfl siz42 rfl (mc rfl (mc rfl (mc rfl mn))) rfl (by simp)) ?_
 rintro _ _ rfl
 refine Te ?_
 obtain ⟨hW, gq, gr⟩ := bS hm
 refine Cj (fun em e' hp' => [(2, iv x9), (3, pb h), (9, .map (some o)), (10, sv a6 aI a7), (11, iv d.1), (13, iv 3), (17, pb ek), (39, pb z), (47, .agg #[.map (some p), .map (some q), .map (some s), .map (some t)]), (48, iv 3), (53, pb bz), (85, bv hW)] = e' ∧ (h, Cl 91 [sv A2 s1.Day.Trains c3, sv A5 s1.Day.Turns c6, iv s1.least]) :: (ek, Cl 42 [iv d.1, iv W, iv (3 + 1)]) :: (aa ++ (S ++ (a ++ (ag ++ R)))) = hp' ∧ c4.Le em) ?_ ?_
 have hm := gq
 refine Cg<|tS (sF rfl fld83_0)<|tS (sL 2 rfl one3 rfl rfl)<|mV rfl ?_
 refine Tb rfl (q1 rfl rfl) (fun cy => ?_) (fun cy => ?_)
 rw [if_pos cy] at hm
 refine mV rfl<|yS<|mV rfl<|yS<|tS (sD (vs := [_, _, _]) 0 3 rfl agg42 rfl rfl rfl)<|yS ?_
 obtain ⟨en, hX, hm⟩ := bS hm
 have gs := Option.some.inj hX
 obtain ⟨eo, b3, gt⟩ := OM.lookF kok42 (z0 := false) (cn.le ah) (key := .agg #[iv d.1, iv W, iv (3 + 1)]) (k := (⟨d.1, W, 3 + 1⟩ : GuidePoint)) ⟨[iv d.1, iv W, iv (3 + 1)], rfl, ⟨[iv d.1], _, rfl, rfl, ⟨[iv W], _, rfl, rfl, rfl⟩⟩⟩ mapt142 zero4 rfl
 rw [gs] at b3
 obtain rfl : eo = bv en := by have b3 : [eo] = [bv en] := b3; injection b3
 refine tS (st_mlook (ok := false) rfl rfl (fun w ho => gt _ w ho (.cons _ (.cons _ (.cons _ (List.sublist_append_left _ _)))) false))<|yS<|tS (sn2 rfl)<|tS (pT rfl rfl)<|Tn ?_
 obtain rfl := o1 hm
 exact jJ ⟨rfl, rfl, lr⟩
 rw [if_neg cy] at hm
 refine mV rfl<|nO<|nO<|nO<|nO<|tS (pF rfl rfl)<|Tn ?_
 obtain rfl := o1 hm
 exact jJ ⟨rfl, rfl, lr⟩
 rintro em _ _ ⟨rfl, rfl, ao⟩
 have hm := gr
 refine cB hm rfl (fun hm => ?_) fun hm => ?_
 refine Cr<|mV rfl<|tS (sD (vs := [_, _, _]) 1 3 rfl agg42 rfl rfl rfl)<|tD (u_mputF (k := (⟨d.1, W, 3 + 1⟩ : GuidePoint)) kok42 [_, _] [] (S ++ (a ++ (ag ++ R))) rfl (cn.le (ah.trans ao)) mapt142 rfl rfl rfl (⟨[iv d.1, iv W, iv (3 + 1)], rfl, ⟨[iv d.1], _, rfl, rfl, ⟨[iv W], _, rfl, rfl, rfl⟩⟩⟩) ⟨rfl, rfl⟩ _ (.inl rfl)) ?_
 rintro _ _ ⟨aR, rfl, ig, hY⟩
 refine Te<|Cg<|mV rfl<|tS (sD (vs := [_, _, _]) 1 3 rfl agg42 rfl rfl rfl)<|tD (u_bslice (el := 42) [(0, .agg #[iv d.1, iv W, iv (3 + 1)])] [iv d.1, iv W, iv (3 + 1)] rfl (fun _ => by kernel_rfl)) ?_
 rintro _ _ ⟨jN, rfl, rfl⟩
 obtain ⟨_, c8, hm⟩ := bS hm
 have c8 := room_some c8
 refine t_front2 [_, _, _] aR S (a ++ (ag ++ R)) rfl<|tD (uQ (r := rGuidePoint) (l := aI) [_, _, _] (aR ++ (a ++ (ag ++ R))) [[iv d.1, iv W, iv (3 + 1)]] [(⟨d.1, W, 3 + 1⟩ : GuidePoint)] rfl (by decide) sl38 inf42 rfl rfl rfl rfl (c2.le (ah.trans ao)) rfl (fun w ho => Rd.own (i := 0) ho rfl) ⟨⟨[iv d.1], _, rfl, rfl, ⟨[iv W], _, rfl, rfl, rfl⟩⟩, trivial⟩ c8) ?_
 rintro _ _ ⟨bd, rfl, ep⟩
 obtain ⟨eq, er, rfl, _⟩ := ep.form
 refine aS rfl<|Tn<|Xm<|Xp 1 rfl<|X3 [_, _, _] bd aR a (ag ++ R) rfl<|X2 [_, _, _] a bd (aR ++ (ag ++ R)) rfl<|X3 [_, _, _] bd a aR (ag ++ R) rfl<|X4 [_, _, _] aR bd a ag R rfl ?_
 have eU := (aW.trans (ah.trans ao))
 exact x_mapM (s' := (mput cm (⟨d.1, W, 3 + 1⟩ : GuidePoint) true, aI ++ [(⟨d.1, W, 3 + 1⟩ : GuidePoint)])) [_, _, _] (aR ++ (bd ++ (a ++ R))) rfl hperm51886 (bk.trans (Option.some.inj hm ▸ rfl)) eU (ei.le (ah.trans ao)) (e' := [(2, iv x9), (3, pb h), (9, .map (some o)), (10, .slice eq (aI ++ [(⟨d.1, W, 3 + 1⟩ : GuidePoint)]).length er), (11, iv d.1), (13, iv 3), (39, pb z), (47, .agg #[.map (some p), .map (some q), .map (some s), .map (some t)]), (48, iv 3), (53, pb bz)]) ⟨rfl, rfl, rfl, rfl, rfl, rfl, rfl, rfl, rfl, rfl, trivial⟩ (.cons_cons _ (.cons _ (.cons _ (.refl _)))) ⟨aR, eq, er, bd, rfl, rfl, ((aW.trans (ah.trans ao))), hY, ep⟩
 refine Ck<|Xm<|X3 [_, _] aa S a (ag ++ R) rfl<|X3 [_, _] a aa S (ag ++ R) rfl<|X3 [_, _] S a aa (ag ++ R) rfl<|X4 [_, _] aa S a ag R rfl ?_
 have eV := (aW.trans (ah.trans ao))
 exact x_mapM (s' := (cm, aI)) [_, _] (aa ++ (S ++ (a ++ R))) rfl hperm51886 (bk.trans (Option.some.inj hm ▸ rfl)) eV (ei.le (ah.trans ao)) (e' := [(2, iv x9), (3, pb h), (9, .map (some o)), (10, sv a6 aI a7), (11, iv d.1), (13, iv 3), (39, pb z), (47, .agg #[.map (some p), .map (some q), .map (some s), .map (some t)]), (48, iv 3), (53, pb bz)]) ⟨rfl, rfl, rfl, rfl, rfl, rfl, rfl, rfl, rfl, rfl, trivial⟩ (.cons_cons _ (.cons _ (.refl _))) ⟨aa, a6, a7, S, rfl, rfl, ((aW.trans (ah.trans ao))), (cn.le (ah.trans ao)), (c2.le (ah.trans ao))⟩
 rintro cl _ _ ⟨aP, bY, bZ, aQ, rfl, rfl, b4, hZ, h0⟩
 have hm := (unc2E gc)
 refine Cg ?_
 obtain ⟨_, c9, hm⟩ := bS hm
 have c9 := (kS c9).2
 refine tS (sa rfl rfl c9)<|mV rfl<|Tn<|x_unroll<|Cr<|tS (lF rfl rfl (by omega))<|Te<|Cs<|c_cond_f rfl<|Ce ?_
 refine Xe<|Xe<|Xo<|Xm<|X2 [_] aP aQ (a ++ R) rfl<|X2 [_] aQ aP (a ++ R) rfl<|X3 [_] aP aQ a R rfl ?_
 have eW := (ax.trans (ay.trans (az.trans (aJ.trans (bc.trans b4)))))
 exact x_mapM (s' := (eg, bX)) [_] (aP ++ (aQ ++ R)) rfl hperm47765 (b5.trans (Option.some.inj hm ▸ rfl)) eW (gG.le (ay.trans (az.trans (aJ.trans (bc.trans b4))))) (e' := [(2, iv x9), (3, pb h), (9, .map (some o)), (10, sv bY bX bZ), (39, pb z)]) ⟨rfl, rfl, rfl, rfl, rfl, trivial⟩ (.refl _) ⟨aP, bY, bZ, aQ, rfl, rfl, ((ax.trans (ay.trans (az.trans (aJ.trans (bc.trans b4)))))), hZ, h0⟩
 rintro cD _ _ ⟨bn, bo, bf, rfl, rfl, eX, h1⟩
 have hm := e6
 refine Cr<|mV rfl ?_
 obtain ⟨es, eY, hm⟩ := bS hm
 refine t_out1 [] [] bf R rfl<|Tg _ rfl call75 rfl (cSlicesSortFunc _ _ b7 bn bo bf h1 es eY) ?_
 rintro _ jO _ e0 ⟨du, rfl, rfl, h2, h3⟩
 refine t_in1 [] [] du R rfl<|Tr 10 rfl (v' := sv bn es bo) (by show Value.slice _ _ _ = Value.slice _ _ _; rw [h3])<|Te<|Cr<|mV rfl<|aS rfl<|Te<|Ct ?_
 obtain rfl := o1 hm
 exact rO ⟨bn, bo, du, rfl, rfl, h2⟩ (B.trans (y.trans (eX.trans e0)))

set_option maxRecDepth 20000 in
theorem cGuideNetEarliest_1 (b : Base) (R : Hp) (a : GuidePoint) (c d e) (hm : mGuideNetEarliest_1 a c = some e):
    CallsG Tryd.prog 72 [.agg #[iv a.Dep, iv a.Arr, iv a.Rides], pb d] b ((d, Cl 3 [iv c]) :: R) (fun v b' hp' => bv e = v ∧ (d, Cl 3 [iv c]) :: R = hp') := by
 refine fE 8 Tryd.func72 rfl Tryd.ntmps72 rfl ?_
 unfold mGuideNetEarliest_1 at hm
 refine Cr<|tD (uB _ rfl rfl) ?_
 rintro _ _ ⟨f, rfl, rfl⟩
 refine aS rfl<|Te<|Cr<|tS (sF rfl fld42_0)<|tS (sL 0 rfl one3 rfl rfl)<|tS (sL 1 rfl one3 rfl rfl)<|tS (q3 rfl rfl)<|aS rfl<|Te<|Ct ?_
 obtain rfl := o1 hm
 exact rO ⟨rfl, rfl⟩ lr

set_option maxRecDepth 20000 in
theorem cSlicesIndexFunc (b : Base) (R : Hp) (s m n F G h) (O : OS 42 (OT.fr rGuidePoint) b.w (sv F m G) m h) (t) (hm : mSlicesIndexFunc s m = some t):
    CallsG Tryd.prog 74 [sv F m G, .func (.func 72) #[] #[pb n]] b ((n, Cl 3 [iv s]) :: (h ++ R)) (fun v b' hp' => iv t = v ∧ (n, Cl 3 [iv s]) :: (h ++ R) = hp') := by
 refine fE 19 Tryd.func74 rfl Tryd.ntmps74 rfl ?_
 unfold mSlicesIndexFunc at hm
 refine Cr<|aS rfl<|Te<|Cs<|Cr<|mV rfl<|tS (sE rfl sl38)<|mV rfl<|Te<|Cb ?_
 have S : m.length ≤ 9223372036854775807 := (OS.len O)
 obtain ⟨Y, x, e⟩ := bS hm
 refine lF (fun y => fun _ => fun o e' hp' => [(0, sv F m G), (1, .func (.func 72) #[] #[pb n]), (7, iv ((m.length : Int))), (8, iv ((y : Int)))] = e' ∧ (n, Cl 3 [iv s]) :: (h ++ R) = hp' ∧ b.Le o) x ⟨rfl, rfl, lr⟩ ?_ ?_
 rintro y _ o _ _ T D ⟨rfl, rfl, a⟩ c g
 unfold mSlicesIndexFunc_L62 at c
 have hm := c
 refine Cr<|tS (lT rfl rfl (by omega))<|Te<|Cs<|c_cond_t rfl<|Ck<|Xn<|Cs<|Cb<|Cr ?_
 refine mV rfl<|aS rfl<|Te<|Cr<|mV rfl<|mV rfl<|mV rfl ?_
 obtain ⟨d, H, hm⟩ := bS hm
 obtain ⟨I, z, A⟩ := iS H
 obtain ⟨U, J, V, W, K, B, p, l, i, L, E⟩ := OS.get (sz := 3) rfl (by decide) (O.le a) A
 obtain ⟨⟨_, _, rfl, rfl, ⟨_, _, rfl, rfl, rfl⟩⟩, rfl⟩ := B
 refine tS (sI I rfl rfl z i l sl38)<|tS (st_loadN_rd (vs := [iv d.Dep, iv d.Arr, iv d.Rides]) 3 rfl agg42 l rfl (fun w ho j u hu => p w _ ho (.cons _ (List.sublist_append_left _ _)) j u hu)) ?_
 obtain ⟨C, k, hm⟩ := bS hm
 refine Tv #[] #[pb n] [.agg #[iv d.Dep, iv d.Arr, iv d.Rides]] rfl rfl call72 rfl (cGuideNetEarliest_1 _ _ d s n C k) ?_
 rintro _ X _ f ⟨rfl, rfl⟩
 refine Te ?_
 refine cB hm rfl (fun hm => ?_) fun hm => ?_
 refine Cr<|mV rfl<|aS rfl<|Te<|Ct<|Xb<|Xr<|Xr<|Xb<|Xr ?_
 have q := g _ (Option.some.inj hm).symm
 rw [q] at e
 have hm := elimR e
 obtain rfl := o1 hm
 exact rO ⟨rfl, rfl⟩ (a.trans f)
 refine Ck<|Xm<|Xn<|Cg<|tS (sa rfl rfl (by omega))<|mV rfl<|Tn ?_
 exact jM hm ⟨rfl, rfl, ((a.trans f))⟩
 rintro _ o _ _ ⟨rfl, rfl, a⟩ r
 rw [r] at e
 have hm := elimL e
 refine Cr<|tS (lF rfl rfl (by omega))<|Te<|Cs<|c_cond_f rfl<|Ce<|Xe<|Xe<|Xo<|Xn ?_
 refine Cr<|aS rfl<|Te<|Ct ?_
 obtain rfl := o1 hm
 exact rO ⟨rfl, rfl⟩ a

set_option maxRecDepth 20000 in
theorem cSlicesDeleteFunc (b : Base) (R : Hp) (x7 l8 Z X E s) (h5 : OS 42 (OT.fr rGuidePoint) b.w (sv X l8 E) l8 s) (F) (hm : mSlicesDeleteFunc x7 l8 = some F):
    CallsG Tryd.prog 38 [sv X l8 E, .func (.func 72) #[] #[pb Z]] b ((Z, Cl 3 [iv x7]) :: (s ++ R)) (fun v b' hp' => ∃ aC aD aa, sv aC F aD = v ∧ (Z, Cl 3 [iv x7]) :: (aa ++ R) = hp' ∧ OS 42 (OT.fr rGuidePoint) b'.w (sv aC F aD) F aa) := by
 refine fE 42 Tryd.func38 rfl Tryd.ntmps38 rfl ?_
 unfold mSlicesDeleteFunc at hm
 refine Cr<|aS rfl<|Te<|Cr<|mV rfl<|mV rfl ?_
 obtain ⟨aZ, al, hm⟩ := bS hm
 refine t_out1 [_] [] s R rfl<|Tg _ rfl call74 rfl (cSlicesIndexFunc _ _ x7 l8 Z X E s h5 aZ al) ?_
 rintro _ aE _ g ⟨rfl, rfl⟩
 refine t_in1 [_] [] s R rfl<|aS rfl<|Te<|Cs<|Cr<|mV rfl<|tS (q1 rfl rfl)<|Te ?_
 refine cI hm rfl (fun hm => ?_) fun hm => ?_
 refine Cr<|mV rfl<|aS rfl<|Te<|Ct<|Xr ?_
 obtain rfl := o1 hm
 have aG := (h5.le g)
 exact rO ⟨X, E, s, rfl, rfl, aG⟩ g
 refine Ck<|Xn ?_
 obtain ⟨⟨G, f⟩, aH, aI⟩ := bS hm
 refine Cj (fun ab e' hp' => ∃ t, [(0, sv X f E), (5, iv G)] = e' ∧ (Z, Cl 3 [iv x7]) :: (t ++ R) = hp' ∧ aE.Le ab ∧ OS 42 (OT.fr rGuidePoint) ab.w (sv X f E) f t ∧ f.length = l8.length) ?_ ?_
 have hm := aH
 refine Cr<|mV rfl ?_
 obtain ⟨_, ac, hm⟩ := bS hm
 have ac := (kS ac).2
 refine tS (sa rfl rfl ac)<|aS rfl<|Te<|Cb<|lL (unc3 fun x y e => fun o e' hp' => ∃ d, [(0, sv X e E), (1, .func (.func 72) #[] #[pb Z]), (5, iv x), (6, iv y)] = e' ∧ (Z, Cl 3 [iv x7]) :: (d ++ R) = hp' ∧ aE.Le o ∧ OS 42 (OT.fr rGuidePoint) o.w (sv X e E) e d ∧ e.length = l8.length) hm ⟨s, rfl, rfl, lr, (h5.le g), rfl⟩ ?_
 rintro ⟨x, y, e⟩ o _ _ be ⟨d, rfl, rfl, q, k, m⟩ n Y
 unfold mSlicesDeleteFunc_L962 at n
 have hm := (unc3E n)
 refine Cs<|Cr<|mV rfl<|mV rfl<|tS (sE rfl sl38)<|tS (q3 rfl rfl)<|Te ?_
 refine cI hm rfl (fun hm => ?_) fun hm => ?_
 refine Ck<|Xn ?_
 obtain ⟨⟨aJ, p⟩, am, an⟩ := bS hm
 refine Cj (fun z e' hp' => ∃ h, [(0, sv X p E), (1, .func (.func 72) #[] #[pb Z]), (5, iv aJ), (6, iv y)] = e' ∧ (Z, Cl 3 [iv x7]) :: (h ++ R) = hp' ∧ o.Le z ∧ OS 42 (OT.fr rGuidePoint) z.w (sv X p E) p h ∧ p.length = l8.length) ?_ ?_
 have hm := am
 refine Cb<|Cr<|mV rfl<|mV rfl ?_
 obtain ⟨a, aK, hm⟩ := bS hm
 obtain ⟨aL, ao, aq⟩ := iS aK
 obtain ⟨a3, a4, bf, bg, a5, ar, ad, H, ae, a6, a0⟩ := OS.get (sz := 3) rfl (by decide) k aq
 obtain ⟨⟨_, _, rfl, rfl, ⟨_, _, rfl, rfl, rfl⟩⟩, rfl⟩ := ar
 refine tS (sI aL rfl rfl ao ae H sl38)<|tS (st_loadN_rd (vs := [iv a.Dep, iv a.Arr, iv a.Rides]) 3 rfl agg42 H rfl (fun w ho j u hu => ad w _ ho (.cons _ (List.sublist_append_left _ _)) j u hu))<|tD (uA [iv 0, iv 0, iv 0] zero42 rfl) ?_
 rintro _ _ ⟨bh, rfl, rfl⟩
 refine tD (uN (vs := [_, _, _]) 0 3 rfl rfl rfl siz42 rfl (mc rfl (mc rfl (mc rfl mn))) rfl (by simp)) ?_
 rintro _ _ rfl
 refine Te<|Cr<|mV rfl<|tS (sD (vs := [_, _, _]) 0 3 rfl agg42 rfl rfl rfl) ?_
 obtain ⟨aM, af, hm⟩ := bS hm
 refine t_pullb 1 rfl<|Tv #[] #[pb Z] [.agg #[iv a.Dep, iv a.Arr, iv a.Rides]] rfl rfl call72 rfl (cGuideNetEarliest_1 _ _ a x7 Z aM af) ?_
 rintro _ bi _ c ⟨rfl, rfl⟩
 refine tS (sn2 rfl)<|Te ?_
 refine cM hm rfl (fun hm => ?_) fun hm => ?_
 refine Cr<|mV rfl<|mV rfl<|tS (sD (vs := [_, _, _]) 1 3 rfl agg42 rfl rfl rfl) ?_
 obtain ⟨bj, aN, hm⟩ := bS hm
 obtain ⟨aO, I, J⟩ := iS aN
 obtain ⟨a7, a8, bk, bl, a9, au, a1, av, ag, ba, a2⟩ := OS.get (sz := 3) rfl (by decide) (k.le c) J
 obtain ⟨⟨_, _, rfl, rfl, ⟨_, _, rfl, rfl, rfl⟩⟩, rfl⟩ := au
 refine tS (sI aO rfl rfl I ag av sl38)<|tD (uP I (sz := 3) (a' := a) rfl [_, _] R 0 3 [iv a.Dep, iv a.Arr, iv a.Rides] rfl (k.le c) J rfl rfl rfl siz42 rfl (mc rfl (mc rfl (mc rfl mn))) (fun cs hsj hh => by obtain ⟨⟨_, _, rfl, rfl, ⟨_, _, rfl, rfl, rfl⟩⟩, rfl⟩ := hh; exact ⟨by first | decide | exact Nat.le_refl _, ⟨[iv a.Dep], _, rfl, rfl, ⟨[iv a.Arr], _, rfl, rfl, rfl⟩⟩, rfl⟩)) ?_
 rintro _ _ ⟨aw, rfl, aP⟩
 refine Tr 0 rfl (v' := .slice X (put e x a).length E) (by simp only [put_length])<|Te<|Cg<|mV rfl ?_
 obtain ⟨_, A, hm⟩ := bS hm
 have A := (kS A).2
 refine tS (sa rfl rfl A)<|aS rfl<|Tn<|Xm ?_
 obtain ⟨rfl, rfl⟩ := some2 hm
 exact jJ ⟨aw, rfl, rfl, c, aP, ((put_length _ _ _).trans m)⟩
 refine Ck<|Xm ?_
 obtain ⟨rfl, rfl⟩ := some2 hm
 exact jJ ⟨d, rfl, rfl, c, (k.le c), m⟩
 rintro z _ _ ⟨h, rfl, rfl, ah, aQ, ai⟩
 have hm := (unc2E an)
 refine Cg<|mV rfl ?_
 obtain ⟨_, B, hm⟩ := bS hm
 have B := (kS B).2
 refine tS (sa rfl rfl B)<|aS rfl<|Tn ?_
 exact jM hm ⟨h, rfl, rfl, ((q.trans ah)), aQ, ai⟩
 refine Ce<|Xe<|Xe<|Xo ?_
 have hm := congrArg some (Y _ (Option.some.inj hm).symm)
 obtain ⟨rfl, rfl⟩ := some2 hm
 exact jJ ⟨d, rfl, rfl, q, k, m⟩
 rintro ab _ _ ⟨t, rfl, rfl, ax, aF, bb⟩
 have hm := (unc2E aI)
 refine Cr<|mV rfl<|mV rfl ?_
 obtain ⟨aR, aT, hm⟩ := bS hm
 obtain ⟨C, aU, K, bc, L, O, S⟩ := cutS_some aT
 have aV := OS.lc aF
 refine tS (S ▸ st_part (l := f) C aU rfl (.inr ⟨_, _, _, rfl, rfl, K⟩) (.inl ⟨rfl, by omega⟩) L O aV sl38) ?_
 have ay : (aR).length = f.length - C := by rw [S]; simp only [List.length_drop, List.length_take]; omega
 refine tD (u_clr (r := rGuidePoint) (i := G) [_] R [iv 0, iv 0, iv 0] ((⟨0, 0, 0⟩ : GuidePoint) : GuidePoint) C rfl aF K (Nat.le_trans L O) ay rfl sl38 inf42 rfl rfl rfl ⟨[iv 0], _, rfl, rfl, ⟨[iv 0], _, rfl, rfl, rfl⟩⟩) ?_
 rintro _ _ ⟨az, rfl, rfl, aj⟩
 refine Tr 0 rfl (v' := .slice X (clrM f G ((⟨0, 0, 0⟩ : GuidePoint) : GuidePoint)).length E) (by simp only [clrM_length])<|Te<|Cr<|mV rfl<|mV rfl ?_
 obtain ⟨bm, aW, hm⟩ := bS hm
 obtain ⟨D, aX, bd, aA, T, U, V⟩ := cutS_some aW
 have aY := OS.lc aj
 refine tS (V ▸ st_part (l := clrM f G ((⟨0, 0, 0⟩ : GuidePoint) : GuidePoint)) D aX rfl (.inl ⟨rfl, by omega⟩) (.inr ⟨_, _, _, rfl, rfl, aA⟩) T U aY sl38) ?_
 obtain ⟨W, aB, ak⟩ := OS.sub (sz := 3) rfl aj T U
 rw [← V] at ak
 refine t_less [_] az W R rfl aB<|aS rfl<|Te<|Ct ?_
 obtain rfl := o1 hm
 exact rO ⟨(subA X E D 3), (E - D), W, rfl, rfl, ak⟩ (g.trans ax)

set_option maxRecDepth 20000 in
theorem cGuideNetEarliest_2 (b : Base) (R : Hp) (g : GuidePoint) (i : GuidePoint) (p) (hm : mGuideNetEarliest_2 g i = some p):
    CallsG Tryd.prog 73 [.agg #[iv g.Dep, iv g.Arr, iv g.Rides], .agg #[iv i.Dep, iv i.Arr, iv i.Rides]] b (R) (fun v b' hp' => iv p = v ∧ R = hp') := by
 refine fE 22 Tryd.func73 rfl Tryd.ntmps73 rfl ?_
 unfold mGuideNetEarliest_2 at hm
 refine Cr<|tD (uB _ rfl rfl) ?_
 rintro _ _ ⟨y, rfl, rfl⟩
 refine tD (uB _ rfl rfl) ?_
 rintro _ _ ⟨z, rfl, rfl⟩
 refine aS rfl<|Te ?_
 obtain ⟨x, q, r⟩ := bS hm
 refine Cj (fun s e' hp' => [(4, iv x)] = e' ∧ R = hp' ∧ b.Le s) ?_ ?_
 have hm := q
 obtain ⟨a, j, hm⟩ := bS hm
 obtain ⟨c, k, hm⟩ := bS hm
 obtain ⟨d, m, hm⟩ := bS hm
 obtain ⟨t, f, hm⟩ := bS hm
 refine Di mixed (.refl _)<|E0 0 rfl (sF rfl fld42_1)<|Es 1 rfl (sL 1 rfl one3 rfl rfl)<|E0 2 rfl (sF rfl fld42_1)<|Es 3 rfl (sL 0 rfl one3 rfl rfl)<|E0 5 rfl (sF rfl fld42_2)<|Es 6 rfl (sL 1 rfl one3 rfl rfl)<|E0 7 rfl (sF rfl fld42_2)<|Es 8 rfl (sL 0 rfl one3 rfl rfl)<|E0 10 rfl (sF rfl fld42_0) ?_
 refine Es 11 rfl (sL 0 rfl one3 rfl rfl)<|E0 12 rfl (sF rfl fld42_0)<|Es 13 rfl (sL 1 rfl one3 rfl rfl)<|Eo<|Da [4] (by kernel_rfl) rfl ?_
 refine Rd2 lr rfl rfl (uW _ call44 rfl (fun w ho => cCmpCompare _ [] g.Arr i.Arr a j) (fun _ _ _ h => h.2.symm)) ?_ ?_
 rintro _ _ ⟨⟨_, rfl, _⟩, rfl⟩
 refine iR<|Da [9] (by kernel_rfl) rfl ?_
 refine Rd2 lr rfl rfl (uW _ call44 rfl (fun w ho => cCmpCompare _ [] g.Rides i.Rides c k) (fun _ _ _ h => h.2.symm)) ?_ ?_
 rintro _ _ ⟨⟨_, rfl, _⟩, rfl⟩
 refine iR<|Da [14] (by kernel_rfl) rfl ?_
 refine Rd2 lr rfl rfl (uW _ call44 rfl (fun w ho => cCmpCompare _ [] i.Dep g.Dep d m) (fun _ _ _ h => h.2.symm)) ?_ ?_
 rintro _ _ ⟨⟨_, rfl, _⟩, rfl⟩
 refine iR<|Da [15] (by kernel_rfl) rfl ?_
 refine Rd2 lr rfl rfl (u_bslice (el := 3) [(0, iv a), (1, iv c), (2, iv d)] [iv a, iv c, iv d] rfl (fun _ => by kernel_rfl)) ?_ ?_
 rintro _ _ ⟨e, rfl, rfl⟩
 refine iR<|d_seg 0 [_, _] R rfl rfl ?_
 have u : OS 3 (OT.fr rI) b.w (.slice (some ⟨e, 0, none⟩) 3 3) [a, c, d] [(e, Cl 3 [iv a, iv c, iv d])] := OS.lit [[iv a], [iv c], [iv d]] rfl ⟨rfl, ⟨rfl, ⟨rfl, trivial⟩⟩⟩ rfl (by decide)
 refine Da [16] (by kernel_rfl) rfl ?_
 refine Rd2 lr rfl rfl (uW _ call43 rfl (fun w ho => cCmpOr _ [] [a, c, d] (some ⟨e, 0, none⟩) 3 (OS.now (o := (OT.fr rI)) (l := [a, c, d]) (hs := [(e, Cl 3 [iv a, iv c, iv d])]) u ho (.cons _ (.cons _ (List.sublist_append_left _ _)))) t f) (fun _ _ _ h => h.2.symm)) ?_ ?_
 rintro _ _ ⟨⟨_, rfl, _⟩, rfl⟩
 refine iR<|Ei lr (.cons_cons _ (.cons_cons _ (ss [(e, Cl 3 [iv a, iv c, iv d])] (.refl _))))<|E0 17 rfl (sA rfl)<|Eo<|Dd (by kernel_rfl) ?_
 obtain rfl := o1 hm
 exact jJ ⟨rfl, rfl, lr⟩
 exact Rn
 exact Rn
 exact Rn
 exact Rn
 exact Rn
 rintro s _ _ ⟨rfl, rfl, n⟩
 have hm := r
 refine Ct ?_
 obtain rfl := o1 hm
 exact rO ⟨rfl, rfl⟩ n

set_option maxRecDepth 20000 in
theorem cSlicesMinFunc (b : Base) (R : Hp) (l4 A1 c2) (h3 : FZ rGuidePoint b.w A1 c2 l4) (L O S) (hm : mSlicesMinFunc l4 = some (L, O, S)):
    CallsG Tryd.prog 41 [sv A1 l4 c2, .func (.func 73) #[] #[]] b (R) (fun v b' hp' => .agg #[iv L, iv O, iv S] = v ∧ R = hp') := by
 refine fE 33 Tryd.func41 rfl Tryd.ntmps41 rfl ?_
 unfold mSlicesMinFunc at hm
 refine Cr<|tD (uA [iv 0, iv 0, iv 0] zero42 rfl) ?_
 rintro _ _ ⟨e, rfl, rfl⟩
 refine Te<|Cs<|Cr<|mV rfl<|tS (sE rfl sl38)<|tS (q3 rfl rfl)<|Te ?_
 refine cI hm rfl (fun hm => ?_) fun hm => ?_
 cases hm
 refine Ck<|Xn<|Cr<|mV rfl ?_
 obtain ⟨q, ai, aq, Y, ar, Z, C, r, D, hm⟩ := bF (sz := 3) hm h3
 obtain ⟨_, _, rfl, rfl, ⟨_, _, rfl, rfl, rfl⟩⟩ := Z
 refine tS (sI ai rfl rfl Y D r sl38)<|tS (sP (vs := [iv q.Dep, iv q.Arr, iv q.Rides]) 3 rfl agg42 r rfl (fun j u hu => C j u hu))<|tD (uA [iv 0, iv 0, iv 0] zero42 rfl) ?_
 rintro _ _ ⟨f, rfl, rfl⟩
 refine tD (uN (vs := [_, _, _]) 0 3 rfl rfl rfl siz42 rfl (mc rfl (mc rfl (mc rfl mn))) rfl (by simp)) ?_
 rintro _ _ rfl
 refine Te ?_
 obtain ⟨⟨T, U, V⟩, aa, ab⟩ := bS hm
 refine Cj (fun W e' hp' => [(4, pb e), (5, pb f)] = e' ∧ (e, Cl 42 [iv 0, iv 0, iv 0]) :: (f, Cl 42 [iv T, iv U, iv V]) :: R = hp' ∧ b.Le W) ?_ ?_
 have hm := aa
 refine Cr<|aS rfl<|Te<|Cb<|lL (unc4 fun s k l m => fun t e' hp' => [(0, sv A1 l4 c2), (1, .func (.func 73) #[] #[]), (4, pb e), (5, pb f), (6, iv s)] = e' ∧ (e, Cl 42 [iv 0, iv 0, iv 0]) :: (f, Cl 42 [iv k, iv l, iv m]) :: R = hp' ∧ b.Le t) hm ⟨rfl, rfl, lr⟩ ?_
 rintro ⟨s, k, l, m⟩ t _ _ au ⟨rfl, rfl, c⟩ d p
 unfold mSlicesMinFunc_L781 at d
 have hm := (unc4E d)
 refine Cs<|Cr<|mV rfl<|mV rfl<|tS (sE rfl sl38)<|tS (q3 rfl rfl)<|Te ?_
 refine cI hm rfl (fun hm => ?_) fun hm => ?_
 refine Ck<|Xn ?_
 obtain ⟨⟨aj, ak, al⟩, ac, ad⟩ := bS hm
 refine Cj (fun X e' hp' => [(0, sv A1 l4 c2), (1, .func (.func 73) #[] #[]), (4, pb e), (5, pb f), (6, iv s)] = e' ∧ (e, Cl 42 [iv 0, iv 0, iv 0]) :: (f, Cl 42 [iv aj, iv ak, iv al]) :: R = hp' ∧ t.Le X) ?_ ?_
 have hm := ac
 refine Cb<|Cs ?_
 obtain ⟨a, ae, hm⟩ := bS hm
 obtain ⟨af, x, hm⟩ := bS hm
 refine Di mixed (.refl _)<|E0 0 rfl (sM rfl)<|E0 1 rfl (sM rfl)<|E0 2 rfl (sM rfl) ?_
 obtain ⟨ag, E, F⟩ := iS ae
 obtain ⟨am, G, y, n, z⟩ := FZ.get (sz := 3) rfl (by decide) (h3.le c) F
 obtain ⟨_, _, rfl, rfl, ⟨_, _, rfl, rfl, rfl⟩⟩ := G
 refine E0 3 rfl (sI ag rfl rfl E z n sl38)<|Es 4 rfl (sP (vs := [iv a.Dep, iv a.Arr, iv a.Rides]) 3 rfl agg42 n rfl (fun j u hu => y j u hu))<|Es 5 rfl (sD (vs := [_, _, _]) 1 3 rfl agg42 rfl rfl rfl)<|Eo<|Da [6] (by kernel_rfl) rfl ?_
 refine Rd2 lr rfl rfl (u_callvW0 #[] #[] [.agg #[iv a.Dep, iv a.Arr, iv a.Rides], .agg #[iv k, iv l, iv m]] rfl call73 rfl (fun w ho => cGuideNetEarliest_2 _ [] a (⟨k, l, m⟩ : GuidePoint) af x) (fun _ _ _ h => h.2.symm)) ?_ ?_
 rintro _ _ ⟨⟨_, rfl, _⟩, rfl⟩
 refine ⟨.inl (by kernel_rfl), ?_⟩
 refine El lr<|E0 7 rfl (q3 rfl rfl)<|Eo<|Dd (by kernel_rfl)<|Xn ?_
 refine cI hm rfl (fun hm => ?_) fun hm => ?_
 refine Cg<|mV rfl<|mV rfl ?_
 obtain ⟨g, ah, an, H, ao, I, A, o, B, hm⟩ := bF (sz := 3) hm (h3.le c)
 obtain ⟨_, _, rfl, rfl, ⟨_, _, rfl, rfl, rfl⟩⟩ := I
 refine tS (sI ah rfl rfl H B o sl38)<|tS (sP (vs := [iv g.Dep, iv g.Arr, iv g.Rides]) 3 rfl agg42 o rfl (fun j u hu => A j u hu))<|tD (uN (vs := [_, _, _]) 1 3 rfl rfl rfl siz42 rfl (mc rfl (mc rfl (mc rfl mn))) rfl (by simp)) ?_
 rintro _ _ rfl
 refine Tn<|Xm ?_
 obtain ⟨rfl, rfl, rfl⟩ := some3 hm
 exact jJ ⟨rfl, rfl, lr⟩
 refine Ck<|Xm ?_
 obtain ⟨rfl, rfl, rfl⟩ := some3 hm
 exact jJ ⟨rfl, rfl, lr⟩
 exact Rn
 rintro X _ _ ⟨rfl, rfl, J⟩
 have hm := (unc3E ad)
 refine Cg<|mV rfl ?_
 obtain ⟨_, i, hm⟩ := bS hm
 have i := (kS i).2
 refine tS (sa rfl rfl i)<|aS rfl<|Tn ?_
 exact jM hm ⟨rfl, rfl, ((c.trans J))⟩
 refine Ce<|Xe<|Xe<|Xo ?_
 have hm := congrArg some (p _ (Option.some.inj hm).symm)
 obtain ⟨rfl, rfl, rfl⟩ := some3 hm
 exact jJ ⟨rfl, rfl, c⟩
 rintro W _ _ ⟨rfl, rfl, K⟩
 have hm := (unc3E ab)
 refine Cr<|tS (sD (vs := [_, _, _]) 1 3 rfl agg42 rfl rfl rfl)<|tD (uN (vs := [_, _, _]) 0 3 rfl rfl rfl siz42 rfl (mc rfl (mc rfl (mc rfl mn))) rfl (by simp)) ?_
 rintro _ _ rfl
 refine Te<|Ct ?_
 obtain ⟨rfl, rfl, rfl⟩ := some3 hm
 exact rM (rs := [.cell 4 42]) (vs := [.agg #[iv T, iv U, iv V]]) ⟨⟨_, rfl, fun w ho => cell_agg (vs := [_, _, _]) 0 3 agg42 rfl rfl rfl w ho⟩, trivial⟩ ⟨rfl, rfl⟩ (.cons _ (.cons _ (.refl _))) K

set_option maxRecDepth 20000 in
theorem clSlicesClone_5 (A : Option Addr) (n c : Nat) (xs : List Value) (w : World) (hR : Rd w A xs) (hl : xs.length = n * 3) (hn : n * 24 ≤ 140737488355328 ∧ n ≤ 9223372036854775807) :
    CallsH Tryd.prog 56 [.slice A n c] w [] (fun v hp' => Seg0 86 3 v n xs hp') := by
  refine fn_enter 8 Tryd.func56 rfl Tryd.ntmps56 rfl ?_
  refine c_sr ?_
  refine t_as rfl rfl ?_
  refine t_ne ?_
  refine c_seq ?_
  refine c_sr ?_
  refine t_mv rfl rfl ?_
  refine t_bool rfl (st_eqnil rfl rfl sl31) (fun hc1 => ?_) (fun hc1 => ?_)
  ·
    refine t_ne ?_
    refine c_cond_t rfl ?_
    refine c_sr ?_
    refine t_as rfl rfl ?_
    refine t_ne ?_
    refine c_ret ?_
    refine x_then_ret ?_
    subst hc1
    obtain rfl := hR.none_nil
    obtain rfl : n = 0 := by simp at hl; omega
    refine x_drop (hp' := []) (by repeat (first | exact List.Sublist.refl _ | exact List.nil_sublist _ | exact List.sublist_append_left _ _ | exact List.sublist_append_right _ _ | exact (List.sublist_append_right _ _).trans (List.sublist_append_right _ _) | apply List.Sublist.cons_cons | apply List.Sublist.cons)) ?_
    exact ret1 (Base.Le.refl _) rfl rfl (Seg0.nil)
  ·
    refine t_ne ?_
    refine c_cond_f rfl ?_
    refine c_skip ?_
    refine x_then_normal ?_
    refine c_sr ?_
    refine t_do rfl (u_bslice (el := 86) [] [] rfl (fun _ => by kernel_rfl)) ?_
    rintro _ _ ⟨g0, rfl, rfl⟩
    refine t_mv rfl rfl ?_
    refine t_do rfl (u_app0 xs sl31 inf86 rfl (by decide) rfl rfl hl (fun w ho => hR.old ho) hn.2 hn.1) ?_
    rintro _ _ ⟨hs, rfl, hseg⟩
    refine t_as rfl rfl ?_
    refine t_ne ?_
    refine c_ret ?_
    refine x_drop (hp' := hs) (by repeat (first | exact List.Sublist.refl _ | exact List.nil_sublist _ | exact List.sublist_append_left _ _ | exact List.sublist_append_right _ _ | exact (List.sublist_append_right _ _).trans (List.sublist_append_right _ _) | apply List.Sublist.cons_cons | apply List.Sublist.cons)) ?_
    exact ret1 (Base.Le.refl _) rfl rfl hseg

set_option maxRecDepth 20000 in
theorem cSlicesClone_5 (b : Base) (R : Hp) (d e f) (i : FZ rGuideRide b.w e f d) (a) (hm : mSlicesClone_5 d = some a):
    CallsG Tryd.prog 56 [sv e d f] b (R) (fun v b' hp' => ∃ g h c, sv g a h = v ∧ (c ++ R) = hp' ∧ OS 86 (OT.fr rGuideRide) b'.w (sv g a h) a c) := by
 unfold mSlicesClone_5 at hm
 obtain ⟨_, hroom, hm⟩ := bS hm
 have hroom := room_some hroom
 obtain rfl := o1 hm
 exact clone_of (r := rGuideRide) (sz := 3) (by_ := 24) rfl (by decide) clSlicesClone_5 i hroom

set_option maxRecDepth 20000 in
theorem cGuideNetLeastOf_1 : ∀ (N : Nat) (b : Base) (R : Hp) (ad ae af an ao F aq q bb K O S H I ag ah ai aj A3 c4 d g8 Y) (aN : FZ rApiTrain b.w ag ah ad) (aO : FZ (RT.list rI) b.w ai aj ae) (h5 : OS 86 (OT.fr rGuideRide) b.w (sv A3 q c4) q d) (aP : (A3 = none ↔ q = [])) (h9 : OM (RT.arr 3 rI) (OT.fr RT.bool) true false b.w g8 bb Y) (au aU) (hm : mGuideNetLeastOf_1 N ad ae af an ao F aq q bb = some (au, aU)),
    CallsG Tryd.prog 78 [sv A3 q c4, pb K, pb O, pb S, pb H, pb I] b ((K, Cl 91 [sv ag ad ah, sv ai ae aj, iv af]) :: (O, Cl 42 [iv an, iv ao, iv F]) :: (S, Cl 3 [iv aq]) :: (H, Cl 136 [.map (some g8)]) :: (I, Cl 120 [.func (.func 78) #[] #[pb K, pb O, pb S, pb H, pb I]]) :: (d ++ (Y ++ R))) (fun v b' hp' => ∃ aY bk aZ a0, sv aY au bk = v ∧ (K, Cl 91 [sv ag ad ah, sv ai ae aj, iv af]) :: (O, Cl 42 [iv an, iv ao, iv F]) :: (S, Cl 3 [iv aq]) :: (H, Cl 136 [.map (some g8)]) :: (I, Cl 120 [.func (.func 78) #[] #[pb K, pb O, pb S, pb H, pb I]]) :: (aZ ++ (a0 ++ R)) = hp' ∧ OS 86 (OT.fr rGuideRide) b'.w (sv aY au bk) au aZ ∧ (aY = none ↔ au = []) ∧ OM (RT.arr 3 rI) (OT.fr RT.bool) true false b'.w g8 aU a0) := by
  intro N
  induction N with
  | zero =>
    intro b R ad ae af an ao F aq q bb K O S H I ag ah ai aj A3 c4 d g8 Y aN aO h5 aP h9 au aU hm
    unfold mGuideNetLeastOf_1 at hm
    cases hm
  | succ N ih =>
   intro b R ad ae af an ao F aq q bb K O S H I ag ah ai aj A3 c4 d g8 Y aN aO h5 aP h9 au aU hm
   refine fE 74 Tryd.func78 rfl Tryd.ntmps78 rfl ?_
   unfold mGuideNetLeastOf_1 at hm
   refine Cr<|tD (uB _ rfl rfl) ?_
   rintro _ _ ⟨ak, rfl, rfl⟩
   refine tD (uA [sn] zero31 rfl) ?_
   rintro _ _ ⟨Z, rfl, rfl⟩
   refine Te<|Cr<|tS (sL 1 rfl one31 rfl rfl)<|tS (sL 1 rfl one31 rfl rfl)<|tS (sE rfl sl31) ?_
   obtain ⟨_, a1, hm⟩ := bS hm
   have a1 := (kS a1).2
   refine tS (sb rfl rfl a1) ?_
   obtain ⟨f, bN, hm⟩ := bS hm
   obtain ⟨bO, br, bs⟩ := iS bN
   obtain ⟨b1, b2, b6, b7, b3, bt, bc, a2, bd, b4, b0⟩ := OS.get (sz := 3) rfl (by decide) h5 bs
   obtain ⟨⟨_, _, rfl, rfl, ⟨_, _, rfl, rfl, rfl⟩⟩, rfl⟩ := bt
   refine tS (sI bO rfl rfl br bd a2 sl31)<|tS (st_loadN_rd (vs := [iv f.Train, iv f.On, iv f.Off]) 3 rfl agg86 a2 rfl (fun w ho j u hu => bc w _ ho (.cons _ (.cons _ (.cons _ (.cons _ (.cons _ (.cons _ (.cons _ (List.sublist_append_left _ _)))))))) j u hu))<|tD (uA [iv 0, iv 0, iv 0] zero86 rfl) ?_
   rintro _ _ ⟨bl, rfl, rfl⟩
   refine tD (uN (vs := [_, _, _]) 0 3 rfl rfl rfl siz86 rfl (mc rfl (mc rfl (mc rfl mn))) rfl (by simp)) ?_
   rintro _ _ rfl
   refine Te<|Cr<|tS (sD (vs := [_, _, _]) 3 3 rfl agg91 rfl rfl rfl)<|tS (sD (vs := [_, _, _]) 0 3 rfl agg86 rfl rfl rfl) ?_
   obtain ⟨⟨bP, bQ, bR, bT⟩, be, hm⟩ := bS hm
   have hm := (unc4E hm)
   refine Tg _ rfl call61 rfl (cGuideNetOff _ _ (⟨(⟨ad, ae⟩ : ApiDay), af⟩ : GuideNet) f ag ah ai aj aN aO bP bQ bR bT be) ?_
   rintro _ bm _ c ⟨rfl, rfl⟩
   refine tD (uA [iv 0, iv 0, iv 0, iv 0] zero83 rfl) ?_
   rintro _ _ ⟨b8, rfl, rfl⟩
   refine tD (uN (vs := [_, _, _, _]) 0 4 rfl rfl rfl siz83 rfl (mc rfl (mc rfl (mc rfl (mc rfl mn)))) rfl (by simp)) ?_
   rintro _ _ rfl
   refine Te<|Cr<|tS (sF rfl fld42_2)<|tS (sL 5 rfl one3 rfl rfl)<|tS (sL 3 rfl one31 rfl rfl)<|tS (sE rfl sl31) ?_
   obtain ⟨_, a3, hm⟩ := bS hm
   have a3 := (kS a3).2
   refine tS (sb rfl rfl a3)<|aS rfl<|Te<|Cs<|Cr<|mV rfl<|tS (q1 rfl rfl)<|Te ?_
   refine cI hm rfl (fun hm => ?_) fun hm => ?_
   refine Cs ?_
   obtain ⟨bU, bu, bw⟩ := bS hm
   refine Cj (fun bn e' hp' => [(6, pb ak), (7, pb Z), (40, bv bU)] = e' ∧ (ak, Cl 31 [sv A3 q c4]) :: (Z, Cl 31 [sn]) :: (K, Cl 91 [sv ag ad ah, sv ai ae aj, iv af]) :: (O, Cl 42 [iv an, iv ao, iv F]) :: (S, Cl 3 [iv aq]) :: (H, Cl 136 [.map (some g8)]) :: (I, Cl 120 [.func (.func 78) #[] #[pb K, pb O, pb S, pb H, pb I]]) :: (d ++ (Y ++ R)) = hp' ∧ bm.Le bn) ?_ ?_
   have hm := bu
   refine Cg<|tS (sF rfl fld83_0)<|tS (sL 0 rfl one3 rfl rfl)<|tS (sL 6 rfl one3 rfl rfl) ?_
   refine Tb rfl (q1 rfl rfl) (fun aQ => ?_) (fun aQ => ?_)
   rw [if_pos aQ] at hm
   refine mV rfl<|yS<|tS (sF rfl fld83_2)<|yS<|tS (sL 0 rfl one3 rfl rfl)<|yS<|tS (sF rfl fld42_1)<|yS<|tS (sL 5 rfl one3 rfl rfl)<|yS ?_
   refine tS (q1 rfl rfl)<|tS (pT rfl rfl)<|Tn ?_
   obtain rfl := o1 hm
   exact jJ ⟨rfl, rfl, lr⟩
   rw [if_neg aQ] at hm
   refine mV rfl<|nO<|nO<|nO<|nO<|nO<|tS (pF rfl rfl)<|Tn ?_
   obtain rfl := o1 hm
   exact jJ ⟨rfl, rfl, lr⟩
   rintro bn _ _ ⟨rfl, rfl, al⟩
   have hm := bw
   refine cB hm rfl (fun hm => ?_) fun hm => ?_
   refine Cr<|tS (sL 0 rfl one31 rfl rfl)<|tD (uS 1 rfl rfl siz31 rfl rfl (by simp)) ?_
   rintro _ _ rfl
   refine Te<|Ct<|Xr<|Xr ?_
   obtain ⟨rfl, rfl⟩ := some2 hm
   refine Xp 6 rfl<|Xp 6 rfl<|Xp 6 rfl<|Xp 6 rfl<|Xp 6 rfl<|X2 [_, _, _, _, _, _, _] d Y R rfl<|X2 [_, _, _, _, _, _, _] Y d R rfl ?_
   have bx := (h5.le (c.trans al))
   have bz := (h9.le (c.trans al))
   exact rM (rs := [.cell 7 31]) (vs := [sv A3 q c4]) ⟨⟨_, rfl, fun w ho => cell_one 6 one31 rfl rfl w ho⟩, trivial⟩ ⟨A3, c4, d, Y, rfl, rfl, bx, aP, bz⟩ (.cons_cons _ (.cons_cons _ (.cons_cons _ (.cons_cons _ (.cons_cons _ (.cons _ (.cons _ (.refl _)))))))) (c.trans al)
   refine Ck<|Xn<|Cr<|tD (uS 1 rfl rfl siz31 rfl rfl (by simp)) ?_
   rintro _ _ rfl
   refine Te<|Ct<|Xr ?_
   obtain ⟨rfl, rfl⟩ := some2 hm
   refine Xp 6 rfl<|Xp 6 rfl<|Xp 6 rfl<|Xp 6 rfl<|Xp 6 rfl<|X2 [_, _, _, _, _, _, _] d Y R rfl ?_
   have bA := (h9.le (c.trans al))
   exact rM (rs := [.cell 7 31]) (vs := [sn]) ⟨⟨_, rfl, fun w ho => cell_one 6 one31 rfl rfl w ho⟩, trivial⟩ ⟨none, 0, [], Y, rfl, rfl, OS.nil, ⟨fun _ => rfl, fun _ => rfl⟩, bA⟩ (.cons_cons _ (.cons_cons _ (.cons_cons _ (.cons_cons _ (.cons_cons _ (.cons _ (.cons _ (sp Y (ss d (.refl _)))))))))) (c.trans al)
   refine Ck<|Xn<|Cr<|tS (sF rfl fld86_0)<|tS (sL 1 rfl one3 rfl rfl)<|tS (sF rfl fld86_2)<|tS (sL 1 rfl one3 rfl rfl)<|mV rfl<|tS (sB (v := .agg #[iv f.Train, iv f.Off, iv (F - (q.length : Int))]) [(0, iv f.Train), (1, iv f.Off), (2, iv (F - (q.length : Int)))] rfl (fun _ => by kernel_rfl))<|tD (uA [iv 0, iv 0, iv 0] zero138 rfl) ?_
   rintro _ _ ⟨av, rfl, rfl⟩
   refine tD (uN (vs := [_, _, _]) 0 3 rfl rfl rfl siz138 rfl (mc rfl (mc rfl (mc rfl mn))) rfl (by simp)) ?_
   rintro _ _ rfl
   refine Te<|Cs ?_
   obtain ⟨bV, bB, bC⟩ := bS hm
   refine Cj (fun bo e' hp' => [(1, pb K), (4, pb H), (5, pb I), (6, pb ak), (7, pb Z), (8, pb bl), (11, pb av), (57, bv bV)] = e' ∧ (K, Cl 91 [sv ag ad ah, sv ai ae aj, iv af]) :: (H, Cl 136 [.map (some g8)]) :: (I, Cl 120 [.func (.func 78) #[] #[pb K, pb O, pb S, pb H, pb I]]) :: (ak, Cl 31 [sv A3 q c4]) :: (Z, Cl 31 [sn]) :: (bl, Cl 86 [iv f.Train, iv f.On, iv f.Off]) :: (av, Cl 138 [iv f.Train, iv f.Off, iv (F - (q.length : Int))]) :: (O, Cl 42 [iv an, iv ao, iv F]) :: (S, Cl 3 [iv aq]) :: (d ++ (Y ++ R)) = hp' ∧ bm.Le bo) ?_ ?_
   have hm := bB
   refine Cg<|tS (sL 8 rfl one136 rfl rfl)<|tS (sD (vs := [_, _, _]) 0 3 rfl agg138 rfl rfl rfl) ?_
   obtain ⟨a4, bW, hm⟩ := bS hm
   have bD := Option.some.inj bW
   obtain ⟨bp, aI, bE⟩ := OM.lookF kok138 (z0 := false) (h9.le c) (key := .agg #[iv f.Train, iv f.Off, iv (F - (q.length : Int))]) (k := [f.Train, f.Off, F - (q.length : Int)]) ⟨[iv f.Train, iv f.Off, iv (F - (q.length : Int))], rfl, ⟨rfl, [[iv f.Train], [iv f.Off], [iv (F - (q.length : Int))]], rfl, ⟨rfl, ⟨rfl, ⟨rfl, trivial⟩⟩⟩⟩⟩ mapt136 zero4 rfl
   rw [bD] at aI
   obtain rfl : bp = bv a4 := by have aI : [bp] = [bv a4] := aI; injection aI
   refine tS (st_mlook (ok := false) rfl rfl (fun w ho => bE _ w ho (.cons _ (.cons _ (.cons _ (.cons _ (.cons _ (.cons _ (.cons _ (.cons _ (.cons _ (.cons _ (ss d (List.sublist_append_left _ _)))))))))))) false)) ?_
   rcases Bool.eq_false_or_eq_true a4 with aw | aw
   rw [if_pos aw] at hm
   refine Tr 50 rfl (v' := .bool true) (by rw [aw] <;> rfl)<|mV rfl<|nO<|nO<|nO<|nO<|nO<|tS (pT rfl rfl)<|Tn ?_
   obtain rfl := o1 hm
   exact jJ ⟨rfl, rfl, lr⟩
   rw [if_neg (fun hh => Bool.noConfusion (hh.symm.trans aw))] at hm
   refine Tr 50 rfl (v' := .bool false) (by rw [aw] <;> rfl)<|mV rfl<|yS<|tS (sF rfl fld83_2)<|yS<|tS (sL 1 rfl one3 rfl rfl)<|yS<|tS (sF rfl fld42_1)<|yS<|tS (sL 6 rfl one3 rfl rfl) ?_
   refine yS<|tS (q5 rfl rfl)<|tS (pF rfl rfl)<|Tn ?_
   obtain rfl := o1 hm
   exact jJ ⟨rfl, rfl, lr⟩
   rintro bo _ _ ⟨rfl, rfl, g⟩
   have hm := bC
   refine cB hm rfl (fun hm => ?_) fun hm => ?_
   refine Cr<|tD (uS 4 rfl rfl siz31 rfl rfl (by simp)) ?_
   rintro _ _ rfl
   refine Te<|Ct<|Xr ?_
   obtain ⟨rfl, rfl⟩ := some2 hm
   refine Xp 2 rfl<|Xp 2 rfl<|Xp 8 rfl<|Xp 8 rfl<|Xp 4 rfl<|X2 [_, _, _, _, _, _, _, _, _] d Y R rfl ?_
   have bG := (h9.le (c.trans g))
   exact rM (rs := [.cell 7 31]) (vs := [sn]) ⟨⟨_, rfl, fun w ho => cell_one 6 one31 rfl rfl w ho⟩, trivial⟩ ⟨none, 0, [], Y, rfl, rfl, OS.nil, ⟨fun _ => rfl, fun _ => rfl⟩, bG⟩ (.cons_cons _ (.cons_cons _ (.cons_cons _ (.cons_cons _ (.cons_cons _ (.cons _ (.cons _ (.cons _ (.cons _ (sp Y (ss d (.refl _)))))))))))) (c.trans g)
   refine Ck<|Xn<|Cs<|Cr<|tS (sD (vs := [_, _, _]) 0 3 rfl agg91 rfl rfl rfl)<|tS (sD (vs := [_, _, _]) 5 3 rfl agg86 rfl rfl rfl) ?_
   obtain ⟨bX, bf, hm⟩ := bS hm
   refine Tg _ rfl call67 rfl (cGuideNetBehind _ _ (⟨(⟨ad, ae⟩ : ApiDay), af⟩ : GuideNet) f ag ah ai aj (aN.le (c.trans g)) (aO.le (c.trans g)) bX bf) ?_
   rintro _ bY _ n ⟨b9, rfl, rfl, bZ⟩
   refine Te<|Cb ?_
   obtain ⟨ca, bH, aJ⟩ := bS hm
   refine Cp 8 rfl<|Cp 8 rfl<|Cp 2 rfl<|Cp 8 rfl<|Cp 7 rfl<|Cp 7 rfl<|Cp 7 rfl<|Cp 7 rfl<|c_front2 [_, _, _, _, _, _, _, _, _] d Y R rfl<|c_front2 [_, _, _, _, _, _, _, _, _] Y d R rfl ?_
   have bI := (h9.le (c.trans (g.trans n)))
   refine c_rangeM (fun x : GuideRide => (.agg #[iv x.Train, iv x.On, iv x.Off] : Value)) (fun aG => fun aV hp' => ∃ e, (H, Cl 136 [.map (some g8)]) :: (I, Cl 120 [.func (.func 78) #[] #[pb K, pb O, pb S, pb H, pb I]]) :: (ak, Cl 31 [sv A3 q c4]) :: (Z, Cl 31 [sn]) :: (av, Cl 138 [iv f.Train, iv f.Off, iv (F - (q.length : Int))]) :: (K, Cl 91 [sv ag ad ah, sv ai ae aj, iv af]) :: (O, Cl 42 [iv an, iv ao, iv F]) :: (S, Cl 3 [iv aq]) :: (d ++ (e ++ R)) = hp' ∧ bY.Le aV ∧ OM (RT.arr 3 rI) (OT.fr RT.bool) true false aV.w g8 aG e) rfl bZ bH (e' := [(4, pb H), (5, pb I), (6, pb ak), (7, pb Z), (11, pb av)]) ⟨rfl, rfl, rfl, rfl, rfl, trivial⟩ (.cons_cons _ (.cons_cons _ (.cons_cons _ (.cons_cons _ (.cons_cons _ (.cons_cons _ (.cons_cons _ (.cons_cons _ (.cons _ (.refl _)))))))))) rfl (fun dk hdk => ⟨Y, rfl, Base.Le.dks hdk, bI⟩) ?_ ?_ (fun x hx => (c.trans (g.trans n)).dk x hx)
   rintro a5 a6 a aG aV aH _ b5 ⟨e, rfl, p, aL⟩ m ax aX
   unfold mGuideNetLeastOf_1_L704 at ax
   have hm := ax
   refine Cg<|tD (uA [iv 0, iv 0, iv 0] zero86 rfl) ?_
   rintro _ _ ⟨bq, rfl, rfl⟩
   refine tD (uN (vs := [_, _, _]) 0 3 rfl rfl rfl siz86 rfl (mc rfl (mc rfl (mc rfl mn))) rfl (by simp)) ?_
   rintro _ _ rfl
   refine Tn<|x_begin 1 rfl<|Cb ?_
   obtain ⟨⟨ay, a7⟩, bg, bh⟩ := bS hm
   refine Cj (fun aK e' hp' => ∃ ar az G z, [(7, pb Z), (13, sv ar ay az)] = e' ∧ (Z, Cl 31 [sn]) :: (H, Cl 136 [.map (some g8)]) :: (I, Cl 120 [.func (.func 78) #[] #[pb K, pb O, pb S, pb H, pb I]]) :: (ak, Cl 31 [sv A3 q c4]) :: (av, Cl 138 [iv f.Train, iv f.Off, iv (F - (q.length : Int))]) :: (K, Cl 91 [sv ag ad ah, sv ai ae aj, iv af]) :: (O, Cl 42 [iv an, iv ao, iv F]) :: (S, Cl 3 [iv aq]) :: (a6, Lb a5) :: (G ++ (d ++ (z ++ R))) = hp' ∧ aH.Le aK ∧ OS 86 (OT.fr rGuideRide) aK.w (sv ar ay az) ay G ∧ (ar = none ↔ ay = []) ∧ OM (RT.arr 3 rI) (OT.fr RT.bool) true false aK.w g8 a7 z) ?_ ?_
   have hm := bg
   obtain ⟨y, aa, hm⟩ := bS hm
   obtain ⟨_, W, hm⟩ := bS hm
   obtain ⟨⟨aR, aT⟩, aA, hm⟩ := bS hm
   have hm := (unc2E hm)
   refine D_drawS ((a6, Lb a5) :: (bq, Cl 86 [iv a.Train, iv a.On, iv a.Off]) :: (ak, Cl 31 [sv A3 q c4]) :: (Z, Cl 31 [sn]) :: (av, Cl 138 [iv f.Train, iv f.Off, iv (F - (q.length : Int))]) :: (d ++ R)) mixed ?_
   refine D_tail (fun a8 e' hp' => ∃ s A B C, [(7, pb Z), (62, .func (.func 78) #[] #[pb K, pb O, pb S, pb H, pb I]), (64, sv A y B), (66, .slice (some ⟨C, 0, none⟩) 1 1)] = e' ∧ (C, Cl 86 [iv a.Train, iv a.On, iv a.Off]) :: (a6, Lb a5) :: (bq, Cl 86 [iv a.Train, iv a.On, iv a.Off]) :: (H, Cl 136 [.map (some g8)]) :: (I, Cl 120 [.func (.func 78) #[] #[pb K, pb O, pb S, pb H, pb I]]) :: (ak, Cl 31 [sv A3 q c4]) :: (Z, Cl 31 [sn]) :: (av, Cl 138 [iv f.Train, iv f.Off, iv (F - (q.length : Int))]) :: (K, Cl 91 [sv ag ad ah, sv ai ae aj, iv af]) :: (O, Cl 42 [iv an, iv ao, iv F]) :: (S, Cl 3 [iv aq]) :: (s ++ (d ++ (e ++ R))) = hp' ∧ OS 86 (OT.fr rGuideRide) a8.w (sv A y B) y s) 3 #[true, true, true, true, true, false, false, false] ?_ (fun tl1086 => ?_)
   rintro a8 _ _ U ⟨s, A, B, C, rfl, rfl, bJ⟩
   have W := room_some W
   refine Da [5] (by kernel_rfl) rfl ?_
   refine Rd2 U rfl rfl (uQ (r := rGuideRide) (l := y) [_, _, _, _, _, _, _, _, _, _, _] (d ++ (e ++ R)) [[iv a.Train, iv a.On, iv a.Off]] [a] rfl (by decide) sl31 inf86 rfl rfl rfl rfl bJ rfl (fun w ho => Rd.own (i := 0) ho rfl) ⟨⟨[iv a.Train], _, rfl, rfl, ⟨[iv a.On], _, rfl, rfl, rfl⟩⟩, trivial⟩ W) ?_ ?_
   rintro _ _ ⟨t, rfl, V⟩
   obtain ⟨ab, ac, rfl, _⟩ := V.form
   refine iR<|d_pullb 4 rfl<|d_pullb 4 rfl<|d_pullb 10 rfl<|d_pullb 10 rfl<|d_pullb 10 rfl<|d3 [_, _, _, _, _, _, _, _, _, _, _] t d e R rfl<|d2 [_, _, _, _, _, _, _, _, _, _, _] e t (d ++ R) rfl<|d_out2 [_, _, _, _, _] [_, _, _, _, _, _] t e (d ++ R) rfl<|Da [6] (by kernel_rfl) rfl ?_
   refine Rv U rfl rfl #[] #[pb K, pb O, pb S, pb H, pb I] [.slice ab (y ++ [a]).length ac] rfl call78 rfl (ih _ _ ad ae af an ao F aq (y ++ [a]) aG K O S H I ag ah ai aj ab ac t g8 e (aN.le (c.trans (g.trans (n.trans (p.trans (m.trans U)))))) (aO.le (c.trans (g.trans (n.trans (p.trans (m.trans U)))))) V (OS.nz V (by simp)) (aL.le (m.trans U)) aR aT aA) ?_ ?_
   rintro _ a9 _ J ⟨aB, aC, D, E, rfl, rfl, aD, aE, aF⟩
   refine iR<|d_in2 [_, _, _, _, _] [_, _, _, _, _, _] D E (d ++ R) rfl<|Ei (U.trans J) (.cons _ (.cons _ (.cons _ (.cons _ (.cons _ (.cons _ (.cons_cons _ (.cons_cons _ (.cons_cons _ (.cons_cons _ (.cons_cons _ (ss D (ss E (.refl _))))))))))))))<|E0 7 rfl (sA rfl)<|Eo<|Dd (by kernel_rfl) ?_
   obtain ⟨rfl, rfl⟩ := some2 hm
   exact jJ ⟨aB, aC, D, E, rfl, rfl, (U.trans J), aD, aE, aF⟩
   exact Rn
   exact Rn
   refine Ei lr (.cons_cons _ (.cons_cons _ (.cons _ (.cons _ (.cons_cons _ (.cons_cons _ (.cons_cons _ (.cons _ (.cons _ (.cons _ (sp d (ss e (.refl _)))))))))))))<|Es 1 rfl (sL 2 rfl one31 rfl rfl)<|Es 3 rfl (sD (vs := [_, _, _]) 1 3 rfl agg86 rfl rfl rfl)<|Eo<|Da [0, 2, 4] (by kernel_rfl) rfl ?_
   refine Rd2 lr rfl rfl (Stable.does (sL 3 rfl one120 rfl rfl)) ?_ ?_
   rintro _ _ ⟨rfl, rfl⟩
   refine iR<|Da [2, 4] (by kernel_rfl) rfl ?_
   refine Rd2 lr rfl rfl (u_callWF [_, _, _, _, _, _, _, _, _, _] (d ++ (e ++ R)) _ rfl call56 rfl (fun w ho => cSlicesClone_5 _ [] q A3 c4 (OS.now (o := (OT.fr rGuideRide)) (l := q) (hs := d) (h5.le (c.trans (g.trans (n.trans (p.trans m))))) ho (.cons _ (.cons _ (.cons _ (.cons _ (.cons _ (.cons _ (.cons _ (.cons _ (.cons _ (.cons _ (List.sublist_append_left _ _)))))))))))) y aa)) ?_ ?_
   rintro _ _ ⟨_, _, rfl, A, B, s, rfl, T, X⟩
   obtain rfl := List.append_cancel_right T
   have L := flat_fz (w' := aH.w) (cat_flat (fun _ _ _ _ h => h) (cat_flat (fun _ _ _ _ h => h) (fun _ _ _ _ h => h))) X
   refine iR<|Da [4] (by kernel_rfl) rfl ?_
   refine Rd2 lr rfl rfl (u_bslice (el := 86) [(0, .agg #[iv a.Train, iv a.On, iv a.Off])] [iv a.Train, iv a.On, iv a.Off] rfl (fun _ => by kernel_rfl)) ?_ ?_
   rintro _ _ ⟨C, rfl, rfl⟩
   refine iR ?_
   exact dG tl1086 ⟨s, A, B, C, rfl, rfl, L⟩ lr
   exact Rn
   refine Rd2 lr rfl rfl (u_bslice (el := 86) [(0, .agg #[iv a.Train, iv a.On, iv a.Off])] [iv a.Train, iv a.On, iv a.Off] rfl (fun _ => by kernel_rfl)) ?_ ?_
   rintro _ _ ⟨C, rfl, rfl⟩
   refine iR<|Da [2] (by kernel_rfl) rfl ?_
   refine Rd2 lr rfl rfl (u_callWF [_, _, _, _, _, _, _, _, _, _, _] (d ++ (e ++ R)) _ rfl call56 rfl (fun w ho => cSlicesClone_5 _ [] q A3 c4 (OS.now (o := (OT.fr rGuideRide)) (l := q) (hs := d) (h5.le (c.trans (g.trans (n.trans (p.trans m))))) ho (.cons _ (.cons _ (.cons _ (.cons _ (.cons _ (.cons _ (.cons _ (.cons _ (.cons _ (.cons _ (.cons _ (List.sublist_append_left _ _))))))))))))) y aa)) ?_ ?_
   rintro _ _ ⟨_, _, rfl, A, B, s, rfl, T, X⟩
   obtain rfl := List.append_cancel_right T
   have L := flat_fz (w' := aH.w) (cat_flat (fun _ _ _ _ h => h) (cat_flat (fun _ _ _ _ h => h) (fun _ _ _ _ h => h))) X
   refine iR ?_
   exact dG tl1086 ⟨s, A, B, C, rfl, rfl, L⟩ lr
   exact Rn
   exact Rn
   refine Rd2 lr rfl rfl (u_callWF [_, _, _, _, _, _, _, _, _, _] (d ++ (e ++ R)) _ rfl call56 rfl (fun w ho => cSlicesClone_5 _ [] q A3 c4 (OS.now (o := (OT.fr rGuideRide)) (l := q) (hs := d) (h5.le (c.trans (g.trans (n.trans (p.trans m))))) ho (.cons _ (.cons _ (.cons _ (.cons _ (.cons _ (.cons _ (.cons _ (.cons _ (.cons _ (.cons _ (List.sublist_append_left _ _)))))))))))) y aa)) ?_ ?_
   rintro _ _ ⟨_, _, rfl, A, B, s, rfl, T, X⟩
   obtain rfl := List.append_cancel_right T
   have L := flat_fz (w' := aH.w) (cat_flat (fun _ _ _ _ h => h) (cat_flat (fun _ _ _ _ h => h) (fun _ _ _ _ h => h))) X
   refine iR<|Da [0, 4] (by kernel_rfl) rfl ?_
   refine Rd2 lr rfl rfl (Stable.does (sL 3 rfl one120 rfl rfl)) ?_ ?_
   rintro _ _ ⟨rfl, rfl⟩
   refine iR<|Da [4] (by kernel_rfl) rfl ?_
   refine Rd2 lr rfl rfl (u_bslice (el := 86) [(0, .agg #[iv a.Train, iv a.On, iv a.Off])] [iv a.Train, iv a.On, iv a.Off] rfl (fun _ => by kernel_rfl)) ?_ ?_
   rintro _ _ ⟨C, rfl, rfl⟩
   refine iR ?_
   exact dG tl1086 ⟨s, A, B, C, rfl, rfl, L⟩ lr
   exact Rn
   refine Rd2 lr rfl rfl (u_bslice (el := 86) [(0, .agg #[iv a.Train, iv a.On, iv a.Off])] [iv a.Train, iv a.On, iv a.Off] rfl (fun _ => by kernel_rfl)) ?_ ?_
   rintro _ _ ⟨C, rfl, rfl⟩
   refine iR ?_
   have W := room_some W
   refine Da [0, 5] (by kernel_rfl) rfl ?_
   refine Rd2 lr rfl rfl (Stable.does (sL 4 rfl one120 rfl rfl)) ?_ ?_
   rintro _ _ ⟨rfl, rfl⟩
   refine iR ?_
   exact dG tl1086 ⟨s, A, B, C, rfl, rfl, L⟩ lr
   refine Rd2 lr rfl rfl (uQ (r := rGuideRide) (l := y) [_, _, _, _, _, _, _, _, _, _, _] (d ++ (e ++ R)) [[iv a.Train, iv a.On, iv a.Off]] [a] rfl (by decide) sl31 inf86 rfl rfl rfl rfl L rfl (fun w ho => Rd.own (i := 0) ho rfl) ⟨⟨[iv a.Train], _, rfl, rfl, ⟨[iv a.On], _, rfl, rfl, rfl⟩⟩, trivial⟩ W) ?_ ?_
   rintro _ _ ⟨t, rfl, V⟩
   obtain ⟨ab, ac, rfl, _⟩ := V.form
   refine iR<|Da [0] (by kernel_rfl) rfl ?_
   refine Rd2 lr rfl rfl (Stable.does (sL 4 rfl one120 rfl rfl)) ?_ ?_
   rintro _ _ ⟨rfl, rfl⟩
   refine iR<|d_pullb 4 rfl<|d_pullb 4 rfl<|d_pullb 10 rfl<|d_pullb 10 rfl<|d_pullb 10 rfl<|d3 [_, _, _, _, _, _, _, _, _, _, _] t d e R rfl<|d2 [_, _, _, _, _, _, _, _, _, _, _] e t (d ++ R) rfl<|d_out2 [_, _, _, _, _] [_, _, _, _, _, _] t e (d ++ R) rfl<|Da [6] (by kernel_rfl) rfl ?_
   refine Rv lr rfl rfl #[] #[pb K, pb O, pb S, pb H, pb I] [.slice ab (y ++ [a]).length ac] rfl call78 rfl (ih _ _ ad ae af an ao F aq (y ++ [a]) aG K O S H I ag ah ai aj ab ac t g8 e (aN.le (c.trans (g.trans (n.trans (p.trans m))))) (aO.le (c.trans (g.trans (n.trans (p.trans m))))) V (OS.nz V (by simp)) (aL.le m) aR aT aA) ?_ ?_
   rintro _ a9 _ J ⟨aB, aC, D, E, rfl, rfl, aD, aE, aF⟩
   refine iR<|d_in2 [_, _, _, _, _] [_, _, _, _, _, _] D E (d ++ R) rfl<|Ei J (.cons _ (.cons _ (.cons _ (.cons _ (.cons _ (.cons _ (.cons_cons _ (.cons_cons _ (.cons_cons _ (.cons_cons _ (.cons_cons _ (ss D (ss E (.refl _))))))))))))))<|E0 7 rfl (sA rfl)<|Eo<|Dd (by kernel_rfl) ?_
   obtain ⟨rfl, rfl⟩ := some2 hm
   exact jJ ⟨aB, aC, D, E, rfl, rfl, J, aD, aE, aF⟩
   exact Rn
   exact Rn
   exact Rn
   exact Rn
   refine Rd2 lr rfl rfl (u_bslice (el := 86) [(0, .agg #[iv a.Train, iv a.On, iv a.Off])] [iv a.Train, iv a.On, iv a.Off] rfl (fun _ => by kernel_rfl)) ?_ ?_
   rintro _ _ ⟨C, rfl, rfl⟩
   refine iR<|Da [0, 2] (by kernel_rfl) rfl ?_
   refine Rd2 lr rfl rfl (Stable.does (sL 4 rfl one120 rfl rfl)) ?_ ?_
   rintro _ _ ⟨rfl, rfl⟩
   refine iR<|Da [2] (by kernel_rfl) rfl ?_
   refine Rd2 lr rfl rfl (u_callWF [_, _, _, _, _, _, _, _, _, _, _] (d ++ (e ++ R)) _ rfl call56 rfl (fun w ho => cSlicesClone_5 _ [] q A3 c4 (OS.now (o := (OT.fr rGuideRide)) (l := q) (hs := d) (h5.le (c.trans (g.trans (n.trans (p.trans m))))) ho (.cons _ (.cons _ (.cons _ (.cons _ (.cons _ (.cons _ (.cons _ (.cons _ (.cons _ (.cons _ (.cons _ (List.sublist_append_left _ _))))))))))))) y aa)) ?_ ?_
   rintro _ _ ⟨_, _, rfl, A, B, s, rfl, T, X⟩
   obtain rfl := List.append_cancel_right T
   have L := flat_fz (w' := aH.w) (cat_flat (fun _ _ _ _ h => h) (cat_flat (fun _ _ _ _ h => h) (fun _ _ _ _ h => h))) X
   refine iR ?_
   exact dG tl1086 ⟨s, A, B, C, rfl, rfl, L⟩ lr
   exact Rn
   refine Rd2 lr rfl rfl (u_callWF [_, _, _, _, _, _, _, _, _, _, _] (d ++ (e ++ R)) _ rfl call56 rfl (fun w ho => cSlicesClone_5 _ [] q A3 c4 (OS.now (o := (OT.fr rGuideRide)) (l := q) (hs := d) (h5.le (c.trans (g.trans (n.trans (p.trans m))))) ho (.cons _ (.cons _ (.cons _ (.cons _ (.cons _ (.cons _ (.cons _ (.cons _ (.cons _ (.cons _ (.cons _ (List.sublist_append_left _ _))))))))))))) y aa)) ?_ ?_
   rintro _ _ ⟨_, _, rfl, A, B, s, rfl, T, X⟩
   obtain rfl := List.append_cancel_right T
   have L := flat_fz (w' := aH.w) (cat_flat (fun _ _ _ _ h => h) (cat_flat (fun _ _ _ _ h => h) (fun _ _ _ _ h => h))) X
   refine iR ?_
   have W := room_some W
   refine Da [0, 5] (by kernel_rfl) rfl ?_
   refine Rd2 lr rfl rfl (Stable.does (sL 4 rfl one120 rfl rfl)) ?_ ?_
   rintro _ _ ⟨rfl, rfl⟩
   refine iR ?_
   exact dG tl1086 ⟨s, A, B, C, rfl, rfl, L⟩ lr
   refine Rd2 lr rfl rfl (uQ (r := rGuideRide) (l := y) [_, _, _, _, _, _, _, _, _, _, _] (d ++ (e ++ R)) [[iv a.Train, iv a.On, iv a.Off]] [a] rfl (by decide) sl31 inf86 rfl rfl rfl rfl L rfl (fun w ho => Rd.own (i := 0) ho rfl) ⟨⟨[iv a.Train], _, rfl, rfl, ⟨[iv a.On], _, rfl, rfl, rfl⟩⟩, trivial⟩ W) ?_ ?_
   rintro _ _ ⟨t, rfl, V⟩
   obtain ⟨ab, ac, rfl, _⟩ := V.form
   refine iR<|Da [0] (by kernel_rfl) rfl ?_
   refine Rd2 lr rfl rfl (Stable.does (sL 4 rfl one120 rfl rfl)) ?_ ?_
   rintro _ _ ⟨rfl, rfl⟩
   refine iR<|d_pullb 4 rfl<|d_pullb 4 rfl<|d_pullb 10 rfl<|d_pullb 10 rfl<|d_pullb 10 rfl<|d3 [_, _, _, _, _, _, _, _, _, _, _] t d e R rfl<|d2 [_, _, _, _, _, _, _, _, _, _, _] e t (d ++ R) rfl<|d_out2 [_, _, _, _, _] [_, _, _, _, _, _] t e (d ++ R) rfl<|Da [6] (by kernel_rfl) rfl ?_
   refine Rv lr rfl rfl #[] #[pb K, pb O, pb S, pb H, pb I] [.slice ab (y ++ [a]).length ac] rfl call78 rfl (ih _ _ ad ae af an ao F aq (y ++ [a]) aG K O S H I ag ah ai aj ab ac t g8 e (aN.le (c.trans (g.trans (n.trans (p.trans m))))) (aO.le (c.trans (g.trans (n.trans (p.trans m))))) V (OS.nz V (by simp)) (aL.le m) aR aT aA) ?_ ?_
   rintro _ a9 _ J ⟨aB, aC, D, E, rfl, rfl, aD, aE, aF⟩
   refine iR<|d_in2 [_, _, _, _, _] [_, _, _, _, _, _] D E (d ++ R) rfl<|Ei J (.cons _ (.cons _ (.cons _ (.cons _ (.cons _ (.cons _ (.cons_cons _ (.cons_cons _ (.cons_cons _ (.cons_cons _ (.cons_cons _ (ss D (ss E (.refl _))))))))))))))<|E0 7 rfl (sA rfl)<|Eo<|Dd (by kernel_rfl) ?_
   obtain ⟨rfl, rfl⟩ := some2 hm
   exact jJ ⟨aB, aC, D, E, rfl, rfl, J, aD, aE, aF⟩
   exact Rn
   exact Rn
   exact Rn
   exact Rn
   exact Rn
   rintro aK _ _ ⟨ar, az, G, z, rfl, rfl, am, bK, aM, ba⟩
   have hm := (unc2E bh)
   refine Cr<|mV rfl<|tS (st_neqnil_z rfl rfl aM sl31)<|Te ?_
   refine cM hm rfl (fun hm => ?_) fun hm => ?_
   refine Cr<|mV rfl<|tD (uS 0 rfl rfl siz31 rfl rfl (by simp)) ?_
   rintro _ _ rfl
   refine Te<|Ct<|Xb<|x_leaveR 8 rfl am<|Ct<|Xb<|Xr ?_
   have bi := aX _ (Option.some.inj hm).symm
   rw [bi] at aJ
   have hm := elimR aJ
   obtain ⟨rfl, rfl⟩ := some2 hm
   refine Xp 2 rfl<|Xp 2 rfl<|Xp 7 rfl<|Xp 7 rfl<|Xp 7 rfl<|X3 [_, _, _, _, _, _, _, _] G d z R rfl<|X2 [_, _, _, _, _, _, _, _] z G (d ++ R) rfl ?_
   exact rM (rs := [.cell 7 31]) (vs := [sv ar ay az]) ⟨⟨_, rfl, fun w ho => cell_one 5 one31 rfl rfl w ho⟩, trivial⟩ ⟨ar, az, G, z, rfl, rfl, bK, aM, ba⟩ (.cons_cons _ (.cons_cons _ (.cons_cons _ (.cons_cons _ (.cons_cons _ (.cons _ (.cons _ (.cons _ (sp G (sp z (ss d (.refl _)))))))))))) (c.trans (g.trans (n.trans (p.trans (m.trans am)))))
   refine Ck<|Xm<|Xp 7 rfl<|Xp 7 rfl<|Xp 7 rfl<|Xp 7 rfl<|Xp 4 rfl<|Xp 7 rfl<|Xp 7 rfl<|Xp 7 rfl ?_
   refine X3 [_, _, _, _, _, _, _, _, _] G d z R rfl<|X3 [_, _, _, _, _, _, _, _, _] z G d R rfl ?_
   exact x_round 8 rfl am (.cons_cons _ (.cons_cons _ (.cons_cons _ (.cons_cons _ (.cons_cons _ (.cons_cons _ (.cons_cons _ (.cons_cons _ (sp d (sp z (ss G (.refl _)))))))))))) ⟨a7, (Option.some.inj hm).symm, ⟨z, rfl, (p.trans (m.trans am)), ba⟩⟩
   rintro aG aV _ ⟨e, rfl, p, aL⟩ bj
   rw [bj] at aJ
   have hm := elimL aJ
   refine Xm<|Xn<|Cr<|tS (sL 0 rfl one136 rfl rfl)<|tS (sD (vs := [_, _, _]) 4 3 rfl agg138 rfl rfl rfl)<|t_front2 [_, _, _, _, _, _, _, _] d e R rfl<|tD (u_mputF (k := [f.Train, f.Off, F - (q.length : Int)]) kok138 [_, _, _, _, _, _, _, _] [] (d ++ R) rfl aL mapt136 rfl rfl rfl (⟨[iv f.Train, iv f.Off, iv (F - (q.length : Int))], rfl, ⟨rfl, [[iv f.Train], [iv f.Off], [iv (F - (q.length : Int))]], rfl, ⟨rfl, ⟨rfl, ⟨rfl, trivial⟩⟩⟩⟩⟩) ⟨rfl, rfl⟩ _ (.inl rfl)) ?_
   rintro _ _ ⟨aW, rfl, bM, bL⟩
   refine Te<|Cr<|tD (uS 3 rfl rfl siz31 rfl rfl (by simp)) ?_
   rintro _ _ rfl
   refine Te<|Ct ?_
   obtain ⟨rfl, rfl⟩ := some2 hm
   refine Xp 1 rfl<|Xp 1 rfl<|Xp 7 rfl<|Xp 7 rfl<|Xp 7 rfl ?_
   exact rM (rs := [.cell 7 31]) (vs := [sn]) ⟨⟨_, rfl, fun w ho => cell_one 6 one31 rfl rfl w ho⟩, trivial⟩ ⟨none, 0, [], aW, rfl, rfl, OS.nil, ⟨fun _ => rfl, fun _ => rfl⟩, bL⟩ (.cons_cons _ (.cons_cons _ (.cons_cons _ (.cons_cons _ (.cons_cons _ (.cons _ (.cons _ (.cons _ (sp aW (ss d (.refl _))))))))))) (c.trans (g.trans (n.trans p)))

set_option maxRecDepth 20000 in
theorem cGuideNetLeastOf (b : Base) (R : Hp) (u : GuideNet) (x8 x9) (j : GuidePoint) (A2 c3 A5 c6) (h4 : FZ rApiTrain b.w A2 c3 u.Day.Trains) (h7 : FZ (RT.list rI) b.w A5 c6 u.Day.Turns) (p) (hm : mGuideNetLeastOf u x8 x9 j = some p):
    CallsG Tryd.prog 45 [.agg #[sv A2 u.Day.Trains c3, sv A5 u.Day.Turns c6, iv u.least], iv x8, iv x9, .agg #[iv j.Dep, iv j.Arr, iv j.Rides]] b (R) (fun v b' hp' => ∃ F O G, .agg #[sv F p O] = v ∧ (G ++ R) = hp' ∧ OS 86 (OT.fr rGuideRide) b'.w (sv F p O) p G ∧ (F = none ↔ p = [])) := by
 refine fE 37 Tryd.func45 rfl Tryd.ntmps45 rfl ?_
 unfold mGuideNetLeastOf at hm
 refine Cr<|tD (uB _ rfl rfl) ?_
 rintro _ _ ⟨q, rfl, rfl⟩
 refine tD (uB _ rfl rfl) ?_
 rintro _ _ ⟨y, rfl, rfl⟩
 refine tD (uB _ rfl rfl) ?_
 rintro _ _ ⟨r, rfl, rfl⟩
 refine tD (uA [sn] zero33 rfl) ?_
 rintro _ _ ⟨S, rfl, rfl⟩
 refine Te<|Cr<|tD (u_mmap (RT.arr 3 rI) (OT.fr RT.bool) true false [_, _, _, _] R rfl) ?_
 rintro _ _ ⟨H, Z, rfl, rfl, ae⟩
 refine tD (uA [.map none] zero136 rfl) ?_
 rintro _ _ ⟨z, rfl, rfl⟩
 refine tD (uS 0 rfl rfl siz136 rfl rfl (by simp)) ?_
 rintro _ _ rfl
 refine Te<|Cr<|tD (uA [.nilFunc] zero120 rfl) ?_
 rintro _ _ ⟨s, rfl, rfl⟩
 refine Te<|Cr<|tS (st_func _ _ rfl rfl)<|tD (uS 0 rfl rfl siz120 rfl rfl (by simp)) ?_
 rintro _ _ rfl
 refine Te<|Cs<|Cr<|tS (sD (vs := [_, _, _]) 5 3 rfl agg91 rfl rfl rfl)<|mV rfl<|tS (sF rfl fld42_0)<|tS (sL 3 rfl one3 rfl rfl) ?_
 obtain ⟨af, K, hm⟩ := bS hm
 refine Tg _ rfl call54 rfl (cGuideNetRides _ _ u x8 j.Dep (-1) A2 c3 A5 c6 h4 h7 af K) ?_
 rintro _ ag _ g ⟨an, rfl, rfl, ah⟩
 refine Te<|Cb ?_
 obtain ⟨ao, aa, n⟩ := bS hm
 refine Cp 1 rfl<|Cp 4 rfl<|Cp 2 rfl<|Cp 3 rfl<|Cp 4 rfl<|Cp 5 rfl ?_
 have ab := (ae.le g)
 refine c_rangeM (fun x : GuideRide => (.agg #[iv x.Train, iv x.On, iv x.Off] : Value)) (fun t => fun A hp' => ∃ f, (q, Cl 91 [sv A2 u.Day.Trains c3, sv A5 u.Day.Turns c6, iv u.least]) :: (r, Cl 42 [iv j.Dep, iv j.Arr, iv j.Rides]) :: (S, Cl 33 [sn]) :: (s, Cl 120 [.func (.func 78) #[] #[pb q, pb r, pb y, pb z, pb s]]) :: (y, Cl 3 [iv x9]) :: (z, Cl 136 [.map (some H)]) :: (f ++ R) = hp' ∧ ag.Le A ∧ OM (RT.arr 3 rI) (OT.fr RT.bool) true false A.w H t f) rfl ah aa (e' := [(4, pb q), (7, pb r), (8, pb S), (10, pb s)]) ⟨rfl, rfl, rfl, rfl, trivial⟩ (.refl _) rfl (fun dk hdk => ⟨Z, rfl, Base.Le.dks hdk, ab⟩) ?_ ?_ (fun x hx => g.dk x hx)
 rintro aq ar a t A au _ am ⟨f, rfl, d, I⟩ e k E
 unfold mGuideNetLeastOf_L166 at k
 have hm := k
 refine Cg<|tD (uA [iv 0, iv 0, iv 0] zero86 rfl) ?_
 rintro _ _ ⟨av, rfl, rfl⟩
 refine tD (uN (vs := [_, _, _]) 0 3 rfl rfl rfl siz86 rfl (mc rfl (mc rfl (mc rfl mn))) rfl (by simp)) ?_
 rintro _ _ rfl
 refine Tn<|x_begin 1 rfl<|Cb<|Cs<|Cs ?_
 obtain ⟨⟨T, U, V, W⟩, L, hm⟩ := bS hm
 have hm := (unc4E hm)
 refine Di mixed (.refl _)<|Es 0 rfl (sD (vs := [_, _, _]) 2 3 rfl agg91 rfl rfl rfl)<|Es 1 rfl (sD (vs := [_, _, _]) 1 3 rfl agg86 rfl rfl rfl)<|E0 4 rfl (sF rfl fld42_0)<|Es 5 rfl (sL 3 rfl one3 rfl rfl)<|Eo<|Da [2] (by kernel_rfl) rfl ?_
 refine Rg lr rfl rfl _ call60 rfl (cGuideNetOn _ _ u a A2 c3 A5 c6 (h4.le (g.trans (d.trans e))) (h7.le (g.trans (d.trans e))) T U V W L) ?_ ?_
 rintro _ ai _ c ⟨rfl, rfl⟩
 refine iR<|Ei c (.refl _)<|E0 3 rfl (st_vfield1 (cs := [iv T, iv U, iv V, iv W]) rfl fdv83_3 one3 rfl)<|E0 6 rfl (q2 rfl rfl)<|Eo<|Dd (by kernel_rfl)<|Xn ?_
 refine cI hm rfl (fun hm => ?_) fun hm => ?_
 refine Ce<|Xe<|Xo<|Xp 7 rfl<|Xp 7 rfl<|Xp 7 rfl<|Xp 7 rfl<|Xp 7 rfl<|Xp 7 rfl ?_
 exact x_round 6 rfl c (.cons_cons _ (.cons_cons _ (.cons_cons _ (.cons_cons _ (.cons_cons _ (.cons_cons _ (.cons _ (.refl _)))))))) ⟨t, (Option.some.inj hm).symm, ⟨f, rfl, (d.trans (e.trans c)), (I.le (e.trans c))⟩⟩
 refine Ck<|Xn<|Cr<|tS (sL 5 rfl one120 rfl rfl)<|tS (sD (vs := [_, _, _]) 1 3 rfl agg86 rfl rfl rfl)<|tD (u_bslice (el := 86) [(0, .agg #[iv a.Train, iv a.On, iv a.Off])] [iv a.Train, iv a.On, iv a.Off] rfl (fun _ => by kernel_rfl)) ?_
 rintro _ _ ⟨h, rfl, rfl⟩
 refine t_seg 0 [_, _, _, _, _, _, _, _] (f ++ R) rfl rfl ?_
 have aj : OS 86 (OT.fr rGuideRide) ai.w (.slice (some ⟨h, 0, none⟩) 1 1) [a] [(h, Cl 86 [iv a.Train, iv a.On, iv a.Off])] := OS.lit [[iv a.Train, iv a.On, iv a.Off]] rfl ⟨⟨[iv a.Train], _, rfl, rfl, ⟨[iv a.On], _, rfl, rfl, rfl⟩⟩, trivial⟩ rfl (by decide)
 obtain ⟨⟨B, X⟩, o, hm⟩ := bS hm
 obtain ⟨J, o⟩ := lim_some o
 have hm := (unc2E hm)
 refine t_pullb 5 rfl<|t_pullb 7 rfl<|t_pullb 7 rfl<|t_pullb 6 rfl<|t_pullb 6 rfl<|t_front2 [_, _, _, _, _, _, _, _] [(h, Cl 86 [iv a.Train, iv a.On, iv a.Off])] f R rfl<|t_front2 [_, _, _, _, _, _, _, _] f [(h, Cl 86 [iv a.Train, iv a.On, iv a.Off])] R rfl<|t_out2 [_, _, _, _, _] [_, _, _] [(h, Cl 86 [iv a.Train, iv a.On, iv a.Off])] f R rfl<|Tv #[] #[pb q, pb r, pb y, pb z, pb s] [.slice (some ⟨h, 0, none⟩) ([a]).length 1] rfl rfl call78 rfl (cGuideNetLeastOf_1 J _ _ u.Day.Trains u.Day.Turns u.least j.Dep j.Arr j.Rides x9 [a] t q r y z s A2 c3 A5 c6 (some ⟨h, 0, none⟩) 1 [(h, Cl 86 [iv a.Train, iv a.On, iv a.Off])] H f (h4.le (g.trans (d.trans (e.trans c)))) (h7.le (g.trans (d.trans (e.trans c)))) aj ⟨nofun, nofun⟩ (I.le (e.trans c)) B X o) ?_
 rintro _ aw _ i ⟨C, D, l, m, rfl, rfl, ak, Y, al⟩
 refine t_in2 [_, _, _, _, _] [_, _, _] l m R rfl<|aS rfl<|Te<|Cr<|mV rfl<|tS (st_neqnil_z rfl rfl Y sl31)<|Te ?_
 refine cM hm rfl (fun hm => ?_) fun hm => ?_
 refine Cr<|mV rfl<|tS (sB (v := .agg #[sv C B D]) [(0, sv C B D)] rfl (fun _ => by kernel_rfl))<|tD (uN (vs := [_]) 7 1 rfl rfl rfl siz33 rfl (mc rfl mn) rfl (by simp)) ?_
 rintro _ _ rfl
 refine Te<|Ct<|Xb<|x_leaveR 5 rfl (c.trans i)<|Ct<|Xb<|Xr ?_
 have ac := E _ (Option.some.inj hm).symm
 rw [ac] at n
 have hm := elimR n
 obtain rfl := o1 hm
 exact rM (rs := [.cell 8 33]) (vs := [.agg #[sv C B D]]) ⟨⟨_, rfl, fun w ho => cell_agg (vs := [_]) 6 1 agg33 rfl rfl rfl w ho⟩, trivial⟩ ⟨C, D, l, rfl, rfl, ak, Y⟩ (.cons _ (.cons _ (.cons _ (.cons _ (.cons _ (.cons _ (.cons _ (sp l (ss m (.refl _)))))))))) (g.trans (d.trans (e.trans (c.trans i))))
 refine Ck<|Xm<|Xp 3 rfl<|Xp 3 rfl<|Xp 4 rfl<|Xp 7 rfl<|Xp 5 rfl<|Xp 5 rfl<|X2 [_, _, _, _, _, _, _, _] l m R rfl ?_
 exact x_round 6 rfl (c.trans i) (.cons_cons _ (.cons_cons _ (.cons_cons _ (.cons_cons _ (.cons_cons _ (.cons_cons _ (.cons _ (sp m (ss l (.refl _)))))))))) ⟨X, (Option.some.inj hm).symm, ⟨m, rfl, (d.trans (e.trans (c.trans i))), al⟩⟩
 exact Rn
 rintro t A _ ⟨f, rfl, d, I⟩ ad
 rw [ad] at n
 have hm := elimL n
 refine Xm<|Xn<|Cr<|tS (sB (v := .agg #[sn]) [] rfl (fun _ => by kernel_rfl))<|tD (uN (vs := [_]) 2 1 rfl rfl rfl siz33 rfl (mc rfl mn) rfl (by simp)) ?_
 rintro _ _ rfl
 refine Te<|Ct ?_
 obtain rfl := o1 hm
 exact rM (rs := [.cell 8 33]) (vs := [.agg #[sn]]) ⟨⟨_, rfl, fun w ho => cell_agg (vs := [_]) 2 1 agg33 rfl rfl rfl w ho⟩, trivial⟩ ⟨none, 0, [], rfl, rfl, OS.nil, ⟨fun _ => rfl, fun _ => rfl⟩⟩ (.cons _ (.cons _ (.cons _ (.cons _ (.cons _ (.cons _ (ss f (.refl _)))))))) (g.trans d)

set_option maxRecDepth 20000 in
theorem cGuideNetEarliest (b : Base) (R : Hp) (j : GuideNet) (G L i H I J K) (h4 : FZ rApiTrain b.w H I j.Day.Trains) (h7 : FZ (RT.list rI) b.w J K j.Day.Turns) (u f) (hm : mGuideNetEarliest j G L i = some (u, f)):
    CallsG Tryd.prog 37 [.agg #[sv H j.Day.Trains I, sv J j.Day.Turns K, iv j.least], iv G, iv L, iv i] b (R) (fun v b' hp' => ∃ n x k, .tuple #[.agg #[sv n f x], bv u] = v ∧ (k ++ R) = hp' ∧ OS 86 (OT.fr rGuideRide) b'.w (sv n f x) f k ∧ (n = none ↔ f = [])) := by
 refine fE 29 Tryd.func37 rfl Tryd.ntmps37 rfl ?_
 unfold mGuideNetEarliest at hm
 refine Cr<|tD (uB _ rfl rfl) ?_
 rintro _ _ ⟨ab, rfl, rfl⟩
 refine tD (uB _ rfl rfl) ?_
 rintro _ _ ⟨O, rfl, rfl⟩
 refine tD (uA [sn] zero33 rfl) ?_
 rintro _ _ ⟨ac, rfl, rfl⟩
 refine aS rfl<|Te<|Cr<|tS (sD (vs := [_, _, _]) 2 3 rfl agg91 rfl rfl rfl)<|mV rfl<|mV rfl ?_
 obtain ⟨y, o, hm⟩ := bS hm
 refine Tg _ rfl call39 rfl (cGuideNetPoints _ _ j G i H I J K h4 h7 y o) ?_
 rintro _ ad _ a ⟨S, T, g, rfl, rfl, U⟩
 refine t_in1 [] [_, _, _] g R rfl<|tS (st_func _ _ rfl rfl) ?_
 obtain ⟨p, q, hm⟩ := bS hm
 refine t_pullb 1 rfl<|t_out1 [_] [_, _] g R rfl<|Tg _ rfl call38 rfl (cSlicesDeleteFunc _ _ L y O S T g U p q) ?_
 rintro _ ae _ c ⟨V, W, h, rfl, rfl, X⟩
 refine t_in1 [_] [_, _] h R rfl<|aS rfl<|Te<|Cs<|Cr<|mV rfl<|tS (sE rfl sl38)<|tS (q1 rfl rfl)<|Te ?_
 refine cI hm rfl (fun hm => ?_) fun hm => ?_
 refine Cr<|tS (sB (v := .agg #[sn]) [] rfl (fun _ => by kernel_rfl))<|tD (uN (vs := [_]) 1 1 rfl rfl rfl siz33 rfl (mc rfl mn) rfl (by simp)) ?_
 rintro _ _ rfl
 refine aS rfl<|Te<|Ct<|Xr ?_
 obtain ⟨rfl, rfl⟩ := some2 hm
 exact rM (rs := [.cell 8 33, .tmp 9]) (vs := [.agg #[sn], bv false]) ⟨⟨_, rfl, fun w ho => cell_agg (vs := [_]) 1 1 agg33 rfl rfl rfl w ho⟩, ⟨rfl, trivial⟩⟩ ⟨none, 0, [], rfl, rfl, OS.nil, ⟨fun _ => rfl, fun _ => rfl⟩⟩ (.cons _ (.cons _ (.cons _ (ss h (.refl _))))) (a.trans c)
 refine Ck<|Xn<|Cr<|mV rfl<|t_frz [_, _, _] h R rfl ?_
 intro af d z
 have Y := OS.frz (l := p) X d.cells z
 obtain ⟨⟨A, B, C⟩, r, hm⟩ := bS hm
 have hm := (unc3E hm)
 refine Tg _ rfl call41 rfl (cSlicesMinFunc _ _ p V W Y A B C r) ?_
 rintro _ ag _ e ⟨rfl, rfl⟩
 refine tD (uA [iv 0, iv 0, iv 0] zero42 rfl) ?_
 rintro _ _ ⟨ah, rfl, rfl⟩
 refine tD (uN (vs := [_, _, _]) 0 3 rfl rfl rfl siz42 rfl (mc rfl (mc rfl (mc rfl mn))) rfl (by simp)) ?_
 rintro _ _ rfl
 refine Te<|Cr<|tS (sD (vs := [_, _, _]) 3 3 rfl agg91 rfl rfl rfl)<|mV rfl<|mV rfl<|tS (sD (vs := [_, _, _]) 0 3 rfl agg42 rfl rfl rfl) ?_
 obtain ⟨D, s, hm⟩ := bS hm
 refine Tg _ rfl call45 rfl (cGuideNetLeastOf _ _ j G i (⟨A, B, C⟩ : GuidePoint) H I J K (h4.le (a.trans (c.trans (d.trans e)))) (h7.le (a.trans (c.trans (d.trans e)))) D s) ?_
 rintro _ ai _ t ⟨E, F, m, rfl, rfl, Z, aa⟩
 refine t_in1 [] [_, _, _, _] m R rfl<|tD (uN (vs := [_]) 2 1 rfl rfl rfl siz33 rfl (mc rfl mn) rfl (by simp)) ?_
 rintro _ _ rfl
 refine aS rfl<|Te<|Ct ?_
 obtain ⟨rfl, rfl⟩ := some2 hm
 exact rM (rs := [.cell 8 33, .tmp 9]) (vs := [.agg #[sv E D F], bv true]) ⟨⟨_, rfl, fun w ho => cell_agg (vs := [_]) 2 1 agg33 rfl rfl rfl w ho⟩, ⟨rfl, trivial⟩⟩ ⟨E, F, m, rfl, rfl, Z, aa⟩ (.cons _ (.cons _ (.cons _ (.cons _ (.refl _))))) (a.trans (c.trans (d.trans (e.trans t))))

set_option maxRecDepth 20000 in
theorem cGuideEarliest (b : Base) (R : Hp) (hG : GOn GT b) (f : ApiDay) (C c j e q r s t) (H : FZ rApiTrain b.w q r f.Trains) (I : FZ (RT.list rI) b.w s t f.Turns) (u g) (hm : mGuideEarliest f C c j e = some (u, g)):
    CallsG Tryd.prog 12 [.agg #[sv q f.Trains r, sv s f.Turns t], iv C, iv c, iv j, iv e] b (R) (fun v b' hp' => ∃ m x k, .tuple #[.agg #[sv m g x], iv u] = v ∧ (k ++ R) = hp' ∧ OS 86 (OT.fr rGuideRide) b'.w (sv m g x) g k ∧ (m = none ↔ g = [])) := by
 refine fE 40 Tryd.func12 rfl Tryd.ntmps12 rfl ?_
 unfold mGuideEarliest at hm
 refine Cr<|tD (uB _ rfl rfl) ?_
 rintro _ _ ⟨J, rfl, rfl⟩
 refine tD (uA [sn] zero33 rfl) ?_
 rintro _ _ ⟨K, rfl, rfl⟩
 refine aS rfl<|Te<|Cs<|Cr<|tS (sD (vs := [_, _]) 1 2 rfl agg25 rfl rfl rfl)<|mV rfl<|mV rfl<|mV rfl<|mV rfl<|tD (u_bslice (el := 3) [(0, iv c)] [iv c] rfl (fun _ => by kernel_rfl)) ?_
 rintro _ _ ⟨a, rfl, rfl⟩
 refine t_seg 0 [_, _] R rfl rfl ?_
 have D : OS 3 (OT.fr rI) b.w (.slice (some ⟨a, 0, none⟩) 1 1) [c] [(a, Cl 3 [iv c])] := OS.lit [[iv c]] rfl ⟨rfl, trivial⟩ rfl (by decide)
 obtain ⟨y, n, hm⟩ := bS hm
 refine tD (uW _ call36 rfl (fun w ho => cGuideCheck_2 _ [] ((hG.le lr).old ho) f e C j [c] q r s t (some ⟨a, 0, none⟩) 1 (H.old ho) (I.old ho) (OS.now (o := (OT.fr rI)) (l := [c]) (hs := [(a, Cl 3 [iv c])]) D ho (.cons _ (.cons _ (List.sublist_append_left _ _)))) y n) (fun _ _ _ h => h.2.symm)) ?_
 rintro _ _ ⟨⟨_, rfl, _⟩, rfl⟩
 refine aS rfl<|Te<|Cr<|mV rfl<|tS (q2 rfl rfl)<|Te ?_
 refine cI hm rfl (fun hm => ?_) fun hm => ?_
 refine Cr<|tS (sB (v := .agg #[sn]) [] rfl (fun _ => by kernel_rfl))<|mV rfl<|tD (uN (vs := [_]) 0 1 rfl rfl rfl siz33 rfl (mc rfl mn) rfl (by simp)) ?_
 rintro _ _ rfl
 refine aS rfl<|Te<|Ct<|Xr ?_
 obtain ⟨rfl, rfl⟩ := some2 hm
 exact rM (rs := [.cell 10 33, .tmp 11]) (vs := [.agg #[sn], iv y]) ⟨⟨_, rfl, fun w ho => cell_agg (vs := [_]) 0 1 agg33 rfl rfl rfl w ho⟩, ⟨rfl, trivial⟩⟩ ⟨none, 0, [], rfl, rfl, OS.nil, ⟨fun _ => rfl, fun _ => rfl⟩⟩ (.cons _ (.cons _ (ss [(a, Cl 3 [iv c])] (.refl _)))) lr
 refine Ck<|Xn<|Cr<|tS (sD (vs := [_, _]) 1 2 rfl agg25 rfl rfl rfl)<|mV rfl<|tS (sB (v := .agg #[sv q f.Trains r, sv s f.Turns t, iv e]) [(0, .agg #[sv q f.Trains r, sv s f.Turns t]), (1, iv e)] rfl (fun _ => by kernel_rfl))<|mV rfl<|mV rfl<|mV rfl ?_
 obtain ⟨⟨E, z⟩, p, hm⟩ := bS hm
 have hm := (unc2E hm)
 refine Tg _ rfl call37 rfl (cGuideNetEarliest _ _ (⟨f, e⟩ : GuideNet) C c j q r s t H I E z p) ?_
 rintro _ L _ i ⟨A, B, d, rfl, rfl, F, G⟩
 refine t_in1 [] [_, _] d ([(a, Cl 3 [iv c])] ++ R) rfl<|mV rfl<|tS (st_extract rfl rfl)<|tS (st_extract rfl rfl)<|tD (uA [sn] zero33 rfl) ?_
 rintro _ _ ⟨O, rfl, rfl⟩
 refine tD (uN (vs := [_]) 0 1 rfl rfl rfl siz33 rfl (mc rfl mn) rfl (by simp)) ?_
 rintro _ _ rfl
 refine aS rfl<|Te<|Cs<|Cr<|mV rfl<|tS (sn2 rfl)<|Te ?_
 refine cM hm rfl (fun hm => ?_) fun hm => ?_
 refine Cr<|tS (sB (v := .agg #[sn]) [] rfl (fun _ => by kernel_rfl))<|tD (uN (vs := [_]) 1 1 rfl rfl rfl siz33 rfl (mc rfl mn) rfl (by simp)) ?_
 rintro _ _ rfl
 refine aS rfl<|Te<|Ct<|Xr ?_
 obtain ⟨rfl, rfl⟩ := some2 hm
 exact rM (rs := [.cell 10 33, .tmp 11]) (vs := [.agg #[sn], iv 9]) ⟨⟨_, rfl, fun w ho => cell_agg (vs := [_]) 1 1 agg33 rfl rfl rfl w ho⟩, ⟨rfl, trivial⟩⟩ ⟨none, 0, [], rfl, rfl, OS.nil, ⟨fun _ => rfl, fun _ => rfl⟩⟩ (.cons _ (.cons _ (.cons _ (ss d (ss [(a, Cl 3 [iv c])] (.refl _)))))) i
 refine Ck<|Xn<|Cr<|tS (sD (vs := [_]) 0 1 rfl agg33 rfl rfl rfl)<|tD (uN (vs := [_]) 1 1 rfl rfl rfl siz33 rfl (mc rfl mn) rfl (by simp)) ?_
 rintro _ _ rfl
 refine aS rfl<|Te<|Ct ?_
 obtain ⟨rfl, rfl⟩ := some2 hm
 exact rM (rs := [.cell 10 33, .tmp 11]) (vs := [.agg #[sv A z B], iv 0]) ⟨⟨_, rfl, fun w ho => cell_agg (vs := [_]) 1 1 agg33 rfl rfl rfl w ho⟩, ⟨rfl, trivial⟩⟩ ⟨A, B, d, rfl, rfl, F, G⟩ (.cons _ (.cons _ (.cons _ (sp d (ss [(a, Cl 3 [iv c])] (.refl _)))))) i

set_option maxRecDepth 20000 in
theorem cSlicesEqual (b : Base) (R : Hp) (D J K L O S) (X : FZ rGuideRide b.w K L D) (Z : FZ rGuideRide b.w O S J) (q) (hm : mSlicesEqual D J = some q):
    CallsG Tryd.prog 33 [sv K D L, sv O J S] b (R) (fun v b' hp' => bv q = v ∧ R = hp') := by
 refine fE 26 Tryd.func33 rfl Tryd.ntmps33 rfl ?_
 unfold mSlicesEqual at hm
 refine Cr<|aS rfl<|Te<|Cs<|Cr<|mV rfl<|tS (sE rfl sl31)<|mV rfl<|tS (sE rfl sl31)<|tS (q2 rfl rfl) ?_
 refine Te ?_
 refine cI hm rfl (fun hm => ?_) fun hm => ?_
 refine Cr<|aS rfl<|Te<|Ct<|Xr ?_
 obtain rfl := o1 hm
 exact rO ⟨rfl, rfl⟩ lr
 refine Ck<|Xn<|Cs<|Cr<|mV rfl<|tS (sE rfl sl31)<|mV rfl<|Te<|Cb ?_
 have T : D.length ≤ 9223372036854775807 := (FZ.bd X)
 obtain ⟨Y, s, f⟩ := bS hm
 refine lF (fun r => fun _ => fun h e' hp' => [(0, sv K D L), (1, sv O J S), (12, iv ((D.length : Int))), (13, iv ((r : Int)))] = e' ∧ R = hp' ∧ b.Le h) s ⟨rfl, rfl, lr⟩ ?_ ?_
 rintro r _ h _ _ U E ⟨rfl, rfl, a⟩ e g
 unfold mSlicesEqual_L104 at e
 have hm := e
 refine Cr<|tS (lT rfl rfl (by omega))<|Te<|Cs<|c_cond_t rfl<|Ck<|Xn<|Cs<|Cb<|Cr ?_
 refine mV rfl<|aS rfl<|Te<|Cs ?_
 obtain ⟨c, F, hm⟩ := bS hm
 obtain ⟨d, G, hm⟩ := bS hm
 refine Di mixed (.refl _)<|E0 0 rfl (sM rfl)<|E0 1 rfl (sM rfl) ?_
 obtain ⟨H, t, w⟩ := iS F
 obtain ⟨V, x, l, i, m⟩ := FZ.get (sz := 3) rfl (by decide) (X.le a) w
 obtain ⟨_, _, rfl, rfl, ⟨_, _, rfl, rfl, rfl⟩⟩ := x
 refine E0 2 rfl (sI H rfl rfl t m i sl31)<|Es 3 rfl (sP (vs := [iv c.Train, iv c.On, iv c.Off]) 3 rfl agg86 i rfl (fun j u hu => l j u hu))<|E0 4 rfl (sM rfl)<|E0 5 rfl (sM rfl) ?_
 obtain ⟨I, y, z⟩ := iS G
 obtain ⟨W, A, n, k, o⟩ := FZ.get (sz := 3) rfl (by decide) (Z.le a) z
 obtain ⟨_, _, rfl, rfl, ⟨_, _, rfl, rfl, rfl⟩⟩ := A
 refine E0 6 rfl (sI I rfl rfl y o k sl31)<|Es 7 rfl (sP (vs := [iv d.Train, iv d.On, iv d.Off]) 3 rfl agg86 k rfl (fun j u hu => n j u hu))<|E0 8 rfl (st_neqA (xs := [iv c.Train, iv c.On, iv c.Off]) (ys := [iv d.Train, iv d.On, iv d.Off]) (p := c.Train = d.Train ∧ c.On = d.On ∧ c.Off = d.Off) rfl rfl eqt86 ⟨⟨_, rfl⟩, ⟨⟨_, rfl⟩, ⟨⟨_, rfl⟩, trivial⟩⟩⟩ ⟨⟨_, rfl⟩, ⟨⟨_, rfl⟩, ⟨⟨_, rfl⟩, trivial⟩⟩⟩ (by simp [eqCells, eqCell, Bool.decide_and, beq_dec]))<|Eo<|Dd (by kernel_rfl)<|Xn ?_
 refine cN hm rfl (fun hm => ?_) fun hm => ?_
 refine Cr<|aS rfl<|Te<|Ct<|Xb<|Xr<|Xr<|Xb<|Xr ?_
 have B := g _ (Option.some.inj hm).symm
 rw [B] at f
 have hm := elimR f
 obtain rfl := o1 hm
 exact rO ⟨rfl, rfl⟩ a
 refine Ck<|Xm<|Xn<|Cg<|tS (sa rfl rfl (by omega))<|mV rfl<|Tn ?_
 exact jM hm ⟨rfl, rfl, (a)⟩
 rintro _ h _ _ ⟨rfl, rfl, a⟩ C
 rw [C] at f
 have hm := elimL f
 refine Cr<|tS (lF rfl rfl (by omega))<|Te<|Cs<|c_cond_f rfl<|Ce<|Xe<|Xe<|Xo<|Xn ?_
 refine Cr<|aS rfl<|Te<|Ct ?_
 obtain rfl := o1 hm
 exact rO ⟨rfl, rfl⟩ a

set_option maxRecDepth 20000 in
theorem cFishkeep2Guides (b : Base) (R : Hp) (hG : GOn GT b) (z) (hm : mFishkeep2Guides = some z):
    CallsG Tryd.prog 8 [] b (R) (fun v b' hp' => bv z = v ∧ R = hp') := by
 refine fE 26 Tryd.func8 rfl Tryd.ntmps8 rfl ?_
 unfold mFishkeep2Guides at hm
 refine Cr<|aS rfl<|Te<|Cr<|tS (sB (v := .agg #[iv 0, iv 0, iv 5, iv 5]) [(2, iv 5), (3, iv 5)] rfl (fun _ => by kernel_rfl))<|tS (sB (v := .agg #[iv 1, iv 0, iv 9, iv 9]) [(0, iv 1), (2, iv 9), (3, iv 9)] rfl (fun _ => by kernel_rfl))<|tD (u_bslice (el := 83) [(0, .agg #[iv 0, iv 0, iv 5, iv 5]), (1, .agg #[iv 1, iv 0, iv 9, iv 9])] [iv 0, iv 0, iv 5, iv 5, iv 1, iv 0, iv 9, iv 9] rfl (fun _ => by kernel_rfl)) ?_
 rintro _ _ ⟨a, rfl, rfl⟩
 refine tD (u_bslice (el := 3) [(0, iv 0)] [iv 0] rfl (fun _ => by kernel_rfl)) ?_
 rintro _ _ ⟨c, rfl, rfl⟩
 refine t_seg 0 [_] R rfl rfl ?_
 have I : OS 3 (OT.fr rI) b.w (.slice (some ⟨c, 0, none⟩) 1 1) [0] [(c, Cl 3 [iv 0])] := OS.lit [[iv 0]] rfl ⟨rfl, trivial⟩ rfl (by decide)
 refine tD (u_bslice (el := 49) [(0, .slice (some ⟨c, 0, none⟩) ([0]).length 1)] [.slice (some ⟨c, 0, none⟩) ([0]).length 1] rfl (fun _ => by kernel_rfl)) ?_
 rintro _ _ ⟨d, rfl, rfl⟩
 refine tS (sB (v := .agg #[iv 1, iv 0, .slice (some ⟨a, 0, none⟩) 2 2, .slice (some ⟨d, 0, none⟩) 1 1]) [(0, iv 1), (2, .slice (some ⟨a, 0, none⟩) 2 2), (3, .slice (some ⟨d, 0, none⟩) 1 1)] rfl (fun _ => by kernel_rfl))<|t_seg 1 [_] ([(c, Cl 3 [iv 0])] ++ R) rfl rfl ?_
 have J : OS 83 (OT.fr rApiStop) b.w (.slice (some ⟨a, 0, none⟩) 2 2) [(⟨0, 0, 5, 5⟩ : ApiStop), (⟨1, 0, 9, 9⟩ : ApiStop)] [(a, Cl 83 [iv 0, iv 0, iv 5, iv 5, iv 1, iv 0, iv 9, iv 9])] := OS.lit [[iv 0, iv 0, iv 5, iv 5], [iv 1, iv 0, iv 9, iv 9]] rfl ⟨⟨[iv 0], _, rfl, rfl, ⟨[iv 0], _, rfl, rfl, ⟨[iv 5], _, rfl, rfl, rfl⟩⟩⟩, ⟨⟨[iv 1], _, rfl, rfl, ⟨[iv 0], _, rfl, rfl, ⟨[iv 9], _, rfl, rfl, rfl⟩⟩⟩, trivial⟩⟩ rfl (by decide)
 have K : (((some ⟨a, 0, none⟩) : OA) = none ↔ [(⟨0, 0, 5, 5⟩ : ApiStop), (⟨1, 0, 9, 9⟩ : ApiStop)] = []) := ⟨nofun, nofun⟩
 refine t_frz [_] [(a, Cl 83 [iv 0, iv 0, iv 5, iv 5, iv 1, iv 0, iv 9, iv 9])] ([(c, Cl 3 [iv 0])] ++ R) rfl ?_
 intro af e A
 have L := OS.frz (l := [(⟨0, 0, 5, 5⟩ : ApiStop), (⟨1, 0, 9, 9⟩ : ApiStop)]) J e.cells A
 have O : (((some ⟨c, 0, none⟩) : OA) = none ↔ [0] = []) := ⟨nofun, nofun⟩
 refine t_frz [_] [(c, Cl 3 [iv 0])] R rfl ?_
 intro S f B
 have T := OS.frz (l := [0]) (I.le e) f.cells B
 refine t_seg 0 [] R rfl rfl ?_
 have U : OS 49 (OT.fr (RT.list rI)) S.w (.slice (some ⟨d, 0, none⟩) 1 1) [[0]] [(d, Cl 49 [.slice (some ⟨c, 0, none⟩) ([0]).length 1])] := OS.lit [[.slice (some ⟨c, 0, none⟩) ([0]).length 1]] rfl ⟨(RT.list_mk T), trivial⟩ rfl (by decide)
 refine t_frz [] [(d, Cl 49 [.slice (some ⟨c, 0, none⟩) ([0]).length 1])] R rfl ?_
 intro V g C
 have W := OS.frz (l := [[0]]) U g.cells C
 refine tD (u_bslice (el := 47) [(0, .agg #[iv 1, iv 0, .slice (some ⟨a, 0, none⟩) ([(⟨0, 0, 5, 5⟩ : ApiStop), (⟨1, 0, 9, 9⟩ : ApiStop)]).length 2, .slice (some ⟨d, 0, none⟩) ([[0]]).length 1])] [iv 1, iv 0, .slice (some ⟨a, 0, none⟩) ([(⟨0, 0, 5, 5⟩ : ApiStop), (⟨1, 0, 9, 9⟩ : ApiStop)]).length 2, .slice (some ⟨d, 0, none⟩) ([[0]]).length 1] rfl (fun _ => by kernel_rfl)) ?_
 rintro _ _ ⟨m, rfl, rfl⟩
 refine tS (sB (v := .agg #[.slice (some ⟨m, 0, none⟩) 1 1, sn]) [(0, .slice (some ⟨m, 0, none⟩) 1 1)] rfl (fun _ => by kernel_rfl))<|tD (uA [sn, sn] zero25 rfl) ?_
 rintro _ _ ⟨ag, rfl, rfl⟩
 refine t_seg 1 [_] R rfl rfl ?_
 have X : OS 47 (OT.fr rApiTrain) V.w (.slice (some ⟨m, 0, none⟩) 1 1) [(⟨1, 0, [(⟨0, 0, 5, 5⟩ : ApiStop), (⟨1, 0, 9, 9⟩ : ApiStop)], [[0]]⟩ : ApiTrain)] [(m, Cl 47 [iv 1, iv 0, .slice (some ⟨a, 0, none⟩) ([(⟨0, 0, 5, 5⟩ : ApiStop), (⟨1, 0, 9, 9⟩ : ApiStop)]).length 2, .slice (some ⟨d, 0, none⟩) ([[0]]).length 1])] := OS.lit [[iv 1, iv 0, .slice (some ⟨a, 0, none⟩) ([(⟨0, 0, 5, 5⟩ : ApiStop), (⟨1, 0, 9, 9⟩ : ApiStop)]).length 2, .slice (some ⟨d, 0, none⟩) ([[0]]).length 1]] rfl ⟨⟨[iv 1], _, rfl, rfl, ⟨[iv 0], _, rfl, rfl, ⟨[.slice (some ⟨a, 0, none⟩) ([(⟨0, 0, 5, 5⟩ : ApiStop), (⟨1, 0, 9, 9⟩ : ApiStop)]).length 2], _, rfl, (RT.list_mk (L.le (f.trans g))), (RT.list_mk W)⟩⟩⟩, trivial⟩ rfl (by decide)
 refine tD (uN (vs := [_, _]) 0 2 rfl rfl rfl siz25 rfl (mc rfl (mc rfl mn)) rfl (by simp)) ?_
 rintro _ _ rfl
 refine Te<|Cr<|tS (sD (vs := [_, _]) 0 2 rfl agg25 rfl rfl rfl)<|t_frz [_] [(m, Cl 47 [iv 1, iv 0, .slice (some ⟨a, 0, none⟩) ([(⟨0, 0, 5, 5⟩ : ApiStop), (⟨1, 0, 9, 9⟩ : ApiStop)]).length 2, .slice (some ⟨d, 0, none⟩) ([[0]]).length 1])] R rfl ?_
 intro ah j D
 have Y := OS.frz (l := [(⟨1, 0, [(⟨0, 0, 5, 5⟩ : ApiStop), (⟨1, 0, 9, 9⟩ : ApiStop)], [[0]]⟩ : ApiTrain)]) X j.cells D
 obtain ⟨⟨Z, s⟩, t, hm⟩ := bS hm
 have hm := (unc2E hm)
 refine Tg _ rfl call12 rfl (cGuideEarliest _ _ (hG.le (e.trans (f.trans (g.trans j)))) (⟨[(⟨1, 0, [(⟨0, 0, 5, 5⟩ : ApiStop), (⟨1, 0, 9, 9⟩ : ApiStop)], [[0]]⟩ : ApiTrain)], []⟩ : ApiDay) 0 0 1 0 (some ⟨m, 0, none⟩) 1 none 0 Y FZ.nil Z s t) ?_
 rintro _ E _ u ⟨aa, ab, n, rfl, rfl, ac, ad⟩
 refine t_in1 [] [_] n R rfl<|mV rfl<|tS (st_extract rfl rfl)<|tS (st_extract rfl rfl)<|tD (uA [sn] zero33 rfl) ?_
 rintro _ _ ⟨ae, rfl, rfl⟩
 refine tD (uN (vs := [_]) 0 1 rfl rfl rfl siz33 rfl (mc rfl mn) rfl (by simp)) ?_
 rintro _ _ rfl
 refine aS rfl<|Te ?_
 obtain ⟨F, x, y⟩ := bS hm
 refine Cj (fun r e' hp' => [(0, bv F)] = e' ∧ R = hp' ∧ E.Le r) ?_ ?_
 have hm := x
 refine Cg<|mV rfl ?_
 refine Tb rfl (q1 rfl rfl) (fun k => ?_) (fun k => ?_)
 rw [if_pos k] at hm
 refine mV rfl<|yS<|tS (sF rfl fld33_0)<|yS<|tS (sL 0 rfl one31 rfl rfl)<|yS<|tS (sB (v := .agg #[iv 0, iv 0, iv 1]) [(0, iv 0), (1, iv 0), (2, iv 1)] rfl (fun _ => by kernel_rfl))<|yS<|tD (u_bslice (el := 86) [(0, .agg #[iv 0, iv 0, iv 1])] [iv 0, iv 0, iv 1] rfl (fun _ => by kernel_rfl)) ?_
 rintro _ _ ⟨i, rfl, rfl⟩
 refine yS<|t_seg 0 [_, _] (n ++ R) rfl rfl ?_
 have G : OS 86 (OT.fr rGuideRide) E.w (.slice (some ⟨i, 0, none⟩) 1 1) [(⟨0, 0, 1⟩ : GuideRide)] [(i, Cl 86 [iv 0, iv 0, iv 1])] := OS.lit [[iv 0, iv 0, iv 1]] rfl ⟨⟨[iv 0], _, rfl, rfl, ⟨[iv 0], _, rfl, rfl, rfl⟩⟩, trivial⟩ rfl (by decide)
 obtain ⟨H, p, hm⟩ := bS hm
 refine tD (uW _ call33 rfl (fun w ho => cSlicesEqual _ [] s [(⟨0, 0, 1⟩ : GuideRide)] aa ab (some ⟨i, 0, none⟩) 1 (OS.now (o := (OT.fr rGuideRide)) (l := s) (hs := n) ac ho (.cons _ (.cons _ (ss [(i, Cl 86 [iv 0, iv 0, iv 1])] (List.sublist_append_left _ _))))) (OS.now (o := (OT.fr rGuideRide)) (l := [(⟨0, 0, 1⟩ : GuideRide)]) (hs := [(i, Cl 86 [iv 0, iv 0, iv 1])]) G ho (.cons _ (.cons _ (List.sublist_append_left _ _)))) H p) (fun _ _ _ h => h.2.symm)) ?_
 rintro _ _ ⟨⟨_, rfl, _⟩, rfl⟩
 refine tS (pT rfl rfl)<|aS rfl<|Tn ?_
 obtain rfl := o1 hm
 exact jJ ⟨rfl, rfl, lr⟩
 rw [if_neg k] at hm
 refine mV rfl<|nO<|nO<|nO<|nO<|nO<|tS (pF rfl rfl)<|aS rfl<|Tn ?_
 obtain rfl := o1 hm
 exact jJ ⟨rfl, rfl, lr⟩
 rintro r _ _ ⟨rfl, rfl, q⟩
 have hm := y
 refine Ct ?_
 obtain rfl := o1 hm
 exact rO ⟨rfl, rfl⟩ (e.trans (f.trans (g.trans (j.trans (u.trans q)))))

set_option maxRecDepth 20000 in
theorem cSlicesIndex (b : Base) (R : Hp) (i s t u) (x : FZ RT.bool b.w t u i) (j) (hm : mSlicesIndex i s = some j):
    CallsG Tryd.prog 105 [sv t i u, bv s] b (R) (fun v b' hp' => iv j = v ∧ R = hp') := by
 refine fE 19 Tryd.func105 rfl Tryd.ntmps105 rfl ?_
 unfold mSlicesIndex at hm
 refine Cr<|aS rfl<|Te<|Cs<|Cr<|mV rfl<|tS (sE rfl sl117)<|mV rfl<|Te<|Cb ?_
 have y : i.length ≤ 9223372036854775807 := (FZ.bd x)
 obtain ⟨C, k, d⟩ := bS hm
 refine lF (fun l => fun _ => fun f e' hp' => [(0, sv t i u), (1, bv s), (7, iv ((i.length : Int))), (8, iv ((l : Int)))] = e' ∧ R = hp' ∧ b.Le f) k ⟨rfl, rfl, lr⟩ ?_ ?_
 rintro l _ f _ _ z r ⟨rfl, rfl, a⟩ c e
 unfold mSlicesIndex_L39 at c
 have hm := c
 refine Cr<|tS (lT rfl rfl (by omega))<|Te<|Cs<|c_cond_t rfl<|Ck<|Xn<|Cs<|Cb<|Cr ?_
 refine mV rfl<|aS rfl<|Te<|Cr<|mV rfl<|mV rfl<|mV rfl ?_
 obtain ⟨D, w, A, m, B, n, g, o, h, hm⟩ := bF (sz := 1) hm (x.le a)
 obtain rfl := n
 refine tS (sI w rfl rfl m h o sl117)<|tS (sO rfl one4 (g 0 _ rfl))<|tS (st_beql rfl rfl boo4)<|Te ?_
 refine cB hm rfl (fun hm => ?_) fun hm => ?_
 refine Cr<|mV rfl<|aS rfl<|Te<|Ct<|Xb<|Xr<|Xr<|Xb<|Xr ?_
 have p := e _ (Option.some.inj hm).symm
 rw [p] at d
 have hm := elimR d
 obtain rfl := o1 hm
 exact rO ⟨rfl, rfl⟩ a
 refine Ck<|Xm<|Xn<|Cg<|tS (sa rfl rfl (by omega))<|mV rfl<|Tn ?_
 exact jM hm ⟨rfl, rfl, (a)⟩
 rintro _ f _ _ ⟨rfl, rfl, a⟩ q
 rw [q] at d
 have hm := elimL d
 refine Cr<|tS (lF rfl rfl (by omega))<|Te<|Cs<|c_cond_f rfl<|Ce<|Xe<|Xe<|Xo<|Xn ?_
 refine Cr<|aS rfl<|Te<|Ct ?_
 obtain rfl := o1 hm
 exact rO ⟨rfl, rfl⟩ a

set_option maxRecDepth 20000 in
theorem cGuideDeskPromises_2 (b : Base) (R : Hp) (A B H I g z J K L O S A3 c4 k A8 c9 m) (aX : FZ rApiTrain b.w K L A) (aY : FZ (RT.list rI) b.w O S B) (h5 : OS 119 oGuidePromise0 b.w (sv A3 g c4) g k) (aD : (A3 = none ↔ g = [])) (aZ : OS 68 (OT.fr rGuideMessage) b.w (sv A8 z c9) z m) (t) (hm : mGuideDeskPromises_2 A B H I g z = some t):
    CallsG Tryd.prog 22 [pb J] b ((J, Cl 116 [sv K A L, sv O B S, iv H, iv I, sv A3 g c4, sv A8 z c9]) :: (k ++ (m ++ R))) (fun v b' hp' => ∃ W X C, sv W t X = v ∧ (J, Cl 116 [sv K A L, sv O B S, iv H, iv I, sv A3 g c4, sv A8 z c9]) :: (C ++ (k ++ (m ++ R))) = hp' ∧ OS 71 (OT.fr rGuidePromise) b'.w (sv W t X) t C) := by
 refine fE 30 Tryd.func22 rfl Tryd.ntmps22 rfl ?_
 unfold mGuideDeskPromises_2 at hm
 refine Cr<|aS rfl<|Te<|Cr<|aS rfl<|Te<|Cs<|Cr<|mV rfl<|tS (sN rfl) ?_
 refine tS (sF rfl fld116_2)<|tS (sL 0 rfl one114 rfl rfl)<|tS (sE rfl sl114)<|mV rfl<|Te<|Cb ?_
 have aE : g.length ≤ 9223372036854775807 := (OS.len h5)
 refine c_front2 [_] k m R rfl<|c_front2 [_] m k R rfl ?_
 obtain ⟨h, ac, ad⟩ := bS hm
 refine lS (fun Y => fun h => fun x e' hp' => ∃ o p c, [(3, sv o h p), (10, sv A3 g c4), (11, iv ((g.length : Int))), (12, iv ((Y : Int)))] = e' ∧ (J, Cl 116 [sv K A L, sv O B S, iv H, iv I, sv A3 g c4, sv A8 z c9]) :: (c ++ (k ++ (m ++ R))) = hp' ∧ b.Le x ∧ OS 71 (OT.fr rGuidePromise) x.w (sv o h p) h c) ac ⟨none, 0, [], rfl, rfl, lr, OS.nil⟩ ?_ ?_
 rintro Y h x _ _ aF aj ⟨o, p, c, rfl, rfl, e, D⟩ f
 unfold mGuideDeskPromises_2_L207 at f
 have hm := f
 refine Cr<|tS (lT rfl rfl (by omega))<|Te<|Cs<|c_cond_t rfl<|Ck<|Xn<|Cs<|Cb<|Cr ?_
 obtain ⟨a, ak, hm⟩ := bS hm
 obtain ⟨al, ae, af⟩ := iS ak
 obtain ⟨aG, aH, aM, aN, aI, ag, T, E, U, _, _⟩ := OS.get (sz := 11) rfl (by decide) (h5.le e) af
 obtain ⟨_, _, rfl, ⟨_, _, rfl, rfl, ⟨_, _, rfl, rfl, ⟨_, _, rfl, rfl, ⟨_, _, rfl, rfl, ⟨_, _, rfl, rfl, ⟨Z, aa, rfl, am⟩⟩⟩⟩⟩⟩, ⟨_, _, aJ, _, rfl, ⟨aO, rfl, an⟩, ⟨_, _, aK, aL, rfl, ⟨aP, rfl, ao⟩, ⟨_, _, rfl, ⟨aQ, rfl, aq⟩, ⟨_, _, rfl, rfl, rfl⟩⟩, rfl⟩, rfl⟩⟩ := ag
 obtain ⟨ar, au, rfl, _⟩ := an.form
 obtain ⟨av, aw, rfl, _⟩ := ao.form
 obtain ⟨ax, ay, rfl, _⟩ := aq.form
 refine tS (sI al rfl rfl ae U E sl114)<|tS (st_loadN_rd (vs := [iv a.Promise.From, iv a.Promise.To, iv a.Promise.Dep, iv a.Promise.Arr, iv a.Promise.State, sv Z a.Promise.Journey.Rides aa, sv ar a.over au, sv av a.arrived aw, sv ax a.ends ay, iv a.station, iv a.when]) 11 rfl agg119 E rfl (fun w ho j u hu => T w _ ho (.cons _ (ss c (List.sublist_append_left _ _))) j u hu))<|tD (uA [iv 0, iv 0, iv 0, iv 0, iv 0, sn, sn, sn, sn, iv 0, iv 0] zero119 rfl) ?_
 rintro _ _ ⟨aR, rfl, rfl⟩
 refine tD (uN (vs := [_, _, _, _, _, _, _, _, _, _, _]) 0 11 rfl rfl rfl siz119 rfl (mc rfl (mc rfl (mc rfl (mc rfl (mc rfl (mc rfl (mc rfl (mc rfl (mc rfl (mc rfl (mc rfl mn))))))))))) rfl (by simp)) ?_
 rintro _ _ rfl
 refine Te<|Cr<|tS (sF rfl fld119_0)<|tS (sD (vs := [_, _, _, _, _, _]) 0 6 rfl agg71 rfl rfl rfl)<|tD (uA [iv 0, iv 0, iv 0, iv 0, iv 0, sn] zero71 rfl) ?_
 rintro _ _ ⟨aT, rfl, rfl⟩
 refine tD (uN (vs := [_, _, _, _, _, _]) 0 6 rfl rfl rfl siz71 rfl (mc rfl (mc rfl (mc rfl (mc rfl (mc rfl (mc rfl mn)))))) rfl (by simp)) ?_
 rintro _ _ rfl
 refine Te<|Cr<|tS (sF rfl fld71_5)<|tS (sF rfl fld33_0)<|tS (sL 0 rfl one31 rfl rfl) ?_
 obtain ⟨d, V, hm⟩ := bS hm
 refine Tg _ rfl call56 rfl (cSlicesClone_5 _ _ a.Promise.Journey.Rides Z aa am d V) ?_
 rintro _ aU _ y ⟨q, s, F, rfl, rfl, az⟩
 refine t_in1 [] [_, _, _] F (c ++ (k ++ (m ++ R))) rfl<|tS (sB (v := .agg #[sv q d s]) [(0, sv q d s)] rfl (fun _ => by kernel_rfl))<|tS (sF rfl fld71_5)<|tD (uN (vs := [_]) 0 1 rfl rfl rfl siz33 rfl (mc rfl mn) rfl (by simp)) ?_
 rintro _ _ rfl
 refine Te<|Cg<|mV rfl<|tS (sD (vs := [_, _, _, _, _, _]) 0 6 rfl agg71 rfl rfl rfl)<|t_frz [_, _, _] F (c ++ (k ++ (m ++ R))) rfl ?_
 intro aV n ah
 have aA := OS.frz (l := d) az n.cells ah
 refine tD (u_bslice (el := 71) [(0, .agg #[iv a.Promise.From, iv a.Promise.To, iv a.Promise.Dep, iv a.Promise.Arr, iv a.Promise.State, sv q d s])] [iv a.Promise.From, iv a.Promise.To, iv a.Promise.Dep, iv a.Promise.Arr, iv a.Promise.State, sv q d s] rfl (fun _ => by kernel_rfl)) ?_
 rintro _ _ ⟨aW, rfl, rfl⟩
 obtain ⟨_, G, hm⟩ := bS hm
 have G := room_some G
 refine tD (uQ (r := rGuidePromise) (l := h) [_, _, _, _] (k ++ (m ++ R)) [[iv a.Promise.From, iv a.Promise.To, iv a.Promise.Dep, iv a.Promise.Arr, iv a.Promise.State, sv q d s]] [(⟨a.Promise.From, a.Promise.To, a.Promise.Dep, a.Promise.Arr, a.Promise.State, (⟨d⟩ : GuideJourney)⟩ : GuidePromise)] rfl (by decide) sl59 inf71 rfl rfl rfl rfl (D.le (y.trans n)) rfl (fun w ho => Rd.own (i := 0) ho rfl) ⟨⟨[iv a.Promise.From], _, rfl, rfl, ⟨[iv a.Promise.To], _, rfl, rfl, ⟨[iv a.Promise.Dep], _, rfl, rfl, ⟨[iv a.Promise.Arr], _, rfl, rfl, ⟨[iv a.Promise.State], _, rfl, rfl, (RT.list_mk aA)⟩⟩⟩⟩⟩, trivial⟩ G) ?_
 rintro _ _ ⟨ai, rfl, ab⟩
 obtain ⟨aB, aC, rfl, _⟩ := ab.form
 refine aS rfl<|Tn<|Xm<|Xn<|Cg<|tS (sa rfl rfl (by omega))<|mV rfl<|Tn ?_
 obtain rfl := o1 hm
 exact jS ⟨aB, aC, ai, rfl, rfl, ((e.trans (y.trans n))), ab⟩
 rintro x _ _ ⟨o, p, c, rfl, rfl, e, D⟩
 have hm := ad
 refine Cr<|tS (lF rfl rfl (by omega))<|Te<|Cs<|c_cond_f rfl<|Ce<|Xe<|Xe<|Xo<|Xn ?_
 refine Cr<|mV rfl<|aS rfl<|Te<|Ct ?_
 obtain rfl := o1 hm
 exact rO ⟨o, p, c, rfl, rfl, D⟩ e

set_option maxRecDepth 20000 in
theorem cFishkeep2Honest (b : Base) (R : Hp) (l4 H h A A1 c2 A5 c6 A9 s) (h3 : FZ rGuidePromise b.w A1 c2 l4) (h7 : FZ rGuidePromise b.w A5 c6 H) (aQ : FZ rGuideMessage b.w A9 s h) (ao) (hm : mFishkeep2Honest l4 H h A = some ao):
    CallsG Tryd.prog 24 [sv A1 l4 c2, sv A5 H c6, sv A9 h s, iv A] b (R) (fun v b' hp' => bv ao = v ∧ R = hp') := by
 refine fE 94 Tryd.func24 rfl Tryd.ntmps24 rfl ?_
 unfold mFishkeep2Honest at hm
 refine Cr<|aS rfl<|Te<|Cs<|Cr<|mV rfl<|tS (sE rfl sl59)<|mV rfl<|tS (sE rfl sl59)<|tS (q2 rfl rfl) ?_
 refine Te ?_
 refine cI hm rfl (fun hm => ?_) fun hm => ?_
 refine Cr<|aS rfl<|Te<|Ct<|Xr ?_
 obtain rfl := o1 hm
 exact rO ⟨rfl, rfl⟩ lr
 refine Ck<|Xn<|Cs<|Cr<|mV rfl<|tS (sE rfl sl59)<|mV rfl<|Te<|Cb ?_
 have a4 : H.length ≤ 9223372036854775807 := (FZ.bd h7)
 obtain ⟨bi, aw, i⟩ := bS hm
 refine lF (fun f => fun _ => fun I e' hp' => [(0, sv A1 l4 c2), (2, sv A9 h s), (3, iv A), (20, sv A5 H c6), (21, iv ((H.length : Int))), (22, iv ((f : Int)))] = e' ∧ R = hp' ∧ b.Le I) aw ⟨rfl, rfl, lr⟩ ?_ ?_
 rintro f _ I _ _ a5 aR ⟨rfl, rfl, c⟩ l q
 unfold mFishkeep2Honest_L517 at l
 have hm := l
 refine Cr<|tS (lT rfl rfl (by omega))<|Te<|Cs<|c_cond_t rfl<|Ck<|Xn<|Cs<|Cb<|Cr ?_
 refine mV rfl ?_
 obtain ⟨a, aT, a6, ax, a7, ay, ad, U, ae, hm⟩ := bF (sz := 6) hm (h7.le c)
 obtain ⟨_, _, rfl, rfl, ⟨_, _, rfl, rfl, ⟨_, _, rfl, rfl, ⟨_, _, rfl, rfl, ⟨_, _, rfl, rfl, ⟨J, K, rfl, bj⟩⟩⟩⟩⟩⟩ := ay
 refine tS (sI aT rfl rfl ax ae U sl59)<|tS (sP (vs := [iv a.From, iv a.To, iv a.Dep, iv a.Arr, iv a.State, sv J a.Journey.Rides K]) 6 rfl agg71 U rfl (fun j u hu => ad j u hu))<|tD (uA [iv 0, iv 0, iv 0, iv 0, iv 0, sn] zero71 rfl) ?_
 rintro _ _ ⟨r, rfl, rfl⟩
 refine aS rfl<|tD (uN (vs := [_, _, _, _, _, _]) 0 6 rfl rfl rfl siz71 rfl (mc rfl (mc rfl (mc rfl (mc rfl (mc rfl (mc rfl mn)))))) rfl (by simp)) ?_
 rintro _ _ rfl
 refine Te<|Cr<|aS rfl<|Te<|Cs<|Cr<|mV rfl<|tS (sE rfl sl58)<|mV rfl<|Te ?_
 refine Cb ?_
 have a8 : h.length ≤ 9223372036854775807 := (FZ.bd (aQ.le c))
 obtain ⟨bk, az, t⟩ := bS hm
 refine lF (fun V => fun m => fun y e' hp' => [(0, sv A1 l4 c2), (2, sv A9 h s), (3, iv A), (9, iv ((f : Int))), (10, pb r), (11, iv m), (20, sv A5 H c6), (21, iv ((H.length : Int))), (22, iv ((f : Int))), (27, sv A9 h s), (28, iv ((h.length : Int))), (29, iv ((V : Int)))] = e' ∧ (r, Cl 71 [iv a.From, iv a.To, iv a.Dep, iv a.Arr, iv a.State, sv J a.Journey.Rides K]) :: R = hp' ∧ I.Le y) az ⟨rfl, rfl, lr⟩ ?_ ?_
 rintro V m y _ _ a9 aU ⟨rfl, rfl, d⟩ n T
 unfold mFishkeep2Honest_L783 at n
 have hm := n
 refine Cr<|tS (lT rfl rfl (by omega))<|Te<|Cs<|c_cond_t rfl<|Ck<|Xn<|Cs<|Cb<|Cr ?_
 obtain ⟨z, aV, ba, aA, bb, aB, af, W, ag, hm⟩ := bF (sz := 5) hm (aQ.le (c.trans d))
 obtain ⟨_, _, rfl, rfl, ⟨_, _, rfl, rfl, ⟨_, _, rfl, rfl, ⟨_, _, rfl, rfl, rfl⟩⟩⟩⟩ := aB
 refine tS (sI aV rfl rfl aA ag W sl58)<|tS (sP (vs := [iv z.At, iv z.Promise, iv z.Ride, iv z.Kind, iv z.Value]) 5 rfl agg68 W rfl (fun j u hu => af j u hu))<|tD (uA [iv 0, iv 0, iv 0, iv 0, iv 0] zero68 rfl) ?_
 rintro _ _ ⟨bl, rfl, rfl⟩
 refine tD (uN (vs := [_, _, _, _, _]) 0 5 rfl rfl rfl siz68 rfl (mc rfl (mc rfl (mc rfl (mc rfl (mc rfl mn))))) rfl (by simp)) ?_
 rintro _ _ rfl
 refine Te<|Cs<|Cr<|tS (sF rfl fld68_0)<|tS (sL 0 rfl one3 rfl rfl)<|mV rfl<|tS (q2 rfl rfl)<|Te ?_
 refine cI hm rfl (fun hm => ?_) fun hm => ?_
 refine Cr<|aS rfl<|Te<|Ct<|Xr<|Xb<|Xr<|Xr<|Xb<|Xr ?_
 refine Xb<|Xr<|Xr<|Xb<|Xr ?_
 have aC := T _ (Option.some.inj hm).symm
 rw [aC] at t
 have hm := elimR t
 have aD := q _ (Option.some.inj hm).symm
 rw [aD] at i
 have hm := elimR i
 obtain rfl := o1 hm
 exact rO ⟨rfl, rfl⟩ (c.trans d)
 refine Ck<|Xn ?_
 obtain ⟨aW, aE, aF⟩ := bS hm
 refine Cj (fun aq e' hp' => [(0, sv A1 l4 c2), (2, sv A9 h s), (3, iv A), (9, iv ((f : Int))), (10, pb r), (11, iv m), (20, sv A5 H c6), (21, iv ((H.length : Int))), (22, iv ((f : Int))), (27, sv A9 h s), (28, iv ((h.length : Int))), (29, iv ((V : Int))), (50, bv aW)] = e' ∧ (r, Cl 71 [iv a.From, iv a.To, iv a.Dep, iv a.Arr, iv a.State, sv J a.Journey.Rides K]) :: R = hp' ∧ y.Le aq) ?_ ?_
 have hm := aE
 refine Cg<|tS (sF rfl fld68_1)<|tS (sL 0 rfl one3 rfl rfl)<|mV rfl ?_
 refine Tb rfl (q1 rfl rfl) (fun B => ?_) (fun B => ?_)
 rw [if_pos B] at hm
 refine mV rfl<|yS<|tS (sF rfl fld68_3)<|yS<|tS (sL 0 rfl one3 rfl rfl)<|yS ?_
 refine Tb rfl (q1 rfl rfl) (fun C => ?_) (fun C => ?_)
 rw [if_pos C] at hm
 refine yS<|mV rfl<|nO<|nO<|nO<|yS<|tS (pT rfl rfl)<|tS (pT rfl rfl)<|Tn ?_
 obtain rfl := o1 hm
 exact jJ ⟨rfl, rfl, lr⟩
 rw [if_neg C] at hm
 refine yS<|mV rfl<|yS<|tS (sF rfl fld68_3)<|yS<|tS (sL 0 rfl one3 rfl rfl)<|yS<|tS (q1 rfl rfl)<|yS<|tS (pF rfl rfl) ?_
 refine tS (pT rfl rfl)<|Tn ?_
 obtain rfl := o1 hm
 exact jJ ⟨rfl, rfl, lr⟩
 rw [if_neg B] at hm
 refine mV rfl<|nO<|nO<|nO<|nO<|nO<|nO<|nO<|nO<|tS (pF rfl rfl) ?_
 refine Tn ?_
 obtain rfl := o1 hm
 exact jJ ⟨rfl, rfl, lr⟩
 rintro aq _ _ ⟨rfl, rfl, L⟩
 have hm := aF
 refine cB hm rfl (fun hm => ?_) fun hm => ?_
 refine Cg<|mV rfl ?_
 obtain ⟨_, X, hm⟩ := bS hm
 have X := (kS X).2
 refine tS (sa rfl rfl X)<|aS rfl<|Tn<|Xm<|Xn<|Cg<|tS (sa rfl rfl (by omega))<|mV rfl<|Tn ?_
 exact jM hm ⟨rfl, rfl, ((d.trans L))⟩
 refine Ck<|Xm<|Xn<|Cg<|tS (sa rfl rfl (by omega))<|mV rfl<|Tn ?_
 exact jM hm ⟨rfl, rfl, ((d.trans L))⟩
 rintro m y _ _ ⟨rfl, rfl, d⟩ aG
 rw [aG] at t
 have hm := elimL t
 refine Cr<|tS (lF rfl rfl (by omega))<|Te<|Cs<|c_cond_f rfl<|Ce<|Xe<|Xe<|Xo<|Xn ?_
 obtain ⟨ar, aH, aI⟩ := bS hm
 refine Cj (fun Y e' hp' => [(0, sv A1 l4 c2), (2, sv A9 h s), (3, iv A), (9, iv ((f : Int))), (10, pb r), (11, iv m), (14, bv ar), (20, sv A5 H c6), (21, iv ((H.length : Int))), (22, iv ((f : Int)))] = e' ∧ (r, Cl 71 [iv a.From, iv a.To, iv a.Dep, iv a.Arr, iv a.State, sv J a.Journey.Rides K]) :: R = hp' ∧ y.Le Y) ?_ ?_
 have hm := aH
 refine Cg<|tS (sF rfl fld71_4)<|tS (sL 0 rfl one3 rfl rfl) ?_
 refine Tb rfl (q1 rfl rfl) (fun D => ?_) (fun D => ?_)
 rw [if_pos D] at hm
 refine mV rfl<|yS<|mV rfl<|yS<|mV rfl<|yS ?_
 obtain ⟨bm, aX, bc, aJ, bd, aK, ah, Z, ai, hm⟩ := bF (sz := 6) hm (h3.le (c.trans d))
 obtain ⟨_, _, rfl, rfl, ⟨_, _, rfl, rfl, ⟨_, _, rfl, rfl, ⟨_, _, rfl, rfl, ⟨_, _, rfl, rfl, ⟨bn, bo, rfl, bp⟩⟩⟩⟩⟩⟩ := aK
 refine tS (sI aX rfl rfl aJ ai Z sl59)<|yS<|tS (sQ rfl Z fld71_4)<|yS<|tS (sO rfl one3 (ah 4 _ rfl))<|yS<|tS (q2 rfl rfl)<|tS (pT rfl rfl)<|aS rfl<|Tn ?_
 obtain rfl := o1 hm
 exact jJ ⟨rfl, rfl, lr⟩
 rw [if_neg D] at hm
 refine mV rfl<|nO<|nO<|nO<|nO<|nO<|nO<|tS (pF rfl rfl)<|aS rfl<|Tn ?_
 obtain rfl := o1 hm
 exact jJ ⟨rfl, rfl, lr⟩
 rintro Y _ _ ⟨rfl, rfl, g⟩
 have hm := aI
 obtain ⟨aY, aL, aM⟩ := bS hm
 refine Cj (fun au e' hp' => [(0, sv A1 l4 c2), (2, sv A9 h s), (3, iv A), (20, sv A5 H c6), (21, iv ((H.length : Int))), (22, iv ((f : Int))), (92, bv aY)] = e' ∧ R = hp' ∧ Y.Le au) ?_ ?_
 have hm := aL
 rcases Bool.eq_false_or_eq_true (decide (ar ≠ (decide (m = 1)))) with e | e
 rw [if_pos e] at hm
 refine Di mixed (.refl _)<|E0 0 rfl (sM rfl)<|E0 1 rfl (sM rfl)<|E0 2 rfl (q1 rfl rfl)<|E0 3 rfl (stB (st_bneq rfl rfl boo4) e)<|E0 4 rfl (sM rfl)<|eN 5 rfl<|eN 6 rfl<|E0 7 rfl (pT rfl rfl)<|E0 8 rfl (sM rfl) ?_
 refine eN 9 rfl<|eN 10 rfl<|eN 11 rfl<|eN 12 rfl<|eN 13 rfl<|eN 14 rfl<|eN 15 rfl<|eN 16 rfl<|E0 17 rfl (pT rfl rfl)<|E0 18 rfl (sM rfl) ?_
 refine eN 19 rfl<|eN 20 rfl<|eN 21 rfl<|eN 22 rfl<|eN 23 rfl<|eN 24 rfl<|eN 25 rfl<|eN 26 rfl<|E0 27 rfl (pT rfl rfl)<|Eo ?_
 refine Dd (by kernel_rfl) ?_
 obtain rfl := o1 hm
 exact jJ ⟨rfl, rfl, lr⟩
 rw [if_neg (fun hh => Bool.noConfusion (hh.symm.trans e))] at hm
 by_cases o : 1 < m
 rw [if_pos o] at hm
 refine Di mixed (.refl _)<|E0 0 rfl (sM rfl)<|E0 1 rfl (sM rfl)<|E0 2 rfl (q1 rfl rfl)<|E0 3 rfl (stB (st_bneq rfl rfl boo4) e)<|E0 4 rfl (sM rfl)<|Yz 5 69 rfl (sM rfl)<|Yz 6 69 rfl (st_gtr_t rfl rfl o)<|E0 7 rfl (pF rfl rfl)<|E0 8 rfl (sM rfl) ?_
 refine eN 9 rfl<|eN 10 rfl<|eN 11 rfl<|eN 12 rfl<|eN 13 rfl<|eN 14 rfl<|eN 15 rfl<|eN 16 rfl<|E0 17 rfl (pT rfl rfl)<|E0 18 rfl (sM rfl) ?_
 refine eN 19 rfl<|eN 20 rfl<|eN 21 rfl<|eN 22 rfl<|eN 23 rfl<|eN 24 rfl<|eN 25 rfl<|eN 26 rfl<|E0 27 rfl (pT rfl rfl)<|Eo ?_
 refine Dd (by kernel_rfl) ?_
 obtain rfl := o1 hm
 exact jJ ⟨rfl, rfl, lr⟩
 rw [if_neg o] at hm
 obtain ⟨aZ, av, hm⟩ := bS hm
 by_cases k : a.Dep ≠ aZ.Dep
 rw [if_pos k] at hm
 refine Di mixed (.refl _)<|E0 0 rfl (sM rfl)<|E0 1 rfl (sM rfl)<|E0 2 rfl (q1 rfl rfl)<|E0 3 rfl (stB (st_bneq rfl rfl boo4) e)<|E0 4 rfl (sM rfl)<|Yz 5 69 rfl (sM rfl)<|Yz 6 69 rfl (st_gtr_f rfl rfl o)<|E0 7 rfl (pF rfl rfl)<|E0 8 rfl (sM rfl) ?_
 refine Yz 9 73 rfl (sF rfl fld71_2)<|Ey 10 73 rfl (sL 0 rfl one3 rfl rfl)<|Yz 11 73 rfl (sM rfl)<|Yz 12 73 rfl (sM rfl) ?_
 obtain ⟨aa, E, F⟩ := iS av
 obtain ⟨aN, G, w, p, x⟩ := FZ.get (sz := 6) rfl (by decide) (h3.le (c.trans (d.trans g))) F
 obtain ⟨_, _, rfl, rfl, ⟨_, _, rfl, rfl, ⟨_, _, rfl, rfl, ⟨_, _, rfl, rfl, ⟨_, _, rfl, rfl, ⟨a0, a1, rfl, a2⟩⟩⟩⟩⟩⟩ := G
 refine Yz 13 73 rfl (sI aa rfl rfl E x p sl59)<|Yz 14 73 rfl (sQ rfl p fld71_2)<|Ey 15 73 rfl (sO rfl one3 (w 2 _ rfl))<|Yz 16 73 rfl (st_neq_t rfl rfl k)<|E0 17 rfl (pF rfl rfl)<|E0 18 rfl (sM rfl)<|eN 19 rfl<|eN 20 rfl<|eN 21 rfl<|eN 22 rfl ?_
 refine eN 23 rfl<|eN 24 rfl<|eN 25 rfl<|eN 26 rfl<|E0 27 rfl (pT rfl rfl)<|Eo<|Dd (by kernel_rfl) ?_
 obtain rfl := o1 hm
 exact jJ ⟨rfl, rfl, lr⟩
 rw [if_neg k] at hm
 obtain ⟨be, aO, hm⟩ := bS hm
 refine Di mixed (.refl _)<|E0 0 rfl (sM rfl)<|E0 1 rfl (sM rfl)<|E0 2 rfl (q1 rfl rfl)<|E0 3 rfl (stB (st_bneq rfl rfl boo4) e)<|E0 4 rfl (sM rfl)<|Yz 5 69 rfl (sM rfl)<|Yz 6 69 rfl (st_gtr_f rfl rfl o)<|E0 7 rfl (pF rfl rfl)<|E0 8 rfl (sM rfl) ?_
 refine Yz 9 73 rfl (sF rfl fld71_2)<|Ey 10 73 rfl (sL 0 rfl one3 rfl rfl)<|Yz 11 73 rfl (sM rfl)<|Yz 12 73 rfl (sM rfl) ?_
 obtain ⟨aa, E, F⟩ := iS av
 obtain ⟨aN, G, w, p, x⟩ := FZ.get (sz := 6) rfl (by decide) (h3.le (c.trans (d.trans g))) F
 obtain ⟨_, _, rfl, rfl, ⟨_, _, rfl, rfl, ⟨_, _, rfl, rfl, ⟨_, _, rfl, rfl, ⟨_, _, rfl, rfl, ⟨a0, a1, rfl, a2⟩⟩⟩⟩⟩⟩ := G
 refine Yz 13 73 rfl (sI aa rfl rfl E x p sl59)<|Yz 14 73 rfl (sQ rfl p fld71_2)<|Ey 15 73 rfl (sO rfl one3 (w 2 _ rfl))<|Yz 16 73 rfl (st_neq_f rfl rfl k)<|E0 17 rfl (pF rfl rfl)<|E0 18 rfl (sM rfl)<|Yz 19 83 rfl (sF rfl fld71_3)<|Ey 20 83 rfl (sL 0 rfl one3 rfl rfl)<|Yz 21 83 rfl (sM rfl)<|Yz 22 83 rfl (sM rfl) ?_
 obtain ⟨aP, aj, ak⟩ := iS aO
 obtain ⟨a3, al, ab, O, ac⟩ := FZ.get (sz := 6) rfl (by decide) (h3.le (c.trans (d.trans g))) ak
 obtain ⟨_, _, rfl, rfl, ⟨_, _, rfl, rfl, ⟨_, _, rfl, rfl, ⟨_, _, rfl, rfl, ⟨_, _, rfl, rfl, ⟨bf, bg, rfl, bh⟩⟩⟩⟩⟩⟩ := al
 refine Yz 23 83 rfl (sI aP rfl rfl aj ac O sl59)<|Yz 24 83 rfl (sQ rfl O fld71_3)<|Ey 25 83 rfl (sO rfl one3 (ab 3 _ rfl))<|Yz 26 83 rfl (q2 rfl rfl)<|E0 27 rfl (pF rfl rfl)<|Eo<|Dd (by kernel_rfl) ?_
 obtain rfl := o1 hm
 exact jJ ⟨rfl, rfl, lr⟩
 rintro au _ _ ⟨rfl, rfl, S⟩
 have hm := aM
 refine cB hm rfl (fun hm => ?_) fun hm => ?_
 refine Cr<|aS rfl<|Te<|Ct<|Xb<|Xr<|Xr<|Xb<|Xr ?_
 have am := q _ (Option.some.inj hm).symm
 rw [am] at i
 have hm := elimR i
 obtain rfl := o1 hm
 exact rO ⟨rfl, rfl⟩ (c.trans (d.trans (g.trans S)))
 refine Ck<|Xm<|Xn<|Cg<|tS (sa rfl rfl (by omega))<|mV rfl<|Tn ?_
 exact jM hm ⟨rfl, rfl, ((c.trans (d.trans (g.trans S))))⟩
 rintro _ I _ _ ⟨rfl, rfl, c⟩ an
 rw [an] at i
 have hm := elimL i
 refine Cr<|tS (lF rfl rfl (by omega))<|Te<|Cs<|c_cond_f rfl<|Ce<|Xe<|Xe<|Xo<|Xn ?_
 refine Cr<|aS rfl<|Te<|Ct ?_
 obtain rfl := o1 hm
 exact rO ⟨rfl, rfl⟩ c

set_option maxRecDepth 20000 in
theorem cFishref2Within (b : Base) (R : Hp) (i j k d) (hm : mFishref2Within i j k = some d):
    CallsG Tryd.prog 35 [iv i, iv j, iv k] b (R) (fun v b' hp' => bv d = v ∧ R = hp') := by
 refine fE 15 Tryd.func35 rfl Tryd.ntmps35 rfl ?_
 unfold mFishref2Within at hm
 refine Cr<|aS rfl<|Te ?_
 obtain ⟨h, e, f⟩ := bS hm
 refine Cj (fun g e' hp' => [(6, bv h)] = e' ∧ R = hp' ∧ b.Le g) ?_ ?_
 have hm := e
 refine Cg<|mV rfl<|mV rfl ?_
 refine Tb rfl (q6 rfl rfl) (fun a => ?_) (fun a => ?_)
 rw [if_pos a] at hm
 refine mV rfl<|yS<|mV rfl<|yS<|mV rfl<|yS<|tS (q4 rfl rfl)<|tS (pT rfl rfl)<|aS rfl<|Tn ?_
 obtain rfl := o1 hm
 exact jJ ⟨rfl, rfl, lr⟩
 rw [if_neg a] at hm
 refine mV rfl<|nO<|nO<|nO<|tS (pF rfl rfl)<|aS rfl<|Tn ?_
 obtain rfl := o1 hm
 exact jJ ⟨rfl, rfl, lr⟩
 rintro g _ _ ⟨rfl, rfl, c⟩
 have hm := f
 refine Ct ?_
 obtain rfl := o1 hm
 exact rO ⟨rfl, rfl⟩ c

end Go.Proofs.YtckgfeglhjiflaaDoor
