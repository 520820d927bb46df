/- Contracts: the code computes its model (part 4). -/
import Derived.Test.YtckgfeglhjiflaaDoorWP3
set_option linter.unusedVariables false
set_option linter.unusedSimpArgs false
namespace Go.Proofs.YtckgfeglhjiflaaDoor
open Go.RowKit Go.Fp

open Go.Fp renaming t_ne → Te, t_nil → Tn, t_callG → Tg, t_resp → Tr, c_sr → Cr, c_seq → Cs, c_region → Cg, c_block → Cb, c_ret → Ct, c_skip → Ck, c_exit → Ce, c_join → Cj, c_pullb → Cp, x_then_normal → Xn, x_then_ret → Xr, x_then_exit → Xe, x_block_ret → Xb, x_block_normal → Xm, x_block_out → Xo, x_pullb → Xp, x_front2 → X2, x_front3 → X3, E_st → Es, E_s0 → E0, E_in → Ei, E_il → El, E_out → Eo, D_all → Da, D_done → Dd, D_drawI → Di, R_do → Rd2, R_nil → Rn, R_callGl → Rg, st_load → sL, st_loadD → sD, st_field → sF, st_nil → sN, st_len → sE, st_move → sM, st_assign → sA, st_pick_t → pT, st_pick_f → pF, st_index_old → sI, st_loadN_old → sP, st_field_old → sQ, st_add → sa, st_sub → sb, st_lss_t → lT, st_lss_f → lF, st_build → sB, u_box → uB, u_alloc → uA, u_store → uS, u_storeN → uN, u_callW0 → uW, u_putOS → uP, u_appOS → uQ, fn_enterG → fE, bindS → bS, some1 → o1, idx_some → iS, sub_skip → ss, sub_app → sp, chk_some → kS, d_front3 → d3, d_front4 → d4, mem_c → mc, mem_n → mn, st_eql → q1, st_neq → q2, st_lss → q3, st_leq → q4, st_gtr → q5, st_geq → q6
set_option maxHeartbeats 4000000 in
set_option maxRecDepth 20000 in
theorem cGuideDeskPass_2 (b : Base) (R : Hp) (am) (ah : GuideNet) (al X Y Z a6 dQ aQ aR az bn bo bp bq aa ab ac ad g3 H A7 c8 dR a7 a8 p) (dS : FZ rApiTrain b.w bn bo ah.Day.Trains) (dT : FZ (RT.list rI) b.w bp bq ah.Day.Turns) (aI : FZ rApiTrain b.w aa ab X) (aJ : FZ (RT.list rI) b.w ac ad Y) (h4 : OM rI (OT.fr rI) false false b.w g3 dQ H) (h9 : OS 119 oGuidePromise0 b.w (sv A7 aQ c8) aQ dR) (cr : (A7 = none ↔ aQ = [])) (fH : OS 68 (OT.fr rGuideMessage) b.w (sv a7 aR a8) aR p) (ct bP) (hm : mGuideDeskPass_2 am ah al X Y Z a6 dQ aQ aR = some (ct, bP)):
    CallsG Tryd.prog 58 [pb az, iv am, .agg #[sv bn ah.Day.Trains bo, sv bp ah.Day.Turns bq, iv ah.least], .map (some g3), iv al] b ((az, Cl 116 [sv aa X ab, sv ac Y ad, iv Z, iv a6, sv A7 aQ c8, sv a7 aR a8]) :: (H ++ (dR ++ (p ++ R)))) (fun v b' hp' => ∃ cV cW cJ, sv cV ct cW = v ∧ (az, Cl 116 [sv aa X ab, sv ac Y ad, iv Z, iv a6, sv A7 bP c8, sv a7 aR a8]) :: (H ++ (cJ ++ (p ++ R))) = hp' ∧ FZ rGuideMessage b'.w cV cW ct ∧ OS 119 oGuidePromise0 b'.w (sv A7 bP c8) bP cJ ∧ bP.length = aQ.length ∧ (A7 = none ↔ bP = [])) := by
 refine fE 245 Tryd.func58 rfl Tryd.ntmps58 rfl ?_
 unfold mGuideDeskPass_2 at hm
 refine Cr<|tD (uB _ rfl rfl) ?_
 rintro _ _ ⟨ag, rfl, rfl⟩
 refine aS rfl<|Te<|Cr<|mV rfl<|tS (sN rfl)<|tS (sF rfl fld116_2)<|tS (sL 1 rfl one114 rfl rfl)<|mV rfl ?_
 obtain ⟨a, eO, hm⟩ := bS hm
 obtain ⟨T, an, X1497, fR, Y1499, fS, n, o, dU, hX1504, dV, dW, hij1507, hfl1508⟩ := OS.out (sz := 11) rfl (by decide) h9 eO
 obtain ⟨_, _, rfl, ⟨_, _, rfl, rfl, ⟨_, _, rfl, rfl, ⟨_, _, rfl, rfl, ⟨_, _, rfl, rfl, ⟨_, _, rfl, rfl, ⟨L, O, rfl, bd⟩⟩⟩⟩⟩⟩, ⟨_, _, aK, _, rfl, ⟨gu, rfl, cX⟩, ⟨_, _, aL, aM, rfl, ⟨gv, rfl, cY⟩, ⟨_, _, rfl, ⟨gw, rfl, cZ⟩, ⟨_, _, rfl, rfl, rfl⟩⟩, rfl⟩, rfl⟩⟩ := dW
 obtain ⟨eP, eQ, rfl, _⟩ := cX.form
 obtain ⟨eR, eS, rfl, _⟩ := cY.form
 obtain ⟨eU, eV, rfl, _⟩ := cZ.form
 refine tS (st_indexX dU hij1507 rfl rfl sl114)<|t_front2 [_, _] H dR (p ++ R) rfl<|t_outX3 [_, _] dR aK aL aM n o (H ++ (p ++ R)) rfl dV<|aS rfl<|Te<|Cr<|mV rfl<|tS (sN rfl)<|tS (sF rfl fld119_1)<|tS (st_loadX 0 6 hX1504 rfl one117 rfl rfl) ?_
 refine tS (sE rfl sl117) ?_
 obtain ⟨c0, bV, hm⟩ := bS hm
 have bV := mkLen_some bV
 refine tD (u_mkOS (r := RT.bool) [_, _, _] (aK ++ (aL ++ (aM ++ ((n ++ o) ++ (H ++ (p ++ R)))))) [bv false] false c0 rfl bV.1 rfl rfl sl117 inf4 rfl rfl rfl (by decide) rfl bV.2.1 bV.2.2) ?_
 rintro _ _ ⟨a5, rfl, c1⟩
 obtain ⟨ax, ay, rfl, _⟩ := c1.form
 refine aS rfl<|Te<|Cs<|Cr<|mV rfl<|tS (sN rfl)<|tS (sF rfl fld119_0)<|tS (sF rfl fld71_5)<|tS (sF rfl fld33_0)<|tS (st_loadX 0 5 hX1504 rfl one31 rfl rfl) ?_
 refine tS (sE rfl sl31)<|mV rfl<|Te<|Cb ?_
 have fT : a.Promise.Journey.Rides.length ≤ 9223372036854775807 := (FZ.bd bd)
 refine Cp 1 rfl<|Cp 2 rfl<|c_front4 [_, _, _] a5 aK aL aM ((n ++ o) ++ (H ++ (p ++ R))) rfl<|c_front4 [_, _, _] aM a5 aK aL ((n ++ o) ++ (H ++ (p ++ R))) rfl<|c_front4 [_, _, _] aL aM a5 aK ((n ++ o) ++ (H ++ (p ++ R))) rfl<|c_front7 [_, _, _] aK aL aM a5 (n ++ o) H p R rfl<|c_front6 [_, _, _] p aK aL aM a5 (n ++ o) (H ++ R) rfl<|c_front6 [_, _, _] (n ++ o) p aK aL aM a5 (H ++ R) rfl<|c_front7 [_, _, _] a5 (n ++ o) p aK aL aM H R rfl ?_
 obtain ⟨⟨ao, y, z, A⟩, dX, dY⟩ := bS hm
 refine lS (fun x => unc4 fun ao y z A => fun bE e' hp' => ∃ k B C f D E e F G d, [(0, pb az), (1, iv am), (3, .map (some g3)), (4, iv al), (7, pb ag), (11, .pointer (some ⟨T, an + 0, none⟩)), (12, sv ax ao ay), (41, sv L a.Promise.Journey.Rides O), (42, iv ((a.Promise.Journey.Rides.length : Int))), (43, iv ((x : Int)))] = e' ∧ (az, Cl 116 [sv aa X ab, sv ac Y ad, iv Z, iv a6, sv A7 aQ c8, sv a7 aR a8]) :: (ag, Cl 91 [sv bn ah.Day.Trains bo, sv bp ah.Day.Turns bq, iv ah.least]) :: (T, Cl 119 (X1497 ++ ([iv a.Promise.From, iv a.Promise.To, iv a.Promise.Dep, iv a.Promise.Arr, iv a.Promise.State, sv L a.Promise.Journey.Rides O, sv B y C, sv D z E, sv F A G, iv a.station, iv a.when] ++ Y1499))) :: (H ++ (k ++ ((n ++ o) ++ (p ++ (f ++ (e ++ (d ++ R))))))) = hp' ∧ b.Le bE ∧ OS 4 (OT.fr RT.bool) bE.w (sv ax ao ay) ao k ∧ ao.length = c0 ∧ OS 4 (OT.fr RT.bool) bE.w (sv B y C) y f ∧ OS 3 (OT.fr rI) bE.w (sv D z E) z e ∧ OS 3 (OT.fr rI) bE.w (sv F A G) A d) dX ⟨a5, eP, eQ, aK, eR, eS, aL, eU, eV, aM, rfl, rfl, lr, c1, List.length_replicate, cX, cY, cZ⟩ ?_ ?_
 rintro x ⟨ao, y, z, A⟩ bE _ _ fU fF ⟨k, B, C, f, D, E, e, F, G, d, rfl, rfl, g, aT, aU, aq, av, aw⟩ bT
 unfold mGuideDeskPass_2_L1533 at bT
 have hm := (unc4E bT)
 refine Cr<|tS (lT rfl rfl (by omega))<|Te<|Cs<|c_cond_t rfl<|Ck<|Xn<|Cs<|Cb<|Cr ?_
 refine mV rfl ?_
 obtain ⟨q, eW, fV, dZ, fW, d0, c2, cK, c3, hm⟩ := bF (sz := 3) hm (bd.le g)
 obtain ⟨_, _, rfl, rfl, ⟨_, _, rfl, rfl, rfl⟩⟩ := d0
 refine tS (sI eW rfl rfl dZ c3 cK sl31)<|tS (sP (vs := [iv q.Train, iv q.On, iv q.Off]) 3 rfl agg86 cK rfl (fun j u hu => c2 j u hu))<|tD (uA [iv 0, iv 0, iv 0] zero86 rfl) ?_
 rintro _ _ ⟨be, rfl, rfl⟩
 refine aS rfl<|tD (uN (vs := [_, _, _]) 0 3 rfl rfl rfl siz86 rfl (mc rfl (mc rfl (mc rfl mn))) rfl (by simp)) ?_
 rintro _ _ rfl
 refine Te<|Cb<|Cr<|mV rfl<|tS (sN rfl)<|tS (sF rfl fld119_1)<|tS (st_loadX 3 6 hX1504 rfl one117 rfl rfl)<|mV rfl ?_
 obtain ⟨gx, eX, hm⟩ := bS hm
 obtain ⟨eY, d1, d5⟩ := iS eX
 obtain ⟨fX, fY, gy, gz, fZ, d6, c4, d7, c5, f0, fI⟩ := OS.get (sz := 1) rfl (by decide) aq d5
 obtain ⟨rfl, rfl⟩ := d6
 refine tS (sI eY rfl rfl d1 c5 d7 sl117)<|tS (st_load_rd rfl one4 (fun w ho => c4 w _ ho (.cons _ (.cons _ (.cons _ (.cons _ (ss H (ss k (ss (n ++ o) (ss p (List.sublist_append_left _ _))))))))) 0 _ rfl))<|aS rfl<|Te ?_
 refine cB hm rfl (fun hm => ?_) fun hm => ?_
 refine Ck<|Xm<|Xm<|Xn<|Cg<|tS (sa rfl rfl (by omega))<|mV rfl<|Tn ?_
 obtain rfl := o1 hm
 exact jS ⟨k, B, C, f, D, E, e, F, G, d, rfl, rfl, (g), aT, aU, aq, av, aw⟩
 refine Cs ?_
 obtain ⟨⟨t, J, s, K⟩, W, hm⟩ := bS hm
 have hm := (unc4E hm)
 refine Di mixed (.refl _)<|E0 0 rfl (sM rfl)<|E0 1 rfl (sN rfl)<|E0 2 rfl (sF rfl fld116_0)<|Es 3 rfl (sD (vs := [_, _, _]) 1 3 rfl agg91 rfl rfl rfl)<|Es 4 rfl (sD (vs := [_, _, _]) 0 3 rfl agg86 rfl rfl rfl)<|E0 7 rfl (sM rfl)<|Eo<|Da [5] (by kernel_rfl) rfl ?_
 refine Rg lr rfl rfl _ call61 rfl (cGuideNetOff _ _ (⟨(⟨X, Y⟩ : ApiDay), Z⟩ : GuideNet) q aa ab ac ad (aI.le g) (aJ.le g) t J s K W) ?_ ?_
 rintro _ gA _ h ⟨rfl, rfl⟩
 refine ⟨.inl (by kernel_rfl), ?_⟩
 refine El h<|E0 6 rfl (st_vfield1 (cs := [iv t, iv J, iv s, iv K]) rfl fdv83_2 one3 rfl)<|E0 8 rfl (q4 rfl rfl)<|E0 9 rfl (sA rfl)<|Eo<|Dd (by kernel_rfl)<|Xn ?_
 refine cI hm rfl (fun hm => ?_) fun hm => ?_
 obtain ⟨gB, b6, hm⟩ := bS hm
 obtain ⟨gC, b7, hm⟩ := bS hm
 obtain ⟨gD, b8, hm⟩ := bS hm
 refine c_front5 [_, _, _, _] H k (n ++ o) p f (e ++ (d ++ R)) rfl<|c_front6 [_, _, _, _] f H k (n ++ o) p e (d ++ R) rfl<|c_front7 [_, _, _, _] e f H k (n ++ o) p d R rfl<|D_drawS ((be, Cl 86 [iv q.Train, iv q.On, iv q.Off]) :: (az, Cl 116 [sv aa X ab, sv ac Y ad, iv Z, iv a6, sv A7 aQ c8, sv a7 aR a8]) :: (ag, Cl 91 [sv bn ah.Day.Trains bo, sv bp ah.Day.Turns bq, iv ah.least]) :: (d ++ (H ++ (k ++ ((n ++ o) ++ (p ++ R)))))) mixed ?_
 refine D_tail (fun e0 e' hp' => [(0, pb az), (1, iv am), (3, .map (some g3)), (4, iv al), (7, pb ag), (11, .pointer (some ⟨T, an + 0, none⟩)), (12, sv ax ao ay), (41, sv L a.Promise.Journey.Rides O), (42, iv ((a.Promise.Journey.Rides.length : Int))), (43, iv ((x : Int))), (81, sv B y C), (82, iv ((x : Int))), (86, sv D z E), (87, iv ((x : Int))), (91, sv F A G), (92, iv ((x : Int))), (99, iv s), (103, .agg #[sv aa X ab, sv ac Y ad, iv Z]), (104, .agg #[iv q.Train, iv q.On, iv q.Off])] = e' ∧ (be, Cl 86 [iv q.Train, iv q.On, iv q.Off]) :: (az, Cl 116 [sv aa X ab, sv ac Y ad, iv Z, iv a6, sv A7 aQ c8, sv a7 aR a8]) :: (ag, Cl 91 [sv bn ah.Day.Trains bo, sv bp ah.Day.Turns bq, iv ah.least]) :: (T, Cl 119 (X1497 ++ ([iv a.Promise.From, iv a.Promise.To, iv a.Promise.Dep, iv a.Promise.Arr, iv a.Promise.State, sv L a.Promise.Journey.Rides O, sv B y C, sv D z E, sv F A G, iv a.station, iv a.when] ++ Y1499))) :: (d ++ (e ++ (f ++ (H ++ (k ++ ((n ++ o) ++ (p ++ R))))))) = hp') 8 #[true, true, true, true, true, true, true, true, true, true, true, true, true, true, true, true, true, true, true, true, true, true, true, true, true, true, true, false, false, false, false, false, false, false, false] ?_ (fun tl2167 => ?_)
 rintro e0 _ _ ae ⟨rfl, rfl⟩
 refine Da [27] (by kernel_rfl) rfl ?_
 refine Rg ae rfl rfl _ call61 rfl (cGuideNetOff _ _ (⟨(⟨X, Y⟩ : ApiDay), Z⟩ : GuideNet) q aa ab ac ad (aI.le (g.trans (h.trans ae))) (aJ.le (g.trans (h.trans ae))) t J s K W) ?_ ?_
 rintro _ a9 _ m ⟨rfl, rfl⟩
 refine iR<|Ei (ae.trans m) (.cons_cons _ (.cons_cons _ (.cons_cons _ (.cons _ (sp d (ss e (ss f (.refl _))))))))<|E0 28 rfl (st_vfield1 (cs := [iv t, iv J, iv s, iv K]) rfl fdv83_0 one3 rfl) ?_
 obtain ⟨bG, aA, aB⟩ := iS b6
 obtain ⟨b9, ca, cu, cv, cb, bf, bW, bg, aV, cc, bX⟩ := OS.get (sz := 1) rfl (by decide) (aq.le (h.trans (ae.trans m))) aB
 obtain ⟨rfl, rfl⟩ := bf
 refine E0 29 rfl (sI bG rfl rfl aA aV bg sl117)<|Eo<|d3 [_, _, _, _] d e f (H ++ (k ++ ((n ++ o) ++ (p ++ R)))) rfl<|Da [30] (by kernel_rfl) rfl ?_
 refine Rd2 (ae.trans m) rfl rfl (uP aA (sz := 1) (a' := true) rfl [_, _, _, _] (d ++ (e ++ (H ++ (k ++ ((n ++ o) ++ (p ++ R)))))) 0 1 [bv true] rfl (aq.le (h.trans (ae.trans m))) aB rfl rfl rfl siz4 rfl (mc rfl mn) (fun cs hsj hh => by obtain ⟨rfl, rfl⟩ := hh; exact ⟨by first | decide | exact Nat.le_refl _, rfl, rfl⟩)) ?_ ?_
 rintro _ _ ⟨U, rfl, bH⟩
 refine iR<|d_hresp 3 rfl (o' := Cl 119 (X1497 ++ ([iv a.Promise.From, iv a.Promise.To, iv a.Promise.Dep, iv a.Promise.Arr, iv a.Promise.State, sv L a.Promise.Journey.Rides O, .slice B (put y (x : Int) true).length C, sv D z E, sv F A G, iv a.station, iv a.when] ++ Y1499))) (by simp only [sv, put_length]) ?_
 obtain ⟨bI, aC, aD⟩ := iS b7
 obtain ⟨cd, ce, cw, cx, cf, bh, bY, bi, aW, cg, bZ⟩ := OS.get (sz := 1) rfl (by decide) (av.le (h.trans (ae.trans m))) aD
 obtain ⟨rfl, rfl⟩ := bh
 refine Ei (ae.trans m) (.cons_cons _ (.cons_cons _ (.cons_cons _ (.cons _ (ss U (sp d (ss e (.refl _))))))))<|E0 31 rfl (sI bI rfl rfl aC aW bi sl49)<|Eo<|d3 [_, _, _, _] U d e (H ++ (k ++ ((n ++ o) ++ (p ++ R)))) rfl<|Da [32] (by kernel_rfl) rfl ?_
 refine Rd2 (ae.trans m) rfl rfl (uP aC (sz := 1) (a' := s) rfl [_, _, _, _] (U ++ (d ++ (H ++ (k ++ ((n ++ o) ++ (p ++ R)))))) 0 1 [iv s] rfl (av.le (h.trans (ae.trans m))) aD rfl rfl rfl siz3 rfl (mc rfl mn) (fun cs hsj hh => by obtain ⟨rfl, rfl⟩ := hh; exact ⟨by first | decide | exact Nat.le_refl _, rfl, rfl⟩)) ?_ ?_
 rintro _ _ ⟨af, rfl, bJ⟩
 refine iR<|d_hresp 3 rfl (o' := Cl 119 (X1497 ++ ([iv a.Promise.From, iv a.Promise.To, iv a.Promise.Dep, iv a.Promise.Arr, iv a.Promise.State, sv L a.Promise.Journey.Rides O, .slice B (put y (x : Int) true).length C, .slice D (put z (x : Int) s).length E, sv F A G, iv a.station, iv a.when] ++ Y1499))) (by simp only [sv, put_length]) ?_
 obtain ⟨bK, aE, aF⟩ := iS b8
 obtain ⟨ch, ci, cy, cz, cj, bj, b0, bk, aX, ck, b1⟩ := OS.get (sz := 1) rfl (by decide) (aw.le h) aF
 obtain ⟨rfl, rfl⟩ := bj
 refine Ei (ae.trans m) (.cons_cons _ (.cons_cons _ (.cons_cons _ (.cons _ (ss af (ss U (.refl _)))))))<|E0 33 rfl (sI bK rfl rfl aE aX bk sl49)<|Eo<|d3 [_, _, _, _] af U d (H ++ (k ++ ((n ++ o) ++ (p ++ R)))) rfl<|Da [34] (by kernel_rfl) rfl ?_
 refine Rd2 (ae.trans m) rfl rfl (uP aE (sz := 1) (a' := t) rfl [_, _, _, _] (af ++ (U ++ (H ++ (k ++ ((n ++ o) ++ (p ++ R)))))) 0 1 [iv t] rfl (aw.le (h.trans (ae.trans m))) aF rfl rfl rfl siz3 rfl (mc rfl mn) (fun cs hsj hh => by obtain ⟨rfl, rfl⟩ := hh; exact ⟨by first | decide | exact Nat.le_refl _, rfl, rfl⟩)) ?_ ?_
 rintro _ _ ⟨bl, rfl, bL⟩
 refine ⟨.inl (by kernel_rfl), ?_⟩
 refine d_hresp 3 rfl (o' := Cl 119 (X1497 ++ ([iv a.Promise.From, iv a.Promise.To, iv a.Promise.Dep, iv a.Promise.Arr, iv a.Promise.State, sv L a.Promise.Journey.Rides O, .slice B (put y (x : Int) true).length C, .slice D (put z (x : Int) s).length E, .slice F (put A (x : Int) t).length G, iv a.station, iv a.when] ++ Y1499))) (by simp only [sv, put_length])<|Dd (by kernel_rfl)<|Xm<|Xm<|Xn<|Cg<|tS (sa rfl rfl (by omega))<|mV rfl<|Tn ?_
 obtain rfl := o1 hm
 exact jS ⟨k, B, C, U, D, E, af, F, G, bl, rfl, rfl, ((g.trans (h.trans (ae.trans m)))), (aT.le (h.trans (ae.trans m))), aU, bH, bJ, bL⟩
 exact Rn
 exact Rn
 exact Rn
 exact Rn
 refine D_tail (fun e1 e' hp' => [(0, pb az), (1, iv am), (3, .map (some g3)), (4, iv al), (7, pb ag), (11, .pointer (some ⟨T, an + 0, none⟩)), (12, sv ax ao ay), (41, sv L a.Promise.Journey.Rides O), (42, iv ((a.Promise.Journey.Rides.length : Int))), (43, iv ((x : Int))), (81, sv B y C), (82, iv ((x : Int))), (86, sv D z E), (87, iv ((x : Int))), (90, .pointer (some ⟨T, an + 8, none⟩)), (92, iv ((x : Int))), (99, iv s), (106, iv t)] = e' ∧ (be, Cl 86 [iv q.Train, iv q.On, iv q.Off]) :: (az, Cl 116 [sv aa X ab, sv ac Y ad, iv Z, iv a6, sv A7 aQ c8, sv a7 aR a8]) :: (ag, Cl 91 [sv bn ah.Day.Trains bo, sv bp ah.Day.Turns bq, iv ah.least]) :: (T, Cl 119 (X1497 ++ ([iv a.Promise.From, iv a.Promise.To, iv a.Promise.Dep, iv a.Promise.Arr, iv a.Promise.State, sv L a.Promise.Journey.Rides O, sv B y C, sv D z E, sv F A G, iv a.station, iv a.when] ++ Y1499))) :: (d ++ (e ++ (f ++ (H ++ (k ++ ((n ++ o) ++ (p ++ R))))))) = hp') 7 #[true, true, true, true, true, true, true, true, true, true, true, true, true, false, true, true, true, true, true, true, true, true, true, true, true, true, true, true, true, false, false, false, false, false, false] ?_ (fun tl2170 => ?_)
 rintro e1 _ _ ai ⟨rfl, rfl⟩
 refine Da [13] (by kernel_rfl) rfl ?_
 refine Rd2 ai rfl rfl (Stable.does (st_loadX 3 8 hX1504 rfl one49 rfl rfl)) ?_ ?_
 rintro _ _ ⟨rfl, rfl⟩
 refine iR ?_
 obtain ⟨bG, aA, aB⟩ := iS b6
 obtain ⟨b9, ca, cu, cv, cb, bf, bW, bg, aV, cc, bX⟩ := OS.get (sz := 1) rfl (by decide) (aq.le (h.trans ai)) aB
 obtain ⟨rfl, rfl⟩ := bf
 refine Ei ai (.cons_cons _ (.cons_cons _ (.cons_cons _ (.cons _ (sp d (ss e (ss f (.refl _))))))))<|E0 29 rfl (sI bG rfl rfl aA aV bg sl117)<|Eo<|d3 [_, _, _, _] d e f (H ++ (k ++ ((n ++ o) ++ (p ++ R)))) rfl<|Da [30] (by kernel_rfl) rfl ?_
 refine Rd2 ai rfl rfl (uP aA (sz := 1) (a' := true) rfl [_, _, _, _] (d ++ (e ++ (H ++ (k ++ ((n ++ o) ++ (p ++ R)))))) 0 1 [bv true] rfl (aq.le (h.trans ai)) aB rfl rfl rfl siz4 rfl (mc rfl mn) (fun cs hsj hh => by obtain ⟨rfl, rfl⟩ := hh; exact ⟨by first | decide | exact Nat.le_refl _, rfl, rfl⟩)) ?_ ?_
 rintro _ _ ⟨U, rfl, bH⟩
 refine iR<|d_hresp 3 rfl (o' := Cl 119 (X1497 ++ ([iv a.Promise.From, iv a.Promise.To, iv a.Promise.Dep, iv a.Promise.Arr, iv a.Promise.State, sv L a.Promise.Journey.Rides O, .slice B (put y (x : Int) true).length C, sv D z E, sv F A G, iv a.station, iv a.when] ++ Y1499))) (by simp only [sv, put_length]) ?_
 obtain ⟨bI, aC, aD⟩ := iS b7
 obtain ⟨cd, ce, cw, cx, cf, bh, bY, bi, aW, cg, bZ⟩ := OS.get (sz := 1) rfl (by decide) (av.le (h.trans ai)) aD
 obtain ⟨rfl, rfl⟩ := bh
 refine Ei ai (.cons_cons _ (.cons_cons _ (.cons_cons _ (.cons _ (ss U (sp d (ss e (.refl _))))))))<|E0 31 rfl (sI bI rfl rfl aC aW bi sl49)<|Eo<|d3 [_, _, _, _] U d e (H ++ (k ++ ((n ++ o) ++ (p ++ R)))) rfl<|Da [32] (by kernel_rfl) rfl ?_
 refine Rd2 ai rfl rfl (uP aC (sz := 1) (a' := s) rfl [_, _, _, _] (U ++ (d ++ (H ++ (k ++ ((n ++ o) ++ (p ++ R)))))) 0 1 [iv s] rfl (av.le (h.trans ai)) aD rfl rfl rfl siz3 rfl (mc rfl mn) (fun cs hsj hh => by obtain ⟨rfl, rfl⟩ := hh; exact ⟨by first | decide | exact Nat.le_refl _, rfl, rfl⟩)) ?_ ?_
 rintro _ _ ⟨af, rfl, bJ⟩
 refine iR<|d_hresp 3 rfl (o' := Cl 119 (X1497 ++ ([iv a.Promise.From, iv a.Promise.To, iv a.Promise.Dep, iv a.Promise.Arr, iv a.Promise.State, sv L a.Promise.Journey.Rides O, .slice B (put y (x : Int) true).length C, .slice D (put z (x : Int) s).length E, sv F A G, iv a.station, iv a.when] ++ Y1499))) (by simp only [sv, put_length]) ?_
 obtain ⟨bK, aE, aF⟩ := iS b8
 obtain ⟨ch, ci, cy, cz, cj, bj, b0, bk, aX, ck, b1⟩ := OS.get (sz := 1) rfl (by decide) (aw.le h) aF
 obtain ⟨rfl, rfl⟩ := bj
 refine Ei ai (.cons_cons _ (.cons_cons _ (.cons_cons _ (.cons _ (ss af (ss U (.refl _)))))))<|E0 33 rfl (sI bK rfl rfl aE aX bk sl49)<|Eo<|d3 [_, _, _, _] af U d (H ++ (k ++ ((n ++ o) ++ (p ++ R)))) rfl<|Da [34] (by kernel_rfl) rfl ?_
 refine Rd2 ai rfl rfl (uP aE (sz := 1) (a' := t) rfl [_, _, _, _] (af ++ (U ++ (H ++ (k ++ ((n ++ o) ++ (p ++ R)))))) 0 1 [iv t] rfl (aw.le (h.trans ai)) aF rfl rfl rfl siz3 rfl (mc rfl mn) (fun cs hsj hh => by obtain ⟨rfl, rfl⟩ := hh; exact ⟨by first | decide | exact Nat.le_refl _, rfl, rfl⟩)) ?_ ?_
 rintro _ _ ⟨bl, rfl, bL⟩
 refine ⟨.inl (by kernel_rfl), ?_⟩
 refine d_hresp 3 rfl (o' := Cl 119 (X1497 ++ ([iv a.Promise.From, iv a.Promise.To, iv a.Promise.Dep, iv a.Promise.Arr, iv a.Promise.State, sv L a.Promise.Journey.Rides O, .slice B (put y (x : Int) true).length C, .slice D (put z (x : Int) s).length E, .slice F (put A (x : Int) t).length G, iv a.station, iv a.when] ++ Y1499))) (by simp only [sv, put_length])<|Dd (by kernel_rfl)<|Xm<|Xm<|Xn<|Cg<|tS (sa rfl rfl (by omega))<|mV rfl<|Tn ?_
 obtain rfl := o1 hm
 exact jS ⟨k, B, C, U, D, E, af, F, G, bl, rfl, rfl, ((g.trans (h.trans ai))), (aT.le (h.trans ai)), aU, bH, bJ, bL⟩
 exact Rn
 exact Rn
 exact Rn
 exact Rn
 refine D_tail (fun e2 e' hp' => [(0, pb az), (1, iv am), (3, .map (some g3)), (4, iv al), (7, pb ag), (11, .pointer (some ⟨T, an + 0, none⟩)), (12, sv ax ao ay), (41, sv L a.Promise.Journey.Rides O), (42, iv ((a.Promise.Journey.Rides.length : Int))), (43, iv ((x : Int))), (81, sv B y C), (82, iv ((x : Int))), (85, .pointer (some ⟨T, an + 7, none⟩)), (87, iv ((x : Int))), (91, sv F A G), (92, iv ((x : Int))), (99, iv s), (106, iv t)] = e' ∧ (be, Cl 86 [iv q.Train, iv q.On, iv q.Off]) :: (az, Cl 116 [sv aa X ab, sv ac Y ad, iv Z, iv a6, sv A7 aQ c8, sv a7 aR a8]) :: (ag, Cl 91 [sv bn ah.Day.Trains bo, sv bp ah.Day.Turns bq, iv ah.least]) :: (T, Cl 119 (X1497 ++ ([iv a.Promise.From, iv a.Promise.To, iv a.Promise.Dep, iv a.Promise.Arr, iv a.Promise.State, sv L a.Promise.Journey.Rides O, sv B y C, sv D z E, sv F A G, iv a.station, iv a.when] ++ Y1499))) :: (d ++ (e ++ (f ++ (H ++ (k ++ ((n ++ o) ++ (p ++ R))))))) = hp') 7 #[true, true, true, true, true, true, true, true, false, true, true, true, true, true, true, true, true, true, true, true, true, true, true, true, true, true, true, true, true, false, false, false, false, false, false] ?_ (fun tl2173 => ?_)
 rintro e2 _ _ aj ⟨rfl, rfl⟩
 refine Da [8] (by kernel_rfl) rfl ?_
 refine Rd2 aj rfl rfl (Stable.does (st_loadX 3 7 hX1504 rfl one49 rfl rfl)) ?_ ?_
 rintro _ _ ⟨rfl, rfl⟩
 refine iR ?_
 obtain ⟨bG, aA, aB⟩ := iS b6
 obtain ⟨b9, ca, cu, cv, cb, bf, bW, bg, aV, cc, bX⟩ := OS.get (sz := 1) rfl (by decide) (aq.le (h.trans aj)) aB
 obtain ⟨rfl, rfl⟩ := bf
 refine Ei aj (.cons_cons _ (.cons_cons _ (.cons_cons _ (.cons _ (sp d (ss e (ss f (.refl _))))))))<|E0 29 rfl (sI bG rfl rfl aA aV bg sl117)<|Eo<|d3 [_, _, _, _] d e f (H ++ (k ++ ((n ++ o) ++ (p ++ R)))) rfl<|Da [30] (by kernel_rfl) rfl ?_
 refine Rd2 aj rfl rfl (uP aA (sz := 1) (a' := true) rfl [_, _, _, _] (d ++ (e ++ (H ++ (k ++ ((n ++ o) ++ (p ++ R)))))) 0 1 [bv true] rfl (aq.le (h.trans aj)) aB rfl rfl rfl siz4 rfl (mc rfl mn) (fun cs hsj hh => by obtain ⟨rfl, rfl⟩ := hh; exact ⟨by first | decide | exact Nat.le_refl _, rfl, rfl⟩)) ?_ ?_
 rintro _ _ ⟨U, rfl, bH⟩
 refine iR<|d_hresp 3 rfl (o' := Cl 119 (X1497 ++ ([iv a.Promise.From, iv a.Promise.To, iv a.Promise.Dep, iv a.Promise.Arr, iv a.Promise.State, sv L a.Promise.Journey.Rides O, .slice B (put y (x : Int) true).length C, sv D z E, sv F A G, iv a.station, iv a.when] ++ Y1499))) (by simp only [sv, put_length]) ?_
 obtain ⟨bI, aC, aD⟩ := iS b7
 obtain ⟨cd, ce, cw, cx, cf, bh, bY, bi, aW, cg, bZ⟩ := OS.get (sz := 1) rfl (by decide) (av.le (h.trans aj)) aD
 obtain ⟨rfl, rfl⟩ := bh
 refine Ei aj (.cons_cons _ (.cons_cons _ (.cons_cons _ (.cons _ (ss U (sp d (ss e (.refl _))))))))<|E0 31 rfl (sI bI rfl rfl aC aW bi sl49)<|Eo<|d3 [_, _, _, _] U d e (H ++ (k ++ ((n ++ o) ++ (p ++ R)))) rfl<|Da [32] (by kernel_rfl) rfl ?_
 refine Rd2 aj rfl rfl (uP aC (sz := 1) (a' := s) rfl [_, _, _, _] (U ++ (d ++ (H ++ (k ++ ((n ++ o) ++ (p ++ R)))))) 0 1 [iv s] rfl (av.le (h.trans aj)) aD rfl rfl rfl siz3 rfl (mc rfl mn) (fun cs hsj hh => by obtain ⟨rfl, rfl⟩ := hh; exact ⟨by first | decide | exact Nat.le_refl _, rfl, rfl⟩)) ?_ ?_
 rintro _ _ ⟨af, rfl, bJ⟩
 refine iR<|d_hresp 3 rfl (o' := Cl 119 (X1497 ++ ([iv a.Promise.From, iv a.Promise.To, iv a.Promise.Dep, iv a.Promise.Arr, iv a.Promise.State, sv L a.Promise.Journey.Rides O, .slice B (put y (x : Int) true).length C, .slice D (put z (x : Int) s).length E, sv F A G, iv a.station, iv a.when] ++ Y1499))) (by simp only [sv, put_length]) ?_
 obtain ⟨bK, aE, aF⟩ := iS b8
 obtain ⟨ch, ci, cy, cz, cj, bj, b0, bk, aX, ck, b1⟩ := OS.get (sz := 1) rfl (by decide) (aw.le h) aF
 obtain ⟨rfl, rfl⟩ := bj
 refine Ei aj (.cons_cons _ (.cons_cons _ (.cons_cons _ (.cons _ (ss af (ss U (.refl _)))))))<|E0 33 rfl (sI bK rfl rfl aE aX bk sl49)<|Eo<|d3 [_, _, _, _] af U d (H ++ (k ++ ((n ++ o) ++ (p ++ R)))) rfl<|Da [34] (by kernel_rfl) rfl ?_
 refine Rd2 aj rfl rfl (uP aE (sz := 1) (a' := t) rfl [_, _, _, _] (af ++ (U ++ (H ++ (k ++ ((n ++ o) ++ (p ++ R)))))) 0 1 [iv t] rfl (aw.le (h.trans aj)) aF rfl rfl rfl siz3 rfl (mc rfl mn) (fun cs hsj hh => by obtain ⟨rfl, rfl⟩ := hh; exact ⟨by first | decide | exact Nat.le_refl _, rfl, rfl⟩)) ?_ ?_
 rintro _ _ ⟨bl, rfl, bL⟩
 refine ⟨.inl (by kernel_rfl), ?_⟩
 refine d_hresp 3 rfl (o' := Cl 119 (X1497 ++ ([iv a.Promise.From, iv a.Promise.To, iv a.Promise.Dep, iv a.Promise.Arr, iv a.Promise.State, sv L a.Promise.Journey.Rides O, .slice B (put y (x : Int) true).length C, .slice D (put z (x : Int) s).length E, .slice F (put A (x : Int) t).length G, iv a.station, iv a.when] ++ Y1499))) (by simp only [sv, put_length])<|Dd (by kernel_rfl)<|Xm<|Xm<|Xn<|Cg<|tS (sa rfl rfl (by omega))<|mV rfl<|Tn ?_
 obtain rfl := o1 hm
 exact jS ⟨k, B, C, U, D, E, af, F, G, bl, rfl, rfl, ((g.trans (h.trans aj))), (aT.le (h.trans aj)), aU, bH, bJ, bL⟩
 exact Rn
 exact Rn
 exact Rn
 exact Rn
 refine D_tail (fun e3 e' hp' => [(0, pb az), (1, iv am), (3, .map (some g3)), (4, iv al), (7, pb ag), (11, .pointer (some ⟨T, an + 0, none⟩)), (12, sv ax ao ay), (41, sv L a.Promise.Journey.Rides O), (42, iv ((a.Promise.Journey.Rides.length : Int))), (43, iv ((x : Int))), (80, .pointer (some ⟨T, an + 6, none⟩)), (82, iv ((x : Int))), (86, sv D z E), (87, iv ((x : Int))), (91, sv F A G), (92, iv ((x : Int))), (99, iv s), (106, iv t)] = e' ∧ (be, Cl 86 [iv q.Train, iv q.On, iv q.Off]) :: (az, Cl 116 [sv aa X ab, sv ac Y ad, iv Z, iv a6, sv A7 aQ c8, sv a7 aR a8]) :: (ag, Cl 91 [sv bn ah.Day.Trains bo, sv bp ah.Day.Turns bq, iv ah.least]) :: (T, Cl 119 (X1497 ++ ([iv a.Promise.From, iv a.Promise.To, iv a.Promise.Dep, iv a.Promise.Arr, iv a.Promise.State, sv L a.Promise.Journey.Rides O, sv B y C, sv D z E, sv F A G, iv a.station, iv a.when] ++ Y1499))) :: (d ++ (e ++ (f ++ (H ++ (k ++ ((n ++ o) ++ (p ++ R))))))) = hp') 7 #[true, true, true, false, true, true, true, true, true, true, true, true, true, true, true, true, true, true, true, true, true, true, true, true, true, true, true, true, true, false, false, false, false, false, false] ?_ (fun tl2176 => ?_)
 rintro e3 _ _ ak ⟨rfl, rfl⟩
 refine Da [3] (by kernel_rfl) rfl ?_
 refine Rd2 ak rfl rfl (Stable.does (st_loadX 3 6 hX1504 rfl one117 rfl rfl)) ?_ ?_
 rintro _ _ ⟨rfl, rfl⟩
 refine iR ?_
 obtain ⟨bG, aA, aB⟩ := iS b6
 obtain ⟨b9, ca, cu, cv, cb, bf, bW, bg, aV, cc, bX⟩ := OS.get (sz := 1) rfl (by decide) (aq.le (h.trans ak)) aB
 obtain ⟨rfl, rfl⟩ := bf
 refine Ei ak (.cons_cons _ (.cons_cons _ (.cons_cons _ (.cons _ (sp d (ss e (ss f (.refl _))))))))<|E0 29 rfl (sI bG rfl rfl aA aV bg sl117)<|Eo<|d3 [_, _, _, _] d e f (H ++ (k ++ ((n ++ o) ++ (p ++ R)))) rfl<|Da [30] (by kernel_rfl) rfl ?_
 refine Rd2 ak rfl rfl (uP aA (sz := 1) (a' := true) rfl [_, _, _, _] (d ++ (e ++ (H ++ (k ++ ((n ++ o) ++ (p ++ R)))))) 0 1 [bv true] rfl (aq.le (h.trans ak)) aB rfl rfl rfl siz4 rfl (mc rfl mn) (fun cs hsj hh => by obtain ⟨rfl, rfl⟩ := hh; exact ⟨by first | decide | exact Nat.le_refl _, rfl, rfl⟩)) ?_ ?_
 rintro _ _ ⟨U, rfl, bH⟩
 refine iR<|d_hresp 3 rfl (o' := Cl 119 (X1497 ++ ([iv a.Promise.From, iv a.Promise.To, iv a.Promise.Dep, iv a.Promise.Arr, iv a.Promise.State, sv L a.Promise.Journey.Rides O, .slice B (put y (x : Int) true).length C, sv D z E, sv F A G, iv a.station, iv a.when] ++ Y1499))) (by simp only [sv, put_length]) ?_
 obtain ⟨bI, aC, aD⟩ := iS b7
 obtain ⟨cd, ce, cw, cx, cf, bh, bY, bi, aW, cg, bZ⟩ := OS.get (sz := 1) rfl (by decide) (av.le (h.trans ak)) aD
 obtain ⟨rfl, rfl⟩ := bh
 refine Ei ak (.cons_cons _ (.cons_cons _ (.cons_cons _ (.cons _ (ss U (sp d (ss e (.refl _))))))))<|E0 31 rfl (sI bI rfl rfl aC aW bi sl49)<|Eo<|d3 [_, _, _, _] U d e (H ++ (k ++ ((n ++ o) ++ (p ++ R)))) rfl<|Da [32] (by kernel_rfl) rfl ?_
 refine Rd2 ak rfl rfl (uP aC (sz := 1) (a' := s) rfl [_, _, _, _] (U ++ (d ++ (H ++ (k ++ ((n ++ o) ++ (p ++ R)))))) 0 1 [iv s] rfl (av.le (h.trans ak)) aD rfl rfl rfl siz3 rfl (mc rfl mn) (fun cs hsj hh => by obtain ⟨rfl, rfl⟩ := hh; exact ⟨by first | decide | exact Nat.le_refl _, rfl, rfl⟩)) ?_ ?_
 rintro _ _ ⟨af, rfl, bJ⟩
 refine iR<|d_hresp 3 rfl (o' := Cl 119 (X1497 ++ ([iv a.Promise.From, iv a.Promise.To, iv a.Promise.Dep, iv a.Promise.Arr, iv a.Promise.State, sv L a.Promise.Journey.Rides O, .slice B (put y (x : Int) true).length C, .slice D (put z (x : Int) s).length E, sv F A G, iv a.station, iv a.when] ++ Y1499))) (by simp only [sv, put_length]) ?_
 obtain ⟨bK, aE, aF⟩ := iS b8
 obtain ⟨ch, ci, cy, cz, cj, bj, b0, bk, aX, ck, b1⟩ := OS.get (sz := 1) rfl (by decide) (aw.le h) aF
 obtain ⟨rfl, rfl⟩ := bj
 refine Ei ak (.cons_cons _ (.cons_cons _ (.cons_cons _ (.cons _ (ss af (ss U (.refl _)))))))<|E0 33 rfl (sI bK rfl rfl aE aX bk sl49)<|Eo<|d3 [_, _, _, _] af U d (H ++ (k ++ ((n ++ o) ++ (p ++ R)))) rfl<|Da [34] (by kernel_rfl) rfl ?_
 refine Rd2 ak rfl rfl (uP aE (sz := 1) (a' := t) rfl [_, _, _, _] (af ++ (U ++ (H ++ (k ++ ((n ++ o) ++ (p ++ R)))))) 0 1 [iv t] rfl (aw.le (h.trans ak)) aF rfl rfl rfl siz3 rfl (mc rfl mn) (fun cs hsj hh => by obtain ⟨rfl, rfl⟩ := hh; exact ⟨by first | decide | exact Nat.le_refl _, rfl, rfl⟩)) ?_ ?_
 rintro _ _ ⟨bl, rfl, bL⟩
 refine ⟨.inl (by kernel_rfl), ?_⟩
 refine d_hresp 3 rfl (o' := Cl 119 (X1497 ++ ([iv a.Promise.From, iv a.Promise.To, iv a.Promise.Dep, iv a.Promise.Arr, iv a.Promise.State, sv L a.Promise.Journey.Rides O, .slice B (put y (x : Int) true).length C, .slice D (put z (x : Int) s).length E, .slice F (put A (x : Int) t).length G, iv a.station, iv a.when] ++ Y1499))) (by simp only [sv, put_length])<|Dd (by kernel_rfl)<|Xm<|Xm<|Xn<|Cg<|tS (sa rfl rfl (by omega))<|mV rfl<|Tn ?_
 obtain rfl := o1 hm
 exact jS ⟨k, B, C, U, D, E, af, F, G, bl, rfl, rfl, ((g.trans (h.trans ak))), (aT.le (h.trans ak)), aU, bH, bJ, bL⟩
 exact Rn
 exact Rn
 exact Rn
 exact Rn
 refine D_tail (fun e4 e' hp' => [(0, pb az), (1, iv am), (3, .map (some g3)), (4, iv al), (7, pb ag), (11, .pointer (some ⟨T, an + 0, none⟩)), (12, sv ax ao ay), (41, sv L a.Promise.Journey.Rides O), (42, iv ((a.Promise.Journey.Rides.length : Int))), (43, iv ((x : Int))), (81, sv B y C), (82, iv ((x : Int))), (86, sv D z E), (87, iv ((x : Int))), (91, sv F A G), (92, iv ((x : Int))), (96, .agg #[sv aa X ab, sv ac Y ad, iv Z]), (97, .agg #[iv q.Train, iv q.On, iv q.Off]), (103, .agg #[sv aa X ab, sv ac Y ad, iv Z]), (104, .agg #[iv q.Train, iv q.On, iv q.Off])] = e' ∧ (be, Cl 86 [iv q.Train, iv q.On, iv q.Off]) :: (az, Cl 116 [sv aa X ab, sv ac Y ad, iv Z, iv a6, sv A7 aQ c8, sv a7 aR a8]) :: (ag, Cl 91 [sv bn ah.Day.Trains bo, sv bp ah.Day.Turns bq, iv ah.least]) :: (T, Cl 119 (X1497 ++ ([iv a.Promise.From, iv a.Promise.To, iv a.Promise.Dep, iv a.Promise.Arr, iv a.Promise.State, sv L a.Promise.Journey.Rides O, sv B y C, sv D z E, sv F A G, iv a.station, iv a.when] ++ Y1499))) :: (d ++ (e ++ (f ++ (H ++ (k ++ ((n ++ o) ++ (p ++ R))))))) = hp') 10 #[true, true, true, true, true, true, true, true, true, true, true, true, true, true, true, true, true, true, true, true, false, false, true, true, true, true, true, false, false, false, false, false, false, false, false] ?_ (fun tl2179 => ?_)
 rintro e4 _ _ br ⟨rfl, rfl⟩
 refine Da [20] (by kernel_rfl) rfl ?_
 refine Rg br rfl rfl _ call61 rfl (cGuideNetOff _ _ (⟨(⟨X, Y⟩ : ApiDay), Z⟩ : GuideNet) q aa ab ac ad (aI.le (g.trans (h.trans br))) (aJ.le (g.trans (h.trans br))) t J s K W) ?_ ?_
 rintro _ ba _ c ⟨rfl, rfl⟩
 refine iR<|Ei (br.trans c) (.cons_cons _ (.cons_cons _ (.cons_cons _ (.cons _ (sp d (ss e (ss f (.refl _))))))))<|E0 21 rfl (st_vfield1 (cs := [iv t, iv J, iv s, iv K]) rfl fdv83_2 one3 rfl)<|Eo ?_
 exact dG tl2167 ⟨rfl, rfl⟩ (br.trans c)
 exact Rn
 refine D_tail (fun e5 e' hp' => [(0, pb az), (1, iv am), (3, .map (some g3)), (4, iv al), (7, pb ag), (11, .pointer (some ⟨T, an + 0, none⟩)), (12, sv ax ao ay), (41, sv L a.Promise.Journey.Rides O), (42, iv ((a.Promise.Journey.Rides.length : Int))), (43, iv ((x : Int))), (81, sv B y C), (82, iv ((x : Int))), (86, sv D z E), (87, iv ((x : Int))), (90, .pointer (some ⟨T, an + 8, none⟩)), (92, iv ((x : Int))), (99, iv s), (103, .agg #[sv aa X ab, sv ac Y ad, iv Z]), (104, .agg #[iv q.Train, iv q.On, iv q.Off])] = e' ∧ (be, Cl 86 [iv q.Train, iv q.On, iv q.Off]) :: (az, Cl 116 [sv aa X ab, sv ac Y ad, iv Z, iv a6, sv A7 aQ c8, sv a7 aR a8]) :: (ag, Cl 91 [sv bn ah.Day.Trains bo, sv bp ah.Day.Turns bq, iv ah.least]) :: (T, Cl 119 (X1497 ++ ([iv a.Promise.From, iv a.Promise.To, iv a.Promise.Dep, iv a.Promise.Arr, iv a.Promise.State, sv L a.Promise.Journey.Rides O, sv B y C, sv D z E, sv F A G, iv a.station, iv a.when] ++ Y1499))) :: (d ++ (e ++ (f ++ (H ++ (k ++ ((n ++ o) ++ (p ++ R))))))) = hp') 9 #[true, true, true, true, true, true, true, true, true, true, true, true, true, false, true, true, true, true, true, true, true, true, true, true, true, true, true, false, false, false, false, false, false, false, false] ?_ (fun tl2182 => ?_)
 rintro e5 _ _ aY ⟨rfl, rfl⟩
 refine Da [13, 27] (by kernel_rfl) rfl ?_
 refine Rd2 aY rfl rfl (Stable.does (st_loadX 3 8 hX1504 rfl one49 rfl rfl)) ?_ ?_
 rintro _ _ ⟨rfl, rfl⟩
 refine iR ?_
 exact dG tl2167 ⟨rfl, rfl⟩ aY
 refine Rg aY rfl rfl _ call61 rfl (cGuideNetOff _ _ (⟨(⟨X, Y⟩ : ApiDay), Z⟩ : GuideNet) q aa ab ac ad (aI.le (g.trans (h.trans aY))) (aJ.le (g.trans (h.trans aY))) t J s K W) ?_ ?_
 rintro _ a9 _ m ⟨rfl, rfl⟩
 refine iR<|Ei (aY.trans m) (.cons_cons _ (.cons_cons _ (.cons_cons _ (.cons _ (sp d (ss e (ss f (.refl _))))))))<|E0 28 rfl (st_vfield1 (cs := [iv t, iv J, iv s, iv K]) rfl fdv83_0 one3 rfl)<|Eo ?_
 exact dG tl2170 ⟨rfl, rfl⟩ (aY.trans m)
 exact Rn
 refine D_tail (fun e6 e' hp' => [(0, pb az), (1, iv am), (3, .map (some g3)), (4, iv al), (7, pb ag), (11, .pointer (some ⟨T, an + 0, none⟩)), (12, sv ax ao ay), (41, sv L a.Promise.Journey.Rides O), (42, iv ((a.Promise.Journey.Rides.length : Int))), (43, iv ((x : Int))), (81, sv B y C), (82, iv ((x : Int))), (85, .pointer (some ⟨T, an + 7, none⟩)), (87, iv ((x : Int))), (91, sv F A G), (92, iv ((x : Int))), (99, iv s), (103, .agg #[sv aa X ab, sv ac Y ad, iv Z]), (104, .agg #[iv q.Train, iv q.On, iv q.Off])] = e' ∧ (be, Cl 86 [iv q.Train, iv q.On, iv q.Off]) :: (az, Cl 116 [sv aa X ab, sv ac Y ad, iv Z, iv a6, sv A7 aQ c8, sv a7 aR a8]) :: (ag, Cl 91 [sv bn ah.Day.Trains bo, sv bp ah.Day.Turns bq, iv ah.least]) :: (T, Cl 119 (X1497 ++ ([iv a.Promise.From, iv a.Promise.To, iv a.Promise.Dep, iv a.Promise.Arr, iv a.Promise.State, sv L a.Promise.Journey.Rides O, sv B y C, sv D z E, sv F A G, iv a.station, iv a.when] ++ Y1499))) :: (d ++ (e ++ (f ++ (H ++ (k ++ ((n ++ o) ++ (p ++ R))))))) = hp') 9 #[true, true, true, true, true, true, true, true, false, true, true, true, true, true, true, true, true, true, true, true, true, true, true, true, true, true, true, false, false, false, false, false, false, false, false] ?_ (fun tl2185 => ?_)
 rintro e6 _ _ aZ ⟨rfl, rfl⟩
 refine Da [8, 27] (by kernel_rfl) rfl ?_
 refine Rd2 aZ rfl rfl (Stable.does (st_loadX 3 7 hX1504 rfl one49 rfl rfl)) ?_ ?_
 rintro _ _ ⟨rfl, rfl⟩
 refine iR ?_
 exact dG tl2167 ⟨rfl, rfl⟩ aZ
 refine Rg aZ rfl rfl _ call61 rfl (cGuideNetOff _ _ (⟨(⟨X, Y⟩ : ApiDay), Z⟩ : GuideNet) q aa ab ac ad (aI.le (g.trans (h.trans aZ))) (aJ.le (g.trans (h.trans aZ))) t J s K W) ?_ ?_
 rintro _ a9 _ m ⟨rfl, rfl⟩
 refine iR<|Ei (aZ.trans m) (.cons_cons _ (.cons_cons _ (.cons_cons _ (.cons _ (sp d (ss e (ss f (.refl _))))))))<|E0 28 rfl (st_vfield1 (cs := [iv t, iv J, iv s, iv K]) rfl fdv83_0 one3 rfl)<|Eo ?_
 exact dG tl2173 ⟨rfl, rfl⟩ (aZ.trans m)
 exact Rn
 refine D_tail (fun e7 e' hp' => [(0, pb az), (1, iv am), (3, .map (some g3)), (4, iv al), (7, pb ag), (11, .pointer (some ⟨T, an + 0, none⟩)), (12, sv ax ao ay), (41, sv L a.Promise.Journey.Rides O), (42, iv ((a.Promise.Journey.Rides.length : Int))), (43, iv ((x : Int))), (80, .pointer (some ⟨T, an + 6, none⟩)), (82, iv ((x : Int))), (86, sv D z E), (87, iv ((x : Int))), (91, sv F A G), (92, iv ((x : Int))), (99, iv s), (103, .agg #[sv aa X ab, sv ac Y ad, iv Z]), (104, .agg #[iv q.Train, iv q.On, iv q.Off])] = e' ∧ (be, Cl 86 [iv q.Train, iv q.On, iv q.Off]) :: (az, Cl 116 [sv aa X ab, sv ac Y ad, iv Z, iv a6, sv A7 aQ c8, sv a7 aR a8]) :: (ag, Cl 91 [sv bn ah.Day.Trains bo, sv bp ah.Day.Turns bq, iv ah.least]) :: (T, Cl 119 (X1497 ++ ([iv a.Promise.From, iv a.Promise.To, iv a.Promise.Dep, iv a.Promise.Arr, iv a.Promise.State, sv L a.Promise.Journey.Rides O, sv B y C, sv D z E, sv F A G, iv a.station, iv a.when] ++ Y1499))) :: (d ++ (e ++ (f ++ (H ++ (k ++ ((n ++ o) ++ (p ++ R))))))) = hp') 9 #[true, true, true, false, true, true, true, true, true, true, true, true, true, true, true, true, true, true, true, true, true, true, true, true, true, true, true, false, false, false, false, false, false, false, false] ?_ (fun tl2188 => ?_)
 rintro e7 _ _ a0 ⟨rfl, rfl⟩
 refine Da [3, 27] (by kernel_rfl) rfl ?_
 refine Rd2 a0 rfl rfl (Stable.does (st_loadX 3 6 hX1504 rfl one117 rfl rfl)) ?_ ?_
 rintro _ _ ⟨rfl, rfl⟩
 refine iR ?_
 exact dG tl2167 ⟨rfl, rfl⟩ a0
 refine Rg a0 rfl rfl _ call61 rfl (cGuideNetOff _ _ (⟨(⟨X, Y⟩ : ApiDay), Z⟩ : GuideNet) q aa ab ac ad (aI.le (g.trans (h.trans a0))) (aJ.le (g.trans (h.trans a0))) t J s K W) ?_ ?_
 rintro _ a9 _ m ⟨rfl, rfl⟩
 refine iR<|Ei (a0.trans m) (.cons_cons _ (.cons_cons _ (.cons_cons _ (.cons _ (sp d (ss e (ss f (.refl _))))))))<|E0 28 rfl (st_vfield1 (cs := [iv t, iv J, iv s, iv K]) rfl fdv83_0 one3 rfl)<|Eo ?_
 exact dG tl2176 ⟨rfl, rfl⟩ (a0.trans m)
 exact Rn
 refine Ei lr (.cons_cons _ (.cons_cons _ (.cons_cons _ (.cons _ (sp d (ss e (ss f (.refl _))))))))<|E0 0 rfl (sM rfl)<|E0 1 rfl (sN rfl)<|E0 2 rfl (sF rfl fld119_1)<|E0 4 rfl (sM rfl)<|E0 5 rfl (sM rfl)<|E0 6 rfl (sN rfl)<|E0 7 rfl (sF rfl fld119_2)<|E0 9 rfl (sM rfl)<|E0 10 rfl (sM rfl) ?_
 refine E0 11 rfl (sN rfl)<|E0 12 rfl (sF rfl fld119_3)<|E0 14 rfl (sM rfl)<|E0 15 rfl (sM rfl)<|E0 16 rfl (sN rfl)<|E0 17 rfl (sF rfl fld116_0)<|Es 18 rfl (sD (vs := [_, _, _]) 1 3 rfl agg91 rfl rfl rfl)<|Es 19 rfl (sD (vs := [_, _, _]) 0 3 rfl agg86 rfl rfl rfl)<|E0 22 rfl (sM rfl)<|E0 23 rfl (sN rfl) ?_
 refine E0 24 rfl (sF rfl fld116_0)<|Es 25 rfl (sD (vs := [_, _, _]) 1 3 rfl agg91 rfl rfl rfl)<|Es 26 rfl (sD (vs := [_, _, _]) 0 3 rfl agg86 rfl rfl rfl)<|Eo<|Da [3, 8, 13, 20] (by kernel_rfl) rfl ?_
 refine Rd2 lr rfl rfl (Stable.does (st_loadX 3 6 hX1504 rfl one117 rfl rfl)) ?_ ?_
 rintro _ _ ⟨rfl, rfl⟩
 refine iR<|Da [8, 13, 20] (by kernel_rfl) rfl ?_
 refine Rd2 lr rfl rfl (Stable.does (st_loadX 3 7 hX1504 rfl one49 rfl rfl)) ?_ ?_
 rintro _ _ ⟨rfl, rfl⟩
 refine iR<|Da [13, 20] (by kernel_rfl) rfl ?_
 refine Rd2 lr rfl rfl (Stable.does (st_loadX 3 8 hX1504 rfl one49 rfl rfl)) ?_ ?_
 rintro _ _ ⟨rfl, rfl⟩
 refine iR ?_
 exact dG tl2179 ⟨rfl, rfl⟩ lr
 refine Rg lr rfl rfl _ call61 rfl (cGuideNetOff _ _ (⟨(⟨X, Y⟩ : ApiDay), Z⟩ : GuideNet) q aa ab ac ad (aI.le (g.trans h)) (aJ.le (g.trans h)) t J s K W) ?_ ?_
 rintro _ ba _ c ⟨rfl, rfl⟩
 refine iR<|Ei c (.cons_cons _ (.cons_cons _ (.cons_cons _ (.cons _ (sp d (ss e (ss f (.refl _))))))))<|E0 21 rfl (st_vfield1 (cs := [iv t, iv J, iv s, iv K]) rfl fdv83_2 one3 rfl)<|Eo ?_
 exact dG tl2182 ⟨rfl, rfl⟩ c
 exact Rn
 refine Rd2 lr rfl rfl (Stable.does (st_loadX 3 8 hX1504 rfl one49 rfl rfl)) ?_ ?_
 rintro _ _ ⟨rfl, rfl⟩
 refine iR<|Da [8, 20] (by kernel_rfl) rfl ?_
 refine Rd2 lr rfl rfl (Stable.does (st_loadX 3 7 hX1504 rfl one49 rfl rfl)) ?_ ?_
 rintro _ _ ⟨rfl, rfl⟩
 refine iR ?_
 exact dG tl2179 ⟨rfl, rfl⟩ lr
 refine Rg lr rfl rfl _ call61 rfl (cGuideNetOff _ _ (⟨(⟨X, Y⟩ : ApiDay), Z⟩ : GuideNet) q aa ab ac ad (aI.le (g.trans h)) (aJ.le (g.trans h)) t J s K W) ?_ ?_
 rintro _ ba _ c ⟨rfl, rfl⟩
 refine iR<|Ei c (.cons_cons _ (.cons_cons _ (.cons_cons _ (.cons _ (sp d (ss e (ss f (.refl _))))))))<|E0 21 rfl (st_vfield1 (cs := [iv t, iv J, iv s, iv K]) rfl fdv83_2 one3 rfl)<|Eo ?_
 exact dG tl2185 ⟨rfl, rfl⟩ c
 exact Rn
 refine Rg lr rfl rfl _ call61 rfl (cGuideNetOff _ _ (⟨(⟨X, Y⟩ : ApiDay), Z⟩ : GuideNet) q aa ab ac ad (aI.le (g.trans h)) (aJ.le (g.trans h)) t J s K W) ?_ ?_
 rintro _ ba _ c ⟨rfl, rfl⟩
 refine iR<|Ei c (.cons_cons _ (.cons_cons _ (.cons_cons _ (.cons _ (sp d (ss e (ss f (.refl _))))))))<|E0 21 rfl (st_vfield1 (cs := [iv t, iv J, iv s, iv K]) rfl fdv83_2 one3 rfl)<|Eo<|Da [8, 13, 27] (by kernel_rfl) rfl ?_
 refine Rd2 c rfl rfl (Stable.does (st_loadX 3 7 hX1504 rfl one49 rfl rfl)) ?_ ?_
 rintro _ _ ⟨rfl, rfl⟩
 refine iR ?_
 exact dG tl2182 ⟨rfl, rfl⟩ c
 refine Rd2 c rfl rfl (Stable.does (st_loadX 3 8 hX1504 rfl one49 rfl rfl)) ?_ ?_
 rintro _ _ ⟨rfl, rfl⟩
 refine iR ?_
 exact dG tl2185 ⟨rfl, rfl⟩ c
 refine Rg c rfl rfl _ call61 rfl (cGuideNetOff _ _ (⟨(⟨X, Y⟩ : ApiDay), Z⟩ : GuideNet) q aa ab ac ad (aI.le (g.trans (h.trans c))) (aJ.le (g.trans (h.trans c))) t J s K W) ?_ ?_
 rintro _ a9 _ m ⟨rfl, rfl⟩
 refine iR<|Ei (c.trans m) (.cons_cons _ (.cons_cons _ (.cons_cons _ (.cons _ (sp d (ss e (ss f (.refl _))))))))<|E0 28 rfl (st_vfield1 (cs := [iv t, iv J, iv s, iv K]) rfl fdv83_0 one3 rfl)<|Eo<|Da [8, 13] (by kernel_rfl) rfl ?_
 refine Rd2 (c.trans m) rfl rfl (Stable.does (st_loadX 3 7 hX1504 rfl one49 rfl rfl)) ?_ ?_
 rintro _ _ ⟨rfl, rfl⟩
 refine iR ?_
 exact dG tl2170 ⟨rfl, rfl⟩ (c.trans m)
 refine Rd2 (c.trans m) rfl rfl (Stable.does (st_loadX 3 8 hX1504 rfl one49 rfl rfl)) ?_ ?_
 rintro _ _ ⟨rfl, rfl⟩
 refine iR ?_
 exact dG tl2173 ⟨rfl, rfl⟩ (c.trans m)
 exact Rn
 exact Rn
 exact Rn
 refine Rd2 lr rfl rfl (Stable.does (st_loadX 3 7 hX1504 rfl one49 rfl rfl)) ?_ ?_
 rintro _ _ ⟨rfl, rfl⟩
 refine iR<|Da [3, 13, 20] (by kernel_rfl) rfl ?_
 refine Rd2 lr rfl rfl (Stable.does (st_loadX 3 6 hX1504 rfl one117 rfl rfl)) ?_ ?_
 rintro _ _ ⟨rfl, rfl⟩
 refine iR<|Da [13, 20] (by kernel_rfl) rfl ?_
 refine Rd2 lr rfl rfl (Stable.does (st_loadX 3 8 hX1504 rfl one49 rfl rfl)) ?_ ?_
 rintro _ _ ⟨rfl, rfl⟩
 refine iR ?_
 exact dG tl2179 ⟨rfl, rfl⟩ lr
 refine Rg lr rfl rfl _ call61 rfl (cGuideNetOff _ _ (⟨(⟨X, Y⟩ : ApiDay), Z⟩ : GuideNet) q aa ab ac ad (aI.le (g.trans h)) (aJ.le (g.trans h)) t J s K W) ?_ ?_
 rintro _ ba _ c ⟨rfl, rfl⟩
 refine iR<|Ei c (.cons_cons _ (.cons_cons _ (.cons_cons _ (.cons _ (sp d (ss e (ss f (.refl _))))))))<|E0 21 rfl (st_vfield1 (cs := [iv t, iv J, iv s, iv K]) rfl fdv83_2 one3 rfl)<|Eo ?_
 exact dG tl2182 ⟨rfl, rfl⟩ c
 exact Rn
 refine Rd2 lr rfl rfl (Stable.does (st_loadX 3 8 hX1504 rfl one49 rfl rfl)) ?_ ?_
 rintro _ _ ⟨rfl, rfl⟩
 refine iR<|Da [3, 20] (by kernel_rfl) rfl ?_
 refine Rd2 lr rfl rfl (Stable.does (st_loadX 3 6 hX1504 rfl one117 rfl rfl)) ?_ ?_
 rintro _ _ ⟨rfl, rfl⟩
 refine iR ?_
 exact dG tl2179 ⟨rfl, rfl⟩ lr
 refine Rg lr rfl rfl _ call61 rfl (cGuideNetOff _ _ (⟨(⟨X, Y⟩ : ApiDay), Z⟩ : GuideNet) q aa ab ac ad (aI.le (g.trans h)) (aJ.le (g.trans h)) t J s K W) ?_ ?_
 rintro _ ba _ c ⟨rfl, rfl⟩
 refine iR<|Ei c (.cons_cons _ (.cons_cons _ (.cons_cons _ (.cons _ (sp d (ss e (ss f (.refl _))))))))<|E0 21 rfl (st_vfield1 (cs := [iv t, iv J, iv s, iv K]) rfl fdv83_2 one3 rfl)<|Eo ?_
 exact dG tl2188 ⟨rfl, rfl⟩ c
 exact Rn
 refine Rg lr rfl rfl _ call61 rfl (cGuideNetOff _ _ (⟨(⟨X, Y⟩ : ApiDay), Z⟩ : GuideNet) q aa ab ac ad (aI.le (g.trans h)) (aJ.le (g.trans h)) t J s K W) ?_ ?_
 rintro _ ba _ c ⟨rfl, rfl⟩
 refine iR<|Ei c (.cons_cons _ (.cons_cons _ (.cons_cons _ (.cons _ (sp d (ss e (ss f (.refl _))))))))<|E0 21 rfl (st_vfield1 (cs := [iv t, iv J, iv s, iv K]) rfl fdv83_2 one3 rfl)<|Eo<|Da [3, 13, 27] (by kernel_rfl) rfl ?_
 refine Rd2 c rfl rfl (Stable.does (st_loadX 3 6 hX1504 rfl one117 rfl rfl)) ?_ ?_
 rintro _ _ ⟨rfl, rfl⟩
 refine iR ?_
 exact dG tl2182 ⟨rfl, rfl⟩ c
 refine Rd2 c rfl rfl (Stable.does (st_loadX 3 8 hX1504 rfl one49 rfl rfl)) ?_ ?_
 rintro _ _ ⟨rfl, rfl⟩
 refine iR ?_
 exact dG tl2188 ⟨rfl, rfl⟩ c
 refine Rg c rfl rfl _ call61 rfl (cGuideNetOff _ _ (⟨(⟨X, Y⟩ : ApiDay), Z⟩ : GuideNet) q aa ab ac ad (aI.le (g.trans (h.trans c))) (aJ.le (g.trans (h.trans c))) t J s K W) ?_ ?_
 rintro _ a9 _ m ⟨rfl, rfl⟩
 refine iR<|Ei (c.trans m) (.cons_cons _ (.cons_cons _ (.cons_cons _ (.cons _ (sp d (ss e (ss f (.refl _))))))))<|E0 28 rfl (st_vfield1 (cs := [iv t, iv J, iv s, iv K]) rfl fdv83_0 one3 rfl)<|Eo<|Da [3, 13] (by kernel_rfl) rfl ?_
 refine Rd2 (c.trans m) rfl rfl (Stable.does (st_loadX 3 6 hX1504 rfl one117 rfl rfl)) ?_ ?_
 rintro _ _ ⟨rfl, rfl⟩
 refine iR ?_
 exact dG tl2170 ⟨rfl, rfl⟩ (c.trans m)
 refine Rd2 (c.trans m) rfl rfl (Stable.does (st_loadX 3 8 hX1504 rfl one49 rfl rfl)) ?_ ?_
 rintro _ _ ⟨rfl, rfl⟩
 refine iR ?_
 exact dG tl2176 ⟨rfl, rfl⟩ (c.trans m)
 exact Rn
 exact Rn
 exact Rn
 refine Rd2 lr rfl rfl (Stable.does (st_loadX 3 8 hX1504 rfl one49 rfl rfl)) ?_ ?_
 rintro _ _ ⟨rfl, rfl⟩
 refine iR<|Da [3, 8, 20] (by kernel_rfl) rfl ?_
 refine Rd2 lr rfl rfl (Stable.does (st_loadX 3 6 hX1504 rfl one117 rfl rfl)) ?_ ?_
 rintro _ _ ⟨rfl, rfl⟩
 refine iR<|Da [8, 20] (by kernel_rfl) rfl ?_
 refine Rd2 lr rfl rfl (Stable.does (st_loadX 3 7 hX1504 rfl one49 rfl rfl)) ?_ ?_
 rintro _ _ ⟨rfl, rfl⟩
 refine iR ?_
 exact dG tl2179 ⟨rfl, rfl⟩ lr
 refine Rg lr rfl rfl _ call61 rfl (cGuideNetOff _ _ (⟨(⟨X, Y⟩ : ApiDay), Z⟩ : GuideNet) q aa ab ac ad (aI.le (g.trans h)) (aJ.le (g.trans h)) t J s K W) ?_ ?_
 rintro _ ba _ c ⟨rfl, rfl⟩
 refine iR<|Ei c (.cons_cons _ (.cons_cons _ (.cons_cons _ (.cons _ (sp d (ss e (ss f (.refl _))))))))<|E0 21 rfl (st_vfield1 (cs := [iv t, iv J, iv s, iv K]) rfl fdv83_2 one3 rfl)<|Eo ?_
 exact dG tl2185 ⟨rfl, rfl⟩ c
 exact Rn
 refine Rd2 lr rfl rfl (Stable.does (st_loadX 3 7 hX1504 rfl one49 rfl rfl)) ?_ ?_
 rintro _ _ ⟨rfl, rfl⟩
 refine iR<|Da [3, 20] (by kernel_rfl) rfl ?_
 refine Rd2 lr rfl rfl (Stable.does (st_loadX 3 6 hX1504 rfl one117 rfl rfl)) ?_ ?_
 rintro _ _ ⟨rfl, rfl⟩
 refine iR ?_
 exact dG tl2179 ⟨rfl, rfl⟩ lr
 refine Rg lr rfl rfl _ call61 rfl (cGuideNetOff _ _ (⟨(⟨X, Y⟩ : ApiDay), Z⟩ : GuideNet) q aa ab ac ad (aI.le (g.trans h)) (aJ.le (g.trans h)) t J s K W) ?_ ?_
 rintro _ ba _ c ⟨rfl, rfl⟩
 refine iR<|Ei c (.cons_cons _ (.cons_cons _ (.cons_cons _ (.cons _ (sp d (ss e (ss f (.refl _))))))))<|E0 21 rfl (st_vfield1 (cs := [iv t, iv J, iv s, iv K]) rfl fdv83_2 one3 rfl)<|Eo ?_
 exact dG tl2188 ⟨rfl, rfl⟩ c
 exact Rn
 refine Rg lr rfl rfl _ call61 rfl (cGuideNetOff _ _ (⟨(⟨X, Y⟩ : ApiDay), Z⟩ : GuideNet) q aa ab ac ad (aI.le (g.trans h)) (aJ.le (g.trans h)) t J s K W) ?_ ?_
 rintro _ ba _ c ⟨rfl, rfl⟩
 refine iR<|Ei c (.cons_cons _ (.cons_cons _ (.cons_cons _ (.cons _ (sp d (ss e (ss f (.refl _))))))))<|E0 21 rfl (st_vfield1 (cs := [iv t, iv J, iv s, iv K]) rfl fdv83_2 one3 rfl)<|Eo<|Da [3, 8, 27] (by kernel_rfl) rfl ?_
 refine Rd2 c rfl rfl (Stable.does (st_loadX 3 6 hX1504 rfl one117 rfl rfl)) ?_ ?_
 rintro _ _ ⟨rfl, rfl⟩
 refine iR ?_
 exact dG tl2185 ⟨rfl, rfl⟩ c
 refine Rd2 c rfl rfl (Stable.does (st_loadX 3 7 hX1504 rfl one49 rfl rfl)) ?_ ?_
 rintro _ _ ⟨rfl, rfl⟩
 refine iR ?_
 exact dG tl2188 ⟨rfl, rfl⟩ c
 refine Rg c rfl rfl _ call61 rfl (cGuideNetOff _ _ (⟨(⟨X, Y⟩ : ApiDay), Z⟩ : GuideNet) q aa ab ac ad (aI.le (g.trans (h.trans c))) (aJ.le (g.trans (h.trans c))) t J s K W) ?_ ?_
 rintro _ a9 _ m ⟨rfl, rfl⟩
 refine iR<|Ei (c.trans m) (.cons_cons _ (.cons_cons _ (.cons_cons _ (.cons _ (sp d (ss e (ss f (.refl _))))))))<|E0 28 rfl (st_vfield1 (cs := [iv t, iv J, iv s, iv K]) rfl fdv83_0 one3 rfl)<|Eo<|Da [3, 8] (by kernel_rfl) rfl ?_
 refine Rd2 (c.trans m) rfl rfl (Stable.does (st_loadX 3 6 hX1504 rfl one117 rfl rfl)) ?_ ?_
 rintro _ _ ⟨rfl, rfl⟩
 refine iR ?_
 exact dG tl2173 ⟨rfl, rfl⟩ (c.trans m)
 refine Rd2 (c.trans m) rfl rfl (Stable.does (st_loadX 3 7 hX1504 rfl one49 rfl rfl)) ?_ ?_
 rintro _ _ ⟨rfl, rfl⟩
 refine iR ?_
 exact dG tl2176 ⟨rfl, rfl⟩ (c.trans m)
 exact Rn
 exact Rn
 exact Rn
 refine Rg lr rfl rfl _ call61 rfl (cGuideNetOff _ _ (⟨(⟨X, Y⟩ : ApiDay), Z⟩ : GuideNet) q aa ab ac ad (aI.le (g.trans h)) (aJ.le (g.trans h)) t J s K W) ?_ ?_
 rintro _ ba _ c ⟨rfl, rfl⟩
 refine iR<|Ei c (.cons_cons _ (.cons_cons _ (.cons_cons _ (.cons _ (sp d (ss e (ss f (.refl _))))))))<|E0 21 rfl (st_vfield1 (cs := [iv t, iv J, iv s, iv K]) rfl fdv83_2 one3 rfl)<|Eo<|Da [3, 8, 13, 27] (by kernel_rfl) rfl ?_
 refine Rd2 c rfl rfl (Stable.does (st_loadX 3 6 hX1504 rfl one117 rfl rfl)) ?_ ?_
 rintro _ _ ⟨rfl, rfl⟩
 refine iR<|Da [8, 13, 27] (by kernel_rfl) rfl ?_
 refine Rd2 c rfl rfl (Stable.does (st_loadX 3 7 hX1504 rfl one49 rfl rfl)) ?_ ?_
 rintro _ _ ⟨rfl, rfl⟩
 refine iR ?_
 exact dG tl2182 ⟨rfl, rfl⟩ c
 refine Rd2 c rfl rfl (Stable.does (st_loadX 3 8 hX1504 rfl one49 rfl rfl)) ?_ ?_
 rintro _ _ ⟨rfl, rfl⟩
 refine iR ?_
 exact dG tl2185 ⟨rfl, rfl⟩ c
 refine Rg c rfl rfl _ call61 rfl (cGuideNetOff _ _ (⟨(⟨X, Y⟩ : ApiDay), Z⟩ : GuideNet) q aa ab ac ad (aI.le (g.trans (h.trans c))) (aJ.le (g.trans (h.trans c))) t J s K W) ?_ ?_
 rintro _ a9 _ m ⟨rfl, rfl⟩
 refine iR<|Ei (c.trans m) (.cons_cons _ (.cons_cons _ (.cons_cons _ (.cons _ (sp d (ss e (ss f (.refl _))))))))<|E0 28 rfl (st_vfield1 (cs := [iv t, iv J, iv s, iv K]) rfl fdv83_0 one3 rfl)<|Eo<|Da [8, 13] (by kernel_rfl) rfl ?_
 refine Rd2 (c.trans m) rfl rfl (Stable.does (st_loadX 3 7 hX1504 rfl one49 rfl rfl)) ?_ ?_
 rintro _ _ ⟨rfl, rfl⟩
 refine iR ?_
 exact dG tl2170 ⟨rfl, rfl⟩ (c.trans m)
 refine Rd2 (c.trans m) rfl rfl (Stable.does (st_loadX 3 8 hX1504 rfl one49 rfl rfl)) ?_ ?_
 rintro _ _ ⟨rfl, rfl⟩
 refine iR ?_
 exact dG tl2173 ⟨rfl, rfl⟩ (c.trans m)
 exact Rn
 exact Rn
 refine Rd2 c rfl rfl (Stable.does (st_loadX 3 7 hX1504 rfl one49 rfl rfl)) ?_ ?_
 rintro _ _ ⟨rfl, rfl⟩
 refine iR<|Da [3, 13, 27] (by kernel_rfl) rfl ?_
 refine Rd2 c rfl rfl (Stable.does (st_loadX 3 6 hX1504 rfl one117 rfl rfl)) ?_ ?_
 rintro _ _ ⟨rfl, rfl⟩
 refine iR ?_
 exact dG tl2182 ⟨rfl, rfl⟩ c
 refine Rd2 c rfl rfl (Stable.does (st_loadX 3 8 hX1504 rfl one49 rfl rfl)) ?_ ?_
 rintro _ _ ⟨rfl, rfl⟩
 refine iR ?_
 exact dG tl2188 ⟨rfl, rfl⟩ c
 refine Rg c rfl rfl _ call61 rfl (cGuideNetOff _ _ (⟨(⟨X, Y⟩ : ApiDay), Z⟩ : GuideNet) q aa ab ac ad (aI.le (g.trans (h.trans c))) (aJ.le (g.trans (h.trans c))) t J s K W) ?_ ?_
 rintro _ a9 _ m ⟨rfl, rfl⟩
 refine iR<|Ei (c.trans m) (.cons_cons _ (.cons_cons _ (.cons_cons _ (.cons _ (sp d (ss e (ss f (.refl _))))))))<|E0 28 rfl (st_vfield1 (cs := [iv t, iv J, iv s, iv K]) rfl fdv83_0 one3 rfl)<|Eo<|Da [3, 13] (by kernel_rfl) rfl ?_
 refine Rd2 (c.trans m) rfl rfl (Stable.does (st_loadX 3 6 hX1504 rfl one117 rfl rfl)) ?_ ?_
 rintro _ _ ⟨rfl, rfl⟩
 refine iR ?_
 exact dG tl2170 ⟨rfl, rfl⟩ (c.trans m)
 refine Rd2 (c.trans m) rfl rfl (Stable.does (st_loadX 3 8 hX1504 rfl one49 rfl rfl)) ?_ ?_
 rintro _ _ ⟨rfl, rfl⟩
 refine iR ?_
 exact dG tl2176 ⟨rfl, rfl⟩ (c.trans m)
 exact Rn
 exact Rn
 refine Rd2 c rfl rfl (Stable.does (st_loadX 3 8 hX1504 rfl one49 rfl rfl)) ?_ ?_
 rintro _ _ ⟨rfl, rfl⟩
 refine iR<|Da [3, 8, 27] (by kernel_rfl) rfl ?_
 refine Rd2 c rfl rfl (Stable.does (st_loadX 3 6 hX1504 rfl one117 rfl rfl)) ?_ ?_
 rintro _ _ ⟨rfl, rfl⟩
 refine iR ?_
 exact dG tl2185 ⟨rfl, rfl⟩ c
 refine Rd2 c rfl rfl (Stable.does (st_loadX 3 7 hX1504 rfl one49 rfl rfl)) ?_ ?_
 rintro _ _ ⟨rfl, rfl⟩
 refine iR ?_
 exact dG tl2188 ⟨rfl, rfl⟩ c
 refine Rg c rfl rfl _ call61 rfl (cGuideNetOff _ _ (⟨(⟨X, Y⟩ : ApiDay), Z⟩ : GuideNet) q aa ab ac ad (aI.le (g.trans (h.trans c))) (aJ.le (g.trans (h.trans c))) t J s K W) ?_ ?_
 rintro _ a9 _ m ⟨rfl, rfl⟩
 refine iR<|Ei (c.trans m) (.cons_cons _ (.cons_cons _ (.cons_cons _ (.cons _ (sp d (ss e (ss f (.refl _))))))))<|E0 28 rfl (st_vfield1 (cs := [iv t, iv J, iv s, iv K]) rfl fdv83_0 one3 rfl)<|Eo<|Da [3, 8] (by kernel_rfl) rfl ?_
 refine Rd2 (c.trans m) rfl rfl (Stable.does (st_loadX 3 6 hX1504 rfl one117 rfl rfl)) ?_ ?_
 rintro _ _ ⟨rfl, rfl⟩
 refine iR ?_
 exact dG tl2173 ⟨rfl, rfl⟩ (c.trans m)
 refine Rd2 (c.trans m) rfl rfl (Stable.does (st_loadX 3 7 hX1504 rfl one49 rfl rfl)) ?_ ?_
 rintro _ _ ⟨rfl, rfl⟩
 refine iR ?_
 exact dG tl2176 ⟨rfl, rfl⟩ (c.trans m)
 exact Rn
 exact Rn
 refine Rg c rfl rfl _ call61 rfl (cGuideNetOff _ _ (⟨(⟨X, Y⟩ : ApiDay), Z⟩ : GuideNet) q aa ab ac ad (aI.le (g.trans (h.trans c))) (aJ.le (g.trans (h.trans c))) t J s K W) ?_ ?_
 rintro _ a9 _ m ⟨rfl, rfl⟩
 refine iR<|Ei (c.trans m) (.cons_cons _ (.cons_cons _ (.cons_cons _ (.cons _ (sp d (ss e (ss f (.refl _))))))))<|E0 28 rfl (st_vfield1 (cs := [iv t, iv J, iv s, iv K]) rfl fdv83_0 one3 rfl)<|Eo<|Da [3, 8, 13] (by kernel_rfl) rfl ?_
 refine Rd2 (c.trans m) rfl rfl (Stable.does (st_loadX 3 6 hX1504 rfl one117 rfl rfl)) ?_ ?_
 rintro _ _ ⟨rfl, rfl⟩
 refine iR<|Da [8, 13] (by kernel_rfl) rfl ?_
 refine Rd2 (c.trans m) rfl rfl (Stable.does (st_loadX 3 7 hX1504 rfl one49 rfl rfl)) ?_ ?_
 rintro _ _ ⟨rfl, rfl⟩
 refine iR ?_
 exact dG tl2170 ⟨rfl, rfl⟩ (c.trans m)
 refine Rd2 (c.trans m) rfl rfl (Stable.does (st_loadX 3 8 hX1504 rfl one49 rfl rfl)) ?_ ?_
 rintro _ _ ⟨rfl, rfl⟩
 refine iR ?_
 exact dG tl2173 ⟨rfl, rfl⟩ (c.trans m)
 exact Rn
 refine Rd2 (c.trans m) rfl rfl (Stable.does (st_loadX 3 7 hX1504 rfl one49 rfl rfl)) ?_ ?_
 rintro _ _ ⟨rfl, rfl⟩
 refine iR<|Da [3, 13] (by kernel_rfl) rfl ?_
 refine Rd2 (c.trans m) rfl rfl (Stable.does (st_loadX 3 6 hX1504 rfl one117 rfl rfl)) ?_ ?_
 rintro _ _ ⟨rfl, rfl⟩
 refine iR ?_
 exact dG tl2170 ⟨rfl, rfl⟩ (c.trans m)
 refine Rd2 (c.trans m) rfl rfl (Stable.does (st_loadX 3 8 hX1504 rfl one49 rfl rfl)) ?_ ?_
 rintro _ _ ⟨rfl, rfl⟩
 refine iR ?_
 exact dG tl2176 ⟨rfl, rfl⟩ (c.trans m)
 exact Rn
 refine Rd2 (c.trans m) rfl rfl (Stable.does (st_loadX 3 8 hX1504 rfl one49 rfl rfl)) ?_ ?_
 rintro _ _ ⟨rfl, rfl⟩
 refine iR<|Da [3, 8] (by kernel_rfl) rfl ?_
 refine Rd2 (c.trans m) rfl rfl (Stable.does (st_loadX 3 6 hX1504 rfl one117 rfl rfl)) ?_ ?_
 rintro _ _ ⟨rfl, rfl⟩
 refine iR ?_
 exact dG tl2173 ⟨rfl, rfl⟩ (c.trans m)
 refine Rd2 (c.trans m) rfl rfl (Stable.does (st_loadX 3 7 hX1504 rfl one49 rfl rfl)) ?_ ?_
 rintro _ _ ⟨rfl, rfl⟩
 refine iR ?_
 exact dG tl2176 ⟨rfl, rfl⟩ (c.trans m)
 exact Rn
 exact Rn
 exact Rn
 exact Rn
 obtain ⟨⟨c6, c7, c9, b2⟩, da, hm⟩ := bS hm
 have hm := (unc4E hm)
 obtain ⟨gE, e8, hm⟩ := bS hm
 refine c_front2 [_, _, _, _] H k ((n ++ o) ++ (p ++ (f ++ (e ++ (d ++ R))))) rfl<|Di mixed (.refl _)<|E0 0 rfl (sM rfl)<|E0 1 rfl (sM rfl)<|E0 2 rfl (sM rfl)<|E0 3 rfl (sN rfl)<|E0 4 rfl (sF rfl fld116_0)<|Es 5 rfl (sD (vs := [_, _, _]) 1 3 rfl agg91 rfl rfl rfl)<|Es 6 rfl (sD (vs := [_, _, _]) 0 3 rfl agg86 rfl rfl rfl)<|E0 9 rfl (sM rfl) ?_
 refine Eo<|Da [7] (by kernel_rfl) rfl ?_
 refine Rg lr rfl rfl _ call60 rfl (cGuideNetOn _ _ (⟨(⟨X, Y⟩ : ApiDay), Z⟩ : GuideNet) q aa ab ac ad (aI.le (g.trans h)) (aJ.le (g.trans h)) c6 c7 c9 b2 da) ?_ ?_
 rintro _ gF _ a1 ⟨rfl, rfl⟩
 refine ⟨.inl (by kernel_rfl), ?_⟩
 refine El a1<|E0 8 rfl (st_vfield1 (cs := [iv c6, iv c7, iv c9, iv b2]) rfl fdv83_3 one3 rfl)<|E0 10 rfl (q4 rfl rfl) ?_
 obtain ⟨e9, cO, cP⟩ := iS e8
 obtain ⟨f1, f2, gG, gH, f3, d8, fJ, d9, db, f4, fK⟩ := OS.get (sz := 1) rfl (by decide) (aT.le h) cP
 obtain ⟨rfl, rfl⟩ := d8
 refine E0 11 rfl (sI e9 rfl rfl cO db d9 sl117)<|Eo<|Da [12] (by kernel_rfl) rfl ?_
 refine Rd2 a1 rfl rfl (uP cO (sz := 1) (a' := decide (b2 ≤ al)) rfl [_, _, _, _] (H ++ ((n ++ o) ++ (p ++ (f ++ (e ++ (d ++ R)))))) 0 1 [.bool (decide (b2 ≤ al))] rfl (aT.le (h.trans a1)) cP rfl rfl rfl siz4 rfl (mc rfl mn) (fun cs hsj hh => by obtain ⟨rfl, rfl⟩ := hh; exact ⟨by first | decide | exact Nat.le_refl _, rfl, rfl⟩)) ?_ ?_
 rintro _ _ ⟨ea, rfl, fa⟩
 refine ⟨.inl (by kernel_rfl), ?_⟩
 refine d_resp 12 rfl (v' := .slice ax (put ao (x : Int) (decide (b2 ≤ al))).length ay) (by simp only [put_length])<|Dd (by kernel_rfl)<|Xm<|Xm<|Xn<|Cg<|tS (sa rfl rfl (by omega))<|mV rfl<|Tn ?_
 obtain rfl := o1 hm
 exact jS ⟨ea, B, C, f, D, E, e, F, G, d, rfl, rfl, ((g.trans (h.trans a1))), fa, ((put_length _ _ _).trans aU), (aq.le (h.trans a1)), (av.le (h.trans a1)), (aw.le (h.trans a1))⟩
 exact Rn
 exact Rn
 exact Rn
 rintro bE _ _ ⟨k, B, C, f, D, E, e, F, G, d, rfl, rfl, g, aT, aU, aq, av, aw⟩
 have hm := (unc4E dY)
 refine Cr<|tS (lF rfl rfl (by omega))<|Te<|Cs<|c_cond_f rfl<|Ce<|Xe<|Xe<|Xo<|Xn ?_
 refine Cs<|Cs ?_
 obtain ⟨_, cA, hm⟩ := bS hm
 obtain ⟨gI, fb, hm⟩ := bS hm
 refine Di mixed (.refl _)<|E0 0 rfl (sM rfl)<|E0 1 rfl (sN rfl)<|E0 2 rfl (sF rfl fld119_1)<|Es 3 rfl (st_loadX 2 6 hX1504 rfl one117 rfl rfl)<|E0 4 rfl (sM rfl)<|E0 5 rfl (sN rfl)<|E0 6 rfl (sF rfl fld119_1)<|Es 7 rfl (st_loadX 2 6 hX1504 rfl one117 rfl rfl)<|E0 8 rfl (sE rfl sl117) ?_
 have cA := (kS cA).2
 refine E0 9 rfl (sb rfl rfl cA) ?_
 obtain ⟨fc, eb, ec⟩ := iS fb
 obtain ⟨f5, f6, gJ, gK, f7, ed, dc, ee, dd, f8, fL⟩ := OS.get (sz := 1) rfl (by decide) aq ec
 obtain ⟨rfl, rfl⟩ := ed
 refine E0 10 rfl (sI fc rfl rfl eb dd ee sl117)<|Es 11 rfl (st_load_rd rfl one4 (fun w ho => dc w _ ho (.cons _ (.cons _ (.cons _ (ss H (ss k (ss (n ++ o) (ss p (List.sublist_append_left _ _)))))))) 0 _ rfl))<|Eo<|Dd (by kernel_rfl)<|Xn ?_
 refine cB hm rfl (fun hm => ?_) fun hm => ?_
 refine Cr<|mV rfl<|tS (sN rfl)<|tS (sF rfl fld119_0)<|tS (sF rfl fld71_4)<|tD (u_storeX 2 4 hX1504 rfl rfl siz3 rfl rfl (by simp)) ?_
 rintro _ _ rfl
 refine Te<|Cr<|aS rfl<|Te<|Ct<|Xr<|Xp 2 rfl<|X3 [_, _, _] H k (n ++ o) (p ++ (f ++ (e ++ (d ++ R)))) rfl<|x_front7 [_, _, _] (n ++ o) H k p f e d R rfl<|x_front7 [_, _, _] d (n ++ o) H k p f e R rfl ?_
 refine x_front7 [_, _, _] e d (n ++ o) H k p f R rfl ?_
 have fd := hfl1508 _ [iv a.Promise.From, iv a.Promise.To, iv a.Promise.Dep, iv a.Promise.Arr, iv 3, sv L a.Promise.Journey.Rides O, sv B y C, sv D z E, sv F A G, iv a.station, iv a.when] (⟨(⟨a.Promise.From, a.Promise.To, a.Promise.Dep, a.Promise.Arr, 3, a.Promise.Journey⟩ : GuidePromise), y, z, A, a.station, a.when⟩ : GuidePromise0) _ g ⟨[iv a.Promise.From, iv a.Promise.To, iv a.Promise.Dep, iv a.Promise.Arr, iv 3, sv L a.Promise.Journey.Rides O], _, rfl, ⟨[iv a.Promise.From], _, rfl, rfl, ⟨[iv a.Promise.To], _, rfl, rfl, ⟨[iv a.Promise.Dep], _, rfl, rfl, ⟨[iv a.Promise.Arr], _, rfl, rfl, ⟨[iv 3], _, rfl, rfl, (RT.list_mk (bd.le g))⟩⟩⟩⟩⟩, ⟨[sv B y C], _, f, _, rfl, ⟨_, rfl, aq⟩, ⟨[sv D z E], _, e, _, rfl, ⟨_, rfl, av⟩, ⟨[sv F A G], _, rfl, ⟨_, rfl, aw⟩, ⟨[iv a.station], _, rfl, rfl, rfl⟩⟩, rfl⟩, rfl⟩⟩
 refine x_inX3 [_, _] f e d n o (H ++ (k ++ (p ++ R))) rfl<|x_hresp 0 rfl (o' := Cl 116 [sv aa X ab, sv ac Y ad, iv Z, iv a6, .slice A7 (put aQ am (⟨(⟨a.Promise.From, a.Promise.To, a.Promise.Dep, a.Promise.Arr, 3, a.Promise.Journey⟩ : GuidePromise), y, z, A, a.station, a.when⟩ : GuidePromise0)).length c8, sv a7 aR a8]) (by simp only [sv, put_length]) ?_
 obtain ⟨rfl, rfl⟩ := some2 hm
 exact rO ⟨none, 0, ((T, Cl 119 (X1497 ++ ([iv a.Promise.From, iv a.Promise.To, iv a.Promise.Dep, iv a.Promise.Arr, iv 3, sv L a.Promise.Journey.Rides O, sv B y C, sv D z E, sv F A G, iv a.station, iv a.when] ++ Y1499))) :: (n ++ ((f ++ (e ++ d)) ++ o))), rfl, rfl, FZ.nil, fd, ((put_length _ _ _).trans rfl), (put_nz cr)⟩ g
 refine Ck<|Xn<|Cr<|mV rfl<|mV rfl<|tS (sD (vs := [_, _, _]) 1 3 rfl agg91 rfl rfl rfl)<|mV rfl<|mV rfl ?_
 obtain ⟨⟨aO, aP, ar⟩, de, hm⟩ := bS hm
 have hm := (unc3E hm)
 refine t_pullb 2 rfl<|t_pullb 1 rfl<|t_front7 [_, _, _] H k (n ++ o) p f e d R rfl<|t_front7 [_, _, _] d H k (n ++ o) p f e R rfl<|t_front7 [_, _, _] e d H k (n ++ o) p f R rfl<|t_front7 [_, _, _] f e d H k (n ++ o) p R rfl<|t_front6 [_, _, _] p f e d H k ((n ++ o) ++ R) rfl<|t_front6 [_, _, _] k p f e d H ((n ++ o) ++ R) rfl<|t_out6 [_, _] [_] H k p f e d ((n ++ o) ++ R) rfl<|Tg _ rfl call86 rfl (cGuideDeskLook_2 _ _ ah X Y Z a6 a.Promise.From a.Promise.To a.Promise.Dep a.Promise.Arr a.Promise.State a.Promise.Journey.Rides a.station a.when dQ ao aR y z A az T X1497 an Y1499 bn bo bp bq aa ab ac ad (sv A7 aQ c8) L O g3 H ax ay k a7 a8 p B C f D E e F G d hX1504 (dS.le g) (dT.le g) (aI.le g) (aJ.le g) (bd.le g) (h4.le g) aT (fH.le g) aq av aw aO aP ar de) ?_
 rintro _ fe _ I ⟨bs, bt, S, rfl, rfl, cC⟩
 refine t_in7 [_, _] [_] S H k p f e d ((n ++ o) ++ R) rfl<|mV rfl<|tS (st_extract rfl rfl)<|tS (st_extract rfl rfl)<|tS (st_extract rfl rfl)<|aS rfl<|aS rfl<|aS rfl<|Te<|Cs ?_
 refine Cr<|mV rfl<|tS (q6 rfl rfl)<|Te ?_
 refine cI hm rfl (fun hm => ?_) fun hm => ?_
 refine Cr<|mV rfl<|mV rfl<|tS (sF rfl fld91_0)<|tS (sD (vs := [_, _]) 2 2 rfl agg25 rfl rfl rfl)<|mV rfl<|mV rfl<|mV rfl ?_
 obtain ⟨⟨bm, bu, bM⟩, df, hm⟩ := bS hm
 have hm := (unc3E hm)
 refine t_pullb 1 rfl<|t_pullb 1 rfl<|t_front7 [_, _, _] S H k p f e d ((n ++ o) ++ R) rfl<|t_front7 [_, _, _] d S H k p f e ((n ++ o) ++ R) rfl<|t_front7 [_, _, _] e d S H k p f ((n ++ o) ++ R) rfl<|t_front7 [_, _, _] f e d S H k p ((n ++ o) ++ R) rfl<|t_front7 [_, _, _] p f e d S H k ((n ++ o) ++ R) rfl<|t_front7 [_, _, _] k p f e d S H ((n ++ o) ++ R) rfl<|t_out6 [_, _] [_] H k p f e d (S ++ ((n ++ o) ++ R)) rfl<|Tg _ rfl call87 rfl (cGuideDeskLeave_2 _ _ ah.Day al X Y Z a6 a.Promise.From a.Promise.To a.Promise.Dep a.Promise.Arr a.Promise.State a.Promise.Journey.Rides a.station a.when dQ ao aR y z A az T X1497 an Y1499 bn bo bp bq aa ab ac ad (sv A7 aQ c8) L O g3 H ax ay k a7 a8 p B C f D E e F G d hX1504 (dS.le (g.trans I)) (dT.le (g.trans I)) (aI.le (g.trans I)) (aJ.le (g.trans I)) (bd.le (g.trans I)) (h4.le (g.trans I)) (aT.le I) (fH.le (g.trans I)) (aq.le I) (av.le I) (aw.le I) bm bu bM df) ?_
 rintro _ ff _ bb ⟨rfl, rfl⟩
 refine t_in6 [_, _] [_] H k p f e d (S ++ ((n ++ o) ++ R)) rfl<|Te<|Cr<|mV rfl<|mV rfl<|mV rfl<|mV rfl<|tS (sB (v := .agg #[iv al, iv am, iv aO, iv aP, iv 0]) [(0, iv al), (1, iv am), (2, iv aO), (3, iv aP)] rfl (fun _ => by kernel_rfl))<|tD (u_bslice (el := 68) [(0, .agg #[iv al, iv am, iv aO, iv aP, iv 0])] [iv al, iv am, iv aO, iv aP, iv 0] rfl (fun _ => by kernel_rfl)) ?_
 rintro _ _ ⟨b3, rfl, rfl⟩
 refine aS rfl<|Te<|Ct<|Xr<|Xp 2 rfl<|x_front8 [_, _, _, _] H k p f e d S (n ++ o) R rfl<|x_front7 [_, _, _, _] (n ++ o) H k p f e d (S ++ R) rfl<|x_front7 [_, _, _, _] d (n ++ o) H k p f e (S ++ R) rfl<|x_front7 [_, _, _, _] e d (n ++ o) H k p f (S ++ R) rfl ?_
 have fg := hfl1508 _ [iv a.Promise.From, iv a.Promise.To, iv a.Promise.Dep, iv a.Promise.Arr, iv bm, sv L a.Promise.Journey.Rides O, sv B y C, sv D z E, sv F A G, iv bu, iv bM] (⟨(⟨a.Promise.From, a.Promise.To, a.Promise.Dep, a.Promise.Arr, bm, a.Promise.Journey⟩ : GuidePromise), y, z, A, bu, bM⟩ : GuidePromise0) _ (g.trans (I.trans bb)) ⟨[iv a.Promise.From, iv a.Promise.To, iv a.Promise.Dep, iv a.Promise.Arr, iv bm, sv L a.Promise.Journey.Rides O], _, rfl, ⟨[iv a.Promise.From], _, rfl, rfl, ⟨[iv a.Promise.To], _, rfl, rfl, ⟨[iv a.Promise.Dep], _, rfl, rfl, ⟨[iv a.Promise.Arr], _, rfl, rfl, ⟨[iv bm], _, rfl, rfl, (RT.list_mk (bd.le (g.trans (I.trans bb))))⟩⟩⟩⟩⟩, ⟨[sv B y C], _, f, _, rfl, ⟨_, rfl, (aq.le (I.trans bb))⟩, ⟨[sv D z E], _, e, _, rfl, ⟨_, rfl, (av.le (I.trans bb))⟩, ⟨[sv F A G], _, rfl, ⟨_, rfl, (aw.le (I.trans bb))⟩, ⟨[iv bu], _, rfl, rfl, rfl⟩⟩, rfl⟩, rfl⟩⟩
 refine x_inX3 [_, _, _] f e d n o (H ++ (k ++ (p ++ (S ++ R)))) rfl<|x_hresp 1 rfl (o' := Cl 116 [sv aa X ab, sv ac Y ad, iv Z, iv a6, .slice A7 (put aQ am (⟨(⟨a.Promise.From, a.Promise.To, a.Promise.Dep, a.Promise.Arr, bm, a.Promise.Journey⟩ : GuidePromise), y, z, A, bu, bM⟩ : GuidePromise0)).length c8, sv a7 aR a8]) (by simp only [sv, put_length])<|x_seg 0 [_, _] (((T, Cl 119 (X1497 ++ ([iv a.Promise.From, iv a.Promise.To, iv a.Promise.Dep, iv a.Promise.Arr, iv bm, sv L a.Promise.Journey.Rides O, sv B y C, sv D z E, sv F A G, iv bu, iv bM] ++ Y1499))) :: (n ++ ((f ++ (e ++ d)) ++ o))) ++ (H ++ (k ++ (p ++ (S ++ R))))) rfl rfl ?_
 have fh : OS 68 (OT.fr rGuideMessage) ff.w (.slice (some ⟨b3, 0, none⟩) 1 1) [(⟨al, am, aO, aP, 0⟩ : GuideMessage)] [(b3, Cl 68 [iv al, iv am, iv aO, iv aP, iv 0])] := OS.lit [[iv al, iv am, iv aO, iv aP, iv 0]] rfl ⟨⟨[iv al], _, rfl, rfl, ⟨[iv am], _, rfl, rfl, ⟨[iv aO], _, rfl, rfl, ⟨[iv aP], _, rfl, rfl, rfl⟩⟩⟩⟩, trivial⟩ rfl (by decide)
 have fM : (((some ⟨b3, 0, none⟩) : OA) = none ↔ [(⟨al, am, aO, aP, 0⟩ : GuideMessage)] = []) := ⟨nofun, nofun⟩
 refine x_frz [_, _] [(b3, Cl 68 [iv al, iv am, iv aO, iv aP, iv 0])] (((T, Cl 119 (X1497 ++ ([iv a.Promise.From, iv a.Promise.To, iv a.Promise.Dep, iv a.Promise.Arr, iv bm, sv L a.Promise.Journey.Rides O, sv B y C, sv D z E, sv F A G, iv bu, iv bM] ++ Y1499))) :: (n ++ ((f ++ (e ++ d)) ++ o))) ++ (H ++ (k ++ (p ++ (S ++ R))))) rfl ?_
 intro gL b4 ef
 have fi := OS.frz (l := [(⟨al, am, aO, aP, 0⟩ : GuideMessage)]) fh b4.cells ef
 obtain ⟨rfl, rfl⟩ := some2 hm
 have eg := (fg.le b4)
 exact rO ⟨(some ⟨b3, 0, none⟩), 1, ((T, Cl 119 (X1497 ++ ([iv a.Promise.From, iv a.Promise.To, iv a.Promise.Dep, iv a.Promise.Arr, iv bm, sv L a.Promise.Journey.Rides O, sv B y C, sv D z E, sv F A G, iv bu, iv bM] ++ Y1499))) :: (n ++ ((f ++ (e ++ d)) ++ o))), rfl, rfl, fi, eg, ((put_length _ _ _).trans rfl), (put_nz cr)⟩ (g.trans (I.trans (bb.trans b4)))
 refine Ck<|Xn<|Cr<|aS rfl<|Te<|Cs<|Cr<|mV rfl<|tS (sN rfl)<|tS (sF rfl fld119_0) ?_
 refine tS (sF rfl fld71_5)<|tS (sF rfl fld33_0)<|tS (st_loadX 1 5 hX1504 rfl one31 rfl rfl)<|tS (sE rfl sl31)<|mV rfl<|Te<|Cb ?_
 have f9 : a.Promise.Journey.Rides.length ≤ 9223372036854775807 := (FZ.bd (bd.le (g.trans I)))
 refine Cp 1 rfl<|Cp 2 rfl<|Cp 2 rfl<|c_front7 [_, _, _] S H k p f e d ((n ++ o) ++ R) rfl<|c_front7 [_, _, _] d S H k p f e ((n ++ o) ++ R) rfl<|c_front7 [_, _, _] e d S H k p f ((n ++ o) ++ R) rfl<|c_front7 [_, _, _] f e d S H k p ((n ++ o) ++ R) rfl<|c_front8 [_, _, _] p f e d S H k (n ++ o) R rfl<|c_front7 [_, _, _] (n ++ o) p f e d S H (k ++ R) rfl<|c_front7 [_, _, _] H (n ++ o) p f e d S (k ++ R) rfl ?_
 refine c_front8 [_, _, _] S H (n ++ o) p f e d k R rfl ?_
 obtain ⟨bw, eh, ei⟩ := bS hm
 refine lS (fun a2 => fun bw => fun bQ e' hp' => ∃ bx bz aG, [(0, pb az), (1, iv am), (4, iv al), (7, pb ag), (11, .pointer (some ⟨T, an + 0, none⟩)), (12, sv ax ao ay), (15, sv bs ar bt), (18, sv bx bw bz), (158, sv L a.Promise.Journey.Rides O), (159, iv ((a.Promise.Journey.Rides.length : Int))), (160, iv ((a2 : Int)))] = e' ∧ (az, Cl 116 [sv aa X ab, sv ac Y ad, iv Z, iv a6, sv A7 aQ c8, sv a7 aR a8]) :: (ag, Cl 91 [sv bn ah.Day.Trains bo, sv bp ah.Day.Turns bq, iv ah.least]) :: (T, Cl 119 (X1497 ++ ([iv a.Promise.From, iv a.Promise.To, iv a.Promise.Dep, iv a.Promise.Arr, iv a.Promise.State, sv L a.Promise.Journey.Rides O, sv B y C, sv D z E, sv F A G, iv a.station, iv a.when] ++ Y1499))) :: (k ++ (S ++ (aG ++ (H ++ ((n ++ o) ++ (p ++ (f ++ (e ++ (d ++ R))))))))) = hp' ∧ fe.Le bQ ∧ OS 68 (OT.fr rGuideMessage) bQ.w (sv bx bw bz) bw aG) eh ⟨none, 0, [], rfl, rfl, lr, OS.nil⟩ ?_ ?_
 rintro a2 bw bQ _ _ ga fG ⟨bx, bz, aG, rfl, rfl, V, bR⟩ bU
 unfold mGuideDeskPass_2_L2302 at bU
 have hm := bU
 refine Cr<|tS (lT rfl rfl (by omega))<|Te<|Cs<|c_cond_t rfl<|Ck<|Xn<|Cs<|Cb<|Cr ?_
 refine mV rfl ?_
 obtain ⟨bN, fj, gb, ej, gc, ek, dg, cQ, dh, hm⟩ := bF (sz := 3) hm (bd.le (g.trans (I.trans V)))
 obtain ⟨_, _, rfl, rfl, ⟨_, _, rfl, rfl, rfl⟩⟩ := ek
 refine tS (sI fj rfl rfl ej dh cQ sl31)<|tS (sP (vs := [iv bN.Train, iv bN.On, iv bN.Off]) 3 rfl agg86 cQ rfl (fun j u hu => dg j u hu))<|tD (uA [iv 0, iv 0, iv 0] zero86 rfl) ?_
 rintro _ _ ⟨di, rfl, rfl⟩
 refine aS rfl<|tD (uN (vs := [_, _, _]) 0 3 rfl rfl rfl siz86 rfl (mc rfl (mc rfl (mc rfl mn))) rfl (by simp)) ?_
 rintro _ _ rfl
 refine Te<|Cs ?_
 obtain ⟨fk, em, en⟩ := bS hm
 refine Cj (fun dj e' hp' => [(0, pb az), (1, iv am), (4, iv al), (7, pb ag), (11, .pointer (some ⟨T, an + 0, none⟩)), (12, sv ax ao ay), (15, sv bs ar bt), (18, sv bx bw bz), (19, iv ((a2 : Int))), (20, pb di), (158, sv L a.Promise.Journey.Rides O), (159, iv ((a.Promise.Journey.Rides.length : Int))), (160, iv ((a2 : Int))), (177, bv fk)] = e' ∧ (az, Cl 116 [sv aa X ab, sv ac Y ad, iv Z, iv a6, sv A7 aQ c8, sv a7 aR a8]) :: (ag, Cl 91 [sv bn ah.Day.Trains bo, sv bp ah.Day.Turns bq, iv ah.least]) :: (T, Cl 119 (X1497 ++ ([iv a.Promise.From, iv a.Promise.To, iv a.Promise.Dep, iv a.Promise.Arr, iv a.Promise.State, sv L a.Promise.Journey.Rides O, sv B y C, sv D z E, sv F A G, iv a.station, iv a.when] ++ Y1499))) :: (di, Cl 86 [iv bN.Train, iv bN.On, iv bN.Off]) :: (k ++ (S ++ (aG ++ (H ++ ((n ++ o) ++ (p ++ (f ++ (e ++ (d ++ R))))))))) = hp' ∧ bQ.Le dj) ?_ ?_
 have hm := em
 refine Cg<|mV rfl<|tS (sN rfl)<|tS (sF rfl fld119_1)<|tS (st_loadX 3 6 hX1504 rfl one117 rfl rfl)<|mV rfl ?_
 obtain ⟨fl, fm, hm⟩ := bS hm
 obtain ⟨fn, eo, ep⟩ := iS fm
 obtain ⟨gd, ge, gM, gN, gf, eq, dk, er, dl, gg, fN⟩ := OS.get (sz := 1) rfl (by decide) (aq.le (I.trans V)) ep
 obtain ⟨rfl, rfl⟩ := eq
 refine tS (sI fn rfl rfl eo dl er sl117)<|tS (st_load_rd rfl one4 (fun w ho => dk w _ ho (.cons _ (.cons _ (.cons _ (.cons _ (ss k (ss S (ss aG (ss H (ss (n ++ o) (ss p (List.sublist_append_left _ _))))))))))) 0 _ rfl)) ?_
 rcases Bool.eq_false_or_eq_true fl with bO | bO
 rw [if_pos bO] at hm
 refine Tr 171 rfl (v' := .bool true) (by rw [bO] <;> rfl)<|mV rfl<|nO<|nO<|nO<|nO<|tS (pT rfl rfl)<|Tn ?_
 obtain rfl := o1 hm
 exact jJ ⟨rfl, rfl, lr⟩
 rw [if_neg (fun hh => Bool.noConfusion (hh.symm.trans bO))] at hm
 refine Tr 171 rfl (v' := .bool false) (by rw [bO] <;> rfl)<|mV rfl<|yS<|mV rfl<|yS<|mV rfl<|yS ?_
 obtain ⟨gO, fo, hm⟩ := bS hm
 obtain ⟨fp, es, et⟩ := iS fo
 obtain ⟨gh, gi, gP, gQ, gj, eu, dm, ev, dn, gk, fO⟩ := OS.get (sz := 1) rfl (by decide) (aT.le (I.trans V)) et
 obtain ⟨rfl, rfl⟩ := eu
 refine tS (sI fp rfl rfl es dn ev sl117)<|yS<|tS (st_load_rd rfl one4 (fun w ho => dm w _ ho (.cons _ (.cons _ (.cons _ (.cons _ (List.sublist_append_left _ _))))) 0 _ rfl))<|tS (pF rfl rfl)<|Tn ?_
 obtain rfl := o1 hm
 exact jJ ⟨rfl, rfl, lr⟩
 rintro dj _ _ ⟨rfl, rfl, au⟩
 have hm := en
 refine cB hm rfl (fun hm => ?_) fun hm => ?_
 refine Ce<|Xe<|Xo<|Xn<|Cg<|tS (sa rfl rfl (by omega))<|mV rfl<|Tn ?_
 obtain rfl := o1 hm
 exact jS ⟨bx, bz, aG, rfl, rfl, ((V.trans au)), (bR.le au)⟩
 refine Ck<|Xn<|Cs ?_
 obtain ⟨cl, fq, hm⟩ := bS hm
 obtain ⟨⟨dp, bA, dq, dr⟩, ds, hm⟩ := bS hm
 have hm := (unc4E hm)
 refine Di mixed (.refl _)<|Es 0 rfl (sD (vs := [_, _, _]) 1 3 rfl agg91 rfl rfl rfl)<|E0 1 rfl (sM rfl)<|E0 2 rfl (sM rfl) ?_
 obtain ⟨fr, ew, ex⟩ := iS fq
 obtain ⟨gl, gm, gR, gS, gn, ey, dt, cR, du, go, fP⟩ := OS.get (sz := 3) rfl (by decide) (cC.le (V.trans au)) ex
 obtain ⟨⟨_, _, rfl, rfl, ⟨_, _, rfl, rfl, rfl⟩⟩, rfl⟩ := ey
 refine E0 3 rfl (sI fr rfl rfl ew du cR sl31)<|Es 4 rfl (st_loadN_rd (vs := [iv cl.Train, iv cl.On, iv cl.Off]) 3 rfl agg86 cR rfl (fun w ho j u hu => dt w _ ho (.cons _ (.cons _ (.cons _ (.cons _ (ss k (List.sublist_append_left _ _)))))) j u hu))<|Eo<|Da [5] (by kernel_rfl) rfl ?_
 refine Rg lr rfl rfl _ call60 rfl (cGuideNetOn _ _ ah cl bn bo bp bq (dS.le (g.trans (I.trans (V.trans au)))) (dT.le (g.trans (I.trans (V.trans au)))) dp bA dq dr ds) ?_ ?_
 rintro _ gT _ a3 ⟨rfl, rfl⟩
 refine ⟨.inl (by kernel_rfl), ?_⟩
 refine El a3<|E0 6 rfl (st_vfield1 (cs := [iv dp, iv bA, iv dq, iv dr]) rfl fdv83_1 one3 rfl)<|E0 7 rfl (sA rfl)<|Eo<|Dd (by kernel_rfl)<|Xn<|Cs ?_
 obtain ⟨⟨dv, dw, dx, dy⟩, dz, hm⟩ := bS hm
 have hm := (unc4E hm)
 refine Di mixed (.refl _)<|E0 0 rfl (sM rfl)<|E0 1 rfl (sM rfl)<|E0 2 rfl (sN rfl)<|E0 3 rfl (sF rfl fld116_0)<|Es 4 rfl (sD (vs := [_, _, _]) 0 3 rfl agg91 rfl rfl rfl)<|Es 5 rfl (sD (vs := [_, _, _]) 3 3 rfl agg86 rfl rfl rfl)<|Eo<|Da [6] (by kernel_rfl) rfl ?_
 refine Rg lr rfl rfl _ call60 rfl (cGuideNetOn _ _ (⟨(⟨X, Y⟩ : ApiDay), Z⟩ : GuideNet) bN aa ab ac ad (aI.le (g.trans (I.trans (V.trans (au.trans a3))))) (aJ.le (g.trans (I.trans (V.trans (au.trans a3))))) dv dw dx dy dz) ?_ ?_
 rintro _ gU _ bB ⟨rfl, rfl⟩
 refine ⟨.inl (by kernel_rfl), ?_⟩
 refine El bB<|E0 7 rfl (st_vfield1 (cs := [iv dv, iv dw, iv dx, iv dy]) rfl fdv83_1 one3 rfl)<|E0 8 rfl (q2 rfl rfl)<|Eo<|Dd (by kernel_rfl)<|Xn ?_
 refine cI hm rfl (fun hm => ?_) fun hm => ?_
 refine Cg<|mV rfl<|mV rfl<|mV rfl<|mV rfl<|mV rfl<|tS (sB (v := .agg #[iv al, iv am, iv ((a2 : Int)), iv 4, iv bA]) [(0, iv al), (1, iv am), (2, iv ((a2 : Int))), (3, iv 4), (4, iv bA)] rfl (fun _ => by kernel_rfl))<|tD (u_bslice (el := 68) [(0, .agg #[iv al, iv am, iv ((a2 : Int)), iv 4, iv bA])] [iv al, iv am, iv ((a2 : Int)), iv 4, iv bA] rfl (fun _ => by kernel_rfl)) ?_
 rintro _ _ ⟨gV, rfl, rfl⟩
 obtain ⟨_, cD, hm⟩ := bS hm
 have cD := room_some cD
 refine t_front3 [_, _, _, _, _] k S aG (H ++ ((n ++ o) ++ (p ++ (f ++ (e ++ (d ++ R)))))) rfl<|tD (uQ (r := rGuideMessage) (l := bw) [_, _, _, _, _] (k ++ (S ++ (H ++ ((n ++ o) ++ (p ++ (f ++ (e ++ (d ++ R)))))))) [[iv al, iv am, iv ((a2 : Int)), iv 4, iv bA]] [(⟨al, am, (a2 : Int), 4, bA⟩ : GuideMessage)] rfl (by decide) sl58 inf68 rfl rfl rfl rfl (bR.le (au.trans (a3.trans bB))) rfl (fun w ho => Rd.own (i := 0) ho rfl) ⟨⟨[iv al], _, rfl, rfl, ⟨[iv am], _, rfl, rfl, ⟨[iv ((a2 : Int))], _, rfl, rfl, ⟨[iv 4], _, rfl, rfl, rfl⟩⟩⟩⟩, trivial⟩ cD) ?_
 rintro _ _ ⟨ez, rfl, dA⟩
 obtain ⟨fs, ft, rfl, _⟩ := dA.form
 refine aS rfl<|Tn<|Xm<|Xn<|Cg<|tS (sa rfl rfl (by omega))<|mV rfl<|Tn ?_
 obtain rfl := o1 hm
 exact jS ⟨fs, ft, ez, rfl, rfl, ((V.trans (au.trans (a3.trans bB)))), dA⟩
 refine Ck<|Xm<|Xn<|Cg<|tS (sa rfl rfl (by omega))<|mV rfl<|Tn ?_
 obtain rfl := o1 hm
 exact jS ⟨bx, bz, aG, rfl, rfl, ((V.trans (au.trans (a3.trans bB)))), (bR.le (au.trans (a3.trans bB)))⟩
 exact Rn
 exact Rn
 rintro bQ _ _ ⟨bx, bz, aG, rfl, rfl, V, bR⟩
 have hm := ei
 refine Cr<|tS (lF rfl rfl (by omega))<|Te<|Cs<|c_cond_f rfl<|Ce<|Xe<|Xe<|Xo<|Xn ?_
 refine Cr<|mV rfl<|tS (sE rfl sl31) ?_
 obtain ⟨_, cE, hm⟩ := bS hm
 have cE := (kS cE).2
 refine tS (sb rfl rfl cE)<|aS rfl<|Te ?_
 obtain ⟨cm, eA, eB⟩ := bS hm
 refine Cj (fun cG e' hp' => ∃ cn co aH, [(11, .pointer (some ⟨T, an + 0, none⟩)), (15, sv bs ar bt), (18, sv cn cm co)] = e' ∧ (T, Cl 119 (X1497 ++ ([iv a.Promise.From, iv a.Promise.To, iv a.Promise.Dep, iv a.Promise.Arr, iv a.Promise.State, sv L a.Promise.Journey.Rides O, sv B y C, sv D z E, sv F A G, iv a.station, iv a.when] ++ Y1499))) :: (az, Cl 116 [sv aa X ab, sv ac Y ad, iv Z, iv a6, sv A7 aQ c8, sv a7 aR a8]) :: (S ++ (aH ++ (H ++ ((n ++ o) ++ (p ++ (f ++ (e ++ (d ++ R)))))))) = hp' ∧ bQ.Le cG ∧ OS 68 (OT.fr rGuideMessage) cG.w (sv cn cm co) cm aH) ?_ ?_
 have hm := eA
 refine Cs ?_
 obtain ⟨cp, fu, hm⟩ := bS hm
 obtain ⟨⟨dB, dC, bC, dD⟩, dE, hm⟩ := bS hm
 have hm := (unc4E hm)
 refine Di mixed (.refl _)<|Es 0 rfl (sD (vs := [_, _, _]) 1 3 rfl agg91 rfl rfl rfl)<|E0 1 rfl (sM rfl)<|E0 2 rfl (sM rfl) ?_
 obtain ⟨fv, eC, eD⟩ := iS fu
 obtain ⟨gp, gq, gW, gX, gr, eE, dF, cT, dH, gs, fQ⟩ := OS.get (sz := 3) rfl (by decide) (cC.le V) eD
 obtain ⟨⟨_, _, rfl, rfl, ⟨_, _, rfl, rfl, rfl⟩⟩, rfl⟩ := eE
 refine E0 3 rfl (sI fv rfl rfl eC dH cT sl31)<|Es 4 rfl (st_loadN_rd (vs := [iv cp.Train, iv cp.On, iv cp.Off]) 3 rfl agg86 cT rfl (fun w ho j u hu => dF w _ ho (.cons _ (.cons _ (.cons _ (ss k (List.sublist_append_left _ _))))) j u hu))<|Eo<|Da [5] (by kernel_rfl) rfl ?_
 refine Rg lr rfl rfl _ call61 rfl (cGuideNetOff _ _ ah cp bn bo bp bq (dS.le (g.trans (I.trans V))) (dT.le (g.trans (I.trans V))) dB dC bC dD dE) ?_ ?_
 rintro _ gY _ aN ⟨rfl, rfl⟩
 refine ⟨.inl (by kernel_rfl), ?_⟩
 refine El aN<|E0 6 rfl (st_vfield1 (cs := [iv dB, iv dC, iv bC, iv dD]) rfl fdv83_2 one3 rfl)<|E0 7 rfl (sA rfl)<|Eo<|Dd (by kernel_rfl)<|Xn<|Cs ?_
 obtain ⟨cq, fw, hm⟩ := bS hm
 obtain ⟨⟨dI, dJ, dK, dL⟩, dM, hm⟩ := bS hm
 have hm := (unc4E hm)
 refine Di mixed (.refl _)<|E0 0 rfl (sM rfl)<|E0 1 rfl (sM rfl)<|E0 2 rfl (sN rfl)<|E0 3 rfl (sF rfl fld116_0)<|Es 4 rfl (sD (vs := [_, _, _]) 0 3 rfl agg91 rfl rfl rfl)<|E0 5 rfl (sM rfl)<|E0 6 rfl (sN rfl)<|E0 7 rfl (sF rfl fld119_0)<|E0 8 rfl (sF rfl fld71_5) ?_
 refine E0 9 rfl (sF rfl fld33_0)<|Es 10 rfl (st_loadX 2 5 hX1504 rfl one31 rfl rfl)<|E0 11 rfl (sM rfl) ?_
 obtain ⟨fx, eG, eH⟩ := iS fw
 obtain ⟨gt, eI, dN, cU, dO⟩ := FZ.get (sz := 3) rfl (by decide) (bd.le (g.trans (I.trans (V.trans aN)))) eH
 obtain ⟨_, _, rfl, rfl, ⟨_, _, rfl, rfl, rfl⟩⟩ := eI
 refine E0 12 rfl (sI fx rfl rfl eG dO cU sl31)<|Es 13 rfl (sP (vs := [iv cq.Train, iv cq.On, iv cq.Off]) 3 rfl agg86 cU rfl (fun j u hu => dN j u hu))<|Eo<|Da [14] (by kernel_rfl) rfl ?_
 refine Rg lr rfl rfl _ call61 rfl (cGuideNetOff _ _ (⟨(⟨X, Y⟩ : ApiDay), Z⟩ : GuideNet) cq aa ab ac ad (aI.le (g.trans (I.trans (V.trans aN)))) (aJ.le (g.trans (I.trans (V.trans aN)))) dI dJ dK dL dM) ?_ ?_
 rintro _ gZ _ bD ⟨rfl, rfl⟩
 refine iR<|Ei bD (.refl _)<|E0 15 rfl (st_vfield1 (cs := [iv dI, iv dJ, iv dK, iv dL]) rfl fdv83_2 one3 rfl)<|E0 16 rfl (q5 rfl rfl)<|Eo<|Dd (by kernel_rfl)<|Xn ?_
 refine cI hm rfl (fun hm => ?_) fun hm => ?_
 refine Cg<|mV rfl<|mV rfl<|mV rfl<|mV rfl<|mV rfl<|tS (sB (v := .agg #[iv al, iv am, iv ((ar.length : Int) - 1), iv 3, iv bC]) [(0, iv al), (1, iv am), (2, iv ((ar.length : Int) - 1)), (3, iv 3), (4, iv bC)] rfl (fun _ => by kernel_rfl))<|tD (u_bslice (el := 68) [(0, .agg #[iv al, iv am, iv ((ar.length : Int) - 1), iv 3, iv bC])] [iv al, iv am, iv ((ar.length : Int) - 1), iv 3, iv bC] rfl (fun _ => by kernel_rfl)) ?_
 rintro _ _ ⟨g0, rfl, rfl⟩
 obtain ⟨_, cH, hm⟩ := bS hm
 have cH := room_some cH
 refine t_front3 [_, _, _, _] k S aG (H ++ ((n ++ o) ++ (p ++ (f ++ (e ++ (d ++ R)))))) rfl<|tD (uQ (r := rGuideMessage) (l := bw) [_, _, _, _] (k ++ (S ++ (H ++ ((n ++ o) ++ (p ++ (f ++ (e ++ (d ++ R)))))))) [[iv al, iv am, iv ((ar.length : Int) - 1), iv 3, iv bC]] [(⟨al, am, (ar.length : Int) - 1, 3, bC⟩ : GuideMessage)] rfl (by decide) sl58 inf68 rfl rfl rfl rfl (bR.le (aN.trans bD)) rfl (fun w ho => Rd.own (i := 0) ho rfl) ⟨⟨[iv al], _, rfl, rfl, ⟨[iv am], _, rfl, rfl, ⟨[iv ((ar.length : Int) - 1)], _, rfl, rfl, ⟨[iv 3], _, rfl, rfl, rfl⟩⟩⟩⟩, trivial⟩ cH) ?_
 rintro _ _ ⟨eJ, rfl, dP⟩
 obtain ⟨fy, fz, rfl, _⟩ := dP.form
 refine aS rfl<|Tn ?_
 obtain rfl := o1 hm
 exact jJ ⟨fy, fz, eJ, rfl, rfl, (aN.trans bD), dP⟩
 refine Ck ?_
 obtain rfl := o1 hm
 exact jJ ⟨bx, bz, aG, rfl, rfl, (aN.trans bD), (bR.le (aN.trans bD))⟩
 exact Rn
 exact Rn
 rintro cG _ _ ⟨cn, co, aH, rfl, rfl, bc, fA⟩
 have hm := eB
 refine Cr<|mV rfl<|mV rfl<|tS (sN rfl)<|tS (sF rfl fld119_0)<|tS (sF rfl fld71_5)<|tS (sF rfl fld33_0)<|tD (u_storeX 0 5 hX1504 rfl rfl siz31 rfl rfl (by simp)) ?_
 rintro _ _ rfl
 refine Te<|Cr<|mV rfl<|aS rfl<|Te<|Ct<|x_frz [_, _] S (aH ++ (H ++ ((n ++ o) ++ (p ++ (f ++ (e ++ (d ++ R))))))) rfl ?_
 intro g1 a4 eK
 have fB := OS.frz (l := ar) (cC.le (V.trans bc)) a4.cells eK
 refine X3 [_, _] aH H (n ++ o) (p ++ (f ++ (e ++ (d ++ R)))) rfl<|x_front7 [_, _] (n ++ o) aH H p f e d R rfl<|x_front7 [_, _] d (n ++ o) aH H p f e R rfl<|x_front7 [_, _] e d (n ++ o) aH H p f R rfl ?_
 have fC := hfl1508 _ [iv a.Promise.From, iv a.Promise.To, iv a.Promise.Dep, iv a.Promise.Arr, iv a.Promise.State, sv bs ar bt, sv B y C, sv D z E, sv F A G, iv a.station, iv a.when] (⟨(⟨a.Promise.From, a.Promise.To, a.Promise.Dep, a.Promise.Arr, a.Promise.State, (⟨ar⟩ : GuideJourney)⟩ : GuidePromise), y, z, A, a.station, a.when⟩ : GuidePromise0) _ (g.trans (I.trans (V.trans (bc.trans a4)))) ⟨[iv a.Promise.From, iv a.Promise.To, iv a.Promise.Dep, iv a.Promise.Arr, iv a.Promise.State, sv bs ar bt], _, rfl, ⟨[iv a.Promise.From], _, rfl, rfl, ⟨[iv a.Promise.To], _, rfl, rfl, ⟨[iv a.Promise.Dep], _, rfl, rfl, ⟨[iv a.Promise.Arr], _, rfl, rfl, ⟨[iv a.Promise.State], _, rfl, rfl, (RT.list_mk fB)⟩⟩⟩⟩⟩, ⟨[sv B y C], _, f, _, rfl, ⟨_, rfl, (aq.le (I.trans (V.trans (bc.trans a4))))⟩, ⟨[sv D z E], _, e, _, rfl, ⟨_, rfl, (av.le (I.trans (V.trans (bc.trans a4))))⟩, ⟨[sv F A G], _, rfl, ⟨_, rfl, (aw.le (I.trans (V.trans (bc.trans a4))))⟩, ⟨[iv a.station], _, rfl, rfl, rfl⟩⟩, rfl⟩, rfl⟩⟩
 refine x_inX3 [_] f e d n o (aH ++ (H ++ (p ++ R))) rfl<|x_hresp 0 rfl (o' := Cl 116 [sv aa X ab, sv ac Y ad, iv Z, iv a6, .slice A7 (put aQ am (⟨(⟨a.Promise.From, a.Promise.To, a.Promise.Dep, a.Promise.Arr, a.Promise.State, (⟨ar⟩ : GuideJourney)⟩ : GuidePromise), y, z, A, a.station, a.when⟩ : GuidePromise0)).length c8, sv a7 aR a8]) (by simp only [sv, put_length])<|X2 [_] ((T, Cl 119 (X1497 ++ ([iv a.Promise.From, iv a.Promise.To, iv a.Promise.Dep, iv a.Promise.Arr, iv a.Promise.State, sv bs ar bt, sv B y C, sv D z E, sv F A G, iv a.station, iv a.when] ++ Y1499))) :: (n ++ ((f ++ (e ++ d)) ++ o))) aH (H ++ (p ++ R)) rfl<|x_frz [_] aH (((T, Cl 119 (X1497 ++ ([iv a.Promise.From, iv a.Promise.To, iv a.Promise.Dep, iv a.Promise.Arr, iv a.Promise.State, sv bs ar bt, sv B y C, sv D z E, sv F A G, iv a.station, iv a.when] ++ Y1499))) :: (n ++ ((f ++ (e ++ d)) ++ o))) ++ (H ++ (p ++ R))) rfl ?_
 intro g2 b5 eL
 have fD := OS.frz (l := cm) (fA.le a4) b5.cells eL
 obtain ⟨rfl, rfl⟩ := some2 hm
 have eM := (fC.le b5)
 exact rO ⟨cn, co, ((T, Cl 119 (X1497 ++ ([iv a.Promise.From, iv a.Promise.To, iv a.Promise.Dep, iv a.Promise.Arr, iv a.Promise.State, sv bs ar bt, sv B y C, sv D z E, sv F A G, iv a.station, iv a.when] ++ Y1499))) :: (n ++ ((f ++ (e ++ d)) ++ o))), rfl, rfl, fD, eM, ((put_length _ _ _).trans rfl), (put_nz cr)⟩ (g.trans (I.trans (V.trans (bc.trans (a4.trans b5)))))

set_option maxRecDepth 20000 in
theorem cGuideDeskNews_2 (b : Base) (R : Hp) (hG : GOn GT b) (ad : ApiDay) (y ae af m bC z K L ay az aA aB O S T U A3 c4 n A8 c9 g) (bi : FZ rApiTrain b.w ay az ad.Trains) (bj : FZ (RT.list rI) b.w aA aB ad.Turns) (aQ : FZ rApiTrain b.w O S ae) (aR : FZ (RT.list rI) b.w T U af) (h5 : OS 119 oGuidePromise0 b.w (sv A3 z c4) z n) (aa : (A3 = none ↔ z = [])) (aC : OS 68 (OT.fr rGuideMessage) b.w (sv A8 K c9) K g) (a1 aD aE a2 an V ao) (hm : mGuideDeskNews_2 ad y ae af m bC z K = some (a1, aD, aE, a2, an, V, ao)):
    CallsG Tryd.prog 23 [pb L, .agg #[sv ay ad.Trains az, sv aA ad.Turns aB], iv y] b ((L, Cl 116 [sv O ae S, sv T af U, iv m, iv bC, sv A3 z c4, sv A8 K c9]) :: (n ++ (g ++ R))) (fun v b' hp' => ∃ a3 a4 a5 a6 a7 a8 aF aG a9 ba aH, .tuple #[sv a7 an a8, iv a1] = v ∧ (L, Cl 116 [sv a3 aD a4, sv a5 aE a6, iv m, iv a2, sv A3 V c4, sv a9 ao ba]) :: (aF ++ (aG ++ (aH ++ R))) = hp' ∧ FZ rApiTrain b'.w a3 a4 aD ∧ FZ (RT.list rI) b'.w a5 a6 aE ∧ OS 68 (OT.fr rGuideMessage) b'.w (sv a7 an a8) an aF ∧ OS 119 oGuidePromise0 b'.w (sv A3 V c4) V aG ∧ V.length = z.length ∧ (A3 = none ↔ V = []) ∧ OS 68 (OT.fr rGuideMessage) b'.w (sv a9 ao ba) ao aH) := by
 refine fE 98 Tryd.func23 rfl Tryd.ntmps23 rfl ?_
 unfold mGuideDeskNews_2 at hm
 refine Cr<|tD (uB _ rfl rfl) ?_
 rintro _ _ ⟨cj, rfl, rfl⟩
 refine aS rfl<|aS rfl<|Te<|Cs<|Cr<|tS (sD (vs := [_, _]) 0 2 rfl agg25 rfl rfl rfl) ?_
 obtain ⟨bD, aT, hm⟩ := bS hm
 refine tD (uW _ call57 rfl (fun w ho => cGuideCheck _ [] ((hG.le lr).old ho) ad ay az aA aB (bi.old ho) (bj.old ho) bD aT) (fun _ _ _ h => h.2.symm)) ?_
 rintro _ _ ⟨⟨_, rfl, _⟩, rfl⟩
 refine aS rfl<|Te<|Cr<|mV rfl<|tS (q2 rfl rfl)<|Te ?_
 refine cI hm rfl (fun hm => ?_) fun hm => ?_
 refine Cr<|mV rfl<|aS rfl<|aS rfl<|Te<|Ct<|Xr ?_
 obtain ⟨rfl, rfl, rfl, rfl, rfl, rfl, rfl⟩ := some7 hm
 exact rT ⟨O, S, T, U, none, 0, [], n, A8, c9, g, rfl, rfl, aQ, aR, OS.nil, h5, rfl, aa, aC⟩ lr
 refine Ck<|Xn<|Cs<|Cb<|Cr<|mV rfl<|mV rfl<|tS (sN rfl)<|tS (sF rfl fld116_1)<|tS (sL 1 rfl one3 rfl rfl) ?_
 refine tS (q3 rfl rfl)<|aS rfl<|Te ?_
 refine cI hm rfl (fun hm => ?_) fun hm => ?_
 refine Cr<|aS rfl<|aS rfl<|Te<|Ct<|Xb<|Xr ?_
 obtain ⟨rfl, rfl, rfl, rfl, rfl, rfl, rfl⟩ := some7 hm
 exact rT ⟨O, S, T, U, none, 0, [], n, A8, c9, g, rfl, rfl, aQ, aR, OS.nil, h5, rfl, aa, aC⟩ lr
 refine Cr<|mV rfl<|tS (q5 rfl rfl)<|aS rfl<|Te ?_
 refine cI hm rfl (fun hm => ?_) fun hm => ?_
 refine Cr<|aS rfl<|aS rfl<|Te<|Ct<|Xb<|Xr ?_
 obtain ⟨rfl, rfl, rfl, rfl, rfl, rfl, rfl⟩ := some7 hm
 exact rT ⟨O, S, T, U, none, 0, [], n, A8, c9, g, rfl, rfl, aQ, aR, OS.nil, h5, rfl, aa, aC⟩ lr
 refine Ck<|Xm<|Xn<|Cr<|mV rfl<|mV rfl<|tS (sN rfl)<|tS (sF rfl fld116_1)<|tD (uS 1 rfl rfl siz3 rfl rfl (by simp)) ?_
 rintro _ _ rfl
 refine Te ?_
 obtain ⟨⟨o, ag⟩, bk, bl⟩ := bS hm
 refine Cj (fun ah e' hp' => ∃ A p q B C, [(0, pb L), (2, iv y), (9, pb A)] = e' ∧ (L, Cl 116 [sv O ae S, sv T af U, iv m, iv y, sv A3 z c4, sv A8 K c9]) :: (A, Cl 91 [sv p o q, sv B ag C, iv m]) :: (n ++ (g ++ R)) = hp' ∧ b.Le ah ∧ FZ rApiTrain ah.w p q o ∧ FZ (RT.list rI) ah.w B C ag) ?_ ?_
 have hm := bk
 obtain ⟨⟨W, X⟩, aq, hm⟩ := bS hm
 have hm := (unc2E hm)
 refine Di mixed (.refl _)<|Es 0 rfl (sD (vs := [_, _]) 0 2 rfl agg25 rfl rfl rfl)<|E0 2 rfl (sM rfl)<|E0 3 rfl (sN rfl)<|E0 4 rfl (sF rfl fld116_0)<|E0 5 rfl (sF rfl fld91_1)<|Es 6 rfl (sL 1 rfl one3 rfl rfl)<|Eo<|Da [1, 8] (by kernel_rfl) rfl ?_
 refine Rg lr rfl rfl _ call55 rfl (cGuideOwn _ _ ad ay az aA aB bi bj W X aq) ?_ ?_
 rintro _ bE _ i ⟨D, E, F, G, rfl, rfl, aI, aJ⟩
 refine iR<|Ei i (.refl _)<|E0 7 rfl (sB (v := .agg #[sv D W E, sv F X G, iv m]) [(0, .agg #[sv D W E, sv F X G]), (1, iv m)] rfl (fun _ => by kernel_rfl))<|Eo<|Da [8] (by kernel_rfl) rfl ?_
 refine Rd2 i rfl rfl (uA [sn, sn, iv 0] zero91 rfl) ?_ ?_
 rintro _ _ ⟨aK, rfl, rfl⟩
 refine iR<|Da [9] (by kernel_rfl) rfl ?_
 refine Rd2 i rfl rfl (uN (vs := [_, _, _]) 0 3 rfl rfl rfl siz91 rfl (mc rfl (mc rfl (mc rfl mn))) rfl (by simp)) ?_ ?_
 rintro _ _ rfl
 refine ⟨.inl (by kernel_rfl), ?_⟩
 refine Dd (by kernel_rfl) ?_
 obtain ⟨rfl, rfl⟩ := some2 hm
 exact jJ ⟨aK, D, E, F, G, rfl, rfl, i, aI, aJ⟩
 exact Rn
 exact Rn
 refine Rd2 lr rfl rfl (uA [sn, sn, iv 0] zero91 rfl) ?_ ?_
 rintro _ _ ⟨aK, rfl, rfl⟩
 refine iR<|Da [1] (by kernel_rfl) rfl ?_
 refine Rg lr rfl rfl _ call55 rfl (cGuideOwn _ _ ad ay az aA aB bi bj W X aq) ?_ ?_
 rintro _ bE _ i ⟨D, E, F, G, rfl, rfl, aI, aJ⟩
 refine iR<|Ei i (.cons _ (.refl _))<|E0 7 rfl (sB (v := .agg #[sv D W E, sv F X G, iv m]) [(0, .agg #[sv D W E, sv F X G]), (1, iv m)] rfl (fun _ => by kernel_rfl))<|Eo<|Da [9] (by kernel_rfl) rfl ?_
 refine Rd2 i rfl rfl (uN (vs := [_, _, _]) 0 3 rfl rfl rfl siz91 rfl (mc rfl (mc rfl (mc rfl mn))) rfl (by simp)) ?_ ?_
 rintro _ _ rfl
 refine ⟨.inl (by kernel_rfl), ?_⟩
 refine Dd (by kernel_rfl) ?_
 obtain ⟨rfl, rfl⟩ := some2 hm
 exact jJ ⟨aK, D, E, F, G, rfl, rfl, i, aI, aJ⟩
 exact Rn
 exact Rn
 exact Rn
 rintro ah _ _ ⟨A, p, q, B, C, rfl, rfl, k, ar, bb⟩
 have hm := (unc2E bl)
 refine Cr<|tD (u_mmap rI (OT.fr rI) false false [_, _] (n ++ (g ++ R)) rfl) ?_
 rintro _ _ ⟨au, ab, rfl, rfl, bG⟩
 refine aS rfl<|Te<|Cs<|Cr<|tS (sF rfl fld91_0)<|tS (sF rfl fld25_0)<|tS (sL 1 rfl one22 rfl rfl)<|tS (sE rfl sl22)<|mV rfl<|Te ?_
 refine Cb ?_
 have b7 : o.length ≤ 9223372036854775807 := (FZ.bd ar)
 refine Cp 1 rfl<|Cp 1 rfl<|c_front3 [_, _] ab n g R rfl<|c_front3 [_, _] g ab n R rfl<|c_front3 [_, _] n g ab R rfl ?_
 obtain ⟨av, bm, bn⟩ := bS hm
 refine lS (fun bc => fun av => fun ai e' hp' => ∃ a, [(0, pb L), (2, iv y), (9, pb A), (10, .map (some au)), (45, sv p o q), (46, iv ((o.length : Int))), (47, iv ((bc : Int)))] = e' ∧ (L, Cl 116 [sv O ae S, sv T af U, iv m, iv y, sv A3 z c4, sv A8 K c9]) :: (A, Cl 91 [sv p o q, sv B ag C, iv m]) :: (a ++ (n ++ (g ++ R))) = hp' ∧ ah.Le ai ∧ OM rI (OT.fr rI) false false ai.w au av a) bm ⟨ab, rfl, rfl, lr, bG⟩ ?_ ?_
 rintro bc av ai _ _ b8 bH ⟨a, rfl, rfl, c, aL⟩ H
 unfold mGuideDeskNews_2_L473 at H
 have hm := H
 refine Cr<|tS (lT rfl rfl (by omega))<|Te<|Cs<|c_cond_t rfl<|Ck<|Xn<|Cs<|Cb<|Cr ?_
 refine mV rfl ?_
 obtain ⟨aw, bI, b9, bo, ca, bp, aU, aM, aV, hm⟩ := bF (sz := 4) hm (ar.le c)
 obtain ⟨_, _, rfl, rfl, ⟨_, _, rfl, rfl, ⟨_, _, rfl, ⟨bJ, bK, rfl, ck⟩, ⟨bL, bM, rfl, cl⟩⟩⟩⟩ := bp
 refine tS (sI bI rfl rfl bo aV aM sl22)<|tS (sP (vs := [iv aw.No, iv aw.Stock, sv bJ aw.Stops bK, sv bL aw.Legs bM]) 4 rfl agg47 aM rfl (fun j u hu => aU j u hu))<|tD (uA [iv 0, iv 0, sn, sn] zero47 rfl) ?_
 rintro _ _ ⟨cm, rfl, rfl⟩
 refine aS rfl<|tD (uN (vs := [_, _, _, _]) 0 4 rfl rfl rfl siz47 rfl (mc rfl (mc rfl (mc rfl (mc rfl mn)))) rfl (by simp)) ?_
 rintro _ _ rfl
 refine Te<|Cg<|mV rfl<|tS (sF rfl fld47_0)<|tS (sL 0 rfl one3 rfl rfl)<|mV rfl<|tD (u_mputF kok3 [_, _, _] [] (n ++ (g ++ R)) rfl aL mapt121 rfl rfl rfl rfl ⟨rfl, rfl⟩ _ (.inl rfl)) ?_
 rintro _ _ ⟨bq, rfl, bN, bO⟩
 refine Tn<|Xm<|Xn<|Cg<|tS (sa rfl rfl (by omega))<|mV rfl<|Tn ?_
 obtain rfl := o1 hm
 exact jS ⟨bq, rfl, rfl, (c), bO⟩
 rintro ai _ _ ⟨a, rfl, rfl, c, aL⟩
 have hm := bn
 refine Cr<|tS (lF rfl rfl (by omega))<|Te<|Cs<|c_cond_f rfl<|Ce<|Xe<|Xe<|Xo<|Xn ?_
 refine Cr<|aS rfl<|Te<|Cs<|Cr<|mV rfl<|tS (sN rfl)<|tS (sF rfl fld116_2)<|tS (sL 0 rfl one114 rfl rfl)<|tS (sE rfl sl114) ?_
 refine mV rfl<|Te<|Cb ?_
 have cb : z.length ≤ 9223372036854775807 := (OS.len h5)
 refine Cp 1 rfl<|Cp 1 rfl<|c_front3 [_, _] a n g R rfl<|c_front3 [_, _] g a n R rfl<|c_front3 [_, _] n g a R rfl ?_
 obtain ⟨⟨I, s⟩, br, bs⟩ := bS hm
 refine lS (fun aN => unc2 fun I s => fun aj e' hp' => ∃ Y Z e f, [(0, pb L), (2, iv y), (9, pb A), (10, .map (some au)), (13, sv Y I Z), (61, iv ((z.length : Int))), (62, iv ((aN : Int)))] = e' ∧ (L, Cl 116 [sv O ae S, sv T af U, iv m, iv y, sv A3 s c4, sv A8 K c9]) :: (A, Cl 91 [sv p o q, sv B ag C, iv m]) :: (a ++ (e ++ (f ++ (g ++ R)))) = hp' ∧ ai.Le aj ∧ OS 68 (OT.fr rGuideMessage) aj.w (sv Y I Z) I e ∧ OS 119 oGuidePromise0 aj.w (sv A3 s c4) s f ∧ s.length = z.length ∧ (A3 = none ↔ s = [])) br ⟨none, 0, [], n, rfl, rfl, lr, OS.nil, (h5.le (k.trans c)), rfl, aa⟩ ?_ ?_
 rintro aN ⟨I, s⟩ aj _ _ cc bP ⟨Y, Z, e, f, rfl, rfl, d, ak, al, t, x⟩ J
 unfold mGuideDeskNews_2_L548 at J
 have hm := (unc2E J)
 refine Cr<|tS (lT rfl rfl (by omega))<|Te<|Cs<|c_cond_t rfl<|Ck<|Xn<|Cs<|Cb<|Cr ?_
 refine mV rfl<|aS rfl<|Te<|Cr<|mV rfl<|tS (sN rfl)<|tS (sF rfl fld116_2)<|tS (sL 0 rfl one114 rfl rfl)<|mV rfl ?_
 obtain ⟨cn, bQ, hm⟩ := bS hm
 obtain ⟨bR, bt, bu⟩ := iS bQ
 obtain ⟨cd, ce, co, cp, cf, bw, aW, am, aX, _, _⟩ := OS.get (sz := 11) rfl (by decide) al bu
 obtain ⟨_, _, rfl, ⟨_, _, rfl, rfl, ⟨_, _, rfl, rfl, ⟨_, _, rfl, rfl, ⟨_, _, rfl, rfl, ⟨_, _, rfl, rfl, ⟨cq, cr, rfl, cs⟩⟩⟩⟩⟩⟩, ⟨_, _, cg, _, rfl, ⟨ct, rfl, bT⟩, ⟨_, _, ch, ci, rfl, ⟨cu, rfl, bU⟩, ⟨_, _, rfl, ⟨cv, rfl, bV⟩, ⟨_, _, rfl, rfl, rfl⟩⟩, rfl⟩, rfl⟩⟩ := bw
 obtain ⟨cw, cx, rfl, _⟩ := bT.form
 obtain ⟨cy, cz, rfl, _⟩ := bU.form
 obtain ⟨cA, cC, rfl, _⟩ := bV.form
 refine tS (sI bR rfl rfl bt aX am sl114)<|tS (sQ rfl am fld119_0)<|tS (sQ rfl am fld71_4)<|tS (st_load_rd rfl one3 (fun w ho => aW w _ ho (.cons _ (.cons _ (ss a (ss e (List.sublist_append_left _ _))))) 4 _ rfl))<|tS (q1 rfl rfl)<|Te ?_
 refine cI hm rfl (fun hm => ?_) fun hm => ?_
 refine Cg<|mV rfl<|mV rfl<|mV rfl<|tS (sD (vs := [_, _, _]) 1 3 rfl agg91 rfl rfl rfl)<|mV rfl<|mV rfl ?_
 obtain ⟨⟨bd, be⟩, aY, hm⟩ := bS hm
 have hm := (unc2E hm)
 refine t_front4 [_, _] a e f g R rfl<|t_front4 [_, _] g a e f R rfl<|t_front3 [_, _] f g a (e ++ R) rfl<|t_out3 [_] [_] a f g (e ++ R) rfl<|Tg _ rfl call58 rfl (cGuideDeskPass_2 _ _ (aN : Int) (⟨(⟨o, ag⟩ : ApiDay), m⟩ : GuideNet) y ae af m y av s K L p q B C O S T U au a A3 c4 f A8 c9 g (ar.le (c.trans d)) (bb.le (c.trans d)) (aQ.le (k.trans (c.trans d))) (aR.le (k.trans (c.trans d))) (aL.le d) al x (aC.le (k.trans (c.trans d))) bd be aY) ?_
 rintro _ cD _ ax ⟨cE, cG, ac, rfl, rfl, bW, bX, bf, bY⟩
 refine t_in3 [_] [_] a ac g (e ++ R) rfl<|t_hresp 0 rfl (o' := Cl 116 [sv O ae S, sv T af U, iv m, iv y, sv A3 be c4, sv A8 K c9]) (by simp only [sv, bf]) ?_
 obtain ⟨aZ, bZ, b0⟩ := rd_src bW
 obtain ⟨_, aO, hm⟩ := bS hm
 have aO := room_some aO
 refine t_front4 [_, _] a ac g e R rfl<|tD (uQ (r := rGuideMessage) (l := I) [_, _] (a ++ (ac ++ (g ++ R))) aZ bd rfl (by decide) sl58 inf68 rfl rfl rfl rfl (ak.le ax) rfl (fun w ho => bZ.old ho) b0 aO) ?_
 rintro _ _ ⟨bx, rfl, bg⟩
 obtain ⟨b1, b2, rfl, _⟩ := bg.form
 refine aS rfl<|Tn<|Xm<|Xn<|Cg<|tS (sa rfl rfl (by omega))<|mV rfl<|Tn ?_
 obtain rfl := o1 hm
 exact jS ⟨b1, b2, bx, ac, rfl, rfl, ((d.trans ax)), bg, bX, (bf.trans t), bY⟩
 refine Ck<|Xm<|Xn<|Cg<|tS (sa rfl rfl (by omega))<|mV rfl<|Tn ?_
 obtain rfl := o1 hm
 exact jS ⟨Y, Z, e, f, rfl, rfl, (d), ak, al, t, x⟩
 rintro aj _ _ ⟨Y, Z, e, f, rfl, rfl, d, ak, al, t, x⟩
 have hm := (unc2E bs)
 refine Cr<|tS (lF rfl rfl (by omega))<|Te<|Cs<|c_cond_f rfl<|Ce<|Xe<|Xe<|Xo<|Xn ?_
 refine Cr<|mV rfl<|mV rfl<|tS (sN rfl)<|tS (sF rfl fld116_3)<|tS (sL 0 rfl one58 rfl rfl)<|mV rfl<|t_front4 [_, _] a e f g R rfl ?_
 obtain ⟨a0, b3, b4⟩ := rd_own ak (.cons _ (.cons _ (ss g (ss a (List.sublist_append_left _ _)))))
 obtain ⟨_, aP, hm⟩ := bS hm
 have aP := room_some aP
 refine tD (uQ (r := rGuideMessage) (l := K) [_, _] (a ++ (e ++ (f ++ R))) a0 I rfl (by decide) sl58 inf68 rfl rfl rfl rfl (aC.le (k.trans (c.trans d))) rfl b3 b4 aP) ?_
 rintro _ _ ⟨bz, rfl, bh⟩
 obtain ⟨b5, b6, rfl, _⟩ := bh.form
 refine tS (sN rfl)<|tS (sF rfl fld116_3)<|tD (uS 0 rfl rfl siz58 rfl rfl (by simp)) ?_
 rintro _ _ rfl
 refine Te<|Cr<|mV rfl<|tS (sD (vs := [_, _, _]) 1 3 rfl agg91 rfl rfl rfl)<|tS (sN rfl)<|tS (sF rfl fld116_0)<|tD (uN (vs := [_, _, _]) 0 3 rfl rfl rfl siz91 rfl (mc rfl (mc rfl (mc rfl mn))) rfl (by simp)) ?_
 rintro _ _ rfl
 refine Te<|Cr<|mV rfl<|aS rfl<|aS rfl<|Te<|Ct ?_
 obtain ⟨rfl, rfl, rfl, rfl, rfl, rfl, rfl⟩ := some7 hm
 have bA := (ar.le (c.trans d))
 have bB := (bb.le (c.trans d))
 exact rT ⟨p, q, B, C, Y, Z, e, f, b5, b6, bz, rfl, rfl, bA, bB, ak, al, t, x, bh⟩ (k.trans (c.trans d))

set_option maxHeartbeats 4000000 in
set_option maxRecDepth 20000 in
theorem cGuideDeskSell_2 (b : Base) (R : Hp) (ai : GuideJourney) (aG Z aa ab b1 ar aq X aH aI ac ad ae af A3 c4 y A8 c9 C) (bA : FZ rGuideRide b.w aH aI ai.Rides) (bf : FZ rApiTrain b.w ac ad Z) (bg : FZ (RT.list rI) b.w ae af aa) (h5 : OS 119 oGuidePromise0 b.w (sv A3 ar c4) ar y) (aJ : (A3 = none ↔ ar = [])) (cZ : OS 68 (OT.fr rGuideMessage) b.w (sv A8 aq c9) aq C) (bM bN bO aW) (hm : mGuideDeskSell_2 ai aG Z aa ab b1 ar aq = some (bM, bN, bO, aW)):
    CallsG Tryd.prog 25 [pb X, .agg #[sv aH ai.Rides aI], iv aG] b ((X, Cl 116 [sv ac Z ad, sv ae aa af, iv ab, iv b1, sv A3 ar c4, sv A8 aq c9]) :: (y ++ (C ++ R))) (fun v b' hp' => ∃ bh bP bi, .tuple #[iv bM, iv bN] = v ∧ (X, Cl 116 [sv ac Z ad, sv ae aa af, iv ab, iv bO, sv bh aW bP, sv A8 aq c9]) :: (bi ++ (C ++ R)) = hp' ∧ OS 119 oGuidePromise0 b'.w (sv bh aW bP) aW bi ∧ (bh = none ↔ aW = [])) := by
 refine fE 123 Tryd.func25 rfl Tryd.ntmps25 rfl ?_
 unfold mGuideDeskSell_2 at hm
 refine Cr<|tD (uB _ rfl rfl) ?_
 rintro _ _ ⟨W, rfl, rfl⟩
 refine aS rfl<|aS rfl<|Te<|Cs<|Cs ?_
 obtain ⟨cl, bB, hm⟩ := bS hm
 refine Di mixed (.refl _)<|E0 0 rfl (sM rfl)<|E0 1 rfl (sN rfl)<|E0 2 rfl (sF rfl fld116_0)<|Es 3 rfl (sD (vs := [_, _, _]) 1 3 rfl agg91 rfl rfl rfl)<|Es 4 rfl (sD (vs := [_]) 0 1 rfl agg33 rfl rfl rfl)<|Eo<|Da [5] (by kernel_rfl) rfl ?_
 refine Rd2 lr rfl rfl (uW _ call59 rfl (fun w ho => cGuideNetJourney _ [] (⟨(⟨Z, aa⟩ : ApiDay), ab⟩ : GuideNet) ai true ac ad ae af aH aI (bf.old ho) (bg.old ho) (bA.old ho) cl bB) (fun _ _ _ h => h.2.symm)) ?_ ?_
 rintro _ _ ⟨⟨_, rfl, _⟩, rfl⟩
 refine ⟨.inl (by kernel_rfl), ?_⟩
 refine El lr<|E0 6 rfl (sA rfl)<|Eo<|Dd (by kernel_rfl)<|Xn<|Cr<|mV rfl<|tS (q2 rfl rfl)<|Te ?_
 refine cI hm rfl (fun hm => ?_) fun hm => ?_
 refine Cr<|mV rfl<|aS rfl<|aS rfl<|Te<|Ct<|Xr ?_
 obtain ⟨rfl, rfl, rfl, rfl⟩ := some4 hm
 exact rT ⟨A3, c4, y, rfl, rfl, h5, aJ⟩ lr
 refine Ck<|Xn ?_
 obtain ⟨⟨aj, ak, al, am, an, ao⟩, b2, b3⟩ := bS hm
 refine Cj (fun bQ e' hp' => ∃ T U, [(0, pb X), (2, iv aG), (4, pb W), (9, pb T), (10, pb U)] = e' ∧ (X, Cl 116 [sv ac Z ad, sv ae aa af, iv ab, iv b1, sv A3 ar c4, sv A8 aq c9]) :: (W, Cl 33 [sv aH ai.Rides aI]) :: (T, Cl 86 [iv aj, iv ak, iv al]) :: (U, Cl 86 [iv am, iv an, iv ao]) :: (y ++ (C ++ R)) = hp' ∧ b.Le bQ) ?_ ?_
 have hm := b2
 obtain ⟨bj, cm, hm⟩ := bS hm
 obtain ⟨_, bk, hm⟩ := bS hm
 obtain ⟨bl, cn, hm⟩ := bS hm
 refine Di mixed (.refl _)<|E0 0 rfl (sF rfl fld33_0)<|Es 1 rfl (sL 0 rfl one31 rfl rfl) ?_
 obtain ⟨co, b4, b5⟩ := iS cm
 obtain ⟨cQ, b6, bC, bm, bD⟩ := FZ.get (sz := 3) rfl (by decide) bA b5
 obtain ⟨_, _, rfl, rfl, ⟨_, _, rfl, rfl, rfl⟩⟩ := b6
 refine E0 2 rfl (sI co rfl rfl b4 bD bm sl31)<|Es 3 rfl (sP (vs := [iv bj.Train, iv bj.On, iv bj.Off]) 3 rfl agg86 bm rfl (fun j u hu => bC j u hu))<|E0 4 rfl (sF rfl fld33_0)<|Es 5 rfl (sL 0 rfl one31 rfl rfl)<|E0 6 rfl (sF rfl fld33_0)<|Es 7 rfl (sL 0 rfl one31 rfl rfl)<|E0 8 rfl (sE rfl sl31) ?_
 have bk := (kS bk).2
 refine E0 9 rfl (sb rfl rfl bk) ?_
 obtain ⟨cp, b7, b8⟩ := iS cn
 obtain ⟨cR, b9, bE, bn, bG⟩ := FZ.get (sz := 3) rfl (by decide) bA b8
 obtain ⟨_, _, rfl, rfl, ⟨_, _, rfl, rfl, rfl⟩⟩ := b9
 refine E0 10 rfl (sI cp rfl rfl b7 bG bn sl31)<|Es 11 rfl (sP (vs := [iv bl.Train, iv bl.On, iv bl.Off]) 3 rfl agg86 bn rfl (fun j u hu => bE j u hu))<|Eo<|Da [12, 13] (by kernel_rfl) rfl ?_
 refine Rd2 lr rfl rfl (uA [iv 0, iv 0, iv 0] zero86 rfl) ?_ ?_
 rintro _ _ ⟨bo, rfl, rfl⟩
 refine iR<|Da [13] (by kernel_rfl) rfl ?_
 refine Rd2 lr rfl rfl (uA [iv 0, iv 0, iv 0] zero86 rfl) ?_ ?_
 rintro _ _ ⟨bp, rfl, rfl⟩
 refine iR<|Da [14] (by kernel_rfl) rfl ?_
 refine Rd2 lr rfl rfl (uN (vs := [_, _, _]) 1 3 rfl rfl rfl siz86 rfl (mc rfl (mc rfl (mc rfl mn))) rfl (by simp)) ?_ ?_
 rintro _ _ rfl
 refine iR<|Da [15] (by kernel_rfl) rfl ?_
 refine Rd2 lr rfl rfl (uN (vs := [_, _, _]) 0 3 rfl rfl rfl siz86 rfl (mc rfl (mc rfl (mc rfl mn))) rfl (by simp)) ?_ ?_
 rintro _ _ rfl
 refine ⟨.inl (by kernel_rfl), ?_⟩
 refine Dd (by kernel_rfl) ?_
 obtain ⟨rfl, rfl, rfl, rfl, rfl, rfl⟩ := some6 hm
 exact jJ ⟨bo, bp, rfl, rfl, lr⟩
 exact Rn
 exact Rn
 exact Rn
 refine Rd2 lr rfl rfl (uA [iv 0, iv 0, iv 0] zero86 rfl) ?_ ?_
 rintro _ _ ⟨bp, rfl, rfl⟩
 refine iR<|Da [12] (by kernel_rfl) rfl ?_
 refine Rd2 lr rfl rfl (uA [iv 0, iv 0, iv 0] zero86 rfl) ?_ ?_
 rintro _ _ ⟨bo, rfl, rfl⟩
 refine iR<|Da [14] (by kernel_rfl) rfl ?_
 refine Rd2 lr rfl rfl (uN (vs := [_, _, _]) 0 3 rfl rfl rfl siz86 rfl (mc rfl (mc rfl (mc rfl mn))) rfl (by simp)) ?_ ?_
 rintro _ _ rfl
 refine iR<|Da [15] (by kernel_rfl) rfl ?_
 refine Rd2 lr rfl rfl (uN (vs := [_, _, _]) 1 3 rfl rfl rfl siz86 rfl (mc rfl (mc rfl (mc rfl mn))) rfl (by simp)) ?_ ?_
 rintro _ _ rfl
 refine ⟨.inl (by kernel_rfl), ?_⟩
 refine Dd (by kernel_rfl) ?_
 obtain ⟨rfl, rfl, rfl, rfl, rfl, rfl⟩ := some6 hm
 exact jJ ⟨bo, bp, rfl, rfl, lr⟩
 exact Rn
 exact Rn
 exact Rn
 exact Rn
 rintro bQ _ _ ⟨T, U, rfl, rfl, D⟩
 have hm := (unc6E b3)
 refine Cs ?_
 obtain ⟨⟨bR, bT, bU, S⟩, bH, hm⟩ := bS hm
 have hm := (unc4E hm)
 refine Di mixed (.refl _)<|E0 0 rfl (sM rfl)<|E0 1 rfl (sN rfl)<|E0 2 rfl (sF rfl fld116_0)<|Es 3 rfl (sD (vs := [_, _, _]) 0 3 rfl agg91 rfl rfl rfl)<|Es 4 rfl (sD (vs := [_, _, _]) 2 3 rfl agg86 rfl rfl rfl)<|Eo<|Da [5] (by kernel_rfl) rfl ?_
 refine Rg lr rfl rfl _ call60 rfl (cGuideNetOn _ _ (⟨(⟨Z, aa⟩ : ApiDay), ab⟩ : GuideNet) (⟨aj, ak, al⟩ : GuideRide) ac ad ae af (bf.le D) (bg.le D) bR bT bU S bH) ?_ ?_
 rintro _ cq _ E ⟨rfl, rfl⟩
 refine ⟨.inl (by kernel_rfl), ?_⟩
 refine El E<|E0 6 rfl (st_vfield1 (cs := [iv bR, iv bT, iv bU, iv S]) rfl fdv83_3 one3 rfl)<|E0 7 rfl (sA rfl)<|Eo<|Dd (by kernel_rfl)<|Xn<|Cs<|Cb<|Cr<|mV rfl ?_
 refine tS (sN rfl)<|tS (sF rfl fld116_2)<|tS (sL 0 rfl one114 rfl rfl)<|tS (sE rfl sl114)<|tS (q6 rfl rfl)<|aS rfl<|Te ?_
 refine cI hm rfl (fun hm => ?_) fun hm => ?_
 refine Cr<|aS rfl<|aS rfl<|Te<|Ct<|Xb<|Xr ?_
 obtain ⟨rfl, rfl, rfl, rfl⟩ := some4 hm
 have ca := (h5.le (D.trans E))
 exact rT ⟨A3, c4, y, rfl, rfl, ca, aJ⟩ (D.trans E)
 refine Cr<|mV rfl<|mV rfl<|tS (sN rfl)<|tS (sF rfl fld116_1)<|tS (sL 0 rfl one3 rfl rfl)<|tS (q3 rfl rfl)<|aS rfl<|Te ?_
 refine cI hm rfl (fun hm => ?_) fun hm => ?_
 refine Cr<|aS rfl<|aS rfl<|Te<|Ct<|Xb<|Xr ?_
 obtain ⟨rfl, rfl, rfl, rfl⟩ := some4 hm
 have cb := (h5.le (D.trans E))
 exact rT ⟨A3, c4, y, rfl, rfl, cb, aJ⟩ (D.trans E)
 refine Cr<|mV rfl<|tS (q5 rfl rfl)<|aS rfl<|Te ?_
 refine cI hm rfl (fun hm => ?_) fun hm => ?_
 refine Cr<|aS rfl<|aS rfl<|Te<|Ct<|Xb<|Xr ?_
 obtain ⟨rfl, rfl, rfl, rfl⟩ := some4 hm
 have cc := (h5.le (D.trans E))
 exact rT ⟨A3, c4, y, rfl, rfl, cc, aJ⟩ (D.trans E)
 refine Cr<|mV rfl<|mV rfl<|tS (q3 rfl rfl)<|aS rfl<|Te ?_
 refine cI hm rfl (fun hm => ?_) fun hm => ?_
 refine Cr<|aS rfl<|aS rfl<|Te<|Ct<|Xb<|Xr ?_
 obtain ⟨rfl, rfl, rfl, rfl⟩ := some4 hm
 have cd := (h5.le (D.trans E))
 exact rT ⟨A3, c4, y, rfl, rfl, cd, aJ⟩ (D.trans E)
 refine Ck<|Xm<|Xn<|Cr<|mV rfl<|mV rfl<|tS (sN rfl)<|tS (sF rfl fld116_1)<|tD (uS 0 rfl rfl siz3 rfl rfl (by simp)) ?_
 rintro _ _ rfl
 refine Te ?_
 obtain ⟨⟨au, av, aw⟩, ce, cf⟩ := bS hm
 refine Cj (fun aQ e' hp' => ∃ aX aA aB K aC aD L aE aF O, [(0, pb X), (4, pb W), (9, pb T), (10, pb U), (11, iv S), (12, pb aX)] = e' ∧ (X, Cl 116 [sv ac Z ad, sv ae aa af, iv ab, iv aG, sv A3 ar c4, sv A8 aq c9]) :: (W, Cl 33 [sv aH ai.Rides aI]) :: (T, Cl 86 [iv aj, iv ak, iv al]) :: (U, Cl 86 [iv am, iv an, iv ao]) :: (aX, Cl 119 [iv 0, iv 0, iv 0, iv 0, iv 0, sn, sv aA au aB, sv aC av aD, sv aE aw aF, iv 0, iv 0]) :: (y ++ (C ++ (K ++ (L ++ (O ++ R))))) = hp' ∧ cq.Le aQ ∧ OS 4 (OT.fr RT.bool) aQ.w (sv aA au aB) au K ∧ OS 3 (OT.fr rI) aQ.w (sv aC av aD) av L ∧ OS 3 (OT.fr rI) aQ.w (sv aE aw aF) aw O) ?_ ?_
 have hm := ce
 obtain ⟨G, z, hm⟩ := bS hm
 obtain ⟨H, A, hm⟩ := bS hm
 obtain ⟨I, B, hm⟩ := bS hm
 refine D_drawS ((X, Cl 116 [sv ac Z ad, sv ae aa af, iv ab, iv aG, sv A3 ar c4, sv A8 aq c9]) :: (W, Cl 33 [sv aH ai.Rides aI]) :: (T, Cl 86 [iv aj, iv ak, iv al]) :: (U, Cl 86 [iv am, iv an, iv ao]) :: (y ++ (C ++ R))) mixed ?_
 refine D_tail (fun a3 e' hp' => ∃ c f g d k m e n p q, [(0, pb X), (4, pb W), (9, pb T), (10, pb U), (11, iv S), (12, pb q), (69, .slice n (List.replicate G (false : Bool)).length p), (73, .slice k (List.replicate H (0 : Int)).length m), (77, .slice f (List.replicate I (0 : Int)).length g)] = e' ∧ (q, Cl 119 [iv 0, iv 0, iv 0, iv 0, iv 0, sn, sn, sn, sn, iv 0, iv 0]) :: (X, Cl 116 [sv ac Z ad, sv ae aa af, iv ab, iv aG, sv A3 ar c4, sv A8 aq c9]) :: (W, Cl 33 [sv aH ai.Rides aI]) :: (T, Cl 86 [iv aj, iv ak, iv al]) :: (U, Cl 86 [iv am, iv an, iv ao]) :: (c ++ (d ++ (e ++ (y ++ (C ++ R))))) = hp' ∧ OS 3 (OT.fr rI) a3.w (.slice f (List.replicate I (0 : Int)).length g) (List.replicate I (0 : Int)) c ∧ OS 3 (OT.fr rI) a3.w (.slice k (List.replicate H (0 : Int)).length m) (List.replicate H (0 : Int)) d ∧ OS 4 (OT.fr RT.bool) a3.w (.slice n (List.replicate G (false : Bool)).length p) (List.replicate G (false : Bool)) e) 2 #[true, true, true, true, true, true, true, true, true, true, true, true, false, true, false] ?_ (fun tl652 => ?_)
 rintro a3 _ _ aU ⟨c, f, g, d, k, m, e, n, p, q, rfl, rfl, cr, ct, cu⟩
 refine Da [12] (by kernel_rfl) rfl ?_
 refine Rd2 aU rfl rfl (Stable.does (sB (v := .agg #[iv 0, iv 0, iv 0, iv 0, iv 0, sn, .slice n (List.replicate G (false : Bool)).length p, .slice k (List.replicate H (0 : Int)).length m, .slice f (List.replicate I (0 : Int)).length g, iv 0, iv 0]) [(1, .slice n (List.replicate G (false : Bool)).length p), (2, .slice k (List.replicate H (0 : Int)).length m), (3, .slice f (List.replicate I (0 : Int)).length g)] rfl (fun _ => by kernel_rfl))) ?_ ?_
 rintro _ _ ⟨rfl, rfl⟩
 refine iR<|Da [14] (by kernel_rfl) rfl ?_
 refine Rd2 aU rfl rfl (uN (vs := [_, _, _, _, _, _, _, _, _, _, _]) 0 11 rfl rfl rfl siz119 rfl (mc rfl (mc rfl (mc rfl (mc rfl (mc rfl (mc rfl (mc rfl (mc rfl (mc rfl (mc rfl (mc rfl mn))))))))))) rfl (by simp)) ?_ ?_
 rintro _ _ rfl
 refine ⟨.inl (by kernel_rfl), ?_⟩
 refine Dd (by kernel_rfl) ?_
 obtain ⟨rfl, rfl, rfl⟩ := some3 hm
 exact jJ ⟨q, n, p, e, k, m, d, f, g, c, rfl, rfl, aU, cu, ct, cr⟩
 exact Rn
 exact Rn
 refine D_tail (fun a4 e' hp' => ∃ c f g d k m e n p, [(0, pb X), (4, pb W), (9, pb T), (10, pb U), (11, iv S), (69, .slice n (List.replicate G (false : Bool)).length p), (73, .slice k (List.replicate H (0 : Int)).length m), (77, .slice f (List.replicate I (0 : Int)).length g)] = e' ∧ (X, Cl 116 [sv ac Z ad, sv ae aa af, iv ab, iv aG, sv A3 ar c4, sv A8 aq c9]) :: (W, Cl 33 [sv aH ai.Rides aI]) :: (T, Cl 86 [iv aj, iv ak, iv al]) :: (U, Cl 86 [iv am, iv an, iv ao]) :: (c ++ (d ++ (e ++ (y ++ (C ++ R))))) = hp' ∧ OS 3 (OT.fr rI) a4.w (.slice f (List.replicate I (0 : Int)).length g) (List.replicate I (0 : Int)) c ∧ OS 3 (OT.fr rI) a4.w (.slice k (List.replicate H (0 : Int)).length m) (List.replicate H (0 : Int)) d ∧ OS 4 (OT.fr RT.bool) a4.w (.slice n (List.replicate G (false : Bool)).length p) (List.replicate G (false : Bool)) e) 3 #[true, true, true, true, true, true, true, true, true, true, true, true, false, false, false] ?_ (fun tl658 => ?_)
 rintro a4 _ _ ag ⟨c, f, g, d, k, m, e, n, p, rfl, rfl, bV, bW, bX⟩
 refine Da [12, 13] (by kernel_rfl) rfl ?_
 refine Rd2 ag rfl rfl (Stable.does (sB (v := .agg #[iv 0, iv 0, iv 0, iv 0, iv 0, sn, .slice n (List.replicate G (false : Bool)).length p, .slice k (List.replicate H (0 : Int)).length m, .slice f (List.replicate I (0 : Int)).length g, iv 0, iv 0]) [(1, .slice n (List.replicate G (false : Bool)).length p), (2, .slice k (List.replicate H (0 : Int)).length m), (3, .slice f (List.replicate I (0 : Int)).length g)] rfl (fun _ => by kernel_rfl))) ?_ ?_
 rintro _ _ ⟨rfl, rfl⟩
 refine iR<|Da [13] (by kernel_rfl) rfl ?_
 refine Rd2 ag rfl rfl (uA [iv 0, iv 0, iv 0, iv 0, iv 0, sn, sn, sn, sn, iv 0, iv 0] zero119 rfl) ?_ ?_
 rintro _ _ ⟨q, rfl, rfl⟩
 refine iR<|Da [14] (by kernel_rfl) rfl ?_
 refine Rd2 ag rfl rfl (uN (vs := [_, _, _, _, _, _, _, _, _, _, _]) 0 11 rfl rfl rfl siz119 rfl (mc rfl (mc rfl (mc rfl (mc rfl (mc rfl (mc rfl (mc rfl (mc rfl (mc rfl (mc rfl (mc rfl mn))))))))))) rfl (by simp)) ?_ ?_
 rintro _ _ rfl
 refine ⟨.inl (by kernel_rfl), ?_⟩
 refine Dd (by kernel_rfl) ?_
 obtain ⟨rfl, rfl, rfl⟩ := some3 hm
 exact jJ ⟨q, n, p, e, k, m, d, f, g, c, rfl, rfl, ag, bX, bW, bV⟩
 exact Rn
 exact Rn
 refine Rd2 ag rfl rfl (uA [iv 0, iv 0, iv 0, iv 0, iv 0, sn, sn, sn, sn, iv 0, iv 0] zero119 rfl) ?_ ?_
 rintro _ _ ⟨q, rfl, rfl⟩
 refine iR ?_
 exact dG tl652 ⟨c, f, g, d, k, m, e, n, p, q, rfl, rfl, bV, bW, bX⟩ ag
 exact Rn
 refine D_tail (fun bq e' hp' => ∃ d k m e n p q, [(0, pb X), (4, pb W), (9, pb T), (10, pb U), (11, iv S), (12, pb q), (69, .slice n (List.replicate G (false : Bool)).length p), (73, .slice k (List.replicate H (0 : Int)).length m), (76, iv ((ai.Rides.length : Int)))] = e' ∧ (q, Cl 119 [iv 0, iv 0, iv 0, iv 0, iv 0, sn, sn, sn, sn, iv 0, iv 0]) :: (X, Cl 116 [sv ac Z ad, sv ae aa af, iv ab, iv aG, sv A3 ar c4, sv A8 aq c9]) :: (W, Cl 33 [sv aH ai.Rides aI]) :: (T, Cl 86 [iv aj, iv ak, iv al]) :: (U, Cl 86 [iv am, iv an, iv ao]) :: (d ++ (e ++ (y ++ (C ++ R)))) = hp' ∧ OS 3 (OT.fr rI) bq.w (.slice k (List.replicate H (0 : Int)).length m) (List.replicate H (0 : Int)) d ∧ OS 4 (OT.fr RT.bool) bq.w (.slice n (List.replicate G (false : Bool)).length p) (List.replicate G (false : Bool)) e) 3 #[true, true, true, true, true, true, true, true, true, true, true, false, false, true, false] ?_ (fun tl663 => ?_)
 rintro bq _ _ a5 ⟨d, k, m, e, n, p, q, rfl, rfl, cv, cw⟩
 have B := mkLen_some B
 refine Da [11] (by kernel_rfl) rfl ?_
 refine Rd2 a5 rfl rfl (u_mkOS (r := rI) [_, _, _, _, _] (d ++ (e ++ (y ++ (C ++ R)))) [iv 0] 0 I rfl B.1 rfl rfl sl49 inf3 rfl rfl rfl (by decide) rfl B.2.1 B.2.2) ?_ ?_
 rintro _ _ ⟨c, rfl, s⟩
 obtain ⟨f, g, rfl, _⟩ := s.form
 refine iR ?_
 exact dG tl652 ⟨c, f, g, d, k, m, e, n, p, q, rfl, rfl, s, cv, cw⟩ a5
 exact Rn
 refine D_tail (fun br e' hp' => ∃ c f g e n p q, [(0, pb X), (4, pb W), (9, pb T), (10, pb U), (11, iv S), (12, pb q), (69, .slice n (List.replicate G (false : Bool)).length p), (72, iv ((ai.Rides.length : Int))), (77, .slice f (List.replicate I (0 : Int)).length g)] = e' ∧ (q, Cl 119 [iv 0, iv 0, iv 0, iv 0, iv 0, sn, sn, sn, sn, iv 0, iv 0]) :: (X, Cl 116 [sv ac Z ad, sv ae aa af, iv ab, iv aG, sv A3 ar c4, sv A8 aq c9]) :: (W, Cl 33 [sv aH ai.Rides aI]) :: (T, Cl 86 [iv aj, iv ak, iv al]) :: (U, Cl 86 [iv am, iv an, iv ao]) :: (c ++ (e ++ (y ++ (C ++ R)))) = hp' ∧ OS 3 (OT.fr rI) br.w (.slice f (List.replicate I (0 : Int)).length g) (List.replicate I (0 : Int)) c ∧ OS 4 (OT.fr RT.bool) br.w (.slice n (List.replicate G (false : Bool)).length p) (List.replicate G (false : Bool)) e) 3 #[true, true, true, true, true, true, true, false, true, true, true, true, false, true, false] ?_ (fun tl668 => ?_)
 rintro br _ _ a6 ⟨c, f, g, e, n, p, q, rfl, rfl, cx, cy⟩
 have A := mkLen_some A
 refine Da [7] (by kernel_rfl) rfl ?_
 refine Rd2 a6 rfl rfl (u_mkOS (r := rI) [_, _, _, _, _] (c ++ (e ++ (y ++ (C ++ R)))) [iv 0] 0 H rfl A.1 rfl rfl sl49 inf3 rfl rfl rfl (by decide) rfl A.2.1 A.2.2) ?_ ?_
 rintro _ _ ⟨d, rfl, t⟩
 obtain ⟨k, m, rfl, _⟩ := t.form
 refine iR ?_
 exact dG tl652 ⟨c, f, g, d, k, m, e, n, p, q, rfl, rfl, cx, t, cy⟩ a6
 exact Rn
 refine D_tail (fun bs e' hp' => ∃ c f g d k m q, [(0, pb X), (4, pb W), (9, pb T), (10, pb U), (11, iv S), (12, pb q), (68, iv ((ai.Rides.length : Int))), (73, .slice k (List.replicate H (0 : Int)).length m), (77, .slice f (List.replicate I (0 : Int)).length g)] = e' ∧ (q, Cl 119 [iv 0, iv 0, iv 0, iv 0, iv 0, sn, sn, sn, sn, iv 0, iv 0]) :: (X, Cl 116 [sv ac Z ad, sv ae aa af, iv ab, iv aG, sv A3 ar c4, sv A8 aq c9]) :: (W, Cl 33 [sv aH ai.Rides aI]) :: (T, Cl 86 [iv aj, iv ak, iv al]) :: (U, Cl 86 [iv am, iv an, iv ao]) :: (c ++ (d ++ (y ++ (C ++ R)))) = hp' ∧ OS 3 (OT.fr rI) bs.w (.slice f (List.replicate I (0 : Int)).length g) (List.replicate I (0 : Int)) c ∧ OS 3 (OT.fr rI) bs.w (.slice k (List.replicate H (0 : Int)).length m) (List.replicate H (0 : Int)) d) 3 #[true, true, true, false, true, true, true, true, true, true, true, true, false, true, false] ?_ (fun tl673 => ?_)
 rintro bs _ _ a7 ⟨c, f, g, d, k, m, q, rfl, rfl, cz, cA⟩
 have z := mkLen_some z
 refine Da [3] (by kernel_rfl) rfl ?_
 refine Rd2 a7 rfl rfl (u_mkOS (r := RT.bool) [_, _, _, _, _] (c ++ (d ++ (y ++ (C ++ R)))) [bv false] false G rfl z.1 rfl rfl sl117 inf4 rfl rfl rfl (by decide) rfl z.2.1 z.2.2) ?_ ?_
 rintro _ _ ⟨e, rfl, x⟩
 obtain ⟨n, p, rfl, _⟩ := x.form
 refine iR ?_
 exact dG tl652 ⟨c, f, g, d, k, m, e, n, p, q, rfl, rfl, cz, cA, x⟩ a7
 exact Rn
 refine Ei lr (.refl _)<|E0 0 rfl (sF rfl fld33_0)<|Es 1 rfl (sL 1 rfl one31 rfl rfl)<|E0 2 rfl (sE rfl sl31)<|E0 4 rfl (sF rfl fld33_0)<|Es 5 rfl (sL 1 rfl one31 rfl rfl)<|E0 6 rfl (sE rfl sl31)<|E0 8 rfl (sF rfl fld33_0)<|Es 9 rfl (sL 1 rfl one31 rfl rfl)<|E0 10 rfl (sE rfl sl31) ?_
 refine Eo ?_
 have z := mkLen_some z
 have A := mkLen_some A
 have B := mkLen_some B
 refine Da [3, 7, 11, 13] (by kernel_rfl) rfl ?_
 refine Rd2 lr rfl rfl (u_mkOS (r := RT.bool) [_, _, _, _] (y ++ (C ++ R)) [bv false] false G rfl z.1 rfl rfl sl117 inf4 rfl rfl rfl (by decide) rfl z.2.1 z.2.2) ?_ ?_
 rintro _ _ ⟨e, rfl, x⟩
 obtain ⟨n, p, rfl, _⟩ := x.form
 refine iR<|Da [7, 11, 13] (by kernel_rfl) rfl ?_
 refine Rd2 lr rfl rfl (u_mkOS (r := rI) [_, _, _, _] (e ++ (y ++ (C ++ R))) [iv 0] 0 H rfl A.1 rfl rfl sl49 inf3 rfl rfl rfl (by decide) rfl A.2.1 A.2.2) ?_ ?_
 rintro _ _ ⟨d, rfl, t⟩
 obtain ⟨k, m, rfl, _⟩ := t.form
 refine iR<|Da [11, 13] (by kernel_rfl) rfl ?_
 refine Rd2 lr rfl rfl (u_mkOS (r := rI) [_, _, _, _] (d ++ (e ++ (y ++ (C ++ R)))) [iv 0] 0 I rfl B.1 rfl rfl sl49 inf3 rfl rfl rfl (by decide) rfl B.2.1 B.2.2) ?_ ?_
 rintro _ _ ⟨c, rfl, s⟩
 obtain ⟨f, g, rfl, _⟩ := s.form
 refine iR ?_
 exact dG tl658 ⟨c, f, g, d, k, m, e, n, p, rfl, rfl, s, t, x⟩ lr
 refine Rd2 lr rfl rfl (uA [iv 0, iv 0, iv 0, iv 0, iv 0, sn, sn, sn, sn, iv 0, iv 0] zero119 rfl) ?_ ?_
 rintro _ _ ⟨q, rfl, rfl⟩
 refine iR ?_
 exact dG tl663 ⟨d, k, m, e, n, p, q, rfl, rfl, t, x⟩ lr
 exact Rn
 refine Rd2 lr rfl rfl (u_mkOS (r := rI) [_, _, _, _] (e ++ (y ++ (C ++ R))) [iv 0] 0 I rfl B.1 rfl rfl sl49 inf3 rfl rfl rfl (by decide) rfl B.2.1 B.2.2) ?_ ?_
 rintro _ _ ⟨c, rfl, s⟩
 obtain ⟨f, g, rfl, _⟩ := s.form
 refine iR<|Da [7, 13] (by kernel_rfl) rfl ?_
 refine Rd2 lr rfl rfl (u_mkOS (r := rI) [_, _, _, _] (c ++ (e ++ (y ++ (C ++ R)))) [iv 0] 0 H rfl A.1 rfl rfl sl49 inf3 rfl rfl rfl (by decide) rfl A.2.1 A.2.2) ?_ ?_
 rintro _ _ ⟨d, rfl, t⟩
 obtain ⟨k, m, rfl, _⟩ := t.form
 refine iR ?_
 exact dG tl658 ⟨c, f, g, d, k, m, e, n, p, rfl, rfl, s, t, x⟩ lr
 refine Rd2 lr rfl rfl (uA [iv 0, iv 0, iv 0, iv 0, iv 0, sn, sn, sn, sn, iv 0, iv 0] zero119 rfl) ?_ ?_
 rintro _ _ ⟨q, rfl, rfl⟩
 refine iR ?_
 exact dG tl668 ⟨c, f, g, e, n, p, q, rfl, rfl, s, x⟩ lr
 exact Rn
 refine Rd2 lr rfl rfl (uA [iv 0, iv 0, iv 0, iv 0, iv 0, sn, sn, sn, sn, iv 0, iv 0] zero119 rfl) ?_ ?_
 rintro _ _ ⟨q, rfl, rfl⟩
 refine iR<|Da [7, 11] (by kernel_rfl) rfl ?_
 refine Rd2 lr rfl rfl (u_mkOS (r := rI) [_, _, _, _, _] (e ++ (y ++ (C ++ R))) [iv 0] 0 H rfl A.1 rfl rfl sl49 inf3 rfl rfl rfl (by decide) rfl A.2.1 A.2.2) ?_ ?_
 rintro _ _ ⟨d, rfl, t⟩
 obtain ⟨k, m, rfl, _⟩ := t.form
 refine iR ?_
 exact dG tl663 ⟨d, k, m, e, n, p, q, rfl, rfl, t, x⟩ lr
 refine Rd2 lr rfl rfl (u_mkOS (r := rI) [_, _, _, _, _] (e ++ (y ++ (C ++ R))) [iv 0] 0 I rfl B.1 rfl rfl sl49 inf3 rfl rfl rfl (by decide) rfl B.2.1 B.2.2) ?_ ?_
 rintro _ _ ⟨c, rfl, s⟩
 obtain ⟨f, g, rfl, _⟩ := s.form
 refine iR ?_
 exact dG tl668 ⟨c, f, g, e, n, p, q, rfl, rfl, s, x⟩ lr
 exact Rn
 exact Rn
 refine Rd2 lr rfl rfl (u_mkOS (r := rI) [_, _, _, _] (y ++ (C ++ R)) [iv 0] 0 H rfl A.1 rfl rfl sl49 inf3 rfl rfl rfl (by decide) rfl A.2.1 A.2.2) ?_ ?_
 rintro _ _ ⟨d, rfl, t⟩
 obtain ⟨k, m, rfl, _⟩ := t.form
 refine iR<|Da [3, 11, 13] (by kernel_rfl) rfl ?_
 refine Rd2 lr rfl rfl (u_mkOS (r := RT.bool) [_, _, _, _] (d ++ (y ++ (C ++ R))) [bv false] false G rfl z.1 rfl rfl sl117 inf4 rfl rfl rfl (by decide) rfl z.2.1 z.2.2) ?_ ?_
 rintro _ _ ⟨e, rfl, x⟩
 obtain ⟨n, p, rfl, _⟩ := x.form
 refine iR<|Da [11, 13] (by kernel_rfl) rfl ?_
 refine Rd2 lr rfl rfl (u_mkOS (r := rI) [_, _, _, _] (e ++ (d ++ (y ++ (C ++ R)))) [iv 0] 0 I rfl B.1 rfl rfl sl49 inf3 rfl rfl rfl (by decide) rfl B.2.1 B.2.2) ?_ ?_
 rintro _ _ ⟨c, rfl, s⟩
 obtain ⟨f, g, rfl, _⟩ := s.form
 refine iR ?_
 exact dG tl658 ⟨c, f, g, d, k, m, e, n, p, rfl, rfl, s, t, x⟩ lr
 refine Rd2 lr rfl rfl (uA [iv 0, iv 0, iv 0, iv 0, iv 0, sn, sn, sn, sn, iv 0, iv 0] zero119 rfl) ?_ ?_
 rintro _ _ ⟨q, rfl, rfl⟩
 refine iR ?_
 exact dG tl663 ⟨d, k, m, e, n, p, q, rfl, rfl, t, x⟩ lr
 exact Rn
 refine Rd2 lr rfl rfl (u_mkOS (r := rI) [_, _, _, _] (d ++ (y ++ (C ++ R))) [iv 0] 0 I rfl B.1 rfl rfl sl49 inf3 rfl rfl rfl (by decide) rfl B.2.1 B.2.2) ?_ ?_
 rintro _ _ ⟨c, rfl, s⟩
 obtain ⟨f, g, rfl, _⟩ := s.form
 refine iR<|Da [3, 13] (by kernel_rfl) rfl ?_
 refine Rd2 lr rfl rfl (u_mkOS (r := RT.bool) [_, _, _, _] (c ++ (d ++ (y ++ (C ++ R)))) [bv false] false G rfl z.1 rfl rfl sl117 inf4 rfl rfl rfl (by decide) rfl z.2.1 z.2.2) ?_ ?_
 rintro _ _ ⟨e, rfl, x⟩
 obtain ⟨n, p, rfl, _⟩ := x.form
 refine iR ?_
 exact dG tl658 ⟨c, f, g, d, k, m, e, n, p, rfl, rfl, s, t, x⟩ lr
 refine Rd2 lr rfl rfl (uA [iv 0, iv 0, iv 0, iv 0, iv 0, sn, sn, sn, sn, iv 0, iv 0] zero119 rfl) ?_ ?_
 rintro _ _ ⟨q, rfl, rfl⟩
 refine iR ?_
 exact dG tl673 ⟨c, f, g, d, k, m, q, rfl, rfl, s, t⟩ lr
 exact Rn
 refine Rd2 lr rfl rfl (uA [iv 0, iv 0, iv 0, iv 0, iv 0, sn, sn, sn, sn, iv 0, iv 0] zero119 rfl) ?_ ?_
 rintro _ _ ⟨q, rfl, rfl⟩
 refine iR<|Da [3, 11] (by kernel_rfl) rfl ?_
 refine Rd2 lr rfl rfl (u_mkOS (r := RT.bool) [_, _, _, _, _] (d ++ (y ++ (C ++ R))) [bv false] false G rfl z.1 rfl rfl sl117 inf4 rfl rfl rfl (by decide) rfl z.2.1 z.2.2) ?_ ?_
 rintro _ _ ⟨e, rfl, x⟩
 obtain ⟨n, p, rfl, _⟩ := x.form
 refine iR ?_
 exact dG tl663 ⟨d, k, m, e, n, p, q, rfl, rfl, t, x⟩ lr
 refine Rd2 lr rfl rfl (u_mkOS (r := rI) [_, _, _, _, _] (d ++ (y ++ (C ++ R))) [iv 0] 0 I rfl B.1 rfl rfl sl49 inf3 rfl rfl rfl (by decide) rfl B.2.1 B.2.2) ?_ ?_
 rintro _ _ ⟨c, rfl, s⟩
 obtain ⟨f, g, rfl, _⟩ := s.form
 refine iR ?_
 exact dG tl673 ⟨c, f, g, d, k, m, q, rfl, rfl, s, t⟩ lr
 exact Rn
 exact Rn
 refine Rd2 lr rfl rfl (u_mkOS (r := rI) [_, _, _, _] (y ++ (C ++ R)) [iv 0] 0 I rfl B.1 rfl rfl sl49 inf3 rfl rfl rfl (by decide) rfl B.2.1 B.2.2) ?_ ?_
 rintro _ _ ⟨c, rfl, s⟩
 obtain ⟨f, g, rfl, _⟩ := s.form
 refine iR<|Da [3, 7, 13] (by kernel_rfl) rfl ?_
 refine Rd2 lr rfl rfl (u_mkOS (r := RT.bool) [_, _, _, _] (c ++ (y ++ (C ++ R))) [bv false] false G rfl z.1 rfl rfl sl117 inf4 rfl rfl rfl (by decide) rfl z.2.1 z.2.2) ?_ ?_
 rintro _ _ ⟨e, rfl, x⟩
 obtain ⟨n, p, rfl, _⟩ := x.form
 refine iR<|Da [7, 13] (by kernel_rfl) rfl ?_
 refine Rd2 lr rfl rfl (u_mkOS (r := rI) [_, _, _, _] (e ++ (c ++ (y ++ (C ++ R)))) [iv 0] 0 H rfl A.1 rfl rfl sl49 inf3 rfl rfl rfl (by decide) rfl A.2.1 A.2.2) ?_ ?_
 rintro _ _ ⟨d, rfl, t⟩
 obtain ⟨k, m, rfl, _⟩ := t.form
 refine iR ?_
 exact dG tl658 ⟨c, f, g, d, k, m, e, n, p, rfl, rfl, s, t, x⟩ lr
 refine Rd2 lr rfl rfl (uA [iv 0, iv 0, iv 0, iv 0, iv 0, sn, sn, sn, sn, iv 0, iv 0] zero119 rfl) ?_ ?_
 rintro _ _ ⟨q, rfl, rfl⟩
 refine iR ?_
 exact dG tl668 ⟨c, f, g, e, n, p, q, rfl, rfl, s, x⟩ lr
 exact Rn
 refine Rd2 lr rfl rfl (u_mkOS (r := rI) [_, _, _, _] (c ++ (y ++ (C ++ R))) [iv 0] 0 H rfl A.1 rfl rfl sl49 inf3 rfl rfl rfl (by decide) rfl A.2.1 A.2.2) ?_ ?_
 rintro _ _ ⟨d, rfl, t⟩
 obtain ⟨k, m, rfl, _⟩ := t.form
 refine iR<|Da [3, 13] (by kernel_rfl) rfl ?_
 refine Rd2 lr rfl rfl (u_mkOS (r := RT.bool) [_, _, _, _] (d ++ (c ++ (y ++ (C ++ R)))) [bv false] false G rfl z.1 rfl rfl sl117 inf4 rfl rfl rfl (by decide) rfl z.2.1 z.2.2) ?_ ?_
 rintro _ _ ⟨e, rfl, x⟩
 obtain ⟨n, p, rfl, _⟩ := x.form
 refine iR ?_
 exact dG tl658 ⟨c, f, g, d, k, m, e, n, p, rfl, rfl, s, t, x⟩ lr
 refine Rd2 lr rfl rfl (uA [iv 0, iv 0, iv 0, iv 0, iv 0, sn, sn, sn, sn, iv 0, iv 0] zero119 rfl) ?_ ?_
 rintro _ _ ⟨q, rfl, rfl⟩
 refine iR ?_
 exact dG tl673 ⟨c, f, g, d, k, m, q, rfl, rfl, s, t⟩ lr
 exact Rn
 refine Rd2 lr rfl rfl (uA [iv 0, iv 0, iv 0, iv 0, iv 0, sn, sn, sn, sn, iv 0, iv 0] zero119 rfl) ?_ ?_
 rintro _ _ ⟨q, rfl, rfl⟩
 refine iR<|Da [3, 7] (by kernel_rfl) rfl ?_
 refine Rd2 lr rfl rfl (u_mkOS (r := RT.bool) [_, _, _, _, _] (c ++ (y ++ (C ++ R))) [bv false] false G rfl z.1 rfl rfl sl117 inf4 rfl rfl rfl (by decide) rfl z.2.1 z.2.2) ?_ ?_
 rintro _ _ ⟨e, rfl, x⟩
 obtain ⟨n, p, rfl, _⟩ := x.form
 refine iR ?_
 exact dG tl668 ⟨c, f, g, e, n, p, q, rfl, rfl, s, x⟩ lr
 refine Rd2 lr rfl rfl (u_mkOS (r := rI) [_, _, _, _, _] (c ++ (y ++ (C ++ R))) [iv 0] 0 H rfl A.1 rfl rfl sl49 inf3 rfl rfl rfl (by decide) rfl A.2.1 A.2.2) ?_ ?_
 rintro _ _ ⟨d, rfl, t⟩
 obtain ⟨k, m, rfl, _⟩ := t.form
 refine iR ?_
 exact dG tl673 ⟨c, f, g, d, k, m, q, rfl, rfl, s, t⟩ lr
 exact Rn
 exact Rn
 refine Rd2 lr rfl rfl (uA [iv 0, iv 0, iv 0, iv 0, iv 0, sn, sn, sn, sn, iv 0, iv 0] zero119 rfl) ?_ ?_
 rintro _ _ ⟨q, rfl, rfl⟩
 refine iR<|Da [3, 7, 11] (by kernel_rfl) rfl ?_
 refine Rd2 lr rfl rfl (u_mkOS (r := RT.bool) [_, _, _, _, _] (y ++ (C ++ R)) [bv false] false G rfl z.1 rfl rfl sl117 inf4 rfl rfl rfl (by decide) rfl z.2.1 z.2.2) ?_ ?_
 rintro _ _ ⟨e, rfl, x⟩
 obtain ⟨n, p, rfl, _⟩ := x.form
 refine iR<|Da [7, 11] (by kernel_rfl) rfl ?_
 refine Rd2 lr rfl rfl (u_mkOS (r := rI) [_, _, _, _, _] (e ++ (y ++ (C ++ R))) [iv 0] 0 H rfl A.1 rfl rfl sl49 inf3 rfl rfl rfl (by decide) rfl A.2.1 A.2.2) ?_ ?_
 rintro _ _ ⟨d, rfl, t⟩
 obtain ⟨k, m, rfl, _⟩ := t.form
 refine iR ?_
 exact dG tl663 ⟨d, k, m, e, n, p, q, rfl, rfl, t, x⟩ lr
 refine Rd2 lr rfl rfl (u_mkOS (r := rI) [_, _, _, _, _] (e ++ (y ++ (C ++ R))) [iv 0] 0 I rfl B.1 rfl rfl sl49 inf3 rfl rfl rfl (by decide) rfl B.2.1 B.2.2) ?_ ?_
 rintro _ _ ⟨c, rfl, s⟩
 obtain ⟨f, g, rfl, _⟩ := s.form
 refine iR ?_
 exact dG tl668 ⟨c, f, g, e, n, p, q, rfl, rfl, s, x⟩ lr
 exact Rn
 refine Rd2 lr rfl rfl (u_mkOS (r := rI) [_, _, _, _, _] (y ++ (C ++ R)) [iv 0] 0 H rfl A.1 rfl rfl sl49 inf3 rfl rfl rfl (by decide) rfl A.2.1 A.2.2) ?_ ?_
 rintro _ _ ⟨d, rfl, t⟩
 obtain ⟨k, m, rfl, _⟩ := t.form
 refine iR<|Da [3, 11] (by kernel_rfl) rfl ?_
 refine Rd2 lr rfl rfl (u_mkOS (r := RT.bool) [_, _, _, _, _] (d ++ (y ++ (C ++ R))) [bv false] false G rfl z.1 rfl rfl sl117 inf4 rfl rfl rfl (by decide) rfl z.2.1 z.2.2) ?_ ?_
 rintro _ _ ⟨e, rfl, x⟩
 obtain ⟨n, p, rfl, _⟩ := x.form
 refine iR ?_
 exact dG tl663 ⟨d, k, m, e, n, p, q, rfl, rfl, t, x⟩ lr
 refine Rd2 lr rfl rfl (u_mkOS (r := rI) [_, _, _, _, _] (d ++ (y ++ (C ++ R))) [iv 0] 0 I rfl B.1 rfl rfl sl49 inf3 rfl rfl rfl (by decide) rfl B.2.1 B.2.2) ?_ ?_
 rintro _ _ ⟨c, rfl, s⟩
 obtain ⟨f, g, rfl, _⟩ := s.form
 refine iR ?_
 exact dG tl673 ⟨c, f, g, d, k, m, q, rfl, rfl, s, t⟩ lr
 exact Rn
 refine Rd2 lr rfl rfl (u_mkOS (r := rI) [_, _, _, _, _] (y ++ (C ++ R)) [iv 0] 0 I rfl B.1 rfl rfl sl49 inf3 rfl rfl rfl (by decide) rfl B.2.1 B.2.2) ?_ ?_
 rintro _ _ ⟨c, rfl, s⟩
 obtain ⟨f, g, rfl, _⟩ := s.form
 refine iR<|Da [3, 7] (by kernel_rfl) rfl ?_
 refine Rd2 lr rfl rfl (u_mkOS (r := RT.bool) [_, _, _, _, _] (c ++ (y ++ (C ++ R))) [bv false] false G rfl z.1 rfl rfl sl117 inf4 rfl rfl rfl (by decide) rfl z.2.1 z.2.2) ?_ ?_
 rintro _ _ ⟨e, rfl, x⟩
 obtain ⟨n, p, rfl, _⟩ := x.form
 refine iR ?_
 exact dG tl668 ⟨c, f, g, e, n, p, q, rfl, rfl, s, x⟩ lr
 refine Rd2 lr rfl rfl (u_mkOS (r := rI) [_, _, _, _, _] (c ++ (y ++ (C ++ R))) [iv 0] 0 H rfl A.1 rfl rfl sl49 inf3 rfl rfl rfl (by decide) rfl A.2.1 A.2.2) ?_ ?_
 rintro _ _ ⟨d, rfl, t⟩
 obtain ⟨k, m, rfl, _⟩ := t.form
 refine iR ?_
 exact dG tl673 ⟨c, f, g, d, k, m, q, rfl, rfl, s, t⟩ lr
 exact Rn
 exact Rn
 exact Rn
 rintro aQ _ _ ⟨aX, aA, aB, K, aC, aD, L, aE, aF, O, rfl, rfl, V, cC, cD, cE⟩
 have hm := (unc3E cf)
 obtain ⟨⟨aK, aL, aM, ax⟩, cg, ch⟩ := bS hm
 refine Cj (fun a8 e' hp' => ∃ aN aO aP, [(0, pb X), (12, pb aX)] = e' ∧ (X, Cl 116 [sv ac Z ad, sv ae aa af, iv ab, iv aG, sv A3 ar c4, sv A8 aq c9]) :: (aX, Cl 119 [iv aK, iv aL, iv S, iv aM, iv 1, sv aN ax aO, sv aA au aB, sv aC av aD, sv aE aw aF, iv 0, iv 0]) :: (y ++ (C ++ (aP ++ (K ++ (L ++ (O ++ R)))))) = hp' ∧ aQ.Le a8 ∧ OS 86 (OT.fr rGuideRide) a8.w (sv aN ax aO) ax aP) ?_ ?_
 have hm := cg
 obtain ⟨⟨a9, bY, bZ, b0⟩, bI, hm⟩ := bS hm
 have hm := (unc4E hm)
 obtain ⟨⟨aR, ba, aT, bb⟩, bc, hm⟩ := bS hm
 have hm := (unc4E hm)
 obtain ⟨aY, bJ, hm⟩ := bS hm
 refine Di mixed (.refl _)<|E0 0 rfl (sM rfl)<|E0 1 rfl (sN rfl)<|E0 2 rfl (sF rfl fld116_0)<|Es 3 rfl (sD (vs := [_, _, _]) 0 3 rfl agg91 rfl rfl rfl)<|Es 4 rfl (sD (vs := [_, _, _]) 2 3 rfl agg86 rfl rfl rfl)<|E0 7 rfl (sM rfl)<|E0 8 rfl (sN rfl)<|E0 9 rfl (sF rfl fld116_0)<|Es 10 rfl (sD (vs := [_, _, _]) 0 3 rfl agg91 rfl rfl rfl) ?_
 refine Es 11 rfl (sD (vs := [_, _, _]) 3 3 rfl agg86 rfl rfl rfl)<|E0 14 rfl (sM rfl)<|E0 15 rfl (sM rfl)<|E0 16 rfl (sN rfl)<|E0 17 rfl (sF rfl fld116_0)<|Es 18 rfl (sD (vs := [_, _, _]) 0 3 rfl agg91 rfl rfl rfl)<|Es 19 rfl (sD (vs := [_, _, _]) 3 3 rfl agg86 rfl rfl rfl)<|E0 22 rfl (sF rfl fld33_0)<|Es 23 rfl (sL 1 rfl one31 rfl rfl)<|Eo ?_
 refine Da [5] (by kernel_rfl) rfl ?_
 refine Rg lr rfl rfl _ call60 rfl (cGuideNetOn _ _ (⟨(⟨Z, aa⟩ : ApiDay), ab⟩ : GuideNet) (⟨aj, ak, al⟩ : GuideRide) ac ad ae af (bf.le (D.trans (E.trans V))) (bg.le (D.trans (E.trans V))) a9 bY bZ b0 bI) ?_ ?_
 rintro _ cT _ F ⟨rfl, rfl⟩
 refine iR<|Ei F (.refl _)<|E0 6 rfl (st_vfield1 (cs := [iv a9, iv bY, iv bZ, iv b0]) rfl fdv83_0 one3 rfl)<|Eo<|Da [12] (by kernel_rfl) rfl ?_
 refine Rg F rfl rfl _ call61 rfl (cGuideNetOff _ _ (⟨(⟨Z, aa⟩ : ApiDay), ab⟩ : GuideNet) (⟨am, an, ao⟩ : GuideRide) ac ad ae af (bf.le (D.trans (E.trans (V.trans F)))) (bg.le (D.trans (E.trans (V.trans F)))) aR ba aT bb bc) ?_ ?_
 rintro _ cU _ J ⟨rfl, rfl⟩
 refine iR<|Ei (F.trans J) (.refl _)<|E0 13 rfl (st_vfield1 (cs := [iv aR, iv ba, iv aT, iv bb]) rfl fdv83_0 one3 rfl)<|Eo<|Da [20] (by kernel_rfl) rfl ?_
 refine Rg (F.trans J) rfl rfl _ call61 rfl (cGuideNetOff _ _ (⟨(⟨Z, aa⟩ : ApiDay), ab⟩ : GuideNet) (⟨am, an, ao⟩ : GuideRide) ac ad ae af (bf.le (D.trans (E.trans (V.trans (F.trans J))))) (bg.le (D.trans (E.trans (V.trans (F.trans J))))) aR ba aT bb bc) ?_ ?_
 rintro _ cV _ Y ⟨rfl, rfl⟩
 refine iR<|Ei (F.trans (J.trans Y)) (.refl _)<|E0 21 rfl (st_vfield1 (cs := [iv aR, iv ba, iv aT, iv bb]) rfl fdv83_2 one3 rfl)<|Eo<|Da [24] (by kernel_rfl) rfl ?_
 refine Rg (F.trans (J.trans Y)) rfl rfl _ call56 rfl (cSlicesClone_5 _ _ ai.Rides aH aI (bA.le (D.trans (E.trans (V.trans (F.trans (J.trans Y)))))) aY bJ) ?_ ?_
 rintro _ cW _ ay ⟨aZ, a0, a2, rfl, rfl, cG⟩
 refine iR<|d_in1 [] [_, _, _, _, _] a2 (y ++ (C ++ (K ++ (L ++ (O ++ R))))) rfl<|Da [25] (by kernel_rfl) rfl ?_
 refine Rd2 (F.trans (J.trans (Y.trans ay))) rfl rfl (Stable.does (sB (v := .agg #[sv aZ aY a0]) [(0, sv aZ aY a0)] rfl (fun _ => by kernel_rfl))) ?_ ?_
 rintro _ _ ⟨rfl, rfl⟩
 refine iR<|Da [26] (by kernel_rfl) rfl ?_
 refine Rd2 (F.trans (J.trans (Y.trans ay))) rfl rfl (Stable.does (sB (v := .agg #[iv a9, iv aR, iv S, iv aT, iv 1, sv aZ aY a0]) [(0, iv a9), (1, iv aR), (2, iv S), (3, iv aT), (4, iv 1), (5, .agg #[sv aZ aY a0])] rfl (fun _ => by kernel_rfl))) ?_ ?_
 rintro _ _ ⟨rfl, rfl⟩
 refine iR<|Ei (F.trans (J.trans (Y.trans ay))) (.cons_cons _ (.cons_cons _ (.cons_cons _ (.cons_cons _ (.cons_cons _ (ss a2 (.refl _)))))))<|E0 27 rfl (sF rfl fld119_0)<|Eo<|Da [28] (by kernel_rfl) rfl ?_
 refine Rd2 (F.trans (J.trans (Y.trans ay))) rfl rfl (uN (vs := [_, _, _, _, _, _]) 4 6 rfl rfl rfl siz71 rfl (mc rfl (mc rfl (mc rfl (mc rfl (mc rfl (mc rfl mn)))))) rfl (by simp)) ?_ ?_
 rintro _ _ rfl
 refine ⟨.inl (by kernel_rfl), ?_⟩
 refine Dd (by kernel_rfl) ?_
 obtain ⟨rfl, rfl, rfl, rfl⟩ := some4 hm
 exact jJ ⟨aZ, a0, a2, rfl, rfl, (F.trans (J.trans (Y.trans ay))), cG⟩
 exact Rn
 exact Rn
 exact Rn
 exact Rn
 exact Rn
 exact Rn
 exact Rn
 rintro a8 _ _ ⟨aN, aO, aP, rfl, rfl, az, cH⟩
 have hm := (unc4E ch)
 obtain ⟨bd, ci, cj⟩ := bS hm
 refine Cj (fun bt e' hp' => ∃ a1 be aV, [(0, pb X)] = e' ∧ (X, Cl 116 [sv ac Z ad, sv ae aa af, iv ab, iv aG, sv a1 bd be, sv A8 aq c9]) :: (aV ++ (C ++ R)) = hp' ∧ a8.Le bt ∧ OS 119 oGuidePromise0 bt.w (sv a1 bd be) bd aV ∧ (a1 = none ↔ bd = [])) ?_ ?_
 have hm := ci
 refine c_front3 [_, _] y C aP (K ++ (L ++ (O ++ R))) rfl<|c_frz [_, _] aP (y ++ (C ++ (K ++ (L ++ (O ++ R))))) rfl ?_
 intro cX ah ck
 have cJ := OS.frz (l := ax) cH ah.cells ck
 obtain ⟨_, bu, hm⟩ := bS hm
 refine Di mixed (.cons_cons _ (.cons_cons _ (ss y (sp C (ss K (ss L (ss O (.refl _))))))))<|E0 0 rfl (sM rfl)<|E0 1 rfl (sM rfl)<|E0 2 rfl (sN rfl)<|E0 3 rfl (sF rfl fld116_2)<|Es 4 rfl (sL 0 rfl one114 rfl rfl)<|Es 5 rfl (sD (vs := [_, _, _, _, _, _, _, _, _, _, _]) 1 11 rfl agg119 rfl rfl rfl)<|Eo<|Da [6] (by kernel_rfl) rfl ?_
 refine Rd2 lr rfl rfl (u_bslice (el := 119) [(0, .agg #[iv aK, iv aL, iv S, iv aM, iv 1, sv aN ax aO, sv aA au aB, sv aC av aD, sv aE aw aF, iv 0, iv 0])] [iv aK, iv aL, iv S, iv aM, iv 1, sv aN ax aO, sv aA au aB, sv aC av aD, sv aE aw aF, iv 0, iv 0] rfl (fun _ => by kernel_rfl)) ?_ ?_
 rintro _ _ ⟨cY, rfl, rfl⟩
 refine iR ?_
 have bu := room_some bu
 refine d_front5 [_, _, _] y C K L O R rfl<|d_front5 [_, _, _] O y C K L R rfl<|d_front5 [_, _, _] L O y C K R rfl<|d4 [_, _, _] K L O y (C ++ R) rfl<|Da [7] (by kernel_rfl) rfl ?_
 refine Rd2 lr rfl rfl (u_appO3 (o := oGuidePromise0) (a := (⟨(⟨aK, aL, S, aM, 1, (⟨ax⟩ : GuideJourney)⟩ : GuidePromise), au, av, aw, 0, 0⟩ : GuidePromise0)) [_, _, _] K L O (C ++ R) [iv aK, iv aL, iv S, iv aM, iv 1, sv aN ax aO, sv aA au aB, sv aC av aD, sv aE aw aF, iv 0, iv 0] rfl (by decide) sl114 inf119 rfl rfl rfl (h5.le (D.trans (E.trans (V.trans (az.trans ah))))) rfl (fun w ho => Rd.own (i := 0) ho rfl) ⟨[iv aK, iv aL, iv S, iv aM, iv 1, sv aN ax aO], _, rfl, ⟨[iv aK], _, rfl, rfl, ⟨[iv aL], _, rfl, rfl, ⟨[iv S], _, rfl, rfl, ⟨[iv aM], _, rfl, rfl, ⟨[iv 1], _, rfl, rfl, (RT.list_mk cJ)⟩⟩⟩⟩⟩, ⟨[sv aA au aB], _, K, _, rfl, ⟨_, rfl, (cC.le (az.trans ah))⟩, ⟨[sv aC av aD], _, L, _, rfl, ⟨_, rfl, (cD.le (az.trans ah))⟩, ⟨[sv aE aw aF], _, rfl, ⟨_, rfl, (cE.le (az.trans ah))⟩, ⟨[iv 0], _, rfl, rfl, rfl⟩⟩, rfl⟩, rfl⟩⟩ bu) ?_ ?_
 rintro _ _ ⟨bw, rfl, bx⟩
 obtain ⟨cK, cO, rfl, _⟩ := bx.form
 refine iR<|Ei lr (.cons _ (.cons_cons _ (.cons_cons _ (ss bw (.refl _)))))<|E0 8 rfl (sN rfl)<|E0 9 rfl (sF rfl fld116_2)<|Eo<|Da [10] (by kernel_rfl) rfl ?_
 refine Rd2 lr rfl rfl (uS 1 rfl rfl siz114 rfl rfl (by simp)) ?_ ?_
 rintro _ _ rfl
 refine ⟨.inl (by kernel_rfl), ?_⟩
 refine Dd (by kernel_rfl) ?_
 obtain rfl := o1 hm
 exact jJ ⟨cK, cO, bw, rfl, rfl, ah, bx, (OS.nz bx (by simp))⟩
 exact Rn
 exact Rn
 exact Rn
 rintro bt _ _ ⟨a1, be, aV, rfl, rfl, bK, cP, bL⟩
 have hm := cj
 refine Cr<|mV rfl<|tS (sN rfl)<|tS (sF rfl fld116_2)<|tS (sL 0 rfl one114 rfl rfl)<|tS (sE rfl sl114) ?_
 obtain ⟨_, bz, hm⟩ := bS hm
 have bz := (kS bz).2
 refine tS (sb rfl rfl bz)<|aS rfl<|aS rfl<|Te<|Ct ?_
 obtain ⟨rfl, rfl, rfl, rfl⟩ := some4 hm
 exact rT ⟨a1, be, aV, rfl, rfl, cP, bL⟩ (D.trans (E.trans (V.trans (az.trans bK))))
 exact Rn
 exact Rn

end Go.Proofs.YtckgfeglhjiflaaDoor
