/- Contracts: the code computes its model (part 3). -/
import Derived.Test.YtckgfeglhjiflaaDoorZP2
set_option linter.unusedVariables false
set_option linter.unusedSimpArgs false
namespace Go.Proofs.YtckgfeglhjiflaaDoor
open Go.RowKit Go.Fp

open Go.Fp renaming t_ne → Te, t_nil → Tn, t_bool → Tb, t_callG → Tg, t_callvG → Tv, t_resp → Tr, c_sr → Cr, c_seq → Cs, c_region → Cg, c_block → Cb, c_ret → Ct, c_skip → Ck, c_exit → Ce, c_join → Cj, c_pullb → Cp, x_then_normal → Xn, x_then_ret → Xr, x_then_exit → Xe, x_block_ret → Xb, x_block_normal → Xm, x_block_out → Xo, x_pullb → Xp, x_front2 → X2, E_st → Es, E_s0 → E0, E_yes → Ey, E_y0 → Yz, E_in → Ei, E_out → Eo, D_all → Da, D_done → Dd, D_drawI → Di, R_do → Rd2, R_nil → Rn, R_callGl → Rg, R_callvG → Rv, st_load → sL, st_loadD → sD, st_field → sF, st_len → sE, st_move → sM, st_assign → sA, st_pick_t → pT, st_pick_f → pF, st_index_old → sI, st_load_old → sO, st_loadN_old → sP, st_field_old → sQ, st_add → sa, st_sub → sb, st_lss_t → lT, st_lss_f → lF, st_eql_t → eT, st_eql_f → eF, st_not → sn2, st_build → sB, u_box → uB, u_alloc → uA, u_store → uS, u_storeN → uN, u_callW0 → uW, u_appOS → uQ, fn_enterG → fE, bindS → bS, some1 → o1, idx_some → iS, sub_skip → ss, chk_some → kS, notT → nt, notF → nf, d_front2 → d2, mem_c → mc, mem_n → mn, st_eql → q1, st_neq → q2, st_lss → q3, st_leq → q4, st_gtr → q5, st_geq → q6
set_option maxRecDepth 20000 in
theorem cGuideNetCount_1 : ∀ (N : Nat) (b : Base) (R : Hp) (U t C aG aH aI r x y D z bc h n o g i l m V W E F G H I J A3 c4 e g8 q) (al : FZ rGuideOdds b.w V W C) (am : FZ rGuideRide b.w E F r) (aJ : FZ rApiTrain b.w G H x) (aK : FZ (RT.list rI) b.w I J y) (h5 : OS 3 (OT.fr rI) b.w (sv A3 z c4) z e) (h9 : OM rI (OT.fr rI) false false b.w g8 bc q) (an ao aq ar) (hm : mGuideNetCount_1 N U t C aG aH aI r x y D z bc = some (an, ao, aq, ar)),
    CallsG Tryd.prog 91 [iv U, iv t, pb h, pb n, pb o, pb g, pb i, pb l, pb m] b ((h, Cl 49 [sv A3 z c4]) :: (n, Cl 74 [sv V C W]) :: (o, Cl 166 [.func (.func 91) #[] #[pb h, pb n, pb o, pb g, pb i, pb l, pb m]]) :: (g, Cl 121 [.map (some g8)]) :: (i, Cl 128 [iv aG, iv aH, iv aI]) :: (l, Cl 33 [sv E r F]) :: (m, Cl 91 [sv G x H, sv I y J, iv D]) :: (e ++ (q ++ R))) (fun v b' hp' => ∃ a6, .tuple #[] = v ∧ (h, Cl 49 [sv A3 z c4]) :: (n, Cl 74 [sv V C W]) :: (o, Cl 166 [.func (.func 91) #[] #[pb h, pb n, pb o, pb g, pb i, pb l, pb m]]) :: (g, Cl 121 [.map (some g8)]) :: (i, Cl 128 [iv an, iv ao, iv aq]) :: (l, Cl 33 [sv E r F]) :: (m, Cl 91 [sv G x H, sv I y J, iv D]) :: (e ++ (a6 ++ R)) = hp' ∧ OM rI (OT.fr rI) false false b'.w g8 ar a6) := by
  intro N
  induction N with
  | zero =>
    intro b R U t C aG aH aI r x y D z bc h n o g i l m V W E F G H I J A3 c4 e g8 q al am aJ aK h5 h9 an ao aq ar hm
    unfold mGuideNetCount_1 at hm
    cases hm
  | succ N ih =>
   intro b R U t C aG aH aI r x y D z bc h n o g i l m V W E F G H I J A3 c4 e g8 q al am aJ aK h5 h9 an ao aq ar hm
   refine fE 129 Tryd.func91 rfl Tryd.ntmps91 rfl ?_
   unfold mGuideNetCount_1 at hm
   refine Cr<|tD (uB _ rfl rfl) ?_
   rintro _ _ ⟨aL, rfl, rfl⟩
   refine Te<|Cs<|Cr<|tS (sL 0 rfl one3 rfl rfl)<|tS (sL 1 rfl one49 rfl rfl)<|tS (sE rfl sl49)<|tS (q3 rfl rfl)<|Te ?_
   refine cI hm rfl (fun hm => ?_) fun hm => ?_
   refine Cr<|tS (sL 2 rfl one74 rfl rfl)<|tS (st_func _ _ rfl rfl) ?_
   obtain ⟨bd, be, hm⟩ := bS hm
   refine t_pullb 1 rfl<|t_out1 [_, _] [_, _, _, _, _, _] e (q ++ R) rfl<|Tg _ rfl call92 rfl (cSlicesIndexFunc_3 _ _ C U z h aL V W A3 c4 e al h5 bd be) ?_
   rintro _ cy _ a ⟨rfl, rfl⟩
   refine t_in1 [_, _] [_, _, _, _, _, _] e (q ++ R) rfl<|aS rfl<|Te<|Cs<|Cr<|mV rfl<|tS (q3 rfl rfl)<|Te ?_
   refine cI hm rfl (fun hm => ?_) fun hm => ?_
   refine Cr<|tS (sL 3 rfl one166 rfl rfl)<|tS (sL 1 rfl one3 rfl rfl) ?_
   obtain ⟨_, aM, hm⟩ := bS hm
   have aM := (kS aM).2
   refine tS (sa rfl rfl aM)<|mV rfl ?_
   obtain ⟨⟨cz, cA, cC, cD⟩, bf, hm⟩ := bS hm
   have hm := (unc4E hm)
   refine t_pullb 7 rfl<|t_pullb 7 rfl<|t_pullb 7 rfl<|t_pullb 7 rfl<|t_pullb 7 rfl<|t_pullb 7 rfl<|t_pullb 6 rfl<|t_front2 [_, _, _, _, _, _, _, _] e q R rfl<|t_front2 [_, _, _, _, _, _, _, _] q e R rfl<|t_out2 [_, _, _, _, _, _, _] [_] e q R rfl ?_
   refine Tv #[] #[pb h, pb n, pb o, pb g, pb i, pb l, pb m] [iv (U + 1), iv t] rfl rfl call91 rfl (ih _ _ (U + 1) t C aG aH aI r x y D z bc h n o g i l m V W E F G H I J A3 c4 e g8 q (al.le a) (am.le a) (aJ.le a) (aK.le a) (h5.le a) (h9.le a) cz cA cC cD bf) ?_
   rintro _ ds _ bg ⟨a7, rfl, rfl, cE⟩
   refine t_in2 [_, _, _, _, _, _, _] [_] e a7 R rfl<|Te<|Ct<|Xr<|Xr ?_
   obtain ⟨rfl, rfl, rfl, rfl⟩ := some4 hm
   exact rZ ⟨a7, rfl, rfl, cE⟩ (a.trans bg)
   refine Ck<|Xn<|Cs<|Cr<|tS (sL 2 rfl one74 rfl rfl)<|mV rfl ?_
   obtain ⟨aN, cG, da, b0, db, b1, bh, a8, bi, hm⟩ := bF (sz := 3) hm (al.le a)
   obtain ⟨_, _, rfl, rfl, ⟨_, _, rfl, ⟨cH, cJ, rfl, bj⟩, ⟨dt, du, rfl, dv⟩⟩⟩ := b1
   refine tS (sI cG rfl rfl b0 bi a8 sl74)<|tS (sQ rfl a8 fld162_1)<|tS (sO rfl one49 (bh 1 _ rfl))<|tS (sE rfl sl49)<|mV rfl<|Te<|Cb ?_
   have dc : aN.Late.length ≤ 9223372036854775807 := (FZ.bd bj)
   refine Cp 7 rfl<|Cp 7 rfl<|Cp 7 rfl<|Cp 4 rfl<|Cp 7 rfl<|Cp 7 rfl<|Cp 7 rfl<|Cp 7 rfl<|c_front2 [_, _, _, _, _, _, _, _] e q R rfl<|c_front2 [_, _, _, _, _, _, _, _] q e R rfl ?_
   obtain ⟨⟨ab, ac, ad, ae⟩, b2, b3⟩ := bS hm
   refine lS (fun bk => unc4 fun ab ac ad ae => fun au e' hp' => ∃ s, [(1, iv t), (2, pb h), (3, pb n), (4, pb o), (5, pb g), (9, pb aL), (11, iv bd), (35, sv cH aN.Late cJ), (36, iv ((aN.Late.length : Int))), (37, iv ((bk : Int)))] = e' ∧ (h, Cl 49 [sv A3 z c4]) :: (n, Cl 74 [sv V C W]) :: (o, Cl 166 [.func (.func 91) #[] #[pb h, pb n, pb o, pb g, pb i, pb l, pb m]]) :: (g, Cl 121 [.map (some g8)]) :: (aL, Cl 3 [iv U]) :: (i, Cl 128 [iv ab, iv ac, iv ad]) :: (l, Cl 33 [sv E r F]) :: (m, Cl 91 [sv G x H, sv I y J, iv D]) :: (e ++ (s ++ R)) = hp' ∧ cy.Le au ∧ OM rI (OT.fr rI) false false au.w g8 ae s) b2 ⟨q, rfl, rfl, lr, (h9.le a)⟩ ?_ ?_
   rintro bk ⟨ab, ac, ad, ae⟩ au _ _ dd c6 ⟨s, rfl, rfl, c, aO⟩ S
   unfold mGuideNetCount_1_L2113 at S
   have hm := (unc4E S)
   refine Cr<|tS (lT rfl rfl (by omega))<|Te<|Cs<|c_cond_t rfl<|Ck<|Xn<|Cs<|Cb<|Cr ?_
   refine mV rfl ?_
   obtain ⟨bl, cK, de, b4, df, b5, bm, b6, bn, hm⟩ := bF (sz := 1) hm (bj.le c)
   obtain rfl := b5
   refine tS (sI cK rfl rfl b4 bn b6 sl49)<|tS (sO rfl one3 (bm 0 _ rfl))<|aS rfl<|aS rfl<|Te<|Cs ?_
   obtain ⟨bo, cO, hm⟩ := bS hm
   refine Di mixed (.refl _)<|Es 0 rfl (sL 3 rfl one121 rfl rfl)<|Es 1 rfl (sL 0 rfl one49 rfl rfl)<|Es 2 rfl (sL 4 rfl one3 rfl rfl) ?_
   obtain ⟨cP, b7, b8⟩ := iS cO
   obtain ⟨dg, dh, dw, dx, di, b9, bp, ca, bq, dj, c9⟩ := OS.get (sz := 1) rfl (by decide) (h5.le (a.trans c)) b8
   obtain ⟨rfl, rfl⟩ := b9
   refine E0 3 rfl (sI cP rfl rfl b7 bq ca sl49)<|Es 4 rfl (st_load_rd rfl one3 (fun w ho => bp w _ ho (.cons _ (.cons _ (.cons _ (.cons _ (.cons _ (.cons _ (.cons _ (.cons _ (List.sublist_append_left _ _))))))))) 0 _ rfl))<|E0 5 rfl (sM rfl)<|Eo<|d2 [_, _, _, _, _, _, _, _] e s R rfl<|Da [6] (by kernel_rfl) rfl ?_
   refine Rd2 lr rfl rfl (u_mputF kok3 [_, _, _, _, _, _, _, _] [] (e ++ R) rfl aO mapt121 rfl rfl rfl rfl ⟨rfl, rfl⟩ _ (.inl rfl)) ?_ ?_
   rintro _ _ ⟨f, rfl, c7, br⟩
   refine ⟨.inl (by kernel_rfl), ?_⟩
   refine Dd (by kernel_rfl)<|Xn ?_
   obtain ⟨_, aP, hm⟩ := bS hm
   obtain ⟨dy, bs, hm⟩ := bS hm
   obtain ⟨av, bt, hm⟩ := bS hm
   obtain ⟨_, K, hm⟩ := bS hm
   obtain ⟨⟨bu, bw, bx, bz⟩, aE, hm⟩ := bS hm
   have hm := (unc4E hm)
   refine Di mixed (.cons _ (.cons _ (.cons _ (.cons _ (.cons_cons _ (.cons _ (.cons _ (.cons _ (ss f (ss e (.refl _)))))))))))<|Es 1 rfl (sL 0 rfl one3 rfl rfl) ?_
   have aP := (kS aP).2
   refine E0 2 rfl (sa rfl rfl aP)<|E0 3 rfl (sM rfl)<|E0 5 rfl (sM rfl)<|E0 9 rfl (sM rfl)<|Eo<|Da [0, 4] (by kernel_rfl) rfl ?_
   refine Rd2 lr rfl rfl (Stable.does (sL 2 rfl one166 rfl rfl)) ?_ ?_
   rintro _ _ ⟨rfl, rfl⟩
   refine iR<|Da [4] (by kernel_rfl) rfl ?_
   refine Rd2 lr rfl rfl (Stable.does (sL 1 rfl one74 rfl rfl)) ?_ ?_
   rintro _ _ ⟨rfl, rfl⟩
   refine iR ?_
   obtain ⟨aQ, aw, ax⟩ := iS bs
   obtain ⟨cb, ay, af, A, ag⟩ := FZ.get (sz := 3) rfl (by decide) (al.le (a.trans c)) ax
   obtain ⟨_, _, rfl, rfl, ⟨_, _, rfl, ⟨cQ, cR, rfl, cT⟩, ⟨cU, cV, rfl, aR⟩⟩⟩ := ay
   refine Ei lr (.cons _ (.cons _ (.cons _ (.cons _ (.cons_cons _ (.cons _ (.cons _ (.cons _ (ss f (ss e (.refl _)))))))))))<|E0 6 rfl (sI aQ rfl rfl aw ag A sl74)<|E0 7 rfl (sQ rfl A fld162_2)<|Es 8 rfl (sO rfl one49 (af 2 _ rfl)) ?_
   obtain ⟨aT, az, aA⟩ := iS bt
   obtain ⟨cc, aB, ah, aC, ai⟩ := FZ.get (sz := 1) rfl (by decide) aR aA
   obtain rfl := aB
   refine E0 10 rfl (sI aT rfl rfl az ai aC sl49)<|Es 11 rfl (sO rfl one3 (ah 0 _ rfl)) ?_
   have K := (kS K).2
   refine E0 12 rfl (st_mul rfl rfl K)<|Eo<|d_pullb 7 rfl<|d_pullb 7 rfl<|d_pullb 7 rfl<|d_pullb 6 rfl<|d_pullb 6 rfl<|d_pullb 6 rfl<|d_pullb 6 rfl<|d2 [_, _, _, _, _, _, _, _] f e R rfl ?_
   refine d_out2 [_, _, _, _, _, _, _] [_] e f R rfl<|Da [13] (by kernel_rfl) rfl ?_
   refine Rv lr rfl rfl #[] #[pb h, pb n, pb o, pb g, pb i, pb l, pb m] [iv (U + 1), iv (t * av)] rfl call91 rfl (ih _ _ (U + 1) (t * av) C ab ac ad r x y D z (mput ae bo bl) h n o g i l m V W E F G H I J A3 c4 e g8 f (al.le (a.trans c)) (am.le (a.trans c)) (aJ.le (a.trans c)) (aK.le (a.trans c)) (h5.le (a.trans c)) br bu bw bx bz aE) ?_ ?_
   rintro _ cW _ aj ⟨B, rfl, rfl, aU⟩
   refine iR<|d_in2 [_, _, _, _, _, _, _] [_] e B R rfl<|Dd (by kernel_rfl)<|Xm<|Xn<|Cg<|tS (sa rfl rfl (by omega))<|mV rfl<|Tn ?_
   obtain rfl := o1 hm
   exact jS ⟨B, rfl, rfl, ((c.trans aj)), aU⟩
   exact Rn
   exact Rn
   refine Rd2 lr rfl rfl (Stable.does (sL 1 rfl one74 rfl rfl)) ?_ ?_
   rintro _ _ ⟨rfl, rfl⟩
   refine iR ?_
   obtain ⟨aQ, aw, ax⟩ := iS bs
   obtain ⟨cb, ay, af, A, ag⟩ := FZ.get (sz := 3) rfl (by decide) (al.le (a.trans c)) ax
   obtain ⟨_, _, rfl, rfl, ⟨_, _, rfl, ⟨cQ, cR, rfl, cT⟩, ⟨cU, cV, rfl, aR⟩⟩⟩ := ay
   refine Ei lr (.cons _ (.cons _ (.cons _ (.cons _ (.cons_cons _ (.cons _ (.cons _ (.cons _ (ss f (ss e (.refl _)))))))))))<|E0 6 rfl (sI aQ rfl rfl aw ag A sl74)<|E0 7 rfl (sQ rfl A fld162_2)<|Es 8 rfl (sO rfl one49 (af 2 _ rfl)) ?_
   obtain ⟨aT, az, aA⟩ := iS bt
   obtain ⟨cc, aB, ah, aC, ai⟩ := FZ.get (sz := 1) rfl (by decide) aR aA
   obtain rfl := aB
   refine E0 10 rfl (sI aT rfl rfl az ai aC sl49)<|Es 11 rfl (sO rfl one3 (ah 0 _ rfl)) ?_
   have K := (kS K).2
   refine E0 12 rfl (st_mul rfl rfl K)<|Eo<|Da [0] (by kernel_rfl) rfl ?_
   refine Rd2 lr rfl rfl (Stable.does (sL 2 rfl one166 rfl rfl)) ?_ ?_
   rintro _ _ ⟨rfl, rfl⟩
   refine iR<|d_pullb 7 rfl<|d_pullb 7 rfl<|d_pullb 7 rfl<|d_pullb 6 rfl<|d_pullb 6 rfl<|d_pullb 6 rfl<|d_pullb 6 rfl<|d2 [_, _, _, _, _, _, _, _] f e R rfl<|d_out2 [_, _, _, _, _, _, _] [_] e f R rfl ?_
   refine Da [13] (by kernel_rfl) rfl ?_
   refine Rv lr rfl rfl #[] #[pb h, pb n, pb o, pb g, pb i, pb l, pb m] [iv (U + 1), iv (t * av)] rfl call91 rfl (ih _ _ (U + 1) (t * av) C ab ac ad r x y D z (mput ae bo bl) h n o g i l m V W E F G H I J A3 c4 e g8 f (al.le (a.trans c)) (am.le (a.trans c)) (aJ.le (a.trans c)) (aK.le (a.trans c)) (h5.le (a.trans c)) br bu bw bx bz aE) ?_ ?_
   rintro _ cW _ aj ⟨B, rfl, rfl, aU⟩
   refine iR<|d_in2 [_, _, _, _, _, _, _] [_] e B R rfl<|Dd (by kernel_rfl)<|Xm<|Xn<|Cg<|tS (sa rfl rfl (by omega))<|mV rfl<|Tn ?_
   obtain rfl := o1 hm
   exact jS ⟨B, rfl, rfl, ((c.trans aj)), aU⟩
   exact Rn
   exact Rn
   exact Rn
   exact Rn
   rintro au _ _ ⟨s, rfl, rfl, c, aO⟩
   have hm := (unc4E b3)
   refine Cr<|tS (lF rfl rfl (by omega))<|Te<|Cs<|c_cond_f rfl<|Ce<|Xe<|Xe<|Xo<|Xn ?_
   refine Ct<|Xr ?_
   obtain ⟨rfl, rfl, rfl, rfl⟩ := some4 hm
   exact rZ ⟨s, rfl, rfl, aO⟩ (a.trans c)
   refine Ck<|Xn<|Cr<|tS (sF rfl fld128_1)<|tS (sL 5 rfl one3 rfl rfl)<|mV rfl ?_
   obtain ⟨_, aV, hm⟩ := bS hm
   have aV := (kS aV).2
   refine tS (sa rfl rfl aV)<|tS (sF rfl fld128_1)<|tD (uS 5 rfl rfl siz3 rfl rfl (by simp)) ?_
   rintro _ _ rfl
   refine Te<|Cs<|Cr<|tS (sF rfl fld33_0)<|tS (sL 6 rfl one31 rfl rfl)<|tS (sE rfl sl31)<|mV rfl<|Te<|Cb ?_
   have dk : r.length ≤ 9223372036854775807 := (FZ.bd am)
   refine Cp 3 rfl<|Cp 3 rfl<|Cp 3 rfl<|Cp 7 rfl<|Cp 7 rfl<|Cp 7 rfl<|Cp 7 rfl<|c_front2 [_, _, _, _, _, _, _, _] e q R rfl<|c_front2 [_, _, _, _, _, _, _, _] q e R rfl ?_
   obtain ⟨dz, cd, X⟩ := bS hm
   refine lF (fun aW => fun _ => fun aD e' hp' => [(1, iv t), (5, pb g), (6, pb i), (7, pb l), (8, pb m), (69, sv E r F), (70, iv ((r.length : Int))), (71, iv ((aW : Int)))] = e' ∧ (g, Cl 121 [.map (some g8)]) :: (i, Cl 128 [iv aG, iv (aH + t), iv aI]) :: (l, Cl 33 [sv E r F]) :: (m, Cl 91 [sv G x H, sv I y J, iv D]) :: (h, Cl 49 [sv A3 z c4]) :: (n, Cl 74 [sv V C W]) :: (o, Cl 166 [.func (.func 91) #[] #[pb h, pb n, pb o, pb g, pb i, pb l, pb m]]) :: (e ++ (q ++ R)) = hp' ∧ b.Le aD) cd ⟨rfl, rfl, lr⟩ ?_ ?_
   rintro aW _ aD _ _ dl c8 ⟨rfl, rfl, d⟩ T aX
   unfold mGuideNetCount_1_L2501 at T
   have hm := T
   refine Cr<|tS (lT rfl rfl (by omega))<|Te<|Cs<|c_cond_t rfl<|Ck<|Xn<|Cs<|Cb<|Cr ?_
   refine mV rfl ?_
   obtain ⟨L, cX, dm, ce, dn, cf, bA, a9, bB, hm⟩ := bF (sz := 3) hm (am.le d)
   obtain ⟨_, _, rfl, rfl, ⟨_, _, rfl, rfl, rfl⟩⟩ := cf
   refine tS (sI cX rfl rfl ce bB a9 sl31)<|tS (sP (vs := [iv L.Train, iv L.On, iv L.Off]) 3 rfl agg86 a9 rfl (fun j u hu => bA j u hu))<|tD (uA [iv 0, iv 0, iv 0] zero86 rfl) ?_
   rintro _ _ ⟨dA, rfl, rfl⟩
   refine aS rfl<|tD (uN (vs := [_, _, _]) 0 3 rfl rfl rfl siz86 rfl (mc rfl (mc rfl (mc rfl mn))) rfl (by simp)) ?_
   rintro _ _ rfl
   refine Te<|Cr<|mV rfl<|tS (q5 rfl rfl)<|Te ?_
   refine cI hm rfl (fun hm => ?_) fun hm => ?_
   refine Cr<|tS (sF rfl fld33_0)<|tS (sL 3 rfl one31 rfl rfl)<|mV rfl ?_
   obtain ⟨_, aY, hm⟩ := bS hm
   have aY := (kS aY).2
   refine tS (sb rfl rfl aY) ?_
   obtain ⟨O, cY, dp, cg, dq, ch, bC, ba, bD, hm⟩ := bF (sz := 3) hm (am.le d)
   obtain ⟨_, _, rfl, rfl, ⟨_, _, rfl, rfl, rfl⟩⟩ := ch
   refine tS (sI cY rfl rfl cg bD ba sl31)<|tS (sP (vs := [iv O.Train, iv O.On, iv O.Off]) 3 rfl agg86 ba rfl (fun j u hu => bC j u hu))<|tD (uA [iv 0, iv 0, iv 0] zero86 rfl) ?_
   rintro _ _ ⟨dB, rfl, rfl⟩
   refine tD (uN (vs := [_, _, _]) 0 3 rfl rfl rfl siz86 rfl (mc rfl (mc rfl (mc rfl mn))) rfl (by simp)) ?_
   rintro _ _ rfl
   refine Te ?_
   obtain ⟨cZ, ci, cj⟩ := bS hm
   refine Cj (fun bE e' hp' => [(1, iv t), (5, pb g), (6, pb i), (7, pb l), (8, pb m), (69, sv E r F), (70, iv ((r.length : Int))), (71, iv ((aW : Int))), (105, bv cZ)] = e' ∧ (g, Cl 121 [.map (some g8)]) :: (i, Cl 128 [iv aG, iv (aH + t), iv aI]) :: (l, Cl 33 [sv E r F]) :: (m, Cl 91 [sv G x H, sv I y J, iv D]) :: (h, Cl 49 [sv A3 z c4]) :: (n, Cl 74 [sv V C W]) :: (o, Cl 166 [.func (.func 91) #[] #[pb h, pb n, pb o, pb g, pb i, pb l, pb m]]) :: (e ++ (q ++ R)) = hp' ∧ aD.Le bE) ?_ ?_
   have hm := ci
   obtain ⟨⟨bG, bH, bI, bJ⟩, bK, hm⟩ := bS hm
   have hm := (unc4E hm)
   obtain ⟨bL, c0, hm⟩ := bS hm
   obtain ⟨_, aZ, hm⟩ := bS hm
   obtain ⟨_, a0, hm⟩ := bS hm
   obtain ⟨⟨bM, bN, bO, bP⟩, bQ, hm⟩ := bS hm
   have hm := (unc4E hm)
   obtain ⟨bR, c1, hm⟩ := bS hm
   obtain ⟨_, a1, hm⟩ := bS hm
   refine Di mixed (.refl _)<|Es 0 rfl (sD (vs := [_, _, _]) 5 3 rfl agg91 rfl rfl rfl)<|Es 1 rfl (sD (vs := [_, _, _]) 0 3 rfl agg86 rfl rfl rfl)<|Es 4 rfl (sL 2 rfl one121 rfl rfl)<|E0 5 rfl (sF rfl fld86_0)<|Es 6 rfl (sL 0 rfl one3 rfl rfl) ?_
   have ck := Option.some.inj c0
   obtain ⟨bT, Y, cl⟩ := OM.lookF kok3 (z0 := 0) (h9.le d) (key := iv O.Train) (k := O.Train) rfl mapt121 zero3 rfl
   rw [ck] at Y
   obtain rfl : bT = iv bL := by have Y : [bT] = [iv bL] := Y; injection Y
   refine Es 7 rfl (st_mlook (ok := false) rfl rfl (fun w ho => cl _ w ho (.cons _ (.cons _ (.cons _ (.cons _ (.cons _ (.cons _ (.cons _ (.cons _ (.cons _ (ss e (List.sublist_append_left _ _))))))))))) false))<|E0 9 rfl (sF rfl fld91_1)<|Es 10 rfl (sL 5 rfl one3 rfl rfl)<|Es 12 rfl (sD (vs := [_, _, _]) 5 3 rfl agg91 rfl rfl rfl)<|Es 13 rfl (sD (vs := [_, _, _]) 1 3 rfl agg86 rfl rfl rfl)<|Es 16 rfl (sL 2 rfl one121 rfl rfl)<|E0 17 rfl (sF rfl fld86_0)<|Es 18 rfl (sL 1 rfl one3 rfl rfl) ?_
   have cm := Option.some.inj c1
   obtain ⟨bU, Z, cn⟩ := OM.lookF kok3 (z0 := 0) (h9.le d) (key := iv L.Train) (k := L.Train) rfl mapt121 zero3 rfl
   rw [cm] at Z
   obtain rfl : bU = iv bR := by have Z : [bU] = [iv bR] := Z; injection Z
   refine Es 19 rfl (st_mlook (ok := false) rfl rfl (fun w ho => cn _ w ho (.cons _ (.cons _ (.cons _ (.cons _ (.cons _ (.cons _ (.cons _ (.cons _ (.cons _ (ss e (List.sublist_append_left _ _))))))))))) false))<|Eo<|Da [2] (by kernel_rfl) rfl ?_
   refine Rg lr rfl rfl _ call61 rfl (cGuideNetOff _ _ (⟨(⟨x, y⟩ : ApiDay), D⟩ : GuideNet) O G H I J (aJ.le d) (aK.le d) bG bH bI bJ bK) ?_ ?_
   rintro _ dC _ p ⟨rfl, rfl⟩
   refine iR<|Ei p (.refl _)<|E0 3 rfl (st_vfield1 (cs := [iv bG, iv bH, iv bI, iv bJ]) rfl fdv83_2 one3 rfl) ?_
   have aZ := (kS aZ).2
   refine E0 8 rfl (sa rfl rfl aZ) ?_
   have a0 := (kS a0).2
   refine E0 11 rfl (sa rfl rfl a0)<|Eo<|Da [14] (by kernel_rfl) rfl ?_
   refine Rg p rfl rfl _ call60 rfl (cGuideNetOn _ _ (⟨(⟨x, y⟩ : ApiDay), D⟩ : GuideNet) L G H I J (aJ.le (d.trans p)) (aK.le (d.trans p)) bM bN bO bP bQ) ?_ ?_
   rintro _ dD _ aF ⟨rfl, rfl⟩
   refine iR<|Ei (p.trans aF) (.refl _)<|E0 15 rfl (st_vfield1 (cs := [iv bM, iv bN, iv bO, iv bP]) rfl fdv83_3 one3 rfl) ?_
   have a1 := (kS a1).2
   refine E0 20 rfl (sa rfl rfl a1)<|E0 21 rfl (q5 rfl rfl)<|Eo<|Dd (by kernel_rfl) ?_
   obtain rfl := o1 hm
   exact jJ ⟨rfl, rfl, (p.trans aF)⟩
   exact Rn
   exact Rn
   rintro bE _ _ ⟨rfl, rfl, ak⟩
   have hm := cj
   refine cB hm rfl (fun hm => ?_) fun hm => ?_
   refine Ct<|Xb<|Xr<|Xr<|Xb<|Xr ?_
   have co := aX _ (Option.some.inj hm).symm
   rw [co] at X
   have hm := elimR X
   obtain ⟨rfl, rfl, rfl, rfl⟩ := some4 hm
   have cp := (h9.le (d.trans ak))
   exact rZ ⟨q, rfl, rfl, cp⟩ (d.trans ak)
   refine Ck<|Xm<|Xn<|Cg<|tS (sa rfl rfl (by omega))<|mV rfl<|Tn ?_
   exact jM hm ⟨rfl, rfl, ((d.trans ak))⟩
   refine Ck<|Xm<|Xn<|Cg<|tS (sa rfl rfl (by omega))<|mV rfl<|Tn ?_
   exact jM hm ⟨rfl, rfl, (d)⟩
   rintro _ aD _ _ ⟨rfl, rfl, d⟩ cq
   rw [cq] at X
   have hm := elimL X
   refine Cr<|tS (lF rfl rfl (by omega))<|Te<|Cs<|c_cond_f rfl<|Ce<|Xe<|Xe<|Xo<|Xn ?_
   refine Cr<|tS (sF rfl fld128_0)<|tS (sL 1 rfl one3 rfl rfl)<|mV rfl ?_
   obtain ⟨_, a2, hm⟩ := bS hm
   have a2 := (kS a2).2
   refine tS (sa rfl rfl a2)<|tS (sF rfl fld128_0)<|tD (uS 1 rfl rfl siz3 rfl rfl (by simp)) ?_
   rintro _ _ rfl
   refine Te ?_
   obtain ⟨_, a3, hm⟩ := bS hm
   obtain ⟨bV, c2, hm⟩ := bS hm
   obtain ⟨bW, c3, hm⟩ := bS hm
   obtain ⟨_, a4, hm⟩ := bS hm
   obtain ⟨_, a5, hm⟩ := bS hm
   refine Di mixed (.refl _)<|E0 0 rfl (sF rfl fld128_2)<|Es 1 rfl (sL 1 rfl one3 rfl rfl)<|E0 2 rfl (sM rfl)<|Es 3 rfl (sL 0 rfl one121 rfl rfl)<|E0 4 rfl (sF rfl fld33_0)<|Es 5 rfl (sL 2 rfl one31 rfl rfl)<|E0 6 rfl (sF rfl fld33_0)<|Es 7 rfl (sL 2 rfl one31 rfl rfl)<|E0 8 rfl (sE rfl sl31) ?_
   have a3 := (kS a3).2
   refine E0 9 rfl (sb rfl rfl a3) ?_
   obtain ⟨c5, cr, ct⟩ := iS c2
   obtain ⟨dr, cu, bX, bb, bY⟩ := FZ.get (sz := 3) rfl (by decide) (am.le d) ct
   obtain ⟨_, _, rfl, rfl, ⟨_, _, rfl, rfl, rfl⟩⟩ := cu
   refine E0 10 rfl (sI c5 rfl rfl cr bY bb sl31)<|E0 11 rfl (sQ rfl bb fld86_0)<|Es 12 rfl (sO rfl one3 (bX 0 _ rfl)) ?_
   have cv := Option.some.inj c3
   obtain ⟨bZ, aa, cw⟩ := OM.lookF kok3 (z0 := 0) (h9.le d) (key := iv bV.Train) (k := bV.Train) rfl mapt121 zero3 rfl
   rw [cv] at aa
   obtain rfl : bZ = iv bW := by have aa : [bZ] = [iv bW] := aa; injection aa
   refine Es 13 rfl (st_mlook (ok := false) rfl rfl (fun w ho => cw _ w ho (.cons _ (.cons _ (.cons _ (.cons _ (.cons _ (.cons _ (.cons _ (ss e (List.sublist_append_left _ _))))))))) false)) ?_
   have a4 := (kS a4).2
   refine E0 14 rfl (st_mul rfl rfl a4) ?_
   have a5 := (kS a5).2
   refine E0 15 rfl (sa rfl rfl a5)<|E0 16 rfl (sF rfl fld128_2)<|Eo<|Da [17] (by kernel_rfl) rfl ?_
   refine Rd2 lr rfl rfl (uS 1 rfl rfl siz3 rfl rfl (by simp)) ?_ ?_
   rintro _ _ rfl
   refine ⟨.inl (by kernel_rfl), ?_⟩
   refine Dd (by kernel_rfl) ?_
   obtain ⟨rfl, rfl, rfl, rfl⟩ := some4 hm
   have cx := (h9.le d)
   exact eZ ⟨q, rfl, rfl, cx⟩ d
   exact Rn

set_option maxRecDepth 20000 in
theorem cGuideNetCount (b : Base) (R : Hp) (z : GuideNet) (O : GuideJourney) (A A2 c3 A5 c6 A9 B G H) (h4 : FZ rApiTrain b.w A2 c3 z.Day.Trains) (h7 : FZ (RT.list rI) b.w A5 c6 z.Day.Turns) (ae : FZ rGuideRide b.w A9 B O.Rides) (av : FZ rGuideOdds b.w G H A) (S T U) (hm : mGuideNetCount z O A = some (S, T, U)):
    CallsG Tryd.prog 66 [.agg #[sv A2 z.Day.Trains c3, sv A5 z.Day.Turns c6, iv z.least], .agg #[sv A9 O.Rides B], sv G A H] b (R) (fun v b' hp' => .agg #[iv S, iv T, iv U] = v ∧ R = hp') := by
 refine fE 36 Tryd.func66 rfl Tryd.ntmps66 rfl ?_
 unfold mGuideNetCount at hm
 refine Cr<|tD (uB _ rfl rfl) ?_
 rintro _ _ ⟨q, rfl, rfl⟩
 refine tD (uB _ rfl rfl) ?_
 rintro _ _ ⟨s, rfl, rfl⟩
 refine tD (uB _ rfl rfl) ?_
 rintro _ _ ⟨t, rfl, rfl⟩
 refine tD (uA [iv 0, iv 0, iv 0] zero128 rfl) ?_
 rintro _ _ ⟨V, rfl, rfl⟩
 refine Te<|Cr<|tD (uA [sn] zero49 rfl) ?_
 rintro _ _ ⟨x, rfl, rfl⟩
 refine Te<|Cs<|Cr<|tS (sF rfl fld33_0)<|tS (sL 3 rfl one31 rfl rfl)<|tS (sE rfl sl31)<|mV rfl<|Te<|Cb ?_
 have aw : O.Rides.length ≤ 9223372036854775807 := (FZ.bd ae)
 refine Cp 1 rfl<|Cp 2 rfl<|Cp 3 rfl<|Cp 4 rfl ?_
 obtain ⟨d, af, ag⟩ := bS hm
 refine lS (fun W => fun d => fun y e' hp' => ∃ f g a, [(3, pb q), (4, pb s), (5, pb t), (6, pb V), (7, pb x), (14, sv A9 O.Rides B), (15, iv ((O.Rides.length : Int))), (16, iv ((W : Int)))] = e' ∧ (q, Cl 91 [sv A2 z.Day.Trains c3, sv A5 z.Day.Turns c6, iv z.least]) :: (s, Cl 33 [sv A9 O.Rides B]) :: (t, Cl 74 [sv G A H]) :: (V, Cl 128 [iv 0, iv 0, iv 0]) :: (x, Cl 49 [sv f d g]) :: (a ++ R) = hp' ∧ b.Le y ∧ OS 3 (OT.fr rI) y.w (sv f d g) d a) af ⟨none, 0, [], rfl, rfl, lr, OS.nil⟩ ?_ ?_
 rintro W d y _ _ ax ak ⟨f, g, a, rfl, rfl, c, n⟩ k
 unfold mGuideNetCount_L124 at k
 have hm := k
 refine Cr<|tS (lT rfl rfl (by omega))<|Te<|Cs<|c_cond_t rfl<|Ck<|Xn<|Cs<|Cb<|Cr ?_
 obtain ⟨e, al, ay, ah, az, ai, I, C, J, hm⟩ := bF (sz := 3) hm (ae.le c)
 obtain ⟨_, _, rfl, rfl, ⟨_, _, rfl, rfl, rfl⟩⟩ := ai
 refine tS (sI al rfl rfl ah J C sl31)<|tS (sP (vs := [iv e.Train, iv e.On, iv e.Off]) 3 rfl agg86 C rfl (fun j u hu => I j u hu))<|tD (uA [iv 0, iv 0, iv 0] zero86 rfl) ?_
 rintro _ _ ⟨aA, rfl, rfl⟩
 refine tD (uN (vs := [_, _, _]) 0 3 rfl rfl rfl siz86 rfl (mc rfl (mc rfl (mc rfl mn))) rfl (by simp)) ?_
 rintro _ _ rfl
 refine Te<|Cr<|tS (sL 5 rfl one49 rfl rfl)<|tS (sF rfl fld86_0)<|tS (sL 0 rfl one3 rfl rfl) ?_
 obtain ⟨am, K, hm⟩ := bS hm
 refine tD (uW _ call90 rfl (fun w ho => cSlicesContains _ [] d e.Train f g (OS.now (o := (OT.fr rI)) (l := d) (hs := a) n ho (.cons _ (.cons _ (.cons _ (.cons _ (.cons _ (.cons _ (List.sublist_append_left _ _)))))))) am K) (fun _ _ _ h => h.2.symm)) ?_
 rintro _ _ ⟨⟨_, rfl, _⟩, rfl⟩
 refine tS (sn2 rfl)<|Te ?_
 refine cM hm rfl (fun hm => ?_) fun hm => ?_
 refine Cg<|tS (sL 5 rfl one49 rfl rfl)<|tS (sF rfl fld86_0)<|tS (sL 0 rfl one3 rfl rfl)<|tD (u_bslice (el := 3) [(0, iv e.Train)] [iv e.Train] rfl (fun _ => by kernel_rfl)) ?_
 rintro _ _ ⟨aB, rfl, rfl⟩
 obtain ⟨_, D, hm⟩ := bS hm
 have D := room_some D
 refine tD (uQ (r := rI) (l := d) [_, _, _, _, _, _, _] R [[iv e.Train]] [e.Train] rfl (by decide) sl49 inf3 rfl rfl rfl rfl n rfl (fun w ho => Rd.own (i := 0) ho rfl) ⟨rfl, trivial⟩ D) ?_
 rintro _ _ ⟨aj, rfl, X⟩
 obtain ⟨an, ao, rfl, _⟩ := X.form
 refine tD (uS 6 rfl rfl siz49 rfl rfl (by simp)) ?_
 rintro _ _ rfl
 refine Tn<|Xm<|Xn<|Cg<|tS (sa rfl rfl (by omega))<|mV rfl<|Tn ?_
 obtain rfl := o1 hm
 exact jS ⟨an, ao, aj, rfl, rfl, (c), X⟩
 refine Ck<|Xm<|Xn<|Cg<|tS (sa rfl rfl (by omega))<|mV rfl<|Tn ?_
 obtain rfl := o1 hm
 exact jS ⟨f, g, a, rfl, rfl, (c), n⟩
 rintro y _ _ ⟨f, g, a, rfl, rfl, c, n⟩
 have hm := ag
 refine Cr<|tS (lF rfl rfl (by omega))<|Te<|Cs<|c_cond_f rfl<|Ce<|Xe<|Xe<|Xo<|Xn ?_
 refine Cr<|tD (u_mmap rI (OT.fr rI) false false [_, _, _, _, _] (a ++ R) rfl) ?_
 rintro _ _ ⟨aq, p, rfl, rfl, ar⟩
 refine tD (uA [.map none] zero121 rfl) ?_
 rintro _ _ ⟨Y, rfl, rfl⟩
 refine tD (uS 0 rfl rfl siz121 rfl rfl (by simp)) ?_
 rintro _ _ rfl
 refine Te<|Cr<|tD (uA [iv 0, iv 0, iv 0] zero128 rfl) ?_
 rintro _ _ ⟨Z, rfl, rfl⟩
 refine Te<|Cr<|tD (uA [.nilFunc] zero166 rfl) ?_
 rintro _ _ ⟨aa, rfl, rfl⟩
 refine Te<|Cr<|tS (st_func _ _ rfl rfl)<|tD (uS 0 rfl rfl siz166 rfl rfl (by simp)) ?_
 rintro _ _ rfl
 refine Te<|Cr<|tS (sL 0 rfl one166 rfl rfl) ?_
 obtain ⟨⟨ab, ac, ad, au⟩, m, hm⟩ := bS hm
 obtain ⟨E, m⟩ := lim_some m
 have hm := (unc4E hm)
 refine t_pullb 3 rfl<|t_pullb 4 rfl<|t_pullb 3 rfl<|t_pullb 4 rfl<|t_pullb 4 rfl<|t_pullb 5 rfl<|t_pullb 7 rfl<|t_front2 [_, _, _, _, _, _, _, _] p a R rfl<|t_out2 [_, _, _, _, _, _, _] [_] a p R rfl<|Tv #[] #[pb x, pb t, pb aa, pb Y, pb Z, pb s, pb q] [iv 0, iv 1] rfl rfl call91 rfl (cGuideNetCount_1 E _ _ 0 1 A 0 0 0 O.Rides z.Day.Trains z.Day.Turns z.least d ([] : (List (Int × Int))) x t aa Y Z s q G H A9 B A2 c3 A5 c6 f g a aq p (av.le c) (ae.le c) (h4.le c) (h7.le c) n ar ab ac ad au m) ?_
 rintro _ aC _ L ⟨F, rfl, rfl, aD⟩
 refine t_in2 [_, _, _, _, _, _, _] [_] a F R rfl<|Te<|Cr<|tS (sD (vs := [_, _, _]) 4 3 rfl agg128 rfl rfl rfl)<|tD (uN (vs := [_, _, _]) 7 3 rfl rfl rfl siz128 rfl (mc rfl (mc rfl (mc rfl mn))) rfl (by simp)) ?_
 rintro _ _ rfl
 refine Te<|Ct ?_
 obtain ⟨rfl, rfl, rfl⟩ := some3 hm
 exact rM (rs := [.cell 6 128]) (vs := [.agg #[iv ab, iv ac, iv ad]]) ⟨⟨_, rfl, fun w ho => cell_agg (vs := [_, _, _]) 7 3 agg128 rfl rfl rfl w ho⟩, trivial⟩ ⟨rfl, rfl⟩ (.cons _ (.cons _ (.cons _ (.cons _ (.cons _ (.cons _ (.cons _ (.cons _ (ss a (ss F (.refl _))))))))))) (c.trans L)

set_option maxRecDepth 20000 in
theorem cGuideSurest_1 (b : Base) (R : Hp) (l7) (s9 : GuideCases) (y C D F n p q g1 g2 g3 A4 c5 E G r s t x) (h6 : FZ rGuideRide b.w A4 c5 l7) (bx : (A4 = none ↔ l7 = [])) (bf : FZ rGuideRide b.w E G y) (aY : (E = none ↔ y = [])) (af : FZ rApiTrain b.w r s n) (ag : FZ (RT.list rI) b.w t x p) (aC) (hm : mGuideSurest_1 l7 s9 y C D F n p q = some aC):
    CallsG Tryd.prog 64 [sv A4 l7 c5, .agg #[iv s9.holds, iv s9.all, iv s9.late], pb g1, pb g2, pb g3] b ((g1, Cl 31 [sv E y G]) :: (g2, Cl 128 [iv C, iv D, iv F]) :: (g3, Cl 91 [sv r n s, sv t p x, iv q]) :: R) (fun v b' hp' => iv aC = v ∧ (g1, Cl 31 [sv E y G]) :: (g2, Cl 128 [iv C, iv D, iv F]) :: (g3, Cl 91 [sv r n s, sv t p x, iv q]) :: R = hp') := by
 refine fE 64 Tryd.func64 rfl Tryd.ntmps64 rfl ?_
 unfold mGuideSurest_1 at hm
 refine Cr<|tD (uB _ rfl rfl) ?_
 rintro _ _ ⟨aD, rfl, rfl⟩
 refine aS rfl<|Te<|Cs<|Cr<|tS (sL 1 rfl one31 rfl rfl)<|tS (st_eqnil_z rfl rfl aY sl31)<|Te ?_
 refine cB hm rfl (fun hm => ?_) fun hm => ?_
 refine Cr<|aS rfl<|Te<|Ct<|Xr ?_
 obtain rfl := o1 hm
 exact rO ⟨rfl, rfl⟩ lr
 refine Ck<|Xn ?_
 obtain ⟨⟨aE, aF, aG, aH, aI, aJ⟩, aZ, a0⟩ := bS hm
 refine Cj (fun H e' hp' => ∃ I J, [(0, sv A4 l7 c5), (2, pb g1), (3, pb g2), (4, pb g3), (6, pb aD), (8, pb I), (9, pb J)] = e' ∧ (g1, Cl 31 [sv E y G]) :: (g2, Cl 128 [iv C, iv D, iv F]) :: (g3, Cl 91 [sv r n s, sv t p x, iv q]) :: (aD, Cl 128 [iv s9.holds, iv s9.all, iv s9.late]) :: (I, Cl 86 [iv aE, iv aF, iv aG]) :: (J, Cl 86 [iv aH, iv aI, iv aJ]) :: R = hp' ∧ b.Le H) ?_ ?_
 have hm := aZ
 obtain ⟨_, K, hm⟩ := bS hm
 obtain ⟨L, bg, hm⟩ := bS hm
 obtain ⟨_, O, hm⟩ := bS hm
 obtain ⟨S, bh, hm⟩ := bS hm
 refine Di mixed (.refl _)<|E0 0 rfl (sM rfl)<|E0 1 rfl (sM rfl)<|E0 2 rfl (sE rfl sl31) ?_
 have K := (kS K).2
 refine E0 3 rfl (sb rfl rfl K) ?_
 obtain ⟨bi, a1, a2⟩ := iS bg
 obtain ⟨bs, a3, ah, T, ai⟩ := FZ.get (sz := 3) rfl (by decide) h6 a2
 obtain ⟨_, _, rfl, rfl, ⟨_, _, rfl, rfl, rfl⟩⟩ := a3
 refine E0 4 rfl (sI bi rfl rfl a1 ai T sl31)<|Es 5 rfl (sP (vs := [iv L.Train, iv L.On, iv L.Off]) 3 rfl agg86 T rfl (fun j u hu => ah j u hu))<|Es 6 rfl (sL 1 rfl one31 rfl rfl)<|Es 7 rfl (sL 1 rfl one31 rfl rfl)<|E0 8 rfl (sE rfl sl31) ?_
 have O := (kS O).2
 refine E0 9 rfl (sb rfl rfl O) ?_
 obtain ⟨bj, a4, a5⟩ := iS bh
 obtain ⟨bt, a6, aj, U, ak⟩ := FZ.get (sz := 3) rfl (by decide) bf a5
 obtain ⟨_, _, rfl, rfl, ⟨_, _, rfl, rfl, rfl⟩⟩ := a6
 refine E0 10 rfl (sI bj rfl rfl a4 ak U sl31)<|Es 11 rfl (sP (vs := [iv S.Train, iv S.On, iv S.Off]) 3 rfl agg86 U rfl (fun j u hu => aj j u hu))<|Eo<|Da [12, 13] (by kernel_rfl) rfl ?_
 refine Rd2 lr rfl rfl (uA [iv 0, iv 0, iv 0] zero86 rfl) ?_ ?_
 rintro _ _ ⟨V, rfl, rfl⟩
 refine iR<|Da [13] (by kernel_rfl) rfl ?_
 refine Rd2 lr rfl rfl (uA [iv 0, iv 0, iv 0] zero86 rfl) ?_ ?_
 rintro _ _ ⟨W, rfl, rfl⟩
 refine iR<|Da [14] (by kernel_rfl) rfl ?_
 refine Rd2 lr rfl rfl (uN (vs := [_, _, _]) 1 3 rfl rfl rfl siz86 rfl (mc rfl (mc rfl (mc rfl mn))) rfl (by simp)) ?_ ?_
 rintro _ _ rfl
 refine iR<|Da [15] (by kernel_rfl) rfl ?_
 refine Rd2 lr rfl rfl (uN (vs := [_, _, _]) 0 3 rfl rfl rfl siz86 rfl (mc rfl (mc rfl (mc rfl mn))) rfl (by simp)) ?_ ?_
 rintro _ _ rfl
 refine ⟨.inl (by kernel_rfl), ?_⟩
 refine Dd (by kernel_rfl) ?_
 obtain ⟨rfl, rfl, rfl, rfl, rfl, rfl⟩ := some6 hm
 exact jJ ⟨V, W, rfl, rfl, lr⟩
 exact Rn
 exact Rn
 exact Rn
 refine Rd2 lr rfl rfl (uA [iv 0, iv 0, iv 0] zero86 rfl) ?_ ?_
 rintro _ _ ⟨W, rfl, rfl⟩
 refine iR<|Da [12] (by kernel_rfl) rfl ?_
 refine Rd2 lr rfl rfl (uA [iv 0, iv 0, iv 0] zero86 rfl) ?_ ?_
 rintro _ _ ⟨V, rfl, rfl⟩
 refine iR<|Da [14] (by kernel_rfl) rfl ?_
 refine Rd2 lr rfl rfl (uN (vs := [_, _, _]) 0 3 rfl rfl rfl siz86 rfl (mc rfl (mc rfl (mc rfl mn))) rfl (by simp)) ?_ ?_
 rintro _ _ rfl
 refine iR<|Da [15] (by kernel_rfl) rfl ?_
 refine Rd2 lr rfl rfl (uN (vs := [_, _, _]) 1 3 rfl rfl rfl siz86 rfl (mc rfl (mc rfl (mc rfl mn))) rfl (by simp)) ?_ ?_
 rintro _ _ rfl
 refine ⟨.inl (by kernel_rfl), ?_⟩
 refine Dd (by kernel_rfl) ?_
 obtain ⟨rfl, rfl, rfl, rfl, rfl, rfl⟩ := some6 hm
 exact jJ ⟨V, W, rfl, rfl, lr⟩
 exact Rn
 exact Rn
 exact Rn
 exact Rn
 rintro H _ _ ⟨I, J, rfl, rfl, d⟩
 have hm := (unc6E a0)
 obtain ⟨bk, a7, a8⟩ := bS hm
 refine Cj (fun aK e' hp' => [(7, iv bk)] = e' ∧ (g1, Cl 31 [sv E y G]) :: (g2, Cl 128 [iv C, iv D, iv F]) :: (g3, Cl 91 [sv r n s, sv t p x, iv q]) :: R = hp' ∧ H.Le aK) ?_ ?_
 have hm := a7
 obtain ⟨_, X, hm⟩ := bS hm
 obtain ⟨_, Y, hm⟩ := bS hm
 obtain ⟨g, al, hm⟩ := bS hm
 obtain ⟨⟨aL, aM, Z, aN⟩, am, hm⟩ := bS hm
 have hm := (unc4E hm)
 obtain ⟨⟨aO, aP, aa, aQ⟩, an, hm⟩ := bS hm
 have hm := (unc4E hm)
 obtain ⟨i, ao, hm⟩ := bS hm
 obtain ⟨k, aq, hm⟩ := bS hm
 obtain ⟨A, bl, hm⟩ := bS hm
 obtain ⟨⟨aR, aT, aU, ab⟩, ar, hm⟩ := bS hm
 have hm := (unc4E hm)
 obtain ⟨B, bm, hm⟩ := bS hm
 obtain ⟨⟨aV, aW, aX, ac⟩, au, hm⟩ := bS hm
 have hm := (unc4E hm)
 obtain ⟨m, av, hm⟩ := bS hm
 obtain ⟨bn, aw, hm⟩ := bS hm
 refine Di mixed (.refl _)<|E0 0 rfl (sF rfl fld128_0)<|Es 1 rfl (sL 3 rfl one3 rfl rfl)<|E0 2 rfl (sF rfl fld128_1)<|Es 3 rfl (sL 1 rfl one3 rfl rfl) ?_
 have X := (kS X).2
 refine E0 4 rfl (st_mul rfl rfl X)<|E0 5 rfl (sF rfl fld128_0)<|Es 6 rfl (sL 1 rfl one3 rfl rfl)<|E0 7 rfl (sF rfl fld128_1)<|Es 8 rfl (sL 3 rfl one3 rfl rfl) ?_
 have Y := (kS Y).2
 refine E0 9 rfl (st_mul rfl rfl Y)<|Es 11 rfl (sD (vs := [_, _, _]) 2 3 rfl agg91 rfl rfl rfl)<|Es 12 rfl (sD (vs := [_, _, _]) 5 3 rfl agg86 rfl rfl rfl)<|Es 15 rfl (sD (vs := [_, _, _]) 2 3 rfl agg91 rfl rfl rfl)<|Es 16 rfl (sD (vs := [_, _, _]) 4 3 rfl agg86 rfl rfl rfl)<|Es 20 rfl (sL 0 rfl one31 rfl rfl)<|E0 21 rfl (sE rfl sl31)<|E0 22 rfl (sM rfl)<|E0 23 rfl (sE rfl sl31)<|Es 25 rfl (sD (vs := [_, _, _]) 2 3 rfl agg91 rfl rfl rfl) ?_
 refine E0 26 rfl (sM rfl) ?_
 obtain ⟨bo, a9, ba⟩ := iS bl
 obtain ⟨bu, bb, ax, ad, ay⟩ := FZ.get (sz := 3) rfl (by decide) (h6.le d) ba
 obtain ⟨_, _, rfl, rfl, ⟨_, _, rfl, rfl, rfl⟩⟩ := bb
 refine E0 27 rfl (sI bo rfl rfl a9 ay ad sl31)<|Es 28 rfl (sP (vs := [iv A.Train, iv A.On, iv A.Off]) 3 rfl agg86 ad rfl (fun j u hu => ax j u hu))<|Es 31 rfl (sD (vs := [_, _, _]) 2 3 rfl agg91 rfl rfl rfl)<|Es 32 rfl (sL 0 rfl one31 rfl rfl) ?_
 obtain ⟨bp, bc, bd⟩ := iS bm
 obtain ⟨bw, be, az, ae, aA⟩ := FZ.get (sz := 3) rfl (by decide) (bf.le d) bd
 obtain ⟨_, _, rfl, rfl, ⟨_, _, rfl, rfl, rfl⟩⟩ := be
 refine E0 33 rfl (sI bp rfl rfl bc aA ae sl31)<|Es 34 rfl (sP (vs := [iv B.Train, iv B.On, iv B.Off]) 3 rfl agg86 ae rfl (fun j u hu => az j u hu))<|Eo<|Da [10] (by kernel_rfl) rfl ?_
 refine Rd2 lr rfl rfl (uW _ call44 rfl (fun w ho => cCmpCompare _ [] (s9.holds * D) (C * s9.all) g al) (fun _ _ _ h => h.2.symm)) ?_ ?_
 rintro _ _ ⟨⟨_, rfl, _⟩, rfl⟩
 refine iR<|Da [13] (by kernel_rfl) rfl ?_
 refine Rg lr rfl rfl _ call61 rfl (cGuideNetOff _ _ (⟨(⟨n, p⟩ : ApiDay), q⟩ : GuideNet) (⟨aH, aI, aJ⟩ : GuideRide) r s t x (af.le d) (ag.le d) aL aM Z aN am) ?_ ?_
 rintro _ bz _ a ⟨rfl, rfl⟩
 refine iR<|Ei a (.refl _)<|E0 14 rfl (st_vfield1 (cs := [iv aL, iv aM, iv Z, iv aN]) rfl fdv83_2 one3 rfl)<|Eo<|Da [17] (by kernel_rfl) rfl ?_
 refine Rg a rfl rfl _ call61 rfl (cGuideNetOff _ _ (⟨(⟨n, p⟩ : ApiDay), q⟩ : GuideNet) (⟨aE, aF, aG⟩ : GuideRide) r s t x (af.le (d.trans a)) (ag.le (d.trans a)) aO aP aa aQ an) ?_ ?_
 rintro _ bA _ c ⟨rfl, rfl⟩
 refine iR<|Ei (a.trans c) (.refl _)<|E0 18 rfl (st_vfield1 (cs := [iv aO, iv aP, iv aa, iv aQ]) rfl fdv83_2 one3 rfl)<|Eo<|Da [19] (by kernel_rfl) rfl ?_
 refine Rd2 (a.trans c) rfl rfl (uW _ call44 rfl (fun w ho => cCmpCompare _ [] Z aa i ao) (fun _ _ _ h => h.2.symm)) ?_ ?_
 rintro _ _ ⟨⟨_, rfl, _⟩, rfl⟩
 refine iR<|Da [24] (by kernel_rfl) rfl ?_
 refine Rd2 (a.trans c) rfl rfl (uW _ call44 rfl (fun w ho => cCmpCompare _ [] (y.length : Int) (l7.length : Int) k aq) (fun _ _ _ h => h.2.symm)) ?_ ?_
 rintro _ _ ⟨⟨_, rfl, _⟩, rfl⟩
 refine iR<|Da [29] (by kernel_rfl) rfl ?_
 refine Rg (a.trans c) rfl rfl _ call60 rfl (cGuideNetOn _ _ (⟨(⟨n, p⟩ : ApiDay), q⟩ : GuideNet) A r s t x (af.le (d.trans (a.trans c))) (ag.le (d.trans (a.trans c))) aR aT aU ab ar) ?_ ?_
 rintro _ bB _ e ⟨rfl, rfl⟩
 refine iR<|Ei (a.trans (c.trans e)) (.refl _)<|E0 30 rfl (st_vfield1 (cs := [iv aR, iv aT, iv aU, iv ab]) rfl fdv83_3 one3 rfl)<|Eo<|Da [35] (by kernel_rfl) rfl ?_
 refine Rg (a.trans (c.trans e)) rfl rfl _ call60 rfl (cGuideNetOn _ _ (⟨(⟨n, p⟩ : ApiDay), q⟩ : GuideNet) B r s t x (af.le (d.trans (a.trans (c.trans e)))) (ag.le (d.trans (a.trans (c.trans e)))) aV aW aX ac au) ?_ ?_
 rintro _ bq _ f ⟨rfl, rfl⟩
 refine iR<|Ei (a.trans (c.trans (e.trans f))) (.refl _)<|E0 36 rfl (st_vfield1 (cs := [iv aV, iv aW, iv aX, iv ac]) rfl fdv83_3 one3 rfl)<|Eo<|Da [37] (by kernel_rfl) rfl ?_
 refine Rd2 (a.trans (c.trans (e.trans f))) rfl rfl (uW _ call44 rfl (fun w ho => cCmpCompare _ [] ab ac m av) (fun _ _ _ h => h.2.symm)) ?_ ?_
 rintro _ _ ⟨⟨_, rfl, _⟩, rfl⟩
 refine iR<|Da [38] (by kernel_rfl) rfl ?_
 refine Rd2 (a.trans (c.trans (e.trans f))) rfl rfl (u_bslice (el := 3) [(0, iv g), (1, iv i), (2, iv k), (3, iv m)] [iv g, iv i, iv k, iv m] rfl (fun _ => by kernel_rfl)) ?_ ?_
 rintro _ _ ⟨z, rfl, rfl⟩
 refine iR<|d_seg 0 [_, _, _, _, _, _] R rfl rfl ?_
 have br : OS 3 (OT.fr rI) bq.w (.slice (some ⟨z, 0, none⟩) 4 4) [g, i, k, m] [(z, Cl 3 [iv g, iv i, iv k, iv m])] := OS.lit [[iv g], [iv i], [iv k], [iv m]] rfl ⟨rfl, ⟨rfl, ⟨rfl, ⟨rfl, trivial⟩⟩⟩⟩ rfl (by decide)
 refine Da [39] (by kernel_rfl) rfl ?_
 refine Rd2 (a.trans (c.trans (e.trans f))) rfl rfl (uW _ call43 rfl (fun w ho => cCmpOr _ [] [g, i, k, m] (some ⟨z, 0, none⟩) 4 (OS.now (o := (OT.fr rI)) (l := [g, i, k, m]) (hs := [(z, Cl 3 [iv g, iv i, iv k, iv m])]) br ho (.cons _ (.cons _ (.cons _ (.cons _ (.cons _ (.cons _ (List.sublist_append_left _ _)))))))) bn aw) (fun _ _ _ h => h.2.symm)) ?_ ?_
 rintro _ _ ⟨⟨_, rfl, _⟩, rfl⟩
 refine iR<|Ei (a.trans (c.trans (e.trans f))) (.cons_cons _ (.cons_cons _ (.cons_cons _ (.cons_cons _ (.cons_cons _ (.cons_cons _ (ss [(z, Cl 3 [iv g, iv i, iv k, iv m])] (.refl _))))))))<|E0 40 rfl (sA rfl)<|Eo<|Dd (by kernel_rfl) ?_
 obtain rfl := o1 hm
 exact jJ ⟨rfl, rfl, (a.trans (c.trans (e.trans f)))⟩
 exact Rn
 exact Rn
 exact Rn
 exact Rn
 exact Rn
 exact Rn
 exact Rn
 exact Rn
 exact Rn
 exact Rn
 rintro aK _ _ ⟨rfl, rfl, aB⟩
 have hm := a8
 refine Ct ?_
 obtain rfl := o1 hm
 exact rO ⟨rfl, rfl⟩ (d.trans aB)

set_option maxRecDepth 20000 in
theorem cGuideSurest_2 : ∀ (N : Nat) (b : Base) (R : Hp) (F H I J am ac aK aZ a0 a1 ae U g2 g3 V W g6 g7 g8 A9 G K L O S af ag av aL) (aw : FZ rGuideRide b.w A9 G F) (aP : (A9 = none ↔ F = [])) (ax : FZ rApiTrain b.w K L H) (ay : FZ (RT.list rI) b.w O S I) (be : FZ rGuideOdds b.w af ag ac) (bf : FZ rGuideRide b.w av aL aK) (ad : (av = none ↔ aK = [])) (aM a2 a3 a4) (hm : mGuideSurest_2 N F H I J am ac aK aZ a0 a1 ae = some (aM, a2, a3, a4)),
    CallsG Tryd.prog 65 [sv A9 F G, pb U, pb g2, pb g3, pb V, pb W, pb g6, pb g7, pb g8] b ((U, Cl 91 [sv K H L, sv O I S, iv J]) :: (g2, Cl 3 [iv am]) :: (g3, Cl 74 [sv af ac ag]) :: (V, Cl 31 [sv av aK aL]) :: (W, Cl 128 [iv aZ, iv a0, iv a1]) :: (g6, Cl 3 [iv ae]) :: (g7, Cl 129 [.func (.func 64) #[] #[pb V, pb W, pb U]]) :: (g8, Cl 130 [.func (.func 65) #[] #[pb U, pb g2, pb g3, pb V, pb W, pb g6, pb g7, pb g8]]) :: R) (fun v b' hp' => ∃ bg bA, .tuple #[] = v ∧ (U, Cl 91 [sv K H L, sv O I S, iv J]) :: (g2, Cl 3 [iv am]) :: (g3, Cl 74 [sv af ac ag]) :: (V, Cl 31 [sv bg aM bA]) :: (W, Cl 128 [iv a2, iv a3, iv a4]) :: (g6, Cl 3 [iv ae]) :: (g7, Cl 129 [.func (.func 64) #[] #[pb V, pb W, pb U]]) :: (g8, Cl 130 [.func (.func 65) #[] #[pb U, pb g2, pb g3, pb V, pb W, pb g6, pb g7, pb g8]]) :: R = hp' ∧ FZ rGuideRide b'.w bg bA aM ∧ (bg = none ↔ aM = [])) := by
  intro N
  induction N with
  | zero =>
    intro b R F H I J am ac aK aZ a0 a1 ae U g2 g3 V W g6 g7 g8 A9 G K L O S af ag av aL aw aP ax ay be bf ad aM a2 a3 a4 hm
    unfold mGuideSurest_2 at hm
    cases hm
  | succ N ih =>
   intro b R F H I J am ac aK aZ a0 a1 ae U g2 g3 V W g6 g7 g8 A9 G K L O S af ag av aL aw aP ax ay be bf ad aM a2 a3 a4 hm
   refine fE 74 Tryd.func65 rfl Tryd.ntmps65 rfl ?_
   unfold mGuideSurest_2 at hm
   refine Cr<|tD (uB _ rfl rfl) ?_
   rintro _ _ ⟨aa, rfl, rfl⟩
   refine Te<|Cr<|tS (sL 0 rfl one31 rfl rfl)<|tS (sL 0 rfl one31 rfl rfl)<|tS (sE rfl sl31) ?_
   obtain ⟨_, bh, hm⟩ := bS hm
   have bh := (kS bh).2
   refine tS (sb rfl rfl bh) ?_
   obtain ⟨C, b0, cc, bL, cd, bM, br, bi, bs, hm⟩ := bF (sz := 3) hm aw
   obtain ⟨_, _, rfl, rfl, ⟨_, _, rfl, rfl, rfl⟩⟩ := bM
   refine tS (sI b0 rfl rfl bL bs bi sl31)<|tS (sP (vs := [iv C.Train, iv C.On, iv C.Off]) 3 rfl agg86 bi rfl (fun j u hu => br j u hu))<|tD (uA [iv 0, iv 0, iv 0] zero86 rfl) ?_
   rintro _ _ ⟨aN, rfl, rfl⟩
   refine tD (uN (vs := [_, _, _]) 0 3 rfl rfl rfl siz86 rfl (mc rfl (mc rfl (mc rfl mn))) rfl (by simp)) ?_
   rintro _ _ rfl
   refine Te<|Cs<|Cs ?_
   obtain ⟨⟨bB, bC, bD, bE⟩, bt, hm⟩ := bS hm
   have hm := (unc4E hm)
   refine Di mixed (.refl _)<|Es 0 rfl (sD (vs := [_, _, _]) 2 3 rfl agg91 rfl rfl rfl)<|Es 1 rfl (sD (vs := [_, _, _]) 0 3 rfl agg86 rfl rfl rfl)<|Es 4 rfl (sL 3 rfl one3 rfl rfl)<|Eo<|Da [2] (by kernel_rfl) rfl ?_
   refine Rg lr rfl rfl _ call61 rfl (cGuideNetOff _ _ (⟨(⟨H, I⟩ : ApiDay), J⟩ : GuideNet) C K L O S ax ay bB bC bD bE bt) ?_ ?_
   rintro _ cf _ d ⟨rfl, rfl⟩
   refine iR<|Ei d (.refl _)<|E0 3 rfl (st_vfield1 (cs := [iv bB, iv bC, iv bD, iv bE]) rfl fdv83_2 one3 rfl)<|E0 5 rfl (q5 rfl rfl)<|Eo<|Dd (by kernel_rfl)<|Xn ?_
   refine cI hm rfl (fun hm => ?_) fun hm => ?_
   refine Ct<|Xr ?_
   obtain ⟨rfl, rfl, rfl, rfl⟩ := some4 hm
   have bN := (bf.le d)
   exact rZ ⟨av, aL, rfl, rfl, bN, ad⟩ d
   refine Ck<|Xn<|Cr<|tS (sD (vs := [_, _, _]) 2 3 rfl agg91 rfl rfl rfl)<|tS (sL 1 rfl one31 rfl rfl)<|tS (sB (v := .agg #[sv A9 F G]) [(0, sv A9 F G)] rfl (fun _ => by kernel_rfl))<|tS (sL 4 rfl one74 rfl rfl) ?_
   obtain ⟨⟨aT, aU, aV⟩, bu, hm⟩ := bS hm
   have hm := (unc3E hm)
   refine Tg _ rfl call66 rfl (cGuideNetCount _ _ (⟨(⟨H, I⟩ : ApiDay), J⟩ : GuideNet) (⟨F⟩ : GuideJourney) ac K L O S A9 G af ag (ax.le d) (ay.le d) (aw.le d) (be.le d) aT aU aV bu) ?_
   rintro _ b1 _ f ⟨rfl, rfl⟩
   refine tD (uA [iv 0, iv 0, iv 0] zero128 rfl) ?_
   rintro _ _ ⟨a5, rfl, rfl⟩
   refine tD (uN (vs := [_, _, _]) 0 3 rfl rfl rfl siz128 rfl (mc rfl (mc rfl (mc rfl mn))) rfl (by simp)) ?_
   rintro _ _ rfl
   refine Te<|Cs ?_
   obtain ⟨b2, bO, bP⟩ := bS hm
   refine Cj (fun a6 e' hp' => [(1, pb U), (4, pb V), (5, pb W), (6, pb g6), (7, pb g7), (8, pb g8), (9, pb aa), (10, pb aN), (11, pb a5), (44, bv b2)] = e' ∧ (U, Cl 91 [sv K H L, sv O I S, iv J]) :: (V, Cl 31 [sv av aK aL]) :: (W, Cl 128 [iv aZ, iv a0, iv a1]) :: (g6, Cl 3 [iv ae]) :: (g7, Cl 129 [.func (.func 64) #[] #[pb V, pb W, pb U]]) :: (g8, Cl 130 [.func (.func 65) #[] #[pb U, pb g2, pb g3, pb V, pb W, pb g6, pb g7, pb g8]]) :: (aa, Cl 31 [sv A9 F G]) :: (aN, Cl 86 [iv C.Train, iv C.On, iv C.Off]) :: (a5, Cl 128 [iv aT, iv aU, iv aV]) :: (g2, Cl 3 [iv am]) :: (g3, Cl 74 [sv af ac ag]) :: R = hp' ∧ b1.Le a6) ?_ ?_
   have hm := bO
   refine Cg<|tS (sL 6 rfl one31 rfl rfl)<|tS (st_neqnil_z rfl rfl ad sl31) ?_
   rcases Bool.eq_false_or_eq_true (!aK.isEmpty) with az | az
   rw [if_neg (fun hh => Bool.noConfusion (hh.symm.trans (nt az)))] at hm
   refine Tr 31 rfl (v' := .bool true) (by rw [az] <;> rfl)<|mV rfl<|yS<|tS (sF rfl fld128_0)<|yS<|tS (sL 0 rfl one3 rfl rfl)<|yS<|tS (sF rfl fld128_1)<|yS<|tS (sL 7 rfl one3 rfl rfl) ?_
   refine yS ?_
   obtain ⟨_, bj, hm⟩ := bS hm
   have bj := (kS bj).2
   refine tS (st_mul rfl rfl bj)<|yS<|tS (sF rfl fld128_0)<|yS<|tS (sL 7 rfl one3 rfl rfl)<|yS<|tS (sF rfl fld128_1)<|yS<|tS (sL 0 rfl one3 rfl rfl)<|yS ?_
   obtain ⟨_, bk, hm⟩ := bS hm
   have bk := (kS bk).2
   refine tS (st_mul rfl rfl bk)<|yS<|tS (q3 rfl rfl)<|tS (pT rfl rfl)<|Tn ?_
   obtain rfl := o1 hm
   exact jJ ⟨rfl, rfl, lr⟩
   rw [if_pos (nf az)] at hm
   refine Tr 31 rfl (v' := .bool false) (by rw [az] <;> rfl)<|mV rfl<|nO<|nO<|nO<|nO<|nO<|nO<|nO<|nO ?_
   refine nO<|nO<|nO<|tS (pF rfl rfl)<|Tn ?_
   obtain rfl := o1 hm
   exact jJ ⟨rfl, rfl, lr⟩
   rintro a6 _ _ ⟨rfl, rfl, g⟩
   have hm := bP
   refine cB hm rfl (fun hm => ?_) fun hm => ?_
   refine Ct<|Xr ?_
   obtain ⟨rfl, rfl, rfl, rfl⟩ := some4 hm
   have bQ := (bf.le (d.trans (f.trans g)))
   exact rZ ⟨av, aL, rfl, rfl, bQ, ad⟩ (d.trans (f.trans g))
   refine Ck<|Xn ?_
   obtain ⟨⟨bl, b3, b4, b5⟩, bR, bT⟩ := bS hm
   refine Cj (fun bm e' hp' => ∃ aO aW, [(1, pb U), (8, pb g8), (9, pb aa), (10, pb aN)] = e' ∧ (U, Cl 91 [sv K H L, sv O I S, iv J]) :: (g8, Cl 130 [.func (.func 65) #[] #[pb U, pb g2, pb g3, pb V, pb W, pb g6, pb g7, pb g8]]) :: (aa, Cl 31 [sv A9 F G]) :: (aN, Cl 86 [iv C.Train, iv C.On, iv C.Off]) :: (g2, Cl 3 [iv am]) :: (g3, Cl 74 [sv af ac ag]) :: (V, Cl 31 [sv aO bl aW]) :: (W, Cl 128 [iv b3, iv b4, iv b5]) :: (g6, Cl 3 [iv ae]) :: (g7, Cl 129 [.func (.func 64) #[] #[pb V, pb W, pb U]]) :: R = hp' ∧ a6.Le bm ∧ FZ rGuideRide bm.w aO aW bl ∧ (aO = none ↔ bl = [])) ?_ ?_
   have hm := bR
   obtain ⟨b6, bU, bV⟩ := bS hm
   refine Cj (fun bG e' hp' => [(1, pb U), (4, pb V), (5, pb W), (8, pb g8), (9, pb aa), (10, pb aN), (11, pb a5), (57, bv b6)] = e' ∧ (U, Cl 91 [sv K H L, sv O I S, iv J]) :: (V, Cl 31 [sv av aK aL]) :: (W, Cl 128 [iv aZ, iv a0, iv a1]) :: (g8, Cl 130 [.func (.func 65) #[] #[pb U, pb g2, pb g3, pb V, pb W, pb g6, pb g7, pb g8]]) :: (aa, Cl 31 [sv A9 F G]) :: (aN, Cl 86 [iv C.Train, iv C.On, iv C.Off]) :: (a5, Cl 128 [iv aT, iv aU, iv aV]) :: (g2, Cl 3 [iv am]) :: (g3, Cl 74 [sv af ac ag]) :: (g6, Cl 3 [iv ae]) :: (g7, Cl 129 [.func (.func 64) #[] #[pb V, pb W, pb U]]) :: R = hp' ∧ a6.Le bG) ?_ ?_
   have hm := bU
   obtain ⟨⟨aX, a7, a8, a9⟩, ba, hm⟩ := bS hm
   have hm := (unc4E hm)
   by_cases aQ : aX = ae
   rw [if_pos aQ] at hm
   obtain ⟨b7, bw, hm⟩ := bS hm
   refine Di mixed (.cons _ (.cons _ (.cons _ (.refl _))))<|Es 1 rfl (sD (vs := [_, _, _]) 4 3 rfl agg86 rfl rfl rfl)<|Es 4 rfl (sL 0 rfl one3 rfl rfl)<|Eo<|Da [0] (by kernel_rfl) rfl ?_
   refine Rd2 lr rfl rfl (Stable.does (sD (vs := [_, _, _]) 0 3 rfl agg91 rfl rfl rfl)) ?_ ?_
   rintro _ _ ⟨rfl, rfl⟩
   refine iR<|Da [2] (by kernel_rfl) rfl ?_
   refine Rg lr rfl rfl _ call61 rfl (cGuideNetOff _ _ (⟨(⟨H, I⟩ : ApiDay), J⟩ : GuideNet) C K L O S (ax.le (d.trans (f.trans g))) (ay.le (d.trans (f.trans g))) aX a7 a8 a9 ba) ?_ ?_
   rintro _ b8 _ q ⟨rfl, rfl⟩
   refine iR<|Ei q (.cons _ (.cons _ (.cons _ (.refl _))))<|E0 3 rfl (st_vfield1 (cs := [iv aX, iv a7, iv a8, iv a9]) rfl fdv83_0 one3 rfl)<|E0 5 rfl (eT rfl rfl aQ)<|E0 6 rfl (sM rfl)<|Ey 7 51 rfl (sL 1 rfl one129 rfl rfl)<|Ey 8 51 rfl (sL 3 rfl one31 rfl rfl)<|Ey 9 51 rfl (sD (vs := [_, _, _]) 5 3 rfl agg128 rfl rfl rfl)<|Eo<|d_pullb 2 rfl ?_
   refine d_pullb 2 rfl<|Da [10] (by kernel_rfl) rfl ?_
   refine R_callvGY q rfl rfl 51 rfl rfl rfl #[] #[pb V, pb W, pb U] [sv A9 F G, .agg #[iv aT, iv aU, iv aV]] rfl call64 rfl (cGuideSurest_1 _ _ F (⟨aT, aU, aV⟩ : GuideCases) aK aZ a0 a1 H I J V W U A9 G av aL K L O S (aw.le (d.trans (f.trans (g.trans q)))) aP (bf.le (d.trans (f.trans (g.trans q)))) ad (ax.le (d.trans (f.trans (g.trans q)))) (ay.le (d.trans (f.trans (g.trans q)))) b7 bw) ?_ ?_
   rintro _ cg _ bb ⟨rfl, rfl⟩
   refine iR<|Ei (q.trans bb) (.cons _ (.cons _ (.cons _ (.refl _))))<|Yz 11 51 rfl (q5 rfl rfl)<|E0 12 rfl (pT rfl rfl)<|Eo<|Dd (by kernel_rfl) ?_
   obtain rfl := o1 hm
   exact jJ ⟨rfl, rfl, (q.trans bb)⟩
   exact Rn
   exact Rn
   exact Rn
   rw [if_neg aQ] at hm
   refine Di mixed (.refl _)<|Es 0 rfl (sD (vs := [_, _, _]) 0 3 rfl agg91 rfl rfl rfl)<|Es 1 rfl (sD (vs := [_, _, _]) 7 3 rfl agg86 rfl rfl rfl)<|Es 4 rfl (sL 3 rfl one3 rfl rfl)<|Eo<|Da [2] (by kernel_rfl) rfl ?_
   refine Rg lr rfl rfl _ call61 rfl (cGuideNetOff _ _ (⟨(⟨H, I⟩ : ApiDay), J⟩ : GuideNet) C K L O S (ax.le (d.trans (f.trans g))) (ay.le (d.trans (f.trans g))) aX a7 a8 a9 ba) ?_ ?_
   rintro _ b8 _ q ⟨rfl, rfl⟩
   refine iR<|Ei q (.refl _)<|E0 3 rfl (st_vfield1 (cs := [iv aX, iv a7, iv a8, iv a9]) rfl fdv83_0 one3 rfl)<|E0 5 rfl (eF rfl rfl aQ)<|E0 6 rfl (sM rfl)<|eN 7 rfl<|eN 8 rfl<|eN 9 rfl<|eN 10 rfl<|eN 11 rfl ?_
   refine E0 12 rfl (pF rfl rfl)<|Eo<|Dd (by kernel_rfl) ?_
   obtain rfl := o1 hm
   exact jJ ⟨rfl, rfl, q⟩
   exact Rn
   rintro bG _ _ ⟨rfl, rfl, au⟩
   have hm := bV
   refine cB hm rfl (fun hm => ?_) fun hm => ?_
   refine Di mixed (.cons_cons _ (.cons _ (.refl _)))<|Es 0 rfl (sL 3 rfl one31 rfl rfl)<|Es 1 rfl (sD (vs := [_, _, _]) 5 3 rfl agg128 rfl rfl rfl)<|Eo<|Da [2] (by kernel_rfl) rfl ?_
   refine Rd2 lr rfl rfl (uS 1 rfl rfl siz31 rfl rfl (by simp)) ?_ ?_
   rintro _ _ rfl
   refine iR<|Da [3] (by kernel_rfl) rfl ?_
   refine Rd2 lr rfl rfl (uN (vs := [_, _, _]) 2 3 rfl rfl rfl siz128 rfl (mc rfl (mc rfl (mc rfl mn))) rfl (by simp)) ?_ ?_
   rintro _ _ rfl
   refine ⟨.inl (by kernel_rfl), ?_⟩
   refine Dd (by kernel_rfl) ?_
   obtain ⟨rfl, rfl, rfl, rfl⟩ := some4 hm
   exact jJ ⟨A9, G, rfl, rfl, au, (aw.le (d.trans (f.trans (g.trans au)))), aP⟩
   exact Rn
   exact Rn
   refine Ck ?_
   obtain ⟨rfl, rfl, rfl, rfl⟩ := some4 hm
   exact jJ ⟨av, aL, rfl, rfl, au, (bf.le (d.trans (f.trans (g.trans au)))), ad⟩
   rintro bm _ _ ⟨aO, aW, rfl, rfl, k, bH, bc⟩
   have hm := (unc4E bT)
   refine Cs<|Cr<|tS (sL 2 rfl one31 rfl rfl)<|tS (sE rfl sl31)<|tS (q1 rfl rfl)<|Te ?_
   refine cI hm rfl (fun hm => ?_) fun hm => ?_
   refine Ct<|Xr ?_
   obtain ⟨rfl, rfl, rfl, rfl⟩ := some4 hm
   exact rZ ⟨aO, aW, rfl, rfl, bH, bc⟩ (d.trans (f.trans (g.trans k)))
   refine Ck<|Xn<|Cr<|tS (sD (vs := [_, _, _]) 0 3 rfl agg91 rfl rfl rfl)<|tS (sD (vs := [_, _, _]) 3 3 rfl agg86 rfl rfl rfl) ?_
   obtain ⟨b9, bx, hm⟩ := bS hm
   refine Tg _ rfl call67 rfl (cGuideNetBehind _ _ (⟨(⟨H, I⟩ : ApiDay), J⟩ : GuideNet) C K L O S (ax.le (d.trans (f.trans (g.trans k)))) (ay.le (d.trans (f.trans (g.trans k)))) b9 bx) ?_
   rintro _ ca _ p ⟨ch, rfl, rfl, cb⟩
   refine Te<|Cb ?_
   obtain ⟨ci, bW, bn⟩ := bS hm
   refine Cp 9 rfl<|Cp 9 rfl<|Cp 9 rfl<|Cp 9 rfl<|Cp 9 rfl<|Cp 9 rfl<|Cp 6 rfl<|Cp 8 rfl<|Cp 8 rfl ?_
   have bX := (bH.le p)
   refine c_rangeM (fun x : GuideRide => (.agg #[iv x.Train, iv x.On, iv x.Off] : Value)) (unc4 fun ah aA aB aC => fun bd hp' => ∃ ab ai, (g8, Cl 130 [.func (.func 65) #[] #[pb U, pb g2, pb g3, pb V, pb W, pb g6, pb g7, pb g8]]) :: (aa, Cl 31 [sv A9 F G]) :: (U, Cl 91 [sv K H L, sv O I S, iv J]) :: (g2, Cl 3 [iv am]) :: (g3, Cl 74 [sv af ac ag]) :: (V, Cl 31 [sv ab ah ai]) :: (W, Cl 128 [iv aA, iv aB, iv aC]) :: (g6, Cl 3 [iv ae]) :: (g7, Cl 129 [.func (.func 64) #[] #[pb V, pb W, pb U]]) :: R = hp' ∧ ca.Le bd ∧ FZ rGuideRide bd.w ab ai ah ∧ (ab = none ↔ ah = [])) rfl cb bW (e' := [(8, pb g8), (9, pb aa)]) ⟨rfl, rfl, trivial⟩ (.cons_cons _ (.cons_cons _ (.cons_cons _ (.cons_cons _ (.cons_cons _ (.cons_cons _ (.cons_cons _ (.cons_cons _ (.cons_cons _ (.cons _ (.refl _))))))))))) rfl (fun dk hdk => ⟨aO, aW, rfl, Base.Le.dks hdk, bX, bc⟩) ?_ ?_ (fun x hx => (d.trans (f.trans (g.trans (k.trans p)))).dk x hx)
   rintro bI bJ a ⟨ah, aA, aB, aC⟩ bd cj _ ce ⟨ab, ai, rfl, m, aY, aj⟩ h aD bZ
   unfold mGuideSurest_2_L829 at aD
   have hm := (unc4E aD)
   refine Cg<|tD (uA [iv 0, iv 0, iv 0] zero86 rfl) ?_
   rintro _ _ ⟨bK, rfl, rfl⟩
   refine tD (uN (vs := [_, _, _]) 0 3 rfl rfl rfl siz86 rfl (mc rfl (mc rfl (mc rfl mn))) rfl (by simp)) ?_
   rintro _ _ rfl
   refine Tn<|x_begin 1 rfl<|Cb ?_
   obtain ⟨o, X, hm⟩ := bS hm
   obtain ⟨_, T, hm⟩ := bS hm
   obtain ⟨⟨an, ao, aq, ar⟩, aE, hm⟩ := bS hm
   have hm := (unc4E hm)
   refine D_drawS ((bJ, Lb bI) :: (bK, Cl 86 [iv a.Train, iv a.On, iv a.Off]) :: (aa, Cl 31 [sv A9 F G]) :: R) mixed ?_
   refine D_tail (fun bo e' hp' => ∃ n s t y, [(67, .func (.func 65) #[] #[pb U, pb g2, pb g3, pb V, pb W, pb g6, pb g7, pb g8]), (69, sv s o t), (71, .slice (some ⟨y, 0, none⟩) 1 1)] = e' ∧ (y, Cl 86 [iv a.Train, iv a.On, iv a.Off]) :: (bJ, Lb bI) :: (bK, Cl 86 [iv a.Train, iv a.On, iv a.Off]) :: (g8, Cl 130 [.func (.func 65) #[] #[pb U, pb g2, pb g3, pb V, pb W, pb g6, pb g7, pb g8]]) :: (aa, Cl 31 [sv A9 F G]) :: (U, Cl 91 [sv K H L, sv O I S, iv J]) :: (g2, Cl 3 [iv am]) :: (g3, Cl 74 [sv af ac ag]) :: (V, Cl 31 [sv ab ah ai]) :: (W, Cl 128 [iv aA, iv aB, iv aC]) :: (g6, Cl 3 [iv ae]) :: (g7, Cl 129 [.func (.func 64) #[] #[pb V, pb W, pb U]]) :: (n ++ R) = hp' ∧ OS 86 (OT.fr rGuideRide) bo.w (sv s o t) o n) 2 #[true, true, true, true, true, false, false] ?_ (fun tl1043 => ?_)
   rintro bo _ _ z ⟨n, s, t, y, rfl, rfl, bY⟩
   have T := room_some T
   refine Da [5] (by kernel_rfl) rfl ?_
   refine Rd2 z rfl rfl (uQ (r := rGuideRide) (l := o) [_, _, _, _, _, _, _, _, _, _, _, _] R [[iv a.Train, iv a.On, iv a.Off]] [a] rfl (by decide) sl31 inf86 rfl rfl rfl rfl bY rfl (fun w ho => Rd.own (i := 0) ho rfl) ⟨⟨[iv a.Train], _, rfl, rfl, ⟨[iv a.On], _, rfl, rfl, rfl⟩⟩, trivial⟩ T) ?_ ?_
   rintro _ _ ⟨ak, rfl, D⟩
   obtain ⟨E, Y, rfl, _⟩ := D.form
   refine iR ?_
   have Z : (E = none ↔ o ++ [a] = []) := (OS.nz D (by simp))
   refine d_frz [_, _, _, _, _, _, _, _, _, _, _, _] ak R rfl ?_
   intro bp e al
   have aF := OS.frz (l := o ++ [a]) D e.cells al
   refine d_pullb 3 rfl<|d_pullb 11 rfl<|d_pullb 11 rfl<|d_pullb 11 rfl<|d_pullb 11 rfl<|d_pullb 11 rfl<|d_pullb 11 rfl<|d_pullb 11 rfl<|Da [6] (by kernel_rfl) rfl ?_
   refine Rv (z.trans e) rfl rfl #[] #[pb U, pb g2, pb g3, pb V, pb W, pb g6, pb g7, pb g8] [.slice E (o ++ [a]).length Y] rfl call65 rfl (ih _ _ (o ++ [a]) H I J am ac ah aA aB aC ae U g2 g3 V W g6 g7 g8 E Y K L O S af ag ab ai aF Z (ax.le (d.trans (f.trans (g.trans (k.trans (p.trans (m.trans (h.trans (z.trans e))))))))) (ay.le (d.trans (f.trans (g.trans (k.trans (p.trans (m.trans (h.trans (z.trans e))))))))) (be.le (d.trans (f.trans (g.trans (k.trans (p.trans (m.trans (h.trans (z.trans e))))))))) (aY.le (h.trans (z.trans e))) aj an ao aq ar aE) ?_ ?_
   rintro _ bq _ A ⟨aG, aH, rfl, rfl, aI, aJ⟩
   refine iR<|Dd (by kernel_rfl)<|Xm<|Xp 6 rfl<|Xp 6 rfl<|Xp 6 rfl<|Xp 6 rfl<|Xp 6 rfl<|Xp 6 rfl<|Xp 6 rfl ?_
   refine Xp 11 rfl<|Xp 8 rfl ?_
   exact x_round 10 rfl (z.trans (e.trans A)) (.cons_cons _ (.cons_cons _ (.cons_cons _ (.cons_cons _ (.cons_cons _ (.cons_cons _ (.cons_cons _ (.cons_cons _ (.cons_cons _ (.cons _ (.cons _ (.refl _)))))))))))) ⟨(an, ao, aq, ar), (Option.some.inj hm).symm, ⟨aG, aH, rfl, (m.trans (h.trans (z.trans (e.trans A)))), aI, aJ⟩⟩
   exact Rn
   exact Rn
   refine Ei lr (.cons_cons _ (.cons_cons _ (.cons _ (.cons_cons _ (.cons _ (.cons _ (.cons _ (.cons _ (.cons _ (.cons _ (.cons _ (.refl _))))))))))))<|Es 1 rfl (sL 2 rfl one31 rfl rfl)<|Es 3 rfl (sD (vs := [_, _, _]) 1 3 rfl agg86 rfl rfl rfl)<|Eo<|Da [0, 2, 4] (by kernel_rfl) rfl ?_
   refine Rd2 lr rfl rfl (Stable.does (sL 2 rfl one130 rfl rfl)) ?_ ?_
   rintro _ _ ⟨rfl, rfl⟩
   refine iR<|Da [2, 4] (by kernel_rfl) rfl ?_
   refine Rg lr rfl rfl _ call56 rfl (cSlicesClone _ _ F A9 G (aw.le (d.trans (f.trans (g.trans (k.trans (p.trans (m.trans h))))))) o X) ?_ ?_
   rintro _ aR _ c ⟨s, t, n, rfl, rfl, B⟩
   refine iR<|d_in1 [] [_, _, _, _, _, _, _, _, _, _, _] n R rfl<|Da [4] (by kernel_rfl) rfl ?_
   refine Rd2 c rfl rfl (u_bslice (el := 86) [(0, .agg #[iv a.Train, iv a.On, iv a.Off])] [iv a.Train, iv a.On, iv a.Off] rfl (fun _ => by kernel_rfl)) ?_ ?_
   rintro _ _ ⟨y, rfl, rfl⟩
   refine iR ?_
   exact dG tl1043 ⟨n, s, t, y, rfl, rfl, B⟩ c
   exact Rn
   refine Rd2 lr rfl rfl (u_bslice (el := 86) [(0, .agg #[iv a.Train, iv a.On, iv a.Off])] [iv a.Train, iv a.On, iv a.Off] rfl (fun _ => by kernel_rfl)) ?_ ?_
   rintro _ _ ⟨y, rfl, rfl⟩
   refine iR<|Da [2] (by kernel_rfl) rfl ?_
   refine Rg lr rfl rfl _ call56 rfl (cSlicesClone _ _ F A9 G (aw.le (d.trans (f.trans (g.trans (k.trans (p.trans (m.trans h))))))) o X) ?_ ?_
   rintro _ aR _ c ⟨s, t, n, rfl, rfl, B⟩
   refine iR<|d_in1 [] [_, _, _, _, _, _, _, _, _, _, _, _] n R rfl ?_
   exact dG tl1043 ⟨n, s, t, y, rfl, rfl, B⟩ c
   exact Rn
   exact Rn
   refine Rg lr rfl rfl _ call56 rfl (cSlicesClone _ _ F A9 G (aw.le (d.trans (f.trans (g.trans (k.trans (p.trans (m.trans h))))))) o X) ?_ ?_
   rintro _ aR _ c ⟨s, t, n, rfl, rfl, B⟩
   refine iR<|d_in1 [] [_, _, _, _, _, _, _, _, _, _, _] n R rfl<|Da [0, 4] (by kernel_rfl) rfl ?_
   refine Rd2 c rfl rfl (Stable.does (sL 2 rfl one130 rfl rfl)) ?_ ?_
   rintro _ _ ⟨rfl, rfl⟩
   refine iR<|Da [4] (by kernel_rfl) rfl ?_
   refine Rd2 c rfl rfl (u_bslice (el := 86) [(0, .agg #[iv a.Train, iv a.On, iv a.Off])] [iv a.Train, iv a.On, iv a.Off] rfl (fun _ => by kernel_rfl)) ?_ ?_
   rintro _ _ ⟨y, rfl, rfl⟩
   refine iR ?_
   exact dG tl1043 ⟨n, s, t, y, rfl, rfl, B⟩ c
   exact Rn
   refine Rd2 c rfl rfl (u_bslice (el := 86) [(0, .agg #[iv a.Train, iv a.On, iv a.Off])] [iv a.Train, iv a.On, iv a.Off] rfl (fun _ => by kernel_rfl)) ?_ ?_
   rintro _ _ ⟨y, rfl, rfl⟩
   refine iR ?_
   have T := room_some T
   refine Da [0, 5] (by kernel_rfl) rfl ?_
   refine Rd2 c rfl rfl (Stable.does (sL 3 rfl one130 rfl rfl)) ?_ ?_
   rintro _ _ ⟨rfl, rfl⟩
   refine iR ?_
   exact dG tl1043 ⟨n, s, t, y, rfl, rfl, B⟩ c
   refine Rd2 c rfl rfl (uQ (r := rGuideRide) (l := o) [_, _, _, _, _, _, _, _, _, _, _, _] R [[iv a.Train, iv a.On, iv a.Off]] [a] rfl (by decide) sl31 inf86 rfl rfl rfl rfl B rfl (fun w ho => Rd.own (i := 0) ho rfl) ⟨⟨[iv a.Train], _, rfl, rfl, ⟨[iv a.On], _, rfl, rfl, rfl⟩⟩, trivial⟩ T) ?_ ?_
   rintro _ _ ⟨ak, rfl, D⟩
   obtain ⟨E, Y, rfl, _⟩ := D.form
   refine iR<|Da [0] (by kernel_rfl) rfl ?_
   refine Rd2 c rfl rfl (Stable.does (sL 3 rfl one130 rfl rfl)) ?_ ?_
   rintro _ _ ⟨rfl, rfl⟩
   refine iR ?_
   have Z : (E = none ↔ o ++ [a] = []) := (OS.nz D (by simp))
   refine d_frz [_, _, _, _, _, _, _, _, _, _, _, _] ak R rfl ?_
   intro bp e al
   have aF := OS.frz (l := o ++ [a]) D e.cells al
   refine d_pullb 3 rfl<|d_pullb 11 rfl<|d_pullb 11 rfl<|d_pullb 11 rfl<|d_pullb 11 rfl<|d_pullb 11 rfl<|d_pullb 11 rfl<|d_pullb 11 rfl<|Da [6] (by kernel_rfl) rfl ?_
   refine Rv (c.trans e) rfl rfl #[] #[pb U, pb g2, pb g3, pb V, pb W, pb g6, pb g7, pb g8] [.slice E (o ++ [a]).length Y] rfl call65 rfl (ih _ _ (o ++ [a]) H I J am ac ah aA aB aC ae U g2 g3 V W g6 g7 g8 E Y K L O S af ag ab ai aF Z (ax.le (d.trans (f.trans (g.trans (k.trans (p.trans (m.trans (h.trans (c.trans e))))))))) (ay.le (d.trans (f.trans (g.trans (k.trans (p.trans (m.trans (h.trans (c.trans e))))))))) (be.le (d.trans (f.trans (g.trans (k.trans (p.trans (m.trans (h.trans (c.trans e))))))))) (aY.le (h.trans (c.trans e))) aj an ao aq ar aE) ?_ ?_
   rintro _ bq _ A ⟨aG, aH, rfl, rfl, aI, aJ⟩
   refine iR<|Dd (by kernel_rfl)<|Xm<|Xp 6 rfl<|Xp 6 rfl<|Xp 6 rfl<|Xp 6 rfl<|Xp 6 rfl<|Xp 6 rfl<|Xp 6 rfl ?_
   refine Xp 11 rfl<|Xp 8 rfl ?_
   exact x_round 10 rfl (c.trans (e.trans A)) (.cons_cons _ (.cons_cons _ (.cons_cons _ (.cons_cons _ (.cons_cons _ (.cons_cons _ (.cons_cons _ (.cons_cons _ (.cons_cons _ (.cons _ (.cons _ (.refl _)))))))))))) ⟨(an, ao, aq, ar), (Option.some.inj hm).symm, ⟨aG, aH, rfl, (m.trans (h.trans (c.trans (e.trans A)))), aI, aJ⟩⟩
   exact Rn
   exact Rn
   exact Rn
   exact Rn
   refine Rd2 lr rfl rfl (u_bslice (el := 86) [(0, .agg #[iv a.Train, iv a.On, iv a.Off])] [iv a.Train, iv a.On, iv a.Off] rfl (fun _ => by kernel_rfl)) ?_ ?_
   rintro _ _ ⟨y, rfl, rfl⟩
   refine iR<|Da [0, 2] (by kernel_rfl) rfl ?_
   refine Rd2 lr rfl rfl (Stable.does (sL 3 rfl one130 rfl rfl)) ?_ ?_
   rintro _ _ ⟨rfl, rfl⟩
   refine iR<|Da [2] (by kernel_rfl) rfl ?_
   refine Rg lr rfl rfl _ call56 rfl (cSlicesClone _ _ F A9 G (aw.le (d.trans (f.trans (g.trans (k.trans (p.trans (m.trans h))))))) o X) ?_ ?_
   rintro _ aR _ c ⟨s, t, n, rfl, rfl, B⟩
   refine iR<|d_in1 [] [_, _, _, _, _, _, _, _, _, _, _, _] n R rfl ?_
   exact dG tl1043 ⟨n, s, t, y, rfl, rfl, B⟩ c
   exact Rn
   refine Rg lr rfl rfl _ call56 rfl (cSlicesClone _ _ F A9 G (aw.le (d.trans (f.trans (g.trans (k.trans (p.trans (m.trans h))))))) o X) ?_ ?_
   rintro _ aR _ c ⟨s, t, n, rfl, rfl, B⟩
   refine iR<|d_in1 [] [_, _, _, _, _, _, _, _, _, _, _, _] n R rfl ?_
   have T := room_some T
   refine Da [0, 5] (by kernel_rfl) rfl ?_
   refine Rd2 c rfl rfl (Stable.does (sL 3 rfl one130 rfl rfl)) ?_ ?_
   rintro _ _ ⟨rfl, rfl⟩
   refine iR ?_
   exact dG tl1043 ⟨n, s, t, y, rfl, rfl, B⟩ c
   refine Rd2 c rfl rfl (uQ (r := rGuideRide) (l := o) [_, _, _, _, _, _, _, _, _, _, _, _] R [[iv a.Train, iv a.On, iv a.Off]] [a] rfl (by decide) sl31 inf86 rfl rfl rfl rfl B rfl (fun w ho => Rd.own (i := 0) ho rfl) ⟨⟨[iv a.Train], _, rfl, rfl, ⟨[iv a.On], _, rfl, rfl, rfl⟩⟩, trivial⟩ T) ?_ ?_
   rintro _ _ ⟨ak, rfl, D⟩
   obtain ⟨E, Y, rfl, _⟩ := D.form
   refine iR<|Da [0] (by kernel_rfl) rfl ?_
   refine Rd2 c rfl rfl (Stable.does (sL 3 rfl one130 rfl rfl)) ?_ ?_
   rintro _ _ ⟨rfl, rfl⟩
   refine iR ?_
   have Z : (E = none ↔ o ++ [a] = []) := (OS.nz D (by simp))
   refine d_frz [_, _, _, _, _, _, _, _, _, _, _, _] ak R rfl ?_
   intro bp e al
   have aF := OS.frz (l := o ++ [a]) D e.cells al
   refine d_pullb 3 rfl<|d_pullb 11 rfl<|d_pullb 11 rfl<|d_pullb 11 rfl<|d_pullb 11 rfl<|d_pullb 11 rfl<|d_pullb 11 rfl<|d_pullb 11 rfl<|Da [6] (by kernel_rfl) rfl ?_
   refine Rv (c.trans e) rfl rfl #[] #[pb U, pb g2, pb g3, pb V, pb W, pb g6, pb g7, pb g8] [.slice E (o ++ [a]).length Y] rfl call65 rfl (ih _ _ (o ++ [a]) H I J am ac ah aA aB aC ae U g2 g3 V W g6 g7 g8 E Y K L O S af ag ab ai aF Z (ax.le (d.trans (f.trans (g.trans (k.trans (p.trans (m.trans (h.trans (c.trans e))))))))) (ay.le (d.trans (f.trans (g.trans (k.trans (p.trans (m.trans (h.trans (c.trans e))))))))) (be.le (d.trans (f.trans (g.trans (k.trans (p.trans (m.trans (h.trans (c.trans e))))))))) (aY.le (h.trans (c.trans e))) aj an ao aq ar aE) ?_ ?_
   rintro _ bq _ A ⟨aG, aH, rfl, rfl, aI, aJ⟩
   refine iR<|Dd (by kernel_rfl)<|Xm<|Xp 6 rfl<|Xp 6 rfl<|Xp 6 rfl<|Xp 6 rfl<|Xp 6 rfl<|Xp 6 rfl<|Xp 6 rfl ?_
   refine Xp 11 rfl<|Xp 8 rfl ?_
   exact x_round 10 rfl (c.trans (e.trans A)) (.cons_cons _ (.cons_cons _ (.cons_cons _ (.cons_cons _ (.cons_cons _ (.cons_cons _ (.cons_cons _ (.cons_cons _ (.cons_cons _ (.cons _ (.cons _ (.refl _)))))))))))) ⟨(an, ao, aq, ar), (Option.some.inj hm).symm, ⟨aG, aH, rfl, (m.trans (h.trans (c.trans (e.trans A)))), aI, aJ⟩⟩
   exact Rn
   exact Rn
   exact Rn
   exact Rn
   exact Rn
   rintro ⟨ah, aA, aB, aC⟩ bd _ ⟨ab, ai, rfl, m, aY, aj⟩ bz
   rw [bz] at bn
   have hm := elimL bn
   have hm := (unc4E hm)
   refine Xm ?_
   obtain ⟨rfl, rfl, rfl, rfl⟩ := some4 hm
   exact eZ ⟨ab, ai, rfl, rfl, aY, aj⟩ (d.trans (f.trans (g.trans (k.trans (p.trans m)))))
   exact Rn

set_option maxRecDepth 20000 in
theorem cGuideSurest (b : Base) (R : Hp) (hG : GOn GT b) (A : ApiDay) (x8 B S g t O Z c3 A5 c6 T U) (h4 : FZ rApiTrain b.w Z c3 A.Trains) (h7 : FZ (RT.list rI) b.w A5 c6 A.Turns) (au : FZ rGuideOdds b.w T U O) (C ae) (hm : mGuideSurest A x8 B S g t O = some (C, ae)):
    CallsG Tryd.prog 29 [.agg #[sv Z A.Trains c3, sv A5 A.Turns c6], iv x8, iv B, iv S, iv g, iv t, sv T O U] b (R) (fun v b' hp' => ∃ V af, .tuple #[.agg #[sv V C af], iv ae] = v ∧ R = hp' ∧ FZ rGuideRide b'.w V af C ∧ (V = none ↔ C = [])) := by
 refine fE 62 Tryd.func29 rfl Tryd.ntmps29 rfl ?_
 unfold mGuideSurest at hm
 refine Cr<|tD (uB _ rfl rfl) ?_
 rintro _ _ ⟨aH, rfl, rfl⟩
 refine tD (uB _ rfl rfl) ?_
 rintro _ _ ⟨D, rfl, rfl⟩
 refine tD (uB _ rfl rfl) ?_
 rintro _ _ ⟨E, rfl, rfl⟩
 refine tD (uB _ rfl rfl) ?_
 rintro _ _ ⟨F, rfl, rfl⟩
 refine tD (uA [sn] zero33 rfl) ?_
 rintro _ _ ⟨ag, rfl, rfl⟩
 refine aS rfl<|Te<|Cs<|Cr<|tS (sD (vs := [_, _]) 4 2 rfl agg25 rfl rfl rfl)<|mV rfl<|mV rfl<|tS (sL 3 rfl one3 rfl rfl)<|mV rfl<|tS (sL 2 rfl one3 rfl rfl) ?_
 refine tD (u_bslice (el := 3) [(0, iv B), (1, iv g)] [iv B, iv g] rfl (fun _ => by kernel_rfl)) ?_
 rintro _ _ ⟨n, rfl, rfl⟩
 refine t_seg 0 [_, _, _, _, _] R rfl rfl ?_
 have av : OS 3 (OT.fr rI) b.w (.slice (some ⟨n, 0, none⟩) 2 2) [B, g] [(n, Cl 3 [iv B, iv g])] := OS.lit [[iv B], [iv g]] rfl ⟨rfl, ⟨rfl, trivial⟩⟩ rfl (by decide)
 obtain ⟨ah, aa, hm⟩ := bS hm
 refine tD (uW _ call36 rfl (fun w ho => cGuideCheck_2 _ [] ((hG.le lr).old ho) A t x8 S [B, g] Z c3 A5 c6 (some ⟨n, 0, none⟩) 2 (h4.old ho) (h7.old ho) (OS.now (o := (OT.fr rI)) (l := [B, g]) (hs := [(n, Cl 3 [iv B, iv g])]) av ho (.cons _ (.cons _ (.cons _ (.cons _ (.cons _ (List.sublist_append_left _ _))))))) ah aa) (fun _ _ _ h => h.2.symm)) ?_
 rintro _ _ ⟨⟨_, rfl, _⟩, rfl⟩
 refine aS rfl<|Te<|Cr<|mV rfl<|tS (q2 rfl rfl)<|Te ?_
 refine cI hm rfl (fun hm => ?_) fun hm => ?_
 refine Cr<|tS (sB (v := .agg #[sn]) [] rfl (fun _ => by kernel_rfl))<|mV rfl<|tD (uN (vs := [_]) 0 1 rfl rfl rfl siz33 rfl (mc rfl mn) rfl (by simp)) ?_
 rintro _ _ rfl
 refine aS rfl<|Te<|Ct<|Xr ?_
 obtain ⟨rfl, rfl⟩ := some2 hm
 exact rM (rs := [.cell 14 33, .tmp 15]) (vs := [.agg #[sn], iv ah]) ⟨⟨_, rfl, fun w ho => cell_agg (vs := [_]) 0 1 agg33 rfl rfl rfl w ho⟩, ⟨rfl, trivial⟩⟩ ⟨none, 0, rfl, rfl, FZ.nil, ⟨fun _ => rfl, fun _ => rfl⟩⟩ (.cons _ (.cons _ (.cons _ (.cons _ (.cons _ (ss [(n, Cl 3 [iv B, iv g])] (.refl _))))))) lr
 refine Ck<|Xn<|Cs<|Cr<|tS (sD (vs := [_, _]) 4 2 rfl agg25 rfl rfl rfl)<|tS (sL 1 rfl one74 rfl rfl) ?_
 obtain ⟨ai, ab, hm⟩ := bS hm
 refine tD (uW _ call63 rfl (fun w ho => cGuideCheckOdds _ [] A O Z c3 A5 c6 T U (h4.old ho) (h7.old ho) (au.old ho) ai ab) (fun _ _ _ h => h.2.symm)) ?_
 rintro _ _ ⟨⟨_, rfl, _⟩, rfl⟩
 refine aS rfl<|Te<|Cr<|mV rfl<|tS (q2 rfl rfl)<|Te ?_
 refine cI hm rfl (fun hm => ?_) fun hm => ?_
 refine Cr<|tS (sB (v := .agg #[sn]) [] rfl (fun _ => by kernel_rfl))<|mV rfl<|tD (uN (vs := [_]) 0 1 rfl rfl rfl siz33 rfl (mc rfl mn) rfl (by simp)) ?_
 rintro _ _ rfl
 refine aS rfl<|Te<|Ct<|Xr ?_
 obtain ⟨rfl, rfl⟩ := some2 hm
 exact rM (rs := [.cell 14 33, .tmp 15]) (vs := [.agg #[sn], iv ai]) ⟨⟨_, rfl, fun w ho => cell_agg (vs := [_]) 0 1 agg33 rfl rfl rfl w ho⟩, ⟨rfl, trivial⟩⟩ ⟨none, 0, rfl, rfl, FZ.nil, ⟨fun _ => rfl, fun _ => rfl⟩⟩ (.cons _ (.cons _ (.cons _ (.cons _ (.cons _ (ss [(n, Cl 3 [iv B, iv g])] (.refl _))))))) lr
 refine Ck<|Xn<|Cr<|tS (sD (vs := [_, _]) 4 2 rfl agg25 rfl rfl rfl)<|mV rfl<|tS (sB (v := .agg #[sv Z A.Trains c3, sv A5 A.Turns c6, iv t]) [(0, .agg #[sv Z A.Trains c3, sv A5 A.Turns c6]), (1, iv t)] rfl (fun _ => by kernel_rfl))<|tD (uA [sn, sn, iv 0] zero91 rfl) ?_
 rintro _ _ ⟨u, rfl, rfl⟩
 refine tD (uN (vs := [_, _, _]) 0 3 rfl rfl rfl siz91 rfl (mc rfl (mc rfl (mc rfl mn))) rfl (by simp)) ?_
 rintro _ _ rfl
 refine Te<|Cr<|tD (uA [sn] zero31 rfl) ?_
 rintro _ _ ⟨q, rfl, rfl⟩
 refine Te<|Cr<|tD (uA [iv 0, iv 0, iv 0] zero128 rfl) ?_
 rintro _ _ ⟨y, rfl, rfl⟩
 refine Te<|Cr<|tS (st_func _ _ rfl rfl)<|tD (uA [.nilFunc] zero129 rfl) ?_
 rintro _ _ ⟨G, rfl, rfl⟩
 refine tD (uS 0 rfl rfl siz129 rfl rfl (by simp)) ?_
 rintro _ _ rfl
 refine Te<|Cr<|tD (uA [.nilFunc] zero130 rfl) ?_
 rintro _ _ ⟨z, rfl, rfl⟩
 refine Te<|Cr<|tS (st_func _ _ rfl rfl)<|tD (uS 0 rfl rfl siz130 rfl rfl (by simp)) ?_
 rintro _ _ rfl
 refine Te<|Cs<|Cr<|tS (sD (vs := [_, _, _]) 4 3 rfl agg91 rfl rfl rfl)<|mV rfl<|mV rfl ?_
 obtain ⟨aw, ac, hm⟩ := bS hm
 refine Tg _ rfl call54 rfl (cGuideNetRides _ _ (⟨A, t⟩ : GuideNet) x8 B (-1) Z c3 A5 c6 h4 h7 aw ac) ?_
 rintro _ ax _ e ⟨aI, rfl, rfl, ay⟩
 refine Te<|Cb ?_
 obtain ⟨aJ, an, W⟩ := bS hm
 refine Cp 1 rfl<|Cp 8 rfl<|Cp 3 rfl<|Cp 7 rfl<|Cp 8 rfl<|Cp 7 rfl<|Cp 6 rfl<|Cp 7 rfl<|Cp 8 rfl ?_
 refine c_rangeM (fun x : GuideRide => (.agg #[iv x.Train, iv x.On, iv x.Off] : Value)) (unc4 fun i H I J => fun K hp' => ∃ f j, (ag, Cl 33 [sn]) :: (q, Cl 31 [sv f i j]) :: (z, Cl 130 [.func (.func 65) #[] #[pb u, pb E, pb F, pb q, pb y, pb D, pb G, pb z]]) :: (u, Cl 91 [sv Z A.Trains c3, sv A5 A.Turns c6, iv t]) :: (E, Cl 3 [iv g]) :: (F, Cl 74 [sv T O U]) :: (y, Cl 128 [iv H, iv I, iv J]) :: (D, Cl 3 [iv S]) :: (G, Cl 129 [.func (.func 64) #[] #[pb q, pb y, pb u]]) :: R = hp' ∧ ax.Le K ∧ FZ rGuideRide K.w f j i ∧ (f = none ↔ i = [])) rfl ay an (e' := [(14, pb ag), (19, pb q), (22, pb z)]) ⟨rfl, rfl, rfl, trivial⟩ (.cons_cons _ (.cons_cons _ (.cons_cons _ (.cons_cons _ (.cons_cons _ (.cons_cons _ (.cons_cons _ (.cons_cons _ (.cons_cons _ (.cons _ (ss [(n, Cl 3 [iv B, iv g])] (.refl _)))))))))))) rfl (fun dk hdk => ⟨none, 0, rfl, Base.Le.dks hdk, FZ.nil, ⟨fun _ => rfl, fun _ => rfl⟩⟩) ?_ ?_ (fun x hx => e.dk x hx)
 rintro aK aL a ⟨i, H, I, J⟩ K az _ aG ⟨f, j, rfl, c, X, m⟩ k p ar
 unfold mGuideSurest_L162 at p
 have hm := (unc4E p)
 refine Cg<|tD (uA [iv 0, iv 0, iv 0] zero86 rfl) ?_
 rintro _ _ ⟨aM, rfl, rfl⟩
 refine tD (uN (vs := [_, _, _]) 0 3 rfl rfl rfl siz86 rfl (mc rfl (mc rfl (mc rfl mn))) rfl (by simp)) ?_
 rintro _ _ rfl
 refine Tn<|x_begin 1 rfl<|Cb<|Cg<|tS (sL 4 rfl one130 rfl rfl)<|tS (sD (vs := [_, _, _]) 1 3 rfl agg86 rfl rfl rfl)<|tD (u_bslice (el := 86) [(0, .agg #[iv a.Train, iv a.On, iv a.Off])] [iv a.Train, iv a.On, iv a.Off] rfl (fun _ => by kernel_rfl)) ?_
 rintro _ _ ⟨r, rfl, rfl⟩
 refine t_seg 0 [_, _, _, _, _, _, _, _, _, _, _] R rfl rfl ?_
 have aA : OS 86 (OT.fr rGuideRide) az.w (.slice (some ⟨r, 0, none⟩) 1 1) [a] [(r, Cl 86 [iv a.Train, iv a.On, iv a.Off])] := OS.lit [[iv a.Train, iv a.On, iv a.Off]] rfl ⟨⟨[iv a.Train], _, rfl, rfl, ⟨[iv a.On], _, rfl, rfl, rfl⟩⟩, trivial⟩ rfl (by decide)
 have ad : (((some ⟨r, 0, none⟩) : OA) = none ↔ [a] = []) := ⟨nofun, nofun⟩
 refine t_frz [_, _, _, _, _, _, _, _, _, _, _] [(r, Cl 86 [iv a.Train, iv a.On, iv a.Off])] R rfl ?_
 intro aN d ao
 have aB := OS.frz (l := [a]) aA d.cells ao
 obtain ⟨⟨aj, ak, al, am⟩, s, hm⟩ := bS hm
 obtain ⟨Y, s⟩ := lim_some s
 have hm := (unc4E hm)
 refine t_pullb 4 rfl<|t_pullb 10 rfl<|t_pullb 10 rfl<|t_pullb 10 rfl<|t_pullb 7 rfl<|t_pullb 10 rfl<|t_pullb 10 rfl<|t_pullb 10 rfl<|Tv #[] #[pb u, pb E, pb F, pb q, pb y, pb D, pb G, pb z] [.slice (some ⟨r, 0, none⟩) ([a]).length 1] rfl rfl call65 rfl (cGuideSurest_2 Y _ _ [a] A.Trains A.Turns t g O i H I J S u E F q y D G z (some ⟨r, 0, none⟩) 1 Z c3 A5 c6 T U f j aB ad (h4.le (e.trans (c.trans (k.trans d)))) (h7.le (e.trans (c.trans (k.trans d)))) (au.le (e.trans (c.trans (k.trans d)))) (X.le (k.trans d)) m aj ak al am s) ?_
 rintro _ aO _ L ⟨aC, aD, rfl, rfl, aE, aF⟩
 refine Tn<|Xm<|Xp 6 rfl<|Xp 6 rfl<|Xp 6 rfl<|Xp 5 rfl<|Xp 5 rfl<|Xp 5 rfl<|Xp 7 rfl<|Xp 7 rfl ?_
 refine Xp 10 rfl ?_
 exact x_round 9 rfl (d.trans L) (.cons_cons _ (.cons_cons _ (.cons_cons _ (.cons_cons _ (.cons_cons _ (.cons_cons _ (.cons_cons _ (.cons_cons _ (.cons_cons _ (.cons _ (.refl _))))))))))) ⟨(aj, ak, al, am), (Option.some.inj hm).symm, ⟨aC, aD, rfl, (c.trans (k.trans (d.trans L))), aE, aF⟩⟩
 rintro ⟨i, H, I, J⟩ K _ ⟨f, j, rfl, c, X, m⟩ aq
 rw [aq] at W
 have hm := elimL W
 have hm := (unc4E hm)
 refine Xm<|Xn<|Cs<|Cr<|tS (sL 1 rfl one31 rfl rfl)<|tS (st_eqnil_z rfl rfl m sl31)<|Te ?_
 refine cB hm rfl (fun hm => ?_) fun hm => ?_
 refine Cr<|tS (sB (v := .agg #[sn]) [] rfl (fun _ => by kernel_rfl))<|tD (uN (vs := [_]) 0 1 rfl rfl rfl siz33 rfl (mc rfl mn) rfl (by simp)) ?_
 rintro _ _ rfl
 refine aS rfl<|Te<|Ct<|Xr ?_
 obtain ⟨rfl, rfl⟩ := some2 hm
 exact rM (rs := [.cell 14 33, .tmp 15]) (vs := [.agg #[sn], iv 9]) ⟨⟨_, rfl, fun w ho => cell_agg (vs := [_]) 0 1 agg33 rfl rfl rfl w ho⟩, ⟨rfl, trivial⟩⟩ ⟨none, 0, rfl, rfl, FZ.nil, ⟨fun _ => rfl, fun _ => rfl⟩⟩ (.cons _ (.cons _ (.cons _ (.cons _ (.cons _ (.cons _ (.cons _ (.cons _ (.cons _ (.refl _)))))))))) (e.trans c)
 refine Ck<|Xn<|Cr<|tS (sL 1 rfl one31 rfl rfl)<|tS (sB (v := .agg #[sv f i j]) [(0, sv f i j)] rfl (fun _ => by kernel_rfl))<|tD (uN (vs := [_]) 0 1 rfl rfl rfl siz33 rfl (mc rfl mn) rfl (by simp)) ?_
 rintro _ _ rfl
 refine aS rfl<|Te<|Ct ?_
 obtain ⟨rfl, rfl⟩ := some2 hm
 exact rM (rs := [.cell 14 33, .tmp 15]) (vs := [.agg #[sv f i j], iv 0]) ⟨⟨_, rfl, fun w ho => cell_agg (vs := [_]) 0 1 agg33 rfl rfl rfl w ho⟩, ⟨rfl, trivial⟩⟩ ⟨f, j, rfl, rfl, X, m⟩ (.cons _ (.cons _ (.cons _ (.cons _ (.cons _ (.cons _ (.cons _ (.cons _ (.cons _ (.refl _)))))))))) (e.trans c)

set_option maxRecDepth 20000 in
theorem cGuideCheckOften (b : Base) (R : Hp) (hG : GOn GT b) (c : ApiDay) (q : GuideJourney) (a d e f g i r j k l) (s : FZ rApiTrain b.w e f c.Trains) (t : FZ (RT.list rI) b.w g i c.Turns) (u : FZ rGuideRide b.w r j q.Rides) (x : FZ rGuideOdds b.w k l d) (p) (hm : mGuideCheckOften c q a d = some p):
    CallsG Tryd.prog 68 [.agg #[sv e c.Trains f, sv g c.Turns i], .agg #[sv r q.Rides j], iv a, sv k d l] b (R) (fun v b' hp' => iv p = v ∧ R = hp') := by
 refine fE 28 Tryd.func68 rfl Tryd.ntmps68 rfl ?_
 unfold mGuideCheckOften at hm
 refine Cr<|tD (uB _ rfl rfl) ?_
 rintro _ _ ⟨B, rfl, rfl⟩
 refine tD (uB _ rfl rfl) ?_
 rintro _ _ ⟨C, rfl, rfl⟩
 refine aS rfl<|Te<|Cs<|Cr<|tS (sD (vs := [_, _]) 1 2 rfl agg25 rfl rfl rfl)<|mV rfl ?_
 obtain ⟨y, m, hm⟩ := bS hm
 refine tD (uW _ call49 rfl (fun w ho => cGuideCheckLeast _ [] ((hG.le lr).old ho) c a e f g i (s.old ho) (t.old ho) y m) (fun _ _ _ h => h.2.symm)) ?_
 rintro _ _ ⟨⟨_, rfl, _⟩, rfl⟩
 refine aS rfl<|Te<|Cr<|mV rfl<|tS (q2 rfl rfl)<|Te ?_
 refine cI hm rfl (fun hm => ?_) fun hm => ?_
 refine Cr<|mV rfl<|aS rfl<|Te<|Ct<|Xr ?_
 obtain rfl := o1 hm
 exact rO ⟨rfl, rfl⟩ lr
 refine Ck<|Xn<|Cs<|Cr<|tS (sD (vs := [_, _]) 1 2 rfl agg25 rfl rfl rfl)<|mV rfl<|tS (sB (v := .agg #[sv e c.Trains f, sv g c.Turns i, iv a]) [(0, .agg #[sv e c.Trains f, sv g c.Turns i]), (1, iv a)] rfl (fun _ => by kernel_rfl))<|tS (sD (vs := [_]) 0 1 rfl agg33 rfl rfl rfl) ?_
 obtain ⟨z, n, hm⟩ := bS hm
 refine tD (uW _ call59 rfl (fun w ho => cGuideNetJourney _ [] (⟨c, a⟩ : GuideNet) q false e f g i r j (s.old ho) (t.old ho) (u.old ho) z n) (fun _ _ _ h => h.2.symm)) ?_
 rintro _ _ ⟨⟨_, rfl, _⟩, rfl⟩
 refine aS rfl<|Te<|Cr<|mV rfl<|tS (q2 rfl rfl)<|Te ?_
 refine cI hm rfl (fun hm => ?_) fun hm => ?_
 refine Cr<|mV rfl<|aS rfl<|Te<|Ct<|Xr ?_
 obtain rfl := o1 hm
 exact rO ⟨rfl, rfl⟩ lr
 refine Ck<|Xn<|Cr<|tS (sD (vs := [_, _]) 1 2 rfl agg25 rfl rfl rfl)<|mV rfl ?_
 obtain ⟨A, o, hm⟩ := bS hm
 refine tD (uW _ call63 rfl (fun w ho => cGuideCheckOdds _ [] c d e f g i k l (s.old ho) (t.old ho) (x.old ho) A o) (fun _ _ _ h => h.2.symm)) ?_
 rintro _ _ ⟨⟨_, rfl, _⟩, rfl⟩
 refine aS rfl<|Te<|Ct ?_
 obtain rfl := o1 hm
 exact rO ⟨rfl, rfl⟩ lr

set_option maxRecDepth 20000 in
theorem cGuideLowest (b : Base) (R : Hp) (p q h i) (hm : mGuideLowest p q = some (h, i)):
    CallsG Tryd.prog 69 [iv p, iv q] b (R) (fun v b' hp' => .tuple #[iv h, iv i] = v ∧ R = hp') := by
 refine fE 22 Tryd.func69 rfl Tryd.ntmps69 rfl ?_
 unfold mGuideLowest at hm
 refine Cr<|aS rfl<|aS rfl<|Te<|Cr<|mV rfl<|mV rfl<|aS rfl<|aS rfl<|Te ?_
 obtain ⟨r, j, k⟩ := bS hm
 refine Cj (fun l e' hp' => [(0, iv p), (1, iv q), (6, iv r)] = e' ∧ R = hp' ∧ b.Le l) ?_ ?_
 have hm := j
 refine Cb<|lL (unc2 fun m n => fun o e' hp' => [(0, iv p), (1, iv q), (6, iv m), (7, iv n)] = e' ∧ R = hp' ∧ b.Le o) hm ⟨rfl, rfl, lr⟩ ?_
 rintro ⟨m, n⟩ o _ _ w ⟨rfl, rfl, c⟩ a d
 unfold mGuideLowest_L69 at a
 have hm := (unc2E a)
 refine Cs<|Cr<|mV rfl<|tS (q5 rfl rfl)<|Te ?_
 refine cI hm rfl (fun hm => ?_) fun hm => ?_
 refine Ck<|Xn<|Cb ?_
 obtain ⟨_, s, hm⟩ := bS hm
 refine Di mixed (.refl _)<|E0 0 rfl (sM rfl)<|E0 1 rfl (sM rfl)<|E0 2 rfl (sM rfl)<|E0 3 rfl (st_rem rfl rfl (ne0_some s))<|E0 4 rfl (sA rfl)<|E0 5 rfl (sA rfl)<|Eo<|Dd (by kernel_rfl)<|Xm ?_
 exact jM hm ⟨rfl, rfl, (c)⟩
 refine Ce<|Xe<|Xe<|Xo ?_
 have hm := congrArg some (d _ (Option.some.inj hm).symm)
 obtain rfl := o1 hm
 exact jJ ⟨rfl, rfl, c⟩
 rintro l _ _ ⟨rfl, rfl, e⟩
 have hm := k
 refine Cs ?_
 obtain ⟨_, t, hm⟩ := bS hm
 obtain ⟨_, f, hm⟩ := bS hm
 obtain ⟨_, u, hm⟩ := bS hm
 obtain ⟨_, g, hm⟩ := bS hm
 refine Di mixed (.refl _)<|E0 0 rfl (sM rfl)<|E0 1 rfl (sM rfl) ?_
 have f := (kS f).2
 refine E0 2 rfl (st_quo rfl rfl (ne0_some t) f)<|E0 3 rfl (sM rfl)<|E0 4 rfl (sM rfl) ?_
 have g := (kS g).2
 refine E0 5 rfl (st_quo rfl rfl (ne0_some u) g)<|E0 6 rfl (sA rfl)<|E0 7 rfl (sA rfl)<|Eo<|Dd (by kernel_rfl)<|Xn<|Ct ?_
 obtain ⟨rfl, rfl⟩ := some2 hm
 exact rT ⟨rfl, rfl⟩ e

set_option maxRecDepth 20000 in
theorem cGuideChance (b : Base) (R : Hp) (hG : GOn GT b) (c : ApiDay) (q : GuideJourney) (a d m n o p D e f g) (F : FZ rApiTrain b.w m n c.Trains) (G : FZ (RT.list rI) b.w o p c.Turns) (r : FZ rGuideRide b.w D e q.Rides) (s : FZ rGuideOdds b.w f g d) (t u x) (hm : mGuideChance c q a d = some (t, u, x)):
    CallsG Tryd.prog 30 [.agg #[sv m c.Trains n, sv o c.Turns p], .agg #[sv D q.Rides e], iv a, sv f d g] b (R) (fun v b' hp' => .tuple #[iv t, iv u, iv x] = v ∧ R = hp') := by
 refine fE 39 Tryd.func30 rfl Tryd.ntmps30 rfl ?_
 unfold mGuideChance at hm
 refine Cr<|tD (uB _ rfl rfl) ?_
 rintro _ _ ⟨H, rfl, rfl⟩
 refine tD (uB _ rfl rfl) ?_
 rintro _ _ ⟨I, rfl, rfl⟩
 refine aS rfl<|aS rfl<|aS rfl<|Te<|Cs<|Cr<|tS (sD (vs := [_, _]) 1 2 rfl agg25 rfl rfl rfl)<|tS (sD (vs := [_]) 0 1 rfl agg33 rfl rfl rfl)<|mV rfl<|mV rfl ?_
 obtain ⟨y, i, hm⟩ := bS hm
 refine tD (uW _ call68 rfl (fun w ho => cGuideCheckOften _ [] ((hG.le lr).old ho) c q a d m n o p D e f g (F.old ho) (G.old ho) (r.old ho) (s.old ho) y i) (fun _ _ _ h => h.2.symm)) ?_
 rintro _ _ ⟨⟨_, rfl, _⟩, rfl⟩
 refine aS rfl<|Te<|Cr<|mV rfl<|tS (q2 rfl rfl)<|Te ?_
 refine cI hm rfl (fun hm => ?_) fun hm => ?_
 refine Cr<|mV rfl<|aS rfl<|aS rfl<|aS rfl<|Te<|Ct<|Xr ?_
 obtain ⟨rfl, rfl, rfl⟩ := some3 hm
 exact rM (rs := [.tmp 8, .tmp 9, .tmp 10]) (vs := [iv 0, iv 0, iv y]) ⟨rfl, ⟨rfl, ⟨rfl, trivial⟩⟩⟩ ⟨rfl, rfl⟩ (.cons _ (.cons _ (.refl _))) lr
 refine Ck<|Xn<|Cr<|tS (sD (vs := [_, _]) 1 2 rfl agg25 rfl rfl rfl)<|mV rfl<|tS (sB (v := .agg #[sv m c.Trains n, sv o c.Turns p, iv a]) [(0, .agg #[sv m c.Trains n, sv o c.Turns p]), (1, iv a)] rfl (fun _ => by kernel_rfl))<|tS (sD (vs := [_]) 0 1 rfl agg33 rfl rfl rfl)<|mV rfl ?_
 obtain ⟨⟨z, A, E⟩, j, hm⟩ := bS hm
 have hm := (unc3E hm)
 refine Tg _ rfl call66 rfl (cGuideNetCount _ _ (⟨c, a⟩ : GuideNet) q d m n o p D e f g F G r s z A E j) ?_
 rintro _ J _ k ⟨rfl, rfl⟩
 refine tD (uA [iv 0, iv 0, iv 0] zero128 rfl) ?_
 rintro _ _ ⟨K, rfl, rfl⟩
 refine tD (uN (vs := [_, _, _]) 0 3 rfl rfl rfl siz128 rfl (mc rfl (mc rfl (mc rfl mn))) rfl (by simp)) ?_
 rintro _ _ rfl
 refine Te<|Cr<|tS (sF rfl fld128_0)<|tS (sL 0 rfl one3 rfl rfl)<|tS (sF rfl fld128_1)<|tS (sL 0 rfl one3 rfl rfl) ?_
 obtain ⟨⟨B, C⟩, l, hm⟩ := bS hm
 have hm := (unc2E hm)
 refine tD (uW _ call69 rfl (fun w ho => cGuideLowest _ [] z A B C l) (fun _ _ _ h => h.2.symm)) ?_
 rintro _ _ ⟨⟨_, rfl, _⟩, rfl⟩
 refine mV rfl<|tS (st_extract rfl rfl)<|tS (st_extract rfl rfl)<|aS rfl<|aS rfl<|Te<|Cr<|mV rfl<|mV rfl<|aS rfl ?_
 refine aS rfl<|aS rfl<|Te<|Ct ?_
 obtain ⟨rfl, rfl, rfl⟩ := some3 hm
 exact rM (rs := [.tmp 8, .tmp 9, .tmp 10]) (vs := [iv B, iv C, iv 0]) ⟨rfl, ⟨rfl, ⟨rfl, trivial⟩⟩⟩ ⟨rfl, rfl⟩ (.cons _ (.cons _ (.cons _ (.refl _)))) k

set_option maxRecDepth 20000 in
theorem cGuideAll_1 : ∀ (N : Nat) (b : Base) (R : Hp) (aB bO ao T U V aq bd bP y B q z p s aE aF) (bQ : Value) (W X Y Z A3 c4 be g8 bf) (bR : FZ rGuideRide b.w aE aF aB) (cb : IterV Tryd.prog b bQ (bO.map (fun x : GuideRide => (.agg #[iv x.Train, iv x.On, iv x.Off] : Value)))) (aX : FZ rApiTrain b.w W X T) (aY : FZ (RT.list rI) b.w Y Z U) (h5 : OS 33 (OT.fr rGuideJourney) b.w (sv A3 bd c4) bd be) (bg : (A3 = none ↔ bd = [])) (h9 : OM (RT.arr 3 rI) (OT.fr RT.bool) true false b.w g8 bP bf) (aZ ag a0) (hm : mGuideAll_1 N aB bO ao T U V aq bd bP = some (aZ, ag, a0)),
    CallsG Tryd.prog 70 [sv aE aB aF, bQ, pb y, pb B, pb q, pb z, pb p, pb s] b ((y, Cl 54 [sv A3 bd c4]) :: (B, Cl 3 [iv ao]) :: (q, Cl 91 [sv W T X, sv Y U Z, iv V]) :: (z, Cl 3 [iv aq]) :: (p, Cl 136 [.map (some g8)]) :: (s, Cl 137 [.func (.func 70) #[] #[pb y, pb B, pb q, pb z, pb p, pb s]]) :: (be ++ (bf ++ R))) (fun v b' hp' => ∃ bh bz bu bw, bv aZ = v ∧ (y, Cl 54 [sv bh ag bz]) :: (B, Cl 3 [iv ao]) :: (q, Cl 91 [sv W T X, sv Y U Z, iv V]) :: (z, Cl 3 [iv aq]) :: (p, Cl 136 [.map (some g8)]) :: (s, Cl 137 [.func (.func 70) #[] #[pb y, pb B, pb q, pb z, pb p, pb s]]) :: (bu ++ (bw ++ R)) = hp' ∧ OS 33 (OT.fr rGuideJourney) b'.w (sv bh ag bz) ag bu ∧ (bh = none ↔ ag = []) ∧ OM (RT.arr 3 rI) (OT.fr RT.bool) true false b'.w g8 a0 bw) := by
  intro N
  induction N with
  | zero =>
    intro b R aB bO ao T U V aq bd bP y B q z p s aE aF bQ W X Y Z A3 c4 be g8 bf bR cb aX aY h5 bg h9 aZ ag a0 hm
    unfold mGuideAll_1 at hm
    cases hm
  | succ N ih =>
   intro b R aB bO ao T U V aq bd bP y B q z p s aE aF bQ W X Y Z A3 c4 be g8 bf bR cb aX aY h5 bg h9 aZ ag a0 hm
   refine fE 61 Tryd.func70 rfl Tryd.ntmps70 rfl ?_
   unfold mGuideAll_1 at hm
   refine Cr<|tD (uB _ rfl rfl) ?_
   rintro _ _ ⟨ar, rfl, rfl⟩
   refine tD (uA [.bool false] zero4 rfl) ?_
   rintro _ _ ⟨au, rfl, rfl⟩
   refine Te<|Cr<|tD (uA [.bool false] zero4 rfl) ?_
   rintro _ _ ⟨H, rfl, rfl⟩
   refine tD (uS 0 rfl rfl siz4 rfl rfl (by simp)) ?_
   rintro _ _ rfl
   refine Te<|Cs<|Cr<|mV rfl<|Te<|Cb ?_
   obtain ⟨cr, bT, aC⟩ := bS hm
   refine Cp 1 rfl<|Cp 2 rfl<|Cp 8 rfl<|Cp 8 rfl<|Cp 8 rfl<|Cp 8 rfl<|Cp 8 rfl<|Cp 8 rfl<|c_front2 [_, _, _, _, _, _, _, _, _] be bf R rfl<|c_front2 [_, _, _, _, _, _, _, _, _] bf be R rfl ?_
   refine c_rangeM (fun x : GuideRide => (.agg #[iv x.Train, iv x.On, iv x.Off] : Value)) (unc3 fun aG aa ah => fun aH hp' => ∃ K ab n c, (y, Cl 54 [sv K aa ab]) :: (B, Cl 3 [iv ao]) :: (q, Cl 91 [sv W T X, sv Y U Z, iv V]) :: (z, Cl 3 [iv aq]) :: (p, Cl 136 [.map (some g8)]) :: (s, Cl 137 [.func (.func 70) #[] #[pb y, pb B, pb q, pb z, pb p, pb s]]) :: (ar, Cl 31 [sv aE aB aF]) :: (au, Cl 4 [bv false]) :: (H, Cl 4 [bv aG]) :: (n ++ (c ++ R)) = hp' ∧ b.Le aH ∧ OS 33 (OT.fr rGuideJourney) aH.w (sv K aa ab) aa n ∧ (K = none ↔ aa = []) ∧ OM (RT.arr 3 rI) (OT.fr RT.bool) true false aH.w g8 ah c) rfl cb bT (e' := [(2, pb y), (3, pb B), (4, pb q), (5, pb z), (6, pb p), (7, pb s), (8, pb ar), (10, pb au), (11, pb H)]) ⟨rfl, rfl, rfl, rfl, rfl, rfl, rfl, rfl, rfl, trivial⟩ (.refl _) rfl (fun dk hdk => ⟨A3, c4, be, bf, rfl, Base.Le.dks hdk, h5, bg, h9⟩) ?_ ?_ (fun x hx => lr.dk x hx)
   rintro a1 a2 a ⟨aG, aa, ah⟩ aH cc _ cq ⟨K, ab, n, c, rfl, j, aI, aj, ac⟩ d aA bi
   unfold mGuideAll_1_L2200 at aA
   have hm := (unc3E aA)
   refine Cg<|tD (uA [iv 0, iv 0, iv 0] zero86 rfl) ?_
   rintro _ _ ⟨av, rfl, rfl⟩
   refine tD (uN (vs := [_, _, _]) 0 3 rfl rfl rfl siz86 rfl (mc rfl (mc rfl (mc rfl mn))) rfl (by simp)) ?_
   rintro _ _ rfl
   refine Tn<|x_begin 1 rfl<|Cb<|Cs<|Cr<|tS (sL 2 rfl one54 rfl rfl)<|tS (sE rfl sl54)<|tS (sL 3 rfl one3 rfl rfl)<|tS (q1 rfl rfl)<|Te ?_
   refine cI hm rfl (fun hm => ?_) fun hm => ?_
   refine Cr<|tD (uS 9 rfl rfl siz4 rfl rfl (by simp)) ?_
   rintro _ _ rfl
   refine Te<|Ct<|Xr<|Xb<|x_leaveR 0 rfl lr<|Ct<|Xb<|Xr ?_
   have bU := bi _ (Option.some.inj hm).symm
   rw [bU] at aC
   have hm := elimR aC
   obtain ⟨rfl, rfl, rfl⟩ := some3 hm
   refine Xp 6 rfl<|Xp 6 rfl<|Xp 6 rfl<|Xp 6 rfl<|Xp 6 rfl<|Xp 6 rfl<|X2 [_, _, _, _, _, _, _, _, _, _] n c R rfl<|X2 [_, _, _, _, _, _, _, _, _, _] c n R rfl ?_
   have bV := (aI.le d)
   have bW := (ac.le d)
   exact rM (rs := [.cell 10 4]) (vs := [bv true]) ⟨⟨_, rfl, fun w ho => cell_one 8 one4 rfl rfl w ho⟩, trivial⟩ ⟨K, ab, n, c, rfl, rfl, bV, aj, bW⟩ (.cons_cons _ (.cons_cons _ (.cons_cons _ (.cons_cons _ (.cons_cons _ (.cons_cons _ (.cons _ (.cons _ (.cons _ (.cons _ (.refl _))))))))))) (j.trans d)
   refine Ck<|Xn ?_
   obtain ⟨A, bX, bY⟩ := bS hm
   refine Cj (fun a3 e' hp' => ∃ C I ak, [(2, pb y), (4, pb q), (5, pb z), (6, pb p), (7, pb s), (11, pb H), (12, pb av), (13, sv C A I)] = e' ∧ (y, Cl 54 [sv K aa ab]) :: (q, Cl 91 [sv W T X, sv Y U Z, iv V]) :: (z, Cl 3 [iv aq]) :: (p, Cl 136 [.map (some g8)]) :: (s, Cl 137 [.func (.func 70) #[] #[pb y, pb B, pb q, pb z, pb p, pb s]]) :: (H, Cl 4 [bv aG]) :: (av, Cl 86 [iv a.Train, iv a.On, iv a.Off]) :: (B, Cl 3 [iv ao]) :: (ar, Cl 31 [sv aE aB aF]) :: (au, Cl 4 [bv false]) :: (a2, Lb a1) :: (ak ++ (n ++ (c ++ R))) = hp' ∧ cc.Le a3 ∧ OS 86 (OT.fr rGuideRide) a3.w (sv C A I) A ak ∧ (C = none ↔ A = [])) ?_ ?_
   have hm := bX
   obtain ⟨a4, ba, hm⟩ := bS hm
   obtain ⟨_, aw, hm⟩ := bS hm
   refine Di mixed (.refl _)<|Es 0 rfl (sL 8 rfl one31 rfl rfl)<|Es 2 rfl (sD (vs := [_, _, _]) 1 3 rfl agg86 rfl rfl rfl)<|Eo<|Da [1, 3] (by kernel_rfl) rfl ?_
   refine Rg lr rfl rfl _ call56 rfl (cSlicesClone _ _ aB aE aF (bR.le (j.trans d)) a4 ba) ?_ ?_
   rintro _ cd _ u ⟨ce, cf, a5, rfl, rfl, bj⟩
   refine iR<|d_in1 [] [_, _, _, _, _, _, _, _, _, _, _] a5 (n ++ (c ++ R)) rfl<|Da [3] (by kernel_rfl) rfl ?_
   refine Rd2 u rfl rfl (u_bslice (el := 86) [(0, .agg #[iv a.Train, iv a.On, iv a.Off])] [iv a.Train, iv a.On, iv a.Off] rfl (fun _ => by kernel_rfl)) ?_ ?_
   rintro _ _ ⟨cg, rfl, rfl⟩
   refine iR ?_
   have aw := room_some aw
   refine Da [4] (by kernel_rfl) rfl ?_
   refine Rd2 u rfl rfl (uQ (r := rGuideRide) (l := a4) [_, _, _, _, _, _, _, _, _, _, _, _] (n ++ (c ++ R)) [[iv a.Train, iv a.On, iv a.Off]] [a] rfl (by decide) sl31 inf86 rfl rfl rfl rfl bj rfl (fun w ho => Rd.own (i := 0) ho rfl) ⟨⟨[iv a.Train], _, rfl, rfl, ⟨[iv a.On], _, rfl, rfl, rfl⟩⟩, trivial⟩ aw) ?_ ?_
   rintro _ _ ⟨al, rfl, ai⟩
   obtain ⟨bk, bl, rfl, _⟩ := ai.form
   refine iR<|Ei u (.cons _ (.cons_cons _ (.cons_cons _ (.cons_cons _ (.cons_cons _ (.cons_cons _ (.cons_cons _ (.cons_cons _ (.cons_cons _ (.cons_cons _ (.cons_cons _ (.cons_cons _ (ss al (.refl _))))))))))))))<|E0 5 rfl (sA rfl)<|Eo<|Dd (by kernel_rfl) ?_
   obtain rfl := o1 hm
   exact jJ ⟨bk, bl, al, rfl, rfl, u, ai, (OS.nz ai (by simp))⟩
   exact Rn
   exact Rn
   refine Rd2 lr rfl rfl (u_bslice (el := 86) [(0, .agg #[iv a.Train, iv a.On, iv a.Off])] [iv a.Train, iv a.On, iv a.Off] rfl (fun _ => by kernel_rfl)) ?_ ?_
   rintro _ _ ⟨cg, rfl, rfl⟩
   refine iR<|Da [1] (by kernel_rfl) rfl ?_
   refine Rg lr rfl rfl _ call56 rfl (cSlicesClone _ _ aB aE aF (bR.le (j.trans d)) a4 ba) ?_ ?_
   rintro _ cd _ u ⟨ce, cf, a5, rfl, rfl, bj⟩
   refine iR<|d_in1 [] [_, _, _, _, _, _, _, _, _, _, _, _] a5 (n ++ (c ++ R)) rfl ?_
   have aw := room_some aw
   refine Da [4] (by kernel_rfl) rfl ?_
   refine Rd2 u rfl rfl (uQ (r := rGuideRide) (l := a4) [_, _, _, _, _, _, _, _, _, _, _, _] (n ++ (c ++ R)) [[iv a.Train, iv a.On, iv a.Off]] [a] rfl (by decide) sl31 inf86 rfl rfl rfl rfl bj rfl (fun w ho => Rd.own (i := 0) ho rfl) ⟨⟨[iv a.Train], _, rfl, rfl, ⟨[iv a.On], _, rfl, rfl, rfl⟩⟩, trivial⟩ aw) ?_ ?_
   rintro _ _ ⟨al, rfl, ai⟩
   obtain ⟨bk, bl, rfl, _⟩ := ai.form
   refine iR<|Ei u (.cons _ (.cons_cons _ (.cons_cons _ (.cons_cons _ (.cons_cons _ (.cons_cons _ (.cons_cons _ (.cons_cons _ (.cons_cons _ (.cons_cons _ (.cons_cons _ (.cons_cons _ (ss al (.refl _))))))))))))))<|E0 5 rfl (sA rfl)<|Eo<|Dd (by kernel_rfl) ?_
   obtain rfl := o1 hm
   exact jJ ⟨bk, bl, al, rfl, rfl, u, ai, (OS.nz ai (by simp))⟩
   exact Rn
   exact Rn
   exact Rn
   rintro a3 _ _ ⟨C, I, ak, rfl, rfl, f, bA, bb⟩
   have hm := bY
   obtain ⟨⟨o, aJ, L⟩, bZ, b0⟩ := bS hm
   refine Cj (fun aK e' hp' => ∃ D J O ad m, [(4, pb q), (6, pb p), (7, pb s), (11, pb H), (12, pb av), (13, sv D o J)] = e' ∧ (q, Cl 91 [sv W T X, sv Y U Z, iv V]) :: (p, Cl 136 [.map (some g8)]) :: (s, Cl 137 [.func (.func 70) #[] #[pb y, pb B, pb q, pb z, pb p, pb s]]) :: (H, Cl 4 [bv aJ]) :: (av, Cl 86 [iv a.Train, iv a.On, iv a.Off]) :: (y, Cl 54 [sv O L ad]) :: (B, Cl 3 [iv ao]) :: (z, Cl 3 [iv aq]) :: (ar, Cl 31 [sv aE aB aF]) :: (au, Cl 4 [bv false]) :: (a2, Lb a1) :: (m ++ (c ++ R)) = hp' ∧ a3.Le aK ∧ FZ rGuideRide aK.w D J o ∧ (D = none ↔ o = []) ∧ OS 33 (OT.fr rGuideJourney) aK.w (sv O L ad) L m ∧ (O = none ↔ L = [])) ?_ ?_
   have hm := bZ
   refine Cs ?_
   obtain ⟨⟨bB, bC, bD, bE⟩, bG, hm⟩ := bS hm
   have hm := (unc4E hm)
   refine Di mixed (.refl _)<|Es 0 rfl (sD (vs := [_, _, _]) 1 3 rfl agg91 rfl rfl rfl)<|Es 1 rfl (sD (vs := [_, _, _]) 6 3 rfl agg86 rfl rfl rfl)<|Es 4 rfl (sL 2 rfl one3 rfl rfl)<|Eo<|Da [2] (by kernel_rfl) rfl ?_
   refine Rg lr rfl rfl _ call61 rfl (cGuideNetOff _ _ (⟨(⟨T, U⟩ : ApiDay), V⟩ : GuideNet) a W X Y Z (aX.le (j.trans (d.trans f))) (aY.le (j.trans (d.trans f))) bB bC bD bE bG) ?_ ?_
   rintro _ ct _ E ⟨rfl, rfl⟩
   refine iR<|Ei E (.refl _)<|E0 3 rfl (st_vfield1 (cs := [iv bB, iv bC, iv bD, iv bE]) rfl fdv83_0 one3 rfl)<|E0 5 rfl (q1 rfl rfl)<|Eo<|Dd (by kernel_rfl)<|Xn ?_
   refine cI hm rfl (fun hm => ?_) fun hm => ?_
   refine Cr<|tS (sL 0 rfl one54 rfl rfl)<|mV rfl<|tS (sB (v := .agg #[sv C A I]) [(0, sv C A I)] rfl (fun _ => by kernel_rfl))<|t_frz [_, _, _, _, _, _, _, _, _, _, _] ak (n ++ (c ++ R)) rfl ?_
   intro cu aL b1
   have bH := OS.frz (l := A) (bA.le E) aL.cells b1
   refine tD (u_bslice (el := 33) [(0, .agg #[sv C A I])] [sv C A I] rfl (fun _ => by kernel_rfl)) ?_
   rintro _ _ ⟨cv, rfl, rfl⟩
   obtain ⟨_, bm, hm⟩ := bS hm
   have bm := room_some bm
   refine tD (uQ (r := rGuideJourney) (l := aa) [_, _, _, _, _, _, _, _, _, _, _, _] (c ++ R) [[sv C A I]] [(⟨A⟩ : GuideJourney)] rfl (by decide) sl54 inf33 rfl rfl rfl rfl (aI.le (d.trans (f.trans (E.trans aL)))) rfl (fun w ho => Rd.own (i := 0) ho rfl) ⟨(RT.list_mk bH), trivial⟩ bm) ?_
   rintro _ _ ⟨b2, rfl, bn⟩
   obtain ⟨ch, ci, rfl, _⟩ := bn.form
   refine tD (uS 1 rfl rfl siz54 rfl rfl (by simp)) ?_
   rintro _ _ rfl
   refine Te<|Cg<|tD (uS 6 rfl rfl siz4 rfl rfl (by simp)) ?_
   rintro _ _ rfl
   refine Tn ?_
   obtain ⟨rfl, rfl, rfl⟩ := some3 hm
   exact jJ ⟨C, I, ch, ci, b2, rfl, rfl, (E.trans aL), bH, bb, bn, (OS.nz bn (by simp))⟩
   refine Ck<|x_frz [_, _, _, _, _, _, _, _, _, _, _] ak (n ++ (c ++ R)) rfl ?_
   intro cw aM b3
   have cj := OS.frz (l := A) (bA.le E) aM.cells b3
   obtain ⟨rfl, rfl, rfl⟩ := some3 hm
   exact jJ ⟨C, I, K, ab, n, rfl, rfl, (E.trans aM), cj, bb, (aI.le (d.trans (f.trans (E.trans aM)))), aj⟩
   exact Rn
   rintro aK _ _ ⟨D, J, O, ad, m, rfl, rfl, h, bo, cp, a6, am⟩
   have hm := (unc3E b0)
   refine Cr<|tS (sF rfl fld86_0)<|tS (sL 4 rfl one3 rfl rfl)<|tS (sF rfl fld86_2)<|tS (sL 4 rfl one3 rfl rfl)<|mV rfl<|tS (sE rfl sl31)<|tS (sB (v := .agg #[iv a.Train, iv a.Off, iv ((o.length : Int))]) [(0, iv a.Train), (1, iv a.Off), (2, iv ((o.length : Int)))] rfl (fun _ => by kernel_rfl))<|tD (uA [iv 0, iv 0, iv 0] zero138 rfl) ?_
   rintro _ _ ⟨a7, rfl, rfl⟩
   refine tD (uN (vs := [_, _, _]) 0 3 rfl rfl rfl siz138 rfl (mc rfl (mc rfl (mc rfl mn))) rfl (by simp)) ?_
   rintro _ _ rfl
   refine Te<|Cs ?_
   obtain ⟨ck, b4, b5⟩ := bS hm
   refine Cj (fun bp e' hp' => [(4, pb q), (6, pb p), (7, pb s), (11, pb H), (12, pb av), (13, sv D o J), (14, pb a7), (51, bv ck)] = e' ∧ (q, Cl 91 [sv W T X, sv Y U Z, iv V]) :: (p, Cl 136 [.map (some g8)]) :: (s, Cl 137 [.func (.func 70) #[] #[pb y, pb B, pb q, pb z, pb p, pb s]]) :: (H, Cl 4 [bv aJ]) :: (av, Cl 86 [iv a.Train, iv a.On, iv a.Off]) :: (a7, Cl 138 [iv a.Train, iv a.Off, iv ((o.length : Int))]) :: (y, Cl 54 [sv O L ad]) :: (B, Cl 3 [iv ao]) :: (z, Cl 3 [iv aq]) :: (ar, Cl 31 [sv aE aB aF]) :: (au, Cl 4 [bv false]) :: (a2, Lb a1) :: (m ++ (c ++ R)) = hp' ∧ aK.Le bp) ?_ ?_
   have hm := b4
   refine Cg<|mV rfl<|tS (sE rfl sl31) ?_
   refine Tb rfl (q1 rfl rfl) (fun a8 => ?_) (fun a8 => ?_)
   rw [if_pos a8] at hm
   refine mV rfl<|nO<|nO<|nO<|tS (pT rfl rfl)<|Tn ?_
   obtain rfl := o1 hm
   exact jJ ⟨rfl, rfl, lr⟩
   rw [if_neg a8] at hm
   refine mV rfl<|yS<|tS (sL 2 rfl one136 rfl rfl)<|yS<|tS (sD (vs := [_, _, _]) 0 3 rfl agg138 rfl rfl rfl)<|yS ?_
   obtain ⟨bI, cl, hm⟩ := bS hm
   have b6 := Option.some.inj cl
   obtain ⟨bJ, aD, b7⟩ := OM.lookF kok138 (z0 := false) (ac.le (d.trans (f.trans h))) (key := .agg #[iv a.Train, iv a.Off, iv ((o.length : Int))]) (k := [a.Train, a.Off, (o.length : Int)]) ⟨[iv a.Train, iv a.Off, iv ((o.length : Int))], rfl, ⟨rfl, [[iv a.Train], [iv a.Off], [iv ((o.length : Int))]], rfl, ⟨rfl, ⟨rfl, ⟨rfl, trivial⟩⟩⟩⟩⟩ mapt136 zero4 rfl
   rw [b6] at aD
   obtain rfl : bJ = bv bI := by have aD : [bJ] = [bv bI] := aD; injection aD
   refine tS (st_mlook (ok := false) rfl rfl (fun w ho => b7 _ w ho (.cons _ (.cons _ (.cons _ (.cons _ (.cons _ (.cons _ (.cons _ (.cons _ (.cons _ (.cons _ (.cons _ (.cons _ (ss m (List.sublist_append_left _ _)))))))))))))) false))<|tS (pF rfl rfl)<|Tn ?_
   obtain rfl := o1 hm
   exact jJ ⟨rfl, rfl, lr⟩
   rintro bp _ _ ⟨rfl, rfl, e⟩
   have hm := b5
   refine cB hm rfl (fun hm => ?_) fun hm => ?_
   refine Ce<|Xe<|Xo<|Xp 3 rfl<|Xp 10 rfl<|Xp 10 rfl<|Xp 5 rfl<|Xp 5 rfl<|Xp 10 rfl<|Xp 6 rfl ?_
   refine Xp 10 rfl<|Xp 10 rfl<|X2 [_, _, _, _, _, _, _, _, _, _, _, _] m c R rfl<|X2 [_, _, _, _, _, _, _, _, _, _, _, _] c m R rfl ?_
   exact x_round 11 rfl (f.trans (h.trans e)) (.cons_cons _ (.cons_cons _ (.cons_cons _ (.cons_cons _ (.cons_cons _ (.cons_cons _ (.cons_cons _ (.cons_cons _ (.cons_cons _ (.cons _ (.cons _ (.refl _)))))))))))) ⟨(aJ, L, ah), (Option.some.inj hm).symm, ⟨O, ad, m, c, rfl, (j.trans (d.trans (f.trans (h.trans e)))), (a6.le e), am, (ac.le (d.trans (f.trans (h.trans e))))⟩⟩
   refine Ck<|Xn ?_
   obtain ⟨⟨cm, ax, bq⟩, b8, b9⟩ := bS hm
   refine Cj (fun a9 e' hp' => ∃ ay aN t S, [(6, pb p), (11, pb H), (14, pb a7), (57, bv cm)] = e' ∧ (p, Cl 136 [.map (some g8)]) :: (H, Cl 4 [bv aJ]) :: (a7, Cl 138 [iv a.Train, iv a.Off, iv ((o.length : Int))]) :: (y, Cl 54 [sv ay ax aN]) :: (B, Cl 3 [iv ao]) :: (q, Cl 91 [sv W T X, sv Y U Z, iv V]) :: (z, Cl 3 [iv aq]) :: (s, Cl 137 [.func (.func 70) #[] #[pb y, pb B, pb q, pb z, pb p, pb s]]) :: (ar, Cl 31 [sv aE aB aF]) :: (au, Cl 4 [bv false]) :: (a2, Lb a1) :: (t ++ (S ++ R)) = hp' ∧ bp.Le a9 ∧ OS 33 (OT.fr rGuideJourney) a9.w (sv ay ax aN) ax t ∧ (ay = none ↔ ax = []) ∧ OM (RT.arr 3 rI) (OT.fr RT.bool) true false a9.w g8 bq S) ?_ ?_
   have hm := b8
   obtain ⟨az, aO, hm⟩ := bS hm
   obtain ⟨⟨br, bs, bt⟩, aP, hm⟩ := bS hm
   have hm := (unc3E hm)
   refine Di mixed (.cons _ (.cons _ (.cons _ (.cons_cons _ (.cons_cons _ (.cons_cons _ (.cons _ (.cons _ (.cons _ (.cons_cons _ (.cons_cons _ (.cons_cons _ (ss m (ss c (.refl _)))))))))))))))<|E0 1 rfl (sM rfl)<|Es 3 rfl (sD (vs := [_, _, _]) 1 3 rfl agg86 rfl rfl rfl)<|Eo<|Da [0, 2] (by kernel_rfl) rfl ?_
   refine Rd2 lr rfl rfl (Stable.does (sL 2 rfl one137 rfl rfl)) ?_ ?_
   rintro _ _ ⟨rfl, rfl⟩
   refine iR<|Da [2] (by kernel_rfl) rfl ?_
   refine Rd2 lr rfl rfl (Stable.does (sD (vs := [_, _, _]) 0 3 rfl agg91 rfl rfl rfl)) ?_ ?_
   rintro _ _ ⟨rfl, rfl⟩
   refine iR<|Da [4] (by kernel_rfl) rfl ?_
   refine Rg lr rfl rfl _ call67 rfl (cGuideNetBehind _ _ (⟨(⟨T, U⟩ : ApiDay), V⟩ : GuideNet) a W X Y Z (aX.le (j.trans (d.trans (f.trans (h.trans e))))) (aY.le (j.trans (d.trans (f.trans (h.trans e))))) az aO) ?_ ?_
   rintro _ bK _ g ⟨ae, rfl, rfl, aQ⟩
   refine iR<|d_pullb 2 rfl<|d_pullb 2 rfl<|d_pullb 8 rfl<|d_pullb 3 rfl<|d_pullb 8 rfl<|d_pullb 8 rfl<|d2 [_, _, _, _, _, _, _, _, _, _, _, _] m c R rfl<|d2 [_, _, _, _, _, _, _, _, _, _, _, _] c m R rfl<|d_out2 [_, _, _, _, _, _] [_, _, _, _, _, _] m c R rfl ?_
   refine Da [5] (by kernel_rfl) rfl ?_
   refine Rv g rfl rfl #[] #[pb y, pb B, pb q, pb z, pb p, pb s] [sv D o J, ae] rfl call70 rfl (ih _ _ o az ao T U V aq L ah y B q z p s D J ae W X Y Z O ad m g8 c (bo.le (e.trans g)) aQ (aX.le (j.trans (d.trans (f.trans (h.trans (e.trans g)))))) (aY.le (j.trans (d.trans (f.trans (h.trans (e.trans g)))))) (a6.le (e.trans g)) am (ac.le (d.trans (f.trans (h.trans (e.trans g))))) br bs bt aP) ?_ ?_
   rintro _ bL _ af ⟨aR, aT, F, G, rfl, rfl, aU, aV, aW⟩
   refine iR<|d_in2 [_, _, _, _, _, _] [_, _, _, _, _, _] F G R rfl<|Dd (by kernel_rfl) ?_
   obtain ⟨rfl, rfl, rfl⟩ := some3 hm
   exact jJ ⟨aR, aT, F, G, rfl, rfl, (g.trans af), aU, aV, aW⟩
   exact Rn
   exact Rn
   exact Rn
   refine Rd2 lr rfl rfl (Stable.does (sD (vs := [_, _, _]) 0 3 rfl agg91 rfl rfl rfl)) ?_ ?_
   rintro _ _ ⟨rfl, rfl⟩
   refine iR<|Da [0, 4] (by kernel_rfl) rfl ?_
   refine Rd2 lr rfl rfl (Stable.does (sL 2 rfl one137 rfl rfl)) ?_ ?_
   rintro _ _ ⟨rfl, rfl⟩
   refine iR<|Da [4] (by kernel_rfl) rfl ?_
   refine Rg lr rfl rfl _ call67 rfl (cGuideNetBehind _ _ (⟨(⟨T, U⟩ : ApiDay), V⟩ : GuideNet) a W X Y Z (aX.le (j.trans (d.trans (f.trans (h.trans e))))) (aY.le (j.trans (d.trans (f.trans (h.trans e))))) az aO) ?_ ?_
   rintro _ bK _ g ⟨ae, rfl, rfl, aQ⟩
   refine iR<|d_pullb 2 rfl<|d_pullb 2 rfl<|d_pullb 8 rfl<|d_pullb 3 rfl<|d_pullb 8 rfl<|d_pullb 8 rfl<|d2 [_, _, _, _, _, _, _, _, _, _, _, _] m c R rfl<|d2 [_, _, _, _, _, _, _, _, _, _, _, _] c m R rfl<|d_out2 [_, _, _, _, _, _] [_, _, _, _, _, _] m c R rfl ?_
   refine Da [5] (by kernel_rfl) rfl ?_
   refine Rv g rfl rfl #[] #[pb y, pb B, pb q, pb z, pb p, pb s] [sv D o J, ae] rfl call70 rfl (ih _ _ o az ao T U V aq L ah y B q z p s D J ae W X Y Z O ad m g8 c (bo.le (e.trans g)) aQ (aX.le (j.trans (d.trans (f.trans (h.trans (e.trans g)))))) (aY.le (j.trans (d.trans (f.trans (h.trans (e.trans g)))))) (a6.le (e.trans g)) am (ac.le (d.trans (f.trans (h.trans (e.trans g))))) br bs bt aP) ?_ ?_
   rintro _ bL _ af ⟨aR, aT, F, G, rfl, rfl, aU, aV, aW⟩
   refine iR<|d_in2 [_, _, _, _, _, _] [_, _, _, _, _, _] F G R rfl<|Dd (by kernel_rfl) ?_
   obtain ⟨rfl, rfl, rfl⟩ := some3 hm
   exact jJ ⟨aR, aT, F, G, rfl, rfl, (g.trans af), aU, aV, aW⟩
   exact Rn
   exact Rn
   refine Rg lr rfl rfl _ call67 rfl (cGuideNetBehind _ _ (⟨(⟨T, U⟩ : ApiDay), V⟩ : GuideNet) a W X Y Z (aX.le (j.trans (d.trans (f.trans (h.trans e))))) (aY.le (j.trans (d.trans (f.trans (h.trans e))))) az aO) ?_ ?_
   rintro _ bK _ g ⟨ae, rfl, rfl, aQ⟩
   refine iR<|Da [0] (by kernel_rfl) rfl ?_
   refine Rd2 g rfl rfl (Stable.does (sL 2 rfl one137 rfl rfl)) ?_ ?_
   rintro _ _ ⟨rfl, rfl⟩
   refine iR<|d_pullb 2 rfl<|d_pullb 2 rfl<|d_pullb 8 rfl<|d_pullb 3 rfl<|d_pullb 8 rfl<|d_pullb 8 rfl<|d2 [_, _, _, _, _, _, _, _, _, _, _, _] m c R rfl<|d2 [_, _, _, _, _, _, _, _, _, _, _, _] c m R rfl<|d_out2 [_, _, _, _, _, _] [_, _, _, _, _, _] m c R rfl ?_
   refine Da [5] (by kernel_rfl) rfl ?_
   refine Rv g rfl rfl #[] #[pb y, pb B, pb q, pb z, pb p, pb s] [sv D o J, ae] rfl call70 rfl (ih _ _ o az ao T U V aq L ah y B q z p s D J ae W X Y Z O ad m g8 c (bo.le (e.trans g)) aQ (aX.le (j.trans (d.trans (f.trans (h.trans (e.trans g)))))) (aY.le (j.trans (d.trans (f.trans (h.trans (e.trans g)))))) (a6.le (e.trans g)) am (ac.le (d.trans (f.trans (h.trans (e.trans g))))) br bs bt aP) ?_ ?_
   rintro _ bL _ af ⟨aR, aT, F, G, rfl, rfl, aU, aV, aW⟩
   refine iR<|d_in2 [_, _, _, _, _, _] [_, _, _, _, _, _] F G R rfl<|Dd (by kernel_rfl) ?_
   obtain ⟨rfl, rfl, rfl⟩ := some3 hm
   exact jJ ⟨aR, aT, F, G, rfl, rfl, (g.trans af), aU, aV, aW⟩
   exact Rn
   exact Rn
   exact Rn
   exact Rn
   rintro a9 _ _ ⟨ay, aN, t, S, rfl, rfl, an, bM, bc, bN⟩
   have hm := (unc3E b9)
   refine cB hm rfl (fun hm => ?_) fun hm => ?_
   refine Cg<|tD (uS 1 rfl rfl siz4 rfl rfl (by simp)) ?_
   rintro _ _ rfl
   refine Tn<|Xm<|Xp 1 rfl<|Xp 9 rfl<|Xp 9 rfl<|Xp 9 rfl<|Xp 4 rfl<|Xp 9 rfl<|Xp 9 rfl<|Xp 9 rfl ?_
   refine Xp 9 rfl<|X2 [_, _, _, _, _, _, _, _, _, _, _] t S R rfl<|X2 [_, _, _, _, _, _, _, _, _, _, _] S t R rfl ?_
   exact x_round 10 rfl (f.trans (h.trans (e.trans an))) (.cons_cons _ (.cons_cons _ (.cons_cons _ (.cons_cons _ (.cons_cons _ (.cons_cons _ (.cons_cons _ (.cons_cons _ (.cons_cons _ (.cons _ (.refl _))))))))))) ⟨(true, ax, bq), (Option.some.inj hm).symm, ⟨ay, aN, t, S, rfl, (j.trans (d.trans (f.trans (h.trans (e.trans an))))), bM, bc, bN⟩⟩
   refine Cg<|tS (sL 0 rfl one136 rfl rfl)<|tS (sD (vs := [_, _, _]) 2 3 rfl agg138 rfl rfl rfl)<|t_front2 [_, _, _, _, _, _, _, _, _, _, _] t S R rfl<|tD (u_mputF (k := [a.Train, a.Off, (o.length : Int)]) kok138 [_, _, _, _, _, _, _, _, _, _, _] [] (t ++ R) rfl bN mapt136 rfl rfl rfl (⟨[iv a.Train, iv a.Off, iv ((o.length : Int))], rfl, ⟨rfl, [[iv a.Train], [iv a.Off], [iv ((o.length : Int))]], rfl, ⟨rfl, ⟨rfl, ⟨rfl, trivial⟩⟩⟩⟩⟩) ⟨rfl, rfl⟩ _ (.inl rfl)) ?_
   rintro _ _ ⟨bx, rfl, co, cn⟩
   refine Tn<|Xm<|Xp 1 rfl<|Xp 9 rfl<|Xp 9 rfl<|Xp 9 rfl<|Xp 4 rfl<|Xp 9 rfl<|Xp 9 rfl<|Xp 9 rfl ?_
   refine Xp 9 rfl<|X2 [_, _, _, _, _, _, _, _, _, _, _] bx t R rfl ?_
   exact x_round 10 rfl (f.trans (h.trans (e.trans an))) (.cons_cons _ (.cons_cons _ (.cons_cons _ (.cons_cons _ (.cons_cons _ (.cons_cons _ (.cons_cons _ (.cons_cons _ (.cons_cons _ (.cons _ (.refl _))))))))))) ⟨(aJ, ax, mput bq [a.Train, a.Off, (o.length : Int)] true), (Option.some.inj hm).symm, ⟨ay, aN, t, bx, rfl, (j.trans (d.trans (f.trans (h.trans (e.trans an))))), bM, bc, cn⟩⟩
   rintro ⟨aG, aa, ah⟩ aH _ ⟨K, ab, n, c, rfl, j, aI, aj, ac⟩ ca
   rw [ca] at aC
   have hm := elimL aC
   have hm := (unc3E hm)
   refine Xm<|Xn<|Cr<|tS (sL 8 rfl one4 rfl rfl)<|tD (uS 7 rfl rfl siz4 rfl rfl (by simp)) ?_
   rintro _ _ rfl
   refine Te<|Ct ?_
   obtain ⟨rfl, rfl, rfl⟩ := some3 hm
   refine Xp 5 rfl<|Xp 5 rfl<|Xp 5 rfl<|Xp 5 rfl<|Xp 5 rfl<|Xp 5 rfl<|X2 [_, _, _, _, _, _, _, _, _] n c R rfl<|X2 [_, _, _, _, _, _, _, _, _] c n R rfl ?_
   exact rM (rs := [.cell 10 4]) (vs := [bv aG]) ⟨⟨_, rfl, fun w ho => cell_one 7 one4 rfl rfl w ho⟩, trivial⟩ ⟨K, ab, n, c, rfl, rfl, aI, aj, ac⟩ (.cons_cons _ (.cons_cons _ (.cons_cons _ (.cons_cons _ (.cons_cons _ (.cons_cons _ (.cons _ (.cons _ (.cons _ (.refl _)))))))))) j

set_option maxRecDepth 20000 in
theorem cGuideAll (b : Base) (R : Hp) (hG : GOn GT b) (s : ApiDay) (x8 x9 j G H I J K) (h4 : FZ rApiTrain b.w H I s.Trains) (h7 : FZ (RT.list rI) b.w J K s.Turns) (ac x) (hm : mGuideAll s x8 x9 j G = some (ac, x)):
    CallsG Tryd.prog 32 [.agg #[sv H s.Trains I, sv J s.Turns K], iv x8, iv x9, iv j, iv G] b (R) (fun v b' hp' => ∃ L ad O, .tuple #[sv L x ad, iv ac] = v ∧ (O ++ R) = hp' ∧ OS 33 (OT.fr rGuideJourney) b'.w (sv L x ad) x O ∧ (L = none ↔ x = [])) := by
 refine fE 39 Tryd.func32 rfl Tryd.ntmps32 rfl ?_
 unfold mGuideAll at hm
 refine Cr<|tD (uB _ rfl rfl) ?_
 rintro _ _ ⟨am, rfl, rfl⟩
 refine tD (uB _ rfl rfl) ?_
 rintro _ _ ⟨m, rfl, rfl⟩
 refine tD (uB _ rfl rfl) ?_
 rintro _ _ ⟨n, rfl, rfl⟩
 refine aS rfl<|aS rfl<|Te<|Cs<|Cr<|tS (sD (vs := [_, _]) 2 2 rfl agg25 rfl rfl rfl)<|mV rfl<|mV rfl<|tS (sL 1 rfl one3 rfl rfl) ?_
 obtain ⟨aj, Y, hm⟩ := bS hm
 refine tD (uW _ call36 rfl (fun w ho => cGuideCheck_2 _ [] ((hG.le lr).old ho) s j x8 x9 [] H I J K none 0 (h4.old ho) (h7.old ho) FZ.nil aj Y) (fun _ _ _ h => h.2.symm)) ?_
 rintro _ _ ⟨⟨_, rfl, _⟩, rfl⟩
 refine aS rfl<|Te<|Cr<|mV rfl<|tS (q2 rfl rfl)<|Te ?_
 refine cI hm rfl (fun hm => ?_) fun hm => ?_
 refine Cr<|mV rfl<|aS rfl<|aS rfl<|Te<|Ct<|Xr ?_
 obtain ⟨rfl, rfl⟩ := some2 hm
 exact rT ⟨none, 0, [], rfl, rfl, OS.nil, ⟨fun _ => rfl, fun _ => rfl⟩⟩ lr
 refine Ck<|Xn<|Cs<|Cr<|tS (sL 0 rfl one3 rfl rfl) ?_
 obtain ⟨ak, Z, hm⟩ := bS hm
 refine tD (uW _ call50 rfl (fun w ho => cGuideWithin _ [] G 0 200 ak Z) (fun _ _ _ h => h.2.symm)) ?_
 rintro _ _ ⟨⟨_, rfl, _⟩, rfl⟩
 refine tS (sn2 rfl)<|Te ?_
 refine cM hm rfl (fun hm => ?_) fun hm => ?_
 refine Cr<|aS rfl<|aS rfl<|Te<|Ct<|Xr ?_
 obtain ⟨rfl, rfl⟩ := some2 hm
 exact rT ⟨none, 0, [], rfl, rfl, OS.nil, ⟨fun _ => rfl, fun _ => rfl⟩⟩ lr
 refine Ck<|Xn<|Cr<|tS (sD (vs := [_, _]) 2 2 rfl agg25 rfl rfl rfl)<|mV rfl<|tS (sB (v := .agg #[sv H s.Trains I, sv J s.Turns K, iv j]) [(0, .agg #[sv H s.Trains I, sv J s.Turns K]), (1, iv j)] rfl (fun _ => by kernel_rfl))<|tD (uA [sn, sn, iv 0] zero91 rfl) ?_
 rintro _ _ ⟨o, rfl, rfl⟩
 refine tD (uN (vs := [_, _, _]) 0 3 rfl rfl rfl siz91 rfl (mc rfl (mc rfl (mc rfl mn))) rfl (by simp)) ?_
 rintro _ _ rfl
 refine Te<|Cr<|tD (uA [sn] zero54 rfl) ?_
 rintro _ _ ⟨g, rfl, rfl⟩
 refine Te<|Cr<|tD (u_mmap (RT.arr 3 rI) (OT.fr RT.bool) true false [_, _, _, _, _] R rfl) ?_
 rintro _ _ ⟨S, d, rfl, rfl, T⟩
 refine tD (uA [.map none] zero136 rfl) ?_
 rintro _ _ ⟨p, rfl, rfl⟩
 refine tD (uS 0 rfl rfl siz136 rfl rfl (by simp)) ?_
 rintro _ _ rfl
 refine Te<|Cr<|tD (uA [.nilFunc] zero137 rfl) ?_
 rintro _ _ ⟨q, rfl, rfl⟩
 refine Te<|Cr<|tS (st_func _ _ rfl rfl)<|tD (uS 0 rfl rfl siz137 rfl rfl (by simp)) ?_
 rintro _ _ rfl
 refine Te ?_
 obtain ⟨E, ah, ai⟩ := bS hm
 refine Cj (fun U e' hp' => ∃ y F t, [(14, pb g)] = e' ∧ (g, Cl 54 [sv y E F]) :: (t ++ R) = hp' ∧ b.Le U ∧ OS 33 (OT.fr rGuideJourney) U.w (sv y E F) E t ∧ (y = none ↔ E = [])) ?_ ?_
 have hm := ah
 obtain ⟨r, u, hm⟩ := bS hm
 obtain ⟨⟨V, W, X⟩, e, hm⟩ := bS hm
 obtain ⟨k, e⟩ := lim_some e
 have hm := (unc3E hm)
 refine Di mixed (.cons _ (.cons _ (.cons _ (.cons _ (.cons _ (.cons _ (.cons_cons _ (ss d (.refl _)))))))))<|E0 2 rfl (sM rfl)<|Eo<|Da [0, 1] (by kernel_rfl) rfl ?_
 refine Rd2 lr rfl rfl (Stable.does (sL 0 rfl one137 rfl rfl)) ?_ ?_
 rintro _ _ ⟨rfl, rfl⟩
 refine iR<|Da [1] (by kernel_rfl) rfl ?_
 refine Rd2 lr rfl rfl (Stable.does (sD (vs := [_, _, _]) 3 3 rfl agg91 rfl rfl rfl)) ?_ ?_
 rintro _ _ ⟨rfl, rfl⟩
 refine iR<|Da [3] (by kernel_rfl) rfl ?_
 refine Rg lr rfl rfl _ call54 rfl (cGuideNetRides _ _ (⟨s, j⟩ : GuideNet) x8 0 (-1) H I J K h4 h7 r u) ?_ ?_
 rintro _ ae _ a ⟨i, rfl, rfl, z⟩
 refine iR<|d_pullb 1 rfl<|d_pullb 5 rfl<|d_pullb 4 rfl<|d_pullb 5 rfl<|d_pullb 5 rfl<|d_out1 [_, _, _, _, _, _] [_] d R rfl<|Da [4] (by kernel_rfl) rfl ?_
 refine Rv a rfl rfl #[] #[pb g, pb n, pb o, pb m, pb p, pb q] [sn, i] rfl call70 rfl (cGuideAll_1 k _ _ [] r G s.Trains s.Turns j x9 [] ([] : (List ((List Int) × Bool))) g n o m p q none 0 i H I J K none 0 [] S d FZ.nil z (h4.le a) (h7.le a) OS.nil ⟨fun _ => rfl, fun _ => rfl⟩ (T.le a) V W X e) ?_ ?_
 rintro _ af _ f ⟨A, B, c, l, rfl, rfl, C, D, ag⟩
 refine iR<|d_in2 [_, _, _, _, _, _] [_] c l R rfl<|Dd (by kernel_rfl) ?_
 obtain rfl := o1 hm
 exact jJ ⟨A, B, c, rfl, rfl, (a.trans f), C, D⟩
 exact Rn
 exact Rn
 exact Rn
 refine Rd2 lr rfl rfl (Stable.does (sD (vs := [_, _, _]) 3 3 rfl agg91 rfl rfl rfl)) ?_ ?_
 rintro _ _ ⟨rfl, rfl⟩
 refine iR<|Da [0, 3] (by kernel_rfl) rfl ?_
 refine Rd2 lr rfl rfl (Stable.does (sL 0 rfl one137 rfl rfl)) ?_ ?_
 rintro _ _ ⟨rfl, rfl⟩
 refine iR<|Da [3] (by kernel_rfl) rfl ?_
 refine Rg lr rfl rfl _ call54 rfl (cGuideNetRides _ _ (⟨s, j⟩ : GuideNet) x8 0 (-1) H I J K h4 h7 r u) ?_ ?_
 rintro _ ae _ a ⟨i, rfl, rfl, z⟩
 refine iR<|d_pullb 1 rfl<|d_pullb 5 rfl<|d_pullb 4 rfl<|d_pullb 5 rfl<|d_pullb 5 rfl<|d_out1 [_, _, _, _, _, _] [_] d R rfl<|Da [4] (by kernel_rfl) rfl ?_
 refine Rv a rfl rfl #[] #[pb g, pb n, pb o, pb m, pb p, pb q] [sn, i] rfl call70 rfl (cGuideAll_1 k _ _ [] r G s.Trains s.Turns j x9 [] ([] : (List ((List Int) × Bool))) g n o m p q none 0 i H I J K none 0 [] S d FZ.nil z (h4.le a) (h7.le a) OS.nil ⟨fun _ => rfl, fun _ => rfl⟩ (T.le a) V W X e) ?_ ?_
 rintro _ af _ f ⟨A, B, c, l, rfl, rfl, C, D, ag⟩
 refine iR<|d_in2 [_, _, _, _, _, _] [_] c l R rfl<|Dd (by kernel_rfl) ?_
 obtain rfl := o1 hm
 exact jJ ⟨A, B, c, rfl, rfl, (a.trans f), C, D⟩
 exact Rn
 exact Rn
 refine Rg lr rfl rfl _ call54 rfl (cGuideNetRides _ _ (⟨s, j⟩ : GuideNet) x8 0 (-1) H I J K h4 h7 r u) ?_ ?_
 rintro _ ae _ a ⟨i, rfl, rfl, z⟩
 refine iR<|Da [0] (by kernel_rfl) rfl ?_
 refine Rd2 a rfl rfl (Stable.does (sL 0 rfl one137 rfl rfl)) ?_ ?_
 rintro _ _ ⟨rfl, rfl⟩
 refine iR<|d_pullb 1 rfl<|d_pullb 5 rfl<|d_pullb 4 rfl<|d_pullb 5 rfl<|d_pullb 5 rfl<|d_out1 [_, _, _, _, _, _] [_] d R rfl<|Da [4] (by kernel_rfl) rfl ?_
 refine Rv a rfl rfl #[] #[pb g, pb n, pb o, pb m, pb p, pb q] [sn, i] rfl call70 rfl (cGuideAll_1 k _ _ [] r G s.Trains s.Turns j x9 [] ([] : (List ((List Int) × Bool))) g n o m p q none 0 i H I J K none 0 [] S d FZ.nil z (h4.le a) (h7.le a) OS.nil ⟨fun _ => rfl, fun _ => rfl⟩ (T.le a) V W X e) ?_ ?_
 rintro _ af _ f ⟨A, B, c, l, rfl, rfl, C, D, ag⟩
 refine iR<|d_in2 [_, _, _, _, _, _] [_] c l R rfl<|Dd (by kernel_rfl) ?_
 obtain rfl := o1 hm
 exact jJ ⟨A, B, c, rfl, rfl, (a.trans f), C, D⟩
 exact Rn
 exact Rn
 exact Rn
 exact Rn
 rintro U _ _ ⟨y, F, t, rfl, rfl, aa, al, ab⟩
 have hm := ai
 refine Cr<|tS (sL 0 rfl one54 rfl rfl)<|aS rfl<|aS rfl<|Te<|Ct ?_
 obtain ⟨rfl, rfl⟩ := some2 hm
 exact rT ⟨y, F, t, rfl, rfl, al, ab⟩ aa

set_option maxRecDepth 20000 in
theorem cFishref2Within (b : Base) (R : Hp) (i j k d) (hm : mFishref2Within i j k = some d):
    CallsG Tryd.prog 35 [iv i, iv j, iv k] b (R) (fun v b' hp' => bv d = v ∧ R = hp') := by
 refine fE 15 Tryd.func35 rfl Tryd.ntmps35 rfl ?_
 unfold mFishref2Within at hm
 refine Cr<|aS rfl<|Te ?_
 obtain ⟨h, e, f⟩ := bS hm
 refine Cj (fun g e' hp' => [(6, bv h)] = e' ∧ R = hp' ∧ b.Le g) ?_ ?_
 have hm := e
 refine Cg<|mV rfl<|mV rfl ?_
 refine Tb rfl (q6 rfl rfl) (fun a => ?_) (fun a => ?_)
 rw [if_pos a] at hm
 refine mV rfl<|yS<|mV rfl<|yS<|mV rfl<|yS<|tS (q4 rfl rfl)<|tS (pT rfl rfl)<|aS rfl<|Tn ?_
 obtain rfl := o1 hm
 exact jJ ⟨rfl, rfl, lr⟩
 rw [if_neg a] at hm
 refine mV rfl<|nO<|nO<|nO<|tS (pF rfl rfl)<|aS rfl<|Tn ?_
 obtain rfl := o1 hm
 exact jJ ⟨rfl, rfl, lr⟩
 rintro g _ _ ⟨rfl, rfl, c⟩
 have hm := f
 refine Ct ?_
 obtain rfl := o1 hm
 exact rO ⟨rfl, rfl⟩ c

set_option maxRecDepth 20000 in
theorem cFishref2JourneyFault (b : Base) (R : Hp) (C : ApiDay) (s : GuideJourney) (z A A2 c3 A5 c6 L m) (h4 : FZ rApiTrain b.w A2 c3 C.Trains) (h7 : FZ (RT.list rI) b.w A5 c6 C.Turns) (a2 : FZ rGuideRide b.w L m s.Rides) (aZ) (hm : mFishref2JourneyFault C s z A = some aZ):
    CallsG Tryd.prog 14 [.agg #[sv A2 C.Trains c3, sv A5 C.Turns c6], .agg #[sv L s.Rides m], iv z, bv A] b (R) (fun v b' hp' => iv aZ = v ∧ R = hp') := by
 refine fE 125 Tryd.func14 rfl Tryd.ntmps14 rfl ?_
 unfold mFishref2JourneyFault at hm
 refine Cr<|tD (uB _ rfl rfl) ?_
 rintro _ _ ⟨i, rfl, rfl⟩
 refine tD (uB _ rfl rfl) ?_
 rintro _ _ ⟨k, rfl, rfl⟩
 refine aS rfl<|Te<|Cs<|Cr<|mV rfl ?_
 obtain ⟨bt, av, hm⟩ := bS hm
 refine tD (uW _ call35 rfl (fun w ho => cFishref2Within _ [] z 0 28800 bt av) (fun _ _ _ h => h.2.symm)) ?_
 rintro _ _ ⟨⟨_, rfl, _⟩, rfl⟩
 refine tS (sn2 rfl)<|Te ?_
 refine cM hm rfl (fun hm => ?_) fun hm => ?_
 refine Cr<|aS rfl<|Te<|Ct<|Xr ?_
 obtain rfl := o1 hm
 exact rO ⟨rfl, rfl⟩ lr
 refine Ck<|Xn<|Cs<|Cr<|tS (sF rfl fld33_0)<|tS (sL 0 rfl one31 rfl rfl)<|tS (sE rfl sl31) ?_
 obtain ⟨bu, aw, hm⟩ := bS hm
 refine tD (uW _ call35 rfl (fun w ho => cFishref2Within _ [] (s.Rides.length : Int) 1 4 bu aw) (fun _ _ _ h => h.2.symm)) ?_
 rintro _ _ ⟨⟨_, rfl, _⟩, rfl⟩
 refine tS (sn2 rfl)<|Te ?_
 refine cM hm rfl (fun hm => ?_) fun hm => ?_
 refine Cr<|aS rfl<|Te<|Ct<|Xr ?_
 obtain rfl := o1 hm
 exact rO ⟨rfl, rfl⟩ lr
 refine Ck<|Xn<|Cs<|Cr<|tS (sF rfl fld33_0)<|tS (sL 0 rfl one31 rfl rfl)<|tS (sE rfl sl31)<|mV rfl<|Te<|Cb ?_
 have bI : s.Rides.length ≤ 9223372036854775807 := (FZ.bd a2)
 refine Cp 1 rfl ?_
 obtain ⟨bZ, a3, e⟩ := bS hm
 refine lF (fun n => fun _ => fun O e' hp' => [(2, iv z), (3, bv A), (4, pb i), (5, pb k), (23, sv L s.Rides m), (24, iv ((s.Rides.length : Int))), (25, iv ((n : Int)))] = e' ∧ (i, Cl 25 [sv A2 C.Trains c3, sv A5 C.Turns c6]) :: (k, Cl 33 [sv L s.Rides m]) :: R = hp' ∧ b.Le O) a3 ⟨rfl, rfl, lr⟩ ?_ ?_
 rintro n _ O _ _ bJ bw ⟨rfl, rfl, a⟩ t g
 unfold mFishref2JourneyFault_L599 at t
 have hm := t
 refine Cr<|tS (lT rfl rfl (by omega))<|Te<|Cs<|c_cond_t rfl<|Ck<|Xn<|Cs<|Cb<|Cr ?_
 refine mV rfl ?_
 obtain ⟨f, bx, bK, a4, bL, a5, ax, W, ay, hm⟩ := bF (sz := 3) hm (a2.le a)
 obtain ⟨_, _, rfl, rfl, ⟨_, _, rfl, rfl, rfl⟩⟩ := a5
 refine tS (sI bx rfl rfl a4 ay W sl31)<|tS (sP (vs := [iv f.Train, iv f.On, iv f.Off]) 3 rfl agg86 W rfl (fun j u hu => ax j u hu))<|tD (uA [iv 0, iv 0, iv 0] zero86 rfl) ?_
 rintro _ _ ⟨q, rfl, rfl⟩
 refine aS rfl<|tD (uN (vs := [_, _, _]) 0 3 rfl rfl rfl siz86 rfl (mc rfl (mc rfl (mc rfl mn))) rfl (by simp)) ?_
 rintro _ _ rfl
 refine Te<|Cs ?_
 obtain ⟨bz, a6, a7⟩ := bS hm
 refine Cj (fun X e' hp' => [(2, iv z), (3, bv A), (4, pb i), (5, pb k), (9, iv ((n : Int))), (10, pb q), (23, sv L s.Rides m), (24, iv ((s.Rides.length : Int))), (25, iv ((n : Int))), (40, bv bz)] = e' ∧ (i, Cl 25 [sv A2 C.Trains c3, sv A5 C.Turns c6]) :: (k, Cl 33 [sv L s.Rides m]) :: (q, Cl 86 [iv f.Train, iv f.On, iv f.Off]) :: R = hp' ∧ O.Le X) ?_ ?_
 have hm := a6
 refine Cg<|tS (sF rfl fld86_0)<|tS (sL 0 rfl one3 rfl rfl) ?_
 refine Tb rfl (q3 rfl rfl) (fun E => ?_) (fun E => ?_)
 rw [if_pos E] at hm
 refine mV rfl<|nO<|nO<|nO<|nO<|nO<|nO<|tS (pT rfl rfl)<|Tn ?_
 obtain rfl := o1 hm
 exact jJ ⟨rfl, rfl, lr⟩
 rw [if_neg E] at hm
 refine mV rfl<|yS<|tS (sF rfl fld86_0)<|yS<|tS (sL 0 rfl one3 rfl rfl)<|yS<|tS (sF rfl fld25_0)<|yS<|tS (sL 1 rfl one22 rfl rfl)<|yS ?_
 refine tS (sE rfl sl22)<|yS<|tS (q6 rfl rfl)<|tS (pF rfl rfl)<|Tn ?_
 obtain rfl := o1 hm
 exact jJ ⟨rfl, rfl, lr⟩
 rintro X _ _ ⟨rfl, rfl, c⟩
 have hm := a7
 refine cB hm rfl (fun hm => ?_) fun hm => ?_
 refine Cr<|aS rfl<|Te<|Ct<|Xr<|Xb<|Xr<|Xr<|Xb<|Xr ?_
 have a8 := g _ (Option.some.inj hm).symm
 rw [a8] at e
 have hm := elimR e
 obtain rfl := o1 hm
 exact rO ⟨rfl, rfl⟩ (a.trans c)
 refine Ck<|Xn<|Cr<|tS (sF rfl fld25_0)<|tS (sL 0 rfl one22 rfl rfl)<|tS (sF rfl fld86_0)<|tS (sL 2 rfl one3 rfl rfl) ?_
 obtain ⟨Y, bA, bM, a9, bN, ba, az, Z, aA, hm⟩ := bF (sz := 4) hm (h4.le (a.trans c))
 obtain ⟨_, _, rfl, rfl, ⟨_, _, rfl, rfl, ⟨_, _, rfl, ⟨aa, ab, rfl, a0⟩, ⟨b0, b1, rfl, b2⟩⟩⟩⟩ := ba
 refine tS (sI bA rfl rfl a9 aA Z sl22)<|tS (sQ rfl Z fld47_2)<|tS (sO rfl one45 (az 2 _ rfl))<|aS rfl<|Te<|Cs ?_
 obtain ⟨bB, bb, bc⟩ := bS hm
 refine Cj (fun ac e' hp' => [(2, iv z), (3, bv A), (4, pb i), (5, pb k), (9, iv ((n : Int))), (10, pb q), (11, sv aa Y.Stops ab), (23, sv L s.Rides m), (24, iv ((s.Rides.length : Int))), (25, iv ((n : Int))), (69, bv bB)] = e' ∧ (i, Cl 25 [sv A2 C.Trains c3, sv A5 C.Turns c6]) :: (k, Cl 33 [sv L s.Rides m]) :: (q, Cl 86 [iv f.Train, iv f.On, iv f.Off]) :: R = hp' ∧ X.Le ac) ?_ ?_
 have hm := bb
 refine Cg<|tS (sF rfl fld86_1)<|tS (sL 2 rfl one3 rfl rfl) ?_
 refine Tb rfl (q3 rfl rfl) (fun F => ?_) (fun F => ?_)
 rw [if_pos F] at hm
 refine mV rfl<|nO<|nO<|nO<|nO<|nO<|tS (pT rfl rfl)<|mV rfl<|nO<|nO ?_
 refine nO<|tS (pT rfl rfl)<|mV rfl<|nO<|nO<|nO<|nO<|nO<|tS (pT rfl rfl)<|Tn ?_
 obtain rfl := o1 hm
 exact jJ ⟨rfl, rfl, lr⟩
 rw [if_neg F] at hm
 refine mV rfl<|yS<|tS (sF rfl fld86_1)<|yS<|tS (sL 2 rfl one3 rfl rfl)<|yS<|mV rfl<|yS<|tS (sE rfl sl45)<|yS ?_
 refine Tb rfl (q6 rfl rfl) (fun G => ?_) (fun G => ?_)
 rw [if_pos G] at hm
 refine tS (pF rfl rfl)<|mV rfl<|nO<|nO<|nO<|tS (pT rfl rfl)<|mV rfl<|nO<|nO<|nO ?_
 refine nO<|nO<|tS (pT rfl rfl)<|Tn ?_
 obtain rfl := o1 hm
 exact jJ ⟨rfl, rfl, lr⟩
 rw [if_neg G] at hm
 refine tS (pF rfl rfl)<|mV rfl<|yS<|tS (sF rfl fld86_2)<|yS<|tS (sL 2 rfl one3 rfl rfl)<|yS ?_
 refine Tb rfl (q3 rfl rfl) (fun H => ?_) (fun H => ?_)
 rw [if_pos H] at hm
 refine tS (pF rfl rfl)<|mV rfl<|nO<|nO<|nO<|nO<|nO<|tS (pT rfl rfl)<|Tn ?_
 obtain rfl := o1 hm
 exact jJ ⟨rfl, rfl, lr⟩
 rw [if_neg H] at hm
 refine tS (pF rfl rfl)<|mV rfl<|yS<|tS (sF rfl fld86_2)<|yS<|tS (sL 2 rfl one3 rfl rfl)<|yS<|mV rfl<|yS<|tS (sE rfl sl45) ?_
 refine yS<|tS (q6 rfl rfl)<|tS (pF rfl rfl)<|Tn ?_
 obtain rfl := o1 hm
 exact jJ ⟨rfl, rfl, lr⟩
 rintro ac _ _ ⟨rfl, rfl, d⟩
 have hm := bc
 refine cB hm rfl (fun hm => ?_) fun hm => ?_
 refine Cr<|aS rfl<|Te<|Ct<|Xr<|Xb<|Xr<|Xr<|Xb<|Xr ?_
 have bd := g _ (Option.some.inj hm).symm
 rw [bd] at e
 have hm := elimR e
 obtain rfl := o1 hm
 exact rO ⟨rfl, rfl⟩ (a.trans (c.trans d))
 refine Ck<|Xn<|Cs<|Cr<|tS (sF rfl fld86_1)<|tS (sL 2 rfl one3 rfl rfl)<|tS (sF rfl fld86_2)<|tS (sL 2 rfl one3 rfl rfl)<|tS (q6 rfl rfl)<|Te ?_
 refine cI hm rfl (fun hm => ?_) fun hm => ?_
 refine Cr<|aS rfl<|Te<|Ct<|Xr<|Xb<|Xr<|Xr<|Xb<|Xr ?_
 have be := g _ (Option.some.inj hm).symm
 rw [be] at e
 have hm := elimR e
 obtain rfl := o1 hm
 exact rO ⟨rfl, rfl⟩ (a.trans (c.trans d))
 refine Ck<|Xn<|Cs<|Cr<|mV rfl<|tS (q1 rfl rfl)<|Te ?_
 refine cI hm rfl (fun hm => ?_) fun hm => ?_
 refine Ce<|Xe<|Xo<|Xn<|Cg<|tS (sa rfl rfl (by omega))<|mV rfl<|Tn ?_
 exact jM hm ⟨rfl, rfl, ((a.trans (c.trans d)))⟩
 refine Ck<|Xn<|Cr<|tS (sF rfl fld33_0)<|tS (sL 1 rfl one31 rfl rfl)<|mV rfl ?_
 obtain ⟨_, ad, hm⟩ := bS hm
 have ad := (kS ad).2
 refine tS (sb rfl rfl ad) ?_
 obtain ⟨x, bC, bO, bf, bP, bg, aB, ae, aC, hm⟩ := bF (sz := 3) hm (a2.le (a.trans (c.trans d)))
 obtain ⟨_, _, rfl, rfl, ⟨_, _, rfl, rfl, rfl⟩⟩ := bg
 refine tS (sI bC rfl rfl bf aC ae sl31)<|tS (sP (vs := [iv x.Train, iv x.On, iv x.Off]) 3 rfl agg86 ae rfl (fun j u hu => aB j u hu))<|tD (uA [iv 0, iv 0, iv 0] zero86 rfl) ?_
 rintro _ _ ⟨a1, rfl, rfl⟩
 refine tD (uN (vs := [_, _, _]) 0 3 rfl rfl rfl siz86 rfl (mc rfl (mc rfl (mc rfl mn))) rfl (by simp)) ?_
 rintro _ _ rfl
 refine Te ?_
 obtain ⟨⟨af, ag, ah, ai⟩, aD, aE⟩ := bS hm
 refine Cj (fun I e' hp' => ∃ y, [(2, iv z), (3, bv A), (4, pb i), (5, pb k), (10, pb q), (11, sv aa Y.Stops ab), (12, pb a1), (13, pb y), (23, sv L s.Rides m), (24, iv ((s.Rides.length : Int))), (25, iv ((n : Int)))] = e' ∧ (i, Cl 25 [sv A2 C.Trains c3, sv A5 C.Turns c6]) :: (k, Cl 33 [sv L s.Rides m]) :: (q, Cl 86 [iv f.Train, iv f.On, iv f.Off]) :: (a1, Cl 86 [iv x.Train, iv x.On, iv x.Off]) :: (y, Cl 83 [iv af, iv ag, iv ah, iv ai]) :: R = hp' ∧ ac.Le I) ?_ ?_
 have hm := aD
 obtain ⟨bQ, bh, hm⟩ := bS hm
 obtain ⟨B, bi, hm⟩ := bS hm
 refine Di mixed (.refl _)<|E0 0 rfl (sF rfl fld25_0)<|Es 1 rfl (sL 1 rfl one22 rfl rfl)<|E0 2 rfl (sF rfl fld86_0)<|Es 3 rfl (sL 0 rfl one3 rfl rfl) ?_
 obtain ⟨bj, aF, aG⟩ := iS bh
 obtain ⟨bD, aH, aj, S, ak⟩ := FZ.get (sz := 4) rfl (by decide) (h4.le (a.trans (c.trans d))) aG
 obtain ⟨_, _, rfl, rfl, ⟨_, _, rfl, rfl, ⟨_, _, rfl, ⟨bR, bT, rfl, bk⟩, ⟨bU, bV, rfl, bW⟩⟩⟩⟩ := aH
 refine E0 4 rfl (sI bj rfl rfl aF ak S sl22)<|E0 5 rfl (sQ rfl S fld47_2)<|Es 6 rfl (sO rfl one45 (aj 2 _ rfl))<|E0 7 rfl (sF rfl fld86_2)<|Es 8 rfl (sL 0 rfl one3 rfl rfl) ?_
 obtain ⟨bl, aI, aJ⟩ := iS bi
 obtain ⟨bE, aK, al, T, am⟩ := FZ.get (sz := 4) rfl (by decide) bk aJ
 obtain ⟨_, _, rfl, rfl, ⟨_, _, rfl, rfl, ⟨_, _, rfl, rfl, rfl⟩⟩⟩ := aK
 refine E0 9 rfl (sI bl rfl rfl aI am T sl45)<|Es 10 rfl (sP (vs := [iv B.Station, iv B.Track, iv B.Arr, iv B.Dep]) 4 rfl agg83 T rfl (fun j u hu => al j u hu))<|Eo<|Da [11] (by kernel_rfl) rfl ?_
 refine Rd2 lr rfl rfl (uA [iv 0, iv 0, iv 0, iv 0] zero83 rfl) ?_ ?_
 rintro _ _ ⟨bm, rfl, rfl⟩
 refine iR<|Da [12] (by kernel_rfl) rfl ?_
 refine Rd2 lr rfl rfl (uN (vs := [_, _, _, _]) 0 4 rfl rfl rfl siz83 rfl (mc rfl (mc rfl (mc rfl (mc rfl mn)))) rfl (by simp)) ?_ ?_
 rintro _ _ rfl
 refine ⟨.inl (by kernel_rfl), ?_⟩
 refine Dd (by kernel_rfl) ?_
 obtain ⟨rfl, rfl, rfl, rfl⟩ := some4 hm
 exact jJ ⟨bm, rfl, rfl, lr⟩
 exact Rn
 exact Rn
 rintro I _ _ ⟨y, rfl, rfl, l⟩
 have hm := (unc4E aE)
 refine Cs ?_
 obtain ⟨bn, aL, aM⟩ := bS hm
 refine Cj (fun J e' hp' => [(2, iv z), (3, bv A), (4, pb i), (5, pb k), (10, pb q), (11, sv aa Y.Stops ab), (13, pb y), (23, sv L s.Rides m), (24, iv ((s.Rides.length : Int))), (25, iv ((n : Int))), (109, bv bn)] = e' ∧ (i, Cl 25 [sv A2 C.Trains c3, sv A5 C.Turns c6]) :: (k, Cl 33 [sv L s.Rides m]) :: (q, Cl 86 [iv f.Train, iv f.On, iv f.Off]) :: (y, Cl 83 [iv af, iv ag, iv ah, iv ai]) :: R = hp' ∧ I.Le J) ?_ ?_
 have hm := aL
 by_cases r : x.Train = f.Train
 rw [if_pos r] at hm
 refine Di mixed (.refl _)<|E0 0 rfl (sF rfl fld86_0)<|Es 1 rfl (sL 3 rfl one3 rfl rfl)<|E0 2 rfl (sF rfl fld86_0)<|Es 3 rfl (sL 2 rfl one3 rfl rfl)<|E0 4 rfl (eT rfl rfl r)<|E0 5 rfl (sM rfl)<|eN 6 rfl<|eN 7 rfl<|eN 8 rfl ?_
 refine eN 9 rfl<|eN 10 rfl<|eN 11 rfl<|eN 12 rfl<|eN 13 rfl<|eN 14 rfl<|E0 15 rfl (pT rfl rfl)<|Eo<|Dd (by kernel_rfl) ?_
 obtain rfl := o1 hm
 exact jJ ⟨rfl, rfl, lr⟩
 rw [if_neg r] at hm
 obtain ⟨bX, bo, hm⟩ := bS hm
 refine Di mixed (.refl _)<|E0 0 rfl (sF rfl fld86_0)<|Es 1 rfl (sL 3 rfl one3 rfl rfl)<|E0 2 rfl (sF rfl fld86_0)<|Es 3 rfl (sL 2 rfl one3 rfl rfl)<|E0 4 rfl (eF rfl rfl r)<|E0 5 rfl (sM rfl)<|Yz 6 99 rfl (sM rfl)<|Yz 7 99 rfl (sF rfl fld86_1)<|Ey 8 99 rfl (sL 2 rfl one3 rfl rfl) ?_
 obtain ⟨bp, aN, aO⟩ := iS bo
 obtain ⟨bG, aP, an, U, ao⟩ := FZ.get (sz := 4) rfl (by decide) (a0.le (d.trans l)) aO
 obtain ⟨_, _, rfl, rfl, ⟨_, _, rfl, rfl, ⟨_, _, rfl, rfl, rfl⟩⟩⟩ := aP
 refine Yz 9 99 rfl (sI bp rfl rfl aN ao U sl45)<|Yz 10 99 rfl (sQ rfl U fld83_0)<|Ey 11 99 rfl (sO rfl one3 (an 0 _ rfl))<|Yz 12 99 rfl (sF rfl fld83_0)<|Ey 13 99 rfl (sL 4 rfl one3 rfl rfl)<|Yz 14 99 rfl (q2 rfl rfl)<|E0 15 rfl (pF rfl rfl)<|Eo<|Dd (by kernel_rfl) ?_
 obtain rfl := o1 hm
 exact jJ ⟨rfl, rfl, lr⟩
 rintro J _ _ ⟨rfl, rfl, o⟩
 have hm := aM
 refine cB hm rfl (fun hm => ?_) fun hm => ?_
 refine Cr<|aS rfl<|Te<|Ct<|Xr<|Xb<|Xr<|Xr<|Xb<|Xr ?_
 have aQ := g _ (Option.some.inj hm).symm
 rw [aQ] at e
 have hm := elimR e
 obtain rfl := o1 hm
 exact rO ⟨rfl, rfl⟩ (a.trans (c.trans (d.trans (l.trans o))))
 refine Ck<|Xn ?_
 obtain ⟨bq, aR, aT⟩ := bS hm
 refine Cj (fun aq e' hp' => [(2, iv z), (3, bv A), (4, pb i), (5, pb k), (23, sv L s.Rides m), (24, iv ((s.Rides.length : Int))), (25, iv ((n : Int))), (123, bv bq)] = e' ∧ (i, Cl 25 [sv A2 C.Trains c3, sv A5 C.Turns c6]) :: (k, Cl 33 [sv L s.Rides m]) :: R = hp' ∧ J.Le aq) ?_ ?_
 have hm := aR
 rcases Bool.eq_false_or_eq_true A with p | p
 rw [if_pos p] at hm
 obtain ⟨bY, br, hm⟩ := bS hm
 obtain ⟨_, K, hm⟩ := bS hm
 refine Di mixed (.refl _)<|E0 0 rfl (stB (sM rfl) p)<|E0 1 rfl (sM rfl)<|Yz 2 111 rfl (sM rfl)<|Yz 3 111 rfl (sF rfl fld86_1)<|Ey 4 111 rfl (sL 2 rfl one3 rfl rfl) ?_
 obtain ⟨bs, aU, aV⟩ := iS br
 obtain ⟨bH, aW, ar, V, au⟩ := FZ.get (sz := 4) rfl (by decide) (a0.le (d.trans (l.trans o))) aV
 obtain ⟨_, _, rfl, rfl, ⟨_, _, rfl, rfl, ⟨_, _, rfl, rfl, rfl⟩⟩⟩ := aW
 refine Yz 5 111 rfl (sI bs rfl rfl aU au V sl45)<|Yz 6 111 rfl (sQ rfl V fld83_3)<|Ey 7 111 rfl (sO rfl one3 (ar 3 _ rfl))<|Yz 8 111 rfl (sF rfl fld83_2)<|Ey 9 111 rfl (sL 3 rfl one3 rfl rfl)<|Yz 10 111 rfl (sM rfl) ?_
 have K := (kS K).2
 refine Yz 11 111 rfl (sa rfl rfl K)<|Yz 12 111 rfl (q3 rfl rfl)<|E0 13 rfl (pT rfl rfl)<|Eo<|Dd (by kernel_rfl) ?_
 obtain rfl := o1 hm
 exact jJ ⟨rfl, rfl, lr⟩
 rw [if_neg (fun hh => Bool.noConfusion (hh.symm.trans p))] at hm
 refine Di mixed (.refl _)<|E0 0 rfl (stB (sM rfl) p)<|E0 1 rfl (sM rfl)<|eN 2 rfl<|eN 3 rfl<|eN 4 rfl<|eN 5 rfl<|eN 6 rfl<|eN 7 rfl<|eN 8 rfl ?_
 refine eN 9 rfl<|eN 10 rfl<|eN 11 rfl<|eN 12 rfl<|E0 13 rfl (pF rfl rfl)<|Eo<|Dd (by kernel_rfl) ?_
 obtain rfl := o1 hm
 exact jJ ⟨rfl, rfl, lr⟩
 rintro aq _ _ ⟨rfl, rfl, D⟩
 have hm := aT
 refine cB hm rfl (fun hm => ?_) fun hm => ?_
 refine Cr<|aS rfl<|Te<|Ct<|Xb<|Xr<|Xr<|Xb<|Xr ?_
 have aX := g _ (Option.some.inj hm).symm
 rw [aX] at e
 have hm := elimR e
 obtain rfl := o1 hm
 exact rO ⟨rfl, rfl⟩ (a.trans (c.trans (d.trans (l.trans (o.trans D)))))
 refine Ck<|Xm<|Xn<|Cg<|tS (sa rfl rfl (by omega))<|mV rfl<|Tn ?_
 exact jM hm ⟨rfl, rfl, ((a.trans (c.trans (d.trans (l.trans (o.trans D))))))⟩
 rintro _ O _ _ ⟨rfl, rfl, a⟩ aY
 rw [aY] at e
 have hm := elimL e
 refine Cr<|tS (lF rfl rfl (by omega))<|Te<|Cs<|c_cond_f rfl<|Ce<|Xe<|Xe<|Xo<|Xn ?_
 refine Cr<|aS rfl<|Te<|Ct ?_
 obtain rfl := o1 hm
 exact rO ⟨rfl, rfl⟩ a

set_option maxRecDepth 20000 in
theorem cFishref2Leaves (b : Base) (R : Hp) (s : ApiDay) (E : GuideJourney) (J K L O S t) (h4 : FZ rApiTrain b.w J K s.Trains) (h7 : FZ (RT.list rI) b.w L O s.Turns) (F : FZ rGuideRide b.w S t E.Rides) (w) (hm : mFishref2Leaves s E = some w):
    CallsG Tryd.prog 16 [.agg #[sv J s.Trains K, sv L s.Turns O], .agg #[sv S E.Rides t]] b (R) (fun v b' hp' => iv w = v ∧ R = hp') := by
 refine fE 22 Tryd.func16 rfl Tryd.ntmps16 rfl ?_
 unfold mFishref2Leaves at hm
 refine Cr<|tD (uB _ rfl rfl) ?_
 rintro _ _ ⟨ac, rfl, rfl⟩
 refine tD (uB _ rfl rfl) ?_
 rintro _ _ ⟨ad, rfl, rfl⟩
 refine aS rfl<|Te<|Cr<|tS (sF rfl fld33_0)<|tS (sL 0 rfl one31 rfl rfl) ?_
 obtain ⟨i, G, T, x, U, y, k, h, l, hm⟩ := bF (sz := 3) hm F
 obtain ⟨_, _, rfl, rfl, ⟨_, _, rfl, rfl, rfl⟩⟩ := y
 refine tS (sI G rfl rfl x l h sl31)<|tS (sP (vs := [iv i.Train, iv i.On, iv i.Off]) 3 rfl agg86 h rfl (fun j u hu => k j u hu))<|tD (uA [iv 0, iv 0, iv 0] zero86 rfl) ?_
 rintro _ _ ⟨ae, rfl, rfl⟩
 refine tD (uN (vs := [_, _, _]) 0 3 rfl rfl rfl siz86 rfl (mc rfl (mc rfl (mc rfl mn))) rfl (by simp)) ?_
 rintro _ _ rfl
 refine Te<|Cs ?_
 obtain ⟨V, z, hm⟩ := bS hm
 obtain ⟨W, A, hm⟩ := bS hm
 refine Di mixed (.refl _)<|E0 0 rfl (sF rfl fld25_0)<|Es 1 rfl (sL 2 rfl one22 rfl rfl)<|E0 2 rfl (sF rfl fld86_0)<|Es 3 rfl (sL 0 rfl one3 rfl rfl) ?_
 obtain ⟨B, m, n⟩ := iS z
 obtain ⟨H, o, d, a, e⟩ := FZ.get (sz := 4) rfl (by decide) h4 n
 obtain ⟨_, _, rfl, rfl, ⟨_, _, rfl, rfl, ⟨_, _, rfl, ⟨X, Y, rfl, C⟩, ⟨Z, aa, rfl, ab⟩⟩⟩⟩ := o
 refine E0 4 rfl (sI B rfl rfl m e a sl22)<|E0 5 rfl (sQ rfl a fld47_2)<|Es 6 rfl (sO rfl one45 (d 2 _ rfl))<|E0 7 rfl (sF rfl fld86_1)<|Es 8 rfl (sL 0 rfl one3 rfl rfl) ?_
 obtain ⟨D, p, q⟩ := iS A
 obtain ⟨I, r, f, c, g⟩ := FZ.get (sz := 4) rfl (by decide) C q
 obtain ⟨_, _, rfl, rfl, ⟨_, _, rfl, rfl, ⟨_, _, rfl, rfl, rfl⟩⟩⟩ := r
 refine E0 9 rfl (sI D rfl rfl p g c sl45)<|E0 10 rfl (sQ rfl c fld83_3)<|Es 11 rfl (sO rfl one3 (f 3 _ rfl))<|E0 12 rfl (sA rfl)<|Eo<|Dd (by kernel_rfl)<|Xn<|Ct ?_
 obtain rfl := o1 hm
 exact rO ⟨rfl, rfl⟩ lr

set_option maxRecDepth 20000 in
theorem cFishref2Arrives (b : Base) (R : Hp) (t : ApiDay) (F : GuideJourney) (K L O S T w) (h4 : FZ rApiTrain b.w K L t.Trains) (h7 : FZ (RT.list rI) b.w O S t.Turns) (G : FZ rGuideRide b.w T w F.Rides) (x) (hm : mFishref2Arrives t F = some x):
    CallsG Tryd.prog 15 [.agg #[sv K t.Trains L, sv O t.Turns S], .agg #[sv T F.Rides w]] b (R) (fun v b' hp' => iv x = v ∧ R = hp') := by
 refine fE 26 Tryd.func15 rfl Tryd.ntmps15 rfl ?_
 unfold mFishref2Arrives at hm
 refine Cr<|tD (uB _ rfl rfl) ?_
 rintro _ _ ⟨ad, rfl, rfl⟩
 refine tD (uB _ rfl rfl) ?_
 rintro _ _ ⟨ae, rfl, rfl⟩
 refine aS rfl<|Te<|Cr<|tS (sF rfl fld33_0)<|tS (sL 0 rfl one31 rfl rfl)<|tS (sF rfl fld33_0)<|tS (sL 0 rfl one31 rfl rfl)<|tS (sE rfl sl31) ?_
 obtain ⟨_, i, hm⟩ := bS hm
 have i := (kS i).2
 refine tS (sb rfl rfl i) ?_
 obtain ⟨k, H, U, y, V, z, l, h, m, hm⟩ := bF (sz := 3) hm G
 obtain ⟨_, _, rfl, rfl, ⟨_, _, rfl, rfl, rfl⟩⟩ := z
 refine tS (sI H rfl rfl y m h sl31)<|tS (sP (vs := [iv k.Train, iv k.On, iv k.Off]) 3 rfl agg86 h rfl (fun j u hu => l j u hu))<|tD (uA [iv 0, iv 0, iv 0] zero86 rfl) ?_
 rintro _ _ ⟨af, rfl, rfl⟩
 refine tD (uN (vs := [_, _, _]) 0 3 rfl rfl rfl siz86 rfl (mc rfl (mc rfl (mc rfl mn))) rfl (by simp)) ?_
 rintro _ _ rfl
 refine Te<|Cs ?_
 obtain ⟨W, A, hm⟩ := bS hm
 obtain ⟨X, B, hm⟩ := bS hm
 refine Di mixed (.refl _)<|E0 0 rfl (sF rfl fld25_0)<|Es 1 rfl (sL 2 rfl one22 rfl rfl)<|E0 2 rfl (sF rfl fld86_0)<|Es 3 rfl (sL 0 rfl one3 rfl rfl) ?_
 obtain ⟨C, n, o⟩ := iS A
 obtain ⟨I, p, d, a, e⟩ := FZ.get (sz := 4) rfl (by decide) h4 o
 obtain ⟨_, _, rfl, rfl, ⟨_, _, rfl, rfl, ⟨_, _, rfl, ⟨Y, Z, rfl, D⟩, ⟨aa, ab, rfl, ac⟩⟩⟩⟩ := p
 refine E0 4 rfl (sI C rfl rfl n e a sl22)<|E0 5 rfl (sQ rfl a fld47_2)<|Es 6 rfl (sO rfl one45 (d 2 _ rfl))<|E0 7 rfl (sF rfl fld86_2)<|Es 8 rfl (sL 0 rfl one3 rfl rfl) ?_
 obtain ⟨E, q, r⟩ := iS B
 obtain ⟨J, s, f, c, g⟩ := FZ.get (sz := 4) rfl (by decide) D r
 obtain ⟨_, _, rfl, rfl, ⟨_, _, rfl, rfl, ⟨_, _, rfl, rfl, rfl⟩⟩⟩ := s
 refine E0 9 rfl (sI E rfl rfl q g c sl45)<|E0 10 rfl (sQ rfl c fld83_2)<|Es 11 rfl (sO rfl one3 (f 2 _ rfl))<|E0 12 rfl (sA rfl)<|Eo<|Dd (by kernel_rfl)<|Xn<|Ct ?_
 obtain rfl := o1 hm
 exact rO ⟨rfl, rfl⟩ lr

set_option maxRecDepth 20000 in
theorem cFishkeep2GuideSure (b : Base) (R : Hp) (hG : GOn GT b) (n : ApiDay) (x8 x9 ab C k o E F G H q r) (h4 : FZ rApiTrain b.w E F n.Trains) (h7 : FZ (RT.list rI) b.w G H n.Turns) (aG : FZ rGuideOdds b.w q r o) (aA) (hm : mFishkeep2GuideSure n x8 x9 ab C k o = some aA):
    CallsG Tryd.prog 6 [.agg #[sv E n.Trains F, sv G n.Turns H], iv x8, iv x9, iv ab, iv C, iv k, sv q o r] b (R) (fun v b' hp' => bv aA = v ∧ R = hp') := by
 refine fE 152 Tryd.func6 rfl Tryd.ntmps6 rfl ?_
 unfold mFishkeep2GuideSure at hm
 refine Cr<|tD (uB _ rfl rfl) ?_
 rintro _ _ ⟨i, rfl, rfl⟩
 refine aS rfl<|Te<|Cs<|Cr ?_
 obtain ⟨aX, ak, hm⟩ := bS hm
 refine tD (uW _ call7 rfl (fun w ho => cFishkeep2AwakeGuide _ [] ((hG.le lr).old ho) aX ak) (fun _ _ _ h => h.2.symm)) ?_
 rintro _ _ ⟨⟨_, rfl, _⟩, rfl⟩
 refine tS (sn2 rfl)<|Te ?_
 refine cM hm rfl (fun hm => ?_) fun hm => ?_
 refine Cr<|aS rfl<|Te<|Ct<|Xr ?_
 obtain rfl := o1 hm
 exact rO ⟨rfl, rfl⟩ lr
 refine Ck<|Xn<|Cs<|Cr ?_
 obtain ⟨aY, al, hm⟩ := bS hm
 refine tD (uW _ call8 rfl (fun w ho => cFishkeep2Guides _ [] ((hG.le lr).old ho) aY al) (fun _ _ _ h => h.2.symm)) ?_
 rintro _ _ ⟨⟨_, rfl, _⟩, rfl⟩
 refine tS (sn2 rfl)<|Te ?_
 refine cM hm rfl (fun hm => ?_) fun hm => ?_
 refine Cr<|aS rfl<|Te<|Ct<|Xr ?_
 obtain rfl := o1 hm
 exact rO ⟨rfl, rfl⟩ lr
 refine Ck<|Xn<|Cr<|tS (sD (vs := [_, _]) 0 2 rfl agg25 rfl rfl rfl)<|mV rfl<|mV rfl<|mV rfl<|mV rfl<|mV rfl<|mV rfl ?_
 obtain ⟨⟨D, aZ⟩, am, hm⟩ := bS hm
 have hm := (unc2E hm)
 refine Tg _ rfl call29 rfl (cGuideSurest _ _ (hG.le lr) n x8 x9 ab C k o E F G H q r h4 h7 aG D aZ am) ?_
 rintro _ a0 _ a ⟨V, W, rfl, rfl, ac, bs⟩
 refine mV rfl<|tS (st_extract rfl rfl)<|tS (st_extract rfl rfl)<|tD (uA [sn] zero33 rfl) ?_
 rintro _ _ ⟨aB, rfl, rfl⟩
 refine tD (uN (vs := [_]) 0 1 rfl rfl rfl siz33 rfl (mc rfl mn) rfl (by simp)) ?_
 rintro _ _ rfl
 refine aS rfl<|Te<|Cs<|Cr<|mV rfl<|tS (q2 rfl rfl)<|Te ?_
 refine cI hm rfl (fun hm => ?_) fun hm => ?_
 refine Cr<|tS (sF rfl fld33_0)<|tS (sL 0 rfl one31 rfl rfl)<|tS (sE rfl sl31)<|tS (q1 rfl rfl)<|aS rfl<|Te<|Ct<|Xr ?_
 obtain rfl := o1 hm
 exact rO ⟨rfl, rfl⟩ a
 refine Ck<|Xn<|Cr<|tS (sD (vs := [_, _]) 1 2 rfl agg25 rfl rfl rfl)<|tS (sD (vs := [_]) 0 1 rfl agg33 rfl rfl rfl)<|mV rfl<|mV rfl ?_
 obtain ⟨⟨s, t, a1⟩, an, hm⟩ := bS hm
 have hm := (unc3E hm)
 refine tD (uW _ call30 rfl (fun w ho => cGuideChance _ [] ((hG.le a).old ho) n (⟨D⟩ : GuideJourney) k o E F G H V W q r ((h4.le a).old ho) ((h7.le a).old ho) (ac.old ho) ((aG.le a).old ho) s t a1 an) (fun _ _ _ h => h.2.symm)) ?_
 rintro _ _ ⟨⟨_, rfl, _⟩, rfl⟩
 refine mV rfl<|tS (st_extract rfl rfl)<|tS (st_extract rfl rfl)<|tS (st_extract rfl rfl)<|aS rfl<|aS rfl<|aS rfl<|Te<|Cs ?_
 obtain ⟨a2, aH, aI⟩ := bS hm
 refine Cj (fun ad e' hp' => [(1, iv x8), (2, iv x9), (3, iv ab), (4, iv C), (5, iv k), (6, sv q o r), (7, pb i), (15, pb aB), (17, iv s), (18, iv t), (79, bv a2)] = e' ∧ (i, Cl 25 [sv E n.Trains F, sv G n.Turns H]) :: (aB, Cl 33 [sv V D W]) :: R = hp' ∧ a0.Le ad) ?_ ?_
 have hm := aH
 refine Cg<|mV rfl ?_
 refine Tb rfl (q2 rfl rfl) (fun I => ?_) (fun I => ?_)
 rw [if_pos I] at hm
 refine mV rfl<|nO<|nO<|tS (pT rfl rfl)<|mV rfl<|nO<|nO<|tS (pT rfl rfl)<|mV rfl<|nO ?_
 refine nO<|nO<|tS (pT rfl rfl)<|mV rfl<|nO<|nO<|nO<|nO<|nO<|tS (pT rfl rfl) ?_
 refine Tn ?_
 obtain rfl := o1 hm
 exact jJ ⟨rfl, rfl, lr⟩
 rw [if_neg I] at hm
 refine mV rfl<|yS<|mV rfl<|yS ?_
 refine Tb rfl (q3 rfl rfl) (fun J => ?_) (fun J => ?_)
 rw [if_pos J] at hm
 refine tS (pF rfl rfl)<|mV rfl<|nO<|nO<|tS (pT rfl rfl)<|mV rfl<|nO<|nO<|nO<|tS (pT rfl rfl) ?_
 refine mV rfl<|nO<|nO<|nO<|nO<|nO<|tS (pT rfl rfl)<|Tn ?_
 obtain rfl := o1 hm
 exact jJ ⟨rfl, rfl, lr⟩
 rw [if_neg J] at hm
 refine tS (pF rfl rfl)<|mV rfl<|yS<|mV rfl<|yS ?_
 refine Tb rfl (q3 rfl rfl) (fun K => ?_) (fun K => ?_)
 rw [if_pos K] at hm
 refine tS (pF rfl rfl)<|mV rfl<|nO<|nO<|nO<|tS (pT rfl rfl)<|mV rfl<|nO<|nO<|nO ?_
 refine nO<|nO<|tS (pT rfl rfl)<|Tn ?_
 obtain rfl := o1 hm
 exact jJ ⟨rfl, rfl, lr⟩
 rw [if_neg K] at hm
 refine tS (pF rfl rfl)<|mV rfl<|yS<|mV rfl<|yS<|mV rfl<|yS ?_
 refine Tb rfl (q5 rfl rfl) (fun L => ?_) (fun L => ?_)
 rw [if_pos L] at hm
 refine tS (pF rfl rfl)<|mV rfl<|nO<|nO<|nO<|nO<|nO<|tS (pT rfl rfl)<|Tn ?_
 obtain rfl := o1 hm
 exact jJ ⟨rfl, rfl, lr⟩
 rw [if_neg L] at hm
 refine tS (pF rfl rfl)<|mV rfl<|yS<|tS (sD (vs := [_, _]) 1 2 rfl agg25 rfl rfl rfl)<|yS<|tS (sD (vs := [_]) 0 1 rfl agg33 rfl rfl rfl)<|yS<|mV rfl<|yS ?_
 obtain ⟨a3, ao, hm⟩ := bS hm
 refine tD (uW _ call31 rfl (fun w ho => cGuideCheckJourney _ [] ((hG.le a).old ho) n (⟨D⟩ : GuideJourney) k E F G H V W ((h4.le a).old ho) ((h7.le a).old ho) (ac.old ho) a3 ao) (fun _ _ _ h => h.2.symm)) ?_
 rintro _ _ ⟨⟨_, rfl, _⟩, rfl⟩
 refine yS<|tS (q2 rfl rfl)<|tS (pF rfl rfl)<|Tn ?_
 obtain rfl := o1 hm
 exact jJ ⟨rfl, rfl, lr⟩
 rintro ad _ _ ⟨rfl, rfl, c⟩
 have hm := aI
 refine cB hm rfl (fun hm => ?_) fun hm => ?_
 refine Cr<|aS rfl<|Te<|Ct<|Xr ?_
 obtain rfl := o1 hm
 exact rO ⟨rfl, rfl⟩ (a.trans c)
 refine Ck<|Xn<|Cs<|Cr<|tS (sD (vs := [_, _]) 0 2 rfl agg25 rfl rfl rfl)<|tS (sD (vs := [_]) 1 1 rfl agg33 rfl rfl rfl)<|mV rfl ?_
 obtain ⟨⟨a4, a5, a6⟩, aq, hm⟩ := bS hm
 have hm := (unc3E hm)
 refine tD (uW _ call30 rfl (fun w ho => cGuideChance _ [] ((hG.le (a.trans c)).old ho) n (⟨D⟩ : GuideJourney) k [] E F G H V W none 0 ((h4.le (a.trans c)).old ho) ((h7.le (a.trans c)).old ho) ((ac.le c).old ho) FZ.nil a4 a5 a6 aq) (fun _ _ _ h => h.2.symm)) ?_
 rintro _ _ ⟨⟨_, rfl, _⟩, rfl⟩
 refine mV rfl<|tS (st_extract rfl rfl)<|tS (st_extract rfl rfl)<|tS (st_extract rfl rfl)<|aS rfl<|aS rfl<|aS rfl<|Te ?_
 obtain ⟨a7, aJ, aK⟩ := bS hm
 refine Cj (fun aC e' hp' => [(1, iv x8), (2, iv x9), (3, iv ab), (4, iv C), (5, iv k), (6, sv q o r), (7, pb i), (17, iv s), (18, iv t), (97, bv a7)] = e' ∧ (i, Cl 25 [sv E n.Trains F, sv G n.Turns H]) :: R = hp' ∧ ad.Le aC) ?_ ?_
 have hm := aJ
 refine Cg<|mV rfl ?_
 refine Tb rfl (q2 rfl rfl) (fun O => ?_) (fun O => ?_)
 rw [if_pos O] at hm
 refine mV rfl<|nO<|nO<|tS (pT rfl rfl)<|mV rfl<|nO<|nO<|tS (pT rfl rfl)<|Tn ?_
 obtain rfl := o1 hm
 exact jJ ⟨rfl, rfl, lr⟩
 rw [if_neg O] at hm
 refine mV rfl<|yS<|mV rfl<|yS ?_
 refine Tb rfl (q2 rfl rfl) (fun S => ?_) (fun S => ?_)
 rw [if_pos S] at hm
 refine tS (pF rfl rfl)<|mV rfl<|nO<|nO<|tS (pT rfl rfl)<|Tn ?_
 obtain rfl := o1 hm
 exact jJ ⟨rfl, rfl, lr⟩
 rw [if_neg S] at hm
 refine tS (pF rfl rfl)<|mV rfl<|yS<|mV rfl<|yS<|tS (q2 rfl rfl)<|tS (pF rfl rfl)<|Tn ?_
 obtain rfl := o1 hm
 exact jJ ⟨rfl, rfl, lr⟩
 rintro aC _ _ ⟨rfl, rfl, d⟩
 have hm := aK
 refine cB hm rfl (fun hm => ?_) fun hm => ?_
 refine Cr<|aS rfl<|Te<|Ct<|Xr ?_
 obtain rfl := o1 hm
 exact rO ⟨rfl, rfl⟩ (a.trans (c.trans d))
 refine Ck<|Xn<|Cr<|tS (sD (vs := [_, _]) 0 2 rfl agg25 rfl rfl rfl)<|mV rfl<|mV rfl<|mV rfl ?_
 obtain ⟨⟨a8, m⟩, ar, hm⟩ := bS hm
 have hm := (unc2E hm)
 refine Tg _ rfl call32 rfl (cGuideAll _ _ (hG.le (a.trans (c.trans d))) n x8 ab k 200 E F G H (h4.le (a.trans (c.trans d))) (h7.le (a.trans (c.trans d))) a8 m ar) ?_
 rintro _ a9 _ f ⟨ae, af, B, rfl, rfl, aD, bt⟩
 refine t_in1 [] [_] B R rfl<|mV rfl<|tS (st_extract rfl rfl)<|tS (st_extract rfl rfl)<|aS rfl<|aS rfl<|Te<|Cs<|Cr<|mV rfl ?_
 refine tS (q2 rfl rfl)<|Te ?_
 refine cI hm rfl (fun hm => ?_) fun hm => ?_
 refine Cr<|aS rfl<|Te<|Ct<|Xr ?_
 obtain rfl := o1 hm
 exact rO ⟨rfl, rfl⟩ (a.trans (c.trans (d.trans f)))
 refine Ck<|Xn<|Cs<|Cr<|mV rfl<|tS (sE rfl sl54)<|mV rfl<|Te<|Cb ?_
 have bm : m.length ≤ 9223372036854775807 := (OS.len aD)
 obtain ⟨bu, aL, l⟩ := bS hm
 refine lF (fun X => fun _ => fun Y e' hp' => [(2, iv x9), (4, iv C), (5, iv k), (6, sv q o r), (7, pb i), (17, iv s), (18, iv t), (108, sv ae m af), (109, iv ((m.length : Int))), (110, iv ((X : Int)))] = e' ∧ (i, Cl 25 [sv E n.Trains F, sv G n.Turns H]) :: (B ++ R) = hp' ∧ a9.Le Y) aL ⟨rfl, rfl, lr⟩ ?_ ?_
 rintro X _ Y _ _ bn ba ⟨rfl, rfl, e⟩ p x
 unfold mFishkeep2GuideSure_L261 at p
 have hm := p
 refine Cr<|tS (lT rfl rfl (by omega))<|Te<|Cs<|c_cond_t rfl<|Ck<|Xn<|Cs<|Cb<|Cr ?_
 obtain ⟨y, bb, hm⟩ := bS hm
 obtain ⟨bc, aM, aN⟩ := iS bb
 obtain ⟨bo, bp, bw, bx, bq, aO, au, ag, av, br, bl⟩ := OS.get (sz := 1) rfl (by decide) (aD.le e) aN
 obtain ⟨⟨z, A, rfl, Z⟩, rfl⟩ := aO
 refine tS (sI bc rfl rfl aM av ag sl54)<|tS (st_loadN_rd (vs := [sv z y.Rides A]) 1 rfl agg33 ag rfl (fun w ho j u hu => au w _ ho (.cons _ (List.sublist_append_left _ _)) j u hu))<|tD (uA [sn] zero33 rfl) ?_
 rintro _ _ ⟨aE, rfl, rfl⟩
 refine tD (uN (vs := [_]) 0 1 rfl rfl rfl siz33 rfl (mc rfl mn) rfl (by simp)) ?_
 rintro _ _ rfl
 refine Te<|Cs<|Cr<|tS (sD (vs := [_, _]) 1 2 rfl agg25 rfl rfl rfl)<|tS (sD (vs := [_]) 0 1 rfl agg33 rfl rfl rfl)<|mV rfl ?_
 obtain ⟨bd, aw, hm⟩ := bS hm
 refine tD (uW _ call14 rfl (fun w ho => cFishref2JourneyFault _ [] n y k true E F G H z A ((h4.le (a.trans (c.trans (d.trans (f.trans e))))).old ho) ((h7.le (a.trans (c.trans (d.trans (f.trans e))))).old ho) (Z.old ho) bd aw) (fun _ _ _ h => h.2.symm)) ?_
 rintro _ _ ⟨⟨_, rfl, _⟩, rfl⟩
 refine tS (q2 rfl rfl)<|Te ?_
 refine cI hm rfl (fun hm => ?_) fun hm => ?_
 refine Cr<|aS rfl<|Te<|Ct<|Xr<|Xb<|Xr<|Xr<|Xb<|Xr ?_
 have aP := x _ (Option.some.inj hm).symm
 rw [aP] at l
 have hm := elimR l
 obtain rfl := o1 hm
 exact rO ⟨rfl, rfl⟩ (a.trans (c.trans (d.trans (f.trans e))))
 refine Ck<|Xn<|Cs ?_
 obtain ⟨be, aQ, aR⟩ := bS hm
 refine Cj (fun ah e' hp' => [(2, iv x9), (4, iv C), (5, iv k), (6, sv q o r), (7, pb i), (17, iv s), (18, iv t), (24, pb aE), (108, sv ae m af), (109, iv ((m.length : Int))), (110, iv ((X : Int))), (130, bv be)] = e' ∧ (i, Cl 25 [sv E n.Trains F, sv G n.Turns H]) :: (aE, Cl 33 [sv z y.Rides A]) :: (B ++ R) = hp' ∧ Y.Le ah) ?_ ?_
 have hm := aQ
 refine Cg<|tS (sD (vs := [_, _]) 1 2 rfl agg25 rfl rfl rfl)<|tS (sD (vs := [_]) 0 1 rfl agg33 rfl rfl rfl) ?_
 obtain ⟨bf, ax, hm⟩ := bS hm
 refine tD (uW _ call16 rfl (fun w ho => cFishref2Leaves _ [] n y E F G H z A ((h4.le (a.trans (c.trans (d.trans (f.trans e))))).old ho) ((h7.le (a.trans (c.trans (d.trans (f.trans e))))).old ho) (Z.old ho) bf ax) (fun _ _ _ h => h.2.symm)) ?_
 rintro _ _ ⟨⟨_, rfl, _⟩, rfl⟩
 refine mV rfl ?_
 refine Tb rfl (q3 rfl rfl) (fun T => ?_) (fun T => ?_)
 rw [if_pos T] at hm
 refine mV rfl<|nO<|nO<|nO<|nO<|nO<|tS (pT rfl rfl)<|Tn ?_
 obtain rfl := o1 hm
 exact jJ ⟨rfl, rfl, lr⟩
 rw [if_neg T] at hm
 refine mV rfl<|yS<|tS (sD (vs := [_, _]) 1 2 rfl agg25 rfl rfl rfl)<|yS<|tS (sD (vs := [_]) 0 1 rfl agg33 rfl rfl rfl)<|yS ?_
 obtain ⟨bg, ay, hm⟩ := bS hm
 refine tD (uW _ call15 rfl (fun w ho => cFishref2Arrives _ [] n y E F G H z A ((h4.le (a.trans (c.trans (d.trans (f.trans e))))).old ho) ((h7.le (a.trans (c.trans (d.trans (f.trans e))))).old ho) (Z.old ho) bg ay) (fun _ _ _ h => h.2.symm)) ?_
 rintro _ _ ⟨⟨_, rfl, _⟩, rfl⟩
 refine yS<|mV rfl<|yS<|tS (q5 rfl rfl)<|tS (pF rfl rfl)<|Tn ?_
 obtain rfl := o1 hm
 exact jJ ⟨rfl, rfl, lr⟩
 rintro ah _ _ ⟨rfl, rfl, g⟩
 have hm := aR
 refine cB hm rfl (fun hm => ?_) fun hm => ?_
 refine Ce<|Xe<|Xo<|Xn<|Cg<|tS (sa rfl rfl (by omega))<|mV rfl<|Tn ?_
 exact jM hm ⟨rfl, rfl, ((e.trans g))⟩
 refine Ck<|Xn<|Cr<|tS (sD (vs := [_, _]) 0 2 rfl agg25 rfl rfl rfl)<|tS (sD (vs := [_]) 1 1 rfl agg33 rfl rfl rfl)<|mV rfl<|mV rfl ?_
 obtain ⟨⟨bh, bi, bj⟩, az, hm⟩ := bS hm
 have hm := (unc3E hm)
 refine tD (uW _ call30 rfl (fun w ho => cGuideChance _ [] ((hG.le (a.trans (c.trans (d.trans (f.trans (e.trans g)))))).old ho) n y k o E F G H z A q r ((h4.le (a.trans (c.trans (d.trans (f.trans (e.trans g)))))).old ho) ((h7.le (a.trans (c.trans (d.trans (f.trans (e.trans g)))))).old ho) ((Z.le g).old ho) ((aG.le (a.trans (c.trans (d.trans (f.trans (e.trans g)))))).old ho) bh bi bj az) (fun _ _ _ h => h.2.symm)) ?_
 rintro _ _ ⟨⟨_, rfl, _⟩, rfl⟩
 refine mV rfl<|tS (st_extract rfl rfl)<|tS (st_extract rfl rfl)<|tS (st_extract rfl rfl)<|aS rfl<|aS rfl<|aS rfl<|Te ?_
 obtain ⟨bk, aT, aU⟩ := bS hm
 refine Cj (fun aF e' hp' => [(2, iv x9), (4, iv C), (5, iv k), (6, sv q o r), (7, pb i), (17, iv s), (18, iv t), (108, sv ae m af), (109, iv ((m.length : Int))), (110, iv ((X : Int))), (150, bv bk)] = e' ∧ (i, Cl 25 [sv E n.Trains F, sv G n.Turns H]) :: (B ++ R) = hp' ∧ ah.Le aF) ?_ ?_
 have hm := aT
 refine Cg<|mV rfl ?_
 refine Tb rfl (q2 rfl rfl) (fun U => ?_) (fun U => ?_)
 rw [if_pos U] at hm
 refine mV rfl<|nO<|nO<|nO<|nO<|nO<|nO<|nO<|tS (pT rfl rfl)<|Tn ?_
 obtain rfl := o1 hm
 exact jJ ⟨rfl, rfl, lr⟩
 rw [if_neg U] at hm
 refine mV rfl<|yS<|mV rfl<|yS<|mV rfl<|yS ?_
 obtain ⟨_, ai, hm⟩ := bS hm
 have ai := (kS ai).2
 refine tS (st_mul rfl rfl ai)<|yS<|mV rfl<|yS<|mV rfl<|yS ?_
 obtain ⟨_, aj, hm⟩ := bS hm
 have aj := (kS aj).2
 refine tS (st_mul rfl rfl aj)<|yS<|tS (q5 rfl rfl)<|tS (pF rfl rfl)<|Tn ?_
 obtain rfl := o1 hm
 exact jJ ⟨rfl, rfl, lr⟩
 rintro aF _ _ ⟨rfl, rfl, aa⟩
 have hm := aU
 refine cB hm rfl (fun hm => ?_) fun hm => ?_
 refine Cr<|aS rfl<|Te<|Ct<|Xb<|Xr<|Xr<|Xb<|Xr ?_
 have aV := x _ (Option.some.inj hm).symm
 rw [aV] at l
 have hm := elimR l
 obtain rfl := o1 hm
 exact rO ⟨rfl, rfl⟩ (a.trans (c.trans (d.trans (f.trans (e.trans (g.trans aa))))))
 refine Ck<|Xm<|Xn<|Cg<|tS (sa rfl rfl (by omega))<|mV rfl<|Tn ?_
 exact jM hm ⟨rfl, rfl, ((e.trans (g.trans aa)))⟩
 rintro _ Y _ _ ⟨rfl, rfl, e⟩ aW
 rw [aW] at l
 have hm := elimL l
 refine Cr<|tS (lF rfl rfl (by omega))<|Te<|Cs<|c_cond_f rfl<|Ce<|Xe<|Xe<|Xo<|Xn ?_
 refine Cr<|aS rfl<|Te<|Ct ?_
 obtain rfl := o1 hm
 exact rO ⟨rfl, rfl⟩ (a.trans (c.trans (d.trans (f.trans e))))

end Go.Proofs.YtckgfeglhjiflaaDoor
