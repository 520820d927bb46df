/- Contracts: the code computes its model (part 3). -/
import Derived.Test.YtckgfeglhjiflaaDoorWP2
set_option linter.unusedVariables false
set_option linter.unusedSimpArgs false
namespace Go.Proofs.YtckgfeglhjiflaaDoor
open Go.RowKit Go.Fp

open Go.Fp renaming t_ne → Te, t_nil → Tn, t_bool → Tb, t_callG → Tg, t_callvG → Tv, t_resp → Tr, c_sr → Cr, c_seq → Cs, c_region → Cg, c_block → Cb, c_ret → Ct, c_skip → Ck, c_exit → Ce, c_join → Cj, c_pullb → Cp, x_then_normal → Xn, x_then_ret → Xr, x_then_exit → Xe, x_block_ret → Xb, x_block_normal → Xm, x_block_out → Xo, x_pullb → Xp, x_front2 → X2, x_front5 → X5, x_front6 → X6, E_st → Es, E_s0 → E0, E_yes → Ey, E_y0 → Yz, E_in → Ei, E_il → El, E_out → Eo, D_all → Da, D_done → Dd, D_drawI → Di, R_do → Rd2, R_nil → Rn, R_callGl → Rg, st_load → sL, st_loadD → sD, st_field → sF, st_nil → sN, st_len → sE, st_move → sM, st_assign → sA, st_pick_t → pT, st_pick_f → pF, st_index_old → sI, st_load_old → sO, st_loadN_old → sP, st_field_old → sQ, st_add → sa, st_sub → sb, st_lss_t → lT, st_lss_f → lF, st_eql_t → eT, st_eql_f → eF, st_not → sn2, st_build → sB, u_box → uB, u_alloc → uA, u_storeN → uN, u_callW0 → uW, u_putOS → uP, fn_enterG → fE, bindS → bS, some1 → o1, idx_some → iS, sub_skip → ss, sub_app → sp, chk_some → kS, mem_c → mc, mem_n → mn, st_eql → q1, st_neq → q2, st_lss → q3, st_geq → q6
set_option maxRecDepth 20000 in
theorem cFishref2JourneyFault (b : Base) (R : Hp) (C : ApiDay) (s : GuideJourney) (z A A2 c3 A5 c6 L m) (h4 : FZ rApiTrain b.w A2 c3 C.Trains) (h7 : FZ (RT.list rI) b.w A5 c6 C.Turns) (a2 : FZ rGuideRide b.w L m s.Rides) (aZ) (hm : mFishref2JourneyFault C s z A = some aZ):
    CallsG Tryd.prog 14 [.agg #[sv A2 C.Trains c3, sv A5 C.Turns c6], .agg #[sv L s.Rides m], iv z, bv A] b (R) (fun v b' hp' => iv aZ = v ∧ R = hp') := by
 refine fE 125 Tryd.func14 rfl Tryd.ntmps14 rfl ?_
 unfold mFishref2JourneyFault at hm
 refine Cr<|tD (uB _ rfl rfl) ?_
 rintro _ _ ⟨i, rfl, rfl⟩
 refine tD (uB _ rfl rfl) ?_
 rintro _ _ ⟨k, rfl, rfl⟩
 refine aS rfl<|Te<|Cs<|Cr<|mV rfl ?_
 obtain ⟨bt, av, hm⟩ := bS hm
 refine tD (uW _ call35 rfl (fun w ho => cFishref2Within _ [] z 0 28800 bt av) (fun _ _ _ h => h.2.symm)) ?_
 rintro _ _ ⟨⟨_, rfl, _⟩, rfl⟩
 refine tS (sn2 rfl)<|Te ?_
 refine cM hm rfl (fun hm => ?_) fun hm => ?_
 refine Cr<|aS rfl<|Te<|Ct<|Xr ?_
 obtain rfl := o1 hm
 exact rO ⟨rfl, rfl⟩ lr
 refine Ck<|Xn<|Cs<|Cr<|tS (sF rfl fld33_0)<|tS (sL 0 rfl one31 rfl rfl)<|tS (sE rfl sl31) ?_
 obtain ⟨bu, aw, hm⟩ := bS hm
 refine tD (uW _ call35 rfl (fun w ho => cFishref2Within _ [] (s.Rides.length : Int) 1 4 bu aw) (fun _ _ _ h => h.2.symm)) ?_
 rintro _ _ ⟨⟨_, rfl, _⟩, rfl⟩
 refine tS (sn2 rfl)<|Te ?_
 refine cM hm rfl (fun hm => ?_) fun hm => ?_
 refine Cr<|aS rfl<|Te<|Ct<|Xr ?_
 obtain rfl := o1 hm
 exact rO ⟨rfl, rfl⟩ lr
 refine Ck<|Xn<|Cs<|Cr<|tS (sF rfl fld33_0)<|tS (sL 0 rfl one31 rfl rfl)<|tS (sE rfl sl31)<|mV rfl<|Te<|Cb ?_
 have bI : s.Rides.length ≤ 9223372036854775807 := (FZ.bd a2)
 refine Cp 1 rfl ?_
 obtain ⟨bZ, a3, e⟩ := bS hm
 refine lF (fun n => fun _ => fun O e' hp' => [(2, iv z), (3, bv A), (4, pb i), (5, pb k), (23, sv L s.Rides m), (24, iv ((s.Rides.length : Int))), (25, iv ((n : Int)))] = e' ∧ (i, Cl 25 [sv A2 C.Trains c3, sv A5 C.Turns c6]) :: (k, Cl 33 [sv L s.Rides m]) :: R = hp' ∧ b.Le O) a3 ⟨rfl, rfl, lr⟩ ?_ ?_
 rintro n _ O _ _ bJ bw ⟨rfl, rfl, a⟩ t g
 unfold mFishref2JourneyFault_L599 at t
 have hm := t
 refine Cr<|tS (lT rfl rfl (by omega))<|Te<|Cs<|c_cond_t rfl<|Ck<|Xn<|Cs<|Cb<|Cr ?_
 refine mV rfl ?_
 obtain ⟨f, bx, bK, a4, bL, a5, ax, W, ay, hm⟩ := bF (sz := 3) hm (a2.le a)
 obtain ⟨_, _, rfl, rfl, ⟨_, _, rfl, rfl, rfl⟩⟩ := a5
 refine tS (sI bx rfl rfl a4 ay W sl31)<|tS (sP (vs := [iv f.Train, iv f.On, iv f.Off]) 3 rfl agg86 W rfl (fun j u hu => ax j u hu))<|tD (uA [iv 0, iv 0, iv 0] zero86 rfl) ?_
 rintro _ _ ⟨q, rfl, rfl⟩
 refine aS rfl<|tD (uN (vs := [_, _, _]) 0 3 rfl rfl rfl siz86 rfl (mc rfl (mc rfl (mc rfl mn))) rfl (by simp)) ?_
 rintro _ _ rfl
 refine Te<|Cs ?_
 obtain ⟨bz, a6, a7⟩ := bS hm
 refine Cj (fun X e' hp' => [(2, iv z), (3, bv A), (4, pb i), (5, pb k), (9, iv ((n : Int))), (10, pb q), (23, sv L s.Rides m), (24, iv ((s.Rides.length : Int))), (25, iv ((n : Int))), (40, bv bz)] = e' ∧ (i, Cl 25 [sv A2 C.Trains c3, sv A5 C.Turns c6]) :: (k, Cl 33 [sv L s.Rides m]) :: (q, Cl 86 [iv f.Train, iv f.On, iv f.Off]) :: R = hp' ∧ O.Le X) ?_ ?_
 have hm := a6
 refine Cg<|tS (sF rfl fld86_0)<|tS (sL 0 rfl one3 rfl rfl) ?_
 refine Tb rfl (q3 rfl rfl) (fun E => ?_) (fun E => ?_)
 rw [if_pos E] at hm
 refine mV rfl<|nO<|nO<|nO<|nO<|nO<|nO<|tS (pT rfl rfl)<|Tn ?_
 obtain rfl := o1 hm
 exact jJ ⟨rfl, rfl, lr⟩
 rw [if_neg E] at hm
 refine mV rfl<|yS<|tS (sF rfl fld86_0)<|yS<|tS (sL 0 rfl one3 rfl rfl)<|yS<|tS (sF rfl fld25_0)<|yS<|tS (sL 1 rfl one22 rfl rfl)<|yS ?_
 refine tS (sE rfl sl22)<|yS<|tS (q6 rfl rfl)<|tS (pF rfl rfl)<|Tn ?_
 obtain rfl := o1 hm
 exact jJ ⟨rfl, rfl, lr⟩
 rintro X _ _ ⟨rfl, rfl, c⟩
 have hm := a7
 refine cB hm rfl (fun hm => ?_) fun hm => ?_
 refine Cr<|aS rfl<|Te<|Ct<|Xr<|Xb<|Xr<|Xr<|Xb<|Xr ?_
 have a8 := g _ (Option.some.inj hm).symm
 rw [a8] at e
 have hm := elimR e
 obtain rfl := o1 hm
 exact rO ⟨rfl, rfl⟩ (a.trans c)
 refine Ck<|Xn<|Cr<|tS (sF rfl fld25_0)<|tS (sL 0 rfl one22 rfl rfl)<|tS (sF rfl fld86_0)<|tS (sL 2 rfl one3 rfl rfl) ?_
 obtain ⟨Y, bA, bM, a9, bN, ba, az, Z, aA, hm⟩ := bF (sz := 4) hm (h4.le (a.trans c))
 obtain ⟨_, _, rfl, rfl, ⟨_, _, rfl, rfl, ⟨_, _, rfl, ⟨aa, ab, rfl, a0⟩, ⟨b0, b1, rfl, b2⟩⟩⟩⟩ := ba
 refine tS (sI bA rfl rfl a9 aA Z sl22)<|tS (sQ rfl Z fld47_2)<|tS (sO rfl one45 (az 2 _ rfl))<|aS rfl<|Te<|Cs ?_
 obtain ⟨bB, bb, bc⟩ := bS hm
 refine Cj (fun ac e' hp' => [(2, iv z), (3, bv A), (4, pb i), (5, pb k), (9, iv ((n : Int))), (10, pb q), (11, sv aa Y.Stops ab), (23, sv L s.Rides m), (24, iv ((s.Rides.length : Int))), (25, iv ((n : Int))), (69, bv bB)] = e' ∧ (i, Cl 25 [sv A2 C.Trains c3, sv A5 C.Turns c6]) :: (k, Cl 33 [sv L s.Rides m]) :: (q, Cl 86 [iv f.Train, iv f.On, iv f.Off]) :: R = hp' ∧ X.Le ac) ?_ ?_
 have hm := bb
 refine Cg<|tS (sF rfl fld86_1)<|tS (sL 2 rfl one3 rfl rfl) ?_
 refine Tb rfl (q3 rfl rfl) (fun F => ?_) (fun F => ?_)
 rw [if_pos F] at hm
 refine mV rfl<|nO<|nO<|nO<|nO<|nO<|tS (pT rfl rfl)<|mV rfl<|nO<|nO ?_
 refine nO<|tS (pT rfl rfl)<|mV rfl<|nO<|nO<|nO<|nO<|nO<|tS (pT rfl rfl)<|Tn ?_
 obtain rfl := o1 hm
 exact jJ ⟨rfl, rfl, lr⟩
 rw [if_neg F] at hm
 refine mV rfl<|yS<|tS (sF rfl fld86_1)<|yS<|tS (sL 2 rfl one3 rfl rfl)<|yS<|mV rfl<|yS<|tS (sE rfl sl45)<|yS ?_
 refine Tb rfl (q6 rfl rfl) (fun G => ?_) (fun G => ?_)
 rw [if_pos G] at hm
 refine tS (pF rfl rfl)<|mV rfl<|nO<|nO<|nO<|tS (pT rfl rfl)<|mV rfl<|nO<|nO<|nO ?_
 refine nO<|nO<|tS (pT rfl rfl)<|Tn ?_
 obtain rfl := o1 hm
 exact jJ ⟨rfl, rfl, lr⟩
 rw [if_neg G] at hm
 refine tS (pF rfl rfl)<|mV rfl<|yS<|tS (sF rfl fld86_2)<|yS<|tS (sL 2 rfl one3 rfl rfl)<|yS ?_
 refine Tb rfl (q3 rfl rfl) (fun H => ?_) (fun H => ?_)
 rw [if_pos H] at hm
 refine tS (pF rfl rfl)<|mV rfl<|nO<|nO<|nO<|nO<|nO<|tS (pT rfl rfl)<|Tn ?_
 obtain rfl := o1 hm
 exact jJ ⟨rfl, rfl, lr⟩
 rw [if_neg H] at hm
 refine tS (pF rfl rfl)<|mV rfl<|yS<|tS (sF rfl fld86_2)<|yS<|tS (sL 2 rfl one3 rfl rfl)<|yS<|mV rfl<|yS<|tS (sE rfl sl45) ?_
 refine yS<|tS (q6 rfl rfl)<|tS (pF rfl rfl)<|Tn ?_
 obtain rfl := o1 hm
 exact jJ ⟨rfl, rfl, lr⟩
 rintro ac _ _ ⟨rfl, rfl, d⟩
 have hm := bc
 refine cB hm rfl (fun hm => ?_) fun hm => ?_
 refine Cr<|aS rfl<|Te<|Ct<|Xr<|Xb<|Xr<|Xr<|Xb<|Xr ?_
 have bd := g _ (Option.some.inj hm).symm
 rw [bd] at e
 have hm := elimR e
 obtain rfl := o1 hm
 exact rO ⟨rfl, rfl⟩ (a.trans (c.trans d))
 refine Ck<|Xn<|Cs<|Cr<|tS (sF rfl fld86_1)<|tS (sL 2 rfl one3 rfl rfl)<|tS (sF rfl fld86_2)<|tS (sL 2 rfl one3 rfl rfl)<|tS (q6 rfl rfl)<|Te ?_
 refine cI hm rfl (fun hm => ?_) fun hm => ?_
 refine Cr<|aS rfl<|Te<|Ct<|Xr<|Xb<|Xr<|Xr<|Xb<|Xr ?_
 have be := g _ (Option.some.inj hm).symm
 rw [be] at e
 have hm := elimR e
 obtain rfl := o1 hm
 exact rO ⟨rfl, rfl⟩ (a.trans (c.trans d))
 refine Ck<|Xn<|Cs<|Cr<|mV rfl<|tS (q1 rfl rfl)<|Te ?_
 refine cI hm rfl (fun hm => ?_) fun hm => ?_
 refine Ce<|Xe<|Xo<|Xn<|Cg<|tS (sa rfl rfl (by omega))<|mV rfl<|Tn ?_
 exact jM hm ⟨rfl, rfl, ((a.trans (c.trans d)))⟩
 refine Ck<|Xn<|Cr<|tS (sF rfl fld33_0)<|tS (sL 1 rfl one31 rfl rfl)<|mV rfl ?_
 obtain ⟨_, ad, hm⟩ := bS hm
 have ad := (kS ad).2
 refine tS (sb rfl rfl ad) ?_
 obtain ⟨x, bC, bO, bf, bP, bg, aB, ae, aC, hm⟩ := bF (sz := 3) hm (a2.le (a.trans (c.trans d)))
 obtain ⟨_, _, rfl, rfl, ⟨_, _, rfl, rfl, rfl⟩⟩ := bg
 refine tS (sI bC rfl rfl bf aC ae sl31)<|tS (sP (vs := [iv x.Train, iv x.On, iv x.Off]) 3 rfl agg86 ae rfl (fun j u hu => aB j u hu))<|tD (uA [iv 0, iv 0, iv 0] zero86 rfl) ?_
 rintro _ _ ⟨a1, rfl, rfl⟩
 refine tD (uN (vs := [_, _, _]) 0 3 rfl rfl rfl siz86 rfl (mc rfl (mc rfl (mc rfl mn))) rfl (by simp)) ?_
 rintro _ _ rfl
 refine Te ?_
 obtain ⟨⟨af, ag, ah, ai⟩, aD, aE⟩ := bS hm
 refine Cj (fun I e' hp' => ∃ y, [(2, iv z), (3, bv A), (4, pb i), (5, pb k), (10, pb q), (11, sv aa Y.Stops ab), (12, pb a1), (13, pb y), (23, sv L s.Rides m), (24, iv ((s.Rides.length : Int))), (25, iv ((n : Int)))] = e' ∧ (i, Cl 25 [sv A2 C.Trains c3, sv A5 C.Turns c6]) :: (k, Cl 33 [sv L s.Rides m]) :: (q, Cl 86 [iv f.Train, iv f.On, iv f.Off]) :: (a1, Cl 86 [iv x.Train, iv x.On, iv x.Off]) :: (y, Cl 83 [iv af, iv ag, iv ah, iv ai]) :: R = hp' ∧ ac.Le I) ?_ ?_
 have hm := aD
 obtain ⟨bQ, bh, hm⟩ := bS hm
 obtain ⟨B, bi, hm⟩ := bS hm
 refine Di mixed (.refl _)<|E0 0 rfl (sF rfl fld25_0)<|Es 1 rfl (sL 1 rfl one22 rfl rfl)<|E0 2 rfl (sF rfl fld86_0)<|Es 3 rfl (sL 0 rfl one3 rfl rfl) ?_
 obtain ⟨bj, aF, aG⟩ := iS bh
 obtain ⟨bD, aH, aj, S, ak⟩ := FZ.get (sz := 4) rfl (by decide) (h4.le (a.trans (c.trans d))) aG
 obtain ⟨_, _, rfl, rfl, ⟨_, _, rfl, rfl, ⟨_, _, rfl, ⟨bR, bT, rfl, bk⟩, ⟨bU, bV, rfl, bW⟩⟩⟩⟩ := aH
 refine E0 4 rfl (sI bj rfl rfl aF ak S sl22)<|E0 5 rfl (sQ rfl S fld47_2)<|Es 6 rfl (sO rfl one45 (aj 2 _ rfl))<|E0 7 rfl (sF rfl fld86_2)<|Es 8 rfl (sL 0 rfl one3 rfl rfl) ?_
 obtain ⟨bl, aI, aJ⟩ := iS bi
 obtain ⟨bE, aK, al, T, am⟩ := FZ.get (sz := 4) rfl (by decide) bk aJ
 obtain ⟨_, _, rfl, rfl, ⟨_, _, rfl, rfl, ⟨_, _, rfl, rfl, rfl⟩⟩⟩ := aK
 refine E0 9 rfl (sI bl rfl rfl aI am T sl45)<|Es 10 rfl (sP (vs := [iv B.Station, iv B.Track, iv B.Arr, iv B.Dep]) 4 rfl agg83 T rfl (fun j u hu => al j u hu))<|Eo<|Da [11] (by kernel_rfl) rfl ?_
 refine Rd2 lr rfl rfl (uA [iv 0, iv 0, iv 0, iv 0] zero83 rfl) ?_ ?_
 rintro _ _ ⟨bm, rfl, rfl⟩
 refine iR<|Da [12] (by kernel_rfl) rfl ?_
 refine Rd2 lr rfl rfl (uN (vs := [_, _, _, _]) 0 4 rfl rfl rfl siz83 rfl (mc rfl (mc rfl (mc rfl (mc rfl mn)))) rfl (by simp)) ?_ ?_
 rintro _ _ rfl
 refine ⟨.inl (by kernel_rfl), ?_⟩
 refine Dd (by kernel_rfl) ?_
 obtain ⟨rfl, rfl, rfl, rfl⟩ := some4 hm
 exact jJ ⟨bm, rfl, rfl, lr⟩
 exact Rn
 exact Rn
 rintro I _ _ ⟨y, rfl, rfl, l⟩
 have hm := (unc4E aE)
 refine Cs ?_
 obtain ⟨bn, aL, aM⟩ := bS hm
 refine Cj (fun J e' hp' => [(2, iv z), (3, bv A), (4, pb i), (5, pb k), (10, pb q), (11, sv aa Y.Stops ab), (13, pb y), (23, sv L s.Rides m), (24, iv ((s.Rides.length : Int))), (25, iv ((n : Int))), (109, bv bn)] = e' ∧ (i, Cl 25 [sv A2 C.Trains c3, sv A5 C.Turns c6]) :: (k, Cl 33 [sv L s.Rides m]) :: (q, Cl 86 [iv f.Train, iv f.On, iv f.Off]) :: (y, Cl 83 [iv af, iv ag, iv ah, iv ai]) :: R = hp' ∧ I.Le J) ?_ ?_
 have hm := aL
 by_cases r : x.Train = f.Train
 rw [if_pos r] at hm
 refine Di mixed (.refl _)<|E0 0 rfl (sF rfl fld86_0)<|Es 1 rfl (sL 3 rfl one3 rfl rfl)<|E0 2 rfl (sF rfl fld86_0)<|Es 3 rfl (sL 2 rfl one3 rfl rfl)<|E0 4 rfl (eT rfl rfl r)<|E0 5 rfl (sM rfl)<|eN 6 rfl<|eN 7 rfl<|eN 8 rfl ?_
 refine eN 9 rfl<|eN 10 rfl<|eN 11 rfl<|eN 12 rfl<|eN 13 rfl<|eN 14 rfl<|E0 15 rfl (pT rfl rfl)<|Eo<|Dd (by kernel_rfl) ?_
 obtain rfl := o1 hm
 exact jJ ⟨rfl, rfl, lr⟩
 rw [if_neg r] at hm
 obtain ⟨bX, bo, hm⟩ := bS hm
 refine Di mixed (.refl _)<|E0 0 rfl (sF rfl fld86_0)<|Es 1 rfl (sL 3 rfl one3 rfl rfl)<|E0 2 rfl (sF rfl fld86_0)<|Es 3 rfl (sL 2 rfl one3 rfl rfl)<|E0 4 rfl (eF rfl rfl r)<|E0 5 rfl (sM rfl)<|Yz 6 99 rfl (sM rfl)<|Yz 7 99 rfl (sF rfl fld86_1)<|Ey 8 99 rfl (sL 2 rfl one3 rfl rfl) ?_
 obtain ⟨bp, aN, aO⟩ := iS bo
 obtain ⟨bG, aP, an, U, ao⟩ := FZ.get (sz := 4) rfl (by decide) (a0.le (d.trans l)) aO
 obtain ⟨_, _, rfl, rfl, ⟨_, _, rfl, rfl, ⟨_, _, rfl, rfl, rfl⟩⟩⟩ := aP
 refine Yz 9 99 rfl (sI bp rfl rfl aN ao U sl45)<|Yz 10 99 rfl (sQ rfl U fld83_0)<|Ey 11 99 rfl (sO rfl one3 (an 0 _ rfl))<|Yz 12 99 rfl (sF rfl fld83_0)<|Ey 13 99 rfl (sL 4 rfl one3 rfl rfl)<|Yz 14 99 rfl (q2 rfl rfl)<|E0 15 rfl (pF rfl rfl)<|Eo<|Dd (by kernel_rfl) ?_
 obtain rfl := o1 hm
 exact jJ ⟨rfl, rfl, lr⟩
 rintro J _ _ ⟨rfl, rfl, o⟩
 have hm := aM
 refine cB hm rfl (fun hm => ?_) fun hm => ?_
 refine Cr<|aS rfl<|Te<|Ct<|Xr<|Xb<|Xr<|Xr<|Xb<|Xr ?_
 have aQ := g _ (Option.some.inj hm).symm
 rw [aQ] at e
 have hm := elimR e
 obtain rfl := o1 hm
 exact rO ⟨rfl, rfl⟩ (a.trans (c.trans (d.trans (l.trans o))))
 refine Ck<|Xn ?_
 obtain ⟨bq, aR, aT⟩ := bS hm
 refine Cj (fun aq e' hp' => [(2, iv z), (3, bv A), (4, pb i), (5, pb k), (23, sv L s.Rides m), (24, iv ((s.Rides.length : Int))), (25, iv ((n : Int))), (123, bv bq)] = e' ∧ (i, Cl 25 [sv A2 C.Trains c3, sv A5 C.Turns c6]) :: (k, Cl 33 [sv L s.Rides m]) :: R = hp' ∧ J.Le aq) ?_ ?_
 have hm := aR
 rcases Bool.eq_false_or_eq_true A with p | p
 rw [if_pos p] at hm
 obtain ⟨bY, br, hm⟩ := bS hm
 obtain ⟨_, K, hm⟩ := bS hm
 refine Di mixed (.refl _)<|E0 0 rfl (stB (sM rfl) p)<|E0 1 rfl (sM rfl)<|Yz 2 111 rfl (sM rfl)<|Yz 3 111 rfl (sF rfl fld86_1)<|Ey 4 111 rfl (sL 2 rfl one3 rfl rfl) ?_
 obtain ⟨bs, aU, aV⟩ := iS br
 obtain ⟨bH, aW, ar, V, au⟩ := FZ.get (sz := 4) rfl (by decide) (a0.le (d.trans (l.trans o))) aV
 obtain ⟨_, _, rfl, rfl, ⟨_, _, rfl, rfl, ⟨_, _, rfl, rfl, rfl⟩⟩⟩ := aW
 refine Yz 5 111 rfl (sI bs rfl rfl aU au V sl45)<|Yz 6 111 rfl (sQ rfl V fld83_3)<|Ey 7 111 rfl (sO rfl one3 (ar 3 _ rfl))<|Yz 8 111 rfl (sF rfl fld83_2)<|Ey 9 111 rfl (sL 3 rfl one3 rfl rfl)<|Yz 10 111 rfl (sM rfl) ?_
 have K := (kS K).2
 refine Yz 11 111 rfl (sa rfl rfl K)<|Yz 12 111 rfl (q3 rfl rfl)<|E0 13 rfl (pT rfl rfl)<|Eo<|Dd (by kernel_rfl) ?_
 obtain rfl := o1 hm
 exact jJ ⟨rfl, rfl, lr⟩
 rw [if_neg (fun hh => Bool.noConfusion (hh.symm.trans p))] at hm
 refine Di mixed (.refl _)<|E0 0 rfl (stB (sM rfl) p)<|E0 1 rfl (sM rfl)<|eN 2 rfl<|eN 3 rfl<|eN 4 rfl<|eN 5 rfl<|eN 6 rfl<|eN 7 rfl<|eN 8 rfl ?_
 refine eN 9 rfl<|eN 10 rfl<|eN 11 rfl<|eN 12 rfl<|E0 13 rfl (pF rfl rfl)<|Eo<|Dd (by kernel_rfl) ?_
 obtain rfl := o1 hm
 exact jJ ⟨rfl, rfl, lr⟩
 rintro aq _ _ ⟨rfl, rfl, D⟩
 have hm := aT
 refine cB hm rfl (fun hm => ?_) fun hm => ?_
 refine Cr<|aS rfl<|Te<|Ct<|Xb<|Xr<|Xr<|Xb<|Xr ?_
 have aX := g _ (Option.some.inj hm).symm
 rw [aX] at e
 have hm := elimR e
 obtain rfl := o1 hm
 exact rO ⟨rfl, rfl⟩ (a.trans (c.trans (d.trans (l.trans (o.trans D)))))
 refine Ck<|Xm<|Xn<|Cg<|tS (sa rfl rfl (by omega))<|mV rfl<|Tn ?_
 exact jM hm ⟨rfl, rfl, ((a.trans (c.trans (d.trans (l.trans (o.trans D))))))⟩
 rintro _ O _ _ ⟨rfl, rfl, a⟩ aY
 rw [aY] at e
 have hm := elimL e
 refine Cr<|tS (lF rfl rfl (by omega))<|Te<|Cs<|c_cond_f rfl<|Ce<|Xe<|Xe<|Xo<|Xn ?_
 refine Cr<|aS rfl<|Te<|Ct ?_
 obtain rfl := o1 hm
 exact rO ⟨rfl, rfl⟩ a

set_option maxRecDepth 20000 in
theorem cFishref2Leaves (b : Base) (R : Hp) (s : ApiDay) (E : GuideJourney) (J K L O S t) (h4 : FZ rApiTrain b.w J K s.Trains) (h7 : FZ (RT.list rI) b.w L O s.Turns) (F : FZ rGuideRide b.w S t E.Rides) (w) (hm : mFishref2Leaves s E = some w):
    CallsG Tryd.prog 16 [.agg #[sv J s.Trains K, sv L s.Turns O], .agg #[sv S E.Rides t]] b (R) (fun v b' hp' => iv w = v ∧ R = hp') := by
 refine fE 22 Tryd.func16 rfl Tryd.ntmps16 rfl ?_
 unfold mFishref2Leaves at hm
 refine Cr<|tD (uB _ rfl rfl) ?_
 rintro _ _ ⟨ac, rfl, rfl⟩
 refine tD (uB _ rfl rfl) ?_
 rintro _ _ ⟨ad, rfl, rfl⟩
 refine aS rfl<|Te<|Cr<|tS (sF rfl fld33_0)<|tS (sL 0 rfl one31 rfl rfl) ?_
 obtain ⟨i, G, T, x, U, y, k, h, l, hm⟩ := bF (sz := 3) hm F
 obtain ⟨_, _, rfl, rfl, ⟨_, _, rfl, rfl, rfl⟩⟩ := y
 refine tS (sI G rfl rfl x l h sl31)<|tS (sP (vs := [iv i.Train, iv i.On, iv i.Off]) 3 rfl agg86 h rfl (fun j u hu => k j u hu))<|tD (uA [iv 0, iv 0, iv 0] zero86 rfl) ?_
 rintro _ _ ⟨ae, rfl, rfl⟩
 refine tD (uN (vs := [_, _, _]) 0 3 rfl rfl rfl siz86 rfl (mc rfl (mc rfl (mc rfl mn))) rfl (by simp)) ?_
 rintro _ _ rfl
 refine Te<|Cs ?_
 obtain ⟨V, z, hm⟩ := bS hm
 obtain ⟨W, A, hm⟩ := bS hm
 refine Di mixed (.refl _)<|E0 0 rfl (sF rfl fld25_0)<|Es 1 rfl (sL 2 rfl one22 rfl rfl)<|E0 2 rfl (sF rfl fld86_0)<|Es 3 rfl (sL 0 rfl one3 rfl rfl) ?_
 obtain ⟨B, m, n⟩ := iS z
 obtain ⟨H, o, d, a, e⟩ := FZ.get (sz := 4) rfl (by decide) h4 n
 obtain ⟨_, _, rfl, rfl, ⟨_, _, rfl, rfl, ⟨_, _, rfl, ⟨X, Y, rfl, C⟩, ⟨Z, aa, rfl, ab⟩⟩⟩⟩ := o
 refine E0 4 rfl (sI B rfl rfl m e a sl22)<|E0 5 rfl (sQ rfl a fld47_2)<|Es 6 rfl (sO rfl one45 (d 2 _ rfl))<|E0 7 rfl (sF rfl fld86_1)<|Es 8 rfl (sL 0 rfl one3 rfl rfl) ?_
 obtain ⟨D, p, q⟩ := iS A
 obtain ⟨I, r, f, c, g⟩ := FZ.get (sz := 4) rfl (by decide) C q
 obtain ⟨_, _, rfl, rfl, ⟨_, _, rfl, rfl, ⟨_, _, rfl, rfl, rfl⟩⟩⟩ := r
 refine E0 9 rfl (sI D rfl rfl p g c sl45)<|E0 10 rfl (sQ rfl c fld83_3)<|Es 11 rfl (sO rfl one3 (f 3 _ rfl))<|E0 12 rfl (sA rfl)<|Eo<|Dd (by kernel_rfl)<|Xn<|Ct ?_
 obtain rfl := o1 hm
 exact rO ⟨rfl, rfl⟩ lr

set_option maxRecDepth 20000 in
theorem clSlicesClone_6 (A : Option Addr) (n c : Nat) (xs : List Value) (w : World) (hR : Rd w A xs) (hl : xs.length = n * 5) (hn : n * 40 ≤ 140737488355328 ∧ n ≤ 9223372036854775807) :
    CallsH Tryd.prog 62 [.slice A n c] w [] (fun v hp' => Seg0 68 5 v n xs hp') := by
  refine fn_enter 8 Tryd.func62 rfl Tryd.ntmps62 rfl ?_
  refine c_sr ?_
  refine t_as rfl rfl ?_
  refine t_ne ?_
  refine c_seq ?_
  refine c_sr ?_
  refine t_mv rfl rfl ?_
  refine t_bool rfl (st_eqnil rfl rfl sl58) (fun hc1 => ?_) (fun hc1 => ?_)
  ·
    refine t_ne ?_
    refine c_cond_t rfl ?_
    refine c_sr ?_
    refine t_as rfl rfl ?_
    refine t_ne ?_
    refine c_ret ?_
    refine x_then_ret ?_
    subst hc1
    obtain rfl := hR.none_nil
    obtain rfl : n = 0 := by simp at hl; omega
    refine x_drop (hp' := []) (by repeat (first | exact List.Sublist.refl _ | exact List.nil_sublist _ | exact List.sublist_append_left _ _ | exact List.sublist_append_right _ _ | exact (List.sublist_append_right _ _).trans (List.sublist_append_right _ _) | apply List.Sublist.cons_cons | apply List.Sublist.cons)) ?_
    exact ret1 (Base.Le.refl _) rfl rfl (Seg0.nil)
  ·
    refine t_ne ?_
    refine c_cond_f rfl ?_
    refine c_skip ?_
    refine x_then_normal ?_
    refine c_sr ?_
    refine t_do rfl (u_bslice (el := 68) [] [] rfl (fun _ => by kernel_rfl)) ?_
    rintro _ _ ⟨g0, rfl, rfl⟩
    refine t_mv rfl rfl ?_
    refine t_do rfl (u_app0 xs sl58 inf68 rfl (by decide) rfl rfl hl (fun w ho => hR.old ho) hn.2 hn.1) ?_
    rintro _ _ ⟨hs, rfl, hseg⟩
    refine t_as rfl rfl ?_
    refine t_ne ?_
    refine c_ret ?_
    refine x_drop (hp' := hs) (by repeat (first | exact List.Sublist.refl _ | exact List.nil_sublist _ | exact List.sublist_append_left _ _ | exact List.sublist_append_right _ _ | exact (List.sublist_append_right _ _).trans (List.sublist_append_right _ _) | apply List.Sublist.cons_cons | apply List.Sublist.cons)) ?_
    exact ret1 (Base.Le.refl _) rfl rfl hseg

set_option maxRecDepth 20000 in
theorem cSlicesClone_6 (b : Base) (R : Hp) (d e f) (i : FZ rGuideMessage b.w e f d) (a) (hm : mSlicesClone_6 d = some a):
    CallsG Tryd.prog 62 [sv e d f] b (R) (fun v b' hp' => ∃ g h c, sv g a h = v ∧ (c ++ R) = hp' ∧ OS 68 (OT.fr rGuideMessage) b'.w (sv g a h) a c) := by
 unfold mSlicesClone_6 at hm
 obtain ⟨_, hroom, hm⟩ := bS hm
 have hroom := room_some hroom
 obtain rfl := o1 hm
 exact clone_of (r := rGuideMessage) (sz := 5) (by_ := 40) rfl (by decide) clSlicesClone_6 i hroom

set_option maxRecDepth 20000 in
theorem cGuideDeskMessages (b : Base) (R : Hp) (f g k m c a n p q r s A D d B C e) (L : FZ rApiTrain b.w p q f) (O : FZ (RT.list rI) b.w r s g) (S : OS 119 oGuidePromise0 b.w (sv A c D) c d) (E : (A = none ↔ c = [])) (F : OS 68 (OT.fr rGuideMessage) b.w (sv B a C) a e) (i) (hm : mGuideDeskMessages f g k m c a = some i):
    CallsG Tryd.prog 27 [pb n] b ((n, Cl 116 [sv p f q, sv r g s, iv k, iv m, sv A c D, sv B a C]) :: (d ++ (e ++ R))) (fun v b' hp' => ∃ u x j, sv u i x = v ∧ (n, Cl 116 [sv p f q, sv r g s, iv k, iv m, sv A c D, sv B a C]) :: (j ++ (d ++ (e ++ R))) = hp' ∧ OS 68 (OT.fr rGuideMessage) b'.w (sv u i x) i j) := by
 refine fE 8 Tryd.func27 rfl Tryd.ntmps27 rfl ?_
 unfold mGuideDeskMessages at hm
 refine Cr<|aS rfl<|Te<|Cr<|mV rfl<|tS (sN rfl)<|tS (sF rfl fld116_3)<|tS (sL 0 rfl one58 rfl rfl) ?_
 obtain ⟨G, t, hm⟩ := bS hm
 refine tD (u_callWF [_] (d ++ (e ++ R)) _ rfl call62 rfl (fun w ho => cSlicesClone_6 _ [] a B C (OS.now (o := (OT.fr rGuideMessage)) (l := a) (hs := e) F ho (.cons _ (ss d (List.sublist_append_left _ _)))) G t)) ?_
 rintro _ _ ⟨_, _, rfl, H, I, y, rfl, z, J⟩
 obtain rfl := List.append_cancel_right z
 have K := flat_fz (w' := b.w) (cat_flat (fun _ _ _ _ h => h) (cat_flat (fun _ _ _ _ h => h) (cat_flat (fun _ _ _ _ h => h) (cat_flat (fun _ _ _ _ h => h) (fun _ _ _ _ h => h))))) J
 refine aS rfl<|Te<|Ct ?_
 obtain rfl := o1 hm
 exact rO ⟨H, I, y, rfl, rfl, K⟩ lr

set_option maxRecDepth 20000 in
theorem cSlicesEqual_2 (b : Base) (R : Hp) (D J K L O S) (X : FZ rGuideMessage b.w K L D) (Z : FZ rGuideMessage b.w O S J) (q) (hm : mSlicesEqual_2 D J = some q):
    CallsG Tryd.prog 26 [sv K D L, sv O J S] b (R) (fun v b' hp' => bv q = v ∧ R = hp') := by
 refine fE 26 Tryd.func26 rfl Tryd.ntmps26 rfl ?_
 unfold mSlicesEqual_2 at hm
 refine Cr<|aS rfl<|Te<|Cs<|Cr<|mV rfl<|tS (sE rfl sl58)<|mV rfl<|tS (sE rfl sl58)<|tS (q2 rfl rfl) ?_
 refine Te ?_
 refine cI hm rfl (fun hm => ?_) fun hm => ?_
 refine Cr<|aS rfl<|Te<|Ct<|Xr ?_
 obtain rfl := o1 hm
 exact rO ⟨rfl, rfl⟩ lr
 refine Ck<|Xn<|Cs<|Cr<|mV rfl<|tS (sE rfl sl58)<|mV rfl<|Te<|Cb ?_
 have T : D.length ≤ 9223372036854775807 := (FZ.bd X)
 obtain ⟨Y, s, f⟩ := bS hm
 refine lF (fun r => fun _ => fun h e' hp' => [(0, sv K D L), (1, sv O J S), (12, iv ((D.length : Int))), (13, iv ((r : Int)))] = e' ∧ R = hp' ∧ b.Le h) s ⟨rfl, rfl, lr⟩ ?_ ?_
 rintro r _ h _ _ U E ⟨rfl, rfl, d⟩ e g
 unfold mSlicesEqual_2_L104 at e
 have hm := e
 refine Cr<|tS (lT rfl rfl (by omega))<|Te<|Cs<|c_cond_t rfl<|Ck<|Xn<|Cs<|Cb<|Cr ?_
 refine mV rfl<|aS rfl<|Te<|Cs ?_
 obtain ⟨a, F, hm⟩ := bS hm
 obtain ⟨c, G, hm⟩ := bS hm
 refine Di mixed (.refl _)<|E0 0 rfl (sM rfl)<|E0 1 rfl (sM rfl) ?_
 obtain ⟨H, t, w⟩ := iS F
 obtain ⟨V, x, l, i, m⟩ := FZ.get (sz := 5) rfl (by decide) (X.le d) w
 obtain ⟨_, _, rfl, rfl, ⟨_, _, rfl, rfl, ⟨_, _, rfl, rfl, ⟨_, _, rfl, rfl, rfl⟩⟩⟩⟩ := x
 refine E0 2 rfl (sI H rfl rfl t m i sl58)<|Es 3 rfl (sP (vs := [iv a.At, iv a.Promise, iv a.Ride, iv a.Kind, iv a.Value]) 5 rfl agg68 i rfl (fun j u hu => l j u hu))<|E0 4 rfl (sM rfl)<|E0 5 rfl (sM rfl) ?_
 obtain ⟨I, y, z⟩ := iS G
 obtain ⟨W, A, n, k, o⟩ := FZ.get (sz := 5) rfl (by decide) (Z.le d) z
 obtain ⟨_, _, rfl, rfl, ⟨_, _, rfl, rfl, ⟨_, _, rfl, rfl, ⟨_, _, rfl, rfl, rfl⟩⟩⟩⟩ := A
 refine E0 6 rfl (sI I rfl rfl y o k sl58)<|Es 7 rfl (sP (vs := [iv c.At, iv c.Promise, iv c.Ride, iv c.Kind, iv c.Value]) 5 rfl agg68 k rfl (fun j u hu => n j u hu))<|E0 8 rfl (st_neqA (xs := [iv a.At, iv a.Promise, iv a.Ride, iv a.Kind, iv a.Value]) (ys := [iv c.At, iv c.Promise, iv c.Ride, iv c.Kind, iv c.Value]) (p := a.At = c.At ∧ a.Promise = c.Promise ∧ a.Ride = c.Ride ∧ a.Kind = c.Kind ∧ a.Value = c.Value) rfl rfl eqt68 ⟨⟨_, rfl⟩, ⟨⟨_, rfl⟩, ⟨⟨_, rfl⟩, ⟨⟨_, rfl⟩, ⟨⟨_, rfl⟩, trivial⟩⟩⟩⟩⟩ ⟨⟨_, rfl⟩, ⟨⟨_, rfl⟩, ⟨⟨_, rfl⟩, ⟨⟨_, rfl⟩, ⟨⟨_, rfl⟩, trivial⟩⟩⟩⟩⟩ (by simp [eqCells, eqCell, Bool.decide_and, beq_dec]))<|Eo<|Dd (by kernel_rfl)<|Xn ?_
 refine cN hm rfl (fun hm => ?_) fun hm => ?_
 refine Cr<|aS rfl<|Te<|Ct<|Xb<|Xr<|Xr<|Xb<|Xr ?_
 have B := g _ (Option.some.inj hm).symm
 rw [B] at f
 have hm := elimR f
 obtain rfl := o1 hm
 exact rO ⟨rfl, rfl⟩ d
 refine Ck<|Xm<|Xn<|Cg<|tS (sa rfl rfl (by omega))<|mV rfl<|Tn ?_
 exact jM hm ⟨rfl, rfl, (d)⟩
 rintro _ h _ _ ⟨rfl, rfl, d⟩ C
 rw [C] at f
 have hm := elimL f
 refine Cr<|tS (lF rfl rfl (by omega))<|Te<|Cs<|c_cond_f rfl<|Ce<|Xe<|Xe<|Xo<|Xn ?_
 refine Cr<|aS rfl<|Te<|Ct ?_
 obtain rfl := o1 hm
 exact rO ⟨rfl, rfl⟩ d

set_option maxRecDepth 20000 in
theorem cFishkeep2Stands (b : Base) (R : Hp) (W : ApiDay) (C : GuidePromise) (X A2 c3 A5 c6 A9 Y) (h4 : FZ rApiTrain b.w A2 c3 W.Trains) (h7 : FZ (RT.list rI) b.w A5 c6 W.Turns) (an : FZ rGuideRide b.w A9 Y C.Journey.Rides) (D) (hm : mFishkeep2Stands W C X = some D):
    CallsG Tryd.prog 28 [.agg #[sv A2 W.Trains c3, sv A5 W.Turns c6], .agg #[iv C.From, iv C.To, iv C.Dep, iv C.Arr, iv C.State, sv A9 C.Journey.Rides Y], iv X] b (R) (fun v b' hp' => bv D = v ∧ R = hp') := by
 refine fE 71 Tryd.func28 rfl Tryd.ntmps28 rfl ?_
 unfold mFishkeep2Stands at hm
 refine Cr<|tD (uB _ rfl rfl) ?_
 rintro _ _ ⟨av, rfl, rfl⟩
 refine tD (uB _ rfl rfl) ?_
 rintro _ _ ⟨aw, rfl, rfl⟩
 refine aS rfl<|Te<|Cr<|tS (sF rfl fld71_5)<|tS (sF rfl fld33_0)<|tS (sL 0 rfl one31 rfl rfl)<|tS (sF rfl fld71_5)<|tS (sF rfl fld33_0)<|tS (sL 0 rfl one31 rfl rfl)<|tS (sE rfl sl31) ?_
 obtain ⟨_, o, hm⟩ := bS hm
 have o := (kS o).2
 refine tS (sb rfl rfl o) ?_
 obtain ⟨d, Z, ao, G, aq, H, t, p, w, hm⟩ := bF (sz := 3) hm an
 obtain ⟨_, _, rfl, rfl, ⟨_, _, rfl, rfl, rfl⟩⟩ := H
 refine tS (sI Z rfl rfl G w p sl31)<|tS (sP (vs := [iv d.Train, iv d.On, iv d.Off]) 3 rfl agg86 p rfl (fun j u hu => t j u hu))<|tD (uA [iv 0, iv 0, iv 0] zero86 rfl) ?_
 rintro _ _ ⟨ax, rfl, rfl⟩
 refine tD (uN (vs := [_, _, _]) 0 3 rfl rfl rfl siz86 rfl (mc rfl (mc rfl (mc rfl mn))) rfl (by simp)) ?_
 rintro _ _ rfl
 refine Te ?_
 obtain ⟨aa, I, J⟩ := bS hm
 refine Cj (fun E e' hp' => [(6, bv aa)] = e' ∧ R = hp' ∧ b.Le E) ?_ ?_
 have hm := I
 by_cases a : 0 ≤ d.Train
 rw [if_pos a] at hm
 by_cases c : d.Train < (W.Trains.length : Int)
 rw [if_pos c] at hm
 by_cases e : 0 ≤ d.On
 rw [if_pos e] at hm
 by_cases f : d.On < d.Off
 rw [if_pos f] at hm
 obtain ⟨ab, F, hm⟩ := bS hm
 by_cases h : d.Off < (ab.Stops.length : Int)
 rw [if_pos h] at hm
 obtain ⟨ay, ac, hm⟩ := bS hm
 obtain ⟨az, ad, hm⟩ := bS hm
 refine Di mixed (.refl _)<|E0 0 rfl (sF rfl fld86_0)<|Es 1 rfl (sL 0 rfl one3 rfl rfl)<|E0 2 rfl (st_geq_t rfl rfl a)<|E0 3 rfl (sM rfl)<|Yz 4 21 rfl (sF rfl fld86_0)<|Ey 5 21 rfl (sL 0 rfl one3 rfl rfl)<|Yz 6 21 rfl (sF rfl fld25_0)<|Ey 7 21 rfl (sL 2 rfl one22 rfl rfl)<|Yz 8 21 rfl (sE rfl sl22) ?_
 refine Yz 9 21 rfl (lT rfl rfl c)<|E0 10 rfl (pT rfl rfl)<|E0 11 rfl (sM rfl)<|Yz 12 29 rfl (sF rfl fld86_1)<|Ey 13 29 rfl (sL 0 rfl one3 rfl rfl)<|Yz 14 29 rfl (st_geq_t rfl rfl e)<|E0 15 rfl (pT rfl rfl)<|E0 16 rfl (sM rfl)<|Yz 17 34 rfl (sF rfl fld86_1)<|Ey 18 34 rfl (sL 0 rfl one3 rfl rfl) ?_
 refine Yz 19 34 rfl (sF rfl fld86_2)<|Ey 20 34 rfl (sL 0 rfl one3 rfl rfl)<|Yz 21 34 rfl (lT rfl rfl f)<|E0 22 rfl (pT rfl rfl)<|E0 23 rfl (sM rfl)<|Yz 24 41 rfl (sF rfl fld86_2)<|Ey 25 41 rfl (sL 0 rfl one3 rfl rfl)<|Yz 26 41 rfl (sF rfl fld25_0)<|Ey 27 41 rfl (sL 2 rfl one22 rfl rfl)<|Yz 28 41 rfl (sF rfl fld86_0) ?_
 refine Ey 29 41 rfl (sL 0 rfl one3 rfl rfl) ?_
 obtain ⟨q, l, m⟩ := iS F
 obtain ⟨K, n, i, g, k⟩ := FZ.get (sz := 4) rfl (by decide) h4 m
 obtain ⟨_, _, rfl, rfl, ⟨_, _, rfl, rfl, ⟨_, _, rfl, ⟨ae, af, rfl, ag⟩, ⟨ah, ai, rfl, aj⟩⟩⟩⟩ := n
 refine Yz 30 41 rfl (sI q rfl rfl l k g sl22)<|Yz 31 41 rfl (sQ rfl g fld47_2)<|Ey 32 41 rfl (sO rfl one45 (i 2 _ rfl))<|Yz 33 41 rfl (sE rfl sl45)<|Yz 34 41 rfl (lT rfl rfl h)<|E0 35 rfl (pT rfl rfl)<|E0 36 rfl (sM rfl)<|Yz 37 54 rfl (sF rfl fld25_0)<|Ey 38 54 rfl (sL 2 rfl one22 rfl rfl)<|Yz 39 54 rfl (sF rfl fld86_0) ?_
 refine Ey 40 54 rfl (sL 0 rfl one3 rfl rfl) ?_
 obtain ⟨ak, L, O⟩ := iS ac
 obtain ⟨ar, S, x, r, y⟩ := FZ.get (sz := 4) rfl (by decide) h4 O
 obtain ⟨_, _, rfl, rfl, ⟨_, _, rfl, rfl, ⟨_, _, rfl, ⟨aA, aB, rfl, al⟩, ⟨aC, aD, rfl, aE⟩⟩⟩⟩ := S
 refine Yz 41 54 rfl (sI ak rfl rfl L y r sl22)<|Yz 42 54 rfl (sQ rfl r fld47_2)<|Ey 43 54 rfl (sO rfl one45 (x 2 _ rfl))<|Yz 44 54 rfl (sF rfl fld86_2)<|Ey 45 54 rfl (sL 0 rfl one3 rfl rfl) ?_
 obtain ⟨am, T, U⟩ := iS ad
 obtain ⟨au, V, z, s, A⟩ := FZ.get (sz := 4) rfl (by decide) al U
 obtain ⟨_, _, rfl, rfl, ⟨_, _, rfl, rfl, ⟨_, _, rfl, rfl, rfl⟩⟩⟩ := V
 refine Yz 46 54 rfl (sI am rfl rfl T A s sl45)<|Yz 47 54 rfl (sQ rfl s fld83_0)<|Ey 48 54 rfl (sO rfl one3 (z 0 _ rfl))<|Yz 49 54 rfl (sF rfl fld71_1)<|Ey 50 54 rfl (sL 1 rfl one3 rfl rfl)<|Yz 51 54 rfl (q1 rfl rfl)<|E0 52 rfl (pT rfl rfl)<|E0 53 rfl (sA rfl)<|Eo<|Dd (by kernel_rfl) ?_
 obtain rfl := o1 hm
 exact jJ ⟨rfl, rfl, lr⟩
 rw [if_neg h] at hm
 refine Di mixed (.refl _)<|E0 0 rfl (sF rfl fld86_0)<|Es 1 rfl (sL 0 rfl one3 rfl rfl)<|E0 2 rfl (st_geq_t rfl rfl a)<|E0 3 rfl (sM rfl)<|Yz 4 21 rfl (sF rfl fld86_0)<|Ey 5 21 rfl (sL 0 rfl one3 rfl rfl)<|Yz 6 21 rfl (sF rfl fld25_0)<|Ey 7 21 rfl (sL 2 rfl one22 rfl rfl)<|Yz 8 21 rfl (sE rfl sl22) ?_
 refine Yz 9 21 rfl (lT rfl rfl c)<|E0 10 rfl (pT rfl rfl)<|E0 11 rfl (sM rfl)<|Yz 12 29 rfl (sF rfl fld86_1)<|Ey 13 29 rfl (sL 0 rfl one3 rfl rfl)<|Yz 14 29 rfl (st_geq_t rfl rfl e)<|E0 15 rfl (pT rfl rfl)<|E0 16 rfl (sM rfl)<|Yz 17 34 rfl (sF rfl fld86_1)<|Ey 18 34 rfl (sL 0 rfl one3 rfl rfl) ?_
 refine Yz 19 34 rfl (sF rfl fld86_2)<|Ey 20 34 rfl (sL 0 rfl one3 rfl rfl)<|Yz 21 34 rfl (lT rfl rfl f)<|E0 22 rfl (pT rfl rfl)<|E0 23 rfl (sM rfl)<|Yz 24 41 rfl (sF rfl fld86_2)<|Ey 25 41 rfl (sL 0 rfl one3 rfl rfl)<|Yz 26 41 rfl (sF rfl fld25_0)<|Ey 27 41 rfl (sL 2 rfl one22 rfl rfl)<|Yz 28 41 rfl (sF rfl fld86_0) ?_
 refine Ey 29 41 rfl (sL 0 rfl one3 rfl rfl) ?_
 obtain ⟨q, l, m⟩ := iS F
 obtain ⟨K, n, i, g, k⟩ := FZ.get (sz := 4) rfl (by decide) h4 m
 obtain ⟨_, _, rfl, rfl, ⟨_, _, rfl, rfl, ⟨_, _, rfl, ⟨ae, af, rfl, ag⟩, ⟨ah, ai, rfl, aj⟩⟩⟩⟩ := n
 refine Yz 30 41 rfl (sI q rfl rfl l k g sl22)<|Yz 31 41 rfl (sQ rfl g fld47_2)<|Ey 32 41 rfl (sO rfl one45 (i 2 _ rfl))<|Yz 33 41 rfl (sE rfl sl45)<|Yz 34 41 rfl (lF rfl rfl h)<|E0 35 rfl (pT rfl rfl)<|E0 36 rfl (sM rfl)<|eN 37 rfl<|eN 38 rfl<|eN 39 rfl ?_
 refine eN 40 rfl<|eN 41 rfl<|eN 42 rfl<|eN 43 rfl<|eN 44 rfl<|eN 45 rfl<|eN 46 rfl<|eN 47 rfl<|eN 48 rfl<|eN 49 rfl ?_
 refine eN 50 rfl<|eN 51 rfl<|E0 52 rfl (pF rfl rfl)<|E0 53 rfl (sA rfl)<|Eo<|Dd (by kernel_rfl) ?_
 obtain rfl := o1 hm
 exact jJ ⟨rfl, rfl, lr⟩
 rw [if_neg f] at hm
 refine Di mixed (.refl _)<|E0 0 rfl (sF rfl fld86_0)<|Es 1 rfl (sL 0 rfl one3 rfl rfl)<|E0 2 rfl (st_geq_t rfl rfl a)<|E0 3 rfl (sM rfl)<|Yz 4 21 rfl (sF rfl fld86_0)<|Ey 5 21 rfl (sL 0 rfl one3 rfl rfl)<|Yz 6 21 rfl (sF rfl fld25_0)<|Ey 7 21 rfl (sL 2 rfl one22 rfl rfl)<|Yz 8 21 rfl (sE rfl sl22) ?_
 refine Yz 9 21 rfl (lT rfl rfl c)<|E0 10 rfl (pT rfl rfl)<|E0 11 rfl (sM rfl)<|Yz 12 29 rfl (sF rfl fld86_1)<|Ey 13 29 rfl (sL 0 rfl one3 rfl rfl)<|Yz 14 29 rfl (st_geq_t rfl rfl e)<|E0 15 rfl (pT rfl rfl)<|E0 16 rfl (sM rfl)<|Yz 17 34 rfl (sF rfl fld86_1)<|Ey 18 34 rfl (sL 0 rfl one3 rfl rfl) ?_
 refine Yz 19 34 rfl (sF rfl fld86_2)<|Ey 20 34 rfl (sL 0 rfl one3 rfl rfl)<|Yz 21 34 rfl (lF rfl rfl f)<|E0 22 rfl (pT rfl rfl)<|E0 23 rfl (sM rfl)<|eN 24 rfl<|eN 25 rfl<|eN 26 rfl<|eN 27 rfl<|eN 28 rfl ?_
 refine eN 29 rfl<|eN 30 rfl<|eN 31 rfl<|eN 32 rfl<|eN 33 rfl<|eN 34 rfl<|E0 35 rfl (pF rfl rfl)<|E0 36 rfl (sM rfl)<|eN 37 rfl<|eN 38 rfl ?_
 refine eN 39 rfl<|eN 40 rfl<|eN 41 rfl<|eN 42 rfl<|eN 43 rfl<|eN 44 rfl<|eN 45 rfl<|eN 46 rfl<|eN 47 rfl<|eN 48 rfl ?_
 refine eN 49 rfl<|eN 50 rfl<|eN 51 rfl<|E0 52 rfl (pF rfl rfl)<|E0 53 rfl (sA rfl)<|Eo<|Dd (by kernel_rfl) ?_
 obtain rfl := o1 hm
 exact jJ ⟨rfl, rfl, lr⟩
 rw [if_neg e] at hm
 refine Di mixed (.refl _)<|E0 0 rfl (sF rfl fld86_0)<|Es 1 rfl (sL 0 rfl one3 rfl rfl)<|E0 2 rfl (st_geq_t rfl rfl a)<|E0 3 rfl (sM rfl)<|Yz 4 21 rfl (sF rfl fld86_0)<|Ey 5 21 rfl (sL 0 rfl one3 rfl rfl)<|Yz 6 21 rfl (sF rfl fld25_0)<|Ey 7 21 rfl (sL 2 rfl one22 rfl rfl)<|Yz 8 21 rfl (sE rfl sl22) ?_
 refine Yz 9 21 rfl (lT rfl rfl c)<|E0 10 rfl (pT rfl rfl)<|E0 11 rfl (sM rfl)<|Yz 12 29 rfl (sF rfl fld86_1)<|Ey 13 29 rfl (sL 0 rfl one3 rfl rfl)<|Yz 14 29 rfl (st_geq_f rfl rfl e)<|E0 15 rfl (pT rfl rfl)<|E0 16 rfl (sM rfl)<|eN 17 rfl<|eN 18 rfl ?_
 refine eN 19 rfl<|eN 20 rfl<|eN 21 rfl<|E0 22 rfl (pF rfl rfl)<|E0 23 rfl (sM rfl)<|eN 24 rfl<|eN 25 rfl<|eN 26 rfl<|eN 27 rfl<|eN 28 rfl ?_
 refine eN 29 rfl<|eN 30 rfl<|eN 31 rfl<|eN 32 rfl<|eN 33 rfl<|eN 34 rfl<|E0 35 rfl (pF rfl rfl)<|E0 36 rfl (sM rfl)<|eN 37 rfl<|eN 38 rfl ?_
 refine eN 39 rfl<|eN 40 rfl<|eN 41 rfl<|eN 42 rfl<|eN 43 rfl<|eN 44 rfl<|eN 45 rfl<|eN 46 rfl<|eN 47 rfl<|eN 48 rfl ?_
 refine eN 49 rfl<|eN 50 rfl<|eN 51 rfl<|E0 52 rfl (pF rfl rfl)<|E0 53 rfl (sA rfl)<|Eo<|Dd (by kernel_rfl) ?_
 obtain rfl := o1 hm
 exact jJ ⟨rfl, rfl, lr⟩
 rw [if_neg c] at hm
 refine Di mixed (.refl _)<|E0 0 rfl (sF rfl fld86_0)<|Es 1 rfl (sL 0 rfl one3 rfl rfl)<|E0 2 rfl (st_geq_t rfl rfl a)<|E0 3 rfl (sM rfl)<|Yz 4 21 rfl (sF rfl fld86_0)<|Ey 5 21 rfl (sL 0 rfl one3 rfl rfl)<|Yz 6 21 rfl (sF rfl fld25_0)<|Ey 7 21 rfl (sL 2 rfl one22 rfl rfl)<|Yz 8 21 rfl (sE rfl sl22) ?_
 refine Yz 9 21 rfl (lF rfl rfl c)<|E0 10 rfl (pT rfl rfl)<|E0 11 rfl (sM rfl)<|eN 12 rfl<|eN 13 rfl<|eN 14 rfl<|E0 15 rfl (pF rfl rfl)<|E0 16 rfl (sM rfl)<|eN 17 rfl<|eN 18 rfl ?_
 refine eN 19 rfl<|eN 20 rfl<|eN 21 rfl<|E0 22 rfl (pF rfl rfl)<|E0 23 rfl (sM rfl)<|eN 24 rfl<|eN 25 rfl<|eN 26 rfl<|eN 27 rfl<|eN 28 rfl ?_
 refine eN 29 rfl<|eN 30 rfl<|eN 31 rfl<|eN 32 rfl<|eN 33 rfl<|eN 34 rfl<|E0 35 rfl (pF rfl rfl)<|E0 36 rfl (sM rfl)<|eN 37 rfl<|eN 38 rfl ?_
 refine eN 39 rfl<|eN 40 rfl<|eN 41 rfl<|eN 42 rfl<|eN 43 rfl<|eN 44 rfl<|eN 45 rfl<|eN 46 rfl<|eN 47 rfl<|eN 48 rfl ?_
 refine eN 49 rfl<|eN 50 rfl<|eN 51 rfl<|E0 52 rfl (pF rfl rfl)<|E0 53 rfl (sA rfl)<|Eo<|Dd (by kernel_rfl) ?_
 obtain rfl := o1 hm
 exact jJ ⟨rfl, rfl, lr⟩
 rw [if_neg a] at hm
 refine Di mixed (.refl _)<|E0 0 rfl (sF rfl fld86_0)<|Es 1 rfl (sL 0 rfl one3 rfl rfl)<|E0 2 rfl (st_geq_f rfl rfl a)<|E0 3 rfl (sM rfl)<|eN 4 rfl<|eN 5 rfl<|eN 6 rfl<|eN 7 rfl<|eN 8 rfl ?_
 refine eN 9 rfl<|E0 10 rfl (pF rfl rfl)<|E0 11 rfl (sM rfl)<|eN 12 rfl<|eN 13 rfl<|eN 14 rfl<|E0 15 rfl (pF rfl rfl)<|E0 16 rfl (sM rfl)<|eN 17 rfl<|eN 18 rfl ?_
 refine eN 19 rfl<|eN 20 rfl<|eN 21 rfl<|E0 22 rfl (pF rfl rfl)<|E0 23 rfl (sM rfl)<|eN 24 rfl<|eN 25 rfl<|eN 26 rfl<|eN 27 rfl<|eN 28 rfl ?_
 refine eN 29 rfl<|eN 30 rfl<|eN 31 rfl<|eN 32 rfl<|eN 33 rfl<|eN 34 rfl<|E0 35 rfl (pF rfl rfl)<|E0 36 rfl (sM rfl)<|eN 37 rfl<|eN 38 rfl ?_
 refine eN 39 rfl<|eN 40 rfl<|eN 41 rfl<|eN 42 rfl<|eN 43 rfl<|eN 44 rfl<|eN 45 rfl<|eN 46 rfl<|eN 47 rfl<|eN 48 rfl ?_
 refine eN 49 rfl<|eN 50 rfl<|eN 51 rfl<|E0 52 rfl (pF rfl rfl)<|E0 53 rfl (sA rfl)<|Eo<|Dd (by kernel_rfl) ?_
 obtain rfl := o1 hm
 exact jJ ⟨rfl, rfl, lr⟩
 rintro E _ _ ⟨rfl, rfl, B⟩
 have hm := J
 refine Ct ?_
 obtain rfl := o1 hm
 exact rO ⟨rfl, rfl⟩ B

set_option maxRecDepth 20000 in
theorem cGuideDeskFind_1_2 (b : Base) (R : Hp) (q : ApiStop) (f g h a c i n d z A y j k l m) (r : Value) (B C o) (D : FZ rApiTrain b.w j k a) (E : FZ (RT.list rI) b.w l m c) (H : OS 68 (OT.fr rGuideMessage) b.w (sv B d C) d o) (s) (hm : mGuideDeskFind_1_2 q f g h a c i n d = some s):
    CallsG Tryd.prog 120 [.agg #[iv q.Station, iv q.Track, iv q.Arr, iv q.Dep], pb z, pb A] b ((z, Cl 55 [pb y]) :: (A, Cl 86 [iv f, iv g, iv h]) :: (y, Cl 116 [sv j a k, sv l c m, iv i, iv n, r, sv B d C]) :: (o ++ R)) (fun v b' hp' => bv s = v ∧ (z, Cl 55 [pb y]) :: (A, Cl 86 [iv f, iv g, iv h]) :: (y, Cl 116 [sv j a k, sv l c m, iv i, iv n, r, sv B d C]) :: (o ++ R) = hp') := by
 refine fE 15 Tryd.func120 rfl Tryd.ntmps120 rfl ?_
 unfold mGuideDeskFind_1_2 at hm
 refine Cr<|tD (uB _ rfl rfl) ?_
 rintro _ _ ⟨F, rfl, rfl⟩
 refine aS rfl<|Te<|Cs ?_
 obtain ⟨⟨t, u, w, x⟩, p, hm⟩ := bS hm
 have hm := (unc4E hm)
 refine Di mixed (.refl _)<|E0 0 rfl (sF rfl fld83_0)<|Es 1 rfl (sL 0 rfl one3 rfl rfl)<|Es 2 rfl (sL 1 rfl one55 rfl rfl)<|E0 3 rfl (sN rfl)<|E0 4 rfl (sF rfl fld116_0)<|Es 5 rfl (sD (vs := [_, _, _]) 3 3 rfl agg91 rfl rfl rfl)<|Es 6 rfl (sD (vs := [_, _, _]) 2 3 rfl agg86 rfl rfl rfl)<|Eo<|Da [7] (by kernel_rfl) rfl ?_
 refine Rg lr rfl rfl _ call60 rfl (cGuideNetOn _ _ (⟨(⟨a, c⟩ : ApiDay), i⟩ : GuideNet) (⟨f, g, h⟩ : GuideRide) j k l m D E t u w x p) ?_ ?_
 rintro _ G _ e ⟨rfl, rfl⟩
 refine iR<|Ei e (.refl _)<|E0 8 rfl (st_vfield1 (cs := [iv t, iv u, iv w, iv x]) rfl fdv83_0 one3 rfl)<|E0 9 rfl (q1 rfl rfl)<|E0 10 rfl (sA rfl)<|Eo<|Dd (by kernel_rfl)<|Xn<|Ct ?_
 obtain rfl := o1 hm
 exact rO ⟨rfl, rfl⟩ e
 exact Rn

set_option maxRecDepth 20000 in
theorem cSlicesIndexFunc_4 (b : Base) (R : Hp) (i m n o k l p q e C D E Z F r s t w) (z : Value) (K L f) (O : FZ rApiStop b.w Z F i) (aa : FZ rApiTrain b.w r s k) (ab : FZ (RT.list rI) b.w t w l) (h5 : OS 68 (OT.fr rGuideMessage) b.w (sv K e L) e f) (S) (hm : mSlicesIndexFunc_4 i m n o k l p q e = some S):
    CallsG Tryd.prog 119 [sv Z i F, .func (.func 120) #[] #[pb C, pb D]] b ((C, Cl 55 [pb E]) :: (D, Cl 86 [iv m, iv n, iv o]) :: (E, Cl 116 [sv r k s, sv t l w, iv p, iv q, z, sv K e L]) :: (f ++ R)) (fun v b' hp' => iv S = v ∧ (C, Cl 55 [pb E]) :: (D, Cl 86 [iv m, iv n, iv o]) :: (E, Cl 116 [sv r k s, sv t l w, iv p, iv q, z, sv K e L]) :: (f ++ R) = hp') := by
 refine fE 19 Tryd.func119 rfl Tryd.ntmps119 rfl ?_
 unfold mSlicesIndexFunc_4 at hm
 refine Cr<|aS rfl<|Te<|Cs<|Cr<|mV rfl<|tS (sE rfl sl45)<|mV rfl<|Te<|Cb ?_
 have ad : i.length ≤ 9223372036854775807 := (FZ.bd O)
 refine Cp 2 rfl<|Cp 2 rfl<|Cp 2 rfl ?_
 obtain ⟨ai, T, g⟩ := bS hm
 refine lF (fun U => fun _ => fun G e' hp' => [(0, sv Z i F), (1, .func (.func 120) #[] #[pb C, pb D]), (7, iv ((i.length : Int))), (8, iv ((U : Int)))] = e' ∧ (C, Cl 55 [pb E]) :: (D, Cl 86 [iv m, iv n, iv o]) :: (E, Cl 116 [sv r k s, sv t l w, iv p, iv q, z, sv K e L]) :: (f ++ R) = hp' ∧ b.Le G) T ⟨rfl, rfl, lr⟩ ?_ ?_
 rintro U _ G _ _ ae Y ⟨rfl, rfl, a⟩ c x
 unfold mSlicesIndexFunc_4_L69 at c
 have hm := c
 refine Cr<|tS (lT rfl rfl (by omega))<|Te<|Cs<|c_cond_t rfl<|Ck<|Xn<|Cs<|Cb<|Cr ?_
 refine mV rfl<|aS rfl<|Te<|Cr<|mV rfl<|mV rfl<|mV rfl ?_
 obtain ⟨d, ac, af, V, ag, W, H, y, A, hm⟩ := bF (sz := 4) hm (O.le a)
 obtain ⟨_, _, rfl, rfl, ⟨_, _, rfl, rfl, ⟨_, _, rfl, rfl, rfl⟩⟩⟩ := W
 refine tS (sI ac rfl rfl V A y sl45)<|tS (sP (vs := [iv d.Station, iv d.Track, iv d.Arr, iv d.Dep]) 4 rfl agg83 y rfl (fun j u hu => H j u hu)) ?_
 obtain ⟨X, B, hm⟩ := bS hm
 refine t_pullb 2 rfl<|t_pullb 2 rfl<|t_pullb 2 rfl<|t_out1 [_, _, _] [] f R rfl<|Tv #[] #[pb C, pb D] [.agg #[iv d.Station, iv d.Track, iv d.Arr, iv d.Dep]] rfl rfl call120 rfl (cGuideDeskFind_1_2 _ _ d m n o k l p q e C D E r s t w z K L f (aa.le a) (ab.le a) (h5.le a) X B) ?_
 rintro _ ah _ h ⟨rfl, rfl⟩
 refine t_in1 [_, _, _] [] f R rfl<|Te ?_
 refine cB hm rfl (fun hm => ?_) fun hm => ?_
 refine Cr<|mV rfl<|aS rfl<|Te<|Ct<|Xb<|Xr<|Xr<|Xb<|Xr ?_
 have I := x _ (Option.some.inj hm).symm
 rw [I] at g
 have hm := elimR g
 obtain rfl := o1 hm
 exact rO ⟨rfl, rfl⟩ (a.trans h)
 refine Ck<|Xm<|Xn<|Cg<|tS (sa rfl rfl (by omega))<|mV rfl<|Tn ?_
 exact jM hm ⟨rfl, rfl, ((a.trans h))⟩
 rintro _ G _ _ ⟨rfl, rfl, a⟩ J
 rw [J] at g
 have hm := elimL g
 refine Cr<|tS (lF rfl rfl (by omega))<|Te<|Cs<|c_cond_f rfl<|Ce<|Xe<|Xe<|Xo<|Xn ?_
 refine Cr<|aS rfl<|Te<|Ct ?_
 obtain rfl := o1 hm
 exact rO ⟨rfl, rfl⟩ a

set_option maxRecDepth 20000 in
theorem cGuideDeskFind_2_2 (b : Base) (R : Hp) (q : ApiStop) (f g h a c i n d z A y j k l m) (r : Value) (B C o) (D : FZ rApiTrain b.w j k a) (E : FZ (RT.list rI) b.w l m c) (H : OS 68 (OT.fr rGuideMessage) b.w (sv B d C) d o) (s) (hm : mGuideDeskFind_2_2 q f g h a c i n d = some s):
    CallsG Tryd.prog 121 [.agg #[iv q.Station, iv q.Track, iv q.Arr, iv q.Dep], pb z, pb A] b ((z, Cl 55 [pb y]) :: (A, Cl 86 [iv f, iv g, iv h]) :: (y, Cl 116 [sv j a k, sv l c m, iv i, iv n, r, sv B d C]) :: (o ++ R)) (fun v b' hp' => bv s = v ∧ (z, Cl 55 [pb y]) :: (A, Cl 86 [iv f, iv g, iv h]) :: (y, Cl 116 [sv j a k, sv l c m, iv i, iv n, r, sv B d C]) :: (o ++ R) = hp') := by
 refine fE 15 Tryd.func121 rfl Tryd.ntmps121 rfl ?_
 unfold mGuideDeskFind_2_2 at hm
 refine Cr<|tD (uB _ rfl rfl) ?_
 rintro _ _ ⟨F, rfl, rfl⟩
 refine aS rfl<|Te<|Cs ?_
 obtain ⟨⟨t, u, w, x⟩, p, hm⟩ := bS hm
 have hm := (unc4E hm)
 refine Di mixed (.refl _)<|E0 0 rfl (sF rfl fld83_0)<|Es 1 rfl (sL 0 rfl one3 rfl rfl)<|Es 2 rfl (sL 1 rfl one55 rfl rfl)<|E0 3 rfl (sN rfl)<|E0 4 rfl (sF rfl fld116_0)<|Es 5 rfl (sD (vs := [_, _, _]) 3 3 rfl agg91 rfl rfl rfl)<|Es 6 rfl (sD (vs := [_, _, _]) 2 3 rfl agg86 rfl rfl rfl)<|Eo<|Da [7] (by kernel_rfl) rfl ?_
 refine Rg lr rfl rfl _ call61 rfl (cGuideNetOff _ _ (⟨(⟨a, c⟩ : ApiDay), i⟩ : GuideNet) (⟨f, g, h⟩ : GuideRide) j k l m D E t u w x p) ?_ ?_
 rintro _ G _ e ⟨rfl, rfl⟩
 refine iR<|Ei e (.refl _)<|E0 8 rfl (st_vfield1 (cs := [iv t, iv u, iv w, iv x]) rfl fdv83_0 one3 rfl)<|E0 9 rfl (q1 rfl rfl)<|E0 10 rfl (sA rfl)<|Eo<|Dd (by kernel_rfl)<|Xn<|Ct ?_
 obtain rfl := o1 hm
 exact rO ⟨rfl, rfl⟩ e
 exact Rn

set_option maxRecDepth 20000 in
theorem cSlicesIndexFunc_5 (b : Base) (R : Hp) (i m n o k l p q e C D E Z F r s t w) (z : Value) (K L f) (O : FZ rApiStop b.w Z F i) (aa : FZ rApiTrain b.w r s k) (ab : FZ (RT.list rI) b.w t w l) (h5 : OS 68 (OT.fr rGuideMessage) b.w (sv K e L) e f) (S) (hm : mSlicesIndexFunc_5 i m n o k l p q e = some S):
    CallsG Tryd.prog 119 [sv Z i F, .func (.func 121) #[] #[pb C, pb D]] b ((C, Cl 55 [pb E]) :: (D, Cl 86 [iv m, iv n, iv o]) :: (E, Cl 116 [sv r k s, sv t l w, iv p, iv q, z, sv K e L]) :: (f ++ R)) (fun v b' hp' => iv S = v ∧ (C, Cl 55 [pb E]) :: (D, Cl 86 [iv m, iv n, iv o]) :: (E, Cl 116 [sv r k s, sv t l w, iv p, iv q, z, sv K e L]) :: (f ++ R) = hp') := by
 refine fE 19 Tryd.func119 rfl Tryd.ntmps119 rfl ?_
 unfold mSlicesIndexFunc_5 at hm
 refine Cr<|aS rfl<|Te<|Cs<|Cr<|mV rfl<|tS (sE rfl sl45)<|mV rfl<|Te<|Cb ?_
 have ad : i.length ≤ 9223372036854775807 := (FZ.bd O)
 refine Cp 2 rfl<|Cp 2 rfl<|Cp 2 rfl ?_
 obtain ⟨ai, T, g⟩ := bS hm
 refine lF (fun U => fun _ => fun G e' hp' => [(0, sv Z i F), (1, .func (.func 121) #[] #[pb C, pb D]), (7, iv ((i.length : Int))), (8, iv ((U : Int)))] = e' ∧ (C, Cl 55 [pb E]) :: (D, Cl 86 [iv m, iv n, iv o]) :: (E, Cl 116 [sv r k s, sv t l w, iv p, iv q, z, sv K e L]) :: (f ++ R) = hp' ∧ b.Le G) T ⟨rfl, rfl, lr⟩ ?_ ?_
 rintro U _ G _ _ ae Y ⟨rfl, rfl, a⟩ c x
 unfold mSlicesIndexFunc_5_L69 at c
 have hm := c
 refine Cr<|tS (lT rfl rfl (by omega))<|Te<|Cs<|c_cond_t rfl<|Ck<|Xn<|Cs<|Cb<|Cr ?_
 refine mV rfl<|aS rfl<|Te<|Cr<|mV rfl<|mV rfl<|mV rfl ?_
 obtain ⟨d, ac, af, V, ag, W, H, y, A, hm⟩ := bF (sz := 4) hm (O.le a)
 obtain ⟨_, _, rfl, rfl, ⟨_, _, rfl, rfl, ⟨_, _, rfl, rfl, rfl⟩⟩⟩ := W
 refine tS (sI ac rfl rfl V A y sl45)<|tS (sP (vs := [iv d.Station, iv d.Track, iv d.Arr, iv d.Dep]) 4 rfl agg83 y rfl (fun j u hu => H j u hu)) ?_
 obtain ⟨X, B, hm⟩ := bS hm
 refine t_pullb 2 rfl<|t_pullb 2 rfl<|t_pullb 2 rfl<|t_out1 [_, _, _] [] f R rfl<|Tv #[] #[pb C, pb D] [.agg #[iv d.Station, iv d.Track, iv d.Arr, iv d.Dep]] rfl rfl call121 rfl (cGuideDeskFind_2_2 _ _ d m n o k l p q e C D E r s t w z K L f (aa.le a) (ab.le a) (h5.le a) X B) ?_
 rintro _ ah _ h ⟨rfl, rfl⟩
 refine t_in1 [_, _, _] [] f R rfl<|Te ?_
 refine cB hm rfl (fun hm => ?_) fun hm => ?_
 refine Cr<|mV rfl<|aS rfl<|Te<|Ct<|Xb<|Xr<|Xr<|Xb<|Xr ?_
 have I := x _ (Option.some.inj hm).symm
 rw [I] at g
 have hm := elimR g
 obtain rfl := o1 hm
 exact rO ⟨rfl, rfl⟩ (a.trans h)
 refine Ck<|Xm<|Xn<|Cg<|tS (sa rfl rfl (by omega))<|mV rfl<|Tn ?_
 exact jM hm ⟨rfl, rfl, ((a.trans h))⟩
 rintro _ G _ _ ⟨rfl, rfl, a⟩ J
 rw [J] at g
 have hm := elimL g
 refine Cr<|tS (lF rfl rfl (by omega))<|Te<|Cs<|c_cond_f rfl<|Ce<|Xe<|Xe<|Xo<|Xn ?_
 refine Cr<|aS rfl<|Te<|Ct ?_
 obtain rfl := o1 hm
 exact rO ⟨rfl, rfl⟩ a

set_option maxRecDepth 20000 in
theorem cGuideDeskFind_3 (b : Base) (R : Hp) (q : ApiDay) (f : GuideRide) (o p r s aA j t aB aC aD aE u x y z) (T : Value) (g3 d A7 c8 c) (aT : FZ rApiTrain b.w aB aC q.Trains) (bc : FZ (RT.list rI) b.w aD aE q.Turns) (an : FZ rApiTrain b.w u x o) (aF : FZ (RT.list rI) b.w y z p) (h4 : OM rI (OT.fr rI) false false b.w g3 aA d) (h9 : OS 68 (OT.fr rGuideMessage) b.w (sv A7 j c8) j c) (ab ac ad ae) (hm : mGuideDeskFind_3 q f o p r s aA j = some (ab, ac, ad, ae)):
    CallsG Tryd.prog 104 [pb t, .agg #[sv aB q.Trains aC, sv aD q.Turns aE], .map (some g3), .agg #[iv f.Train, iv f.On, iv f.Off]] b ((t, Cl 116 [sv u o x, sv y p z, iv r, iv s, T, sv A7 j c8]) :: (d ++ (c ++ R))) (fun v b' hp' => .tuple #[.agg #[iv ab, iv ac, iv ad], bv ae] = v ∧ (t, Cl 116 [sv u o x, sv y p z, iv r, iv s, T, sv A7 j c8]) :: (d ++ (c ++ R)) = hp') := by
 refine fE 65 Tryd.func104 rfl Tryd.ntmps104 rfl ?_
 unfold mGuideDeskFind_3 at hm
 refine Cr<|tD (uB _ rfl rfl) ?_
 rintro _ _ ⟨af, rfl, rfl⟩
 refine tD (uB _ rfl rfl) ?_
 rintro _ _ ⟨aZ, rfl, rfl⟩
 refine tD (uB _ rfl rfl) ?_
 rintro _ _ ⟨ag, rfl, rfl⟩
 refine tD (uA [iv 0, iv 0, iv 0] zero86 rfl) ?_
 rintro _ _ ⟨a0, rfl, rfl⟩
 refine aS rfl<|Te<|Cs ?_
 obtain ⟨ah, aG, hm⟩ := bS hm
 obtain ⟨h, aH, hm⟩ := bS hm
 refine Di mixed (.refl _)<|E0 0 rfl (sM rfl)<|Es 1 rfl (sL 3 rfl one55 rfl rfl)<|E0 2 rfl (sN rfl)<|E0 3 rfl (sF rfl fld116_0)<|E0 4 rfl (sF rfl fld91_0)<|E0 5 rfl (sF rfl fld25_0)<|Es 6 rfl (sL 4 rfl one22 rfl rfl)<|E0 7 rfl (sF rfl fld86_0)<|Es 8 rfl (sL 1 rfl one3 rfl rfl) ?_
 obtain ⟨aI, ao, aq⟩ := iS aG
 obtain ⟨aU, ar, U, A, V⟩ := FZ.get (sz := 4) rfl (by decide) an aq
 obtain ⟨_, _, rfl, rfl, ⟨_, _, rfl, rfl, ⟨_, _, rfl, ⟨a1, a2, rfl, a3⟩, ⟨a4, a5, rfl, a6⟩⟩⟩⟩ := ar
 refine E0 9 rfl (sI aI rfl rfl ao V A sl22)<|E0 10 rfl (sQ rfl A fld47_0)<|Es 11 rfl (sO rfl one3 (U 0 _ rfl)) ?_
 have au := Option.some.inj aH
 obtain ⟨ai, g, av⟩ := OM.lookF kok3 (z0 := 0) h4 (key := iv ah.No) (k := ah.No) rfl mapt121 zero3 rfl
 rw [au] at g
 obtain rfl : ai = iv h := by have g : [ai] = [iv h] := g; injection g
 refine Es 12 rfl (st_mlook (ok := true) rfl rfl (fun w ho => av _ w ho (.cons _ (.cons _ (.cons _ (.cons _ (.cons _ (List.sublist_append_left _ _)))))) true))<|E0 13 rfl (sM rfl)<|E0 14 rfl (st_extract rfl rfl)<|E0 15 rfl (st_extract rfl rfl)<|E0 16 rfl (sA rfl)<|E0 17 rfl (sA rfl)<|Eo<|Dd (by kernel_rfl)<|Xn<|Cs ?_
 refine Cr<|mV rfl<|tS (sn2 rfl)<|Te ?_
 refine cM hm rfl (fun hm => ?_) fun hm => ?_
 refine Cr<|tS (sB (v := .agg #[iv 0, iv 0, iv 0]) [] rfl (fun _ => by kernel_rfl))<|tD (uN (vs := [_, _, _]) 0 3 rfl rfl rfl siz86 rfl (mc rfl (mc rfl (mc rfl mn))) rfl (by simp)) ?_
 rintro _ _ rfl
 refine aS rfl<|Te<|Ct<|Xr ?_
 obtain ⟨rfl, rfl, rfl, rfl⟩ := some4 hm
 refine Xp 4 rfl<|X2 [_, _, _, _, _] d c R rfl<|X2 [_, _, _, _, _] c d R rfl ?_
 exact rM (rs := [.cell 8 86, .tmp 9]) (vs := [.agg #[iv 0, iv 0, iv 0], bv false]) ⟨⟨_, rfl, fun w ho => cell_agg (vs := [_, _, _]) 1 3 agg86 rfl rfl rfl w ho⟩, ⟨rfl, trivial⟩⟩ ⟨rfl, rfl⟩ (.cons_cons _ (.cons _ (.cons _ (.cons _ (.cons _ (.refl _)))))) lr
 refine Ck<|Xn<|Cr<|tS (sF rfl fld25_0)<|tS (sL 2 rfl one22 rfl rfl)<|mV rfl ?_
 obtain ⟨aj, aJ, aV, aw, aW, ax, W, B, X, hm⟩ := bF (sz := 4) hm aT
 obtain ⟨_, _, rfl, rfl, ⟨_, _, rfl, rfl, ⟨_, _, rfl, ⟨ak, m, rfl, n⟩, ⟨a7, a8, rfl, a9⟩⟩⟩⟩ := ax
 refine tS (sI aJ rfl rfl aw X B sl22)<|tS (sQ rfl B fld47_2)<|tS (sO rfl one45 (W 2 _ rfl))<|aS rfl<|Te<|Cr<|mV rfl<|mV rfl<|tS (sE rfl sl45) ?_
 obtain ⟨_, C, hm⟩ := bS hm
 have C := (kS C).2
 refine tS (sb rfl rfl C) ?_
 obtain ⟨aK, aL, hm⟩ := bS hm
 obtain ⟨D, aM, aX, ay, E, F, G⟩ := cutS_some aL
 have al := FZ.sub (sz := 4) rfl n E F
 have aN := n.1.1
 rw [← G] at al
 refine tS (G ▸ st_part (l := aj.Stops) D aM rfl (.inl ⟨rfl, by omega⟩) (.inr ⟨_, _, _, rfl, rfl, ay⟩) E F aN sl45)<|tS (st_func _ _ rfl rfl) ?_
 obtain ⟨e, Y, hm⟩ := bS hm
 refine t_pullb 4 rfl<|t_pullb 2 rfl<|t_pullb 4 rfl<|t_front2 [_, _, _, _, _] d c R rfl<|t_out1 [_, _, _] [_, _] c (d ++ R) rfl<|Tg _ rfl call119 rfl (cSlicesIndexFunc_4 _ _ aK f.Train f.On f.Off o p r s j af ag t (subA ak m D 4) (m - D) u x y z T A7 c8 c al an aF h9 e Y) ?_
 rintro _ ba _ a ⟨rfl, rfl⟩
 refine t_in1 [_, _, _] [_, _] c (d ++ R) rfl<|aS rfl<|Te<|Cs<|Cr<|mV rfl<|tS (q3 rfl rfl)<|Te ?_
 refine cI hm rfl (fun hm => ?_) fun hm => ?_
 refine Cr<|tS (sB (v := .agg #[iv 0, iv 0, iv 0]) [] rfl (fun _ => by kernel_rfl))<|tD (uN (vs := [_, _, _]) 3 3 rfl rfl rfl siz86 rfl (mc rfl (mc rfl (mc rfl mn))) rfl (by simp)) ?_
 rintro _ _ rfl
 refine aS rfl<|Te<|Ct<|Xr ?_
 obtain ⟨rfl, rfl, rfl, rfl⟩ := some4 hm
 refine Xp 2 rfl<|X2 [_, _, _, _, _] c d R rfl ?_
 exact rM (rs := [.cell 8 86, .tmp 9]) (vs := [.agg #[iv 0, iv 0, iv 0], bv false]) ⟨⟨_, rfl, fun w ho => cell_agg (vs := [_, _, _]) 3 3 agg86 rfl rfl rfl w ho⟩, ⟨rfl, trivial⟩⟩ ⟨rfl, rfl⟩ (.cons_cons _ (.cons _ (.cons _ (.cons _ (.cons _ (.refl _)))))) a
 refine Ck<|Xn<|Cr<|mV rfl<|mV rfl ?_
 obtain ⟨_, H, hm⟩ := bS hm
 have H := (kS H).2
 refine tS (sa rfl rfl H) ?_
 obtain ⟨aO, aP, hm⟩ := bS hm
 obtain ⟨I, aQ, az, aY, J, K, L⟩ := cutS_some aP
 have am := FZ.sub (sz := 4) rfl (n.le a) J K
 have aR := (n.le a).1.1
 rw [← L] at am
 refine tS (L ▸ st_part (l := aj.Stops) I aQ rfl (.inr ⟨_, _, _, rfl, rfl, az⟩) (.inl ⟨rfl, by omega⟩) J K aR sl45)<|tS (st_func _ _ rfl rfl) ?_
 obtain ⟨i, Z, hm⟩ := bS hm
 refine t_pullb 2 rfl<|t_pullb 2 rfl<|t_pullb 2 rfl<|t_out1 [_, _, _] [_, _] c (d ++ R) rfl<|Tg _ rfl call119 rfl (cSlicesIndexFunc_5 _ _ aO f.Train f.On f.Off o p r s j af ag t (subA ak m I 4) (m - I) u x y z T A7 c8 c am (an.le a) (aF.le a) (h9.le a) i Z) ?_
 rintro _ bb _ aa ⟨rfl, rfl⟩
 refine t_in1 [_, _, _] [_, _] c (d ++ R) rfl<|aS rfl<|Te<|Cr<|mV rfl<|mV rfl<|mV rfl ?_
 obtain ⟨_, O, hm⟩ := bS hm
 have O := (kS O).2
 refine tS (sa rfl rfl O)<|mV rfl ?_
 obtain ⟨_, S, hm⟩ := bS hm
 have S := (kS S).2
 refine tS (sa rfl rfl S)<|tS (sB (v := .agg #[iv h, iv e, iv ((e + 1) + i)]) [(0, iv h), (1, iv e), (2, iv ((e + 1) + i))] rfl (fun _ => by kernel_rfl))<|mV rfl<|tS (q6 rfl rfl)<|tD (uN (vs := [_, _, _]) 3 3 rfl rfl rfl siz86 rfl (mc rfl (mc rfl (mc rfl mn))) rfl (by simp)) ?_
 rintro _ _ rfl
 refine aS rfl<|Te<|Ct ?_
 obtain ⟨rfl, rfl, rfl, rfl⟩ := some4 hm
 refine Xp 2 rfl<|X2 [_, _, _, _, _] c d R rfl ?_
 exact rM (rs := [.cell 8 86, .tmp 9]) (vs := [.agg #[iv h, iv e, iv ((e + 1) + i)], .bool (decide (0 ≤ i))]) ⟨⟨_, rfl, fun w ho => cell_agg (vs := [_, _, _]) 3 3 agg86 rfl rfl rfl w ho⟩, ⟨rfl, trivial⟩⟩ ⟨rfl, rfl⟩ (.cons_cons _ (.cons _ (.cons _ (.cons _ (.cons _ (.refl _)))))) (a.trans aa)

set_option maxRecDepth 20000 in
theorem cGuideDeskLook_2 (b : Base) (R : Hp) (z : GuideNet) (X Y ah ai aE aF aG aH aI C aJ aK bY aj O Z aa ab H S) (X32 : List Value) (aT) (Y34 : List Value) (ac ad ae af ak al am an) (aL : Value) (I J g3 i A7 c8 k ao aq a aM aN e aO aP f aQ aR g) (hX35 : X32.length = aT) (bZ : FZ rApiTrain b.w ac ad z.Day.Trains) (b0 : FZ (RT.list rI) b.w ae af z.Day.Turns) (c6 : FZ rApiTrain b.w ak al X) (c7 : FZ (RT.list rI) b.w am an Y) (b1 : FZ rGuideRide b.w I J C) (h4 : OM rI (OT.fr rI) false false b.w g3 bY i) (h9 : OS 4 (OT.fr RT.bool) b.w (sv A7 aj c8) aj k) (c9 : OS 68 (OT.fr rGuideMessage) b.w (sv ao O aq) O a) (ck : OS 4 (OT.fr RT.bool) b.w (sv aM Z aN) Z e) (da : OS 3 (OT.fr rI) b.w (sv aO aa aP) aa f) (dy : OS 3 (OT.fr rI) b.w (sv aQ ab aR) ab g) (bU bV az) (hm : mGuideDeskLook_2 z X Y ah ai aE aF aG aH aI C aJ aK bY aj O Z aa ab = some (bU, bV, az)):
    CallsG Tryd.prog 86 [pb H, .pointer (some ⟨S, aT + 0, none⟩), .agg #[sv ac z.Day.Trains ad, sv ae z.Day.Turns af, iv z.least], .map (some g3), sv A7 aj c8] b ((H, Cl 116 [sv ak X al, sv am Y an, iv ah, iv ai, aL, sv ao O aq]) :: (S, Cl 119 (X32 ++ ([iv aE, iv aF, iv aG, iv aH, iv aI, sv I C J, sv aM Z aN, sv aO aa aP, sv aQ ab aR, iv aJ, iv aK] ++ Y34))) :: (i ++ (k ++ (a ++ (e ++ (f ++ (g ++ R))))))) (fun v b' hp' => ∃ bW bX aU, .tuple #[sv bW az bX, iv bU, iv bV] = v ∧ (H, Cl 116 [sv ak X al, sv am Y an, iv ah, iv ai, aL, sv ao O aq]) :: (S, Cl 119 (X32 ++ ([iv aE, iv aF, iv aG, iv aH, iv aI, sv I C J, sv aM Z aN, sv aO aa aP, sv aQ ab aR, iv aJ, iv aK] ++ Y34))) :: (aU ++ (i ++ (k ++ (a ++ (e ++ (f ++ (g ++ R))))))) = hp' ∧ OS 86 (OT.fr rGuideRide) b'.w (sv bW az bX) az aU) := by
 refine fE 108 Tryd.func86 rfl Tryd.ntmps86 rfl ?_
 unfold mGuideDeskLook_2 at hm
 refine Cr<|tD (uB _ rfl rfl) ?_
 rintro _ _ ⟨K, rfl, rfl⟩
 refine aS rfl<|aS rfl<|aS rfl<|Te<|Cr<|mV rfl<|tS (sN rfl)<|tS (sF rfl fld119_0)<|tS (sF rfl fld71_5)<|tS (sF rfl fld33_0) ?_
 refine tS (st_loadX 2 5 hX35 rfl one31 rfl rfl) ?_
 obtain ⟨cl, bk, hm⟩ := bS hm
 refine Tg _ rfl call56 rfl (cSlicesClone_5 _ _ C I J b1 cl bk) ?_
 rintro _ cm _ h ⟨cn, co, t, rfl, rfl, cp⟩
 refine t_in1 [] [_, _, _] t (i ++ (k ++ (a ++ (e ++ (f ++ (g ++ R)))))) rfl<|aS rfl<|Te<|Cs<|Cr<|mV rfl<|tS (sN rfl)<|tS (sF rfl fld119_0)<|tS (sF rfl fld71_5)<|tS (sF rfl fld33_0) ?_
 refine tS (st_loadX 2 5 hX35 rfl one31 rfl rfl)<|tS (sE rfl sl31)<|mV rfl<|Te<|Cb ?_
 have db : C.length ≤ 9223372036854775807 := (FZ.bd (b1.le h))
 refine Cp 2 rfl<|Cp 2 rfl<|c_front7 [_, _, _] t i k a e f g R rfl<|c_front7 [_, _, _] g t i k a e f R rfl<|c_front7 [_, _, _] f g t i k a e R rfl<|c_front7 [_, _, _] e f g t i k a R rfl<|c_front5 [_, _, _] a e f g t (i ++ (k ++ R)) rfl<|c_front7 [_, _, _] t a e f g i k R rfl<|c_front7 [_, _, _] k t a e f g i R rfl ?_
 obtain ⟨dc, bl, B⟩ := bS hm
 refine lF (fun q => fun x => fun T e' hp' => ∃ o p d, [(0, pb H), (1, .pointer (some ⟨S, aT + 0, none⟩)), (3, .map (some g3)), (4, sv A7 aj c8), (7, pb K), (10, sv o x p), (30, sv I C J), (31, iv ((C.length : Int))), (32, iv ((q : Int)))] = e' ∧ (H, Cl 116 [sv ak X al, sv am Y an, iv ah, iv ai, aL, sv ao O aq]) :: (S, Cl 119 (X32 ++ ([iv aE, iv aF, iv aG, iv aH, iv aI, sv I C J, sv aM Z aN, sv aO aa aP, sv aQ ab aR, iv aJ, iv aK] ++ Y34))) :: (K, Cl 91 [sv ac z.Day.Trains ad, sv ae z.Day.Turns af, iv z.least]) :: (i ++ (k ++ (d ++ (a ++ (e ++ (f ++ (g ++ R))))))) = hp' ∧ cm.Le T ∧ OS 86 (OT.fr rGuideRide) T.w (sv o x p) x d) bl ⟨cn, co, t, rfl, rfl, lr, cp⟩ ?_ ?_
 rintro q x T _ _ dd cq ⟨o, p, d, rfl, rfl, c, F⟩ G L
 unfold mGuideDeskLook_2_L912 at G
 have hm := G
 refine Cr<|tS (lT rfl rfl (by omega))<|Te<|Cs<|c_cond_t rfl<|Ck<|Xn<|Cs<|Cb<|Cr ?_
 refine mV rfl ?_
 obtain ⟨U, b2, cz, bm, cA, bn, aV, aA, aW, hm⟩ := bF (sz := 3) hm (b1.le (h.trans c))
 obtain ⟨_, _, rfl, rfl, ⟨_, _, rfl, rfl, rfl⟩⟩ := bn
 refine tS (sI b2 rfl rfl bm aW aA sl31)<|tS (sP (vs := [iv U.Train, iv U.On, iv U.Off]) 3 rfl agg86 aA rfl (fun j u hu => aV j u hu))<|tD (uA [iv 0, iv 0, iv 0] zero86 rfl) ?_
 rintro _ _ ⟨de, rfl, rfl⟩
 refine aS rfl<|tD (uN (vs := [_, _, _]) 0 3 rfl rfl rfl siz86 rfl (mc rfl (mc rfl (mc rfl mn))) rfl (by simp)) ?_
 rintro _ _ rfl
 refine Te<|Cs<|Cr<|mV rfl<|tS (sN rfl)<|tS (sF rfl fld119_1)<|tS (st_loadX 2 6 hX35 rfl one117 rfl rfl)<|mV rfl ?_
 obtain ⟨df, b3, hm⟩ := bS hm
 obtain ⟨b4, bo, bp⟩ := iS b3
 obtain ⟨cC, cD, dg, dh, cE, bq, aX, br, aY, cG, cr⟩ := OS.get (sz := 1) rfl (by decide) (ck.le (h.trans c)) bp
 obtain ⟨rfl, rfl⟩ := bq
 refine tS (sI b4 rfl rfl bo aY br sl117)<|tS (st_load_rd rfl one4 (fun w ho => aX w _ ho (.cons _ (.cons _ (.cons _ (.cons _ (ss i (ss k (ss d (ss a (List.sublist_append_left _ _))))))))) 0 _ rfl))<|Te ?_
 refine cB hm rfl (fun hm => ?_) fun hm => ?_
 refine Ce<|Xe<|Xo<|Xn<|Cg<|tS (sa rfl rfl (by omega))<|mV rfl<|Tn ?_
 exact jM hm ⟨o, p, d, rfl, rfl, (c), F⟩
 refine Ck<|Xn<|Cr<|mV rfl<|tS (sF rfl fld91_0)<|tS (sD (vs := [_, _]) 3 2 rfl agg25 rfl rfl rfl)<|mV rfl<|tS (sD (vs := [_, _, _]) 0 3 rfl agg86 rfl rfl rfl) ?_
 obtain ⟨⟨r, s, y, b5⟩, aZ, hm⟩ := bS hm
 have hm := (unc4E hm)
 refine t_pullb 1 rfl<|t_front4 [_, _, _, _] i k d a (e ++ (f ++ (g ++ R))) rfl<|t_front2 [_, _, _, _] a i (k ++ (d ++ (e ++ (f ++ (g ++ R))))) rfl<|t_out2 [_] [_, _, _] i a (k ++ (d ++ (e ++ (f ++ (g ++ R))))) rfl<|Tg _ rfl call104 rfl (cGuideDeskFind_3 _ _ z.Day U X Y ah ai bY O H ac ad ae af ak al am an aL g3 i ao aq a (bZ.le (h.trans c)) (b0.le (h.trans c)) (c6.le (h.trans c)) (c7.le (h.trans c)) (h4.le (h.trans c)) (c9.le (h.trans c)) r s y b5 aZ) ?_
 rintro _ b6 _ l ⟨rfl, rfl⟩
 refine t_in2 [_] [_, _, _] i a (k ++ (d ++ (e ++ (f ++ (g ++ R))))) rfl<|mV rfl<|tS (st_extract rfl rfl)<|tS (st_extract rfl rfl)<|tD (uA [iv 0, iv 0, iv 0] zero86 rfl) ?_
 rintro _ _ ⟨V, rfl, rfl⟩
 refine tD (uN (vs := [_, _, _]) 0 3 rfl rfl rfl siz86 rfl (mc rfl (mc rfl (mc rfl mn))) rfl (by simp)) ?_
 rintro _ _ rfl
 refine aS rfl<|Te<|Cs<|Cr<|mV rfl<|tS (sn2 rfl)<|Te ?_
 refine cM hm rfl (fun hm => ?_) fun hm => ?_
 refine Cr<|mV rfl<|aS rfl<|aS rfl<|aS rfl<|Te<|Ct<|Xr<|Xb<|Xr ?_
 refine Xr<|Xb<|Xr ?_
 have bs := L _ (Option.some.inj hm).symm
 rw [bs] at B
 have hm := elimR B
 obtain ⟨rfl, rfl, rfl⟩ := some3 hm
 refine Xp 3 rfl<|Xp 2 rfl<|x_front7 [_, _, _, _, _] i a k d e f g R rfl<|x_front7 [_, _, _, _, _] g i a k d e f R rfl<|x_front7 [_, _, _, _, _] f g i a k d e R rfl<|X5 [_, _, _, _, _] e f g i a (k ++ (d ++ R)) rfl<|X6 [_, _, _, _, _] a e f g i k (d ++ R) rfl<|X6 [_, _, _, _, _] k a e f g i (d ++ R) rfl ?_
 exact rM (rs := [.tmp 10, .tmp 11, .tmp 12]) (vs := [sn, iv ((q : Int)), iv 1]) ⟨rfl, ⟨rfl, ⟨rfl, trivial⟩⟩⟩ ⟨none, 0, [], rfl, rfl, OS.nil⟩ (.cons_cons _ (.cons_cons _ (.cons _ (.cons _ (.cons _ (sp i (sp k (sp a (sp e (sp f (sp g (ss d (.refl _))))))))))))) (h.trans (c.trans l))
 refine Ck<|Xn<|Cr<|mV rfl<|mV rfl<|tS (sD (vs := [_, _, _]) 0 3 rfl agg86 rfl rfl rfl) ?_
 obtain ⟨di, b7, hm⟩ := bS hm
 obtain ⟨b8, aB, aC⟩ := iS b7
 obtain ⟨cH, cJ, dj, dk, cK, bt, ct, bu, a0, cO, cu⟩ := OS.get (sz := 3) rfl (by decide) (F.le l) aC
 obtain ⟨⟨_, _, rfl, rfl, ⟨_, _, rfl, rfl, rfl⟩⟩, rfl⟩ := bt
 refine tS (sI b8 rfl rfl aB a0 bu sl31)<|t_front4 [_, _, _, _, _] i a k d (e ++ (f ++ (g ++ R))) rfl<|tD (uP aB (sz := 3) (a' := (⟨r, s, y⟩ : GuideRide)) rfl [_, _, _, _, _] (i ++ (a ++ (k ++ (e ++ (f ++ (g ++ R)))))) 0 3 [iv r, iv s, iv y] rfl (F.le l) aC rfl rfl rfl siz86 rfl (mc rfl (mc rfl (mc rfl mn))) (fun cs hsj hh => by obtain ⟨⟨_, _, rfl, rfl, ⟨_, _, rfl, rfl, rfl⟩⟩, rfl⟩ := hh; exact ⟨by first | decide | exact Nat.le_refl _, ⟨[iv r], _, rfl, rfl, ⟨[iv s], _, rfl, rfl, rfl⟩⟩, rfl⟩)) ?_
 rintro _ _ ⟨n, rfl, ar⟩
 refine Tr 10 rfl (v' := .slice o (put x (q : Int) (⟨r, s, y⟩ : GuideRide)).length p) (by simp only [put_length])<|Te<|Cs ?_
 obtain ⟨b9, bw, bx⟩ := bS hm
 refine Cj (fun au e' hp' => [(0, pb H), (1, .pointer (some ⟨S, aT + 0, none⟩)), (3, .map (some g3)), (4, sv A7 aj c8), (7, pb K), (10, .slice o (put x (q : Int) (⟨r, s, y⟩ : GuideRide)).length p), (13, iv ((q : Int))), (15, pb V), (30, sv I C J), (31, iv ((C.length : Int))), (32, iv ((q : Int))), (67, bv b9)] = e' ∧ (H, Cl 116 [sv ak X al, sv am Y an, iv ah, iv ai, aL, sv ao O aq]) :: (S, Cl 119 (X32 ++ ([iv aE, iv aF, iv aG, iv aH, iv aI, sv I C J, sv aM Z aN, sv aO aa aP, sv aQ ab aR, iv aJ, iv aK] ++ Y34))) :: (K, Cl 91 [sv ac z.Day.Trains ad, sv ae z.Day.Turns af, iv z.least]) :: (V, Cl 86 [iv r, iv s, iv y]) :: (i ++ (k ++ (n ++ (a ++ (e ++ (f ++ (g ++ R))))))) = hp' ∧ b6.Le au) ?_ ?_
 have hm := bw
 refine Cg<|mV rfl<|mV rfl ?_
 obtain ⟨ca, cb, hm⟩ := bS hm
 obtain ⟨cc, bz, bA⟩ := iS cb
 obtain ⟨cP, cQ, dl, dm, cR, bB, a1, bC, a2, cT, cv⟩ := OS.get (sz := 1) rfl (by decide) (h9.le (h.trans (c.trans l))) bA
 obtain ⟨rfl, rfl⟩ := bB
 refine tS (sI cc rfl rfl bz a2 bC sl117)<|tS (st_load_rd rfl one4 (fun w ho => a1 w _ ho (.cons _ (.cons _ (.cons _ (.cons _ (.cons _ (ss n (ss i (ss a (List.sublist_append_left _ _))))))))) 0 _ rfl)) ?_
 rcases Bool.eq_false_or_eq_true ca with D | D
 rw [if_pos D] at hm
 refine Tr 63 rfl (v' := .bool true) (by rw [D] <;> rfl)<|mV rfl<|nO<|nO<|tS (pT rfl rfl)<|Tn ?_
 obtain rfl := o1 hm
 exact jJ ⟨rfl, rfl, lr⟩
 rw [if_neg (fun hh => Bool.noConfusion (hh.symm.trans D))] at hm
 refine Tr 63 rfl (v' := .bool false) (by rw [D] <;> rfl)<|mV rfl<|yS<|mV rfl<|yS<|tS (q1 rfl rfl)<|tS (pF rfl rfl)<|Tn ?_
 obtain rfl := o1 hm
 exact jJ ⟨rfl, rfl, lr⟩
 rintro au _ _ ⟨rfl, rfl, m⟩
 have hm := bx
 refine cB hm rfl (fun hm => ?_) fun hm => ?_
 refine Ce<|Xe<|Xo<|Xn<|Cg<|tS (sa rfl rfl (by omega))<|mV rfl<|Tn ?_
 exact jM hm ⟨o, p, n, rfl, rfl, ((c.trans (l.trans m))), (ar.le m)⟩
 refine Ck<|Xn<|Cr<|mV rfl<|tS (sN rfl)<|tS (sF rfl fld119_2)<|tS (st_loadX 1 7 hX35 rfl one49 rfl rfl)<|mV rfl ?_
 obtain ⟨_, av, hm⟩ := bS hm
 have av := (kS av).2
 refine tS (sb rfl rfl av) ?_
 obtain ⟨dn, cd, hm⟩ := bS hm
 obtain ⟨ce, bD, bE⟩ := iS cd
 obtain ⟨cU, cV, dp, dq, cW, bG, a3, bH, a4, cX, cw⟩ := OS.get (sz := 1) rfl (by decide) (da.le (h.trans (c.trans (l.trans m)))) bE
 obtain ⟨rfl, rfl⟩ := bG
 refine tS (sI ce rfl rfl bD a4 bH sl49)<|tS (st_load_rd rfl one3 (fun w ho => a3 w _ ho (.cons _ (.cons _ (.cons _ (.cons _ (ss i (ss k (ss n (ss a (ss e (List.sublist_append_left _ _)))))))))) 0 _ rfl))<|aS rfl<|Te ?_
 obtain ⟨cf, bI, bJ⟩ := bS hm
 refine Cj (fun a5 e' hp' => [(0, pb H), (1, .pointer (some ⟨S, aT + 0, none⟩)), (3, .map (some g3)), (4, sv A7 aj c8), (7, pb K), (10, .slice o (put x (q : Int) (⟨r, s, y⟩ : GuideRide)).length p), (13, iv ((q : Int))), (15, pb V), (17, iv cf), (30, sv I C J), (31, iv ((C.length : Int))), (32, iv ((q : Int)))] = e' ∧ (H, Cl 116 [sv ak X al, sv am Y an, iv ah, iv ai, aL, sv ao O aq]) :: (S, Cl 119 (X32 ++ ([iv aE, iv aF, iv aG, iv aH, iv aI, sv I C J, sv aM Z aN, sv aO aa aP, sv aQ ab aR, iv aJ, iv aK] ++ Y34))) :: (K, Cl 91 [sv ac z.Day.Trains ad, sv ae z.Day.Turns af, iv z.least]) :: (V, Cl 86 [iv r, iv s, iv y]) :: (i ++ (k ++ (n ++ (a ++ (e ++ (f ++ (g ++ R))))))) = hp' ∧ au.Le a5) ?_ ?_
 have hm := bI
 refine Cr<|mV rfl<|tS (sN rfl)<|tS (sF rfl fld119_1)<|tS (st_loadX 1 6 hX35 rfl one117 rfl rfl)<|mV rfl ?_
 obtain ⟨_, aw, hm⟩ := bS hm
 have aw := (kS aw).2
 refine tS (sb rfl rfl aw) ?_
 obtain ⟨dr, cg, hm⟩ := bS hm
 obtain ⟨ch, bK, bL⟩ := iS cg
 obtain ⟨cY, cZ, ds, dt, c0, bM, a6, bN, a7, c1, cx⟩ := OS.get (sz := 1) rfl (by decide) (ck.le (h.trans (c.trans (l.trans m)))) bL
 obtain ⟨rfl, rfl⟩ := bM
 refine tS (sI ch rfl rfl bK a7 bN sl117)<|tS (st_load_rd rfl one4 (fun w ho => a6 w _ ho (.cons _ (.cons _ (.cons _ (.cons _ (ss i (ss k (ss n (ss a (List.sublist_append_left _ _))))))))) 0 _ rfl))<|tS (sn2 rfl)<|Te ?_
 refine cM hm rfl (fun hm => ?_) fun hm => ?_
 obtain ⟨_, ax, hm⟩ := bS hm
 obtain ⟨W, ci, hm⟩ := bS hm
 obtain ⟨⟨a8, a9, ba, bb⟩, bc, hm⟩ := bS hm
 have hm := (unc4E hm)
 refine Di mixed (.refl _)<|Es 0 rfl (sD (vs := [_, _, _]) 2 3 rfl agg91 rfl rfl rfl)<|E0 1 rfl (sM rfl)<|E0 2 rfl (sM rfl) ?_
 have ax := (kS ax).2
 refine E0 3 rfl (sb rfl rfl ax) ?_
 obtain ⟨cj, bO, bP⟩ := iS ci
 obtain ⟨c2, c3, du, dv, c4, bQ, bd, aD, be, c5, cy⟩ := OS.get (sz := 3) rfl (by decide) (ar.le m) bP
 obtain ⟨⟨_, _, rfl, rfl, ⟨_, _, rfl, rfl, rfl⟩⟩, rfl⟩ := bQ
 refine E0 4 rfl (sI cj rfl rfl bO be aD sl31)<|Es 5 rfl (st_loadN_rd (vs := [iv W.Train, iv W.On, iv W.Off]) 3 rfl agg86 aD rfl (fun w ho j u hu => bd w _ ho (.cons _ (.cons _ (.cons _ (.cons _ (ss i (ss k (List.sublist_append_left _ _))))))) j u hu))<|Eo<|Da [6] (by kernel_rfl) rfl ?_
 refine Rg lr rfl rfl _ call61 rfl (cGuideNetOff _ _ z W ac ad ae af (bZ.le (h.trans (c.trans (l.trans m)))) (b0.le (h.trans (c.trans (l.trans m)))) a8 a9 ba bb bc) ?_ ?_
 rintro _ dw _ ag ⟨rfl, rfl⟩
 refine ⟨.inl (by kernel_rfl), ?_⟩
 refine El ag<|E0 7 rfl (st_vfield1 (cs := [iv a8, iv a9, iv ba, iv bb]) rfl fdv83_2 one3 rfl)<|E0 8 rfl (sA rfl)<|Eo<|Dd (by kernel_rfl) ?_
 obtain rfl := o1 hm
 exact jJ ⟨rfl, rfl, ag⟩
 exact Rn
 refine Ck ?_
 obtain rfl := o1 hm
 exact jJ ⟨rfl, rfl, lr⟩
 rintro a5 _ _ ⟨rfl, rfl, A⟩
 have hm := bJ
 refine Cs ?_
 obtain ⟨⟨bf, bg, bh, bi⟩, bj, hm⟩ := bS hm
 have hm := (unc4E hm)
 obtain ⟨_, ay, hm⟩ := bS hm
 refine Di mixed (.refl _)<|Es 0 rfl (sD (vs := [_, _, _]) 2 3 rfl agg91 rfl rfl rfl)<|Es 1 rfl (sD (vs := [_, _, _]) 3 3 rfl agg86 rfl rfl rfl)<|E0 4 rfl (sM rfl)<|E0 5 rfl (sM rfl)<|E0 6 rfl (sN rfl)<|E0 7 rfl (sF rfl fld116_0)<|E0 8 rfl (sF rfl fld91_1)<|Es 9 rfl (sL 0 rfl one3 rfl rfl) ?_
 have ay := (kS ay).2
 refine E0 10 rfl (sa rfl rfl ay)<|Eo<|Da [2] (by kernel_rfl) rfl ?_
 refine Rg lr rfl rfl _ call60 rfl (cGuideNetOn _ _ z (⟨r, s, y⟩ : GuideRide) ac ad ae af (bZ.le (h.trans (c.trans (l.trans (m.trans A))))) (b0.le (h.trans (c.trans (l.trans (m.trans A))))) bf bg bh bi bj) ?_ ?_
 rintro _ dx _ E ⟨rfl, rfl⟩
 refine iR<|Ei E (.refl _)<|E0 3 rfl (st_vfield1 (cs := [iv bf, iv bg, iv bh, iv bi]) rfl fdv83_3 one3 rfl)<|E0 11 rfl (q3 rfl rfl)<|Eo<|Dd (by kernel_rfl)<|Xn ?_
 refine cI hm rfl (fun hm => ?_) fun hm => ?_
 refine Cr<|mV rfl<|aS rfl<|aS rfl<|aS rfl<|Te<|Ct<|Xb<|Xr<|Xr ?_
 refine Xb<|Xr ?_
 have bR := L _ (Option.some.inj hm).symm
 rw [bR] at B
 have hm := elimR B
 obtain ⟨rfl, rfl, rfl⟩ := some3 hm
 refine Xp 1 rfl<|Xp 1 rfl<|x_front7 [_, _, _, _] i k n a e f g R rfl<|x_front7 [_, _, _, _] g i k n a e f R rfl<|x_front7 [_, _, _, _] f g i k n a e R rfl<|x_front7 [_, _, _, _] e f g i k n a R rfl<|X6 [_, _, _, _] a e f g i k (n ++ R) rfl<|X6 [_, _, _, _] k a e f g i (n ++ R) rfl ?_
 exact rM (rs := [.tmp 10, .tmp 11, .tmp 12]) (vs := [sn, iv ((q : Int)), iv 2]) ⟨rfl, ⟨rfl, ⟨rfl, trivial⟩⟩⟩ ⟨none, 0, [], rfl, rfl, OS.nil⟩ (.cons_cons _ (.cons_cons _ (.cons _ (.cons _ (sp i (sp k (sp a (sp e (sp f (sp g (ss n (.refl _)))))))))))) (h.trans (c.trans (l.trans (m.trans (A.trans E)))))
 refine Ck<|Xm<|Xn<|Cg<|tS (sa rfl rfl (by omega))<|mV rfl<|Tn ?_
 exact jM hm ⟨o, p, n, rfl, rfl, ((c.trans (l.trans (m.trans (A.trans E))))), (ar.le (m.trans (A.trans E)))⟩
 exact Rn
 rintro x T _ _ ⟨o, p, d, rfl, rfl, c, F⟩ bT
 rw [bT] at B
 have hm := elimL B
 refine Cr<|tS (lF rfl rfl (by omega))<|Te<|Cs<|c_cond_f rfl<|Ce<|Xe<|Xe<|Xo<|Xn ?_
 refine Cr<|mV rfl<|aS rfl<|aS rfl<|aS rfl<|Te<|Ct ?_
 obtain ⟨rfl, rfl, rfl⟩ := some3 hm
 refine Xp 1 rfl<|Xp 1 rfl<|x_front7 [_, _, _] i k d a e f g R rfl<|x_front7 [_, _, _] g i k d a e f R rfl<|x_front7 [_, _, _] f g i k d a e R rfl<|x_front7 [_, _, _] e f g i k d a R rfl<|X6 [_, _, _] a e f g i k (d ++ R) rfl<|X6 [_, _, _] k a e f g i (d ++ R) rfl<|x_front7 [_, _, _] i k a e f g d R rfl ?_
 exact rM (rs := [.tmp 10, .tmp 11, .tmp 12]) (vs := [sv o x p, iv ((-1)), iv 0]) ⟨rfl, ⟨rfl, ⟨rfl, trivial⟩⟩⟩ ⟨o, p, d, rfl, rfl, F⟩ (.cons_cons _ (.cons_cons _ (.cons _ (.refl _)))) (h.trans c)

set_option maxRecDepth 20000 in
theorem cGuideDeskLeave_2 (b : Base) (R : Hp) (aj : ApiDay) (V x y D W X Y Z aa bT E bU bV bW an z p A B F q) (X32 : List Value) (aq) (Y34 : List Value) (bf bg bh bi G H I J) (ak : Value) (ab ac g3 f A7 c8 g ad ae a K L c af ag d ah ai e) (hX35 : X32.length = aq) (ck : FZ rApiTrain b.w bf bg aj.Trains) (c9 : FZ (RT.list rI) b.w bh bi aj.Turns) (bX : FZ rApiTrain b.w G H x) (cl : FZ (RT.list rI) b.w I J y) (cm : FZ rGuideRide b.w ab ac E) (h4 : OM rI (OT.fr rI) false false b.w g3 bW f) (h9 : OS 4 (OT.fr RT.bool) b.w (sv A7 an c8) an g) (da : OS 68 (OT.fr rGuideMessage) b.w (sv ad z ae) z a) (bY : OS 4 (OT.fr RT.bool) b.w (sv K p L) p c) (db : OS 3 (OT.fr rI) b.w (sv af A ag) A d) (cn : OS 3 (OT.fr rI) b.w (sv ah B ai) B e) (aX aY aZ) (hm : mGuideDeskLeave_2 aj V x y D W X Y Z aa bT E bU bV bW an z p A B = some (aX, aY, aZ)):
    CallsG Tryd.prog 87 [pb F, .pointer (some ⟨q, aq + 0, none⟩), .agg #[sv bf aj.Trains bg, sv bh aj.Turns bi], .map (some g3), sv A7 an c8, iv V] b ((F, Cl 116 [sv G x H, sv I y J, iv D, iv W, ak, sv ad z ae]) :: (q, Cl 119 (X32 ++ ([iv X, iv Y, iv Z, iv aa, iv bT, sv ab E ac, sv K p L, sv af A ag, sv ah B ai, iv bU, iv bV] ++ Y34))) :: (f ++ (g ++ (a ++ (c ++ (d ++ (e ++ R))))))) (fun v b' hp' => .tuple #[] = v ∧ (F, Cl 116 [sv G x H, sv I y J, iv D, iv W, ak, sv ad z ae]) :: (q, Cl 119 (X32 ++ ([iv X, iv Y, iv Z, iv aa, iv aX, sv ab E ac, sv K p L, sv af A ag, sv ah B ai, iv aY, iv aZ] ++ Y34))) :: (f ++ (g ++ (a ++ (c ++ (d ++ (e ++ R)))))) = hp') := by
 refine fE 125 Tryd.func87 rfl Tryd.ntmps87 rfl ?_
 unfold mGuideDeskLeave_2 at hm
 refine Cr<|tD (uB _ rfl rfl) ?_
 rintro _ _ ⟨a0, rfl, rfl⟩
 refine Te<|Cr<|mV rfl<|tS (sN rfl)<|tS (sF rfl fld119_0)<|tS (sF rfl fld71_4)<|tD (u_storeX 2 4 hX35 rfl rfl siz3 rfl rfl (by simp)) ?_
 rintro _ _ rfl
 refine Te<|Cr<|mV rfl<|mV rfl<|mV rfl<|tS (sN rfl)<|tS (sF rfl fld119_0)<|tS (sF rfl fld71_0)<|tS (st_loadX 2 0 hX35 rfl one3 rfl rfl)<|mV rfl ?_
 refine tS (sN rfl)<|tS (sF rfl fld119_4)<|tD (u_storeX 2 9 hX35 rfl rfl siz3 rfl rfl (by simp)) ?_
 rintro _ _ rfl
 refine tS (sN rfl)<|tS (sF rfl fld119_5)<|tD (u_storeX 2 10 hX35 rfl rfl siz3 rfl rfl (by simp)) ?_
 rintro _ _ rfl
 refine Te<|Cs<|Cr<|mV rfl ?_
 obtain ⟨bZ, aG, hm⟩ := bS hm
 refine tD (uW _ call105 rfl (fun w ho => cSlicesIndex _ [] an true A7 c8 (OS.now (o := (OT.fr RT.bool)) (l := an) (hs := g) h9 ho (.cons _ (.cons _ (.cons _ (ss f (List.sublist_append_left _ _)))))) bZ aG) (fun _ _ _ h => h.2.symm)) ?_
 rintro _ _ ⟨⟨_, rfl, _⟩, rfl⟩
 refine aS rfl<|Te<|Cr<|mV rfl<|tS (q6 rfl rfl)<|Te ?_
 refine cI hm rfl (fun hm => ?_) fun hm => ?_
 refine Cr<|mV rfl<|tS (sN rfl)<|tS (sF rfl fld119_0)<|tS (sF rfl fld71_5)<|tS (sF rfl fld33_0)<|tS (st_loadX 2 5 hX35 rfl one31 rfl rfl)<|mV rfl ?_
 obtain ⟨r, b0, co, bj, cp, bk, aH, ar, aI, hm⟩ := bF (sz := 3) hm cm
 obtain ⟨_, _, rfl, rfl, ⟨_, _, rfl, rfl, rfl⟩⟩ := bk
 refine tS (sI b0 rfl rfl bj aI ar sl31)<|tS (sP (vs := [iv r.Train, iv r.On, iv r.Off]) 3 rfl agg86 ar rfl (fun j u hu => aH j u hu))<|tD (uA [iv 0, iv 0, iv 0] zero86 rfl) ?_
 rintro _ _ ⟨a1, rfl, rfl⟩
 refine tD (uN (vs := [_, _, _]) 0 3 rfl rfl rfl siz86 rfl (mc rfl (mc rfl (mc rfl mn))) rfl (by simp)) ?_
 rintro _ _ rfl
 refine Te ?_
 obtain ⟨au, bl, bm⟩ := bS hm
 refine Cj (fun al e' hp' => [(0, pb F), (1, .pointer (some ⟨q, aq + 0, none⟩)), (3, .map (some g3)), (5, iv V), (8, pb a0), (13, pb a1)] = e' ∧ (F, Cl 116 [sv G x H, sv I y J, iv D, iv W, ak, sv ad z ae]) :: (q, Cl 119 (X32 ++ ([iv X, iv Y, iv Z, iv aa, iv 2, sv ab E ac, sv K p L, sv af A ag, sv ah B ai, iv au, iv V] ++ Y34))) :: (a0, Cl 25 [sv bf aj.Trains bg, sv bh aj.Turns bi]) :: (a1, Cl 86 [iv r.Train, iv r.On, iv r.Off]) :: (f ++ (g ++ (a ++ (c ++ (d ++ (e ++ R)))))) = hp' ∧ b.Le al) ?_ ?_
 have hm := bl
 obtain ⟨⟨a2, a3, a4, a5⟩, aJ, hm⟩ := bS hm
 have hm := (unc4E hm)
 refine Di mixed (.refl _)<|E0 0 rfl (sM rfl)<|E0 1 rfl (sM rfl)<|E0 2 rfl (sN rfl)<|E0 3 rfl (sF rfl fld116_0)<|Es 4 rfl (sD (vs := [_, _, _]) 2 3 rfl agg91 rfl rfl rfl)<|Es 5 rfl (sD (vs := [_, _, _]) 0 3 rfl agg86 rfl rfl rfl)<|Eo<|Da [6] (by kernel_rfl) rfl ?_
 refine Rg lr rfl rfl _ call60 rfl (cGuideNetOn _ _ (⟨(⟨x, y⟩ : ApiDay), D⟩ : GuideNet) r G H I J bX cl a2 a3 a4 a5 aJ) ?_ ?_
 rintro _ cP _ O ⟨rfl, rfl⟩
 refine ⟨.inl (by kernel_rfl), ?_⟩
 refine El O<|E0 7 rfl (st_vfield1 (cs := [iv a2, iv a3, iv a4, iv a5]) rfl fdv83_0 one3 rfl)<|E0 8 rfl (sN rfl)<|E0 9 rfl (sF rfl fld119_4)<|Eo<|Da [10] (by kernel_rfl) rfl ?_
 refine Rd2 O rfl rfl (u_storeX 3 9 hX35 rfl rfl siz3 rfl rfl (by simp)) ?_ ?_
 rintro _ _ rfl
 refine ⟨.inl (by kernel_rfl), ?_⟩
 refine Dd (by kernel_rfl) ?_
 obtain rfl := o1 hm
 exact jJ ⟨rfl, rfl, O⟩
 exact Rn
 exact Rn
 rintro al _ _ ⟨rfl, rfl, m⟩
 have hm := bm
 obtain ⟨b1, bn, S⟩ := bS hm
 refine Cj (fun a6 e' hp' => [] = e' ∧ (F, Cl 116 [sv G x H, sv I y J, iv D, iv W, ak, sv ad z ae]) :: (q, Cl 119 (X32 ++ ([iv X, iv Y, iv Z, iv aa, iv 2, sv ab E ac, sv K p L, sv af A ag, sv ah B ai, iv au, iv V] ++ Y34))) :: (f ++ (g ++ (a ++ (c ++ (d ++ (e ++ R)))))) = hp' ∧ al.Le a6 ∧ b1 = .inl ()) ?_ ?_
 have hm := bn
 refine Cs ?_
 obtain ⟨a7, b2, hm⟩ := bS hm
 obtain ⟨a8, b3, hm⟩ := bS hm
 refine Di mixed (.refl _)<|E0 0 rfl (sM rfl)<|E0 1 rfl (sM rfl)<|E0 2 rfl (sN rfl)<|E0 3 rfl (sF rfl fld116_0)<|E0 4 rfl (sF rfl fld91_0)<|E0 5 rfl (sF rfl fld25_0)<|Es 6 rfl (sL 0 rfl one22 rfl rfl)<|E0 7 rfl (sF rfl fld86_0)<|Es 8 rfl (sL 3 rfl one3 rfl rfl) ?_
 obtain ⟨b4, bo, bp⟩ := iS b2
 obtain ⟨cq, bq, aK, av, aL⟩ := FZ.get (sz := 4) rfl (by decide) (bX.le m) bp
 obtain ⟨_, _, rfl, rfl, ⟨_, _, rfl, rfl, ⟨_, _, rfl, ⟨cQ, cR, rfl, cT⟩, ⟨cU, cV, rfl, cW⟩⟩⟩⟩ := bq
 refine E0 9 rfl (sI b4 rfl rfl bo aL av sl22)<|E0 10 rfl (sQ rfl av fld47_0)<|Es 11 rfl (sO rfl one3 (aK 0 _ rfl)) ?_
 have br := Option.some.inj b3
 obtain ⟨a9, T, bs⟩ := OM.lookF kok3 (z0 := 0) (h4.le m) (key := iv a7.No) (k := a7.No) rfl mapt121 zero3 rfl
 rw [br] at T
 obtain rfl : a9 = iv a8 := by have T : [a9] = [iv a8] := T; injection T
 refine Es 12 rfl (st_mlook (ok := true) rfl rfl (fun w ho => bs _ w ho (.cons _ (.cons _ (.cons _ (.cons _ (List.sublist_append_left _ _))))) true))<|E0 13 rfl (sM rfl)<|E0 14 rfl (st_extract rfl rfl)<|E0 15 rfl (st_extract rfl rfl)<|E0 16 rfl (sA rfl)<|E0 17 rfl (sA rfl)<|Eo<|Dd (by kernel_rfl)<|Xn<|Cr ?_
 refine mV rfl<|Te ?_
 refine cB hm rfl (fun hm => ?_) fun hm => ?_
 refine Cr<|tS (sF rfl fld25_0)<|tS (sL 2 rfl one22 rfl rfl)<|mV rfl ?_
 obtain ⟨b5, b6, cr, bt, ct, bu, aM, aw, aN, hm⟩ := bF (sz := 4) hm (ck.le m)
 obtain ⟨_, _, rfl, rfl, ⟨_, _, rfl, rfl, ⟨_, _, rfl, ⟨b7, ba, rfl, bb⟩, ⟨cX, cY, rfl, cZ⟩⟩⟩⟩ := bu
 refine tS (sI b6 rfl rfl bt aN aw sl22)<|tS (sQ rfl aw fld47_2)<|tS (sO rfl one45 (aM 2 _ rfl)) ?_
 obtain ⟨ax, b8, hm⟩ := bS hm
 obtain ⟨ay, b9, bw, cu, az, aA, aB⟩ := cutS_some b8
 have aC := FZ.sub (sz := 4) rfl bb az aA
 have ca := bb.1.1
 rw [← aB] at aC
 refine tS (aB ▸ st_part (l := b5.Stops) ay b9 rfl (.inr ⟨_, _, _, rfl, rfl, bw⟩) (.inl ⟨rfl, by omega⟩) az aA ca sl45)<|tS (sE rfl sl45)<|mV rfl<|Te<|Cb ?_
 have cv : ax.length ≤ 9223372036854775807 := (FZ.bd aC)
 refine Cp 1 rfl<|c_front6 [_, _, _, _] f g a c d e R rfl<|c_front6 [_, _, _, _] e f g a c d R rfl<|c_front6 [_, _, _, _] d e f g a c R rfl<|c_front6 [_, _, _, _] c d e f g a R rfl<|c_front6 [_, _, _, _] a c d e f g R rfl<|c_front6 [_, _, _, _] g a c d e f R rfl ?_
 obtain ⟨c0, bx, U⟩ := bS hm
 refine lF (fun bc => fun _ => fun am e' hp' => [(1, .pointer (some ⟨q, aq + 0, none⟩)), (5, iv V), (82, .slice (subA b7 ba ay 4) (ax).length (ba - ay)), (83, iv ((ax.length : Int))), (84, iv ((bc : Int)))] = e' ∧ (q, Cl 119 (X32 ++ ([iv X, iv Y, iv Z, iv aa, iv 2, sv ab E ac, sv K p L, sv af A ag, sv ah B ai, iv au, iv V] ++ Y34))) :: (F, Cl 116 [sv G x H, sv I y J, iv D, iv W, ak, sv ad z ae]) :: (f ++ (g ++ (a ++ (c ++ (d ++ (e ++ R)))))) = hp' ∧ al.Le am) bx ⟨rfl, rfl, lr⟩ ?_ ?_
 rintro bc _ am _ _ cw cb ⟨rfl, rfl, n⟩ s ao
 unfold mGuideDeskLeave_2_L710 at s
 have hm := s
 refine Cr<|tS (lT rfl rfl (by omega))<|Te<|Cs<|c_cond_t rfl<|Ck<|Xn<|Cs<|Cb<|Cr ?_
 obtain ⟨C, cc, cx, bz, cy, bA, aO, aD, aP, hm⟩ := bF (sz := 4) hm (aC.le n)
 obtain ⟨_, _, rfl, rfl, ⟨_, _, rfl, rfl, ⟨_, _, rfl, rfl, rfl⟩⟩⟩ := bA
 refine tS (sI cc rfl rfl bz aP aD sl45)<|tS (sP (vs := [iv C.Station, iv C.Track, iv C.Arr, iv C.Dep]) 4 rfl agg83 aD rfl (fun j u hu => aO j u hu))<|tD (uA [iv 0, iv 0, iv 0, iv 0] zero83 rfl) ?_
 rintro _ _ ⟨c1, rfl, rfl⟩
 refine tD (uN (vs := [_, _, _, _]) 0 4 rfl rfl rfl siz83 rfl (mc rfl (mc rfl (mc rfl (mc rfl mn)))) rfl (by simp)) ?_
 rintro _ _ rfl
 refine Te<|Cr<|tS (sF rfl fld83_2)<|tS (sL 0 rfl one3 rfl rfl)<|mV rfl<|tS (q6 rfl rfl)<|Te ?_
 refine cI hm rfl (fun hm => ?_) fun hm => ?_
 obtain ⟨_, bB, bC⟩ := bS hm
 refine Cj (fun bd e' hp' => [] = e' ∧ (F, Cl 116 [sv G x H, sv I y J, iv D, iv W, ak, sv ad z ae]) :: (q, Cl 119 (X32 ++ ([iv X, iv Y, iv Z, iv aa, iv 2, sv ab E ac, sv K p L, sv af A ag, sv ah B ai, iv C.Station, iv C.Arr] ++ Y34))) :: (f ++ (g ++ (a ++ (c ++ (d ++ (e ++ R)))))) = hp' ∧ am.Le bd) ?_ ?_
 have hm := bB
 refine Di mixed (.cons_cons _ (.cons _ (.refl _)))<|E0 0 rfl (sM rfl)<|E0 1 rfl (sM rfl)<|E0 2 rfl (sF rfl fld83_0)<|Es 3 rfl (sL 0 rfl one3 rfl rfl)<|E0 4 rfl (sF rfl fld83_2)<|Es 5 rfl (sL 0 rfl one3 rfl rfl)<|E0 6 rfl (sN rfl)<|E0 7 rfl (sF rfl fld119_4)<|Eo ?_
 refine Da [8] (by kernel_rfl) rfl ?_
 refine Rd2 lr rfl rfl (u_storeX 1 9 hX35 rfl rfl siz3 rfl rfl (by simp)) ?_ ?_
 rintro _ _ rfl
 refine iR<|Ei lr (.cons_cons _ (.cons _ (.refl _)))<|E0 9 rfl (sN rfl)<|E0 10 rfl (sF rfl fld119_5)<|Eo<|Da [11] (by kernel_rfl) rfl ?_
 refine Rd2 lr rfl rfl (u_storeX 1 10 hX35 rfl rfl siz3 rfl rfl (by simp)) ?_ ?_
 rintro _ _ rfl
 refine ⟨.inl (by kernel_rfl), ?_⟩
 refine Dd (by kernel_rfl) ?_
 clear hm
 exact jJ ⟨rfl, rfl, lr⟩
 exact Rn
 exact Rn
 rintro bd _ _ ⟨rfl, rfl, aQ⟩
 have hm := bC
 refine Ct<|Xb<|Xr<|Xr<|Xb<|Xr<|Xr ?_
 have bD := ao _ (Option.some.inj hm).symm
 rw [bD] at U
 have hm := elimR U
 have bE := (Option.some.inj hm).symm
 rw [bE] at S
 have hm := elimR S
 obtain ⟨rfl, rfl, rfl⟩ := some3 hm
 exact rZ ⟨rfl, rfl⟩ (m.trans (n.trans aQ))
 refine Ck<|Xm<|Xn<|Cg<|tS (sa rfl rfl (by omega))<|mV rfl<|Tn ?_
 exact jM hm ⟨rfl, rfl, (n)⟩
 rintro _ am _ _ ⟨rfl, rfl, n⟩ bG
 rw [bG] at U
 have hm := elimL U
 refine Cr<|tS (lF rfl rfl (by omega))<|Te<|Cs<|c_cond_f rfl<|Ce<|Xe<|Xe<|Xo ?_
 have hq := (Option.some.inj hm).symm
 exact jJ ⟨rfl, rfl, n, hq⟩
 refine Ck ?_
 have hq := (Option.some.inj hm).symm
 exact jJ ⟨rfl, rfl, lr, hq⟩
 rintro a6 _ _ ⟨rfl, rfl, aR, bH⟩
 rw [bH] at S
 have hm := elimL S
 refine Ct<|Xr ?_
 obtain ⟨rfl, rfl, rfl⟩ := some3 hm
 exact rZ ⟨rfl, rfl⟩ (m.trans aR)
 refine Ck<|Xn<|Cr<|mV rfl<|tS (sN rfl)<|tS (sF rfl fld119_1)<|tS (st_loadX 2 6 hX35 rfl one117 rfl rfl)<|tS (sE rfl sl117)<|mV rfl<|Te ?_
 refine Cb ?_
 have cz : p.length ≤ 9223372036854775807 := (OS.len bY)
 refine Cp 1 rfl<|Cp 2 rfl<|c_front6 [_, _, _] f g a c d e R rfl<|c_front6 [_, _, _] e f g a c d R rfl<|c_front5 [_, _, _] d e f g a (c ++ R) rfl<|c_front5 [_, _, _] a d e f g (c ++ R) rfl<|c_front5 [_, _, _] g a d e f (c ++ R) rfl<|c_front6 [_, _, _] f g a d e c R rfl ?_
 obtain ⟨aE, bI, bJ⟩ := bS hm
 refine lS (fun be => fun aE => fun aF e' hp' => [(1, .pointer (some ⟨q, aq + 0, none⟩)), (106, sv K p L), (107, iv ((p.length : Int))), (108, iv ((be : Int)))] = e' ∧ (q, Cl 119 (X32 ++ ([iv X, iv Y, iv Z, iv aa, iv 2, sv ab E ac, sv K p L, sv af A ag, sv ah B ai, iv aE, iv V] ++ Y34))) :: (F, Cl 116 [sv G x H, sv I y J, iv D, iv W, ak, sv ad z ae]) :: (c ++ (f ++ (g ++ (a ++ (d ++ (e ++ R)))))) = hp' ∧ b.Le aF) bI ⟨rfl, rfl, lr⟩ ?_ ?_
 rintro be aE aF _ _ cA cd ⟨rfl, rfl, i⟩ t
 unfold mGuideDeskLeave_2_L753 at t
 have hm := t
 refine Cr<|tS (lT rfl rfl (by omega))<|Te<|Cs<|c_cond_t rfl<|Ck<|Xn<|Cs<|Cb<|Cr ?_
 refine mV rfl ?_
 obtain ⟨c2, ce, hm⟩ := bS hm
 obtain ⟨cf, bK, bL⟩ := iS ce
 obtain ⟨cC, cD, c3, c4, cE, bM, aT, bN, aU, cG, ci⟩ := OS.get (sz := 1) rfl (by decide) (bY.le i) bL
 obtain ⟨rfl, rfl⟩ := bM
 refine tS (sI cf rfl rfl bK aU bN sl117)<|tS (st_load_rd rfl one4 (fun w ho => aT w _ ho (.cons _ (.cons _ (List.sublist_append_left _ _))) 0 _ rfl))<|aS rfl<|aS rfl<|Te<|Cr<|mV rfl<|Te ?_
 refine cB hm rfl (fun hm => ?_) fun hm => ?_
 refine Cg<|mV rfl<|mV rfl<|tS (sN rfl)<|tS (sF rfl fld119_3)<|tS (st_loadX 0 8 hX35 rfl one49 rfl rfl)<|mV rfl ?_
 obtain ⟨c5, cg, hm⟩ := bS hm
 obtain ⟨ch, bO, bP⟩ := iS cg
 obtain ⟨cH, cJ, c6, c7, cK, bQ, aV, bR, aW, cO, cj⟩ := OS.get (sz := 1) rfl (by decide) (cn.le i) bP
 obtain ⟨rfl, rfl⟩ := bQ
 refine tS (sI ch rfl rfl bO aW bR sl49)<|tS (st_load_rd rfl one3 (fun w ho => aV w _ ho (.cons _ (.cons _ (ss c (ss f (ss g (ss a (ss d (List.sublist_append_left _ _)))))))) 0 _ rfl))<|tS (sN rfl)<|tS (sF rfl fld119_4)<|tD (u_storeX 0 9 hX35 rfl rfl siz3 rfl rfl (by simp)) ?_
 rintro _ _ rfl
 refine Tn<|Xm<|Xn<|Cg<|tS (sa rfl rfl (by omega))<|mV rfl<|Tn ?_
 obtain rfl := o1 hm
 exact jS ⟨rfl, rfl, (i)⟩
 refine Ck<|Xm<|Xn<|Cg<|tS (sa rfl rfl (by omega))<|mV rfl<|Tn ?_
 obtain rfl := o1 hm
 exact jS ⟨rfl, rfl, (i)⟩
 rintro aF _ _ ⟨rfl, rfl, i⟩
 have hm := bJ
 refine Cr<|tS (lF rfl rfl (by omega))<|Te<|Cs<|c_cond_f rfl<|Ce<|Xe<|Xe<|Xo ?_
 obtain ⟨rfl, rfl, rfl⟩ := some3 hm
 exact eZ ⟨rfl, rfl⟩ i

end Go.Proofs.YtckgfeglhjiflaaDoor
