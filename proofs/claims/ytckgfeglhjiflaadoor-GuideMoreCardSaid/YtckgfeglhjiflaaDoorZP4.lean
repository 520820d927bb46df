/- Contracts: the code computes its model (part 4). -/
import Derived.Test.YtckgfeglhjiflaaDoorZP3
set_option linter.unusedVariables false
set_option linter.unusedSimpArgs false
namespace Go.Proofs.YtckgfeglhjiflaaDoor
open Go.RowKit Go.Fp

open Go.Fp renaming t_ne → Te, t_nil → Tn, t_bool → Tb, t_callG → Tg, t_callvG → Tv, t_resp → Tr, c_sr → Cr, c_seq → Cs, c_region → Cg, c_block → Cb, c_ret → Ct, c_skip → Ck, c_exit → Ce, c_join → Cj, c_pullb → Cp, x_then_normal → Xn, x_then_ret → Xr, x_then_exit → Xe, x_block_ret → Xb, x_block_normal → Xm, x_block_out → Xo, x_front2 → X2, x_front3 → X3, x_front4 → X4, x_front5 → X5, E_st → Es, E_s0 → E0, E_yes → Ey, E_y0 → Yz, E_in → Ei, E_il → El, E_out → Eo, D_all → Da, D_done → Dd, D_drawI → Di, R_do → Rd2, R_nil → Rn, R_callGl → Rg, st_load → sL, st_loadD → sD, st_field → sF, st_len → sE, st_move → sM, st_assign → sA, st_pick_t → pT, st_pick_f → pF, st_index_old → sI, st_load_old → sO, st_loadN_old → sP, st_field_old → sQ, st_add → sa, st_sub → sb, st_lss_t → lT, st_lss_f → lF, st_eql_t → eT, st_eql_f → eF, st_not → sn2, st_build → sB, u_box → uB, u_alloc → uA, u_store → uS, u_storeN → uN, u_callW0 → uW, u_putOS → uP, u_appOS → uQ, fn_enterG → fE, bindS → bS, some1 → o1, idx_some → iS, sub_skip → ss, sub_app → sp, chk_some → kS, notT → nt, notF → nf, mem_c → mc, mem_n → mn, st_eql → q1, st_neq → q2, st_lss → q3, st_leq → q4, st_gtr → q5, st_geq → q6
set_option maxRecDepth 20000 in
theorem cFishref2TextFault (b : Base) (R : Hp) (m : ApiDay) (X Y A5 c6) (h4 : FZ rApiTrain b.w X Y m.Trains) (h7 : FZ (RT.list rI) b.w A5 c6 m.Turns) (aF) (hm : mFishref2TextFault m = some aF):
    CallsG Tryd.prog 34 [.agg #[sv X m.Trains Y, sv A5 m.Turns c6]] b (R) (fun v b' hp' => iv aF = v ∧ R = hp') := by
 refine fE 105 Tryd.func34 rfl Tryd.ntmps34 rfl ?_
 unfold mFishref2TextFault at hm
 refine Cr<|tD (uB _ rfl rfl) ?_
 rintro _ _ ⟨k, rfl, rfl⟩
 refine aS rfl<|Te<|Cs ?_
 obtain ⟨bz, aO, aP⟩ := bS hm
 refine Cj (fun ad e' hp' => [(1, pb k), (24, bv bz)] = e' ∧ (k, Cl 25 [sv X m.Trains Y, sv A5 m.Turns c6]) :: R = hp' ∧ b.Le ad) ?_ ?_
 have hm := aO
 refine Cg<|tS (sF rfl fld25_0)<|tS (sL 0 rfl one22 rfl rfl)<|tS (sE rfl sl22) ?_
 refine Tb rfl (q5 rfl rfl) (fun K => ?_) (fun K => ?_)
 rw [if_pos K] at hm
 refine mV rfl<|nO<|nO<|nO<|nO<|tS (pT rfl rfl)<|Tn ?_
 obtain rfl := o1 hm
 exact jJ ⟨rfl, rfl, lr⟩
 rw [if_neg K] at hm
 refine mV rfl<|yS<|tS (sF rfl fld25_1)<|yS<|tS (sL 0 rfl one23 rfl rfl)<|yS<|tS (sE rfl sl23)<|yS<|tS (q5 rfl rfl)<|tS (pF rfl rfl) ?_
 refine Tn ?_
 obtain rfl := o1 hm
 exact jJ ⟨rfl, rfl, lr⟩
 rintro ad _ _ ⟨rfl, rfl, a⟩
 have hm := aP
 refine cB hm rfl (fun hm => ?_) fun hm => ?_
 refine Cr<|aS rfl<|Te<|Ct<|Xr ?_
 obtain rfl := o1 hm
 exact rO ⟨rfl, rfl⟩ a
 refine Ck<|Xn<|Cs<|Cr<|tS (sF rfl fld25_0)<|tS (sL 0 rfl one22 rfl rfl)<|tS (sE rfl sl22)<|mV rfl<|Te<|Cb ?_
 have bW : m.Trains.length ≤ 9223372036854775807 := (FZ.bd (h4.le a))
 obtain ⟨cm, aQ, i⟩ := bS hm
 refine lF (fun G => fun _ => fun H e' hp' => [(1, pb k), (26, sv X m.Trains Y), (27, iv ((m.Trains.length : Int))), (28, iv ((G : Int)))] = e' ∧ (k, Cl 25 [sv X m.Trains Y, sv A5 m.Turns c6]) :: R = hp' ∧ ad.Le H) aQ ⟨rfl, rfl, lr⟩ ?_ ?_
 rintro G _ H _ _ bX bA ⟨rfl, rfl, c⟩ r l
 unfold mFishref2TextFault_L410 at r
 have hm := r
 refine Cr<|tS (lT rfl rfl (by omega))<|Te<|Cs<|c_cond_t rfl<|Ck<|Xn<|Cs<|Cb<|Cr ?_
 obtain ⟨d, bB, bY, aR, bZ, aT, ao, ae, aq, hm⟩ := bF (sz := 4) hm (h4.le (a.trans c))
 obtain ⟨_, _, rfl, rfl, ⟨_, _, rfl, rfl, ⟨_, _, rfl, ⟨af, ag, rfl, cn⟩, ⟨I, J, rfl, S⟩⟩⟩⟩ := aT
 refine tS (sI bB rfl rfl aR aq ae sl22)<|tS (sP (vs := [iv d.No, iv d.Stock, sv af d.Stops ag, sv I d.Legs J]) 4 rfl agg47 ae rfl (fun j u hu => ao j u hu))<|tD (uA [iv 0, iv 0, sn, sn] zero47 rfl) ?_
 rintro _ _ ⟨T, rfl, rfl⟩
 refine tD (uN (vs := [_, _, _, _]) 0 4 rfl rfl rfl siz47 rfl (mc rfl (mc rfl (mc rfl (mc rfl mn)))) rfl (by simp)) ?_
 rintro _ _ rfl
 refine Te<|Cs ?_
 obtain ⟨bC, aU, aV⟩ := bS hm
 refine Cj (fun ah e' hp' => [(1, pb k), (4, pb T), (26, sv X m.Trains Y), (27, iv ((m.Trains.length : Int))), (28, iv ((G : Int))), (45, bv bC)] = e' ∧ (k, Cl 25 [sv X m.Trains Y, sv A5 m.Turns c6]) :: (T, Cl 47 [iv d.No, iv d.Stock, sv af d.Stops ag, sv I d.Legs J]) :: R = hp' ∧ H.Le ah) ?_ ?_
 have hm := aU
 refine Cg<|tS (sF rfl fld47_2)<|tS (sL 0 rfl one45 rfl rfl)<|tS (sE rfl sl45) ?_
 refine Tb rfl (q1 rfl rfl) (fun L => ?_) (fun L => ?_)
 rw [if_pos L] at hm
 refine mV rfl<|nO<|nO<|nO<|nO<|nO<|nO<|nO<|nO<|tS (pT rfl rfl) ?_
 refine Tn ?_
 obtain rfl := o1 hm
 exact jJ ⟨rfl, rfl, lr⟩
 rw [if_neg L] at hm
 refine mV rfl<|yS<|tS (sF rfl fld47_3)<|yS<|tS (sL 0 rfl one23 rfl rfl)<|yS<|tS (sE rfl sl23)<|yS<|tS (sF rfl fld47_2)<|yS ?_
 refine tS (sL 0 rfl one45 rfl rfl)<|yS<|tS (sE rfl sl45)<|yS ?_
 obtain ⟨_, ai, hm⟩ := bS hm
 have ai := (kS ai).2
 refine tS (sb rfl rfl ai)<|yS<|tS (q2 rfl rfl)<|tS (pF rfl rfl)<|Tn ?_
 obtain rfl := o1 hm
 exact jJ ⟨rfl, rfl, lr⟩
 rintro ah _ _ ⟨rfl, rfl, e⟩
 have hm := aV
 refine cB hm rfl (fun hm => ?_) fun hm => ?_
 refine Cr<|aS rfl<|Te<|Ct<|Xr<|Xb<|Xr<|Xr<|Xb<|Xr ?_
 have aW := l _ (Option.some.inj hm).symm
 rw [aW] at i
 have hm := elimR i
 obtain rfl := o1 hm
 exact rO ⟨rfl, rfl⟩ (a.trans (c.trans e))
 refine Ck<|Xn<|Cs<|Cr<|tS (sF rfl fld47_3)<|tS (sL 1 rfl one23 rfl rfl)<|tS (sE rfl sl23)<|mV rfl<|Te<|Cb ?_
 have b0 : d.Legs.length ≤ 9223372036854775807 := (FZ.bd (S.le e))
 refine Cp 1 rfl<|Cp 1 rfl ?_
 obtain ⟨co, aX, C⟩ := bS hm
 refine lF (fun aG => fun _ => fun U e' hp' => [(1, pb k), (4, pb T), (26, sv X m.Trains Y), (27, iv ((m.Trains.length : Int))), (28, iv ((G : Int))), (47, sv I d.Legs J), (48, iv ((d.Legs.length : Int))), (49, iv ((aG : Int)))] = e' ∧ (k, Cl 25 [sv X m.Trains Y, sv A5 m.Turns c6]) :: (T, Cl 47 [iv d.No, iv d.Stock, sv af d.Stops ag, sv I d.Legs J]) :: R = hp' ∧ ah.Le U) aX ⟨rfl, rfl, lr⟩ ?_ ?_
 rintro aG _ U _ _ b1 bD ⟨rfl, rfl, f⟩ s Z
 unfold mFishref2TextFault_L546 at s
 have hm := s
 refine Cr<|tS (lT rfl rfl (by omega))<|Te<|Cs<|c_cond_t rfl<|Ck<|Xn<|Cs<|Cb<|Cr ?_
 obtain ⟨cp, bE, b2, aY, b3, aZ, ar, a0, au, hm⟩ := bF (sz := 1) hm (S.le (e.trans f))
 obtain ⟨cq, cr, rfl, cs⟩ := aZ
 refine tS (sI bE rfl rfl aY au a0 sl23)<|tS (sO rfl one49 (ar 0 _ rfl))<|aS rfl<|Te<|Cr<|mV rfl<|tS (sE rfl sl49)<|tS (q1 rfl rfl)<|Te ?_
 refine cI hm rfl (fun hm => ?_) fun hm => ?_
 refine Cr<|aS rfl<|Te<|Ct<|Xb<|Xr<|Xr<|Xb<|Xr<|Xb ?_
 refine Xr<|Xr<|Xb<|Xr ?_
 have a1 := Z _ (Option.some.inj hm).symm
 rw [a1] at C
 have hm := elimR C
 have a2 := l _ (Option.some.inj hm).symm
 rw [a2] at i
 have hm := elimR i
 obtain rfl := o1 hm
 exact rO ⟨rfl, rfl⟩ (a.trans (c.trans (e.trans f)))
 refine Ck<|Xm<|Xn<|Cg<|tS (sa rfl rfl (by omega))<|mV rfl<|Tn ?_
 exact jM hm ⟨rfl, rfl, (f)⟩
 rintro _ U _ _ ⟨rfl, rfl, f⟩ a3
 rw [a3] at C
 have hm := elimL C
 refine Cr<|tS (lF rfl rfl (by omega))<|Te<|Cs<|c_cond_f rfl<|Ce<|Xe<|Xe<|Xo<|Xn ?_
 refine Cs<|Cr<|tS (sF rfl fld47_2)<|tS (sL 1 rfl one45 rfl rfl)<|tS (sE rfl sl45)<|tS (q5 rfl rfl)<|Te ?_
 refine cI hm rfl (fun hm => ?_) fun hm => ?_
 refine Cr<|aS rfl<|Te<|Ct<|Xr<|Xb<|Xr<|Xr<|Xb<|Xr ?_
 have a4 := l _ (Option.some.inj hm).symm
 rw [a4] at i
 have hm := elimR i
 obtain rfl := o1 hm
 exact rO ⟨rfl, rfl⟩ (a.trans (c.trans (e.trans f)))
 refine Ck<|Xn<|Cr<|tS (sF rfl fld47_3)<|tS (sL 1 rfl one23 rfl rfl)<|tS (sE rfl sl23)<|mV rfl<|Te<|Cb ?_
 have b4 : d.Legs.length ≤ 9223372036854775807 := (FZ.bd (S.le (e.trans f)))
 obtain ⟨ct, a5, D⟩ := bS hm
 refine lF (fun aH => fun _ => fun aj e' hp' => [(1, pb k), (26, sv X m.Trains Y), (27, iv ((m.Trains.length : Int))), (28, iv ((G : Int))), (62, sv I d.Legs J), (63, iv ((d.Legs.length : Int))), (64, iv ((aH : Int)))] = e' ∧ (k, Cl 25 [sv X m.Trains Y, sv A5 m.Turns c6]) :: R = hp' ∧ U.Le aj) a5 ⟨rfl, rfl, lr⟩ ?_ ?_
 rintro aH _ aj _ _ b5 bG ⟨rfl, rfl, n⟩ t aa
 unfold mFishref2TextFault_L587 at t
 have hm := t
 refine Cr<|tS (lT rfl rfl (by omega))<|Te<|Cs<|c_cond_t rfl<|Ck<|Xn<|Cs<|Cb<|Cr ?_
 obtain ⟨cu, bH, b6, a6, b7, a7, av, a8, aw, hm⟩ := bF (sz := 1) hm (S.le (e.trans (f.trans n)))
 obtain ⟨cv, cw, rfl, cx⟩ := a7
 refine tS (sI bH rfl rfl a6 aw a8 sl23)<|tS (sO rfl one49 (av 0 _ rfl))<|aS rfl<|Te<|Cr<|mV rfl<|tS (sE rfl sl49)<|tS (q5 rfl rfl)<|Te ?_
 refine cI hm rfl (fun hm => ?_) fun hm => ?_
 refine Cr<|aS rfl<|Te<|Ct<|Xb<|Xr<|Xr<|Xb<|Xb<|Xr ?_
 refine Xr<|Xb<|Xr ?_
 have a9 := aa _ (Option.some.inj hm).symm
 rw [a9] at D
 have hm := elimR D
 have ba := l _ (Option.some.inj hm).symm
 rw [ba] at i
 have hm := elimR i
 obtain rfl := o1 hm
 exact rO ⟨rfl, rfl⟩ (a.trans (c.trans (e.trans (f.trans n))))
 refine Ck<|Xm<|Xn<|Cg<|tS (sa rfl rfl (by omega))<|mV rfl<|Tn ?_
 exact jM hm ⟨rfl, rfl, (n)⟩
 rintro _ aj _ _ ⟨rfl, rfl, n⟩ bb
 rw [bb] at D
 have hm := elimL D
 refine Cr<|tS (lF rfl rfl (by omega))<|Te<|Cs<|c_cond_f rfl<|Ce<|Xe<|Xe<|Xo<|Xm ?_
 refine Xn<|Cg<|tS (sa rfl rfl (by omega))<|mV rfl<|Tn ?_
 exact jM hm ⟨rfl, rfl, ((c.trans (e.trans (f.trans n))))⟩
 rintro _ H _ _ ⟨rfl, rfl, c⟩ bc
 rw [bc] at i
 have hm := elimL i
 refine Cr<|tS (lF rfl rfl (by omega))<|Te<|Cs<|c_cond_f rfl<|Ce<|Xe<|Xe<|Xo<|Xn ?_
 refine Cs<|Cr<|tS (sF rfl fld25_1)<|tS (sL 0 rfl one23 rfl rfl)<|tS (sE rfl sl23)<|mV rfl<|Te<|Cb ?_
 have b8 : m.Turns.length ≤ 9223372036854775807 := (FZ.bd (h7.le (a.trans c)))
 obtain ⟨cy, bd, q⟩ := bS hm
 refine lF (fun aI => fun _ => fun ak e' hp' => [(1, pb k), (74, sv A5 m.Turns c6), (75, iv ((m.Turns.length : Int))), (76, iv ((aI : Int)))] = e' ∧ (k, Cl 25 [sv X m.Trains Y, sv A5 m.Turns c6]) :: R = hp' ∧ H.Le ak) bd ⟨rfl, rfl, lr⟩ ?_ ?_
 rintro aI _ ak _ _ b9 bI ⟨rfl, rfl, g⟩ x A
 unfold mFishref2TextFault_L627 at x
 have hm := x
 refine Cr<|tS (lT rfl rfl (by omega))<|Te<|Cs<|c_cond_t rfl<|Ck<|Xn<|Cs<|Cb<|Cr ?_
 obtain ⟨cz, bJ, ca, be, cb, bf, ax, bg, ay, hm⟩ := bF (sz := 1) hm (h7.le (a.trans (c.trans g)))
 obtain ⟨cA, cC, rfl, cD⟩ := bf
 refine tS (sI bJ rfl rfl be ay bg sl23)<|tS (sO rfl one49 (ax 0 _ rfl))<|aS rfl<|Te<|Cs<|Cr<|mV rfl<|tS (sE rfl sl49)<|tS (q1 rfl rfl)<|Te ?_
 refine cI hm rfl (fun hm => ?_) fun hm => ?_
 refine Cr<|aS rfl<|Te<|Ct<|Xr<|Xb<|Xr<|Xr<|Xb<|Xr ?_
 have bh := A _ (Option.some.inj hm).symm
 rw [bh] at q
 have hm := elimR q
 obtain rfl := o1 hm
 exact rO ⟨rfl, rfl⟩ (a.trans (c.trans g))
 refine Ck<|Xn<|Cr<|mV rfl<|tS (sE rfl sl49)<|tS (q5 rfl rfl)<|Te ?_
 refine cI hm rfl (fun hm => ?_) fun hm => ?_
 refine Cr<|aS rfl<|Te<|Ct<|Xb<|Xr<|Xr<|Xb<|Xr ?_
 have bi := A _ (Option.some.inj hm).symm
 rw [bi] at q
 have hm := elimR q
 obtain rfl := o1 hm
 exact rO ⟨rfl, rfl⟩ (a.trans (c.trans g))
 refine Ck<|Xm<|Xn<|Cg<|tS (sa rfl rfl (by omega))<|mV rfl<|Tn ?_
 exact jM hm ⟨rfl, rfl, (g)⟩
 rintro _ ak _ _ ⟨rfl, rfl, g⟩ bj
 rw [bj] at q
 have hm := elimL q
 refine Cr<|tS (lF rfl rfl (by omega))<|Te<|Cs<|c_cond_f rfl<|Ce<|Xe<|Xe<|Xo<|Xn ?_
 refine Cs<|Cr<|tS (sD (vs := [_, _]) 0 2 rfl agg25 rfl rfl rfl) ?_
 obtain ⟨B, az, hm⟩ := bS hm
 refine Tg _ rfl call71 rfl (cFishref2NumbersIn _ _ m X Y A5 c6 (h4.le (a.trans (c.trans g))) (h7.le (a.trans (c.trans g))) B az) ?_
 rintro _ bK _ V ⟨aJ, aK, O, rfl, rfl, aL⟩
 refine t_in1 [] [_] O R rfl<|tS (sE rfl sl23)<|mV rfl<|Te<|Cb ?_
 have cc : B.length ≤ 9223372036854775807 := (OS.len aL)
 obtain ⟨cE, bk, E⟩ := bS hm
 refine lF (fun al => fun _ => fun W e' hp' => [(88, sv aJ B aK), (89, iv ((B.length : Int))), (90, iv ((al : Int)))] = e' ∧ (O ++ R) = hp' ∧ bK.Le W) bk ⟨rfl, rfl, lr⟩ ?_ ?_
 rintro al _ W _ _ cd bL ⟨rfl, rfl, o⟩ y ab
 unfold mFishref2TextFault_L676 at y
 have hm := y
 refine Cr<|tS (lT rfl rfl (by omega))<|Te<|Cs<|c_cond_t rfl<|Ck<|Xn<|Cs<|Cb<|Cr ?_
 obtain ⟨am, bM, hm⟩ := bS hm
 obtain ⟨bN, bl, bm⟩ := iS bM
 obtain ⟨ce, cf, cG, cH, cg, bn, aA, bo, aB, ch, bV⟩ := OS.get (sz := 1) rfl (by decide) (aL.le o) bm
 obtain ⟨⟨bO, bP, rfl, aM⟩, rfl⟩ := bn
 refine tS (sI bN rfl rfl bl aB bo sl23)<|tS (st_load_rd rfl one49 (fun w ho => aA w _ ho (List.sublist_append_left _ _) 0 _ rfl))<|aS rfl<|Te<|Cr<|mV rfl<|tS (sE rfl sl49)<|mV rfl<|Te<|Cb ?_
 have ci : am.length ≤ 9223372036854775807 := (FZ.bd aM)
 obtain ⟨cJ, bp, F⟩ := bS hm
 refine lF (fun aN => fun _ => fun an e' hp' => [(88, sv aJ B aK), (89, iv ((B.length : Int))), (90, iv ((al : Int))), (94, sv bO am bP), (95, iv ((am.length : Int))), (96, iv ((aN : Int)))] = e' ∧ (O ++ R) = hp' ∧ W.Le an) bp ⟨rfl, rfl, lr⟩ ?_ ?_
 rintro aN _ an _ _ cj bQ ⟨rfl, rfl, p⟩ z ac
 unfold mFishref2TextFault_L757 at z
 have hm := z
 refine Cr<|tS (lT rfl rfl (by omega))<|Te<|Cs<|c_cond_t rfl<|Ck<|Xn<|Cs<|Cb<|Cr ?_
 obtain ⟨bR, bT, ck, bq, cl, br, aC, bs, aD, hm⟩ := bF (sz := 1) hm (aM.le p)
 obtain rfl := br
 refine tS (sI bT rfl rfl bq aD bs sl49)<|tS (sO rfl one3 (aC 0 _ rfl))<|aS rfl<|Te<|Cr<|mV rfl ?_
 obtain ⟨bU, aE, hm⟩ := bS hm
 refine tD (uW _ call35 rfl (fun w ho => cFishref2Within _ [] bR 0 999999 bU aE) (fun _ _ _ h => h.2.symm)) ?_
 rintro _ _ ⟨⟨_, rfl, _⟩, rfl⟩
 refine tS (sn2 rfl)<|Te ?_
 refine cM hm rfl (fun hm => ?_) fun hm => ?_
 refine Cr<|aS rfl<|Te<|Ct<|Xb<|Xr<|Xr<|Xb<|Xb<|Xr ?_
 refine Xr<|Xb<|Xr ?_
 have bt := ac _ (Option.some.inj hm).symm
 rw [bt] at F
 have hm := elimR F
 have bu := ab _ (Option.some.inj hm).symm
 rw [bu] at E
 have hm := elimR E
 obtain rfl := o1 hm
 exact rO ⟨rfl, rfl⟩ (a.trans (c.trans (g.trans (V.trans (o.trans p)))))
 refine Ck<|Xm<|Xn<|Cg<|tS (sa rfl rfl (by omega))<|mV rfl<|Tn ?_
 exact jM hm ⟨rfl, rfl, (p)⟩
 rintro _ an _ _ ⟨rfl, rfl, p⟩ bw
 rw [bw] at F
 have hm := elimL F
 refine Cr<|tS (lF rfl rfl (by omega))<|Te<|Cs<|c_cond_f rfl<|Ce<|Xe<|Xe<|Xo<|Xm ?_
 refine Xn<|Cg<|tS (sa rfl rfl (by omega))<|mV rfl<|Tn ?_
 exact jM hm ⟨rfl, rfl, ((o.trans p))⟩
 rintro _ W _ _ ⟨rfl, rfl, o⟩ bx
 rw [bx] at E
 have hm := elimL E
 refine Cr<|tS (lF rfl rfl (by omega))<|Te<|Cs<|c_cond_f rfl<|Ce<|Xe<|Xe<|Xo<|Xn ?_
 refine Cr<|aS rfl<|Te<|Ct ?_
 obtain rfl := o1 hm
 exact rO ⟨rfl, rfl⟩ (a.trans (c.trans (g.trans (V.trans o))))

set_option maxRecDepth 20000 in
theorem cFishref2GuideFault (b : Base) (R : Hp) (r : ApiDay) (S K A5 c6) (h4 : FZ rApiTrain b.w S K r.Trains) (h7 : FZ (RT.list rI) b.w A5 c6 r.Turns) (aT) (hm : mFishref2GuideFault r = some aT):
    CallsG Tryd.prog 9 [.agg #[sv S r.Trains K, sv A5 r.Turns c6]] b (R) (fun v b' hp' => iv aT = v ∧ R = hp') := by
 refine fE 93 Tryd.func9 rfl Tryd.ntmps9 rfl ?_
 unfold mFishref2GuideFault at hm
 refine Cr<|tD (uB _ rfl rfl) ?_
 rintro _ _ ⟨m, rfl, rfl⟩
 refine aS rfl<|Te<|Cs<|Cr<|tS (sD (vs := [_, _]) 0 2 rfl agg25 rfl rfl rfl) ?_
 obtain ⟨bd, aw, hm⟩ := bS hm
 refine tD (uW _ call34 rfl (fun w ho => cFishref2TextFault _ [] r S K A5 c6 (h4.old ho) (h7.old ho) bd aw) (fun _ _ _ h => h.2.symm)) ?_
 rintro _ _ ⟨⟨_, rfl, _⟩, rfl⟩
 refine aS rfl<|Te<|Cr<|mV rfl<|tS (q2 rfl rfl)<|Te ?_
 refine cI hm rfl (fun hm => ?_) fun hm => ?_
 refine Cr<|mV rfl<|aS rfl<|Te<|Ct<|Xr ?_
 obtain rfl := o1 hm
 exact rO ⟨rfl, rfl⟩ lr
 refine Ck<|Xn<|Cs<|Cr<|tS (sF rfl fld25_0)<|tS (sL 0 rfl one22 rfl rfl)<|tS (sE rfl sl22)<|mV rfl<|Te<|Cb ?_
 have bu : r.Trains.length ≤ 9223372036854775807 := (FZ.bd h4)
 obtain ⟨bK, aV, f⟩ := bS hm
 refine lF (fun D => fun _ => fun T e' hp' => [(1, pb m), (16, sv S r.Trains K), (17, iv ((r.Trains.length : Int))), (18, iv ((D : Int)))] = e' ∧ (m, Cl 25 [sv S r.Trains K, sv A5 r.Turns c6]) :: R = hp' ∧ b.Le T) aV ⟨rfl, rfl, lr⟩ ?_ ?_
 rintro D _ T _ _ bw be ⟨rfl, rfl, c⟩ A i
 unfold mFishref2GuideFault_L570 at A
 have hm := A
 refine Cr<|tS (lT rfl rfl (by omega))<|Te<|Cs<|c_cond_t rfl<|Ck<|Xn<|Cs<|Cb<|Cr ?_
 refine mV rfl ?_
 obtain ⟨a, bf, bx, aW, bz, aX, ax, Z, ay, hm⟩ := bF (sz := 4) hm (h4.le c)
 obtain ⟨_, _, rfl, rfl, ⟨_, _, rfl, rfl, ⟨_, _, rfl, ⟨t, x, rfl, aa⟩, ⟨H, I, rfl, bL⟩⟩⟩⟩ := aX
 refine tS (sI bf rfl rfl aW ay Z sl22)<|tS (sP (vs := [iv a.No, iv a.Stock, sv t a.Stops x, sv H a.Legs I]) 4 rfl agg47 Z rfl (fun j u hu => ax j u hu))<|tD (uA [iv 0, iv 0, sn, sn] zero47 rfl) ?_
 rintro _ _ ⟨y, rfl, rfl⟩
 refine aS rfl<|tD (uN (vs := [_, _, _, _]) 0 4 rfl rfl rfl siz47 rfl (mc rfl (mc rfl (mc rfl (mc rfl mn)))) rfl (by simp)) ?_
 rintro _ _ rfl
 refine Te<|Cs<|Cr<|tS (sF rfl fld47_0)<|tS (sL 0 rfl one3 rfl rfl) ?_
 obtain ⟨bg, az, hm⟩ := bS hm
 refine tD (uW _ call35 rfl (fun w ho => cFishref2Within _ [] a.No 1 9999 bg az) (fun _ _ _ h => h.2.symm)) ?_
 rintro _ _ ⟨⟨_, rfl, _⟩, rfl⟩
 refine tS (sn2 rfl)<|Te ?_
 refine cM hm rfl (fun hm => ?_) fun hm => ?_
 refine Cr<|aS rfl<|Te<|Ct<|Xr<|Xb<|Xr<|Xr<|Xb<|Xr ?_
 have aY := i _ (Option.some.inj hm).symm
 rw [aY] at f
 have hm := elimR f
 obtain rfl := o1 hm
 exact rO ⟨rfl, rfl⟩ c
 refine Ck<|Xn<|Cs<|Cr<|tS (sF rfl fld25_0)<|tS (sL 1 rfl one22 rfl rfl)<|mV rfl ?_
 obtain ⟨ab, bh, hm⟩ := bS hm
 obtain ⟨ac, bi, bA, aZ, ad, ae, af⟩ := cutS_some bh
 have ag := FZ.sub (sz := 4) rfl (h4.le c) ad ae
 have bj := (h4.le c).1.1
 rw [← af] at ag
 refine tS (af ▸ st_part (l := r.Trains) ac bi rfl (.inl ⟨rfl, by omega⟩) (.inr ⟨_, _, _, rfl, rfl, aZ⟩) ad ae bj sl22)<|tS (sE rfl sl22)<|mV rfl<|Te<|Cb ?_
 have bB : ab.length ≤ 9223372036854775807 := (FZ.bd ag)
 refine Cp 1 rfl ?_
 obtain ⟨bM, a0, F⟩ := bS hm
 refine lF (fun aU => fun _ => fun U e' hp' => [(1, pb m), (5, pb y), (16, sv S r.Trains K), (17, iv ((r.Trains.length : Int))), (18, iv ((D : Int))), (30, .slice (subA S K ac 4) (ab).length (K - ac)), (31, iv ((ab.length : Int))), (32, iv ((aU : Int)))] = e' ∧ (m, Cl 25 [sv S r.Trains K, sv A5 r.Turns c6]) :: (y, Cl 47 [iv a.No, iv a.Stock, sv t a.Stops x, sv H a.Legs I]) :: R = hp' ∧ T.Le U) a0 ⟨rfl, rfl, lr⟩ ?_ ?_
 rintro aU _ U _ _ bC bk ⟨rfl, rfl, d⟩ B Y
 unfold mFishref2GuideFault_L882 at B
 have hm := B
 refine Cr<|tS (lT rfl rfl (by omega))<|Te<|Cs<|c_cond_t rfl<|Ck<|Xn<|Cs<|Cb<|Cr ?_
 obtain ⟨V, bl, bD, a1, bE, a2, aA, ah, aB, hm⟩ := bF (sz := 4) hm (ag.le d)
 obtain ⟨_, _, rfl, rfl, ⟨_, _, rfl, rfl, ⟨_, _, rfl, ⟨bm, bn, rfl, bN⟩, ⟨bo, bp, rfl, bO⟩⟩⟩⟩ := a2
 refine tS (sI bl rfl rfl a1 aB ah sl22)<|tS (sP (vs := [iv V.No, iv V.Stock, sv bm V.Stops bn, sv bo V.Legs bp]) 4 rfl agg47 ah rfl (fun j u hu => aA j u hu))<|tD (uA [iv 0, iv 0, sn, sn] zero47 rfl) ?_
 rintro _ _ ⟨bP, rfl, rfl⟩
 refine tD (uN (vs := [_, _, _, _]) 0 4 rfl rfl rfl siz47 rfl (mc rfl (mc rfl (mc rfl (mc rfl mn)))) rfl (by simp)) ?_
 rintro _ _ rfl
 refine Te<|Cr<|tS (sF rfl fld47_0)<|tS (sL 0 rfl one3 rfl rfl)<|tS (sF rfl fld47_0)<|tS (sL 2 rfl one3 rfl rfl)<|tS (q1 rfl rfl)<|Te ?_
 refine cI hm rfl (fun hm => ?_) fun hm => ?_
 refine Cr<|aS rfl<|Te<|Ct<|Xb<|Xr<|Xr<|Xb<|Xr<|Xb ?_
 refine Xr<|Xr<|Xb<|Xr ?_
 have a3 := Y _ (Option.some.inj hm).symm
 rw [a3] at F
 have hm := elimR F
 have a4 := i _ (Option.some.inj hm).symm
 rw [a4] at f
 have hm := elimR f
 obtain rfl := o1 hm
 exact rO ⟨rfl, rfl⟩ (c.trans d)
 refine Ck<|Xm<|Xn<|Cg<|tS (sa rfl rfl (by omega))<|mV rfl<|Tn ?_
 exact jM hm ⟨rfl, rfl, (d)⟩
 rintro _ U _ _ ⟨rfl, rfl, d⟩ a5
 rw [a5] at F
 have hm := elimL F
 refine Cr<|tS (lF rfl rfl (by omega))<|Te<|Cs<|c_cond_f rfl<|Ce<|Xe<|Xe<|Xo<|Xn ?_
 refine Cs<|Cr<|tS (sF rfl fld47_2)<|tS (sL 1 rfl one45 rfl rfl)<|tS (sE rfl sl45)<|tS (q3 rfl rfl)<|Te ?_
 refine cI hm rfl (fun hm => ?_) fun hm => ?_
 refine Cr<|aS rfl<|Te<|Ct<|Xr<|Xb<|Xr<|Xr<|Xb<|Xr ?_
 have a6 := i _ (Option.some.inj hm).symm
 rw [a6] at f
 have hm := elimR f
 obtain rfl := o1 hm
 exact rO ⟨rfl, rfl⟩ (c.trans d)
 refine Ck<|Xn<|Cr<|tS (sF rfl fld47_2)<|tS (sL 1 rfl one45 rfl rfl)<|tS (sE rfl sl45)<|mV rfl<|Te<|Cb ?_
 have bG : a.Stops.length ≤ 9223372036854775807 := (FZ.bd (aa.le d))
 refine Cp 1 rfl<|Cp 1 rfl ?_
 obtain ⟨bH, aC, k⟩ := bS hm
 refine lF (fun s => fun _ => fun G e' hp' => [(1, pb m), (5, pb y), (16, sv S r.Trains K), (17, iv ((r.Trains.length : Int))), (18, iv ((D : Int))), (47, sv t a.Stops x), (48, iv ((a.Stops.length : Int))), (49, iv ((s : Int)))] = e' ∧ (m, Cl 25 [sv S r.Trains K, sv A5 r.Turns c6]) :: (y, Cl 47 [iv a.No, iv a.Stock, sv t a.Stops x, sv H a.Legs I]) :: R = hp' ∧ U.Le G) aC ⟨rfl, rfl, lr⟩ ?_ ?_
 rintro s _ G _ _ bI bq ⟨rfl, rfl, g⟩ C E
 unfold mFishref2GuideFault_L931 at C
 have hm := C
 refine Cr<|tS (lT rfl rfl (by omega))<|Te<|Cs<|c_cond_t rfl<|Ck<|Xn<|Cs<|Cb<|Cr ?_
 refine mV rfl ?_
 obtain ⟨e, a7, br, aD, bs, aE, ai, W, aj, hm⟩ := bF (sz := 4) hm (aa.le (d.trans g))
 obtain ⟨_, _, rfl, rfl, ⟨_, _, rfl, rfl, ⟨_, _, rfl, rfl, rfl⟩⟩⟩ := aE
 refine tS (sI a7 rfl rfl aD aj W sl45)<|tS (sP (vs := [iv e.Station, iv e.Track, iv e.Arr, iv e.Dep]) 4 rfl agg83 W rfl (fun j u hu => ai j u hu))<|tD (uA [iv 0, iv 0, iv 0, iv 0] zero83 rfl) ?_
 rintro _ _ ⟨ak, rfl, rfl⟩
 refine aS rfl<|tD (uN (vs := [_, _, _, _]) 0 4 rfl rfl rfl siz83 rfl (mc rfl (mc rfl (mc rfl (mc rfl mn)))) rfl (by simp)) ?_
 rintro _ _ rfl
 refine Te<|Cs ?_
 obtain ⟨a8, aF, aG⟩ := bS hm
 refine Cj (fun L e' hp' => [(1, pb m), (5, pb y), (8, iv ((s : Int))), (9, pb ak), (16, sv S r.Trains K), (17, iv ((r.Trains.length : Int))), (18, iv ((D : Int))), (47, sv t a.Stops x), (48, iv ((a.Stops.length : Int))), (49, iv ((s : Int))), (69, bv a8)] = e' ∧ (m, Cl 25 [sv S r.Trains K, sv A5 r.Turns c6]) :: (y, Cl 47 [iv a.No, iv a.Stock, sv t a.Stops x, sv H a.Legs I]) :: (ak, Cl 83 [iv e.Station, iv e.Track, iv e.Arr, iv e.Dep]) :: R = hp' ∧ G.Le L) ?_ ?_
 have hm := aF
 refine Cg<|tS (sF rfl fld83_0)<|tS (sL 0 rfl one3 rfl rfl) ?_
 obtain ⟨al, am, hm⟩ := bS hm
 refine tD (uW _ call35 rfl (fun w ho => cFishref2Within _ [] e.Station 0 11 al am) (fun _ _ _ h => h.2.symm)) ?_
 rintro _ _ ⟨⟨_, rfl, _⟩, rfl⟩
 rcases Bool.eq_false_or_eq_true al with n | n
 rw [if_pos n] at hm
 refine Tr 56 rfl (v' := .bool true) (by rw [n] <;> rfl)<|tS (st_not_t rfl)<|mV rfl<|yS<|tS (sF rfl fld83_2)<|yS<|tS (sL 0 rfl one3 rfl rfl)<|yS ?_
 obtain ⟨an, ao, hm⟩ := bS hm
 refine tD (uW _ call35 rfl (fun w ho => cFishref2Within _ [] e.Arr 0 28800 an ao) (fun _ _ _ h => h.2.symm)) ?_
 rintro _ _ ⟨⟨_, rfl, _⟩, rfl⟩
 rcases Bool.eq_false_or_eq_true an with o | o
 rw [if_pos o] at hm
 refine Tr 61 rfl (v' := .bool true) (by rw [o] <;> rfl)<|yS<|tS (st_not_t rfl)<|tS (pF rfl rfl)<|mV rfl<|yS<|tS (sF rfl fld83_3)<|yS<|tS (sL 0 rfl one3 rfl rfl)<|yS ?_
 obtain ⟨a9, aq, hm⟩ := bS hm
 refine tD (uW _ call35 rfl (fun w ho => cFishref2Within _ [] e.Dep 0 28800 a9 aq) (fun _ _ _ h => h.2.symm)) ?_
 rintro _ _ ⟨⟨_, rfl, _⟩, rfl⟩
 refine yS<|tS (sn2 rfl)<|tS (pF rfl rfl)<|Tn ?_
 obtain rfl := o1 hm
 exact jJ ⟨rfl, rfl, lr⟩
 rw [if_neg (fun hh => Bool.noConfusion (hh.symm.trans o))] at hm
 refine Tr 61 rfl (v' := .bool false) (by rw [o] <;> rfl)<|yS<|tS (st_not_f rfl)<|tS (pF rfl rfl)<|mV rfl<|nO<|nO<|nO<|nO<|tS (pT rfl rfl) ?_
 refine Tn ?_
 obtain rfl := o1 hm
 exact jJ ⟨rfl, rfl, lr⟩
 rw [if_neg (fun hh => Bool.noConfusion (hh.symm.trans n))] at hm
 refine Tr 56 rfl (v' := .bool false) (by rw [n] <;> rfl)<|tS (st_not_f rfl)<|mV rfl<|nO<|nO<|nO<|nO<|tS (pT rfl rfl)<|mV rfl<|nO ?_
 refine nO<|nO<|nO<|tS (pT rfl rfl)<|Tn ?_
 obtain rfl := o1 hm
 exact jJ ⟨rfl, rfl, lr⟩
 rintro L _ _ ⟨rfl, rfl, p⟩
 have hm := aG
 refine cB hm rfl (fun hm => ?_) fun hm => ?_
 refine Cr<|aS rfl<|Te<|Ct<|Xr<|Xb<|Xr<|Xr<|Xb<|Xb ?_
 refine Xr<|Xr<|Xb<|Xr ?_
 have aH := E _ (Option.some.inj hm).symm
 rw [aH] at k
 have hm := elimR k
 have aI := i _ (Option.some.inj hm).symm
 rw [aI] at f
 have hm := elimR f
 obtain rfl := o1 hm
 exact rO ⟨rfl, rfl⟩ (c.trans (d.trans (g.trans p)))
 refine Ck<|Xn ?_
 obtain ⟨ba, aJ, aK⟩ := bS hm
 refine Cj (fun ar e' hp' => [(1, pb m), (5, pb y), (16, sv S r.Trains K), (17, iv ((r.Trains.length : Int))), (18, iv ((D : Int))), (47, sv t a.Stops x), (48, iv ((a.Stops.length : Int))), (49, iv ((s : Int))), (90, bv ba)] = e' ∧ (m, Cl 25 [sv S r.Trains K, sv A5 r.Turns c6]) :: (y, Cl 47 [iv a.No, iv a.Stock, sv t a.Stops x, sv H a.Legs I]) :: R = hp' ∧ L.Le ar) ?_ ?_
 have hm := aJ
 by_cases q : e.Dep < e.Arr
 rw [if_pos q] at hm
 refine Di mixed (.refl _)<|E0 0 rfl (sF rfl fld83_3)<|Es 1 rfl (sL 2 rfl one3 rfl rfl)<|E0 2 rfl (sF rfl fld83_2)<|Es 3 rfl (sL 2 rfl one3 rfl rfl)<|E0 4 rfl (lT rfl rfl q)<|E0 5 rfl (sM rfl)<|eN 6 rfl<|eN 7 rfl<|eN 8 rfl ?_
 refine eN 9 rfl<|eN 10 rfl<|eN 11 rfl<|eN 12 rfl<|eN 13 rfl<|eN 14 rfl<|eN 15 rfl<|eN 16 rfl<|eN 17 rfl<|eN 18 rfl ?_
 refine eN 19 rfl<|E0 20 rfl (pT rfl rfl)<|Eo<|Dd (by kernel_rfl) ?_
 obtain rfl := o1 hm
 exact jJ ⟨rfl, rfl, lr⟩
 rw [if_neg q] at hm
 by_cases z : 0 < (s : Int)
 rw [if_pos z] at hm
 obtain ⟨_, O, hm⟩ := bS hm
 obtain ⟨bJ, bb, hm⟩ := bS hm
 refine Di mixed (.refl _)<|E0 0 rfl (sF rfl fld83_3)<|Es 1 rfl (sL 2 rfl one3 rfl rfl)<|E0 2 rfl (sF rfl fld83_2)<|Es 3 rfl (sL 2 rfl one3 rfl rfl)<|E0 4 rfl (lF rfl rfl q)<|E0 5 rfl (sM rfl)<|Yz 6 75 rfl (sM rfl)<|Yz 7 75 rfl (st_gtr_t rfl rfl z)<|Yz 8 75 rfl (sM rfl) ?_
 refine Yz 9 78 rfl (sF rfl fld83_2)<|Ey 10 78 rfl (sL 2 rfl one3 rfl rfl)<|Yz 11 78 rfl (sF rfl fld47_2)<|Ey 12 78 rfl (sL 1 rfl one45 rfl rfl)<|Yz 13 78 rfl (sM rfl) ?_
 have O := (kS O).2
 refine Yz 14 78 rfl (sb rfl rfl O) ?_
 obtain ⟨bc, aL, aM⟩ := iS bb
 obtain ⟨bt, aN, au, X, av⟩ := FZ.get (sz := 4) rfl (by decide) (aa.le (d.trans (g.trans p))) aM
 obtain ⟨_, _, rfl, rfl, ⟨_, _, rfl, rfl, ⟨_, _, rfl, rfl, rfl⟩⟩⟩ := aN
 refine Yz 15 78 rfl (sI bc rfl rfl aL av X sl45)<|Yz 16 78 rfl (sQ rfl X fld83_3)<|Ey 17 78 rfl (sO rfl one3 (au 3 _ rfl))<|Yz 18 78 rfl (q4 rfl rfl)<|Yz 19 75 rfl (pT rfl rfl)<|E0 20 rfl (pF rfl rfl)<|Eo<|Dd (by kernel_rfl) ?_
 obtain rfl := o1 hm
 exact jJ ⟨rfl, rfl, lr⟩
 rw [if_neg z] at hm
 refine Di mixed (.refl _)<|E0 0 rfl (sF rfl fld83_3)<|Es 1 rfl (sL 2 rfl one3 rfl rfl)<|E0 2 rfl (sF rfl fld83_2)<|Es 3 rfl (sL 2 rfl one3 rfl rfl)<|E0 4 rfl (lF rfl rfl q)<|E0 5 rfl (sM rfl)<|Yz 6 75 rfl (sM rfl)<|Yz 7 75 rfl (st_gtr_f rfl rfl z)<|Yz 8 75 rfl (sM rfl) ?_
 refine eN 9 rfl<|eN 10 rfl<|eN 11 rfl<|eN 12 rfl<|eN 13 rfl<|eN 14 rfl<|eN 15 rfl<|eN 16 rfl<|eN 17 rfl<|eN 18 rfl ?_
 refine Yz 19 75 rfl (pF rfl rfl)<|E0 20 rfl (pF rfl rfl)<|Eo<|Dd (by kernel_rfl) ?_
 obtain rfl := o1 hm
 exact jJ ⟨rfl, rfl, lr⟩
 rintro ar _ _ ⟨rfl, rfl, J⟩
 have hm := aK
 refine cB hm rfl (fun hm => ?_) fun hm => ?_
 refine Cr<|aS rfl<|Te<|Ct<|Xb<|Xr<|Xr<|Xb<|Xb<|Xr ?_
 refine Xr<|Xb<|Xr ?_
 have aO := E _ (Option.some.inj hm).symm
 rw [aO] at k
 have hm := elimR k
 have aP := i _ (Option.some.inj hm).symm
 rw [aP] at f
 have hm := elimR f
 obtain rfl := o1 hm
 exact rO ⟨rfl, rfl⟩ (c.trans (d.trans (g.trans (p.trans J))))
 refine Ck<|Xm<|Xn<|Cg<|tS (sa rfl rfl (by omega))<|mV rfl<|Tn ?_
 exact jM hm ⟨rfl, rfl, ((g.trans (p.trans J)))⟩
 rintro _ G _ _ ⟨rfl, rfl, g⟩ aQ
 rw [aQ] at k
 have hm := elimL k
 refine Cr<|tS (lF rfl rfl (by omega))<|Te<|Cs<|c_cond_f rfl<|Ce<|Xe<|Xe<|Xo<|Xm ?_
 refine Xn<|Cg<|tS (sa rfl rfl (by omega))<|mV rfl<|Tn ?_
 exact jM hm ⟨rfl, rfl, ((c.trans (d.trans g)))⟩
 rintro _ T _ _ ⟨rfl, rfl, c⟩ aR
 rw [aR] at f
 have hm := elimL f
 refine Cr<|tS (lF rfl rfl (by omega))<|Te<|Cs<|c_cond_f rfl<|Ce<|Xe<|Xe<|Xo<|Xn ?_
 refine Cr<|aS rfl<|Te<|Ct ?_
 obtain rfl := o1 hm
 exact rO ⟨rfl, rfl⟩ c

set_option maxRecDepth 20000 in
theorem cFishref2SearchFault (b : Base) (R : Hp) (F D E p q r s) (hm : mFishref2SearchFault F D E p q r = some s):
    CallsG Tryd.prog 10 [iv F, iv D, iv E, iv p, bv q, bv r] b (R) (fun v b' hp' => iv s = v ∧ R = hp') := by
 refine fE 43 Tryd.func10 rfl Tryd.ntmps10 rfl ?_
 unfold mFishref2SearchFault at hm
 refine Cr<|aS rfl<|Te<|Cs<|Cb<|Cr<|mV rfl ?_
 obtain ⟨G, j, hm⟩ := bS hm
 refine tD (uW _ call35 rfl (fun w ho => cFishref2Within _ [] F 0 28800 G j) (fun _ _ _ h => h.2.symm)) ?_
 rintro _ _ ⟨⟨_, rfl, _⟩, rfl⟩
 refine tS (sn2 rfl)<|aS rfl<|Te ?_
 refine cM hm rfl (fun hm => ?_) fun hm => ?_
 refine Cr<|aS rfl<|Te<|Ct<|Xb<|Xr ?_
 obtain rfl := o1 hm
 exact rO ⟨rfl, rfl⟩ lr
 obtain ⟨H, t, u⟩ := bS hm
 refine Cj (fun k e' hp' => [(1, iv D), (2, iv E), (3, iv p), (4, bv q), (5, bv r), (17, bv H)] = e' ∧ R = hp' ∧ b.Le k) ?_ ?_
 have hm := t
 refine Cg<|mV rfl ?_
 obtain ⟨x, l, hm⟩ := bS hm
 refine tD (uW _ call35 rfl (fun w ho => cFishref2Within _ [] D 0 11 x l) (fun _ _ _ h => h.2.symm)) ?_
 rintro _ _ ⟨⟨_, rfl, _⟩, rfl⟩
 rcases Bool.eq_false_or_eq_true x with c | c
 rw [if_pos c] at hm
 refine Tr 19 rfl (v' := .bool true) (by rw [c] <;> rfl)<|tS (st_not_t rfl)<|mV rfl<|yS<|mV rfl ?_
 rcases Bool.eq_false_or_eq_true q with d | d
 rw [if_pos d] at hm
 refine Tr 22 rfl (v' := .bool true) (by rw [d] <;> rfl)<|yS<|mV rfl<|yS<|mV rfl<|yS ?_
 obtain ⟨I, m, hm⟩ := bS hm
 refine tD (uW _ call35 rfl (fun w ho => cFishref2Within _ [] E 0 11 I m) (fun _ _ _ h => h.2.symm)) ?_
 rintro _ _ ⟨⟨_, rfl, _⟩, rfl⟩
 refine yS<|tS (sn2 rfl)<|yS<|tS (pT rfl rfl)<|tS (pF rfl rfl)<|aS rfl<|Tn ?_
 obtain rfl := o1 hm
 exact jJ ⟨rfl, rfl, lr⟩
 rw [if_neg (fun hh => Bool.noConfusion (hh.symm.trans d))] at hm
 refine Tr 22 rfl (v' := .bool false) (by rw [d] <;> rfl)<|yS<|mV rfl<|nO<|nO<|nO<|yS<|tS (pF rfl rfl)<|tS (pF rfl rfl)<|aS rfl ?_
 refine Tn ?_
 obtain rfl := o1 hm
 exact jJ ⟨rfl, rfl, lr⟩
 rw [if_neg (fun hh => Bool.noConfusion (hh.symm.trans c))] at hm
 refine Tr 19 rfl (v' := .bool false) (by rw [c] <;> rfl)<|tS (st_not_f rfl)<|mV rfl<|nO<|nO<|nO<|nO<|nO<|nO<|tS (pT rfl rfl) ?_
 refine aS rfl<|Tn ?_
 obtain rfl := o1 hm
 exact jJ ⟨rfl, rfl, lr⟩
 rintro k _ _ ⟨rfl, rfl, a⟩
 have hm := u
 refine cB hm rfl (fun hm => ?_) fun hm => ?_
 refine Cr<|aS rfl<|Te<|Ct<|Xb<|Xr ?_
 obtain rfl := o1 hm
 exact rO ⟨rfl, rfl⟩ a
 obtain ⟨J, y, z⟩ := bS hm
 refine Cj (fun n e' hp' => [(3, iv p), (5, bv r), (29, bv J)] = e' ∧ R = hp' ∧ k.Le n) ?_ ?_
 have hm := y
 refine Cg<|mV rfl ?_
 rcases Bool.eq_false_or_eq_true q with e | e
 rw [if_pos e] at hm
 refine Tr 30 rfl (v' := .bool true) (by rw [e] <;> rfl)<|mV rfl<|yS<|mV rfl<|yS<|mV rfl<|yS<|tS (q1 rfl rfl)<|tS (pT rfl rfl)<|aS rfl ?_
 refine Tn ?_
 obtain rfl := o1 hm
 exact jJ ⟨rfl, rfl, lr⟩
 rw [if_neg (fun hh => Bool.noConfusion (hh.symm.trans e))] at hm
 refine Tr 30 rfl (v' := .bool false) (by rw [e] <;> rfl)<|mV rfl<|nO<|nO<|nO<|tS (pF rfl rfl)<|aS rfl<|Tn ?_
 obtain rfl := o1 hm
 exact jJ ⟨rfl, rfl, lr⟩
 rintro n _ _ ⟨rfl, rfl, g⟩
 have hm := z
 refine cB hm rfl (fun hm => ?_) fun hm => ?_
 refine Cr<|aS rfl<|Te<|Ct<|Xb<|Xr ?_
 obtain rfl := o1 hm
 exact rO ⟨rfl, rfl⟩ (a.trans g)
 obtain ⟨K, A, B⟩ := bS hm
 refine Cj (fun C e' hp' => [(36, bv K)] = e' ∧ R = hp' ∧ n.Le C) ?_ ?_
 have hm := A
 refine Cg<|mV rfl ?_
 rcases Bool.eq_false_or_eq_true r with f | f
 rw [if_pos f] at hm
 refine Tr 37 rfl (v' := .bool true) (by rw [f] <;> rfl)<|mV rfl<|yS<|mV rfl<|yS ?_
 obtain ⟨L, o, hm⟩ := bS hm
 refine tD (uW _ call35 rfl (fun w ho => cFishref2Within _ [] p 0 28800 L o) (fun _ _ _ h => h.2.symm)) ?_
 rintro _ _ ⟨⟨_, rfl, _⟩, rfl⟩
 refine yS<|tS (sn2 rfl)<|tS (pT rfl rfl)<|aS rfl<|Tn ?_
 obtain rfl := o1 hm
 exact jJ ⟨rfl, rfl, lr⟩
 rw [if_neg (fun hh => Bool.noConfusion (hh.symm.trans f))] at hm
 refine Tr 37 rfl (v' := .bool false) (by rw [f] <;> rfl)<|mV rfl<|nO<|nO<|nO<|tS (pF rfl rfl)<|aS rfl<|Tn ?_
 obtain rfl := o1 hm
 exact jJ ⟨rfl, rfl, lr⟩
 rintro C _ _ ⟨rfl, rfl, i⟩
 have hm := B
 refine cB hm rfl (fun hm => ?_) fun hm => ?_
 refine Cr<|aS rfl<|Te<|Ct<|Xb<|Xr ?_
 obtain rfl := o1 hm
 exact rO ⟨rfl, rfl⟩ (a.trans (g.trans i))
 refine Ck<|Xm<|Xn<|Cr<|aS rfl<|Te<|Ct ?_
 obtain rfl := o1 hm
 exact rO ⟨rfl, rfl⟩ (a.trans (g.trans i))

set_option maxRecDepth 20000 in
theorem cFishref2JourneyFault (b : Base) (R : Hp) (C : ApiDay) (s : GuideJourney) (z A A2 c3 A5 c6 L m) (h4 : FZ rApiTrain b.w A2 c3 C.Trains) (h7 : FZ (RT.list rI) b.w A5 c6 C.Turns) (a2 : FZ rGuideRide b.w L m s.Rides) (aZ) (hm : mFishref2JourneyFault C s z A = some aZ):
    CallsG Tryd.prog 14 [.agg #[sv A2 C.Trains c3, sv A5 C.Turns c6], .agg #[sv L s.Rides m], iv z, bv A] b (R) (fun v b' hp' => iv aZ = v ∧ R = hp') := by
 refine fE 125 Tryd.func14 rfl Tryd.ntmps14 rfl ?_
 unfold mFishref2JourneyFault at hm
 refine Cr<|tD (uB _ rfl rfl) ?_
 rintro _ _ ⟨i, rfl, rfl⟩
 refine tD (uB _ rfl rfl) ?_
 rintro _ _ ⟨k, rfl, rfl⟩
 refine aS rfl<|Te<|Cs<|Cr<|mV rfl ?_
 obtain ⟨bt, av, hm⟩ := bS hm
 refine tD (uW _ call35 rfl (fun w ho => cFishref2Within _ [] z 0 28800 bt av) (fun _ _ _ h => h.2.symm)) ?_
 rintro _ _ ⟨⟨_, rfl, _⟩, rfl⟩
 refine tS (sn2 rfl)<|Te ?_
 refine cM hm rfl (fun hm => ?_) fun hm => ?_
 refine Cr<|aS rfl<|Te<|Ct<|Xr ?_
 obtain rfl := o1 hm
 exact rO ⟨rfl, rfl⟩ lr
 refine Ck<|Xn<|Cs<|Cr<|tS (sF rfl fld33_0)<|tS (sL 0 rfl one31 rfl rfl)<|tS (sE rfl sl31) ?_
 obtain ⟨bu, aw, hm⟩ := bS hm
 refine tD (uW _ call35 rfl (fun w ho => cFishref2Within _ [] (s.Rides.length : Int) 1 4 bu aw) (fun _ _ _ h => h.2.symm)) ?_
 rintro _ _ ⟨⟨_, rfl, _⟩, rfl⟩
 refine tS (sn2 rfl)<|Te ?_
 refine cM hm rfl (fun hm => ?_) fun hm => ?_
 refine Cr<|aS rfl<|Te<|Ct<|Xr ?_
 obtain rfl := o1 hm
 exact rO ⟨rfl, rfl⟩ lr
 refine Ck<|Xn<|Cs<|Cr<|tS (sF rfl fld33_0)<|tS (sL 0 rfl one31 rfl rfl)<|tS (sE rfl sl31)<|mV rfl<|Te<|Cb ?_
 have bI : s.Rides.length ≤ 9223372036854775807 := (FZ.bd a2)
 refine Cp 1 rfl ?_
 obtain ⟨bZ, a3, e⟩ := bS hm
 refine lF (fun n => fun _ => fun O e' hp' => [(2, iv z), (3, bv A), (4, pb i), (5, pb k), (23, sv L s.Rides m), (24, iv ((s.Rides.length : Int))), (25, iv ((n : Int)))] = e' ∧ (i, Cl 25 [sv A2 C.Trains c3, sv A5 C.Turns c6]) :: (k, Cl 33 [sv L s.Rides m]) :: R = hp' ∧ b.Le O) a3 ⟨rfl, rfl, lr⟩ ?_ ?_
 rintro n _ O _ _ bJ bw ⟨rfl, rfl, a⟩ t g
 unfold mFishref2JourneyFault_L599 at t
 have hm := t
 refine Cr<|tS (lT rfl rfl (by omega))<|Te<|Cs<|c_cond_t rfl<|Ck<|Xn<|Cs<|Cb<|Cr ?_
 refine mV rfl ?_
 obtain ⟨f, bx, bK, a4, bL, a5, ax, W, ay, hm⟩ := bF (sz := 3) hm (a2.le a)
 obtain ⟨_, _, rfl, rfl, ⟨_, _, rfl, rfl, rfl⟩⟩ := a5
 refine tS (sI bx rfl rfl a4 ay W sl31)<|tS (sP (vs := [iv f.Train, iv f.On, iv f.Off]) 3 rfl agg86 W rfl (fun j u hu => ax j u hu))<|tD (uA [iv 0, iv 0, iv 0] zero86 rfl) ?_
 rintro _ _ ⟨q, rfl, rfl⟩
 refine aS rfl<|tD (uN (vs := [_, _, _]) 0 3 rfl rfl rfl siz86 rfl (mc rfl (mc rfl (mc rfl mn))) rfl (by simp)) ?_
 rintro _ _ rfl
 refine Te<|Cs ?_
 obtain ⟨bz, a6, a7⟩ := bS hm
 refine Cj (fun X e' hp' => [(2, iv z), (3, bv A), (4, pb i), (5, pb k), (9, iv ((n : Int))), (10, pb q), (23, sv L s.Rides m), (24, iv ((s.Rides.length : Int))), (25, iv ((n : Int))), (40, bv bz)] = e' ∧ (i, Cl 25 [sv A2 C.Trains c3, sv A5 C.Turns c6]) :: (k, Cl 33 [sv L s.Rides m]) :: (q, Cl 86 [iv f.Train, iv f.On, iv f.Off]) :: R = hp' ∧ O.Le X) ?_ ?_
 have hm := a6
 refine Cg<|tS (sF rfl fld86_0)<|tS (sL 0 rfl one3 rfl rfl) ?_
 refine Tb rfl (q3 rfl rfl) (fun E => ?_) (fun E => ?_)
 rw [if_pos E] at hm
 refine mV rfl<|nO<|nO<|nO<|nO<|nO<|nO<|tS (pT rfl rfl)<|Tn ?_
 obtain rfl := o1 hm
 exact jJ ⟨rfl, rfl, lr⟩
 rw [if_neg E] at hm
 refine mV rfl<|yS<|tS (sF rfl fld86_0)<|yS<|tS (sL 0 rfl one3 rfl rfl)<|yS<|tS (sF rfl fld25_0)<|yS<|tS (sL 1 rfl one22 rfl rfl)<|yS ?_
 refine tS (sE rfl sl22)<|yS<|tS (q6 rfl rfl)<|tS (pF rfl rfl)<|Tn ?_
 obtain rfl := o1 hm
 exact jJ ⟨rfl, rfl, lr⟩
 rintro X _ _ ⟨rfl, rfl, c⟩
 have hm := a7
 refine cB hm rfl (fun hm => ?_) fun hm => ?_
 refine Cr<|aS rfl<|Te<|Ct<|Xr<|Xb<|Xr<|Xr<|Xb<|Xr ?_
 have a8 := g _ (Option.some.inj hm).symm
 rw [a8] at e
 have hm := elimR e
 obtain rfl := o1 hm
 exact rO ⟨rfl, rfl⟩ (a.trans c)
 refine Ck<|Xn<|Cr<|tS (sF rfl fld25_0)<|tS (sL 0 rfl one22 rfl rfl)<|tS (sF rfl fld86_0)<|tS (sL 2 rfl one3 rfl rfl) ?_
 obtain ⟨Y, bA, bM, a9, bN, ba, az, Z, aA, hm⟩ := bF (sz := 4) hm (h4.le (a.trans c))
 obtain ⟨_, _, rfl, rfl, ⟨_, _, rfl, rfl, ⟨_, _, rfl, ⟨aa, ab, rfl, a0⟩, ⟨b0, b1, rfl, b2⟩⟩⟩⟩ := ba
 refine tS (sI bA rfl rfl a9 aA Z sl22)<|tS (sQ rfl Z fld47_2)<|tS (sO rfl one45 (az 2 _ rfl))<|aS rfl<|Te<|Cs ?_
 obtain ⟨bB, bb, bc⟩ := bS hm
 refine Cj (fun ac e' hp' => [(2, iv z), (3, bv A), (4, pb i), (5, pb k), (9, iv ((n : Int))), (10, pb q), (11, sv aa Y.Stops ab), (23, sv L s.Rides m), (24, iv ((s.Rides.length : Int))), (25, iv ((n : Int))), (69, bv bB)] = e' ∧ (i, Cl 25 [sv A2 C.Trains c3, sv A5 C.Turns c6]) :: (k, Cl 33 [sv L s.Rides m]) :: (q, Cl 86 [iv f.Train, iv f.On, iv f.Off]) :: R = hp' ∧ X.Le ac) ?_ ?_
 have hm := bb
 refine Cg<|tS (sF rfl fld86_1)<|tS (sL 2 rfl one3 rfl rfl) ?_
 refine Tb rfl (q3 rfl rfl) (fun F => ?_) (fun F => ?_)
 rw [if_pos F] at hm
 refine mV rfl<|nO<|nO<|nO<|nO<|nO<|tS (pT rfl rfl)<|mV rfl<|nO<|nO ?_
 refine nO<|tS (pT rfl rfl)<|mV rfl<|nO<|nO<|nO<|nO<|nO<|tS (pT rfl rfl)<|Tn ?_
 obtain rfl := o1 hm
 exact jJ ⟨rfl, rfl, lr⟩
 rw [if_neg F] at hm
 refine mV rfl<|yS<|tS (sF rfl fld86_1)<|yS<|tS (sL 2 rfl one3 rfl rfl)<|yS<|mV rfl<|yS<|tS (sE rfl sl45)<|yS ?_
 refine Tb rfl (q6 rfl rfl) (fun G => ?_) (fun G => ?_)
 rw [if_pos G] at hm
 refine tS (pF rfl rfl)<|mV rfl<|nO<|nO<|nO<|tS (pT rfl rfl)<|mV rfl<|nO<|nO<|nO ?_
 refine nO<|nO<|tS (pT rfl rfl)<|Tn ?_
 obtain rfl := o1 hm
 exact jJ ⟨rfl, rfl, lr⟩
 rw [if_neg G] at hm
 refine tS (pF rfl rfl)<|mV rfl<|yS<|tS (sF rfl fld86_2)<|yS<|tS (sL 2 rfl one3 rfl rfl)<|yS ?_
 refine Tb rfl (q3 rfl rfl) (fun H => ?_) (fun H => ?_)
 rw [if_pos H] at hm
 refine tS (pF rfl rfl)<|mV rfl<|nO<|nO<|nO<|nO<|nO<|tS (pT rfl rfl)<|Tn ?_
 obtain rfl := o1 hm
 exact jJ ⟨rfl, rfl, lr⟩
 rw [if_neg H] at hm
 refine tS (pF rfl rfl)<|mV rfl<|yS<|tS (sF rfl fld86_2)<|yS<|tS (sL 2 rfl one3 rfl rfl)<|yS<|mV rfl<|yS<|tS (sE rfl sl45) ?_
 refine yS<|tS (q6 rfl rfl)<|tS (pF rfl rfl)<|Tn ?_
 obtain rfl := o1 hm
 exact jJ ⟨rfl, rfl, lr⟩
 rintro ac _ _ ⟨rfl, rfl, d⟩
 have hm := bc
 refine cB hm rfl (fun hm => ?_) fun hm => ?_
 refine Cr<|aS rfl<|Te<|Ct<|Xr<|Xb<|Xr<|Xr<|Xb<|Xr ?_
 have bd := g _ (Option.some.inj hm).symm
 rw [bd] at e
 have hm := elimR e
 obtain rfl := o1 hm
 exact rO ⟨rfl, rfl⟩ (a.trans (c.trans d))
 refine Ck<|Xn<|Cs<|Cr<|tS (sF rfl fld86_1)<|tS (sL 2 rfl one3 rfl rfl)<|tS (sF rfl fld86_2)<|tS (sL 2 rfl one3 rfl rfl)<|tS (q6 rfl rfl)<|Te ?_
 refine cI hm rfl (fun hm => ?_) fun hm => ?_
 refine Cr<|aS rfl<|Te<|Ct<|Xr<|Xb<|Xr<|Xr<|Xb<|Xr ?_
 have be := g _ (Option.some.inj hm).symm
 rw [be] at e
 have hm := elimR e
 obtain rfl := o1 hm
 exact rO ⟨rfl, rfl⟩ (a.trans (c.trans d))
 refine Ck<|Xn<|Cs<|Cr<|mV rfl<|tS (q1 rfl rfl)<|Te ?_
 refine cI hm rfl (fun hm => ?_) fun hm => ?_
 refine Ce<|Xe<|Xo<|Xn<|Cg<|tS (sa rfl rfl (by omega))<|mV rfl<|Tn ?_
 exact jM hm ⟨rfl, rfl, ((a.trans (c.trans d)))⟩
 refine Ck<|Xn<|Cr<|tS (sF rfl fld33_0)<|tS (sL 1 rfl one31 rfl rfl)<|mV rfl ?_
 obtain ⟨_, ad, hm⟩ := bS hm
 have ad := (kS ad).2
 refine tS (sb rfl rfl ad) ?_
 obtain ⟨x, bC, bO, bf, bP, bg, aB, ae, aC, hm⟩ := bF (sz := 3) hm (a2.le (a.trans (c.trans d)))
 obtain ⟨_, _, rfl, rfl, ⟨_, _, rfl, rfl, rfl⟩⟩ := bg
 refine tS (sI bC rfl rfl bf aC ae sl31)<|tS (sP (vs := [iv x.Train, iv x.On, iv x.Off]) 3 rfl agg86 ae rfl (fun j u hu => aB j u hu))<|tD (uA [iv 0, iv 0, iv 0] zero86 rfl) ?_
 rintro _ _ ⟨a1, rfl, rfl⟩
 refine tD (uN (vs := [_, _, _]) 0 3 rfl rfl rfl siz86 rfl (mc rfl (mc rfl (mc rfl mn))) rfl (by simp)) ?_
 rintro _ _ rfl
 refine Te ?_
 obtain ⟨⟨af, ag, ah, ai⟩, aD, aE⟩ := bS hm
 refine Cj (fun I e' hp' => ∃ y, [(2, iv z), (3, bv A), (4, pb i), (5, pb k), (10, pb q), (11, sv aa Y.Stops ab), (12, pb a1), (13, pb y), (23, sv L s.Rides m), (24, iv ((s.Rides.length : Int))), (25, iv ((n : Int)))] = e' ∧ (i, Cl 25 [sv A2 C.Trains c3, sv A5 C.Turns c6]) :: (k, Cl 33 [sv L s.Rides m]) :: (q, Cl 86 [iv f.Train, iv f.On, iv f.Off]) :: (a1, Cl 86 [iv x.Train, iv x.On, iv x.Off]) :: (y, Cl 83 [iv af, iv ag, iv ah, iv ai]) :: R = hp' ∧ ac.Le I) ?_ ?_
 have hm := aD
 obtain ⟨bQ, bh, hm⟩ := bS hm
 obtain ⟨B, bi, hm⟩ := bS hm
 refine Di mixed (.refl _)<|E0 0 rfl (sF rfl fld25_0)<|Es 1 rfl (sL 1 rfl one22 rfl rfl)<|E0 2 rfl (sF rfl fld86_0)<|Es 3 rfl (sL 0 rfl one3 rfl rfl) ?_
 obtain ⟨bj, aF, aG⟩ := iS bh
 obtain ⟨bD, aH, aj, S, ak⟩ := FZ.get (sz := 4) rfl (by decide) (h4.le (a.trans (c.trans d))) aG
 obtain ⟨_, _, rfl, rfl, ⟨_, _, rfl, rfl, ⟨_, _, rfl, ⟨bR, bT, rfl, bk⟩, ⟨bU, bV, rfl, bW⟩⟩⟩⟩ := aH
 refine E0 4 rfl (sI bj rfl rfl aF ak S sl22)<|E0 5 rfl (sQ rfl S fld47_2)<|Es 6 rfl (sO rfl one45 (aj 2 _ rfl))<|E0 7 rfl (sF rfl fld86_2)<|Es 8 rfl (sL 0 rfl one3 rfl rfl) ?_
 obtain ⟨bl, aI, aJ⟩ := iS bi
 obtain ⟨bE, aK, al, T, am⟩ := FZ.get (sz := 4) rfl (by decide) bk aJ
 obtain ⟨_, _, rfl, rfl, ⟨_, _, rfl, rfl, ⟨_, _, rfl, rfl, rfl⟩⟩⟩ := aK
 refine E0 9 rfl (sI bl rfl rfl aI am T sl45)<|Es 10 rfl (sP (vs := [iv B.Station, iv B.Track, iv B.Arr, iv B.Dep]) 4 rfl agg83 T rfl (fun j u hu => al j u hu))<|Eo<|Da [11] (by kernel_rfl) rfl ?_
 refine Rd2 lr rfl rfl (uA [iv 0, iv 0, iv 0, iv 0] zero83 rfl) ?_ ?_
 rintro _ _ ⟨bm, rfl, rfl⟩
 refine iR<|Da [12] (by kernel_rfl) rfl ?_
 refine Rd2 lr rfl rfl (uN (vs := [_, _, _, _]) 0 4 rfl rfl rfl siz83 rfl (mc rfl (mc rfl (mc rfl (mc rfl mn)))) rfl (by simp)) ?_ ?_
 rintro _ _ rfl
 refine ⟨.inl (by kernel_rfl), ?_⟩
 refine Dd (by kernel_rfl) ?_
 obtain ⟨rfl, rfl, rfl, rfl⟩ := some4 hm
 exact jJ ⟨bm, rfl, rfl, lr⟩
 exact Rn
 exact Rn
 rintro I _ _ ⟨y, rfl, rfl, l⟩
 have hm := (unc4E aE)
 refine Cs ?_
 obtain ⟨bn, aL, aM⟩ := bS hm
 refine Cj (fun J e' hp' => [(2, iv z), (3, bv A), (4, pb i), (5, pb k), (10, pb q), (11, sv aa Y.Stops ab), (13, pb y), (23, sv L s.Rides m), (24, iv ((s.Rides.length : Int))), (25, iv ((n : Int))), (109, bv bn)] = e' ∧ (i, Cl 25 [sv A2 C.Trains c3, sv A5 C.Turns c6]) :: (k, Cl 33 [sv L s.Rides m]) :: (q, Cl 86 [iv f.Train, iv f.On, iv f.Off]) :: (y, Cl 83 [iv af, iv ag, iv ah, iv ai]) :: R = hp' ∧ I.Le J) ?_ ?_
 have hm := aL
 by_cases r : x.Train = f.Train
 rw [if_pos r] at hm
 refine Di mixed (.refl _)<|E0 0 rfl (sF rfl fld86_0)<|Es 1 rfl (sL 3 rfl one3 rfl rfl)<|E0 2 rfl (sF rfl fld86_0)<|Es 3 rfl (sL 2 rfl one3 rfl rfl)<|E0 4 rfl (eT rfl rfl r)<|E0 5 rfl (sM rfl)<|eN 6 rfl<|eN 7 rfl<|eN 8 rfl ?_
 refine eN 9 rfl<|eN 10 rfl<|eN 11 rfl<|eN 12 rfl<|eN 13 rfl<|eN 14 rfl<|E0 15 rfl (pT rfl rfl)<|Eo<|Dd (by kernel_rfl) ?_
 obtain rfl := o1 hm
 exact jJ ⟨rfl, rfl, lr⟩
 rw [if_neg r] at hm
 obtain ⟨bX, bo, hm⟩ := bS hm
 refine Di mixed (.refl _)<|E0 0 rfl (sF rfl fld86_0)<|Es 1 rfl (sL 3 rfl one3 rfl rfl)<|E0 2 rfl (sF rfl fld86_0)<|Es 3 rfl (sL 2 rfl one3 rfl rfl)<|E0 4 rfl (eF rfl rfl r)<|E0 5 rfl (sM rfl)<|Yz 6 99 rfl (sM rfl)<|Yz 7 99 rfl (sF rfl fld86_1)<|Ey 8 99 rfl (sL 2 rfl one3 rfl rfl) ?_
 obtain ⟨bp, aN, aO⟩ := iS bo
 obtain ⟨bG, aP, an, U, ao⟩ := FZ.get (sz := 4) rfl (by decide) (a0.le (d.trans l)) aO
 obtain ⟨_, _, rfl, rfl, ⟨_, _, rfl, rfl, ⟨_, _, rfl, rfl, rfl⟩⟩⟩ := aP
 refine Yz 9 99 rfl (sI bp rfl rfl aN ao U sl45)<|Yz 10 99 rfl (sQ rfl U fld83_0)<|Ey 11 99 rfl (sO rfl one3 (an 0 _ rfl))<|Yz 12 99 rfl (sF rfl fld83_0)<|Ey 13 99 rfl (sL 4 rfl one3 rfl rfl)<|Yz 14 99 rfl (q2 rfl rfl)<|E0 15 rfl (pF rfl rfl)<|Eo<|Dd (by kernel_rfl) ?_
 obtain rfl := o1 hm
 exact jJ ⟨rfl, rfl, lr⟩
 rintro J _ _ ⟨rfl, rfl, o⟩
 have hm := aM
 refine cB hm rfl (fun hm => ?_) fun hm => ?_
 refine Cr<|aS rfl<|Te<|Ct<|Xr<|Xb<|Xr<|Xr<|Xb<|Xr ?_
 have aQ := g _ (Option.some.inj hm).symm
 rw [aQ] at e
 have hm := elimR e
 obtain rfl := o1 hm
 exact rO ⟨rfl, rfl⟩ (a.trans (c.trans (d.trans (l.trans o))))
 refine Ck<|Xn ?_
 obtain ⟨bq, aR, aT⟩ := bS hm
 refine Cj (fun aq e' hp' => [(2, iv z), (3, bv A), (4, pb i), (5, pb k), (23, sv L s.Rides m), (24, iv ((s.Rides.length : Int))), (25, iv ((n : Int))), (123, bv bq)] = e' ∧ (i, Cl 25 [sv A2 C.Trains c3, sv A5 C.Turns c6]) :: (k, Cl 33 [sv L s.Rides m]) :: R = hp' ∧ J.Le aq) ?_ ?_
 have hm := aR
 rcases Bool.eq_false_or_eq_true A with p | p
 rw [if_pos p] at hm
 obtain ⟨bY, br, hm⟩ := bS hm
 obtain ⟨_, K, hm⟩ := bS hm
 refine Di mixed (.refl _)<|E0 0 rfl (stB (sM rfl) p)<|E0 1 rfl (sM rfl)<|Yz 2 111 rfl (sM rfl)<|Yz 3 111 rfl (sF rfl fld86_1)<|Ey 4 111 rfl (sL 2 rfl one3 rfl rfl) ?_
 obtain ⟨bs, aU, aV⟩ := iS br
 obtain ⟨bH, aW, ar, V, au⟩ := FZ.get (sz := 4) rfl (by decide) (a0.le (d.trans (l.trans o))) aV
 obtain ⟨_, _, rfl, rfl, ⟨_, _, rfl, rfl, ⟨_, _, rfl, rfl, rfl⟩⟩⟩ := aW
 refine Yz 5 111 rfl (sI bs rfl rfl aU au V sl45)<|Yz 6 111 rfl (sQ rfl V fld83_3)<|Ey 7 111 rfl (sO rfl one3 (ar 3 _ rfl))<|Yz 8 111 rfl (sF rfl fld83_2)<|Ey 9 111 rfl (sL 3 rfl one3 rfl rfl)<|Yz 10 111 rfl (sM rfl) ?_
 have K := (kS K).2
 refine Yz 11 111 rfl (sa rfl rfl K)<|Yz 12 111 rfl (q3 rfl rfl)<|E0 13 rfl (pT rfl rfl)<|Eo<|Dd (by kernel_rfl) ?_
 obtain rfl := o1 hm
 exact jJ ⟨rfl, rfl, lr⟩
 rw [if_neg (fun hh => Bool.noConfusion (hh.symm.trans p))] at hm
 refine Di mixed (.refl _)<|E0 0 rfl (stB (sM rfl) p)<|E0 1 rfl (sM rfl)<|eN 2 rfl<|eN 3 rfl<|eN 4 rfl<|eN 5 rfl<|eN 6 rfl<|eN 7 rfl<|eN 8 rfl ?_
 refine eN 9 rfl<|eN 10 rfl<|eN 11 rfl<|eN 12 rfl<|E0 13 rfl (pF rfl rfl)<|Eo<|Dd (by kernel_rfl) ?_
 obtain rfl := o1 hm
 exact jJ ⟨rfl, rfl, lr⟩
 rintro aq _ _ ⟨rfl, rfl, D⟩
 have hm := aT
 refine cB hm rfl (fun hm => ?_) fun hm => ?_
 refine Cr<|aS rfl<|Te<|Ct<|Xb<|Xr<|Xr<|Xb<|Xr ?_
 have aX := g _ (Option.some.inj hm).symm
 rw [aX] at e
 have hm := elimR e
 obtain rfl := o1 hm
 exact rO ⟨rfl, rfl⟩ (a.trans (c.trans (d.trans (l.trans (o.trans D)))))
 refine Ck<|Xm<|Xn<|Cg<|tS (sa rfl rfl (by omega))<|mV rfl<|Tn ?_
 exact jM hm ⟨rfl, rfl, ((a.trans (c.trans (d.trans (l.trans (o.trans D))))))⟩
 rintro _ O _ _ ⟨rfl, rfl, a⟩ aY
 rw [aY] at e
 have hm := elimL e
 refine Cr<|tS (lF rfl rfl (by omega))<|Te<|Cs<|c_cond_f rfl<|Ce<|Xe<|Xe<|Xo<|Xn ?_
 refine Cr<|aS rfl<|Te<|Ct ?_
 obtain rfl := o1 hm
 exact rO ⟨rfl, rfl⟩ a

set_option maxRecDepth 20000 in
theorem cFishref2Arrives (b : Base) (R : Hp) (t : ApiDay) (F : GuideJourney) (K L O S T w) (h4 : FZ rApiTrain b.w K L t.Trains) (h7 : FZ (RT.list rI) b.w O S t.Turns) (G : FZ rGuideRide b.w T w F.Rides) (x) (hm : mFishref2Arrives t F = some x):
    CallsG Tryd.prog 15 [.agg #[sv K t.Trains L, sv O t.Turns S], .agg #[sv T F.Rides w]] b (R) (fun v b' hp' => iv x = v ∧ R = hp') := by
 refine fE 26 Tryd.func15 rfl Tryd.ntmps15 rfl ?_
 unfold mFishref2Arrives at hm
 refine Cr<|tD (uB _ rfl rfl) ?_
 rintro _ _ ⟨ad, rfl, rfl⟩
 refine tD (uB _ rfl rfl) ?_
 rintro _ _ ⟨ae, rfl, rfl⟩
 refine aS rfl<|Te<|Cr<|tS (sF rfl fld33_0)<|tS (sL 0 rfl one31 rfl rfl)<|tS (sF rfl fld33_0)<|tS (sL 0 rfl one31 rfl rfl)<|tS (sE rfl sl31) ?_
 obtain ⟨_, i, hm⟩ := bS hm
 have i := (kS i).2
 refine tS (sb rfl rfl i) ?_
 obtain ⟨k, H, U, y, V, z, l, h, m, hm⟩ := bF (sz := 3) hm G
 obtain ⟨_, _, rfl, rfl, ⟨_, _, rfl, rfl, rfl⟩⟩ := z
 refine tS (sI H rfl rfl y m h sl31)<|tS (sP (vs := [iv k.Train, iv k.On, iv k.Off]) 3 rfl agg86 h rfl (fun j u hu => l j u hu))<|tD (uA [iv 0, iv 0, iv 0] zero86 rfl) ?_
 rintro _ _ ⟨af, rfl, rfl⟩
 refine tD (uN (vs := [_, _, _]) 0 3 rfl rfl rfl siz86 rfl (mc rfl (mc rfl (mc rfl mn))) rfl (by simp)) ?_
 rintro _ _ rfl
 refine Te<|Cs ?_
 obtain ⟨W, A, hm⟩ := bS hm
 obtain ⟨X, B, hm⟩ := bS hm
 refine Di mixed (.refl _)<|E0 0 rfl (sF rfl fld25_0)<|Es 1 rfl (sL 2 rfl one22 rfl rfl)<|E0 2 rfl (sF rfl fld86_0)<|Es 3 rfl (sL 0 rfl one3 rfl rfl) ?_
 obtain ⟨C, n, o⟩ := iS A
 obtain ⟨I, p, d, a, e⟩ := FZ.get (sz := 4) rfl (by decide) h4 o
 obtain ⟨_, _, rfl, rfl, ⟨_, _, rfl, rfl, ⟨_, _, rfl, ⟨Y, Z, rfl, D⟩, ⟨aa, ab, rfl, ac⟩⟩⟩⟩ := p
 refine E0 4 rfl (sI C rfl rfl n e a sl22)<|E0 5 rfl (sQ rfl a fld47_2)<|Es 6 rfl (sO rfl one45 (d 2 _ rfl))<|E0 7 rfl (sF rfl fld86_2)<|Es 8 rfl (sL 0 rfl one3 rfl rfl) ?_
 obtain ⟨E, q, r⟩ := iS B
 obtain ⟨J, s, f, c, g⟩ := FZ.get (sz := 4) rfl (by decide) D r
 obtain ⟨_, _, rfl, rfl, ⟨_, _, rfl, rfl, ⟨_, _, rfl, rfl, rfl⟩⟩⟩ := s
 refine E0 9 rfl (sI E rfl rfl q g c sl45)<|E0 10 rfl (sQ rfl c fld83_2)<|Es 11 rfl (sO rfl one3 (f 2 _ rfl))<|E0 12 rfl (sA rfl)<|Eo<|Dd (by kernel_rfl)<|Xn<|Ct ?_
 obtain rfl := o1 hm
 exact rO ⟨rfl, rfl⟩ lr

set_option maxRecDepth 20000 in
theorem cBitsMul64 (b : Base) (R : Hp) (g h i j) (hm : mBitsMul64 g h = some (i, j)):
    CallsG Tryd.prog 97 [.int .u64 (g), .int .u64 (h)] b (R) (fun v b' hp' => .tuple #[.int .u64 (i), .int .u64 (j)] = v ∧ R = hp') := by
 refine fE 51 Tryd.func97 rfl Tryd.ntmps97 rfl ?_
 unfold mBitsMul64 at hm
 refine Cr<|aS rfl<|aS rfl<|Te<|Cr<|mV rfl<|tS (st_and rfl rfl)<|aS rfl<|Te<|Cr ?_
 refine mV rfl ?_
 obtain ⟨_, a, hm⟩ := bS hm
 have a := shN_some a
 refine tS (st_shr rfl rfl a)<|aS rfl<|Te<|Cr<|mV rfl<|tS (st_and rfl rfl)<|aS rfl<|Te<|Cr<|mV rfl ?_
 obtain ⟨_, c, hm⟩ := bS hm
 have c := shN_some c
 refine tS (st_shr rfl rfl c)<|aS rfl<|Te<|Cr<|mV rfl<|mV rfl<|tS (st_mul_w rfl rfl)<|aS rfl<|Te<|Cr ?_
 refine mV rfl<|mV rfl<|tS (st_mul_w rfl rfl)<|mV rfl ?_
 obtain ⟨_, d, hm⟩ := bS hm
 have d := shN_some d
 refine tS (st_shr rfl rfl d)<|tS (st_add_w rfl rfl)<|aS rfl<|Te<|Cr<|mV rfl<|tS (st_and rfl rfl)<|aS rfl<|Te<|Cr ?_
 refine mV rfl ?_
 obtain ⟨_, e, hm⟩ := bS hm
 have e := shN_some e
 refine tS (st_shr rfl rfl e)<|aS rfl<|Te<|Cr<|mV rfl<|mV rfl<|mV rfl<|tS (st_mul_w rfl rfl)<|tS (st_add_w rfl rfl)<|aS rfl ?_
 refine Te<|Cr<|mV rfl<|mV rfl<|tS (st_mul_w rfl rfl)<|mV rfl<|tS (st_add_w rfl rfl)<|mV rfl ?_
 obtain ⟨_, f, hm⟩ := bS hm
 have f := shN_some f
 refine tS (st_shr rfl rfl f)<|tS (st_add_w rfl rfl)<|aS rfl<|Te<|Cr<|mV rfl<|mV rfl<|tS (st_mul_w rfl rfl)<|aS rfl<|Te ?_
 refine Ct ?_
 obtain ⟨rfl, rfl⟩ := some2 hm
 exact rT ⟨rfl, rfl⟩ lr

set_option maxRecDepth 20000 in
theorem cBitsMul (b : Base) (R : Hp) (c d e f) (hm : mBitsMul c d = some (e, f)):
    CallsG Tryd.prog 79 [.int .u64 (c), .int .u64 (d)] b (R) (fun v b' hp' => .tuple #[.int .u64 (e), .int .u64 (f)] = v ∧ R = hp') := by
 refine fE 30 Tryd.func79 rfl Tryd.ntmps79 rfl ?_
 unfold mBitsMul at hm
 refine Cr<|aS rfl<|aS rfl<|Te<|Cs<|c_cond_f rfl<|Ck<|Xn<|Cr<|mV rfl ?_
 refine mV rfl ?_
 obtain ⟨⟨g, i⟩, a, hm⟩ := bS hm
 have hm := (unc2E hm)
 refine tD (uW _ call97 rfl (fun w ho => cBitsMul64 _ [] c d g i a) (fun _ _ _ h => h.2.symm)) ?_
 rintro _ _ ⟨⟨_, rfl, _⟩, rfl⟩
 refine mV rfl<|tS (st_extract rfl rfl)<|tS (st_extract rfl rfl)<|aS rfl<|aS rfl<|Te<|Cr<|mV rfl<|mV rfl<|aS rfl ?_
 refine aS rfl<|Te<|Ct ?_
 obtain ⟨rfl, rfl⟩ := some2 hm
 exact rT ⟨rfl, rfl⟩ lr

set_option maxRecDepth 20000 in
theorem cSlicesRepeat (b : Base) (R : Hp) (l4 x5 A1 c2) (h3 : FZ rI b.w A1 c2 l4) (t) (hm : mSlicesRepeat l4 x5 = some t):
    CallsG Tryd.prog 51 [sv A1 l4 c2, iv x5] b (R) (fun v b' hp' => ∃ U V C, sv U t V = v ∧ (C ++ R) = hp' ∧ OS 3 (OT.fr rI) b'.w (sv U t V) t C) := by
 refine fE 48 Tryd.func51 rfl Tryd.ntmps51 rfl ?_
 unfold mSlicesRepeat at hm
 refine Cr<|aS rfl<|Te<|Cs<|Cr<|mV rfl<|tS (q3 rfl rfl)<|Te ?_
 refine cI hm rfl (fun hm => ?_) fun hm => ?_
 cases hm
 refine Ck<|Xn<|Cr<|mV rfl<|tS (sE rfl sl49)<|tS (st_conv rfl int3_i64 int145_u64)<|mV rfl<|tS (st_conv rfl int3_i64 int145_u64) ?_
 obtain ⟨⟨aj, W⟩, L, hm⟩ := bS hm
 have hm := (unc2E hm)
 refine tD (uW _ call79 rfl (fun w ho => cBitsMul _ [] (IntKind.wrap .u64 (l4.length : Int)) (IntKind.wrap .u64 x5) aj W L) (fun _ _ _ h => h.2.symm)) ?_
 rintro _ _ ⟨⟨_, rfl, _⟩, rfl⟩
 refine mV rfl<|tS (st_extract rfl rfl)<|tS (st_extract rfl rfl)<|aS rfl<|aS rfl<|Te<|Cs ?_
 obtain ⟨ak, ac, ad⟩ := bS hm
 refine Cj (fun u e' hp' => [(0, sv A1 l4 c2), (6, .int .u64 (W)), (26, bv ak)] = e' ∧ R = hp' ∧ b.Le u) ?_ ?_
 have hm := ac
 refine Cg<|mV rfl ?_
 refine Tb rfl (q5 rfl rfl) (fun q => ?_) (fun q => ?_)
 rw [if_pos q] at hm
 refine mV rfl<|nO<|nO<|tS (pT rfl rfl)<|Tn ?_
 obtain rfl := o1 hm
 exact jJ ⟨rfl, rfl, lr⟩
 rw [if_neg q] at hm
 refine mV rfl<|yS<|mV rfl<|yS<|tS (q5 rfl rfl)<|tS (pF rfl rfl)<|Tn ?_
 obtain rfl := o1 hm
 exact jJ ⟨rfl, rfl, lr⟩
 rintro u _ _ ⟨rfl, rfl, x⟩
 have hm := ad
 refine cB hm rfl (fun hm => ?_) fun hm => ?_
 cases hm
 refine Ck<|Xn<|Cr<|mV rfl<|tS (st_conv rfl int145_u64 int3_i64) ?_
 obtain ⟨o, p, hm⟩ := bS hm
 have p := mkLen_some p
 refine tD (u_mkOS (r := rI) [] R [iv 0] 0 o rfl p.1 rfl rfl sl49 inf3 rfl rfl rfl (by decide) rfl p.2.1 p.2.2) ?_
 rintro _ _ ⟨aC, rfl, X⟩
 obtain ⟨c, d, rfl, _⟩ := X.form
 refine aS rfl<|Te<|Cr<|mV rfl<|mV rfl ?_
 obtain ⟨O, al, am⟩ := rd_src (h3.le x)
 refine tD (u_copyI (r := rI) (m := l4) (show (0 : Int) = ((0 : Nat) : Int) from rfl) rfl [] R O rfl sl49 rfl rfl (subA_zero _ _ _).symm (Nat.sub_zero _).symm rfl (Nat.zero_le _) (Nat.le_refl _) X rfl (fun w ho => al.old ho) am) ?_
 rintro _ _ ⟨rfl, ae, rfl, an⟩
 refine Tr 7 rfl (v' := .slice c (cpyI (List.replicate o (0 : Int)) 0 ((List.replicate o (0 : Int)).length : Int) l4).length d) (by rw [(cpyI_length (show (0 : Int) = ((0 : Nat) : Int) from rfl) rfl (Nat.zero_le _) (Nat.le_refl _))])<|aS rfl<|Te ?_
 obtain ⟨y, af, ag⟩ := bS hm
 refine Cj (fun D e' hp' => ∃ j, [(7, sv c y d)] = e' ∧ (j ++ R) = hp' ∧ u.Le D ∧ OS 3 (OT.fr rI) D.w (sv c y d) y j ∧ y.length = o) ?_ ?_
 have hm := af
 refine Cb<|lL (unc2 fun E a => fun F e' hp' => ∃ k, [(7, sv c a d), (8, iv E)] = e' ∧ (k ++ R) = hp' ∧ u.Le F ∧ OS 3 (OT.fr rI) F.w (sv c a d) a k ∧ a.length = o) hm ⟨ae, rfl, rfl, lr, an, ((cpyI_length (show (0 : Int) = ((0 : Nat) : Int) from rfl) rfl (Nat.zero_le _) (Nat.le_refl _)).trans List.length_replicate)⟩ ?_
 rintro ⟨E, a⟩ F _ _ aD ⟨k, rfl, rfl, z, i, A⟩ e B
 unfold mSlicesRepeat_L612 at e
 have hm := (unc2E e)
 refine Cs<|Cr<|mV rfl<|mV rfl<|tS (sE rfl sl49)<|tS (q3 rfl rfl)<|Te ?_
 refine cI hm rfl (fun hm => ?_) fun hm => ?_
 refine Ck<|Xn<|Cb ?_
 obtain ⟨aF, ao, hm⟩ := bS hm
 obtain ⟨Y, aq, hm⟩ := bS hm
 obtain ⟨_, G, hm⟩ := bS hm
 refine Di mixed (.refl _)<|E0 0 rfl (sM rfl)<|E0 1 rfl (sM rfl)<|E0 2 rfl (sM rfl) ?_
 obtain ⟨ar, au, n, s, f, g, H⟩ := cutS_some ao
 have av := OS.lc i
 refine E0 3 rfl (H ▸ st_part (l := a) ar au rfl (.inr ⟨_, _, _, rfl, rfl, n⟩) (.inl ⟨rfl, by omega⟩) f g av sl49)<|E0 4 rfl (sM rfl)<|E0 5 rfl (sM rfl) ?_
 obtain ⟨Z, aa, aE, ah, I, J, K⟩ := cutS_some aq
 have aw := OS.lc i
 refine E0 6 rfl (K ▸ st_part (l := a) Z aa rfl (.inl ⟨rfl, by omega⟩) (.inr ⟨_, _, _, rfl, rfl, ah⟩) I J aw sl49)<|Eo ?_
 obtain ⟨S, ax, ab⟩ := rd_own i (List.sublist_append_left _ _)
 have ay := OS.lc i
 refine Da [7] (by kernel_rfl) rfl ?_
 refine Rd2 lr rfl rfl (u_copyI (r := rI) (m := Y) n s [] R ((S.take aa).drop Z) rfl sl49 rfl rfl rfl (cut_len H f g) rfl f g i rfl (fun w ho => rd_part rfl I J ay (ax w ho) ⟨_, ab⟩) (cut_all K ab)) ?_ ?_
 rintro _ _ ⟨rfl, ai, rfl, az⟩
 refine ⟨.inl (by kernel_rfl), ?_⟩
 refine d_resp 7 rfl (v' := .slice c (cpyI a E (a.length : Int) Y).length d) (by rw [(cpyI_length n s f g)]) ?_
 have G := (kS G).2
 refine El lr<|E0 8 rfl (sa rfl rfl G)<|E0 9 rfl (sA rfl)<|Eo<|Dd (by kernel_rfl)<|Xm ?_
 exact jM hm ⟨ai, rfl, rfl, (z), az, ((cpyI_length n s f g).trans A)⟩
 exact Rn
 refine Ce<|Xe<|Xe<|Xo ?_
 have hm := congrArg some (B _ (Option.some.inj hm).symm)
 obtain rfl := o1 hm
 exact jJ ⟨k, rfl, rfl, z, i, A⟩
 rintro D _ _ ⟨j, rfl, rfl, T, aA, aB⟩
 have hm := ag
 refine Cr<|mV rfl<|aS rfl<|Te<|Ct ?_
 obtain rfl := o1 hm
 exact rO ⟨c, d, j, rfl, rfl, aA⟩ (x.trans T)

set_option maxRecDepth 20000 in
theorem cSlicesCollect (b : Base) (R : Hp) (i) (j : Value) (p : IterV Tryd.prog b j (i.map (fun x : GuideRide => (.agg #[iv x.Train, iv x.On, iv x.Off] : Value)))) (a) (hm : mSlicesCollect i = some a):
    CallsG Tryd.prog 53 [j] b (R) (fun v b' hp' => ∃ g h c, sv g a h = v ∧ (c ++ R) = hp' ∧ OS 86 (OT.fr rGuideRide) b'.w (sv g a h) a c) := by
 refine fE 5 Tryd.func53 rfl Tryd.ntmps53 rfl ?_
 unfold mSlicesCollect at hm
 refine Cr<|aS rfl<|Te<|Cr<|mV rfl ?_
 obtain ⟨k, e, hm⟩ := bS hm
 refine t_out1 [] [] [] R rfl<|Tg _ rfl call80 rfl (cSlicesAppendSeq _ _ i [] j none 0 [] p (OS.nil (el := 86) (o := (OT.fr rGuideRide)) (A := none)) k e) ?_
 rintro _ q _ f ⟨l, m, d, rfl, rfl, n⟩
 refine t_in1 [] [] d R rfl<|aS rfl<|Te<|Ct ?_
 obtain rfl := o1 hm
 exact rO ⟨l, m, d, rfl, rfl, n⟩ f

set_option maxRecDepth 20000 in
theorem cGuideReach (b : Base) (R : Hp) (hG : GOn GT b) (s1 : ApiDay) (x8 x9 X A2 c3 A5 c6) (h4 : FZ rApiTrain b.w A2 c3 s1.Trains) (h7 : FZ (RT.list rI) b.w A5 c6 s1.Turns) (dQ bT) (hm : mGuideReach s1 x8 x9 X = some (dQ, bT)):
    CallsG Tryd.prog 20 [.agg #[sv A2 s1.Trains c3, sv A5 s1.Turns c6], iv x8, iv x9, iv X] b (R) (fun v b' hp' => ∃ dR dS cD, .tuple #[sv dR bT dS, iv dQ] = v ∧ (cD ++ R) = hp' ∧ OS 3 (OT.fr rI) b'.w (sv dR bT dS) bT cD) := by
 refine fE 92 Tryd.func20 rfl Tryd.ntmps20 rfl ?_
 unfold mGuideReach at hm
 refine Cr<|tD (uB _ rfl rfl) ?_
 rintro _ _ ⟨kq, rfl, rfl⟩
 refine aS rfl<|aS rfl<|Te<|Cs<|Cr<|tS (sD (vs := [_, _]) 0 2 rfl agg25 rfl rfl rfl)<|mV rfl ?_
 obtain ⟨hd, dT, hm⟩ := bS hm
 refine tD (uW _ call49 rfl (fun w ho => cGuideCheckLeast _ [] ((hG.le lr).old ho) s1 X A2 c3 A5 c6 (h4.old ho) (h7.old ho) hd dT) (fun _ _ _ h => h.2.symm)) ?_
 rintro _ _ ⟨⟨_, rfl, _⟩, rfl⟩
 refine aS rfl<|Te<|Cr<|mV rfl<|tS (q2 rfl rfl)<|Te ?_
 refine cI hm rfl (fun hm => ?_) fun hm => ?_
 refine Cr<|mV rfl<|aS rfl<|aS rfl<|Te<|Ct<|Xr ?_
 obtain ⟨rfl, rfl⟩ := some2 hm
 exact rT ⟨none, 0, [], rfl, rfl, OS.nil⟩ lr
 refine Ck<|Xn<|Cs<|Cb<|Cr<|mV rfl ?_
 obtain ⟨he, dU, hm⟩ := bS hm
 refine tD (uW _ call50 rfl (fun w ho => cGuideWithin _ [] x8 0 11 he dU) (fun _ _ _ h => h.2.symm)) ?_
 rintro _ _ ⟨⟨_, rfl, _⟩, rfl⟩
 refine tS (sn2 rfl)<|aS rfl<|Te ?_
 refine cM hm rfl (fun hm => ?_) fun hm => ?_
 refine Cr<|aS rfl<|aS rfl<|Te<|Ct<|Xb<|Xr ?_
 obtain ⟨rfl, rfl⟩ := some2 hm
 exact rT ⟨none, 0, [], rfl, rfl, OS.nil⟩ lr
 refine Cr<|mV rfl ?_
 obtain ⟨hf, dV, hm⟩ := bS hm
 refine tD (uW _ call50 rfl (fun w ho => cGuideWithin _ [] x9 0 28800 hf dV) (fun _ _ _ h => h.2.symm)) ?_
 rintro _ _ ⟨⟨_, rfl, _⟩, rfl⟩
 refine tS (sn2 rfl)<|aS rfl<|Te ?_
 refine cM hm rfl (fun hm => ?_) fun hm => ?_
 refine Cr<|aS rfl<|aS rfl<|Te<|Ct<|Xb<|Xr ?_
 obtain ⟨rfl, rfl⟩ := some2 hm
 exact rT ⟨none, 0, [], rfl, rfl, OS.nil⟩ lr
 refine Ck<|Xm<|Xn<|Cr<|tS (sD (vs := [_, _]) 0 2 rfl agg25 rfl rfl rfl)<|mV rfl<|tS (sB (v := .agg #[sv A2 s1.Trains c3, sv A5 s1.Turns c6, iv X]) [(0, .agg #[sv A2 s1.Trains c3, sv A5 s1.Turns c6]), (1, iv X)] rfl (fun _ => by kernel_rfl))<|tD (uA [sn, sn, iv 0] zero91 rfl) ?_
 rintro _ _ ⟨d, rfl, rfl⟩
 refine tD (uN (vs := [_, _, _]) 0 3 rfl rfl rfl siz91 rfl (mc rfl (mc rfl (mc rfl mn))) rfl (by simp)) ?_
 rintro _ _ rfl
 refine Te<|Cr<|tD (u_bslice (el := 3) [(0, iv ((-1)))] [iv ((-1))] rfl (fun _ => by kernel_rfl)) ?_
 rintro _ _ ⟨aj, rfl, rfl⟩
 refine t_seg 0 [_, _] R rfl rfl ?_
 have hg : OS 3 (OT.fr rI) b.w (.slice (some ⟨aj, 0, none⟩) 1 1) [(-1)] [(aj, Cl 3 [iv ((-1))])] := OS.lit [[iv ((-1))]] rfl ⟨rfl, trivial⟩ rfl (by decide)
 obtain ⟨cv, dW, hm⟩ := bS hm
 refine tD (u_callWF [_, _] ([(aj, Cl 3 [iv ((-1))])] ++ R) _ rfl call51 rfl (fun w ho => cSlicesRepeat _ [] [(-1)] 12 (some ⟨aj, 0, none⟩) 1 (OS.now (o := (OT.fr rI)) (l := [(-1)]) (hs := [(aj, Cl 3 [iv ((-1))])]) hg ho (.cons _ (.cons _ (List.sublist_append_left _ _)))) cv dW)) ?_
 rintro _ _ ⟨_, _, rfl, cw, cx, x, rfl, fO, hi⟩
 obtain rfl := List.append_cancel_right fO
 have hj := flat_fz (w' := b.w) (fun _ _ _ _ h => h) hi
 refine aS rfl<|Te<|Cs ?_
 obtain ⟨⟨hk, hl, hn, hq⟩, fP, fQ⟩ := bS hm
 refine Cj (fun au e' hp' => ∃ f bf g e i c k a, [(1, iv x8), (2, iv x9), (11, pb d), (12, sv cw cv cx), (42, .agg #[.map (some f), .map (some g), .map (some i), .map (some k)]), (43, iv 0)] = e' ∧ (d, Cl 91 [sv A2 s1.Trains c3, sv A5 s1.Turns c6, iv X]) :: (x ++ (bf ++ (e ++ (c ++ (a ++ R))))) = hp' ∧ b.Le au ∧ OM rGuidePlace (OT.fr RT.bool) true false au.w f hk bf ∧ OM rGuidePlace (OT.fr RT.bool) true false au.w g hl e ∧ OM rGuidePlace (OT.fr RT.bool) true false au.w i hn c ∧ OM rGuidePlace (OT.fr RT.bool) true false au.w k hq a) ?_ ?_
 have hm := fP
 obtain ⟨dX, dY, hm⟩ := bS hm
 obtain ⟨cy, dZ, hm⟩ := bS hm
 obtain ⟨⟨hr, ht, hv, hw⟩, d0, hm⟩ := bS hm
 have hm := (unc4E hm)
 refine Di mixed (.cons_cons _ (.cons_cons _ (sp x (sp [(aj, Cl 3 [iv ((-1))])] (.refl _)))))<|Es 0 rfl (sD (vs := [_, _, _]) 0 3 rfl agg91 rfl rfl rfl)<|Es 1 rfl (sD (vs := [_, _, _]) 0 3 rfl agg91 rfl rfl rfl)<|E0 2 rfl (sM rfl)<|E0 3 rfl (sM rfl)<|E0 7 rfl (sM rfl)<|Eo<|Da [4] (by kernel_rfl) rfl ?_
 refine Rg lr rfl rfl _ call54 rfl (cGuideNetRides _ _ (⟨s1, X⟩ : GuideNet) x8 x9 (-1) A2 c3 A5 c6 h4 h7 dX dY) ?_ ?_
 rintro _ kr _ av ⟨hx, rfl, rfl, hy⟩
 refine iR<|Da [5] (by kernel_rfl) rfl ?_
 refine Rg av rfl rfl _ call53 rfl (cSlicesCollect _ _ dX hx hy cy dZ) ?_ ?_
 rintro _ ks _ aI ⟨hz, hA, cE, rfl, rfl, hB⟩
 refine iR<|d_in1 [] [_, _] cE (x ++ ([(aj, Cl 3 [iv ((-1))])] ++ R)) rfl<|d_frz [_, _] cE (x ++ ([(aj, Cl 3 [iv ((-1))])] ++ R)) rfl ?_
 intro kt aw fR
 have hC := OS.frz (l := cy) hB aw.cells fR
 refine Da [6] (by kernel_rfl) rfl ?_
 refine Rg (av.trans (aI.trans aw)) rfl rfl _ call52 rfl (cGuideNetEnds _ _ (⟨s1, X⟩ : GuideNet) cy A2 c3 A5 c6 hz hA (h4.le (av.trans (aI.trans aw))) (h7.le (av.trans (aI.trans aw))) hC hr ht hv hw d0) ?_ ?_
 rintro _ ku _ d1 ⟨hD, cG, hE, cH, hF, cJ, hH, cK, rfl, rfl, hI, hJ, hK, hL⟩
 refine iR<|d_in4 [] [_, _] cG cH cJ cK (x ++ ([(aj, Cl 3 [iv ((-1))])] ++ R)) rfl<|Dd (by kernel_rfl) ?_
 obtain ⟨rfl, rfl, rfl, rfl⟩ := some4 hm
 exact jJ ⟨hD, cG, hE, cH, hF, cJ, hH, cK, rfl, rfl, (av.trans (aI.trans (aw.trans d1))), hI, hJ, hK, hL⟩
 exact Rn
 exact Rn
 exact Rn
 rintro au _ _ ⟨f, bf, g, e, i, c, k, a, rfl, rfl, af, hM, hN, hO, hP⟩
 have hm := (unc4E fQ)
 refine Cb<|c_unroll<|Cr<|tS (lT rfl rfl (by omega))<|Te<|Cs<|c_cond_t rfl<|Ck<|Xn ?_
 obtain ⟨bU, fS, fT⟩ := bS hm
 refine Cj (fun bq e' hp' => ∃ br bs F, [(1, iv x8), (2, iv x9), (11, pb d), (12, sv br bU bs), (42, .agg #[.map (some f), .map (some g), .map (some i), .map (some k)]), (43, iv 0)] = e' ∧ (d, Cl 91 [sv A2 s1.Trains c3, sv A5 s1.Turns c6, iv X]) :: (F ++ (e ++ (c ++ (a ++ R)))) = hp' ∧ au.Le bq ∧ OS 3 (OT.fr rI) bq.w (sv br bU bs) bU F) ?_ ?_
 have hm := fS
 refine Cb<|Cr<|tS (st_aidx1 (cs := [.map (some f), .map (some g), .map (some i), .map (some k)]) 0 rfl rfl rfl (by decide) rfl arr106 one105)<|aS rfl<|Te<|Cr<|mV rfl<|t_front2 [_] x bf (e ++ (c ++ (a ++ R))) rfl<|tD (u_range [_] (x ++ (e ++ (c ++ (a ++ R)))) rfl hM mapt105 rfl) ?_
 rintro _ _ ⟨a6, aJ, rfl, rfl, hQ⟩
 refine Te<|Cb<|c_front5 [_] aJ x e c a R rfl<|c_front5 [_] a aJ x e c R rfl<|c_front5 [_] c a aJ x e R rfl<|c_front5 [_] e c a aJ x R rfl<|c_front5 [_] x e c a aJ R rfl ?_
 obtain ⟨kv, fU, cO⟩ := bS hm
 refine c_mapM (fun ab => fun bV e' hp' => ∃ ac ad s, [(1, iv x8), (2, iv x9), (11, pb d), (12, sv ac ab ad), (42, .agg #[.map (some f), .map (some g), .map (some i), .map (some k)]), (43, iv 0), (47, pb a6)] = e' ∧ (d, Cl 91 [sv A2 s1.Trains c3, sv A5 s1.Turns c6, iv X]) :: (s ++ (e ++ (c ++ (a ++ R)))) = hp' ∧ au.Le bV ∧ OS 3 (OT.fr rI) bV.w (sv ac ab ad) ab s) fU hQ (e' := [(1, iv x8), (2, iv x9), (11, pb d), (12, sv cw cv cx), (42, .agg #[.map (some f), .map (some g), .map (some i), .map (some k)]), (43, iv 0), (47, pb a6)]) ⟨rfl, rfl, rfl, rfl, rfl, rfl, rfl, trivial⟩ [_] (x ++ (e ++ (c ++ (a ++ R)))) rfl (.refl _) ⟨cw, cx, x, rfl, rfl, lr, (hj.le af)⟩ ?_
 rintro ab kw bV _ _ fV ⟨ac, ad, s, rfl, rfl, ag, aF⟩ iy hR hd9086 hall9087
 refine c_mid [_] fV (s ++ (e ++ (c ++ (a ++ R)))) ?_ rfl
 refine Cr ?_
 refine t_next [_] (s ++ (e ++ (c ++ (a ++ R)))) rfl rfl rfl hR (fun hnil9089 => ?_) (fun d5 kx ky kz A hperm9095 fW d6 => ?_)
 have hend9098 := hd9086 hnil9089
 refine tS (st_extract rfl rfl)<|Te<|Cs<|c_cond_f rfl<|Ce<|Xe<|Xe<|Xo ?_
 rw [hend9098] at cO
 have hm := elimL cO
 refine Xm ?_
 obtain rfl := o1 hm
 exact jJ ⟨ac, ad, s, rfl, rfl, ag, aF⟩
 obtain ⟨kA, aG, id⟩ := hall9087 _ _ hperm9095
 have be := aG
 unfold mGuideReach_L8493 at be
 have hm := be
 refine tS (st_extract rfl rfl)<|Te<|Cs<|c_cond_t rfl<|Ck<|Xn<|Cb<|Cr ?_
 obtain ⟨kB, d7, fX, bW, fY⟩ := MIx.entry Tryd.prog fW
 obtain ⟨_, rfl, ⟨_, _, rfl, rfl, rfl⟩⟩ := fX
 obtain rfl : d7 = bv d5.2 := by have bW : [d7] = [bv d5.2] := bW; injection bW
 refine tS (fY (.cons _ (List.sublist_append_left _ _)) rfl)<|tS (st_extract rfl rfl)<|tD (uA [iv 0, iv 0] zero113 rfl) ?_
 rintro _ _ ⟨kC, rfl, rfl⟩
 refine tD (uN (vs := [_, _]) 0 2 rfl rfl rfl siz113 rfl (mc rfl (mc rfl mn)) rfl (by simp)) ?_
 rintro _ _ rfl
 refine Te ?_
 obtain ⟨⟨bt, d8, aH, d9⟩, fZ, f0⟩ := bS hm
 refine Cj (fun cz e' hp' => ∃ bu, [(1, iv x8), (2, iv x9), (11, pb d), (12, sv ac ab ad), (16, pb bu), (42, .agg #[.map (some f), .map (some g), .map (some i), .map (some k)]), (43, iv 0), (47, pb a6)] = e' ∧ (d, Cl 91 [sv A2 s1.Trains c3, sv A5 s1.Turns c6, iv X]) :: (bu, Cl 83 [iv bt, iv d8, iv aH, iv d9]) :: (s ++ (e ++ (c ++ (a ++ (A ++ R))))) = hp' ∧ bV.Le cz) ?_ ?_
 have hm := fZ
 obtain ⟨kD, hS, hm⟩ := bS hm
 obtain ⟨bX, hT, hm⟩ := bS hm
 refine Di mixed (.refl _)<|E0 0 rfl (sF rfl fld91_0)<|E0 1 rfl (sF rfl fld25_0)<|Es 2 rfl (sL 1 rfl one22 rfl rfl)<|E0 3 rfl (sF rfl fld113_0)<|Es 4 rfl (sL 0 rfl one3 rfl rfl) ?_
 obtain ⟨hU, f1, f2⟩ := iS hS
 obtain ⟨jc, f3, ea, cP, eb⟩ := FZ.get (sz := 4) rfl (by decide) (h4.le (af.trans ag)) f2
 obtain ⟨_, _, rfl, rfl, ⟨_, _, rfl, rfl, ⟨_, _, rfl, ⟨kE, kF, rfl, hV⟩, ⟨kG, kH, rfl, kI⟩⟩⟩⟩ := f3
 refine E0 5 rfl (sI hU rfl rfl f1 eb cP sl22)<|E0 6 rfl (sQ rfl cP fld47_2)<|Es 7 rfl (sO rfl one45 (ea 2 _ rfl))<|E0 8 rfl (sF rfl fld113_1)<|Es 9 rfl (sL 0 rfl one3 rfl rfl) ?_
 obtain ⟨hW, f4, f5⟩ := iS hT
 obtain ⟨jd, f6, ec, cQ, ed⟩ := FZ.get (sz := 4) rfl (by decide) hV f5
 obtain ⟨_, _, rfl, rfl, ⟨_, _, rfl, rfl, ⟨_, _, rfl, rfl, rfl⟩⟩⟩ := f6
 refine E0 10 rfl (sI hW rfl rfl f4 ed cQ sl45)<|Es 11 rfl (sP (vs := [iv bX.Station, iv bX.Track, iv bX.Arr, iv bX.Dep]) 4 rfl agg83 cQ rfl (fun j u hu => ec j u hu))<|Eo<|Da [12] (by kernel_rfl) rfl ?_
 refine Rd2 lr rfl rfl (uA [iv 0, iv 0, iv 0, iv 0] zero83 rfl) ?_ ?_
 rintro _ _ ⟨hX, rfl, rfl⟩
 refine iR<|Da [13] (by kernel_rfl) rfl ?_
 refine Rd2 lr rfl rfl (uN (vs := [_, _, _, _]) 0 4 rfl rfl rfl siz83 rfl (mc rfl (mc rfl (mc rfl (mc rfl mn)))) rfl (by simp)) ?_ ?_
 rintro _ _ rfl
 refine ⟨.inl (by kernel_rfl), ?_⟩
 refine Dd (by kernel_rfl) ?_
 obtain ⟨rfl, rfl, rfl, rfl⟩ := some4 hm
 exact jJ ⟨hX, rfl, rfl, lr⟩
 exact Rn
 exact Rn
 rintro cz _ _ ⟨bu, rfl, rfl, t⟩
 have hm := (unc4E f0)
 obtain ⟨hY, f7, f8⟩ := bS hm
 refine Cj (fun ee e' hp' => [(1, iv x8), (2, iv x9), (11, pb d), (12, sv ac ab ad), (16, pb bu), (42, .agg #[.map (some f), .map (some g), .map (some i), .map (some k)]), (43, iv 0), (47, pb a6), (79, bv hY)] = e' ∧ (d, Cl 91 [sv A2 s1.Trains c3, sv A5 s1.Turns c6, iv X]) :: (bu, Cl 83 [iv bt, iv d8, iv aH, iv d9]) :: (s ++ (e ++ (c ++ (a ++ (A ++ R))))) = hp' ∧ cz.Le ee) ?_ ?_
 have hm := f7
 obtain ⟨hZ, ef, hm⟩ := bS hm
 by_cases bg : hZ < 0
 rw [if_pos bg] at hm
 refine Di mixed (.refl _)<|E0 0 rfl (sM rfl)<|E0 1 rfl (sF rfl fld83_0)<|Es 2 rfl (sL 1 rfl one3 rfl rfl) ?_
 obtain ⟨cA, bY, bZ⟩ := iS ef
 obtain ⟨f9, ga, h0, h1, gb, b0, bw, b1, bx, gc, eg⟩ := OS.get (sz := 1) rfl (by decide) (aF.le t) bZ
 obtain ⟨rfl, rfl⟩ := b0
 refine E0 3 rfl (sI cA rfl rfl bY bx b1 sl49)<|Es 4 rfl (st_load_rd rfl one3 (fun w ho => bw w _ ho (.cons _ (.cons _ (List.sublist_append_left _ _))) 0 _ rfl))<|E0 5 rfl (lT rfl rfl bg)<|E0 6 rfl (sM rfl)<|eN 7 rfl<|eN 8 rfl<|eN 9 rfl<|eN 10 rfl<|eN 11 rfl<|eN 12 rfl ?_
 refine eN 13 rfl<|eN 14 rfl<|E0 15 rfl (pT rfl rfl)<|Eo<|Dd (by kernel_rfl) ?_
 obtain rfl := o1 hm
 exact jJ ⟨rfl, rfl, lr⟩
 rw [if_neg bg] at hm
 obtain ⟨kJ, h2, hm⟩ := bS hm
 refine Di mixed (.refl _)<|E0 0 rfl (sM rfl)<|E0 1 rfl (sF rfl fld83_0)<|Es 2 rfl (sL 1 rfl one3 rfl rfl) ?_
 obtain ⟨cA, bY, bZ⟩ := iS ef
 obtain ⟨f9, ga, h0, h1, gb, b0, bw, b1, bx, gc, eg⟩ := OS.get (sz := 1) rfl (by decide) (aF.le t) bZ
 obtain ⟨rfl, rfl⟩ := b0
 refine E0 3 rfl (sI cA rfl rfl bY bx b1 sl49)<|Es 4 rfl (st_load_rd rfl one3 (fun w ho => bw w _ ho (.cons _ (.cons _ (List.sublist_append_left _ _))) 0 _ rfl))<|E0 5 rfl (lF rfl rfl bg)<|E0 6 rfl (sM rfl)<|Yz 7 70 rfl (sF rfl fld83_2)<|Ey 8 70 rfl (sL 1 rfl one3 rfl rfl)<|Yz 9 70 rfl (sM rfl)<|Yz 10 70 rfl (sF rfl fld83_0)<|Ey 11 70 rfl (sL 1 rfl one3 rfl rfl) ?_
 obtain ⟨h3, gd, ge⟩ := iS h2
 obtain ⟨je, jf, kK, kL, jg, gf, eh, gg, ei, jh, iz⟩ := OS.get (sz := 1) rfl (by decide) (aF.le t) ge
 obtain ⟨rfl, rfl⟩ := gf
 refine Yz 12 70 rfl (sI h3 rfl rfl gd ei gg sl49)<|Ey 13 70 rfl (st_load_rd rfl one3 (fun w ho => eh w _ ho (.cons _ (.cons _ (List.sublist_append_left _ _))) 0 _ rfl))<|Yz 14 70 rfl (q3 rfl rfl)<|E0 15 rfl (pF rfl rfl)<|Eo<|Dd (by kernel_rfl) ?_
 obtain rfl := o1 hm
 exact jJ ⟨rfl, rfl, lr⟩
 rintro ee _ _ ⟨rfl, rfl, G⟩
 have hm := f8
 refine cB hm rfl (fun hm => ?_) fun hm => ?_
 refine Cg<|mV rfl<|tS (sF rfl fld83_0)<|tS (sL 1 rfl one3 rfl rfl)<|tS (sF rfl fld83_2)<|tS (sL 1 rfl one3 rfl rfl) ?_
 obtain ⟨kM, h5, hm⟩ := bS hm
 obtain ⟨h6, cR, cT⟩ := iS h5
 obtain ⟨ji, jj, kN, kO, jk, gh, iA, gi, ej, jl, iB⟩ := OS.get (sz := 1) rfl (by decide) (aF.le (t.trans G)) cT
 obtain ⟨rfl, rfl⟩ := gh
 refine tS (sI h6 rfl rfl cR ej gi sl49)<|tD (uP cR (sz := 1) (a' := aH) rfl [_, _] (e ++ (c ++ (a ++ (A ++ R)))) 0 1 [iv aH] rfl (aF.le (t.trans G)) cT rfl rfl rfl siz3 rfl (mc rfl mn) (fun cs hsj hh => by obtain ⟨rfl, rfl⟩ := hh; exact ⟨by first | decide | exact Nat.le_refl _, rfl, rfl⟩)) ?_
 rintro _ _ ⟨ak, rfl, h8⟩
 refine Tr 12 rfl (v' := .slice ac (put ab bt aH).length ad) (by simp only [put_length])<|Tn<|Xm<|X4 [_, _] ak e c a (A ++ R) rfl<|X4 [_, _] a ak e c (A ++ R) rfl<|X4 [_, _] c a ak e (A ++ R) rfl<|X4 [_, _] e c a ak (A ++ R) rfl<|X5 [_, _] ak e c a A R rfl ?_
 have ek := (ag.trans (t.trans G))
 exact x_mapM (s' := put ab bt aH) [_, _] (ak ++ (e ++ (c ++ (a ++ R)))) rfl hperm9095 (aG.trans (Option.some.inj hm ▸ rfl)) ek (d6.le (t.trans G)) (e' := [(1, iv x8), (2, iv x9), (11, pb d), (12, .slice ac (put ab bt aH).length ad), (42, .agg #[.map (some f), .map (some g), .map (some i), .map (some k)]), (43, iv 0), (47, pb a6)]) ⟨rfl, rfl, rfl, rfl, rfl, rfl, rfl, trivial⟩ (.cons_cons _ (.cons _ (.refl _))) ⟨ac, ad, ak, rfl, rfl, ((ag.trans (t.trans G))), h8⟩
 refine Ck<|Xm<|X4 [_, _] s e c a (A ++ R) rfl<|X4 [_, _] a s e c (A ++ R) rfl<|X4 [_, _] c a s e (A ++ R) rfl<|X4 [_, _] e c a s (A ++ R) rfl<|X5 [_, _] s e c a A R rfl ?_
 have em := (ag.trans (t.trans G))
 exact x_mapM (s' := ab) [_, _] (s ++ (e ++ (c ++ (a ++ R)))) rfl hperm9095 (aG.trans (Option.some.inj hm ▸ rfl)) em (d6.le (t.trans G)) (e' := [(1, iv x8), (2, iv x9), (11, pb d), (12, sv ac ab ad), (42, .agg #[.map (some f), .map (some g), .map (some i), .map (some k)]), (43, iv 0), (47, pb a6)]) ⟨rfl, rfl, rfl, rfl, rfl, rfl, rfl, trivial⟩ (.cons_cons _ (.cons _ (.refl _))) ⟨ac, ad, s, rfl, rfl, ((ag.trans (t.trans G))), (aF.le (t.trans G))⟩
 rintro bq _ _ ⟨br, bs, F, rfl, rfl, ae, h9⟩
 have hm := fT
 refine Cg ?_
 obtain ⟨_, cC, hm⟩ := bS hm
 have cC := (kS cC).2
 refine tS (sa rfl rfl cC)<|mV rfl<|Tn<|x_unroll<|Cr<|tS (lT rfl rfl (by omega))<|Te<|Cs<|c_cond_t rfl<|Ck ?_
 refine Xn ?_
 obtain ⟨bh, en, eo⟩ := bS hm
 refine Cj (fun aK e' hp' => ∃ aL aM E, [(1, iv x8), (2, iv x9), (11, pb d), (12, sv aL bh aM), (42, .agg #[.map (some f), .map (some g), .map (some i), .map (some k)]), (43, iv 1)] = e' ∧ (d, Cl 91 [sv A2 s1.Trains c3, sv A5 s1.Turns c6, iv X]) :: (E ++ (c ++ (a ++ R))) = hp' ∧ bq.Le aK ∧ OS 3 (OT.fr rI) aK.w (sv aL bh aM) bh E) ?_ ?_
 have hm := en
 refine Cb<|Cr<|tS (st_aidx1 (cs := [.map (some f), .map (some g), .map (some i), .map (some k)]) 1 rfl rfl rfl (by decide) rfl arr106 one105)<|aS rfl<|Te<|Cr<|mV rfl<|t_front2 [_] F e (c ++ (a ++ R)) rfl<|tD (u_range [_] (F ++ (c ++ (a ++ R))) rfl (hN.le ae) mapt105 rfl) ?_
 rintro _ _ ⟨aC, aN, rfl, rfl, gj⟩
 refine Te<|Cb<|c_front4 [_] aN F c a R rfl<|c_front4 [_] a aN F c R rfl<|c_front4 [_] c a aN F R rfl<|c_front4 [_] F c a aN R rfl ?_
 obtain ⟨jm, ep, cc⟩ := bS hm
 refine c_mapM (fun H => fun bi e' hp' => ∃ I J q, [(1, iv x8), (2, iv x9), (11, pb d), (12, sv I H J), (42, .agg #[.map (some f), .map (some g), .map (some i), .map (some k)]), (43, iv 1), (47, pb aC)] = e' ∧ (d, Cl 91 [sv A2 s1.Trains c3, sv A5 s1.Turns c6, iv X]) :: (q ++ (c ++ (a ++ R))) = hp' ∧ bq.Le bi ∧ OS 3 (OT.fr rI) bi.w (sv I H J) H q) ep gj (e' := [(1, iv x8), (2, iv x9), (11, pb d), (12, sv br bU bs), (42, .agg #[.map (some f), .map (some g), .map (some i), .map (some k)]), (43, iv 1), (47, pb aC)]) ⟨rfl, rfl, rfl, rfl, rfl, rfl, rfl, trivial⟩ [_] (F ++ (c ++ (a ++ R))) rfl (.refl _) ⟨br, bs, F, rfl, rfl, lr, h9⟩ ?_
 rintro H jn bi _ _ eq ⟨I, J, q, rfl, rfl, Y, al⟩ ie gk hd10878 hall10879
 refine c_mid [_] eq (q ++ (c ++ (a ++ R))) ?_ rfl
 refine Cr ?_
 refine t_next [_] (q ++ (c ++ (a ++ R))) rfl rfl rfl gk (fun hnil10881 => ?_) (fun cU jo jp jq y hperm10887 er cV => ?_)
 have hend10890 := hd10878 hnil10881
 refine tS (st_extract rfl rfl)<|Te<|Cs<|c_cond_f rfl<|Ce<|Xe<|Xe<|Xo ?_
 rw [hend10890] at cc
 have hm := elimL cc
 refine Xm ?_
 obtain rfl := o1 hm
 exact jJ ⟨I, J, q, rfl, rfl, Y, al⟩
 obtain ⟨jr, ax, ia⟩ := hall10879 _ _ hperm10887
 have aO := ax
 unfold mGuideReach_L10285 at aO
 have hm := aO
 refine tS (st_extract rfl rfl)<|Te<|Cs<|c_cond_t rfl<|Ck<|Xn<|Cb<|Cr ?_
 obtain ⟨js, cW, es, bz, et⟩ := MIx.entry Tryd.prog er
 obtain ⟨_, rfl, ⟨_, _, rfl, rfl, rfl⟩⟩ := es
 obtain rfl : cW = bv cU.2 := by have bz : [cW] = [bv cU.2] := bz; injection bz
 refine tS (et (.cons _ (List.sublist_append_left _ _)) rfl)<|tS (st_extract rfl rfl)<|tD (uA [iv 0, iv 0] zero113 rfl) ?_
 rintro _ _ ⟨jt, rfl, rfl⟩
 refine tD (uN (vs := [_, _]) 0 2 rfl rfl rfl siz113 rfl (mc rfl (mc rfl mn)) rfl (by simp)) ?_
 rintro _ _ rfl
 refine Te ?_
 obtain ⟨⟨aP, cX, am, cY⟩, eu, ev⟩ := bS hm
 refine Cj (fun b2 e' hp' => ∃ aQ, [(1, iv x8), (2, iv x9), (11, pb d), (12, sv I H J), (16, pb aQ), (42, .agg #[.map (some f), .map (some g), .map (some i), .map (some k)]), (43, iv 1), (47, pb aC)] = e' ∧ (d, Cl 91 [sv A2 s1.Trains c3, sv A5 s1.Turns c6, iv X]) :: (aQ, Cl 83 [iv aP, iv cX, iv am, iv cY]) :: (q ++ (c ++ (a ++ (y ++ R)))) = hp' ∧ bi.Le b2) ?_ ?_
 have hm := eu
 obtain ⟨ju, gl, hm⟩ := bS hm
 obtain ⟨bj, gm, hm⟩ := bS hm
 refine Di mixed (.refl _)<|E0 0 rfl (sF rfl fld91_0)<|E0 1 rfl (sF rfl fld25_0)<|Es 2 rfl (sL 1 rfl one22 rfl rfl)<|E0 3 rfl (sF rfl fld113_0)<|Es 4 rfl (sL 0 rfl one3 rfl rfl) ?_
 obtain ⟨gn, ew, ex⟩ := iS gl
 obtain ⟨iC, ey, di, cd, dj⟩ := FZ.get (sz := 4) rfl (by decide) (h4.le (af.trans (ae.trans Y))) ex
 obtain ⟨_, _, rfl, rfl, ⟨_, _, rfl, rfl, ⟨_, _, rfl, ⟨jv, jw, rfl, go⟩, ⟨jx, jy, rfl, jz⟩⟩⟩⟩ := ey
 refine E0 5 rfl (sI gn rfl rfl ew dj cd sl22)<|E0 6 rfl (sQ rfl cd fld47_2)<|Es 7 rfl (sO rfl one45 (di 2 _ rfl))<|E0 8 rfl (sF rfl fld113_1)<|Es 9 rfl (sL 0 rfl one3 rfl rfl) ?_
 obtain ⟨gp, ez, eA⟩ := iS gm
 obtain ⟨iD, eB, dk, ce, dl⟩ := FZ.get (sz := 4) rfl (by decide) go eA
 obtain ⟨_, _, rfl, rfl, ⟨_, _, rfl, rfl, ⟨_, _, rfl, rfl, rfl⟩⟩⟩ := eB
 refine E0 10 rfl (sI gp rfl rfl ez dl ce sl45)<|Es 11 rfl (sP (vs := [iv bj.Station, iv bj.Track, iv bj.Arr, iv bj.Dep]) 4 rfl agg83 ce rfl (fun j u hu => dk j u hu))<|Eo<|Da [12] (by kernel_rfl) rfl ?_
 refine Rd2 lr rfl rfl (uA [iv 0, iv 0, iv 0, iv 0] zero83 rfl) ?_ ?_
 rintro _ _ ⟨gq, rfl, rfl⟩
 refine iR<|Da [13] (by kernel_rfl) rfl ?_
 refine Rd2 lr rfl rfl (uN (vs := [_, _, _, _]) 0 4 rfl rfl rfl siz83 rfl (mc rfl (mc rfl (mc rfl (mc rfl mn)))) rfl (by simp)) ?_ ?_
 rintro _ _ rfl
 refine ⟨.inl (by kernel_rfl), ?_⟩
 refine Dd (by kernel_rfl) ?_
 obtain ⟨rfl, rfl, rfl, rfl⟩ := some4 hm
 exact jJ ⟨gq, rfl, rfl, lr⟩
 exact Rn
 exact Rn
 rintro b2 _ _ ⟨aQ, rfl, rfl, m⟩
 have hm := (unc4E ev)
 obtain ⟨gr, eC, eD⟩ := bS hm
 refine Cj (fun cZ e' hp' => [(1, iv x8), (2, iv x9), (11, pb d), (12, sv I H J), (16, pb aQ), (42, .agg #[.map (some f), .map (some g), .map (some i), .map (some k)]), (43, iv 1), (47, pb aC), (79, bv gr)] = e' ∧ (d, Cl 91 [sv A2 s1.Trains c3, sv A5 s1.Turns c6, iv X]) :: (aQ, Cl 83 [iv aP, iv cX, iv am, iv cY]) :: (q ++ (c ++ (a ++ (y ++ R)))) = hp' ∧ b2.Le cZ) ?_ ?_
 have hm := eC
 obtain ⟨gs, c0, hm⟩ := bS hm
 by_cases aR : gs < 0
 rw [if_pos aR] at hm
 refine Di mixed (.refl _)<|E0 0 rfl (sM rfl)<|E0 1 rfl (sF rfl fld83_0)<|Es 2 rfl (sL 1 rfl one3 rfl rfl) ?_
 obtain ⟨b3, bA, bB⟩ := iS c0
 obtain ⟨eE, eG, gt, gu, eH, bC, a7, bD, a8, eI, dm⟩ := OS.get (sz := 1) rfl (by decide) (al.le m) bB
 obtain ⟨rfl, rfl⟩ := bC
 refine E0 3 rfl (sI b3 rfl rfl bA a8 bD sl49)<|Es 4 rfl (st_load_rd rfl one3 (fun w ho => a7 w _ ho (.cons _ (.cons _ (List.sublist_append_left _ _))) 0 _ rfl))<|E0 5 rfl (lT rfl rfl aR)<|E0 6 rfl (sM rfl)<|eN 7 rfl<|eN 8 rfl<|eN 9 rfl<|eN 10 rfl<|eN 11 rfl<|eN 12 rfl ?_
 refine eN 13 rfl<|eN 14 rfl<|E0 15 rfl (pT rfl rfl)<|Eo<|Dd (by kernel_rfl) ?_
 obtain rfl := o1 hm
 exact jJ ⟨rfl, rfl, lr⟩
 rw [if_neg aR] at hm
 obtain ⟨jA, gv, hm⟩ := bS hm
 refine Di mixed (.refl _)<|E0 0 rfl (sM rfl)<|E0 1 rfl (sF rfl fld83_0)<|Es 2 rfl (sL 1 rfl one3 rfl rfl) ?_
 obtain ⟨b3, bA, bB⟩ := iS c0
 obtain ⟨eE, eG, gt, gu, eH, bC, a7, bD, a8, eI, dm⟩ := OS.get (sz := 1) rfl (by decide) (al.le m) bB
 obtain ⟨rfl, rfl⟩ := bC
 refine E0 3 rfl (sI b3 rfl rfl bA a8 bD sl49)<|Es 4 rfl (st_load_rd rfl one3 (fun w ho => a7 w _ ho (.cons _ (.cons _ (List.sublist_append_left _ _))) 0 _ rfl))<|E0 5 rfl (lF rfl rfl aR)<|E0 6 rfl (sM rfl)<|Yz 7 70 rfl (sF rfl fld83_2)<|Ey 8 70 rfl (sL 1 rfl one3 rfl rfl)<|Yz 9 70 rfl (sM rfl)<|Yz 10 70 rfl (sF rfl fld83_0)<|Ey 11 70 rfl (sL 1 rfl one3 rfl rfl) ?_
 obtain ⟨gw, eJ, eK⟩ := iS gv
 obtain ⟨iE, iF, jB, jC, iG, eL, dn, eM, dp, iH, ig⟩ := OS.get (sz := 1) rfl (by decide) (al.le m) eK
 obtain ⟨rfl, rfl⟩ := eL
 refine Yz 12 70 rfl (sI gw rfl rfl eJ dp eM sl49)<|Ey 13 70 rfl (st_load_rd rfl one3 (fun w ho => dn w _ ho (.cons _ (.cons _ (List.sublist_append_left _ _))) 0 _ rfl))<|Yz 14 70 rfl (q3 rfl rfl)<|E0 15 rfl (pF rfl rfl)<|Eo<|Dd (by kernel_rfl) ?_
 obtain rfl := o1 hm
 exact jJ ⟨rfl, rfl, lr⟩
 rintro cZ _ _ ⟨rfl, rfl, B⟩
 have hm := eD
 refine cB hm rfl (fun hm => ?_) fun hm => ?_
 refine Cg<|mV rfl<|tS (sF rfl fld83_0)<|tS (sL 1 rfl one3 rfl rfl)<|tS (sF rfl fld83_2)<|tS (sL 1 rfl one3 rfl rfl) ?_
 obtain ⟨jD, gx, hm⟩ := bS hm
 obtain ⟨gy, cf, cg⟩ := iS gx
 obtain ⟨iI, iJ, jE, jF, iK, eO, ii, eP, dq, iL, ij⟩ := OS.get (sz := 1) rfl (by decide) (al.le (m.trans B)) cg
 obtain ⟨rfl, rfl⟩ := eO
 refine tS (sI gy rfl rfl cf dq eP sl49)<|tD (uP cf (sz := 1) (a' := am) rfl [_, _] (c ++ (a ++ (y ++ R))) 0 1 [iv am] rfl (al.le (m.trans B)) cg rfl rfl rfl siz3 rfl (mc rfl mn) (fun cs hsj hh => by obtain ⟨rfl, rfl⟩ := hh; exact ⟨by first | decide | exact Nat.le_refl _, rfl, rfl⟩)) ?_
 rintro _ _ ⟨ah, rfl, gz⟩
 refine Tr 12 rfl (v' := .slice I (put H aP am).length J) (by simp only [put_length])<|Tn<|Xm<|X3 [_, _] ah c a (y ++ R) rfl<|X3 [_, _] a ah c (y ++ R) rfl<|X3 [_, _] c a ah (y ++ R) rfl<|X4 [_, _] ah c a y R rfl ?_
 have dr := (Y.trans (m.trans B))
 exact x_mapM (s' := put H aP am) [_, _] (ah ++ (c ++ (a ++ R))) rfl hperm10887 (ax.trans (Option.some.inj hm ▸ rfl)) dr (cV.le (m.trans B)) (e' := [(1, iv x8), (2, iv x9), (11, pb d), (12, .slice I (put H aP am).length J), (42, .agg #[.map (some f), .map (some g), .map (some i), .map (some k)]), (43, iv 1), (47, pb aC)]) ⟨rfl, rfl, rfl, rfl, rfl, rfl, rfl, trivial⟩ (.cons_cons _ (.cons _ (.refl _))) ⟨I, J, ah, rfl, rfl, ((Y.trans (m.trans B))), gz⟩
 refine Ck<|Xm<|X3 [_, _] q c a (y ++ R) rfl<|X3 [_, _] a q c (y ++ R) rfl<|X3 [_, _] c a q (y ++ R) rfl<|X4 [_, _] q c a y R rfl ?_
 have ds := (Y.trans (m.trans B))
 exact x_mapM (s' := H) [_, _] (q ++ (c ++ (a ++ R))) rfl hperm10887 (ax.trans (Option.some.inj hm ▸ rfl)) ds (cV.le (m.trans B)) (e' := [(1, iv x8), (2, iv x9), (11, pb d), (12, sv I H J), (42, .agg #[.map (some f), .map (some g), .map (some i), .map (some k)]), (43, iv 1), (47, pb aC)]) ⟨rfl, rfl, rfl, rfl, rfl, rfl, rfl, trivial⟩ (.cons_cons _ (.cons _ (.refl _))) ⟨I, J, q, rfl, rfl, ((Y.trans (m.trans B))), (al.le (m.trans B))⟩
 rintro aK _ _ ⟨aL, aM, E, rfl, rfl, ai, gA⟩
 have hm := eo
 refine Cg ?_
 obtain ⟨_, b4, hm⟩ := bS hm
 have b4 := (kS b4).2
 refine tS (sa rfl rfl b4)<|mV rfl<|Tn<|x_unroll<|Cr<|tS (lT rfl rfl (by omega))<|Te<|Cs<|c_cond_t rfl<|Ck ?_
 refine Xn ?_
 obtain ⟨bk, eQ, eR⟩ := bS hm
 refine Cj (fun aT e' hp' => ∃ aU aV K, [(1, iv x8), (2, iv x9), (11, pb d), (12, sv aU bk aV), (42, .agg #[.map (some f), .map (some g), .map (some i), .map (some k)]), (43, iv 2)] = e' ∧ (d, Cl 91 [sv A2 s1.Trains c3, sv A5 s1.Turns c6, iv X]) :: (K ++ (a ++ R)) = hp' ∧ aK.Le aT ∧ OS 3 (OT.fr rI) aT.w (sv aU bk aV) bk K) ?_ ?_
 have hm := eQ
 refine Cb<|Cr<|tS (st_aidx1 (cs := [.map (some f), .map (some g), .map (some i), .map (some k)]) 2 rfl rfl rfl (by decide) rfl arr106 one105)<|aS rfl<|Te<|Cr<|mV rfl<|t_front2 [_] E c (a ++ R) rfl<|tD (u_range [_] (E ++ (a ++ R)) rfl (hO.le (ae.trans ai)) mapt105 rfl) ?_
 rintro _ _ ⟨aD, bE, rfl, rfl, gB⟩
 refine Te<|Cb<|c_front3 [_] bE E a R rfl<|c_front3 [_] a bE E R rfl<|c_front3 [_] E a bE R rfl ?_
 obtain ⟨jG, eS, ch⟩ := bS hm
 refine c_mapM (fun L => fun bl e' hp' => ∃ O S r, [(1, iv x8), (2, iv x9), (11, pb d), (12, sv O L S), (42, .agg #[.map (some f), .map (some g), .map (some i), .map (some k)]), (43, iv 2), (47, pb aD)] = e' ∧ (d, Cl 91 [sv A2 s1.Trains c3, sv A5 s1.Turns c6, iv X]) :: (r ++ (a ++ R)) = hp' ∧ aK.Le bl ∧ OS 3 (OT.fr rI) bl.w (sv O L S) L r) eS gB (e' := [(1, iv x8), (2, iv x9), (11, pb d), (12, sv aL bh aM), (42, .agg #[.map (some f), .map (some g), .map (some i), .map (some k)]), (43, iv 2), (47, pb aD)]) ⟨rfl, rfl, rfl, rfl, rfl, rfl, rfl, trivial⟩ [_] (E ++ (a ++ R)) rfl (.refl _) ⟨aL, aM, E, rfl, rfl, lr, gA⟩ ?_
 rintro L jH bl _ _ eU ⟨O, S, r, rfl, rfl, Z, an⟩ ik gC hd12670 hall12671
 refine c_mid [_] eU (r ++ (a ++ R)) ?_ rfl
 refine Cr ?_
 refine t_next [_] (r ++ (a ++ R)) rfl rfl rfl gC (fun hnil12673 => ?_) (fun c1 jI jK jL T hperm12679 eV c2 => ?_)
 have hend12682 := hd12670 hnil12673
 refine tS (st_extract rfl rfl)<|Te<|Cs<|c_cond_f rfl<|Ce<|Xe<|Xe<|Xo ?_
 rw [hend12682] at ch
 have hm := elimL ch
 refine Xm ?_
 obtain rfl := o1 hm
 exact jJ ⟨O, S, r, rfl, rfl, Z, an⟩
 obtain ⟨jN, ay, ib⟩ := hall12671 _ _ hperm12679
 have aW := ay
 unfold mGuideReach_L12077 at aW
 have hm := aW
 refine tS (st_extract rfl rfl)<|Te<|Cs<|c_cond_t rfl<|Ck<|Xn<|Cb<|Cr ?_
 obtain ⟨jO, c4, eW, bG, eX⟩ := MIx.entry Tryd.prog eV
 obtain ⟨_, rfl, ⟨_, _, rfl, rfl, rfl⟩⟩ := eW
 obtain rfl : c4 = bv c1.2 := by have bG : [c4] = [bv c1.2] := bG; injection bG
 refine tS (eX (.cons _ (List.sublist_append_left _ _)) rfl)<|tS (st_extract rfl rfl)<|tD (uA [iv 0, iv 0] zero113 rfl) ?_
 rintro _ _ ⟨jP, rfl, rfl⟩
 refine tD (uN (vs := [_, _]) 0 2 rfl rfl rfl siz113 rfl (mc rfl (mc rfl mn)) rfl (by simp)) ?_
 rintro _ _ rfl
 refine Te ?_
 obtain ⟨⟨aX, c5, ao, c7⟩, eY, e0⟩ := bS hm
 refine Cj (fun b5 e' hp' => ∃ aY, [(1, iv x8), (2, iv x9), (11, pb d), (12, sv O L S), (16, pb aY), (42, .agg #[.map (some f), .map (some g), .map (some i), .map (some k)]), (43, iv 2), (47, pb aD)] = e' ∧ (d, Cl 91 [sv A2 s1.Trains c3, sv A5 s1.Turns c6, iv X]) :: (aY, Cl 83 [iv aX, iv c5, iv ao, iv c7]) :: (r ++ (a ++ (T ++ R))) = hp' ∧ bl.Le b5) ?_ ?_
 have hm := eY
 obtain ⟨jQ, gD, hm⟩ := bS hm
 obtain ⟨bm, gE, hm⟩ := bS hm
 refine Di mixed (.refl _)<|E0 0 rfl (sF rfl fld91_0)<|E0 1 rfl (sF rfl fld25_0)<|Es 2 rfl (sL 1 rfl one22 rfl rfl)<|E0 3 rfl (sF rfl fld113_0)<|Es 4 rfl (sL 0 rfl one3 rfl rfl) ?_
 obtain ⟨gF, e1, e2⟩ := iS gD
 obtain ⟨iM, e3, dt, ci, du⟩ := FZ.get (sz := 4) rfl (by decide) (h4.le (af.trans (ae.trans (ai.trans Z)))) e2
 obtain ⟨_, _, rfl, rfl, ⟨_, _, rfl, rfl, ⟨_, _, rfl, ⟨jR, jT, rfl, gG⟩, ⟨jU, jV, rfl, jW⟩⟩⟩⟩ := e3
 refine E0 5 rfl (sI gF rfl rfl e1 du ci sl22)<|E0 6 rfl (sQ rfl ci fld47_2)<|Es 7 rfl (sO rfl one45 (dt 2 _ rfl))<|E0 8 rfl (sF rfl fld113_1)<|Es 9 rfl (sL 0 rfl one3 rfl rfl) ?_
 obtain ⟨gH, e4, e5⟩ := iS gE
 obtain ⟨iN, e6, dv, cj, dw⟩ := FZ.get (sz := 4) rfl (by decide) gG e5
 obtain ⟨_, _, rfl, rfl, ⟨_, _, rfl, rfl, ⟨_, _, rfl, rfl, rfl⟩⟩⟩ := e6
 refine E0 10 rfl (sI gH rfl rfl e4 dw cj sl45)<|Es 11 rfl (sP (vs := [iv bm.Station, iv bm.Track, iv bm.Arr, iv bm.Dep]) 4 rfl agg83 cj rfl (fun j u hu => dv j u hu))<|Eo<|Da [12] (by kernel_rfl) rfl ?_
 refine Rd2 lr rfl rfl (uA [iv 0, iv 0, iv 0, iv 0] zero83 rfl) ?_ ?_
 rintro _ _ ⟨gI, rfl, rfl⟩
 refine iR<|Da [13] (by kernel_rfl) rfl ?_
 refine Rd2 lr rfl rfl (uN (vs := [_, _, _, _]) 0 4 rfl rfl rfl siz83 rfl (mc rfl (mc rfl (mc rfl (mc rfl mn)))) rfl (by simp)) ?_ ?_
 rintro _ _ rfl
 refine ⟨.inl (by kernel_rfl), ?_⟩
 refine Dd (by kernel_rfl) ?_
 obtain ⟨rfl, rfl, rfl, rfl⟩ := some4 hm
 exact jJ ⟨gI, rfl, rfl, lr⟩
 exact Rn
 exact Rn
 rintro b5 _ _ ⟨aY, rfl, rfl, n⟩
 have hm := (unc4E e0)
 obtain ⟨gJ, e7, e8⟩ := bS hm
 refine Cj (fun c8 e' hp' => [(1, iv x8), (2, iv x9), (11, pb d), (12, sv O L S), (16, pb aY), (42, .agg #[.map (some f), .map (some g), .map (some i), .map (some k)]), (43, iv 2), (47, pb aD), (79, bv gJ)] = e' ∧ (d, Cl 91 [sv A2 s1.Trains c3, sv A5 s1.Turns c6, iv X]) :: (aY, Cl 83 [iv aX, iv c5, iv ao, iv c7]) :: (r ++ (a ++ (T ++ R))) = hp' ∧ b5.Le c8) ?_ ?_
 have hm := e7
 obtain ⟨gK, c9, hm⟩ := bS hm
 by_cases aZ : gK < 0
 rw [if_pos aZ] at hm
 refine Di mixed (.refl _)<|E0 0 rfl (sM rfl)<|E0 1 rfl (sF rfl fld83_0)<|Es 2 rfl (sL 1 rfl one3 rfl rfl) ?_
 obtain ⟨b6, bH, bI⟩ := iS c9
 obtain ⟨e9, fa, gL, gM, fb, bJ, a9, bK, ba, fc, dx⟩ := OS.get (sz := 1) rfl (by decide) (an.le n) bI
 obtain ⟨rfl, rfl⟩ := bJ
 refine E0 3 rfl (sI b6 rfl rfl bH ba bK sl49)<|Es 4 rfl (st_load_rd rfl one3 (fun w ho => a9 w _ ho (.cons _ (.cons _ (List.sublist_append_left _ _))) 0 _ rfl))<|E0 5 rfl (lT rfl rfl aZ)<|E0 6 rfl (sM rfl)<|eN 7 rfl<|eN 8 rfl<|eN 9 rfl<|eN 10 rfl<|eN 11 rfl<|eN 12 rfl ?_
 refine eN 13 rfl<|eN 14 rfl<|E0 15 rfl (pT rfl rfl)<|Eo<|Dd (by kernel_rfl) ?_
 obtain rfl := o1 hm
 exact jJ ⟨rfl, rfl, lr⟩
 rw [if_neg aZ] at hm
 obtain ⟨jX, gN, hm⟩ := bS hm
 refine Di mixed (.refl _)<|E0 0 rfl (sM rfl)<|E0 1 rfl (sF rfl fld83_0)<|Es 2 rfl (sL 1 rfl one3 rfl rfl) ?_
 obtain ⟨b6, bH, bI⟩ := iS c9
 obtain ⟨e9, fa, gL, gM, fb, bJ, a9, bK, ba, fc, dx⟩ := OS.get (sz := 1) rfl (by decide) (an.le n) bI
 obtain ⟨rfl, rfl⟩ := bJ
 refine E0 3 rfl (sI b6 rfl rfl bH ba bK sl49)<|Es 4 rfl (st_load_rd rfl one3 (fun w ho => a9 w _ ho (.cons _ (.cons _ (List.sublist_append_left _ _))) 0 _ rfl))<|E0 5 rfl (lF rfl rfl aZ)<|E0 6 rfl (sM rfl)<|Yz 7 70 rfl (sF rfl fld83_2)<|Ey 8 70 rfl (sL 1 rfl one3 rfl rfl)<|Yz 9 70 rfl (sM rfl)<|Yz 10 70 rfl (sF rfl fld83_0)<|Ey 11 70 rfl (sL 1 rfl one3 rfl rfl) ?_
 obtain ⟨gO, fd, fe⟩ := iS gN
 obtain ⟨iO, iP, jY, jZ, iQ, ff, dy, fg, dz, iT, il⟩ := OS.get (sz := 1) rfl (by decide) (an.le n) fe
 obtain ⟨rfl, rfl⟩ := ff
 refine Yz 12 70 rfl (sI gO rfl rfl fd dz fg sl49)<|Ey 13 70 rfl (st_load_rd rfl one3 (fun w ho => dy w _ ho (.cons _ (.cons _ (List.sublist_append_left _ _))) 0 _ rfl))<|Yz 14 70 rfl (q3 rfl rfl)<|E0 15 rfl (pF rfl rfl)<|Eo<|Dd (by kernel_rfl) ?_
 obtain rfl := o1 hm
 exact jJ ⟨rfl, rfl, lr⟩
 rintro c8 _ _ ⟨rfl, rfl, C⟩
 have hm := e8
 refine cB hm rfl (fun hm => ?_) fun hm => ?_
 refine Cg<|mV rfl<|tS (sF rfl fld83_0)<|tS (sL 1 rfl one3 rfl rfl)<|tS (sF rfl fld83_2)<|tS (sL 1 rfl one3 rfl rfl) ?_
 obtain ⟨j0, gP, hm⟩ := bS hm
 obtain ⟨gQ, ck, cl⟩ := iS gP
 obtain ⟨iU, iV, j1, j2, iW, fh, im, fi, dA, iX, io⟩ := OS.get (sz := 1) rfl (by decide) (an.le (n.trans C)) cl
 obtain ⟨rfl, rfl⟩ := fh
 refine tS (sI gQ rfl rfl ck dA fi sl49)<|tD (uP ck (sz := 1) (a' := ao) rfl [_, _] (a ++ (T ++ R)) 0 1 [iv ao] rfl (an.le (n.trans C)) cl rfl rfl rfl siz3 rfl (mc rfl mn) (fun cs hsj hh => by obtain ⟨rfl, rfl⟩ := hh; exact ⟨by first | decide | exact Nat.le_refl _, rfl, rfl⟩)) ?_
 rintro _ _ ⟨az, rfl, gR⟩
 refine Tr 12 rfl (v' := .slice O (put L aX ao).length S) (by simp only [put_length])<|Tn<|Xm<|X2 [_, _] az a (T ++ R) rfl<|X2 [_, _] a az (T ++ R) rfl<|X3 [_, _] az a T R rfl ?_
 have dB := (Z.trans (n.trans C))
 exact x_mapM (s' := put L aX ao) [_, _] (az ++ (a ++ R)) rfl hperm12679 (ay.trans (Option.some.inj hm ▸ rfl)) dB (c2.le (n.trans C)) (e' := [(1, iv x8), (2, iv x9), (11, pb d), (12, .slice O (put L aX ao).length S), (42, .agg #[.map (some f), .map (some g), .map (some i), .map (some k)]), (43, iv 2), (47, pb aD)]) ⟨rfl, rfl, rfl, rfl, rfl, rfl, rfl, trivial⟩ (.cons_cons _ (.cons _ (.refl _))) ⟨O, S, az, rfl, rfl, ((Z.trans (n.trans C))), gR⟩
 refine Ck<|Xm<|X2 [_, _] r a (T ++ R) rfl<|X2 [_, _] a r (T ++ R) rfl<|X3 [_, _] r a T R rfl ?_
 have dC := (Z.trans (n.trans C))
 exact x_mapM (s' := L) [_, _] (r ++ (a ++ R)) rfl hperm12679 (ay.trans (Option.some.inj hm ▸ rfl)) dC (c2.le (n.trans C)) (e' := [(1, iv x8), (2, iv x9), (11, pb d), (12, sv O L S), (42, .agg #[.map (some f), .map (some g), .map (some i), .map (some k)]), (43, iv 2), (47, pb aD)]) ⟨rfl, rfl, rfl, rfl, rfl, rfl, rfl, trivial⟩ (.cons_cons _ (.cons _ (.refl _))) ⟨O, S, r, rfl, rfl, ((Z.trans (n.trans C))), (an.le (n.trans C))⟩
 rintro aT _ _ ⟨aU, aV, K, rfl, rfl, bb, gS⟩
 have hm := eR
 refine Cg ?_
 obtain ⟨_, b7, hm⟩ := bS hm
 have b7 := (kS b7).2
 refine tS (sa rfl rfl b7)<|mV rfl<|Tn<|x_unroll<|Cr<|tS (lT rfl rfl (by omega))<|Te<|Cs<|c_cond_t rfl<|Ck ?_
 refine Xn ?_
 obtain ⟨bn, fj, fk⟩ := bS hm
 refine Cj (fun b8 e' hp' => ∃ a0 a1 bL, [(1, iv x8), (2, iv x9), (11, pb d), (12, sv a0 bn a1), (42, .agg #[.map (some f), .map (some g), .map (some i), .map (some k)]), (43, iv 3)] = e' ∧ (d, Cl 91 [sv A2 s1.Trains c3, sv A5 s1.Turns c6, iv X]) :: (bL ++ R) = hp' ∧ aT.Le b8 ∧ OS 3 (OT.fr rI) b8.w (sv a0 bn a1) bn bL) ?_ ?_
 have hm := fj
 refine Cb<|Cr<|tS (st_aidx1 (cs := [.map (some f), .map (some g), .map (some i), .map (some k)]) 3 rfl rfl rfl (by decide) rfl arr106 one105)<|aS rfl<|Te<|Cr<|mV rfl<|t_front2 [_] K a R rfl<|tD (u_range [_] (K ++ R) rfl (hP.le (ae.trans (ai.trans bb))) mapt105 rfl) ?_
 rintro _ _ ⟨aE, cm, rfl, rfl, gT⟩
 refine Te<|Cb<|c_front2 [_] cm K R rfl<|c_front2 [_] K cm R rfl ?_
 obtain ⟨j3, fl, cn⟩ := bS hm
 refine c_mapM (fun U => fun bo e' hp' => ∃ V W z, [(1, iv x8), (2, iv x9), (11, pb d), (12, sv V U W), (42, .agg #[.map (some f), .map (some g), .map (some i), .map (some k)]), (43, iv 3), (47, pb aE)] = e' ∧ (d, Cl 91 [sv A2 s1.Trains c3, sv A5 s1.Turns c6, iv X]) :: (z ++ R) = hp' ∧ aT.Le bo ∧ OS 3 (OT.fr rI) bo.w (sv V U W) U z) fl gT (e' := [(1, iv x8), (2, iv x9), (11, pb d), (12, sv aU bk aV), (42, .agg #[.map (some f), .map (some g), .map (some i), .map (some k)]), (43, iv 3), (47, pb aE)]) ⟨rfl, rfl, rfl, rfl, rfl, rfl, rfl, trivial⟩ [_] (K ++ R) rfl (.refl _) ⟨aU, aV, K, rfl, rfl, lr, gS⟩ ?_
 rintro U j4 bo _ _ fm ⟨V, W, z, rfl, rfl, aa, aq⟩ ip gU hd14462 hall14463
 refine c_mid [_] fm (z ++ R) ?_ rfl
 refine Cr ?_
 refine t_next [_] (z ++ R) rfl rfl rfl gU (fun hnil14465 => ?_) (fun da j5 j6 j7 aA hperm14471 fn db => ?_)
 have hend14474 := hd14462 hnil14465
 refine tS (st_extract rfl rfl)<|Te<|Cs<|c_cond_f rfl<|Ce<|Xe<|Xe<|Xo ?_
 rw [hend14474] at cn
 have hm := elimL cn
 refine Xm ?_
 obtain rfl := o1 hm
 exact jJ ⟨V, W, z, rfl, rfl, aa, aq⟩
 obtain ⟨j8, aB, ic⟩ := hall14463 _ _ hperm14471
 have a2 := aB
 unfold mGuideReach_L13869 at a2
 have hm := a2
 refine tS (st_extract rfl rfl)<|Te<|Cs<|c_cond_t rfl<|Ck<|Xn<|Cb<|Cr ?_
 obtain ⟨j9, dc, fo, bM, fp⟩ := MIx.entry Tryd.prog fn
 obtain ⟨_, rfl, ⟨_, _, rfl, rfl, rfl⟩⟩ := fo
 obtain rfl : dc = bv da.2 := by have bM : [dc] = [bv da.2] := bM; injection bM
 refine tS (fp (.cons _ (List.sublist_append_left _ _)) rfl)<|tS (st_extract rfl rfl)<|tD (uA [iv 0, iv 0] zero113 rfl) ?_
 rintro _ _ ⟨ka, rfl, rfl⟩
 refine tD (uN (vs := [_, _]) 0 2 rfl rfl rfl siz113 rfl (mc rfl (mc rfl mn)) rfl (by simp)) ?_
 rintro _ _ rfl
 refine Te ?_
 obtain ⟨⟨a3, dd, ar, de⟩, fq, fr⟩ := bS hm
 refine Cj (fun b9 e' hp' => ∃ a4, [(1, iv x8), (2, iv x9), (11, pb d), (12, sv V U W), (16, pb a4), (42, .agg #[.map (some f), .map (some g), .map (some i), .map (some k)]), (43, iv 3), (47, pb aE)] = e' ∧ (d, Cl 91 [sv A2 s1.Trains c3, sv A5 s1.Turns c6, iv X]) :: (a4, Cl 83 [iv a3, iv dd, iv ar, iv de]) :: (z ++ (aA ++ R)) = hp' ∧ bo.Le b9) ?_ ?_
 have hm := fq
 obtain ⟨kb, gV, hm⟩ := bS hm
 obtain ⟨bp, gW, hm⟩ := bS hm
 refine Di mixed (.refl _)<|E0 0 rfl (sF rfl fld91_0)<|E0 1 rfl (sF rfl fld25_0)<|Es 2 rfl (sL 1 rfl one22 rfl rfl)<|E0 3 rfl (sF rfl fld113_0)<|Es 4 rfl (sL 0 rfl one3 rfl rfl) ?_
 obtain ⟨gX, fs, ft⟩ := iS gV
 obtain ⟨iY, fu, dD, co, dE⟩ := FZ.get (sz := 4) rfl (by decide) (h4.le (af.trans (ae.trans (ai.trans (bb.trans aa))))) ft
 obtain ⟨_, _, rfl, rfl, ⟨_, _, rfl, rfl, ⟨_, _, rfl, ⟨kc, kd, rfl, gY⟩, ⟨ke, kf, rfl, kg⟩⟩⟩⟩ := fu
 refine E0 5 rfl (sI gX rfl rfl fs dE co sl22)<|E0 6 rfl (sQ rfl co fld47_2)<|Es 7 rfl (sO rfl one45 (dD 2 _ rfl))<|E0 8 rfl (sF rfl fld113_1)<|Es 9 rfl (sL 0 rfl one3 rfl rfl) ?_
 obtain ⟨gZ, fv, fw⟩ := iS gW
 obtain ⟨iZ, fx, dF, cp, dH⟩ := FZ.get (sz := 4) rfl (by decide) gY fw
 obtain ⟨_, _, rfl, rfl, ⟨_, _, rfl, rfl, ⟨_, _, rfl, rfl, rfl⟩⟩⟩ := fx
 refine E0 10 rfl (sI gZ rfl rfl fv dH cp sl45)<|Es 11 rfl (sP (vs := [iv bp.Station, iv bp.Track, iv bp.Arr, iv bp.Dep]) 4 rfl agg83 cp rfl (fun j u hu => dF j u hu))<|Eo<|Da [12] (by kernel_rfl) rfl ?_
 refine Rd2 lr rfl rfl (uA [iv 0, iv 0, iv 0, iv 0] zero83 rfl) ?_ ?_
 rintro _ _ ⟨g0, rfl, rfl⟩
 refine iR<|Da [13] (by kernel_rfl) rfl ?_
 refine Rd2 lr rfl rfl (uN (vs := [_, _, _, _]) 0 4 rfl rfl rfl siz83 rfl (mc rfl (mc rfl (mc rfl (mc rfl mn)))) rfl (by simp)) ?_ ?_
 rintro _ _ rfl
 refine ⟨.inl (by kernel_rfl), ?_⟩
 refine Dd (by kernel_rfl) ?_
 obtain ⟨rfl, rfl, rfl, rfl⟩ := some4 hm
 exact jJ ⟨g0, rfl, rfl, lr⟩
 exact Rn
 exact Rn
 rintro b9 _ _ ⟨a4, rfl, rfl, p⟩
 have hm := (unc4E fr)
 obtain ⟨g1, fy, fz⟩ := bS hm
 refine Cj (fun df e' hp' => [(1, iv x8), (2, iv x9), (11, pb d), (12, sv V U W), (16, pb a4), (42, .agg #[.map (some f), .map (some g), .map (some i), .map (some k)]), (43, iv 3), (47, pb aE), (79, bv g1)] = e' ∧ (d, Cl 91 [sv A2 s1.Trains c3, sv A5 s1.Turns c6, iv X]) :: (a4, Cl 83 [iv a3, iv dd, iv ar, iv de]) :: (z ++ (aA ++ R)) = hp' ∧ b9.Le df) ?_ ?_
 have hm := fy
 obtain ⟨g2, dg, hm⟩ := bS hm
 by_cases a5 : g2 < 0
 rw [if_pos a5] at hm
 refine Di mixed (.refl _)<|E0 0 rfl (sM rfl)<|E0 1 rfl (sF rfl fld83_0)<|Es 2 rfl (sL 1 rfl one3 rfl rfl) ?_
 obtain ⟨ca, bN, bO⟩ := iS dg
 obtain ⟨fA, fB, g3, g4, fC, bP, bc, bQ, bd, fD, dI⟩ := OS.get (sz := 1) rfl (by decide) (aq.le p) bO
 obtain ⟨rfl, rfl⟩ := bP
 refine E0 3 rfl (sI ca rfl rfl bN bd bQ sl49)<|Es 4 rfl (st_load_rd rfl one3 (fun w ho => bc w _ ho (.cons _ (.cons _ (List.sublist_append_left _ _))) 0 _ rfl))<|E0 5 rfl (lT rfl rfl a5)<|E0 6 rfl (sM rfl)<|eN 7 rfl<|eN 8 rfl<|eN 9 rfl<|eN 10 rfl<|eN 11 rfl<|eN 12 rfl ?_
 refine eN 13 rfl<|eN 14 rfl<|E0 15 rfl (pT rfl rfl)<|Eo<|Dd (by kernel_rfl) ?_
 obtain rfl := o1 hm
 exact jJ ⟨rfl, rfl, lr⟩
 rw [if_neg a5] at hm
 obtain ⟨kh, g5, hm⟩ := bS hm
 refine Di mixed (.refl _)<|E0 0 rfl (sM rfl)<|E0 1 rfl (sF rfl fld83_0)<|Es 2 rfl (sL 1 rfl one3 rfl rfl) ?_
 obtain ⟨ca, bN, bO⟩ := iS dg
 obtain ⟨fA, fB, g3, g4, fC, bP, bc, bQ, bd, fD, dI⟩ := OS.get (sz := 1) rfl (by decide) (aq.le p) bO
 obtain ⟨rfl, rfl⟩ := bP
 refine E0 3 rfl (sI ca rfl rfl bN bd bQ sl49)<|Es 4 rfl (st_load_rd rfl one3 (fun w ho => bc w _ ho (.cons _ (.cons _ (List.sublist_append_left _ _))) 0 _ rfl))<|E0 5 rfl (lF rfl rfl a5)<|E0 6 rfl (sM rfl)<|Yz 7 70 rfl (sF rfl fld83_2)<|Ey 8 70 rfl (sL 1 rfl one3 rfl rfl)<|Yz 9 70 rfl (sM rfl)<|Yz 10 70 rfl (sF rfl fld83_0)<|Ey 11 70 rfl (sL 1 rfl one3 rfl rfl) ?_
 obtain ⟨g6, fF, fG⟩ := iS g5
 obtain ⟨i0, i1, ki, kj, i2, fH, dJ, fI, dK, i3, iq⟩ := OS.get (sz := 1) rfl (by decide) (aq.le p) fG
 obtain ⟨rfl, rfl⟩ := fH
 refine Yz 12 70 rfl (sI g6 rfl rfl fF dK fI sl49)<|Ey 13 70 rfl (st_load_rd rfl one3 (fun w ho => dJ w _ ho (.cons _ (.cons _ (List.sublist_append_left _ _))) 0 _ rfl))<|Yz 14 70 rfl (q3 rfl rfl)<|E0 15 rfl (pF rfl rfl)<|Eo<|Dd (by kernel_rfl) ?_
 obtain rfl := o1 hm
 exact jJ ⟨rfl, rfl, lr⟩
 rintro df _ _ ⟨rfl, rfl, D⟩
 have hm := fz
 refine cB hm rfl (fun hm => ?_) fun hm => ?_
 refine Cg<|mV rfl<|tS (sF rfl fld83_0)<|tS (sL 1 rfl one3 rfl rfl)<|tS (sF rfl fld83_2)<|tS (sL 1 rfl one3 rfl rfl) ?_
 obtain ⟨kk, g7, hm⟩ := bS hm
 obtain ⟨g8, cq, cr⟩ := iS g7
 obtain ⟨i4, i5, kl, km, i6, fJ, ir, fK, dL, i7, iu⟩ := OS.get (sz := 1) rfl (by decide) (aq.le (p.trans D)) cr
 obtain ⟨rfl, rfl⟩ := fJ
 refine tS (sI g8 rfl rfl cq dL fK sl49)<|tD (uP cq (sz := 1) (a' := ar) rfl [_, _] (aA ++ R) 0 1 [iv ar] rfl (aq.le (p.trans D)) cr rfl rfl rfl siz3 rfl (mc rfl mn) (fun cs hsj hh => by obtain ⟨rfl, rfl⟩ := hh; exact ⟨by first | decide | exact Nat.le_refl _, rfl, rfl⟩)) ?_
 rintro _ _ ⟨bR, rfl, g9⟩
 refine Tr 12 rfl (v' := .slice V (put U a3 ar).length W) (by simp only [put_length])<|Tn<|Xm<|X2 [_, _] bR aA R rfl ?_
 have dM := (aa.trans (p.trans D))
 exact x_mapM (s' := put U a3 ar) [_, _] (bR ++ R) rfl hperm14471 (aB.trans (Option.some.inj hm ▸ rfl)) dM (db.le (p.trans D)) (e' := [(1, iv x8), (2, iv x9), (11, pb d), (12, .slice V (put U a3 ar).length W), (42, .agg #[.map (some f), .map (some g), .map (some i), .map (some k)]), (43, iv 3), (47, pb aE)]) ⟨rfl, rfl, rfl, rfl, rfl, rfl, rfl, trivial⟩ (.cons_cons _ (.cons _ (.refl _))) ⟨V, W, bR, rfl, rfl, ((aa.trans (p.trans D))), g9⟩
 refine Ck<|Xm<|X2 [_, _] z aA R rfl ?_
 have dN := (aa.trans (p.trans D))
 exact x_mapM (s' := U) [_, _] (z ++ R) rfl hperm14471 (aB.trans (Option.some.inj hm ▸ rfl)) dN (db.le (p.trans D)) (e' := [(1, iv x8), (2, iv x9), (11, pb d), (12, sv V U W), (42, .agg #[.map (some f), .map (some g), .map (some i), .map (some k)]), (43, iv 3), (47, pb aE)]) ⟨rfl, rfl, rfl, rfl, rfl, rfl, rfl, trivial⟩ (.cons_cons _ (.cons _ (.refl _))) ⟨V, W, z, rfl, rfl, ((aa.trans (p.trans D))), (aq.le (p.trans D))⟩
 rintro b8 _ _ ⟨a0, a1, bL, rfl, rfl, dO, dh⟩
 have hm := fk
 refine Cg ?_
 obtain ⟨_, cb, hm⟩ := bS hm
 have cb := (kS cb).2
 refine tS (sa rfl rfl cb)<|mV rfl<|Tn<|x_unroll<|Cr<|tS (lF rfl rfl (by omega))<|Te<|Cs<|c_cond_f rfl<|Ce ?_
 refine Xe<|Xe<|Xo<|Xn<|Cr<|mV rfl<|mV rfl<|mV rfl ?_
 obtain ⟨kn, ha, hm⟩ := bS hm
 obtain ⟨hb, ct, cu⟩ := iS ha
 obtain ⟨i8, i9, ko, kp, ja, fL, iw, fM, dP, jb, ix⟩ := OS.get (sz := 1) rfl (by decide) dh cu
 obtain ⟨rfl, rfl⟩ := fL
 refine tS (sI hb rfl rfl ct dP fM sl49)<|tD (uP ct (sz := 1) (a' := x9) rfl [_] R 0 1 [iv x9] rfl dh cu rfl rfl rfl siz3 rfl (mc rfl mn) (fun cs hsj hh => by obtain ⟨rfl, rfl⟩ := hh; exact ⟨by first | decide | exact Nat.le_refl _, rfl, rfl⟩)) ?_
 rintro _ _ ⟨fN, rfl, hc⟩
 refine Tr 12 rfl (v' := .slice a0 (put bn x8 x9).length a1) (by simp only [put_length])<|Te<|Cr<|mV rfl<|aS rfl<|aS rfl<|Te<|Ct ?_
 obtain ⟨rfl, rfl⟩ := some2 hm
 exact rT ⟨a0, a1, fN, rfl, rfl, hc⟩ (af.trans (ae.trans (ai.trans (bb.trans dO))))

set_option maxRecDepth 20000 in
theorem cGuideProfile_1 (b : Base) (R : Hp) (c : GuidePoint) (f g h n j) (hm : mGuideProfile_1 c f g h = some j):
    CallsG Tryd.prog 47 [.agg #[iv c.Dep, iv c.Arr, iv c.Rides], pb n] b ((n, Cl 42 [iv f, iv g, iv h]) :: R) (fun v b' hp' => bv j = v ∧ (n, Cl 42 [iv f, iv g, iv h]) :: R = hp') := by
 refine fE 28 Tryd.func47 rfl Tryd.ntmps47 rfl ?_
 unfold mGuideProfile_1 at hm
 refine Cr<|tD (uB _ rfl rfl) ?_
 rintro _ _ ⟨q, rfl, rfl⟩
 refine aS rfl<|Te ?_
 obtain ⟨o, k, l⟩ := bS hm
 refine Cj (fun m e' hp' => [(3, bv o)] = e' ∧ (n, Cl 42 [iv f, iv g, iv h]) :: R = hp' ∧ b.Le m) ?_ ?_
 have hm := k
 refine Cg<|tS (sD (vs := [_, _, _]) 0 3 rfl agg42 rfl rfl rfl)<|tS (sD (vs := [_, _, _]) 1 3 rfl agg42 rfl rfl rfl)<|tS (st_neqA (xs := [iv c.Dep, iv c.Arr, iv c.Rides]) (ys := [iv f, iv g, iv h]) (p := c.Dep = f ∧ c.Arr = g ∧ c.Rides = h) rfl rfl eqt42 ⟨⟨_, rfl⟩, ⟨⟨_, rfl⟩, ⟨⟨_, rfl⟩, trivial⟩⟩⟩ ⟨⟨_, rfl⟩, ⟨⟨_, rfl⟩, ⟨⟨_, rfl⟩, trivial⟩⟩⟩ (by simp [eqCells, eqCell, Bool.decide_and, beq_dec])) ?_
 rcases Bool.eq_false_or_eq_true (!(decide (c.Dep = f ∧ c.Arr = g ∧ c.Rides = h))) with a | a
 rw [if_neg (of_decide_eq_false (nt a))] at hm
 refine Tr 6 rfl (v' := .bool true) (by rw [a] <;> rfl)<|mV rfl<|yS<|tS (sF rfl fld42_0)<|yS<|tS (sL 0 rfl one3 rfl rfl)<|yS<|tS (sF rfl fld42_0)<|yS<|tS (sL 1 rfl one3 rfl rfl) ?_
 refine yS ?_
 refine Tb rfl (q6 rfl rfl) (fun d => ?_) (fun d => ?_)
 rw [if_pos d] at hm
 refine tS (pT rfl rfl)<|mV rfl<|yS<|tS (sF rfl fld42_1)<|yS<|tS (sL 0 rfl one3 rfl rfl)<|yS<|tS (sF rfl fld42_1)<|yS<|tS (sL 1 rfl one3 rfl rfl) ?_
 refine yS ?_
 refine Tb rfl (q4 rfl rfl) (fun e => ?_) (fun e => ?_)
 rw [if_pos e] at hm
 refine tS (pT rfl rfl)<|mV rfl<|yS<|tS (sF rfl fld42_2)<|yS<|tS (sL 0 rfl one3 rfl rfl)<|yS<|tS (sF rfl fld42_2)<|yS<|tS (sL 1 rfl one3 rfl rfl) ?_
 refine yS<|tS (q4 rfl rfl)<|tS (pT rfl rfl)<|aS rfl<|Tn ?_
 obtain rfl := o1 hm
 exact jJ ⟨rfl, rfl, lr⟩
 rw [if_neg e] at hm
 refine tS (pT rfl rfl)<|mV rfl<|nO<|nO<|nO<|nO<|nO<|tS (pF rfl rfl)<|aS rfl<|Tn ?_
 obtain rfl := o1 hm
 exact jJ ⟨rfl, rfl, lr⟩
 rw [if_neg d] at hm
 refine tS (pT rfl rfl)<|mV rfl<|nO<|nO<|nO<|nO<|nO<|tS (pF rfl rfl)<|mV rfl<|nO ?_
 refine nO<|nO<|nO<|nO<|tS (pF rfl rfl)<|aS rfl<|Tn ?_
 obtain rfl := o1 hm
 exact jJ ⟨rfl, rfl, lr⟩
 rw [if_pos (of_decide_eq_true (nf a))] at hm
 refine Tr 6 rfl (v' := .bool false) (by rw [a] <;> rfl)<|mV rfl<|nO<|nO<|nO<|nO<|nO<|tS (pF rfl rfl)<|mV rfl<|nO ?_
 refine nO<|nO<|nO<|nO<|tS (pF rfl rfl)<|mV rfl<|nO<|nO<|nO<|nO ?_
 refine nO<|tS (pF rfl rfl)<|aS rfl<|Tn ?_
 obtain rfl := o1 hm
 exact jJ ⟨rfl, rfl, lr⟩
 rintro m _ _ ⟨rfl, rfl, i⟩
 have hm := l
 refine Ct ?_
 obtain rfl := o1 hm
 exact rO ⟨rfl, rfl⟩ i

set_option maxRecDepth 20000 in
theorem cSlicesIndexFunc_2 (b : Base) (R : Hp) (s t x d o H I k) (T : OS 42 (OT.fr rGuidePoint) b.w (sv H d I) d k) (y) (hm : mSlicesIndexFunc_2 s t x d = some y):
    CallsG Tryd.prog 74 [sv H d I, .func (.func 47) #[] #[pb o]] b ((o, Cl 42 [iv s, iv t, iv x]) :: (k ++ R)) (fun v b' hp' => iv y = v ∧ (o, Cl 42 [iv s, iv t, iv x]) :: (k ++ R) = hp') := by
 refine fE 19 Tryd.func74 rfl Tryd.ntmps74 rfl ?_
 unfold mSlicesIndexFunc_2 at hm
 refine Cr<|aS rfl<|Te<|Cs<|Cr<|mV rfl<|tS (sE rfl sl38)<|mV rfl<|Te<|Cb ?_
 have U : d.length ≤ 9223372036854775807 := (OS.len T)
 obtain ⟨aa, z, f⟩ := bS hm
 refine lF (fun A => fun _ => fun p e' hp' => [(0, sv H d I), (1, .func (.func 47) #[] #[pb o]), (7, iv ((d.length : Int))), (8, iv ((A : Int)))] = e' ∧ (o, Cl 42 [iv s, iv t, iv x]) :: (k ++ R) = hp' ∧ b.Le p) z ⟨rfl, rfl, lr⟩ ?_ ?_
 rintro A _ p _ _ V F ⟨rfl, rfl, a⟩ c h
 unfold mSlicesIndexFunc_2_L64 at c
 have hm := c
 refine Cr<|tS (lT rfl rfl (by omega))<|Te<|Cs<|c_cond_t rfl<|Ck<|Xn<|Cs<|Cb<|Cr ?_
 refine mV rfl<|aS rfl<|Te<|Cr<|mV rfl<|mV rfl<|mV rfl ?_
 obtain ⟨e, J, hm⟩ := bS hm
 obtain ⟨K, B, C⟩ := iS J
 obtain ⟨W, L, X, Y, O, D, l, i, m, S, G⟩ := OS.get (sz := 3) rfl (by decide) (T.le a) C
 obtain ⟨⟨_, _, rfl, rfl, ⟨_, _, rfl, rfl, rfl⟩⟩, rfl⟩ := D
 refine tS (sI K rfl rfl B m i sl38)<|tS (st_loadN_rd (vs := [iv e.Dep, iv e.Arr, iv e.Rides]) 3 rfl agg42 i rfl (fun w ho j u hu => l w _ ho (.cons _ (List.sublist_append_left _ _)) j u hu)) ?_
 obtain ⟨E, n, hm⟩ := bS hm
 refine Tv #[] #[pb o] [.agg #[iv e.Dep, iv e.Arr, iv e.Rides]] rfl rfl call47 rfl (cGuideProfile_1 _ _ e s t x o E n) ?_
 rintro _ Z _ g ⟨rfl, rfl⟩
 refine Te ?_
 refine cB hm rfl (fun hm => ?_) fun hm => ?_
 refine Cr<|mV rfl<|aS rfl<|Te<|Ct<|Xb<|Xr<|Xr<|Xb<|Xr ?_
 have q := h _ (Option.some.inj hm).symm
 rw [q] at f
 have hm := elimR f
 obtain rfl := o1 hm
 exact rO ⟨rfl, rfl⟩ (a.trans g)
 refine Ck<|Xm<|Xn<|Cg<|tS (sa rfl rfl (by omega))<|mV rfl<|Tn ?_
 exact jM hm ⟨rfl, rfl, ((a.trans g))⟩
 rintro _ p _ _ ⟨rfl, rfl, a⟩ r
 rw [r] at f
 have hm := elimL f
 refine Cr<|tS (lF rfl rfl (by omega))<|Te<|Cs<|c_cond_f rfl<|Ce<|Xe<|Xe<|Xo<|Xn ?_
 refine Cr<|aS rfl<|Te<|Ct ?_
 obtain rfl := o1 hm
 exact rO ⟨rfl, rfl⟩ a

set_option maxRecDepth 20000 in
theorem cSlicesContainsFunc (b : Base) (R : Hp) (g h i c j k l a) (n : OS 42 (OT.fr rGuidePoint) b.w (sv k c l) c a) (f) (hm : mSlicesContainsFunc g h i c = some f):
    CallsG Tryd.prog 46 [sv k c l, .func (.func 47) #[] #[pb j]] b ((j, Cl 42 [iv g, iv h, iv i]) :: (a ++ R)) (fun v b' hp' => bv f = v ∧ (j, Cl 42 [iv g, iv h, iv i]) :: (a ++ R) = hp') := by
 refine fE 9 Tryd.func46 rfl Tryd.ntmps46 rfl ?_
 unfold mSlicesContainsFunc at hm
 refine Cr<|aS rfl<|Te<|Cr<|mV rfl<|mV rfl ?_
 obtain ⟨m, d, hm⟩ := bS hm
 refine t_out1 [_] [] a R rfl<|Tg _ rfl call74 rfl (cSlicesIndexFunc_2 _ _ g h i c j k l a n m d) ?_
 rintro _ o _ e ⟨rfl, rfl⟩
 refine t_in1 [_] [] a R rfl<|tS (q6 rfl rfl)<|aS rfl<|Te<|Ct ?_
 obtain rfl := o1 hm
 exact rO ⟨rfl, rfl⟩ e

set_option maxRecDepth 20000 in
theorem cGuideProfile (b : Base) (R : Hp) (hG : GOn GT b) (A : ApiDay) (x8 x9 z A2 c3 A5 c6) (h4 : FZ rApiTrain b.w A2 c3 A.Trains) (h7 : FZ (RT.list rI) b.w A5 c6 A.Turns) (L t) (hm : mGuideProfile A x8 x9 z = some (L, t)):
    CallsG Tryd.prog 17 [.agg #[sv A2 A.Trains c3, sv A5 A.Turns c6], iv x8, iv x9, iv z] b (R) (fun v b' hp' => ∃ O S B, .tuple #[sv O t S, iv L] = v ∧ (B ++ R) = hp' ∧ OSP 42 (OT.fr rGuidePoint) b'.w (sv O t S) t B) := by
 refine fE 47 Tryd.func17 rfl Tryd.ntmps17 rfl ?_
 unfold mGuideProfile at hm
 refine Cr<|tD (uB _ rfl rfl) ?_
 rintro _ _ ⟨ax, rfl, rfl⟩
 refine aS rfl<|aS rfl<|Te<|Cs<|Cr<|tS (sD (vs := [_, _]) 0 2 rfl agg25 rfl rfl rfl)<|mV rfl<|mV rfl<|mV rfl ?_
 obtain ⟨ab, F, hm⟩ := bS hm
 refine tD (uW _ call36 rfl (fun w ho => cGuideCheck_2 _ [] ((hG.le lr).old ho) A z x8 x9 [] A2 c3 A5 c6 none 0 (h4.old ho) (h7.old ho) FZ.nil ab F) (fun _ _ _ h => h.2.symm)) ?_
 rintro _ _ ⟨⟨_, rfl, _⟩, rfl⟩
 refine aS rfl<|Te<|Cr<|mV rfl<|tS (q2 rfl rfl)<|Te ?_
 refine cI hm rfl (fun hm => ?_) fun hm => ?_
 refine Cr<|mV rfl<|aS rfl<|aS rfl<|Te<|Ct<|Xr ?_
 obtain ⟨rfl, rfl⟩ := some2 hm
 exact rT ⟨none, 0, [], rfl, rfl, OSP.nil⟩ lr
 refine Ck<|Xn<|Cr<|tS (sD (vs := [_, _]) 0 2 rfl agg25 rfl rfl rfl)<|mV rfl<|tS (sB (v := .agg #[sv A2 A.Trains c3, sv A5 A.Turns c6, iv z]) [(0, .agg #[sv A2 A.Trains c3, sv A5 A.Turns c6]), (1, iv z)] rfl (fun _ => by kernel_rfl))<|mV rfl<|mV rfl ?_
 obtain ⟨ac, G, hm⟩ := bS hm
 refine Tg _ rfl call39 rfl (cGuideNetPoints _ _ (⟨A, z⟩ : GuideNet) x8 x9 A2 c3 A5 c6 h4 h7 ac G) ?_
 rintro _ ad _ H ⟨p, q, e, rfl, rfl, ae⟩
 refine t_in1 [] [_] e R rfl<|aS rfl<|Te<|Cr<|aS rfl<|Te<|Cs<|Cr<|mV rfl ?_
 obtain ⟨f, hp151, s, C⟩ := OSP.ex ae
 have hm := ordM_some hm f hp151
 refine Tr 11 rfl (v' := sv p f q) (by show Value.slice _ _ _ = Value.slice _ _ _; rw [s])<|Tr 29 rfl (v' := sv p f q) (by show Value.slice _ _ _ = Value.slice _ _ _; rw [s])<|Tr 30 rfl (v' := sv p f q) (by show Value.slice _ _ _ = Value.slice _ _ _; rw [s])<|tS (sE rfl sl38)<|mV rfl<|Te<|Cb ?_
 have ao : f.length ≤ 9223372036854775807 := (OS.len C)
 obtain ⟨k, V, W⟩ := bS hm
 refine lS (fun T => fun k => fun x e' hp' => ∃ m n c, [(11, sv p f q), (12, sv m k n), (30, sv p f q), (31, iv ((f.length : Int))), (32, iv ((T : Int)))] = e' ∧ (e ++ (c ++ R)) = hp' ∧ ad.Le x ∧ OS 42 (OT.fr rGuidePoint) x.w (sv m k n) k c) V ⟨none, 0, [], rfl, rfl, lr, OS.nil⟩ ?_ ?_
 rintro T k x _ _ aq af ⟨m, n, c, rfl, rfl, d, y⟩ o
 unfold mGuideProfile_L154 at o
 have hm := o
 refine Cr<|tS (lT rfl rfl (by omega))<|Te<|Cs<|c_cond_t rfl<|Ck<|Xn<|Cs<|Cb<|Cr ?_
 obtain ⟨a, ag, hm⟩ := bS hm
 obtain ⟨ah, X, Y⟩ := iS ag
 obtain ⟨ar, au, ay, az, av, Z, I, D, J, aw, an⟩ := OS.get (sz := 3) rfl (by decide) (C.le d) Y
 obtain ⟨⟨_, _, rfl, rfl, ⟨_, _, rfl, rfl, rfl⟩⟩, rfl⟩ := Z
 refine tS (sI ah rfl rfl X J D sl38)<|tS (st_loadN_rd (vs := [iv a.Dep, iv a.Arr, iv a.Rides]) 3 rfl agg42 D rfl (fun w ho j u hu => I w _ ho (List.sublist_append_left _ _) j u hu))<|tD (uA [iv 0, iv 0, iv 0] zero42 rfl) ?_
 rintro _ _ ⟨ai, rfl, rfl⟩
 refine tD (uN (vs := [_, _, _]) 0 3 rfl rfl rfl siz42 rfl (mc rfl (mc rfl (mc rfl mn))) rfl (by simp)) ?_
 rintro _ _ rfl
 refine Te<|Cr<|mV rfl<|tS (st_func _ _ rfl rfl) ?_
 obtain ⟨aj, K, hm⟩ := bS hm
 refine t_out1 [_] [] e (c ++ R) rfl<|Tg _ rfl call46 rfl (cSlicesContainsFunc _ _ a.Dep a.Arr a.Rides f ai p q e (C.le d) aj K) ?_
 rintro _ aA _ g ⟨rfl, rfl⟩
 refine t_in1 [_] [] e (c ++ R) rfl<|aS rfl<|Te<|Cr<|mV rfl<|tS (sn2 rfl)<|Te ?_
 refine cM hm rfl (fun hm => ?_) fun hm => ?_
 refine Cg<|mV rfl<|tS (sD (vs := [_, _, _]) 0 3 rfl agg42 rfl rfl rfl)<|tD (u_bslice (el := 42) [(0, .agg #[iv a.Dep, iv a.Arr, iv a.Rides])] [iv a.Dep, iv a.Arr, iv a.Rides] rfl (fun _ => by kernel_rfl)) ?_
 rintro _ _ ⟨aB, rfl, rfl⟩
 obtain ⟨_, E, hm⟩ := bS hm
 have E := room_some E
 refine t_front2 [_, _] e c R rfl<|tD (uQ (r := rGuidePoint) (l := k) [_, _] (e ++ R) [[iv a.Dep, iv a.Arr, iv a.Rides]] [a] rfl (by decide) sl38 inf42 rfl rfl rfl rfl (y.le g) rfl (fun w ho => Rd.own (i := 0) ho rfl) ⟨⟨[iv a.Dep], _, rfl, rfl, ⟨[iv a.Arr], _, rfl, rfl, rfl⟩⟩, trivial⟩ E) ?_
 rintro _ _ ⟨aa, rfl, U⟩
 obtain ⟨ak, al, rfl, _⟩ := U.form
 refine aS rfl<|Tn<|Xm<|Xn<|Cg<|tS (sa rfl rfl (by omega))<|mV rfl<|Tn ?_
 obtain rfl := o1 hm
 exact jS ⟨ak, al, aa, rfl, rfl, ((d.trans g)), U⟩
 refine Ck<|Xm<|Xn<|Cg<|tS (sa rfl rfl (by omega))<|mV rfl<|Tn ?_
 obtain rfl := o1 hm
 exact jS ⟨m, n, c, rfl, rfl, ((d.trans g)), (y.le g)⟩
 rintro x _ _ ⟨m, n, c, rfl, rfl, d, y⟩
 have hm := W
 refine Cr<|tS (lF rfl rfl (by omega))<|Te<|Cs<|c_cond_f rfl<|Ce<|Xe<|Xe<|Xo<|Xn ?_
 refine Cr<|mV rfl<|aS rfl<|aS rfl<|Te<|Ct ?_
 have am := OSP.canon kGuidePoint y
 refine x_resp 8 rfl (v' := .slice m (canB kGuidePoint k).length n) (by rw [canB_length]) ?_
 obtain ⟨rfl, rfl⟩ := some2 hm
 exact rT ⟨m, n, c, rfl, rfl, am⟩ (H.trans d)

set_option maxRecDepth 20000 in
theorem cFishkeep2GuideMore (b : Base) (R : Hp) (hG : GOn GT b) (s1 : ApiDay) (g : ApiTrain) (ao ai aj O A2 c3 A5 c6 A9 E K L) (h4 : FZ rApiTrain b.w A2 c3 s1.Trains) (h7 : FZ (RT.list rI) b.w A5 c6 s1.Turns) (b5 : FZ rApiStop b.w A9 E g.Stops) (b6 : FZ (RT.list rI) b.w K L g.Legs) (bR) (hm : mFishkeep2GuideMore s1 g ao ai aj O = some bR):
    CallsG Tryd.prog 4 [.agg #[sv A2 s1.Trains c3, sv A5 s1.Turns c6], .agg #[iv g.No, iv g.Stock, sv A9 g.Stops E, sv K g.Legs L], iv ao, iv ai, iv aj, iv O] b (R) (fun v b' hp' => bv bR = v ∧ R = hp') := by
 refine fE 178 Tryd.func4 rfl Tryd.ntmps4 rfl ?_
 unfold mFishkeep2GuideMore at hm
 refine Cr<|tD (uB _ rfl rfl) ?_
 rintro _ _ ⟨S, rfl, rfl⟩
 refine tD (uB _ rfl rfl) ?_
 rintro _ _ ⟨bT, rfl, rfl⟩
 refine aS rfl<|Te<|Cs<|Cr ?_
 obtain ⟨ct, bo, hm⟩ := bS hm
 refine tD (uW _ call7 rfl (fun w ho => cFishkeep2AwakeGuide _ [] ((hG.le lr).old ho) ct bo) (fun _ _ _ h => h.2.symm)) ?_
 rintro _ _ ⟨⟨_, rfl, _⟩, rfl⟩
 refine tS (sn2 rfl)<|Te ?_
 refine cM hm rfl (fun hm => ?_) fun hm => ?_
 refine Cr<|aS rfl<|Te<|Ct<|Xr ?_
 obtain rfl := o1 hm
 exact rO ⟨rfl, rfl⟩ lr
 refine Ck<|Xn<|Cs<|Cr ?_
 obtain ⟨cu, bp, hm⟩ := bS hm
 refine tD (uW _ call8 rfl (fun w ho => cFishkeep2Guides _ [] ((hG.le lr).old ho) cu bp) (fun _ _ _ h => h.2.symm)) ?_
 rintro _ _ ⟨⟨_, rfl, _⟩, rfl⟩
 refine tS (sn2 rfl)<|Te ?_
 refine cM hm rfl (fun hm => ?_) fun hm => ?_
 refine Cr<|aS rfl<|Te<|Ct<|Xr ?_
 obtain rfl := o1 hm
 exact rO ⟨rfl, rfl⟩ lr
 refine Ck<|Xn ?_
 obtain ⟨I, b7, b8⟩ := bS hm
 refine Cj (fun aZ e' hp' => ∃ aO Y ac T, [(2, iv ao), (3, iv ai), (4, iv aj), (5, iv O), (6, pb S), (13, pb aO)] = e' ∧ (S, Cl 25 [sv A2 s1.Trains c3, sv A5 s1.Turns c6]) :: (aO, Cl 25 [sv Y I ac, sn]) :: (T ++ R) = hp' ∧ b.Le aZ ∧ OS 47 (OT.fr rApiTrain) aZ.w (sv Y I ac) I T ∧ (Y = none ↔ I = [])) ?_ ?_
 have hm := b7
 obtain ⟨q, ad, hm⟩ := bS hm
 obtain ⟨_, ae, hm⟩ := bS hm
 refine D_drawS ((bT, Cl 47 [iv g.No, iv g.Stock, sv A9 g.Stops E, sv K g.Legs L]) :: (S, Cl 25 [sv A2 s1.Trains c3, sv A5 s1.Turns c6]) :: R) mixed ?_
 refine D_tail (fun bU e' hp' => ∃ m B C p D, [(2, iv ao), (3, iv ai), (4, iv aj), (5, iv O), (6, pb S), (13, pb p), (30, sv B q C), (32, .slice (some ⟨D, 0, none⟩) 1 1)] = e' ∧ (p, Cl 25 [sn, sn]) :: (D, Cl 47 [iv g.No, iv g.Stock, sv A9 g.Stops E, sv K g.Legs L]) :: (bT, Cl 47 [iv g.No, iv g.Stock, sv A9 g.Stops E, sv K g.Legs L]) :: (S, Cl 25 [sv A2 s1.Trains c3, sv A5 s1.Turns c6]) :: (m ++ R) = hp' ∧ OS 47 (OT.fr rApiTrain) bU.w (sv B q C) q m) 3 #[true, true, true, true, true, false, false, true, false] ?_ (fun tl636 => ?_)
 rintro bU _ _ W ⟨m, B, C, p, D, rfl, rfl, cv⟩
 have ae := room_some ae
 refine Da [5] (by kernel_rfl) rfl ?_
 refine Rd2 W rfl rfl (uQ (r := rApiTrain) (l := q) [_, _, _, _] R [[iv g.No, iv g.Stock, sv A9 g.Stops E, sv K g.Legs L]] [g] rfl (by decide) sl22 inf47 rfl rfl rfl rfl cv rfl (fun w ho => Rd.own (i := 1) ho rfl) ⟨⟨[iv g.No], _, rfl, rfl, ⟨[iv g.Stock], _, rfl, rfl, ⟨[sv A9 g.Stops E], _, rfl, (RT.list_mk (b5.le W)), (RT.list_mk (b6.le W))⟩⟩⟩, trivial⟩ ae) ?_ ?_
 rintro _ _ ⟨Z, rfl, A⟩
 obtain ⟨x, y, rfl, _⟩ := A.form
 refine iR<|Da [6] (by kernel_rfl) rfl ?_
 refine Rd2 W rfl rfl (Stable.does (sB (v := .agg #[.slice x (q ++ [g]).length y, sn]) [(0, .slice x (q ++ [g]).length y)] rfl (fun _ => by kernel_rfl))) ?_ ?_
 rintro _ _ ⟨rfl, rfl⟩
 refine iR<|Da [8] (by kernel_rfl) rfl ?_
 refine Rd2 W rfl rfl (uN (vs := [_, _]) 0 2 rfl rfl rfl siz25 rfl (mc rfl (mc rfl mn)) rfl (by simp)) ?_ ?_
 rintro _ _ rfl
 refine ⟨.inl (by kernel_rfl), ?_⟩
 refine Dd (by kernel_rfl) ?_
 obtain rfl := o1 hm
 exact jJ ⟨p, x, y, Z, rfl, rfl, W, A, (OS.nz A (by simp))⟩
 exact Rn
 exact Rn
 exact Rn
 refine Ei lr (.refl _)<|E0 0 rfl (sF rfl fld25_0)<|Es 1 rfl (sL 1 rfl one22 rfl rfl)<|Es 3 rfl (sD (vs := [_, _, _, _]) 0 4 rfl agg47 rfl rfl rfl)<|Eo<|Da [2, 4, 7] (by kernel_rfl) rfl ?_
 refine Rg lr rfl rfl _ call19 rfl (cSlicesClone_2 _ _ s1.Trains A2 c3 h4 q ad) ?_ ?_
 rintro _ a0 _ a ⟨B, C, m, rfl, rfl, J⟩
 refine iR<|d_in1 [] [_, _] m R rfl<|Da [4, 7] (by kernel_rfl) rfl ?_
 refine Rd2 a rfl rfl (u_bslice (el := 47) [(0, .agg #[iv g.No, iv g.Stock, sv A9 g.Stops E, sv K g.Legs L])] [iv g.No, iv g.Stock, sv A9 g.Stops E, sv K g.Legs L] rfl (fun _ => by kernel_rfl)) ?_ ?_
 rintro _ _ ⟨D, rfl, rfl⟩
 refine iR ?_
 have ae := room_some ae
 refine Da [5, 7] (by kernel_rfl) rfl ?_
 refine Rd2 a rfl rfl (uQ (r := rApiTrain) (l := q) [_, _, _] R [[iv g.No, iv g.Stock, sv A9 g.Stops E, sv K g.Legs L]] [g] rfl (by decide) sl22 inf47 rfl rfl rfl rfl J rfl (fun w ho => Rd.own (i := 0) ho rfl) ⟨⟨[iv g.No], _, rfl, rfl, ⟨[iv g.Stock], _, rfl, rfl, ⟨[sv A9 g.Stops E], _, rfl, (RT.list_mk (b5.le a)), (RT.list_mk (b6.le a))⟩⟩⟩, trivial⟩ ae) ?_ ?_
 rintro _ _ ⟨Z, rfl, A⟩
 obtain ⟨x, y, rfl, _⟩ := A.form
 refine iR<|Da [6, 7] (by kernel_rfl) rfl ?_
 refine Rd2 a rfl rfl (Stable.does (sB (v := .agg #[.slice x (q ++ [g]).length y, sn]) [(0, .slice x (q ++ [g]).length y)] rfl (fun _ => by kernel_rfl))) ?_ ?_
 rintro _ _ ⟨rfl, rfl⟩
 refine iR<|Da [7] (by kernel_rfl) rfl ?_
 refine Rd2 a rfl rfl (uA [sn, sn] zero25 rfl) ?_ ?_
 rintro _ _ ⟨p, rfl, rfl⟩
 refine iR<|Da [8] (by kernel_rfl) rfl ?_
 refine Rd2 a rfl rfl (uN (vs := [_, _]) 0 2 rfl rfl rfl siz25 rfl (mc rfl (mc rfl mn)) rfl (by simp)) ?_ ?_
 rintro _ _ rfl
 refine ⟨.inl (by kernel_rfl), ?_⟩
 refine Dd (by kernel_rfl) ?_
 obtain rfl := o1 hm
 exact jJ ⟨p, x, y, Z, rfl, rfl, a, A, (OS.nz A (by simp))⟩
 exact Rn
 exact Rn
 refine Rd2 a rfl rfl (uA [sn, sn] zero25 rfl) ?_ ?_
 rintro _ _ ⟨p, rfl, rfl⟩
 refine iR<|Da [6] (by kernel_rfl) rfl ?_
 refine Rd2 a rfl rfl (Stable.does (sB (v := .agg #[.slice x (q ++ [g]).length y, sn]) [(0, .slice x (q ++ [g]).length y)] rfl (fun _ => by kernel_rfl))) ?_ ?_
 rintro _ _ ⟨rfl, rfl⟩
 refine iR<|Da [8] (by kernel_rfl) rfl ?_
 refine Rd2 a rfl rfl (uN (vs := [_, _]) 0 2 rfl rfl rfl siz25 rfl (mc rfl (mc rfl mn)) rfl (by simp)) ?_ ?_
 rintro _ _ rfl
 refine ⟨.inl (by kernel_rfl), ?_⟩
 refine Dd (by kernel_rfl) ?_
 obtain rfl := o1 hm
 exact jJ ⟨p, x, y, Z, rfl, rfl, a, A, (OS.nz A (by simp))⟩
 exact Rn
 exact Rn
 exact Rn
 refine Rd2 a rfl rfl (uA [sn, sn] zero25 rfl) ?_ ?_
 rintro _ _ ⟨p, rfl, rfl⟩
 refine iR ?_
 exact dG tl636 ⟨m, B, C, p, D, rfl, rfl, J⟩ a
 exact Rn
 refine Rd2 a rfl rfl (uA [sn, sn] zero25 rfl) ?_ ?_
 rintro _ _ ⟨p, rfl, rfl⟩
 refine iR<|Da [4] (by kernel_rfl) rfl ?_
 refine Rd2 a rfl rfl (u_bslice (el := 47) [(0, .agg #[iv g.No, iv g.Stock, sv A9 g.Stops E, sv K g.Legs L])] [iv g.No, iv g.Stock, sv A9 g.Stops E, sv K g.Legs L] rfl (fun _ => by kernel_rfl)) ?_ ?_
 rintro _ _ ⟨D, rfl, rfl⟩
 refine iR ?_
 exact dG tl636 ⟨m, B, C, p, D, rfl, rfl, J⟩ a
 exact Rn
 exact Rn
 refine Rd2 lr rfl rfl (u_bslice (el := 47) [(0, .agg #[iv g.No, iv g.Stock, sv A9 g.Stops E, sv K g.Legs L])] [iv g.No, iv g.Stock, sv A9 g.Stops E, sv K g.Legs L] rfl (fun _ => by kernel_rfl)) ?_ ?_
 rintro _ _ ⟨D, rfl, rfl⟩
 refine iR<|Da [2, 7] (by kernel_rfl) rfl ?_
 refine Rg lr rfl rfl _ call19 rfl (cSlicesClone_2 _ _ s1.Trains A2 c3 h4 q ad) ?_ ?_
 rintro _ a0 _ a ⟨B, C, m, rfl, rfl, J⟩
 refine iR<|d_in1 [] [_, _, _] m R rfl ?_
 have ae := room_some ae
 refine Da [5, 7] (by kernel_rfl) rfl ?_
 refine Rd2 a rfl rfl (uQ (r := rApiTrain) (l := q) [_, _, _] R [[iv g.No, iv g.Stock, sv A9 g.Stops E, sv K g.Legs L]] [g] rfl (by decide) sl22 inf47 rfl rfl rfl rfl J rfl (fun w ho => Rd.own (i := 0) ho rfl) ⟨⟨[iv g.No], _, rfl, rfl, ⟨[iv g.Stock], _, rfl, rfl, ⟨[sv A9 g.Stops E], _, rfl, (RT.list_mk (b5.le a)), (RT.list_mk (b6.le a))⟩⟩⟩, trivial⟩ ae) ?_ ?_
 rintro _ _ ⟨Z, rfl, A⟩
 obtain ⟨x, y, rfl, _⟩ := A.form
 refine iR<|Da [6, 7] (by kernel_rfl) rfl ?_
 refine Rd2 a rfl rfl (Stable.does (sB (v := .agg #[.slice x (q ++ [g]).length y, sn]) [(0, .slice x (q ++ [g]).length y)] rfl (fun _ => by kernel_rfl))) ?_ ?_
 rintro _ _ ⟨rfl, rfl⟩
 refine iR<|Da [7] (by kernel_rfl) rfl ?_
 refine Rd2 a rfl rfl (uA [sn, sn] zero25 rfl) ?_ ?_
 rintro _ _ ⟨p, rfl, rfl⟩
 refine iR<|Da [8] (by kernel_rfl) rfl ?_
 refine Rd2 a rfl rfl (uN (vs := [_, _]) 0 2 rfl rfl rfl siz25 rfl (mc rfl (mc rfl mn)) rfl (by simp)) ?_ ?_
 rintro _ _ rfl
 refine ⟨.inl (by kernel_rfl), ?_⟩
 refine Dd (by kernel_rfl) ?_
 obtain rfl := o1 hm
 exact jJ ⟨p, x, y, Z, rfl, rfl, a, A, (OS.nz A (by simp))⟩
 exact Rn
 exact Rn
 refine Rd2 a rfl rfl (uA [sn, sn] zero25 rfl) ?_ ?_
 rintro _ _ ⟨p, rfl, rfl⟩
 refine iR<|Da [6] (by kernel_rfl) rfl ?_
 refine Rd2 a rfl rfl (Stable.does (sB (v := .agg #[.slice x (q ++ [g]).length y, sn]) [(0, .slice x (q ++ [g]).length y)] rfl (fun _ => by kernel_rfl))) ?_ ?_
 rintro _ _ ⟨rfl, rfl⟩
 refine iR<|Da [8] (by kernel_rfl) rfl ?_
 refine Rd2 a rfl rfl (uN (vs := [_, _]) 0 2 rfl rfl rfl siz25 rfl (mc rfl (mc rfl mn)) rfl (by simp)) ?_ ?_
 rintro _ _ rfl
 refine ⟨.inl (by kernel_rfl), ?_⟩
 refine Dd (by kernel_rfl) ?_
 obtain rfl := o1 hm
 exact jJ ⟨p, x, y, Z, rfl, rfl, a, A, (OS.nz A (by simp))⟩
 exact Rn
 exact Rn
 exact Rn
 refine Rd2 a rfl rfl (uA [sn, sn] zero25 rfl) ?_ ?_
 rintro _ _ ⟨p, rfl, rfl⟩
 refine iR ?_
 exact dG tl636 ⟨m, B, C, p, D, rfl, rfl, J⟩ a
 exact Rn
 refine Rd2 lr rfl rfl (uA [sn, sn] zero25 rfl) ?_ ?_
 rintro _ _ ⟨p, rfl, rfl⟩
 refine iR<|Da [2] (by kernel_rfl) rfl ?_
 refine Rg lr rfl rfl _ call19 rfl (cSlicesClone_2 _ _ s1.Trains A2 c3 h4 q ad) ?_ ?_
 rintro _ a0 _ a ⟨B, C, m, rfl, rfl, J⟩
 refine iR<|d_in1 [] [_, _, _, _] m R rfl ?_
 exact dG tl636 ⟨m, B, C, p, D, rfl, rfl, J⟩ a
 exact Rn
 exact Rn
 refine Rd2 lr rfl rfl (uA [sn, sn] zero25 rfl) ?_ ?_
 rintro _ _ ⟨p, rfl, rfl⟩
 refine iR<|Da [2, 4] (by kernel_rfl) rfl ?_
 refine Rg lr rfl rfl _ call19 rfl (cSlicesClone_2 _ _ s1.Trains A2 c3 h4 q ad) ?_ ?_
 rintro _ a0 _ a ⟨B, C, m, rfl, rfl, J⟩
 refine iR<|d_in1 [] [_, _, _] m R rfl<|Da [4] (by kernel_rfl) rfl ?_
 refine Rd2 a rfl rfl (u_bslice (el := 47) [(0, .agg #[iv g.No, iv g.Stock, sv A9 g.Stops E, sv K g.Legs L])] [iv g.No, iv g.Stock, sv A9 g.Stops E, sv K g.Legs L] rfl (fun _ => by kernel_rfl)) ?_ ?_
 rintro _ _ ⟨D, rfl, rfl⟩
 refine iR ?_
 exact dG tl636 ⟨m, B, C, p, D, rfl, rfl, J⟩ a
 exact Rn
 refine Rd2 lr rfl rfl (u_bslice (el := 47) [(0, .agg #[iv g.No, iv g.Stock, sv A9 g.Stops E, sv K g.Legs L])] [iv g.No, iv g.Stock, sv A9 g.Stops E, sv K g.Legs L] rfl (fun _ => by kernel_rfl)) ?_ ?_
 rintro _ _ ⟨D, rfl, rfl⟩
 refine iR<|Da [2] (by kernel_rfl) rfl ?_
 refine Rg lr rfl rfl _ call19 rfl (cSlicesClone_2 _ _ s1.Trains A2 c3 h4 q ad) ?_ ?_
 rintro _ a0 _ a ⟨B, C, m, rfl, rfl, J⟩
 refine iR<|d_in1 [] [_, _, _, _] m R rfl ?_
 exact dG tl636 ⟨m, B, C, p, D, rfl, rfl, J⟩ a
 exact Rn
 exact Rn
 exact Rn
 rintro aZ _ _ ⟨aO, Y, ac, T, rfl, rfl, e, bV, cZ⟩
 have hm := b8
 refine Cr<|tS (sF rfl fld25_1)<|tD (uS 0 rfl rfl siz23 rfl rfl (by simp)) ?_
 rintro _ _ rfl
 refine Te<|Cs ?_
 obtain ⟨cw, b9, ca⟩ := bS hm
 refine Cj (fun bW e' hp' => [(2, iv ao), (3, iv ai), (4, iv aj), (5, iv O), (6, pb S), (13, pb aO), (51, bv cw)] = e' ∧ (S, Cl 25 [sv A2 s1.Trains c3, sn]) :: (aO, Cl 25 [sv Y I ac, sn]) :: (T ++ R) = hp' ∧ aZ.Le bW) ?_ ?_
 have hm := b9
 refine Cg<|tS (sD (vs := [_, _]) 0 2 rfl agg25 rfl rfl rfl) ?_
 obtain ⟨cx, bq, hm⟩ := bS hm
 refine tD (uW _ call9 rfl (fun w ho => cFishref2GuideFault _ [] (⟨s1.Trains, []⟩ : ApiDay) A2 c3 none 0 ((h4.le e).old ho) FZ.nil cx bq) (fun _ _ _ h => h.2.symm)) ?_
 rintro _ _ ⟨⟨_, rfl, _⟩, rfl⟩
 refine Tb rfl (q2 rfl rfl) (fun aV => ?_) (fun aV => ?_)
 rw [if_pos aV] at hm
 refine mV rfl<|nO<|nO<|nO<|tS (pT rfl rfl)<|mV rfl<|nO<|nO<|nO<|nO ?_
 refine nO<|nO<|tS (pT rfl rfl)<|Tn ?_
 obtain rfl := o1 hm
 exact jJ ⟨rfl, rfl, lr⟩
 rw [if_neg aV] at hm
 refine mV rfl<|yS<|tS (sD (vs := [_, _]) 1 2 rfl agg25 rfl rfl rfl)<|yS ?_
 obtain ⟨cy, br, hm⟩ := bS hm
 refine tD (uW _ call9 rfl (fun w ho => cFishref2GuideFault _ [] (⟨I, []⟩ : ApiDay) Y ac none 0 (OS.now (o := (OT.fr rApiTrain)) (l := I) (hs := T) bV ho (.cons _ (.cons _ (List.sublist_append_left _ _)))) FZ.nil cy br) (fun _ _ _ h => h.2.symm)) ?_
 rintro _ _ ⟨⟨_, rfl, _⟩, rfl⟩
 refine yS ?_
 refine Tb rfl (q2 rfl rfl) (fun aW => ?_) (fun aW => ?_)
 rw [if_pos aW] at hm
 refine tS (pF rfl rfl)<|mV rfl<|nO<|nO<|nO<|nO<|nO<|nO<|tS (pT rfl rfl)<|Tn ?_
 obtain rfl := o1 hm
 exact jJ ⟨rfl, rfl, lr⟩
 rw [if_neg aW] at hm
 refine tS (pF rfl rfl)<|mV rfl<|yS<|mV rfl<|yS<|mV rfl<|yS<|mV rfl<|yS<|mV rfl ?_
 refine yS ?_
 obtain ⟨cz, bs, hm⟩ := bS hm
 refine tD (uW _ call10 rfl (fun w ho => cFishref2SearchFault _ [] O ao ai aj true true cz bs) (fun _ _ _ h => h.2.symm)) ?_
 rintro _ _ ⟨⟨_, rfl, _⟩, rfl⟩
 refine yS<|tS (q2 rfl rfl)<|tS (pF rfl rfl)<|Tn ?_
 obtain rfl := o1 hm
 exact jJ ⟨rfl, rfl, lr⟩
 rintro bW _ _ ⟨rfl, rfl, f⟩
 have hm := ca
 refine cB hm rfl (fun hm => ?_) fun hm => ?_
 refine Cr<|aS rfl<|Te<|Ct<|Xr ?_
 obtain rfl := o1 hm
 exact rO ⟨rfl, rfl⟩ (e.trans f)
 refine Ck<|Xn<|Cr<|tS (sD (vs := [_, _]) 0 2 rfl agg25 rfl rfl rfl)<|mV rfl<|mV rfl<|mV rfl<|mV rfl ?_
 obtain ⟨⟨aB, z⟩, bt, hm⟩ := bS hm
 have hm := (unc2E hm)
 refine Tg _ rfl call12 rfl (cGuideEarliest _ _ (hG.le (e.trans f)) (⟨s1.Trains, []⟩ : ApiDay) ao aj ai O A2 c3 none 0 (h4.le (e.trans f)) FZ.nil aB z bt) ?_
 rintro _ ds _ k ⟨am, an, t, rfl, rfl, aq, dt⟩
 refine t_in1 [] [_, _] t (T ++ R) rfl<|mV rfl<|tS (st_extract rfl rfl)<|tS (st_extract rfl rfl)<|tD (uA [sn] zero33 rfl) ?_
 rintro _ _ ⟨bX, rfl, rfl⟩
 refine tD (uN (vs := [_]) 0 1 rfl rfl rfl siz33 rfl (mc rfl mn) rfl (by simp)) ?_
 rintro _ _ rfl
 refine aS rfl<|Te<|Cr<|tS (sD (vs := [_, _]) 2 2 rfl agg25 rfl rfl rfl)<|mV rfl<|mV rfl<|mV rfl<|mV rfl<|t_front2 [_, _, _] t T R rfl<|t_frz [_, _, _] T (t ++ R) rfl ?_
 intro du d cb
 have a1 := OS.frz (l := I) (bV.le (f.trans k)) d.cells cb
 obtain ⟨⟨bY, ar⟩, bu, hm⟩ := bS hm
 have hm := (unc2E hm)
 refine Tg _ rfl call12 rfl (cGuideEarliest _ _ (hG.le (e.trans (f.trans (k.trans d)))) (⟨I, []⟩ : ApiDay) ao aj ai O Y ac none 0 a1 FZ.nil bY ar bu) ?_
 rintro _ cA _ c ⟨a7, a8, U, rfl, rfl, a9, dv⟩
 refine t_in1 [] [_, _, _] U (t ++ R) rfl<|mV rfl<|tS (st_extract rfl rfl)<|tS (st_extract rfl rfl)<|tD (uA [sn] zero33 rfl) ?_
 rintro _ _ ⟨dw, rfl, rfl⟩
 refine tD (uN (vs := [_]) 0 1 rfl rfl rfl siz33 rfl (mc rfl mn) rfl (by simp)) ?_
 rintro _ _ rfl
 refine aS rfl<|Te<|Cs ?_
 obtain ⟨cC, cc, cd⟩ := bS hm
 refine Cj (fun bZ e' hp' => [(2, iv ao), (3, iv ai), (4, iv aj), (5, iv O), (6, pb S), (14, pb bX), (15, iv aB), (98, bv cC)] = e' ∧ (S, Cl 25 [sv A2 s1.Trains c3, sn]) :: (bX, Cl 33 [sv am z an]) :: (t ++ R) = hp' ∧ cA.Le bZ) ?_ ?_
 have hm := cc
 by_cases aa : aB = 0
 rw [if_pos aa] at hm
 by_cases ak : bY ≠ 0
 rw [if_pos ak] at hm
 refine Di mixed (.refl _)<|E0 0 rfl (sM rfl)<|E0 1 rfl (eT rfl rfl aa)<|E0 2 rfl (sM rfl)<|Yz 3 72 rfl (sM rfl)<|Yz 4 72 rfl (st_neq_t rfl rfl ak)<|Yz 5 72 rfl (sM rfl)<|eN 6 rfl<|eN 7 rfl<|eN 8 rfl ?_
 refine eN 9 rfl<|eN 10 rfl<|Yz 11 72 rfl (pT rfl rfl)<|Yz 12 72 rfl (sM rfl)<|eN 13 rfl<|eN 14 rfl<|eN 15 rfl<|eN 16 rfl<|eN 17 rfl<|Yz 18 72 rfl (pT rfl rfl) ?_
 refine Yz 19 72 rfl (sM rfl)<|eN 20 rfl<|eN 21 rfl<|eN 22 rfl<|eN 23 rfl<|eN 24 rfl<|eN 25 rfl<|eN 26 rfl<|Yz 27 72 rfl (pT rfl rfl)<|E0 28 rfl (pT rfl rfl) ?_
 refine Eo<|Dd (by kernel_rfl) ?_
 obtain rfl := o1 hm
 exact jJ ⟨rfl, rfl, lr⟩
 rw [if_neg ak] at hm
 obtain ⟨a2, aD, hm⟩ := bS hm
 by_cases au : a2 ≠ 0
 rw [if_pos au] at hm
 refine Di mixed (.refl _)<|E0 0 rfl (sM rfl)<|E0 1 rfl (eT rfl rfl aa)<|E0 2 rfl (sM rfl)<|Yz 3 72 rfl (sM rfl)<|Yz 4 72 rfl (st_neq_f rfl rfl ak)<|Yz 5 72 rfl (sM rfl)<|Ey 6 75 rfl (sD (vs := [_, _]) 2 2 rfl agg25 rfl rfl rfl)<|Ey 7 75 rfl (sD (vs := [_]) 1 1 rfl agg33 rfl rfl rfl)<|Yz 8 75 rfl (sM rfl) ?_
 refine Eo<|Da [9] (by kernel_rfl) rfl ?_
 refine R_doY lr rfl rfl 75 rfl rfl rfl (uW _ call14 rfl (fun w ho => cFishref2JourneyFault _ [] (⟨s1.Trains, []⟩ : ApiDay) (⟨z⟩ : GuideJourney) O true A2 c3 none 0 am an ((h4.le (e.trans (f.trans (k.trans (d.trans c))))).old ho) FZ.nil (OS.now (o := (OT.fr rGuideRide)) (l := z) (hs := t) (aq.le (d.trans c)) ho (.cons _ (.cons _ (.cons _ (.cons _ (ss U (List.sublist_append_left _ _))))))) a2 aD) (fun _ _ _ h => h.2.symm)) ?_ ?_
 rintro _ _ ⟨⟨_, rfl, _⟩, rfl⟩
 refine iR<|Ei lr (.refl _)<|Yz 10 75 rfl (st_neq_t rfl rfl au)<|Yz 11 72 rfl (pF rfl rfl)<|Yz 12 72 rfl (sM rfl)<|eN 13 rfl<|eN 14 rfl<|eN 15 rfl<|eN 16 rfl<|eN 17 rfl ?_
 refine Yz 18 72 rfl (pT rfl rfl)<|Yz 19 72 rfl (sM rfl)<|eN 20 rfl<|eN 21 rfl<|eN 22 rfl<|eN 23 rfl<|eN 24 rfl<|eN 25 rfl<|eN 26 rfl<|Yz 27 72 rfl (pT rfl rfl) ?_
 refine E0 28 rfl (pT rfl rfl)<|Eo<|Dd (by kernel_rfl) ?_
 obtain rfl := o1 hm
 exact jJ ⟨rfl, rfl, lr⟩
 exact Rn
 rw [if_neg au] at hm
 obtain ⟨ba, a3, hm⟩ := bS hm
 by_cases aE : ba ≠ 0
 rw [if_pos aE] at hm
 refine Di mixed (.refl _)<|E0 0 rfl (sM rfl)<|E0 1 rfl (eT rfl rfl aa)<|E0 2 rfl (sM rfl)<|Yz 3 72 rfl (sM rfl)<|Yz 4 72 rfl (st_neq_f rfl rfl ak)<|Yz 5 72 rfl (sM rfl)<|Ey 6 75 rfl (sD (vs := [_, _]) 2 2 rfl agg25 rfl rfl rfl)<|Ey 7 75 rfl (sD (vs := [_]) 1 1 rfl agg33 rfl rfl rfl)<|Yz 8 75 rfl (sM rfl) ?_
 refine Eo<|Da [9] (by kernel_rfl) rfl ?_
 refine R_doY lr rfl rfl 75 rfl rfl rfl (uW _ call14 rfl (fun w ho => cFishref2JourneyFault _ [] (⟨s1.Trains, []⟩ : ApiDay) (⟨z⟩ : GuideJourney) O true A2 c3 none 0 am an ((h4.le (e.trans (f.trans (k.trans (d.trans c))))).old ho) FZ.nil (OS.now (o := (OT.fr rGuideRide)) (l := z) (hs := t) (aq.le (d.trans c)) ho (.cons _ (.cons _ (.cons _ (.cons _ (ss U (List.sublist_append_left _ _))))))) a2 aD) (fun _ _ _ h => h.2.symm)) ?_ ?_
 rintro _ _ ⟨⟨_, rfl, _⟩, rfl⟩
 refine iR<|Ei lr (.refl _)<|Yz 10 75 rfl (st_neq_f rfl rfl au)<|Yz 11 72 rfl (pF rfl rfl)<|Yz 12 72 rfl (sM rfl)<|Ey 13 82 rfl (sD (vs := [_, _]) 3 2 rfl agg25 rfl rfl rfl)<|Ey 14 82 rfl (sD (vs := [_]) 0 1 rfl agg33 rfl rfl rfl)<|Yz 15 82 rfl (sM rfl)<|Eo<|Da [16] (by kernel_rfl) rfl ?_
 refine R_doY lr rfl rfl 82 rfl rfl rfl (uW _ call14 rfl (fun w ho => cFishref2JourneyFault _ [] (⟨I, []⟩ : ApiDay) (⟨ar⟩ : GuideJourney) O true Y ac none 0 a7 a8 ((a1.le c).old ho) FZ.nil (OS.now (o := (OT.fr rGuideRide)) (l := ar) (hs := U) a9 ho (.cons _ (.cons _ (.cons _ (.cons _ (List.sublist_append_left _ _)))))) ba a3) (fun _ _ _ h => h.2.symm)) ?_ ?_
 rintro _ _ ⟨⟨_, rfl, _⟩, rfl⟩
 refine iR<|Ei lr (.refl _)<|Yz 17 82 rfl (st_neq_t rfl rfl aE)<|Yz 18 72 rfl (pF rfl rfl)<|Yz 19 72 rfl (sM rfl)<|eN 20 rfl<|eN 21 rfl<|eN 22 rfl<|eN 23 rfl<|eN 24 rfl ?_
 refine eN 25 rfl<|eN 26 rfl<|Yz 27 72 rfl (pT rfl rfl)<|E0 28 rfl (pT rfl rfl)<|Eo<|Dd (by kernel_rfl) ?_
 obtain rfl := o1 hm
 exact jJ ⟨rfl, rfl, lr⟩
 exact Rn
 exact Rn
 rw [if_neg aE] at hm
 obtain ⟨cD, bw, hm⟩ := bS hm
 obtain ⟨cE, bx, hm⟩ := bS hm
 refine Di mixed (.refl _)<|E0 0 rfl (sM rfl)<|E0 1 rfl (eT rfl rfl aa)<|E0 2 rfl (sM rfl)<|Yz 3 72 rfl (sM rfl)<|Yz 4 72 rfl (st_neq_f rfl rfl ak)<|Yz 5 72 rfl (sM rfl)<|Ey 6 75 rfl (sD (vs := [_, _]) 2 2 rfl agg25 rfl rfl rfl)<|Ey 7 75 rfl (sD (vs := [_]) 1 1 rfl agg33 rfl rfl rfl)<|Yz 8 75 rfl (sM rfl) ?_
 refine Eo<|Da [9] (by kernel_rfl) rfl ?_
 refine R_doY lr rfl rfl 75 rfl rfl rfl (uW _ call14 rfl (fun w ho => cFishref2JourneyFault _ [] (⟨s1.Trains, []⟩ : ApiDay) (⟨z⟩ : GuideJourney) O true A2 c3 none 0 am an ((h4.le (e.trans (f.trans (k.trans (d.trans c))))).old ho) FZ.nil (OS.now (o := (OT.fr rGuideRide)) (l := z) (hs := t) (aq.le (d.trans c)) ho (.cons _ (.cons _ (.cons _ (.cons _ (ss U (List.sublist_append_left _ _))))))) a2 aD) (fun _ _ _ h => h.2.symm)) ?_ ?_
 rintro _ _ ⟨⟨_, rfl, _⟩, rfl⟩
 refine iR<|Ei lr (.refl _)<|Yz 10 75 rfl (st_neq_f rfl rfl au)<|Yz 11 72 rfl (pF rfl rfl)<|Yz 12 72 rfl (sM rfl)<|Ey 13 82 rfl (sD (vs := [_, _]) 3 2 rfl agg25 rfl rfl rfl)<|Ey 14 82 rfl (sD (vs := [_]) 0 1 rfl agg33 rfl rfl rfl)<|Yz 15 82 rfl (sM rfl)<|Eo<|Da [16] (by kernel_rfl) rfl ?_
 refine R_doY lr rfl rfl 82 rfl rfl rfl (uW _ call14 rfl (fun w ho => cFishref2JourneyFault _ [] (⟨I, []⟩ : ApiDay) (⟨ar⟩ : GuideJourney) O true Y ac none 0 a7 a8 ((a1.le c).old ho) FZ.nil (OS.now (o := (OT.fr rGuideRide)) (l := ar) (hs := U) a9 ho (.cons _ (.cons _ (.cons _ (.cons _ (List.sublist_append_left _ _)))))) ba a3) (fun _ _ _ h => h.2.symm)) ?_ ?_
 rintro _ _ ⟨⟨_, rfl, _⟩, rfl⟩
 refine iR<|Ei lr (.refl _)<|Yz 17 82 rfl (st_neq_f rfl rfl aE)<|Yz 18 72 rfl (pF rfl rfl)<|Yz 19 72 rfl (sM rfl)<|Ey 20 89 rfl (sD (vs := [_, _]) 3 2 rfl agg25 rfl rfl rfl)<|Ey 21 89 rfl (sD (vs := [_]) 0 1 rfl agg33 rfl rfl rfl)<|Ey 23 89 rfl (sD (vs := [_, _]) 2 2 rfl agg25 rfl rfl rfl)<|Ey 24 89 rfl (sD (vs := [_]) 1 1 rfl agg33 rfl rfl rfl)<|Eo ?_
 refine Da [22] (by kernel_rfl) rfl ?_
 refine R_doY lr rfl rfl 89 rfl rfl rfl (uW _ call15 rfl (fun w ho => cFishref2Arrives _ [] (⟨I, []⟩ : ApiDay) (⟨ar⟩ : GuideJourney) Y ac none 0 a7 a8 ((a1.le c).old ho) FZ.nil (OS.now (o := (OT.fr rGuideRide)) (l := ar) (hs := U) a9 ho (.cons _ (.cons _ (.cons _ (.cons _ (List.sublist_append_left _ _)))))) cD bw) (fun _ _ _ h => h.2.symm)) ?_ ?_
 rintro _ _ ⟨⟨_, rfl, _⟩, rfl⟩
 refine iR<|Da [25] (by kernel_rfl) rfl ?_
 refine R_doY lr rfl rfl 89 rfl rfl rfl (uW _ call15 rfl (fun w ho => cFishref2Arrives _ [] (⟨s1.Trains, []⟩ : ApiDay) (⟨z⟩ : GuideJourney) A2 c3 none 0 am an ((h4.le (e.trans (f.trans (k.trans (d.trans c))))).old ho) FZ.nil (OS.now (o := (OT.fr rGuideRide)) (l := z) (hs := t) (aq.le (d.trans c)) ho (.cons _ (.cons _ (.cons _ (.cons _ (ss U (List.sublist_append_left _ _))))))) cE bx) (fun _ _ _ h => h.2.symm)) ?_ ?_
 rintro _ _ ⟨⟨_, rfl, _⟩, rfl⟩
 refine iR<|Ei lr (.refl _)<|Yz 26 89 rfl (q5 rfl rfl)<|Yz 27 72 rfl (pF rfl rfl)<|E0 28 rfl (pT rfl rfl)<|Eo<|Dd (by kernel_rfl) ?_
 obtain rfl := o1 hm
 exact jJ ⟨rfl, rfl, lr⟩
 exact Rn
 exact Rn
 exact Rn
 exact Rn
 rw [if_neg aa] at hm
 refine Di mixed (.refl _)<|E0 0 rfl (sM rfl)<|E0 1 rfl (eF rfl rfl aa)<|E0 2 rfl (sM rfl)<|eN 3 rfl<|eN 4 rfl<|eN 5 rfl<|eN 6 rfl<|eN 7 rfl<|eN 8 rfl ?_
 refine eN 9 rfl<|eN 10 rfl<|eN 11 rfl<|eN 12 rfl<|eN 13 rfl<|eN 14 rfl<|eN 15 rfl<|eN 16 rfl<|eN 17 rfl<|eN 18 rfl ?_
 refine eN 19 rfl<|eN 20 rfl<|eN 21 rfl<|eN 22 rfl<|eN 23 rfl<|eN 24 rfl<|eN 25 rfl<|eN 26 rfl<|eN 27 rfl<|E0 28 rfl (pF rfl rfl) ?_
 refine Eo<|Dd (by kernel_rfl) ?_
 obtain rfl := o1 hm
 exact jJ ⟨rfl, rfl, lr⟩
 rintro bZ _ _ ⟨rfl, rfl, n⟩
 have hm := cd
 refine cB hm rfl (fun hm => ?_) fun hm => ?_
 refine Cr<|aS rfl<|Te<|Ct<|Xr ?_
 obtain rfl := o1 hm
 exact rO ⟨rfl, rfl⟩ (e.trans (f.trans (k.trans (d.trans (c.trans n)))))
 refine Ck<|Xn<|Cr<|tS (sD (vs := [_, _]) 0 2 rfl agg25 rfl rfl rfl)<|mV rfl<|mV rfl<|mV rfl ?_
 obtain ⟨⟨b0, aP⟩, bz, hm⟩ := bS hm
 have hm := (unc2E hm)
 refine Tg _ rfl call20 rfl (cGuideReach _ _ (hG.le (e.trans (f.trans (k.trans (d.trans (c.trans n)))))) (⟨s1.Trains, []⟩ : ApiDay) ao aj O A2 c3 none 0 (h4.le (e.trans (f.trans (k.trans (d.trans (c.trans n)))))) FZ.nil b0 aP bz) ?_
 rintro _ cG _ s ⟨bb, bc, F, rfl, rfl, aC⟩
 refine t_in1 [] [_, _] F (t ++ R) rfl<|mV rfl<|tS (st_extract rfl rfl)<|tS (st_extract rfl rfl)<|aS rfl<|aS rfl<|Te<|Cs ?_
 obtain ⟨cH, ce, cf⟩ := bS hm
 refine Cj (fun b1 e' hp' => [(2, iv ao), (3, iv ai), (4, iv aj), (5, iv O), (6, pb S), (18, sv bb aP bc), (138, bv cH)] = e' ∧ (S, Cl 25 [sv A2 s1.Trains c3, sn]) :: (F ++ R) = hp' ∧ cG.Le b1) ?_ ?_
 have hm := ce
 by_cases H : b0 ≠ 0
 rw [if_pos H] at hm
 refine Di mixed (.refl _)<|E0 0 rfl (sM rfl)<|E0 1 rfl (st_neq_t rfl rfl H)<|E0 2 rfl (sM rfl)<|eN 3 rfl<|eN 4 rfl<|eN 5 rfl<|E0 6 rfl (pT rfl rfl)<|E0 7 rfl (sM rfl)<|eN 8 rfl ?_
 refine eN 9 rfl<|eN 10 rfl<|eN 11 rfl<|eN 12 rfl<|eN 13 rfl<|eN 14 rfl<|eN 15 rfl<|eN 16 rfl<|eN 17 rfl<|eN 18 rfl ?_
 refine eN 19 rfl<|E0 20 rfl (pT rfl rfl)<|E0 21 rfl (sM rfl)<|eN 22 rfl<|eN 23 rfl<|eN 24 rfl<|eN 25 rfl<|eN 26 rfl<|eN 27 rfl<|eN 28 rfl ?_
 refine eN 29 rfl<|eN 30 rfl<|E0 31 rfl (pT rfl rfl)<|Eo<|Dd (by kernel_rfl) ?_
 obtain rfl := o1 hm
 exact jJ ⟨rfl, rfl, lr⟩
 rw [if_neg H] at hm
 by_cases V : (aP.length : Int) ≠ 12
 rw [if_pos V] at hm
 refine Di mixed (.refl _)<|E0 0 rfl (sM rfl)<|E0 1 rfl (st_neq_f rfl rfl H)<|E0 2 rfl (sM rfl)<|Yz 3 109 rfl (sM rfl)<|Yz 4 109 rfl (sE rfl sl49)<|Yz 5 109 rfl (st_neq_t rfl rfl V)<|E0 6 rfl (pF rfl rfl)<|E0 7 rfl (sM rfl)<|eN 8 rfl ?_
 refine eN 9 rfl<|eN 10 rfl<|eN 11 rfl<|eN 12 rfl<|eN 13 rfl<|eN 14 rfl<|eN 15 rfl<|eN 16 rfl<|eN 17 rfl<|eN 18 rfl ?_
 refine eN 19 rfl<|E0 20 rfl (pT rfl rfl)<|E0 21 rfl (sM rfl)<|eN 22 rfl<|eN 23 rfl<|eN 24 rfl<|eN 25 rfl<|eN 26 rfl<|eN 27 rfl<|eN 28 rfl ?_
 refine eN 29 rfl<|eN 30 rfl<|E0 31 rfl (pT rfl rfl)<|Eo<|Dd (by kernel_rfl) ?_
 obtain rfl := o1 hm
 exact jJ ⟨rfl, rfl, lr⟩
 rw [if_neg V] at hm
 by_cases ab : aB = 0
 rw [if_pos ab] at hm
 obtain ⟨cJ, bd, hm⟩ := bS hm
 obtain ⟨a4, aF, hm⟩ := bS hm
 by_cases av : cJ ≠ a4
 rw [if_pos av] at hm
 refine Di mixed (.refl _)<|E0 0 rfl (sM rfl)<|E0 1 rfl (st_neq_f rfl rfl H)<|E0 2 rfl (sM rfl)<|Yz 3 109 rfl (sM rfl)<|Yz 4 109 rfl (sE rfl sl49)<|Yz 5 109 rfl (st_neq_f rfl rfl V)<|E0 6 rfl (pF rfl rfl)<|E0 7 rfl (sM rfl)<|Yz 8 114 rfl (sM rfl) ?_
 refine Yz 9 114 rfl (eT rfl rfl ab)<|Yz 10 114 rfl (sM rfl)<|Yz 11 117 rfl (sM rfl)<|Yz 12 117 rfl (sM rfl) ?_
 obtain ⟨aQ, aw, ax⟩ := iS bd
 obtain ⟨be, bf, b2, b3, bg, ay, af, az, ag, bh, a5⟩ := OS.get (sz := 1) rfl (by decide) aC ax
 obtain ⟨rfl, rfl⟩ := ay
 refine Yz 13 117 rfl (sI aQ rfl rfl aw ag az sl49)<|Ey 14 117 rfl (st_load_rd rfl one3 (fun w ho => af w _ ho (.cons _ (.cons _ (List.sublist_append_left _ _))) 0 _ rfl))<|Ey 15 117 rfl (sD (vs := [_, _]) 0 2 rfl agg25 rfl rfl rfl)<|Ey 16 117 rfl (sD (vs := [_]) 1 1 rfl agg33 rfl rfl rfl)<|Eo<|Da [17] (by kernel_rfl) rfl ?_
 refine R_doY lr rfl rfl 117 rfl rfl rfl (uW _ call15 rfl (fun w ho => cFishref2Arrives _ [] (⟨s1.Trains, []⟩ : ApiDay) (⟨z⟩ : GuideJourney) A2 c3 none 0 am an ((h4.le (e.trans (f.trans (k.trans (d.trans (c.trans (n.trans s))))))).old ho) FZ.nil (OS.now (o := (OT.fr rGuideRide)) (l := z) (hs := t) (aq.le (d.trans (c.trans (n.trans s)))) ho (.cons _ (.cons _ (ss F (List.sublist_append_left _ _))))) a4 aF) (fun _ _ _ h => h.2.symm)) ?_ ?_
 rintro _ _ ⟨⟨_, rfl, _⟩, rfl⟩
 refine iR<|Ei lr (.refl _)<|Yz 18 117 rfl (st_neq_t rfl rfl av)<|Yz 19 114 rfl (pT rfl rfl)<|E0 20 rfl (pF rfl rfl)<|E0 21 rfl (sM rfl)<|eN 22 rfl<|eN 23 rfl<|eN 24 rfl<|eN 25 rfl ?_
 refine eN 26 rfl<|eN 27 rfl<|eN 28 rfl<|eN 29 rfl<|eN 30 rfl<|E0 31 rfl (pT rfl rfl)<|Eo<|Dd (by kernel_rfl) ?_
 obtain rfl := o1 hm
 exact jJ ⟨rfl, rfl, lr⟩
 exact Rn
 rw [if_neg av] at hm
 by_cases aG : aB ≠ 0
 rw [if_pos aG] at hm
 obtain ⟨dx, cK, hm⟩ := bS hm
 refine Di mixed (.refl _)<|E0 0 rfl (sM rfl)<|E0 1 rfl (st_neq_f rfl rfl H)<|E0 2 rfl (sM rfl)<|Yz 3 109 rfl (sM rfl)<|Yz 4 109 rfl (sE rfl sl49)<|Yz 5 109 rfl (st_neq_f rfl rfl V)<|E0 6 rfl (pF rfl rfl)<|E0 7 rfl (sM rfl)<|Yz 8 114 rfl (sM rfl) ?_
 refine Yz 9 114 rfl (eT rfl rfl ab)<|Yz 10 114 rfl (sM rfl)<|Yz 11 117 rfl (sM rfl)<|Yz 12 117 rfl (sM rfl) ?_
 obtain ⟨aQ, aw, ax⟩ := iS bd
 obtain ⟨be, bf, b2, b3, bg, ay, af, az, ag, bh, a5⟩ := OS.get (sz := 1) rfl (by decide) aC ax
 obtain ⟨rfl, rfl⟩ := ay
 refine Yz 13 117 rfl (sI aQ rfl rfl aw ag az sl49)<|Ey 14 117 rfl (st_load_rd rfl one3 (fun w ho => af w _ ho (.cons _ (.cons _ (List.sublist_append_left _ _))) 0 _ rfl))<|Ey 15 117 rfl (sD (vs := [_, _]) 0 2 rfl agg25 rfl rfl rfl)<|Ey 16 117 rfl (sD (vs := [_]) 1 1 rfl agg33 rfl rfl rfl)<|Eo<|Da [17] (by kernel_rfl) rfl ?_
 refine R_doY lr rfl rfl 117 rfl rfl rfl (uW _ call15 rfl (fun w ho => cFishref2Arrives _ [] (⟨s1.Trains, []⟩ : ApiDay) (⟨z⟩ : GuideJourney) A2 c3 none 0 am an ((h4.le (e.trans (f.trans (k.trans (d.trans (c.trans (n.trans s))))))).old ho) FZ.nil (OS.now (o := (OT.fr rGuideRide)) (l := z) (hs := t) (aq.le (d.trans (c.trans (n.trans s)))) ho (.cons _ (.cons _ (ss F (List.sublist_append_left _ _))))) a4 aF) (fun _ _ _ h => h.2.symm)) ?_ ?_
 rintro _ _ ⟨⟨_, rfl, _⟩, rfl⟩
 refine iR<|Ei lr (.refl _)<|Yz 18 117 rfl (st_neq_f rfl rfl av)<|Yz 19 114 rfl (pT rfl rfl)<|E0 20 rfl (pF rfl rfl)<|E0 21 rfl (sM rfl)<|Yz 22 128 rfl (sM rfl)<|Yz 23 128 rfl (st_neq_t rfl rfl aG)<|Yz 24 128 rfl (sM rfl)<|Yz 25 131 rfl (sM rfl) ?_
 refine Yz 26 131 rfl (sM rfl) ?_
 obtain ⟨cO, cg, ch⟩ := iS cK
 obtain ⟨dc, dd, dy, dz, de, ci, bA, cj, bB, df, c0⟩ := OS.get (sz := 1) rfl (by decide) aC ch
 obtain ⟨rfl, rfl⟩ := ci
 refine Yz 27 131 rfl (sI cO rfl rfl cg bB cj sl49)<|Ey 28 131 rfl (st_load_rd rfl one3 (fun w ho => bA w _ ho (.cons _ (.cons _ (List.sublist_append_left _ _))) 0 _ rfl))<|Yz 29 131 rfl (q2 rfl rfl)<|Yz 30 128 rfl (pT rfl rfl)<|E0 31 rfl (pF rfl rfl)<|Eo<|Dd (by kernel_rfl) ?_
 obtain rfl := o1 hm
 exact jJ ⟨rfl, rfl, lr⟩
 exact Rn
 rw [if_neg aG] at hm
 refine Di mixed (.refl _)<|E0 0 rfl (sM rfl)<|E0 1 rfl (st_neq_f rfl rfl H)<|E0 2 rfl (sM rfl)<|Yz 3 109 rfl (sM rfl)<|Yz 4 109 rfl (sE rfl sl49)<|Yz 5 109 rfl (st_neq_f rfl rfl V)<|E0 6 rfl (pF rfl rfl)<|E0 7 rfl (sM rfl)<|Yz 8 114 rfl (sM rfl) ?_
 refine Yz 9 114 rfl (eT rfl rfl ab)<|Yz 10 114 rfl (sM rfl)<|Yz 11 117 rfl (sM rfl)<|Yz 12 117 rfl (sM rfl) ?_
 obtain ⟨aQ, aw, ax⟩ := iS bd
 obtain ⟨be, bf, b2, b3, bg, ay, af, az, ag, bh, a5⟩ := OS.get (sz := 1) rfl (by decide) aC ax
 obtain ⟨rfl, rfl⟩ := ay
 refine Yz 13 117 rfl (sI aQ rfl rfl aw ag az sl49)<|Ey 14 117 rfl (st_load_rd rfl one3 (fun w ho => af w _ ho (.cons _ (.cons _ (List.sublist_append_left _ _))) 0 _ rfl))<|Ey 15 117 rfl (sD (vs := [_, _]) 0 2 rfl agg25 rfl rfl rfl)<|Ey 16 117 rfl (sD (vs := [_]) 1 1 rfl agg33 rfl rfl rfl)<|Eo<|Da [17] (by kernel_rfl) rfl ?_
 refine R_doY lr rfl rfl 117 rfl rfl rfl (uW _ call15 rfl (fun w ho => cFishref2Arrives _ [] (⟨s1.Trains, []⟩ : ApiDay) (⟨z⟩ : GuideJourney) A2 c3 none 0 am an ((h4.le (e.trans (f.trans (k.trans (d.trans (c.trans (n.trans s))))))).old ho) FZ.nil (OS.now (o := (OT.fr rGuideRide)) (l := z) (hs := t) (aq.le (d.trans (c.trans (n.trans s)))) ho (.cons _ (.cons _ (ss F (List.sublist_append_left _ _))))) a4 aF) (fun _ _ _ h => h.2.symm)) ?_ ?_
 rintro _ _ ⟨⟨_, rfl, _⟩, rfl⟩
 refine iR<|Ei lr (.refl _)<|Yz 18 117 rfl (st_neq_f rfl rfl av)<|Yz 19 114 rfl (pT rfl rfl)<|E0 20 rfl (pF rfl rfl)<|E0 21 rfl (sM rfl)<|Yz 22 128 rfl (sM rfl)<|Yz 23 128 rfl (st_neq_f rfl rfl aG)<|Yz 24 128 rfl (sM rfl)<|eN 25 rfl ?_
 refine eN 26 rfl<|eN 27 rfl<|eN 28 rfl<|eN 29 rfl<|Yz 30 128 rfl (pF rfl rfl)<|E0 31 rfl (pF rfl rfl)<|Eo<|Dd (by kernel_rfl) ?_
 obtain rfl := o1 hm
 exact jJ ⟨rfl, rfl, lr⟩
 exact Rn
 rw [if_neg ab] at hm
 by_cases aH : aB ≠ 0
 rw [if_pos aH] at hm
 obtain ⟨dA, cP, hm⟩ := bS hm
 refine Di mixed (.refl _)<|E0 0 rfl (sM rfl)<|E0 1 rfl (st_neq_f rfl rfl H)<|E0 2 rfl (sM rfl)<|Yz 3 109 rfl (sM rfl)<|Yz 4 109 rfl (sE rfl sl49)<|Yz 5 109 rfl (st_neq_f rfl rfl V)<|E0 6 rfl (pF rfl rfl)<|E0 7 rfl (sM rfl)<|Yz 8 114 rfl (sM rfl) ?_
 refine Yz 9 114 rfl (eF rfl rfl ab)<|Yz 10 114 rfl (sM rfl)<|eN 11 rfl<|eN 12 rfl<|eN 13 rfl<|eN 14 rfl<|eN 15 rfl<|eN 16 rfl<|eN 17 rfl<|eN 18 rfl ?_
 refine Yz 19 114 rfl (pF rfl rfl)<|E0 20 rfl (pF rfl rfl)<|E0 21 rfl (sM rfl)<|Yz 22 128 rfl (sM rfl)<|Yz 23 128 rfl (st_neq_t rfl rfl aH)<|Yz 24 128 rfl (sM rfl)<|Yz 25 131 rfl (sM rfl)<|Yz 26 131 rfl (sM rfl) ?_
 obtain ⟨cQ, ck, cl⟩ := iS cP
 obtain ⟨dg, dh, dB, dC, di, cm, bC, cn, bD, dj, c1⟩ := OS.get (sz := 1) rfl (by decide) aC cl
 obtain ⟨rfl, rfl⟩ := cm
 refine Yz 27 131 rfl (sI cQ rfl rfl ck bD cn sl49)<|Ey 28 131 rfl (st_load_rd rfl one3 (fun w ho => bC w _ ho (.cons _ (.cons _ (List.sublist_append_left _ _))) 0 _ rfl))<|Yz 29 131 rfl (q2 rfl rfl)<|Yz 30 128 rfl (pT rfl rfl)<|E0 31 rfl (pF rfl rfl)<|Eo<|Dd (by kernel_rfl) ?_
 obtain rfl := o1 hm
 exact jJ ⟨rfl, rfl, lr⟩
 rw [if_neg aH] at hm
 refine Di mixed (.refl _)<|E0 0 rfl (sM rfl)<|E0 1 rfl (st_neq_f rfl rfl H)<|E0 2 rfl (sM rfl)<|Yz 3 109 rfl (sM rfl)<|Yz 4 109 rfl (sE rfl sl49)<|Yz 5 109 rfl (st_neq_f rfl rfl V)<|E0 6 rfl (pF rfl rfl)<|E0 7 rfl (sM rfl)<|Yz 8 114 rfl (sM rfl) ?_
 refine Yz 9 114 rfl (eF rfl rfl ab)<|Yz 10 114 rfl (sM rfl)<|eN 11 rfl<|eN 12 rfl<|eN 13 rfl<|eN 14 rfl<|eN 15 rfl<|eN 16 rfl<|eN 17 rfl<|eN 18 rfl ?_
 refine Yz 19 114 rfl (pF rfl rfl)<|E0 20 rfl (pF rfl rfl)<|E0 21 rfl (sM rfl)<|Yz 22 128 rfl (sM rfl)<|Yz 23 128 rfl (st_neq_f rfl rfl aH)<|Yz 24 128 rfl (sM rfl)<|eN 25 rfl<|eN 26 rfl<|eN 27 rfl<|eN 28 rfl ?_
 refine eN 29 rfl<|Yz 30 128 rfl (pF rfl rfl)<|E0 31 rfl (pF rfl rfl)<|Eo<|Dd (by kernel_rfl) ?_
 obtain rfl := o1 hm
 exact jJ ⟨rfl, rfl, lr⟩
 rintro b1 _ _ ⟨rfl, rfl, X⟩
 have hm := cf
 refine cB hm rfl (fun hm => ?_) fun hm => ?_
 refine Cr<|aS rfl<|Te<|Ct<|Xr ?_
 obtain rfl := o1 hm
 exact rO ⟨rfl, rfl⟩ (e.trans (f.trans (k.trans (d.trans (c.trans (n.trans (s.trans X)))))))
 refine Ck<|Xn<|Cr<|tS (sD (vs := [_, _]) 0 2 rfl agg25 rfl rfl rfl)<|mV rfl<|mV rfl<|mV rfl ?_
 obtain ⟨⟨cR, cT⟩, bE, hm⟩ := bS hm
 have hm := (unc2E hm)
 refine Tg _ rfl call17 rfl (cGuideProfile _ _ (hG.le (e.trans (f.trans (k.trans (d.trans (c.trans (n.trans (s.trans X)))))))) (⟨s1.Trains, []⟩ : ApiDay) ao ai O A2 c3 none 0 (h4.le (e.trans (f.trans (k.trans (d.trans (c.trans (n.trans (s.trans X)))))))) FZ.nil cR cT bE) ?_
 rintro _ cU _ aI ⟨aR, aT, aJ, rfl, rfl, cV⟩
 refine t_in1 [] [_] aJ (F ++ R) rfl<|mV rfl<|tS (st_extract rfl rfl)<|tS (st_extract rfl rfl)<|aS rfl<|aS rfl<|Te<|Cs<|Cr<|mV rfl ?_
 refine tS (q2 rfl rfl)<|Te ?_
 refine cI hm rfl (fun hm => ?_) fun hm => ?_
 refine Cr<|aS rfl<|Te<|Ct<|Xr ?_
 obtain rfl := o1 hm
 exact rO ⟨rfl, rfl⟩ (e.trans (f.trans (k.trans (d.trans (c.trans (n.trans (s.trans (X.trans aI))))))))
 refine Ck<|Xn<|Cr<|aS rfl<|Te<|Cs<|Cr<|mV rfl ?_
 obtain ⟨ah, hp986, aX, b4⟩ := OSP.ex cV
 have hm := ordM_some hm ah hp986
 refine Tr 20 rfl (v' := sv aR ah aT) (by show Value.slice _ _ _ = Value.slice _ _ _; rw [aX])<|Tr 145 rfl (v' := sv aR ah aT) (by show Value.slice _ _ _ = Value.slice _ _ _; rw [aX])<|Tr 149 rfl (v' := sv aR ah aT) (by show Value.slice _ _ _ = Value.slice _ _ _; rw [aX])<|tS (sE rfl sl38)<|mV rfl<|Te<|Cb ?_
 have dk : ah.length ≤ 9223372036854775807 := (OS.len b4)
 refine c_front2 [_] aJ F R rfl ?_
 obtain ⟨aK, bG, bH⟩ := bS hm
 refine lS (fun aY => fun aK => fun aL e' hp' => [(3, iv ai), (4, iv aj), (18, sv bb aP bc), (21, iv aK), (149, sv aR ah aT), (150, iv ((ah.length : Int))), (151, iv ((aY : Int)))] = e' ∧ (F ++ (aJ ++ R)) = hp' ∧ cU.Le aL) bG ⟨rfl, rfl, lr⟩ ?_ ?_
 rintro aY aK aL _ _ dl cW ⟨rfl, rfl, G⟩ aA
 unfold mFishkeep2GuideMore_L989 at aA
 have hm := aA
 refine Cr<|tS (lT rfl rfl (by omega))<|Te<|Cs<|c_cond_t rfl<|Ck<|Xn<|Cs<|Cb<|Cr ?_
 obtain ⟨al, co, hm⟩ := bS hm
 obtain ⟨cp, bI, bJ⟩ := iS co
 obtain ⟨c2, c4, dm, dn, c5, bK, bi, a6, bj, c7, cX⟩ := OS.get (sz := 3) rfl (by decide) (b4.le G) bJ
 obtain ⟨⟨_, _, rfl, rfl, ⟨_, _, rfl, rfl, rfl⟩⟩, rfl⟩ := bK
 refine tS (sI cp rfl rfl bI bj a6 sl38)<|tS (st_loadN_rd (vs := [iv al.Dep, iv al.Arr, iv al.Rides]) 3 rfl agg42 a6 rfl (fun w ho j u hu => bi w _ ho (ss F (List.sublist_append_left _ _)) j u hu))<|tD (uA [iv 0, iv 0, iv 0] zero42 rfl) ?_
 rintro _ _ ⟨bk, rfl, rfl⟩
 refine tD (uN (vs := [_, _, _]) 0 3 rfl rfl rfl siz42 rfl (mc rfl (mc rfl (mc rfl mn))) rfl (by simp)) ?_
 rintro _ _ rfl
 refine Te ?_
 obtain ⟨cq, bL, bM⟩ := bS hm
 refine Cj (fun bl e' hp' => [(3, iv ai), (4, iv aj), (18, sv bb aP bc), (21, iv aK), (23, pb bk), (149, sv aR ah aT), (150, iv ((ah.length : Int))), (151, iv ((aY : Int))), (168, bv cq)] = e' ∧ (bk, Cl 42 [iv al.Dep, iv al.Arr, iv al.Rides]) :: (F ++ (aJ ++ R)) = hp' ∧ aL.Le bl) ?_ ?_
 have hm := bL
 refine Cg<|tS (sF rfl fld42_0)<|tS (sL 0 rfl one3 rfl rfl)<|mV rfl ?_
 refine Tb rfl (q6 rfl rfl) (fun aM => ?_) (fun aM => ?_)
 rw [if_pos aM] at hm
 refine mV rfl<|yS<|mV rfl<|yS ?_
 refine Tb rfl (q3 rfl rfl) (fun aN => ?_) (fun aN => ?_)
 rw [if_pos aN] at hm
 refine yS<|mV rfl<|nO<|nO<|nO<|nO<|yS<|tS (pT rfl rfl)<|tS (pT rfl rfl)<|Tn ?_
 obtain rfl := o1 hm
 exact jJ ⟨rfl, rfl, lr⟩
 rw [if_neg aN] at hm
 refine yS<|mV rfl<|yS<|tS (sF rfl fld42_1)<|yS<|tS (sL 0 rfl one3 rfl rfl)<|yS<|mV rfl<|yS<|tS (q3 rfl rfl) ?_
 refine yS<|tS (pF rfl rfl)<|tS (pT rfl rfl)<|Tn ?_
 obtain rfl := o1 hm
 exact jJ ⟨rfl, rfl, lr⟩
 rw [if_neg aM] at hm
 refine mV rfl<|nO<|nO<|nO<|nO<|nO<|nO<|nO<|nO<|tS (pF rfl rfl) ?_
 refine Tn ?_
 obtain rfl := o1 hm
 exact jJ ⟨rfl, rfl, lr⟩
 rintro bl _ _ ⟨rfl, rfl, aU⟩
 have hm := bM
 refine cB hm rfl (fun hm => ?_) fun hm => ?_
 refine Cg<|tS (sF rfl fld42_1)<|tS (sL 0 rfl one3 rfl rfl)<|aS rfl<|Tn<|Xm<|Xn<|Cg<|tS (sa rfl rfl (by omega))<|mV rfl ?_
 refine Tn ?_
 obtain rfl := o1 hm
 exact jS ⟨rfl, rfl, ((G.trans aU))⟩
 refine Ck<|Xm<|Xn<|Cg<|tS (sa rfl rfl (by omega))<|mV rfl<|Tn ?_
 obtain rfl := o1 hm
 exact jS ⟨rfl, rfl, ((G.trans aU))⟩
 rintro aL _ _ ⟨rfl, rfl, G⟩
 have hm := bH
 refine Cr<|tS (lF rfl rfl (by omega))<|Te<|Cs<|c_cond_f rfl<|Ce<|Xe<|Xe<|Xo<|Xn ?_
 refine Cr<|mV rfl<|mV rfl<|mV rfl ?_
 obtain ⟨dp, cr, hm⟩ := bS hm
 obtain ⟨cs, bN, bO⟩ := iS cr
 obtain ⟨c8, c9, dq, dr, da, bP, bm, bQ, bn, db, cY⟩ := OS.get (sz := 1) rfl (by decide) (aC.le (X.trans (aI.trans G))) bO
 obtain ⟨rfl, rfl⟩ := bP
 refine tS (sI cs rfl rfl bN bn bQ sl49)<|tS (st_load_rd rfl one3 (fun w ho => bm w _ ho (List.sublist_append_left _ _) 0 _ rfl))<|tS (q1 rfl rfl)<|aS rfl<|Te<|Ct ?_
 obtain rfl := o1 hm
 exact rO ⟨rfl, rfl⟩ (e.trans (f.trans (k.trans (d.trans (c.trans (n.trans (s.trans (X.trans (aI.trans G)))))))))

end Go.Proofs.YtckgfeglhjiflaaDoor
