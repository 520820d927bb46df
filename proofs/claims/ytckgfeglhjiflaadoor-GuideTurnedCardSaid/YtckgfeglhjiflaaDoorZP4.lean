/- Contracts: the code computes its model (part 4). -/
import Derived.Test.YtckgfeglhjiflaaDoorZP3
set_option linter.unusedVariables false
set_option linter.unusedSimpArgs false
namespace Go.Proofs.YtckgfeglhjiflaaDoor
open Go.RowKit Go.Fp

open Go.Fp renaming t_ne → Te, t_nil → Tn, t_bool → Tb, t_callG → Tg, t_callvG → Tv, t_resp → Tr, c_sr → Cr, c_seq → Cs, c_region → Cg, c_block → Cb, c_ret → Ct, c_skip → Ck, c_exit → Ce, c_join → Cj, c_pullb → Cp, x_then_normal → Xn, x_then_ret → Xr, x_then_exit → Xe, x_block_ret → Xb, x_block_normal → Xm, x_block_out → Xo, E_st → Es, E_s0 → E0, E_yes → Ey, E_y0 → Yz, E_in → Ei, E_il → El, E_out → Eo, D_all → Da, D_done → Dd, D_drawI → Di, R_do → Rd2, R_nil → Rn, st_load → sL, st_loadD → sD, st_field → sF, st_len → sE, st_move → sM, st_assign → sA, st_pick_t → pT, st_pick_f → pF, st_index_old → sI, st_load_old → sO, st_loadN_old → sP, st_field_old → sQ, st_add → sa, st_sub → sb, st_lss_t → lT, st_lss_f → lF, st_eql_t → eT, st_eql_f → eF, st_not → sn2, st_build → sB, u_box → uB, u_alloc → uA, u_store → uS, u_storeN → uN, u_callW0 → uW, u_putOS → uP, u_appOS → uQ, fn_enterG → fE, bindS → bS, some1 → o1, idx_some → iS, sub_skip → ss, sub_app → sp, chk_some → kS, notT → nt, notF → nf, d_front3 → d3, mem_c → mc, mem_n → mn, st_eql → q1, st_neq → q2, st_lss → q3, st_leq → q4, st_gtr → q5, st_geq → q6
set_option maxRecDepth 20000 in
theorem cFishref2TextFault (b : Base) (R : Hp) (m : ApiDay) (X Y A5 c6) (h4 : FZ rApiTrain b.w X Y m.Trains) (h7 : FZ (RT.list rI) b.w A5 c6 m.Turns) (aF) (hm : mFishref2TextFault m = some aF):
    CallsG Tryd.prog 34 [.agg #[sv X m.Trains Y, sv A5 m.Turns c6]] b (R) (fun v b' hp' => iv aF = v ∧ R = hp') := by
 refine fE 105 Tryd.func34 rfl Tryd.ntmps34 rfl ?_
 unfold mFishref2TextFault at hm
 refine Cr<|tD (uB _ rfl rfl) ?_
 rintro _ _ ⟨k, rfl, rfl⟩
 refine aS rfl<|Te<|Cs ?_
 obtain ⟨bz, aO, aP⟩ := bS hm
 refine Cj (fun ad e' hp' => [(1, pb k), (24, bv bz)] = e' ∧ (k, Cl 25 [sv X m.Trains Y, sv A5 m.Turns c6]) :: R = hp' ∧ b.Le ad) ?_ ?_
 have hm := aO
 refine Cg<|tS (sF rfl fld25_0)<|tS (sL 0 rfl one22 rfl rfl)<|tS (sE rfl sl22) ?_
 refine Tb rfl (q5 rfl rfl) (fun K => ?_) (fun K => ?_)
 rw [if_pos K] at hm
 refine mV rfl<|nO<|nO<|nO<|nO<|tS (pT rfl rfl)<|Tn ?_
 obtain rfl := o1 hm
 exact jJ ⟨rfl, rfl, lr⟩
 rw [if_neg K] at hm
 refine mV rfl<|yS<|tS (sF rfl fld25_1)<|yS<|tS (sL 0 rfl one23 rfl rfl)<|yS<|tS (sE rfl sl23)<|yS<|tS (q5 rfl rfl)<|tS (pF rfl rfl) ?_
 refine Tn ?_
 obtain rfl := o1 hm
 exact jJ ⟨rfl, rfl, lr⟩
 rintro ad _ _ ⟨rfl, rfl, a⟩
 have hm := aP
 refine cB hm rfl (fun hm => ?_) fun hm => ?_
 refine Cr<|aS rfl<|Te<|Ct<|Xr ?_
 obtain rfl := o1 hm
 exact rO ⟨rfl, rfl⟩ a
 refine Ck<|Xn<|Cs<|Cr<|tS (sF rfl fld25_0)<|tS (sL 0 rfl one22 rfl rfl)<|tS (sE rfl sl22)<|mV rfl<|Te<|Cb ?_
 have bW : m.Trains.length ≤ 9223372036854775807 := (FZ.bd (h4.le a))
 obtain ⟨cm, aQ, i⟩ := bS hm
 refine lF (fun G => fun _ => fun H e' hp' => [(1, pb k), (26, sv X m.Trains Y), (27, iv ((m.Trains.length : Int))), (28, iv ((G : Int)))] = e' ∧ (k, Cl 25 [sv X m.Trains Y, sv A5 m.Turns c6]) :: R = hp' ∧ ad.Le H) aQ ⟨rfl, rfl, lr⟩ ?_ ?_
 rintro G _ H _ _ bX bA ⟨rfl, rfl, c⟩ r l
 unfold mFishref2TextFault_L410 at r
 have hm := r
 refine Cr<|tS (lT rfl rfl (by omega))<|Te<|Cs<|c_cond_t rfl<|Ck<|Xn<|Cs<|Cb<|Cr ?_
 obtain ⟨d, bB, bY, aR, bZ, aT, ao, ae, aq, hm⟩ := bF (sz := 4) hm (h4.le (a.trans c))
 obtain ⟨_, _, rfl, rfl, ⟨_, _, rfl, rfl, ⟨_, _, rfl, ⟨af, ag, rfl, cn⟩, ⟨I, J, rfl, S⟩⟩⟩⟩ := aT
 refine tS (sI bB rfl rfl aR aq ae sl22)<|tS (sP (vs := [iv d.No, iv d.Stock, sv af d.Stops ag, sv I d.Legs J]) 4 rfl agg47 ae rfl (fun j u hu => ao j u hu))<|tD (uA [iv 0, iv 0, sn, sn] zero47 rfl) ?_
 rintro _ _ ⟨T, rfl, rfl⟩
 refine tD (uN (vs := [_, _, _, _]) 0 4 rfl rfl rfl siz47 rfl (mc rfl (mc rfl (mc rfl (mc rfl mn)))) rfl (by simp)) ?_
 rintro _ _ rfl
 refine Te<|Cs ?_
 obtain ⟨bC, aU, aV⟩ := bS hm
 refine Cj (fun ah e' hp' => [(1, pb k), (4, pb T), (26, sv X m.Trains Y), (27, iv ((m.Trains.length : Int))), (28, iv ((G : Int))), (45, bv bC)] = e' ∧ (k, Cl 25 [sv X m.Trains Y, sv A5 m.Turns c6]) :: (T, Cl 47 [iv d.No, iv d.Stock, sv af d.Stops ag, sv I d.Legs J]) :: R = hp' ∧ H.Le ah) ?_ ?_
 have hm := aU
 refine Cg<|tS (sF rfl fld47_2)<|tS (sL 0 rfl one45 rfl rfl)<|tS (sE rfl sl45) ?_
 refine Tb rfl (q1 rfl rfl) (fun L => ?_) (fun L => ?_)
 rw [if_pos L] at hm
 refine mV rfl<|nO<|nO<|nO<|nO<|nO<|nO<|nO<|nO<|tS (pT rfl rfl) ?_
 refine Tn ?_
 obtain rfl := o1 hm
 exact jJ ⟨rfl, rfl, lr⟩
 rw [if_neg L] at hm
 refine mV rfl<|yS<|tS (sF rfl fld47_3)<|yS<|tS (sL 0 rfl one23 rfl rfl)<|yS<|tS (sE rfl sl23)<|yS<|tS (sF rfl fld47_2)<|yS ?_
 refine tS (sL 0 rfl one45 rfl rfl)<|yS<|tS (sE rfl sl45)<|yS ?_
 obtain ⟨_, ai, hm⟩ := bS hm
 have ai := (kS ai).2
 refine tS (sb rfl rfl ai)<|yS<|tS (q2 rfl rfl)<|tS (pF rfl rfl)<|Tn ?_
 obtain rfl := o1 hm
 exact jJ ⟨rfl, rfl, lr⟩
 rintro ah _ _ ⟨rfl, rfl, e⟩
 have hm := aV
 refine cB hm rfl (fun hm => ?_) fun hm => ?_
 refine Cr<|aS rfl<|Te<|Ct<|Xr<|Xb<|Xr<|Xr<|Xb<|Xr ?_
 have aW := l _ (Option.some.inj hm).symm
 rw [aW] at i
 have hm := elimR i
 obtain rfl := o1 hm
 exact rO ⟨rfl, rfl⟩ (a.trans (c.trans e))
 refine Ck<|Xn<|Cs<|Cr<|tS (sF rfl fld47_3)<|tS (sL 1 rfl one23 rfl rfl)<|tS (sE rfl sl23)<|mV rfl<|Te<|Cb ?_
 have b0 : d.Legs.length ≤ 9223372036854775807 := (FZ.bd (S.le e))
 refine Cp 1 rfl<|Cp 1 rfl ?_
 obtain ⟨co, aX, C⟩ := bS hm
 refine lF (fun aG => fun _ => fun U e' hp' => [(1, pb k), (4, pb T), (26, sv X m.Trains Y), (27, iv ((m.Trains.length : Int))), (28, iv ((G : Int))), (47, sv I d.Legs J), (48, iv ((d.Legs.length : Int))), (49, iv ((aG : Int)))] = e' ∧ (k, Cl 25 [sv X m.Trains Y, sv A5 m.Turns c6]) :: (T, Cl 47 [iv d.No, iv d.Stock, sv af d.Stops ag, sv I d.Legs J]) :: R = hp' ∧ ah.Le U) aX ⟨rfl, rfl, lr⟩ ?_ ?_
 rintro aG _ U _ _ b1 bD ⟨rfl, rfl, f⟩ s Z
 unfold mFishref2TextFault_L546 at s
 have hm := s
 refine Cr<|tS (lT rfl rfl (by omega))<|Te<|Cs<|c_cond_t rfl<|Ck<|Xn<|Cs<|Cb<|Cr ?_
 obtain ⟨cp, bE, b2, aY, b3, aZ, ar, a0, au, hm⟩ := bF (sz := 1) hm (S.le (e.trans f))
 obtain ⟨cq, cr, rfl, cs⟩ := aZ
 refine tS (sI bE rfl rfl aY au a0 sl23)<|tS (sO rfl one49 (ar 0 _ rfl))<|aS rfl<|Te<|Cr<|mV rfl<|tS (sE rfl sl49)<|tS (q1 rfl rfl)<|Te ?_
 refine cI hm rfl (fun hm => ?_) fun hm => ?_
 refine Cr<|aS rfl<|Te<|Ct<|Xb<|Xr<|Xr<|Xb<|Xr<|Xb ?_
 refine Xr<|Xr<|Xb<|Xr ?_
 have a1 := Z _ (Option.some.inj hm).symm
 rw [a1] at C
 have hm := elimR C
 have a2 := l _ (Option.some.inj hm).symm
 rw [a2] at i
 have hm := elimR i
 obtain rfl := o1 hm
 exact rO ⟨rfl, rfl⟩ (a.trans (c.trans (e.trans f)))
 refine Ck<|Xm<|Xn<|Cg<|tS (sa rfl rfl (by omega))<|mV rfl<|Tn ?_
 exact jM hm ⟨rfl, rfl, (f)⟩
 rintro _ U _ _ ⟨rfl, rfl, f⟩ a3
 rw [a3] at C
 have hm := elimL C
 refine Cr<|tS (lF rfl rfl (by omega))<|Te<|Cs<|c_cond_f rfl<|Ce<|Xe<|Xe<|Xo<|Xn ?_
 refine Cs<|Cr<|tS (sF rfl fld47_2)<|tS (sL 1 rfl one45 rfl rfl)<|tS (sE rfl sl45)<|tS (q5 rfl rfl)<|Te ?_
 refine cI hm rfl (fun hm => ?_) fun hm => ?_
 refine Cr<|aS rfl<|Te<|Ct<|Xr<|Xb<|Xr<|Xr<|Xb<|Xr ?_
 have a4 := l _ (Option.some.inj hm).symm
 rw [a4] at i
 have hm := elimR i
 obtain rfl := o1 hm
 exact rO ⟨rfl, rfl⟩ (a.trans (c.trans (e.trans f)))
 refine Ck<|Xn<|Cr<|tS (sF rfl fld47_3)<|tS (sL 1 rfl one23 rfl rfl)<|tS (sE rfl sl23)<|mV rfl<|Te<|Cb ?_
 have b4 : d.Legs.length ≤ 9223372036854775807 := (FZ.bd (S.le (e.trans f)))
 obtain ⟨ct, a5, D⟩ := bS hm
 refine lF (fun aH => fun _ => fun aj e' hp' => [(1, pb k), (26, sv X m.Trains Y), (27, iv ((m.Trains.length : Int))), (28, iv ((G : Int))), (62, sv I d.Legs J), (63, iv ((d.Legs.length : Int))), (64, iv ((aH : Int)))] = e' ∧ (k, Cl 25 [sv X m.Trains Y, sv A5 m.Turns c6]) :: R = hp' ∧ U.Le aj) a5 ⟨rfl, rfl, lr⟩ ?_ ?_
 rintro aH _ aj _ _ b5 bG ⟨rfl, rfl, n⟩ t aa
 unfold mFishref2TextFault_L587 at t
 have hm := t
 refine Cr<|tS (lT rfl rfl (by omega))<|Te<|Cs<|c_cond_t rfl<|Ck<|Xn<|Cs<|Cb<|Cr ?_
 obtain ⟨cu, bH, b6, a6, b7, a7, av, a8, aw, hm⟩ := bF (sz := 1) hm (S.le (e.trans (f.trans n)))
 obtain ⟨cv, cw, rfl, cx⟩ := a7
 refine tS (sI bH rfl rfl a6 aw a8 sl23)<|tS (sO rfl one49 (av 0 _ rfl))<|aS rfl<|Te<|Cr<|mV rfl<|tS (sE rfl sl49)<|tS (q5 rfl rfl)<|Te ?_
 refine cI hm rfl (fun hm => ?_) fun hm => ?_
 refine Cr<|aS rfl<|Te<|Ct<|Xb<|Xr<|Xr<|Xb<|Xb<|Xr ?_
 refine Xr<|Xb<|Xr ?_
 have a9 := aa _ (Option.some.inj hm).symm
 rw [a9] at D
 have hm := elimR D
 have ba := l _ (Option.some.inj hm).symm
 rw [ba] at i
 have hm := elimR i
 obtain rfl := o1 hm
 exact rO ⟨rfl, rfl⟩ (a.trans (c.trans (e.trans (f.trans n))))
 refine Ck<|Xm<|Xn<|Cg<|tS (sa rfl rfl (by omega))<|mV rfl<|Tn ?_
 exact jM hm ⟨rfl, rfl, (n)⟩
 rintro _ aj _ _ ⟨rfl, rfl, n⟩ bb
 rw [bb] at D
 have hm := elimL D
 refine Cr<|tS (lF rfl rfl (by omega))<|Te<|Cs<|c_cond_f rfl<|Ce<|Xe<|Xe<|Xo<|Xm ?_
 refine Xn<|Cg<|tS (sa rfl rfl (by omega))<|mV rfl<|Tn ?_
 exact jM hm ⟨rfl, rfl, ((c.trans (e.trans (f.trans n))))⟩
 rintro _ H _ _ ⟨rfl, rfl, c⟩ bc
 rw [bc] at i
 have hm := elimL i
 refine Cr<|tS (lF rfl rfl (by omega))<|Te<|Cs<|c_cond_f rfl<|Ce<|Xe<|Xe<|Xo<|Xn ?_
 refine Cs<|Cr<|tS (sF rfl fld25_1)<|tS (sL 0 rfl one23 rfl rfl)<|tS (sE rfl sl23)<|mV rfl<|Te<|Cb ?_
 have b8 : m.Turns.length ≤ 9223372036854775807 := (FZ.bd (h7.le (a.trans c)))
 obtain ⟨cy, bd, q⟩ := bS hm
 refine lF (fun aI => fun _ => fun ak e' hp' => [(1, pb k), (74, sv A5 m.Turns c6), (75, iv ((m.Turns.length : Int))), (76, iv ((aI : Int)))] = e' ∧ (k, Cl 25 [sv X m.Trains Y, sv A5 m.Turns c6]) :: R = hp' ∧ H.Le ak) bd ⟨rfl, rfl, lr⟩ ?_ ?_
 rintro aI _ ak _ _ b9 bI ⟨rfl, rfl, g⟩ x A
 unfold mFishref2TextFault_L627 at x
 have hm := x
 refine Cr<|tS (lT rfl rfl (by omega))<|Te<|Cs<|c_cond_t rfl<|Ck<|Xn<|Cs<|Cb<|Cr ?_
 obtain ⟨cz, bJ, ca, be, cb, bf, ax, bg, ay, hm⟩ := bF (sz := 1) hm (h7.le (a.trans (c.trans g)))
 obtain ⟨cA, cC, rfl, cD⟩ := bf
 refine tS (sI bJ rfl rfl be ay bg sl23)<|tS (sO rfl one49 (ax 0 _ rfl))<|aS rfl<|Te<|Cs<|Cr<|mV rfl<|tS (sE rfl sl49)<|tS (q1 rfl rfl)<|Te ?_
 refine cI hm rfl (fun hm => ?_) fun hm => ?_
 refine Cr<|aS rfl<|Te<|Ct<|Xr<|Xb<|Xr<|Xr<|Xb<|Xr ?_
 have bh := A _ (Option.some.inj hm).symm
 rw [bh] at q
 have hm := elimR q
 obtain rfl := o1 hm
 exact rO ⟨rfl, rfl⟩ (a.trans (c.trans g))
 refine Ck<|Xn<|Cr<|mV rfl<|tS (sE rfl sl49)<|tS (q5 rfl rfl)<|Te ?_
 refine cI hm rfl (fun hm => ?_) fun hm => ?_
 refine Cr<|aS rfl<|Te<|Ct<|Xb<|Xr<|Xr<|Xb<|Xr ?_
 have bi := A _ (Option.some.inj hm).symm
 rw [bi] at q
 have hm := elimR q
 obtain rfl := o1 hm
 exact rO ⟨rfl, rfl⟩ (a.trans (c.trans g))
 refine Ck<|Xm<|Xn<|Cg<|tS (sa rfl rfl (by omega))<|mV rfl<|Tn ?_
 exact jM hm ⟨rfl, rfl, (g)⟩
 rintro _ ak _ _ ⟨rfl, rfl, g⟩ bj
 rw [bj] at q
 have hm := elimL q
 refine Cr<|tS (lF rfl rfl (by omega))<|Te<|Cs<|c_cond_f rfl<|Ce<|Xe<|Xe<|Xo<|Xn ?_
 refine Cs<|Cr<|tS (sD (vs := [_, _]) 0 2 rfl agg25 rfl rfl rfl) ?_
 obtain ⟨B, az, hm⟩ := bS hm
 refine Tg _ rfl call71 rfl (cFishref2NumbersIn _ _ m X Y A5 c6 (h4.le (a.trans (c.trans g))) (h7.le (a.trans (c.trans g))) B az) ?_
 rintro _ bK _ V ⟨aJ, aK, O, rfl, rfl, aL⟩
 refine t_in1 [] [_] O R rfl<|tS (sE rfl sl23)<|mV rfl<|Te<|Cb ?_
 have cc : B.length ≤ 9223372036854775807 := (OS.len aL)
 obtain ⟨cE, bk, E⟩ := bS hm
 refine lF (fun al => fun _ => fun W e' hp' => [(88, sv aJ B aK), (89, iv ((B.length : Int))), (90, iv ((al : Int)))] = e' ∧ (O ++ R) = hp' ∧ bK.Le W) bk ⟨rfl, rfl, lr⟩ ?_ ?_
 rintro al _ W _ _ cd bL ⟨rfl, rfl, o⟩ y ab
 unfold mFishref2TextFault_L676 at y
 have hm := y
 refine Cr<|tS (lT rfl rfl (by omega))<|Te<|Cs<|c_cond_t rfl<|Ck<|Xn<|Cs<|Cb<|Cr ?_
 obtain ⟨am, bM, hm⟩ := bS hm
 obtain ⟨bN, bl, bm⟩ := iS bM
 obtain ⟨ce, cf, cG, cH, cg, bn, aA, bo, aB, ch, bV⟩ := OS.get (sz := 1) rfl (by decide) (aL.le o) bm
 obtain ⟨⟨bO, bP, rfl, aM⟩, rfl⟩ := bn
 refine tS (sI bN rfl rfl bl aB bo sl23)<|tS (st_load_rd rfl one49 (fun w ho => aA w _ ho (List.sublist_append_left _ _) 0 _ rfl))<|aS rfl<|Te<|Cr<|mV rfl<|tS (sE rfl sl49)<|mV rfl<|Te<|Cb ?_
 have ci : am.length ≤ 9223372036854775807 := (FZ.bd aM)
 obtain ⟨cJ, bp, F⟩ := bS hm
 refine lF (fun aN => fun _ => fun an e' hp' => [(88, sv aJ B aK), (89, iv ((B.length : Int))), (90, iv ((al : Int))), (94, sv bO am bP), (95, iv ((am.length : Int))), (96, iv ((aN : Int)))] = e' ∧ (O ++ R) = hp' ∧ W.Le an) bp ⟨rfl, rfl, lr⟩ ?_ ?_
 rintro aN _ an _ _ cj bQ ⟨rfl, rfl, p⟩ z ac
 unfold mFishref2TextFault_L757 at z
 have hm := z
 refine Cr<|tS (lT rfl rfl (by omega))<|Te<|Cs<|c_cond_t rfl<|Ck<|Xn<|Cs<|Cb<|Cr ?_
 obtain ⟨bR, bT, ck, bq, cl, br, aC, bs, aD, hm⟩ := bF (sz := 1) hm (aM.le p)
 obtain rfl := br
 refine tS (sI bT rfl rfl bq aD bs sl49)<|tS (sO rfl one3 (aC 0 _ rfl))<|aS rfl<|Te<|Cr<|mV rfl ?_
 obtain ⟨bU, aE, hm⟩ := bS hm
 refine tD (uW _ call35 rfl (fun w ho => cFishref2Within _ [] bR 0 999999 bU aE) (fun _ _ _ h => h.2.symm)) ?_
 rintro _ _ ⟨⟨_, rfl, _⟩, rfl⟩
 refine tS (sn2 rfl)<|Te ?_
 refine cM hm rfl (fun hm => ?_) fun hm => ?_
 refine Cr<|aS rfl<|Te<|Ct<|Xb<|Xr<|Xr<|Xb<|Xb<|Xr ?_
 refine Xr<|Xb<|Xr ?_
 have bt := ac _ (Option.some.inj hm).symm
 rw [bt] at F
 have hm := elimR F
 have bu := ab _ (Option.some.inj hm).symm
 rw [bu] at E
 have hm := elimR E
 obtain rfl := o1 hm
 exact rO ⟨rfl, rfl⟩ (a.trans (c.trans (g.trans (V.trans (o.trans p)))))
 refine Ck<|Xm<|Xn<|Cg<|tS (sa rfl rfl (by omega))<|mV rfl<|Tn ?_
 exact jM hm ⟨rfl, rfl, (p)⟩
 rintro _ an _ _ ⟨rfl, rfl, p⟩ bw
 rw [bw] at F
 have hm := elimL F
 refine Cr<|tS (lF rfl rfl (by omega))<|Te<|Cs<|c_cond_f rfl<|Ce<|Xe<|Xe<|Xo<|Xm ?_
 refine Xn<|Cg<|tS (sa rfl rfl (by omega))<|mV rfl<|Tn ?_
 exact jM hm ⟨rfl, rfl, ((o.trans p))⟩
 rintro _ W _ _ ⟨rfl, rfl, o⟩ bx
 rw [bx] at E
 have hm := elimL E
 refine Cr<|tS (lF rfl rfl (by omega))<|Te<|Cs<|c_cond_f rfl<|Ce<|Xe<|Xe<|Xo<|Xn ?_
 refine Cr<|aS rfl<|Te<|Ct ?_
 obtain rfl := o1 hm
 exact rO ⟨rfl, rfl⟩ (a.trans (c.trans (g.trans (V.trans o))))

set_option maxRecDepth 20000 in
theorem cFishref2GuideFault (b : Base) (R : Hp) (r : ApiDay) (S K A5 c6) (h4 : FZ rApiTrain b.w S K r.Trains) (h7 : FZ (RT.list rI) b.w A5 c6 r.Turns) (aT) (hm : mFishref2GuideFault r = some aT):
    CallsG Tryd.prog 9 [.agg #[sv S r.Trains K, sv A5 r.Turns c6]] b (R) (fun v b' hp' => iv aT = v ∧ R = hp') := by
 refine fE 93 Tryd.func9 rfl Tryd.ntmps9 rfl ?_
 unfold mFishref2GuideFault at hm
 refine Cr<|tD (uB _ rfl rfl) ?_
 rintro _ _ ⟨m, rfl, rfl⟩
 refine aS rfl<|Te<|Cs<|Cr<|tS (sD (vs := [_, _]) 0 2 rfl agg25 rfl rfl rfl) ?_
 obtain ⟨bd, aw, hm⟩ := bS hm
 refine tD (uW _ call34 rfl (fun w ho => cFishref2TextFault _ [] r S K A5 c6 (h4.old ho) (h7.old ho) bd aw) (fun _ _ _ h => h.2.symm)) ?_
 rintro _ _ ⟨⟨_, rfl, _⟩, rfl⟩
 refine aS rfl<|Te<|Cr<|mV rfl<|tS (q2 rfl rfl)<|Te ?_
 refine cI hm rfl (fun hm => ?_) fun hm => ?_
 refine Cr<|mV rfl<|aS rfl<|Te<|Ct<|Xr ?_
 obtain rfl := o1 hm
 exact rO ⟨rfl, rfl⟩ lr
 refine Ck<|Xn<|Cs<|Cr<|tS (sF rfl fld25_0)<|tS (sL 0 rfl one22 rfl rfl)<|tS (sE rfl sl22)<|mV rfl<|Te<|Cb ?_
 have bu : r.Trains.length ≤ 9223372036854775807 := (FZ.bd h4)
 obtain ⟨bK, aV, f⟩ := bS hm
 refine lF (fun D => fun _ => fun T e' hp' => [(1, pb m), (16, sv S r.Trains K), (17, iv ((r.Trains.length : Int))), (18, iv ((D : Int)))] = e' ∧ (m, Cl 25 [sv S r.Trains K, sv A5 r.Turns c6]) :: R = hp' ∧ b.Le T) aV ⟨rfl, rfl, lr⟩ ?_ ?_
 rintro D _ T _ _ bw be ⟨rfl, rfl, c⟩ A i
 unfold mFishref2GuideFault_L570 at A
 have hm := A
 refine Cr<|tS (lT rfl rfl (by omega))<|Te<|Cs<|c_cond_t rfl<|Ck<|Xn<|Cs<|Cb<|Cr ?_
 refine mV rfl ?_
 obtain ⟨a, bf, bx, aW, bz, aX, ax, Z, ay, hm⟩ := bF (sz := 4) hm (h4.le c)
 obtain ⟨_, _, rfl, rfl, ⟨_, _, rfl, rfl, ⟨_, _, rfl, ⟨t, x, rfl, aa⟩, ⟨H, I, rfl, bL⟩⟩⟩⟩ := aX
 refine tS (sI bf rfl rfl aW ay Z sl22)<|tS (sP (vs := [iv a.No, iv a.Stock, sv t a.Stops x, sv H a.Legs I]) 4 rfl agg47 Z rfl (fun j u hu => ax j u hu))<|tD (uA [iv 0, iv 0, sn, sn] zero47 rfl) ?_
 rintro _ _ ⟨y, rfl, rfl⟩
 refine aS rfl<|tD (uN (vs := [_, _, _, _]) 0 4 rfl rfl rfl siz47 rfl (mc rfl (mc rfl (mc rfl (mc rfl mn)))) rfl (by simp)) ?_
 rintro _ _ rfl
 refine Te<|Cs<|Cr<|tS (sF rfl fld47_0)<|tS (sL 0 rfl one3 rfl rfl) ?_
 obtain ⟨bg, az, hm⟩ := bS hm
 refine tD (uW _ call35 rfl (fun w ho => cFishref2Within _ [] a.No 1 9999 bg az) (fun _ _ _ h => h.2.symm)) ?_
 rintro _ _ ⟨⟨_, rfl, _⟩, rfl⟩
 refine tS (sn2 rfl)<|Te ?_
 refine cM hm rfl (fun hm => ?_) fun hm => ?_
 refine Cr<|aS rfl<|Te<|Ct<|Xr<|Xb<|Xr<|Xr<|Xb<|Xr ?_
 have aY := i _ (Option.some.inj hm).symm
 rw [aY] at f
 have hm := elimR f
 obtain rfl := o1 hm
 exact rO ⟨rfl, rfl⟩ c
 refine Ck<|Xn<|Cs<|Cr<|tS (sF rfl fld25_0)<|tS (sL 1 rfl one22 rfl rfl)<|mV rfl ?_
 obtain ⟨ab, bh, hm⟩ := bS hm
 obtain ⟨ac, bi, bA, aZ, ad, ae, af⟩ := cutS_some bh
 have ag := FZ.sub (sz := 4) rfl (h4.le c) ad ae
 have bj := (h4.le c).1.1
 rw [← af] at ag
 refine tS (af ▸ st_part (l := r.Trains) ac bi rfl (.inl ⟨rfl, by omega⟩) (.inr ⟨_, _, _, rfl, rfl, aZ⟩) ad ae bj sl22)<|tS (sE rfl sl22)<|mV rfl<|Te<|Cb ?_
 have bB : ab.length ≤ 9223372036854775807 := (FZ.bd ag)
 refine Cp 1 rfl ?_
 obtain ⟨bM, a0, F⟩ := bS hm
 refine lF (fun aU => fun _ => fun U e' hp' => [(1, pb m), (5, pb y), (16, sv S r.Trains K), (17, iv ((r.Trains.length : Int))), (18, iv ((D : Int))), (30, .slice (subA S K ac 4) (ab).length (K - ac)), (31, iv ((ab.length : Int))), (32, iv ((aU : Int)))] = e' ∧ (m, Cl 25 [sv S r.Trains K, sv A5 r.Turns c6]) :: (y, Cl 47 [iv a.No, iv a.Stock, sv t a.Stops x, sv H a.Legs I]) :: R = hp' ∧ T.Le U) a0 ⟨rfl, rfl, lr⟩ ?_ ?_
 rintro aU _ U _ _ bC bk ⟨rfl, rfl, d⟩ B Y
 unfold mFishref2GuideFault_L882 at B
 have hm := B
 refine Cr<|tS (lT rfl rfl (by omega))<|Te<|Cs<|c_cond_t rfl<|Ck<|Xn<|Cs<|Cb<|Cr ?_
 obtain ⟨V, bl, bD, a1, bE, a2, aA, ah, aB, hm⟩ := bF (sz := 4) hm (ag.le d)
 obtain ⟨_, _, rfl, rfl, ⟨_, _, rfl, rfl, ⟨_, _, rfl, ⟨bm, bn, rfl, bN⟩, ⟨bo, bp, rfl, bO⟩⟩⟩⟩ := a2
 refine tS (sI bl rfl rfl a1 aB ah sl22)<|tS (sP (vs := [iv V.No, iv V.Stock, sv bm V.Stops bn, sv bo V.Legs bp]) 4 rfl agg47 ah rfl (fun j u hu => aA j u hu))<|tD (uA [iv 0, iv 0, sn, sn] zero47 rfl) ?_
 rintro _ _ ⟨bP, rfl, rfl⟩
 refine tD (uN (vs := [_, _, _, _]) 0 4 rfl rfl rfl siz47 rfl (mc rfl (mc rfl (mc rfl (mc rfl mn)))) rfl (by simp)) ?_
 rintro _ _ rfl
 refine Te<|Cr<|tS (sF rfl fld47_0)<|tS (sL 0 rfl one3 rfl rfl)<|tS (sF rfl fld47_0)<|tS (sL 2 rfl one3 rfl rfl)<|tS (q1 rfl rfl)<|Te ?_
 refine cI hm rfl (fun hm => ?_) fun hm => ?_
 refine Cr<|aS rfl<|Te<|Ct<|Xb<|Xr<|Xr<|Xb<|Xr<|Xb ?_
 refine Xr<|Xr<|Xb<|Xr ?_
 have a3 := Y _ (Option.some.inj hm).symm
 rw [a3] at F
 have hm := elimR F
 have a4 := i _ (Option.some.inj hm).symm
 rw [a4] at f
 have hm := elimR f
 obtain rfl := o1 hm
 exact rO ⟨rfl, rfl⟩ (c.trans d)
 refine Ck<|Xm<|Xn<|Cg<|tS (sa rfl rfl (by omega))<|mV rfl<|Tn ?_
 exact jM hm ⟨rfl, rfl, (d)⟩
 rintro _ U _ _ ⟨rfl, rfl, d⟩ a5
 rw [a5] at F
 have hm := elimL F
 refine Cr<|tS (lF rfl rfl (by omega))<|Te<|Cs<|c_cond_f rfl<|Ce<|Xe<|Xe<|Xo<|Xn ?_
 refine Cs<|Cr<|tS (sF rfl fld47_2)<|tS (sL 1 rfl one45 rfl rfl)<|tS (sE rfl sl45)<|tS (q3 rfl rfl)<|Te ?_
 refine cI hm rfl (fun hm => ?_) fun hm => ?_
 refine Cr<|aS rfl<|Te<|Ct<|Xr<|Xb<|Xr<|Xr<|Xb<|Xr ?_
 have a6 := i _ (Option.some.inj hm).symm
 rw [a6] at f
 have hm := elimR f
 obtain rfl := o1 hm
 exact rO ⟨rfl, rfl⟩ (c.trans d)
 refine Ck<|Xn<|Cr<|tS (sF rfl fld47_2)<|tS (sL 1 rfl one45 rfl rfl)<|tS (sE rfl sl45)<|mV rfl<|Te<|Cb ?_
 have bG : a.Stops.length ≤ 9223372036854775807 := (FZ.bd (aa.le d))
 refine Cp 1 rfl<|Cp 1 rfl ?_
 obtain ⟨bH, aC, k⟩ := bS hm
 refine lF (fun s => fun _ => fun G e' hp' => [(1, pb m), (5, pb y), (16, sv S r.Trains K), (17, iv ((r.Trains.length : Int))), (18, iv ((D : Int))), (47, sv t a.Stops x), (48, iv ((a.Stops.length : Int))), (49, iv ((s : Int)))] = e' ∧ (m, Cl 25 [sv S r.Trains K, sv A5 r.Turns c6]) :: (y, Cl 47 [iv a.No, iv a.Stock, sv t a.Stops x, sv H a.Legs I]) :: R = hp' ∧ U.Le G) aC ⟨rfl, rfl, lr⟩ ?_ ?_
 rintro s _ G _ _ bI bq ⟨rfl, rfl, g⟩ C E
 unfold mFishref2GuideFault_L931 at C
 have hm := C
 refine Cr<|tS (lT rfl rfl (by omega))<|Te<|Cs<|c_cond_t rfl<|Ck<|Xn<|Cs<|Cb<|Cr ?_
 refine mV rfl ?_
 obtain ⟨e, a7, br, aD, bs, aE, ai, W, aj, hm⟩ := bF (sz := 4) hm (aa.le (d.trans g))
 obtain ⟨_, _, rfl, rfl, ⟨_, _, rfl, rfl, ⟨_, _, rfl, rfl, rfl⟩⟩⟩ := aE
 refine tS (sI a7 rfl rfl aD aj W sl45)<|tS (sP (vs := [iv e.Station, iv e.Track, iv e.Arr, iv e.Dep]) 4 rfl agg83 W rfl (fun j u hu => ai j u hu))<|tD (uA [iv 0, iv 0, iv 0, iv 0] zero83 rfl) ?_
 rintro _ _ ⟨ak, rfl, rfl⟩
 refine aS rfl<|tD (uN (vs := [_, _, _, _]) 0 4 rfl rfl rfl siz83 rfl (mc rfl (mc rfl (mc rfl (mc rfl mn)))) rfl (by simp)) ?_
 rintro _ _ rfl
 refine Te<|Cs ?_
 obtain ⟨a8, aF, aG⟩ := bS hm
 refine Cj (fun L e' hp' => [(1, pb m), (5, pb y), (8, iv ((s : Int))), (9, pb ak), (16, sv S r.Trains K), (17, iv ((r.Trains.length : Int))), (18, iv ((D : Int))), (47, sv t a.Stops x), (48, iv ((a.Stops.length : Int))), (49, iv ((s : Int))), (69, bv a8)] = e' ∧ (m, Cl 25 [sv S r.Trains K, sv A5 r.Turns c6]) :: (y, Cl 47 [iv a.No, iv a.Stock, sv t a.Stops x, sv H a.Legs I]) :: (ak, Cl 83 [iv e.Station, iv e.Track, iv e.Arr, iv e.Dep]) :: R = hp' ∧ G.Le L) ?_ ?_
 have hm := aF
 refine Cg<|tS (sF rfl fld83_0)<|tS (sL 0 rfl one3 rfl rfl) ?_
 obtain ⟨al, am, hm⟩ := bS hm
 refine tD (uW _ call35 rfl (fun w ho => cFishref2Within _ [] e.Station 0 11 al am) (fun _ _ _ h => h.2.symm)) ?_
 rintro _ _ ⟨⟨_, rfl, _⟩, rfl⟩
 rcases Bool.eq_false_or_eq_true al with n | n
 rw [if_pos n] at hm
 refine Tr 56 rfl (v' := .bool true) (by rw [n] <;> rfl)<|tS (st_not_t rfl)<|mV rfl<|yS<|tS (sF rfl fld83_2)<|yS<|tS (sL 0 rfl one3 rfl rfl)<|yS ?_
 obtain ⟨an, ao, hm⟩ := bS hm
 refine tD (uW _ call35 rfl (fun w ho => cFishref2Within _ [] e.Arr 0 28800 an ao) (fun _ _ _ h => h.2.symm)) ?_
 rintro _ _ ⟨⟨_, rfl, _⟩, rfl⟩
 rcases Bool.eq_false_or_eq_true an with o | o
 rw [if_pos o] at hm
 refine Tr 61 rfl (v' := .bool true) (by rw [o] <;> rfl)<|yS<|tS (st_not_t rfl)<|tS (pF rfl rfl)<|mV rfl<|yS<|tS (sF rfl fld83_3)<|yS<|tS (sL 0 rfl one3 rfl rfl)<|yS ?_
 obtain ⟨a9, aq, hm⟩ := bS hm
 refine tD (uW _ call35 rfl (fun w ho => cFishref2Within _ [] e.Dep 0 28800 a9 aq) (fun _ _ _ h => h.2.symm)) ?_
 rintro _ _ ⟨⟨_, rfl, _⟩, rfl⟩
 refine yS<|tS (sn2 rfl)<|tS (pF rfl rfl)<|Tn ?_
 obtain rfl := o1 hm
 exact jJ ⟨rfl, rfl, lr⟩
 rw [if_neg (fun hh => Bool.noConfusion (hh.symm.trans o))] at hm
 refine Tr 61 rfl (v' := .bool false) (by rw [o] <;> rfl)<|yS<|tS (st_not_f rfl)<|tS (pF rfl rfl)<|mV rfl<|nO<|nO<|nO<|nO<|tS (pT rfl rfl) ?_
 refine Tn ?_
 obtain rfl := o1 hm
 exact jJ ⟨rfl, rfl, lr⟩
 rw [if_neg (fun hh => Bool.noConfusion (hh.symm.trans n))] at hm
 refine Tr 56 rfl (v' := .bool false) (by rw [n] <;> rfl)<|tS (st_not_f rfl)<|mV rfl<|nO<|nO<|nO<|nO<|tS (pT rfl rfl)<|mV rfl<|nO ?_
 refine nO<|nO<|nO<|tS (pT rfl rfl)<|Tn ?_
 obtain rfl := o1 hm
 exact jJ ⟨rfl, rfl, lr⟩
 rintro L _ _ ⟨rfl, rfl, p⟩
 have hm := aG
 refine cB hm rfl (fun hm => ?_) fun hm => ?_
 refine Cr<|aS rfl<|Te<|Ct<|Xr<|Xb<|Xr<|Xr<|Xb<|Xb ?_
 refine Xr<|Xr<|Xb<|Xr ?_
 have aH := E _ (Option.some.inj hm).symm
 rw [aH] at k
 have hm := elimR k
 have aI := i _ (Option.some.inj hm).symm
 rw [aI] at f
 have hm := elimR f
 obtain rfl := o1 hm
 exact rO ⟨rfl, rfl⟩ (c.trans (d.trans (g.trans p)))
 refine Ck<|Xn ?_
 obtain ⟨ba, aJ, aK⟩ := bS hm
 refine Cj (fun ar e' hp' => [(1, pb m), (5, pb y), (16, sv S r.Trains K), (17, iv ((r.Trains.length : Int))), (18, iv ((D : Int))), (47, sv t a.Stops x), (48, iv ((a.Stops.length : Int))), (49, iv ((s : Int))), (90, bv ba)] = e' ∧ (m, Cl 25 [sv S r.Trains K, sv A5 r.Turns c6]) :: (y, Cl 47 [iv a.No, iv a.Stock, sv t a.Stops x, sv H a.Legs I]) :: R = hp' ∧ L.Le ar) ?_ ?_
 have hm := aJ
 by_cases q : e.Dep < e.Arr
 rw [if_pos q] at hm
 refine Di mixed (.refl _)<|E0 0 rfl (sF rfl fld83_3)<|Es 1 rfl (sL 2 rfl one3 rfl rfl)<|E0 2 rfl (sF rfl fld83_2)<|Es 3 rfl (sL 2 rfl one3 rfl rfl)<|E0 4 rfl (lT rfl rfl q)<|E0 5 rfl (sM rfl)<|eN 6 rfl<|eN 7 rfl<|eN 8 rfl ?_
 refine eN 9 rfl<|eN 10 rfl<|eN 11 rfl<|eN 12 rfl<|eN 13 rfl<|eN 14 rfl<|eN 15 rfl<|eN 16 rfl<|eN 17 rfl<|eN 18 rfl ?_
 refine eN 19 rfl<|E0 20 rfl (pT rfl rfl)<|Eo<|Dd (by kernel_rfl) ?_
 obtain rfl := o1 hm
 exact jJ ⟨rfl, rfl, lr⟩
 rw [if_neg q] at hm
 by_cases z : 0 < (s : Int)
 rw [if_pos z] at hm
 obtain ⟨_, O, hm⟩ := bS hm
 obtain ⟨bJ, bb, hm⟩ := bS hm
 refine Di mixed (.refl _)<|E0 0 rfl (sF rfl fld83_3)<|Es 1 rfl (sL 2 rfl one3 rfl rfl)<|E0 2 rfl (sF rfl fld83_2)<|Es 3 rfl (sL 2 rfl one3 rfl rfl)<|E0 4 rfl (lF rfl rfl q)<|E0 5 rfl (sM rfl)<|Yz 6 75 rfl (sM rfl)<|Yz 7 75 rfl (st_gtr_t rfl rfl z)<|Yz 8 75 rfl (sM rfl) ?_
 refine Yz 9 78 rfl (sF rfl fld83_2)<|Ey 10 78 rfl (sL 2 rfl one3 rfl rfl)<|Yz 11 78 rfl (sF rfl fld47_2)<|Ey 12 78 rfl (sL 1 rfl one45 rfl rfl)<|Yz 13 78 rfl (sM rfl) ?_
 have O := (kS O).2
 refine Yz 14 78 rfl (sb rfl rfl O) ?_
 obtain ⟨bc, aL, aM⟩ := iS bb
 obtain ⟨bt, aN, au, X, av⟩ := FZ.get (sz := 4) rfl (by decide) (aa.le (d.trans (g.trans p))) aM
 obtain ⟨_, _, rfl, rfl, ⟨_, _, rfl, rfl, ⟨_, _, rfl, rfl, rfl⟩⟩⟩ := aN
 refine Yz 15 78 rfl (sI bc rfl rfl aL av X sl45)<|Yz 16 78 rfl (sQ rfl X fld83_3)<|Ey 17 78 rfl (sO rfl one3 (au 3 _ rfl))<|Yz 18 78 rfl (q4 rfl rfl)<|Yz 19 75 rfl (pT rfl rfl)<|E0 20 rfl (pF rfl rfl)<|Eo<|Dd (by kernel_rfl) ?_
 obtain rfl := o1 hm
 exact jJ ⟨rfl, rfl, lr⟩
 rw [if_neg z] at hm
 refine Di mixed (.refl _)<|E0 0 rfl (sF rfl fld83_3)<|Es 1 rfl (sL 2 rfl one3 rfl rfl)<|E0 2 rfl (sF rfl fld83_2)<|Es 3 rfl (sL 2 rfl one3 rfl rfl)<|E0 4 rfl (lF rfl rfl q)<|E0 5 rfl (sM rfl)<|Yz 6 75 rfl (sM rfl)<|Yz 7 75 rfl (st_gtr_f rfl rfl z)<|Yz 8 75 rfl (sM rfl) ?_
 refine eN 9 rfl<|eN 10 rfl<|eN 11 rfl<|eN 12 rfl<|eN 13 rfl<|eN 14 rfl<|eN 15 rfl<|eN 16 rfl<|eN 17 rfl<|eN 18 rfl ?_
 refine Yz 19 75 rfl (pF rfl rfl)<|E0 20 rfl (pF rfl rfl)<|Eo<|Dd (by kernel_rfl) ?_
 obtain rfl := o1 hm
 exact jJ ⟨rfl, rfl, lr⟩
 rintro ar _ _ ⟨rfl, rfl, J⟩
 have hm := aK
 refine cB hm rfl (fun hm => ?_) fun hm => ?_
 refine Cr<|aS rfl<|Te<|Ct<|Xb<|Xr<|Xr<|Xb<|Xb<|Xr ?_
 refine Xr<|Xb<|Xr ?_
 have aO := E _ (Option.some.inj hm).symm
 rw [aO] at k
 have hm := elimR k
 have aP := i _ (Option.some.inj hm).symm
 rw [aP] at f
 have hm := elimR f
 obtain rfl := o1 hm
 exact rO ⟨rfl, rfl⟩ (c.trans (d.trans (g.trans (p.trans J))))
 refine Ck<|Xm<|Xn<|Cg<|tS (sa rfl rfl (by omega))<|mV rfl<|Tn ?_
 exact jM hm ⟨rfl, rfl, ((g.trans (p.trans J)))⟩
 rintro _ G _ _ ⟨rfl, rfl, g⟩ aQ
 rw [aQ] at k
 have hm := elimL k
 refine Cr<|tS (lF rfl rfl (by omega))<|Te<|Cs<|c_cond_f rfl<|Ce<|Xe<|Xe<|Xo<|Xm ?_
 refine Xn<|Cg<|tS (sa rfl rfl (by omega))<|mV rfl<|Tn ?_
 exact jM hm ⟨rfl, rfl, ((c.trans (d.trans g)))⟩
 rintro _ T _ _ ⟨rfl, rfl, c⟩ aR
 rw [aR] at f
 have hm := elimL f
 refine Cr<|tS (lF rfl rfl (by omega))<|Te<|Cs<|c_cond_f rfl<|Ce<|Xe<|Xe<|Xo<|Xn ?_
 refine Cr<|aS rfl<|Te<|Ct ?_
 obtain rfl := o1 hm
 exact rO ⟨rfl, rfl⟩ c

set_option maxRecDepth 20000 in
theorem cFishref2SearchFault (b : Base) (R : Hp) (F D E p q r s) (hm : mFishref2SearchFault F D E p q r = some s):
    CallsG Tryd.prog 10 [iv F, iv D, iv E, iv p, bv q, bv r] b (R) (fun v b' hp' => iv s = v ∧ R = hp') := by
 refine fE 43 Tryd.func10 rfl Tryd.ntmps10 rfl ?_
 unfold mFishref2SearchFault at hm
 refine Cr<|aS rfl<|Te<|Cs<|Cb<|Cr<|mV rfl ?_
 obtain ⟨G, j, hm⟩ := bS hm
 refine tD (uW _ call35 rfl (fun w ho => cFishref2Within _ [] F 0 28800 G j) (fun _ _ _ h => h.2.symm)) ?_
 rintro _ _ ⟨⟨_, rfl, _⟩, rfl⟩
 refine tS (sn2 rfl)<|aS rfl<|Te ?_
 refine cM hm rfl (fun hm => ?_) fun hm => ?_
 refine Cr<|aS rfl<|Te<|Ct<|Xb<|Xr ?_
 obtain rfl := o1 hm
 exact rO ⟨rfl, rfl⟩ lr
 obtain ⟨H, t, u⟩ := bS hm
 refine Cj (fun k e' hp' => [(1, iv D), (2, iv E), (3, iv p), (4, bv q), (5, bv r), (17, bv H)] = e' ∧ R = hp' ∧ b.Le k) ?_ ?_
 have hm := t
 refine Cg<|mV rfl ?_
 obtain ⟨x, l, hm⟩ := bS hm
 refine tD (uW _ call35 rfl (fun w ho => cFishref2Within _ [] D 0 11 x l) (fun _ _ _ h => h.2.symm)) ?_
 rintro _ _ ⟨⟨_, rfl, _⟩, rfl⟩
 rcases Bool.eq_false_or_eq_true x with c | c
 rw [if_pos c] at hm
 refine Tr 19 rfl (v' := .bool true) (by rw [c] <;> rfl)<|tS (st_not_t rfl)<|mV rfl<|yS<|mV rfl ?_
 rcases Bool.eq_false_or_eq_true q with d | d
 rw [if_pos d] at hm
 refine Tr 22 rfl (v' := .bool true) (by rw [d] <;> rfl)<|yS<|mV rfl<|yS<|mV rfl<|yS ?_
 obtain ⟨I, m, hm⟩ := bS hm
 refine tD (uW _ call35 rfl (fun w ho => cFishref2Within _ [] E 0 11 I m) (fun _ _ _ h => h.2.symm)) ?_
 rintro _ _ ⟨⟨_, rfl, _⟩, rfl⟩
 refine yS<|tS (sn2 rfl)<|yS<|tS (pT rfl rfl)<|tS (pF rfl rfl)<|aS rfl<|Tn ?_
 obtain rfl := o1 hm
 exact jJ ⟨rfl, rfl, lr⟩
 rw [if_neg (fun hh => Bool.noConfusion (hh.symm.trans d))] at hm
 refine Tr 22 rfl (v' := .bool false) (by rw [d] <;> rfl)<|yS<|mV rfl<|nO<|nO<|nO<|yS<|tS (pF rfl rfl)<|tS (pF rfl rfl)<|aS rfl ?_
 refine Tn ?_
 obtain rfl := o1 hm
 exact jJ ⟨rfl, rfl, lr⟩
 rw [if_neg (fun hh => Bool.noConfusion (hh.symm.trans c))] at hm
 refine Tr 19 rfl (v' := .bool false) (by rw [c] <;> rfl)<|tS (st_not_f rfl)<|mV rfl<|nO<|nO<|nO<|nO<|nO<|nO<|tS (pT rfl rfl) ?_
 refine aS rfl<|Tn ?_
 obtain rfl := o1 hm
 exact jJ ⟨rfl, rfl, lr⟩
 rintro k _ _ ⟨rfl, rfl, a⟩
 have hm := u
 refine cB hm rfl (fun hm => ?_) fun hm => ?_
 refine Cr<|aS rfl<|Te<|Ct<|Xb<|Xr ?_
 obtain rfl := o1 hm
 exact rO ⟨rfl, rfl⟩ a
 obtain ⟨J, y, z⟩ := bS hm
 refine Cj (fun n e' hp' => [(3, iv p), (5, bv r), (29, bv J)] = e' ∧ R = hp' ∧ k.Le n) ?_ ?_
 have hm := y
 refine Cg<|mV rfl ?_
 rcases Bool.eq_false_or_eq_true q with e | e
 rw [if_pos e] at hm
 refine Tr 30 rfl (v' := .bool true) (by rw [e] <;> rfl)<|mV rfl<|yS<|mV rfl<|yS<|mV rfl<|yS<|tS (q1 rfl rfl)<|tS (pT rfl rfl)<|aS rfl ?_
 refine Tn ?_
 obtain rfl := o1 hm
 exact jJ ⟨rfl, rfl, lr⟩
 rw [if_neg (fun hh => Bool.noConfusion (hh.symm.trans e))] at hm
 refine Tr 30 rfl (v' := .bool false) (by rw [e] <;> rfl)<|mV rfl<|nO<|nO<|nO<|tS (pF rfl rfl)<|aS rfl<|Tn ?_
 obtain rfl := o1 hm
 exact jJ ⟨rfl, rfl, lr⟩
 rintro n _ _ ⟨rfl, rfl, g⟩
 have hm := z
 refine cB hm rfl (fun hm => ?_) fun hm => ?_
 refine Cr<|aS rfl<|Te<|Ct<|Xb<|Xr ?_
 obtain rfl := o1 hm
 exact rO ⟨rfl, rfl⟩ (a.trans g)
 obtain ⟨K, A, B⟩ := bS hm
 refine Cj (fun C e' hp' => [(36, bv K)] = e' ∧ R = hp' ∧ n.Le C) ?_ ?_
 have hm := A
 refine Cg<|mV rfl ?_
 rcases Bool.eq_false_or_eq_true r with f | f
 rw [if_pos f] at hm
 refine Tr 37 rfl (v' := .bool true) (by rw [f] <;> rfl)<|mV rfl<|yS<|mV rfl<|yS ?_
 obtain ⟨L, o, hm⟩ := bS hm
 refine tD (uW _ call35 rfl (fun w ho => cFishref2Within _ [] p 0 28800 L o) (fun _ _ _ h => h.2.symm)) ?_
 rintro _ _ ⟨⟨_, rfl, _⟩, rfl⟩
 refine yS<|tS (sn2 rfl)<|tS (pT rfl rfl)<|aS rfl<|Tn ?_
 obtain rfl := o1 hm
 exact jJ ⟨rfl, rfl, lr⟩
 rw [if_neg (fun hh => Bool.noConfusion (hh.symm.trans f))] at hm
 refine Tr 37 rfl (v' := .bool false) (by rw [f] <;> rfl)<|mV rfl<|nO<|nO<|nO<|tS (pF rfl rfl)<|aS rfl<|Tn ?_
 obtain rfl := o1 hm
 exact jJ ⟨rfl, rfl, lr⟩
 rintro C _ _ ⟨rfl, rfl, i⟩
 have hm := B
 refine cB hm rfl (fun hm => ?_) fun hm => ?_
 refine Cr<|aS rfl<|Te<|Ct<|Xb<|Xr ?_
 obtain rfl := o1 hm
 exact rO ⟨rfl, rfl⟩ (a.trans (g.trans i))
 refine Ck<|Xm<|Xn<|Cr<|aS rfl<|Te<|Ct ?_
 obtain rfl := o1 hm
 exact rO ⟨rfl, rfl⟩ (a.trans (g.trans i))

set_option maxRecDepth 20000 in
theorem cFishkeep2Turned (b : Base) (R : Hp) (s1 : ApiDay) (A2 c3 A5 c6) (h4 : FZ rApiTrain b.w A2 c3 s1.Trains) (h7 : FZ (RT.list rI) b.w A5 c6 s1.Turns) (ak al) (hm : mFishkeep2Turned s1 = some (ak, al)):
    CallsG Tryd.prog 11 [.agg #[sv A2 s1.Trains c3, sv A5 s1.Turns c6]] b (R) (fun v b' hp' => ∃ aq a0 a1 a2 ar, .agg #[sv a1 al a2, sv aq ak a0] = v ∧ (ar ++ R) = hp' ∧ FZ (RT.list rI) b'.w aq a0 ak ∧ (aq = none ↔ ak = []) ∧ OS 47 (OT.fr rApiTrain) b'.w (sv a1 al a2) al ar) := by
 refine fE 85 Tryd.func11 rfl Tryd.ntmps11 rfl ?_
 unfold mFishkeep2Turned at hm
 refine Cr<|tD (uB _ rfl rfl) ?_
 rintro _ _ ⟨bC, rfl, rfl⟩
 refine tD (uA [sn, sn] zero25 rfl) ?_
 rintro _ _ ⟨G, rfl, rfl⟩
 refine Te<|Cr<|tD (uA [sn, sn] zero25 rfl) ?_
 rintro _ _ ⟨H, rfl, rfl⟩
 refine Te<|Cs<|Cr<|tS (sF rfl fld25_0)<|tS (sL 2 rfl one22 rfl rfl)<|tS (sE rfl sl22)<|mV rfl<|Te<|Cb ?_
 have bs : s1.Trains.length ≤ 9223372036854775807 := (FZ.bd h4)
 refine Cp 1 rfl ?_
 obtain ⟨n, aH, aI⟩ := bS hm
 refine lS (fun I => fun n => fun D e' hp' => ∃ q s d, [(2, pb G), (3, pb H), (12, sv A2 s1.Trains c3), (13, iv ((s1.Trains.length : Int))), (14, iv ((I : Int)))] = e' ∧ (G, Cl 25 [sn, sn]) :: (H, Cl 25 [sv q n s, sn]) :: (d ++ R) = hp' ∧ b.Le D ∧ OS 47 (OT.fr rApiTrain) D.w (sv q n s) n d) aH ⟨none, 0, [], rfl, rfl, lr, OS.nil⟩ ?_ ?_
 rintro I n D _ _ bt bi ⟨q, s, d, rfl, rfl, y, S⟩ E
 unfold mFishkeep2Turned_L825 at E
 have hm := E
 refine Cr<|tS (lT rfl rfl (by omega))<|Te<|Cs<|c_cond_t rfl<|Ck<|Xn<|Cs<|Cb<|Cr ?_
 obtain ⟨a, a3, bj, aJ, bk, aK, au, am, av, hm⟩ := bF (sz := 4) hm (h4.le y)
 obtain ⟨_, _, rfl, rfl, ⟨_, _, rfl, rfl, ⟨_, _, rfl, ⟨T, U, rfl, aw⟩, ⟨V, W, rfl, ax⟩⟩⟩⟩ := aK
 refine tS (sI a3 rfl rfl aJ av am sl22)<|tS (sP (vs := [iv a.No, iv a.Stock, sv T a.Stops U, sv V a.Legs W]) 4 rfl agg47 am rfl (fun j u hu => au j u hu))<|tD (uA [iv 0, iv 0, sn, sn] zero47 rfl) ?_
 rintro _ _ ⟨J, rfl, rfl⟩
 refine tD (uN (vs := [_, _, _, _]) 0 4 rfl rfl rfl siz47 rfl (mc rfl (mc rfl (mc rfl (mc rfl mn)))) rfl (by simp)) ?_
 rintro _ _ rfl
 refine Te<|Cr<|tS (sF rfl fld47_2)<|tS (sL 0 rfl one45 rfl rfl)<|tS (sE rfl sl45) ?_
 obtain ⟨_, X, hm⟩ := bS hm
 have X := (kS X).2
 refine tS (sb rfl rfl X)<|aS rfl<|Te<|Cr<|tS (sF rfl fld47_0)<|tS (sL 0 rfl one3 rfl rfl)<|tS (sF rfl fld47_1)<|tS (sL 0 rfl one3 rfl rfl)<|tS (sB (v := .agg #[iv a.No, iv a.Stock, sn, sn]) [(0, iv a.No), (1, iv a.Stock)] rfl (fun _ => by kernel_rfl))<|tD (uA [iv 0, iv 0, sn, sn] zero47 rfl) ?_
 rintro _ _ ⟨K, rfl, rfl⟩
 refine tD (uN (vs := [_, _, _, _]) 0 4 rfl rfl rfl siz47 rfl (mc rfl (mc rfl (mc rfl (mc rfl mn)))) rfl (by simp)) ?_
 rintro _ _ rfl
 refine Te<|Cs<|Cr<|tS (sF rfl fld47_2)<|tS (sL 1 rfl one45 rfl rfl)<|tS (sE rfl sl45)<|mV rfl<|Te<|Cb ?_
 have bl : a.Stops.length ≤ 9223372036854775807 := (FZ.bd aw)
 refine Cp 1 rfl<|Cp 3 rfl<|Cp 3 rfl ?_
 obtain ⟨f, aL, aM⟩ := bS hm
 refine lS (fun ay => fun f => fun F e' hp' => ∃ o p e, [(2, pb G), (3, pb H), (5, pb J), (6, iv ((a.Stops.length : Int) - 1)), (7, pb K), (12, sv A2 s1.Trains c3), (13, iv ((s1.Trains.length : Int))), (14, iv ((I : Int))), (29, iv ((a.Stops.length : Int))), (30, iv ((ay : Int)))] = e' ∧ (G, Cl 25 [sn, sn]) :: (H, Cl 25 [sv q n s, sn]) :: (J, Cl 47 [iv a.No, iv a.Stock, sv T a.Stops U, sv V a.Legs W]) :: (K, Cl 47 [iv a.No, iv a.Stock, sv o f p, sn]) :: (d ++ (e ++ R)) = hp' ∧ D.Le F ∧ OS 83 (OT.fr rApiStop) F.w (sv o f p) f e) aL ⟨none, 0, [], rfl, rfl, lr, OS.nil⟩ ?_ ?_
 rintro ay f F _ _ bm bg ⟨o, p, e, rfl, rfl, h, Y⟩ B
 unfold mFishkeep2Turned_L1384 at B
 have hm := B
 refine Cr<|tS (lT rfl rfl (by omega))<|Te<|Cs<|c_cond_t rfl<|Ck<|Xn<|Cs<|Cb<|Cr ?_
 refine mV rfl<|aS rfl<|Te<|Cr<|tS (sF rfl fld47_2)<|tS (sL 2 rfl one45 rfl rfl)<|mV rfl<|mV rfl ?_
 obtain ⟨_, Z, hm⟩ := bS hm
 have Z := (kS Z).2
 refine tS (sb rfl rfl Z) ?_
 obtain ⟨c, a4, bn, aN, bo, aO, az, an, aA, hm⟩ := bF (sz := 4) hm (aw.le h)
 obtain ⟨_, _, rfl, rfl, ⟨_, _, rfl, rfl, ⟨_, _, rfl, rfl, rfl⟩⟩⟩ := aO
 refine tS (sI a4 rfl rfl aN aA an sl45)<|tS (sP (vs := [iv c.Station, iv c.Track, iv c.Arr, iv c.Dep]) 4 rfl agg83 an rfl (fun j u hu => az j u hu))<|tD (uA [iv 0, iv 0, iv 0, iv 0] zero83 rfl) ?_
 rintro _ _ ⟨bu, rfl, rfl⟩
 refine tD (uN (vs := [_, _, _, _]) 0 4 rfl rfl rfl siz83 rfl (mc rfl (mc rfl (mc rfl (mc rfl mn)))) rfl (by simp)) ?_
 rintro _ _ rfl
 refine Te<|Cg<|tS (sF rfl fld47_2)<|tS (sL 4 rfl one45 rfl rfl)<|tS (sF rfl fld83_0)<|tS (sL 0 rfl one3 rfl rfl)<|tS (sF rfl fld83_1)<|tS (sL 0 rfl one3 rfl rfl)<|tS (sF rfl fld83_3)<|tS (sL 0 rfl one3 rfl rfl) ?_
 obtain ⟨_, aa, hm⟩ := bS hm
 have aa := (kS aa).2
 refine tS (sb rfl rfl aa)<|tS (sF rfl fld83_2)<|tS (sL 0 rfl one3 rfl rfl) ?_
 obtain ⟨_, ab, hm⟩ := bS hm
 have ab := (kS ab).2
 refine tS (sb rfl rfl ab)<|tS (sB (v := .agg #[iv c.Station, iv c.Track, iv (28800 - c.Dep), iv (28800 - c.Arr)]) [(0, iv c.Station), (1, iv c.Track), (2, iv (28800 - c.Dep)), (3, iv (28800 - c.Arr))] rfl (fun _ => by kernel_rfl))<|tD (u_bslice (el := 83) [(0, .agg #[iv c.Station, iv c.Track, iv (28800 - c.Dep), iv (28800 - c.Arr)])] [iv c.Station, iv c.Track, iv (28800 - c.Dep), iv (28800 - c.Arr)] rfl (fun _ => by kernel_rfl)) ?_
 rintro _ _ ⟨bw, rfl, rfl⟩
 obtain ⟨_, ac, hm⟩ := bS hm
 have ac := room_some ac
 refine t_front2 [_, _, _, _, _, _] d e R rfl<|tD (uQ (r := rApiStop) (l := f) [_, _, _, _, _, _] (d ++ R) [[iv c.Station, iv c.Track, iv (28800 - c.Dep), iv (28800 - c.Arr)]] [(⟨c.Station, c.Track, 28800 - c.Dep, 28800 - c.Arr⟩ : ApiStop)] rfl (by decide) sl45 inf83 rfl rfl rfl rfl Y rfl (fun w ho => Rd.own (i := 0) ho rfl) ⟨⟨[iv c.Station], _, rfl, rfl, ⟨[iv c.Track], _, rfl, rfl, ⟨[iv (28800 - c.Dep)], _, rfl, rfl, rfl⟩⟩⟩, trivial⟩ ac) ?_
 rintro _ _ ⟨aP, rfl, aB⟩
 obtain ⟨a5, a6, rfl, _⟩ := aB.form
 refine tS (sF rfl fld47_2)<|tD (uS 5 rfl rfl siz45 rfl rfl (by simp)) ?_
 rintro _ _ rfl
 refine Tn<|Xm<|Xn<|Cg<|tS (sa rfl rfl (by omega))<|mV rfl<|Tn ?_
 obtain rfl := o1 hm
 exact jS ⟨a5, a6, aP, rfl, rfl, (h), aB⟩
 rintro F _ _ ⟨o, p, e, rfl, rfl, h, Y⟩
 have hm := aM
 refine Cr<|tS (lF rfl rfl (by omega))<|Te<|Cs<|c_cond_f rfl<|Ce<|Xe<|Xe<|Xo<|Xn ?_
 refine Cs<|Cr<|tS (sF rfl fld47_3)<|tS (sL 2 rfl one23 rfl rfl)<|tS (sE rfl sl23)<|mV rfl<|Te<|Cb ?_
 have bp : a.Legs.length ≤ 9223372036854775807 := (FZ.bd (ax.le h))
 refine Cp 3 rfl<|Cp 3 rfl<|Cp 3 rfl<|Cp 3 rfl<|c_front2 [_, _, _, _] d e R rfl<|c_front2 [_, _, _, _] e d R rfl ?_
 obtain ⟨k, aQ, aR⟩ := bS hm
 refine lS (fun aC => fun k => fun L e' hp' => ∃ t x g, [(2, pb G), (3, pb H), (5, pb J), (6, iv ((a.Stops.length : Int) - 1)), (7, pb K), (12, sv A2 s1.Trains c3), (13, iv ((s1.Trains.length : Int))), (14, iv ((I : Int))), (59, iv ((a.Legs.length : Int))), (60, iv ((aC : Int)))] = e' ∧ (G, Cl 25 [sn, sn]) :: (H, Cl 25 [sv q n s, sn]) :: (J, Cl 47 [iv a.No, iv a.Stock, sv T a.Stops U, sv V a.Legs W]) :: (K, Cl 47 [iv a.No, iv a.Stock, sv o f p, sv t k x]) :: (d ++ (e ++ (g ++ R))) = hp' ∧ F.Le L ∧ OS 49 (OT.fr (RT.list rI)) L.w (sv t k x) k g) aQ ⟨none, 0, [], rfl, rfl, lr, OS.nil⟩ ?_ ?_
 rintro aC k L _ _ bq bh ⟨t, x, g, rfl, rfl, m, ad⟩ C
 unfold mFishkeep2Turned_L1464 at C
 have hm := C
 refine Cr<|tS (lT rfl rfl (by omega))<|Te<|Cs<|c_cond_t rfl<|Ck<|Xn<|Cs<|Cb<|Cr ?_
 refine mV rfl<|aS rfl<|Te ?_
 obtain ⟨_, ae, hm⟩ := bS hm
 obtain ⟨_, af, hm⟩ := bS hm
 obtain ⟨O, a7, hm⟩ := bS hm
 obtain ⟨_, ag, hm⟩ := bS hm
 refine Di mixed (.cons_cons _ (.cons_cons _ (.cons_cons _ (.cons_cons _ (sp d (sp e (ss g (.refl _))))))))<|E0 0 rfl (sF rfl fld47_3)<|Es 1 rfl (sL 3 rfl one23 rfl rfl)<|E0 2 rfl (sF rfl fld47_3)<|Es 3 rfl (sL 2 rfl one23 rfl rfl)<|E0 4 rfl (sM rfl) ?_
 have ae := (kS ae).2
 refine E0 5 rfl (sb rfl rfl ae)<|E0 6 rfl (sM rfl) ?_
 have af := (kS af).2
 refine E0 7 rfl (sb rfl rfl af) ?_
 obtain ⟨a8, aT, aU⟩ := iS a7
 obtain ⟨br, aV, aD, aW, aE⟩ := FZ.get (sz := 1) rfl (by decide) (ax.le (h.trans m)) aU
 obtain ⟨ah, ai, rfl, a9⟩ := aV
 refine E0 8 rfl (sI a8 rfl rfl aT aE aW sl23)<|Es 9 rfl (sO rfl one49 (aD 0 _ rfl))<|Eo<|Da [10] (by kernel_rfl) rfl ?_
 refine Rd2 lr rfl rfl (u_bslice (el := 49) [(0, sv ah O ai)] [sv ah O ai] rfl (fun _ => by kernel_rfl)) ?_ ?_
 rintro _ _ ⟨bx, rfl, rfl⟩
 refine iR ?_
 have ag := room_some ag
 refine d3 [_, _, _, _, _] d e g R rfl<|Da [11] (by kernel_rfl) rfl ?_
 refine Rd2 lr rfl rfl (uQ (r := (RT.list rI)) (l := k) [_, _, _, _, _] (d ++ (e ++ R)) [[sv ah O ai]] [O] rfl (by decide) sl23 inf49 rfl rfl rfl rfl ad rfl (fun w ho => Rd.own (i := 0) ho rfl) ⟨(RT.list_mk a9), trivial⟩ ag) ?_ ?_
 rintro _ _ ⟨ao, rfl, aF⟩
 obtain ⟨ba, bb, rfl, _⟩ := aF.form
 refine iR<|Ei lr (.cons _ (.cons_cons _ (.cons_cons _ (.cons_cons _ (.cons_cons _ (ss ao (.refl _)))))))<|E0 12 rfl (sF rfl fld47_3)<|Eo<|Da [13] (by kernel_rfl) rfl ?_
 refine Rd2 lr rfl rfl (uS 4 rfl rfl siz23 rfl rfl (by simp)) ?_ ?_
 rintro _ _ rfl
 refine ⟨.inl (by kernel_rfl), ?_⟩
 refine Dd (by kernel_rfl)<|Xm<|Xn<|Cg<|tS (sa rfl rfl (by omega))<|mV rfl<|Tn ?_
 obtain rfl := o1 hm
 exact jS ⟨ba, bb, ao, rfl, rfl, (m), aF⟩
 exact Rn
 exact Rn
 exact Rn
 rintro L _ _ ⟨t, x, g, rfl, rfl, m, ad⟩
 have hm := aR
 refine Cr<|tS (lF rfl rfl (by omega))<|Te<|Cs<|c_cond_f rfl<|Ce<|Xe<|Xe<|Xo<|Xn ?_
 refine Cg<|tS (sF rfl fld25_0)<|tS (sL 1 rfl one22 rfl rfl)<|tS (sD (vs := [_, _, _, _]) 3 4 rfl agg47 rfl rfl rfl)<|t_front2 [_, _, _, _] d e (g ++ R) rfl<|t_frz [_, _, _, _] e (d ++ (g ++ R)) rfl ?_
 intro bz z aX
 have bc := OS.frz (l := f) (Y.le m) z.cells aX
 refine t_front2 [_, _, _, _] d g R rfl<|t_frz [_, _, _, _] g (d ++ R) rfl ?_
 intro bA A aY
 have bd := OS.frz (l := k) (ad.le z) A.cells aY
 refine tD (u_bslice (el := 47) [(0, .agg #[iv a.No, iv a.Stock, sv o f p, sv t k x])] [iv a.No, iv a.Stock, sv o f p, sv t k x] rfl (fun _ => by kernel_rfl)) ?_
 rintro _ _ ⟨bB, rfl, rfl⟩
 obtain ⟨_, aj, hm⟩ := bS hm
 have aj := room_some aj
 refine tD (uQ (r := rApiTrain) (l := n) [_, _, _, _, _] R [[iv a.No, iv a.Stock, sv o f p, sv t k x]] [(⟨a.No, a.Stock, f, k⟩ : ApiTrain)] rfl (by decide) sl22 inf47 rfl rfl rfl rfl (S.le (h.trans (m.trans (z.trans A)))) rfl (fun w ho => Rd.own (i := 0) ho rfl) ⟨⟨[iv a.No], _, rfl, rfl, ⟨[iv a.Stock], _, rfl, rfl, ⟨[sv o f p], _, rfl, (RT.list_mk (bc.le A)), (RT.list_mk bd)⟩⟩⟩, trivial⟩ aj) ?_
 rintro _ _ ⟨aZ, rfl, aG⟩
 obtain ⟨be, bf, rfl, _⟩ := aG.form
 refine tS (sF rfl fld25_0)<|tD (uS 2 rfl rfl siz22 rfl rfl (by simp)) ?_
 rintro _ _ rfl
 refine Tn<|Xm<|Xn<|Cg<|tS (sa rfl rfl (by omega))<|mV rfl<|Tn ?_
 obtain rfl := o1 hm
 exact jS ⟨be, bf, aZ, rfl, rfl, ((y.trans (h.trans (m.trans (z.trans A))))), aG⟩
 rintro D _ _ ⟨q, s, d, rfl, rfl, y, S⟩
 have hm := aI
 refine Cr<|tS (lF rfl rfl (by omega))<|Te<|Cs<|c_cond_f rfl<|Ce<|Xe<|Xe<|Xo<|Xn ?_
 refine Cr<|tS (sD (vs := [_, _]) 1 2 rfl agg25 rfl rfl rfl)<|tD (uN (vs := [_, _]) 0 2 rfl rfl rfl siz25 rfl (mc rfl (mc rfl mn)) rfl (by simp)) ?_
 rintro _ _ rfl
 refine Te<|Ct ?_
 obtain ⟨rfl, rfl⟩ := some2 hm
 exact rM (rs := [.cell 2 25]) (vs := [.agg #[sv q n s, sn]]) ⟨⟨_, rfl, fun w ho => cell_agg (vs := [_, _]) 0 2 agg25 rfl rfl rfl w ho⟩, trivial⟩ ⟨none, 0, q, s, d, rfl, rfl, FZ.nil, ⟨fun _ => rfl, fun _ => rfl⟩, S⟩ (.cons _ (.cons _ (.refl _))) y

set_option maxRecDepth 20000 in
theorem cGuideLatest_1 (b : Base) (R : Hp) (a : GuidePoint) (c d e) (hm : mGuideLatest_1 a c = some e):
    CallsG Tryd.prog 40 [.agg #[iv a.Dep, iv a.Arr, iv a.Rides], pb d] b ((d, Cl 3 [iv c]) :: R) (fun v b' hp' => bv e = v ∧ (d, Cl 3 [iv c]) :: R = hp') := by
 refine fE 8 Tryd.func40 rfl Tryd.ntmps40 rfl ?_
 unfold mGuideLatest_1 at hm
 refine Cr<|tD (uB _ rfl rfl) ?_
 rintro _ _ ⟨f, rfl, rfl⟩
 refine aS rfl<|Te<|Cr<|tS (sF rfl fld42_1)<|tS (sL 0 rfl one3 rfl rfl)<|tS (sL 1 rfl one3 rfl rfl)<|tS (q5 rfl rfl)<|aS rfl<|Te<|Ct ?_
 obtain rfl := o1 hm
 exact rO ⟨rfl, rfl⟩ lr

set_option maxRecDepth 20000 in
theorem cSlicesIndexFunc_2 (b : Base) (R : Hp) (s m n F G h) (O : OS 42 (OT.fr rGuidePoint) b.w (sv F m G) m h) (t) (hm : mSlicesIndexFunc_2 s m = some t):
    CallsG Tryd.prog 74 [sv F m G, .func (.func 40) #[] #[pb n]] b ((n, Cl 3 [iv s]) :: (h ++ R)) (fun v b' hp' => iv t = v ∧ (n, Cl 3 [iv s]) :: (h ++ R) = hp') := by
 refine fE 19 Tryd.func74 rfl Tryd.ntmps74 rfl ?_
 unfold mSlicesIndexFunc_2 at hm
 refine Cr<|aS rfl<|Te<|Cs<|Cr<|mV rfl<|tS (sE rfl sl38)<|mV rfl<|Te<|Cb ?_
 have S : m.length ≤ 9223372036854775807 := (OS.len O)
 obtain ⟨Y, x, e⟩ := bS hm
 refine lF (fun y => fun _ => fun o e' hp' => [(0, sv F m G), (1, .func (.func 40) #[] #[pb n]), (7, iv ((m.length : Int))), (8, iv ((y : Int)))] = e' ∧ (n, Cl 3 [iv s]) :: (h ++ R) = hp' ∧ b.Le o) x ⟨rfl, rfl, lr⟩ ?_ ?_
 rintro y _ o _ _ T D ⟨rfl, rfl, a⟩ c g
 unfold mSlicesIndexFunc_2_L62 at c
 have hm := c
 refine Cr<|tS (lT rfl rfl (by omega))<|Te<|Cs<|c_cond_t rfl<|Ck<|Xn<|Cs<|Cb<|Cr ?_
 refine mV rfl<|aS rfl<|Te<|Cr<|mV rfl<|mV rfl<|mV rfl ?_
 obtain ⟨d, H, hm⟩ := bS hm
 obtain ⟨I, z, A⟩ := iS H
 obtain ⟨U, J, V, W, K, B, p, l, i, L, E⟩ := OS.get (sz := 3) rfl (by decide) (O.le a) A
 obtain ⟨⟨_, _, rfl, rfl, ⟨_, _, rfl, rfl, rfl⟩⟩, rfl⟩ := B
 refine tS (sI I rfl rfl z i l sl38)<|tS (st_loadN_rd (vs := [iv d.Dep, iv d.Arr, iv d.Rides]) 3 rfl agg42 l rfl (fun w ho j u hu => p w _ ho (.cons _ (List.sublist_append_left _ _)) j u hu)) ?_
 obtain ⟨C, k, hm⟩ := bS hm
 refine Tv #[] #[pb n] [.agg #[iv d.Dep, iv d.Arr, iv d.Rides]] rfl rfl call40 rfl (cGuideLatest_1 _ _ d s n C k) ?_
 rintro _ X _ f ⟨rfl, rfl⟩
 refine Te ?_
 refine cB hm rfl (fun hm => ?_) fun hm => ?_
 refine Cr<|mV rfl<|aS rfl<|Te<|Ct<|Xb<|Xr<|Xr<|Xb<|Xr ?_
 have q := g _ (Option.some.inj hm).symm
 rw [q] at e
 have hm := elimR e
 obtain rfl := o1 hm
 exact rO ⟨rfl, rfl⟩ (a.trans f)
 refine Ck<|Xm<|Xn<|Cg<|tS (sa rfl rfl (by omega))<|mV rfl<|Tn ?_
 exact jM hm ⟨rfl, rfl, ((a.trans f))⟩
 rintro _ o _ _ ⟨rfl, rfl, a⟩ r
 rw [r] at e
 have hm := elimL e
 refine Cr<|tS (lF rfl rfl (by omega))<|Te<|Cs<|c_cond_f rfl<|Ce<|Xe<|Xe<|Xo<|Xn ?_
 refine Cr<|aS rfl<|Te<|Ct ?_
 obtain rfl := o1 hm
 exact rO ⟨rfl, rfl⟩ a

set_option maxRecDepth 20000 in
theorem cSlicesDeleteFunc_2 (b : Base) (R : Hp) (x7 l8 Z X E s) (h5 : OS 42 (OT.fr rGuidePoint) b.w (sv X l8 E) l8 s) (F) (hm : mSlicesDeleteFunc_2 x7 l8 = some F):
    CallsG Tryd.prog 38 [sv X l8 E, .func (.func 40) #[] #[pb Z]] b ((Z, Cl 3 [iv x7]) :: (s ++ R)) (fun v b' hp' => ∃ aC aD aa, sv aC F aD = v ∧ (Z, Cl 3 [iv x7]) :: (aa ++ R) = hp' ∧ OS 42 (OT.fr rGuidePoint) b'.w (sv aC F aD) F aa) := by
 refine fE 42 Tryd.func38 rfl Tryd.ntmps38 rfl ?_
 unfold mSlicesDeleteFunc_2 at hm
 refine Cr<|aS rfl<|Te<|Cr<|mV rfl<|mV rfl ?_
 obtain ⟨aZ, al, hm⟩ := bS hm
 refine t_out1 [_] [] s R rfl<|Tg _ rfl call74 rfl (cSlicesIndexFunc_2 _ _ x7 l8 Z X E s h5 aZ al) ?_
 rintro _ aE _ g ⟨rfl, rfl⟩
 refine t_in1 [_] [] s R rfl<|aS rfl<|Te<|Cs<|Cr<|mV rfl<|tS (q1 rfl rfl)<|Te ?_
 refine cI hm rfl (fun hm => ?_) fun hm => ?_
 refine Cr<|mV rfl<|aS rfl<|Te<|Ct<|Xr ?_
 obtain rfl := o1 hm
 have aG := (h5.le g)
 exact rO ⟨X, E, s, rfl, rfl, aG⟩ g
 refine Ck<|Xn ?_
 obtain ⟨⟨G, f⟩, aH, aI⟩ := bS hm
 refine Cj (fun ab e' hp' => ∃ t, [(0, sv X f E), (5, iv G)] = e' ∧ (Z, Cl 3 [iv x7]) :: (t ++ R) = hp' ∧ aE.Le ab ∧ OS 42 (OT.fr rGuidePoint) ab.w (sv X f E) f t ∧ f.length = l8.length) ?_ ?_
 have hm := aH
 refine Cr<|mV rfl ?_
 obtain ⟨_, ac, hm⟩ := bS hm
 have ac := (kS ac).2
 refine tS (sa rfl rfl ac)<|aS rfl<|Te<|Cb<|lL (unc3 fun x y e => fun o e' hp' => ∃ d, [(0, sv X e E), (1, .func (.func 40) #[] #[pb Z]), (5, iv x), (6, iv y)] = e' ∧ (Z, Cl 3 [iv x7]) :: (d ++ R) = hp' ∧ aE.Le o ∧ OS 42 (OT.fr rGuidePoint) o.w (sv X e E) e d ∧ e.length = l8.length) hm ⟨s, rfl, rfl, lr, (h5.le g), rfl⟩ ?_
 rintro ⟨x, y, e⟩ o _ _ be ⟨d, rfl, rfl, q, k, m⟩ n Y
 unfold mSlicesDeleteFunc_2_L962 at n
 have hm := (unc3E n)
 refine Cs<|Cr<|mV rfl<|mV rfl<|tS (sE rfl sl38)<|tS (q3 rfl rfl)<|Te ?_
 refine cI hm rfl (fun hm => ?_) fun hm => ?_
 refine Ck<|Xn ?_
 obtain ⟨⟨aJ, p⟩, am, an⟩ := bS hm
 refine Cj (fun z e' hp' => ∃ h, [(0, sv X p E), (1, .func (.func 40) #[] #[pb Z]), (5, iv aJ), (6, iv y)] = e' ∧ (Z, Cl 3 [iv x7]) :: (h ++ R) = hp' ∧ o.Le z ∧ OS 42 (OT.fr rGuidePoint) z.w (sv X p E) p h ∧ p.length = l8.length) ?_ ?_
 have hm := am
 refine Cb<|Cr<|mV rfl<|mV rfl ?_
 obtain ⟨a, aK, hm⟩ := bS hm
 obtain ⟨aL, ao, aq⟩ := iS aK
 obtain ⟨a3, a4, bf, bg, a5, ar, ad, H, ae, a6, a0⟩ := OS.get (sz := 3) rfl (by decide) k aq
 obtain ⟨⟨_, _, rfl, rfl, ⟨_, _, rfl, rfl, rfl⟩⟩, rfl⟩ := ar
 refine tS (sI aL rfl rfl ao ae H sl38)<|tS (st_loadN_rd (vs := [iv a.Dep, iv a.Arr, iv a.Rides]) 3 rfl agg42 H rfl (fun w ho j u hu => ad w _ ho (.cons _ (List.sublist_append_left _ _)) j u hu))<|tD (uA [iv 0, iv 0, iv 0] zero42 rfl) ?_
 rintro _ _ ⟨bh, rfl, rfl⟩
 refine tD (uN (vs := [_, _, _]) 0 3 rfl rfl rfl siz42 rfl (mc rfl (mc rfl (mc rfl mn))) rfl (by simp)) ?_
 rintro _ _ rfl
 refine Te<|Cr<|mV rfl<|tS (sD (vs := [_, _, _]) 0 3 rfl agg42 rfl rfl rfl) ?_
 obtain ⟨aM, af, hm⟩ := bS hm
 refine t_pullb 1 rfl<|Tv #[] #[pb Z] [.agg #[iv a.Dep, iv a.Arr, iv a.Rides]] rfl rfl call40 rfl (cGuideLatest_1 _ _ a x7 Z aM af) ?_
 rintro _ bi _ c ⟨rfl, rfl⟩
 refine tS (sn2 rfl)<|Te ?_
 refine cM hm rfl (fun hm => ?_) fun hm => ?_
 refine Cr<|mV rfl<|mV rfl<|tS (sD (vs := [_, _, _]) 1 3 rfl agg42 rfl rfl rfl) ?_
 obtain ⟨bj, aN, hm⟩ := bS hm
 obtain ⟨aO, I, J⟩ := iS aN
 obtain ⟨a7, a8, bk, bl, a9, au, a1, av, ag, ba, a2⟩ := OS.get (sz := 3) rfl (by decide) (k.le c) J
 obtain ⟨⟨_, _, rfl, rfl, ⟨_, _, rfl, rfl, rfl⟩⟩, rfl⟩ := au
 refine tS (sI aO rfl rfl I ag av sl38)<|tD (uP I (sz := 3) (a' := a) rfl [_, _] R 0 3 [iv a.Dep, iv a.Arr, iv a.Rides] rfl (k.le c) J rfl rfl rfl siz42 rfl (mc rfl (mc rfl (mc rfl mn))) (fun cs hsj hh => by obtain ⟨⟨_, _, rfl, rfl, ⟨_, _, rfl, rfl, rfl⟩⟩, rfl⟩ := hh; exact ⟨by first | decide | exact Nat.le_refl _, ⟨[iv a.Dep], _, rfl, rfl, ⟨[iv a.Arr], _, rfl, rfl, rfl⟩⟩, rfl⟩)) ?_
 rintro _ _ ⟨aw, rfl, aP⟩
 refine Tr 0 rfl (v' := .slice X (put e x a).length E) (by simp only [put_length])<|Te<|Cg<|mV rfl ?_
 obtain ⟨_, A, hm⟩ := bS hm
 have A := (kS A).2
 refine tS (sa rfl rfl A)<|aS rfl<|Tn<|Xm ?_
 obtain ⟨rfl, rfl⟩ := some2 hm
 exact jJ ⟨aw, rfl, rfl, c, aP, ((put_length _ _ _).trans m)⟩
 refine Ck<|Xm ?_
 obtain ⟨rfl, rfl⟩ := some2 hm
 exact jJ ⟨d, rfl, rfl, c, (k.le c), m⟩
 rintro z _ _ ⟨h, rfl, rfl, ah, aQ, ai⟩
 have hm := (unc2E an)
 refine Cg<|mV rfl ?_
 obtain ⟨_, B, hm⟩ := bS hm
 have B := (kS B).2
 refine tS (sa rfl rfl B)<|aS rfl<|Tn ?_
 exact jM hm ⟨h, rfl, rfl, ((q.trans ah)), aQ, ai⟩
 refine Ce<|Xe<|Xe<|Xo ?_
 have hm := congrArg some (Y _ (Option.some.inj hm).symm)
 obtain ⟨rfl, rfl⟩ := some2 hm
 exact jJ ⟨d, rfl, rfl, q, k, m⟩
 rintro ab _ _ ⟨t, rfl, rfl, ax, aF, bb⟩
 have hm := (unc2E aI)
 refine Cr<|mV rfl<|mV rfl ?_
 obtain ⟨aR, aT, hm⟩ := bS hm
 obtain ⟨C, aU, K, bc, L, O, S⟩ := cutS_some aT
 have aV := OS.lc aF
 refine tS (S ▸ st_part (l := f) C aU rfl (.inr ⟨_, _, _, rfl, rfl, K⟩) (.inl ⟨rfl, by omega⟩) L O aV sl38) ?_
 have ay : (aR).length = f.length - C := by rw [S]; simp only [List.length_drop, List.length_take]; omega
 refine tD (u_clr (r := rGuidePoint) (i := G) [_] R [iv 0, iv 0, iv 0] ((⟨0, 0, 0⟩ : GuidePoint) : GuidePoint) C rfl aF K (Nat.le_trans L O) ay rfl sl38 inf42 rfl rfl rfl ⟨[iv 0], _, rfl, rfl, ⟨[iv 0], _, rfl, rfl, rfl⟩⟩) ?_
 rintro _ _ ⟨az, rfl, rfl, aj⟩
 refine Tr 0 rfl (v' := .slice X (clrM f G ((⟨0, 0, 0⟩ : GuidePoint) : GuidePoint)).length E) (by simp only [clrM_length])<|Te<|Cr<|mV rfl<|mV rfl ?_
 obtain ⟨bm, aW, hm⟩ := bS hm
 obtain ⟨D, aX, bd, aA, T, U, V⟩ := cutS_some aW
 have aY := OS.lc aj
 refine tS (V ▸ st_part (l := clrM f G ((⟨0, 0, 0⟩ : GuidePoint) : GuidePoint)) D aX rfl (.inl ⟨rfl, by omega⟩) (.inr ⟨_, _, _, rfl, rfl, aA⟩) T U aY sl38) ?_
 obtain ⟨W, aB, ak⟩ := OS.sub (sz := 3) rfl aj T U
 rw [← V] at ak
 refine t_less [_] az W R rfl aB<|aS rfl<|Te<|Ct ?_
 obtain rfl := o1 hm
 exact rO ⟨(subA X E D 3), (E - D), W, rfl, rfl, ak⟩ (g.trans ax)

set_option maxRecDepth 20000 in
theorem cGuideLatest_2 (b : Base) (R : Hp) (g : GuidePoint) (i : GuidePoint) (p) (hm : mGuideLatest_2 g i = some p):
    CallsG Tryd.prog 42 [.agg #[iv g.Dep, iv g.Arr, iv g.Rides], .agg #[iv i.Dep, iv i.Arr, iv i.Rides]] b (R) (fun v b' hp' => iv p = v ∧ R = hp') := by
 refine fE 22 Tryd.func42 rfl Tryd.ntmps42 rfl ?_
 unfold mGuideLatest_2 at hm
 refine Cr<|tD (uB _ rfl rfl) ?_
 rintro _ _ ⟨y, rfl, rfl⟩
 refine tD (uB _ rfl rfl) ?_
 rintro _ _ ⟨z, rfl, rfl⟩
 refine aS rfl<|Te ?_
 obtain ⟨x, q, r⟩ := bS hm
 refine Cj (fun s e' hp' => [(4, iv x)] = e' ∧ R = hp' ∧ b.Le s) ?_ ?_
 have hm := q
 obtain ⟨a, j, hm⟩ := bS hm
 obtain ⟨c, k, hm⟩ := bS hm
 obtain ⟨d, m, hm⟩ := bS hm
 obtain ⟨t, f, hm⟩ := bS hm
 refine Di mixed (.refl _)<|E0 0 rfl (sF rfl fld42_0)<|Es 1 rfl (sL 0 rfl one3 rfl rfl)<|E0 2 rfl (sF rfl fld42_0)<|Es 3 rfl (sL 1 rfl one3 rfl rfl)<|E0 5 rfl (sF rfl fld42_2)<|Es 6 rfl (sL 1 rfl one3 rfl rfl)<|E0 7 rfl (sF rfl fld42_2)<|Es 8 rfl (sL 0 rfl one3 rfl rfl)<|E0 10 rfl (sF rfl fld42_1) ?_
 refine Es 11 rfl (sL 1 rfl one3 rfl rfl)<|E0 12 rfl (sF rfl fld42_1)<|Es 13 rfl (sL 0 rfl one3 rfl rfl)<|Eo<|Da [4] (by kernel_rfl) rfl ?_
 refine Rd2 lr rfl rfl (uW _ call44 rfl (fun w ho => cCmpCompare _ [] i.Dep g.Dep a j) (fun _ _ _ h => h.2.symm)) ?_ ?_
 rintro _ _ ⟨⟨_, rfl, _⟩, rfl⟩
 refine iR<|Da [9] (by kernel_rfl) rfl ?_
 refine Rd2 lr rfl rfl (uW _ call44 rfl (fun w ho => cCmpCompare _ [] g.Rides i.Rides c k) (fun _ _ _ h => h.2.symm)) ?_ ?_
 rintro _ _ ⟨⟨_, rfl, _⟩, rfl⟩
 refine iR<|Da [14] (by kernel_rfl) rfl ?_
 refine Rd2 lr rfl rfl (uW _ call44 rfl (fun w ho => cCmpCompare _ [] g.Arr i.Arr d m) (fun _ _ _ h => h.2.symm)) ?_ ?_
 rintro _ _ ⟨⟨_, rfl, _⟩, rfl⟩
 refine iR<|Da [15] (by kernel_rfl) rfl ?_
 refine Rd2 lr rfl rfl (u_bslice (el := 3) [(0, iv a), (1, iv c), (2, iv d)] [iv a, iv c, iv d] rfl (fun _ => by kernel_rfl)) ?_ ?_
 rintro _ _ ⟨e, rfl, rfl⟩
 refine iR<|d_seg 0 [_, _] R rfl rfl ?_
 have u : OS 3 (OT.fr rI) b.w (.slice (some ⟨e, 0, none⟩) 3 3) [a, c, d] [(e, Cl 3 [iv a, iv c, iv d])] := OS.lit [[iv a], [iv c], [iv d]] rfl ⟨rfl, ⟨rfl, ⟨rfl, trivial⟩⟩⟩ rfl (by decide)
 refine Da [16] (by kernel_rfl) rfl ?_
 refine Rd2 lr rfl rfl (uW _ call43 rfl (fun w ho => cCmpOr _ [] [a, c, d] (some ⟨e, 0, none⟩) 3 (OS.now (o := (OT.fr rI)) (l := [a, c, d]) (hs := [(e, Cl 3 [iv a, iv c, iv d])]) u ho (.cons _ (.cons _ (List.sublist_append_left _ _)))) t f) (fun _ _ _ h => h.2.symm)) ?_ ?_
 rintro _ _ ⟨⟨_, rfl, _⟩, rfl⟩
 refine iR<|Ei lr (.cons_cons _ (.cons_cons _ (ss [(e, Cl 3 [iv a, iv c, iv d])] (.refl _))))<|E0 17 rfl (sA rfl)<|Eo<|Dd (by kernel_rfl) ?_
 obtain rfl := o1 hm
 exact jJ ⟨rfl, rfl, lr⟩
 exact Rn
 exact Rn
 exact Rn
 exact Rn
 exact Rn
 rintro s _ _ ⟨rfl, rfl, n⟩
 have hm := r
 refine Ct ?_
 obtain rfl := o1 hm
 exact rO ⟨rfl, rfl⟩ n

set_option maxRecDepth 20000 in
theorem cSlicesMinFunc_2 (b : Base) (R : Hp) (l4 A1 c2) (h3 : FZ rGuidePoint b.w A1 c2 l4) (L O S) (hm : mSlicesMinFunc_2 l4 = some (L, O, S)):
    CallsG Tryd.prog 41 [sv A1 l4 c2, .func (.func 42) #[] #[]] b (R) (fun v b' hp' => .agg #[iv L, iv O, iv S] = v ∧ R = hp') := by
 refine fE 33 Tryd.func41 rfl Tryd.ntmps41 rfl ?_
 unfold mSlicesMinFunc_2 at hm
 refine Cr<|tD (uA [iv 0, iv 0, iv 0] zero42 rfl) ?_
 rintro _ _ ⟨e, rfl, rfl⟩
 refine Te<|Cs<|Cr<|mV rfl<|tS (sE rfl sl38)<|tS (q3 rfl rfl)<|Te ?_
 refine cI hm rfl (fun hm => ?_) fun hm => ?_
 cases hm
 refine Ck<|Xn<|Cr<|mV rfl ?_
 obtain ⟨q, ai, aq, Y, ar, Z, C, r, D, hm⟩ := bF (sz := 3) hm h3
 obtain ⟨_, _, rfl, rfl, ⟨_, _, rfl, rfl, rfl⟩⟩ := Z
 refine tS (sI ai rfl rfl Y D r sl38)<|tS (sP (vs := [iv q.Dep, iv q.Arr, iv q.Rides]) 3 rfl agg42 r rfl (fun j u hu => C j u hu))<|tD (uA [iv 0, iv 0, iv 0] zero42 rfl) ?_
 rintro _ _ ⟨f, rfl, rfl⟩
 refine tD (uN (vs := [_, _, _]) 0 3 rfl rfl rfl siz42 rfl (mc rfl (mc rfl (mc rfl mn))) rfl (by simp)) ?_
 rintro _ _ rfl
 refine Te ?_
 obtain ⟨⟨T, U, V⟩, aa, ab⟩ := bS hm
 refine Cj (fun W e' hp' => [(4, pb e), (5, pb f)] = e' ∧ (e, Cl 42 [iv 0, iv 0, iv 0]) :: (f, Cl 42 [iv T, iv U, iv V]) :: R = hp' ∧ b.Le W) ?_ ?_
 have hm := aa
 refine Cr<|aS rfl<|Te<|Cb<|lL (unc4 fun s k l m => fun t e' hp' => [(0, sv A1 l4 c2), (1, .func (.func 42) #[] #[]), (4, pb e), (5, pb f), (6, iv s)] = e' ∧ (e, Cl 42 [iv 0, iv 0, iv 0]) :: (f, Cl 42 [iv k, iv l, iv m]) :: R = hp' ∧ b.Le t) hm ⟨rfl, rfl, lr⟩ ?_
 rintro ⟨s, k, l, m⟩ t _ _ au ⟨rfl, rfl, c⟩ d p
 unfold mSlicesMinFunc_2_L781 at d
 have hm := (unc4E d)
 refine Cs<|Cr<|mV rfl<|mV rfl<|tS (sE rfl sl38)<|tS (q3 rfl rfl)<|Te ?_
 refine cI hm rfl (fun hm => ?_) fun hm => ?_
 refine Ck<|Xn ?_
 obtain ⟨⟨aj, ak, al⟩, ac, ad⟩ := bS hm
 refine Cj (fun X e' hp' => [(0, sv A1 l4 c2), (1, .func (.func 42) #[] #[]), (4, pb e), (5, pb f), (6, iv s)] = e' ∧ (e, Cl 42 [iv 0, iv 0, iv 0]) :: (f, Cl 42 [iv aj, iv ak, iv al]) :: R = hp' ∧ t.Le X) ?_ ?_
 have hm := ac
 refine Cb<|Cs ?_
 obtain ⟨a, ae, hm⟩ := bS hm
 obtain ⟨af, x, hm⟩ := bS hm
 refine Di mixed (.refl _)<|E0 0 rfl (sM rfl)<|E0 1 rfl (sM rfl)<|E0 2 rfl (sM rfl) ?_
 obtain ⟨ag, E, F⟩ := iS ae
 obtain ⟨am, G, y, n, z⟩ := FZ.get (sz := 3) rfl (by decide) (h3.le c) F
 obtain ⟨_, _, rfl, rfl, ⟨_, _, rfl, rfl, rfl⟩⟩ := G
 refine E0 3 rfl (sI ag rfl rfl E z n sl38)<|Es 4 rfl (sP (vs := [iv a.Dep, iv a.Arr, iv a.Rides]) 3 rfl agg42 n rfl (fun j u hu => y j u hu))<|Es 5 rfl (sD (vs := [_, _, _]) 1 3 rfl agg42 rfl rfl rfl)<|Eo<|Da [6] (by kernel_rfl) rfl ?_
 refine Rd2 lr rfl rfl (u_callvW0 #[] #[] [.agg #[iv a.Dep, iv a.Arr, iv a.Rides], .agg #[iv k, iv l, iv m]] rfl call42 rfl (fun w ho => cGuideLatest_2 _ [] a (⟨k, l, m⟩ : GuidePoint) af x) (fun _ _ _ h => h.2.symm)) ?_ ?_
 rintro _ _ ⟨⟨_, rfl, _⟩, rfl⟩
 refine ⟨.inl (by kernel_rfl), ?_⟩
 refine El lr<|E0 7 rfl (q3 rfl rfl)<|Eo<|Dd (by kernel_rfl)<|Xn ?_
 refine cI hm rfl (fun hm => ?_) fun hm => ?_
 refine Cg<|mV rfl<|mV rfl ?_
 obtain ⟨g, ah, an, H, ao, I, A, o, B, hm⟩ := bF (sz := 3) hm (h3.le c)
 obtain ⟨_, _, rfl, rfl, ⟨_, _, rfl, rfl, rfl⟩⟩ := I
 refine tS (sI ah rfl rfl H B o sl38)<|tS (sP (vs := [iv g.Dep, iv g.Arr, iv g.Rides]) 3 rfl agg42 o rfl (fun j u hu => A j u hu))<|tD (uN (vs := [_, _, _]) 1 3 rfl rfl rfl siz42 rfl (mc rfl (mc rfl (mc rfl mn))) rfl (by simp)) ?_
 rintro _ _ rfl
 refine Tn<|Xm ?_
 obtain ⟨rfl, rfl, rfl⟩ := some3 hm
 exact jJ ⟨rfl, rfl, lr⟩
 refine Ck<|Xm ?_
 obtain ⟨rfl, rfl, rfl⟩ := some3 hm
 exact jJ ⟨rfl, rfl, lr⟩
 exact Rn
 rintro X _ _ ⟨rfl, rfl, J⟩
 have hm := (unc3E ad)
 refine Cg<|mV rfl ?_
 obtain ⟨_, i, hm⟩ := bS hm
 have i := (kS i).2
 refine tS (sa rfl rfl i)<|aS rfl<|Tn ?_
 exact jM hm ⟨rfl, rfl, ((c.trans J))⟩
 refine Ce<|Xe<|Xe<|Xo ?_
 have hm := congrArg some (p _ (Option.some.inj hm).symm)
 obtain ⟨rfl, rfl, rfl⟩ := some3 hm
 exact jJ ⟨rfl, rfl, c⟩
 rintro W _ _ ⟨rfl, rfl, K⟩
 have hm := (unc3E ab)
 refine Cr<|tS (sD (vs := [_, _, _]) 1 3 rfl agg42 rfl rfl rfl)<|tD (uN (vs := [_, _, _]) 0 3 rfl rfl rfl siz42 rfl (mc rfl (mc rfl (mc rfl mn))) rfl (by simp)) ?_
 rintro _ _ rfl
 refine Te<|Ct ?_
 obtain ⟨rfl, rfl, rfl⟩ := some3 hm
 exact rM (rs := [.cell 4 42]) (vs := [.agg #[iv T, iv U, iv V]]) ⟨⟨_, rfl, fun w ho => cell_agg (vs := [_, _, _]) 0 3 agg42 rfl rfl rfl w ho⟩, trivial⟩ ⟨rfl, rfl⟩ (.cons _ (.cons _ (.refl _))) K

set_option maxRecDepth 20000 in
theorem cGuideLatest (b : Base) (R : Hp) (hG : GOn GT b) (k : ApiDay) (S T a i C D E F) (h4 : FZ rApiTrain b.w C D k.Trains) (h7 : FZ (RT.list rI) b.w E F k.Turns) (U m) (hm : mGuideLatest k S T a i = some (U, m)):
    CallsG Tryd.prog 13 [.agg #[sv C k.Trains D, sv E k.Turns F], iv S, iv T, iv a, iv i] b (R) (fun v b' hp' => ∃ G V t, .tuple #[.agg #[sv G m V], iv U] = v ∧ (t ++ R) = hp' ∧ OS 86 (OT.fr rGuideRide) b'.w (sv G m V) m t ∧ (G = none ↔ m = [])) := by
 refine fE 47 Tryd.func13 rfl Tryd.ntmps13 rfl ?_
 unfold mGuideLatest at hm
 refine Cr<|tD (uB _ rfl rfl) ?_
 rintro _ _ ⟨aq, rfl, rfl⟩
 refine tD (uB _ rfl rfl) ?_
 rintro _ _ ⟨ae, rfl, rfl⟩
 refine tD (uA [sn] zero33 rfl) ?_
 rintro _ _ ⟨ar, rfl, rfl⟩
 refine aS rfl<|Te<|Cs<|Cr<|tS (sD (vs := [_, _]) 2 2 rfl agg25 rfl rfl rfl)<|mV rfl<|mV rfl<|mV rfl<|tS (sL 1 rfl one3 rfl rfl)<|tD (u_bslice (el := 3) [(0, iv a)] [iv a] rfl (fun _ => by kernel_rfl)) ?_
 rintro _ _ ⟨c, rfl, rfl⟩
 refine t_seg 0 [_, _, _] R rfl rfl ?_
 have af : OS 3 (OT.fr rI) b.w (.slice (some ⟨c, 0, none⟩) 1 1) [a] [(c, Cl 3 [iv a])] := OS.lit [[iv a]] rfl ⟨rfl, trivial⟩ rfl (by decide)
 obtain ⟨W, H, hm⟩ := bS hm
 refine tD (uW _ call36 rfl (fun w ho => cGuideCheck_2 _ [] ((hG.le lr).old ho) k i S T [a] C D E F (some ⟨c, 0, none⟩) 1 (h4.old ho) (h7.old ho) (OS.now (o := (OT.fr rI)) (l := [a]) (hs := [(c, Cl 3 [iv a])]) af ho (.cons _ (.cons _ (.cons _ (List.sublist_append_left _ _))))) W H) (fun _ _ _ h => h.2.symm)) ?_
 rintro _ _ ⟨⟨_, rfl, _⟩, rfl⟩
 refine aS rfl<|Te<|Cr<|mV rfl<|tS (q2 rfl rfl)<|Te ?_
 refine cI hm rfl (fun hm => ?_) fun hm => ?_
 refine Cr<|tS (sB (v := .agg #[sn]) [] rfl (fun _ => by kernel_rfl))<|mV rfl<|tD (uN (vs := [_]) 0 1 rfl rfl rfl siz33 rfl (mc rfl mn) rfl (by simp)) ?_
 rintro _ _ rfl
 refine aS rfl<|Te<|Ct<|Xr ?_
 obtain ⟨rfl, rfl⟩ := some2 hm
 exact rM (rs := [.cell 10 33, .tmp 11]) (vs := [.agg #[sn], iv W]) ⟨⟨_, rfl, fun w ho => cell_agg (vs := [_]) 0 1 agg33 rfl rfl rfl w ho⟩, ⟨rfl, trivial⟩⟩ ⟨none, 0, [], rfl, rfl, OS.nil, ⟨fun _ => rfl, fun _ => rfl⟩⟩ (.cons _ (.cons _ (.cons _ (ss [(c, Cl 3 [iv a])] (.refl _))))) lr
 refine Ck<|Xn<|Cr<|tS (sD (vs := [_, _]) 2 2 rfl agg25 rfl rfl rfl)<|mV rfl<|tS (sB (v := .agg #[sv C k.Trains D, sv E k.Turns F, iv i]) [(0, .agg #[sv C k.Trains D, sv E k.Turns F]), (1, iv i)] rfl (fun _ => by kernel_rfl))<|tD (uA [sn, sn, iv 0] zero91 rfl) ?_
 rintro _ _ ⟨au, rfl, rfl⟩
 refine tD (uN (vs := [_, _, _]) 0 3 rfl rfl rfl siz91 rfl (mc rfl (mc rfl (mc rfl mn))) rfl (by simp)) ?_
 rintro _ _ rfl
 refine Te<|Cr<|tS (sD (vs := [_, _, _]) 0 3 rfl agg91 rfl rfl rfl)<|mV rfl<|mV rfl ?_
 obtain ⟨ag, I, hm⟩ := bS hm
 refine Tg _ rfl call39 rfl (cGuideNetPoints _ _ (⟨k, i⟩ : GuideNet) S T C D E F h4 h7 ag I) ?_
 rintro _ av _ e ⟨X, Y, n, rfl, rfl, ah⟩
 refine t_in1 [] [_, _, _, _] n ([(c, Cl 3 [iv a])] ++ R) rfl<|tS (st_func _ _ rfl rfl) ?_
 obtain ⟨J, hp90, Z, ai⟩ := OSP.ex ah
 have hm := ordM_some hm J hp90
 refine Tr 33 rfl (v' := sv X J Y) (by show Value.slice _ _ _ = Value.slice _ _ _; rw [Z]) ?_
 obtain ⟨K, L, hm⟩ := bS hm
 refine t_pullb 2 rfl<|t_out1 [_] [_, _, _] n ([(c, Cl 3 [iv a])] ++ R) rfl<|Tg _ rfl call38 rfl (cSlicesDeleteFunc_2 _ _ a J ae X Y n ai K L) ?_
 rintro _ aw _ f ⟨aj, ak, p, rfl, rfl, aa⟩
 refine t_in1 [_] [_, _, _] p ([(c, Cl 3 [iv a])] ++ R) rfl<|aS rfl<|Te<|Cs<|Cr<|mV rfl<|tS (sE rfl sl38)<|tS (q1 rfl rfl)<|Te ?_
 refine cI hm rfl (fun hm => ?_) fun hm => ?_
 refine Cr<|tS (sB (v := .agg #[sn]) [] rfl (fun _ => by kernel_rfl))<|tD (uN (vs := [_]) 2 1 rfl rfl rfl siz33 rfl (mc rfl mn) rfl (by simp)) ?_
 rintro _ _ rfl
 refine aS rfl<|Te<|Ct<|Xr ?_
 obtain ⟨rfl, rfl⟩ := some2 hm
 exact rM (rs := [.cell 10 33, .tmp 11]) (vs := [.agg #[sn], iv 9]) ⟨⟨_, rfl, fun w ho => cell_agg (vs := [_]) 2 1 agg33 rfl rfl rfl w ho⟩, ⟨rfl, trivial⟩⟩ ⟨none, 0, [], rfl, rfl, OS.nil, ⟨fun _ => rfl, fun _ => rfl⟩⟩ (.cons _ (.cons _ (.cons _ (.cons _ (ss p (ss [(c, Cl 3 [iv a])] (.refl _))))))) (e.trans f)
 refine Ck<|Xn<|Cr<|mV rfl<|t_frz [_, _, _, _] p ([(c, Cl 3 [iv a])] ++ R) rfl ?_
 intro al d O
 have ab := OS.frz (l := K) aa d.cells O
 obtain ⟨⟨u, x, y⟩, q, hm⟩ := bS hm
 have hm := (unc3E hm)
 refine Tg _ rfl call41 rfl (cSlicesMinFunc_2 _ _ K aj ak ab u x y q) ?_
 rintro _ am _ g ⟨rfl, rfl⟩
 refine tD (uA [iv 0, iv 0, iv 0] zero42 rfl) ?_
 rintro _ _ ⟨an, rfl, rfl⟩
 refine tD (uN (vs := [_, _, _]) 0 3 rfl rfl rfl siz42 rfl (mc rfl (mc rfl (mc rfl mn))) rfl (by simp)) ?_
 rintro _ _ rfl
 refine Te<|Cr<|tS (sD (vs := [_, _, _]) 2 3 rfl agg91 rfl rfl rfl)<|mV rfl<|mV rfl<|tS (sD (vs := [_, _, _]) 0 3 rfl agg42 rfl rfl rfl) ?_
 obtain ⟨z, r, hm⟩ := bS hm
 refine Tg _ rfl call45 rfl (cGuideNetLeastOf _ _ (⟨k, i⟩ : GuideNet) S T (⟨u, x, y⟩ : GuidePoint) C D E F (h4.le (e.trans (f.trans (d.trans g)))) (h7.le (e.trans (f.trans (d.trans g)))) z r) ?_
 rintro _ ao _ s ⟨A, B, j, rfl, rfl, ac, ad⟩
 refine t_in1 [] [_, _, _, _, _] j ([(c, Cl 3 [iv a])] ++ R) rfl<|tD (uN (vs := [_]) 3 1 rfl rfl rfl siz33 rfl (mc rfl mn) rfl (by simp)) ?_
 rintro _ _ rfl
 refine aS rfl<|Te<|Ct ?_
 obtain ⟨rfl, rfl⟩ := some2 hm
 exact rM (rs := [.cell 10 33, .tmp 11]) (vs := [.agg #[sv A z B], iv 0]) ⟨⟨_, rfl, fun w ho => cell_agg (vs := [_]) 3 1 agg33 rfl rfl rfl w ho⟩, ⟨rfl, trivial⟩⟩ ⟨A, B, j, rfl, rfl, ac, ad⟩ (.cons _ (.cons _ (.cons _ (.cons _ (.cons _ (sp j (ss [(c, Cl 3 [iv a])] (.refl _)))))))) (e.trans (f.trans (d.trans (g.trans s))))

set_option maxRecDepth 20000 in
theorem cFishref2JourneyFault (b : Base) (R : Hp) (C : ApiDay) (s : GuideJourney) (z A A2 c3 A5 c6 L m) (h4 : FZ rApiTrain b.w A2 c3 C.Trains) (h7 : FZ (RT.list rI) b.w A5 c6 C.Turns) (a2 : FZ rGuideRide b.w L m s.Rides) (aZ) (hm : mFishref2JourneyFault C s z A = some aZ):
    CallsG Tryd.prog 14 [.agg #[sv A2 C.Trains c3, sv A5 C.Turns c6], .agg #[sv L s.Rides m], iv z, bv A] b (R) (fun v b' hp' => iv aZ = v ∧ R = hp') := by
 refine fE 125 Tryd.func14 rfl Tryd.ntmps14 rfl ?_
 unfold mFishref2JourneyFault at hm
 refine Cr<|tD (uB _ rfl rfl) ?_
 rintro _ _ ⟨i, rfl, rfl⟩
 refine tD (uB _ rfl rfl) ?_
 rintro _ _ ⟨k, rfl, rfl⟩
 refine aS rfl<|Te<|Cs<|Cr<|mV rfl ?_
 obtain ⟨bt, av, hm⟩ := bS hm
 refine tD (uW _ call35 rfl (fun w ho => cFishref2Within _ [] z 0 28800 bt av) (fun _ _ _ h => h.2.symm)) ?_
 rintro _ _ ⟨⟨_, rfl, _⟩, rfl⟩
 refine tS (sn2 rfl)<|Te ?_
 refine cM hm rfl (fun hm => ?_) fun hm => ?_
 refine Cr<|aS rfl<|Te<|Ct<|Xr ?_
 obtain rfl := o1 hm
 exact rO ⟨rfl, rfl⟩ lr
 refine Ck<|Xn<|Cs<|Cr<|tS (sF rfl fld33_0)<|tS (sL 0 rfl one31 rfl rfl)<|tS (sE rfl sl31) ?_
 obtain ⟨bu, aw, hm⟩ := bS hm
 refine tD (uW _ call35 rfl (fun w ho => cFishref2Within _ [] (s.Rides.length : Int) 1 4 bu aw) (fun _ _ _ h => h.2.symm)) ?_
 rintro _ _ ⟨⟨_, rfl, _⟩, rfl⟩
 refine tS (sn2 rfl)<|Te ?_
 refine cM hm rfl (fun hm => ?_) fun hm => ?_
 refine Cr<|aS rfl<|Te<|Ct<|Xr ?_
 obtain rfl := o1 hm
 exact rO ⟨rfl, rfl⟩ lr
 refine Ck<|Xn<|Cs<|Cr<|tS (sF rfl fld33_0)<|tS (sL 0 rfl one31 rfl rfl)<|tS (sE rfl sl31)<|mV rfl<|Te<|Cb ?_
 have bI : s.Rides.length ≤ 9223372036854775807 := (FZ.bd a2)
 refine Cp 1 rfl ?_
 obtain ⟨bZ, a3, e⟩ := bS hm
 refine lF (fun n => fun _ => fun O e' hp' => [(2, iv z), (3, bv A), (4, pb i), (5, pb k), (23, sv L s.Rides m), (24, iv ((s.Rides.length : Int))), (25, iv ((n : Int)))] = e' ∧ (i, Cl 25 [sv A2 C.Trains c3, sv A5 C.Turns c6]) :: (k, Cl 33 [sv L s.Rides m]) :: R = hp' ∧ b.Le O) a3 ⟨rfl, rfl, lr⟩ ?_ ?_
 rintro n _ O _ _ bJ bw ⟨rfl, rfl, a⟩ t g
 unfold mFishref2JourneyFault_L599 at t
 have hm := t
 refine Cr<|tS (lT rfl rfl (by omega))<|Te<|Cs<|c_cond_t rfl<|Ck<|Xn<|Cs<|Cb<|Cr ?_
 refine mV rfl ?_
 obtain ⟨f, bx, bK, a4, bL, a5, ax, W, ay, hm⟩ := bF (sz := 3) hm (a2.le a)
 obtain ⟨_, _, rfl, rfl, ⟨_, _, rfl, rfl, rfl⟩⟩ := a5
 refine tS (sI bx rfl rfl a4 ay W sl31)<|tS (sP (vs := [iv f.Train, iv f.On, iv f.Off]) 3 rfl agg86 W rfl (fun j u hu => ax j u hu))<|tD (uA [iv 0, iv 0, iv 0] zero86 rfl) ?_
 rintro _ _ ⟨q, rfl, rfl⟩
 refine aS rfl<|tD (uN (vs := [_, _, _]) 0 3 rfl rfl rfl siz86 rfl (mc rfl (mc rfl (mc rfl mn))) rfl (by simp)) ?_
 rintro _ _ rfl
 refine Te<|Cs ?_
 obtain ⟨bz, a6, a7⟩ := bS hm
 refine Cj (fun X e' hp' => [(2, iv z), (3, bv A), (4, pb i), (5, pb k), (9, iv ((n : Int))), (10, pb q), (23, sv L s.Rides m), (24, iv ((s.Rides.length : Int))), (25, iv ((n : Int))), (40, bv bz)] = e' ∧ (i, Cl 25 [sv A2 C.Trains c3, sv A5 C.Turns c6]) :: (k, Cl 33 [sv L s.Rides m]) :: (q, Cl 86 [iv f.Train, iv f.On, iv f.Off]) :: R = hp' ∧ O.Le X) ?_ ?_
 have hm := a6
 refine Cg<|tS (sF rfl fld86_0)<|tS (sL 0 rfl one3 rfl rfl) ?_
 refine Tb rfl (q3 rfl rfl) (fun E => ?_) (fun E => ?_)
 rw [if_pos E] at hm
 refine mV rfl<|nO<|nO<|nO<|nO<|nO<|nO<|tS (pT rfl rfl)<|Tn ?_
 obtain rfl := o1 hm
 exact jJ ⟨rfl, rfl, lr⟩
 rw [if_neg E] at hm
 refine mV rfl<|yS<|tS (sF rfl fld86_0)<|yS<|tS (sL 0 rfl one3 rfl rfl)<|yS<|tS (sF rfl fld25_0)<|yS<|tS (sL 1 rfl one22 rfl rfl)<|yS ?_
 refine tS (sE rfl sl22)<|yS<|tS (q6 rfl rfl)<|tS (pF rfl rfl)<|Tn ?_
 obtain rfl := o1 hm
 exact jJ ⟨rfl, rfl, lr⟩
 rintro X _ _ ⟨rfl, rfl, c⟩
 have hm := a7
 refine cB hm rfl (fun hm => ?_) fun hm => ?_
 refine Cr<|aS rfl<|Te<|Ct<|Xr<|Xb<|Xr<|Xr<|Xb<|Xr ?_
 have a8 := g _ (Option.some.inj hm).symm
 rw [a8] at e
 have hm := elimR e
 obtain rfl := o1 hm
 exact rO ⟨rfl, rfl⟩ (a.trans c)
 refine Ck<|Xn<|Cr<|tS (sF rfl fld25_0)<|tS (sL 0 rfl one22 rfl rfl)<|tS (sF rfl fld86_0)<|tS (sL 2 rfl one3 rfl rfl) ?_
 obtain ⟨Y, bA, bM, a9, bN, ba, az, Z, aA, hm⟩ := bF (sz := 4) hm (h4.le (a.trans c))
 obtain ⟨_, _, rfl, rfl, ⟨_, _, rfl, rfl, ⟨_, _, rfl, ⟨aa, ab, rfl, a0⟩, ⟨b0, b1, rfl, b2⟩⟩⟩⟩ := ba
 refine tS (sI bA rfl rfl a9 aA Z sl22)<|tS (sQ rfl Z fld47_2)<|tS (sO rfl one45 (az 2 _ rfl))<|aS rfl<|Te<|Cs ?_
 obtain ⟨bB, bb, bc⟩ := bS hm
 refine Cj (fun ac e' hp' => [(2, iv z), (3, bv A), (4, pb i), (5, pb k), (9, iv ((n : Int))), (10, pb q), (11, sv aa Y.Stops ab), (23, sv L s.Rides m), (24, iv ((s.Rides.length : Int))), (25, iv ((n : Int))), (69, bv bB)] = e' ∧ (i, Cl 25 [sv A2 C.Trains c3, sv A5 C.Turns c6]) :: (k, Cl 33 [sv L s.Rides m]) :: (q, Cl 86 [iv f.Train, iv f.On, iv f.Off]) :: R = hp' ∧ X.Le ac) ?_ ?_
 have hm := bb
 refine Cg<|tS (sF rfl fld86_1)<|tS (sL 2 rfl one3 rfl rfl) ?_
 refine Tb rfl (q3 rfl rfl) (fun F => ?_) (fun F => ?_)
 rw [if_pos F] at hm
 refine mV rfl<|nO<|nO<|nO<|nO<|nO<|tS (pT rfl rfl)<|mV rfl<|nO<|nO ?_
 refine nO<|tS (pT rfl rfl)<|mV rfl<|nO<|nO<|nO<|nO<|nO<|tS (pT rfl rfl)<|Tn ?_
 obtain rfl := o1 hm
 exact jJ ⟨rfl, rfl, lr⟩
 rw [if_neg F] at hm
 refine mV rfl<|yS<|tS (sF rfl fld86_1)<|yS<|tS (sL 2 rfl one3 rfl rfl)<|yS<|mV rfl<|yS<|tS (sE rfl sl45)<|yS ?_
 refine Tb rfl (q6 rfl rfl) (fun G => ?_) (fun G => ?_)
 rw [if_pos G] at hm
 refine tS (pF rfl rfl)<|mV rfl<|nO<|nO<|nO<|tS (pT rfl rfl)<|mV rfl<|nO<|nO<|nO ?_
 refine nO<|nO<|tS (pT rfl rfl)<|Tn ?_
 obtain rfl := o1 hm
 exact jJ ⟨rfl, rfl, lr⟩
 rw [if_neg G] at hm
 refine tS (pF rfl rfl)<|mV rfl<|yS<|tS (sF rfl fld86_2)<|yS<|tS (sL 2 rfl one3 rfl rfl)<|yS ?_
 refine Tb rfl (q3 rfl rfl) (fun H => ?_) (fun H => ?_)
 rw [if_pos H] at hm
 refine tS (pF rfl rfl)<|mV rfl<|nO<|nO<|nO<|nO<|nO<|tS (pT rfl rfl)<|Tn ?_
 obtain rfl := o1 hm
 exact jJ ⟨rfl, rfl, lr⟩
 rw [if_neg H] at hm
 refine tS (pF rfl rfl)<|mV rfl<|yS<|tS (sF rfl fld86_2)<|yS<|tS (sL 2 rfl one3 rfl rfl)<|yS<|mV rfl<|yS<|tS (sE rfl sl45) ?_
 refine yS<|tS (q6 rfl rfl)<|tS (pF rfl rfl)<|Tn ?_
 obtain rfl := o1 hm
 exact jJ ⟨rfl, rfl, lr⟩
 rintro ac _ _ ⟨rfl, rfl, d⟩
 have hm := bc
 refine cB hm rfl (fun hm => ?_) fun hm => ?_
 refine Cr<|aS rfl<|Te<|Ct<|Xr<|Xb<|Xr<|Xr<|Xb<|Xr ?_
 have bd := g _ (Option.some.inj hm).symm
 rw [bd] at e
 have hm := elimR e
 obtain rfl := o1 hm
 exact rO ⟨rfl, rfl⟩ (a.trans (c.trans d))
 refine Ck<|Xn<|Cs<|Cr<|tS (sF rfl fld86_1)<|tS (sL 2 rfl one3 rfl rfl)<|tS (sF rfl fld86_2)<|tS (sL 2 rfl one3 rfl rfl)<|tS (q6 rfl rfl)<|Te ?_
 refine cI hm rfl (fun hm => ?_) fun hm => ?_
 refine Cr<|aS rfl<|Te<|Ct<|Xr<|Xb<|Xr<|Xr<|Xb<|Xr ?_
 have be := g _ (Option.some.inj hm).symm
 rw [be] at e
 have hm := elimR e
 obtain rfl := o1 hm
 exact rO ⟨rfl, rfl⟩ (a.trans (c.trans d))
 refine Ck<|Xn<|Cs<|Cr<|mV rfl<|tS (q1 rfl rfl)<|Te ?_
 refine cI hm rfl (fun hm => ?_) fun hm => ?_
 refine Ce<|Xe<|Xo<|Xn<|Cg<|tS (sa rfl rfl (by omega))<|mV rfl<|Tn ?_
 exact jM hm ⟨rfl, rfl, ((a.trans (c.trans d)))⟩
 refine Ck<|Xn<|Cr<|tS (sF rfl fld33_0)<|tS (sL 1 rfl one31 rfl rfl)<|mV rfl ?_
 obtain ⟨_, ad, hm⟩ := bS hm
 have ad := (kS ad).2
 refine tS (sb rfl rfl ad) ?_
 obtain ⟨x, bC, bO, bf, bP, bg, aB, ae, aC, hm⟩ := bF (sz := 3) hm (a2.le (a.trans (c.trans d)))
 obtain ⟨_, _, rfl, rfl, ⟨_, _, rfl, rfl, rfl⟩⟩ := bg
 refine tS (sI bC rfl rfl bf aC ae sl31)<|tS (sP (vs := [iv x.Train, iv x.On, iv x.Off]) 3 rfl agg86 ae rfl (fun j u hu => aB j u hu))<|tD (uA [iv 0, iv 0, iv 0] zero86 rfl) ?_
 rintro _ _ ⟨a1, rfl, rfl⟩
 refine tD (uN (vs := [_, _, _]) 0 3 rfl rfl rfl siz86 rfl (mc rfl (mc rfl (mc rfl mn))) rfl (by simp)) ?_
 rintro _ _ rfl
 refine Te ?_
 obtain ⟨⟨af, ag, ah, ai⟩, aD, aE⟩ := bS hm
 refine Cj (fun I e' hp' => ∃ y, [(2, iv z), (3, bv A), (4, pb i), (5, pb k), (10, pb q), (11, sv aa Y.Stops ab), (12, pb a1), (13, pb y), (23, sv L s.Rides m), (24, iv ((s.Rides.length : Int))), (25, iv ((n : Int)))] = e' ∧ (i, Cl 25 [sv A2 C.Trains c3, sv A5 C.Turns c6]) :: (k, Cl 33 [sv L s.Rides m]) :: (q, Cl 86 [iv f.Train, iv f.On, iv f.Off]) :: (a1, Cl 86 [iv x.Train, iv x.On, iv x.Off]) :: (y, Cl 83 [iv af, iv ag, iv ah, iv ai]) :: R = hp' ∧ ac.Le I) ?_ ?_
 have hm := aD
 obtain ⟨bQ, bh, hm⟩ := bS hm
 obtain ⟨B, bi, hm⟩ := bS hm
 refine Di mixed (.refl _)<|E0 0 rfl (sF rfl fld25_0)<|Es 1 rfl (sL 1 rfl one22 rfl rfl)<|E0 2 rfl (sF rfl fld86_0)<|Es 3 rfl (sL 0 rfl one3 rfl rfl) ?_
 obtain ⟨bj, aF, aG⟩ := iS bh
 obtain ⟨bD, aH, aj, S, ak⟩ := FZ.get (sz := 4) rfl (by decide) (h4.le (a.trans (c.trans d))) aG
 obtain ⟨_, _, rfl, rfl, ⟨_, _, rfl, rfl, ⟨_, _, rfl, ⟨bR, bT, rfl, bk⟩, ⟨bU, bV, rfl, bW⟩⟩⟩⟩ := aH
 refine E0 4 rfl (sI bj rfl rfl aF ak S sl22)<|E0 5 rfl (sQ rfl S fld47_2)<|Es 6 rfl (sO rfl one45 (aj 2 _ rfl))<|E0 7 rfl (sF rfl fld86_2)<|Es 8 rfl (sL 0 rfl one3 rfl rfl) ?_
 obtain ⟨bl, aI, aJ⟩ := iS bi
 obtain ⟨bE, aK, al, T, am⟩ := FZ.get (sz := 4) rfl (by decide) bk aJ
 obtain ⟨_, _, rfl, rfl, ⟨_, _, rfl, rfl, ⟨_, _, rfl, rfl, rfl⟩⟩⟩ := aK
 refine E0 9 rfl (sI bl rfl rfl aI am T sl45)<|Es 10 rfl (sP (vs := [iv B.Station, iv B.Track, iv B.Arr, iv B.Dep]) 4 rfl agg83 T rfl (fun j u hu => al j u hu))<|Eo<|Da [11] (by kernel_rfl) rfl ?_
 refine Rd2 lr rfl rfl (uA [iv 0, iv 0, iv 0, iv 0] zero83 rfl) ?_ ?_
 rintro _ _ ⟨bm, rfl, rfl⟩
 refine iR<|Da [12] (by kernel_rfl) rfl ?_
 refine Rd2 lr rfl rfl (uN (vs := [_, _, _, _]) 0 4 rfl rfl rfl siz83 rfl (mc rfl (mc rfl (mc rfl (mc rfl mn)))) rfl (by simp)) ?_ ?_
 rintro _ _ rfl
 refine ⟨.inl (by kernel_rfl), ?_⟩
 refine Dd (by kernel_rfl) ?_
 obtain ⟨rfl, rfl, rfl, rfl⟩ := some4 hm
 exact jJ ⟨bm, rfl, rfl, lr⟩
 exact Rn
 exact Rn
 rintro I _ _ ⟨y, rfl, rfl, l⟩
 have hm := (unc4E aE)
 refine Cs ?_
 obtain ⟨bn, aL, aM⟩ := bS hm
 refine Cj (fun J e' hp' => [(2, iv z), (3, bv A), (4, pb i), (5, pb k), (10, pb q), (11, sv aa Y.Stops ab), (13, pb y), (23, sv L s.Rides m), (24, iv ((s.Rides.length : Int))), (25, iv ((n : Int))), (109, bv bn)] = e' ∧ (i, Cl 25 [sv A2 C.Trains c3, sv A5 C.Turns c6]) :: (k, Cl 33 [sv L s.Rides m]) :: (q, Cl 86 [iv f.Train, iv f.On, iv f.Off]) :: (y, Cl 83 [iv af, iv ag, iv ah, iv ai]) :: R = hp' ∧ I.Le J) ?_ ?_
 have hm := aL
 by_cases r : x.Train = f.Train
 rw [if_pos r] at hm
 refine Di mixed (.refl _)<|E0 0 rfl (sF rfl fld86_0)<|Es 1 rfl (sL 3 rfl one3 rfl rfl)<|E0 2 rfl (sF rfl fld86_0)<|Es 3 rfl (sL 2 rfl one3 rfl rfl)<|E0 4 rfl (eT rfl rfl r)<|E0 5 rfl (sM rfl)<|eN 6 rfl<|eN 7 rfl<|eN 8 rfl ?_
 refine eN 9 rfl<|eN 10 rfl<|eN 11 rfl<|eN 12 rfl<|eN 13 rfl<|eN 14 rfl<|E0 15 rfl (pT rfl rfl)<|Eo<|Dd (by kernel_rfl) ?_
 obtain rfl := o1 hm
 exact jJ ⟨rfl, rfl, lr⟩
 rw [if_neg r] at hm
 obtain ⟨bX, bo, hm⟩ := bS hm
 refine Di mixed (.refl _)<|E0 0 rfl (sF rfl fld86_0)<|Es 1 rfl (sL 3 rfl one3 rfl rfl)<|E0 2 rfl (sF rfl fld86_0)<|Es 3 rfl (sL 2 rfl one3 rfl rfl)<|E0 4 rfl (eF rfl rfl r)<|E0 5 rfl (sM rfl)<|Yz 6 99 rfl (sM rfl)<|Yz 7 99 rfl (sF rfl fld86_1)<|Ey 8 99 rfl (sL 2 rfl one3 rfl rfl) ?_
 obtain ⟨bp, aN, aO⟩ := iS bo
 obtain ⟨bG, aP, an, U, ao⟩ := FZ.get (sz := 4) rfl (by decide) (a0.le (d.trans l)) aO
 obtain ⟨_, _, rfl, rfl, ⟨_, _, rfl, rfl, ⟨_, _, rfl, rfl, rfl⟩⟩⟩ := aP
 refine Yz 9 99 rfl (sI bp rfl rfl aN ao U sl45)<|Yz 10 99 rfl (sQ rfl U fld83_0)<|Ey 11 99 rfl (sO rfl one3 (an 0 _ rfl))<|Yz 12 99 rfl (sF rfl fld83_0)<|Ey 13 99 rfl (sL 4 rfl one3 rfl rfl)<|Yz 14 99 rfl (q2 rfl rfl)<|E0 15 rfl (pF rfl rfl)<|Eo<|Dd (by kernel_rfl) ?_
 obtain rfl := o1 hm
 exact jJ ⟨rfl, rfl, lr⟩
 rintro J _ _ ⟨rfl, rfl, o⟩
 have hm := aM
 refine cB hm rfl (fun hm => ?_) fun hm => ?_
 refine Cr<|aS rfl<|Te<|Ct<|Xr<|Xb<|Xr<|Xr<|Xb<|Xr ?_
 have aQ := g _ (Option.some.inj hm).symm
 rw [aQ] at e
 have hm := elimR e
 obtain rfl := o1 hm
 exact rO ⟨rfl, rfl⟩ (a.trans (c.trans (d.trans (l.trans o))))
 refine Ck<|Xn ?_
 obtain ⟨bq, aR, aT⟩ := bS hm
 refine Cj (fun aq e' hp' => [(2, iv z), (3, bv A), (4, pb i), (5, pb k), (23, sv L s.Rides m), (24, iv ((s.Rides.length : Int))), (25, iv ((n : Int))), (123, bv bq)] = e' ∧ (i, Cl 25 [sv A2 C.Trains c3, sv A5 C.Turns c6]) :: (k, Cl 33 [sv L s.Rides m]) :: R = hp' ∧ J.Le aq) ?_ ?_
 have hm := aR
 rcases Bool.eq_false_or_eq_true A with p | p
 rw [if_pos p] at hm
 obtain ⟨bY, br, hm⟩ := bS hm
 obtain ⟨_, K, hm⟩ := bS hm
 refine Di mixed (.refl _)<|E0 0 rfl (stB (sM rfl) p)<|E0 1 rfl (sM rfl)<|Yz 2 111 rfl (sM rfl)<|Yz 3 111 rfl (sF rfl fld86_1)<|Ey 4 111 rfl (sL 2 rfl one3 rfl rfl) ?_
 obtain ⟨bs, aU, aV⟩ := iS br
 obtain ⟨bH, aW, ar, V, au⟩ := FZ.get (sz := 4) rfl (by decide) (a0.le (d.trans (l.trans o))) aV
 obtain ⟨_, _, rfl, rfl, ⟨_, _, rfl, rfl, ⟨_, _, rfl, rfl, rfl⟩⟩⟩ := aW
 refine Yz 5 111 rfl (sI bs rfl rfl aU au V sl45)<|Yz 6 111 rfl (sQ rfl V fld83_3)<|Ey 7 111 rfl (sO rfl one3 (ar 3 _ rfl))<|Yz 8 111 rfl (sF rfl fld83_2)<|Ey 9 111 rfl (sL 3 rfl one3 rfl rfl)<|Yz 10 111 rfl (sM rfl) ?_
 have K := (kS K).2
 refine Yz 11 111 rfl (sa rfl rfl K)<|Yz 12 111 rfl (q3 rfl rfl)<|E0 13 rfl (pT rfl rfl)<|Eo<|Dd (by kernel_rfl) ?_
 obtain rfl := o1 hm
 exact jJ ⟨rfl, rfl, lr⟩
 rw [if_neg (fun hh => Bool.noConfusion (hh.symm.trans p))] at hm
 refine Di mixed (.refl _)<|E0 0 rfl (stB (sM rfl) p)<|E0 1 rfl (sM rfl)<|eN 2 rfl<|eN 3 rfl<|eN 4 rfl<|eN 5 rfl<|eN 6 rfl<|eN 7 rfl<|eN 8 rfl ?_
 refine eN 9 rfl<|eN 10 rfl<|eN 11 rfl<|eN 12 rfl<|E0 13 rfl (pF rfl rfl)<|Eo<|Dd (by kernel_rfl) ?_
 obtain rfl := o1 hm
 exact jJ ⟨rfl, rfl, lr⟩
 rintro aq _ _ ⟨rfl, rfl, D⟩
 have hm := aT
 refine cB hm rfl (fun hm => ?_) fun hm => ?_
 refine Cr<|aS rfl<|Te<|Ct<|Xb<|Xr<|Xr<|Xb<|Xr ?_
 have aX := g _ (Option.some.inj hm).symm
 rw [aX] at e
 have hm := elimR e
 obtain rfl := o1 hm
 exact rO ⟨rfl, rfl⟩ (a.trans (c.trans (d.trans (l.trans (o.trans D)))))
 refine Ck<|Xm<|Xn<|Cg<|tS (sa rfl rfl (by omega))<|mV rfl<|Tn ?_
 exact jM hm ⟨rfl, rfl, ((a.trans (c.trans (d.trans (l.trans (o.trans D))))))⟩
 rintro _ O _ _ ⟨rfl, rfl, a⟩ aY
 rw [aY] at e
 have hm := elimL e
 refine Cr<|tS (lF rfl rfl (by omega))<|Te<|Cs<|c_cond_f rfl<|Ce<|Xe<|Xe<|Xo<|Xn ?_
 refine Cr<|aS rfl<|Te<|Ct ?_
 obtain rfl := o1 hm
 exact rO ⟨rfl, rfl⟩ a

set_option maxRecDepth 20000 in
theorem cFishref2Arrives (b : Base) (R : Hp) (t : ApiDay) (F : GuideJourney) (K L O S T w) (h4 : FZ rApiTrain b.w K L t.Trains) (h7 : FZ (RT.list rI) b.w O S t.Turns) (G : FZ rGuideRide b.w T w F.Rides) (x) (hm : mFishref2Arrives t F = some x):
    CallsG Tryd.prog 15 [.agg #[sv K t.Trains L, sv O t.Turns S], .agg #[sv T F.Rides w]] b (R) (fun v b' hp' => iv x = v ∧ R = hp') := by
 refine fE 26 Tryd.func15 rfl Tryd.ntmps15 rfl ?_
 unfold mFishref2Arrives at hm
 refine Cr<|tD (uB _ rfl rfl) ?_
 rintro _ _ ⟨ad, rfl, rfl⟩
 refine tD (uB _ rfl rfl) ?_
 rintro _ _ ⟨ae, rfl, rfl⟩
 refine aS rfl<|Te<|Cr<|tS (sF rfl fld33_0)<|tS (sL 0 rfl one31 rfl rfl)<|tS (sF rfl fld33_0)<|tS (sL 0 rfl one31 rfl rfl)<|tS (sE rfl sl31) ?_
 obtain ⟨_, i, hm⟩ := bS hm
 have i := (kS i).2
 refine tS (sb rfl rfl i) ?_
 obtain ⟨k, H, U, y, V, z, l, h, m, hm⟩ := bF (sz := 3) hm G
 obtain ⟨_, _, rfl, rfl, ⟨_, _, rfl, rfl, rfl⟩⟩ := z
 refine tS (sI H rfl rfl y m h sl31)<|tS (sP (vs := [iv k.Train, iv k.On, iv k.Off]) 3 rfl agg86 h rfl (fun j u hu => l j u hu))<|tD (uA [iv 0, iv 0, iv 0] zero86 rfl) ?_
 rintro _ _ ⟨af, rfl, rfl⟩
 refine tD (uN (vs := [_, _, _]) 0 3 rfl rfl rfl siz86 rfl (mc rfl (mc rfl (mc rfl mn))) rfl (by simp)) ?_
 rintro _ _ rfl
 refine Te<|Cs ?_
 obtain ⟨W, A, hm⟩ := bS hm
 obtain ⟨X, B, hm⟩ := bS hm
 refine Di mixed (.refl _)<|E0 0 rfl (sF rfl fld25_0)<|Es 1 rfl (sL 2 rfl one22 rfl rfl)<|E0 2 rfl (sF rfl fld86_0)<|Es 3 rfl (sL 0 rfl one3 rfl rfl) ?_
 obtain ⟨C, n, o⟩ := iS A
 obtain ⟨I, p, d, a, e⟩ := FZ.get (sz := 4) rfl (by decide) h4 o
 obtain ⟨_, _, rfl, rfl, ⟨_, _, rfl, rfl, ⟨_, _, rfl, ⟨Y, Z, rfl, D⟩, ⟨aa, ab, rfl, ac⟩⟩⟩⟩ := p
 refine E0 4 rfl (sI C rfl rfl n e a sl22)<|E0 5 rfl (sQ rfl a fld47_2)<|Es 6 rfl (sO rfl one45 (d 2 _ rfl))<|E0 7 rfl (sF rfl fld86_2)<|Es 8 rfl (sL 0 rfl one3 rfl rfl) ?_
 obtain ⟨E, q, r⟩ := iS B
 obtain ⟨J, s, f, c, g⟩ := FZ.get (sz := 4) rfl (by decide) D r
 obtain ⟨_, _, rfl, rfl, ⟨_, _, rfl, rfl, ⟨_, _, rfl, rfl, rfl⟩⟩⟩ := s
 refine E0 9 rfl (sI E rfl rfl q g c sl45)<|E0 10 rfl (sQ rfl c fld83_2)<|Es 11 rfl (sO rfl one3 (f 2 _ rfl))<|E0 12 rfl (sA rfl)<|Eo<|Dd (by kernel_rfl)<|Xn<|Ct ?_
 obtain rfl := o1 hm
 exact rO ⟨rfl, rfl⟩ lr

set_option maxRecDepth 20000 in
theorem cFishref2Leaves (b : Base) (R : Hp) (s : ApiDay) (E : GuideJourney) (J K L O S t) (h4 : FZ rApiTrain b.w J K s.Trains) (h7 : FZ (RT.list rI) b.w L O s.Turns) (F : FZ rGuideRide b.w S t E.Rides) (w) (hm : mFishref2Leaves s E = some w):
    CallsG Tryd.prog 16 [.agg #[sv J s.Trains K, sv L s.Turns O], .agg #[sv S E.Rides t]] b (R) (fun v b' hp' => iv w = v ∧ R = hp') := by
 refine fE 22 Tryd.func16 rfl Tryd.ntmps16 rfl ?_
 unfold mFishref2Leaves at hm
 refine Cr<|tD (uB _ rfl rfl) ?_
 rintro _ _ ⟨ac, rfl, rfl⟩
 refine tD (uB _ rfl rfl) ?_
 rintro _ _ ⟨ad, rfl, rfl⟩
 refine aS rfl<|Te<|Cr<|tS (sF rfl fld33_0)<|tS (sL 0 rfl one31 rfl rfl) ?_
 obtain ⟨i, G, T, x, U, y, k, h, l, hm⟩ := bF (sz := 3) hm F
 obtain ⟨_, _, rfl, rfl, ⟨_, _, rfl, rfl, rfl⟩⟩ := y
 refine tS (sI G rfl rfl x l h sl31)<|tS (sP (vs := [iv i.Train, iv i.On, iv i.Off]) 3 rfl agg86 h rfl (fun j u hu => k j u hu))<|tD (uA [iv 0, iv 0, iv 0] zero86 rfl) ?_
 rintro _ _ ⟨ae, rfl, rfl⟩
 refine tD (uN (vs := [_, _, _]) 0 3 rfl rfl rfl siz86 rfl (mc rfl (mc rfl (mc rfl mn))) rfl (by simp)) ?_
 rintro _ _ rfl
 refine Te<|Cs ?_
 obtain ⟨V, z, hm⟩ := bS hm
 obtain ⟨W, A, hm⟩ := bS hm
 refine Di mixed (.refl _)<|E0 0 rfl (sF rfl fld25_0)<|Es 1 rfl (sL 2 rfl one22 rfl rfl)<|E0 2 rfl (sF rfl fld86_0)<|Es 3 rfl (sL 0 rfl one3 rfl rfl) ?_
 obtain ⟨B, m, n⟩ := iS z
 obtain ⟨H, o, d, a, e⟩ := FZ.get (sz := 4) rfl (by decide) h4 n
 obtain ⟨_, _, rfl, rfl, ⟨_, _, rfl, rfl, ⟨_, _, rfl, ⟨X, Y, rfl, C⟩, ⟨Z, aa, rfl, ab⟩⟩⟩⟩ := o
 refine E0 4 rfl (sI B rfl rfl m e a sl22)<|E0 5 rfl (sQ rfl a fld47_2)<|Es 6 rfl (sO rfl one45 (d 2 _ rfl))<|E0 7 rfl (sF rfl fld86_1)<|Es 8 rfl (sL 0 rfl one3 rfl rfl) ?_
 obtain ⟨D, p, q⟩ := iS A
 obtain ⟨I, r, f, c, g⟩ := FZ.get (sz := 4) rfl (by decide) C q
 obtain ⟨_, _, rfl, rfl, ⟨_, _, rfl, rfl, ⟨_, _, rfl, rfl, rfl⟩⟩⟩ := r
 refine E0 9 rfl (sI D rfl rfl p g c sl45)<|E0 10 rfl (sQ rfl c fld83_3)<|Es 11 rfl (sO rfl one3 (f 3 _ rfl))<|E0 12 rfl (sA rfl)<|Eo<|Dd (by kernel_rfl)<|Xn<|Ct ?_
 obtain rfl := o1 hm
 exact rO ⟨rfl, rfl⟩ lr

set_option maxRecDepth 20000 in
theorem cGuideProfile_1 (b : Base) (R : Hp) (c : GuidePoint) (f g h n j) (hm : mGuideProfile_1 c f g h = some j):
    CallsG Tryd.prog 47 [.agg #[iv c.Dep, iv c.Arr, iv c.Rides], pb n] b ((n, Cl 42 [iv f, iv g, iv h]) :: R) (fun v b' hp' => bv j = v ∧ (n, Cl 42 [iv f, iv g, iv h]) :: R = hp') := by
 refine fE 28 Tryd.func47 rfl Tryd.ntmps47 rfl ?_
 unfold mGuideProfile_1 at hm
 refine Cr<|tD (uB _ rfl rfl) ?_
 rintro _ _ ⟨q, rfl, rfl⟩
 refine aS rfl<|Te ?_
 obtain ⟨o, k, l⟩ := bS hm
 refine Cj (fun m e' hp' => [(3, bv o)] = e' ∧ (n, Cl 42 [iv f, iv g, iv h]) :: R = hp' ∧ b.Le m) ?_ ?_
 have hm := k
 refine Cg<|tS (sD (vs := [_, _, _]) 0 3 rfl agg42 rfl rfl rfl)<|tS (sD (vs := [_, _, _]) 1 3 rfl agg42 rfl rfl rfl)<|tS (st_neqA (xs := [iv c.Dep, iv c.Arr, iv c.Rides]) (ys := [iv f, iv g, iv h]) (p := c.Dep = f ∧ c.Arr = g ∧ c.Rides = h) rfl rfl eqt42 ⟨⟨_, rfl⟩, ⟨⟨_, rfl⟩, ⟨⟨_, rfl⟩, trivial⟩⟩⟩ ⟨⟨_, rfl⟩, ⟨⟨_, rfl⟩, ⟨⟨_, rfl⟩, trivial⟩⟩⟩ (by simp [eqCells, eqCell, Bool.decide_and, beq_dec])) ?_
 rcases Bool.eq_false_or_eq_true (!(decide (c.Dep = f ∧ c.Arr = g ∧ c.Rides = h))) with a | a
 rw [if_neg (of_decide_eq_false (nt a))] at hm
 refine Tr 6 rfl (v' := .bool true) (by rw [a] <;> rfl)<|mV rfl<|yS<|tS (sF rfl fld42_0)<|yS<|tS (sL 0 rfl one3 rfl rfl)<|yS<|tS (sF rfl fld42_0)<|yS<|tS (sL 1 rfl one3 rfl rfl) ?_
 refine yS ?_
 refine Tb rfl (q6 rfl rfl) (fun d => ?_) (fun d => ?_)
 rw [if_pos d] at hm
 refine tS (pT rfl rfl)<|mV rfl<|yS<|tS (sF rfl fld42_1)<|yS<|tS (sL 0 rfl one3 rfl rfl)<|yS<|tS (sF rfl fld42_1)<|yS<|tS (sL 1 rfl one3 rfl rfl) ?_
 refine yS ?_
 refine Tb rfl (q4 rfl rfl) (fun e => ?_) (fun e => ?_)
 rw [if_pos e] at hm
 refine tS (pT rfl rfl)<|mV rfl<|yS<|tS (sF rfl fld42_2)<|yS<|tS (sL 0 rfl one3 rfl rfl)<|yS<|tS (sF rfl fld42_2)<|yS<|tS (sL 1 rfl one3 rfl rfl) ?_
 refine yS<|tS (q4 rfl rfl)<|tS (pT rfl rfl)<|aS rfl<|Tn ?_
 obtain rfl := o1 hm
 exact jJ ⟨rfl, rfl, lr⟩
 rw [if_neg e] at hm
 refine tS (pT rfl rfl)<|mV rfl<|nO<|nO<|nO<|nO<|nO<|tS (pF rfl rfl)<|aS rfl<|Tn ?_
 obtain rfl := o1 hm
 exact jJ ⟨rfl, rfl, lr⟩
 rw [if_neg d] at hm
 refine tS (pT rfl rfl)<|mV rfl<|nO<|nO<|nO<|nO<|nO<|tS (pF rfl rfl)<|mV rfl<|nO ?_
 refine nO<|nO<|nO<|nO<|tS (pF rfl rfl)<|aS rfl<|Tn ?_
 obtain rfl := o1 hm
 exact jJ ⟨rfl, rfl, lr⟩
 rw [if_pos (of_decide_eq_true (nf a))] at hm
 refine Tr 6 rfl (v' := .bool false) (by rw [a] <;> rfl)<|mV rfl<|nO<|nO<|nO<|nO<|nO<|tS (pF rfl rfl)<|mV rfl<|nO ?_
 refine nO<|nO<|nO<|nO<|tS (pF rfl rfl)<|mV rfl<|nO<|nO<|nO<|nO ?_
 refine nO<|tS (pF rfl rfl)<|aS rfl<|Tn ?_
 obtain rfl := o1 hm
 exact jJ ⟨rfl, rfl, lr⟩
 rintro m _ _ ⟨rfl, rfl, i⟩
 have hm := l
 refine Ct ?_
 obtain rfl := o1 hm
 exact rO ⟨rfl, rfl⟩ i

set_option maxRecDepth 20000 in
theorem cSlicesIndexFunc_3 (b : Base) (R : Hp) (s t x d o H I k) (T : OS 42 (OT.fr rGuidePoint) b.w (sv H d I) d k) (y) (hm : mSlicesIndexFunc_3 s t x d = some y):
    CallsG Tryd.prog 74 [sv H d I, .func (.func 47) #[] #[pb o]] b ((o, Cl 42 [iv s, iv t, iv x]) :: (k ++ R)) (fun v b' hp' => iv y = v ∧ (o, Cl 42 [iv s, iv t, iv x]) :: (k ++ R) = hp') := by
 refine fE 19 Tryd.func74 rfl Tryd.ntmps74 rfl ?_
 unfold mSlicesIndexFunc_3 at hm
 refine Cr<|aS rfl<|Te<|Cs<|Cr<|mV rfl<|tS (sE rfl sl38)<|mV rfl<|Te<|Cb ?_
 have U : d.length ≤ 9223372036854775807 := (OS.len T)
 obtain ⟨aa, z, f⟩ := bS hm
 refine lF (fun A => fun _ => fun p e' hp' => [(0, sv H d I), (1, .func (.func 47) #[] #[pb o]), (7, iv ((d.length : Int))), (8, iv ((A : Int)))] = e' ∧ (o, Cl 42 [iv s, iv t, iv x]) :: (k ++ R) = hp' ∧ b.Le p) z ⟨rfl, rfl, lr⟩ ?_ ?_
 rintro A _ p _ _ V F ⟨rfl, rfl, a⟩ c h
 unfold mSlicesIndexFunc_3_L64 at c
 have hm := c
 refine Cr<|tS (lT rfl rfl (by omega))<|Te<|Cs<|c_cond_t rfl<|Ck<|Xn<|Cs<|Cb<|Cr ?_
 refine mV rfl<|aS rfl<|Te<|Cr<|mV rfl<|mV rfl<|mV rfl ?_
 obtain ⟨e, J, hm⟩ := bS hm
 obtain ⟨K, B, C⟩ := iS J
 obtain ⟨W, L, X, Y, O, D, l, i, m, S, G⟩ := OS.get (sz := 3) rfl (by decide) (T.le a) C
 obtain ⟨⟨_, _, rfl, rfl, ⟨_, _, rfl, rfl, rfl⟩⟩, rfl⟩ := D
 refine tS (sI K rfl rfl B m i sl38)<|tS (st_loadN_rd (vs := [iv e.Dep, iv e.Arr, iv e.Rides]) 3 rfl agg42 i rfl (fun w ho j u hu => l w _ ho (.cons _ (List.sublist_append_left _ _)) j u hu)) ?_
 obtain ⟨E, n, hm⟩ := bS hm
 refine Tv #[] #[pb o] [.agg #[iv e.Dep, iv e.Arr, iv e.Rides]] rfl rfl call47 rfl (cGuideProfile_1 _ _ e s t x o E n) ?_
 rintro _ Z _ g ⟨rfl, rfl⟩
 refine Te ?_
 refine cB hm rfl (fun hm => ?_) fun hm => ?_
 refine Cr<|mV rfl<|aS rfl<|Te<|Ct<|Xb<|Xr<|Xr<|Xb<|Xr ?_
 have q := h _ (Option.some.inj hm).symm
 rw [q] at f
 have hm := elimR f
 obtain rfl := o1 hm
 exact rO ⟨rfl, rfl⟩ (a.trans g)
 refine Ck<|Xm<|Xn<|Cg<|tS (sa rfl rfl (by omega))<|mV rfl<|Tn ?_
 exact jM hm ⟨rfl, rfl, ((a.trans g))⟩
 rintro _ p _ _ ⟨rfl, rfl, a⟩ r
 rw [r] at f
 have hm := elimL f
 refine Cr<|tS (lF rfl rfl (by omega))<|Te<|Cs<|c_cond_f rfl<|Ce<|Xe<|Xe<|Xo<|Xn ?_
 refine Cr<|aS rfl<|Te<|Ct ?_
 obtain rfl := o1 hm
 exact rO ⟨rfl, rfl⟩ a

set_option maxRecDepth 20000 in
theorem cSlicesContainsFunc (b : Base) (R : Hp) (g h i c j k l a) (n : OS 42 (OT.fr rGuidePoint) b.w (sv k c l) c a) (f) (hm : mSlicesContainsFunc g h i c = some f):
    CallsG Tryd.prog 46 [sv k c l, .func (.func 47) #[] #[pb j]] b ((j, Cl 42 [iv g, iv h, iv i]) :: (a ++ R)) (fun v b' hp' => bv f = v ∧ (j, Cl 42 [iv g, iv h, iv i]) :: (a ++ R) = hp') := by
 refine fE 9 Tryd.func46 rfl Tryd.ntmps46 rfl ?_
 unfold mSlicesContainsFunc at hm
 refine Cr<|aS rfl<|Te<|Cr<|mV rfl<|mV rfl ?_
 obtain ⟨m, d, hm⟩ := bS hm
 refine t_out1 [_] [] a R rfl<|Tg _ rfl call74 rfl (cSlicesIndexFunc_3 _ _ g h i c j k l a n m d) ?_
 rintro _ o _ e ⟨rfl, rfl⟩
 refine t_in1 [_] [] a R rfl<|tS (q6 rfl rfl)<|aS rfl<|Te<|Ct ?_
 obtain rfl := o1 hm
 exact rO ⟨rfl, rfl⟩ e

set_option maxRecDepth 20000 in
theorem cGuideProfile (b : Base) (R : Hp) (hG : GOn GT b) (A : ApiDay) (x8 x9 z A2 c3 A5 c6) (h4 : FZ rApiTrain b.w A2 c3 A.Trains) (h7 : FZ (RT.list rI) b.w A5 c6 A.Turns) (L t) (hm : mGuideProfile A x8 x9 z = some (L, t)):
    CallsG Tryd.prog 17 [.agg #[sv A2 A.Trains c3, sv A5 A.Turns c6], iv x8, iv x9, iv z] b (R) (fun v b' hp' => ∃ O S B, .tuple #[sv O t S, iv L] = v ∧ (B ++ R) = hp' ∧ OSP 42 (OT.fr rGuidePoint) b'.w (sv O t S) t B) := by
 refine fE 47 Tryd.func17 rfl Tryd.ntmps17 rfl ?_
 unfold mGuideProfile at hm
 refine Cr<|tD (uB _ rfl rfl) ?_
 rintro _ _ ⟨ax, rfl, rfl⟩
 refine aS rfl<|aS rfl<|Te<|Cs<|Cr<|tS (sD (vs := [_, _]) 0 2 rfl agg25 rfl rfl rfl)<|mV rfl<|mV rfl<|mV rfl ?_
 obtain ⟨ab, F, hm⟩ := bS hm
 refine tD (uW _ call36 rfl (fun w ho => cGuideCheck_2 _ [] ((hG.le lr).old ho) A z x8 x9 [] A2 c3 A5 c6 none 0 (h4.old ho) (h7.old ho) FZ.nil ab F) (fun _ _ _ h => h.2.symm)) ?_
 rintro _ _ ⟨⟨_, rfl, _⟩, rfl⟩
 refine aS rfl<|Te<|Cr<|mV rfl<|tS (q2 rfl rfl)<|Te ?_
 refine cI hm rfl (fun hm => ?_) fun hm => ?_
 refine Cr<|mV rfl<|aS rfl<|aS rfl<|Te<|Ct<|Xr ?_
 obtain ⟨rfl, rfl⟩ := some2 hm
 exact rT ⟨none, 0, [], rfl, rfl, OSP.nil⟩ lr
 refine Ck<|Xn<|Cr<|tS (sD (vs := [_, _]) 0 2 rfl agg25 rfl rfl rfl)<|mV rfl<|tS (sB (v := .agg #[sv A2 A.Trains c3, sv A5 A.Turns c6, iv z]) [(0, .agg #[sv A2 A.Trains c3, sv A5 A.Turns c6]), (1, iv z)] rfl (fun _ => by kernel_rfl))<|mV rfl<|mV rfl ?_
 obtain ⟨ac, G, hm⟩ := bS hm
 refine Tg _ rfl call39 rfl (cGuideNetPoints _ _ (⟨A, z⟩ : GuideNet) x8 x9 A2 c3 A5 c6 h4 h7 ac G) ?_
 rintro _ ad _ H ⟨p, q, e, rfl, rfl, ae⟩
 refine t_in1 [] [_] e R rfl<|aS rfl<|Te<|Cr<|aS rfl<|Te<|Cs<|Cr<|mV rfl ?_
 obtain ⟨f, hp151, s, C⟩ := OSP.ex ae
 have hm := ordM_some hm f hp151
 refine Tr 11 rfl (v' := sv p f q) (by show Value.slice _ _ _ = Value.slice _ _ _; rw [s])<|Tr 29 rfl (v' := sv p f q) (by show Value.slice _ _ _ = Value.slice _ _ _; rw [s])<|Tr 30 rfl (v' := sv p f q) (by show Value.slice _ _ _ = Value.slice _ _ _; rw [s])<|tS (sE rfl sl38)<|mV rfl<|Te<|Cb ?_
 have ao : f.length ≤ 9223372036854775807 := (OS.len C)
 obtain ⟨k, V, W⟩ := bS hm
 refine lS (fun T => fun k => fun x e' hp' => ∃ m n c, [(11, sv p f q), (12, sv m k n), (30, sv p f q), (31, iv ((f.length : Int))), (32, iv ((T : Int)))] = e' ∧ (e ++ (c ++ R)) = hp' ∧ ad.Le x ∧ OS 42 (OT.fr rGuidePoint) x.w (sv m k n) k c) V ⟨none, 0, [], rfl, rfl, lr, OS.nil⟩ ?_ ?_
 rintro T k x _ _ aq af ⟨m, n, c, rfl, rfl, d, y⟩ o
 unfold mGuideProfile_L154 at o
 have hm := o
 refine Cr<|tS (lT rfl rfl (by omega))<|Te<|Cs<|c_cond_t rfl<|Ck<|Xn<|Cs<|Cb<|Cr ?_
 obtain ⟨a, ag, hm⟩ := bS hm
 obtain ⟨ah, X, Y⟩ := iS ag
 obtain ⟨ar, au, ay, az, av, Z, I, D, J, aw, an⟩ := OS.get (sz := 3) rfl (by decide) (C.le d) Y
 obtain ⟨⟨_, _, rfl, rfl, ⟨_, _, rfl, rfl, rfl⟩⟩, rfl⟩ := Z
 refine tS (sI ah rfl rfl X J D sl38)<|tS (st_loadN_rd (vs := [iv a.Dep, iv a.Arr, iv a.Rides]) 3 rfl agg42 D rfl (fun w ho j u hu => I w _ ho (List.sublist_append_left _ _) j u hu))<|tD (uA [iv 0, iv 0, iv 0] zero42 rfl) ?_
 rintro _ _ ⟨ai, rfl, rfl⟩
 refine tD (uN (vs := [_, _, _]) 0 3 rfl rfl rfl siz42 rfl (mc rfl (mc rfl (mc rfl mn))) rfl (by simp)) ?_
 rintro _ _ rfl
 refine Te<|Cr<|mV rfl<|tS (st_func _ _ rfl rfl) ?_
 obtain ⟨aj, K, hm⟩ := bS hm
 refine t_out1 [_] [] e (c ++ R) rfl<|Tg _ rfl call46 rfl (cSlicesContainsFunc _ _ a.Dep a.Arr a.Rides f ai p q e (C.le d) aj K) ?_
 rintro _ aA _ g ⟨rfl, rfl⟩
 refine t_in1 [_] [] e (c ++ R) rfl<|aS rfl<|Te<|Cr<|mV rfl<|tS (sn2 rfl)<|Te ?_
 refine cM hm rfl (fun hm => ?_) fun hm => ?_
 refine Cg<|mV rfl<|tS (sD (vs := [_, _, _]) 0 3 rfl agg42 rfl rfl rfl)<|tD (u_bslice (el := 42) [(0, .agg #[iv a.Dep, iv a.Arr, iv a.Rides])] [iv a.Dep, iv a.Arr, iv a.Rides] rfl (fun _ => by kernel_rfl)) ?_
 rintro _ _ ⟨aB, rfl, rfl⟩
 obtain ⟨_, E, hm⟩ := bS hm
 have E := room_some E
 refine t_front2 [_, _] e c R rfl<|tD (uQ (r := rGuidePoint) (l := k) [_, _] (e ++ R) [[iv a.Dep, iv a.Arr, iv a.Rides]] [a] rfl (by decide) sl38 inf42 rfl rfl rfl rfl (y.le g) rfl (fun w ho => Rd.own (i := 0) ho rfl) ⟨⟨[iv a.Dep], _, rfl, rfl, ⟨[iv a.Arr], _, rfl, rfl, rfl⟩⟩, trivial⟩ E) ?_
 rintro _ _ ⟨aa, rfl, U⟩
 obtain ⟨ak, al, rfl, _⟩ := U.form
 refine aS rfl<|Tn<|Xm<|Xn<|Cg<|tS (sa rfl rfl (by omega))<|mV rfl<|Tn ?_
 obtain rfl := o1 hm
 exact jS ⟨ak, al, aa, rfl, rfl, ((d.trans g)), U⟩
 refine Ck<|Xm<|Xn<|Cg<|tS (sa rfl rfl (by omega))<|mV rfl<|Tn ?_
 obtain rfl := o1 hm
 exact jS ⟨m, n, c, rfl, rfl, ((d.trans g)), (y.le g)⟩
 rintro x _ _ ⟨m, n, c, rfl, rfl, d, y⟩
 have hm := W
 refine Cr<|tS (lF rfl rfl (by omega))<|Te<|Cs<|c_cond_f rfl<|Ce<|Xe<|Xe<|Xo<|Xn ?_
 refine Cr<|mV rfl<|aS rfl<|aS rfl<|Te<|Ct ?_
 have am := OSP.canon kGuidePoint y
 refine x_resp 8 rfl (v' := .slice m (canB kGuidePoint k).length n) (by rw [canB_length]) ?_
 obtain ⟨rfl, rfl⟩ := some2 hm
 exact rT ⟨m, n, c, rfl, rfl, am⟩ (H.trans d)

set_option maxRecDepth 20000 in
theorem cSlicesIndex (b : Base) (R : Hp) (s) (f : GuidePoint) (C D) (F : FZ rGuidePoint b.w C D s) (t) (hm : mSlicesIndex s f = some t):
    CallsG Tryd.prog 48 [sv C s D, .agg #[iv f.Dep, iv f.Arr, iv f.Rides]] b (R) (fun v b' hp' => iv t = v ∧ R = hp') := by
 refine fE 19 Tryd.func48 rfl Tryd.ntmps48 rfl ?_
 unfold mSlicesIndex at hm
 refine Cr<|tD (uB _ rfl rfl) ?_
 rintro _ _ ⟨w, rfl, rfl⟩
 refine aS rfl<|Te<|Cs<|Cr<|mV rfl<|tS (sE rfl sl38)<|mV rfl<|Te<|Cb ?_
 have G : s.length ≤ 9223372036854775807 := (FZ.bd F)
 obtain ⟨I, x, e⟩ := bS hm
 refine lF (fun y => fun _ => fun l e' hp' => [(0, sv C s D), (3, pb w), (7, iv ((s.length : Int))), (8, iv ((y : Int)))] = e' ∧ (w, Cl 42 [iv f.Dep, iv f.Arr, iv f.Rides]) :: R = hp' ∧ b.Le l) x ⟨rfl, rfl, lr⟩ ?_ ?_
 rintro y _ l _ _ H B ⟨rfl, rfl, c⟩ d g
 unfold mSlicesIndex_L61 at d
 have hm := d
 refine Cr<|tS (lT rfl rfl (by omega))<|Te<|Cs<|c_cond_t rfl<|Ck<|Xn<|Cs<|Cb<|Cr ?_
 refine mV rfl<|aS rfl<|Te<|Cs ?_
 obtain ⟨a, z, hm⟩ := bS hm
 refine Di mixed (.refl _)<|Es 0 rfl (sD (vs := [_, _, _]) 0 3 rfl agg42 rfl rfl rfl)<|E0 1 rfl (sM rfl)<|E0 2 rfl (sM rfl) ?_
 obtain ⟨A, m, n⟩ := iS z
 obtain ⟨E, o, i, h, k⟩ := FZ.get (sz := 3) rfl (by decide) (F.le c) n
 obtain ⟨_, _, rfl, rfl, ⟨_, _, rfl, rfl, rfl⟩⟩ := o
 refine E0 3 rfl (sI A rfl rfl m k h sl38)<|Es 4 rfl (sP (vs := [iv a.Dep, iv a.Arr, iv a.Rides]) 3 rfl agg42 h rfl (fun j u hu => i j u hu))<|E0 5 rfl (st_eqlA (xs := [iv f.Dep, iv f.Arr, iv f.Rides]) (ys := [iv a.Dep, iv a.Arr, iv a.Rides]) (p := f.Dep = a.Dep ∧ f.Arr = a.Arr ∧ f.Rides = a.Rides) rfl rfl eqt42 ⟨⟨_, rfl⟩, ⟨⟨_, rfl⟩, ⟨⟨_, rfl⟩, trivial⟩⟩⟩ ⟨⟨_, rfl⟩, ⟨⟨_, rfl⟩, ⟨⟨_, rfl⟩, trivial⟩⟩⟩ (by simp [eqCells, eqCell, Bool.decide_and, beq_dec]))<|Eo<|Dd (by kernel_rfl)<|Xn ?_
 refine cI hm rfl (fun hm => ?_) fun hm => ?_
 refine Cr<|mV rfl<|aS rfl<|Te<|Ct<|Xb<|Xr<|Xr<|Xb<|Xr ?_
 have q := g _ (Option.some.inj hm).symm
 rw [q] at e
 have hm := elimR e
 obtain rfl := o1 hm
 exact rO ⟨rfl, rfl⟩ c
 refine Ck<|Xm<|Xn<|Cg<|tS (sa rfl rfl (by omega))<|mV rfl<|Tn ?_
 exact jM hm ⟨rfl, rfl, (c)⟩
 rintro _ l _ _ ⟨rfl, rfl, c⟩ r
 rw [r] at e
 have hm := elimL e
 refine Cr<|tS (lF rfl rfl (by omega))<|Te<|Cs<|c_cond_f rfl<|Ce<|Xe<|Xe<|Xo<|Xn ?_
 refine Cr<|aS rfl<|Te<|Ct ?_
 obtain rfl := o1 hm
 exact rO ⟨rfl, rfl⟩ c

set_option maxRecDepth 20000 in
theorem cSlicesContains (b : Base) (R : Hp) (d) (c : GuidePoint) (e f) (j : FZ rGuidePoint b.w e f d) (i) (hm : mSlicesContains d c = some i):
    CallsG Tryd.prog 18 [sv e d f, .agg #[iv c.Dep, iv c.Arr, iv c.Rides]] b (R) (fun v b' hp' => bv i = v ∧ R = hp') := by
 refine fE 9 Tryd.func18 rfl Tryd.ntmps18 rfl ?_
 unfold mSlicesContains at hm
 refine Cr<|tD (uB _ rfl rfl) ?_
 rintro _ _ ⟨k, rfl, rfl⟩
 refine aS rfl<|Te<|Cr<|mV rfl<|tS (sD (vs := [_, _, _]) 0 3 rfl agg42 rfl rfl rfl) ?_
 obtain ⟨g, a, hm⟩ := bS hm
 refine tD (uW _ call48 rfl (fun w ho => cSlicesIndex _ [] d c e f (j.old ho) g a) (fun _ _ _ h => h.2.symm)) ?_
 rintro _ _ ⟨⟨_, rfl, _⟩, rfl⟩
 refine tS (q6 rfl rfl)<|aS rfl<|Te<|Ct ?_
 obtain rfl := o1 hm
 exact rO ⟨rfl, rfl⟩ lr

set_option maxRecDepth 20000 in
theorem cFishkeep2GuideTurned (b : Base) (R : Hp) (hG : GOn GT b) (s1 : ApiDay) (x8 x9 aL t A2 c3 A5 c6) (h4 : FZ rApiTrain b.w A2 c3 s1.Trains) (h7 : FZ (RT.list rI) b.w A5 c6 s1.Turns) (bd) (hm : mFishkeep2GuideTurned s1 x8 x9 aL t = some bd):
    CallsG Tryd.prog 3 [.agg #[sv A2 s1.Trains c3, sv A5 s1.Turns c6], iv x8, iv x9, iv aL, iv t] b (R) (fun v b' hp' => bv bd = v ∧ R = hp') := by
 refine fE 145 Tryd.func3 rfl Tryd.ntmps3 rfl ?_
 unfold mFishkeep2GuideTurned at hm
 refine Cr<|tD (uB _ rfl rfl) ?_
 rintro _ _ ⟨aE, rfl, rfl⟩
 refine aS rfl<|Te<|Cs<|Cr ?_
 obtain ⟨bB, a1, hm⟩ := bS hm
 refine tD (uW _ call7 rfl (fun w ho => cFishkeep2AwakeGuide _ [] ((hG.le lr).old ho) bB a1) (fun _ _ _ h => h.2.symm)) ?_
 rintro _ _ ⟨⟨_, rfl, _⟩, rfl⟩
 refine tS (sn2 rfl)<|Te ?_
 refine cM hm rfl (fun hm => ?_) fun hm => ?_
 refine Cr<|aS rfl<|Te<|Ct<|Xr ?_
 obtain rfl := o1 hm
 exact rO ⟨rfl, rfl⟩ lr
 refine Ck<|Xn<|Cs<|Cr ?_
 obtain ⟨bC, a2, hm⟩ := bS hm
 refine tD (uW _ call8 rfl (fun w ho => cFishkeep2Guides _ [] ((hG.le lr).old ho) bC a2) (fun _ _ _ h => h.2.symm)) ?_
 rintro _ _ ⟨⟨_, rfl, _⟩, rfl⟩
 refine tS (sn2 rfl)<|Te ?_
 refine cM hm rfl (fun hm => ?_) fun hm => ?_
 refine Cr<|aS rfl<|Te<|Ct<|Xr ?_
 obtain rfl := o1 hm
 exact rO ⟨rfl, rfl⟩ lr
 refine Ck<|Xn<|Cs ?_
 obtain ⟨bD, bm, bn⟩ := bS hm
 refine Cj (fun be e' hp' => [(1, iv x8), (2, iv x9), (3, iv aL), (4, iv t), (5, pb aE), (34, bv bD)] = e' ∧ (aE, Cl 25 [sv A2 s1.Trains c3, sv A5 s1.Turns c6]) :: R = hp' ∧ b.Le be) ?_ ?_
 have hm := bm
 refine Cg<|tS (sD (vs := [_, _]) 0 2 rfl agg25 rfl rfl rfl) ?_
 obtain ⟨bE, a3, hm⟩ := bS hm
 refine tD (uW _ call9 rfl (fun w ho => cFishref2GuideFault _ [] s1 A2 c3 A5 c6 (h4.old ho) (h7.old ho) bE a3) (fun _ _ _ h => h.2.symm)) ?_
 rintro _ _ ⟨⟨_, rfl, _⟩, rfl⟩
 refine Tb rfl (q2 rfl rfl) (fun az => ?_) (fun az => ?_)
 rw [if_pos az] at hm
 refine mV rfl<|nO<|nO<|nO<|nO<|nO<|nO<|tS (pT rfl rfl)<|Tn ?_
 obtain rfl := o1 hm
 exact jJ ⟨rfl, rfl, lr⟩
 rw [if_neg az] at hm
 refine mV rfl<|yS<|mV rfl<|yS<|mV rfl<|yS<|mV rfl<|yS<|mV rfl<|yS ?_
 obtain ⟨bG, a4, hm⟩ := bS hm
 refine tD (uW _ call10 rfl (fun w ho => cFishref2SearchFault _ [] t x8 x9 aL true true bG a4) (fun _ _ _ h => h.2.symm)) ?_
 rintro _ _ ⟨⟨_, rfl, _⟩, rfl⟩
 refine yS<|tS (q2 rfl rfl)<|tS (pF rfl rfl)<|Tn ?_
 obtain rfl := o1 hm
 exact jJ ⟨rfl, rfl, lr⟩
 rintro be _ _ ⟨rfl, rfl, e⟩
 have hm := bn
 refine cB hm rfl (fun hm => ?_) fun hm => ?_
 refine Cr<|aS rfl<|Te<|Ct<|Xr ?_
 obtain rfl := o1 hm
 exact rO ⟨rfl, rfl⟩ e
 refine Ck<|Xn<|Cr<|tS (sF rfl fld25_1)<|tD (uS 0 rfl rfl siz23 rfl rfl (by simp)) ?_
 rintro _ _ rfl
 refine Te<|Cr<|tS (sD (vs := [_, _]) 0 2 rfl agg25 rfl rfl rfl) ?_
 obtain ⟨⟨A, x⟩, a5, hm⟩ := bS hm
 have hm := (unc2E hm)
 refine Tg _ rfl call11 rfl (cFishkeep2Turned _ _ (⟨s1.Trains, []⟩ : ApiDay) A2 c3 none 0 (h4.le e) FZ.nil A x a5) ?_
 rintro _ b9 _ f ⟨F, G, H, I, ai, rfl, rfl, K, ca, bH⟩
 refine t_in1 [] [_] ai R rfl<|tD (uA [sn, sn] zero25 rfl) ?_
 rintro _ _ ⟨bf, rfl, rfl⟩
 refine tD (uN (vs := [_, _]) 0 2 rfl rfl rfl siz25 rfl (mc rfl (mc rfl mn)) rfl (by simp)) ?_
 rintro _ _ rfl
 refine Te<|Cr<|tS (sD (vs := [_, _]) 1 2 rfl agg25 rfl rfl rfl)<|mV rfl<|mV rfl<|mV rfl<|mV rfl ?_
 obtain ⟨⟨aN, m⟩, a6, hm⟩ := bS hm
 have hm := (unc2E hm)
 refine Tg _ rfl call12 rfl (cGuideEarliest _ _ (hG.le (e.trans f)) (⟨s1.Trains, []⟩ : ApiDay) x8 aL x9 t A2 c3 none 0 (h4.le (e.trans f)) FZ.nil aN m a6) ?_
 rintro _ cb _ d ⟨aa, ab, k, rfl, rfl, ac, cc⟩
 refine t_in1 [] [_, _] k (ai ++ R) rfl<|mV rfl<|tS (st_extract rfl rfl)<|tS (st_extract rfl rfl)<|tD (uA [sn] zero33 rfl) ?_
 rintro _ _ ⟨cd, rfl, rfl⟩
 refine tD (uN (vs := [_]) 0 1 rfl rfl rfl siz33 rfl (mc rfl mn) rfl (by simp)) ?_
 rintro _ _ rfl
 refine aS rfl<|Te<|Cr<|tS (sD (vs := [_, _]) 1 2 rfl agg25 rfl rfl rfl)<|mV rfl<|mV rfl<|mV rfl ?_
 obtain ⟨_, aO, hm⟩ := bS hm
 have aO := (kS aO).2
 refine tS (sb rfl rfl aO)<|mV rfl<|t_front2 [_, _, _] k ai R rfl<|t_frz [_, _, _] ai (k ++ R) rfl ?_
 intro ce c bo
 have L := OS.frz (l := x) (bH.le d) c.cells bo
 obtain ⟨⟨bg, p⟩, a7, hm⟩ := bS hm
 have hm := (unc2E hm)
 refine Tg _ rfl call13 rfl (cGuideLatest _ _ (hG.le (e.trans (f.trans (d.trans c)))) (⟨x, A⟩ : ApiDay) x9 x8 (28800 - aL) t H I F G L (K.le (d.trans c)) bg p a7) ?_
 rintro _ bI _ a ⟨ao, aq, g, rfl, rfl, ar, cf⟩
 refine t_in1 [] [_, _, _] g (k ++ R) rfl<|mV rfl<|tS (st_extract rfl rfl)<|tS (st_extract rfl rfl)<|tD (uA [sn] zero33 rfl) ?_
 rintro _ _ ⟨cg, rfl, rfl⟩
 refine tD (uN (vs := [_]) 0 1 rfl rfl rfl siz33 rfl (mc rfl mn) rfl (by simp)) ?_
 rintro _ _ rfl
 refine aS rfl<|Te<|Cs ?_
 obtain ⟨bJ, bp, bq⟩ := bS hm
 refine Cj (fun bh e' hp' => [(1, iv x8), (2, iv x9), (4, iv t), (5, pb aE), (11, pb bf), (96, bv bJ)] = e' ∧ (aE, Cl 25 [sv A2 s1.Trains c3, sn]) :: (bf, Cl 25 [sv H x I, sv F A G]) :: R = hp' ∧ bI.Le bh) ?_ ?_
 have hm := bp
 by_cases q : aN ≠ bg
 rw [if_pos q] at hm
 refine Di mixed (.refl _)<|E0 0 rfl (sM rfl)<|E0 1 rfl (sM rfl)<|E0 2 rfl (st_neq_t rfl rfl q)<|E0 3 rfl (sM rfl)<|eN 4 rfl<|eN 5 rfl<|eN 6 rfl<|eN 7 rfl<|eN 8 rfl ?_
 refine eN 9 rfl<|eN 10 rfl<|eN 11 rfl<|eN 12 rfl<|eN 13 rfl<|eN 14 rfl<|eN 15 rfl<|eN 16 rfl<|eN 17 rfl<|eN 18 rfl ?_
 refine eN 19 rfl<|eN 20 rfl<|eN 21 rfl<|eN 22 rfl<|eN 23 rfl<|eN 24 rfl<|eN 25 rfl<|eN 26 rfl<|eN 27 rfl<|eN 28 rfl ?_
 refine eN 29 rfl<|eN 30 rfl<|eN 31 rfl<|eN 32 rfl<|eN 33 rfl<|eN 34 rfl<|eN 35 rfl<|eN 36 rfl<|eN 37 rfl<|eN 38 rfl ?_
 refine E0 39 rfl (pT rfl rfl)<|Eo<|Dd (by kernel_rfl) ?_
 obtain rfl := o1 hm
 exact jJ ⟨rfl, rfl, lr⟩
 rw [if_neg q] at hm
 by_cases y : aN = 0
 rw [if_pos y] at hm
 obtain ⟨au, J, hm⟩ := bS hm
 by_cases E : au ≠ 0
 rw [if_pos E] at hm
 refine Di mixed (.refl _)<|E0 0 rfl (sM rfl)<|E0 1 rfl (sM rfl)<|E0 2 rfl (st_neq_f rfl rfl q)<|E0 3 rfl (sM rfl)<|Yz 4 60 rfl (sM rfl)<|Yz 5 60 rfl (eT rfl rfl y)<|Yz 6 60 rfl (sM rfl)<|Ey 7 63 rfl (sD (vs := [_, _]) 3 2 rfl agg25 rfl rfl rfl)<|Ey 8 63 rfl (sD (vs := [_]) 1 1 rfl agg33 rfl rfl rfl) ?_
 refine Yz 9 63 rfl (sM rfl)<|Eo<|Da [10] (by kernel_rfl) rfl ?_
 refine R_doY lr rfl rfl 63 rfl rfl rfl (uW _ call14 rfl (fun w ho => cFishref2JourneyFault _ [] (⟨s1.Trains, []⟩ : ApiDay) (⟨m⟩ : GuideJourney) t true A2 c3 none 0 aa ab ((h4.le (e.trans (f.trans (d.trans (c.trans a))))).old ho) FZ.nil (OS.now (o := (OT.fr rGuideRide)) (l := m) (hs := k) (ac.le (c.trans a)) ho (.cons _ (.cons _ (.cons _ (.cons _ (ss g (List.sublist_append_left _ _))))))) au J) (fun _ _ _ h => h.2.symm)) ?_ ?_
 rintro _ _ ⟨⟨_, rfl, _⟩, rfl⟩
 refine iR<|Ei lr (.refl _)<|Yz 11 63 rfl (st_neq_t rfl rfl E)<|Yz 12 63 rfl (sM rfl)<|eN 13 rfl<|eN 14 rfl<|eN 15 rfl<|eN 16 rfl<|eN 17 rfl<|Yz 18 63 rfl (pT rfl rfl) ?_
 refine Yz 19 63 rfl (sM rfl)<|eN 20 rfl<|eN 21 rfl<|eN 22 rfl<|eN 23 rfl<|eN 24 rfl<|eN 25 rfl<|eN 26 rfl<|eN 27 rfl<|Yz 28 63 rfl (pT rfl rfl) ?_
 refine Yz 29 63 rfl (sM rfl)<|eN 30 rfl<|eN 31 rfl<|eN 32 rfl<|eN 33 rfl<|eN 34 rfl<|eN 35 rfl<|eN 36 rfl<|Yz 37 63 rfl (pT rfl rfl)<|Yz 38 60 rfl (pT rfl rfl) ?_
 refine E0 39 rfl (pF rfl rfl)<|Eo<|Dd (by kernel_rfl) ?_
 obtain rfl := o1 hm
 exact jJ ⟨rfl, rfl, lr⟩
 exact Rn
 rw [if_neg E] at hm
 obtain ⟨aF, aj, hm⟩ := bS hm
 by_cases O : aF ≠ 0
 rw [if_pos O] at hm
 refine Di mixed (.refl _)<|E0 0 rfl (sM rfl)<|E0 1 rfl (sM rfl)<|E0 2 rfl (st_neq_f rfl rfl q)<|E0 3 rfl (sM rfl)<|Yz 4 60 rfl (sM rfl)<|Yz 5 60 rfl (eT rfl rfl y)<|Yz 6 60 rfl (sM rfl)<|Ey 7 63 rfl (sD (vs := [_, _]) 3 2 rfl agg25 rfl rfl rfl)<|Ey 8 63 rfl (sD (vs := [_]) 1 1 rfl agg33 rfl rfl rfl) ?_
 refine Yz 9 63 rfl (sM rfl)<|Eo<|Da [10] (by kernel_rfl) rfl ?_
 refine R_doY lr rfl rfl 63 rfl rfl rfl (uW _ call14 rfl (fun w ho => cFishref2JourneyFault _ [] (⟨s1.Trains, []⟩ : ApiDay) (⟨m⟩ : GuideJourney) t true A2 c3 none 0 aa ab ((h4.le (e.trans (f.trans (d.trans (c.trans a))))).old ho) FZ.nil (OS.now (o := (OT.fr rGuideRide)) (l := m) (hs := k) (ac.le (c.trans a)) ho (.cons _ (.cons _ (.cons _ (.cons _ (ss g (List.sublist_append_left _ _))))))) au J) (fun _ _ _ h => h.2.symm)) ?_ ?_
 rintro _ _ ⟨⟨_, rfl, _⟩, rfl⟩
 refine iR<|Ei lr (.refl _)<|Yz 11 63 rfl (st_neq_f rfl rfl E)<|Yz 12 63 rfl (sM rfl)<|Ey 13 69 rfl (sD (vs := [_, _]) 2 2 rfl agg25 rfl rfl rfl)<|Ey 14 69 rfl (sD (vs := [_]) 0 1 rfl agg33 rfl rfl rfl)<|Yz 15 69 rfl (sM rfl)<|Eo<|Da [16] (by kernel_rfl) rfl ?_
 refine R_doY lr rfl rfl 69 rfl rfl rfl (uW _ call14 rfl (fun w ho => cFishref2JourneyFault _ [] (⟨x, A⟩ : ApiDay) (⟨p⟩ : GuideJourney) t true H I F G ao aq ((L.le a).old ho) ((K.le (d.trans (c.trans a))).old ho) (OS.now (o := (OT.fr rGuideRide)) (l := p) (hs := g) ar ho (.cons _ (.cons _ (.cons _ (.cons _ (List.sublist_append_left _ _)))))) aF aj) (fun _ _ _ h => h.2.symm)) ?_ ?_
 rintro _ _ ⟨⟨_, rfl, _⟩, rfl⟩
 refine iR<|Ei lr (.refl _)<|Yz 17 69 rfl (st_neq_t rfl rfl O)<|Yz 18 63 rfl (pF rfl rfl)<|Yz 19 63 rfl (sM rfl)<|eN 20 rfl<|eN 21 rfl<|eN 22 rfl<|eN 23 rfl<|eN 24 rfl ?_
 refine eN 25 rfl<|eN 26 rfl<|eN 27 rfl<|Yz 28 63 rfl (pT rfl rfl)<|Yz 29 63 rfl (sM rfl)<|eN 30 rfl<|eN 31 rfl<|eN 32 rfl<|eN 33 rfl<|eN 34 rfl ?_
 refine eN 35 rfl<|eN 36 rfl<|Yz 37 63 rfl (pT rfl rfl)<|Yz 38 60 rfl (pT rfl rfl)<|E0 39 rfl (pF rfl rfl)<|Eo<|Dd (by kernel_rfl) ?_
 obtain rfl := o1 hm
 exact jJ ⟨rfl, rfl, lr⟩
 exact Rn
 exact Rn
 rw [if_neg O] at hm
 obtain ⟨aP, aG, hm⟩ := bS hm
 obtain ⟨aQ, aH, hm⟩ := bS hm
 obtain ⟨_, ad, hm⟩ := bS hm
 by_cases ak : aP ≠ (28800 - aQ)
 rw [if_pos ak] at hm
 refine Di mixed (.refl _)<|E0 0 rfl (sM rfl)<|E0 1 rfl (sM rfl)<|E0 2 rfl (st_neq_f rfl rfl q)<|E0 3 rfl (sM rfl)<|Yz 4 60 rfl (sM rfl)<|Yz 5 60 rfl (eT rfl rfl y)<|Yz 6 60 rfl (sM rfl)<|Ey 7 63 rfl (sD (vs := [_, _]) 3 2 rfl agg25 rfl rfl rfl)<|Ey 8 63 rfl (sD (vs := [_]) 1 1 rfl agg33 rfl rfl rfl) ?_
 refine Yz 9 63 rfl (sM rfl)<|Eo<|Da [10] (by kernel_rfl) rfl ?_
 refine R_doY lr rfl rfl 63 rfl rfl rfl (uW _ call14 rfl (fun w ho => cFishref2JourneyFault _ [] (⟨s1.Trains, []⟩ : ApiDay) (⟨m⟩ : GuideJourney) t true A2 c3 none 0 aa ab ((h4.le (e.trans (f.trans (d.trans (c.trans a))))).old ho) FZ.nil (OS.now (o := (OT.fr rGuideRide)) (l := m) (hs := k) (ac.le (c.trans a)) ho (.cons _ (.cons _ (.cons _ (.cons _ (ss g (List.sublist_append_left _ _))))))) au J) (fun _ _ _ h => h.2.symm)) ?_ ?_
 rintro _ _ ⟨⟨_, rfl, _⟩, rfl⟩
 refine iR<|Ei lr (.refl _)<|Yz 11 63 rfl (st_neq_f rfl rfl E)<|Yz 12 63 rfl (sM rfl)<|Ey 13 69 rfl (sD (vs := [_, _]) 2 2 rfl agg25 rfl rfl rfl)<|Ey 14 69 rfl (sD (vs := [_]) 0 1 rfl agg33 rfl rfl rfl)<|Yz 15 69 rfl (sM rfl)<|Eo<|Da [16] (by kernel_rfl) rfl ?_
 refine R_doY lr rfl rfl 69 rfl rfl rfl (uW _ call14 rfl (fun w ho => cFishref2JourneyFault _ [] (⟨x, A⟩ : ApiDay) (⟨p⟩ : GuideJourney) t true H I F G ao aq ((L.le a).old ho) ((K.le (d.trans (c.trans a))).old ho) (OS.now (o := (OT.fr rGuideRide)) (l := p) (hs := g) ar ho (.cons _ (.cons _ (.cons _ (.cons _ (List.sublist_append_left _ _)))))) aF aj) (fun _ _ _ h => h.2.symm)) ?_ ?_
 rintro _ _ ⟨⟨_, rfl, _⟩, rfl⟩
 refine iR<|Ei lr (.refl _)<|Yz 17 69 rfl (st_neq_f rfl rfl O)<|Yz 18 63 rfl (pF rfl rfl)<|Yz 19 63 rfl (sM rfl)<|Ey 20 76 rfl (sD (vs := [_, _]) 3 2 rfl agg25 rfl rfl rfl)<|Ey 21 76 rfl (sD (vs := [_]) 1 1 rfl agg33 rfl rfl rfl)<|Ey 23 76 rfl (sD (vs := [_, _]) 2 2 rfl agg25 rfl rfl rfl)<|Ey 24 76 rfl (sD (vs := [_]) 0 1 rfl agg33 rfl rfl rfl)<|Eo ?_
 refine Da [22] (by kernel_rfl) rfl ?_
 refine R_doY lr rfl rfl 76 rfl rfl rfl (uW _ call15 rfl (fun w ho => cFishref2Arrives _ [] (⟨s1.Trains, []⟩ : ApiDay) (⟨m⟩ : GuideJourney) A2 c3 none 0 aa ab ((h4.le (e.trans (f.trans (d.trans (c.trans a))))).old ho) FZ.nil (OS.now (o := (OT.fr rGuideRide)) (l := m) (hs := k) (ac.le (c.trans a)) ho (.cons _ (.cons _ (.cons _ (.cons _ (ss g (List.sublist_append_left _ _))))))) aP aG) (fun _ _ _ h => h.2.symm)) ?_ ?_
 rintro _ _ ⟨⟨_, rfl, _⟩, rfl⟩
 refine iR<|Da [25] (by kernel_rfl) rfl ?_
 refine R_doY lr rfl rfl 76 rfl rfl rfl (uW _ call16 rfl (fun w ho => cFishref2Leaves _ [] (⟨x, A⟩ : ApiDay) (⟨p⟩ : GuideJourney) H I F G ao aq ((L.le a).old ho) ((K.le (d.trans (c.trans a))).old ho) (OS.now (o := (OT.fr rGuideRide)) (l := p) (hs := g) ar ho (.cons _ (.cons _ (.cons _ (.cons _ (List.sublist_append_left _ _)))))) aQ aH) (fun _ _ _ h => h.2.symm)) ?_ ?_
 rintro _ _ ⟨⟨_, rfl, _⟩, rfl⟩
 refine iR ?_
 have ad := (kS ad).2
 refine Ei lr (.refl _)<|Yz 26 76 rfl (sb rfl rfl ad)<|Yz 27 76 rfl (st_neq_t rfl rfl ak)<|Yz 28 63 rfl (pF rfl rfl)<|Yz 29 63 rfl (sM rfl)<|eN 30 rfl<|eN 31 rfl<|eN 32 rfl<|eN 33 rfl<|eN 34 rfl ?_
 refine eN 35 rfl<|eN 36 rfl<|Yz 37 63 rfl (pT rfl rfl)<|Yz 38 60 rfl (pT rfl rfl)<|E0 39 rfl (pF rfl rfl)<|Eo<|Dd (by kernel_rfl) ?_
 obtain rfl := o1 hm
 exact jJ ⟨rfl, rfl, lr⟩
 exact Rn
 exact Rn
 exact Rn
 exact Rn
 rw [if_neg ak] at hm
 refine Di mixed (.refl _)<|E0 0 rfl (sM rfl)<|E0 1 rfl (sM rfl)<|E0 2 rfl (st_neq_f rfl rfl q)<|E0 3 rfl (sM rfl)<|Yz 4 60 rfl (sM rfl)<|Yz 5 60 rfl (eT rfl rfl y)<|Yz 6 60 rfl (sM rfl)<|Ey 7 63 rfl (sD (vs := [_, _]) 3 2 rfl agg25 rfl rfl rfl)<|Ey 8 63 rfl (sD (vs := [_]) 1 1 rfl agg33 rfl rfl rfl) ?_
 refine Yz 9 63 rfl (sM rfl)<|Eo<|Da [10] (by kernel_rfl) rfl ?_
 refine R_doY lr rfl rfl 63 rfl rfl rfl (uW _ call14 rfl (fun w ho => cFishref2JourneyFault _ [] (⟨s1.Trains, []⟩ : ApiDay) (⟨m⟩ : GuideJourney) t true A2 c3 none 0 aa ab ((h4.le (e.trans (f.trans (d.trans (c.trans a))))).old ho) FZ.nil (OS.now (o := (OT.fr rGuideRide)) (l := m) (hs := k) (ac.le (c.trans a)) ho (.cons _ (.cons _ (.cons _ (.cons _ (ss g (List.sublist_append_left _ _))))))) au J) (fun _ _ _ h => h.2.symm)) ?_ ?_
 rintro _ _ ⟨⟨_, rfl, _⟩, rfl⟩
 refine iR<|Ei lr (.refl _)<|Yz 11 63 rfl (st_neq_f rfl rfl E)<|Yz 12 63 rfl (sM rfl)<|Ey 13 69 rfl (sD (vs := [_, _]) 2 2 rfl agg25 rfl rfl rfl)<|Ey 14 69 rfl (sD (vs := [_]) 0 1 rfl agg33 rfl rfl rfl)<|Yz 15 69 rfl (sM rfl)<|Eo<|Da [16] (by kernel_rfl) rfl ?_
 refine R_doY lr rfl rfl 69 rfl rfl rfl (uW _ call14 rfl (fun w ho => cFishref2JourneyFault _ [] (⟨x, A⟩ : ApiDay) (⟨p⟩ : GuideJourney) t true H I F G ao aq ((L.le a).old ho) ((K.le (d.trans (c.trans a))).old ho) (OS.now (o := (OT.fr rGuideRide)) (l := p) (hs := g) ar ho (.cons _ (.cons _ (.cons _ (.cons _ (List.sublist_append_left _ _)))))) aF aj) (fun _ _ _ h => h.2.symm)) ?_ ?_
 rintro _ _ ⟨⟨_, rfl, _⟩, rfl⟩
 refine iR<|Ei lr (.refl _)<|Yz 17 69 rfl (st_neq_f rfl rfl O)<|Yz 18 63 rfl (pF rfl rfl)<|Yz 19 63 rfl (sM rfl)<|Ey 20 76 rfl (sD (vs := [_, _]) 3 2 rfl agg25 rfl rfl rfl)<|Ey 21 76 rfl (sD (vs := [_]) 1 1 rfl agg33 rfl rfl rfl)<|Ey 23 76 rfl (sD (vs := [_, _]) 2 2 rfl agg25 rfl rfl rfl)<|Ey 24 76 rfl (sD (vs := [_]) 0 1 rfl agg33 rfl rfl rfl)<|Eo ?_
 refine Da [22] (by kernel_rfl) rfl ?_
 refine R_doY lr rfl rfl 76 rfl rfl rfl (uW _ call15 rfl (fun w ho => cFishref2Arrives _ [] (⟨s1.Trains, []⟩ : ApiDay) (⟨m⟩ : GuideJourney) A2 c3 none 0 aa ab ((h4.le (e.trans (f.trans (d.trans (c.trans a))))).old ho) FZ.nil (OS.now (o := (OT.fr rGuideRide)) (l := m) (hs := k) (ac.le (c.trans a)) ho (.cons _ (.cons _ (.cons _ (.cons _ (ss g (List.sublist_append_left _ _))))))) aP aG) (fun _ _ _ h => h.2.symm)) ?_ ?_
 rintro _ _ ⟨⟨_, rfl, _⟩, rfl⟩
 refine iR<|Da [25] (by kernel_rfl) rfl ?_
 refine R_doY lr rfl rfl 76 rfl rfl rfl (uW _ call16 rfl (fun w ho => cFishref2Leaves _ [] (⟨x, A⟩ : ApiDay) (⟨p⟩ : GuideJourney) H I F G ao aq ((L.le a).old ho) ((K.le (d.trans (c.trans a))).old ho) (OS.now (o := (OT.fr rGuideRide)) (l := p) (hs := g) ar ho (.cons _ (.cons _ (.cons _ (.cons _ (List.sublist_append_left _ _)))))) aQ aH) (fun _ _ _ h => h.2.symm)) ?_ ?_
 rintro _ _ ⟨⟨_, rfl, _⟩, rfl⟩
 refine iR ?_
 have ad := (kS ad).2
 refine Ei lr (.refl _)<|Yz 26 76 rfl (sb rfl rfl ad)<|Yz 27 76 rfl (st_neq_f rfl rfl ak)<|Yz 28 63 rfl (pF rfl rfl)<|Yz 29 63 rfl (sM rfl)<|Yz 30 86 rfl (sF rfl fld33_0)<|Ey 31 86 rfl (sL 1 rfl one31 rfl rfl)<|Yz 32 86 rfl (sE rfl sl31)<|Yz 33 86 rfl (sF rfl fld33_0)<|Ey 34 86 rfl (sL 0 rfl one31 rfl rfl) ?_
 refine Yz 35 86 rfl (sE rfl sl31)<|Yz 36 86 rfl (q2 rfl rfl)<|Yz 37 63 rfl (pF rfl rfl)<|Yz 38 60 rfl (pT rfl rfl)<|E0 39 rfl (pF rfl rfl)<|Eo<|Dd (by kernel_rfl) ?_
 obtain rfl := o1 hm
 exact jJ ⟨rfl, rfl, lr⟩
 exact Rn
 exact Rn
 exact Rn
 exact Rn
 rw [if_neg y] at hm
 refine Di mixed (.refl _)<|E0 0 rfl (sM rfl)<|E0 1 rfl (sM rfl)<|E0 2 rfl (st_neq_f rfl rfl q)<|E0 3 rfl (sM rfl)<|Yz 4 60 rfl (sM rfl)<|Yz 5 60 rfl (eF rfl rfl y)<|Yz 6 60 rfl (sM rfl)<|eN 7 rfl<|eN 8 rfl ?_
 refine eN 9 rfl<|eN 10 rfl<|eN 11 rfl<|eN 12 rfl<|eN 13 rfl<|eN 14 rfl<|eN 15 rfl<|eN 16 rfl<|eN 17 rfl<|eN 18 rfl ?_
 refine eN 19 rfl<|eN 20 rfl<|eN 21 rfl<|eN 22 rfl<|eN 23 rfl<|eN 24 rfl<|eN 25 rfl<|eN 26 rfl<|eN 27 rfl<|eN 28 rfl ?_
 refine eN 29 rfl<|eN 30 rfl<|eN 31 rfl<|eN 32 rfl<|eN 33 rfl<|eN 34 rfl<|eN 35 rfl<|eN 36 rfl<|eN 37 rfl<|Yz 38 60 rfl (pF rfl rfl) ?_
 refine E0 39 rfl (pF rfl rfl)<|Eo<|Dd (by kernel_rfl) ?_
 obtain rfl := o1 hm
 exact jJ ⟨rfl, rfl, lr⟩
 rintro bh _ _ ⟨rfl, rfl, i⟩
 have hm := bq
 refine cB hm rfl (fun hm => ?_) fun hm => ?_
 refine Cr<|aS rfl<|Te<|Ct<|Xr ?_
 obtain rfl := o1 hm
 exact rO ⟨rfl, rfl⟩ (e.trans (f.trans (d.trans (c.trans (a.trans i)))))
 refine Ck<|Xn<|Cr<|tS (sD (vs := [_, _]) 0 2 rfl agg25 rfl rfl rfl)<|mV rfl<|mV rfl<|mV rfl ?_
 obtain ⟨⟨bK, bL⟩, a8, hm⟩ := bS hm
 have hm := (unc2E hm)
 refine Tg _ rfl call17 rfl (cGuideProfile _ _ (hG.le (e.trans (f.trans (d.trans (c.trans (a.trans i)))))) (⟨s1.Trains, []⟩ : ApiDay) x8 x9 t A2 c3 none 0 (h4.le (e.trans (f.trans (d.trans (c.trans (a.trans i)))))) FZ.nil bK bL a8) ?_
 rintro _ ch _ r ⟨S, T, U, rfl, rfl, aR⟩
 refine t_in1 [] [_, _] U R rfl<|mV rfl<|tS (st_extract rfl rfl)<|tS (st_extract rfl rfl)<|aS rfl<|aS rfl<|Te<|Cr<|tS (sD (vs := [_, _]) 1 2 rfl agg25 rfl rfl rfl)<|mV rfl ?_
 refine mV rfl<|mV rfl ?_
 obtain ⟨⟨bM, bN⟩, a9, hm⟩ := bS hm
 have hm := (unc2E hm)
 refine Tg _ rfl call17 rfl (cGuideProfile _ _ (hG.le (e.trans (f.trans (d.trans (c.trans (a.trans (i.trans r))))))) (⟨x, A⟩ : ApiDay) x9 x8 t H I F G (L.le (a.trans (i.trans r))) (K.le (d.trans (c.trans (a.trans (i.trans r))))) bM bN a9) ?_
 rintro _ bO _ s ⟨V, W, al, rfl, rfl, aT⟩
 refine t_in1 [] [_, _] al (U ++ R) rfl<|mV rfl<|tS (st_extract rfl rfl)<|tS (st_extract rfl rfl)<|aS rfl<|aS rfl<|Te<|Cs ?_
 obtain ⟨⟨bP, aU, aV⟩, br, bs⟩ := bS hm
 refine Cj (fun av e' hp' => ∃ ae af X aI aJ Y, [(16, sv ae aU af), (17, sv aI aV aJ), (125, bv bP)] = e' ∧ (X ++ (Y ++ R)) = hp' ∧ bO.Le av ∧ OSP 42 (OT.fr rGuidePoint) av.w (sv ae aU af) aU X ∧ OSP 42 (OT.fr rGuidePoint) av.w (sv aI aV aJ) aV Y) ?_ ?_
 have hm := br
 refine Cg<|mV rfl ?_
 refine Tb rfl (q2 rfl rfl) (fun aA => ?_) (fun aA => ?_)
 rw [if_pos aA] at hm
 refine mV rfl<|nO<|nO<|tS (pT rfl rfl)<|mV rfl<|nO<|nO<|nO<|nO<|nO ?_
 refine tS (pT rfl rfl)<|Tn ?_
 obtain ⟨rfl, rfl, rfl⟩ := some3 hm
 exact jJ ⟨S, T, U, V, W, al, rfl, rfl, lr, (aR.le s), aT⟩
 rw [if_neg aA] at hm
 refine mV rfl<|yS<|mV rfl<|yS ?_
 refine Tb rfl (q2 rfl rfl) (fun aB => ?_) (fun aB => ?_)
 rw [if_pos aB] at hm
 refine tS (pF rfl rfl)<|mV rfl<|nO<|nO<|nO<|nO<|nO<|tS (pT rfl rfl)<|Tn ?_
 obtain ⟨rfl, rfl, rfl⟩ := some3 hm
 exact jJ ⟨S, T, U, V, W, al, rfl, rfl, lr, (aR.le s), aT⟩
 rw [if_neg aB] at hm
 refine tS (pF rfl rfl)<|mV rfl<|yS<|mV rfl<|yS ?_
 obtain ⟨aw, hp470, aC, bQ⟩ := OSP.ex (aR.le s)
 have hm := ordM_some hm aw hp470
 refine Tr 16 rfl (v' := sv S aw T) (by show Value.slice _ _ _ = Value.slice _ _ _; rw [aC])<|Tr 103 rfl (v' := sv S aw T) (by show Value.slice _ _ _ = Value.slice _ _ _; rw [aC])<|Tr 120 rfl (v' := sv S aw T) (by show Value.slice _ _ _ = Value.slice _ _ _; rw [aC])<|tS (sE rfl sl38)<|yS<|mV rfl<|yS ?_
 obtain ⟨ax, hp474, aD, bR⟩ := OSP.ex aT
 have hm := ordM_some hm ax hp474
 refine Tr 17 rfl (v' := sv V ax W) (by show Value.slice _ _ _ = Value.slice _ _ _; rw [aD])<|Tr 111 rfl (v' := sv V ax W) (by show Value.slice _ _ _ = Value.slice _ _ _; rw [aD])<|Tr 122 rfl (v' := sv V ax W) (by show Value.slice _ _ _ = Value.slice _ _ _; rw [aD])<|tS (sE rfl sl38)<|yS<|tS (q2 rfl rfl)<|tS (pF rfl rfl)<|Tn ?_
 have bT := OSP.canon kGuidePoint bQ
 refine x_resp 16 rfl (v' := .slice S (canB kGuidePoint aw).length T) (by rw [canB_length]) ?_
 have bU := OSP.canon kGuidePoint bR
 refine x_resp 17 rfl (v' := .slice V (canB kGuidePoint ax).length W) (by rw [canB_length]) ?_
 obtain ⟨rfl, rfl, rfl⟩ := some3 hm
 exact jJ ⟨S, T, U, V, W, al, rfl, rfl, lr, bT, bU⟩
 rintro av _ _ ⟨ae, af, X, aI, aJ, Y, rfl, rfl, am, bV, bW⟩
 have hm := (unc3E bs)
 refine cB hm rfl (fun hm => ?_) fun hm => ?_
 refine Cr<|aS rfl<|Te<|Ct<|Xr ?_
 obtain rfl := o1 hm
 exact rO ⟨rfl, rfl⟩ (e.trans (f.trans (d.trans (c.trans (a.trans (i.trans (r.trans (s.trans am))))))))
 refine Ck<|Xn<|Cs<|Cr<|mV rfl ?_
 obtain ⟨ag, hp481, aW, bi⟩ := OSP.ex bV
 have hm := ordM_some hm ag hp481
 refine Tr 16 rfl (v' := sv ae ag af) (by show Value.slice _ _ _ = Value.slice _ _ _; rw [aW])<|Tr 126 rfl (v' := sv ae ag af) (by show Value.slice _ _ _ = Value.slice _ _ _; rw [aW])<|tS (sE rfl sl38)<|mV rfl<|Te<|Cb ?_
 have b3 : ag.length ≤ 9223372036854775807 := (OS.len bi)
 refine c_front2 [] X Y R rfl ?_
 obtain ⟨ci, bt, an⟩ := bS hm
 refine lF (fun bj => fun ay => fun aK e' hp' => ∃ B C z, [(17, sv B ay C), (126, sv ae ag af), (127, iv ((ag.length : Int))), (128, iv ((bj : Int)))] = e' ∧ (z ++ (X ++ R)) = hp' ∧ av.Le aK ∧ OSP 42 (OT.fr rGuidePoint) aK.w (sv B ay C) ay z) bt ⟨aI, aJ, Y, rfl, rfl, lr, bW⟩ ?_ ?_
 rintro bj ay aK _ _ b4 bX ⟨B, C, z, rfl, rfl, D, bk⟩ Z aM
 unfold mFishkeep2GuideTurned_L484 at Z
 have hm := Z
 refine Cr<|tS (lT rfl rfl (by omega))<|Te<|Cs<|c_cond_t rfl<|Ck<|Xn<|Cs<|Cb<|Cr ?_
 obtain ⟨n, bY, hm⟩ := bS hm
 obtain ⟨bZ, bu, bw⟩ := iS bY
 obtain ⟨b5, b6, cj, ck, b7, bx, ba, aX, bb, b8, b2⟩ := OS.get (sz := 3) rfl (by decide) (bi.le D) bw
 obtain ⟨⟨_, _, rfl, rfl, ⟨_, _, rfl, rfl, rfl⟩⟩, rfl⟩ := bx
 refine tS (sI bZ rfl rfl bu bb aX sl38)<|tS (st_loadN_rd (vs := [iv n.Dep, iv n.Arr, iv n.Rides]) 3 rfl agg42 aX rfl (fun w ho j u hu => ba w _ ho (ss z (List.sublist_append_left _ _)) j u hu))<|tD (uA [iv 0, iv 0, iv 0] zero42 rfl) ?_
 rintro _ _ ⟨cl, rfl, rfl⟩
 refine tD (uN (vs := [_, _, _]) 0 3 rfl rfl rfl siz42 rfl (mc rfl (mc rfl (mc rfl mn))) rfl (by simp)) ?_
 rintro _ _ rfl
 refine Te<|Cr<|mV rfl<|tS (sF rfl fld42_1)<|tS (sL 0 rfl one3 rfl rfl) ?_
 obtain ⟨_, aY, hm⟩ := bS hm
 have aY := (kS aY).2
 refine tS (sb rfl rfl aY)<|tS (sF rfl fld42_0)<|tS (sL 0 rfl one3 rfl rfl) ?_
 obtain ⟨_, aZ, hm⟩ := bS hm
 have aZ := (kS aZ).2
 refine tS (sb rfl rfl aZ)<|tS (sF rfl fld42_2)<|tS (sL 0 rfl one3 rfl rfl)<|tS (sB (v := .agg #[iv (28800 - n.Arr), iv (28800 - n.Dep), iv n.Rides]) [(0, iv (28800 - n.Arr)), (1, iv (28800 - n.Dep)), (2, iv n.Rides)] rfl (fun _ => by kernel_rfl)) ?_
 obtain ⟨ah, hp576, a0, bl⟩ := OSP.ex bk
 have hm := ordM_some hm ah hp576
 refine Tr 17 rfl (v' := sv B ah C) (by show Value.slice _ _ _ = Value.slice _ _ _; rw [a0])<|Tr 132 rfl (v' := sv B ah C) (by show Value.slice _ _ _ = Value.slice _ _ _; rw [a0]) ?_
 obtain ⟨b0, bc, hm⟩ := bS hm
 refine tD (uW _ call18 rfl (fun w ho => cSlicesContains _ [] ah (⟨28800 - n.Arr, 28800 - n.Dep, n.Rides⟩ : GuidePoint) B C (OS.now (o := (OT.fr rGuidePoint)) (l := ah) (hs := z) bl ho (.cons _ (List.sublist_append_left _ _))) b0 bc) (fun _ _ _ h => h.2.symm)) ?_
 rintro _ _ ⟨⟨_, rfl, _⟩, rfl⟩
 refine tS (sn2 rfl)<|Te ?_
 refine cM hm rfl (fun hm => ?_) fun hm => ?_
 refine Cr<|aS rfl<|Te<|Ct<|Xb<|Xr<|Xr<|Xb<|Xr ?_
 have bz := aM _ (Option.some.inj hm).symm
 rw [bz] at an
 have hm := elimR an
 obtain rfl := o1 hm
 exact rO ⟨rfl, rfl⟩ (e.trans (f.trans (d.trans (c.trans (a.trans (i.trans (r.trans (s.trans (am.trans D)))))))))
 refine Ck<|Xm<|Xn<|Cg<|tS (sa rfl rfl (by omega))<|mV rfl<|Tn ?_
 have b1 := OSP.canon kGuidePoint bl
 refine x_resp 17 rfl (v' := .slice B (canB kGuidePoint ah).length C) (by rw [canB_length]) ?_
 exact jM hm ⟨B, C, z, rfl, rfl, (D), b1⟩
 rintro ay aK _ _ ⟨B, C, z, rfl, rfl, D, bk⟩ bA
 rw [bA] at an
 have hm := elimL an
 refine Cr<|tS (lF rfl rfl (by omega))<|Te<|Cs<|c_cond_f rfl<|Ce<|Xe<|Xe<|Xo<|Xn ?_
 refine Cr<|aS rfl<|Te<|Ct ?_
 obtain rfl := o1 hm
 exact rO ⟨rfl, rfl⟩ (e.trans (f.trans (d.trans (c.trans (a.trans (i.trans (r.trans (s.trans (am.trans D)))))))))

end Go.Proofs.YtckgfeglhjiflaaDoor
