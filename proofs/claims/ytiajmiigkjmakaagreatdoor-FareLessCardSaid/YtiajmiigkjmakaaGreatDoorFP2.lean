/- Contracts: the code computes its model (part 2). -/
import Derived.Test.YtiajmiigkjmakaaGreatDoorFP1
set_option linter.unusedVariables false
set_option linter.unusedSimpArgs false
namespace Go.Proofs.YtiajmiigkjmakaaGreatDoor
open Go.RowKit Go.Fp

open Go.Fp renaming t_mv → M, t_as → As, t_st → Ts, t_do → Do, t_ne → Te, t_nil → Tn, t_no → No, t_yes → Ys, t_bool → Tb, t_callG → Tg, t_callvG → Tv, t_resp → Tr, c_sr → Cr, c_seq → Cs, c_region → Cg, c_cond → Cc, c_block → Cb, c_ret → Ct, c_skip → Ck, c_exit → Ce, c_join → Cj, c_pullb → Cp, x_then_normal → Xn, x_then_ret → Xr, x_then_exit → Xe, x_block_ret → Xb, x_block_normal → Xm, x_block_out → Xo, x_pullb → Xp, x_front2 → X2, x_front3 → X3, x_front4 → X4, E_st → Es, E_s0 → E0, E_yes → Ey, E_y0 → Yz, E_no → En, E_in → Ei, E_out → Eo, D_all → Da, D_done → Dd, D_drawI → Di, R_do → Rd2, R_nil → Rn, st_load → sL, st_loadD → sD, st_field → sF, st_len → sE, st_move → sM, st_assign → sA, st_pick_t → pT, st_pick_f → pF, st_index_old → sI, st_load_old → sO, st_loadN_old → sP, st_field_old → sQ, st_add → sa, st_sub → sb, st_lss_t → lT, st_lss_f → lF, st_not → sn2, st_build → sB, u_box → uB, u_alloc → uA, u_store → uS, u_storeN → uN, u_callW0 → uW, u_appOS → uQ, fn_enterG → fE, bindS → bS, some1 → o1, idx_some → iS, sub_skip → ss, sub_app → sp, chk_some → kS, notT → nt, notF → nf, d_front3 → d3, mem_c → mc, mem_n → mn, st_eql → q1, st_neq → q2, st_lss → q3, st_leq → q4, st_gtr → q5, st_geq → q6
set_option maxRecDepth 20000 in
theorem cFishref2TariffFault (b : Base) (R : Hp) (a : FareTariff) (f : OA) (g : Nat) (i : OA) (k : Nat) (t : FZ rFareBand b.w f g a.Bands) (h7 : FZ rFareRule b.w i k a.Rules) (x358 : Int) (hm : mFishref2TariffFault a = some x358) :
    CallsG Tryz.prog 10 [.agg #[bv a.ByKm, sv f a.Bands g, iv a.Round, sv i a.Rules k]] b (R) (fun v b' hp' => iv x358 = v ∧ R = hp') := by
 refine fE 95 Tryz.func10 rfl Tryz.ntmps10 rfl ?_
 unfold mFishref2TariffFault at hm
 refine Cr<|Do rfl (uB _ rfl rfl) ?_
 rintro _ _ ⟨l, rfl, rfl⟩
 refine As rfl rfl<|Te<|Cs ?_
 obtain ⟨x365, hj366, hk366⟩ := bS hm
 refine Cj (fun E e' hp' => [(1, pb l), (19, bv x365)] = e' ∧ (l, Cl 25 [bv a.ByKm, sv f a.Bands g, iv a.Round, sv i a.Rules k]) :: R = hp' ∧ b.Le E) ?_ ?_
 have hm := hj366
 refine Cg<|Ts rfl (sF rfl fld25_1)<|Ts rfl (sL 0 rfl one22 rfl rfl)<|Ts rfl (sE rfl sl22) ?_
 obtain ⟨x367, hcl368, hm⟩ := bS hm
 refine Do rfl (uW _ call12 rfl (fun w ho => cFishref2Within _ [] (a.Bands.length : Int) 1 8 x367 hcl368) (fun _ _ _ h => h.2.symm)) ?_
 rintro _ _ ⟨⟨_, rfl, _⟩, rfl⟩
 rcases Bool.eq_false_or_eq_true x367 with x | x
 rw [if_pos x] at hm
 refine Tr 12 rfl (v' := .bool true) (by rw [x] <;> rfl)<|Ts rfl (st_not_t rfl)<|M rfl rfl<|Ys 14 rfl rfl rfl<|Ts rfl (sF rfl fld25_3)<|Ys 14 rfl rfl rfl<|Ts rfl (sL 0 rfl one23 rfl rfl)<|Ys 14 rfl rfl rfl<|Ts rfl (sE rfl sl23)<|Ys 14 rfl rfl rfl ?_
 refine Ts rfl (q5 rfl rfl)<|Ts rfl (pF rfl rfl)<|Tn ?_
 obtain rfl := o1 hm
 exact xJ ⟨rfl, rfl, lr⟩ (.refl _)
 rw [if_neg (fun hh => Bool.noConfusion (hh.symm.trans x))] at hm
 refine Tr 12 rfl (v' := .bool false) (by rw [x] <;> rfl)<|Ts rfl (st_not_f rfl)<|M rfl rfl<|No 14 rfl rfl rfl rfl rfl<|No 14 rfl rfl rfl rfl rfl<|No 14 rfl rfl rfl rfl rfl<|No 14 rfl rfl rfl rfl rfl<|Ts rfl (pT rfl rfl)<|Tn ?_
 obtain rfl := o1 hm
 exact xJ ⟨rfl, rfl, lr⟩ (.refl _)
 rintro E _ _ ⟨rfl, rfl, d⟩
 have hm := hk366
 refine Cc _ rfl (fun F => ?_) (fun F => ?_)
 rw [if_pos F] at hm
 refine Cr<|As rfl rfl<|Te<|Ct<|Xr ?_
 obtain rfl := o1 hm
 exact rM (rs := [.tmp 2]) (vs := [iv 4]) ⟨rfl, trivial⟩ ⟨rfl, rfl⟩ (.cons _ (.refl _)) d
 rw [if_neg (fun hh => Bool.noConfusion (hh.symm.trans F))] at hm
 refine Ck<|Xn<|Cs<|Cr<|Ts rfl (sF rfl fld25_1)<|Ts rfl (sL 0 rfl one22 rfl rfl)<|Ts rfl (sE rfl sl22)<|M rfl rfl<|Te<|Cb ?_
 have hb372 : a.Bands.length ≤ 9223372036854775807 := (FZ.bd (t.le d))
 obtain ⟨t503, hl504, p⟩ := bS hm
 refine cF (fun q => fun _ => fun y e' hp' => [(1, pb l), (21, sv f a.Bands g), (22, iv ((a.Bands.length : Int))), (23, iv ((q : Int)))] = e' ∧ (l, Cl 25 [bv a.ByKm, sv f a.Bands g, iv a.Round, sv i a.Rules k]) :: R = hp' ∧ E.Le y) hl504 ⟨rfl, rfl, lr⟩ (.refl _) ?_ ?_
 rintro q _ y _ _ oL371 hknL371 ⟨rfl, rfl, e⟩ hstepL371 houtL371
 unfold mFishref2TariffFault_L371 at hstepL371
 have hm := hstepL371
 refine Cr<|Ts rfl (lT rfl rfl (by omega))<|Te<|Cs<|c_cond_t rfl<|Ck<|Xn<|Cs<|Cb<|Cr ?_
 refine M rfl rfl ?_
 obtain ⟨n, h507, hm⟩ := bS hm
 obtain ⟨j508, hj509, hx510⟩ := iS h507
 obtain ⟨cs511, hr512, hcs513, hA514, hlt515⟩ := FZ.get (sz := 2) rfl (by decide) (t.le (d.trans e)) hx510
 obtain ⟨_, _, rfl, rfl, rfl⟩ := hr512
 refine Ts rfl (sI j508 rfl rfl hj509 hlt515 hA514 sl22)<|Ts rfl (sP (vs := [iv n.Upto, iv n.Price]) 2 rfl agg45 hA514 rfl (fun j u hu => hcs513 j u hu))<|Do rfl (uA [iv 0, iv 0] zero45 rfl) ?_
 rintro _ _ ⟨g516, rfl, rfl⟩
 refine As rfl rfl<|Do rfl (uN (vs := [_, _]) 0 2 rfl rfl rfl siz45 rfl (mc rfl (mc rfl mn)) rfl (by simp)) ?_
 rintro _ _ rfl
 refine Te<|Cs ?_
 obtain ⟨x524, hj525, hk525⟩ := bS hm
 refine Cj (fun G e' hp' => [(1, pb l), (3, iv ((q : Int))), (4, pb g516), (21, sv f a.Bands g), (22, iv ((a.Bands.length : Int))), (23, iv ((q : Int))), (37, bv x524)] = e' ∧ (l, Cl 25 [bv a.ByKm, sv f a.Bands g, iv a.Round, sv i a.Rules k]) :: (g516, Cl 45 [iv n.Upto, iv n.Price]) :: R = hp' ∧ y.Le G) ?_ ?_
 have hm := hj525
 refine Cg<|Ts rfl (sF rfl fld45_0)<|Ts rfl (sL 0 rfl one3 rfl rfl) ?_
 obtain ⟨x526, hcl527, hm⟩ := bS hm
 refine Do rfl (uW _ call12 rfl (fun w ho => cFishref2Within _ [] n.Upto 1 1000 x526 hcl527) (fun _ _ _ h => h.2.symm)) ?_
 rintro _ _ ⟨⟨_, rfl, _⟩, rfl⟩
 rcases Bool.eq_false_or_eq_true x526 with z | z
 rw [if_pos z] at hm
 refine Tr 30 rfl (v' := .bool true) (by rw [z] <;> rfl)<|Ts rfl (st_not_t rfl)<|M rfl rfl<|Ys 32 rfl rfl rfl<|Ts rfl (sF rfl fld45_1)<|Ys 32 rfl rfl rfl<|Ts rfl (sL 0 rfl one3 rfl rfl)<|Ys 32 rfl rfl rfl ?_
 obtain ⟨x529, hcl530, hm⟩ := bS hm
 refine Do rfl (uW _ call12 rfl (fun w ho => cFishref2Within _ [] n.Price 0 100000 x529 hcl530) (fun _ _ _ h => h.2.symm)) ?_
 rintro _ _ ⟨⟨_, rfl, _⟩, rfl⟩
 refine Ys 32 rfl rfl rfl<|Ts rfl (sn2 rfl)<|Ts rfl (pF rfl rfl)<|Tn ?_
 obtain rfl := o1 hm
 refine Xp 1 rfl ?_
 exact xJ ⟨rfl, rfl, lr⟩ (.refl _)
 rw [if_neg (fun hh => Bool.noConfusion (hh.symm.trans z))] at hm
 refine Tr 30 rfl (v' := .bool false) (by rw [z] <;> rfl)<|Ts rfl (st_not_f rfl)<|M rfl rfl<|No 32 rfl rfl rfl rfl rfl<|No 32 rfl rfl rfl rfl rfl<|No 32 rfl rfl rfl rfl rfl<|No 32 rfl rfl rfl rfl rfl<|Ts rfl (pT rfl rfl)<|Tn ?_
 obtain rfl := o1 hm
 refine Xp 1 rfl ?_
 exact xJ ⟨rfl, rfl, lr⟩ (.refl _)
 rintro G _ _ ⟨rfl, rfl, r⟩
 have hm := hk525
 refine Cc _ rfl (fun H => ?_) (fun H => ?_)
 rw [if_pos H] at hm
 refine Cr<|As rfl rfl<|Te<|Ct<|Xr<|Xb<|Xr<|Xr<|Xb<|Xr ?_
 have hq532 := houtL371 _ (Option.some.inj hm).symm
 rw [hq532] at p
 have hm := elimR p
 obtain rfl := o1 hm
 exact rM (rs := [.tmp 2]) (vs := [iv 2]) ⟨rfl, trivial⟩ ⟨rfl, rfl⟩ (.cons _ (.cons _ (.refl _))) (d.trans (e.trans r))
 rw [if_neg (fun hh => Bool.noConfusion (hh.symm.trans H))] at hm
 refine Ck<|Xn ?_
 obtain ⟨x583, hj584, hk584⟩ := bS hm
 refine Cj (fun b581 e' hp' => [(1, pb l), (21, sv f a.Bands g), (22, iv ((a.Bands.length : Int))), (23, iv ((q : Int))), (63, bv x583)] = e' ∧ (l, Cl 25 [bv a.ByKm, sv f a.Bands g, iv a.Round, sv i a.Rules k]) :: R = hp' ∧ G.Le b581) ?_ ?_
 have hm := hj584
 by_cases A : 0 < (q : Int)
 rw [if_pos A] at hm
 obtain ⟨_, s, hm⟩ := bS hm
 obtain ⟨x611, h612, hm⟩ := bS hm
 by_cases C : n.Upto ≤ x611.Upto
 rw [if_pos C] at hm
 refine Di mixed (.refl _)<|E0 0 rfl (sM rfl)<|E0 1 rfl (st_gtr_t rfl rfl A)<|E0 2 rfl (sM rfl)<|Yz 3 40 rfl (sF rfl fld45_0)<|Ey 4 40 rfl (sL 1 rfl one3 rfl rfl)<|Yz 5 40 rfl (sF rfl fld25_1)<|Ey 6 40 rfl (sL 0 rfl one22 rfl rfl)<|Yz 7 40 rfl (sM rfl) ?_
 have s := (kS s).2
 refine Yz 8 40 rfl (sb rfl rfl s) ?_
 obtain ⟨I, J, K⟩ := iS h612
 obtain ⟨cs616, L, O, B, S⟩ := FZ.get (sz := 2) rfl (by decide) (t.le (d.trans (e.trans r))) K
 obtain ⟨_, _, rfl, rfl, rfl⟩ := L
 refine Yz 9 40 rfl (sI I rfl rfl J S B sl22)<|Yz 10 40 rfl (sQ rfl B fld45_0)<|Ey 11 40 rfl (sO rfl one3 (O 0 _ rfl))<|Yz 12 40 rfl (st_leq_t rfl rfl C)<|Yz 13 40 rfl (sM rfl)<|En 14 51 rfl rfl rfl<|En 15 51 rfl rfl rfl<|En 16 51 rfl rfl rfl<|En 17 51 rfl rfl rfl<|En 18 51 rfl rfl rfl ?_
 refine En 19 51 rfl rfl rfl<|En 20 51 rfl rfl rfl<|En 21 51 rfl rfl rfl<|En 22 51 rfl rfl rfl<|En 23 51 rfl rfl rfl<|Yz 24 40 rfl (pT rfl rfl)<|E0 25 rfl (pT rfl rfl)<|Eo<|Dd (by kernel_rfl) ?_
 obtain rfl := o1 hm
 exact xJ ⟨rfl, rfl, lr⟩ (.cons_cons _ (.cons _ (.refl _)))
 rw [if_neg C] at hm
 obtain ⟨_, T, hm⟩ := bS hm
 obtain ⟨x623, h624, hm⟩ := bS hm
 refine Di mixed (.refl _)<|E0 0 rfl (sM rfl)<|E0 1 rfl (st_gtr_t rfl rfl A)<|E0 2 rfl (sM rfl)<|Yz 3 40 rfl (sF rfl fld45_0)<|Ey 4 40 rfl (sL 1 rfl one3 rfl rfl)<|Yz 5 40 rfl (sF rfl fld25_1)<|Ey 6 40 rfl (sL 0 rfl one22 rfl rfl)<|Yz 7 40 rfl (sM rfl) ?_
 have s := (kS s).2
 refine Yz 8 40 rfl (sb rfl rfl s) ?_
 obtain ⟨I, J, K⟩ := iS h612
 obtain ⟨cs616, L, O, B, S⟩ := FZ.get (sz := 2) rfl (by decide) (t.le (d.trans (e.trans r))) K
 obtain ⟨_, _, rfl, rfl, rfl⟩ := L
 refine Yz 9 40 rfl (sI I rfl rfl J S B sl22)<|Yz 10 40 rfl (sQ rfl B fld45_0)<|Ey 11 40 rfl (sO rfl one3 (O 0 _ rfl))<|Yz 12 40 rfl (st_leq_f rfl rfl C)<|Yz 13 40 rfl (sM rfl)<|Yz 14 51 rfl (sF rfl fld45_1)<|Ey 15 51 rfl (sL 1 rfl one3 rfl rfl)<|Yz 16 51 rfl (sF rfl fld25_1)<|Ey 17 51 rfl (sL 0 rfl one22 rfl rfl)<|Yz 18 51 rfl (sM rfl) ?_
 have T := (kS T).2
 refine Yz 19 51 rfl (sb rfl rfl T) ?_
 obtain ⟨j625, hj626, hx627⟩ := iS h624
 obtain ⟨cs628, hr629, hcs630, hA631, hlt632⟩ := FZ.get (sz := 2) rfl (by decide) (t.le (d.trans (e.trans r))) hx627
 obtain ⟨_, _, rfl, rfl, rfl⟩ := hr629
 refine Yz 20 51 rfl (sI j625 rfl rfl hj626 hlt632 hA631 sl22)<|Yz 21 51 rfl (sQ rfl hA631 fld45_1)<|Ey 22 51 rfl (sO rfl one3 (hcs630 1 _ rfl))<|Yz 23 51 rfl (q3 rfl rfl)<|Yz 24 40 rfl (pF rfl rfl)<|E0 25 rfl (pT rfl rfl)<|Eo<|Dd (by kernel_rfl) ?_
 obtain rfl := o1 hm
 exact xJ ⟨rfl, rfl, lr⟩ (.cons_cons _ (.cons _ (.refl _)))
 rw [if_neg A] at hm
 refine Di mixed (.refl _)<|E0 0 rfl (sM rfl)<|E0 1 rfl (st_gtr_f rfl rfl A)<|E0 2 rfl (sM rfl)<|En 3 40 rfl rfl rfl<|En 4 40 rfl rfl rfl<|En 5 40 rfl rfl rfl<|En 6 40 rfl rfl rfl<|En 7 40 rfl rfl rfl<|En 8 40 rfl rfl rfl ?_
 refine En 9 40 rfl rfl rfl<|En 10 40 rfl rfl rfl<|En 11 40 rfl rfl rfl<|En 12 40 rfl rfl rfl<|En 13 40 rfl rfl rfl<|En 14 51 rfl rfl rfl<|En 15 51 rfl rfl rfl<|En 16 51 rfl rfl rfl<|En 17 51 rfl rfl rfl<|En 18 51 rfl rfl rfl ?_
 refine En 19 51 rfl rfl rfl<|En 20 51 rfl rfl rfl<|En 21 51 rfl rfl rfl<|En 22 51 rfl rfl rfl<|En 23 51 rfl rfl rfl<|En 24 40 rfl rfl rfl<|E0 25 rfl (pF rfl rfl)<|Eo<|Dd (by kernel_rfl) ?_
 obtain rfl := o1 hm
 exact xJ ⟨rfl, rfl, lr⟩ (.cons_cons _ (.cons _ (.refl _)))
 rintro b581 _ _ ⟨rfl, rfl, hle582⟩
 have hm := hk584
 refine Cc _ rfl (fun U => ?_) (fun U => ?_)
 rw [if_pos U] at hm
 refine Cr<|As rfl rfl<|Te<|Ct<|Xb<|Xr<|Xr<|Xb<|Xr ?_
 have hq634 := houtL371 _ (Option.some.inj hm).symm
 rw [hq634] at p
 have hm := elimR p
 obtain rfl := o1 hm
 exact rM (rs := [.tmp 2]) (vs := [iv 1]) ⟨rfl, trivial⟩ ⟨rfl, rfl⟩ (.cons _ (.refl _)) (d.trans (e.trans (r.trans hle582)))
 rw [if_neg (fun hh => Bool.noConfusion (hh.symm.trans U))] at hm
 refine Ck<|Xm<|Xn<|Cg<|Ts rfl (sa rfl rfl (by omega))<|M rfl rfl<|Tn ?_
 exact xM hm ⟨rfl, rfl, ((e.trans (r.trans hle582)))⟩ (.refl _)
 rintro _ y _ _ ⟨rfl, rfl, e⟩ hq635
 rw [hq635] at p
 have hm := elimL p
 refine Cr<|Ts rfl (lF rfl rfl (by omega))<|Te<|Cs<|c_cond_f rfl<|Ce<|Xe<|Xe<|Xo<|Xn ?_
 refine Cs<|Cr<|Ts rfl (sF rfl fld25_2)<|Ts rfl (sL 0 rfl one3 rfl rfl) ?_
 obtain ⟨x636, hcl637, hm⟩ := bS hm
 refine Do rfl (uW _ call12 rfl (fun w ho => cFishref2Within _ [] a.Round 1 100 x636 hcl637) (fun _ _ _ h => h.2.symm)) ?_
 rintro _ _ ⟨⟨_, rfl, _⟩, rfl⟩
 refine Ts rfl (sn2 rfl)<|Te ?_
 refine Cc _ rfl (fun V => ?_) (fun V => ?_)
 rw [if_neg (fun hh => Bool.noConfusion (hh.symm.trans (nt V)))] at hm
 refine Cr<|As rfl rfl<|Te<|Ct<|Xr ?_
 obtain rfl := o1 hm
 exact rM (rs := [.tmp 2]) (vs := [iv 2]) ⟨rfl, trivial⟩ ⟨rfl, rfl⟩ (.cons _ (.refl _)) (d.trans e)
 rw [if_pos (nf V)] at hm
 refine Ck<|Xn<|Cs<|Cr<|Ts rfl (sF rfl fld25_3)<|Ts rfl (sL 0 rfl one23 rfl rfl)<|Ts rfl (sE rfl sl23)<|M rfl rfl<|Te<|Cb ?_
 have hb640 : a.Rules.length ≤ 9223372036854775807 := (FZ.bd (h7.le (d.trans e)))
 obtain ⟨t673, hl674, m⟩ := bS hm
 refine cF (fun W => fun _ => fun D e' hp' => [(70, sv i a.Rules k), (71, iv ((a.Rules.length : Int))), (72, iv ((W : Int)))] = e' ∧ R = hp' ∧ y.Le D) hl674 ⟨rfl, rfl, lr⟩ (.cons _ (.refl _)) ?_ ?_
 rintro W _ D _ _ oL639 hknL639 ⟨rfl, rfl, o⟩ hstepL639 X
 unfold mFishref2TariffFault_L639 at hstepL639
 have hm := hstepL639
 refine Cr<|Ts rfl (lT rfl rfl (by omega))<|Te<|Cs<|c_cond_t rfl<|Ck<|Xn<|Cs<|Cb<|Cr ?_
 obtain ⟨c, h677, hm⟩ := bS hm
 obtain ⟨j678, hj679, hx680⟩ := iS h677
 obtain ⟨cs681, hr682, hcs683, hA684, hlt685⟩ := FZ.get (sz := 7) rfl (by decide) (h7.le (d.trans (e.trans o))) hx680
 obtain ⟨_, _, rfl, ⟨_, _, rfl, rfl, ⟨_, _, rfl, rfl, ⟨_, _, rfl, rfl, ⟨Y, Z, rfl, h688⟩⟩⟩⟩, ⟨_, _, rfl, rfl, ⟨_, _, rfl, rfl, rfl⟩⟩⟩ := hr682
 refine Ts rfl (sI j678 rfl rfl hj679 hlt685 hA684 sl23)<|Ts rfl (sP (vs := [iv c.If.Kind, iv c.If.A, iv c.If.B, sv Y c.If.Kids Z, iv c.Do, iv c.N, bv c.Stop]) 7 rfl agg50 hA684 rfl (fun j u hu => hcs683 j u hu))<|Do rfl (uA [iv 0, iv 0, iv 0, sn, iv 0, iv 0, .bool false] zero50 rfl) ?_
 rintro _ _ ⟨g689, rfl, rfl⟩
 refine Do rfl (uN (vs := [_, _, _, _, _, _, _]) 0 7 rfl rfl rfl siz50 rfl (mc rfl (mc rfl (mc rfl (mc rfl (mc rfl (mc rfl (mc rfl mn))))))) rfl (by simp)) ?_
 rintro _ _ rfl
 refine Te<|Cs<|Cr<|Ts rfl (sF rfl fld50_0)<|Ts rfl (sD (vs := [_, _, _, _]) 0 4 rfl agg48 rfl rfl rfl) ?_
 obtain ⟨x690, hcl691, hm⟩ := bS hm
 refine Do rfl (uW _ call27 rfl (fun w ho => cFishref2CondFault _ [] c.If Y Z ((rFareCond_in h688).old ho) x690 hcl691) (fun _ _ _ h => h.2.symm)) ?_
 rintro _ _ ⟨⟨_, rfl, _⟩, rfl⟩
 refine As rfl rfl<|Te<|Cr<|M rfl rfl<|Ts rfl (q2 rfl rfl)<|Te ?_
 refine Cc _ rfl (fun aa => ?_) (fun aa => ?_)
 rw [if_pos (of_decide_eq_true aa)] at hm
 refine Cr<|M rfl rfl<|As rfl rfl<|Te<|Ct<|Xr<|Xb<|Xr<|Xr<|Xb ?_
 refine Xr ?_
 have hq693 := X _ (Option.some.inj hm).symm
 rw [hq693] at m
 have hm := elimR m
 obtain rfl := o1 hm
 exact rM (rs := [.tmp 2]) (vs := [iv x690]) ⟨rfl, trivial⟩ ⟨rfl, rfl⟩ (.cons _ (.refl _)) (d.trans (e.trans o))
 rw [if_neg (of_decide_eq_false aa)] at hm
 refine Ck<|Xn<|Cs<|Cr<|Ts rfl (sF rfl fld50_1)<|Ts rfl (sL 0 rfl one3 rfl rfl) ?_
 obtain ⟨x694, hcl695, hm⟩ := bS hm
 refine Do rfl (uW _ call12 rfl (fun w ho => cFishref2Within _ [] c.Do 1 6 x694 hcl695) (fun _ _ _ h => h.2.symm)) ?_
 rintro _ _ ⟨⟨_, rfl, _⟩, rfl⟩
 refine Ts rfl (sn2 rfl)<|Te ?_
 refine Cc _ rfl (fun ab => ?_) (fun ab => ?_)
 rw [if_neg (fun hh => Bool.noConfusion (hh.symm.trans (nt ab)))] at hm
 refine Cr<|As rfl rfl<|Te<|Ct<|Xr<|Xb<|Xr<|Xr<|Xb<|Xr ?_
 have hq697 := X _ (Option.some.inj hm).symm
 rw [hq697] at m
 have hm := elimR m
 obtain rfl := o1 hm
 exact rM (rs := [.tmp 2]) (vs := [iv 15]) ⟨rfl, trivial⟩ ⟨rfl, rfl⟩ (.cons _ (.refl _)) (d.trans (e.trans o))
 rw [if_pos (nf ab)] at hm
 refine Ck<|Xn<|Cr<|As rfl rfl<|Te ?_
 obtain ⟨x701, hj702, hk702⟩ := bS hm
 refine Cj (fun b699 e' hp' => [(6, pb g689), (8, iv x701), (70, sv i a.Rules k), (71, iv ((a.Rules.length : Int))), (72, iv ((W : Int)))] = e' ∧ (g689, Cl 50 [iv c.If.Kind, iv c.If.A, iv c.If.B, sv Y c.If.Kids Z, iv c.Do, iv c.N, bv c.Stop]) :: R = hp' ∧ D.Le b699) ?_ ?_
 have hm := hj702
 refine Cr<|Ts rfl (sF rfl fld50_1)<|Ts rfl (sL 0 rfl one3 rfl rfl)<|Ts rfl (q1 rfl rfl)<|Te ?_
 refine Cc _ rfl (fun ac => ?_) (fun ac => ?_)
 rw [if_pos (of_decide_eq_true ac)] at hm
 refine Cg<|As rfl rfl<|Tn ?_
 obtain rfl := o1 hm
 exact xJ ⟨rfl, rfl, lr⟩ (.refl _)
 rw [if_neg (of_decide_eq_false ac)] at hm
 refine Ck ?_
 obtain rfl := o1 hm
 exact xJ ⟨rfl, rfl, lr⟩ (.refl _)
 rintro b699 _ _ ⟨rfl, rfl, hle700⟩
 have hm := hk702
 refine Cr<|Ts rfl (sF rfl fld50_2)<|Ts rfl (sL 0 rfl one3 rfl rfl)<|M rfl rfl ?_
 obtain ⟨x704, hcl705, hm⟩ := bS hm
 refine Do rfl (uW _ call12 rfl (fun w ho => cFishref2Within _ [] c.N 0 x701 x704 hcl705) (fun _ _ _ h => h.2.symm)) ?_
 rintro _ _ ⟨⟨_, rfl, _⟩, rfl⟩
 refine Ts rfl (sn2 rfl)<|Te ?_
 refine Cc _ rfl (fun ad => ?_) (fun ad => ?_)
 rw [if_neg (fun hh => Bool.noConfusion (hh.symm.trans (nt ad)))] at hm
 refine Cr<|As rfl rfl<|Te<|Ct<|Xb<|Xr<|Xr<|Xb<|Xr ?_
 have hq707 := X _ (Option.some.inj hm).symm
 rw [hq707] at m
 have hm := elimR m
 obtain rfl := o1 hm
 exact rM (rs := [.tmp 2]) (vs := [iv 2]) ⟨rfl, trivial⟩ ⟨rfl, rfl⟩ (.cons _ (.refl _)) (d.trans (e.trans (o.trans hle700)))
 rw [if_pos (nf ad)] at hm
 refine Ck<|Xm<|Xn<|Cg<|Ts rfl (sa rfl rfl (by omega))<|M rfl rfl<|Tn ?_
 exact xM hm ⟨rfl, rfl, ((o.trans hle700))⟩ (.cons _ (.refl _))
 rintro _ D _ _ ⟨rfl, rfl, o⟩ hq708
 rw [hq708] at m
 have hm := elimL m
 refine Cr<|Ts rfl (lF rfl rfl (by omega))<|Te<|Cs<|c_cond_f rfl<|Ce<|Xe<|Xe<|Xo<|Xn ?_
 refine Cr<|As rfl rfl<|Te<|Ct ?_
 obtain rfl := o1 hm
 exact rM (rs := [.tmp 2]) (vs := [iv 0]) ⟨rfl, trivial⟩ ⟨rfl, rfl⟩ (.refl _) (d.trans (e.trans o))

set_option maxRecDepth 20000 in
theorem cFishref2TripFault (b : Base) (R : Hp) (a : FareTrip) (d : OA) (e : Nat) (n : FZ rI b.w d e a.Zones) (y : Int) (hm : mFishref2TripFault a = some y) :
    CallsG Tryz.prog 11 [.agg #[iv a.Day, iv a.At, iv a.Km, iv a.Age, bv a.Card, sv d a.Zones e]] b (R) (fun v b' hp' => iv y = v ∧ R = hp') := by
 refine fE 56 Tryz.func11 rfl Tryz.ntmps11 rfl ?_
 unfold mFishref2TripFault at hm
 refine Cr<|Do rfl (uB _ rfl rfl) ?_
 rintro _ _ ⟨g, rfl, rfl⟩
 refine As rfl rfl<|Te<|Cs ?_
 obtain ⟨G, H, I⟩ := bS hm
 refine Cj (fun o e' hp' => [(1, pb g), (26, bv G)] = e' ∧ (g, Cl 38 [iv a.Day, iv a.At, iv a.Km, iv a.Age, bv a.Card, sv d a.Zones e]) :: R = hp' ∧ b.Le o) ?_ ?_
 have hm := H
 refine Cg<|Ts rfl (sF rfl fld38_0)<|Ts rfl (sL 0 rfl one3 rfl rfl) ?_
 obtain ⟨z, J, hm⟩ := bS hm
 refine Do rfl (uW _ call12 rfl (fun w ho => cFishref2Within _ [] a.Day 0 6 z J) (fun _ _ _ h => h.2.symm)) ?_
 rintro _ _ ⟨⟨_, rfl, _⟩, rfl⟩
 rcases Bool.eq_false_or_eq_true z with j | j
 rw [if_pos j] at hm
 refine Tr 7 rfl (v' := .bool true) (by rw [j] <;> rfl)<|Ts rfl (st_not_t rfl)<|M rfl rfl<|Ys 9 rfl rfl rfl<|Ts rfl (sF rfl fld38_1)<|Ys 9 rfl rfl rfl<|Ts rfl (sL 0 rfl one3 rfl rfl)<|Ys 9 rfl rfl rfl ?_
 obtain ⟨A, K, hm⟩ := bS hm
 refine Do rfl (uW _ call12 rfl (fun w ho => cFishref2Within _ [] a.At 0 28800 A K) (fun _ _ _ h => h.2.symm)) ?_
 rintro _ _ ⟨⟨_, rfl, _⟩, rfl⟩
 rcases Bool.eq_false_or_eq_true A with k | k
 rw [if_pos k] at hm
 refine Tr 12 rfl (v' := .bool true) (by rw [k] <;> rfl)<|Ys 9 rfl rfl rfl<|Ts rfl (st_not_t rfl)<|Ts rfl (pF rfl rfl)<|M rfl rfl<|Ys 15 rfl rfl rfl<|Ts rfl (sF rfl fld38_2)<|Ys 15 rfl rfl rfl<|Ts rfl (sL 0 rfl one3 rfl rfl)<|Ys 15 rfl rfl rfl ?_
 obtain ⟨B, L, hm⟩ := bS hm
 refine Do rfl (uW _ call12 rfl (fun w ho => cFishref2Within _ [] a.Km 0 1000 B L) (fun _ _ _ h => h.2.symm)) ?_
 rintro _ _ ⟨⟨_, rfl, _⟩, rfl⟩
 rcases Bool.eq_false_or_eq_true B with l | l
 rw [if_pos l] at hm
 refine Tr 18 rfl (v' := .bool true) (by rw [l] <;> rfl)<|Ys 15 rfl rfl rfl<|Ts rfl (st_not_t rfl)<|Ts rfl (pF rfl rfl)<|M rfl rfl<|Ys 21 rfl rfl rfl<|Ts rfl (sF rfl fld38_3)<|Ys 21 rfl rfl rfl<|Ts rfl (sL 0 rfl one3 rfl rfl)<|Ys 21 rfl rfl rfl ?_
 obtain ⟨O, S, hm⟩ := bS hm
 refine Do rfl (uW _ call12 rfl (fun w ho => cFishref2Within _ [] a.Age 0 120 O S) (fun _ _ _ h => h.2.symm)) ?_
 rintro _ _ ⟨⟨_, rfl, _⟩, rfl⟩
 refine Ys 21 rfl rfl rfl<|Ts rfl (sn2 rfl)<|Ts rfl (pF rfl rfl)<|Tn ?_
 obtain rfl := o1 hm
 exact xJ ⟨rfl, rfl, lr⟩ (.refl _)
 rw [if_neg (fun hh => Bool.noConfusion (hh.symm.trans l))] at hm
 refine Tr 18 rfl (v' := .bool false) (by rw [l] <;> rfl)<|Ys 15 rfl rfl rfl<|Ts rfl (st_not_f rfl)<|Ts rfl (pF rfl rfl)<|M rfl rfl<|No 21 rfl rfl rfl rfl rfl<|No 21 rfl rfl rfl rfl rfl<|No 21 rfl rfl rfl rfl rfl<|No 21 rfl rfl rfl rfl rfl<|Ts rfl (pT rfl rfl) ?_
 refine Tn ?_
 obtain rfl := o1 hm
 exact xJ ⟨rfl, rfl, lr⟩ (.refl _)
 rw [if_neg (fun hh => Bool.noConfusion (hh.symm.trans k))] at hm
 refine Tr 12 rfl (v' := .bool false) (by rw [k] <;> rfl)<|Ys 9 rfl rfl rfl<|Ts rfl (st_not_f rfl)<|Ts rfl (pF rfl rfl)<|M rfl rfl<|No 15 rfl rfl rfl rfl rfl<|No 15 rfl rfl rfl rfl rfl<|No 15 rfl rfl rfl rfl rfl<|No 15 rfl rfl rfl rfl rfl<|Ts rfl (pT rfl rfl) ?_
 refine M rfl rfl<|No 21 rfl rfl rfl rfl rfl<|No 21 rfl rfl rfl rfl rfl<|No 21 rfl rfl rfl rfl rfl<|No 21 rfl rfl rfl rfl rfl<|Ts rfl (pT rfl rfl)<|Tn ?_
 obtain rfl := o1 hm
 exact xJ ⟨rfl, rfl, lr⟩ (.refl _)
 rw [if_neg (fun hh => Bool.noConfusion (hh.symm.trans j))] at hm
 refine Tr 7 rfl (v' := .bool false) (by rw [j] <;> rfl)<|Ts rfl (st_not_f rfl)<|M rfl rfl<|No 9 rfl rfl rfl rfl rfl<|No 9 rfl rfl rfl rfl rfl<|No 9 rfl rfl rfl rfl rfl<|No 9 rfl rfl rfl rfl rfl<|Ts rfl (pT rfl rfl)<|M rfl rfl<|No 15 rfl rfl rfl rfl rfl ?_
 refine No 15 rfl rfl rfl rfl rfl<|No 15 rfl rfl rfl rfl rfl<|No 15 rfl rfl rfl rfl rfl<|Ts rfl (pT rfl rfl)<|M rfl rfl<|No 21 rfl rfl rfl rfl rfl<|No 21 rfl rfl rfl rfl rfl<|No 21 rfl rfl rfl rfl rfl<|No 21 rfl rfl rfl rfl rfl<|Ts rfl (pT rfl rfl) ?_
 refine Tn ?_
 obtain rfl := o1 hm
 exact xJ ⟨rfl, rfl, lr⟩ (.refl _)
 rintro o _ _ ⟨rfl, rfl, c⟩
 have hm := I
 refine Cc _ rfl (fun p => ?_) (fun p => ?_)
 rw [if_pos p] at hm
 refine Cr<|As rfl rfl<|Te<|Ct<|Xr ?_
 obtain rfl := o1 hm
 exact rM (rs := [.tmp 2]) (vs := [iv 2]) ⟨rfl, trivial⟩ ⟨rfl, rfl⟩ (.cons _ (.refl _)) c
 rw [if_neg (fun hh => Bool.noConfusion (hh.symm.trans p))] at hm
 refine Ck<|Xn<|Cs<|Cr<|Ts rfl (sF rfl fld38_5)<|Ts rfl (sL 0 rfl one27 rfl rfl)<|Ts rfl (sE rfl sl27) ?_
 obtain ⟨T, U, hm⟩ := bS hm
 refine Do rfl (uW _ call12 rfl (fun w ho => cFishref2Within _ [] (a.Zones.length : Int) 1 10 T U) (fun _ _ _ h => h.2.symm)) ?_
 rintro _ _ ⟨⟨_, rfl, _⟩, rfl⟩
 refine Ts rfl (sn2 rfl)<|Te ?_
 refine Cc _ rfl (fun q => ?_) (fun q => ?_)
 rw [if_neg (fun hh => Bool.noConfusion (hh.symm.trans (nt q)))] at hm
 refine Cr<|As rfl rfl<|Te<|Ct<|Xr ?_
 obtain rfl := o1 hm
 exact rM (rs := [.tmp 2]) (vs := [iv 4]) ⟨rfl, trivial⟩ ⟨rfl, rfl⟩ (.cons _ (.refl _)) c
 rw [if_pos (nf q)] at hm
 refine Ck<|Xn<|Cs<|Cr<|Ts rfl (sF rfl fld38_5)<|Ts rfl (sL 0 rfl one27 rfl rfl)<|Ts rfl (sE rfl sl27)<|M rfl rfl<|Te<|Cb ?_
 have ay : a.Zones.length ≤ 9223372036854775807 := (FZ.bd (n.le c))
 obtain ⟨az, V, i⟩ := bS hm
 refine cF (fun r => fun _ => fun m e' hp' => [(1, pb g), (33, sv d a.Zones e), (34, iv ((a.Zones.length : Int))), (35, iv ((r : Int)))] = e' ∧ (g, Cl 38 [iv a.Day, iv a.At, iv a.Km, iv a.Age, bv a.Card, sv d a.Zones e]) :: R = hp' ∧ o.Le m) V ⟨rfl, rfl, lr⟩ (.refl _) ?_ ?_
 rintro r _ m _ _ aA aB ⟨rfl, rfl, f⟩ C D
 unfold mFishref2TripFault_L163 at C
 have hm := C
 refine Cr<|Ts rfl (lT rfl rfl (by omega))<|Te<|Cs<|c_cond_t rfl<|Ck<|Xn<|Cs<|Cb<|Cr ?_
 refine M rfl rfl ?_
 obtain ⟨W, X, hm⟩ := bS hm
 obtain ⟨Y, Z, aa⟩ := iS X
 obtain ⟨aC, ab, ac, ad, ae⟩ := FZ.get (sz := 1) rfl (by decide) (n.le (c.trans f)) aa
 obtain rfl := ab
 refine Ts rfl (sI Y rfl rfl Z ae ad sl27)<|Ts rfl (sO rfl one3 (ac 0 _ rfl))<|As rfl rfl<|As rfl rfl<|Te<|Cs<|Cr<|M rfl rfl ?_
 obtain ⟨af, ag, hm⟩ := bS hm
 refine Do rfl (uW _ call12 rfl (fun w ho => cFishref2Within _ [] W 0 19 af ag) (fun _ _ _ h => h.2.symm)) ?_
 rintro _ _ ⟨⟨_, rfl, _⟩, rfl⟩
 refine Ts rfl (sn2 rfl)<|Te ?_
 refine Cc _ rfl (fun s => ?_) (fun s => ?_)
 rw [if_neg (fun hh => Bool.noConfusion (hh.symm.trans (nt s)))] at hm
 refine Cr<|As rfl rfl<|Te<|Ct<|Xr<|Xb<|Xr<|Xr<|Xb<|Xr ?_
 have ah := D _ (Option.some.inj hm).symm
 rw [ah] at i
 have hm := elimR i
 obtain rfl := o1 hm
 exact rM (rs := [.tmp 2]) (vs := [iv 2]) ⟨rfl, trivial⟩ ⟨rfl, rfl⟩ (.cons _ (.refl _)) (c.trans f)
 rw [if_pos (nf s)] at hm
 refine Ck<|Xn ?_
 obtain ⟨ai, aj, ak⟩ := bS hm
 refine Cj (fun E e' hp' => [(1, pb g), (33, sv d a.Zones e), (34, iv ((a.Zones.length : Int))), (35, iv ((r : Int))), (54, bv ai)] = e' ∧ (g, Cl 38 [iv a.Day, iv a.At, iv a.Km, iv a.Age, bv a.Card, sv d a.Zones e]) :: R = hp' ∧ m.Le E) ?_ ?_
 have hm := aj
 refine Cg<|M rfl rfl ?_
 refine Tb rfl (q5 rfl rfl) (fun t => ?_) (fun t => ?_)
 rw [if_pos t] at hm
 refine M rfl rfl<|Ys 45 rfl rfl rfl<|M rfl rfl<|Ys 45 rfl rfl rfl<|Ts rfl (sF rfl fld38_5)<|Ys 45 rfl rfl rfl<|Ts rfl (sL 0 rfl one27 rfl rfl)<|Ys 45 rfl rfl rfl<|M rfl rfl<|Ys 45 rfl rfl rfl ?_
 obtain ⟨_, u, hm⟩ := bS hm
 have u := (kS u).2
 refine Ts rfl (sb rfl rfl u)<|Ys 45 rfl rfl rfl ?_
 obtain ⟨aD, al, hm⟩ := bS hm
 obtain ⟨am, an, ao⟩ := iS al
 obtain ⟨aE, aq, ar, au, av⟩ := FZ.get (sz := 1) rfl (by decide) (n.le (c.trans f)) ao
 obtain rfl := aq
 refine Ts rfl (sI am rfl rfl an av au sl27)<|Ys 45 rfl rfl rfl<|Ts rfl (sO rfl one3 (ar 0 _ rfl))<|Ys 45 rfl rfl rfl<|Ts rfl (q1 rfl rfl)<|Ts rfl (pT rfl rfl)<|Tn ?_
 obtain rfl := o1 hm
 exact xJ ⟨rfl, rfl, lr⟩ (.refl _)
 rw [if_neg t] at hm
 refine M rfl rfl<|No 45 rfl rfl rfl rfl rfl<|No 45 rfl rfl rfl rfl rfl<|No 45 rfl rfl rfl rfl rfl<|No 45 rfl rfl rfl rfl rfl<|No 45 rfl rfl rfl rfl rfl<|No 45 rfl rfl rfl rfl rfl<|No 45 rfl rfl rfl rfl rfl<|No 45 rfl rfl rfl rfl rfl<|Ts rfl (pF rfl rfl) ?_
 refine Tn ?_
 obtain rfl := o1 hm
 exact xJ ⟨rfl, rfl, lr⟩ (.refl _)
 rintro E _ _ ⟨rfl, rfl, F⟩
 have hm := ak
 refine Cc _ rfl (fun x => ?_) (fun x => ?_)
 rw [if_pos x] at hm
 refine Cr<|As rfl rfl<|Te<|Ct<|Xb<|Xr<|Xr<|Xb<|Xr ?_
 have aw := D _ (Option.some.inj hm).symm
 rw [aw] at i
 have hm := elimR i
 obtain rfl := o1 hm
 exact rM (rs := [.tmp 2]) (vs := [iv 1]) ⟨rfl, trivial⟩ ⟨rfl, rfl⟩ (.cons _ (.refl _)) (c.trans (f.trans F))
 rw [if_neg (fun hh => Bool.noConfusion (hh.symm.trans x))] at hm
 refine Ck<|Xm<|Xn<|Cg<|Ts rfl (sa rfl rfl (by omega))<|M rfl rfl<|Tn ?_
 exact xM hm ⟨rfl, rfl, ((f.trans F))⟩ (.refl _)
 rintro _ m _ _ ⟨rfl, rfl, f⟩ ax
 rw [ax] at i
 have hm := elimL i
 refine Cr<|Ts rfl (lF rfl rfl (by omega))<|Te<|Cs<|c_cond_f rfl<|Ce<|Xe<|Xe<|Xo<|Xn ?_
 refine Cr<|As rfl rfl<|Te<|Ct ?_
 obtain rfl := o1 hm
 exact rM (rs := [.tmp 2]) (vs := [iv 0]) ⟨rfl, trivial⟩ ⟨rfl, rfl⟩ (.cons _ (.refl _)) (c.trans f)

set_option maxRecDepth 20000 in
theorem cFishref2CheapestFault (b : Base) (R : Hp) (f : FareTariff) (l : (List FareTrip)) (c : (List FarePass)) (F : OA) (G : Nat) (H : OA) (I : Nat) (z : OA) (A : Nat) (g : OA) (i : Nat) (h4 : FZ rFareBand b.w F G f.Bands) (h7 : FZ rFareRule b.w H I f.Rules) (ac : FZ rFareTrip b.w z A l) (ad : FZ rFarePass b.w g i c) (ae : Int) (hm : mFishref2CheapestFault f l c = some ae) :
    CallsG Tryz.prog 6 [.agg #[bv f.ByKm, sv F f.Bands G, iv f.Round, sv H f.Rules I], sv z l A, sv g c i] b (R) (fun v b' hp' => iv ae = v ∧ R = hp') := by
 refine fE 81 Tryz.func6 rfl Tryz.ntmps6 rfl ?_
 unfold mFishref2CheapestFault at hm
 refine Cr<|Do rfl (uB _ rfl rfl) ?_
 rintro _ _ ⟨g330, rfl, rfl⟩
 refine As rfl rfl<|Te<|Cs<|Cr<|Ts rfl (sD (vs := [_, _, _, _]) 0 4 rfl agg25 rfl rfl rfl) ?_
 obtain ⟨af, hcl332, hm⟩ := bS hm
 refine Do rfl (uW _ call10 rfl (fun w ho => cFishref2TariffFault _ [] f F G H I (h4.old ho) (h7.old ho) af hcl332) (fun _ _ _ h => h.2.symm)) ?_
 rintro _ _ ⟨⟨_, rfl, _⟩, rfl⟩
 refine As rfl rfl<|Te<|Cr<|M rfl rfl<|Ts rfl (q2 rfl rfl)<|Te ?_
 refine Cc _ rfl (fun J => ?_) (fun J => ?_)
 rw [if_pos (of_decide_eq_true J)] at hm
 refine Cr<|M rfl rfl<|As rfl rfl<|Te<|Ct<|Xr ?_
 obtain rfl := o1 hm
 exact rM (rs := [.tmp 6]) (vs := [iv af]) ⟨rfl, trivial⟩ ⟨rfl, rfl⟩ (.cons _ (.refl _)) lr
 rw [if_neg (of_decide_eq_false J)] at hm
 refine Ck<|Xn<|Cs ?_
 obtain ⟨x337, hj338, hk338⟩ := bS hm
 refine Cj (fun K e' hp' => [(1, sv z l A), (2, sv g c i), (27, bv x337)] = e' ∧ R = hp' ∧ b.Le K) ?_ ?_
 have hm := hj338
 refine Cg<|M rfl rfl<|Ts rfl (sE rfl sl26) ?_
 refine Tb rfl (q5 rfl rfl) (fun L => ?_) (fun L => ?_)
 rw [if_pos L] at hm
 refine M rfl rfl<|No 23 rfl rfl rfl rfl rfl<|No 23 rfl rfl rfl rfl rfl<|No 23 rfl rfl rfl rfl rfl<|Ts rfl (pT rfl rfl)<|Tn ?_
 obtain rfl := o1 hm
 exact xJ ⟨rfl, rfl, lr⟩ (.cons _ (.refl _))
 rw [if_neg L] at hm
 refine M rfl rfl<|Ys 23 rfl rfl rfl<|M rfl rfl<|Ys 23 rfl rfl rfl<|Ts rfl (sE rfl sl33)<|Ys 23 rfl rfl rfl<|Ts rfl (q5 rfl rfl)<|Ts rfl (pF rfl rfl)<|Tn ?_
 obtain rfl := o1 hm
 exact xJ ⟨rfl, rfl, lr⟩ (.cons _ (.refl _))
 rintro K _ _ ⟨rfl, rfl, d⟩
 have hm := hk338
 refine Cc _ rfl (fun O => ?_) (fun O => ?_)
 rw [if_pos O] at hm
 refine Cr<|As rfl rfl<|Te<|Ct<|Xr ?_
 obtain rfl := o1 hm
 exact rM (rs := [.tmp 6]) (vs := [iv 4]) ⟨rfl, trivial⟩ ⟨rfl, rfl⟩ (.refl _) d
 rw [if_neg (fun hh => Bool.noConfusion (hh.symm.trans O))] at hm
 refine Ck<|Xn<|Cs<|Cr<|M rfl rfl<|Ts rfl (sE rfl sl26)<|M rfl rfl<|Te<|Cb ?_
 have hb342 : l.length ≤ 9223372036854775807 := (FZ.bd (ac.le d))
 obtain ⟨t363, hl364, B⟩ := bS hm
 refine cF (fun ag => fun _ => fun C e' hp' => [(2, sv g c i), (28, sv z l A), (29, iv ((l.length : Int))), (30, iv ((ag : Int)))] = e' ∧ R = hp' ∧ K.Le C) hl364 ⟨rfl, rfl, lr⟩ (.refl _) ?_ ?_
 rintro ag _ C _ _ oL341 hknL341 ⟨rfl, rfl, e⟩ ah houtL341
 unfold mFishref2CheapestFault_L341 at ah
 have hm := ah
 refine Cr<|Ts rfl (lT rfl rfl (by omega))<|Te<|Cs<|c_cond_t rfl<|Ck<|Xn<|Cs<|Cb<|Cr ?_
 obtain ⟨m, h367, hm⟩ := bS hm
 obtain ⟨j368, hj369, hx370⟩ := iS h367
 obtain ⟨cs371, hr372, hcs373, ai, hlt375⟩ := FZ.get (sz := 6) rfl (by decide) (ac.le (d.trans e)) hx370
 obtain ⟨_, _, rfl, rfl, ⟨_, _, rfl, rfl, ⟨_, _, rfl, rfl, ⟨_, _, rfl, rfl, ⟨_, _, rfl, rfl, ⟨aj, ak, rfl, h378⟩⟩⟩⟩⟩⟩ := hr372
 refine Ts rfl (sI j368 rfl rfl hj369 hlt375 ai sl26)<|Ts rfl (sP (vs := [iv m.Day, iv m.At, iv m.Km, iv m.Age, bv m.Card, sv aj m.Zones ak]) 6 rfl agg38 ai rfl (fun j u hu => hcs373 j u hu))<|Do rfl (uA [iv 0, iv 0, iv 0, iv 0, .bool false, sn] zero38 rfl) ?_
 rintro _ _ ⟨g379, rfl, rfl⟩
 refine Do rfl (uN (vs := [_, _, _, _, _, _]) 0 6 rfl rfl rfl siz38 rfl (mc rfl (mc rfl (mc rfl (mc rfl (mc rfl (mc rfl mn)))))) rfl (by simp)) ?_
 rintro _ _ rfl
 refine Te<|Cr<|Ts rfl (sD (vs := [_, _, _, _, _, _]) 0 6 rfl agg38 rfl rfl rfl) ?_
 obtain ⟨al, hcl381, hm⟩ := bS hm
 refine Do rfl (uW _ call11 rfl (fun w ho => cFishref2TripFault _ [] m aj ak (h378.old ho) al hcl381) (fun _ _ _ h => h.2.symm)) ?_
 rintro _ _ ⟨⟨_, rfl, _⟩, rfl⟩
 refine As rfl rfl<|Te<|Cr<|M rfl rfl<|Ts rfl (q2 rfl rfl)<|Te ?_
 refine Cc _ rfl (fun S => ?_) (fun S => ?_)
 rw [if_pos (of_decide_eq_true S)] at hm
 refine Cr<|M rfl rfl<|As rfl rfl<|Te<|Ct<|Xb<|Xr<|Xr<|Xb<|Xr ?_
 have hq383 := houtL341 _ (Option.some.inj hm).symm
 rw [hq383] at B
 have hm := elimR B
 obtain rfl := o1 hm
 exact rM (rs := [.tmp 6]) (vs := [iv al]) ⟨rfl, trivial⟩ ⟨rfl, rfl⟩ (.cons _ (.refl _)) (d.trans e)
 rw [if_neg (of_decide_eq_false S)] at hm
 refine Ck<|Xm<|Xn<|Cg<|Ts rfl (sa rfl rfl (by omega))<|M rfl rfl<|Tn ?_
 exact xM hm ⟨rfl, rfl, (e)⟩ (.cons _ (.refl _))
 rintro _ C _ _ ⟨rfl, rfl, e⟩ hq384
 rw [hq384] at B
 have hm := elimL B
 refine Cr<|Ts rfl (lF rfl rfl (by omega))<|Te<|Cs<|c_cond_f rfl<|Ce<|Xe<|Xe<|Xo<|Xn ?_
 refine Cs<|Cr<|M rfl rfl<|Ts rfl (sE rfl sl33)<|M rfl rfl<|Te<|Cb ?_
 have hb386 : c.length ≤ 9223372036854775807 := (FZ.bd (ad.le (d.trans e)))
 obtain ⟨t512, hl513, k⟩ := bS hm
 refine cF (fun x => fun _ => fun D e' hp' => [(40, sv g c i), (41, iv ((c.length : Int))), (42, iv ((x : Int)))] = e' ∧ R = hp' ∧ C.Le D) hl513 ⟨rfl, rfl, lr⟩ (.refl _) ?_ ?_
 rintro x _ D _ _ oL385 hknL385 ⟨rfl, rfl, n⟩ am T
 unfold mFishref2CheapestFault_L385 at am
 have hm := am
 refine Cr<|Ts rfl (lT rfl rfl (by omega))<|Te<|Cs<|c_cond_t rfl<|Ck<|Xn<|Cs<|Cb<|Cr ?_
 obtain ⟨a, h516, hm⟩ := bS hm
 obtain ⟨j517, hj518, hx519⟩ := iS h516
 obtain ⟨cs520, hr521, hcs522, an, hlt524⟩ := FZ.get (sz := 3) rfl (by decide) (ad.le (d.trans (e.trans n))) hx519
 obtain ⟨_, _, rfl, rfl, ⟨_, _, rfl, rfl, ⟨q, r, rfl, U⟩⟩⟩ := hr521
 refine Ts rfl (sI j517 rfl rfl hj518 hlt524 an sl33)<|Ts rfl (sP (vs := [iv a.Days, iv a.Price, sv q a.Zones r]) 3 rfl agg29 an rfl (fun j u hu => hcs522 j u hu))<|Do rfl (uA [iv 0, iv 0, sn] zero29 rfl) ?_
 rintro _ _ ⟨s, rfl, rfl⟩
 refine Do rfl (uN (vs := [_, _, _]) 0 3 rfl rfl rfl siz29 rfl (mc rfl (mc rfl (mc rfl mn))) rfl (by simp)) ?_
 rintro _ _ rfl
 refine Te<|Cs ?_
 obtain ⟨x536, hj537, hk537⟩ := bS hm
 refine Cj (fun V e' hp' => [(12, pb s), (40, sv g c i), (41, iv ((c.length : Int))), (42, iv ((x : Int))), (55, bv x536)] = e' ∧ (s, Cl 29 [iv a.Days, iv a.Price, sv q a.Zones r]) :: R = hp' ∧ D.Le V) ?_ ?_
 have hm := hj537
 refine Cg<|Ts rfl (sF rfl fld29_0)<|Ts rfl (sL 0 rfl one3 rfl rfl) ?_
 obtain ⟨ao, hcl539, hm⟩ := bS hm
 refine Do rfl (uW _ call12 rfl (fun w ho => cFishref2Within _ [] a.Days 1 7 ao hcl539) (fun _ _ _ h => h.2.symm)) ?_
 rintro _ _ ⟨⟨_, rfl, _⟩, rfl⟩
 rcases Bool.eq_false_or_eq_true ao with y | y
 rw [if_pos y] at hm
 refine Tr 48 rfl (v' := .bool true) (by rw [y] <;> rfl)<|Ts rfl (st_not_t rfl)<|M rfl rfl<|Ys 50 rfl rfl rfl<|Ts rfl (sF rfl fld29_1)<|Ys 50 rfl rfl rfl<|Ts rfl (sL 0 rfl one3 rfl rfl)<|Ys 50 rfl rfl rfl ?_
 obtain ⟨x541, hcl542, hm⟩ := bS hm
 refine Do rfl (uW _ call12 rfl (fun w ho => cFishref2Within _ [] a.Price 0 100000 x541 hcl542) (fun _ _ _ h => h.2.symm)) ?_
 rintro _ _ ⟨⟨_, rfl, _⟩, rfl⟩
 refine Ys 50 rfl rfl rfl<|Ts rfl (sn2 rfl)<|Ts rfl (pF rfl rfl)<|Tn ?_
 obtain rfl := o1 hm
 exact xJ ⟨rfl, rfl, lr⟩ (.refl _)
 rw [if_neg (fun hh => Bool.noConfusion (hh.symm.trans y))] at hm
 refine Tr 48 rfl (v' := .bool false) (by rw [y] <;> rfl)<|Ts rfl (st_not_f rfl)<|M rfl rfl<|No 50 rfl rfl rfl rfl rfl<|No 50 rfl rfl rfl rfl rfl<|No 50 rfl rfl rfl rfl rfl<|No 50 rfl rfl rfl rfl rfl<|Ts rfl (pT rfl rfl)<|Tn ?_
 obtain rfl := o1 hm
 exact xJ ⟨rfl, rfl, lr⟩ (.refl _)
 rintro V _ _ ⟨rfl, rfl, o⟩
 have hm := hk537
 refine Cc _ rfl (fun W => ?_) (fun W => ?_)
 rw [if_pos W] at hm
 refine Cr<|As rfl rfl<|Te<|Ct<|Xr<|Xb<|Xr<|Xr<|Xb<|Xr ?_
 have hq544 := T _ (Option.some.inj hm).symm
 rw [hq544] at k
 have hm := elimR k
 obtain rfl := o1 hm
 exact rM (rs := [.tmp 6]) (vs := [iv 2]) ⟨rfl, trivial⟩ ⟨rfl, rfl⟩ (.cons _ (.refl _)) (d.trans (e.trans (n.trans o)))
 rw [if_neg (fun hh => Bool.noConfusion (hh.symm.trans W))] at hm
 refine Ck<|Xn<|Cr<|Ts rfl (sF rfl fld29_2)<|Ts rfl (sL 0 rfl one27 rfl rfl)<|Ts rfl (sE rfl sl27)<|M rfl rfl<|Te<|Cb ?_
 have hb546 : a.Zones.length ≤ 9223372036854775807 := (FZ.bd (U.le o))
 obtain ⟨t592, hl593, t⟩ := bS hm
 refine cF (fun X => fun _ => fun E e' hp' => [(12, pb s), (40, sv g c i), (41, iv ((c.length : Int))), (42, iv ((x : Int))), (57, sv q a.Zones r), (58, iv ((a.Zones.length : Int))), (59, iv ((X : Int)))] = e' ∧ (s, Cl 29 [iv a.Days, iv a.Price, sv q a.Zones r]) :: R = hp' ∧ V.Le E) hl593 ⟨rfl, rfl, lr⟩ (.refl _) ?_ ?_
 rintro X _ E _ _ oL545 hknL545 ⟨rfl, rfl, p⟩ aq ar
 unfold mFishref2CheapestFault_L545 at aq
 have hm := aq
 refine Cr<|Ts rfl (lT rfl rfl (by omega))<|Te<|Cs<|c_cond_t rfl<|Ck<|Xn<|Cs<|Cb<|Cr ?_
 refine M rfl rfl ?_
 obtain ⟨x595, h596, hm⟩ := bS hm
 obtain ⟨j597, hj598, hx599⟩ := iS h596
 obtain ⟨cs600, hr601, hcs602, hA603, hlt604⟩ := FZ.get (sz := 1) rfl (by decide) (U.le (o.trans p)) hx599
 obtain rfl := hr601
 refine Ts rfl (sI j597 rfl rfl hj598 hlt604 hA603 sl27)<|Ts rfl (sO rfl one3 (hcs602 0 _ rfl))<|As rfl rfl<|As rfl rfl<|Te<|Cs<|Cr<|M rfl rfl ?_
 obtain ⟨x605, hcl606, hm⟩ := bS hm
 refine Do rfl (uW _ call12 rfl (fun w ho => cFishref2Within _ [] x595 0 19 x605 hcl606) (fun _ _ _ h => h.2.symm)) ?_
 rintro _ _ ⟨⟨_, rfl, _⟩, rfl⟩
 refine Ts rfl (sn2 rfl)<|Te ?_
 refine Cc _ rfl (fun Y => ?_) (fun Y => ?_)
 rw [if_neg (fun hh => Bool.noConfusion (hh.symm.trans (nt Y)))] at hm
 refine Cr<|As rfl rfl<|Te<|Ct<|Xr<|Xb<|Xr<|Xr<|Xb<|Xb ?_
 refine Xr<|Xr<|Xb<|Xr ?_
 have hq608 := ar _ (Option.some.inj hm).symm
 rw [hq608] at t
 have hm := elimR t
 have hq609 := T _ (Option.some.inj hm).symm
 rw [hq609] at k
 have hm := elimR k
 obtain rfl := o1 hm
 exact rM (rs := [.tmp 6]) (vs := [iv 2]) ⟨rfl, trivial⟩ ⟨rfl, rfl⟩ (.cons _ (.refl _)) (d.trans (e.trans (n.trans (o.trans p))))
 rw [if_pos (nf Y)] at hm
 refine Ck<|Xn ?_
 obtain ⟨x624, hj625, hk625⟩ := bS hm
 refine Cj (fun au e' hp' => [(12, pb s), (40, sv g c i), (41, iv ((c.length : Int))), (42, iv ((x : Int))), (57, sv q a.Zones r), (58, iv ((a.Zones.length : Int))), (59, iv ((X : Int))), (78, bv x624)] = e' ∧ (s, Cl 29 [iv a.Days, iv a.Price, sv q a.Zones r]) :: R = hp' ∧ E.Le au) ?_ ?_
 have hm := hj625
 refine Cg<|M rfl rfl ?_
 refine Tb rfl (q5 rfl rfl) (fun Z => ?_) (fun Z => ?_)
 rw [if_pos Z] at hm
 refine M rfl rfl<|Ys 69 rfl rfl rfl<|M rfl rfl<|Ys 69 rfl rfl rfl<|Ts rfl (sF rfl fld29_2)<|Ys 69 rfl rfl rfl<|Ts rfl (sL 0 rfl one27 rfl rfl)<|Ys 69 rfl rfl rfl<|M rfl rfl<|Ys 69 rfl rfl rfl ?_
 obtain ⟨_, aa, hm⟩ := bS hm
 have aa := (kS aa).2
 refine Ts rfl (sb rfl rfl aa)<|Ys 69 rfl rfl rfl ?_
 obtain ⟨x628, h629, hm⟩ := bS hm
 obtain ⟨j630, hj631, hx632⟩ := iS h629
 obtain ⟨cs633, hr634, hcs635, hA636, hlt637⟩ := FZ.get (sz := 1) rfl (by decide) (U.le (o.trans p)) hx632
 obtain rfl := hr634
 refine Ts rfl (sI j630 rfl rfl hj631 hlt637 hA636 sl27)<|Ys 69 rfl rfl rfl<|Ts rfl (sO rfl one3 (hcs635 0 _ rfl))<|Ys 69 rfl rfl rfl<|Ts rfl (q4 rfl rfl)<|Ts rfl (pT rfl rfl)<|Tn ?_
 obtain rfl := o1 hm
 exact xJ ⟨rfl, rfl, lr⟩ (.refl _)
 rw [if_neg Z] at hm
 refine M rfl rfl<|No 69 rfl rfl rfl rfl rfl<|No 69 rfl rfl rfl rfl rfl<|No 69 rfl rfl rfl rfl rfl<|No 69 rfl rfl rfl rfl rfl<|No 69 rfl rfl rfl rfl rfl<|No 69 rfl rfl rfl rfl rfl<|No 69 rfl rfl rfl rfl rfl<|No 69 rfl rfl rfl rfl rfl<|Ts rfl (pF rfl rfl) ?_
 refine Tn ?_
 obtain rfl := o1 hm
 exact xJ ⟨rfl, rfl, lr⟩ (.refl _)
 rintro au _ _ ⟨rfl, rfl, av⟩
 have hm := hk625
 refine Cc _ rfl (fun ab => ?_) (fun ab => ?_)
 rw [if_pos ab] at hm
 refine Cr<|As rfl rfl<|Te<|Ct<|Xb<|Xr<|Xr<|Xb<|Xb<|Xr ?_
 refine Xr<|Xb<|Xr ?_
 have hq639 := ar _ (Option.some.inj hm).symm
 rw [hq639] at t
 have hm := elimR t
 have hq640 := T _ (Option.some.inj hm).symm
 rw [hq640] at k
 have hm := elimR k
 obtain rfl := o1 hm
 exact rM (rs := [.tmp 6]) (vs := [iv 1]) ⟨rfl, trivial⟩ ⟨rfl, rfl⟩ (.cons _ (.refl _)) (d.trans (e.trans (n.trans (o.trans (p.trans av)))))
 rw [if_neg (fun hh => Bool.noConfusion (hh.symm.trans ab))] at hm
 refine Ck<|Xm<|Xn<|Cg<|Ts rfl (sa rfl rfl (by omega))<|M rfl rfl<|Tn ?_
 exact xM hm ⟨rfl, rfl, ((p.trans av))⟩ (.refl _)
 rintro _ E _ _ ⟨rfl, rfl, p⟩ hq641
 rw [hq641] at t
 have hm := elimL t
 refine Cr<|Ts rfl (lF rfl rfl (by omega))<|Te<|Cs<|c_cond_f rfl<|Ce<|Xe<|Xe<|Xo<|Xm ?_
 refine Xn<|Cg<|Ts rfl (sa rfl rfl (by omega))<|M rfl rfl<|Tn ?_
 exact xM hm ⟨rfl, rfl, ((n.trans (o.trans p)))⟩ (.cons _ (.refl _))
 rintro _ D _ _ ⟨rfl, rfl, n⟩ hq642
 rw [hq642] at k
 have hm := elimL k
 refine Cr<|Ts rfl (lF rfl rfl (by omega))<|Te<|Cs<|c_cond_f rfl<|Ce<|Xe<|Xe<|Xo<|Xn ?_
 refine Cr<|As rfl rfl<|Te<|Ct ?_
 obtain rfl := o1 hm
 exact rM (rs := [.tmp 6]) (vs := [iv 0]) ⟨rfl, trivial⟩ ⟨rfl, rfl⟩ (.refl _) (d.trans (e.trans n))

set_option maxRecDepth 20000 in
theorem cFarePassCovers_1 (b : Base) (R : Hp) (e : Int) (f : Int) (g : Int) (a : (List Int)) (i : Nat) (c : OA) (d : Nat) (l : FZ rI b.w c d a) (j : Bool) (hm : mFarePassCovers_1 e f g a = some j) :
    CallsG Tryz.prog 35 [iv e, pb i] b ((i, Cl 29 [iv f, iv g, sv c a d]) :: R) (fun v b' hp' => bv j = v ∧ (i, Cl 29 [iv f, iv g, sv c a d]) :: R = hp') := by
 refine fE 9 Tryz.func35 rfl Tryz.ntmps35 rfl ?_
 unfold mFarePassCovers_1 at hm
 refine Cr<|As rfl rfl<|Te<|Cr<|Ts rfl (sF rfl fld29_2)<|Ts rfl (sL 0 rfl one27 rfl rfl)<|M rfl rfl ?_
 obtain ⟨k, m, hm⟩ := bS hm
 refine Do rfl (uW _ call36 rfl (fun w ho => cSlicesContains _ [] a e c d (l.old ho) k m) (fun _ _ _ h => h.2.symm)) ?_
 rintro _ _ ⟨⟨_, rfl, _⟩, rfl⟩
 refine Ts rfl (sn2 rfl)<|As rfl rfl<|Te<|Ct ?_
 obtain rfl := o1 hm
 exact rM (rs := [.tmp 3]) (vs := [.bool (!k)]) ⟨rfl, trivial⟩ ⟨rfl, rfl⟩ (.refl _) lr

set_option maxRecDepth 20000 in
theorem cSlicesIndexFunc_5 (b : Base) (R : Hp) (c : (List Int)) (f : Int) (g : Int) (d : (List Int)) (a : Nat) (k : OA) (l : Nat) (h : OA) (i : Nat) (p : FZ rI b.w k l c) (u : FZ rI b.w h i d) (q : Int) (hm : mSlicesIndexFunc_5 c f g d = some q) :
    CallsG Tryz.prog 54 [sv k c l, .func (.func 35) #[] #[pb a]] b ((a, Cl 29 [iv f, iv g, sv h d i]) :: R) (fun v b' hp' => iv q = v ∧ (a, Cl 29 [iv f, iv g, sv h d i]) :: R = hp') := by
 refine fE 19 Tryz.func54 rfl Tryz.ntmps54 rfl ?_
 unfold mSlicesIndexFunc_5 at hm
 refine Cr<|As rfl rfl<|Te<|Cs<|Cr<|M rfl rfl<|Ts rfl (sE rfl sl27)<|M rfl rfl<|Te<|Cb ?_
 have K : c.length ≤ 9223372036854775807 := (FZ.bd p)
 obtain ⟨L, w, j⟩ := bS hm
 refine cF (fun m => fun _ => fun n e' hp' => [(0, sv k c l), (1, .func (.func 35) #[] #[pb a]), (7, iv ((c.length : Int))), (8, iv ((m : Int)))] = e' ∧ (a, Cl 29 [iv f, iv g, sv h d i]) :: R = hp' ∧ b.Le n) w ⟨rfl, rfl, lr⟩ (.refl _) ?_ ?_
 rintro m _ n _ _ O S ⟨rfl, rfl, e⟩ r x
 unfold mSlicesIndexFunc_5_L53 at r
 have hm := r
 refine Cr<|Ts rfl (lT rfl rfl (by omega))<|Te<|Cs<|c_cond_t rfl<|Ck<|Xn<|Cs<|Cb<|Cr ?_
 refine M rfl rfl<|As rfl rfl<|Te<|Cr<|M rfl rfl<|M rfl rfl<|M rfl rfl ?_
 obtain ⟨s, y, hm⟩ := bS hm
 obtain ⟨z, A, B⟩ := iS y
 obtain ⟨T, C, D, E, F⟩ := FZ.get (sz := 1) rfl (by decide) (p.le e) B
 obtain rfl := C
 refine Ts rfl (sI z rfl rfl A F E sl27)<|Ts rfl (sO rfl one3 (D 0 _ rfl)) ?_
 obtain ⟨G, H, hm⟩ := bS hm
 refine Tv #[] #[pb a] [iv s] rfl rfl call35 rfl (cFarePassCovers_1 _ _ s f g d a h i (u.le e) G H) ?_
 rintro _ U _ t ⟨rfl, rfl⟩
 refine Te ?_
 refine Cc _ rfl (fun o => ?_) (fun o => ?_)
 rw [if_pos o] at hm
 refine Cr<|M rfl rfl<|As rfl rfl<|Te<|Ct<|Xb<|Xr<|Xr<|Xb<|Xr ?_
 have I := x _ (Option.some.inj hm).symm
 rw [I] at j
 have hm := elimR j
 obtain rfl := o1 hm
 exact rM (rs := [.tmp 4]) (vs := [iv ((m : Int))]) ⟨rfl, trivial⟩ ⟨rfl, rfl⟩ (.refl _) (e.trans t)
 rw [if_neg (fun hh => Bool.noConfusion (hh.symm.trans o))] at hm
 refine Ck<|Xm<|Xn<|Cg<|Ts rfl (sa rfl rfl (by omega))<|M rfl rfl<|Tn ?_
 exact xM hm ⟨rfl, rfl, ((e.trans t))⟩ (.refl _)
 rintro _ n _ _ ⟨rfl, rfl, e⟩ J
 rw [J] at j
 have hm := elimL j
 refine Cr<|Ts rfl (lF rfl rfl (by omega))<|Te<|Cs<|c_cond_f rfl<|Ce<|Xe<|Xe<|Xo<|Xn ?_
 refine Cr<|As rfl rfl<|Te<|Ct ?_
 obtain rfl := o1 hm
 exact rM (rs := [.tmp 4]) (vs := [iv ((-1))]) ⟨rfl, trivial⟩ ⟨rfl, rfl⟩ (.refl _) e

set_option maxRecDepth 20000 in
theorem cSlicesContainsFunc_4 (b : Base) (R : Hp) (c : (List Int)) (d : Int) (e : Int) (a : (List Int)) (f : Nat) (i : OA) (j : Nat) (g : OA) (h : Nat) (m : FZ rI b.w i j c) (n : FZ rI b.w g h a) (k : Bool) (hm : mSlicesContainsFunc_4 c d e a = some k) :
    CallsG Tryz.prog 34 [sv i c j, .func (.func 35) #[] #[pb f]] b ((f, Cl 29 [iv d, iv e, sv g a h]) :: R) (fun v b' hp' => bv k = v ∧ (f, Cl 29 [iv d, iv e, sv g a h]) :: R = hp') := by
 refine fE 9 Tryz.func34 rfl Tryz.ntmps34 rfl ?_
 unfold mSlicesContainsFunc_4 at hm
 refine Cr<|As rfl rfl<|Te<|Cr<|M rfl rfl<|M rfl rfl ?_
 obtain ⟨l, o, hm⟩ := bS hm
 refine Tg _ rfl call54 rfl (cSlicesIndexFunc_5 _ _ c d e a f i j g h m n l o) ?_
 rintro _ q _ p ⟨rfl, rfl⟩
 refine Ts rfl (q6 rfl rfl)<|As rfl rfl<|Te<|Ct ?_
 obtain rfl := o1 hm
 exact rM (rs := [.tmp 4]) (vs := [.bool (decide (0 ≤ l))]) ⟨rfl, trivial⟩ ⟨rfl, rfl⟩ (.refl _) p

set_option maxRecDepth 20000 in
theorem cFarePassCovers (b : Base) (R : Hp) (c : FarePass) (e : Int) (a : FareTrip) (f : OA) (g : Nat) (i : OA) (j : Nat) (q : FZ rI b.w f g c.Zones) (r : FZ rI b.w i j a.Zones) (m : Bool) (hm : mFarePassCovers c e a = some m) :
    CallsG Tryz.prog 20 [.agg #[iv c.Days, iv c.Price, sv f c.Zones g], iv e, .agg #[iv a.Day, iv a.At, iv a.Km, iv a.Age, bv a.Card, sv i a.Zones j]] b (R) (fun v b' hp' => bv m = v ∧ R = hp') := by
 refine fE 23 Tryz.func20 rfl Tryz.ntmps20 rfl ?_
 unfold mFarePassCovers at hm
 refine Cr<|Do rfl (uB _ rfl rfl) ?_
 rintro _ _ ⟨s, rfl, rfl⟩
 refine Do rfl (uB _ rfl rfl) ?_
 rintro _ _ ⟨C, rfl, rfl⟩
 refine As rfl rfl<|Te ?_
 obtain ⟨n, t, u⟩ := bS hm
 refine Cj (fun o e' hp' => [(6, bv n)] = e' ∧ R = hp' ∧ b.Le o) ?_ ?_
 have hm := t
 refine Cg<|Ts rfl (sF rfl fld38_0)<|Ts rfl (sL 0 rfl one3 rfl rfl)<|M rfl rfl<|M rfl rfl<|Ts rfl (sF rfl fld29_0)<|Ts rfl (sL 1 rfl one3 rfl rfl) ?_
 obtain ⟨_, k, hm⟩ := bS hm
 have k := (kS k).2
 refine Ts rfl (sa rfl rfl k) ?_
 obtain ⟨_, l, hm⟩ := bS hm
 have l := (kS l).2
 refine Ts rfl (sb rfl rfl l) ?_
 obtain ⟨p, x, hm⟩ := bS hm
 refine Do rfl (uW _ call16 rfl (fun w ho => cFareWithin _ [] a.Day e ((e + c.Days) - 1) p x) (fun _ _ _ h => h.2.symm)) ?_
 rintro _ _ ⟨⟨_, rfl, _⟩, rfl⟩
 rcases Bool.eq_false_or_eq_true p with d | d
 rw [if_pos d] at hm
 refine Tr 15 rfl (v' := .bool true) (by rw [d] <;> rfl)<|M rfl rfl<|Ys 16 rfl rfl rfl<|Ts rfl (sF rfl fld38_5)<|Ys 16 rfl rfl rfl<|Ts rfl (sL 0 rfl one27 rfl rfl)<|Ys 16 rfl rfl rfl<|Ts rfl (st_func _ _ rfl rfl)<|Ys 16 rfl rfl rfl ?_
 obtain ⟨y, z, hm⟩ := bS hm
 refine t_pullb 1 rfl<|Tg _ rfl call34 rfl (cSlicesContainsFunc_4 _ _ a.Zones c.Days c.Price c.Zones s i j f g r q y z) ?_
 rintro _ D _ A ⟨rfl, rfl⟩
 refine Ys 16 rfl rfl rfl<|Ts rfl (sn2 rfl)<|Ts rfl (pT rfl rfl)<|As rfl rfl<|Tn ?_
 obtain rfl := o1 hm
 exact xJ ⟨rfl, rfl, A⟩ (.cons _ (.cons _ (.refl _)))
 rw [if_neg (fun hh => Bool.noConfusion (hh.symm.trans d))] at hm
 refine Tr 15 rfl (v' := .bool false) (by rw [d] <;> rfl)<|M rfl rfl<|No 16 rfl rfl rfl rfl rfl<|No 16 rfl rfl rfl rfl rfl<|No 16 rfl rfl rfl rfl rfl<|No 16 rfl rfl rfl rfl rfl<|No 16 rfl rfl rfl rfl rfl<|Ts rfl (pF rfl rfl)<|As rfl rfl<|Tn ?_
 obtain rfl := o1 hm
 exact xJ ⟨rfl, rfl, lr⟩ (.cons _ (.cons _ (.refl _)))
 rintro o _ _ ⟨rfl, rfl, B⟩
 have hm := u
 refine Ct ?_
 obtain rfl := o1 hm
 exact rM (rs := [.tmp 6]) (vs := [bv n]) ⟨rfl, trivial⟩ ⟨rfl, rfl⟩ (.refl _) B

set_option maxRecDepth 20000 in
theorem cFareCheapest_1 (b : Base) (R : Hp) (c : FareBuy) (d : (List FarePass)) (e : Int) (f : Int) (g : Int) (i : Int) (k : Bool) (a : (List Int)) (o : Nat) (p : Nat) (q : OA) (r : Nat) (l : OA) (m : Nat) (A : FZ rFarePass b.w q r d) (B : FZ rI b.w l m a) (s : Bool) (hm : mFareCheapest_1 c d e f g i k a = some s) :
    CallsG Tryz.prog 19 [.agg #[iv c.Day, iv c.Pass], pb o, pb p] b ((o, Cl 33 [sv q d r]) :: (p, Cl 38 [iv e, iv f, iv g, iv i, bv k, sv l a m]) :: R) (fun v b' hp' => bv s = v ∧ (o, Cl 33 [sv q d r]) :: (p, Cl 38 [iv e, iv f, iv g, iv i, bv k, sv l a m]) :: R = hp') := by
 refine fE 14 Tryz.func19 rfl Tryz.ntmps19 rfl ?_
 unfold mFareCheapest_1 at hm
 refine Cr<|Do rfl (uB _ rfl rfl) ?_
 rintro _ _ ⟨L, rfl, rfl⟩
 refine As rfl rfl<|Te<|Cs ?_
 obtain ⟨n, C, hm⟩ := bS hm
 obtain ⟨t, D, hm⟩ := bS hm
 refine Di mixed (.refl _)<|Es 0 rfl (sL 1 rfl one33 rfl rfl)<|E0 1 rfl (sF rfl fld58_1)<|Es 2 rfl (sL 0 rfl one3 rfl rfl) ?_
 obtain ⟨E, F, G⟩ := iS C
 obtain ⟨O, H, I, x, J⟩ := FZ.get (sz := 3) rfl (by decide) A G
 obtain ⟨_, _, rfl, rfl, ⟨_, _, rfl, rfl, ⟨y, z, rfl, K⟩⟩⟩ := H
 refine E0 3 rfl (sI E rfl rfl F J x sl33)<|Es 4 rfl (sP (vs := [iv n.Days, iv n.Price, sv y n.Zones z]) 3 rfl agg29 x rfl (fun j u hu => I j u hu))<|E0 5 rfl (sF rfl fld58_0)<|Es 6 rfl (sL 0 rfl one3 rfl rfl)<|Es 7 rfl (sD (vs := [_, _, _, _, _, _]) 2 6 rfl agg38 rfl rfl rfl)<|Eo<|Da [8] (by kernel_rfl) rfl ?_
 refine Rd2 lr rfl rfl (uW _ call20 rfl (fun w ho => cFarePassCovers _ [] n c.Day (⟨e, f, g, i, k, a⟩ : FareTrip) y z l m (K.old ho) (B.old ho) t D) (fun _ _ _ h => h.2.symm)) ?_ ?_
 rintro _ _ ⟨⟨_, rfl, _⟩, rfl⟩
 refine ⟨.inr (.refl _), ?_⟩
 refine Ei lr (.refl _)<|E0 9 rfl (sA rfl)<|Eo<|Dd (by kernel_rfl)<|Xn<|Ct ?_
 obtain rfl := o1 hm
 refine Xp 2 rfl<|Xp 2 rfl ?_
 exact rM (rs := [.tmp 4]) (vs := [bv t]) ⟨rfl, trivial⟩ ⟨rfl, rfl⟩ (.cons_cons _ (.cons_cons _ (.cons _ (.refl _)))) lr
 exact Rn

set_option maxRecDepth 20000 in
theorem cSlicesIndexFunc_4 (b : Base) (R : Hp) (f : (List FarePass)) (h : Int) (i : Int) (k : Int) (l : Int) (m : Bool) (g : (List Int)) (a : (List FareBuy)) (c : Nat) (d : Nat) (n : OA) (o : Nat) (p : OA) (q : Nat) (x : OA) (y : Nat) (s : Hp) (H : FZ rFarePass b.w n o f) (I : FZ rI b.w p q g) (C : OS 58 (OT.fr rFareBuy) b.w (sv x a y) a s) (D : Int) (hm : mSlicesIndexFunc_4 f h i k l m g a = some D) :
    CallsG Tryz.prog 33 [sv x a y, .func (.func 19) #[] #[pb c, pb d]] b ((c, Cl 33 [sv n f o]) :: (d, Cl 38 [iv h, iv i, iv k, iv l, bv m, sv p g q]) :: (s ++ R)) (fun v b' hp' => iv D = v ∧ (c, Cl 33 [sv n f o]) :: (d, Cl 38 [iv h, iv i, iv k, iv l, bv m, sv p g q]) :: (s ++ R) = hp') := by
 refine fE 19 Tryz.func33 rfl Tryz.ntmps33 rfl ?_
 unfold mSlicesIndexFunc_4 at hm
 refine Cr<|As rfl rfl<|Te<|Cs<|Cr<|M rfl rfl<|Ts rfl (sE rfl sl34)<|M rfl rfl<|Te<|Cb ?_
 have ab : a.length ≤ 9223372036854775807 := (OS.len C)
 refine Cp 1 rfl<|Cp 1 rfl ?_
 obtain ⟨ac, J, t⟩ := bS hm
 refine cF (fun z => fun _ => fun A e' hp' => [(0, sv x a y), (1, .func (.func 19) #[] #[pb c, pb d]), (7, iv ((a.length : Int))), (8, iv ((z : Int)))] = e' ∧ (c, Cl 33 [sv n f o]) :: (d, Cl 38 [iv h, iv i, iv k, iv l, bv m, sv p g q]) :: (s ++ R) = hp' ∧ b.Le A) J ⟨rfl, rfl, lr⟩ (.refl _) ?_ ?_
 rintro z _ A _ _ ad ae ⟨rfl, rfl, e⟩ E K
 unfold mSlicesIndexFunc_4_L75 at E
 have hm := E
 refine Cr<|Ts rfl (lT rfl rfl (by omega))<|Te<|Cs<|c_cond_t rfl<|Ck<|Xn<|Cs<|Cb<|Cr ?_
 refine M rfl rfl<|As rfl rfl<|Te<|Cr<|M rfl rfl<|M rfl rfl<|M rfl rfl ?_
 obtain ⟨r, L, hm⟩ := bS hm
 obtain ⟨O, S, T⟩ := iS L
 obtain ⟨af, ag, ah, ai, aj, U, V, F, W, ak, al⟩ := OS.get (sz := 2) rfl (by decide) (C.le e) T
 obtain ⟨⟨_, _, rfl, rfl, rfl⟩, rfl⟩ := U
 refine Ts rfl (sI O rfl rfl S W F sl34)<|Ts rfl (st_loadN_rd (vs := [iv r.Day, iv r.Pass]) 2 rfl agg58 F rfl (fun w ho j u hu => V w _ ho (.cons _ (.cons _ (List.sublist_append_left _ _))) j u hu)) ?_
 obtain ⟨X, Y, hm⟩ := bS hm
 refine t_pullb 1 rfl<|t_pullb 1 rfl<|Tv #[] #[pb c, pb d] [.agg #[iv r.Day, iv r.Pass]] rfl rfl call19 rfl (cFareCheapest_1 _ _ r f h i k l m g c d n o p q (H.le e) (I.le e) X Y) ?_
 rintro _ am _ G ⟨rfl, rfl⟩
 refine Te ?_
 refine Cc _ rfl (fun B => ?_) (fun B => ?_)
 rw [if_pos B] at hm
 refine Cr<|M rfl rfl<|As rfl rfl<|Te<|Ct<|Xb<|Xr<|Xr<|Xb<|Xr ?_
 have Z := K _ (Option.some.inj hm).symm
 rw [Z] at t
 have hm := elimR t
 obtain rfl := o1 hm
 refine Xp 1 rfl<|Xp 1 rfl ?_
 exact rM (rs := [.tmp 4]) (vs := [iv ((z : Int))]) ⟨rfl, trivial⟩ ⟨rfl, rfl⟩ (.refl _) (e.trans G)
 rw [if_neg (fun hh => Bool.noConfusion (hh.symm.trans B))] at hm
 refine Ck<|Xm<|Xn<|Cg<|Ts rfl (sa rfl rfl (by omega))<|M rfl rfl<|Tn<|Xp 1 rfl<|Xp 1 rfl ?_
 exact xM hm ⟨rfl, rfl, ((e.trans G))⟩ (.refl _)
 rintro _ A _ _ ⟨rfl, rfl, e⟩ aa
 rw [aa] at t
 have hm := elimL t
 refine Cr<|Ts rfl (lF rfl rfl (by omega))<|Te<|Cs<|c_cond_f rfl<|Ce<|Xe<|Xe<|Xo<|Xn ?_
 refine Cr<|As rfl rfl<|Te<|Ct ?_
 obtain rfl := o1 hm
 refine Xp 1 rfl<|Xp 1 rfl ?_
 exact rM (rs := [.tmp 4]) (vs := [iv ((-1))]) ⟨rfl, trivial⟩ ⟨rfl, rfl⟩ (.refl _) e

set_option maxRecDepth 20000 in
theorem cSlicesContainsFunc_3 (b : Base) (R : Hp) (c : (List FarePass)) (f : Int) (g : Int) (h : Int) (i : Int) (j : Bool) (d : (List Int)) (e : (List FareBuy)) (k : Nat) (l : Nat) (m : OA) (n : Nat) (o : OA) (p : Nat) (q : OA) (r : Nat) (a : Hp) (u : FZ rFarePass b.w m n c) (w : FZ rI b.w o p d) (x : OS 58 (OT.fr rFareBuy) b.w (sv q e r) e a) (s : Bool) (hm : mSlicesContainsFunc_3 c f g h i j d e = some s) :
    CallsG Tryz.prog 18 [sv q e r, .func (.func 19) #[] #[pb k, pb l]] b ((k, Cl 33 [sv m c n]) :: (l, Cl 38 [iv f, iv g, iv h, iv i, bv j, sv o d p]) :: (a ++ R)) (fun v b' hp' => bv s = v ∧ (k, Cl 33 [sv m c n]) :: (l, Cl 38 [iv f, iv g, iv h, iv i, bv j, sv o d p]) :: (a ++ R) = hp') := by
 refine fE 9 Tryz.func18 rfl Tryz.ntmps18 rfl ?_
 unfold mSlicesContainsFunc_3 at hm
 refine Cr<|As rfl rfl<|Te<|Cr<|M rfl rfl<|M rfl rfl ?_
 obtain ⟨t, y, hm⟩ := bS hm
 refine t_pullb 1 rfl<|t_pullb 1 rfl<|t_out1 [_, _] [] a R rfl<|Tg _ rfl call33 rfl (cSlicesIndexFunc_4 _ _ c f g h i j d e k l m n o p q r a u w x t y) ?_
 rintro _ A _ z ⟨rfl, rfl⟩
 refine t_in1 [_, _] [] a R rfl<|Ts rfl (q6 rfl rfl)<|As rfl rfl<|Te<|Ct ?_
 obtain rfl := o1 hm
 refine Xp 1 rfl<|Xp 1 rfl ?_
 exact rM (rs := [.tmp 4]) (vs := [.bool (decide (0 ≤ t))]) ⟨rfl, trivial⟩ ⟨rfl, rfl⟩ (.refl _) z

set_option maxRecDepth 20000 in
theorem cCmpIsNaN (b : Base) (R : Hp) (a : Int) (c : Bool) (hm : mCmpIsNaN a = some c) :
    CallsG Tryz.prog 37 [iv a] b (R) (fun v b' hp' => bv c = v ∧ R = hp') := by
 refine fE 6 Tryz.func37 rfl Tryz.ntmps37 rfl ?_
 unfold mCmpIsNaN at hm
 refine Cr<|As rfl rfl<|Te<|Cr<|M rfl rfl<|M rfl rfl<|Ts rfl (q2 rfl rfl)<|As rfl rfl<|Te<|Ct ?_
 obtain rfl := o1 hm
 exact rM (rs := [.tmp 2]) (vs := [.bool (decide (a ≠ a))]) ⟨rfl, trivial⟩ ⟨rfl, rfl⟩ (.refl _) lr

set_option maxRecDepth 20000 in
theorem cCmpCompare (b : Base) (R : Hp) (a : Int) (c : Int) (j : Int) (hm : mCmpCompare a c = some j) :
    CallsG Tryz.prog 22 [iv a, iv c] b (R) (fun v b' hp' => iv j = v ∧ R = hp') := by
 refine fE 20 Tryz.func22 rfl Tryz.ntmps22 rfl ?_
 unfold mCmpCompare at hm
 refine Cr<|As rfl rfl<|Te<|Cr<|M rfl rfl ?_
 obtain ⟨k, l, hm⟩ := bS hm
 refine Do rfl (uW _ call37 rfl (fun w ho => cCmpIsNaN _ [] a k l) (fun _ _ _ h => h.2.symm)) ?_
 rintro _ _ ⟨⟨_, rfl, _⟩, rfl⟩
 refine As rfl rfl<|Te<|Cr<|M rfl rfl ?_
 obtain ⟨m, n, hm⟩ := bS hm
 refine Do rfl (uW _ call37 rfl (fun w ho => cCmpIsNaN _ [] c m n) (fun _ _ _ h => h.2.symm)) ?_
 rintro _ _ ⟨⟨_, rfl, _⟩, rfl⟩
 refine As rfl rfl<|Te<|Cs<|Cr<|M rfl rfl<|Te ?_
 refine Cc _ rfl (fun d => ?_) (fun d => ?_)
 rw [if_pos d] at hm
 refine Cs<|Cr<|M rfl rfl<|Te ?_
 refine Cc _ rfl (fun e => ?_) (fun e => ?_)
 rw [if_pos e] at hm
 refine Cr<|As rfl rfl<|Te<|Ct<|Xr<|Xr ?_
 obtain rfl := o1 hm
 exact rM (rs := [.tmp 4]) (vs := [iv 0]) ⟨rfl, trivial⟩ ⟨rfl, rfl⟩ (.refl _) lr
 rw [if_neg (fun hh => Bool.noConfusion (hh.symm.trans e))] at hm
 refine Ck<|Xn<|Cr<|As rfl rfl<|Te<|Ct<|Xr ?_
 obtain rfl := o1 hm
 exact rM (rs := [.tmp 4]) (vs := [iv ((-1))]) ⟨rfl, trivial⟩ ⟨rfl, rfl⟩ (.refl _) lr
 rw [if_neg (fun hh => Bool.noConfusion (hh.symm.trans d))] at hm
 refine Ck<|Xn<|Cs<|Cr<|M rfl rfl<|Te ?_
 refine Cc _ rfl (fun f => ?_) (fun f => ?_)
 rw [if_pos f] at hm
 refine Cr<|As rfl rfl<|Te<|Ct<|Xr ?_
 obtain rfl := o1 hm
 exact rM (rs := [.tmp 4]) (vs := [iv 1]) ⟨rfl, trivial⟩ ⟨rfl, rfl⟩ (.refl _) lr
 rw [if_neg (fun hh => Bool.noConfusion (hh.symm.trans f))] at hm
 refine Ck<|Xn<|Cs<|Cr<|M rfl rfl<|M rfl rfl<|Ts rfl (q3 rfl rfl)<|Te ?_
 refine Cc _ rfl (fun g => ?_) (fun g => ?_)
 rw [if_pos (of_decide_eq_true g)] at hm
 refine Cr<|As rfl rfl<|Te<|Ct<|Xr ?_
 obtain rfl := o1 hm
 exact rM (rs := [.tmp 4]) (vs := [iv ((-1))]) ⟨rfl, trivial⟩ ⟨rfl, rfl⟩ (.refl _) lr
 rw [if_neg (of_decide_eq_false g)] at hm
 refine Ck<|Xn<|Cs<|Cr<|M rfl rfl<|M rfl rfl<|Ts rfl (q5 rfl rfl)<|Te ?_
 refine Cc _ rfl (fun i => ?_) (fun i => ?_)
 rw [if_pos (of_decide_eq_true i)] at hm
 refine Cr<|As rfl rfl<|Te<|Ct<|Xr ?_
 obtain rfl := o1 hm
 exact rM (rs := [.tmp 4]) (vs := [iv 1]) ⟨rfl, trivial⟩ ⟨rfl, rfl⟩ (.refl _) lr
 rw [if_neg (of_decide_eq_false i)] at hm
 refine Ck<|Xn<|Cr<|As rfl rfl<|Te<|Ct ?_
 obtain rfl := o1 hm
 exact rM (rs := [.tmp 4]) (vs := [iv 0]) ⟨rfl, trivial⟩ ⟨rfl, rfl⟩ (.refl _) lr

set_option maxRecDepth 20000 in
theorem cCmpOr (b : Base) (R : Hp) (a : (List Int)) (e : OA) (f : Nat) (i : FZ rI b.w e f a) (j : Int) (hm : mCmpOr a = some j) :
    CallsG Tryz.prog 21 [sv e a f] b (R) (fun v b' hp' => iv j = v ∧ R = hp') := by
 refine fE 18 Tryz.func21 rfl Tryz.ntmps21 rfl ?_
 unfold mCmpOr at hm
 refine Cr<|As rfl rfl<|Te<|Cr<|As rfl rfl<|Te<|Cs<|Cr<|M rfl rfl<|Ts rfl (sE rfl sl27) ?_
 refine M rfl rfl<|Te<|Cb ?_
 have A : a.length ≤ 9223372036854775807 := (FZ.bd i)
 obtain ⟨B, m, d⟩ := bS hm
 refine cF (fun k => fun _ => fun g e' hp' => [(3, iv 0), (6, sv e a f), (7, iv ((a.length : Int))), (8, iv ((k : Int)))] = e' ∧ R = hp' ∧ b.Le g) m ⟨rfl, rfl, lr⟩ (.refl _) ?_ ?_
 rintro k _ g _ _ C D ⟨rfl, rfl, c⟩ l n
 unfold mCmpOr_L38 at l
 have hm := l
 refine Cr<|Ts rfl (lT rfl rfl (by omega))<|Te<|Cs<|c_cond_t rfl<|Ck<|Xn<|Cs<|Cb<|Cr ?_
 obtain ⟨o, p, hm⟩ := bS hm
 obtain ⟨q, r, s⟩ := iS p
 obtain ⟨E, t, u, w, x⟩ := FZ.get (sz := 1) rfl (by decide) (i.le c) s
 obtain rfl := t
 refine Ts rfl (sI q rfl rfl r x w sl27)<|Ts rfl (sO rfl one3 (u 0 _ rfl))<|As rfl rfl<|Te<|Cr<|M rfl rfl<|M rfl rfl<|Ts rfl (q2 rfl rfl)<|Te ?_
 refine Cc _ rfl (fun h => ?_) (fun h => ?_)
 rw [if_pos (of_decide_eq_true h)] at hm
 refine Cr<|M rfl rfl<|As rfl rfl<|Te<|Ct<|Xb<|Xr<|Xr<|Xb<|Xr ?_
 have y := n _ (Option.some.inj hm).symm
 rw [y] at d
 have hm := elimR d
 obtain rfl := o1 hm
 exact rM (rs := [.tmp 2]) (vs := [iv o]) ⟨rfl, trivial⟩ ⟨rfl, rfl⟩ (.refl _) c
 rw [if_neg (of_decide_eq_false h)] at hm
 refine Ck<|Xm<|Xn<|Cg<|Ts rfl (sa rfl rfl (by omega))<|M rfl rfl<|Tn ?_
 exact xM hm ⟨rfl, rfl, (c)⟩ (.refl _)
 rintro _ g _ _ ⟨rfl, rfl, c⟩ z
 rw [z] at d
 have hm := elimL d
 refine Cr<|Ts rfl (lF rfl rfl (by omega))<|Te<|Cs<|c_cond_f rfl<|Ce<|Xe<|Xe<|Xo<|Xn ?_
 refine Cr<|M rfl rfl<|As rfl rfl<|Te<|Ct ?_
 obtain rfl := o1 hm
 exact rM (rs := [.tmp 2]) (vs := [iv 0]) ⟨rfl, trivial⟩ ⟨rfl, rfl⟩ (.refl _) c

set_option maxRecDepth 20000 in
theorem cFareCompareBuys (b : Base) (R : Hp) (e : FareBuy) (f : FareBuy) (g : Int) (hm : mFareCompareBuys e f = some g) :
    CallsG Tryz.prog 24 [.agg #[iv e.Day, iv e.Pass], .agg #[iv f.Day, iv f.Pass]] b (R) (fun v b' hp' => iv g = v ∧ R = hp') := by
 refine fE 17 Tryz.func24 rfl Tryz.ntmps24 rfl ?_
 unfold mFareCompareBuys at hm
 refine Cr<|Do rfl (uB _ rfl rfl) ?_
 rintro _ _ ⟨u, rfl, rfl⟩
 refine Do rfl (uB _ rfl rfl) ?_
 rintro _ _ ⟨x, rfl, rfl⟩
 refine As rfl rfl<|Te ?_
 obtain ⟨i, k, m⟩ := bS hm
 refine Cj (fun j e' hp' => [(4, iv i)] = e' ∧ R = hp' ∧ b.Le j) ?_ ?_
 have hm := k
 obtain ⟨a, n, hm⟩ := bS hm
 obtain ⟨c, p, hm⟩ := bS hm
 obtain ⟨q, r, hm⟩ := bS hm
 refine Di mixed (.refl _)<|E0 0 rfl (sF rfl fld58_0)<|Es 1 rfl (sL 1 rfl one3 rfl rfl)<|E0 2 rfl (sF rfl fld58_0)<|Es 3 rfl (sL 0 rfl one3 rfl rfl)<|E0 5 rfl (sF rfl fld58_1)<|Es 6 rfl (sL 1 rfl one3 rfl rfl)<|E0 7 rfl (sF rfl fld58_1)<|Es 8 rfl (sL 0 rfl one3 rfl rfl)<|Eo ?_
 refine Da [4] (by kernel_rfl) rfl ?_
 refine Rd2 lr rfl rfl (uW _ call22 rfl (fun w ho => cCmpCompare _ [] e.Day f.Day a n) (fun _ _ _ h => h.2.symm)) ?_ ?_
 rintro _ _ ⟨⟨_, rfl, _⟩, rfl⟩
 refine ⟨.inr (.refl _), ?_⟩
 refine Da [9] (by kernel_rfl) rfl ?_
 refine Rd2 lr rfl rfl (uW _ call22 rfl (fun w ho => cCmpCompare _ [] e.Pass f.Pass c p) (fun _ _ _ h => h.2.symm)) ?_ ?_
 rintro _ _ ⟨⟨_, rfl, _⟩, rfl⟩
 refine ⟨.inr (.refl _), ?_⟩
 refine Da [10] (by kernel_rfl) rfl ?_
 refine Rd2 lr rfl rfl (u_bslice (el := 3) [(0, iv a), (1, iv c)] [iv a, iv c] rfl (fun _ => by kernel_rfl)) ?_ ?_
 rintro _ _ ⟨d, rfl, rfl⟩
 refine ⟨.inr (.cons _ (.refl _)), ?_⟩
 refine d_seg 0 [_, _] R rfl rfl ?_
 have s : OS 3 (OT.fr rI) b.w (.slice (some ⟨d, 0, none⟩) 2 2) [a, c] [(d, Cl 3 [iv a, iv c])] := OS.lit [[iv a], [iv c]] rfl ⟨rfl, ⟨rfl, trivial⟩⟩ rfl (by decide)
 refine Da [11] (by kernel_rfl) rfl ?_
 refine Rd2 lr rfl rfl (uW _ call21 rfl (fun w ho => cCmpOr _ [] [a, c] (some ⟨d, 0, none⟩) 2 (OS.now (o := (OT.fr rI)) (l := [a, c]) (hs := [(d, Cl 3 [iv a, iv c])]) s ho (.cons _ (.cons _ (List.sublist_append_left _ _)))) q r) (fun _ _ _ h => h.2.symm)) ?_ ?_
 rintro _ _ ⟨⟨_, rfl, _⟩, rfl⟩
 refine ⟨.inr (.cons_cons _ (.cons_cons _ (ss [(d, Cl 3 [iv a, iv c])] (.refl _)))), ?_⟩
 refine Ei lr (.cons_cons _ (.cons_cons _ (ss [(d, Cl 3 [iv a, iv c])] (.refl _))))<|E0 12 rfl (sA rfl)<|Eo<|Dd (by kernel_rfl) ?_
 obtain rfl := o1 hm
 exact xJ ⟨rfl, rfl, lr⟩ (.cons _ (.cons _ (ss [(d, Cl 3 [iv a, iv c])] (.refl _))))
 exact Rn
 exact Rn
 exact Rn
 exact Rn
 rintro j _ _ ⟨rfl, rfl, t⟩
 have hm := m
 refine Ct ?_
 obtain rfl := o1 hm
 exact rM (rs := [.tmp 4]) (vs := [iv i]) ⟨rfl, trivial⟩ ⟨rfl, rfl⟩ (.refl _) t

set_option maxRecDepth 20000 in
theorem cSlicesCompareFunc (b : Base) (R : Hp) (c : (List FareBuy)) (g : (List FareBuy)) (i : OA) (k : Nat) (l : OA) (m : Nat) (r : FZ rFareBuy b.w i k c) (C : FZ rFareBuy b.w l m g) (s : Int) (hm : mSlicesCompareFunc c g = some s) :
    CallsG Tryz.prog 23 [sv i c k, sv l g m, .func (.func 24) #[] #[]] b (R) (fun v b' hp' => iv s = v ∧ R = hp') := by
 refine fE 39 Tryz.func23 rfl Tryz.ntmps23 rfl ?_
 unfold mSlicesCompareFunc at hm
 refine Cr<|As rfl rfl<|Te<|Cs<|Cr<|M rfl rfl<|Ts rfl (sE rfl sl34)<|M rfl rfl<|Te<|Cb ?_
 have ab : c.length ≤ 9223372036854775807 := (FZ.bd r)
 obtain ⟨ac, D, d⟩ := bS hm
 refine cF (fun t => fun _ => fun n e' hp' => [(0, sv i c k), (1, sv l g m), (2, .func (.func 24) #[] #[]), (11, sv i c k), (12, iv ((c.length : Int))), (13, iv ((t : Int)))] = e' ∧ R = hp' ∧ b.Le n) D ⟨rfl, rfl, lr⟩ (.refl _) ?_ ?_
 rintro t _ n _ _ ad ae ⟨rfl, rfl, a⟩ x y
 unfold mSlicesCompareFunc_L74 at x
 have hm := x
 refine Cr<|Ts rfl (lT rfl rfl (by omega))<|Te<|Cs<|c_cond_t rfl<|Ck<|Xn<|Cs<|Cb<|Cr ?_
 refine M rfl rfl ?_
 obtain ⟨e, E, hm⟩ := bS hm
 obtain ⟨F, G, H⟩ := iS E
 obtain ⟨af, I, J, z, K⟩ := FZ.get (sz := 2) rfl (by decide) (r.le a) H
 obtain ⟨_, _, rfl, rfl, rfl⟩ := I
 refine Ts rfl (sI F rfl rfl G K z sl34)<|Ts rfl (sP (vs := [iv e.Day, iv e.Pass]) 2 rfl agg58 z rfl (fun j u hu => J j u hu))<|Do rfl (uA [iv 0, iv 0] zero58 rfl) ?_
 rintro _ _ ⟨ag, rfl, rfl⟩
 refine As rfl rfl<|Do rfl (uN (vs := [_, _]) 0 2 rfl rfl rfl siz58 rfl (mc rfl (mc rfl mn)) rfl (by simp)) ?_
 rintro _ _ rfl
 refine Te<|Cs<|Cr<|M rfl rfl<|M rfl rfl<|Ts rfl (sE rfl sl34)<|Ts rfl (q6 rfl rfl)<|Te ?_
 refine Cc _ rfl (fun o => ?_) (fun o => ?_)
 rw [if_pos (of_decide_eq_true o)] at hm
 refine Cr<|As rfl rfl<|Te<|Ct<|Xr<|Xb<|Xr<|Xr<|Xb<|Xr ?_
 have L := y _ (Option.some.inj hm).symm
 rw [L] at d
 have hm := elimR d
 obtain rfl := o1 hm
 exact rM (rs := [.tmp 6]) (vs := [iv 1]) ⟨rfl, trivial⟩ ⟨rfl, rfl⟩ (.cons _ (.refl _)) a
 rw [if_neg (of_decide_eq_false o)] at hm
 refine Ck<|Xn<|Cr<|M rfl rfl<|M rfl rfl ?_
 obtain ⟨f, O, hm⟩ := bS hm
 obtain ⟨S, T, U⟩ := iS O
 obtain ⟨ah, V, W, A, X⟩ := FZ.get (sz := 2) rfl (by decide) (C.le a) U
 obtain ⟨_, _, rfl, rfl, rfl⟩ := V
 refine Ts rfl (sI S rfl rfl T X A sl34)<|Ts rfl (sP (vs := [iv f.Day, iv f.Pass]) 2 rfl agg58 A rfl (fun j u hu => W j u hu))<|Do rfl (uA [iv 0, iv 0] zero58 rfl) ?_
 rintro _ _ ⟨ai, rfl, rfl⟩
 refine Do rfl (uN (vs := [_, _]) 0 2 rfl rfl rfl siz58 rfl (mc rfl (mc rfl mn)) rfl (by simp)) ?_
 rintro _ _ rfl
 refine Te<|Cr<|M rfl rfl<|Ts rfl (sD (vs := [_, _]) 1 2 rfl agg58 rfl rfl rfl)<|Ts rfl (sD (vs := [_, _]) 0 2 rfl agg58 rfl rfl rfl) ?_
 obtain ⟨B, Y, hm⟩ := bS hm
 refine Do rfl (u_callvW0 #[] #[] [.agg #[iv e.Day, iv e.Pass], .agg #[iv f.Day, iv f.Pass]] rfl call24 rfl (fun w ho => cFareCompareBuys _ [] e f B Y) (fun _ _ _ h => h.2.symm)) ?_
 rintro _ _ ⟨⟨_, rfl, _⟩, rfl⟩
 refine As rfl rfl<|Te<|Cr<|M rfl rfl<|Ts rfl (q2 rfl rfl)<|Te ?_
 refine Cc _ rfl (fun p => ?_) (fun p => ?_)
 rw [if_pos (of_decide_eq_true p)] at hm
 refine Cr<|M rfl rfl<|As rfl rfl<|Te<|Ct<|Xb<|Xr<|Xr<|Xb<|Xr ?_
 have Z := y _ (Option.some.inj hm).symm
 rw [Z] at d
 have hm := elimR d
 obtain rfl := o1 hm
 exact rM (rs := [.tmp 6]) (vs := [iv B]) ⟨rfl, trivial⟩ ⟨rfl, rfl⟩ (.cons _ (.cons _ (.refl _))) a
 rw [if_neg (of_decide_eq_false p)] at hm
 refine Ck<|Xm<|Xn<|Cg<|Ts rfl (sa rfl rfl (by omega))<|M rfl rfl<|Tn ?_
 exact xM hm ⟨rfl, rfl, (a)⟩ (.cons _ (.cons _ (.refl _)))
 rintro _ n _ _ ⟨rfl, rfl, a⟩ aa
 rw [aa] at d
 have hm := elimL d
 refine Cr<|Ts rfl (lF rfl rfl (by omega))<|Te<|Cs<|c_cond_f rfl<|Ce<|Xe<|Xe<|Xo<|Xn ?_
 refine Cs<|Cr<|M rfl rfl<|Ts rfl (sE rfl sl34)<|M rfl rfl<|Ts rfl (sE rfl sl34)<|Ts rfl (q3 rfl rfl)<|Te ?_
 refine Cc _ rfl (fun q => ?_) (fun q => ?_)
 rw [if_pos (of_decide_eq_true q)] at hm
 refine Cr<|As rfl rfl<|Te<|Ct<|Xr ?_
 obtain rfl := o1 hm
 exact rM (rs := [.tmp 6]) (vs := [iv ((-1))]) ⟨rfl, trivial⟩ ⟨rfl, rfl⟩ (.refl _) a
 rw [if_neg (of_decide_eq_false q)] at hm
 refine Ck<|Xn<|Cr<|As rfl rfl<|Te<|Ct ?_
 obtain rfl := o1 hm
 exact rM (rs := [.tmp 6]) (vs := [iv 0]) ⟨rfl, trivial⟩ ⟨rfl, rfl⟩ (.refl _) a

set_option maxRecDepth 20000 in
theorem cFareCheapest (b : Base) (R : Hp) (k : FareTariff) (g : (List FareTrip)) (e : (List FarePass)) (A2 : OA) (c3 : Nat) (A5 : OA) (c6 : Nat) (y : OA) (z : Nat) (t : OA) (x : Nat) (h4 : FZ rFareBand b.w A2 c3 k.Bands) (h7 : FZ rFareRule b.w A5 c6 k.Rules) (h10 : FZ rFareTrip b.w y z g) (h14 : FZ rFarePass b.w t x e) (x1240 : Int) (x1241 : Int) (l1242 : (List FareBuy)) (hm : mFareCheapest k g e = some (x1240, x1241, l1242)) :
    CallsG Tryz.prog 7 [.agg #[bv k.ByKm, sv A2 k.Bands c3, iv k.Round, sv A5 k.Rules c6], sv y g z, sv t e x] b (R) (fun v b' hp' => ∃ (A1237 : OA), ∃ (c1238 : Nat), ∃ (hs1236 : Hp), .tuple #[iv x1240, sv A1237 l1242 c1238, iv x1241] = v ∧ (hs1236 ++ R) = hp' ∧ OS 58 (OT.fr rFareBuy) b'.w (sv A1237 l1242 c1238) l1242 hs1236) := by
 refine fE 174 Tryz.func7 rfl Tryz.ntmps7 rfl ?_
 unfold mFareCheapest at hm
 refine Cr<|Do rfl (uB _ rfl rfl) ?_
 rintro _ _ ⟨g1243, rfl, rfl⟩
 refine Do rfl (uB _ rfl rfl) ?_
 rintro _ _ ⟨f, rfl, rfl⟩
 refine As rfl rfl<|As rfl rfl<|As rfl rfl<|Te<|Cs<|Cr<|Ts rfl (sD (vs := [_, _, _, _]) 1 4 rfl agg25 rfl rfl rfl) ?_
 obtain ⟨x1245, hcl1246, hm⟩ := bS hm
 refine Do rfl (uW _ call13 rfl (fun w ho => cFareCheckTariff _ [] k A2 c3 A5 c6 (h4.old ho) (h7.old ho) x1245 hcl1246) (fun _ _ _ h => h.2.symm)) ?_
 rintro _ _ ⟨⟨_, rfl, _⟩, rfl⟩
 refine As rfl rfl<|Te<|Cr<|M rfl rfl<|Ts rfl (q2 rfl rfl)<|Te ?_
 refine Cc _ rfl (fun hc1247 => ?_) (fun hc1247 => ?_)
 rw [if_pos (of_decide_eq_true hc1247)] at hm
 refine Cr<|M rfl rfl<|As rfl rfl<|As rfl rfl<|As rfl rfl<|Te<|Ct<|Xr ?_
 obtain ⟨rfl, rfl, rfl⟩ := some3 hm
 exact rM (rs := [.tmp 6, .tmp 7, .tmp 8]) (vs := [iv 0, sn, iv x1245]) ⟨rfl, ⟨rfl, ⟨rfl, trivial⟩⟩⟩ ⟨none, 0, [], rfl, rfl, OS.nil⟩ (.cons _ (.cons _ (.refl _))) lr
 rw [if_neg (of_decide_eq_false hc1247)] at hm
 refine Ck<|Xn<|Cs ?_
 obtain ⟨x1251, hj1252, hk1252⟩ := bS hm
 refine Cj (fun b1249 e' hp' => [(1, sv y g z), (3, pb g1243), (5, pb f), (41, bv x1251)] = e' ∧ (g1243, Cl 25 [bv k.ByKm, sv A2 k.Bands c3, iv k.Round, sv A5 k.Rules c6]) :: (f, Cl 33 [sv t e x]) :: R = hp' ∧ b.Le b1249) ?_ ?_
 have hm := hj1252
 refine Cg<|M rfl rfl<|Ts rfl (sE rfl sl26) ?_
 refine Tb rfl (q5 rfl rfl) (fun hc1253 => ?_) (fun hc1253 => ?_)
 rw [if_pos hc1253] at hm
 refine M rfl rfl<|No 37 rfl rfl rfl rfl rfl<|No 37 rfl rfl rfl rfl rfl<|No 37 rfl rfl rfl rfl rfl<|Ts rfl (pT rfl rfl)<|Tn ?_
 obtain rfl := o1 hm
 refine Xp 1 rfl ?_
 exact xJ ⟨rfl, rfl, lr⟩ (.refl _)
 rw [if_neg hc1253] at hm
 refine M rfl rfl<|Ys 37 rfl rfl rfl<|Ts rfl (sL 0 rfl one33 rfl rfl)<|Ys 37 rfl rfl rfl<|Ts rfl (sE rfl sl33)<|Ys 37 rfl rfl rfl<|Ts rfl (q5 rfl rfl)<|Ts rfl (pF rfl rfl)<|Tn ?_
 obtain rfl := o1 hm
 refine Xp 1 rfl ?_
 exact xJ ⟨rfl, rfl, lr⟩ (.refl _)
 rintro b1249 _ _ ⟨rfl, rfl, n⟩
 have hm := hk1252
 refine Cc _ rfl (fun hc1254 => ?_) (fun hc1254 => ?_)
 rw [if_pos hc1254] at hm
 refine Cr<|As rfl rfl<|As rfl rfl<|As rfl rfl<|Te<|Ct<|Xr ?_
 obtain ⟨rfl, rfl, rfl⟩ := some3 hm
 exact rM (rs := [.tmp 6, .tmp 7, .tmp 8]) (vs := [iv 0, sn, iv 4]) ⟨rfl, ⟨rfl, ⟨rfl, trivial⟩⟩⟩ ⟨none, 0, [], rfl, rfl, OS.nil⟩ (.cons _ (.cons _ (.refl _))) n
 rw [if_neg (fun hh => Bool.noConfusion (hh.symm.trans hc1254))] at hm
 refine Ck<|Xn<|Cr<|As rfl rfl<|Te<|Cs<|Cr<|M rfl rfl<|Ts rfl (sE rfl sl26)<|M rfl rfl ?_
 refine Te<|Cb ?_
 have hb1256 : g.length ≤ 9223372036854775807 := (FZ.bd (h10.le n))
 refine Cp 1 rfl<|Cp 1 rfl ?_
 obtain ⟨t1337, hl1338, hk1339⟩ := bS hm
 refine cF (fun k1336 => fun A => fun b1328 e' hp' => ∃ (O : OA), ∃ (S : Nat), ∃ (a : Hp), [(1, sv y g z), (3, pb g1243), (5, pb f), (10, sv O A S), (42, sv y g z), (43, iv ((g.length : Int))), (44, iv ((k1336 : Int)))] = e' ∧ (g1243, Cl 25 [bv k.ByKm, sv A2 k.Bands c3, iv k.Round, sv A5 k.Rules c6]) :: (f, Cl 33 [sv t e x]) :: (a ++ R) = hp' ∧ b1249.Le b1328 ∧ OS 3 (OT.fr rI) b1328.w (sv O A S) A a) hl1338 ⟨none, 0, [], rfl, rfl, lr, OS.nil⟩ (.refl _) ?_ ?_
 rintro k1336 A b1328 _ _ oL1255 hknL1255 ⟨O, S, a, rfl, rfl, p, h1334⟩ hstepL1255 houtL1255
 unfold mFareCheapest_L1255 at hstepL1255
 have hm := hstepL1255
 refine Cr<|Ts rfl (lT rfl rfl (by omega))<|Te<|Cs<|c_cond_t rfl<|Ck<|Xn<|Cs<|Cb<|Cr ?_
 obtain ⟨X, h1341, hm⟩ := bS hm
 obtain ⟨j1342, hj1343, hx1344⟩ := iS h1341
 obtain ⟨cs1345, hr1346, hcs1347, hA1348, hlt1349⟩ := FZ.get (sz := 6) rfl (by decide) (h10.le (n.trans p)) hx1344
 obtain ⟨_, _, rfl, rfl, ⟨_, _, rfl, rfl, ⟨_, _, rfl, rfl, ⟨_, _, rfl, rfl, ⟨_, _, rfl, rfl, ⟨A1350, c1351, rfl, h1352⟩⟩⟩⟩⟩⟩ := hr1346
 refine Ts rfl (sI j1342 rfl rfl hj1343 hlt1349 hA1348 sl26)<|Ts rfl (sP (vs := [iv X.Day, iv X.At, iv X.Km, iv X.Age, bv X.Card, sv A1350 X.Zones c1351]) 6 rfl agg38 hA1348 rfl (fun j u hu => hcs1347 j u hu))<|Do rfl (uA [iv 0, iv 0, iv 0, iv 0, .bool false, sn] zero38 rfl) ?_
 rintro _ _ ⟨g1353, rfl, rfl⟩
 refine Do rfl (uN (vs := [_, _, _, _, _, _]) 0 6 rfl rfl rfl siz38 rfl (mc rfl (mc rfl (mc rfl (mc rfl (mc rfl (mc rfl mn)))))) rfl (by simp)) ?_
 rintro _ _ rfl
 refine Te<|Cs<|Cr<|Ts rfl (sD (vs := [_, _, _, _, _, _]) 0 6 rfl agg38 rfl rfl rfl) ?_
 obtain ⟨x1354, hcl1355, hm⟩ := bS hm
 refine Do rfl (uW _ call14 rfl (fun w ho => cFareCheckTrip _ [] X A1350 c1351 (h1352.old ho) x1354 hcl1355) (fun _ _ _ h => h.2.symm)) ?_
 rintro _ _ ⟨⟨_, rfl, _⟩, rfl⟩
 refine As rfl rfl<|Te<|Cr<|M rfl rfl<|Ts rfl (q2 rfl rfl)<|Te ?_
 refine Cc _ rfl (fun hc1356 => ?_) (fun hc1356 => ?_)
 rw [if_pos (of_decide_eq_true hc1356)] at hm
 refine Cr<|M rfl rfl<|As rfl rfl<|As rfl rfl<|As rfl rfl<|Te<|Ct<|Xr<|Xb<|Xr ?_
 refine Xr<|Xb<|Xr ?_
 have hq1357 := houtL1255 _ (Option.some.inj hm).symm
 rw [hq1357] at hk1339
 have hm := elimR hk1339
 obtain ⟨rfl, rfl, rfl⟩ := some3 hm
 exact rM (rs := [.tmp 6, .tmp 7, .tmp 8]) (vs := [iv 0, sn, iv x1354]) ⟨rfl, ⟨rfl, ⟨rfl, trivial⟩⟩⟩ ⟨none, 0, [], rfl, rfl, OS.nil⟩ (.cons _ (.cons _ (.cons _ (ss a (.refl _))))) (n.trans p)
 rw [if_neg (of_decide_eq_false hc1356)] at hm
 refine Ck<|Xn<|Cr<|Ts rfl (sD (vs := [_, _, _, _]) 1 4 rfl agg25 rfl rfl rfl)<|Ts rfl (sD (vs := [_, _, _, _, _, _]) 0 6 rfl agg38 rfl rfl rfl) ?_
 obtain ⟨⟨x1358, l1359⟩, hcl1360, hm⟩ := bS hm
 have hm := (unc2E hm)
 refine Tg _ rfl call15 rfl (cFareTariffPrice _ _ k X A2 c3 A5 c6 A1350 c1351 (h4.le (n.trans p)) (h7.le (n.trans p)) h1352 x1358 l1359 hcl1360) ?_
 rintro _ b1361 _ hle1362 ⟨A1363, c1364, hs1365, rfl, rfl, h1366⟩
 refine t_in1 [] [_, _, _] hs1365 (a ++ R) rfl<|M rfl rfl<|Ts rfl (st_extract rfl rfl)<|Ts rfl (st_extract rfl rfl)<|As rfl rfl<|As rfl rfl<|Te<|Cg<|M rfl rfl<|M rfl rfl ?_
 refine Do rfl (u_bslice (el := 3) [(0, iv x1358)] [iv x1358] rfl (fun _ => by kernel_rfl)) ?_
 rintro _ _ ⟨g1367, rfl, rfl⟩
 obtain ⟨_, h1368, hm⟩ := bS hm
 have h1368 := room_some h1368
 refine t_front2 [_, _, _, _] hs1365 a R rfl<|Do rfl (uQ (r := rI) (l := A) [_, _, _, _] (hs1365 ++ R) [[iv x1358]] [x1358] rfl (by decide) sl27 inf3 rfl rfl rfl rfl (h1334.le hle1362) rfl (fun w ho => Rd.own (i := 0) ho rfl) ⟨rfl, trivial⟩ h1368) ?_
 rintro _ _ ⟨hs1369, rfl, h1370⟩
 obtain ⟨A1371, c1372, rfl, _⟩ := h1370.form
 refine As rfl rfl<|Tn<|Xm<|Xn<|Cg<|Ts rfl (sa rfl rfl (by omega))<|M rfl rfl<|Tn<|Xp 3 rfl<|Xp 3 rfl ?_
 exact xM hm ⟨A1371, c1372, hs1369, rfl, rfl, ((p.trans hle1362)), h1370⟩ (.cons_cons _ (.cons_cons _ (.cons _ (.cons _ (sp hs1369 (ss hs1365 (.refl _)))))))
 rintro A b1328 _ _ ⟨O, S, a, rfl, rfl, p, h1334⟩ hq1373
 rw [hq1373] at hk1339
 have hm := elimL hk1339
 refine Cr<|Ts rfl (lF rfl rfl (by omega))<|Te<|Cs<|c_cond_f rfl<|Ce<|Xe<|Xe<|Xo<|Xn ?_
 refine Cs<|Cr<|Ts rfl (sL 1 rfl one33 rfl rfl)<|Ts rfl (sE rfl sl33)<|M rfl rfl<|Te<|Cb ?_
 have hb1375 : e.length ≤ 9223372036854775807 := (FZ.bd (h14.le (n.trans p)))
 refine Cp 1 rfl ?_
 obtain ⟨t1411, hl1412, hk1413⟩ := bS hm
 refine cF (fun k1410 => fun _ => fun b1408 e' hp' => [(1, sv y g z), (5, pb f), (10, sv O A S), (64, sv t e x), (65, iv ((e.length : Int))), (66, iv ((k1410 : Int)))] = e' ∧ (f, Cl 33 [sv t e x]) :: (a ++ R) = hp' ∧ b1328.Le b1408) hl1412 ⟨rfl, rfl, lr⟩ (.cons_cons _ (.cons _ (.refl _))) ?_ ?_
 rintro k1410 _ b1408 _ _ oL1374 hknL1374 ⟨rfl, rfl, T⟩ hstepL1374 houtL1374
 unfold mFareCheapest_L1374 at hstepL1374
 have hm := hstepL1374
 refine Cr<|Ts rfl (lT rfl rfl (by omega))<|Te<|Cs<|c_cond_t rfl<|Ck<|Xn<|Cs<|Cb<|Cr ?_
 obtain ⟨U, h1415, hm⟩ := bS hm
 obtain ⟨j1416, hj1417, hx1418⟩ := iS h1415
 obtain ⟨cs1419, hr1420, hcs1421, hA1422, hlt1423⟩ := FZ.get (sz := 3) rfl (by decide) (h14.le (n.trans (p.trans T))) hx1418
 obtain ⟨_, _, rfl, rfl, ⟨_, _, rfl, rfl, ⟨A1424, c1425, rfl, h1426⟩⟩⟩ := hr1420
 refine Ts rfl (sI j1416 rfl rfl hj1417 hlt1423 hA1422 sl33)<|Ts rfl (sP (vs := [iv U.Days, iv U.Price, sv A1424 U.Zones c1425]) 3 rfl agg29 hA1422 rfl (fun j u hu => hcs1421 j u hu))<|Do rfl (uA [iv 0, iv 0, sn] zero29 rfl) ?_
 rintro _ _ ⟨g1427, rfl, rfl⟩
 refine Do rfl (uN (vs := [_, _, _]) 0 3 rfl rfl rfl siz29 rfl (mc rfl (mc rfl (mc rfl mn))) rfl (by simp)) ?_
 rintro _ _ rfl
 refine Te<|Cs ?_
 obtain ⟨x1435, hj1436, hk1436⟩ := bS hm
 refine Cj (fun b1433 e' hp' => [(1, sv y g z), (5, pb f), (10, sv O A S), (17, pb g1427), (64, sv t e x), (65, iv ((e.length : Int))), (66, iv ((k1410 : Int))), (79, bv x1435)] = e' ∧ (f, Cl 33 [sv t e x]) :: (g1427, Cl 29 [iv U.Days, iv U.Price, sv A1424 U.Zones c1425]) :: (a ++ R) = hp' ∧ b1408.Le b1433) ?_ ?_
 have hm := hj1436
 refine Cg<|Ts rfl (sF rfl fld29_0)<|Ts rfl (sL 0 rfl one3 rfl rfl) ?_
 obtain ⟨x1437, hcl1438, hm⟩ := bS hm
 refine Do rfl (uW _ call16 rfl (fun w ho => cFareWithin _ [] U.Days 1 7 x1437 hcl1438) (fun _ _ _ h => h.2.symm)) ?_
 rintro _ _ ⟨⟨_, rfl, _⟩, rfl⟩
 rcases Bool.eq_false_or_eq_true x1437 with hc1439 | hc1439
 rw [if_pos hc1439] at hm
 refine Tr 72 rfl (v' := .bool true) (by rw [hc1439] <;> rfl)<|Ts rfl (st_not_t rfl)<|M rfl rfl<|Ys 74 rfl rfl rfl<|Ts rfl (sF rfl fld29_1)<|Ys 74 rfl rfl rfl<|Ts rfl (sL 0 rfl one3 rfl rfl)<|Ys 74 rfl rfl rfl ?_
 obtain ⟨x1440, hcl1441, hm⟩ := bS hm
 refine Do rfl (uW _ call16 rfl (fun w ho => cFareWithin _ [] U.Price 0 100000 x1440 hcl1441) (fun _ _ _ h => h.2.symm)) ?_
 rintro _ _ ⟨⟨_, rfl, _⟩, rfl⟩
 refine Ys 74 rfl rfl rfl<|Ts rfl (sn2 rfl)<|Ts rfl (pF rfl rfl)<|Tn ?_
 obtain rfl := o1 hm
 refine Xp 1 rfl ?_
 exact xJ ⟨rfl, rfl, lr⟩ (.refl _)
 rw [if_neg (fun hh => Bool.noConfusion (hh.symm.trans hc1439))] at hm
 refine Tr 72 rfl (v' := .bool false) (by rw [hc1439] <;> rfl)<|Ts rfl (st_not_f rfl)<|M rfl rfl<|No 74 rfl rfl rfl rfl rfl<|No 74 rfl rfl rfl rfl rfl<|No 74 rfl rfl rfl rfl rfl<|No 74 rfl rfl rfl rfl rfl<|Ts rfl (pT rfl rfl)<|Tn ?_
 obtain rfl := o1 hm
 refine Xp 1 rfl ?_
 exact xJ ⟨rfl, rfl, lr⟩ (.refl _)
 rintro b1433 _ _ ⟨rfl, rfl, hle1434⟩
 have hm := hk1436
 refine Cc _ rfl (fun hc1442 => ?_) (fun hc1442 => ?_)
 rw [if_pos hc1442] at hm
 refine Cr<|As rfl rfl<|As rfl rfl<|As rfl rfl<|Te<|Ct<|Xr<|Xb<|Xr<|Xr ?_
 refine Xb<|Xr ?_
 have hq1443 := houtL1374 _ (Option.some.inj hm).symm
 rw [hq1443] at hk1413
 have hm := elimR hk1413
 obtain ⟨rfl, rfl, rfl⟩ := some3 hm
 exact rM (rs := [.tmp 6, .tmp 7, .tmp 8]) (vs := [iv 0, sn, iv 2]) ⟨rfl, ⟨rfl, ⟨rfl, trivial⟩⟩⟩ ⟨none, 0, [], rfl, rfl, OS.nil⟩ (.cons _ (.cons _ (ss a (.refl _)))) (n.trans (p.trans (T.trans hle1434)))
 rw [if_neg (fun hh => Bool.noConfusion (hh.symm.trans hc1442))] at hm
 refine Ck<|Xn<|Cr<|Ts rfl (sF rfl fld29_2)<|Ts rfl (sL 1 rfl one27 rfl rfl) ?_
 obtain ⟨x1444, hcl1445, hm⟩ := bS hm
 refine Do rfl (uW _ call17 rfl (fun w ho => cFareCheckZones _ [] U.Zones true A1424 c1425 ((h1426.le hle1434).old ho) x1444 hcl1445) (fun _ _ _ h => h.2.symm)) ?_
 rintro _ _ ⟨⟨_, rfl, _⟩, rfl⟩
 refine As rfl rfl<|Te<|Cr<|M rfl rfl<|Ts rfl (q2 rfl rfl)<|Te ?_
 refine Cc _ rfl (fun hc1446 => ?_) (fun hc1446 => ?_)
 rw [if_pos (of_decide_eq_true hc1446)] at hm
 refine Cr<|M rfl rfl<|As rfl rfl<|As rfl rfl<|As rfl rfl<|Te<|Ct<|Xb<|Xr<|Xr ?_
 refine Xb<|Xr ?_
 have hq1447 := houtL1374 _ (Option.some.inj hm).symm
 rw [hq1447] at hk1413
 have hm := elimR hk1413
 obtain ⟨rfl, rfl, rfl⟩ := some3 hm
 exact rM (rs := [.tmp 6, .tmp 7, .tmp 8]) (vs := [iv 0, sn, iv x1444]) ⟨rfl, ⟨rfl, ⟨rfl, trivial⟩⟩⟩ ⟨none, 0, [], rfl, rfl, OS.nil⟩ (.cons _ (.cons _ (ss a (.refl _)))) (n.trans (p.trans (T.trans hle1434)))
 rw [if_neg (of_decide_eq_false hc1446)] at hm
 refine Ck<|Xm<|Xn<|Cg<|Ts rfl (sa rfl rfl (by omega))<|M rfl rfl<|Tn ?_
 exact xM hm ⟨rfl, rfl, ((T.trans hle1434))⟩ (.cons_cons _ (.cons _ (.refl _)))
 rintro _ b1408 _ _ ⟨rfl, rfl, T⟩ hq1448
 rw [hq1448] at hk1413
 have hm := elimL hk1413
 refine Cr<|Ts rfl (lF rfl rfl (by omega))<|Te<|Cs<|c_cond_f rfl<|Ce<|Xe<|Xe<|Xo<|Xn ?_
 refine Cr<|As rfl rfl<|Te<|Cr<|As rfl rfl<|Te<|Cs<|Cr<|Ts rfl (sL 0 rfl one33 rfl rfl)<|Ts rfl (sE rfl sl33) ?_
 obtain ⟨_, h1449, hm⟩ := bS hm
 have h1449 := (kS h1449).2
 refine Ts rfl (st_mul rfl rfl h1449) ?_
 obtain ⟨_, h1450, hm⟩ := bS hm
 have h1450 := shN_some h1450
 refine Ts rfl (st_shl rfl rfl h1450)<|M rfl rfl<|Te<|Cb ?_
 obtain ⟨_, h1452, hm⟩ := bS hm
 have h1452 := (kS h1452).2
 obtain ⟨⟨V, B⟩, hl2130, hk2131⟩ := bS hm
 refine cS (fun aa => unc2 fun V B => fun b2120 e' hp' => ∃ (G : OA), ∃ (H : Nat), ∃ (c : Hp), [(1, sv y g z), (5, pb f), (10, sv O A S), (19, sv G B H), (20, iv V), (90, iv (shlI .i64 1 (7 * (e.length : Int)))), (91, iv ((aa : Int)))] = e' ∧ (f, Cl 33 [sv t e x]) :: (a ++ (c ++ R)) = hp' ∧ b1408.Le b2120 ∧ OS 58 (OT.fr rFareBuy) b2120.w (sv G B H) B c) hl2130 ⟨none, 0, [], rfl, rfl, lr, OS.nil⟩ (.refl _) ?_ ?_
 rintro aa ⟨V, B⟩ b2120 _ _ oL1451 hknL1451 ⟨G, H, c, rfl, rfl, W, h2126⟩ hstepL1451
 unfold mFareCheapest_L1451 at hstepL1451
 have hm := (unc2E hstepL1451)
 refine Cr<|Ts rfl (lT rfl rfl (by omega))<|Te<|Cs<|c_cond_t rfl<|Ck<|Xn<|Cs<|Cb<|Cr ?_
 refine M rfl rfl<|As rfl rfl<|Te<|Cr<|As rfl rfl<|Te<|Cs<|Cr<|Ts rfl (sL 0 rfl one33 rfl rfl)<|Ts rfl (sE rfl sl33) ?_
 obtain ⟨_, h2132, hm⟩ := bS hm
 have h2132 := (kS h2132).2
 refine Ts rfl (st_mul rfl rfl h2132)<|M rfl rfl<|Te<|Cb ?_
 obtain ⟨_, h2134, hm⟩ := bS hm
 have h2134 := (kS h2134).2
 refine c_front2 [_] a c R rfl<|c_front2 [_] c a R rfl ?_
 obtain ⟨m, hl2192, hk2193⟩ := bS hm
 refine cS (fun q => fun m => fun b2183 e' hp' => ∃ (I : OA), ∃ (J : Nat), ∃ (d : Hp), [(1, sv y g z), (5, pb f), (10, sv O A S), (19, sv G B H), (20, iv V), (21, iv ((aa : Int))), (22, sv I m J), (90, iv (shlI .i64 1 (7 * (e.length : Int)))), (91, iv ((aa : Int))), (96, iv (7 * (e.length : Int))), (97, iv ((q : Int)))] = e' ∧ (f, Cl 33 [sv t e x]) :: (a ++ (c ++ (d ++ R))) = hp' ∧ b2120.Le b2183 ∧ OS 58 (OT.fr rFareBuy) b2183.w (sv I m J) m d) hl2192 ⟨none, 0, [], rfl, rfl, lr, OS.nil⟩ (.refl _) ?_ ?_
 rintro q m b2183 _ _ oL2133 hknL2133 ⟨I, J, d, rfl, rfl, K, Y⟩ hstepL2133
 unfold mFareCheapest_L2133 at hstepL2133
 have hm := hstepL2133
 refine Cr<|Ts rfl (lT rfl rfl (by omega))<|Te<|Cs<|c_cond_t rfl<|Ck<|Xn<|Cs<|Cb<|Cr ?_
 refine M rfl rfl<|As rfl rfl<|Te<|Cr<|M rfl rfl<|M rfl rfl ?_
 obtain ⟨_, h2194, hm⟩ := bS hm
 have h2194 := shN_some h2194
 refine Ts rfl (st_shr rfl rfl h2194)<|Ts rfl (st_and rfl rfl)<|Ts rfl (q1 rfl rfl)<|Te ?_
 refine Cc _ rfl (fun hc2195 => ?_) (fun hc2195 => ?_)
 rw [if_pos (of_decide_eq_true hc2195)] at hm
 obtain ⟨_, h2205, hm⟩ := bS hm
 obtain ⟨_, h2206, hm⟩ := bS hm
 obtain ⟨_, h2207, hm⟩ := bS hm
 obtain ⟨_, h2209, hm⟩ := bS hm
 refine Di mixed (.cons_cons _ (sp a (sp c (ss d (.refl _)))))<|E0 0 rfl (sM rfl)<|E0 1 rfl (sM rfl)<|Es 2 rfl (sL 0 rfl one33 rfl rfl)<|E0 3 rfl (sE rfl sl33) ?_
 have h2206 := (kS h2206).2
 refine E0 4 rfl (st_quo rfl rfl (ne0_some h2205) h2206)<|E0 5 rfl (sM rfl)<|Es 6 rfl (sL 0 rfl one33 rfl rfl)<|E0 7 rfl (sE rfl sl33)<|E0 8 rfl (st_rem rfl rfl (ne0_some h2207))<|E0 9 rfl (sB (v := .agg #[iv (Int.tdiv (q : Int) (e.length : Int)), iv (Int.tmod (q : Int) (e.length : Int))]) [(0, iv (Int.tdiv (q : Int) (e.length : Int))), (1, iv (Int.tmod (q : Int) (e.length : Int)))] rfl (fun _ => by kernel_rfl))<|Eo<|Da [10] (by kernel_rfl) rfl ?_
 refine Rd2 lr rfl rfl (u_bslice (el := 58) [(0, .agg #[iv (Int.tdiv (q : Int) (e.length : Int)), iv (Int.tmod (q : Int) (e.length : Int))])] [iv (Int.tdiv (q : Int) (e.length : Int)), iv (Int.tmod (q : Int) (e.length : Int))] rfl (fun _ => by kernel_rfl)) ?_ ?_
 rintro _ _ ⟨g2208, rfl, rfl⟩
 refine ⟨.inr (.cons _ (.cons_cons _ (sp a (sp c (ss d (.refl _)))))), ?_⟩
 have h2209 := room_some h2209
 refine d3 [_, _] a c d R rfl<|Da [11] (by kernel_rfl) rfl ?_
 refine Rd2 lr rfl rfl (uQ (r := rFareBuy) (l := m) [_, _] (a ++ (c ++ R)) [[iv (Int.tdiv (q : Int) (e.length : Int)), iv (Int.tmod (q : Int) (e.length : Int))]] [(⟨Int.tdiv (q : Int) (e.length : Int), Int.tmod (q : Int) (e.length : Int)⟩ : FareBuy)] rfl (by decide) sl34 inf58 rfl rfl rfl rfl Y rfl (fun w ho => Rd.own (i := 0) ho rfl) ⟨⟨[iv (Int.tdiv (q : Int) (e.length : Int))], _, rfl, rfl, rfl⟩, trivial⟩ h2209) ?_ ?_
 rintro _ _ ⟨hs2210, rfl, h2211⟩
 obtain ⟨A2212, c2213, rfl, _⟩ := h2211.form
 refine ⟨.inr (.cons _ (.cons_cons _ (ss hs2210 (.refl _)))), ?_⟩
 refine Ei lr (.cons _ (.cons_cons _ (ss hs2210 (.refl _))))<|E0 12 rfl (sA rfl)<|Eo<|Dd (by kernel_rfl)<|Xm<|Xn<|Cg<|Ts rfl (sa rfl rfl (by omega))<|M rfl rfl<|Tn ?_
 refine Xp 1 rfl<|X3 [_, _] hs2210 a c R rfl<|X3 [_, _] c hs2210 a R rfl ?_
 obtain rfl := o1 hm
 exact xS ⟨A2212, c2213, hs2210, rfl, rfl, (K), h2211⟩ (.cons_cons _ (.cons _ (.refl _)))
 exact Rn
 exact Rn
 rw [if_neg (of_decide_eq_false hc2195)] at hm
 refine Ck<|Xm<|Xn<|Cg<|Ts rfl (sa rfl rfl (by omega))<|M rfl rfl<|Tn<|X3 [_] a c d R rfl<|X3 [_] d a c R rfl<|X3 [_] c d a R rfl ?_
 obtain rfl := o1 hm
 exact xS ⟨I, J, d, rfl, rfl, (K), Y⟩ (.refl _)
 rintro b2183 _ _ ⟨I, J, d, rfl, rfl, K, Y⟩
 have hm := hk2193
 refine Cr<|Ts rfl (lF rfl rfl (by omega))<|Te<|Cs<|c_cond_f rfl<|Ce<|Xe<|Xe<|Xo<|Xn ?_
 refine Cr<|As rfl rfl<|Te<|Cs<|Cr<|M rfl rfl<|Ts rfl (sE rfl sl34)<|M rfl rfl<|Te<|Cb ?_
 have hb2215 : m.length ≤ 9223372036854775807 := (OS.len Y)
 refine c_front3 [_] a c d R rfl<|c_front3 [_] d a c R rfl<|c_front3 [_] c d a R rfl ?_
 obtain ⟨x2281, hl2283, hk2284⟩ := bS hm
 refine cS (fun k2282 => fun x2281 => fun b2279 e' hp' => [(1, sv y g z), (5, pb f), (10, sv O A S), (19, sv G B H), (20, iv V), (22, sv I m J), (24, iv x2281), (90, iv (shlI .i64 1 (7 * (e.length : Int)))), (91, iv ((aa : Int))), (118, sv I m J), (119, iv ((m.length : Int))), (120, iv ((k2282 : Int)))] = e' ∧ (f, Cl 33 [sv t e x]) :: (a ++ (c ++ (d ++ R))) = hp' ∧ b2183.Le b2279) hl2283 ⟨rfl, rfl, lr⟩ (.refl _) ?_ ?_
 rintro k2282 x2281 b2279 _ _ oL2214 hknL2214 ⟨rfl, rfl, s⟩ hstepL2214
 unfold mFareCheapest_L2214 at hstepL2214
 have hm := hstepL2214
 refine Cr<|Ts rfl (lT rfl rfl (by omega))<|Te<|Cs<|c_cond_t rfl<|Ck<|Xn<|Cs<|Cb<|Cr ?_
 obtain ⟨x2285, h2286, hm⟩ := bS hm
 obtain ⟨j2287, hj2288, hx2289⟩ := iS h2286
 obtain ⟨cs2290, hs2295, P2296, P2297, hq2298, hr2291, hcs2292, hA2293, hlt2294, hb2299, hho2300⟩ := OS.get (sz := 2) rfl (by decide) (Y.le s) hx2289
 obtain ⟨⟨_, _, rfl, rfl, rfl⟩, rfl⟩ := hr2291
 refine Ts rfl (sI j2287 rfl rfl hj2288 hlt2294 hA2293 sl34)<|Ts rfl (st_loadN_rd (vs := [iv x2285.Day, iv x2285.Pass]) 2 rfl agg58 hA2293 rfl (fun w ho j u hu => hcs2292 w _ ho (.cons _ (ss a (ss c (List.sublist_append_left _ _)))) j u hu))<|Do rfl (uA [iv 0, iv 0] zero58 rfl) ?_
 rintro _ _ ⟨g2301, rfl, rfl⟩
 refine Do rfl (uN (vs := [_, _]) 0 2 rfl rfl rfl siz58 rfl (mc rfl (mc rfl mn)) rfl (by simp)) ?_
 rintro _ _ rfl
 refine Te<|Cg<|M rfl rfl<|Ts rfl (sL 1 rfl one33 rfl rfl)<|Ts rfl (sF rfl fld58_1)<|Ts rfl (sL 0 rfl one3 rfl rfl) ?_
 obtain ⟨x2302, h2303, hm⟩ := bS hm
 obtain ⟨j2304, hj2305, hx2306⟩ := iS h2303
 obtain ⟨cs2307, hr2308, hcs2309, hA2310, hlt2311⟩ := FZ.get (sz := 3) rfl (by decide) (h14.le (n.trans (p.trans (T.trans (W.trans (K.trans s)))))) hx2306
 obtain ⟨_, _, rfl, rfl, ⟨_, _, rfl, rfl, ⟨A2312, c2313, rfl, h2314⟩⟩⟩ := hr2308
 refine Ts rfl (sI j2304 rfl rfl hj2305 hlt2311 hA2310 sl33)<|Ts rfl (sQ rfl hA2310 fld29_1)<|Ts rfl (sO rfl one3 (hcs2309 1 _ rfl)) ?_
 obtain ⟨_, h2315, hm⟩ := bS hm
 have h2315 := (kS h2315).2
 refine Ts rfl (sa rfl rfl h2315)<|As rfl rfl<|Tn<|Xm<|Xn<|Cg<|Ts rfl (sa rfl rfl (by omega))<|M rfl rfl<|Tn<|Xp 1 rfl ?_
 refine X3 [_, _] a c d R rfl<|X3 [_, _] d a c R rfl<|X3 [_, _] c d a R rfl ?_
 obtain rfl := o1 hm
 exact xS ⟨rfl, rfl, (s)⟩ (.cons_cons _ (.cons _ (.refl _)))
 rintro b2279 _ _ ⟨rfl, rfl, s⟩
 have hm := hk2284
 refine Cr<|Ts rfl (lF rfl rfl (by omega))<|Te<|Cs<|c_cond_f rfl<|Ce<|Xe<|Xe<|Xo<|Xn ?_
 refine Cs<|Cr<|M rfl rfl<|Ts rfl (sE rfl sl26)<|M rfl rfl<|Te<|Cb ?_
 have hb2317 : g.length ≤ 9223372036854775807 := (FZ.bd (h10.le (n.trans (p.trans (T.trans (W.trans (K.trans s)))))))
 refine c_front3 [_] a c d R rfl<|c_front3 [_] d a c R rfl<|c_front3 [_] c d a R rfl ?_
 obtain ⟨x2393, hl2395, hk2396⟩ := bS hm
 refine cS (fun k2394 => fun x2393 => fun b2391 e' hp' => [(1, sv y g z), (5, pb f), (10, sv O A S), (19, sv G B H), (20, iv V), (22, sv I m J), (24, iv x2393), (90, iv (shlI .i64 1 (7 * (e.length : Int)))), (91, iv ((aa : Int))), (133, sv y g z), (134, iv ((g.length : Int))), (135, iv ((k2394 : Int)))] = e' ∧ (f, Cl 33 [sv t e x]) :: (a ++ (c ++ (d ++ R))) = hp' ∧ b2279.Le b2391) hl2395 ⟨rfl, rfl, lr⟩ (.refl _) ?_ ?_
 rintro k2394 x2393 b2391 _ _ oL2316 hknL2316 ⟨rfl, rfl, C⟩ hstepL2316
 unfold mFareCheapest_L2316 at hstepL2316
 have hm := hstepL2316
 refine Cr<|Ts rfl (lT rfl rfl (by omega))<|Te<|Cs<|c_cond_t rfl<|Ck<|Xn<|Cs<|Cb<|Cr ?_
 refine M rfl rfl ?_
 obtain ⟨L, h2398, hm⟩ := bS hm
 obtain ⟨j2399, hj2400, hx2401⟩ := iS h2398
 obtain ⟨cs2402, hr2403, hcs2404, hA2405, hlt2406⟩ := FZ.get (sz := 6) rfl (by decide) (h10.le (n.trans (p.trans (T.trans (W.trans (K.trans (s.trans C))))))) hx2401
 obtain ⟨_, _, rfl, rfl, ⟨_, _, rfl, rfl, ⟨_, _, rfl, rfl, ⟨_, _, rfl, rfl, ⟨_, _, rfl, rfl, ⟨A2407, c2408, rfl, h2409⟩⟩⟩⟩⟩⟩ := hr2403
 refine Ts rfl (sI j2399 rfl rfl hj2400 hlt2406 hA2405 sl26)<|Ts rfl (sP (vs := [iv L.Day, iv L.At, iv L.Km, iv L.Age, bv L.Card, sv A2407 L.Zones c2408]) 6 rfl agg38 hA2405 rfl (fun j u hu => hcs2404 j u hu))<|Do rfl (uA [iv 0, iv 0, iv 0, iv 0, .bool false, sn] zero38 rfl) ?_
 rintro _ _ ⟨g2410, rfl, rfl⟩
 refine As rfl rfl<|Do rfl (uN (vs := [_, _, _, _, _, _]) 0 6 rfl rfl rfl siz38 rfl (mc rfl (mc rfl (mc rfl (mc rfl (mc rfl (mc rfl mn)))))) rfl (by simp)) ?_
 rintro _ _ rfl
 refine Te<|Cr<|M rfl rfl<|Ts rfl (st_func _ _ rfl rfl) ?_
 obtain ⟨x2411, hcl2412, hm⟩ := bS hm
 refine t_pullb 1 rfl<|t_front3 [_, _] a c d R rfl<|t_out1 [_, _] [] d (a ++ (c ++ R)) rfl<|Tg _ rfl call18 rfl (cSlicesContainsFunc_3 _ _ e L.Day L.At L.Km L.Age L.Card L.Zones m f g2410 t x A2407 c2408 I J d (h14.le (n.trans (p.trans (T.trans (W.trans (K.trans (s.trans C))))))) h2409 (Y.le (s.trans C)) x2411 hcl2412) ?_
 rintro _ b2413 _ hle2414 ⟨rfl, rfl⟩
 refine t_in1 [_, _] [] d (a ++ (c ++ R)) rfl<|Ts rfl (sn2 rfl)<|Te ?_
 refine Cc _ rfl (fun hc2415 => ?_) (fun hc2415 => ?_)
 rw [if_neg (fun hh => Bool.noConfusion (hh.symm.trans (nt hc2415)))] at hm
 refine Cg<|M rfl rfl<|M rfl rfl<|M rfl rfl ?_
 obtain ⟨x2416, h2417, hm⟩ := bS hm
 obtain ⟨j2418, hj2419, hx2420⟩ := iS h2417
 obtain ⟨cs2421, hs2426, P2427, P2428, hq2429, hr2422, hcs2423, hA2424, hlt2425, hb2430, hho2431⟩ := OS.get (sz := 1) rfl (by decide) (h1334.le (T.trans (W.trans (K.trans (s.trans (C.trans hle2414)))))) hx2420
 obtain ⟨rfl, rfl⟩ := hr2422
 refine Ts rfl (sI j2418 rfl rfl hj2419 hlt2425 hA2424 sl27)<|Ts rfl (st_load_rd rfl one3 (fun w ho => hcs2423 w _ ho (.cons _ (.cons _ (ss d (List.sublist_append_left _ _)))) 0 _ rfl)) ?_
 obtain ⟨_, h2432, hm⟩ := bS hm
 have h2432 := (kS h2432).2
 refine Ts rfl (sa rfl rfl h2432)<|As rfl rfl<|Tn<|Xm<|Xn<|Cg<|Ts rfl (sa rfl rfl (by omega))<|M rfl rfl<|Tn<|X3 [_, _] d a c R rfl ?_
 refine X3 [_, _] c d a R rfl ?_
 obtain rfl := o1 hm
 exact xS ⟨rfl, rfl, ((C.trans hle2414))⟩ (.cons_cons _ (.cons _ (.refl _)))
 rw [if_pos (nf hc2415)] at hm
 refine Ck<|Xm<|Xn<|Cg<|Ts rfl (sa rfl rfl (by omega))<|M rfl rfl<|Tn<|X3 [_, _] d a c R rfl<|X3 [_, _] c d a R rfl ?_
 obtain rfl := o1 hm
 exact xS ⟨rfl, rfl, ((C.trans hle2414))⟩ (.cons_cons _ (.cons _ (.refl _)))
 rintro b2391 _ _ ⟨rfl, rfl, C⟩
 have hm := hk2396
 refine Cr<|Ts rfl (lF rfl rfl (by omega))<|Te<|Cs<|c_cond_f rfl<|Ce<|Xe<|Xe<|Xo<|Xn ?_
 obtain ⟨x2447, hj2448, hk2448⟩ := bS hm
 refine Cj (fun b2445 e' hp' => [(1, sv y g z), (5, pb f), (10, sv O A S), (19, sv G B H), (20, iv V), (22, sv I m J), (24, iv x2393), (90, iv (shlI .i64 1 (7 * (e.length : Int)))), (91, iv ((aa : Int))), (168, bv x2447)] = e' ∧ (f, Cl 33 [sv t e x]) :: (a ++ (c ++ (d ++ R))) = hp' ∧ b2391.Le b2445) ?_ ?_
 have hm := hj2448
 refine Cg<|M rfl rfl ?_
 refine Tb rfl (q3 rfl rfl) (fun hc2449 => ?_) (fun hc2449 => ?_)
 rw [if_pos hc2449] at hm
 refine M rfl rfl<|No 153 rfl rfl rfl rfl rfl<|No 153 rfl rfl rfl rfl rfl<|No 153 rfl rfl rfl rfl rfl<|No 153 rfl rfl rfl rfl rfl<|No 153 rfl rfl rfl rfl rfl<|No 153 rfl rfl rfl rfl rfl<|No 153 rfl rfl rfl rfl rfl<|No 153 rfl rfl rfl rfl rfl<|No 153 rfl rfl rfl rfl rfl ?_
 refine No 153 rfl rfl rfl rfl rfl<|No 153 rfl rfl rfl rfl rfl<|No 153 rfl rfl rfl rfl rfl<|No 153 rfl rfl rfl rfl rfl<|No 153 rfl rfl rfl rfl rfl<|Ts rfl (pT rfl rfl)<|Tn ?_
 obtain rfl := o1 hm
 refine X3 [_] a c d R rfl<|X3 [_] d a c R rfl<|X3 [_] c d a R rfl ?_
 exact xJ ⟨rfl, rfl, lr⟩ (.refl _)
 rw [if_neg hc2449] at hm
 refine M rfl rfl<|Ys 153 rfl rfl rfl<|M rfl rfl<|Ys 153 rfl rfl rfl<|M rfl rfl<|Ys 153 rfl rfl rfl ?_
 obtain ⟨D, hcl2451, hm⟩ := bS hm
 refine Do rfl (uW _ call22 rfl (fun w ho => cCmpCompare _ [] x2393 V D hcl2451) (fun _ _ _ h => h.2.symm)) ?_
 rintro _ _ ⟨⟨_, rfl, _⟩, rfl⟩
 refine Ys 153 rfl rfl rfl<|M rfl rfl<|Ys 153 rfl rfl rfl<|Ts rfl (sE rfl sl34)<|Ys 153 rfl rfl rfl<|M rfl rfl<|Ys 153 rfl rfl rfl<|Ts rfl (sE rfl sl34)<|Ys 153 rfl rfl rfl ?_
 obtain ⟨E, hcl2453, hm⟩ := bS hm
 refine Do rfl (uW _ call22 rfl (fun w ho => cCmpCompare _ [] (m.length : Int) (B.length : Int) E hcl2453) (fun _ _ _ h => h.2.symm)) ?_
 rintro _ _ ⟨⟨_, rfl, _⟩, rfl⟩
 refine Ys 153 rfl rfl rfl<|M rfl rfl<|Ys 153 rfl rfl rfl<|M rfl rfl<|Ys 153 rfl rfl rfl ?_
 obtain ⟨F, hcl2455, hm⟩ := bS hm
 refine Do rfl (uW _ call23 rfl (fun w ho => cSlicesCompareFunc _ [] m B I J G H (OS.now (o := (OT.fr rFareBuy)) (l := m) (hs := d) (Y.le (s.trans C)) ho (.cons _ (ss a (ss c (List.sublist_append_left _ _))))) (OS.now (o := (OT.fr rFareBuy)) (l := B) (hs := c) (h2126.le (K.trans (s.trans C))) ho (.cons _ (ss a (List.sublist_append_left _ _)))) F hcl2455) (fun _ _ _ h => h.2.symm)) ?_
 rintro _ _ ⟨⟨_, rfl, _⟩, rfl⟩
 refine Ys 153 rfl rfl rfl<|Do rfl (u_bslice (el := 3) [(0, iv D), (1, iv E), (2, iv F)] [iv D, iv E, iv F] rfl (fun _ => by kernel_rfl)) ?_
 rintro _ _ ⟨Z, rfl, rfl⟩
 refine Ys 153 rfl rfl rfl<|t_seg 0 [_] (a ++ (c ++ (d ++ R))) rfl rfl ?_
 have h2458 : OS 3 (OT.fr rI) b2391.w (.slice (some ⟨Z, 0, none⟩) 3 3) [D, E, F] [(Z, Cl 3 [iv D, iv E, iv F])] := OS.lit [[iv D], [iv E], [iv F]] rfl ⟨rfl, ⟨rfl, ⟨rfl, trivial⟩⟩⟩ rfl (by decide)
 obtain ⟨x2459, hcl2460, hm⟩ := bS hm
 refine Do rfl (uW _ call21 rfl (fun w ho => cCmpOr _ [] [D, E, F] (some ⟨Z, 0, none⟩) 3 (OS.now (o := (OT.fr rI)) (l := [D, E, F]) (hs := [(Z, Cl 3 [iv D, iv E, iv F])]) h2458 ho (.cons _ (List.sublist_append_left _ _))) x2459 hcl2460) (fun _ _ _ h => h.2.symm)) ?_
 rintro _ _ ⟨⟨_, rfl, _⟩, rfl⟩
 refine Ys 153 rfl rfl rfl<|Ts rfl (q3 rfl rfl)<|Ts rfl (pF rfl rfl)<|Tn ?_
 obtain rfl := o1 hm
 refine X4 [_] [(Z, Cl 3 [iv D, iv E, iv F])] a c d R rfl<|X4 [_] d [(Z, Cl 3 [iv D, iv E, iv F])] a c R rfl<|X4 [_] c d [(Z, Cl 3 [iv D, iv E, iv F])] a R rfl ?_
 exact xJ ⟨rfl, rfl, lr⟩ (.cons_cons _ (sp a (sp c (sp d (ss [(Z, Cl 3 [iv D, iv E, iv F])] (.refl _))))))
 rintro b2445 _ _ ⟨rfl, rfl, hle2446⟩
 have hm := hk2448
 refine Cc _ rfl (fun hc2461 => ?_) (fun hc2461 => ?_)
 rw [if_pos hc2461] at hm
 refine Cg<|M rfl rfl<|M rfl rfl<|As rfl rfl<|As rfl rfl<|Tn<|Xm<|Xn<|Cg<|Ts rfl (sa rfl rfl (by omega)) ?_
 refine M rfl rfl<|Tn<|X3 [_] a c d R rfl<|X2 [_] d a (c ++ R) rfl ?_
 obtain rfl := o1 hm
 exact xS ⟨I, J, d, rfl, rfl, ((W.trans (K.trans (s.trans (C.trans hle2446))))), (Y.le (s.trans (C.trans hle2446)))⟩ (.cons_cons _ (sp a (sp d (ss c (.refl _)))))
 rw [if_neg (fun hh => Bool.noConfusion (hh.symm.trans hc2461))] at hm
 refine Ck<|Xm<|Xn<|Cg<|Ts rfl (sa rfl rfl (by omega))<|M rfl rfl<|Tn<|X2 [_] a c (d ++ R) rfl<|X2 [_] c a (d ++ R) rfl ?_
 obtain rfl := o1 hm
 exact xS ⟨G, H, c, rfl, rfl, ((W.trans (K.trans (s.trans (C.trans hle2446))))), (h2126.le (K.trans (s.trans (C.trans hle2446))))⟩ (.cons_cons _ (sp a (sp c (ss d (.refl _)))))
 rintro b2120 _ _ ⟨G, H, c, rfl, rfl, W, h2126⟩
 have hm := (unc2E hk2131)
 refine Cr<|Ts rfl (lF rfl rfl (by omega))<|Te<|Cs<|c_cond_f rfl<|Ce<|Xe<|Xe<|Xo<|Xn ?_
 refine Cr<|M rfl rfl<|M rfl rfl<|As rfl rfl<|As rfl rfl<|As rfl rfl<|Te<|Ct ?_
 obtain ⟨rfl, rfl, rfl⟩ := some3 hm
 refine X2 [_] a c R rfl ?_
 exact rM (rs := [.tmp 6, .tmp 7, .tmp 8]) (vs := [iv V, sv G B H, iv 0]) ⟨rfl, ⟨rfl, ⟨rfl, trivial⟩⟩⟩ ⟨G, H, c, rfl, rfl, h2126⟩ (.cons _ (sp c (ss a (.refl _)))) (n.trans (p.trans (T.trans W)))

set_option maxRecDepth 20000 in
theorem cFishkeep2FareLess (b : Base) (R : Hp) (k : FareTariff) (n : (List FareTrip)) (a : FarePass) (c : FarePass) (r : OA) (s : Nat) (t : OA) (x : Nat) (y : OA) (z : Nat) (d : OA) (e : Nat) (f : OA) (g : Nat) (E : FZ rFareBand b.w r s k.Bands) (F : FZ rFareRule b.w t x k.Rules) (C : FZ rFareTrip b.w y z n) (K : FZ rI b.w d e a.Zones) (ag : FZ rI b.w f g c.Zones) (ah : Bool) (hm : mFishkeep2FareLess k n a c = some ah) :
    CallsG Tryz.prog 3 [.agg #[bv k.ByKm, sv r k.Bands s, iv k.Round, sv t k.Rules x], sv y n z, .agg #[iv a.Days, iv a.Price, sv d a.Zones e], .agg #[iv c.Days, iv c.Price, sv f c.Zones g]] b (R) (fun v b' hp' => bv ah = v ∧ R = hp') := by
 refine fE 130 Tryz.func3 rfl Tryz.ntmps3 rfl ?_
 unfold mFishkeep2FareLess at hm
 refine Cr<|Do rfl (uB _ rfl rfl) ?_
 rintro _ _ ⟨ai, rfl, rfl⟩
 refine Do rfl (uB _ rfl rfl) ?_
 rintro _ _ ⟨aj, rfl, rfl⟩
 refine Do rfl (uB _ rfl rfl) ?_
 rintro _ _ ⟨bl, rfl, rfl⟩
 refine As rfl rfl<|Te<|Cs<|Cr ?_
 obtain ⟨_, aB, hm⟩ := bS hm
 refine Do rfl (uW _ call4 rfl (fun w ho => cFishkeep2AwakeFare _ [] aB) (fun _ _ _ h => h.2.symm)) ?_
 rintro _ _ ⟨⟨_, rfl, _⟩, rfl⟩
 refine Ts rfl (st_not_t rfl)<|Te<|c_cond_f rfl<|Ck<|Xn<|Cs<|Cr ?_
 obtain ⟨aC, aD, hm⟩ := bS hm
 refine Do rfl (uW _ call5 rfl (fun w ho => cFishkeep2Fares _ [] aC aD) (fun _ _ _ h => h.2.symm)) ?_
 rintro _ _ ⟨⟨_, rfl, _⟩, rfl⟩
 refine Ts rfl (sn2 rfl)<|Te ?_
 refine Cc _ rfl (fun O => ?_) (fun O => ?_)
 rw [if_neg (fun hh => Bool.noConfusion (hh.symm.trans (nt O)))] at hm
 refine Cr<|As rfl rfl<|Te<|Ct<|Xr ?_
 obtain rfl := o1 hm
 exact rM (rs := [.tmp 8]) (vs := [bv false]) ⟨rfl, trivial⟩ ⟨rfl, rfl⟩ (.cons _ (.cons _ (.cons _ (.refl _)))) lr
 rw [if_pos (nf O)] at hm
 refine Ck<|Xn<|Cs<|Cr<|Ts rfl (sD (vs := [_, _, _, _]) 2 4 rfl agg25 rfl rfl rfl)<|M rfl rfl<|Ts rfl (sD (vs := [_, _, _]) 1 3 rfl agg29 rfl rfl rfl)<|Ts rfl (sD (vs := [_, _, _]) 0 3 rfl agg29 rfl rfl rfl)<|Do rfl (u_bslice (el := 29) [(0, .agg #[iv a.Days, iv a.Price, sv d a.Zones e]), (1, .agg #[iv c.Days, iv c.Price, sv f c.Zones g])] [iv a.Days, iv a.Price, sv d a.Zones e, iv c.Days, iv c.Price, sv f c.Zones g] rfl (fun _ => by kernel_rfl)) ?_
 rintro _ _ ⟨p, rfl, rfl⟩
 refine t_seg 0 [_, _, _] R rfl rfl ?_
 have aE : OS 29 (OT.fr rFarePass) b.w (.slice (some ⟨p, 0, none⟩) 2 2) [a, c] [(p, Cl 29 [iv a.Days, iv a.Price, sv d a.Zones e, iv c.Days, iv c.Price, sv f c.Zones g])] := OS.lit [[iv a.Days, iv a.Price, sv d a.Zones e], [iv c.Days, iv c.Price, sv f c.Zones g]] rfl ⟨⟨[iv a.Days], _, rfl, rfl, ⟨[iv a.Price], _, rfl, rfl, (RT.list_mk K)⟩⟩, ⟨⟨[iv c.Days], _, rfl, rfl, ⟨[iv c.Price], _, rfl, rfl, (RT.list_mk ag)⟩⟩, trivial⟩⟩ rfl (by decide)
 obtain ⟨aF, aG, hm⟩ := bS hm
 refine Do rfl (uW _ call6 rfl (fun w ho => cFishref2CheapestFault _ [] k n [a, c] r s t x y z (some ⟨p, 0, none⟩) 2 (E.old ho) (F.old ho) (C.old ho) (OS.now (o := (OT.fr rFarePass)) (l := [a, c]) (hs := [(p, Cl 29 [iv a.Days, iv a.Price, sv d a.Zones e, iv c.Days, iv c.Price, sv f c.Zones g])]) aE ho (.cons _ (.cons _ (.cons _ (List.sublist_append_left _ _))))) aF aG) (fun _ _ _ h => h.2.symm)) ?_
 rintro _ _ ⟨⟨_, rfl, _⟩, rfl⟩
 refine Ts rfl (q2 rfl rfl)<|Te ?_
 refine Cc _ rfl (fun S => ?_) (fun S => ?_)
 rw [if_pos (of_decide_eq_true S)] at hm
 refine Cr<|As rfl rfl<|Te<|Ct<|Xr ?_
 obtain rfl := o1 hm
 exact rM (rs := [.tmp 8]) (vs := [bv true]) ⟨rfl, trivial⟩ ⟨rfl, rfl⟩ (.cons _ (.cons _ (.cons _ (ss [(p, Cl 29 [iv a.Days, iv a.Price, sv d a.Zones e, iv c.Days, iv c.Price, sv f c.Zones g])] (.refl _))))) lr
 rw [if_neg (of_decide_eq_false S)] at hm
 refine Ck<|Xn<|Cr<|Ts rfl (sD (vs := [_, _, _, _]) 2 4 rfl agg25 rfl rfl rfl)<|M rfl rfl ?_
 obtain ⟨⟨ak, al, aH⟩, aI, hm⟩ := bS hm
 have hm := (unc3E hm)
 refine Tg _ rfl call7 rfl (cFareCheapest _ _ k n [] r s t x y z none 0 E F C FZ.nil ak al aH aI) ?_
 rintro _ J _ i ⟨bm, bn, G, rfl, rfl, bo⟩
 refine t_in1 [] [_, _, _] G ([(p, Cl 29 [iv a.Days, iv a.Price, sv d a.Zones e, iv c.Days, iv c.Price, sv f c.Zones g])] ++ R) rfl<|M rfl rfl<|Ts rfl (st_extract rfl rfl)<|Ts rfl (st_extract rfl rfl)<|Ts rfl (st_extract rfl rfl)<|As rfl rfl<|As rfl rfl<|As rfl rfl<|Te<|Cr ?_
 refine Ts rfl (sD (vs := [_, _, _, _]) 2 4 rfl agg25 rfl rfl rfl)<|M rfl rfl<|Ts rfl (sD (vs := [_, _, _]) 1 3 rfl agg29 rfl rfl rfl)<|Do rfl (u_bslice (el := 29) [(0, .agg #[iv a.Days, iv a.Price, sv d a.Zones e])] [iv a.Days, iv a.Price, sv d a.Zones e] rfl (fun _ => by kernel_rfl)) ?_
 rintro _ _ ⟨A, rfl, rfl⟩
 refine t_seg 0 [_, _, _] (G ++ ([(p, Cl 29 [iv a.Days, iv a.Price, sv d a.Zones e, iv c.Days, iv c.Price, sv f c.Zones g])] ++ R)) rfl rfl ?_
 have aJ : OS 29 (OT.fr rFarePass) J.w (.slice (some ⟨A, 0, none⟩) 1 1) [a] [(A, Cl 29 [iv a.Days, iv a.Price, sv d a.Zones e])] := OS.lit [[iv a.Days, iv a.Price, sv d a.Zones e]] rfl ⟨⟨[iv a.Days], _, rfl, rfl, ⟨[iv a.Price], _, rfl, rfl, (RT.list_mk (K.le i))⟩⟩, trivial⟩ rfl (by decide)
 obtain ⟨⟨am, an, aK⟩, aL, hm⟩ := bS hm
 have hm := (unc3E hm)
 refine Do rfl (u_callWF [_, _, _] ([(A, Cl 29 [iv a.Days, iv a.Price, sv d a.Zones e])] ++ (G ++ ([(p, Cl 29 [iv a.Days, iv a.Price, sv d a.Zones e, iv c.Days, iv c.Price, sv f c.Zones g])] ++ R))) _ rfl call7 rfl (fun w ho => cFareCheapest _ [] k n [a] r s t x y z (some ⟨A, 0, none⟩) 1 ((E.le i).old ho) ((F.le i).old ho) ((C.le i).old ho) (OS.now (o := (OT.fr rFarePass)) (l := [a]) (hs := [(A, Cl 29 [iv a.Days, iv a.Price, sv d a.Zones e])]) aJ ho (.cons _ (.cons _ (.cons _ (List.sublist_append_left _ _))))) am an aK aL)) ?_
 rintro _ _ ⟨_, _, rfl, bp, bq, T, rfl, aM, aN⟩
 obtain rfl := List.append_cancel_right aM
 have br := flat_fz (w' := J.w) (cat_flat (fun _ _ _ _ h => h) (fun _ _ _ _ h => h)) aN
 refine M rfl rfl<|Ts rfl (st_extract rfl rfl)<|Ts rfl (st_extract rfl rfl)<|Ts rfl (st_extract rfl rfl)<|As rfl rfl<|As rfl rfl<|As rfl rfl<|Te<|Cr<|Ts rfl (sD (vs := [_, _, _, _]) 2 4 rfl agg25 rfl rfl rfl) ?_
 refine M rfl rfl<|Ts rfl (sD (vs := [_, _, _]) 1 3 rfl agg29 rfl rfl rfl)<|Ts rfl (sD (vs := [_, _, _]) 0 3 rfl agg29 rfl rfl rfl)<|Do rfl (u_bslice (el := 29) [(0, .agg #[iv a.Days, iv a.Price, sv d a.Zones e]), (1, .agg #[iv c.Days, iv c.Price, sv f c.Zones g])] [iv a.Days, iv a.Price, sv d a.Zones e, iv c.Days, iv c.Price, sv f c.Zones g] rfl (fun _ => by kernel_rfl)) ?_
 rintro _ _ ⟨H, rfl, rfl⟩
 refine t_seg 0 [_, _, _] (T ++ ([(A, Cl 29 [iv a.Days, iv a.Price, sv d a.Zones e])] ++ (G ++ ([(p, Cl 29 [iv a.Days, iv a.Price, sv d a.Zones e, iv c.Days, iv c.Price, sv f c.Zones g])] ++ R)))) rfl rfl ?_
 have aO : OS 29 (OT.fr rFarePass) J.w (.slice (some ⟨H, 0, none⟩) 2 2) [a, c] [(H, Cl 29 [iv a.Days, iv a.Price, sv d a.Zones e, iv c.Days, iv c.Price, sv f c.Zones g])] := OS.lit [[iv a.Days, iv a.Price, sv d a.Zones e], [iv c.Days, iv c.Price, sv f c.Zones g]] rfl ⟨⟨[iv a.Days], _, rfl, rfl, ⟨[iv a.Price], _, rfl, rfl, (RT.list_mk (K.le i))⟩⟩, ⟨⟨[iv c.Days], _, rfl, rfl, ⟨[iv c.Price], _, rfl, rfl, (RT.list_mk (ag.le i))⟩⟩, trivial⟩⟩ rfl (by decide)
 obtain ⟨⟨ao, aq, aP⟩, aQ, hm⟩ := bS hm
 have hm := (unc3E hm)
 refine Do rfl (u_callWF [_, _, _] ([(H, Cl 29 [iv a.Days, iv a.Price, sv d a.Zones e, iv c.Days, iv c.Price, sv f c.Zones g])] ++ (T ++ ([(A, Cl 29 [iv a.Days, iv a.Price, sv d a.Zones e])] ++ (G ++ ([(p, Cl 29 [iv a.Days, iv a.Price, sv d a.Zones e, iv c.Days, iv c.Price, sv f c.Zones g])] ++ R))))) _ rfl call7 rfl (fun w ho => cFareCheapest _ [] k n [a, c] r s t x y z (some ⟨H, 0, none⟩) 2 ((E.le i).old ho) ((F.le i).old ho) ((C.le i).old ho) (OS.now (o := (OT.fr rFarePass)) (l := [a, c]) (hs := [(H, Cl 29 [iv a.Days, iv a.Price, sv d a.Zones e, iv c.Days, iv c.Price, sv f c.Zones g])]) aO ho (.cons _ (.cons _ (.cons _ (List.sublist_append_left _ _))))) ao aq aP aQ)) ?_
 rintro _ _ ⟨_, _, rfl, bs, bt, aR, rfl, aS, aT⟩
 obtain rfl := List.append_cancel_right aS
 have bu := flat_fz (w' := J.w) (cat_flat (fun _ _ _ _ h => h) (fun _ _ _ _ h => h)) aT
 refine M rfl rfl<|Ts rfl (st_extract rfl rfl)<|Ts rfl (st_extract rfl rfl)<|Ts rfl (st_extract rfl rfl)<|As rfl rfl<|As rfl rfl<|As rfl rfl<|Te<|Cr<|As rfl rfl ?_
 refine Te<|Cs<|Cr<|M rfl rfl<|Ts rfl (sE rfl sl26)<|M rfl rfl<|Te<|Cb ?_
 have bw : n.length ≤ 9223372036854775807 := (FZ.bd (C.le i))
 refine Cp 1 rfl<|Cp 2 rfl ?_
 obtain ⟨bx, aU, L⟩ := bS hm
 refine cF (fun ar => fun U => fun I e' hp' => [(1, sv y n z), (4, pb ai), (6, pb aj), (9, iv ak), (11, iv al), (12, iv am), (14, iv an), (15, iv ao), (17, iv aq), (18, iv U), (64, sv y n z), (65, iv ((n.length : Int))), (66, iv ((ar : Int)))] = e' ∧ (ai, Cl 25 [bv k.ByKm, sv r k.Bands s, iv k.Round, sv t k.Rules x]) :: (aj, Cl 29 [iv a.Days, iv a.Price, sv d a.Zones e]) :: R = hp' ∧ J.Le I) aU ⟨rfl, rfl, lr⟩ (.cons_cons _ (.cons_cons _ (.cons _ (ss aR (ss [(H, Cl 29 [iv a.Days, iv a.Price, sv d a.Zones e, iv c.Days, iv c.Price, sv f c.Zones g])] (ss T (ss [(A, Cl 29 [iv a.Days, iv a.Price, sv d a.Zones e])] (ss G (ss [(p, Cl 29 [iv a.Days, iv a.Price, sv d a.Zones e, iv c.Days, iv c.Price, sv f c.Zones g])] (.refl _)))))))))) ?_ ?_
 rintro ar U I _ _ bz bA ⟨rfl, rfl, q⟩ au aV
 unfold mFishkeep2FareLess_L242 at au
 have hm := au
 refine Cr<|Ts rfl (lT rfl rfl (by omega))<|Te<|Cs<|c_cond_t rfl<|Ck<|Xn<|Cs<|Cb<|Cr ?_
 obtain ⟨D, aW, hm⟩ := bS hm
 obtain ⟨aX, aY, aZ⟩ := iS aW
 obtain ⟨bB, a0, a1, av, a2⟩ := FZ.get (sz := 6) rfl (by decide) (C.le (i.trans q)) aZ
 obtain ⟨_, _, rfl, rfl, ⟨_, _, rfl, rfl, ⟨_, _, rfl, rfl, ⟨_, _, rfl, rfl, ⟨_, _, rfl, rfl, ⟨aw, ax, rfl, a3⟩⟩⟩⟩⟩⟩ := a0
 refine Ts rfl (sI aX rfl rfl aY a2 av sl26)<|Ts rfl (sP (vs := [iv D.Day, iv D.At, iv D.Km, iv D.Age, bv D.Card, sv aw D.Zones ax]) 6 rfl agg38 av rfl (fun j u hu => a1 j u hu))<|Do rfl (uA [iv 0, iv 0, iv 0, iv 0, .bool false, sn] zero38 rfl) ?_
 rintro _ _ ⟨bC, rfl, rfl⟩
 refine Do rfl (uN (vs := [_, _, _, _, _, _]) 0 6 rfl rfl rfl siz38 rfl (mc rfl (mc rfl (mc rfl (mc rfl (mc rfl (mc rfl mn)))))) rfl (by simp)) ?_
 rintro _ _ rfl
 refine Te<|Cr<|Ts rfl (sD (vs := [_, _, _, _]) 1 4 rfl agg25 rfl rfl rfl)<|Ts rfl (sD (vs := [_, _, _, _, _, _]) 0 6 rfl agg38 rfl rfl rfl) ?_
 obtain ⟨⟨a4, a5, a6⟩, a7, hm⟩ := bS hm
 have hm := (unc3E hm)
 refine Tg _ rfl call8 rfl (cFarePrice _ _ k D r s t x aw ax (E.le (i.trans q)) (F.le (i.trans q)) a3 a4 a5 a6 a7) ?_
 rintro _ bD _ ay ⟨bE, bF, V, rfl, rfl, bG⟩
 refine t_in1 [] [_, _, _] V R rfl<|M rfl rfl<|Ts rfl (st_extract rfl rfl)<|Ts rfl (st_extract rfl rfl)<|Ts rfl (st_extract rfl rfl)<|As rfl rfl<|As rfl rfl<|As rfl rfl<|Te<|Cs ?_
 refine Cr<|M rfl rfl<|Ts rfl (q2 rfl rfl)<|Te ?_
 refine Cc _ rfl (fun W => ?_) (fun W => ?_)
 rw [if_pos (of_decide_eq_true W)] at hm
 refine Cr<|As rfl rfl<|Te<|Ct<|Xr<|Xb<|Xr<|Xr<|Xb<|Xr ?_
 have a8 := aV _ (Option.some.inj hm).symm
 rw [a8] at L
 have hm := elimR L
 obtain rfl := o1 hm
 exact rM (rs := [.tmp 8]) (vs := [bv false]) ⟨rfl, trivial⟩ ⟨rfl, rfl⟩ (.cons _ (.cons _ (.cons _ (ss V (.refl _))))) (i.trans (q.trans ay))
 rw [if_neg (of_decide_eq_false W)] at hm
 refine Ck<|Xn<|Cg<|M rfl rfl<|M rfl rfl ?_
 obtain ⟨_, X, hm⟩ := bS hm
 have X := (kS X).2
 refine Ts rfl (sa rfl rfl X)<|As rfl rfl<|Tn<|Xm<|Xn<|Cg<|Ts rfl (sa rfl rfl (by omega))<|M rfl rfl<|Tn<|Xp 2 rfl ?_
 refine Xp 2 rfl ?_
 exact xM hm ⟨rfl, rfl, ((q.trans ay))⟩ (.cons_cons _ (.cons_cons _ (.cons _ (ss V (.refl _)))))
 rintro U I _ _ ⟨rfl, rfl, q⟩ a9
 rw [a9] at L
 have hm := elimL L
 refine Cr<|Ts rfl (lF rfl rfl (by omega))<|Te<|Cs<|c_cond_f rfl<|Ce<|Xe<|Xe<|Xo<|Xn ?_
 refine Cr<|Ts rfl (sF rfl fld29_1)<|Ts rfl (sL 1 rfl one3 rfl rfl) ?_
 obtain ⟨_, ba, hm⟩ := bS hm
 obtain ⟨_, Y, hm⟩ := bS hm
 have Y := (kS Y).2
 refine Ts rfl (st_quo rfl rfl (ne0_some ba) Y)<|Ts rfl (sF rfl fld29_1)<|Do rfl (uS 1 rfl rfl siz3 rfl rfl (by simp)) ?_
 rintro _ _ rfl
 refine Te<|Cr<|Ts rfl (sD (vs := [_, _, _, _]) 0 4 rfl agg25 rfl rfl rfl)<|M rfl rfl<|Ts rfl (sD (vs := [_, _, _]) 1 3 rfl agg29 rfl rfl rfl)<|Do rfl (u_bslice (el := 29) [(0, .agg #[iv a.Days, iv (Int.tdiv a.Price 2), sv d a.Zones e])] [iv a.Days, iv (Int.tdiv a.Price 2), sv d a.Zones e] rfl (fun _ => by kernel_rfl)) ?_
 rintro _ _ ⟨m, rfl, rfl⟩
 refine t_seg 0 [_, _] R rfl rfl ?_
 have bb : OS 29 (OT.fr rFarePass) I.w (.slice (some ⟨m, 0, none⟩) 1 1) [(⟨a.Days, Int.tdiv a.Price 2, a.Zones⟩ : FarePass)] [(m, Cl 29 [iv a.Days, iv (Int.tdiv a.Price 2), sv d a.Zones e])] := OS.lit [[iv a.Days, iv (Int.tdiv a.Price 2), sv d a.Zones e]] rfl ⟨⟨[iv a.Days], _, rfl, rfl, ⟨[iv (Int.tdiv a.Price 2)], _, rfl, rfl, (RT.list_mk (K.le (i.trans q)))⟩⟩, trivial⟩ rfl (by decide)
 obtain ⟨⟨bc, bd, be⟩, bf, hm⟩ := bS hm
 have hm := (unc3E hm)
 refine Do rfl (u_callWF [_, _] ([(m, Cl 29 [iv a.Days, iv (Int.tdiv a.Price 2), sv d a.Zones e])] ++ R) _ rfl call7 rfl (fun w ho => cFareCheapest _ [] k n [(⟨a.Days, Int.tdiv a.Price 2, a.Zones⟩ : FarePass)] r s t x y z (some ⟨m, 0, none⟩) 1 ((E.le (i.trans q)).old ho) ((F.le (i.trans q)).old ho) ((C.le (i.trans q)).old ho) (OS.now (o := (OT.fr rFarePass)) (l := [(⟨a.Days, Int.tdiv a.Price 2, a.Zones⟩ : FarePass)]) (hs := [(m, Cl 29 [iv a.Days, iv (Int.tdiv a.Price 2), sv d a.Zones e])]) bb ho (.cons _ (.cons _ (List.sublist_append_left _ _)))) bc bd be bf)) ?_
 rintro _ _ ⟨_, _, rfl, bH, bI, B, rfl, bg, bh⟩
 obtain rfl := List.append_cancel_right bg
 have bJ := flat_fz (w' := I.w) (cat_flat (fun _ _ _ _ h => h) (fun _ _ _ _ h => h)) bh
 refine M rfl rfl<|Ts rfl (st_extract rfl rfl)<|Ts rfl (st_extract rfl rfl)<|Ts rfl (st_extract rfl rfl)<|As rfl rfl<|As rfl rfl<|As rfl rfl<|Te ?_
 obtain ⟨az, bi, bj⟩ := bS hm
 refine Cj (fun aA e' hp' => [(8, bv az)] = e' ∧ R = hp' ∧ I.Le aA) ?_ ?_
 have hm := bi
 refine Cg<|M rfl rfl ?_
 refine Tb rfl (q1 rfl rfl) (fun Z => ?_) (fun Z => ?_)
 rw [if_pos Z] at hm
 refine M rfl rfl<|Ys 98 rfl rfl rfl<|M rfl rfl<|Ys 98 rfl rfl rfl ?_
 refine Tb rfl (q1 rfl rfl) (fun aa => ?_) (fun aa => ?_)
 rw [if_pos aa] at hm
 refine Ts rfl (pT rfl rfl)<|M rfl rfl<|Ys 102 rfl rfl rfl<|M rfl rfl<|Ys 102 rfl rfl rfl ?_
 refine Tb rfl (q1 rfl rfl) (fun ab => ?_) (fun ab => ?_)
 rw [if_pos ab] at hm
 refine Ts rfl (pT rfl rfl)<|M rfl rfl<|Ys 106 rfl rfl rfl<|M rfl rfl<|Ys 106 rfl rfl rfl ?_
 refine Tb rfl (q1 rfl rfl) (fun ac => ?_) (fun ac => ?_)
 rw [if_pos ac] at hm
 refine Ts rfl (pT rfl rfl)<|M rfl rfl<|Ys 110 rfl rfl rfl<|M rfl rfl<|Ys 110 rfl rfl rfl<|M rfl rfl<|Ys 110 rfl rfl rfl ?_
 refine Tb rfl (q1 rfl rfl) (fun ad => ?_) (fun ad => ?_)
 rw [if_pos ad] at hm
 refine Ts rfl (pT rfl rfl)<|M rfl rfl<|Ys 115 rfl rfl rfl<|M rfl rfl<|Ys 115 rfl rfl rfl<|M rfl rfl<|Ys 115 rfl rfl rfl ?_
 refine Tb rfl (q4 rfl rfl) (fun ae => ?_) (fun ae => ?_)
 rw [if_pos ae] at hm
 refine Ts rfl (pT rfl rfl)<|M rfl rfl<|Ys 120 rfl rfl rfl<|M rfl rfl<|Ys 120 rfl rfl rfl<|M rfl rfl<|Ys 120 rfl rfl rfl ?_
 refine Tb rfl (q4 rfl rfl) (fun af => ?_) (fun af => ?_)
 rw [if_pos af] at hm
 refine Ts rfl (pT rfl rfl)<|M rfl rfl<|Ys 125 rfl rfl rfl<|M rfl rfl<|Ys 125 rfl rfl rfl<|M rfl rfl<|Ys 125 rfl rfl rfl<|Ts rfl (q4 rfl rfl)<|Ts rfl (pT rfl rfl)<|As rfl rfl ?_
 refine Tn ?_
 obtain rfl := o1 hm
 exact xJ ⟨rfl, rfl, lr⟩ (.cons _ (.cons _ (ss B (ss [(m, Cl 29 [iv a.Days, iv (Int.tdiv a.Price 2), sv d a.Zones e])] (.refl _)))))
 rw [if_neg af] at hm
 refine Ts rfl (pT rfl rfl)<|M rfl rfl<|No 125 rfl rfl rfl rfl rfl<|No 125 rfl rfl rfl rfl rfl<|No 125 rfl rfl rfl rfl rfl<|Ts rfl (pF rfl rfl)<|As rfl rfl<|Tn ?_
 obtain rfl := o1 hm
 exact xJ ⟨rfl, rfl, lr⟩ (.cons _ (.cons _ (ss B (ss [(m, Cl 29 [iv a.Days, iv (Int.tdiv a.Price 2), sv d a.Zones e])] (.refl _)))))
 rw [if_neg ae] at hm
 refine Ts rfl (pT rfl rfl)<|M rfl rfl<|No 120 rfl rfl rfl rfl rfl<|No 120 rfl rfl rfl rfl rfl<|No 120 rfl rfl rfl rfl rfl<|Ts rfl (pF rfl rfl)<|M rfl rfl<|No 125 rfl rfl rfl rfl rfl<|No 125 rfl rfl rfl rfl rfl<|No 125 rfl rfl rfl rfl rfl ?_
 refine Ts rfl (pF rfl rfl)<|As rfl rfl<|Tn ?_
 obtain rfl := o1 hm
 exact xJ ⟨rfl, rfl, lr⟩ (.cons _ (.cons _ (ss B (ss [(m, Cl 29 [iv a.Days, iv (Int.tdiv a.Price 2), sv d a.Zones e])] (.refl _)))))
 rw [if_neg ad] at hm
 refine Ts rfl (pT rfl rfl)<|M rfl rfl<|No 115 rfl rfl rfl rfl rfl<|No 115 rfl rfl rfl rfl rfl<|No 115 rfl rfl rfl rfl rfl<|Ts rfl (pF rfl rfl)<|M rfl rfl<|No 120 rfl rfl rfl rfl rfl<|No 120 rfl rfl rfl rfl rfl<|No 120 rfl rfl rfl rfl rfl ?_
 refine Ts rfl (pF rfl rfl)<|M rfl rfl<|No 125 rfl rfl rfl rfl rfl<|No 125 rfl rfl rfl rfl rfl<|No 125 rfl rfl rfl rfl rfl<|Ts rfl (pF rfl rfl)<|As rfl rfl<|Tn ?_
 obtain rfl := o1 hm
 exact xJ ⟨rfl, rfl, lr⟩ (.cons _ (.cons _ (ss B (ss [(m, Cl 29 [iv a.Days, iv (Int.tdiv a.Price 2), sv d a.Zones e])] (.refl _)))))
 rw [if_neg ac] at hm
 refine Ts rfl (pT rfl rfl)<|M rfl rfl<|No 110 rfl rfl rfl rfl rfl<|No 110 rfl rfl rfl rfl rfl<|No 110 rfl rfl rfl rfl rfl<|Ts rfl (pF rfl rfl)<|M rfl rfl<|No 115 rfl rfl rfl rfl rfl<|No 115 rfl rfl rfl rfl rfl<|No 115 rfl rfl rfl rfl rfl ?_
 refine Ts rfl (pF rfl rfl)<|M rfl rfl<|No 120 rfl rfl rfl rfl rfl<|No 120 rfl rfl rfl rfl rfl<|No 120 rfl rfl rfl rfl rfl<|Ts rfl (pF rfl rfl)<|M rfl rfl<|No 125 rfl rfl rfl rfl rfl<|No 125 rfl rfl rfl rfl rfl<|No 125 rfl rfl rfl rfl rfl ?_
 refine Ts rfl (pF rfl rfl)<|As rfl rfl<|Tn ?_
 obtain rfl := o1 hm
 exact xJ ⟨rfl, rfl, lr⟩ (.cons _ (.cons _ (ss B (ss [(m, Cl 29 [iv a.Days, iv (Int.tdiv a.Price 2), sv d a.Zones e])] (.refl _)))))
 rw [if_neg ab] at hm
 refine Ts rfl (pT rfl rfl)<|M rfl rfl<|No 106 rfl rfl rfl rfl rfl<|No 106 rfl rfl rfl rfl rfl<|Ts rfl (pF rfl rfl)<|M rfl rfl<|No 110 rfl rfl rfl rfl rfl<|No 110 rfl rfl rfl rfl rfl<|No 110 rfl rfl rfl rfl rfl<|Ts rfl (pF rfl rfl) ?_
 refine M rfl rfl<|No 115 rfl rfl rfl rfl rfl<|No 115 rfl rfl rfl rfl rfl<|No 115 rfl rfl rfl rfl rfl<|Ts rfl (pF rfl rfl)<|M rfl rfl<|No 120 rfl rfl rfl rfl rfl<|No 120 rfl rfl rfl rfl rfl<|No 120 rfl rfl rfl rfl rfl<|Ts rfl (pF rfl rfl) ?_
 refine M rfl rfl<|No 125 rfl rfl rfl rfl rfl<|No 125 rfl rfl rfl rfl rfl<|No 125 rfl rfl rfl rfl rfl<|Ts rfl (pF rfl rfl)<|As rfl rfl<|Tn ?_
 obtain rfl := o1 hm
 exact xJ ⟨rfl, rfl, lr⟩ (.cons _ (.cons _ (ss B (ss [(m, Cl 29 [iv a.Days, iv (Int.tdiv a.Price 2), sv d a.Zones e])] (.refl _)))))
 rw [if_neg aa] at hm
 refine Ts rfl (pT rfl rfl)<|M rfl rfl<|No 102 rfl rfl rfl rfl rfl<|No 102 rfl rfl rfl rfl rfl<|Ts rfl (pF rfl rfl)<|M rfl rfl<|No 106 rfl rfl rfl rfl rfl<|No 106 rfl rfl rfl rfl rfl<|Ts rfl (pF rfl rfl)<|M rfl rfl ?_
 refine No 110 rfl rfl rfl rfl rfl<|No 110 rfl rfl rfl rfl rfl<|No 110 rfl rfl rfl rfl rfl<|Ts rfl (pF rfl rfl)<|M rfl rfl<|No 115 rfl rfl rfl rfl rfl<|No 115 rfl rfl rfl rfl rfl<|No 115 rfl rfl rfl rfl rfl<|Ts rfl (pF rfl rfl)<|M rfl rfl ?_
 refine No 120 rfl rfl rfl rfl rfl<|No 120 rfl rfl rfl rfl rfl<|No 120 rfl rfl rfl rfl rfl<|Ts rfl (pF rfl rfl)<|M rfl rfl<|No 125 rfl rfl rfl rfl rfl<|No 125 rfl rfl rfl rfl rfl<|No 125 rfl rfl rfl rfl rfl<|Ts rfl (pF rfl rfl)<|As rfl rfl ?_
 refine Tn ?_
 obtain rfl := o1 hm
 exact xJ ⟨rfl, rfl, lr⟩ (.cons _ (.cons _ (ss B (ss [(m, Cl 29 [iv a.Days, iv (Int.tdiv a.Price 2), sv d a.Zones e])] (.refl _)))))
 rw [if_neg Z] at hm
 refine M rfl rfl<|No 98 rfl rfl rfl rfl rfl<|No 98 rfl rfl rfl rfl rfl<|Ts rfl (pF rfl rfl)<|M rfl rfl<|No 102 rfl rfl rfl rfl rfl<|No 102 rfl rfl rfl rfl rfl<|Ts rfl (pF rfl rfl)<|M rfl rfl<|No 106 rfl rfl rfl rfl rfl ?_
 refine No 106 rfl rfl rfl rfl rfl<|Ts rfl (pF rfl rfl)<|M rfl rfl<|No 110 rfl rfl rfl rfl rfl<|No 110 rfl rfl rfl rfl rfl<|No 110 rfl rfl rfl rfl rfl<|Ts rfl (pF rfl rfl)<|M rfl rfl<|No 115 rfl rfl rfl rfl rfl<|No 115 rfl rfl rfl rfl rfl ?_
 refine No 115 rfl rfl rfl rfl rfl<|Ts rfl (pF rfl rfl)<|M rfl rfl<|No 120 rfl rfl rfl rfl rfl<|No 120 rfl rfl rfl rfl rfl<|No 120 rfl rfl rfl rfl rfl<|Ts rfl (pF rfl rfl)<|M rfl rfl<|No 125 rfl rfl rfl rfl rfl<|No 125 rfl rfl rfl rfl rfl ?_
 refine No 125 rfl rfl rfl rfl rfl<|Ts rfl (pF rfl rfl)<|As rfl rfl<|Tn ?_
 obtain rfl := o1 hm
 exact xJ ⟨rfl, rfl, lr⟩ (.cons _ (.cons _ (ss B (ss [(m, Cl 29 [iv a.Days, iv (Int.tdiv a.Price 2), sv d a.Zones e])] (.refl _)))))
 rintro aA _ _ ⟨rfl, rfl, bk⟩
 have hm := bj
 refine Ct ?_
 obtain rfl := o1 hm
 exact rM (rs := [.tmp 8]) (vs := [bv az]) ⟨rfl, trivial⟩ ⟨rfl, rfl⟩ (.refl _) (i.trans (q.trans bk))

end Go.Proofs.YtiajmiigkjmakaaGreatDoor
