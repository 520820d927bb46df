/- Contracts: the code computes its model (part 3). -/
import Derived.Test.YtbggpdpcndpaoaaDoorZP2
set_option linter.unusedVariables false
set_option linter.unusedSimpArgs false
namespace Go.Proofs.YtbggpdpcndpaoaaDoor
open Go.RowKit Go.Fp

open Go.Fp renaming t_mv → M, t_as → As, t_st → Ts, t_do → Do, t_ne → Te, t_nil → Tn, t_no → No, t_yes → Ys, t_bool → Tb, t_callG → Tg, c_sr → Cr, c_seq → Cs, c_region → Cg, c_cond → Cc, c_block → Cb, c_ret → Ct, c_skip → Ck, c_exit → Ce, c_join → Cj, c_pullb → Cp, x_then_normal → Xn, x_then_ret → Xr, x_then_exit → Xe, x_block_ret → Xb, x_block_normal → Xm, x_block_out → Xo, x_block_on → Xi, x_pullb → Xp, x_front2 → X2, x_front3 → X3, E_st → Es, E_s0 → E0, E_yes → Ey, E_y0 → Yz, E_no → En, E_in → Ei, E_il → El, E_out → Eo, D_all → Da, D_done → Dd, D_drawI → Di, R_do → Rd2, R_nil → Rn, R_callGl → Rg, st_load → sL, st_loadD → sD, st_field → sF, st_nil → sN, st_len → sE, st_move → sM, st_assign → sA, st_pick_t → pT, st_pick_f → pF, st_index_old → sI, st_loadN_old → sP, st_add → sa, st_sub → sb, st_lss_t → lT, st_lss_f → lF, st_eql_t → eT, st_eql_f → eF, st_not → sn2, st_build → sB, u_box → uB, u_alloc → uA, u_store → uS, u_storeN → uN, u_callW0 → uW, u_appOS → uQ, fn_enterG → fE, bindS → bS, some1 → o1, idx_some → iS, sub_skip → ss, sub_app → sp, chk_some → kS, notT → nt, notF → nf, d_front2 → d2, d_front3 → d3, mem_c → mc, mem_n → mn, st_eql → q1, st_neq → q2, st_lss → q3, st_leq → q4, st_gtr → q5
set_option maxRecDepth 20000 in
theorem cGuardCentreHear_3 (b : Base) (R : Hp) (a : GuardPacket) (k : Int) (g : Int) (p : Int) (q : Int) (s : Int) (t : Int) (u : Int) (x : Int) (y : Int) (z : Int) (l : (List GuardAsk)) (i : Nat) (d : OA) (e : Nat) (c : Hp) (m : OS 71 (OT.fr rGuardAsk) b.w (sv d l e) l c) (U : Int) (V : Int) (W : Int) (X : Int) (Y : Int) (Z : Int) (aa : Int) (ab : Int) (ac : Bool) (ad : Int) (ae : Int) (af : Int) (ag : Int) (ah : Int) (ai : Int) (aj : Int) (ak : Int) (al : Int) (A : (List GuardAsk)) (hm : mGuardCentreHear_3 a k g p q s t u x y z l = some (U, V, W, X, Y, Z, aa, ab, ac, ad, ae, af, ag, ah, ai, aj, ak, al, A)) :
    CallsG Tryd.prog 21 [pb i, .agg #[iv a.Kind, iv a.Session, iv a.No, iv a.Of, iv a.End, iv a.At, iv a.Speed, iv a.Sent], iv k] b ((i, Cl 49 [iv g, iv p, iv q, iv s, iv t, sv d l e, iv u, iv x, iv y, iv z]) :: (c ++ R)) (fun v b' hp' => ∃ (am : OA), ∃ (an : Nat), ∃ (ao : Hp), .tuple #[.agg #[iv U, iv V, iv W, iv X, iv Y, iv Z, iv aa, iv ab], bv ac] = v ∧ (i, Cl 49 [iv ad, iv ae, iv af, iv ag, iv ah, sv am A an, iv ai, iv aj, iv ak, iv al]) :: (ao ++ R) = hp' ∧ OS 71 (OT.fr rGuardAsk) b'.w (sv am A an) A ao) := by
 refine fE 114 Tryd.func21 rfl Tryd.ntmps21 rfl ?_
 unfold mGuardCentreHear_3 at hm
 refine Cr<|Do rfl (uB _ rfl rfl) ?_
 rintro _ _ ⟨aq, rfl, rfl⟩
 refine Do rfl (uA [iv 0, iv 0, iv 0, iv 0, iv 0, iv 0, iv 0, iv 0] zero33 rfl) ?_
 rintro _ _ ⟨B, rfl, rfl⟩
 refine As rfl rfl<|Te<|Cs<|Cr<|Ts rfl (sD (vs := [_, _, _, _, _, _, _, _]) 1 8 rfl agg33 rfl rfl rfl)<|M rfl rfl ?_
 obtain ⟨au, av, hm⟩ := bS hm
 refine Do rfl (uW _ call30 rfl (fun w ho => cGuardFresh _ [] a k au av) (fun _ _ _ h => h.2.symm)) ?_
 rintro _ _ ⟨⟨_, rfl, _⟩, rfl⟩
 refine Ts rfl (sn2 rfl)<|Te ?_
 refine Cc _ rfl (fun G => ?_) (fun G => ?_)
 rw [if_neg (fun hh => Bool.noConfusion (hh.symm.trans (nt G)))] at hm
 refine Cr<|Ts rfl (sB (v := .agg #[iv 0, iv 0, iv 0, iv 0, iv 0, iv 0, iv 0, iv 0]) [] rfl (fun _ => by kernel_rfl))<|Do rfl (uN (vs := [_, _, _, _, _, _, _, _]) 0 8 rfl rfl rfl siz33 rfl (mc rfl (mc rfl (mc rfl (mc rfl (mc rfl (mc rfl (mc rfl (mc rfl mn)))))))) rfl (by simp)) ?_
 rintro _ _ rfl
 refine As rfl rfl<|Te<|Ct<|Xr ?_
 obtain ⟨rfl, rfl, rfl, rfl, rfl, rfl, rfl, rfl, rfl, rfl, rfl, rfl, rfl, rfl, rfl, rfl, rfl, rfl, rfl⟩ := some19 hm
 refine Xp 2 rfl ?_
 exact rM (rs := [.cell 6 33, .tmp 7]) (vs := [.agg #[iv 0, iv 0, iv 0, iv 0, iv 0, iv 0, iv 0, iv 0], bv false]) ⟨⟨_, rfl, fun w ho => cell_agg (vs := [_, _, _, _, _, _, _, _]) 1 8 agg33 rfl rfl rfl w ho⟩, ⟨rfl, trivial⟩⟩ ⟨d, e, c, rfl, rfl, m⟩ (.cons_cons _ (.cons _ (.cons _ (.refl _)))) lr
 rw [if_pos (nf G)] at hm
 refine Ck<|Xn<|Cs<|Cr<|Ts rfl (sF rfl fld33_0)<|Ts rfl (sL 1 rfl one3 rfl rfl)<|Ts rfl (q1 rfl rfl)<|Te ?_
 refine Cc _ rfl (fun H => ?_) (fun H => ?_)
 rw [if_pos (of_decide_eq_true H)] at hm
 refine Cs<|Cs<|Di mixed (.refl _)<|E0 0 rfl (sF rfl fld33_1)<|Es 1 rfl (sL 1 rfl one3 rfl rfl)<|E0 2 rfl (sM rfl)<|E0 3 rfl (sN rfl)<|E0 4 rfl (sF rfl fld49_1)<|Es 5 rfl (sL 2 rfl one3 rfl rfl)<|E0 6 rfl (q4 rfl rfl) ?_
 refine Eo<|Dd (by kernel_rfl)<|Xn ?_
 refine Cc _ rfl (fun I => ?_) (fun I => ?_)
 rw [if_pos (of_decide_eq_true I)] at hm
 refine Cr<|Ts rfl (sB (v := .agg #[iv 0, iv 0, iv 0, iv 0, iv 0, iv 0, iv 0, iv 0]) [] rfl (fun _ => by kernel_rfl))<|Do rfl (uN (vs := [_, _, _, _, _, _, _, _]) 0 8 rfl rfl rfl siz33 rfl (mc rfl (mc rfl (mc rfl (mc rfl (mc rfl (mc rfl (mc rfl (mc rfl mn)))))))) rfl (by simp)) ?_
 rintro _ _ rfl
 refine As rfl rfl<|Te<|Ct<|Xr<|Xr ?_
 obtain ⟨rfl, rfl, rfl, rfl, rfl, rfl, rfl, rfl, rfl, rfl, rfl, rfl, rfl, rfl, rfl, rfl, rfl, rfl, rfl⟩ := some19 hm
 refine Xp 2 rfl ?_
 exact rM (rs := [.cell 6 33, .tmp 7]) (vs := [.agg #[iv 0, iv 0, iv 0, iv 0, iv 0, iv 0, iv 0, iv 0], bv false]) ⟨⟨_, rfl, fun w ho => cell_agg (vs := [_, _, _, _, _, _, _, _]) 1 8 agg33 rfl rfl rfl w ho⟩, ⟨rfl, trivial⟩⟩ ⟨d, e, c, rfl, rfl, m⟩ (.cons_cons _ (.cons _ (.cons _ (.refl _)))) lr
 rw [if_neg (of_decide_eq_false I)] at hm
 refine Ck<|Xn<|Cr<|M rfl rfl<|Ts rfl (sF rfl fld33_1)<|Ts rfl (sL 1 rfl one3 rfl rfl)<|Ts rfl (sF rfl fld33_1)<|Ts rfl (sL 1 rfl one3 rfl rfl)<|Ts rfl (sF rfl fld33_2)<|Ts rfl (sL 1 rfl one3 rfl rfl) ?_
 refine Ts rfl (sF rfl fld33_5)<|Ts rfl (sL 1 rfl one3 rfl rfl)<|Ts rfl (sF rfl fld33_5)<|Ts rfl (sL 1 rfl one3 rfl rfl)<|Ts rfl (sF rfl fld33_5)<|Ts rfl (sL 1 rfl one3 rfl rfl)<|Ts rfl (sF rfl fld33_7)<|Ts rfl (sL 1 rfl one3 rfl rfl)<|Ts rfl (sB (v := .agg #[iv a.At, iv 0, iv a.At, iv a.Sent]) [(0, iv a.At), (1, iv 0), (2, iv a.At), (3, iv a.Sent)] rfl (fun _ => by kernel_rfl))<|Ts rfl (sB (v := .agg #[iv a.Session, iv a.Session, iv 1, iv a.No, iv a.At, sn, iv a.At, iv 0, iv a.At, iv a.Sent]) [(0, iv a.Session), (1, iv a.Session), (2, iv 1), (3, iv a.No), (4, iv a.At), (6, .agg #[iv a.At, iv 0, iv a.At, iv a.Sent])] rfl (fun _ => by kernel_rfl)) ?_
 refine Ts rfl (sN rfl)<|Do rfl (uN (vs := [_, _, _, _, _, _, _, _, _, _]) 2 10 rfl rfl rfl siz49 rfl (mc rfl (mc rfl (mc rfl (mc rfl (mc rfl (mc rfl (mc rfl (mc rfl (mc rfl (mc rfl mn)))))))))) rfl (by simp)) ?_
 rintro _ _ rfl
 refine Te<|Cr<|M rfl rfl<|Ts rfl (sN rfl)<|Ts rfl (sF rfl fld49_0)<|Ts rfl (sL 2 rfl one3 rfl rfl)<|M rfl rfl<|Ts rfl (sB (v := .agg #[iv 2, iv a.Session, iv 1, iv 0, iv 0, iv 0, iv 0, iv k]) [(0, iv 2), (1, iv a.Session), (2, iv 1), (7, iv k)] rfl (fun _ => by kernel_rfl))<|Do rfl (uN (vs := [_, _, _, _, _, _, _, _]) 0 8 rfl rfl rfl siz33 rfl (mc rfl (mc rfl (mc rfl (mc rfl (mc rfl (mc rfl (mc rfl (mc rfl mn)))))))) rfl (by simp)) ?_
 rintro _ _ rfl
 refine As rfl rfl<|Te<|Ct<|Xr ?_
 obtain ⟨rfl, rfl, rfl, rfl, rfl, rfl, rfl, rfl, rfl, rfl, rfl, rfl, rfl, rfl, rfl, rfl, rfl, rfl, rfl⟩ := some19 hm
 refine Xp 2 rfl ?_
 exact rM (rs := [.cell 6 33, .tmp 7]) (vs := [.agg #[iv 2, iv a.Session, iv 1, iv 0, iv 0, iv 0, iv 0, iv k], bv true]) ⟨⟨_, rfl, fun w ho => cell_agg (vs := [_, _, _, _, _, _, _, _]) 1 8 agg33 rfl rfl rfl w ho⟩, ⟨rfl, trivial⟩⟩ ⟨none, 0, [], rfl, rfl, OS.nil⟩ (.cons_cons _ (.cons _ (.cons _ (ss c (.refl _))))) lr
 rw [if_neg (of_decide_eq_false H)] at hm
 refine Ck<|Xn<|Cs ?_
 obtain ⟨aw, ax, ay⟩ := bS hm
 refine Cj (fun J e' hp' => [(0, pb i), (4, pb aq), (6, pb B), (85, bv aw)] = e' ∧ (i, Cl 49 [iv g, iv p, iv q, iv s, iv t, sv d l e, iv u, iv x, iv y, iv z]) :: (aq, Cl 33 [iv a.Kind, iv a.Session, iv a.No, iv a.Of, iv a.End, iv a.At, iv a.Speed, iv a.Sent]) :: (B, Cl 33 [iv 0, iv 0, iv 0, iv 0, iv 0, iv 0, iv 0, iv 0]) :: (c ++ R) = hp' ∧ b.Le J) ?_ ?_
 have hm := ax
 by_cases f : g = 0
 rw [if_pos f] at hm
 refine Di mixed (.refl _)<|E0 0 rfl (sM rfl)<|E0 1 rfl (sN rfl)<|E0 2 rfl (sF rfl fld49_0)<|Es 3 rfl (sL 2 rfl one3 rfl rfl)<|E0 4 rfl (eT rfl rfl f)<|E0 5 rfl (sM rfl)<|En 6 53 rfl rfl rfl<|En 7 53 rfl rfl rfl<|En 8 53 rfl rfl rfl ?_
 refine En 9 53 rfl rfl rfl<|En 10 53 rfl rfl rfl<|En 11 53 rfl rfl rfl<|En 12 53 rfl rfl rfl<|E0 13 rfl (pT rfl rfl)<|E0 14 rfl (sM rfl)<|En 15 62 rfl rfl rfl<|En 16 62 rfl rfl rfl<|En 17 62 rfl rfl rfl<|En 18 62 rfl rfl rfl ?_
 refine En 19 62 rfl rfl rfl<|En 20 62 rfl rfl rfl<|En 21 62 rfl rfl rfl<|E0 22 rfl (pT rfl rfl)<|E0 23 rfl (sM rfl)<|En 24 71 rfl rfl rfl<|En 25 71 rfl rfl rfl<|En 26 71 rfl rfl rfl<|En 27 71 rfl rfl rfl<|En 28 75 rfl rfl rfl ?_
 refine En 29 75 rfl rfl rfl<|En 30 75 rfl rfl rfl<|En 31 71 rfl rfl rfl<|En 32 71 rfl rfl rfl<|En 33 80 rfl rfl rfl<|En 34 80 rfl rfl rfl<|En 35 80 rfl rfl rfl<|En 36 71 rfl rfl rfl<|E0 37 rfl (pT rfl rfl)<|Eo ?_
 refine Dd (by kernel_rfl) ?_
 obtain rfl := o1 hm
 refine Xp 1 rfl<|Xp 2 rfl ?_
 exact xJ ⟨rfl, rfl, lr⟩ (.refl _)
 rw [if_neg f] at hm
 by_cases j : a.Session ≠ g
 rw [if_pos j] at hm
 refine Di mixed (.refl _)<|E0 0 rfl (sM rfl)<|E0 1 rfl (sN rfl)<|E0 2 rfl (sF rfl fld49_0)<|Es 3 rfl (sL 2 rfl one3 rfl rfl)<|E0 4 rfl (eF rfl rfl f)<|E0 5 rfl (sM rfl)<|Yz 6 53 rfl (sF rfl fld33_1)<|Ey 7 53 rfl (sL 1 rfl one3 rfl rfl)<|Yz 8 53 rfl (sM rfl) ?_
 refine Yz 9 53 rfl (sN rfl)<|Yz 10 53 rfl (sF rfl fld49_0)<|Ey 11 53 rfl (sL 2 rfl one3 rfl rfl)<|Yz 12 53 rfl (st_neq_t rfl rfl j)<|E0 13 rfl (pF rfl rfl)<|E0 14 rfl (sM rfl)<|En 15 62 rfl rfl rfl<|En 16 62 rfl rfl rfl<|En 17 62 rfl rfl rfl<|En 18 62 rfl rfl rfl ?_
 refine En 19 62 rfl rfl rfl<|En 20 62 rfl rfl rfl<|En 21 62 rfl rfl rfl<|E0 22 rfl (pT rfl rfl)<|E0 23 rfl (sM rfl)<|En 24 71 rfl rfl rfl<|En 25 71 rfl rfl rfl<|En 26 71 rfl rfl rfl<|En 27 71 rfl rfl rfl<|En 28 75 rfl rfl rfl ?_
 refine En 29 75 rfl rfl rfl<|En 30 75 rfl rfl rfl<|En 31 71 rfl rfl rfl<|En 32 71 rfl rfl rfl<|En 33 80 rfl rfl rfl<|En 34 80 rfl rfl rfl<|En 35 80 rfl rfl rfl<|En 36 71 rfl rfl rfl<|E0 37 rfl (pT rfl rfl)<|Eo ?_
 refine Dd (by kernel_rfl) ?_
 obtain rfl := o1 hm
 refine Xp 1 rfl<|Xp 2 rfl ?_
 exact xJ ⟨rfl, rfl, lr⟩ (.refl _)
 rw [if_neg j] at hm
 by_cases n : a.No ≤ s
 rw [if_pos n] at hm
 refine Di mixed (.refl _)<|E0 0 rfl (sM rfl)<|E0 1 rfl (sN rfl)<|E0 2 rfl (sF rfl fld49_0)<|Es 3 rfl (sL 2 rfl one3 rfl rfl)<|E0 4 rfl (eF rfl rfl f)<|E0 5 rfl (sM rfl)<|Yz 6 53 rfl (sF rfl fld33_1)<|Ey 7 53 rfl (sL 1 rfl one3 rfl rfl)<|Yz 8 53 rfl (sM rfl) ?_
 refine Yz 9 53 rfl (sN rfl)<|Yz 10 53 rfl (sF rfl fld49_0)<|Ey 11 53 rfl (sL 2 rfl one3 rfl rfl)<|Yz 12 53 rfl (st_neq_f rfl rfl j)<|E0 13 rfl (pF rfl rfl)<|E0 14 rfl (sM rfl)<|Yz 15 62 rfl (sF rfl fld33_2)<|Ey 16 62 rfl (sL 1 rfl one3 rfl rfl)<|Yz 17 62 rfl (sM rfl)<|Yz 18 62 rfl (sN rfl) ?_
 refine Yz 19 62 rfl (sF rfl fld49_3)<|Ey 20 62 rfl (sL 2 rfl one3 rfl rfl)<|Yz 21 62 rfl (st_leq_t rfl rfl n)<|E0 22 rfl (pF rfl rfl)<|E0 23 rfl (sM rfl)<|En 24 71 rfl rfl rfl<|En 25 71 rfl rfl rfl<|En 26 71 rfl rfl rfl<|En 27 71 rfl rfl rfl<|En 28 75 rfl rfl rfl ?_
 refine En 29 75 rfl rfl rfl<|En 30 75 rfl rfl rfl<|En 31 71 rfl rfl rfl<|En 32 71 rfl rfl rfl<|En 33 80 rfl rfl rfl<|En 34 80 rfl rfl rfl<|En 35 80 rfl rfl rfl<|En 36 71 rfl rfl rfl<|E0 37 rfl (pT rfl rfl)<|Eo ?_
 refine Dd (by kernel_rfl) ?_
 obtain rfl := o1 hm
 refine Xp 1 rfl<|Xp 2 rfl ?_
 exact xJ ⟨rfl, rfl, lr⟩ (.refl _)
 rw [if_neg n] at hm
 by_cases r : a.Kind ≠ 3
 rw [if_pos r] at hm
 by_cases C : a.Kind ≠ 7
 rw [if_pos C] at hm
 refine Di mixed (.refl _)<|E0 0 rfl (sM rfl)<|E0 1 rfl (sN rfl)<|E0 2 rfl (sF rfl fld49_0)<|Es 3 rfl (sL 2 rfl one3 rfl rfl)<|E0 4 rfl (eF rfl rfl f)<|E0 5 rfl (sM rfl)<|Yz 6 53 rfl (sF rfl fld33_1)<|Ey 7 53 rfl (sL 1 rfl one3 rfl rfl)<|Yz 8 53 rfl (sM rfl) ?_
 refine Yz 9 53 rfl (sN rfl)<|Yz 10 53 rfl (sF rfl fld49_0)<|Ey 11 53 rfl (sL 2 rfl one3 rfl rfl)<|Yz 12 53 rfl (st_neq_f rfl rfl j)<|E0 13 rfl (pF rfl rfl)<|E0 14 rfl (sM rfl)<|Yz 15 62 rfl (sF rfl fld33_2)<|Ey 16 62 rfl (sL 1 rfl one3 rfl rfl)<|Yz 17 62 rfl (sM rfl)<|Yz 18 62 rfl (sN rfl) ?_
 refine Yz 19 62 rfl (sF rfl fld49_3)<|Ey 20 62 rfl (sL 2 rfl one3 rfl rfl)<|Yz 21 62 rfl (st_leq_f rfl rfl n)<|E0 22 rfl (pF rfl rfl)<|E0 23 rfl (sM rfl)<|Yz 24 71 rfl (sF rfl fld33_0)<|Ey 25 71 rfl (sL 1 rfl one3 rfl rfl)<|Yz 26 71 rfl (st_neq_t rfl rfl r)<|Yz 27 71 rfl (sM rfl)<|Yz 28 75 rfl (sF rfl fld33_0) ?_
 refine Ey 29 75 rfl (sL 1 rfl one3 rfl rfl)<|Yz 30 75 rfl (st_neq_t rfl rfl C)<|Yz 31 71 rfl (pT rfl rfl)<|Yz 32 71 rfl (sM rfl)<|Yz 33 80 rfl (sF rfl fld33_0)<|Ey 34 80 rfl (sL 1 rfl one3 rfl rfl)<|Yz 35 80 rfl (q2 rfl rfl)<|Yz 36 71 rfl (pT rfl rfl)<|E0 37 rfl (pF rfl rfl)<|Eo ?_
 refine Dd (by kernel_rfl) ?_
 obtain rfl := o1 hm
 refine Xp 1 rfl<|Xp 2 rfl ?_
 exact xJ ⟨rfl, rfl, lr⟩ (.refl _)
 rw [if_neg C] at hm
 refine Di mixed (.refl _)<|E0 0 rfl (sM rfl)<|E0 1 rfl (sN rfl)<|E0 2 rfl (sF rfl fld49_0)<|Es 3 rfl (sL 2 rfl one3 rfl rfl)<|E0 4 rfl (eF rfl rfl f)<|E0 5 rfl (sM rfl)<|Yz 6 53 rfl (sF rfl fld33_1)<|Ey 7 53 rfl (sL 1 rfl one3 rfl rfl)<|Yz 8 53 rfl (sM rfl) ?_
 refine Yz 9 53 rfl (sN rfl)<|Yz 10 53 rfl (sF rfl fld49_0)<|Ey 11 53 rfl (sL 2 rfl one3 rfl rfl)<|Yz 12 53 rfl (st_neq_f rfl rfl j)<|E0 13 rfl (pF rfl rfl)<|E0 14 rfl (sM rfl)<|Yz 15 62 rfl (sF rfl fld33_2)<|Ey 16 62 rfl (sL 1 rfl one3 rfl rfl)<|Yz 17 62 rfl (sM rfl)<|Yz 18 62 rfl (sN rfl) ?_
 refine Yz 19 62 rfl (sF rfl fld49_3)<|Ey 20 62 rfl (sL 2 rfl one3 rfl rfl)<|Yz 21 62 rfl (st_leq_f rfl rfl n)<|E0 22 rfl (pF rfl rfl)<|E0 23 rfl (sM rfl)<|Yz 24 71 rfl (sF rfl fld33_0)<|Ey 25 71 rfl (sL 1 rfl one3 rfl rfl)<|Yz 26 71 rfl (st_neq_t rfl rfl r)<|Yz 27 71 rfl (sM rfl)<|Yz 28 75 rfl (sF rfl fld33_0) ?_
 refine Ey 29 75 rfl (sL 1 rfl one3 rfl rfl)<|Yz 30 75 rfl (st_neq_f rfl rfl C)<|Yz 31 71 rfl (pT rfl rfl)<|Yz 32 71 rfl (sM rfl)<|En 33 80 rfl rfl rfl<|En 34 80 rfl rfl rfl<|En 35 80 rfl rfl rfl<|Yz 36 71 rfl (pF rfl rfl)<|E0 37 rfl (pF rfl rfl)<|Eo ?_
 refine Dd (by kernel_rfl) ?_
 obtain rfl := o1 hm
 refine Xp 1 rfl<|Xp 2 rfl ?_
 exact xJ ⟨rfl, rfl, lr⟩ (.refl _)
 rw [if_neg r] at hm
 refine Di mixed (.refl _)<|E0 0 rfl (sM rfl)<|E0 1 rfl (sN rfl)<|E0 2 rfl (sF rfl fld49_0)<|Es 3 rfl (sL 2 rfl one3 rfl rfl)<|E0 4 rfl (eF rfl rfl f)<|E0 5 rfl (sM rfl)<|Yz 6 53 rfl (sF rfl fld33_1)<|Ey 7 53 rfl (sL 1 rfl one3 rfl rfl)<|Yz 8 53 rfl (sM rfl) ?_
 refine Yz 9 53 rfl (sN rfl)<|Yz 10 53 rfl (sF rfl fld49_0)<|Ey 11 53 rfl (sL 2 rfl one3 rfl rfl)<|Yz 12 53 rfl (st_neq_f rfl rfl j)<|E0 13 rfl (pF rfl rfl)<|E0 14 rfl (sM rfl)<|Yz 15 62 rfl (sF rfl fld33_2)<|Ey 16 62 rfl (sL 1 rfl one3 rfl rfl)<|Yz 17 62 rfl (sM rfl)<|Yz 18 62 rfl (sN rfl) ?_
 refine Yz 19 62 rfl (sF rfl fld49_3)<|Ey 20 62 rfl (sL 2 rfl one3 rfl rfl)<|Yz 21 62 rfl (st_leq_f rfl rfl n)<|E0 22 rfl (pF rfl rfl)<|E0 23 rfl (sM rfl)<|Yz 24 71 rfl (sF rfl fld33_0)<|Ey 25 71 rfl (sL 1 rfl one3 rfl rfl)<|Yz 26 71 rfl (st_neq_f rfl rfl r)<|Yz 27 71 rfl (sM rfl)<|En 28 75 rfl rfl rfl ?_
 refine En 29 75 rfl rfl rfl<|En 30 75 rfl rfl rfl<|Yz 31 71 rfl (pF rfl rfl)<|Yz 32 71 rfl (sM rfl)<|En 33 80 rfl rfl rfl<|En 34 80 rfl rfl rfl<|En 35 80 rfl rfl rfl<|Yz 36 71 rfl (pF rfl rfl)<|E0 37 rfl (pF rfl rfl)<|Eo ?_
 refine Dd (by kernel_rfl) ?_
 obtain rfl := o1 hm
 refine Xp 1 rfl<|Xp 2 rfl ?_
 exact xJ ⟨rfl, rfl, lr⟩ (.refl _)
 rintro J _ _ ⟨rfl, rfl, o⟩
 have hm := ay
 refine Cc _ rfl (fun K => ?_) (fun K => ?_)
 rw [if_pos K] at hm
 refine Cr<|Ts rfl (sB (v := .agg #[iv 0, iv 0, iv 0, iv 0, iv 0, iv 0, iv 0, iv 0]) [] rfl (fun _ => by kernel_rfl))<|Do rfl (uN (vs := [_, _, _, _, _, _, _, _]) 2 8 rfl rfl rfl siz33 rfl (mc rfl (mc rfl (mc rfl (mc rfl (mc rfl (mc rfl (mc rfl (mc rfl mn)))))))) rfl (by simp)) ?_
 rintro _ _ rfl
 refine As rfl rfl<|Te<|Ct<|Xr ?_
 obtain ⟨rfl, rfl, rfl, rfl, rfl, rfl, rfl, rfl, rfl, rfl, rfl, rfl, rfl, rfl, rfl, rfl, rfl, rfl, rfl⟩ := some19 hm
 have az := (m.le o)
 exact rM (rs := [.cell 6 33, .tmp 7]) (vs := [.agg #[iv 0, iv 0, iv 0, iv 0, iv 0, iv 0, iv 0, iv 0], bv false]) ⟨⟨_, rfl, fun w ho => cell_agg (vs := [_, _, _, _, _, _, _, _]) 2 8 agg33 rfl rfl rfl w ho⟩, ⟨rfl, trivial⟩⟩ ⟨d, e, c, rfl, rfl, az⟩ (.cons_cons _ (.cons _ (.cons _ (.refl _)))) o
 rw [if_neg (fun hh => Bool.noConfusion (hh.symm.trans K))] at hm
 refine Ck<|Xn<|Cr<|M rfl rfl<|Ts rfl (sF rfl fld33_2)<|Ts rfl (sL 1 rfl one3 rfl rfl)<|Ts rfl (sN rfl)<|Ts rfl (sF rfl fld49_3)<|Do rfl (uS 0 rfl rfl siz3 rfl rfl (by simp)) ?_
 rintro _ _ rfl
 refine Te ?_
 obtain ⟨⟨aA, aB, aC, aD, aE, L⟩, aF, aG⟩ := bS hm
 refine Cj (fun O e' hp' => ∃ (D : OA), ∃ (E : Nat), ∃ (F : Hp), [(6, pb B)] = e' ∧ (B, Cl 33 [iv 0, iv 0, iv 0, iv 0, iv 0, iv 0, iv 0, iv 0]) :: (i, Cl 49 [iv g, iv p, iv q, iv a.No, iv aA, sv D L E, iv aB, iv aC, iv aD, iv aE]) :: (F ++ R) = hp' ∧ J.Le O ∧ OS 71 (OT.fr rGuardAsk) O.w (sv D L E) L F) ?_ ?_
 have hm := aF
 refine Cr<|Ts rfl (sF rfl fld33_0)<|Ts rfl (sL 1 rfl one3 rfl rfl)<|Te<|Cb<|Cr<|Ts rfl (q1 rfl rfl)<|As rfl rfl<|Te ?_
 refine Cc _ rfl (fun S => ?_) (fun S => ?_)
 rw [if_pos (of_decide_eq_true S)] at hm
 refine Cg<|M rfl rfl<|Ts rfl (sF rfl fld33_5)<|Ts rfl (sL 1 rfl one3 rfl rfl)<|Ts rfl (sF rfl fld33_6)<|Ts rfl (sL 1 rfl one3 rfl rfl)<|Ts rfl (sF rfl fld33_4)<|Ts rfl (sL 1 rfl one3 rfl rfl)<|Ts rfl (sF rfl fld33_7)<|Ts rfl (sL 1 rfl one3 rfl rfl) ?_
 refine Ts rfl (sB (v := .agg #[iv a.At, iv a.Speed, iv a.End, iv a.Sent]) [(0, iv a.At), (1, iv a.Speed), (2, iv a.End), (3, iv a.Sent)] rfl (fun _ => by kernel_rfl))<|Ts rfl (sN rfl)<|Ts rfl (sF rfl fld49_6)<|Do rfl (uN (vs := [_, _, _, _]) 0 4 rfl rfl rfl siz47 rfl (mc rfl (mc rfl (mc rfl (mc rfl mn)))) rfl (by simp)) ?_
 rintro _ _ rfl
 refine Tn<|Xm ?_
 obtain ⟨rfl, rfl, rfl, rfl, rfl, rfl⟩ := some6 hm
 refine Xp 2 rfl ?_
 exact xJ ⟨d, e, c, rfl, rfl, lr, (m.le o)⟩ (.cons_cons _ (.cons_cons _ (.cons _ (.refl _))))
 rw [if_neg (of_decide_eq_false S)] at hm
 refine Cr<|Ts rfl (q1 rfl rfl)<|As rfl rfl<|Te ?_
 refine Cc _ rfl (fun T => ?_) (fun T => ?_)
 rw [if_pos (of_decide_eq_true T)] at hm
 refine Cg<|M rfl rfl<|Ts rfl (sD (vs := [_, _, _, _, _, _, _, _]) 1 8 rfl agg33 rfl rfl rfl) ?_
 obtain ⟨⟨aH, aI⟩, aJ, hm⟩ := bS hm
 have hm := (unc2E hm)
 refine t_out1 [_] [_, _] c R rfl<|Tg _ rfl call31 rfl (cGuardCentreAgree_3 _ _ a g p q a.No t u x y z l i d e c (m.le o) aH aI aJ) ?_
 rintro _ aQ _ aK ⟨aL, aM, ar, rfl, rfl, aN⟩
 refine t_in1 [_] [_, _] ar R rfl<|Tn<|Xm ?_
 obtain ⟨rfl, rfl, rfl, rfl, rfl, rfl⟩ := some6 hm
 refine Xp 2 rfl ?_
 exact xJ ⟨aL, aM, ar, rfl, rfl, aK, aN⟩ (.cons_cons _ (.cons_cons _ (.cons _ (.refl _))))
 rw [if_neg (of_decide_eq_false T)] at hm
 refine Ck<|Xm ?_
 obtain ⟨rfl, rfl, rfl, rfl, rfl, rfl⟩ := some6 hm
 refine Xp 2 rfl ?_
 exact xJ ⟨d, e, c, rfl, rfl, lr, (m.le o)⟩ (.cons_cons _ (.cons_cons _ (.cons _ (.refl _))))
 rintro O _ _ ⟨D, E, F, rfl, rfl, aO, aP⟩
 have hm := (unc6E aG)
 refine Cr<|Ts rfl (sB (v := .agg #[iv 0, iv 0, iv 0, iv 0, iv 0, iv 0, iv 0, iv 0]) [] rfl (fun _ => by kernel_rfl))<|Do rfl (uN (vs := [_, _, _, _, _, _, _, _]) 0 8 rfl rfl rfl siz33 rfl (mc rfl (mc rfl (mc rfl (mc rfl (mc rfl (mc rfl (mc rfl (mc rfl mn)))))))) rfl (by simp)) ?_
 rintro _ _ rfl
 refine As rfl rfl<|Te<|Ct ?_
 obtain ⟨rfl, rfl, rfl, rfl, rfl, rfl, rfl, rfl, rfl, rfl, rfl, rfl, rfl, rfl, rfl, rfl, rfl, rfl, rfl⟩ := some19 hm
 refine Xp 1 rfl ?_
 exact rM (rs := [.cell 6 33, .tmp 7]) (vs := [.agg #[iv 0, iv 0, iv 0, iv 0, iv 0, iv 0, iv 0, iv 0], bv false]) ⟨⟨_, rfl, fun w ho => cell_agg (vs := [_, _, _, _, _, _, _, _]) 1 8 agg33 rfl rfl rfl w ho⟩, ⟨rfl, trivial⟩⟩ ⟨D, E, F, rfl, rfl, aP⟩ (.cons_cons _ (.cons _ (.refl _))) (o.trans aO)

set_option maxRecDepth 20000 in
theorem cFishkeep1Comes_2 (b : Base) (R : Hp) (f : Fishkeep1Act) (d : GuardPacket) (A : Int) (G : Int) (I : Int) (J : Int) (K : Int) (L : Int) (O : Int) (S : Int) (T : Int) (U : Int) (V : Int) (W : Int) (X : Int) (Y : Int) (Z : Int) (q : (List GuardCentre)) (B : (List GuardAsk)) (H : Nat) (C : Nat) (y : OA) (z : Nat) (e : Hp) (D : OA) (E : Nat) (c : Hp) (h5 : OS 26 (OT.ptr 49 (OT.fr rGuardCentre)) b.w (sv y q z) q e) (h10 : OS 71 (OT.fr rGuardAsk) b.w (sv D B E) B c) (x206 : Int) (x207 : Int) (x208 : Int) (x209 : Int) (x210 : Int) (x211 : Int) (x212 : Int) (x213 : Int) (x214 : Bool) (x215 : Int) (x216 : Int) (x217 : Int) (x218 : Int) (x219 : Int) (x220 : Int) (x221 : Int) (x222 : Int) (x223 : Int) (x224 : Int) (x225 : Int) (x226 : Int) (x227 : Int) (aa : (List GuardCentre)) (ab : (List GuardAsk)) (hm : mFishkeep1Comes_2 f d A G I J K L O S T U V W X Y Z q B = some (x206, x207, x208, x209, x210, x211, x212, x213, x214, x215, x216, x217, x218, x219, x220, x221, x222, x223, x224, x225, x226, x227, aa, ab)) :
    CallsG Tryd.prog 12 [pb H, pb C, sv y q z, .agg #[iv f.Kind, iv f.Wait, iv f.A, iv f.B, iv f.C], .agg #[iv d.Kind, iv d.Session, iv d.No, iv d.Of, iv d.End, iv d.At, iv d.Speed, iv d.Sent], iv A] b ((H, Cl 45 [iv G, iv I, iv J, iv K, iv L]) :: (C, Cl 49 [iv O, iv S, iv T, iv U, iv V, sv D B E, iv W, iv X, iv Y, iv Z]) :: (e ++ (c ++ R))) (fun v b' hp' => ∃ (hs199 : Hp), ∃ (A203 : OA), ∃ (c204 : Nat), ∃ (hs202 : Hp), .tuple #[.agg #[iv x206, iv x207, iv x208, iv x209, iv x210, iv x211, iv x212, iv x213], bv x214] = v ∧ (H, Cl 45 [iv G, iv x215, iv x216, iv x217, iv x218]) :: (C, Cl 49 [iv x219, iv x220, iv x221, iv x222, iv x223, sv A203 ab c204, iv x224, iv x225, iv x226, iv x227]) :: (hs199 ++ (hs202 ++ R)) = hp' ∧ OS 26 (OT.ptr 49 (OT.fr rGuardCentre)) b'.w (sv y aa z) aa hs199 ∧ aa.length = q.length ∧ OS 71 (OT.fr rGuardAsk) b'.w (sv A203 ab c204) ab hs202) := by
 refine fE 54 Tryd.func12 rfl Tryd.ntmps12 rfl ?_
 unfold mFishkeep1Comes_2 at hm
 refine Cr<|Do rfl (uB _ rfl rfl) ?_
 rintro _ _ ⟨g231, rfl, rfl⟩
 refine Do rfl (uB _ rfl rfl) ?_
 rintro _ _ ⟨g232, rfl, rfl⟩
 refine Do rfl (uA [iv 0, iv 0, iv 0, iv 0, iv 0, iv 0, iv 0, iv 0] zero33 rfl) ?_
 rintro _ _ ⟨g233, rfl, rfl⟩
 refine As rfl rfl<|Te<|Cs<|Cr<|Ts rfl (sF rfl fld31_0)<|Ts rfl (sL 2 rfl one3 rfl rfl)<|Ts rfl (q1 rfl rfl)<|Te ?_
 refine Cc _ rfl (fun hc234 => ?_) (fun hc234 => ?_)
 rw [if_pos (of_decide_eq_true hc234)] at hm
 refine Cr<|M rfl rfl<|Ts rfl (sD (vs := [_, _, _, _, _, _, _, _]) 1 8 rfl agg33 rfl rfl rfl)<|M rfl rfl<|Ts rfl (sF rfl fld31_4)<|Ts rfl (sL 2 rfl one3 rfl rfl)<|Ts rfl (sF rfl fld31_3)<|Ts rfl (sL 2 rfl one3 rfl rfl) ?_
 obtain ⟨⟨x235, x236, x237, x238, x239, x240, x241, x242, x243, x244, x245, x246, x247⟩, hcl248, hm⟩ := bS hm
 have hm := (unc13E hm)
 refine t_pullb 3 rfl<|Tg _ rfl call20 rfl (cGuardUnitHear _ _ d A f.C f.B G I J K L H x235 x236 x237 x238 x239 x240 x241 x242 x243 x244 x245 x246 x247 hcl248) ?_
 rintro _ b249 _ hle250 ⟨rfl, rfl⟩
 refine Ts rfl (st_extract rfl rfl)<|Ts rfl (st_extract rfl rfl)<|Do rfl (uN (vs := [_, _, _, _, _, _, _, _]) 1 8 rfl rfl rfl siz33 rfl (mc rfl (mc rfl (mc rfl (mc rfl (mc rfl (mc rfl (mc rfl (mc rfl mn)))))))) rfl (by simp)) ?_
 rintro _ _ rfl
 refine As rfl rfl<|Te<|Ct<|Xr ?_
 obtain ⟨rfl, rfl, rfl, rfl, rfl, rfl, rfl, rfl, rfl, rfl, rfl, rfl, rfl, rfl, rfl, rfl, rfl, rfl, rfl, rfl, rfl, rfl, rfl, rfl⟩ := some24 hm
 refine Xp 4 rfl<|Xp 1 rfl<|X2 [_, _, _, _, _] e c R rfl<|X2 [_, _, _, _, _] c e R rfl ?_
 have he251 := (h5.le hle250)
 have he252 := (h10.le hle250)
 exact rM (rs := [.cell 12 33, .tmp 13]) (vs := [.agg #[iv x235, iv x236, iv x237, iv x238, iv x239, iv x240, iv x241, iv x242], bv x243]) ⟨⟨_, rfl, fun w ho => cell_agg (vs := [_, _, _, _, _, _, _, _]) 2 8 agg33 rfl rfl rfl w ho⟩, ⟨rfl, trivial⟩⟩ ⟨e, D, E, c, rfl, rfl, he251, rfl, he252⟩ (.cons_cons _ (.cons_cons _ (.cons _ (.cons _ (.cons _ (.refl _)))))) hle250
 rw [if_neg (of_decide_eq_false hc234)] at hm
 refine Ck<|Xn<|Cs ?_
 obtain ⟨x317, hj318, hk318⟩ := bS hm
 refine Cj (fun b315 e' hp' => [(1, pb C), (2, sv y q z), (5, iv A), (9, pb g231), (10, pb g232), (12, pb g233), (39, bv x317)] = e' ∧ (C, Cl 49 [iv O, iv S, iv T, iv U, iv V, sv D B E, iv W, iv X, iv Y, iv Z]) :: (g231, Cl 31 [iv f.Kind, iv f.Wait, iv f.A, iv f.B, iv f.C]) :: (g232, Cl 33 [iv d.Kind, iv d.Session, iv d.No, iv d.Of, iv d.End, iv d.At, iv d.Speed, iv d.Sent]) :: (g233, Cl 33 [iv 0, iv 0, iv 0, iv 0, iv 0, iv 0, iv 0, iv 0]) :: (H, Cl 45 [iv G, iv I, iv J, iv K, iv L]) :: (e ++ (c ++ R)) = hp' ∧ b.Le b315) ?_ ?_
 have hm := hj318
 refine Cg<|Ts rfl (sF rfl fld31_0)<|Ts rfl (sL 2 rfl one3 rfl rfl) ?_
 refine Tb rfl (q1 rfl rfl) (fun hc319 => ?_) (fun hc319 => ?_)
 rw [if_pos hc319] at hm
 refine M rfl rfl<|Ys 30 rfl rfl rfl<|M rfl rfl<|Ys 30 rfl rfl rfl<|Ts rfl (sE rfl sl28)<|Ys 30 rfl rfl rfl ?_
 refine Tb rfl (q5 rfl rfl) (fun hc320 => ?_) (fun hc320 => ?_)
 rw [if_pos hc320] at hm
 refine Ts rfl (pT rfl rfl)<|M rfl rfl<|Ys 35 rfl rfl rfl<|Ts rfl (sF rfl fld33_0)<|Ys 35 rfl rfl rfl<|Ts rfl (sL 1 rfl one3 rfl rfl)<|Ys 35 rfl rfl rfl<|Ts rfl (q2 rfl rfl)<|Ts rfl (pT rfl rfl)<|Tn ?_
 obtain rfl := o1 hm
 refine Xp 3 rfl<|Xp 1 rfl<|Xp 2 rfl<|Xp 3 rfl<|Xp 4 rfl<|X2 [_, _, _, _, _] e c R rfl<|X2 [_, _, _, _, _] c e R rfl ?_
 exact xJ ⟨rfl, rfl, lr⟩ (.refl _)
 rw [if_neg hc320] at hm
 refine Ts rfl (pT rfl rfl)<|M rfl rfl<|No 35 rfl rfl rfl rfl rfl<|No 35 rfl rfl rfl rfl rfl<|No 35 rfl rfl rfl rfl rfl<|Ts rfl (pF rfl rfl)<|Tn ?_
 obtain rfl := o1 hm
 refine Xp 3 rfl<|Xp 1 rfl<|Xp 2 rfl<|Xp 3 rfl<|Xp 4 rfl<|X2 [_, _, _, _, _] e c R rfl<|X2 [_, _, _, _, _] c e R rfl ?_
 exact xJ ⟨rfl, rfl, lr⟩ (.refl _)
 rw [if_neg hc319] at hm
 refine M rfl rfl<|No 30 rfl rfl rfl rfl rfl<|No 30 rfl rfl rfl rfl rfl<|No 30 rfl rfl rfl rfl rfl<|Ts rfl (pF rfl rfl)<|M rfl rfl<|No 35 rfl rfl rfl rfl rfl<|No 35 rfl rfl rfl rfl rfl<|No 35 rfl rfl rfl rfl rfl<|Ts rfl (pF rfl rfl) ?_
 refine Tn ?_
 obtain rfl := o1 hm
 refine Xp 3 rfl<|Xp 1 rfl<|Xp 2 rfl<|Xp 3 rfl<|Xp 4 rfl<|X2 [_, _, _, _, _] e c R rfl<|X2 [_, _, _, _, _] c e R rfl ?_
 exact xJ ⟨rfl, rfl, lr⟩ (.refl _)
 rintro b315 _ _ ⟨rfl, rfl, F⟩
 have hm := hk318
 refine Cc _ rfl (fun hc321 => ?_) (fun hc321 => ?_)
 rw [if_pos hc321] at hm
 refine Cg<|M rfl rfl<|Ts rfl (sF rfl fld31_3)<|Ts rfl (sL 1 rfl one3 rfl rfl)<|M rfl rfl<|Ts rfl (sE rfl sl28) ?_
 obtain ⟨_, h322, hm⟩ := bS hm
 refine Ts rfl (st_rem rfl rfl (ne0_some h322)) ?_
 obtain ⟨a, h324, hm⟩ := bS hm
 obtain ⟨j325, hj326, hx327⟩ := iS h324
 obtain ⟨cs328, hs333, r, s, hq336, hr329, hcs330, hA331, hlt332, hb337, _⟩ := OS.get (sz := 1) rfl (by decide) (h5.le F) hx327
 obtain ⟨t, cs339, hs340, rfl, hr341, rfl⟩ := hr329
 obtain ⟨⟨_, _, rfl, rfl, ⟨_, _, rfl, rfl, ⟨_, _, rfl, rfl, ⟨_, _, rfl, rfl, ⟨_, _, rfl, rfl, ⟨_, _, rfl, ⟨A342, c343, rfl, h344⟩, h345⟩⟩⟩⟩⟩⟩, rfl⟩ := hr341
 obtain rfl : _ = [iv ((a.known.getD 0 0)), iv ((a.known.getD 1 0)), iv ((a.known.getD 2 0)), iv ((a.known.getD 3 0))] := arrI h345
 refine Ts rfl (sI j325 rfl rfl hj326 hlt332 hA331 sl28)<|Ts rfl (st_load_rd rfl one26 (fun w ho => hcs330 w _ ho (.cons _ (.cons _ (.cons _ (.cons _ (.cons _ (List.sublist_append_left _ _)))))) 0 _ rfl))<|t_prm [_, _, _, _, _] e (r ++ s) [(t, Cl 49 [iv a.session, iv a.last, iv a.no, iv a.heard, iv a.reserved, sv A342 a.asks c343, iv ((a.known.getD 0 0)), iv ((a.known.getD 1 0)), iv ((a.known.getD 2 0)), iv ((a.known.getD 3 0))])] (c ++ R) rfl (by rw [hq336]; exact prm_mid)<|As rfl rfl<|Te<|Cr<|M rfl rfl<|Ts rfl (sD (vs := [_, _, _, _, _, _, _, _]) 2 8 rfl agg33 rfl rfl rfl)<|M rfl rfl ?_
 obtain ⟨⟨x346, x347, x348, x349, x350, x351, x352, x353, x354, g, h, i, j, k, l, m, n, o, p⟩, hcl365, hm⟩ := bS hm
 have hm := (unc19E hm)
 refine t_pullb 5 rfl<|Tg _ rfl call21 rfl (cGuardCentreHear_2 _ _ d A a.session a.last a.no a.heard a.reserved a.asks (a.known.getD 0 0) (a.known.getD 1 0) (a.known.getD 2 0) (a.known.getD 3 0) t A342 c343 h344 x346 x347 x348 x349 x350 x351 x352 x353 x354 g h i j k l m n o p hcl365) ?_
 rintro _ b366 _ hle367 ⟨u, x, rfl, rfl, h370⟩
 refine Ts rfl (st_extract rfl rfl)<|Ts rfl (st_extract rfl rfl)<|Do rfl (uN (vs := [_, _, _, _, _, _, _, _]) 4 8 rfl rfl rfl siz33 rfl (mc rfl (mc rfl (mc rfl (mc rfl (mc rfl (mc rfl (mc rfl (mc rfl mn)))))))) rfl (by simp)) ?_
 rintro _ _ rfl
 refine As rfl rfl<|Te<|Ct<|x_seg 0 [_, _, _, _, _] ((r ++ s) ++ (c ++ R)) rfl rfl<|X2 [_, _, _, _, _] [(t, Cl 49 [iv g, iv h, iv i, iv j, iv k, sv u l x, iv m, iv n, iv o, iv p])] (r ++ s) (c ++ R) rfl<|x_mrg [_, _, _, _, _] (r ++ s) [(t, Cl 49 [iv g, iv h, iv i, iv j, iv k, sv u l x, iv m, iv n, iv o, iv p])] (r ++ ([(t, Cl 49 [iv g, iv h, iv i, iv j, iv k, sv u l x, iv m, iv n, iv o, iv p])] ++ s)) (c ++ R) rfl (prm_mid.symm) ?_
 have h372 := hb337 _ (⟨g, h, i, j, k, l, [m, n, o, p]⟩ : GuardCentre) _ hle367 ⟨_, [iv g, iv h, iv i, iv j, iv k, sv u l x, iv m, iv n, iv o, iv p], [], rfl, ⟨⟨[iv g], _, rfl, rfl, ⟨[iv h], _, rfl, rfl, ⟨[iv i], _, rfl, rfl, ⟨[iv j], _, rfl, rfl, ⟨[iv k], _, rfl, rfl, ⟨[sv u l x], _, rfl, (RT.list_mk h370), ⟨rfl, [[iv m], [iv n], [iv o], [iv p]], rfl, ⟨rfl, ⟨rfl, ⟨rfl, ⟨rfl, trivial⟩⟩⟩⟩⟩⟩⟩⟩⟩⟩⟩, rfl⟩, rfl⟩
 rw [← put_nat, ← hj326] at h372
 refine x_resp 2 rfl (v' := .slice y (put q (Int.tmod f.B (q.length : Int)) (⟨g, h, i, j, k, l, [m, n, o, p]⟩ : GuardCentre)).length z) (by simp only [put_length])<|x_resp 40 rfl (v' := .slice y (put q (Int.tmod f.B (q.length : Int)) (⟨g, h, i, j, k, l, [m, n, o, p]⟩ : GuardCentre)).length z) (by simp only [put_length])<|x_resp 43 rfl (v' := .slice y (put q (Int.tmod f.B (q.length : Int)) (⟨g, h, i, j, k, l, [m, n, o, p]⟩ : GuardCentre)).length z) (by simp only [put_length]) ?_
 obtain ⟨rfl, rfl, rfl, rfl, rfl, rfl, rfl, rfl, rfl, rfl, rfl, rfl, rfl, rfl, rfl, rfl, rfl, rfl, rfl, rfl, rfl, rfl, rfl, rfl⟩ := some24 hm
 refine Xp 4 rfl<|X2 [_, _, _, _, _] (r ++ ([(t, Cl 49 [iv g, iv h, iv i, iv j, iv k, sv u l x, iv m, iv n, iv o, iv p])] ++ s)) c R rfl<|X2 [_, _, _, _, _] c (r ++ ([(t, Cl 49 [iv g, iv h, iv i, iv j, iv k, sv u l x, iv m, iv n, iv o, iv p])] ++ s)) R rfl ?_
 have he373 := (h10.le (F.trans hle367))
 exact rM (rs := [.cell 12 33, .tmp 13]) (vs := [.agg #[iv x346, iv x347, iv x348, iv x349, iv x350, iv x351, iv x352, iv x353], bv x354]) ⟨⟨_, rfl, fun w ho => cell_agg (vs := [_, _, _, _, _, _, _, _]) 4 8 agg33 rfl rfl rfl w ho⟩, ⟨rfl, trivial⟩⟩ ⟨(r ++ ([(t, Cl 49 [iv g, iv h, iv i, iv j, iv k, sv u l x, iv m, iv n, iv o, iv p])] ++ s)), D, E, c, rfl, rfl, h372, ((put_length _ _ _).trans rfl), he373⟩ (.cons_cons _ (.cons_cons _ (.cons _ (.cons _ (.cons _ (.refl _)))))) (F.trans hle367)
 rw [if_neg (fun hh => Bool.noConfusion (hh.symm.trans hc321))] at hm
 refine Ck<|Xn<|Cr<|M rfl rfl<|Ts rfl (sD (vs := [_, _, _, _, _, _, _, _]) 2 8 rfl agg33 rfl rfl rfl)<|M rfl rfl ?_
 obtain ⟨⟨x374, x375, x376, x377, x378, x379, x380, x381, x382, x383, x384, x385, x386, x387, x388, x389, x390, x391, l392⟩, hcl393, hm⟩ := bS hm
 have hm := (unc19E hm)
 refine t_front2 [_, _, _, _, _] e c R rfl<|t_out1 [_] [_, _, _, _] c (e ++ R) rfl<|Tg _ rfl call21 rfl (cGuardCentreHear_3 _ _ d A O S T U V W X Y Z B C D E c (h10.le F) x374 x375 x376 x377 x378 x379 x380 x381 x382 x383 x384 x385 x386 x387 x388 x389 x390 x391 l392 hcl393) ?_
 rintro _ b394 _ hle395 ⟨A396, c397, hs398, rfl, rfl, h399⟩
 refine t_in1 [_] [_, _, _, _] hs398 (e ++ R) rfl<|Ts rfl (st_extract rfl rfl)<|Ts rfl (st_extract rfl rfl)<|Do rfl (uN (vs := [_, _, _, _, _, _, _, _]) 3 8 rfl rfl rfl siz33 rfl (mc rfl (mc rfl (mc rfl (mc rfl (mc rfl (mc rfl (mc rfl (mc rfl mn)))))))) rfl (by simp)) ?_
 rintro _ _ rfl
 refine As rfl rfl<|Te<|Ct ?_
 obtain ⟨rfl, rfl, rfl, rfl, rfl, rfl, rfl, rfl, rfl, rfl, rfl, rfl, rfl, rfl, rfl, rfl, rfl, rfl, rfl, rfl, rfl, rfl, rfl, rfl⟩ := some24 hm
 refine Xp 4 rfl<|X2 [_, _, _, _, _] hs398 e R rfl ?_
 have he400 := (h5.le (F.trans hle395))
 exact rM (rs := [.cell 12 33, .tmp 13]) (vs := [.agg #[iv x374, iv x375, iv x376, iv x377, iv x378, iv x379, iv x380, iv x381], bv x382]) ⟨⟨_, rfl, fun w ho => cell_agg (vs := [_, _, _, _, _, _, _, _]) 4 8 agg33 rfl rfl rfl w ho⟩, ⟨rfl, trivial⟩⟩ ⟨e, A396, c397, hs398, rfl, rfl, he400, rfl, h399⟩ (.cons_cons _ (.cons_cons _ (.cons _ (.cons _ (.cons _ (.refl _)))))) (F.trans hle395)

set_option maxRecDepth 20000 in
theorem cFishkeep1GuardRadio (b : Base) (R : Hp) (hG : GOn GT b) (l4 : (List Fishkeep1Act)) (A1 : OA) (t : Nat) (h3 : FZ rFishkeep1Act b.w A1 t l4) (x1814 : Bool) (hm : mFishkeep1GuardRadio l4 = some x1814) :
    CallsG Tryd.prog 3 [sv A1 l4 t] b (R) (fun v b' hp' => bv x1814 = v ∧ R = hp') := by
 refine fE 173 Tryd.func3 rfl Tryd.ntmps3 rfl ?_
 unfold mFishkeep1GuardRadio at hm
 refine Cr<|As rfl rfl<|Te<|Cs<|Cr ?_
 obtain ⟨x1815, hcl1816, hm⟩ := bS hm
 refine Do rfl (uW _ call4 rfl (fun w ho => cFishkeep1AwakeGuard _ [] ((hG.le lr).old ho) x1815 hcl1816) (fun _ _ _ h => h.2.symm)) ?_
 rintro _ _ ⟨⟨_, rfl, _⟩, rfl⟩
 refine Ts rfl (sn2 rfl)<|Te ?_
 refine Cc _ rfl (fun hc1817 => ?_) (fun hc1817 => ?_)
 rw [if_neg (fun hh => Bool.noConfusion (hh.symm.trans (nt hc1817)))] at hm
 refine Cr<|As rfl rfl<|Te<|Ct<|Xr ?_
 obtain rfl := o1 hm
 exact rM (rs := [.tmp 2]) (vs := [bv false]) ⟨rfl, trivial⟩ ⟨rfl, rfl⟩ (.refl _) lr
 rw [if_pos (nf hc1817)] at hm
 refine Ck<|Xn<|Cr ?_
 obtain ⟨⟨x1818, x1819, x1820, x1821, x1822⟩, hcl1823, hm⟩ := bS hm
 have hm := (unc5E hm)
 refine Tg _ rfl call5 rfl (cGuardNewUnit _ _ x1818 x1819 x1820 x1821 x1822 hcl1823) ?_
 rintro _ b1824 _ hle1825 ⟨q, rfl, rfl⟩
 obtain ⟨⟨x1827, x1828, x1829, x1830, x1831, x1832, x1833, x1834, x1835, l1836⟩, hcl1837, hm⟩ := bS hm
 have hm := (unc10E hm)
 refine Tg _ rfl call6 rfl (cGuardNewCentre _ _ x1827 x1828 x1829 x1830 x1831 x1832 x1833 x1834 x1835 l1836 hcl1837) ?_
 rintro _ b1838 _ hle1839 ⟨g1840, A1841, c1842, hs1843, rfl, rfl, h1844, h1845⟩
 refine t_in1 [_] [_] hs1843 R rfl<|As rfl rfl<|As rfl rfl<|Te<|Cr<|As rfl rfl<|Te<|Cr<|As rfl rfl<|Te ?_
 refine Cr<|As rfl rfl<|Te<|Cs<|Cr<|M rfl rfl<|M rfl rfl<|Ts rfl (sE rfl sl22)<|Ts rfl (st_min rfl rfl) ?_
 obtain ⟨x, h1847, hm⟩ := bS hm
 obtain ⟨y, j1849, hj1850, hj1851, hj1852, hj1853, hx1854⟩ := cutS_some h1847
 have h1855 := FZ.sub (sz := 5) rfl (h3.le (hle1825.trans hle1839)) hj1852 hj1853
 have h1856 := (h3.le (hle1825.trans hle1839)).1.1
 rw [← hx1854] at h1855
 refine Ts rfl (hx1854 ▸ st_part (l := l4) y j1849 rfl (.inl ⟨rfl, by omega⟩) (.inr ⟨_, _, _, rfl, rfl, hj1851⟩) hj1852 hj1853 h1856 sl22)<|Ts rfl (sE rfl sl22)<|M rfl rfl<|Te<|Cb ?_
 have hb1862 : x.length ≤ 9223372036854775807 := (FZ.bd h1855)
 refine Cp 1 rfl ?_
 obtain ⟨t3050, hl3051, hk3052⟩ := bS hm
 refine cF (fun k3049 => unc18 fun ac G W ah X Y H f ad I ae g k m n ag l3047 O => fun b3013 e' hp' => ∃ (e : Nat), ∃ (S : OA), ∃ (T : Nat), ∃ (a : Hp), ∃ (A3022 : OA), ∃ (c3023 : Nat), ∃ (d : Hp), ∃ (J : OA), ∃ (K : Nat), ∃ (c : Hp), [(3, pb q), (4, pb e), (5, sv S ag T), (6, sv A3022 l3047 c3023), (7, iv ac), (25, .slice (subA A1 t y 5) (x).length (t - y)), (26, iv ((x.length : Int))), (27, iv ((k3049 : Int)))] = e' ∧ (q, Cl 45 [iv G, iv W, iv ah, iv X, iv Y]) :: (e, Cl 49 [iv H, iv f, iv ad, iv I, iv ae, sv J O K, iv g, iv k, iv m, iv n]) :: (a ++ (d ++ (c ++ R))) = hp' ∧ b1838.Le b3013 ∧ OS 26 (OT.ptr 49 (OT.fr rGuardCentre)) b3013.w (sv S ag T) ag a ∧ OS 33 (OT.fr rGuardPacket) b3013.w (sv A3022 l3047 c3023) l3047 d ∧ OS 71 (OT.fr rGuardAsk) b3013.w (sv J O K) O c) hl3051 ⟨g1840, none, 0, [], none, 0, [], A1841, c1842, hs1843, rfl, rfl, lr, OS.nil, OS.nil, h1844⟩ (.refl _) ?_ ?_
 rintro k3049 ⟨ac, G, W, ah, X, Y, H, f, ad, I, ae, g, k, m, n, ag, l3047, O⟩ b3013 _ _ oL1861 hknL1861 ⟨e, S, T, a, A3022, c3023, d, J, K, c, rfl, rfl, hle3014, h3019, h3024, h3029⟩ hstepL1861 houtL1861
 unfold mFishkeep1GuardRadio_L1861 at hstepL1861
 have hm := (unc18E hstepL1861)
 refine Cr<|Ts rfl (lT rfl rfl (by omega))<|Te<|Cs<|c_cond_t rfl<|Ck<|Xn<|Cs<|Cb<|Cr ?_
 obtain ⟨s, h3054, hm⟩ := bS hm
 obtain ⟨j3055, hj3056, hx3057⟩ := iS h3054
 obtain ⟨cs3058, hr3059, hcs3060, hA3061, hlt3062⟩ := FZ.get (sz := 5) rfl (by decide) (h1855.le hle3014) hx3057
 obtain ⟨_, _, rfl, rfl, ⟨_, _, rfl, rfl, ⟨_, _, rfl, rfl, ⟨_, _, rfl, rfl, rfl⟩⟩⟩⟩ := hr3059
 refine Ts rfl (sI j3055 rfl rfl hj3056 hlt3062 hA3061 sl22)<|Ts rfl (sP (vs := [iv s.Kind, iv s.Wait, iv s.A, iv s.B, iv s.C]) 5 rfl agg31 hA3061 rfl (fun j u hu => hcs3060 j u hu))<|Do rfl (uA [iv 0, iv 0, iv 0, iv 0, iv 0] zero31 rfl) ?_
 rintro _ _ ⟨g3063, rfl, rfl⟩
 refine Do rfl (uN (vs := [_, _, _, _, _]) 0 5 rfl rfl rfl siz31 rfl (mc rfl (mc rfl (mc rfl (mc rfl (mc rfl mn))))) rfl (by simp)) ?_
 rintro _ _ rfl
 refine Te<|Cs ?_
 obtain ⟨x3073, hj3074, hk3074⟩ := bS hm
 refine Cj (fun b3071 e' hp' => [(3, pb q), (4, pb e), (5, sv S ag T), (6, sv A3022 l3047 c3023), (7, iv ac), (9, pb g3063), (25, .slice (subA A1 t y 5) (x).length (t - y)), (26, iv ((x.length : Int))), (27, iv ((k3049 : Int))), (68, bv x3073)] = e' ∧ (q, Cl 45 [iv G, iv W, iv ah, iv X, iv Y]) :: (e, Cl 49 [iv H, iv f, iv ad, iv I, iv ae, sv J O K, iv g, iv k, iv m, iv n]) :: (g3063, Cl 31 [iv s.Kind, iv s.Wait, iv s.A, iv s.B, iv s.C]) :: (a ++ (d ++ (c ++ R))) = hp' ∧ b3013.Le b3071) ?_ ?_
 have hm := hj3074
 refine Cg<|Ts rfl (sF rfl fld31_1)<|Ts rfl (sL 0 rfl one3 rfl rfl) ?_
 refine Tb rfl (q3 rfl rfl) (fun hc3075 => ?_) (fun hc3075 => ?_)
 rw [if_pos hc3075] at hm
 refine M rfl rfl<|No 34 rfl rfl rfl rfl rfl<|No 34 rfl rfl rfl rfl rfl<|No 34 rfl rfl rfl rfl rfl<|Ts rfl (pT rfl rfl)<|M rfl rfl<|No 39 rfl rfl rfl rfl rfl<|No 39 rfl rfl rfl rfl rfl<|No 39 rfl rfl rfl rfl rfl<|Ts rfl (pT rfl rfl) ?_
 refine M rfl rfl<|No 44 rfl rfl rfl rfl rfl<|No 44 rfl rfl rfl rfl rfl<|No 44 rfl rfl rfl rfl rfl<|Ts rfl (pT rfl rfl)<|M rfl rfl<|No 49 rfl rfl rfl rfl rfl<|No 49 rfl rfl rfl rfl rfl<|No 49 rfl rfl rfl rfl rfl<|Ts rfl (pT rfl rfl) ?_
 refine M rfl rfl<|No 54 rfl rfl rfl rfl rfl<|No 54 rfl rfl rfl rfl rfl<|No 54 rfl rfl rfl rfl rfl<|Ts rfl (pT rfl rfl)<|M rfl rfl<|No 59 rfl rfl rfl rfl rfl<|No 59 rfl rfl rfl rfl rfl<|No 59 rfl rfl rfl rfl rfl<|Ts rfl (pT rfl rfl) ?_
 refine M rfl rfl<|No 64 rfl rfl rfl rfl rfl<|No 64 rfl rfl rfl rfl rfl<|No 64 rfl rfl rfl rfl rfl<|Ts rfl (pT rfl rfl)<|Tn ?_
 obtain rfl := o1 hm
 refine Xp 2 rfl<|Xp 2 rfl<|X3 [_, _, _] a d c R rfl<|X3 [_, _, _] c a d R rfl<|X3 [_, _, _] d c a R rfl ?_
 exact xJ ⟨rfl, rfl, lr⟩ (.refl _)
 rw [if_neg hc3075] at hm
 refine M rfl rfl<|Ys 34 rfl rfl rfl<|Ts rfl (sF rfl fld31_1)<|Ys 34 rfl rfl rfl<|Ts rfl (sL 0 rfl one3 rfl rfl)<|Ys 34 rfl rfl rfl ?_
 refine Tb rfl (q5 rfl rfl) (fun hc3076 => ?_) (fun hc3076 => ?_)
 rw [if_pos hc3076] at hm
 refine Ts rfl (pF rfl rfl)<|M rfl rfl<|No 39 rfl rfl rfl rfl rfl<|No 39 rfl rfl rfl rfl rfl<|No 39 rfl rfl rfl rfl rfl<|Ts rfl (pT rfl rfl)<|M rfl rfl<|No 44 rfl rfl rfl rfl rfl<|No 44 rfl rfl rfl rfl rfl<|No 44 rfl rfl rfl rfl rfl ?_
 refine Ts rfl (pT rfl rfl)<|M rfl rfl<|No 49 rfl rfl rfl rfl rfl<|No 49 rfl rfl rfl rfl rfl<|No 49 rfl rfl rfl rfl rfl<|Ts rfl (pT rfl rfl)<|M rfl rfl<|No 54 rfl rfl rfl rfl rfl<|No 54 rfl rfl rfl rfl rfl<|No 54 rfl rfl rfl rfl rfl ?_
 refine Ts rfl (pT rfl rfl)<|M rfl rfl<|No 59 rfl rfl rfl rfl rfl<|No 59 rfl rfl rfl rfl rfl<|No 59 rfl rfl rfl rfl rfl<|Ts rfl (pT rfl rfl)<|M rfl rfl<|No 64 rfl rfl rfl rfl rfl<|No 64 rfl rfl rfl rfl rfl<|No 64 rfl rfl rfl rfl rfl ?_
 refine Ts rfl (pT rfl rfl)<|Tn ?_
 obtain rfl := o1 hm
 refine Xp 2 rfl<|Xp 2 rfl<|X3 [_, _, _] a d c R rfl<|X3 [_, _, _] c a d R rfl<|X3 [_, _, _] d c a R rfl ?_
 exact xJ ⟨rfl, rfl, lr⟩ (.refl _)
 rw [if_neg hc3076] at hm
 refine Ts rfl (pF rfl rfl)<|M rfl rfl<|Ys 39 rfl rfl rfl<|Ts rfl (sF rfl fld31_2)<|Ys 39 rfl rfl rfl<|Ts rfl (sL 0 rfl one3 rfl rfl)<|Ys 39 rfl rfl rfl ?_
 refine Tb rfl (q3 rfl rfl) (fun hc3077 => ?_) (fun hc3077 => ?_)
 rw [if_pos hc3077] at hm
 refine Ts rfl (pF rfl rfl)<|M rfl rfl<|No 44 rfl rfl rfl rfl rfl<|No 44 rfl rfl rfl rfl rfl<|No 44 rfl rfl rfl rfl rfl<|Ts rfl (pT rfl rfl)<|M rfl rfl<|No 49 rfl rfl rfl rfl rfl<|No 49 rfl rfl rfl rfl rfl<|No 49 rfl rfl rfl rfl rfl ?_
 refine Ts rfl (pT rfl rfl)<|M rfl rfl<|No 54 rfl rfl rfl rfl rfl<|No 54 rfl rfl rfl rfl rfl<|No 54 rfl rfl rfl rfl rfl<|Ts rfl (pT rfl rfl)<|M rfl rfl<|No 59 rfl rfl rfl rfl rfl<|No 59 rfl rfl rfl rfl rfl<|No 59 rfl rfl rfl rfl rfl ?_
 refine Ts rfl (pT rfl rfl)<|M rfl rfl<|No 64 rfl rfl rfl rfl rfl<|No 64 rfl rfl rfl rfl rfl<|No 64 rfl rfl rfl rfl rfl<|Ts rfl (pT rfl rfl)<|Tn ?_
 obtain rfl := o1 hm
 refine Xp 2 rfl<|Xp 2 rfl<|X3 [_, _, _] a d c R rfl<|X3 [_, _, _] c a d R rfl<|X3 [_, _, _] d c a R rfl ?_
 exact xJ ⟨rfl, rfl, lr⟩ (.refl _)
 rw [if_neg hc3077] at hm
 refine Ts rfl (pF rfl rfl)<|M rfl rfl<|Ys 44 rfl rfl rfl<|Ts rfl (sF rfl fld31_2)<|Ys 44 rfl rfl rfl<|Ts rfl (sL 0 rfl one3 rfl rfl)<|Ys 44 rfl rfl rfl ?_
 refine Tb rfl (q5 rfl rfl) (fun hc3078 => ?_) (fun hc3078 => ?_)
 rw [if_pos hc3078] at hm
 refine Ts rfl (pF rfl rfl)<|M rfl rfl<|No 49 rfl rfl rfl rfl rfl<|No 49 rfl rfl rfl rfl rfl<|No 49 rfl rfl rfl rfl rfl<|Ts rfl (pT rfl rfl)<|M rfl rfl<|No 54 rfl rfl rfl rfl rfl<|No 54 rfl rfl rfl rfl rfl<|No 54 rfl rfl rfl rfl rfl ?_
 refine Ts rfl (pT rfl rfl)<|M rfl rfl<|No 59 rfl rfl rfl rfl rfl<|No 59 rfl rfl rfl rfl rfl<|No 59 rfl rfl rfl rfl rfl<|Ts rfl (pT rfl rfl)<|M rfl rfl<|No 64 rfl rfl rfl rfl rfl<|No 64 rfl rfl rfl rfl rfl<|No 64 rfl rfl rfl rfl rfl ?_
 refine Ts rfl (pT rfl rfl)<|Tn ?_
 obtain rfl := o1 hm
 refine Xp 2 rfl<|Xp 2 rfl<|X3 [_, _, _] a d c R rfl<|X3 [_, _, _] c a d R rfl<|X3 [_, _, _] d c a R rfl ?_
 exact xJ ⟨rfl, rfl, lr⟩ (.refl _)
 rw [if_neg hc3078] at hm
 refine Ts rfl (pF rfl rfl)<|M rfl rfl<|Ys 49 rfl rfl rfl<|Ts rfl (sF rfl fld31_3)<|Ys 49 rfl rfl rfl<|Ts rfl (sL 0 rfl one3 rfl rfl)<|Ys 49 rfl rfl rfl ?_
 refine Tb rfl (q3 rfl rfl) (fun hc3079 => ?_) (fun hc3079 => ?_)
 rw [if_pos hc3079] at hm
 refine Ts rfl (pF rfl rfl)<|M rfl rfl<|No 54 rfl rfl rfl rfl rfl<|No 54 rfl rfl rfl rfl rfl<|No 54 rfl rfl rfl rfl rfl<|Ts rfl (pT rfl rfl)<|M rfl rfl<|No 59 rfl rfl rfl rfl rfl<|No 59 rfl rfl rfl rfl rfl<|No 59 rfl rfl rfl rfl rfl ?_
 refine Ts rfl (pT rfl rfl)<|M rfl rfl<|No 64 rfl rfl rfl rfl rfl<|No 64 rfl rfl rfl rfl rfl<|No 64 rfl rfl rfl rfl rfl<|Ts rfl (pT rfl rfl)<|Tn ?_
 obtain rfl := o1 hm
 refine Xp 2 rfl<|Xp 2 rfl<|X3 [_, _, _] a d c R rfl<|X3 [_, _, _] c a d R rfl<|X3 [_, _, _] d c a R rfl ?_
 exact xJ ⟨rfl, rfl, lr⟩ (.refl _)
 rw [if_neg hc3079] at hm
 refine Ts rfl (pF rfl rfl)<|M rfl rfl<|Ys 54 rfl rfl rfl<|Ts rfl (sF rfl fld31_3)<|Ys 54 rfl rfl rfl<|Ts rfl (sL 0 rfl one3 rfl rfl)<|Ys 54 rfl rfl rfl ?_
 refine Tb rfl (q5 rfl rfl) (fun hc3080 => ?_) (fun hc3080 => ?_)
 rw [if_pos hc3080] at hm
 refine Ts rfl (pF rfl rfl)<|M rfl rfl<|No 59 rfl rfl rfl rfl rfl<|No 59 rfl rfl rfl rfl rfl<|No 59 rfl rfl rfl rfl rfl<|Ts rfl (pT rfl rfl)<|M rfl rfl<|No 64 rfl rfl rfl rfl rfl<|No 64 rfl rfl rfl rfl rfl<|No 64 rfl rfl rfl rfl rfl ?_
 refine Ts rfl (pT rfl rfl)<|Tn ?_
 obtain rfl := o1 hm
 refine Xp 2 rfl<|Xp 2 rfl<|X3 [_, _, _] a d c R rfl<|X3 [_, _, _] c a d R rfl<|X3 [_, _, _] d c a R rfl ?_
 exact xJ ⟨rfl, rfl, lr⟩ (.refl _)
 rw [if_neg hc3080] at hm
 refine Ts rfl (pF rfl rfl)<|M rfl rfl<|Ys 59 rfl rfl rfl<|Ts rfl (sF rfl fld31_4)<|Ys 59 rfl rfl rfl<|Ts rfl (sL 0 rfl one3 rfl rfl)<|Ys 59 rfl rfl rfl ?_
 refine Tb rfl (q3 rfl rfl) (fun hc3081 => ?_) (fun hc3081 => ?_)
 rw [if_pos hc3081] at hm
 refine Ts rfl (pF rfl rfl)<|M rfl rfl<|No 64 rfl rfl rfl rfl rfl<|No 64 rfl rfl rfl rfl rfl<|No 64 rfl rfl rfl rfl rfl<|Ts rfl (pT rfl rfl)<|Tn ?_
 obtain rfl := o1 hm
 refine Xp 2 rfl<|Xp 2 rfl<|X3 [_, _, _] a d c R rfl<|X3 [_, _, _] c a d R rfl<|X3 [_, _, _] d c a R rfl ?_
 exact xJ ⟨rfl, rfl, lr⟩ (.refl _)
 rw [if_neg hc3081] at hm
 refine Ts rfl (pF rfl rfl)<|M rfl rfl<|Ys 64 rfl rfl rfl<|Ts rfl (sF rfl fld31_4)<|Ys 64 rfl rfl rfl<|Ts rfl (sL 0 rfl one3 rfl rfl)<|Ys 64 rfl rfl rfl<|Ts rfl (q5 rfl rfl)<|Ts rfl (pF rfl rfl)<|Tn ?_
 obtain rfl := o1 hm
 refine Xp 2 rfl<|Xp 2 rfl<|X3 [_, _, _] a d c R rfl<|X3 [_, _, _] c a d R rfl<|X3 [_, _, _] d c a R rfl ?_
 exact xJ ⟨rfl, rfl, lr⟩ (.refl _)
 rintro b3071 _ _ ⟨rfl, rfl, p⟩
 have hm := hk3074
 refine Cc _ rfl (fun hc3082 => ?_) (fun hc3082 => ?_)
 rw [if_pos hc3082] at hm
 refine Cr<|As rfl rfl<|Te<|Ct<|Xr<|Xb<|Xr<|Xr<|Xb<|Xr ?_
 have hq3083 := houtL1861 _ (Option.some.inj hm).symm
 rw [hq3083] at hk3052
 have hm := elimR hk3052
 obtain rfl := o1 hm
 exact rM (rs := [.tmp 2]) (vs := [bv true]) ⟨rfl, trivial⟩ ⟨rfl, rfl⟩ (.cons _ (.cons _ (.cons _ (ss a (ss d (ss c (.refl _))))))) (hle1825.trans (hle1839.trans (hle3014.trans p)))
 rw [if_neg (fun hh => Bool.noConfusion (hh.symm.trans hc3082))] at hm
 refine Ck<|Xn<|Cr<|M rfl rfl<|Ts rfl (sF rfl fld31_1)<|Ts rfl (sL 2 rfl one3 rfl rfl) ?_
 obtain ⟨_, h3084, hm⟩ := bS hm
 have h3084 := (kS h3084).2
 refine Ts rfl (sa rfl rfl h3084)<|As rfl rfl<|Te<|Cr<|Do rfl (uA [iv 0, iv 0, iv 0, iv 0, iv 0, iv 0, iv 0, iv 0] zero33 rfl) ?_
 rintro _ _ ⟨g3085, rfl, rfl⟩
 refine Te<|Cr<|As rfl rfl<|Te<|Cs<|Cr<|Ts rfl (sF rfl fld31_0)<|Ts rfl (sL 3 rfl one3 rfl rfl)<|Te<|Cb ?_
 refine Cr<|Ts rfl (q1 rfl rfl)<|As rfl rfl<|Te ?_
 refine Cc _ rfl (fun hc3086 => ?_) (fun hc3086 => ?_)
 rw [if_pos (of_decide_eq_true hc3086)] at hm
 refine Cr<|Ts rfl (sF rfl fld31_2)<|Ts rfl (sL 3 rfl one3 rfl rfl)<|As rfl rfl<|Te ?_
 obtain ⟨x3104, hj3105, hk3105⟩ := bS hm
 refine Cj (fun b3102 e' hp' => [(3, pb q), (4, pb e), (5, sv S ag T), (6, sv A3022 l3047 c3023), (7, iv (ac + s.Wait)), (10, pb g3085), (12, iv x3104), (25, .slice (subA A1 t y 5) (x).length (t - y)), (26, iv ((x.length : Int))), (27, iv ((k3049 : Int)))] = e' ∧ (q, Cl 45 [iv G, iv W, iv ah, iv X, iv Y]) :: (e, Cl 49 [iv H, iv f, iv ad, iv I, iv ae, sv J O K, iv g, iv k, iv m, iv n]) :: (g3085, Cl 33 [iv 0, iv 0, iv 0, iv 0, iv 0, iv 0, iv 0, iv 0]) :: (a ++ (d ++ (c ++ R))) = hp' ∧ b3071.Le b3102) ?_ ?_
 have hm := hj3105
 refine Cr<|M rfl rfl ?_
 obtain ⟨x3106, hcl3107, hm⟩ := bS hm
 refine t_pullb 1 rfl<|Tg _ rfl call7 rfl (cGuardUnitSession _ _ G W ah X Y q x3106 hcl3107) ?_
 rintro _ b3108 _ hle3109 ⟨rfl, rfl⟩
 refine Ts rfl (q5 rfl rfl)<|Te ?_
 refine Cc _ rfl (fun hc3110 => ?_) (fun hc3110 => ?_)
 rw [if_pos (of_decide_eq_true hc3110)] at hm
 obtain ⟨x3116, hcl3117, hm⟩ := bS hm
 obtain ⟨_, h3120, hm⟩ := bS hm
 refine Di mixed (.cons _ (.refl _))<|E0 0 rfl (sM rfl)<|E0 2 rfl (sF rfl fld31_2)<|Es 3 rfl (sL 2 rfl one3 rfl rfl)<|Eo<|Da [1] (by kernel_rfl) rfl ?_
 refine Rg lr rfl rfl _ call8 rfl (cGuardUnitEnd _ _ G W ah X Y q x3116 hcl3117) ?_ ?_
 rintro _ b3118 _ hle3119 ⟨rfl, rfl⟩
 refine ⟨.inr (.cons _ (.refl _)), ?_⟩
 have h3120 := (kS h3120).2
 refine Ei hle3119 (.cons _ (.refl _))<|E0 4 rfl (sb rfl rfl h3120)<|E0 5 rfl (st_max rfl rfl)<|E0 6 rfl (sA rfl)<|Eo<|Dd (by kernel_rfl) ?_
 obtain rfl := o1 hm
 refine Xp 1 rfl<|Xp 2 rfl<|Xp 2 rfl<|X3 [_, _, _, _] a d c R rfl<|X3 [_, _, _, _] c a d R rfl<|X3 [_, _, _, _] d c a R rfl ?_
 exact xJ ⟨rfl, rfl, (hle3109.trans hle3119)⟩ (.cons_cons _ (.cons_cons _ (.cons_cons _ (.cons _ (.refl _)))))
 exact Rn
 rw [if_neg (of_decide_eq_false hc3110)] at hm
 refine Ck ?_
 obtain rfl := o1 hm
 refine Xp 1 rfl<|Xp 2 rfl<|Xp 2 rfl<|X3 [_, _, _, _] a d c R rfl<|X3 [_, _, _, _] c a d R rfl<|X3 [_, _, _, _] d c a R rfl ?_
 exact xJ ⟨rfl, rfl, hle3109⟩ (.cons_cons _ (.cons_cons _ (.cons_cons _ (.cons _ (.refl _)))))
 rintro b3102 _ _ ⟨rfl, rfl, hle3103⟩
 have hm := hk3105
 refine Cr<|M rfl rfl<|M rfl rfl<|M rfl rfl ?_
 obtain ⟨⟨x3121, x3122, x3123, x3124, x3125, x3126, x3127, x3128, x3129, x3130, x3131, x3132, x3133, x3134⟩, hcl3135, hm⟩ := bS hm
 have hm := (unc14E hm)
 refine Tg _ rfl call9 rfl (cGuardUnitBegin _ _ (ac + s.Wait) x3104 G W ah X Y q x3121 x3122 x3123 x3124 x3125 x3126 x3127 x3128 x3129 x3130 x3131 x3132 x3133 x3134 hcl3135) ?_
 rintro _ b3136 _ hle3137 ⟨rfl, rfl⟩
 refine M rfl rfl<|Ts rfl (st_extract rfl rfl)<|Ts rfl (st_extract rfl rfl)<|Do rfl (uA [iv 0, iv 0, iv 0, iv 0, iv 0, iv 0, iv 0, iv 0] zero33 rfl) ?_
 rintro _ _ ⟨g3138, rfl, rfl⟩
 refine Do rfl (uN (vs := [_, _, _, _, _, _, _, _]) 0 8 rfl rfl rfl siz33 rfl (mc rfl (mc rfl (mc rfl (mc rfl (mc rfl (mc rfl (mc rfl (mc rfl mn)))))))) rfl (by simp)) ?_
 rintro _ _ rfl
 refine As rfl rfl<|Te<|Cg<|Ts rfl (sD (vs := [_, _, _, _, _, _, _, _]) 0 8 rfl agg33 rfl rfl rfl)<|M rfl rfl<|Ts rfl (q1 rfl rfl)<|Do rfl (uN (vs := [_, _, _, _, _, _, _, _]) 3 8 rfl rfl rfl siz33 rfl (mc rfl (mc rfl (mc rfl (mc rfl (mc rfl (mc rfl (mc rfl (mc rfl mn)))))))) rfl (by simp)) ?_
 rintro _ _ rfl
 refine As rfl rfl<|Tn<|Xm<|Xn ?_
 obtain ⟨l3153, hj3154, hk3154⟩ := bS hm
 refine Cj (fun b3146 e' hp' => ∃ (A3150 : OA), ∃ (c3151 : Nat), ∃ (hs3149 : Hp), [(3, pb q), (4, pb e), (5, sv S ag T), (6, sv A3150 l3153 c3151), (7, iv (ac + s.Wait)), (25, .slice (subA A1 t y 5) (x).length (t - y)), (26, iv ((x.length : Int))), (27, iv ((k3049 : Int)))] = e' ∧ (q, Cl 45 [iv x3130, iv x3131, iv x3132, iv x3133, iv x3134]) :: (e, Cl 49 [iv H, iv f, iv ad, iv I, iv ae, sv J O K, iv g, iv k, iv m, iv n]) :: (a ++ (hs3149 ++ (c ++ R))) = hp' ∧ b3136.Le b3146 ∧ OS 33 (OT.fr rGuardPacket) b3146.w (sv A3150 l3153 c3151) l3153 hs3149) ?_ ?_
 have hm := hj3154
 refine Cr<|M rfl rfl<|Te ?_
 refine Cc _ rfl (fun hc3155 => ?_) (fun hc3155 => ?_)
 rw [if_pos (of_decide_eq_true hc3155)] at hm
 refine Cg<|M rfl rfl<|Ts rfl (sD (vs := [_, _, _, _, _, _, _, _]) 3 8 rfl agg33 rfl rfl rfl)<|Do rfl (u_bslice (el := 33) [(0, .agg #[iv x3121, iv x3122, iv x3123, iv x3124, iv x3125, iv x3126, iv x3127, iv x3128])] [iv x3121, iv x3122, iv x3123, iv x3124, iv x3125, iv x3126, iv x3127, iv x3128] rfl (fun _ => by kernel_rfl)) ?_
 rintro _ _ ⟨g3156, rfl, rfl⟩
 obtain ⟨_, h3157, hm⟩ := bS hm
 have h3157 := room_some h3157
 refine t_front2 [_, _, _, _, _] a d (c ++ R) rfl<|Do rfl (uQ (r := rGuardPacket) (l := l3047) [_, _, _, _, _] (a ++ (c ++ R)) [[iv x3121, iv x3122, iv x3123, iv x3124, iv x3125, iv x3126, iv x3127, iv x3128]] [(⟨x3121, x3122, x3123, x3124, x3125, x3126, x3127, x3128⟩ : GuardPacket)] rfl (by decide) sl29 inf33 rfl rfl rfl rfl (h3024.le (p.trans (hle3103.trans hle3137))) rfl (fun w ho => Rd.own (i := 0) ho rfl) ⟨⟨[iv x3121], _, rfl, rfl, ⟨[iv x3122], _, rfl, rfl, ⟨[iv x3123], _, rfl, rfl, ⟨[iv x3124], _, rfl, rfl, ⟨[iv x3125], _, rfl, rfl, ⟨[iv x3126], _, rfl, rfl, ⟨[iv x3127], _, rfl, rfl, rfl⟩⟩⟩⟩⟩⟩⟩, trivial⟩ h3157) ?_
 rintro _ _ ⟨hs3158, rfl, h3159⟩
 obtain ⟨A3160, c3161, rfl, _⟩ := h3159.form
 refine As rfl rfl<|Tn ?_
 obtain rfl := o1 hm
 refine Xp 3 rfl<|Xp 3 rfl<|X3 [_, _, _, _, _] hs3158 a c R rfl<|X2 [_, _, _, _, _] c hs3158 (a ++ R) rfl<|X3 [_, _, _, _, _] hs3158 c a R rfl ?_
 exact xJ ⟨A3160, c3161, hs3158, rfl, rfl, lr, h3159⟩ (.cons_cons _ (.cons_cons _ (.cons _ (.cons _ (.cons _ (.refl _))))))
 rw [if_neg (of_decide_eq_false hc3155)] at hm
 refine Ck ?_
 obtain rfl := o1 hm
 refine Xp 2 rfl<|Xp 2 rfl<|X3 [_, _, _, _] a d c R rfl<|X3 [_, _, _, _] c a d R rfl<|X3 [_, _, _, _] d c a R rfl ?_
 exact xJ ⟨A3022, c3023, d, rfl, rfl, lr, (h3024.le (p.trans (hle3103.trans hle3137)))⟩ (.cons_cons _ (.cons_cons _ (.cons _ (.cons _ (.refl _)))))
 rintro b3146 _ _ ⟨A3150, c3151, hs3149, rfl, rfl, hle3147, h3152⟩
 have hm := hk3154
 obtain ⟨x3177, hj3178, hk3178⟩ := bS hm
 refine Cj (fun b3175 e' hp' => [(3, pb q), (4, pb e), (5, sv S ag T), (6, sv A3150 l3153 c3151), (7, iv (ac + s.Wait)), (25, .slice (subA A1 t y 5) (x).length (t - y)), (26, iv ((x.length : Int))), (27, iv ((k3049 : Int))), (171, bv x3177)] = e' ∧ (q, Cl 45 [iv x3130, iv x3131, iv x3132, iv x3133, iv x3134]) :: (e, Cl 49 [iv H, iv f, iv ad, iv I, iv ae, sv J O K, iv g, iv k, iv m, iv n]) :: (a ++ (hs3149 ++ (c ++ R))) = hp' ∧ b3146.Le b3175) ?_ ?_
 have hm := hj3178
 refine Cg<|M rfl rfl ?_
 obtain ⟨x3179, hcl3180, hm⟩ := bS hm
 refine t_pullb 1 rfl<|t_front3 [_, _] a hs3149 c R rfl<|t_out1 [_] [_] c (a ++ (hs3149 ++ R)) rfl<|Tg _ rfl call14 rfl (cGuardCentreReserved_2 _ _ H f ad I ae g k m n O e J K c (h3029.le (p.trans (hle3103.trans (hle3137.trans hle3147)))) x3179 hcl3180) ?_
 rintro _ b3181 _ hle3182 ⟨rfl, rfl⟩
 refine t_in1 [_] [_] c (a ++ (hs3149 ++ R)) rfl ?_
 refine Tb rfl (q5 rfl rfl) (fun hc3183 => ?_) (fun hc3183 => ?_)
 rw [if_pos hc3183] at hm
 refine M rfl rfl<|Ys 165 rfl rfl rfl<|M rfl rfl<|Ys 165 rfl rfl rfl ?_
 obtain ⟨x3184, hcl3185, hm⟩ := bS hm
 refine t_pullb 1 rfl<|Tg _ rfl call8 rfl (cGuardUnitEnd _ _ x3130 x3131 x3132 x3133 x3134 q x3184 hcl3185) ?_
 rintro _ b3186 _ hle3187 ⟨rfl, rfl⟩
 refine Ys 165 rfl rfl rfl<|M rfl rfl<|Ys 165 rfl rfl rfl ?_
 obtain ⟨x3188, hcl3189, hm⟩ := bS hm
 refine t_pullb 1 rfl<|t_out1 [_] [_] c (a ++ (hs3149 ++ R)) rfl<|Tg _ rfl call14 rfl (cGuardCentreReserved_2 _ _ H f ad I ae g k m n O e J K c (h3029.le (p.trans (hle3103.trans (hle3137.trans (hle3147.trans (hle3182.trans hle3187)))))) x3188 hcl3189) ?_
 rintro _ b3190 _ hle3191 ⟨rfl, rfl⟩
 refine t_in1 [_] [_] c (a ++ (hs3149 ++ R)) rfl<|Ys 165 rfl rfl rfl<|Ts rfl (q5 rfl rfl)<|Ts rfl (pT rfl rfl)<|Tn ?_
 obtain rfl := o1 hm
 refine Xp 1 rfl<|X3 [_, _] c a hs3149 R rfl<|X3 [_, _] hs3149 c a R rfl ?_
 exact xJ ⟨rfl, rfl, (hle3182.trans (hle3187.trans hle3191))⟩ (.refl _)
 rw [if_neg hc3183] at hm
 refine M rfl rfl<|No 165 rfl rfl rfl rfl rfl<|No 165 rfl rfl rfl rfl rfl<|No 165 rfl rfl rfl rfl rfl<|No 165 rfl rfl rfl rfl rfl<|No 165 rfl rfl rfl rfl rfl<|Ts rfl (pF rfl rfl)<|Tn ?_
 obtain rfl := o1 hm
 refine Xp 1 rfl<|X3 [_, _] c a hs3149 R rfl<|X3 [_, _] hs3149 c a R rfl ?_
 exact xJ ⟨rfl, rfl, hle3182⟩ (.refl _)
 rintro b3175 _ _ ⟨rfl, rfl, hle3176⟩
 have hm := hk3178
 refine Cc _ rfl (fun hc3192 => ?_) (fun hc3192 => ?_)
 rw [if_pos hc3192] at hm
 refine Cr<|As rfl rfl<|Te<|Ct<|Xb<|Xr<|Xr<|Xb<|Xr ?_
 have hq3193 := houtL1861 _ (Option.some.inj hm).symm
 rw [hq3193] at hk3052
 have hm := elimR hk3052
 obtain rfl := o1 hm
 exact rM (rs := [.tmp 2]) (vs := [bv false]) ⟨rfl, trivial⟩ ⟨rfl, rfl⟩ (.cons _ (.cons _ (ss a (ss hs3149 (ss c (.refl _)))))) (hle1825.trans (hle1839.trans (hle3014.trans (p.trans (hle3103.trans (hle3137.trans (hle3147.trans hle3176)))))))
 rw [if_neg (fun hh => Bool.noConfusion (hh.symm.trans hc3192))] at hm
 refine Ck<|Xm<|Xn<|Cg<|Ts rfl (sa rfl rfl (by omega))<|M rfl rfl<|Tn<|Xp 1 rfl<|Xp 1 rfl<|X3 [_, _] a hs3149 c R rfl ?_
 refine X3 [_, _] c a hs3149 R rfl<|X3 [_, _] hs3149 c a R rfl ?_
 exact xM hm ⟨e, S, T, a, A3150, c3151, hs3149, J, K, c, rfl, rfl, ((hle3014.trans (p.trans (hle3103.trans (hle3137.trans (hle3147.trans hle3176)))))), (h3019.le (p.trans (hle3103.trans (hle3137.trans (hle3147.trans hle3176))))), (h3152.le hle3176), (h3029.le (p.trans (hle3103.trans (hle3137.trans (hle3147.trans hle3176)))))⟩ (.refl _)
 rw [if_neg (of_decide_eq_false hc3086)] at hm
 refine Cr<|Ts rfl (q1 rfl rfl)<|As rfl rfl<|Te ?_
 refine Cc _ rfl (fun hc3194 => ?_) (fun hc3194 => ?_)
 rw [if_pos (of_decide_eq_true hc3194)] at hm
 refine Cr<|M rfl rfl<|M rfl rfl<|Ts rfl (sF rfl fld31_2)<|Ts rfl (sL 3 rfl one3 rfl rfl) ?_
 obtain ⟨⟨x3195, x3196, x3197, x3198, x3199, x3200, x3201, x3202, x3203, x3204⟩, hcl3205, hm⟩ := bS hm
 have hm := (unc10E hm)
 refine t_pullb 1 rfl<|Tg _ rfl call10 rfl (cGuardUnitSay _ _ (ac + s.Wait) s.A 0 G W ah X Y q x3195 x3196 x3197 x3198 x3199 x3200 x3201 x3202 x3203 x3204 hcl3205) ?_
 rintro _ b3206 _ hle3207 ⟨rfl, rfl⟩
 refine M rfl rfl<|Ts rfl (st_extract rfl rfl)<|Ts rfl (st_extract rfl rfl)<|Do rfl (uA [iv 0, iv 0, iv 0, iv 0, iv 0, iv 0, iv 0, iv 0] zero33 rfl) ?_
 rintro _ _ ⟨g3208, rfl, rfl⟩
 refine Do rfl (uN (vs := [_, _, _, _, _, _, _, _]) 0 8 rfl rfl rfl siz33 rfl (mc rfl (mc rfl (mc rfl (mc rfl (mc rfl (mc rfl (mc rfl (mc rfl mn)))))))) rfl (by simp)) ?_
 rintro _ _ rfl
 refine As rfl rfl<|Te<|Cg<|Ts rfl (sD (vs := [_, _, _, _, _, _, _, _]) 0 8 rfl agg33 rfl rfl rfl)<|M rfl rfl<|Ts rfl (q1 rfl rfl)<|Do rfl (uN (vs := [_, _, _, _, _, _, _, _]) 2 8 rfl rfl rfl siz33 rfl (mc rfl (mc rfl (mc rfl (mc rfl (mc rfl (mc rfl (mc rfl (mc rfl mn)))))))) rfl (by simp)) ?_
 rintro _ _ rfl
 refine As rfl rfl<|Tn<|Xm<|Xn ?_
 obtain ⟨l3223, hj3224, hk3224⟩ := bS hm
 refine Cj (fun b3216 e' hp' => ∃ (A3220 : OA), ∃ (c3221 : Nat), ∃ (hs3219 : Hp), [(3, pb q), (4, pb e), (5, sv S ag T), (6, sv A3220 l3223 c3221), (7, iv (ac + s.Wait)), (25, .slice (subA A1 t y 5) (x).length (t - y)), (26, iv ((x.length : Int))), (27, iv ((k3049 : Int)))] = e' ∧ (q, Cl 45 [iv G, iv W, iv x3204, iv X, iv Y]) :: (e, Cl 49 [iv H, iv f, iv ad, iv I, iv ae, sv J O K, iv g, iv k, iv m, iv n]) :: (a ++ (hs3219 ++ (c ++ R))) = hp' ∧ b3206.Le b3216 ∧ OS 33 (OT.fr rGuardPacket) b3216.w (sv A3220 l3223 c3221) l3223 hs3219) ?_ ?_
 have hm := hj3224
 refine Cr<|M rfl rfl<|Te ?_
 refine Cc _ rfl (fun hc3225 => ?_) (fun hc3225 => ?_)
 rw [if_pos (of_decide_eq_true hc3225)] at hm
 refine Cg<|M rfl rfl<|Ts rfl (sD (vs := [_, _, _, _, _, _, _, _]) 2 8 rfl agg33 rfl rfl rfl)<|Do rfl (u_bslice (el := 33) [(0, .agg #[iv x3195, iv x3196, iv x3197, iv x3198, iv x3199, iv x3200, iv x3201, iv x3202])] [iv x3195, iv x3196, iv x3197, iv x3198, iv x3199, iv x3200, iv x3201, iv x3202] rfl (fun _ => by kernel_rfl)) ?_
 rintro _ _ ⟨g3226, rfl, rfl⟩
 obtain ⟨_, h3227, hm⟩ := bS hm
 have h3227 := room_some h3227
 refine t_front2 [_, _, _, _, _, _] a d (c ++ R) rfl<|Do rfl (uQ (r := rGuardPacket) (l := l3047) [_, _, _, _, _, _] (a ++ (c ++ R)) [[iv x3195, iv x3196, iv x3197, iv x3198, iv x3199, iv x3200, iv x3201, iv x3202]] [(⟨x3195, x3196, x3197, x3198, x3199, x3200, x3201, x3202⟩ : GuardPacket)] rfl (by decide) sl29 inf33 rfl rfl rfl rfl (h3024.le (p.trans hle3207)) rfl (fun w ho => Rd.own (i := 0) ho rfl) ⟨⟨[iv x3195], _, rfl, rfl, ⟨[iv x3196], _, rfl, rfl, ⟨[iv x3197], _, rfl, rfl, ⟨[iv x3198], _, rfl, rfl, ⟨[iv x3199], _, rfl, rfl, ⟨[iv x3200], _, rfl, rfl, ⟨[iv x3201], _, rfl, rfl, rfl⟩⟩⟩⟩⟩⟩⟩, trivial⟩ h3227) ?_
 rintro _ _ ⟨hs3228, rfl, h3229⟩
 obtain ⟨A3230, c3231, rfl, _⟩ := h3229.form
 refine As rfl rfl<|Tn ?_
 obtain rfl := o1 hm
 refine Xp 4 rfl<|Xp 3 rfl<|X3 [_, _, _, _, _, _] hs3228 a c R rfl<|X2 [_, _, _, _, _, _] c hs3228 (a ++ R) rfl<|X3 [_, _, _, _, _, _] hs3228 c a R rfl ?_
 exact xJ ⟨A3230, c3231, hs3228, rfl, rfl, lr, h3229⟩ (.cons_cons _ (.cons_cons _ (.cons _ (.cons _ (.cons _ (.cons _ (.refl _)))))))
 rw [if_neg (of_decide_eq_false hc3225)] at hm
 refine Ck ?_
 obtain rfl := o1 hm
 refine Xp 3 rfl<|Xp 2 rfl<|X3 [_, _, _, _, _] a d c R rfl<|X3 [_, _, _, _, _] c a d R rfl<|X3 [_, _, _, _, _] d c a R rfl ?_
 exact xJ ⟨A3022, c3023, d, rfl, rfl, lr, (h3024.le (p.trans hle3207))⟩ (.cons_cons _ (.cons_cons _ (.cons _ (.cons _ (.cons _ (.refl _))))))
 rintro b3216 _ _ ⟨A3220, c3221, hs3219, rfl, rfl, hle3217, h3222⟩
 have hm := hk3224
 obtain ⟨x3247, hj3248, hk3248⟩ := bS hm
 refine Cj (fun b3245 e' hp' => [(3, pb q), (4, pb e), (5, sv S ag T), (6, sv A3220 l3223 c3221), (7, iv (ac + s.Wait)), (25, .slice (subA A1 t y 5) (x).length (t - y)), (26, iv ((x.length : Int))), (27, iv ((k3049 : Int))), (171, bv x3247)] = e' ∧ (q, Cl 45 [iv G, iv W, iv x3204, iv X, iv Y]) :: (e, Cl 49 [iv H, iv f, iv ad, iv I, iv ae, sv J O K, iv g, iv k, iv m, iv n]) :: (a ++ (hs3219 ++ (c ++ R))) = hp' ∧ b3216.Le b3245) ?_ ?_
 have hm := hj3248
 refine Cg<|M rfl rfl ?_
 obtain ⟨x3249, hcl3250, hm⟩ := bS hm
 refine t_pullb 1 rfl<|t_front3 [_, _] a hs3219 c R rfl<|t_out1 [_] [_] c (a ++ (hs3219 ++ R)) rfl<|Tg _ rfl call14 rfl (cGuardCentreReserved_2 _ _ H f ad I ae g k m n O e J K c (h3029.le (p.trans (hle3207.trans hle3217))) x3249 hcl3250) ?_
 rintro _ b3251 _ hle3252 ⟨rfl, rfl⟩
 refine t_in1 [_] [_] c (a ++ (hs3219 ++ R)) rfl ?_
 refine Tb rfl (q5 rfl rfl) (fun hc3253 => ?_) (fun hc3253 => ?_)
 rw [if_pos hc3253] at hm
 refine M rfl rfl<|Ys 165 rfl rfl rfl<|M rfl rfl<|Ys 165 rfl rfl rfl ?_
 obtain ⟨x3254, hcl3255, hm⟩ := bS hm
 refine t_pullb 1 rfl<|Tg _ rfl call8 rfl (cGuardUnitEnd _ _ G W x3204 X Y q x3254 hcl3255) ?_
 rintro _ b3256 _ hle3257 ⟨rfl, rfl⟩
 refine Ys 165 rfl rfl rfl<|M rfl rfl<|Ys 165 rfl rfl rfl ?_
 obtain ⟨x3258, hcl3259, hm⟩ := bS hm
 refine t_pullb 1 rfl<|t_out1 [_] [_] c (a ++ (hs3219 ++ R)) rfl<|Tg _ rfl call14 rfl (cGuardCentreReserved_2 _ _ H f ad I ae g k m n O e J K c (h3029.le (p.trans (hle3207.trans (hle3217.trans (hle3252.trans hle3257))))) x3258 hcl3259) ?_
 rintro _ b3260 _ hle3261 ⟨rfl, rfl⟩
 refine t_in1 [_] [_] c (a ++ (hs3219 ++ R)) rfl<|Ys 165 rfl rfl rfl<|Ts rfl (q5 rfl rfl)<|Ts rfl (pT rfl rfl)<|Tn ?_
 obtain rfl := o1 hm
 refine Xp 1 rfl<|X3 [_, _] c a hs3219 R rfl<|X3 [_, _] hs3219 c a R rfl ?_
 exact xJ ⟨rfl, rfl, (hle3252.trans (hle3257.trans hle3261))⟩ (.refl _)
 rw [if_neg hc3253] at hm
 refine M rfl rfl<|No 165 rfl rfl rfl rfl rfl<|No 165 rfl rfl rfl rfl rfl<|No 165 rfl rfl rfl rfl rfl<|No 165 rfl rfl rfl rfl rfl<|No 165 rfl rfl rfl rfl rfl<|Ts rfl (pF rfl rfl)<|Tn ?_
 obtain rfl := o1 hm
 refine Xp 1 rfl<|X3 [_, _] c a hs3219 R rfl<|X3 [_, _] hs3219 c a R rfl ?_
 exact xJ ⟨rfl, rfl, hle3252⟩ (.refl _)
 rintro b3245 _ _ ⟨rfl, rfl, hle3246⟩
 have hm := hk3248
 refine Cc _ rfl (fun hc3262 => ?_) (fun hc3262 => ?_)
 rw [if_pos hc3262] at hm
 refine Cr<|As rfl rfl<|Te<|Ct<|Xb<|Xr<|Xr<|Xb<|Xr ?_
 have hq3263 := houtL1861 _ (Option.some.inj hm).symm
 rw [hq3263] at hk3052
 have hm := elimR hk3052
 obtain rfl := o1 hm
 exact rM (rs := [.tmp 2]) (vs := [bv false]) ⟨rfl, trivial⟩ ⟨rfl, rfl⟩ (.cons _ (.cons _ (ss a (ss hs3219 (ss c (.refl _)))))) (hle1825.trans (hle1839.trans (hle3014.trans (p.trans (hle3207.trans (hle3217.trans hle3246))))))
 rw [if_neg (fun hh => Bool.noConfusion (hh.symm.trans hc3262))] at hm
 refine Ck<|Xm<|Xn<|Cg<|Ts rfl (sa rfl rfl (by omega))<|M rfl rfl<|Tn<|Xp 1 rfl<|Xp 1 rfl<|X3 [_, _] a hs3219 c R rfl ?_
 refine X3 [_, _] c a hs3219 R rfl<|X3 [_, _] hs3219 c a R rfl ?_
 exact xM hm ⟨e, S, T, a, A3220, c3221, hs3219, J, K, c, rfl, rfl, ((hle3014.trans (p.trans (hle3207.trans (hle3217.trans hle3246))))), (h3019.le (p.trans (hle3207.trans (hle3217.trans hle3246)))), (h3222.le hle3246), (h3029.le (p.trans (hle3207.trans (hle3217.trans hle3246))))⟩ (.refl _)
 rw [if_neg (of_decide_eq_false hc3194)] at hm
 obtain ⟨x3268, hj3269, hk3269⟩ := bS hm
 refine Cj (fun b3266 e' hp' => [(3, pb q), (4, pb e), (5, sv S ag T), (6, sv A3022 l3047 c3023), (7, iv (ac + s.Wait)), (9, pb g3063), (10, pb g3085), (11, bv false), (25, .slice (subA A1 t y 5) (x).length (t - y)), (26, iv ((x.length : Int))), (27, iv ((k3049 : Int))), (74, iv s.Kind), (111, bv x3268)] = e' ∧ (q, Cl 45 [iv G, iv W, iv ah, iv X, iv Y]) :: (e, Cl 49 [iv H, iv f, iv ad, iv I, iv ae, sv J O K, iv g, iv k, iv m, iv n]) :: (g3063, Cl 31 [iv s.Kind, iv s.Wait, iv s.A, iv s.B, iv s.C]) :: (g3085, Cl 33 [iv 0, iv 0, iv 0, iv 0, iv 0, iv 0, iv 0, iv 0]) :: (a ++ (d ++ (c ++ R))) = hp' ∧ b3071.Le b3266) ?_ ?_
 have hm := hj3269
 refine Cr<|Ts rfl (q1 rfl rfl)<|As rfl rfl<|Te ?_
 refine Cc _ rfl (fun hc3270 => ?_) (fun hc3270 => ?_)
 rw [if_pos (of_decide_eq_true hc3270)] at hm
 refine Ck ?_
 obtain rfl := o1 hm
 refine Xp 3 rfl<|Xp 3 rfl<|Xp 3 rfl<|X3 [_, _, _, _] a d c R rfl<|X3 [_, _, _, _] c a d R rfl<|X3 [_, _, _, _] d c a R rfl ?_
 exact xJ ⟨rfl, rfl, lr⟩ (.refl _)
 rw [if_neg (of_decide_eq_false hc3270)] at hm
 refine Cr<|Ts rfl (q1 rfl rfl)<|As rfl rfl<|Te ?_
 refine Cc _ rfl (fun hc3271 => ?_) (fun hc3271 => ?_)
 rw [if_pos (of_decide_eq_true hc3271)] at hm
 refine Ck ?_
 obtain rfl := o1 hm
 refine Xp 3 rfl<|Xp 3 rfl<|Xp 3 rfl<|X3 [_, _, _, _] a d c R rfl<|X3 [_, _, _, _] c a d R rfl<|X3 [_, _, _, _] d c a R rfl ?_
 exact xJ ⟨rfl, rfl, lr⟩ (.refl _)
 rw [if_neg (of_decide_eq_false hc3271)] at hm
 refine Cg<|Ts rfl (q1 rfl rfl)<|As rfl rfl<|Tn ?_
 obtain rfl := o1 hm
 refine Xp 3 rfl<|Xp 3 rfl<|Xp 3 rfl<|X3 [_, _, _, _] a d c R rfl<|X3 [_, _, _, _] c a d R rfl<|X3 [_, _, _, _] d c a R rfl ?_
 exact xJ ⟨rfl, rfl, lr⟩ (.refl _)
 rintro b3266 _ _ ⟨rfl, rfl, E⟩
 have hm := hk3269
 refine Cc _ rfl (fun hc3272 => ?_) (fun hc3272 => ?_)
 rw [if_pos hc3272] at hm
 refine Cg<|M rfl rfl<|Ts rfl (sF rfl fld31_0)<|Ts rfl (sL 2 rfl one3 rfl rfl)<|M rfl rfl<|Ts rfl (sF rfl fld31_2)<|Ts rfl (sL 2 rfl one3 rfl rfl) ?_
 obtain ⟨⟨x3273, x3274, x3275, x3276, x3277, x3278, x3279, x3280, x3281, x3282, x3283, l3284⟩, hcl3285, hm⟩ := bS hm
 have hm := (unc12E hm)
 refine t_pullb 1 rfl<|t_front3 [_, _, _, _] a d c R rfl<|t_out1 [_] [_, _, _] c (a ++ (d ++ R)) rfl<|Tg _ rfl call11 rfl (cFishkeep1Asked_2 _ _ s.Kind (ac + s.Wait) s.A H f ad I ae g k m n O e J K c (h3029.le (p.trans E)) x3273 x3274 x3275 x3276 x3277 x3278 x3279 x3280 x3281 x3282 x3283 l3284 hcl3285) ?_
 rintro _ b3286 _ hle3287 ⟨A3288, c3289, U, rfl, rfl, h3291⟩
 refine t_in1 [_] [_, _, _] U (a ++ (d ++ R)) rfl<|M rfl rfl<|Ts rfl (st_extract rfl rfl)<|Ts rfl (st_extract rfl rfl)<|Do rfl (uN (vs := [_, _, _, _, _, _, _, _]) 3 8 rfl rfl rfl siz33 rfl (mc rfl (mc rfl (mc rfl (mc rfl (mc rfl (mc rfl (mc rfl (mc rfl mn)))))))) rfl (by simp)) ?_
 rintro _ _ rfl
 refine As rfl rfl<|Tn<|Xm<|Xn ?_
 obtain ⟨l3306, hj3307, hk3307⟩ := bS hm
 refine Cj (fun b3299 e' hp' => ∃ (A3303 : OA), ∃ (c3304 : Nat), ∃ (hs3302 : Hp), [(3, pb q), (4, pb e), (5, sv S ag T), (6, sv A3303 l3306 c3304), (7, iv (ac + s.Wait)), (25, .slice (subA A1 t y 5) (x).length (t - y)), (26, iv ((x.length : Int))), (27, iv ((k3049 : Int)))] = e' ∧ (q, Cl 45 [iv G, iv W, iv ah, iv X, iv Y]) :: (e, Cl 49 [iv H, iv f, iv x3282, iv I, iv x3283, sv A3288 l3284 c3289, iv g, iv k, iv m, iv n]) :: (a ++ (hs3302 ++ (U ++ R))) = hp' ∧ b3286.Le b3299 ∧ OS 33 (OT.fr rGuardPacket) b3299.w (sv A3303 l3306 c3304) l3306 hs3302) ?_ ?_
 have hm := hj3307
 refine Cr<|M rfl rfl<|Te ?_
 refine Cc _ rfl (fun hc3308 => ?_) (fun hc3308 => ?_)
 rw [if_pos hc3308] at hm
 refine Cg<|M rfl rfl<|Ts rfl (sD (vs := [_, _, _, _, _, _, _, _]) 3 8 rfl agg33 rfl rfl rfl)<|Do rfl (u_bslice (el := 33) [(0, .agg #[iv x3273, iv x3274, iv x3275, iv x3276, iv x3277, iv x3278, iv x3279, iv x3280])] [iv x3273, iv x3274, iv x3275, iv x3276, iv x3277, iv x3278, iv x3279, iv x3280] rfl (fun _ => by kernel_rfl)) ?_
 rintro _ _ ⟨g3309, rfl, rfl⟩
 obtain ⟨_, h3310, hm⟩ := bS hm
 have h3310 := room_some h3310
 refine t_front3 [_, _, _, _, _] U a d R rfl<|Do rfl (uQ (r := rGuardPacket) (l := l3047) [_, _, _, _, _] (U ++ (a ++ R)) [[iv x3273, iv x3274, iv x3275, iv x3276, iv x3277, iv x3278, iv x3279, iv x3280]] [(⟨x3273, x3274, x3275, x3276, x3277, x3278, x3279, x3280⟩ : GuardPacket)] rfl (by decide) sl29 inf33 rfl rfl rfl rfl (h3024.le (p.trans (E.trans hle3287))) rfl (fun w ho => Rd.own (i := 0) ho rfl) ⟨⟨[iv x3273], _, rfl, rfl, ⟨[iv x3274], _, rfl, rfl, ⟨[iv x3275], _, rfl, rfl, ⟨[iv x3276], _, rfl, rfl, ⟨[iv x3277], _, rfl, rfl, ⟨[iv x3278], _, rfl, rfl, ⟨[iv x3279], _, rfl, rfl, rfl⟩⟩⟩⟩⟩⟩⟩, trivial⟩ h3310) ?_
 rintro _ _ ⟨hs3311, rfl, h3312⟩
 obtain ⟨A3313, c3314, rfl, _⟩ := h3312.form
 refine As rfl rfl<|Tn ?_
 obtain rfl := o1 hm
 refine Xp 1 rfl<|Xp 2 rfl<|X2 [_, _, _, _, _] hs3311 U (a ++ R) rfl<|X2 [_, _, _, _, _] U hs3311 (a ++ R) rfl<|X3 [_, _, _, _, _] hs3311 U a R rfl ?_
 exact xJ ⟨A3313, c3314, hs3311, rfl, rfl, lr, h3312⟩ (.cons_cons _ (.cons_cons _ (.cons _ (.cons _ (.cons _ (.refl _))))))
 rw [if_neg (fun hh => Bool.noConfusion (hh.symm.trans hc3308))] at hm
 refine Ck ?_
 obtain rfl := o1 hm
 refine Xp 1 rfl<|X3 [_, _, _, _] U a d R rfl<|X3 [_, _, _, _] d U a R rfl ?_
 exact xJ ⟨A3022, c3023, d, rfl, rfl, lr, (h3024.le (p.trans (E.trans hle3287)))⟩ (.cons_cons _ (.cons_cons _ (.cons _ (.cons _ (.refl _)))))
 rintro b3299 _ _ ⟨A3303, c3304, hs3302, rfl, rfl, hle3300, h3305⟩
 have hm := hk3307
 obtain ⟨x3330, hj3331, hk3331⟩ := bS hm
 refine Cj (fun b3328 e' hp' => [(3, pb q), (4, pb e), (5, sv S ag T), (6, sv A3303 l3306 c3304), (7, iv (ac + s.Wait)), (25, .slice (subA A1 t y 5) (x).length (t - y)), (26, iv ((x.length : Int))), (27, iv ((k3049 : Int))), (171, bv x3330)] = e' ∧ (q, Cl 45 [iv G, iv W, iv ah, iv X, iv Y]) :: (e, Cl 49 [iv H, iv f, iv x3282, iv I, iv x3283, sv A3288 l3284 c3289, iv g, iv k, iv m, iv n]) :: (a ++ (hs3302 ++ (U ++ R))) = hp' ∧ b3299.Le b3328) ?_ ?_
 have hm := hj3331
 refine Cg<|M rfl rfl ?_
 obtain ⟨x3332, hcl3333, hm⟩ := bS hm
 refine t_pullb 1 rfl<|t_front3 [_, _] a hs3302 U R rfl<|t_out1 [_] [_] U (a ++ (hs3302 ++ R)) rfl<|Tg _ rfl call14 rfl (cGuardCentreReserved_2 _ _ H f x3282 I x3283 g k m n l3284 e A3288 c3289 U (h3291.le hle3300) x3332 hcl3333) ?_
 rintro _ b3334 _ hle3335 ⟨rfl, rfl⟩
 refine t_in1 [_] [_] U (a ++ (hs3302 ++ R)) rfl ?_
 refine Tb rfl (q5 rfl rfl) (fun hc3336 => ?_) (fun hc3336 => ?_)
 rw [if_pos hc3336] at hm
 refine M rfl rfl<|Ys 165 rfl rfl rfl<|M rfl rfl<|Ys 165 rfl rfl rfl ?_
 obtain ⟨x3337, hcl3338, hm⟩ := bS hm
 refine t_pullb 1 rfl<|Tg _ rfl call8 rfl (cGuardUnitEnd _ _ G W ah X Y q x3337 hcl3338) ?_
 rintro _ b3339 _ hle3340 ⟨rfl, rfl⟩
 refine Ys 165 rfl rfl rfl<|M rfl rfl<|Ys 165 rfl rfl rfl ?_
 obtain ⟨x3341, hcl3342, hm⟩ := bS hm
 refine t_pullb 1 rfl<|t_out1 [_] [_] U (a ++ (hs3302 ++ R)) rfl<|Tg _ rfl call14 rfl (cGuardCentreReserved_2 _ _ H f x3282 I x3283 g k m n l3284 e A3288 c3289 U (h3291.le (hle3300.trans (hle3335.trans hle3340))) x3341 hcl3342) ?_
 rintro _ b3343 _ hle3344 ⟨rfl, rfl⟩
 refine t_in1 [_] [_] U (a ++ (hs3302 ++ R)) rfl<|Ys 165 rfl rfl rfl<|Ts rfl (q5 rfl rfl)<|Ts rfl (pT rfl rfl)<|Tn ?_
 obtain rfl := o1 hm
 refine Xp 1 rfl<|X3 [_, _] U a hs3302 R rfl<|X3 [_, _] hs3302 U a R rfl ?_
 exact xJ ⟨rfl, rfl, (hle3335.trans (hle3340.trans hle3344))⟩ (.refl _)
 rw [if_neg hc3336] at hm
 refine M rfl rfl<|No 165 rfl rfl rfl rfl rfl<|No 165 rfl rfl rfl rfl rfl<|No 165 rfl rfl rfl rfl rfl<|No 165 rfl rfl rfl rfl rfl<|No 165 rfl rfl rfl rfl rfl<|Ts rfl (pF rfl rfl)<|Tn ?_
 obtain rfl := o1 hm
 refine Xp 1 rfl<|X3 [_, _] U a hs3302 R rfl<|X3 [_, _] hs3302 U a R rfl ?_
 exact xJ ⟨rfl, rfl, hle3335⟩ (.refl _)
 rintro b3328 _ _ ⟨rfl, rfl, hle3329⟩
 have hm := hk3331
 refine Cc _ rfl (fun hc3345 => ?_) (fun hc3345 => ?_)
 rw [if_pos hc3345] at hm
 refine Cr<|As rfl rfl<|Te<|Ct<|Xb<|Xr<|Xr<|Xb<|Xr ?_
 have hq3346 := houtL1861 _ (Option.some.inj hm).symm
 rw [hq3346] at hk3052
 have hm := elimR hk3052
 obtain rfl := o1 hm
 exact rM (rs := [.tmp 2]) (vs := [bv false]) ⟨rfl, trivial⟩ ⟨rfl, rfl⟩ (.cons _ (.cons _ (ss a (ss hs3302 (ss U (.refl _)))))) (hle1825.trans (hle1839.trans (hle3014.trans (p.trans (E.trans (hle3287.trans (hle3300.trans hle3329)))))))
 rw [if_neg (fun hh => Bool.noConfusion (hh.symm.trans hc3345))] at hm
 refine Ck<|Xm<|Xn<|Cg<|Ts rfl (sa rfl rfl (by omega))<|M rfl rfl<|Tn<|Xp 1 rfl<|Xp 1 rfl<|X3 [_, _] a hs3302 U R rfl ?_
 refine X3 [_, _] U a hs3302 R rfl<|X3 [_, _] hs3302 U a R rfl ?_
 exact xM hm ⟨e, S, T, a, A3303, c3304, hs3302, A3288, c3289, U, rfl, rfl, ((hle3014.trans (p.trans (E.trans (hle3287.trans (hle3300.trans hle3329)))))), (h3019.le (p.trans (E.trans (hle3287.trans (hle3300.trans hle3329))))), (h3305.le hle3329), (h3291.le (hle3300.trans hle3329))⟩ (.refl _)
 rw [if_neg (fun hh => Bool.noConfusion (hh.symm.trans hc3272))] at hm
 obtain ⟨x3351, hj3352, hk3352⟩ := bS hm
 refine Cj (fun b3349 e' hp' => [(3, pb q), (4, pb e), (5, sv S ag T), (6, sv A3022 l3047 c3023), (7, iv (ac + s.Wait)), (9, pb g3063), (10, pb g3085), (11, bv false), (25, .slice (subA A1 t y 5) (x).length (t - y)), (26, iv ((x.length : Int))), (27, iv ((k3049 : Int))), (74, iv s.Kind), (125, bv x3351)] = e' ∧ (q, Cl 45 [iv G, iv W, iv ah, iv X, iv Y]) :: (e, Cl 49 [iv H, iv f, iv ad, iv I, iv ae, sv J O K, iv g, iv k, iv m, iv n]) :: (g3063, Cl 31 [iv s.Kind, iv s.Wait, iv s.A, iv s.B, iv s.C]) :: (g3085, Cl 33 [iv 0, iv 0, iv 0, iv 0, iv 0, iv 0, iv 0, iv 0]) :: (a ++ (d ++ (c ++ R))) = hp' ∧ b3266.Le b3349) ?_ ?_
 have hm := hj3352
 refine Cr<|Ts rfl (q1 rfl rfl)<|As rfl rfl<|Te ?_
 refine Cc _ rfl (fun hc3353 => ?_) (fun hc3353 => ?_)
 rw [if_pos (of_decide_eq_true hc3353)] at hm
 refine Ck ?_
 obtain rfl := o1 hm
 refine Xp 3 rfl<|Xp 3 rfl<|Xp 3 rfl<|Xp 3 rfl<|X3 [_, _, _, _] a d c R rfl<|X3 [_, _, _, _] c a d R rfl<|X3 [_, _, _, _] d c a R rfl ?_
 exact xJ ⟨rfl, rfl, lr⟩ (.refl _)
 rw [if_neg (of_decide_eq_false hc3353)] at hm
 refine Cr<|Ts rfl (q1 rfl rfl)<|As rfl rfl<|Te ?_
 refine Cc _ rfl (fun hc3354 => ?_) (fun hc3354 => ?_)
 rw [if_pos (of_decide_eq_true hc3354)] at hm
 refine Ck ?_
 obtain rfl := o1 hm
 refine Xp 3 rfl<|Xp 3 rfl<|Xp 3 rfl<|Xp 3 rfl<|X3 [_, _, _, _] a d c R rfl<|X3 [_, _, _, _] c a d R rfl<|X3 [_, _, _, _] d c a R rfl ?_
 exact xJ ⟨rfl, rfl, lr⟩ (.refl _)
 rw [if_neg (of_decide_eq_false hc3354)] at hm
 refine Cg<|Ts rfl (q1 rfl rfl)<|As rfl rfl<|Tn ?_
 obtain rfl := o1 hm
 refine Xp 3 rfl<|Xp 3 rfl<|Xp 3 rfl<|Xp 3 rfl<|X3 [_, _, _, _] a d c R rfl<|X3 [_, _, _, _] c a d R rfl<|X3 [_, _, _, _] d c a R rfl ?_
 exact xJ ⟨rfl, rfl, lr⟩ (.refl _)
 rintro b3349 _ _ ⟨rfl, rfl, af⟩
 have hm := hk3352
 refine Cc _ rfl (fun hc3355 => ?_) (fun hc3355 => ?_)
 rw [if_pos hc3355] at hm
 refine Cs<|Cr<|M rfl rfl<|Ts rfl (sE rfl sl29)<|Ts rfl (q1 rfl rfl)<|Te ?_
 refine Cc _ rfl (fun hc3356 => ?_) (fun hc3356 => ?_)
 rw [if_pos (of_decide_eq_true hc3356)] at hm
 refine Ce<|Xe<|Xi rfl<|Xe<|Xo<|Xn<|Cg<|Ts rfl (sa rfl rfl (by omega))<|M rfl rfl<|Tn ?_
 refine Xp 1 rfl<|Xp 1 rfl<|X3 [_, _, _, _] a d c R rfl<|X3 [_, _, _, _] c a d R rfl<|X3 [_, _, _, _] d c a R rfl ?_
 exact xM hm ⟨e, S, T, a, A3022, c3023, d, J, K, c, rfl, rfl, ((hle3014.trans (p.trans (E.trans af)))), (h3019.le (p.trans (E.trans af))), (h3024.le (p.trans (E.trans af))), (h3029.le (p.trans (E.trans af)))⟩ (.cons_cons _ (.cons_cons _ (.cons _ (.cons _ (.refl _)))))
 rw [if_neg (of_decide_eq_false hc3356)] at hm
 refine Ck<|Xn ?_
 obtain ⟨_, h3408, hm⟩ := bS hm
 obtain ⟨x3409, h3410, hm⟩ := bS hm
 obtain ⟨⟨x3425, x3426, x3427, x3428, x3429, x3430, x3431, x3432, x3433, x3434, x3435, x3436, x3437, x3438, x3439, x3440, x3441, x3442, x3443, x3444, x3445, x3446, l3447, l3448⟩, hcl3449, hm⟩ := bS hm
 have hm := (unc24E hm)
 refine Di mixed (.cons _ (.cons _ (.cons_cons _ (.cons_cons _ (ss a (sp d (ss c (.refl _))))))))<|E0 0 rfl (sM rfl)<|E0 1 rfl (sM rfl)<|E0 2 rfl (sM rfl)<|Es 3 rfl (sD (vs := [_, _, _, _, _]) 0 5 rfl agg31 rfl rfl rfl)<|E0 4 rfl (sM rfl)<|E0 5 rfl (sF rfl fld31_2)<|Es 6 rfl (sL 0 rfl one3 rfl rfl)<|E0 7 rfl (sM rfl)<|E0 8 rfl (sE rfl sl29) ?_
 refine E0 9 rfl (st_rem rfl rfl (ne0_some h3408)) ?_
 obtain ⟨j3411, hj3412, hx3413⟩ := iS h3410
 obtain ⟨cs3414, hs3419, P3420, P3421, hq3422, hr3415, hcs3416, hA3417, hlt3418, hb3423, hho3424⟩ := OS.get (sz := 8) rfl (by decide) (h3024.le (p.trans (E.trans af))) hx3413
 obtain ⟨⟨_, _, rfl, rfl, ⟨_, _, rfl, rfl, ⟨_, _, rfl, rfl, ⟨_, _, rfl, rfl, ⟨_, _, rfl, rfl, ⟨_, _, rfl, rfl, ⟨_, _, rfl, rfl, rfl⟩⟩⟩⟩⟩⟩⟩, rfl⟩ := hr3415
 refine E0 10 rfl (sI j3411 rfl rfl hj3412 hlt3418 hA3417 sl29)<|Es 11 rfl (st_loadN_rd (vs := [iv x3409.Kind, iv x3409.Session, iv x3409.No, iv x3409.Of, iv x3409.End, iv x3409.At, iv x3409.Speed, iv x3409.Sent]) 8 rfl agg33 hA3417 rfl (fun w ho j u hu => hcs3416 w _ ho (.cons _ (.cons _ (List.sublist_append_left _ _))) j u hu))<|E0 12 rfl (sM rfl)<|Eo<|d_pullb 1 rfl<|d_pullb 1 rfl<|d3 [_, _, _, _] a d c R rfl<|d2 [_, _, _, _] c a (d ++ R) rfl<|d_out2 [_, _] [_, _] a c (d ++ R) rfl<|Da [13] (by kernel_rfl) rfl ?_
 refine Rg lr rfl rfl _ call12 rfl (cFishkeep1Comes_2 _ _ s x3409 (ac + s.Wait) G W ah X Y H f ad I ae g k m n ag O q e S T a J K c (h3019.le (p.trans (E.trans af))) (h3029.le (p.trans (E.trans af))) x3425 x3426 x3427 x3428 x3429 x3430 x3431 x3432 x3433 x3434 x3435 x3436 x3437 x3438 x3439 x3440 x3441 x3442 x3443 x3444 x3445 x3446 l3447 l3448 hcl3449) ?_ ?_
 rintro _ b3450 _ hle3451 ⟨L, A3453, c3454, F, rfl, rfl, h3456, h3457, h3458⟩
 refine ⟨.inr (.cons _ (.cons _ (ss L (ss F (.refl _))))), ?_⟩
 refine d_in2 [_, _] [_, _] L F (d ++ R) rfl<|d_resp 5 rfl (v' := sv S l3447 T) (by show Value.slice _ _ _ = Value.slice _ _ _; rw [h3457])<|Ei hle3451 (.cons _ (.cons _ (.cons_cons _ (.cons_cons _ (ss L (ss F (.refl _)))))))<|E0 14 rfl (sM rfl)<|E0 15 rfl (st_extract rfl rfl)<|E0 16 rfl (st_extract rfl rfl)<|Eo<|Da [17] (by kernel_rfl) rfl ?_
 refine Rd2 hle3451 rfl rfl (uN (vs := [_, _, _, _, _, _, _, _]) 3 8 rfl rfl rfl siz33 rfl (mc rfl (mc rfl (mc rfl (mc rfl (mc rfl (mc rfl (mc rfl (mc rfl mn)))))))) rfl (by simp)) ?_ ?_
 rintro _ _ rfl
 refine ⟨.inl (by kernel_rfl), ?_⟩
 refine El hle3451<|E0 18 rfl (sA rfl)<|Eo<|Dd (by kernel_rfl)<|Xm<|Xn ?_
 obtain ⟨l3473, hj3474, hk3474⟩ := bS hm
 refine Cj (fun b3466 e' hp' => ∃ (A3470 : OA), ∃ (c3471 : Nat), ∃ (hs3469 : Hp), [(3, pb q), (4, pb e), (5, sv S l3447 T), (6, sv A3470 l3473 c3471), (7, iv (ac + s.Wait)), (25, .slice (subA A1 t y 5) (x).length (t - y)), (26, iv ((x.length : Int))), (27, iv ((k3049 : Int)))] = e' ∧ (q, Cl 45 [iv G, iv x3434, iv x3435, iv x3436, iv x3437]) :: (e, Cl 49 [iv x3438, iv x3439, iv x3440, iv x3441, iv x3442, sv A3453 l3448 c3454, iv x3443, iv x3444, iv x3445, iv x3446]) :: (L ++ (hs3469 ++ (F ++ R))) = hp' ∧ b3450.Le b3466 ∧ OS 33 (OT.fr rGuardPacket) b3466.w (sv A3470 l3473 c3471) l3473 hs3469) ?_ ?_
 have hm := hj3474
 refine Cr<|M rfl rfl<|Te ?_
 refine Cc _ rfl (fun hc3475 => ?_) (fun hc3475 => ?_)
 rw [if_pos hc3475] at hm
 refine Cg<|M rfl rfl<|Ts rfl (sD (vs := [_, _, _, _, _, _, _, _]) 3 8 rfl agg33 rfl rfl rfl)<|Do rfl (u_bslice (el := 33) [(0, .agg #[iv x3425, iv x3426, iv x3427, iv x3428, iv x3429, iv x3430, iv x3431, iv x3432])] [iv x3425, iv x3426, iv x3427, iv x3428, iv x3429, iv x3430, iv x3431, iv x3432] rfl (fun _ => by kernel_rfl)) ?_
 rintro _ _ ⟨g3476, rfl, rfl⟩
 obtain ⟨_, h3477, hm⟩ := bS hm
 have h3477 := room_some h3477
 refine t_front3 [_, _, _, _, _] L F d R rfl<|Do rfl (uQ (r := rGuardPacket) (l := l3047) [_, _, _, _, _] (L ++ (F ++ R)) [[iv x3425, iv x3426, iv x3427, iv x3428, iv x3429, iv x3430, iv x3431, iv x3432]] [(⟨x3425, x3426, x3427, x3428, x3429, x3430, x3431, x3432⟩ : GuardPacket)] rfl (by decide) sl29 inf33 rfl rfl rfl rfl (h3024.le (p.trans (E.trans (af.trans hle3451)))) rfl (fun w ho => Rd.own (i := 0) ho rfl) ⟨⟨[iv x3425], _, rfl, rfl, ⟨[iv x3426], _, rfl, rfl, ⟨[iv x3427], _, rfl, rfl, ⟨[iv x3428], _, rfl, rfl, ⟨[iv x3429], _, rfl, rfl, ⟨[iv x3430], _, rfl, rfl, ⟨[iv x3431], _, rfl, rfl, rfl⟩⟩⟩⟩⟩⟩⟩, trivial⟩ h3477) ?_
 rintro _ _ ⟨hs3478, rfl, h3479⟩
 obtain ⟨A3480, c3481, rfl, _⟩ := h3479.form
 refine As rfl rfl<|Tn ?_
 obtain rfl := o1 hm
 refine Xp 2 rfl<|Xp 2 rfl<|X3 [_, _, _, _, _] hs3478 L F R rfl<|X2 [_, _, _, _, _] F hs3478 (L ++ R) rfl<|X3 [_, _, _, _, _] hs3478 F L R rfl ?_
 exact xJ ⟨A3480, c3481, hs3478, rfl, rfl, lr, h3479⟩ (.cons_cons _ (.cons_cons _ (.cons _ (.cons _ (.cons _ (.refl _))))))
 rw [if_neg (fun hh => Bool.noConfusion (hh.symm.trans hc3475))] at hm
 refine Ck ?_
 obtain rfl := o1 hm
 refine Xp 1 rfl<|Xp 1 rfl<|X2 [_, _, _, _] L F (d ++ R) rfl<|X3 [_, _, _, _] F L d R rfl<|X3 [_, _, _, _] d F L R rfl ?_
 exact xJ ⟨A3022, c3023, d, rfl, rfl, lr, (h3024.le (p.trans (E.trans (af.trans hle3451))))⟩ (.cons_cons _ (.cons_cons _ (.cons _ (.cons _ (.refl _)))))
 rintro b3466 _ _ ⟨A3470, c3471, hs3469, rfl, rfl, hle3467, h3472⟩
 have hm := hk3474
 obtain ⟨x3497, hj3498, hk3498⟩ := bS hm
 refine Cj (fun b3495 e' hp' => [(3, pb q), (4, pb e), (5, sv S l3447 T), (6, sv A3470 l3473 c3471), (7, iv (ac + s.Wait)), (25, .slice (subA A1 t y 5) (x).length (t - y)), (26, iv ((x.length : Int))), (27, iv ((k3049 : Int))), (171, bv x3497)] = e' ∧ (q, Cl 45 [iv G, iv x3434, iv x3435, iv x3436, iv x3437]) :: (e, Cl 49 [iv x3438, iv x3439, iv x3440, iv x3441, iv x3442, sv A3453 l3448 c3454, iv x3443, iv x3444, iv x3445, iv x3446]) :: (L ++ (hs3469 ++ (F ++ R))) = hp' ∧ b3466.Le b3495) ?_ ?_
 have hm := hj3498
 refine Cg<|M rfl rfl ?_
 obtain ⟨x3499, hcl3500, hm⟩ := bS hm
 refine t_pullb 1 rfl<|t_front3 [_, _] L hs3469 F R rfl<|t_out1 [_] [_] F (L ++ (hs3469 ++ R)) rfl<|Tg _ rfl call14 rfl (cGuardCentreReserved_2 _ _ x3438 x3439 x3440 x3441 x3442 x3443 x3444 x3445 x3446 l3448 e A3453 c3454 F (h3458.le hle3467) x3499 hcl3500) ?_
 rintro _ b3501 _ hle3502 ⟨rfl, rfl⟩
 refine t_in1 [_] [_] F (L ++ (hs3469 ++ R)) rfl ?_
 refine Tb rfl (q5 rfl rfl) (fun hc3503 => ?_) (fun hc3503 => ?_)
 rw [if_pos hc3503] at hm
 refine M rfl rfl<|Ys 165 rfl rfl rfl<|M rfl rfl<|Ys 165 rfl rfl rfl ?_
 obtain ⟨x3504, hcl3505, hm⟩ := bS hm
 refine t_pullb 1 rfl<|Tg _ rfl call8 rfl (cGuardUnitEnd _ _ G x3434 x3435 x3436 x3437 q x3504 hcl3505) ?_
 rintro _ b3506 _ hle3507 ⟨rfl, rfl⟩
 refine Ys 165 rfl rfl rfl<|M rfl rfl<|Ys 165 rfl rfl rfl ?_
 obtain ⟨x3508, hcl3509, hm⟩ := bS hm
 refine t_pullb 1 rfl<|t_out1 [_] [_] F (L ++ (hs3469 ++ R)) rfl<|Tg _ rfl call14 rfl (cGuardCentreReserved_2 _ _ x3438 x3439 x3440 x3441 x3442 x3443 x3444 x3445 x3446 l3448 e A3453 c3454 F (h3458.le (hle3467.trans (hle3502.trans hle3507))) x3508 hcl3509) ?_
 rintro _ b3510 _ hle3511 ⟨rfl, rfl⟩
 refine t_in1 [_] [_] F (L ++ (hs3469 ++ R)) rfl<|Ys 165 rfl rfl rfl<|Ts rfl (q5 rfl rfl)<|Ts rfl (pT rfl rfl)<|Tn ?_
 obtain rfl := o1 hm
 refine Xp 1 rfl<|X3 [_, _] F L hs3469 R rfl<|X3 [_, _] hs3469 F L R rfl ?_
 exact xJ ⟨rfl, rfl, (hle3502.trans (hle3507.trans hle3511))⟩ (.refl _)
 rw [if_neg hc3503] at hm
 refine M rfl rfl<|No 165 rfl rfl rfl rfl rfl<|No 165 rfl rfl rfl rfl rfl<|No 165 rfl rfl rfl rfl rfl<|No 165 rfl rfl rfl rfl rfl<|No 165 rfl rfl rfl rfl rfl<|Ts rfl (pF rfl rfl)<|Tn ?_
 obtain rfl := o1 hm
 refine Xp 1 rfl<|X3 [_, _] F L hs3469 R rfl<|X3 [_, _] hs3469 F L R rfl ?_
 exact xJ ⟨rfl, rfl, hle3502⟩ (.refl _)
 rintro b3495 _ _ ⟨rfl, rfl, hle3496⟩
 have hm := hk3498
 refine Cc _ rfl (fun hc3512 => ?_) (fun hc3512 => ?_)
 rw [if_pos hc3512] at hm
 refine Cr<|As rfl rfl<|Te<|Ct<|Xb<|Xr<|Xr<|Xb<|Xr ?_
 have hq3513 := houtL1861 _ (Option.some.inj hm).symm
 rw [hq3513] at hk3052
 have hm := elimR hk3052
 obtain rfl := o1 hm
 exact rM (rs := [.tmp 2]) (vs := [bv false]) ⟨rfl, trivial⟩ ⟨rfl, rfl⟩ (.cons _ (.cons _ (ss L (ss hs3469 (ss F (.refl _)))))) (hle1825.trans (hle1839.trans (hle3014.trans (p.trans (E.trans (af.trans (hle3451.trans (hle3467.trans hle3496))))))))
 rw [if_neg (fun hh => Bool.noConfusion (hh.symm.trans hc3512))] at hm
 refine Ck<|Xm<|Xn<|Cg<|Ts rfl (sa rfl rfl (by omega))<|M rfl rfl<|Tn<|Xp 1 rfl<|Xp 1 rfl<|X3 [_, _] L hs3469 F R rfl ?_
 refine X3 [_, _] F L hs3469 R rfl<|X3 [_, _] hs3469 F L R rfl ?_
 exact xM hm ⟨e, S, T, L, A3470, c3471, hs3469, A3453, c3454, F, rfl, rfl, ((hle3014.trans (p.trans (E.trans (af.trans (hle3451.trans (hle3467.trans hle3496))))))), (h3456.le (hle3467.trans hle3496)), (h3472.le hle3496), (h3458.le (hle3467.trans hle3496))⟩ (.refl _)
 exact Rn
 exact Rn
 rw [if_neg (fun hh => Bool.noConfusion (hh.symm.trans hc3355))] at hm
 refine Cr<|Ts rfl (q1 rfl rfl)<|As rfl rfl<|Te ?_
 refine Cc _ rfl (fun hc3514 => ?_) (fun hc3514 => ?_)
 rw [if_pos (of_decide_eq_true hc3514)] at hm
 refine Cr<|M rfl rfl<|M rfl rfl<|Do rfl (u_bslice (el := 26) [(0, pb e)] [pb e] rfl (fun _ => by kernel_rfl)) ?_
 rintro _ _ ⟨g3515, rfl, rfl⟩
 refine t_front3 [_, _, _, _, _] a d c R rfl<|t_frz [_, _, _, _, _] c (a ++ (d ++ R)) rfl ?_
 intro b3516 hle3517 hz3518
 have h3519 := OS.frz (l := O) (h3029.le (p.trans (E.trans af))) hle3517.cells hz3518
 obtain ⟨_, h3520, hm⟩ := bS hm
 have h3520 := room_some h3520
 refine Do rfl (u_appP (o := (OT.ptr 49 (OT.fr rGuardCentre))) [_, _, _, _, _] (d ++ R) (⟨H, f, ad, I, ae, O, [g, k, m, n]⟩ : GuardCentre) rfl sl28 inf26 rfl rfl rfl (h3019.le (p.trans (E.trans (af.trans hle3517)))) rfl (fun w ho => Rd.own (i := 0) ho rfl) rfl h3520) ?_
 rintro _ _ ⟨Z, A3522, c3523, rfl, rfl, hF3524⟩
 refine As rfl rfl<|Te<|Cg<|M rfl rfl ?_
 obtain ⟨⟨x3525, x3526, x3527, x3528, x3529, x3530, x3531, x3532, x3533, z, A, B, C, D, l3539⟩, hcl3540, hm⟩ := bS hm
 have hm := (unc15E hm)
 refine t_pullb 2 rfl<|Tg _ rfl call13 rfl (cGuardCentreHand _ _ H f ad I ae O g k m n e J K h3519 x3525 x3526 x3527 x3528 x3529 x3530 x3531 x3532 x3533 z A B C D l3539 hcl3540) ?_
 rintro _ b3541 _ hle3542 ⟨g3543, aa, ab, A3546, c3547, V, rfl, rfl, h3549, h3550⟩
 refine t_in1 [_, _] [_, _, _, _] V (Z ++ (d ++ R)) rfl<|As rfl rfl<|Tn<|Xm<|Xn<|c_seg 1 [_, _, _, _, _] (V ++ (Z ++ (d ++ R))) rfl rfl<|c_front3 [_, _, _, _, _] [(e, Cl 49 [iv z, iv f, iv A, iv B, iv C, sv aa D ab, iv g, iv k, iv m, iv n])] V Z (d ++ R) rfl<|c_mrg [_, _, _, _, _] Z [(e, Cl 49 [iv z, iv f, iv A, iv B, iv C, sv aa D ab, iv g, iv k, iv m, iv n])] (Z ++ [(e, Cl 49 [iv z, iv f, iv A, iv B, iv C, sv aa D ab, iv g, iv k, iv m, iv n])]) (V ++ (d ++ R)) rfl (List.Perm.refl _) ?_
 have h3552 := hF3524 _ (⟨z, f, A, B, C, D, [g, k, m, n]⟩ : GuardCentre) _ hle3542 ⟨_, [iv z, iv f, iv A, iv B, iv C, sv aa D ab, iv g, iv k, iv m, iv n], [], rfl, ⟨⟨[iv z], _, rfl, rfl, ⟨[iv f], _, rfl, rfl, ⟨[iv A], _, rfl, rfl, ⟨[iv B], _, rfl, rfl, ⟨[iv C], _, rfl, rfl, ⟨[sv aa D ab], _, rfl, (RT.list_mk h3549), ⟨rfl, [[iv g], [iv k], [iv m], [iv n]], rfl, ⟨rfl, ⟨rfl, ⟨rfl, ⟨rfl, trivial⟩⟩⟩⟩⟩⟩⟩⟩⟩⟩⟩, rfl⟩, rfl⟩
 refine c_resp 5 rfl (v' := .slice A3522 (ag ++ [(⟨z, f, A, B, C, D, [g, k, m, n]⟩ : GuardCentre)]).length c3523) (by simp)<|c_resp 154 rfl (v' := .slice A3522 (ag ++ [(⟨z, f, A, B, C, D, [g, k, m, n]⟩ : GuardCentre)]).length c3523) (by simp) ?_
 obtain ⟨_, hj3555, hk3555⟩ := bS hm
 refine Cj (fun b3553 e' hp' => [(3, pb q), (4, pb g3543), (5, .slice A3522 (ag ++ [(⟨z, f, A, B, C, D, [g, k, m, n]⟩ : GuardCentre)]).length c3523), (6, sv A3022 l3047 c3023), (7, iv (ac + s.Wait)), (25, .slice (subA A1 t y 5) (x).length (t - y)), (26, iv ((x.length : Int))), (27, iv ((k3049 : Int)))] = e' ∧ (q, Cl 45 [iv G, iv W, iv ah, iv X, iv Y]) :: (g3543, Cl 49 [iv x3525, iv x3526, iv x3527, iv x3528, iv x3529, sv A3546 l3539 c3547, iv x3530, iv x3531, iv x3532, iv x3533]) :: ((Z ++ [(e, Cl 49 [iv z, iv f, iv A, iv B, iv C, sv aa D ab, iv g, iv k, iv m, iv n])]) ++ (d ++ (V ++ R))) = hp' ∧ b3541.Le b3553) ?_ ?_
 have hm := hj3555
 refine Cr<|M rfl rfl<|Te<|c_cond_f rfl<|Ck ?_
 clear hm
 refine Xp 2 rfl<|X2 [_, _, _, _, _] (Z ++ [(e, Cl 49 [iv z, iv f, iv A, iv B, iv C, sv aa D ab, iv g, iv k, iv m, iv n])]) V (d ++ R) rfl<|X3 [_, _, _, _, _] V (Z ++ [(e, Cl 49 [iv z, iv f, iv A, iv B, iv C, sv aa D ab, iv g, iv k, iv m, iv n])]) d R rfl<|X3 [_, _, _, _, _] d V (Z ++ [(e, Cl 49 [iv z, iv f, iv A, iv B, iv C, sv aa D ab, iv g, iv k, iv m, iv n])]) R rfl ?_
 exact xJ ⟨rfl, rfl, lr⟩ (.cons_cons _ (.cons_cons _ (.cons _ (.cons _ (.cons _ (.refl _))))))
 rintro b3553 _ _ ⟨rfl, rfl, hle3554⟩
 have hm := hk3555
 obtain ⟨x3571, hj3572, hk3572⟩ := bS hm
 refine Cj (fun b3569 e' hp' => [(3, pb q), (4, pb g3543), (5, .slice A3522 (ag ++ [(⟨z, f, A, B, C, D, [g, k, m, n]⟩ : GuardCentre)]).length c3523), (6, sv A3022 l3047 c3023), (7, iv (ac + s.Wait)), (25, .slice (subA A1 t y 5) (x).length (t - y)), (26, iv ((x.length : Int))), (27, iv ((k3049 : Int))), (171, bv x3571)] = e' ∧ (q, Cl 45 [iv G, iv W, iv ah, iv X, iv Y]) :: (g3543, Cl 49 [iv x3525, iv x3526, iv x3527, iv x3528, iv x3529, sv A3546 l3539 c3547, iv x3530, iv x3531, iv x3532, iv x3533]) :: ((Z ++ [(e, Cl 49 [iv z, iv f, iv A, iv B, iv C, sv aa D ab, iv g, iv k, iv m, iv n])]) ++ (d ++ (V ++ R))) = hp' ∧ b3553.Le b3569) ?_ ?_
 have hm := hj3572
 refine Cg<|M rfl rfl ?_
 obtain ⟨x3573, hcl3574, hm⟩ := bS hm
 refine t_pullb 1 rfl<|t_front3 [_, _] (Z ++ [(e, Cl 49 [iv z, iv f, iv A, iv B, iv C, sv aa D ab, iv g, iv k, iv m, iv n])]) d V R rfl<|t_out1 [_] [_] V ((Z ++ [(e, Cl 49 [iv z, iv f, iv A, iv B, iv C, sv aa D ab, iv g, iv k, iv m, iv n])]) ++ (d ++ R)) rfl<|Tg _ rfl call14 rfl (cGuardCentreReserved_2 _ _ x3525 x3526 x3527 x3528 x3529 x3530 x3531 x3532 x3533 l3539 g3543 A3546 c3547 V (h3550.le hle3554) x3573 hcl3574) ?_
 rintro _ b3575 _ hle3576 ⟨rfl, rfl⟩
 refine t_in1 [_] [_] V ((Z ++ [(e, Cl 49 [iv z, iv f, iv A, iv B, iv C, sv aa D ab, iv g, iv k, iv m, iv n])]) ++ (d ++ R)) rfl ?_
 refine Tb rfl (q5 rfl rfl) (fun hc3577 => ?_) (fun hc3577 => ?_)
 rw [if_pos hc3577] at hm
 refine M rfl rfl<|Ys 165 rfl rfl rfl<|M rfl rfl<|Ys 165 rfl rfl rfl ?_
 obtain ⟨x3578, hcl3579, hm⟩ := bS hm
 refine t_pullb 1 rfl<|Tg _ rfl call8 rfl (cGuardUnitEnd _ _ G W ah X Y q x3578 hcl3579) ?_
 rintro _ b3580 _ hle3581 ⟨rfl, rfl⟩
 refine Ys 165 rfl rfl rfl<|M rfl rfl<|Ys 165 rfl rfl rfl ?_
 obtain ⟨x3582, hcl3583, hm⟩ := bS hm
 refine t_pullb 1 rfl<|t_out1 [_] [_] V ((Z ++ [(e, Cl 49 [iv z, iv f, iv A, iv B, iv C, sv aa D ab, iv g, iv k, iv m, iv n])]) ++ (d ++ R)) rfl<|Tg _ rfl call14 rfl (cGuardCentreReserved_2 _ _ x3525 x3526 x3527 x3528 x3529 x3530 x3531 x3532 x3533 l3539 g3543 A3546 c3547 V (h3550.le (hle3554.trans (hle3576.trans hle3581))) x3582 hcl3583) ?_
 rintro _ b3584 _ hle3585 ⟨rfl, rfl⟩
 refine t_in1 [_] [_] V ((Z ++ [(e, Cl 49 [iv z, iv f, iv A, iv B, iv C, sv aa D ab, iv g, iv k, iv m, iv n])]) ++ (d ++ R)) rfl<|Ys 165 rfl rfl rfl<|Ts rfl (q5 rfl rfl)<|Ts rfl (pT rfl rfl)<|Tn ?_
 obtain rfl := o1 hm
 refine Xp 1 rfl<|X3 [_, _] V (Z ++ [(e, Cl 49 [iv z, iv f, iv A, iv B, iv C, sv aa D ab, iv g, iv k, iv m, iv n])]) d R rfl<|X3 [_, _] d V (Z ++ [(e, Cl 49 [iv z, iv f, iv A, iv B, iv C, sv aa D ab, iv g, iv k, iv m, iv n])]) R rfl ?_
 exact xJ ⟨rfl, rfl, (hle3576.trans (hle3581.trans hle3585))⟩ (.refl _)
 rw [if_neg hc3577] at hm
 refine M rfl rfl<|No 165 rfl rfl rfl rfl rfl<|No 165 rfl rfl rfl rfl rfl<|No 165 rfl rfl rfl rfl rfl<|No 165 rfl rfl rfl rfl rfl<|No 165 rfl rfl rfl rfl rfl<|Ts rfl (pF rfl rfl)<|Tn ?_
 obtain rfl := o1 hm
 refine Xp 1 rfl<|X3 [_, _] V (Z ++ [(e, Cl 49 [iv z, iv f, iv A, iv B, iv C, sv aa D ab, iv g, iv k, iv m, iv n])]) d R rfl<|X3 [_, _] d V (Z ++ [(e, Cl 49 [iv z, iv f, iv A, iv B, iv C, sv aa D ab, iv g, iv k, iv m, iv n])]) R rfl ?_
 exact xJ ⟨rfl, rfl, hle3576⟩ (.refl _)
 rintro b3569 _ _ ⟨rfl, rfl, hle3570⟩
 have hm := hk3572
 refine Cc _ rfl (fun hc3586 => ?_) (fun hc3586 => ?_)
 rw [if_pos hc3586] at hm
 refine Cr<|As rfl rfl<|Te<|Ct<|Xb<|Xr<|Xr<|Xb<|Xr ?_
 have hq3587 := houtL1861 _ (Option.some.inj hm).symm
 rw [hq3587] at hk3052
 have hm := elimR hk3052
 obtain rfl := o1 hm
 exact rM (rs := [.tmp 2]) (vs := [bv false]) ⟨rfl, trivial⟩ ⟨rfl, rfl⟩ (.cons _ (.cons _ (ss (Z ++ [(e, Cl 49 [iv z, iv f, iv A, iv B, iv C, sv aa D ab, iv g, iv k, iv m, iv n])]) (ss d (ss V (.refl _)))))) (hle1825.trans (hle1839.trans (hle3014.trans (p.trans (E.trans (af.trans (hle3517.trans (hle3542.trans (hle3554.trans hle3570)))))))))
 rw [if_neg (fun hh => Bool.noConfusion (hh.symm.trans hc3586))] at hm
 refine Ck<|Xm<|Xn<|Cg<|Ts rfl (sa rfl rfl (by omega))<|M rfl rfl<|Tn<|Xp 1 rfl<|Xp 1 rfl<|X3 [_, _] (Z ++ [(e, Cl 49 [iv z, iv f, iv A, iv B, iv C, sv aa D ab, iv g, iv k, iv m, iv n])]) d V R rfl ?_
 refine X3 [_, _] V (Z ++ [(e, Cl 49 [iv z, iv f, iv A, iv B, iv C, sv aa D ab, iv g, iv k, iv m, iv n])]) d R rfl<|X3 [_, _] d V (Z ++ [(e, Cl 49 [iv z, iv f, iv A, iv B, iv C, sv aa D ab, iv g, iv k, iv m, iv n])]) R rfl ?_
 exact xM hm ⟨g3543, A3522, c3523, (Z ++ [(e, Cl 49 [iv z, iv f, iv A, iv B, iv C, sv aa D ab, iv g, iv k, iv m, iv n])]), A3022, c3023, d, A3546, c3547, V, rfl, rfl, ((hle3014.trans (p.trans (E.trans (af.trans (hle3517.trans (hle3542.trans (hle3554.trans hle3570)))))))), (h3552.le (hle3554.trans hle3570)), (h3024.le (p.trans (E.trans (af.trans (hle3517.trans (hle3542.trans (hle3554.trans hle3570))))))), (h3550.le (hle3554.trans hle3570))⟩ (.refl _)
 rw [if_neg (of_decide_eq_false hc3514)] at hm
 refine Ck<|Xm<|Xn ?_
 obtain ⟨_, hj3590, hk3590⟩ := bS hm
 refine Cj (fun b3588 e' hp' => [(3, pb q), (4, pb e), (5, sv S ag T), (6, sv A3022 l3047 c3023), (7, iv (ac + s.Wait)), (25, .slice (subA A1 t y 5) (x).length (t - y)), (26, iv ((x.length : Int))), (27, iv ((k3049 : Int)))] = e' ∧ (q, Cl 45 [iv G, iv W, iv ah, iv X, iv Y]) :: (e, Cl 49 [iv H, iv f, iv ad, iv I, iv ae, sv J O K, iv g, iv k, iv m, iv n]) :: (a ++ (d ++ (c ++ R))) = hp' ∧ b3349.Le b3588) ?_ ?_
 have hm := hj3590
 refine Cr<|M rfl rfl<|Te<|c_cond_f rfl<|Ck ?_
 clear hm
 refine Xp 1 rfl<|Xp 1 rfl<|X3 [_, _, _, _] a d c R rfl<|X3 [_, _, _, _] c a d R rfl<|X3 [_, _, _, _] d c a R rfl ?_
 exact xJ ⟨rfl, rfl, lr⟩ (.cons_cons _ (.cons_cons _ (.cons _ (.cons _ (.refl _)))))
 rintro b3588 _ _ ⟨rfl, rfl, hle3589⟩
 have hm := hk3590
 obtain ⟨x3606, hj3607, hk3607⟩ := bS hm
 refine Cj (fun b3604 e' hp' => [(3, pb q), (4, pb e), (5, sv S ag T), (6, sv A3022 l3047 c3023), (7, iv (ac + s.Wait)), (25, .slice (subA A1 t y 5) (x).length (t - y)), (26, iv ((x.length : Int))), (27, iv ((k3049 : Int))), (171, bv x3606)] = e' ∧ (q, Cl 45 [iv G, iv W, iv ah, iv X, iv Y]) :: (e, Cl 49 [iv H, iv f, iv ad, iv I, iv ae, sv J O K, iv g, iv k, iv m, iv n]) :: (a ++ (d ++ (c ++ R))) = hp' ∧ b3588.Le b3604) ?_ ?_
 have hm := hj3607
 refine Cg<|M rfl rfl ?_
 obtain ⟨x3608, hcl3609, hm⟩ := bS hm
 refine t_pullb 1 rfl<|t_front3 [_, _] a d c R rfl<|t_out1 [_] [_] c (a ++ (d ++ R)) rfl<|Tg _ rfl call14 rfl (cGuardCentreReserved_2 _ _ H f ad I ae g k m n O e J K c (h3029.le (p.trans (E.trans (af.trans hle3589)))) x3608 hcl3609) ?_
 rintro _ b3610 _ hle3611 ⟨rfl, rfl⟩
 refine t_in1 [_] [_] c (a ++ (d ++ R)) rfl ?_
 refine Tb rfl (q5 rfl rfl) (fun hc3612 => ?_) (fun hc3612 => ?_)
 rw [if_pos hc3612] at hm
 refine M rfl rfl<|Ys 165 rfl rfl rfl<|M rfl rfl<|Ys 165 rfl rfl rfl ?_
 obtain ⟨x3613, hcl3614, hm⟩ := bS hm
 refine t_pullb 1 rfl<|Tg _ rfl call8 rfl (cGuardUnitEnd _ _ G W ah X Y q x3613 hcl3614) ?_
 rintro _ b3615 _ hle3616 ⟨rfl, rfl⟩
 refine Ys 165 rfl rfl rfl<|M rfl rfl<|Ys 165 rfl rfl rfl ?_
 obtain ⟨x3617, hcl3618, hm⟩ := bS hm
 refine t_pullb 1 rfl<|t_out1 [_] [_] c (a ++ (d ++ R)) rfl<|Tg _ rfl call14 rfl (cGuardCentreReserved_2 _ _ H f ad I ae g k m n O e J K c (h3029.le (p.trans (E.trans (af.trans (hle3589.trans (hle3611.trans hle3616)))))) x3617 hcl3618) ?_
 rintro _ b3619 _ hle3620 ⟨rfl, rfl⟩
 refine t_in1 [_] [_] c (a ++ (d ++ R)) rfl<|Ys 165 rfl rfl rfl<|Ts rfl (q5 rfl rfl)<|Ts rfl (pT rfl rfl)<|Tn ?_
 obtain rfl := o1 hm
 refine Xp 1 rfl<|X3 [_, _] c a d R rfl<|X3 [_, _] d c a R rfl ?_
 exact xJ ⟨rfl, rfl, (hle3611.trans (hle3616.trans hle3620))⟩ (.refl _)
 rw [if_neg hc3612] at hm
 refine M rfl rfl<|No 165 rfl rfl rfl rfl rfl<|No 165 rfl rfl rfl rfl rfl<|No 165 rfl rfl rfl rfl rfl<|No 165 rfl rfl rfl rfl rfl<|No 165 rfl rfl rfl rfl rfl<|Ts rfl (pF rfl rfl)<|Tn ?_
 obtain rfl := o1 hm
 refine Xp 1 rfl<|X3 [_, _] c a d R rfl<|X3 [_, _] d c a R rfl ?_
 exact xJ ⟨rfl, rfl, hle3611⟩ (.refl _)
 rintro b3604 _ _ ⟨rfl, rfl, hle3605⟩
 have hm := hk3607
 refine Cc _ rfl (fun hc3621 => ?_) (fun hc3621 => ?_)
 rw [if_pos hc3621] at hm
 refine Cr<|As rfl rfl<|Te<|Ct<|Xb<|Xr<|Xr<|Xb<|Xr ?_
 have hq3622 := houtL1861 _ (Option.some.inj hm).symm
 rw [hq3622] at hk3052
 have hm := elimR hk3052
 obtain rfl := o1 hm
 exact rM (rs := [.tmp 2]) (vs := [bv false]) ⟨rfl, trivial⟩ ⟨rfl, rfl⟩ (.cons _ (.cons _ (ss a (ss d (ss c (.refl _)))))) (hle1825.trans (hle1839.trans (hle3014.trans (p.trans (E.trans (af.trans (hle3589.trans hle3605)))))))
 rw [if_neg (fun hh => Bool.noConfusion (hh.symm.trans hc3621))] at hm
 refine Ck<|Xm<|Xn<|Cg<|Ts rfl (sa rfl rfl (by omega))<|M rfl rfl<|Tn<|Xp 1 rfl<|Xp 1 rfl<|X3 [_, _] a d c R rfl ?_
 refine X3 [_, _] c a d R rfl<|X3 [_, _] d c a R rfl ?_
 exact xM hm ⟨e, S, T, a, A3022, c3023, d, J, K, c, rfl, rfl, ((hle3014.trans (p.trans (E.trans (af.trans (hle3589.trans hle3605)))))), (h3019.le (p.trans (E.trans (af.trans (hle3589.trans hle3605))))), (h3024.le (p.trans (E.trans (af.trans (hle3589.trans hle3605))))), (h3029.le (p.trans (E.trans (af.trans (hle3589.trans hle3605)))))⟩ (.refl _)
 rintro ⟨ac, G, W, ah, X, Y, H, f, ad, I, ae, g, k, m, n, ag, l3047, O⟩ b3013 _ _ ⟨e, S, T, a, A3022, c3023, d, J, K, c, rfl, rfl, hle3014, h3019, h3024, h3029⟩ hq3623
 rw [hq3623] at hk3052
 have hm := elimL hk3052
 have hm := (unc18E hm)
 refine Cr<|Ts rfl (lF rfl rfl (by omega))<|Te<|Cs<|c_cond_f rfl<|Ce<|Xe<|Xe<|Xo<|Xn ?_
 refine Cr<|As rfl rfl<|Te<|Ct ?_
 obtain rfl := o1 hm
 exact rM (rs := [.tmp 2]) (vs := [bv true]) ⟨rfl, trivial⟩ ⟨rfl, rfl⟩ (.cons _ (.cons _ (ss a (ss d (ss c (.refl _)))))) (hle1825.trans (hle1839.trans hle3014))

end Go.Proofs.YtbggpdpcndpaoaaDoor
