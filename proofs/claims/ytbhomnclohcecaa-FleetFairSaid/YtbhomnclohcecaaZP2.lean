/- Contracts: the code computes its model (part 2). -/
import Derived.Test.YtbhomnclohcecaaZP1
set_option linter.unusedVariables false
set_option linter.unusedSimpArgs false
namespace Go.Proofs.Ytbhomnclohcecaa
open Go.RowKit Go.Fp

open Go.Fp renaming t_mv → M, t_as → As, t_st → Ts, t_do → Do, t_ne → Te, t_nil → Tn, t_no → No, t_yes → Ys, t_bool → Tb, t_callG → Tg, t_callvG → Tv, t_resp → Tr, c_sr → Cr, c_seq → Cs, c_region → Cg, c_cond → Cc, c_block → Cb, c_ret → Ct, c_skip → Ck, c_exit → Ce, c_join → Cj, c_pullb → Cp, x_then_normal → Xn, x_then_ret → Xr, x_then_exit → Xe, x_block_ret → Xb, x_block_normal → Xm, x_block_out → Xo, x_block_on → Xi, x_pullb → Xp, x_front2 → X2, E_st → Es, E_s0 → E0, E_yes → Ey, E_y0 → Yz, E_no → En, E_in → Ei, E_il → El, E_out → Eo, D_all → Da, D_done → Dd, D_drawI → Di, R_do → Rd2, R_nil → Rn, R_callGl → Rg, st_load → sL, st_loadD → sD, st_nil → sN, st_len → sE, st_move → sM, st_pick_t → pT, st_pick_f → pF, st_index_old → sI, st_load_old → sO, st_add → sa, st_sub → sb, st_lss_t → lT, st_lss_f → lF, st_not → sn2, u_box → uB, u_alloc → uA, u_store → uS, u_callW0 → uW, u_putOS → uP, u_appOS → uQ, fn_enterG → fE, bindS → bS, some1 → o1, idx_some → iS, sub_skip → ss, sub_app → sp, chk_some → kS, notT → nt, notF → nf, mem_c → mc, mem_n → mn, st_eql → q1, st_neq → q2, st_lss → q3, st_gtr → q5, st_geq → q6
set_option maxRecDepth 20000 in
theorem cFleetRoster_1_2 : ∀ (N : Nat) (b : Base) (R : Hp) (a : Int) (t : (List FleetShift)) (ag : Int) (y : Int) (z : Int) (A : Int) (B : Int) (C : Int) (D : Int) (E : Int) (q : (List (List Int))) (L : (List (List Int))) (j : Nat) (f : Nat) (n : Nat) (o : Nat) (k : Nat) (m : Nat) (u : OA) (x : Nat) (c : OA) (d : Nat) (g : Hp) (O : OA) (S : Nat) (p : Hp) (ao : FZ rFleetShift b.w u x t) (T : OS 33 (OT.fr (RT.list rI)) b.w (sv c q d) q g) (aA : OS 33 (OT.fr (RT.list rI)) b.w (sv O L S) L p) (aB : Int) (Y : (List (List Int))) (ah : (List (List Int))) (hm : mFleetRoster_1_2 N a t ag y z A B C D E q L = some (aB, Y, ah)),
    CallsG Try.prog 18 [iv a, pb j, pb f, pb n, pb o, pb k, pb m] b ((j, Cl 22 [sv u t x]) :: (f, Cl 27 [sv c q d]) :: (n, Cl 3 [iv ag]) :: (o, Cl 27 [sv O L S]) :: (k, Cl 24 [iv y, iv z, iv A, iv B, iv C, iv D, iv E]) :: (m, Cl 54 [.func (.func 18) #[] #[pb j, pb f, pb n, pb o, pb k, pb m]]) :: (g ++ (p ++ R))) (fun v b' hp' => ∃ (bd : Hp), ∃ (be : OA), ∃ (bf : Nat), ∃ (bg : Hp), .tuple #[] = v ∧ (j, Cl 22 [sv u t x]) :: (f, Cl 27 [sv c Y d]) :: (n, Cl 3 [iv aB]) :: (o, Cl 27 [sv be ah bf]) :: (k, Cl 24 [iv y, iv z, iv A, iv B, iv C, iv D, iv E]) :: (m, Cl 54 [.func (.func 18) #[] #[pb j, pb f, pb n, pb o, pb k, pb m]]) :: (bd ++ (bg ++ R)) = hp' ∧ OS 33 (OT.fr (RT.list rI)) b'.w (sv c Y d) Y bd ∧ Y.length = q.length ∧ OS 33 (OT.fr (RT.list rI)) b'.w (sv be ah bf) ah bg) := by
  intro N
  induction N with
  | zero =>
    intro b R a t ag y z A B C D E q L j f n o k m u x c d g O S p ao T aA aB Y ah hm
    unfold mFleetRoster_1_2 at hm
    cases hm
  | succ N ih =>
   intro b R a t ag y z A B C D E q L j f n o k m u x c d g O S p ao T aA aB Y ah hm
   refine fE 70 Try.func18 rfl Try.ntmps18 rfl ?_
   unfold mFleetRoster_1_2 at hm
   refine Cs<|Cr<|M rfl rfl<|Ts rfl (sL 0 rfl one22 rfl rfl)<|Ts rfl (sE rfl sl22)<|Ts rfl (q1 rfl rfl)<|Te ?_
   refine Cc _ rfl (fun aO => ?_) (fun aO => ?_)
   rw [if_pos (of_decide_eq_true aO)] at hm
   refine Cr<|As rfl rfl<|Te<|Cs<|Cr<|Ts rfl (sL 1 rfl one27 rfl rfl)<|Ts rfl (sE rfl sl27)<|M rfl rfl<|Te<|Cb ?_
   have c5 : q.length ≤ 9223372036854775807 := (OS.len T)
   refine Cp 5 rfl<|Cp 5 rfl<|Cp 5 rfl<|Cp 5 rfl<|Cp 5 rfl<|Cp 5 rfl<|c_front2 [_, _, _, _, _, _] g p R rfl<|c_front2 [_, _, _, _, _, _] p g R rfl ?_
   obtain ⟨aC, bt, bu⟩ := bS hm
   refine cS (fun bh => fun aC => fun aq e' hp' => [(1, pb j), (2, pb f), (3, pb n), (4, pb o), (8, iv aC), (17, sv c q d), (18, iv ((q.length : Int))), (19, iv ((bh : Int)))] = e' ∧ (j, Cl 22 [sv u t x]) :: (f, Cl 27 [sv c q d]) :: (n, Cl 3 [iv ag]) :: (o, Cl 27 [sv O L S]) :: (k, Cl 24 [iv y, iv z, iv A, iv B, iv C, iv D, iv E]) :: (m, Cl 54 [.func (.func 18) #[] #[pb j, pb f, pb n, pb o, pb k, pb m]]) :: (g ++ (p ++ R)) = hp' ∧ b.Le aq) bt ⟨rfl, rfl, lr⟩ (.refl _) ?_ ?_
   rintro bh aC aq _ _ c6 c7 ⟨rfl, rfl, U⟩ bi
   unfold mFleetRoster_1_2_L2317 at bi
   have hm := bi
   refine Cr<|Ts rfl (lT rfl rfl (by omega))<|Te<|Cs<|c_cond_t rfl<|Ck<|Xn<|Cs<|Cb<|Cr ?_
   obtain ⟨bw, bx, hm⟩ := bS hm
   obtain ⟨bz, bA, bB⟩ := iS bx
   obtain ⟨c8, da, db, dc, dd, bC, bD, bE, bF, de, df⟩ := OS.get (sz := 1) rfl (by decide) (T.le U) bB
   obtain ⟨⟨bG, bH, rfl, bI⟩, rfl⟩ := bC
   refine Ts rfl (sI bz rfl rfl bA bF bE sl27)<|Ts rfl (st_load_rd rfl one33 (fun w ho => bD w _ ho (.cons _ (.cons _ (.cons _ (.cons _ (.cons _ (.cons _ (List.sublist_append_left _ _))))))) 0 _ rfl))<|As rfl rfl<|Te<|Cg<|M rfl rfl<|Ts rfl (sL 0 rfl one22 rfl rfl)<|M rfl rfl ?_
   obtain ⟨bJ, bK, hm⟩ := bS hm
   refine Do rfl (uW _ call19 rfl (fun w ho => cFleetLoad _ [] t bw u x bG bH ((ao.le U).old ho) (bI.old ho) bJ bK) (fun _ _ _ h => h.2.symm)) ?_
   rintro _ _ ⟨⟨_, rfl, _⟩, rfl⟩
   refine Ts rfl (st_max rfl rfl)<|As rfl rfl<|Tn<|Xm<|Xn<|Cg<|Ts rfl (sa rfl rfl (by omega))<|M rfl rfl<|Tn<|Xp 5 rfl ?_
   refine Xp 5 rfl<|Xp 5 rfl<|Xp 5 rfl<|Xp 5 rfl<|Xp 5 rfl<|X2 [_, _, _, _, _, _] g p R rfl<|X2 [_, _, _, _, _, _] p g R rfl ?_
   obtain rfl := o1 hm
   exact xS ⟨rfl, rfl, (U)⟩ (.refl _)
   rintro aq _ _ ⟨rfl, rfl, U⟩
   have hm := bu
   refine Cr<|Ts rfl (lF rfl rfl (by omega))<|Te<|Cs<|c_cond_f rfl<|Ce<|Xe<|Xe<|Xo<|Xn ?_
   obtain ⟨⟨bL, aP⟩, bM, bN⟩ := bS hm
   refine Cj (fun aQ e' hp' => ∃ (aD : OA), ∃ (aE : Nat), ∃ (ai : Hp), [] = e' ∧ (j, Cl 22 [sv u t x]) :: (f, Cl 27 [sv c q d]) :: (n, Cl 3 [iv bL]) :: (o, Cl 27 [sv aD aP aE]) :: (k, Cl 24 [iv y, iv z, iv A, iv B, iv C, iv D, iv E]) :: (m, Cl 54 [.func (.func 18) #[] #[pb j, pb f, pb n, pb o, pb k, pb m]]) :: (g ++ (ai ++ R)) = hp' ∧ aq.Le aQ ∧ OS 33 (OT.fr (RT.list rI)) aQ.w (sv aD aP aE) aP ai) ?_ ?_
   have hm := bM
   obtain ⟨bO, bP, bQ⟩ := bS hm
   refine Cj (fun bj e' hp' => [(2, pb f), (3, pb n), (4, pb o), (8, iv aC), (35, bv bO)] = e' ∧ (f, Cl 27 [sv c q d]) :: (n, Cl 3 [iv ag]) :: (o, Cl 27 [sv O L S]) :: (j, Cl 22 [sv u t x]) :: (k, Cl 24 [iv y, iv z, iv A, iv B, iv C, iv D, iv E]) :: (m, Cl 54 [.func (.func 18) #[] #[pb j, pb f, pb n, pb o, pb k, pb m]]) :: (g ++ (p ++ R)) = hp' ∧ aq.Le bj) ?_ ?_
   have hm := bP
   refine Cg<|Ts rfl (sL 2 rfl one3 rfl rfl) ?_
   refine Tb rfl (q3 rfl rfl) (fun aR => ?_) (fun aR => ?_)
   rw [if_pos aR] at hm
   refine M rfl rfl<|No 31 rfl rfl rfl rfl rfl<|No 31 rfl rfl rfl rfl rfl<|No 31 rfl rfl rfl rfl rfl<|Ts rfl (pT rfl rfl)<|Tn ?_
   obtain rfl := o1 hm
   refine Xp 5 rfl<|Xp 5 rfl<|Xp 2 rfl<|Xp 5 rfl<|Xp 5 rfl<|Xp 5 rfl<|X2 [_, _, _, _, _, _] g p R rfl<|X2 [_, _, _, _, _, _] p g R rfl ?_
   exact xJ ⟨rfl, rfl, lr⟩ (.refl _)
   rw [if_neg aR] at hm
   refine M rfl rfl<|Ys 31 rfl rfl rfl<|M rfl rfl<|Ys 31 rfl rfl rfl<|Ts rfl (sL 2 rfl one3 rfl rfl)<|Ys 31 rfl rfl rfl<|Ts rfl (q3 rfl rfl)<|Ts rfl (pF rfl rfl)<|Tn ?_
   obtain rfl := o1 hm
   refine Xp 5 rfl<|Xp 5 rfl<|Xp 2 rfl<|Xp 5 rfl<|Xp 5 rfl<|Xp 5 rfl<|X2 [_, _, _, _, _, _] g p R rfl<|X2 [_, _, _, _, _, _] p g R rfl ?_
   exact xJ ⟨rfl, rfl, lr⟩ (.refl _)
   rintro bj _ _ ⟨rfl, rfl, aF⟩
   have hm := bQ
   refine Cc _ rfl (fun aS => ?_) (fun aS => ?_)
   rw [if_pos aS] at hm
   refine Cg<|Ts rfl (sL 0 rfl one27 rfl rfl) ?_
   obtain ⟨_, aT, hm⟩ := bS hm
   have aT := room_some aT
   refine Do rfl (u_cloneOwn (r := (RT.list rI)) (l := q) (sz := 1) (by_ := 24) [_, _, _, _, _, _] (g ++ (p ++ R)) rfl clSlicesClone call20 rfl rfl (T.le (U.trans aF)) (.cons _ (.cons _ (.cons _ (.cons _ (.cons _ (.cons _ (List.sublist_append_left _ _))))))) aT) ?_
   rintro _ _ ⟨bR, bT, aU, rfl, rfl, bU⟩
   refine M rfl rfl<|Do rfl (uS 2 rfl rfl siz27 rfl rfl (by simp)) ?_
   rintro _ _ rfl
   refine Do rfl (uS 1 rfl rfl siz3 rfl rfl (by simp)) ?_
   rintro _ _ rfl
   refine Tn ?_
   obtain ⟨rfl, rfl⟩ := some2 hm
   refine Xp 5 rfl<|Xp 5 rfl<|Xp 4 rfl<|Xp 4 rfl<|Xp 4 rfl<|Xp 5 rfl<|X2 [_, _, _, _, _, _] aU g (p ++ R) rfl ?_
   exact xJ ⟨bR, bT, aU, rfl, rfl, aF, bU⟩ (.cons_cons _ (.cons_cons _ (.cons_cons _ (.cons_cons _ (.cons_cons _ (.cons_cons _ (sp g (sp aU (ss p (.refl _))))))))))
   rw [if_neg (fun hh => Bool.noConfusion (hh.symm.trans aS))] at hm
   refine Ck ?_
   obtain ⟨rfl, rfl⟩ := some2 hm
   refine Xp 5 rfl<|Xp 5 rfl<|Xp 4 rfl<|Xp 4 rfl<|Xp 4 rfl<|Xp 5 rfl<|X2 [_, _, _, _, _, _] g p R rfl<|X2 [_, _, _, _, _, _] p g R rfl ?_
   exact xJ ⟨O, S, p, rfl, rfl, aF, (aA.le (U.trans aF))⟩ (.refl _)
   rintro aQ _ _ ⟨aD, aE, ai, rfl, rfl, bk, bV⟩
   have hm := (unc2E bN)
   refine Ct<|Xr ?_
   obtain ⟨rfl, rfl, rfl⟩ := some3 hm
   refine Xp 5 rfl<|Xp 5 rfl<|Xp 5 rfl<|Xp 5 rfl<|Xp 5 rfl<|Xp 5 rfl<|X2 [_, _, _, _, _, _] g ai R rfl<|X2 [_, _, _, _, _, _] ai g R rfl ?_
   have bW := (T.le (U.trans bk))
   exact rM (rs := []) (vs := []) trivial ⟨g, aD, aE, ai, rfl, rfl, bW, rfl, bV⟩ (.refl _) (U.trans bk)
   rw [if_neg (of_decide_eq_false aO)] at hm
   refine Ck<|Xn<|Cr<|Ts rfl (sL 1 rfl one27 rfl rfl)<|Ts rfl (sE rfl sl27)<|M rfl rfl<|Te<|Cb ?_
   have dg : q.length ≤ 9223372036854775807 := (OS.len T)
   refine Cp 3 rfl<|Cp 3 rfl<|Cp 5 rfl<|Cp 5 rfl<|Cp 5 rfl<|Cp 5 rfl<|c_front2 [_, _, _, _, _, _] g p R rfl<|c_front2 [_, _, _, _, _, _] p g R rfl ?_
   obtain ⟨⟨ar, I, Z⟩, bX, bY⟩ := bS hm
   refine cS (fun G => unc3 fun ar I Z => fun aj e' hp' => ∃ (F : Hp), ∃ (V : OA), ∃ (W : Nat), ∃ (e : Hp), [(0, iv a), (1, pb j), (2, pb f), (5, pb k), (6, pb m), (39, sv c I d), (40, iv ((q.length : Int))), (41, iv ((G : Int)))] = e' ∧ (j, Cl 22 [sv u t x]) :: (f, Cl 27 [sv c I d]) :: (k, Cl 24 [iv y, iv z, iv A, iv B, iv C, iv D, iv E]) :: (m, Cl 54 [.func (.func 18) #[] #[pb j, pb f, pb n, pb o, pb k, pb m]]) :: (n, Cl 3 [iv ar]) :: (o, Cl 27 [sv V Z W]) :: (F ++ (e ++ R)) = hp' ∧ b.Le aj ∧ OS 33 (OT.fr (RT.list rI)) aj.w (sv c I d) I F ∧ I.length = q.length ∧ OS 33 (OT.fr (RT.list rI)) aj.w (sv V Z W) Z e) bX ⟨g, O, S, p, rfl, rfl, lr, T, rfl, aA⟩ (.refl _) ?_ ?_
   rintro G ⟨ar, I, Z⟩ aj _ _ dh di ⟨F, V, W, e, rfl, rfl, au, aa, aG, aH⟩ bl
   unfold mFleetRoster_1_2_L2424 at bl
   have hm := (unc3E bl)
   refine Cr<|Ts rfl (lT rfl rfl (by omega))<|Te<|Cs<|c_cond_t rfl<|Ck<|Xn<|Cs<|Cb<|Cr ?_
   refine M rfl rfl ?_
   obtain ⟨X, bZ, hm⟩ := bS hm
   obtain ⟨b0, b1, b2⟩ := iS bZ
   obtain ⟨dj, dk, dl, dm, dn, b3, b4, b5, b6, dp, dq⟩ := OS.get (sz := 1) rfl (by decide) aa b2
   obtain ⟨⟨av, aw, rfl, aV⟩, rfl⟩ := b3
   refine Ts rfl (sI b0 rfl rfl b1 b6 b5 sl27)<|Ts rfl (st_load_rd rfl one33 (fun w ho => b4 w _ ho (.cons _ (.cons _ (.cons _ (.cons _ (.cons _ (.cons _ (List.sublist_append_left _ _))))))) 0 _ rfl))<|As rfl rfl<|As rfl rfl<|Te ?_
   obtain ⟨ak, b7, b8⟩ := bS hm
   refine Cj (fun aI e' hp' => ∃ (J : Hp), [(0, iv a), (1, pb j), (2, pb f), (5, pb k), (6, pb m), (11, iv ((G : Int))), (12, sv av X aw), (39, sv c ak d), (40, iv ((q.length : Int))), (41, iv ((G : Int)))] = e' ∧ (j, Cl 22 [sv u t x]) :: (f, Cl 27 [sv c ak d]) :: (k, Cl 24 [iv y, iv z, iv A, iv B, iv C, iv D, iv E]) :: (m, Cl 54 [.func (.func 18) #[] #[pb j, pb f, pb n, pb o, pb k, pb m]]) :: (n, Cl 3 [iv ar]) :: (o, Cl 27 [sv V Z W]) :: (J ++ (e ++ R)) = hp' ∧ aj.Le aI ∧ OS 33 (OT.fr (RT.list rI)) aI.w (sv c ak d) ak J ∧ ak.length = q.length) ?_ ?_
   have hm := b7
   obtain ⟨s, bm, hm⟩ := bS hm
   obtain ⟨_, al, hm⟩ := bS hm
   obtain ⟨dr, bn, hm⟩ := bS hm
   refine Di mixed (.refl _)<|Es 0 rfl (sL 1 rfl one27 rfl rfl)<|E0 1 rfl (sM rfl)<|E0 2 rfl (sM rfl)<|E0 4 rfl (sM rfl)<|Eo<|Da [3, 5] (by kernel_rfl) rfl ?_
   refine Rg lr rfl rfl _ call21 rfl (cSlicesClone_2 _ _ X av aw aV s bm) ?_ ?_
   rintro _ b9 _ H ⟨ca, cb, am, rfl, rfl, aW⟩
   refine ⟨.inr (ss am (.refl _)), ?_⟩
   refine d_in1 [] [_, _, _, _, _, _] am (F ++ (e ++ R)) rfl<|Da [5] (by kernel_rfl) rfl ?_
   refine Rd2 H rfl rfl (u_bslice (el := 3) [(0, iv a)] [iv a] rfl (fun _ => by kernel_rfl)) ?_ ?_
   rintro _ _ ⟨cc, rfl, rfl⟩
   refine ⟨.inr (.cons _ (.cons_cons _ (.cons_cons _ (.cons_cons _ (.cons_cons _ (.cons_cons _ (.cons_cons _ (ss am (.refl _))))))))), ?_⟩
   have al := room_some al
   refine Da [6] (by kernel_rfl) rfl ?_
   refine Rd2 H rfl rfl (uQ (r := rI) (l := s) [_, _, _, _, _, _, _] (F ++ (e ++ R)) [[iv a]] [a] rfl (by decide) sl33 inf3 rfl rfl rfl rfl aW rfl (fun w ho => Rd.own (i := 0) ho rfl) ⟨rfl, trivial⟩ al) ?_ ?_
   rintro _ _ ⟨ab, rfl, ac⟩
   obtain ⟨ax, aX, rfl, _⟩ := ac.form
   refine ⟨.inr (.cons _ (.cons_cons _ (.cons_cons _ (.cons_cons _ (.cons_cons _ (.cons_cons _ (.cons_cons _ (ss ab (.refl _))))))))), ?_⟩
   obtain ⟨aY, ay, az⟩ := iS bn
   obtain ⟨cd, ce, cf, cg, ch, aZ, ci, a0, a1, cj, ck⟩ := OS.get (sz := 1) rfl (by decide) aa az
   obtain ⟨⟨cl, cm, rfl, cn⟩, rfl⟩ := aZ
   refine Ei H (.cons _ (.cons_cons _ (.cons_cons _ (.cons_cons _ (.cons_cons _ (.cons_cons _ (.cons_cons _ (ss ab (.refl _)))))))))<|E0 7 rfl (sI aY rfl rfl ay a1 a0 sl27)<|Eo ?_
   have co : (ax = none ↔ s ++ [a] = []) := (OS.nz ac (by simp))
   refine d_frz [_, _, _, _, _, _, _] ab (F ++ (e ++ R)) rfl ?_
   intro cp K a2
   have a3 := OS.frz (l := s ++ [a]) ac K.cells a2
   refine Da [8] (by kernel_rfl) rfl ?_
   refine Rd2 (H.trans K) rfl rfl (uP ay (sz := 1) (a' := s ++ [a]) rfl [_, _, _, _, _, _, _] (e ++ R) 0 1 [.slice ax (s ++ [a]).length aX] rfl (aa.le (H.trans K)) az rfl rfl rfl siz33 rfl (mc rfl mn) (fun cs hsj hh => by obtain ⟨⟨cq, cr, rfl, ct⟩, rfl⟩ := hh; exact ⟨by first | decide | exact Nat.le_refl _, (RT.list_mk a3), rfl⟩)) ?_ ?_
   rintro _ _ ⟨ad, rfl, a4⟩
   refine ⟨.inl (by kernel_rfl), ?_⟩
   refine d_resp 39 rfl (v' := .slice c (put I (G : Int) (s ++ [a])).length d) (by simp only [put_length])<|d_hresp 2 rfl (o' := Cl 27 [.slice c (put I (G : Int) (s ++ [a])).length d]) (by simp only [put_length])<|Dd (by kernel_rfl) ?_
   obtain rfl := o1 hm
   refine Xp 6 rfl<|Xp 6 rfl<|Xp 6 rfl<|Xp 6 rfl<|Xp 6 rfl<|Xp 6 rfl<|X2 [_, _, _, _, _, _, _] ad e R rfl<|X2 [_, _, _, _, _, _, _] e ad R rfl ?_
   exact xJ ⟨ad, rfl, rfl, (H.trans K), a4, ((put_length _ _ _).trans aG)⟩ (.cons_cons _ (.cons_cons _ (.cons_cons _ (.cons_cons _ (.cons_cons _ (.cons_cons _ (.cons _ (.refl _))))))))
   exact Rn
   exact Rn
   exact Rn
   refine Rd2 lr rfl rfl (u_bslice (el := 3) [(0, iv a)] [iv a] rfl (fun _ => by kernel_rfl)) ?_ ?_
   rintro _ _ ⟨cc, rfl, rfl⟩
   refine ⟨.inr (.cons _ (.refl _)), ?_⟩
   refine Da [3] (by kernel_rfl) rfl ?_
   refine Rg lr rfl rfl _ call21 rfl (cSlicesClone_2 _ _ X av aw aV s bm) ?_ ?_
   rintro _ b9 _ H ⟨ca, cb, am, rfl, rfl, aW⟩
   refine ⟨.inr (ss am (.cons _ (.refl _))), ?_⟩
   refine d_in1 [] [_, _, _, _, _, _, _] am (F ++ (e ++ R)) rfl ?_
   have al := room_some al
   refine Da [6] (by kernel_rfl) rfl ?_
   refine Rd2 H rfl rfl (uQ (r := rI) (l := s) [_, _, _, _, _, _, _] (F ++ (e ++ R)) [[iv a]] [a] rfl (by decide) sl33 inf3 rfl rfl rfl rfl aW rfl (fun w ho => Rd.own (i := 0) ho rfl) ⟨rfl, trivial⟩ al) ?_ ?_
   rintro _ _ ⟨ab, rfl, ac⟩
   obtain ⟨ax, aX, rfl, _⟩ := ac.form
   refine ⟨.inr (.cons _ (.cons_cons _ (.cons_cons _ (.cons_cons _ (.cons_cons _ (.cons_cons _ (.cons_cons _ (ss ab (.refl _))))))))), ?_⟩
   obtain ⟨aY, ay, az⟩ := iS bn
   obtain ⟨cd, ce, cf, cg, ch, aZ, ci, a0, a1, cj, ck⟩ := OS.get (sz := 1) rfl (by decide) aa az
   obtain ⟨⟨cl, cm, rfl, cn⟩, rfl⟩ := aZ
   refine Ei H (.cons _ (.cons_cons _ (.cons_cons _ (.cons_cons _ (.cons_cons _ (.cons_cons _ (.cons_cons _ (ss ab (.refl _)))))))))<|E0 7 rfl (sI aY rfl rfl ay a1 a0 sl27)<|Eo ?_
   have co : (ax = none ↔ s ++ [a] = []) := (OS.nz ac (by simp))
   refine d_frz [_, _, _, _, _, _, _] ab (F ++ (e ++ R)) rfl ?_
   intro cp K a2
   have a3 := OS.frz (l := s ++ [a]) ac K.cells a2
   refine Da [8] (by kernel_rfl) rfl ?_
   refine Rd2 (H.trans K) rfl rfl (uP ay (sz := 1) (a' := s ++ [a]) rfl [_, _, _, _, _, _, _] (e ++ R) 0 1 [.slice ax (s ++ [a]).length aX] rfl (aa.le (H.trans K)) az rfl rfl rfl siz33 rfl (mc rfl mn) (fun cs hsj hh => by obtain ⟨⟨cq, cr, rfl, ct⟩, rfl⟩ := hh; exact ⟨by first | decide | exact Nat.le_refl _, (RT.list_mk a3), rfl⟩)) ?_ ?_
   rintro _ _ ⟨ad, rfl, a4⟩
   refine ⟨.inl (by kernel_rfl), ?_⟩
   refine d_resp 39 rfl (v' := .slice c (put I (G : Int) (s ++ [a])).length d) (by simp only [put_length])<|d_hresp 2 rfl (o' := Cl 27 [.slice c (put I (G : Int) (s ++ [a])).length d]) (by simp only [put_length])<|Dd (by kernel_rfl) ?_
   obtain rfl := o1 hm
   refine Xp 6 rfl<|Xp 6 rfl<|Xp 6 rfl<|Xp 6 rfl<|Xp 6 rfl<|Xp 6 rfl<|X2 [_, _, _, _, _, _, _] ad e R rfl<|X2 [_, _, _, _, _, _, _] e ad R rfl ?_
   exact xJ ⟨ad, rfl, rfl, (H.trans K), a4, ((put_length _ _ _).trans aG)⟩ (.cons_cons _ (.cons_cons _ (.cons_cons _ (.cons_cons _ (.cons_cons _ (.cons_cons _ (.cons _ (.refl _))))))))
   exact Rn
   exact Rn
   exact Rn
   exact Rn
   rintro aI _ _ ⟨J, rfl, rfl, an, a5, bo⟩
   have hm := b8
   obtain ⟨⟨cu, ae, a6⟩, cv, cw⟩ := bS hm
   refine Cj (fun aJ e' hp' => ∃ (a7 : Hp), ∃ (aK : OA), ∃ (aL : Nat), ∃ (af : Hp), [(0, iv a), (1, pb j), (2, pb f), (5, pb k), (6, pb m), (11, iv ((G : Int))), (12, sv av X aw), (39, sv c ae d), (40, iv ((q.length : Int))), (41, iv ((G : Int)))] = e' ∧ (j, Cl 22 [sv u t x]) :: (f, Cl 27 [sv c ae d]) :: (k, Cl 24 [iv y, iv z, iv A, iv B, iv C, iv D, iv E]) :: (m, Cl 54 [.func (.func 18) #[] #[pb j, pb f, pb n, pb o, pb k, pb m]]) :: (n, Cl 3 [iv cu]) :: (o, Cl 27 [sv aK a6 aL]) :: (a7 ++ (af ++ R)) = hp' ∧ aI.Le aJ ∧ OS 33 (OT.fr (RT.list rI)) aJ.w (sv c ae d) ae a7 ∧ ae.length = q.length ∧ OS 33 (OT.fr (RT.list rI)) aJ.w (sv aK a6 aL) a6 af) ?_ ?_
   have hm := cv
   refine Cs ?_
   obtain ⟨cx, cy, hm⟩ := bS hm
   obtain ⟨cz, cA, hm⟩ := bS hm
   refine Di mixed (.refl _)<|Es 0 rfl (sL 0 rfl one22 rfl rfl)<|Es 1 rfl (sL 1 rfl one27 rfl rfl)<|E0 2 rfl (sM rfl) ?_
   obtain ⟨cB, cC, cD⟩ := iS cy
   obtain ⟨ds, dt, du, dv, dw, cE, cG, cH, cI, dx, dy⟩ := OS.get (sz := 1) rfl (by decide) a5 cD
   obtain ⟨⟨cJ, cK, rfl, cM⟩, rfl⟩ := cE
   refine E0 3 rfl (sI cB rfl rfl cC cI cH sl27)<|Es 4 rfl (st_load_rd rfl one33 (fun w ho => cG w _ ho (.cons _ (.cons _ (.cons _ (.cons _ (.cons _ (.cons _ (List.sublist_append_left _ _))))))) 0 _ rfl))<|Es 5 rfl (sD (vs := [_, _, _, _, _, _, _]) 2 7 rfl agg24 rfl rfl rfl)<|Eo<|Da [6] (by kernel_rfl) rfl ?_
   refine Rd2 lr rfl rfl (uW _ call22 rfl (fun w ho => cFleetFits _ [] t cx (⟨y, z, A, B, C, D, E⟩ : FleetLimits) u x cJ cK ((ao.le (au.trans an)).old ho) (cM.old ho) cz cA) (fun _ _ _ h => h.2.symm)) ?_ ?_
   rintro _ _ ⟨⟨_, rfl, _⟩, rfl⟩
   refine ⟨.inr (.refl _), ?_⟩
   refine Dd (by kernel_rfl)<|Xn ?_
   refine Cc _ rfl (fun a8 => ?_) (fun a8 => ?_)
   rw [if_pos a8] at hm
   refine Cg<|Ts rfl (sL 3 rfl one54 rfl rfl)<|M rfl rfl ?_
   obtain ⟨_, a9, hm⟩ := bS hm
   have a9 := (kS a9).2
   refine Ts rfl (sa rfl rfl a9) ?_
   obtain ⟨⟨cN, ba, cO⟩, cP, hm⟩ := bS hm
   have hm := (unc3E hm)
   refine t_pullb 3 rfl<|t_pullb 3 rfl<|t_pullb 5 rfl<|t_pullb 5 rfl<|t_pullb 5 rfl<|t_pullb 5 rfl<|t_front2 [_, _, _, _, _, _] J e R rfl<|t_front2 [_, _, _, _, _, _] e J R rfl<|t_out2 [_, _, _, _, _, _] [] J e R rfl<|Tv #[] #[pb j, pb f, pb n, pb o, pb k, pb m] [iv (a + 1)] rfl rfl call18 rfl (ih _ _ (a + 1) t ar y z A B C D E ak Z j f n o k m u x c d J V W e (ao.le (au.trans an)) a5 (aH.le an) cN ba cO cP) ?_
   rintro _ dz _ cQ ⟨aM, cR, cT, aN, rfl, rfl, cU, bb, cV⟩
   refine t_in2 [_, _, _, _, _, _] [] aM aN R rfl<|Tr 39 rfl (v' := sv c ba d) (by show Value.slice _ _ _ = Value.slice _ _ _; rw [bb])<|t_hresp 1 rfl (o' := Cl 27 [sv c ba d]) (by simp only [sv, bb])<|Tn ?_
   obtain ⟨rfl, rfl, rfl⟩ := some3 hm
   refine Xp 3 rfl<|Xp 3 rfl<|Xp 5 rfl<|Xp 5 rfl<|Xp 5 rfl<|Xp 5 rfl<|X2 [_, _, _, _, _, _] aM aN R rfl<|X2 [_, _, _, _, _, _] aN aM R rfl ?_
   exact xJ ⟨aM, cR, cT, aN, rfl, rfl, cQ, cU, (bb.trans bo), cV⟩ (.refl _)
   rw [if_neg (fun hh => Bool.noConfusion (hh.symm.trans a8))] at hm
   refine Ck ?_
   obtain ⟨rfl, rfl, rfl⟩ := some3 hm
   refine Xp 5 rfl<|Xp 5 rfl<|Xp 5 rfl<|Xp 5 rfl<|Xp 5 rfl<|Xp 5 rfl<|X2 [_, _, _, _, _, _] J e R rfl<|X2 [_, _, _, _, _, _] e J R rfl ?_
   exact xJ ⟨J, V, W, e, rfl, rfl, lr, a5, bo, (aH.le an)⟩ (.refl _)
   exact Rn
   rintro aJ _ _ ⟨a7, aK, aL, af, rfl, rfl, bp, bq, cW, cX⟩
   have hm := (unc3E cw)
   refine Cg<|Ts rfl (sL 1 rfl one27 rfl rfl)<|M rfl rfl<|M rfl rfl ?_
   obtain ⟨dA, cY, hm⟩ := bS hm
   obtain ⟨cZ, br, bs⟩ := iS cY
   obtain ⟨dB, dC, dD, dE, dF, c0, dG, c1, c2, dH, dI⟩ := OS.get (sz := 1) rfl (by decide) bq bs
   obtain ⟨⟨dJ, dK, rfl, dL⟩, rfl⟩ := c0
   refine Ts rfl (sI cZ rfl rfl br c2 c1 sl27)<|Do rfl (uP br (sz := 1) (a' := X) rfl [_, _, _, _, _, _] (af ++ R) 0 1 [sv av X aw] rfl bq bs rfl rfl rfl siz33 rfl (mc rfl mn) (fun cs hsj hh => by obtain ⟨⟨dM, dN, rfl, dO⟩, rfl⟩ := hh; exact ⟨by first | decide | exact Nat.le_refl _, (RT.list_mk (aV.le (an.trans bp))), rfl⟩)) ?_
   rintro _ _ ⟨bc, rfl, c3⟩
   refine Tr 39 rfl (v' := .slice c (put ae (G : Int) X).length d) (by simp only [put_length])<|t_hresp 1 rfl (o' := Cl 27 [.slice c (put ae (G : Int) X).length d]) (by simp only [put_length])<|Tn<|Xm<|Xn<|Cg<|Ts rfl (sa rfl rfl (by omega))<|M rfl rfl<|Tn<|Xp 5 rfl ?_
   refine Xp 5 rfl<|Xp 5 rfl<|Xp 5 rfl<|Xp 5 rfl<|Xp 5 rfl<|X2 [_, _, _, _, _, _] bc af R rfl<|X2 [_, _, _, _, _, _] af bc R rfl ?_
   obtain rfl := o1 hm
   exact xS ⟨bc, aK, aL, af, rfl, rfl, ((au.trans (an.trans bp))), c3, ((put_length _ _ _).trans cW), cX⟩ (.refl _)
   rintro aj _ _ ⟨F, V, W, e, rfl, rfl, au, aa, aG, aH⟩
   have hm := (unc3E bY)
   refine Cr<|Ts rfl (lF rfl rfl (by omega))<|Te<|Cs<|c_cond_f rfl<|Ce<|Xe<|Xe<|Xo ?_
   obtain ⟨rfl, rfl, rfl⟩ := some3 hm
   refine Xp 3 rfl<|Xp 3 rfl<|Xp 5 rfl<|Xp 5 rfl<|Xp 5 rfl<|Xp 5 rfl<|X2 [_, _, _, _, _, _] F e R rfl<|X2 [_, _, _, _, _, _] e F R rfl ?_
   exact endM au rfl (.refl _) ⟨F, V, W, e, rfl, rfl, aa, aG, aH⟩

set_option maxRecDepth 20000 in
theorem cFleetRoster_1 : ∀ (N : Nat) (b : Base) (R : Hp) (a : Int) (t : (List FleetShift)) (ag : Int) (y : Int) (z : Int) (A : Int) (B : Int) (C : Int) (D : Int) (E : Int) (q : (List (List Int))) (K : (List (List Int))) (j : Nat) (f : Nat) (n : Nat) (o : Nat) (k : Nat) (m : Nat) (u : OA) (x : Nat) (c : OA) (d : Nat) (g : Hp) (L : OA) (S : Nat) (p : Hp) (ao : FZ rFleetShift b.w u x t) (T : OS 33 (OT.fr (RT.list rI)) b.w (sv c q d) q g) (aA : OS 33 (OT.fr (RT.list rI)) b.w (sv L K S) K p) (be : (L = none ↔ K = [])) (aB : Int) (Y : (List (List Int))) (ah : (List (List Int))) (hm : mFleetRoster_1 N a t ag y z A B C D E q K = some (aB, Y, ah)),
    CallsG Try.prog 18 [iv a, pb j, pb f, pb n, pb o, pb k, pb m] b ((j, Cl 22 [sv u t x]) :: (f, Cl 27 [sv c q d]) :: (n, Cl 3 [iv ag]) :: (o, Cl 27 [sv L K S]) :: (k, Cl 24 [iv y, iv z, iv A, iv B, iv C, iv D, iv E]) :: (m, Cl 54 [.func (.func 18) #[] #[pb j, pb f, pb n, pb o, pb k, pb m]]) :: (g ++ (p ++ R))) (fun v b' hp' => ∃ (bf : Hp), ∃ (bg : OA), ∃ (bh : Nat), ∃ (bi : Hp), .tuple #[] = v ∧ (j, Cl 22 [sv u t x]) :: (f, Cl 27 [sv c Y d]) :: (n, Cl 3 [iv aB]) :: (o, Cl 27 [sv bg ah bh]) :: (k, Cl 24 [iv y, iv z, iv A, iv B, iv C, iv D, iv E]) :: (m, Cl 54 [.func (.func 18) #[] #[pb j, pb f, pb n, pb o, pb k, pb m]]) :: (bf ++ (bi ++ R)) = hp' ∧ OS 33 (OT.fr (RT.list rI)) b'.w (sv c Y d) Y bf ∧ Y.length = q.length ∧ OS 33 (OT.fr (RT.list rI)) b'.w (sv bg ah bh) ah bi) := by
  intro N
  induction N with
  | zero =>
    intro b R a t ag y z A B C D E q K j f n o k m u x c d g L S p ao T aA be aB Y ah hm
    unfold mFleetRoster_1 at hm
    cases hm
  | succ N ih =>
   intro b R a t ag y z A B C D E q K j f n o k m u x c d g L S p ao T aA be aB Y ah hm
   refine fE 70 Try.func18 rfl Try.ntmps18 rfl ?_
   unfold mFleetRoster_1 at hm
   dsimp only at hm
   refine Cs<|Cr<|M rfl rfl<|Ts rfl (sL 0 rfl one22 rfl rfl)<|Ts rfl (sE rfl sl22)<|Ts rfl (q1 rfl rfl)<|Te ?_
   refine Cc _ rfl (fun aO => ?_) (fun aO => ?_)
   rw [if_pos (of_decide_eq_true aO)] at hm
   refine Cr<|As rfl rfl<|Te<|Cs<|Cr<|Ts rfl (sL 1 rfl one27 rfl rfl)<|Ts rfl (sE rfl sl27)<|M rfl rfl<|Te<|Cb ?_
   have c7 : q.length ≤ 9223372036854775807 := (OS.len T)
   refine Cp 5 rfl<|Cp 5 rfl<|Cp 5 rfl<|Cp 5 rfl<|Cp 5 rfl<|Cp 5 rfl<|c_front2 [_, _, _, _, _, _] g p R rfl<|c_front2 [_, _, _, _, _, _] p g R rfl ?_
   obtain ⟨aC, bw, bx⟩ := bS hm
   refine cS (fun bj => fun aC => fun aq e' hp' => [(1, pb j), (2, pb f), (3, pb n), (4, pb o), (8, iv aC), (17, sv c q d), (18, iv ((q.length : Int))), (19, iv ((bj : Int)))] = e' ∧ (j, Cl 22 [sv u t x]) :: (f, Cl 27 [sv c q d]) :: (n, Cl 3 [iv ag]) :: (o, Cl 27 [sv L K S]) :: (k, Cl 24 [iv y, iv z, iv A, iv B, iv C, iv D, iv E]) :: (m, Cl 54 [.func (.func 18) #[] #[pb j, pb f, pb n, pb o, pb k, pb m]]) :: (g ++ (p ++ R)) = hp' ∧ b.Le aq) bw ⟨rfl, rfl, lr⟩ (.refl _) ?_ ?_
   rintro bj aC aq _ _ c8 da ⟨rfl, rfl, U⟩ bk
   unfold mFleetRoster_1_L2318 at bk
   have hm := bk
   refine Cr<|Ts rfl (lT rfl rfl (by omega))<|Te<|Cs<|c_cond_t rfl<|Ck<|Xn<|Cs<|Cb<|Cr ?_
   obtain ⟨bz, bA, hm⟩ := bS hm
   obtain ⟨bB, bC, bD⟩ := iS bA
   obtain ⟨db, dc, dd, de, df, bE, bF, bG, bH, dg, dh⟩ := OS.get (sz := 1) rfl (by decide) (T.le U) bD
   obtain ⟨⟨bI, bJ, rfl, bK⟩, rfl⟩ := bE
   refine Ts rfl (sI bB rfl rfl bC bH bG sl27)<|Ts rfl (st_load_rd rfl one33 (fun w ho => bF w _ ho (.cons _ (.cons _ (.cons _ (.cons _ (.cons _ (.cons _ (List.sublist_append_left _ _))))))) 0 _ rfl))<|As rfl rfl<|Te<|Cg<|M rfl rfl<|Ts rfl (sL 0 rfl one22 rfl rfl)<|M rfl rfl ?_
   obtain ⟨bL, bM, hm⟩ := bS hm
   refine Do rfl (uW _ call19 rfl (fun w ho => cFleetLoad _ [] t bz u x bI bJ ((ao.le U).old ho) (bK.old ho) bL bM) (fun _ _ _ h => h.2.symm)) ?_
   rintro _ _ ⟨⟨_, rfl, _⟩, rfl⟩
   refine Ts rfl (st_max rfl rfl)<|As rfl rfl<|Tn<|Xm<|Xn<|Cg<|Ts rfl (sa rfl rfl (by omega))<|M rfl rfl<|Tn<|Xp 5 rfl ?_
   refine Xp 5 rfl<|Xp 5 rfl<|Xp 5 rfl<|Xp 5 rfl<|Xp 5 rfl<|X2 [_, _, _, _, _, _] g p R rfl<|X2 [_, _, _, _, _, _] p g R rfl ?_
   obtain rfl := o1 hm
   exact xS ⟨rfl, rfl, (U)⟩ (.refl _)
   rintro aq _ _ ⟨rfl, rfl, U⟩
   have hm := bx
   refine Cr<|Ts rfl (lF rfl rfl (by omega))<|Te<|Cs<|c_cond_f rfl<|Ce<|Xe<|Xe<|Xo<|Xn ?_
   obtain ⟨⟨bN, aP⟩, bO, bP⟩ := bS hm
   refine Cj (fun aQ e' hp' => ∃ (aD : OA), ∃ (aE : Nat), ∃ (ai : Hp), [] = e' ∧ (j, Cl 22 [sv u t x]) :: (f, Cl 27 [sv c q d]) :: (n, Cl 3 [iv bN]) :: (o, Cl 27 [sv aD aP aE]) :: (k, Cl 24 [iv y, iv z, iv A, iv B, iv C, iv D, iv E]) :: (m, Cl 54 [.func (.func 18) #[] #[pb j, pb f, pb n, pb o, pb k, pb m]]) :: (g ++ (ai ++ R)) = hp' ∧ aq.Le aQ ∧ OS 33 (OT.fr (RT.list rI)) aQ.w (sv aD aP aE) aP ai) ?_ ?_
   have hm := bO
   obtain ⟨bQ, bR, bT⟩ := bS hm
   refine Cj (fun bl e' hp' => [(2, pb f), (3, pb n), (4, pb o), (8, iv aC), (35, bv bQ)] = e' ∧ (f, Cl 27 [sv c q d]) :: (n, Cl 3 [iv ag]) :: (o, Cl 27 [sv L K S]) :: (j, Cl 22 [sv u t x]) :: (k, Cl 24 [iv y, iv z, iv A, iv B, iv C, iv D, iv E]) :: (m, Cl 54 [.func (.func 18) #[] #[pb j, pb f, pb n, pb o, pb k, pb m]]) :: (g ++ (p ++ R)) = hp' ∧ aq.Le bl) ?_ ?_
   have hm := bR
   refine Cg<|Ts rfl (sL 2 rfl one3 rfl rfl) ?_
   refine Tb rfl (q3 rfl rfl) (fun aR => ?_) (fun aR => ?_)
   rw [if_pos aR] at hm
   refine M rfl rfl<|No 31 rfl rfl rfl rfl rfl<|No 31 rfl rfl rfl rfl rfl<|No 31 rfl rfl rfl rfl rfl<|Ts rfl (pT rfl rfl)<|Tn ?_
   obtain rfl := o1 hm
   refine Xp 5 rfl<|Xp 5 rfl<|Xp 2 rfl<|Xp 5 rfl<|Xp 5 rfl<|Xp 5 rfl<|X2 [_, _, _, _, _, _] g p R rfl<|X2 [_, _, _, _, _, _] p g R rfl ?_
   exact xJ ⟨rfl, rfl, lr⟩ (.refl _)
   rw [if_neg aR] at hm
   refine M rfl rfl<|Ys 31 rfl rfl rfl<|M rfl rfl<|Ys 31 rfl rfl rfl<|Ts rfl (sL 2 rfl one3 rfl rfl)<|Ys 31 rfl rfl rfl<|Ts rfl (q3 rfl rfl)<|Ts rfl (pF rfl rfl)<|Tn ?_
   obtain rfl := o1 hm
   refine Xp 5 rfl<|Xp 5 rfl<|Xp 2 rfl<|Xp 5 rfl<|Xp 5 rfl<|Xp 5 rfl<|X2 [_, _, _, _, _, _] g p R rfl<|X2 [_, _, _, _, _, _] p g R rfl ?_
   exact xJ ⟨rfl, rfl, lr⟩ (.refl _)
   rintro bl _ _ ⟨rfl, rfl, aF⟩
   have hm := bT
   refine Cc _ rfl (fun aS => ?_) (fun aS => ?_)
   rw [if_pos aS] at hm
   refine Cg<|Ts rfl (sL 0 rfl one27 rfl rfl) ?_
   obtain ⟨_, aT, hm⟩ := bS hm
   have aT := room_some aT
   refine Do rfl (u_cloneOwn (r := (RT.list rI)) (l := q) (sz := 1) (by_ := 24) [_, _, _, _, _, _] (g ++ (p ++ R)) rfl clSlicesClone call20 rfl rfl (T.le (U.trans aF)) (.cons _ (.cons _ (.cons _ (.cons _ (.cons _ (.cons _ (List.sublist_append_left _ _))))))) aT) ?_
   rintro _ _ ⟨bU, bV, aU, rfl, rfl, bW⟩
   refine M rfl rfl<|Do rfl (uS 2 rfl rfl siz27 rfl rfl (by simp)) ?_
   rintro _ _ rfl
   refine Do rfl (uS 1 rfl rfl siz3 rfl rfl (by simp)) ?_
   rintro _ _ rfl
   refine Tn ?_
   obtain ⟨rfl, rfl⟩ := some2 hm
   refine Xp 5 rfl<|Xp 5 rfl<|Xp 4 rfl<|Xp 4 rfl<|Xp 4 rfl<|Xp 5 rfl<|X2 [_, _, _, _, _, _] aU g (p ++ R) rfl ?_
   exact xJ ⟨bU, bV, aU, rfl, rfl, aF, bW⟩ (.cons_cons _ (.cons_cons _ (.cons_cons _ (.cons_cons _ (.cons_cons _ (.cons_cons _ (sp g (sp aU (ss p (.refl _))))))))))
   rw [if_neg (fun hh => Bool.noConfusion (hh.symm.trans aS))] at hm
   refine Ck ?_
   obtain ⟨rfl, rfl⟩ := some2 hm
   refine Xp 5 rfl<|Xp 5 rfl<|Xp 4 rfl<|Xp 4 rfl<|Xp 4 rfl<|Xp 5 rfl<|X2 [_, _, _, _, _, _] g p R rfl<|X2 [_, _, _, _, _, _] p g R rfl ?_
   exact xJ ⟨L, S, p, rfl, rfl, aF, (aA.le (U.trans aF))⟩ (.refl _)
   rintro aQ _ _ ⟨aD, aE, ai, rfl, rfl, bm, bX⟩
   have hm := (unc2E bP)
   refine Ct<|Xr ?_
   obtain ⟨rfl, rfl, rfl⟩ := some3 hm
   refine Xp 5 rfl<|Xp 5 rfl<|Xp 5 rfl<|Xp 5 rfl<|Xp 5 rfl<|Xp 5 rfl<|X2 [_, _, _, _, _, _] g ai R rfl<|X2 [_, _, _, _, _, _] ai g R rfl ?_
   have bY := (T.le (U.trans bm))
   exact rM (rs := []) (vs := []) trivial ⟨g, aD, aE, ai, rfl, rfl, bY, rfl, bX⟩ (.refl _) (U.trans bm)
   rw [if_neg (of_decide_eq_false aO)] at hm
   refine Ck<|Xn<|Cr<|Ts rfl (sL 1 rfl one27 rfl rfl)<|Ts rfl (sE rfl sl27)<|M rfl rfl<|Te<|Cb ?_
   have di : q.length ≤ 9223372036854775807 := (OS.len T)
   refine Cp 3 rfl<|Cp 3 rfl<|Cp 5 rfl<|Cp 5 rfl<|Cp 5 rfl<|Cp 5 rfl<|c_front2 [_, _, _, _, _, _] g p R rfl<|c_front2 [_, _, _, _, _, _] p g R rfl ?_
   obtain ⟨⟨ar, I, Z⟩, bZ, b0⟩ := bS hm
   refine cS (fun G => unc3 fun ar I Z => fun aj e' hp' => ∃ (F : Hp), ∃ (V : OA), ∃ (W : Nat), ∃ (e : Hp), [(0, iv a), (1, pb j), (2, pb f), (5, pb k), (6, pb m), (39, sv c I d), (40, iv ((q.length : Int))), (41, iv ((G : Int)))] = e' ∧ (j, Cl 22 [sv u t x]) :: (f, Cl 27 [sv c I d]) :: (k, Cl 24 [iv y, iv z, iv A, iv B, iv C, iv D, iv E]) :: (m, Cl 54 [.func (.func 18) #[] #[pb j, pb f, pb n, pb o, pb k, pb m]]) :: (n, Cl 3 [iv ar]) :: (o, Cl 27 [sv V Z W]) :: (F ++ (e ++ R)) = hp' ∧ b.Le aj ∧ OS 33 (OT.fr (RT.list rI)) aj.w (sv c I d) I F ∧ I.length = q.length ∧ OS 33 (OT.fr (RT.list rI)) aj.w (sv V Z W) Z e) bZ ⟨g, L, S, p, rfl, rfl, lr, T, rfl, aA⟩ (.refl _) ?_ ?_
   rintro G ⟨ar, I, Z⟩ aj _ _ dj dk ⟨F, V, W, e, rfl, rfl, au, aa, aG, aH⟩ bn
   unfold mFleetRoster_1_L2425 at bn
   have hm := (unc3E bn)
   refine Cr<|Ts rfl (lT rfl rfl (by omega))<|Te<|Cs<|c_cond_t rfl<|Ck<|Xn<|Cs<|Cb<|Cr ?_
   refine M rfl rfl ?_
   obtain ⟨X, b1, hm⟩ := bS hm
   obtain ⟨b2, b3, b4⟩ := iS b1
   obtain ⟨dl, dm, dn, dp, dq, b5, b6, b7, b8, dr, ds⟩ := OS.get (sz := 1) rfl (by decide) aa b4
   obtain ⟨⟨av, aw, rfl, aV⟩, rfl⟩ := b5
   refine Ts rfl (sI b2 rfl rfl b3 b8 b7 sl27)<|Ts rfl (st_load_rd rfl one33 (fun w ho => b6 w _ ho (.cons _ (.cons _ (.cons _ (.cons _ (.cons _ (.cons _ (List.sublist_append_left _ _))))))) 0 _ rfl))<|As rfl rfl<|As rfl rfl<|Te ?_
   obtain ⟨ak, b9, ca⟩ := bS hm
   refine Cj (fun aI e' hp' => ∃ (J : Hp), [(0, iv a), (1, pb j), (2, pb f), (5, pb k), (6, pb m), (11, iv ((G : Int))), (12, sv av X aw), (39, sv c ak d), (40, iv ((q.length : Int))), (41, iv ((G : Int)))] = e' ∧ (j, Cl 22 [sv u t x]) :: (f, Cl 27 [sv c ak d]) :: (k, Cl 24 [iv y, iv z, iv A, iv B, iv C, iv D, iv E]) :: (m, Cl 54 [.func (.func 18) #[] #[pb j, pb f, pb n, pb o, pb k, pb m]]) :: (n, Cl 3 [iv ar]) :: (o, Cl 27 [sv V Z W]) :: (J ++ (e ++ R)) = hp' ∧ aj.Le aI ∧ OS 33 (OT.fr (RT.list rI)) aI.w (sv c ak d) ak J ∧ ak.length = q.length) ?_ ?_
   have hm := b9
   obtain ⟨s, bo, hm⟩ := bS hm
   obtain ⟨_, al, hm⟩ := bS hm
   obtain ⟨dt, bp, hm⟩ := bS hm
   refine Di mixed (.refl _)<|Es 0 rfl (sL 1 rfl one27 rfl rfl)<|E0 1 rfl (sM rfl)<|E0 2 rfl (sM rfl)<|E0 4 rfl (sM rfl)<|Eo<|Da [3, 5] (by kernel_rfl) rfl ?_
   refine Rg lr rfl rfl _ call21 rfl (cSlicesClone_2 _ _ X av aw aV s bo) ?_ ?_
   rintro _ cb _ H ⟨cc, cd, am, rfl, rfl, aW⟩
   refine ⟨.inr (ss am (.refl _)), ?_⟩
   refine d_in1 [] [_, _, _, _, _, _] am (F ++ (e ++ R)) rfl<|Da [5] (by kernel_rfl) rfl ?_
   refine Rd2 H rfl rfl (u_bslice (el := 3) [(0, iv a)] [iv a] rfl (fun _ => by kernel_rfl)) ?_ ?_
   rintro _ _ ⟨ce, rfl, rfl⟩
   refine ⟨.inr (.cons _ (.cons_cons _ (.cons_cons _ (.cons_cons _ (.cons_cons _ (.cons_cons _ (.cons_cons _ (ss am (.refl _))))))))), ?_⟩
   have al := room_some al
   refine Da [6] (by kernel_rfl) rfl ?_
   refine Rd2 H rfl rfl (uQ (r := rI) (l := s) [_, _, _, _, _, _, _] (F ++ (e ++ R)) [[iv a]] [a] rfl (by decide) sl33 inf3 rfl rfl rfl rfl aW rfl (fun w ho => Rd.own (i := 0) ho rfl) ⟨rfl, trivial⟩ al) ?_ ?_
   rintro _ _ ⟨ab, rfl, ac⟩
   obtain ⟨ax, aX, rfl, _⟩ := ac.form
   refine ⟨.inr (.cons _ (.cons_cons _ (.cons_cons _ (.cons_cons _ (.cons_cons _ (.cons_cons _ (.cons_cons _ (ss ab (.refl _))))))))), ?_⟩
   obtain ⟨aY, ay, az⟩ := iS bp
   obtain ⟨cf, cg, ch, ci, cj, aZ, ck, a0, a1, cl, cm⟩ := OS.get (sz := 1) rfl (by decide) aa az
   obtain ⟨⟨cn, co, rfl, cp⟩, rfl⟩ := aZ
   refine Ei H (.cons _ (.cons_cons _ (.cons_cons _ (.cons_cons _ (.cons_cons _ (.cons_cons _ (.cons_cons _ (ss ab (.refl _)))))))))<|E0 7 rfl (sI aY rfl rfl ay a1 a0 sl27)<|Eo ?_
   have cq : (ax = none ↔ s ++ [a] = []) := (OS.nz ac (by simp))
   refine d_frz [_, _, _, _, _, _, _] ab (F ++ (e ++ R)) rfl ?_
   intro cr O a2
   have a3 := OS.frz (l := s ++ [a]) ac O.cells a2
   refine Da [8] (by kernel_rfl) rfl ?_
   refine Rd2 (H.trans O) rfl rfl (uP ay (sz := 1) (a' := s ++ [a]) rfl [_, _, _, _, _, _, _] (e ++ R) 0 1 [.slice ax (s ++ [a]).length aX] rfl (aa.le (H.trans O)) az rfl rfl rfl siz33 rfl (mc rfl mn) (fun cs hsj hh => by obtain ⟨⟨ct, cu, rfl, cv⟩, rfl⟩ := hh; exact ⟨by first | decide | exact Nat.le_refl _, (RT.list_mk a3), rfl⟩)) ?_ ?_
   rintro _ _ ⟨ad, rfl, a4⟩
   refine ⟨.inl (by kernel_rfl), ?_⟩
   refine d_resp 39 rfl (v' := .slice c (put I (G : Int) (s ++ [a])).length d) (by simp only [put_length])<|d_hresp 2 rfl (o' := Cl 27 [.slice c (put I (G : Int) (s ++ [a])).length d]) (by simp only [put_length])<|Dd (by kernel_rfl) ?_
   obtain rfl := o1 hm
   refine Xp 6 rfl<|Xp 6 rfl<|Xp 6 rfl<|Xp 6 rfl<|Xp 6 rfl<|Xp 6 rfl<|X2 [_, _, _, _, _, _, _] ad e R rfl<|X2 [_, _, _, _, _, _, _] e ad R rfl ?_
   exact xJ ⟨ad, rfl, rfl, (H.trans O), a4, ((put_length _ _ _).trans aG)⟩ (.cons_cons _ (.cons_cons _ (.cons_cons _ (.cons_cons _ (.cons_cons _ (.cons_cons _ (.cons _ (.refl _))))))))
   exact Rn
   exact Rn
   exact Rn
   refine Rd2 lr rfl rfl (u_bslice (el := 3) [(0, iv a)] [iv a] rfl (fun _ => by kernel_rfl)) ?_ ?_
   rintro _ _ ⟨ce, rfl, rfl⟩
   refine ⟨.inr (.cons _ (.refl _)), ?_⟩
   refine Da [3] (by kernel_rfl) rfl ?_
   refine Rg lr rfl rfl _ call21 rfl (cSlicesClone_2 _ _ X av aw aV s bo) ?_ ?_
   rintro _ cb _ H ⟨cc, cd, am, rfl, rfl, aW⟩
   refine ⟨.inr (ss am (.cons _ (.refl _))), ?_⟩
   refine d_in1 [] [_, _, _, _, _, _, _] am (F ++ (e ++ R)) rfl ?_
   have al := room_some al
   refine Da [6] (by kernel_rfl) rfl ?_
   refine Rd2 H rfl rfl (uQ (r := rI) (l := s) [_, _, _, _, _, _, _] (F ++ (e ++ R)) [[iv a]] [a] rfl (by decide) sl33 inf3 rfl rfl rfl rfl aW rfl (fun w ho => Rd.own (i := 0) ho rfl) ⟨rfl, trivial⟩ al) ?_ ?_
   rintro _ _ ⟨ab, rfl, ac⟩
   obtain ⟨ax, aX, rfl, _⟩ := ac.form
   refine ⟨.inr (.cons _ (.cons_cons _ (.cons_cons _ (.cons_cons _ (.cons_cons _ (.cons_cons _ (.cons_cons _ (ss ab (.refl _))))))))), ?_⟩
   obtain ⟨aY, ay, az⟩ := iS bp
   obtain ⟨cf, cg, ch, ci, cj, aZ, ck, a0, a1, cl, cm⟩ := OS.get (sz := 1) rfl (by decide) aa az
   obtain ⟨⟨cn, co, rfl, cp⟩, rfl⟩ := aZ
   refine Ei H (.cons _ (.cons_cons _ (.cons_cons _ (.cons_cons _ (.cons_cons _ (.cons_cons _ (.cons_cons _ (ss ab (.refl _)))))))))<|E0 7 rfl (sI aY rfl rfl ay a1 a0 sl27)<|Eo ?_
   have cq : (ax = none ↔ s ++ [a] = []) := (OS.nz ac (by simp))
   refine d_frz [_, _, _, _, _, _, _] ab (F ++ (e ++ R)) rfl ?_
   intro cr O a2
   have a3 := OS.frz (l := s ++ [a]) ac O.cells a2
   refine Da [8] (by kernel_rfl) rfl ?_
   refine Rd2 (H.trans O) rfl rfl (uP ay (sz := 1) (a' := s ++ [a]) rfl [_, _, _, _, _, _, _] (e ++ R) 0 1 [.slice ax (s ++ [a]).length aX] rfl (aa.le (H.trans O)) az rfl rfl rfl siz33 rfl (mc rfl mn) (fun cs hsj hh => by obtain ⟨⟨ct, cu, rfl, cv⟩, rfl⟩ := hh; exact ⟨by first | decide | exact Nat.le_refl _, (RT.list_mk a3), rfl⟩)) ?_ ?_
   rintro _ _ ⟨ad, rfl, a4⟩
   refine ⟨.inl (by kernel_rfl), ?_⟩
   refine d_resp 39 rfl (v' := .slice c (put I (G : Int) (s ++ [a])).length d) (by simp only [put_length])<|d_hresp 2 rfl (o' := Cl 27 [.slice c (put I (G : Int) (s ++ [a])).length d]) (by simp only [put_length])<|Dd (by kernel_rfl) ?_
   obtain rfl := o1 hm
   refine Xp 6 rfl<|Xp 6 rfl<|Xp 6 rfl<|Xp 6 rfl<|Xp 6 rfl<|Xp 6 rfl<|X2 [_, _, _, _, _, _, _] ad e R rfl<|X2 [_, _, _, _, _, _, _] e ad R rfl ?_
   exact xJ ⟨ad, rfl, rfl, (H.trans O), a4, ((put_length _ _ _).trans aG)⟩ (.cons_cons _ (.cons_cons _ (.cons_cons _ (.cons_cons _ (.cons_cons _ (.cons_cons _ (.cons _ (.refl _))))))))
   exact Rn
   exact Rn
   exact Rn
   exact Rn
   rintro aI _ _ ⟨J, rfl, rfl, an, a5, bq⟩
   have hm := ca
   obtain ⟨⟨cw, ae, a6⟩, cx, cy⟩ := bS hm
   refine Cj (fun aJ e' hp' => ∃ (a7 : Hp), ∃ (aK : OA), ∃ (aL : Nat), ∃ (af : Hp), [(0, iv a), (1, pb j), (2, pb f), (5, pb k), (6, pb m), (11, iv ((G : Int))), (12, sv av X aw), (39, sv c ae d), (40, iv ((q.length : Int))), (41, iv ((G : Int)))] = e' ∧ (j, Cl 22 [sv u t x]) :: (f, Cl 27 [sv c ae d]) :: (k, Cl 24 [iv y, iv z, iv A, iv B, iv C, iv D, iv E]) :: (m, Cl 54 [.func (.func 18) #[] #[pb j, pb f, pb n, pb o, pb k, pb m]]) :: (n, Cl 3 [iv cw]) :: (o, Cl 27 [sv aK a6 aL]) :: (a7 ++ (af ++ R)) = hp' ∧ aI.Le aJ ∧ OS 33 (OT.fr (RT.list rI)) aJ.w (sv c ae d) ae a7 ∧ ae.length = q.length ∧ OS 33 (OT.fr (RT.list rI)) aJ.w (sv aK a6 aL) a6 af) ?_ ?_
   have hm := cx
   refine Cs ?_
   obtain ⟨cz, cA, hm⟩ := bS hm
   obtain ⟨cB, cC, hm⟩ := bS hm
   refine Di mixed (.refl _)<|Es 0 rfl (sL 0 rfl one22 rfl rfl)<|Es 1 rfl (sL 1 rfl one27 rfl rfl)<|E0 2 rfl (sM rfl) ?_
   obtain ⟨cD, cE, cG⟩ := iS cA
   obtain ⟨du, dv, dw, dx, dy, cH, cI, cJ, cK, dz, dA⟩ := OS.get (sz := 1) rfl (by decide) a5 cG
   obtain ⟨⟨cM, cN, rfl, cO⟩, rfl⟩ := cH
   refine E0 3 rfl (sI cD rfl rfl cE cK cJ sl27)<|Es 4 rfl (st_load_rd rfl one33 (fun w ho => cI w _ ho (.cons _ (.cons _ (.cons _ (.cons _ (.cons _ (.cons _ (List.sublist_append_left _ _))))))) 0 _ rfl))<|Es 5 rfl (sD (vs := [_, _, _, _, _, _, _]) 2 7 rfl agg24 rfl rfl rfl)<|Eo<|Da [6] (by kernel_rfl) rfl ?_
   refine Rd2 lr rfl rfl (uW _ call22 rfl (fun w ho => cFleetFits _ [] t cz (⟨y, z, A, B, C, D, E⟩ : FleetLimits) u x cM cN ((ao.le (au.trans an)).old ho) (cO.old ho) cB cC) (fun _ _ _ h => h.2.symm)) ?_ ?_
   rintro _ _ ⟨⟨_, rfl, _⟩, rfl⟩
   refine ⟨.inr (.refl _), ?_⟩
   refine Dd (by kernel_rfl)<|Xn ?_
   refine Cc _ rfl (fun a8 => ?_) (fun a8 => ?_)
   rw [if_pos a8] at hm
   refine Cg<|Ts rfl (sL 3 rfl one54 rfl rfl)<|M rfl rfl ?_
   obtain ⟨_, a9, hm⟩ := bS hm
   have a9 := (kS a9).2
   refine Ts rfl (sa rfl rfl a9) ?_
   obtain ⟨⟨cP, ba, cQ⟩, bb, hm⟩ := bS hm
   obtain ⟨cR, bb⟩ := lim_some bb
   have hm := (unc3E hm)
   refine t_pullb 3 rfl<|t_pullb 3 rfl<|t_pullb 5 rfl<|t_pullb 5 rfl<|t_pullb 5 rfl<|t_pullb 5 rfl<|t_front2 [_, _, _, _, _, _] J e R rfl<|t_front2 [_, _, _, _, _, _] e J R rfl<|t_out2 [_, _, _, _, _, _] [] J e R rfl<|Tv #[] #[pb j, pb f, pb n, pb o, pb k, pb m] [iv (a + 1)] rfl rfl call18 rfl (cFleetRoster_1_2 cR _ _ (a + 1) t ar y z A B C D E ak Z j f n o k m u x c d J V W e (ao.le (au.trans an)) a5 (aH.le an) cP ba cQ bb) ?_
   rintro _ dB _ cT ⟨aM, cU, cV, aN, rfl, rfl, cW, bc, cX⟩
   refine t_in2 [_, _, _, _, _, _] [] aM aN R rfl<|Tr 39 rfl (v' := sv c ba d) (by show Value.slice _ _ _ = Value.slice _ _ _; rw [bc])<|t_hresp 1 rfl (o' := Cl 27 [sv c ba d]) (by simp only [sv, bc])<|Tn ?_
   obtain ⟨rfl, rfl, rfl⟩ := some3 hm
   refine Xp 3 rfl<|Xp 3 rfl<|Xp 5 rfl<|Xp 5 rfl<|Xp 5 rfl<|Xp 5 rfl<|X2 [_, _, _, _, _, _] aM aN R rfl<|X2 [_, _, _, _, _, _] aN aM R rfl ?_
   exact xJ ⟨aM, cU, cV, aN, rfl, rfl, cT, cW, (bc.trans bq), cX⟩ (.refl _)
   rw [if_neg (fun hh => Bool.noConfusion (hh.symm.trans a8))] at hm
   refine Ck ?_
   obtain ⟨rfl, rfl, rfl⟩ := some3 hm
   refine Xp 5 rfl<|Xp 5 rfl<|Xp 5 rfl<|Xp 5 rfl<|Xp 5 rfl<|Xp 5 rfl<|X2 [_, _, _, _, _, _] J e R rfl<|X2 [_, _, _, _, _, _] e J R rfl ?_
   exact xJ ⟨J, V, W, e, rfl, rfl, lr, a5, bq, (aH.le an)⟩ (.refl _)
   exact Rn
   rintro aJ _ _ ⟨a7, aK, aL, af, rfl, rfl, br, bs, cY, cZ⟩
   have hm := (unc3E cy)
   refine Cg<|Ts rfl (sL 1 rfl one27 rfl rfl)<|M rfl rfl<|M rfl rfl ?_
   obtain ⟨dC, c0, hm⟩ := bS hm
   obtain ⟨c1, bt, bu⟩ := iS c0
   obtain ⟨dD, dE, dF, dG, dH, c2, dI, c3, c5, dJ, dK⟩ := OS.get (sz := 1) rfl (by decide) bs bu
   obtain ⟨⟨dL, dM, rfl, dN⟩, rfl⟩ := c2
   refine Ts rfl (sI c1 rfl rfl bt c5 c3 sl27)<|Do rfl (uP bt (sz := 1) (a' := X) rfl [_, _, _, _, _, _] (af ++ R) 0 1 [sv av X aw] rfl bs bu rfl rfl rfl siz33 rfl (mc rfl mn) (fun cs hsj hh => by obtain ⟨⟨dO, dP, rfl, dQ⟩, rfl⟩ := hh; exact ⟨by first | decide | exact Nat.le_refl _, (RT.list_mk (aV.le (an.trans br))), rfl⟩)) ?_
   rintro _ _ ⟨bd, rfl, c6⟩
   refine Tr 39 rfl (v' := .slice c (put ae (G : Int) X).length d) (by simp only [put_length])<|t_hresp 1 rfl (o' := Cl 27 [.slice c (put ae (G : Int) X).length d]) (by simp only [put_length])<|Tn<|Xm<|Xn<|Cg<|Ts rfl (sa rfl rfl (by omega))<|M rfl rfl<|Tn<|Xp 5 rfl ?_
   refine Xp 5 rfl<|Xp 5 rfl<|Xp 5 rfl<|Xp 5 rfl<|Xp 5 rfl<|X2 [_, _, _, _, _, _] bd af R rfl<|X2 [_, _, _, _, _, _] af bd R rfl ?_
   obtain rfl := o1 hm
   exact xS ⟨bd, aK, aL, af, rfl, rfl, ((au.trans (an.trans br))), c6, ((put_length _ _ _).trans cY), cZ⟩ (.refl _)
   rintro aj _ _ ⟨F, V, W, e, rfl, rfl, au, aa, aG, aH⟩
   have hm := (unc3E b0)
   refine Cr<|Ts rfl (lF rfl rfl (by omega))<|Te<|Cs<|c_cond_f rfl<|Ce<|Xe<|Xe<|Xo ?_
   obtain ⟨rfl, rfl, rfl⟩ := some3 hm
   refine Xp 3 rfl<|Xp 3 rfl<|Xp 5 rfl<|Xp 5 rfl<|Xp 5 rfl<|Xp 5 rfl<|X2 [_, _, _, _, _, _] F e R rfl<|X2 [_, _, _, _, _, _] e F R rfl ?_
   exact endM au rfl (.refl _) ⟨F, V, W, e, rfl, rfl, aa, aG, aH⟩

set_option maxRecDepth 20000 in
theorem cFleetRoster (b : Base) (R : Hp) (c : (List FleetShift)) (k : Int) (a : FleetLimits) (f : OA) (g : Nat) (q : FZ rFleetShift b.w f g c) (s : Int) (i : (List (List Int))) (hm : mFleetRoster c k a = some (s, i)) :
    CallsG Try.prog 6 [sv f c g, iv k, .agg #[iv a.Change, iv a.Long, iv a.Work, iv a.After, iv a.Break, iv a.Rest, iv a.Row]] b (R) (fun v b' hp' => ∃ (t : OA), ∃ (u : Nat), ∃ (x : Hp), .tuple #[sv t i u, iv s] = v ∧ (x ++ R) = hp' ∧ OS 33 (OT.fr (RT.list rI)) b'.w (sv t i u) i x) := by
 refine fE 35 Try.func6 rfl Try.ntmps6 rfl ?_
 unfold mFleetRoster at hm
 refine Cr<|Do rfl (uB _ rfl rfl) ?_
 rintro _ _ ⟨y, rfl, rfl⟩
 refine Do rfl (uB _ rfl rfl) ?_
 rintro _ _ ⟨z, rfl, rfl⟩
 refine As rfl rfl<|As rfl rfl<|Te<|Cs<|Cr<|Ts rfl (sL 1 rfl one22 rfl rfl) ?_
 obtain ⟨A, V, hm⟩ := bS hm
 refine Do rfl (uW _ call15 rfl (fun w ho => cFleetCheckShifts _ [] c f g (q.old ho) A V) (fun _ _ _ h => h.2.symm)) ?_
 rintro _ _ ⟨⟨_, rfl, _⟩, rfl⟩
 refine As rfl rfl<|Te<|Cr<|M rfl rfl<|Ts rfl (q2 rfl rfl)<|Te ?_
 refine Cc _ rfl (fun l => ?_) (fun l => ?_)
 rw [if_pos (of_decide_eq_true l)] at hm
 refine Cr<|M rfl rfl<|As rfl rfl<|As rfl rfl<|Te<|Ct<|Xr ?_
 obtain ⟨rfl, rfl⟩ := some2 hm
 exact rM (rs := [.tmp 6, .tmp 7]) (vs := [sn, iv A]) ⟨rfl, ⟨rfl, trivial⟩⟩ ⟨none, 0, [], rfl, rfl, OS.nil⟩ (.cons _ (.cons _ (.refl _))) lr
 rw [if_neg (of_decide_eq_false l)] at hm
 refine Ck<|Xn<|Cs<|Cr<|Ts rfl (sD (vs := [_, _, _, _, _, _, _]) 0 7 rfl agg24 rfl rfl rfl) ?_
 obtain ⟨B, W, hm⟩ := bS hm
 refine Do rfl (uW _ call16 rfl (fun w ho => cFleetCheckLimits _ [] a B W) (fun _ _ _ h => h.2.symm)) ?_
 rintro _ _ ⟨⟨_, rfl, _⟩, rfl⟩
 refine As rfl rfl<|Te<|Cr<|M rfl rfl<|Ts rfl (q2 rfl rfl)<|Te ?_
 refine Cc _ rfl (fun m => ?_) (fun m => ?_)
 rw [if_pos (of_decide_eq_true m)] at hm
 refine Cr<|M rfl rfl<|As rfl rfl<|As rfl rfl<|Te<|Ct<|Xr ?_
 obtain ⟨rfl, rfl⟩ := some2 hm
 exact rM (rs := [.tmp 6, .tmp 7]) (vs := [sn, iv B]) ⟨rfl, ⟨rfl, trivial⟩⟩ ⟨none, 0, [], rfl, rfl, OS.nil⟩ (.cons _ (.cons _ (.refl _))) lr
 rw [if_neg (of_decide_eq_false m)] at hm
 refine Ck<|Xn<|Cs<|Cr<|M rfl rfl ?_
 obtain ⟨X, Y, hm⟩ := bS hm
 refine Do rfl (uW _ call17 rfl (fun w ho => cFleetWithin _ [] k 1 4 X Y) (fun _ _ _ h => h.2.symm)) ?_
 rintro _ _ ⟨⟨_, rfl, _⟩, rfl⟩
 refine Ts rfl (sn2 rfl)<|Te ?_
 refine Cc _ rfl (fun n => ?_) (fun n => ?_)
 rw [if_neg (fun hh => Bool.noConfusion (hh.symm.trans (nt n)))] at hm
 refine Cr<|As rfl rfl<|As rfl rfl<|Te<|Ct<|Xr ?_
 obtain ⟨rfl, rfl⟩ := some2 hm
 exact rM (rs := [.tmp 6, .tmp 7]) (vs := [sn, iv 2]) ⟨rfl, ⟨rfl, trivial⟩⟩ ⟨none, 0, [], rfl, rfl, OS.nil⟩ (.cons _ (.cons _ (.refl _))) lr
 rw [if_pos (nf n)] at hm
 refine Ck<|Xn<|Cr<|M rfl rfl ?_
 obtain ⟨C, d, hm⟩ := bS hm
 have d := mkLen_some d
 refine Do rfl (u_mkOS (r := (RT.list rI)) [_, _] R [sn] ([] : List Int) C rfl d.1 rfl rfl sl27 inf33 rfl rfl rfl (by decide) (RT.list_mk FZ.nil) d.2.1 d.2.2) ?_
 rintro _ _ ⟨D, rfl, E⟩
 obtain ⟨F, G, rfl, _⟩ := E.form
 refine Do rfl (uA [sn] zero27 rfl) ?_
 rintro _ _ ⟨H, rfl, rfl⟩
 refine Do rfl (uS 0 rfl rfl siz27 rfl rfl (by simp)) ?_
 rintro _ _ rfl
 refine Te<|Cr<|Do rfl (uA [sn] zero27 rfl) ?_
 rintro _ _ ⟨I, rfl, rfl⟩
 refine Te<|Cr<|Do rfl (uA [iv 0] zero3 rfl) ?_
 rintro _ _ ⟨J, rfl, rfl⟩
 refine Do rfl (uS 0 rfl rfl siz3 rfl rfl (by simp)) ?_
 rintro _ _ rfl
 refine Te<|Cr<|Do rfl (uA [.nilFunc] zero54 rfl) ?_
 rintro _ _ ⟨K, rfl, rfl⟩
 refine Te<|Cr<|Ts rfl (st_func _ _ rfl rfl)<|Do rfl (uS 0 rfl rfl siz54 rfl rfl (by simp)) ?_
 rintro _ _ rfl
 refine Te<|Cr<|Ts rfl (sL 0 rfl one54 rfl rfl) ?_
 obtain ⟨⟨Z, L, O⟩, o, hm⟩ := bS hm
 obtain ⟨aa, o⟩ := lim_some o
 have hm := (unc3E hm)
 refine t_pullb 4 rfl<|t_pullb 3 rfl<|t_pullb 3 rfl<|t_pullb 4 rfl<|t_pullb 5 rfl<|t_out1 [_, _, _, _, _, _] [] D R rfl<|Tv #[] #[pb y, pb H, pb J, pb I, pb z, pb K] [iv 0] rfl rfl call18 rfl (cFleetRoster_1 aa _ _ 0 c (-1) a.Change a.Long a.Work a.After a.Break a.Rest a.Row (List.replicate C (([] : List Int) : (List Int))) [] y H J I z K f g F G D none 0 [] q E OS.nil ⟨fun _ => rfl, fun _ => rfl⟩ Z L O o) ?_
 rintro _ ad _ S ⟨j, T, U, e, rfl, rfl, ae, ab, ac⟩
 refine t_in2 [_, _, _, _, _, _] [] j e R rfl<|t_hresp 1 rfl (o' := Cl 27 [sv F L G]) (by simp only [sv, ab])<|Te<|Cs<|Cr<|Ts rfl (sL 2 rfl one3 rfl rfl)<|Ts rfl (q3 rfl rfl)<|Te ?_
 refine Cc _ rfl (fun p => ?_) (fun p => ?_)
 rw [if_pos (of_decide_eq_true p)] at hm
 refine Cr<|As rfl rfl<|As rfl rfl<|Te<|Ct<|Xr ?_
 obtain ⟨rfl, rfl⟩ := some2 hm
 exact rM (rs := [.tmp 6, .tmp 7]) (vs := [sn, iv 9]) ⟨rfl, ⟨rfl, trivial⟩⟩ ⟨none, 0, [], rfl, rfl, OS.nil⟩ (.cons _ (.cons _ (.cons _ (.cons _ (.cons _ (.cons _ (ss j (ss e (.refl _))))))))) S
 rw [if_neg (of_decide_eq_false p)] at hm
 refine Ck<|Xn<|Cr<|Ts rfl (sL 3 rfl one27 rfl rfl)<|As rfl rfl<|As rfl rfl<|Te<|Ct ?_
 obtain ⟨rfl, rfl⟩ := some2 hm
 refine X2 [_, _, _, _, _, _] j e R rfl ?_
 exact rM (rs := [.tmp 6, .tmp 7]) (vs := [sv T O U, iv 0]) ⟨rfl, ⟨rfl, trivial⟩⟩ ⟨T, U, e, rfl, rfl, ac⟩ (.cons _ (.cons _ (.cons _ (.cons _ (.cons _ (.cons _ (sp e (ss j (.refl _))))))))) S

set_option maxRecDepth 20000 in
theorem cFleetCheckRoster (b : Base) (R : Hp) (c : (List FleetShift)) (a : (List (List Int))) (f : OA) (g : Nat) (i : OA) (j : Nat) (h3 : FZ rFleetShift b.w f g c) (t : FZ (RT.list rI) b.w i j a) (u : Int) (hm : mFleetCheckRoster c a = some u) :
    CallsG Try.prog 23 [sv f c g, sv i a j] b (R) (fun v b' hp' => iv u = v ∧ R = hp') := by
 refine fE 32 Try.func23 rfl Try.ntmps23 rfl ?_
 unfold mFleetCheckRoster at hm
 refine Cr<|As rfl rfl<|Te<|Cs<|Cr<|M rfl rfl<|Ts rfl (sE rfl sl27)<|Ts rfl (q5 rfl rfl)<|Te ?_
 refine Cc _ rfl (fun n => ?_) (fun n => ?_)
 rw [if_pos (of_decide_eq_true n)] at hm
 refine Cr<|As rfl rfl<|Te<|Ct<|Xr ?_
 obtain rfl := o1 hm
 exact rM (rs := [.tmp 4]) (vs := [iv 4]) ⟨rfl, trivial⟩ ⟨rfl, rfl⟩ (.refl _) lr
 rw [if_neg (of_decide_eq_false n)] at hm
 refine Ck<|Xn<|Cs<|Cr<|M rfl rfl<|Ts rfl (sE rfl sl27)<|M rfl rfl<|Te<|Cb ?_
 have hb124 : a.length ≤ 9223372036854775807 := (FZ.bd t)
 obtain ⟨t178, B, k⟩ := bS hm
 refine cF (fun o => fun _ => fun l e' hp' => [(0, sv f c g), (12, sv i a j), (13, iv ((a.length : Int))), (14, iv ((o : Int)))] = e' ∧ R = hp' ∧ b.Le l) B ⟨rfl, rfl, lr⟩ (.refl _) ?_ ?_
 rintro o _ l _ _ oL123 hknL123 ⟨rfl, rfl, d⟩ x C
 unfold mFleetCheckRoster_L123 at x
 have hm := x
 refine Cr<|Ts rfl (lT rfl rfl (by omega))<|Te<|Cs<|c_cond_t rfl<|Ck<|Xn<|Cs<|Cb<|Cr ?_
 obtain ⟨p, D, hm⟩ := bS hm
 obtain ⟨E, F, G⟩ := iS D
 obtain ⟨cs186, H, I, J, K⟩ := FZ.get (sz := 1) rfl (by decide) (t.le d) G
 obtain ⟨L, O, rfl, y⟩ := H
 refine Ts rfl (sI E rfl rfl F K J sl27)<|Ts rfl (sO rfl one33 (I 0 _ rfl))<|As rfl rfl<|Te<|Cr<|M rfl rfl<|Ts rfl (sE rfl sl33)<|M rfl rfl<|Te<|Cb ?_
 have hb195 : p.length ≤ 9223372036854775807 := (FZ.bd y)
 obtain ⟨t213, S, m⟩ := bS hm
 refine cF (fun z => fun _ => fun q e' hp' => [(0, sv f c g), (12, sv i a j), (13, iv ((a.length : Int))), (14, iv ((o : Int))), (18, sv L p O), (19, iv ((p.length : Int))), (20, iv ((z : Int)))] = e' ∧ R = hp' ∧ l.Le q) S ⟨rfl, rfl, lr⟩ (.refl _) ?_ ?_
 rintro z _ q _ _ oL194 hknL194 ⟨rfl, rfl, e⟩ A T
 unfold mFleetCheckRoster_L194 at A
 have hm := A
 refine Cr<|Ts rfl (lT rfl rfl (by omega))<|Te<|Cs<|c_cond_t rfl<|Ck<|Xn<|Cs<|Cb<|Cr ?_
 obtain ⟨U, V, hm⟩ := bS hm
 obtain ⟨W, X, Y⟩ := iS V
 obtain ⟨cs221, Z, aa, ab, ac⟩ := FZ.get (sz := 1) rfl (by decide) (y.le e) Y
 obtain rfl := Z
 refine Ts rfl (sI W rfl rfl X ac ab sl33)<|Ts rfl (sO rfl one3 (aa 0 _ rfl))<|As rfl rfl<|Te<|Cr<|M rfl rfl<|M rfl rfl<|Ts rfl (sE rfl sl22) ?_
 obtain ⟨_, r, hm⟩ := bS hm
 have r := (kS r).2
 refine Ts rfl (sb rfl rfl r) ?_
 obtain ⟨ad, ae, hm⟩ := bS hm
 refine Do rfl (uW _ call17 rfl (fun w ho => cFleetWithin _ [] U 0 ((c.length : Int) - 1) ad ae) (fun _ _ _ h => h.2.symm)) ?_
 rintro _ _ ⟨⟨_, rfl, _⟩, rfl⟩
 refine Ts rfl (sn2 rfl)<|Te ?_
 refine Cc _ rfl (fun s => ?_) (fun s => ?_)
 rw [if_neg (fun hh => Bool.noConfusion (hh.symm.trans (nt s)))] at hm
 refine Cr<|As rfl rfl<|Te<|Ct<|Xb<|Xr<|Xr<|Xb<|Xb<|Xr ?_
 refine Xr<|Xb<|Xr ?_
 have af := T _ (Option.some.inj hm).symm
 rw [af] at m
 have hm := elimR m
 have ag := C _ (Option.some.inj hm).symm
 rw [ag] at k
 have hm := elimR k
 obtain rfl := o1 hm
 exact rM (rs := [.tmp 4]) (vs := [iv 2]) ⟨rfl, trivial⟩ ⟨rfl, rfl⟩ (.refl _) (d.trans e)
 rw [if_pos (nf s)] at hm
 refine Ck<|Xm<|Xn<|Cg<|Ts rfl (sa rfl rfl (by omega))<|M rfl rfl<|Tn ?_
 exact xM hm ⟨rfl, rfl, (e)⟩ (.refl _)
 rintro _ q _ _ ⟨rfl, rfl, e⟩ ah
 rw [ah] at m
 have hm := elimL m
 refine Cr<|Ts rfl (lF rfl rfl (by omega))<|Te<|Cs<|c_cond_f rfl<|Ce<|Xe<|Xe<|Xo<|Xm ?_
 refine Xn<|Cg<|Ts rfl (sa rfl rfl (by omega))<|M rfl rfl<|Tn ?_
 exact xM hm ⟨rfl, rfl, ((d.trans e))⟩ (.refl _)
 rintro _ l _ _ ⟨rfl, rfl, d⟩ ai
 rw [ai] at k
 have hm := elimL k
 refine Cr<|Ts rfl (lF rfl rfl (by omega))<|Te<|Cs<|c_cond_f rfl<|Ce<|Xe<|Xe<|Xo<|Xn ?_
 refine Cr<|As rfl rfl<|Te<|Ct ?_
 obtain rfl := o1 hm
 exact rM (rs := [.tmp 4]) (vs := [iv 0]) ⟨rfl, trivial⟩ ⟨rfl, rfl⟩ (.refl _) d

set_option maxRecDepth 20000 in
theorem cFleetJudgeRoster_1 (b : Base) (R : Hp) (a : Int) (c : Bool) (hm : mFleetJudgeRoster_1 a = some c) :
    CallsG Try.prog 34 [iv a] b (R) (fun v b' hp' => bv c = v ∧ R = hp') := by
 refine fE 5 Try.func34 rfl Try.ntmps34 rfl ?_
 unfold mFleetJudgeRoster_1 at hm
 refine Cr<|As rfl rfl<|Te<|Cr<|M rfl rfl<|Ts rfl (q2 rfl rfl)<|As rfl rfl<|Te<|Ct ?_
 obtain rfl := o1 hm
 exact rM (rs := [.tmp 2]) (vs := [.bool (decide (a ≠ 1))]) ⟨rfl, trivial⟩ ⟨rfl, rfl⟩ (.refl _) lr

set_option maxRecDepth 20000 in
theorem cSlicesIndexFunc (b : Base) (R : Hp) (a : (List Int)) (e : OA) (f : Nat) (k : FZ rI b.w e f a) (l : Int) (hm : mSlicesIndexFunc a = some l) :
    CallsG Try.prog 41 [sv e a f, .func (.func 34) #[] #[]] b (R) (fun v b' hp' => iv l = v ∧ R = hp') := by
 refine fE 19 Try.func41 rfl Try.ntmps41 rfl ?_
 unfold mSlicesIndexFunc at hm
 refine Cr<|As rfl rfl<|Te<|Cs<|Cr<|M rfl rfl<|Ts rfl (sE rfl sl33)<|M rfl rfl<|Te<|Cb ?_
 have E : a.length ≤ 9223372036854775807 := (FZ.bd k)
 obtain ⟨F, o, d⟩ := bS hm
 refine cF (fun g => fun _ => fun i e' hp' => [(0, sv e a f), (1, .func (.func 34) #[] #[]), (7, iv ((a.length : Int))), (8, iv ((g : Int)))] = e' ∧ R = hp' ∧ b.Le i) o ⟨rfl, rfl, lr⟩ (.refl _) ?_ ?_
 rintro g _ i _ _ G H ⟨rfl, rfl, c⟩ m p
 unfold mSlicesIndexFunc_L42 at m
 have hm := m
 refine Cr<|Ts rfl (lT rfl rfl (by omega))<|Te<|Cs<|c_cond_t rfl<|Ck<|Xn<|Cs<|Cb<|Cr ?_
 refine M rfl rfl<|As rfl rfl<|Te<|Cr<|M rfl rfl<|M rfl rfl<|M rfl rfl ?_
 obtain ⟨n, q, hm⟩ := bS hm
 obtain ⟨r, s, t⟩ := iS q
 obtain ⟨I, u, x, y, z⟩ := FZ.get (sz := 1) rfl (by decide) (k.le c) t
 obtain rfl := u
 refine Ts rfl (sI r rfl rfl s z y sl33)<|Ts rfl (sO rfl one3 (x 0 _ rfl)) ?_
 obtain ⟨A, B, hm⟩ := bS hm
 refine Do rfl (u_callvW0 #[] #[] [iv n] rfl call34 rfl (fun w ho => cFleetJudgeRoster_1 _ [] n A B) (fun _ _ _ h => h.2.symm)) ?_
 rintro _ _ ⟨⟨_, rfl, _⟩, rfl⟩
 refine Te ?_
 refine Cc _ rfl (fun j => ?_) (fun j => ?_)
 rw [if_pos j] at hm
 refine Cr<|M rfl rfl<|As rfl rfl<|Te<|Ct<|Xb<|Xr<|Xr<|Xb<|Xr ?_
 have C := p _ (Option.some.inj hm).symm
 rw [C] at d
 have hm := elimR d
 obtain rfl := o1 hm
 exact rM (rs := [.tmp 4]) (vs := [iv ((g : Int))]) ⟨rfl, trivial⟩ ⟨rfl, rfl⟩ (.refl _) c
 rw [if_neg (fun hh => Bool.noConfusion (hh.symm.trans j))] at hm
 refine Ck<|Xm<|Xn<|Cg<|Ts rfl (sa rfl rfl (by omega))<|M rfl rfl<|Tn ?_
 exact xM hm ⟨rfl, rfl, (c)⟩ (.refl _)
 rintro _ i _ _ ⟨rfl, rfl, c⟩ D
 rw [D] at d
 have hm := elimL d
 refine Cr<|Ts rfl (lF rfl rfl (by omega))<|Te<|Cs<|c_cond_f rfl<|Ce<|Xe<|Xe<|Xo<|Xn ?_
 refine Cr<|As rfl rfl<|Te<|Ct ?_
 obtain rfl := o1 hm
 exact rM (rs := [.tmp 4]) (vs := [iv ((-1))]) ⟨rfl, trivial⟩ ⟨rfl, rfl⟩ (.refl _) c

set_option maxRecDepth 20000 in
theorem cSlicesContainsFunc (b : Base) (R : Hp) (a : (List Int)) (c : OA) (d : Nat) (g : FZ rI b.w c d a) (e : Bool) (hm : mSlicesContainsFunc a = some e) :
    CallsG Try.prog 33 [sv c a d, .func (.func 34) #[] #[]] b (R) (fun v b' hp' => bv e = v ∧ R = hp') := by
 refine fE 9 Try.func33 rfl Try.ntmps33 rfl ?_
 unfold mSlicesContainsFunc at hm
 refine Cr<|As rfl rfl<|Te<|Cr<|M rfl rfl<|M rfl rfl ?_
 obtain ⟨f, i, hm⟩ := bS hm
 refine Do rfl (uW _ call41 rfl (fun w ho => cSlicesIndexFunc _ [] a c d (g.old ho) f i) (fun _ _ _ h => h.2.symm)) ?_
 rintro _ _ ⟨⟨_, rfl, _⟩, rfl⟩
 refine Ts rfl (q6 rfl rfl)<|As rfl rfl<|Te<|Ct ?_
 obtain rfl := o1 hm
 exact rM (rs := [.tmp 4]) (vs := [.bool (decide (0 ≤ f))]) ⟨rfl, trivial⟩ ⟨rfl, rfl⟩ (.refl _) lr

set_option maxRecDepth 20000 in
theorem cFleetJudgeRoster_2 (b : Base) (R : Hp) (s : (List FleetShift)) (k : (List (List Int))) (g : FleetLimits) (y : OA) (z : Nat) (A5 : OA) (c6 : Nat) (h3 : FZ rFleetShift b.w y z s) (h7 : FZ (RT.list rI) b.w A5 c6 k) (x612 : Int) (hm : mFleetJudgeRoster_2 s k g = some x612) :
    CallsG Try.prog 24 [sv y s z, sv A5 k c6, .agg #[iv g.Change, iv g.Long, iv g.Work, iv g.After, iv g.Break, iv g.Rest, iv g.Row]] b (R) (fun v b' hp' => iv x612 = v ∧ R = hp') := by
 refine fE 70 Try.func24 rfl Try.ntmps24 rfl ?_
 unfold mFleetJudgeRoster_2 at hm
 refine Cr<|Do rfl (uB _ rfl rfl) ?_
 rintro _ _ ⟨g613, rfl, rfl⟩
 refine As rfl rfl<|Te<|Cr<|M rfl rfl<|Ts rfl (sE rfl sl22) ?_
 obtain ⟨m614, A, hm⟩ := bS hm
 have A := mkLen_some A
 refine Do rfl (u_mkOS (r := rI) [_] R [iv 0] 0 m614 rfl A.1 rfl rfl sl33 inf3 rfl rfl rfl (by decide) rfl A.2.1 A.2.2) ?_
 rintro _ _ ⟨hs616, rfl, h617⟩
 obtain ⟨t, u, rfl, _⟩ := h617.form
 refine As rfl rfl<|Te<|Cr<|As rfl rfl<|As rfl rfl<|As rfl rfl<|Te<|Cs<|Cr<|M rfl rfl ?_
 refine Ts rfl (sE rfl sl27)<|M rfl rfl<|Te<|Cb ?_
 have hb621 : k.length ≤ 9223372036854775807 := (FZ.bd h7)
 obtain ⟨⟨B, x, m, n⟩, hl1012, hk1013⟩ := bS hm
 refine cS (fun k1011 => unc4 fun B x m n => fun C e' hp' => ∃ (i : Hp), [(0, sv y s z), (5, pb g613), (7, sv t n u), (8, bv B), (9, bv x), (10, bv m), (21, sv A5 k c6), (22, iv ((k.length : Int))), (23, iv ((k1011 : Int)))] = e' ∧ (g613, Cl 24 [iv g.Change, iv g.Long, iv g.Work, iv g.After, iv g.Break, iv g.Rest, iv g.Row]) :: (i ++ R) = hp' ∧ b.Le C ∧ OS 3 (OT.fr rI) C.w (sv t n u) n i ∧ n.length = m614) hl1012 ⟨hs616, rfl, rfl, lr, h617, List.length_replicate⟩ (.refl _) ?_ ?_
 rintro k1011 ⟨B, x, m, n⟩ C _ _ oL620 hknL620 ⟨i, rfl, rfl, a, h1005, hln1010⟩ hstepL620
 unfold mFleetJudgeRoster_2_L620 at hstepL620
 have hm := (unc4E hstepL620)
 refine Cr<|Ts rfl (lT rfl rfl (by omega))<|Te<|Cs<|c_cond_t rfl<|Ck<|Xn<|Cs<|Cb<|Cr ?_
 obtain ⟨D, h1015, hm⟩ := bS hm
 obtain ⟨j1016, hj1017, hx1018⟩ := iS h1015
 obtain ⟨cs1019, hr1020, hcs1021, hA1022, hlt1023⟩ := FZ.get (sz := 1) rfl (by decide) (h7.le a) hx1018
 obtain ⟨A1024, c1025, rfl, h1026⟩ := hr1020
 refine Ts rfl (sI j1016 rfl rfl hj1017 hlt1023 hA1022 sl27)<|Ts rfl (sO rfl one33 (hcs1021 0 _ rfl))<|As rfl rfl<|Te<|Cs<|Cr<|M rfl rfl<|Ts rfl (sE rfl sl33)<|M rfl rfl<|Te ?_
 refine Cb ?_
 have hb1028 : D.length ≤ 9223372036854775807 := (FZ.bd h1026)
 obtain ⟨p, hl1132, hk1133⟩ := bS hm
 refine cS (fun k1131 => fun p => fun b1124 e' hp' => ∃ (d : Hp), [(0, sv y s z), (5, pb g613), (7, sv t p u), (8, bv B), (9, bv x), (10, bv m), (12, sv A1024 D c1025), (21, sv A5 k c6), (22, iv ((k.length : Int))), (23, iv ((k1011 : Int))), (27, sv A1024 D c1025), (28, iv ((D.length : Int))), (29, iv ((k1131 : Int)))] = e' ∧ (g613, Cl 24 [iv g.Change, iv g.Long, iv g.Work, iv g.After, iv g.Break, iv g.Rest, iv g.Row]) :: (d ++ R) = hp' ∧ C.Le b1124 ∧ OS 3 (OT.fr rI) b1124.w (sv t p u) p d ∧ p.length = m614) hl1132 ⟨i, rfl, rfl, lr, h1005, hln1010⟩ (.refl _) ?_ ?_
 rintro k1131 p b1124 _ _ oL1027 hknL1027 ⟨d, rfl, rfl, c, e, f⟩ hstepL1027
 unfold mFleetJudgeRoster_2_L1027 at hstepL1027
 have hm := hstepL1027
 refine Cr<|Ts rfl (lT rfl rfl (by omega))<|Te<|Cs<|c_cond_t rfl<|Ck<|Xn<|Cs<|Cb<|Cr ?_
 obtain ⟨x1134, h1135, hm⟩ := bS hm
 obtain ⟨j1136, hj1137, hx1138⟩ := iS h1135
 obtain ⟨cs1139, hr1140, hcs1141, hA1142, hlt1143⟩ := FZ.get (sz := 1) rfl (by decide) (h1026.le c) hx1138
 obtain rfl := hr1140
 refine Ts rfl (sI j1136 rfl rfl hj1137 hlt1143 hA1142 sl33)<|Ts rfl (sO rfl one3 (hcs1141 0 _ rfl))<|As rfl rfl<|Te<|Cg<|M rfl rfl<|M rfl rfl ?_
 obtain ⟨x1144, h1145, hm⟩ := bS hm
 obtain ⟨j1146, hj1147, hx1148⟩ := iS h1145
 obtain ⟨cs1149, hs1154, P1155, P1156, hq1157, hr1150, hcs1151, hA1152, hlt1153, hb1158, hho1159⟩ := OS.get (sz := 1) rfl (by decide) e hx1148
 obtain ⟨rfl, rfl⟩ := hr1150
 refine Ts rfl (sI j1146 rfl rfl hj1147 hlt1153 hA1152 sl33)<|Ts rfl (st_load_rd rfl one3 (fun w ho => hcs1151 w _ ho (.cons _ (List.sublist_append_left _ _)) 0 _ rfl)) ?_
 obtain ⟨_, h1160, hm⟩ := bS hm
 have h1160 := (kS h1160).2
 refine Ts rfl (sa rfl rfl h1160) ?_
 obtain ⟨x1161, h1162, hm⟩ := bS hm
 obtain ⟨j1163, hj1164, hx1165⟩ := iS h1162
 obtain ⟨cs1166, hs1171, P1172, P1173, hq1174, hr1167, hcs1168, hA1169, hlt1170, hb1175, hho1176⟩ := OS.get (sz := 1) rfl (by decide) e hx1165
 obtain ⟨rfl, rfl⟩ := hr1167
 refine Ts rfl (sI j1163 rfl rfl hj1164 hlt1170 hA1169 sl33)<|Do rfl (uP hj1164 (sz := 1) (a' := x1144 + 1) rfl [_] R 0 1 [iv (x1144 + 1)] rfl e hx1165 rfl rfl rfl siz3 rfl (mc rfl mn) (fun cs hsj hh => by obtain ⟨rfl, rfl⟩ := hh; exact ⟨by first | decide | exact Nat.le_refl _, rfl, rfl⟩)) ?_
 rintro _ _ ⟨hs1177, rfl, h1178⟩
 refine Tr 7 rfl (v' := .slice t (put p x1134 (x1144 + 1)).length u) (by simp only [put_length])<|Tn<|Xm<|Xn<|Cg<|Ts rfl (sa rfl rfl (by omega))<|M rfl rfl<|Tn ?_
 obtain rfl := o1 hm
 exact xS ⟨hs1177, rfl, rfl, (c), h1178, ((put_length _ _ _).trans f)⟩ (.refl _)
 rintro b1124 _ _ ⟨d, rfl, rfl, c, e, f⟩
 have hm := hk1133
 refine Cr<|Ts rfl (lF rfl rfl (by omega))<|Te<|Cs<|c_cond_f rfl<|Ce<|Xe<|Xe<|Xo<|Xn ?_
 refine Cr<|M rfl rfl<|M rfl rfl<|Ts rfl (sD (vs := [_, _, _, _, _, _, _]) 0 7 rfl agg24 rfl rfl rfl) ?_
 obtain ⟨⟨E, q, j⟩, hcl1182, hm⟩ := bS hm
 have hm := (unc3E hm)
 refine Do rfl (uW _ call32 rfl (fun w ho => cFleetDriverBreaks _ [] s D g y z A1024 c1025 ((h3.le (a.trans c)).old ho) ((h1026.le c).old ho) E q j hcl1182) (fun _ _ _ h => h.2.symm)) ?_
 rintro _ _ ⟨⟨_, rfl, _⟩, rfl⟩
 refine M rfl rfl<|Ts rfl (st_extract rfl rfl)<|Ts rfl (st_extract rfl rfl)<|Ts rfl (st_extract rfl rfl)<|As rfl rfl<|As rfl rfl<|As rfl rfl<|Te<|Cg<|M rfl rfl ?_
 rcases Bool.eq_false_or_eq_true B with F | F
 rw [if_pos F] at hm
 refine Tr 48 rfl (v' := .bool true) (by rw [F] <;> rfl)<|M rfl rfl<|No 49 rfl rfl rfl rfl rfl<|Ts rfl (pT rfl rfl)<|M rfl rfl ?_
 rcases Bool.eq_false_or_eq_true x with G | G
 rw [if_pos G] at hm
 refine Tr 52 rfl (v' := .bool true) (by rw [G] <;> rfl)<|M rfl rfl<|No 53 rfl rfl rfl rfl rfl<|Ts rfl (pT rfl rfl)<|M rfl rfl ?_
 rcases Bool.eq_false_or_eq_true m with H | H
 rw [if_pos H] at hm
 refine Tr 56 rfl (v' := .bool true) (by rw [H] <;> rfl)<|M rfl rfl<|No 57 rfl rfl rfl rfl rfl<|Ts rfl (pT rfl rfl)<|As rfl rfl<|As rfl rfl<|As rfl rfl<|Tn<|Xm<|Xn ?_
 refine Cg<|Ts rfl (sa rfl rfl (by omega))<|M rfl rfl<|Tn ?_
 obtain rfl := o1 hm
 exact xS ⟨d, rfl, rfl, ((a.trans c)), e, f⟩ (.refl _)
 rw [if_neg (fun hh => Bool.noConfusion (hh.symm.trans H))] at hm
 refine Tr 56 rfl (v' := .bool false) (by rw [H] <;> rfl)<|M rfl rfl<|Ys 57 rfl rfl rfl<|M rfl rfl<|Ts rfl (pF rfl rfl)<|As rfl rfl<|As rfl rfl<|As rfl rfl ?_
 rcases Bool.eq_false_or_eq_true j with I | I
 rw [if_pos I] at hm
 refine Tr 10 rfl (v' := .bool true) (by rw [I] <;> rfl)<|Tn<|Xm<|Xn<|Cg<|Ts rfl (sa rfl rfl (by omega))<|M rfl rfl<|Tn ?_
 obtain rfl := o1 hm
 exact xS ⟨d, rfl, rfl, ((a.trans c)), e, f⟩ (.refl _)
 rw [if_neg (fun hh => Bool.noConfusion (hh.symm.trans I))] at hm
 refine Tr 10 rfl (v' := .bool false) (by rw [I] <;> rfl)<|Tn<|Xm<|Xn<|Cg<|Ts rfl (sa rfl rfl (by omega))<|M rfl rfl<|Tn ?_
 obtain rfl := o1 hm
 exact xS ⟨d, rfl, rfl, ((a.trans c)), e, f⟩ (.refl _)
 rw [if_neg (fun hh => Bool.noConfusion (hh.symm.trans G))] at hm
 refine Tr 52 rfl (v' := .bool false) (by rw [G] <;> rfl)<|M rfl rfl<|Ys 53 rfl rfl rfl<|M rfl rfl<|Ts rfl (pF rfl rfl)<|M rfl rfl ?_
 rcases Bool.eq_false_or_eq_true m with J | J
 rw [if_pos J] at hm
 refine Tr 56 rfl (v' := .bool true) (by rw [J] <;> rfl)<|M rfl rfl<|No 57 rfl rfl rfl rfl rfl<|Ts rfl (pT rfl rfl)<|As rfl rfl<|As rfl rfl ?_
 rcases Bool.eq_false_or_eq_true q with K | K
 rw [if_pos K] at hm
 refine Tr 9 rfl (v' := .bool true) (by rw [K] <;> rfl)<|As rfl rfl<|Tn<|Xm<|Xn<|Cg<|Ts rfl (sa rfl rfl (by omega))<|M rfl rfl<|Tn ?_
 obtain rfl := o1 hm
 exact xS ⟨d, rfl, rfl, ((a.trans c)), e, f⟩ (.refl _)
 rw [if_neg (fun hh => Bool.noConfusion (hh.symm.trans K))] at hm
 refine Tr 9 rfl (v' := .bool false) (by rw [K] <;> rfl)<|As rfl rfl<|Tn<|Xm<|Xn<|Cg<|Ts rfl (sa rfl rfl (by omega))<|M rfl rfl<|Tn ?_
 obtain rfl := o1 hm
 exact xS ⟨d, rfl, rfl, ((a.trans c)), e, f⟩ (.refl _)
 rw [if_neg (fun hh => Bool.noConfusion (hh.symm.trans J))] at hm
 refine Tr 56 rfl (v' := .bool false) (by rw [J] <;> rfl)<|M rfl rfl<|Ys 57 rfl rfl rfl<|M rfl rfl<|Ts rfl (pF rfl rfl)<|As rfl rfl<|As rfl rfl ?_
 rcases Bool.eq_false_or_eq_true q with L | L
 rw [if_pos L] at hm
 refine Tr 9 rfl (v' := .bool true) (by rw [L] <;> rfl)<|As rfl rfl ?_
 rcases Bool.eq_false_or_eq_true j with O | O
 rw [if_pos O] at hm
 refine Tr 10 rfl (v' := .bool true) (by rw [O] <;> rfl)<|Tn<|Xm<|Xn<|Cg<|Ts rfl (sa rfl rfl (by omega))<|M rfl rfl<|Tn ?_
 obtain rfl := o1 hm
 exact xS ⟨d, rfl, rfl, ((a.trans c)), e, f⟩ (.refl _)
 rw [if_neg (fun hh => Bool.noConfusion (hh.symm.trans O))] at hm
 refine Tr 10 rfl (v' := .bool false) (by rw [O] <;> rfl)<|Tn<|Xm<|Xn<|Cg<|Ts rfl (sa rfl rfl (by omega))<|M rfl rfl<|Tn ?_
 obtain rfl := o1 hm
 exact xS ⟨d, rfl, rfl, ((a.trans c)), e, f⟩ (.refl _)
 rw [if_neg (fun hh => Bool.noConfusion (hh.symm.trans L))] at hm
 refine Tr 9 rfl (v' := .bool false) (by rw [L] <;> rfl)<|As rfl rfl ?_
 rcases Bool.eq_false_or_eq_true j with S | S
 rw [if_pos S] at hm
 refine Tr 10 rfl (v' := .bool true) (by rw [S] <;> rfl)<|Tn<|Xm<|Xn<|Cg<|Ts rfl (sa rfl rfl (by omega))<|M rfl rfl<|Tn ?_
 obtain rfl := o1 hm
 exact xS ⟨d, rfl, rfl, ((a.trans c)), e, f⟩ (.refl _)
 rw [if_neg (fun hh => Bool.noConfusion (hh.symm.trans S))] at hm
 refine Tr 10 rfl (v' := .bool false) (by rw [S] <;> rfl)<|Tn<|Xm<|Xn<|Cg<|Ts rfl (sa rfl rfl (by omega))<|M rfl rfl<|Tn ?_
 obtain rfl := o1 hm
 exact xS ⟨d, rfl, rfl, ((a.trans c)), e, f⟩ (.refl _)
 rw [if_neg (fun hh => Bool.noConfusion (hh.symm.trans F))] at hm
 refine Tr 48 rfl (v' := .bool false) (by rw [F] <;> rfl)<|M rfl rfl<|Ys 49 rfl rfl rfl<|M rfl rfl<|Ts rfl (pF rfl rfl)<|M rfl rfl ?_
 rcases Bool.eq_false_or_eq_true x with T | T
 rw [if_pos T] at hm
 refine Tr 52 rfl (v' := .bool true) (by rw [T] <;> rfl)<|M rfl rfl<|No 53 rfl rfl rfl rfl rfl<|Ts rfl (pT rfl rfl)<|M rfl rfl ?_
 rcases Bool.eq_false_or_eq_true m with U | U
 rw [if_pos U] at hm
 refine Tr 56 rfl (v' := .bool true) (by rw [U] <;> rfl)<|M rfl rfl<|No 57 rfl rfl rfl rfl rfl<|Ts rfl (pT rfl rfl)<|As rfl rfl ?_
 rcases Bool.eq_false_or_eq_true E with V | V
 rw [if_pos V] at hm
 refine Tr 8 rfl (v' := .bool true) (by rw [V] <;> rfl)<|As rfl rfl<|As rfl rfl<|Tn<|Xm<|Xn<|Cg<|Ts rfl (sa rfl rfl (by omega))<|M rfl rfl<|Tn ?_
 obtain rfl := o1 hm
 exact xS ⟨d, rfl, rfl, ((a.trans c)), e, f⟩ (.refl _)
 rw [if_neg (fun hh => Bool.noConfusion (hh.symm.trans V))] at hm
 refine Tr 8 rfl (v' := .bool false) (by rw [V] <;> rfl)<|As rfl rfl<|As rfl rfl<|Tn<|Xm<|Xn<|Cg<|Ts rfl (sa rfl rfl (by omega))<|M rfl rfl<|Tn ?_
 obtain rfl := o1 hm
 exact xS ⟨d, rfl, rfl, ((a.trans c)), e, f⟩ (.refl _)
 rw [if_neg (fun hh => Bool.noConfusion (hh.symm.trans U))] at hm
 refine Tr 56 rfl (v' := .bool false) (by rw [U] <;> rfl)<|M rfl rfl<|Ys 57 rfl rfl rfl<|M rfl rfl<|Ts rfl (pF rfl rfl)<|As rfl rfl ?_
 rcases Bool.eq_false_or_eq_true E with W | W
 rw [if_pos W] at hm
 refine Tr 8 rfl (v' := .bool true) (by rw [W] <;> rfl)<|As rfl rfl<|As rfl rfl ?_
 rcases Bool.eq_false_or_eq_true j with X | X
 rw [if_pos X] at hm
 refine Tr 10 rfl (v' := .bool true) (by rw [X] <;> rfl)<|Tn<|Xm<|Xn<|Cg<|Ts rfl (sa rfl rfl (by omega))<|M rfl rfl<|Tn ?_
 obtain rfl := o1 hm
 exact xS ⟨d, rfl, rfl, ((a.trans c)), e, f⟩ (.refl _)
 rw [if_neg (fun hh => Bool.noConfusion (hh.symm.trans X))] at hm
 refine Tr 10 rfl (v' := .bool false) (by rw [X] <;> rfl)<|Tn<|Xm<|Xn<|Cg<|Ts rfl (sa rfl rfl (by omega))<|M rfl rfl<|Tn ?_
 obtain rfl := o1 hm
 exact xS ⟨d, rfl, rfl, ((a.trans c)), e, f⟩ (.refl _)
 rw [if_neg (fun hh => Bool.noConfusion (hh.symm.trans W))] at hm
 refine Tr 8 rfl (v' := .bool false) (by rw [W] <;> rfl)<|As rfl rfl<|As rfl rfl ?_
 rcases Bool.eq_false_or_eq_true j with Y | Y
 rw [if_pos Y] at hm
 refine Tr 10 rfl (v' := .bool true) (by rw [Y] <;> rfl)<|Tn<|Xm<|Xn<|Cg<|Ts rfl (sa rfl rfl (by omega))<|M rfl rfl<|Tn ?_
 obtain rfl := o1 hm
 exact xS ⟨d, rfl, rfl, ((a.trans c)), e, f⟩ (.refl _)
 rw [if_neg (fun hh => Bool.noConfusion (hh.symm.trans Y))] at hm
 refine Tr 10 rfl (v' := .bool false) (by rw [Y] <;> rfl)<|Tn<|Xm<|Xn<|Cg<|Ts rfl (sa rfl rfl (by omega))<|M rfl rfl<|Tn ?_
 obtain rfl := o1 hm
 exact xS ⟨d, rfl, rfl, ((a.trans c)), e, f⟩ (.refl _)
 rw [if_neg (fun hh => Bool.noConfusion (hh.symm.trans T))] at hm
 refine Tr 52 rfl (v' := .bool false) (by rw [T] <;> rfl)<|M rfl rfl<|Ys 53 rfl rfl rfl<|M rfl rfl<|Ts rfl (pF rfl rfl)<|M rfl rfl ?_
 rcases Bool.eq_false_or_eq_true m with Z | Z
 rw [if_pos Z] at hm
 refine Tr 56 rfl (v' := .bool true) (by rw [Z] <;> rfl)<|M rfl rfl<|No 57 rfl rfl rfl rfl rfl<|Ts rfl (pT rfl rfl)<|As rfl rfl ?_
 rcases Bool.eq_false_or_eq_true E with aa | aa
 rw [if_pos aa] at hm
 refine Tr 8 rfl (v' := .bool true) (by rw [aa] <;> rfl)<|As rfl rfl ?_
 rcases Bool.eq_false_or_eq_true q with ab | ab
 rw [if_pos ab] at hm
 refine Tr 9 rfl (v' := .bool true) (by rw [ab] <;> rfl)<|As rfl rfl<|Tn<|Xm<|Xn<|Cg<|Ts rfl (sa rfl rfl (by omega))<|M rfl rfl<|Tn ?_
 obtain rfl := o1 hm
 exact xS ⟨d, rfl, rfl, ((a.trans c)), e, f⟩ (.refl _)
 rw [if_neg (fun hh => Bool.noConfusion (hh.symm.trans ab))] at hm
 refine Tr 9 rfl (v' := .bool false) (by rw [ab] <;> rfl)<|As rfl rfl<|Tn<|Xm<|Xn<|Cg<|Ts rfl (sa rfl rfl (by omega))<|M rfl rfl<|Tn ?_
 obtain rfl := o1 hm
 exact xS ⟨d, rfl, rfl, ((a.trans c)), e, f⟩ (.refl _)
 rw [if_neg (fun hh => Bool.noConfusion (hh.symm.trans aa))] at hm
 refine Tr 8 rfl (v' := .bool false) (by rw [aa] <;> rfl)<|As rfl rfl ?_
 rcases Bool.eq_false_or_eq_true q with ac | ac
 rw [if_pos ac] at hm
 refine Tr 9 rfl (v' := .bool true) (by rw [ac] <;> rfl)<|As rfl rfl<|Tn<|Xm<|Xn<|Cg<|Ts rfl (sa rfl rfl (by omega))<|M rfl rfl<|Tn ?_
 obtain rfl := o1 hm
 exact xS ⟨d, rfl, rfl, ((a.trans c)), e, f⟩ (.refl _)
 rw [if_neg (fun hh => Bool.noConfusion (hh.symm.trans ac))] at hm
 refine Tr 9 rfl (v' := .bool false) (by rw [ac] <;> rfl)<|As rfl rfl<|Tn<|Xm<|Xn<|Cg<|Ts rfl (sa rfl rfl (by omega))<|M rfl rfl<|Tn ?_
 obtain rfl := o1 hm
 exact xS ⟨d, rfl, rfl, ((a.trans c)), e, f⟩ (.refl _)
 rw [if_neg (fun hh => Bool.noConfusion (hh.symm.trans Z))] at hm
 refine Tr 56 rfl (v' := .bool false) (by rw [Z] <;> rfl)<|M rfl rfl<|Ys 57 rfl rfl rfl<|M rfl rfl<|Ts rfl (pF rfl rfl)<|As rfl rfl ?_
 rcases Bool.eq_false_or_eq_true E with ad | ad
 rw [if_pos ad] at hm
 refine Tr 8 rfl (v' := .bool true) (by rw [ad] <;> rfl)<|As rfl rfl ?_
 rcases Bool.eq_false_or_eq_true q with ae | ae
 rw [if_pos ae] at hm
 refine Tr 9 rfl (v' := .bool true) (by rw [ae] <;> rfl)<|As rfl rfl ?_
 rcases Bool.eq_false_or_eq_true j with af | af
 rw [if_pos af] at hm
 refine Tr 10 rfl (v' := .bool true) (by rw [af] <;> rfl)<|Tn<|Xm<|Xn<|Cg<|Ts rfl (sa rfl rfl (by omega))<|M rfl rfl<|Tn ?_
 obtain rfl := o1 hm
 exact xS ⟨d, rfl, rfl, ((a.trans c)), e, f⟩ (.refl _)
 rw [if_neg (fun hh => Bool.noConfusion (hh.symm.trans af))] at hm
 refine Tr 10 rfl (v' := .bool false) (by rw [af] <;> rfl)<|Tn<|Xm<|Xn<|Cg<|Ts rfl (sa rfl rfl (by omega))<|M rfl rfl<|Tn ?_
 obtain rfl := o1 hm
 exact xS ⟨d, rfl, rfl, ((a.trans c)), e, f⟩ (.refl _)
 rw [if_neg (fun hh => Bool.noConfusion (hh.symm.trans ae))] at hm
 refine Tr 9 rfl (v' := .bool false) (by rw [ae] <;> rfl)<|As rfl rfl ?_
 rcases Bool.eq_false_or_eq_true j with ag | ag
 rw [if_pos ag] at hm
 refine Tr 10 rfl (v' := .bool true) (by rw [ag] <;> rfl)<|Tn<|Xm<|Xn<|Cg<|Ts rfl (sa rfl rfl (by omega))<|M rfl rfl<|Tn ?_
 obtain rfl := o1 hm
 exact xS ⟨d, rfl, rfl, ((a.trans c)), e, f⟩ (.refl _)
 rw [if_neg (fun hh => Bool.noConfusion (hh.symm.trans ag))] at hm
 refine Tr 10 rfl (v' := .bool false) (by rw [ag] <;> rfl)<|Tn<|Xm<|Xn<|Cg<|Ts rfl (sa rfl rfl (by omega))<|M rfl rfl<|Tn ?_
 obtain rfl := o1 hm
 exact xS ⟨d, rfl, rfl, ((a.trans c)), e, f⟩ (.refl _)
 rw [if_neg (fun hh => Bool.noConfusion (hh.symm.trans ad))] at hm
 refine Tr 8 rfl (v' := .bool false) (by rw [ad] <;> rfl)<|As rfl rfl ?_
 rcases Bool.eq_false_or_eq_true q with ah | ah
 rw [if_pos ah] at hm
 refine Tr 9 rfl (v' := .bool true) (by rw [ah] <;> rfl)<|As rfl rfl ?_
 rcases Bool.eq_false_or_eq_true j with ai | ai
 rw [if_pos ai] at hm
 refine Tr 10 rfl (v' := .bool true) (by rw [ai] <;> rfl)<|Tn<|Xm<|Xn<|Cg<|Ts rfl (sa rfl rfl (by omega))<|M rfl rfl<|Tn ?_
 obtain rfl := o1 hm
 exact xS ⟨d, rfl, rfl, ((a.trans c)), e, f⟩ (.refl _)
 rw [if_neg (fun hh => Bool.noConfusion (hh.symm.trans ai))] at hm
 refine Tr 10 rfl (v' := .bool false) (by rw [ai] <;> rfl)<|Tn<|Xm<|Xn<|Cg<|Ts rfl (sa rfl rfl (by omega))<|M rfl rfl<|Tn ?_
 obtain rfl := o1 hm
 exact xS ⟨d, rfl, rfl, ((a.trans c)), e, f⟩ (.refl _)
 rw [if_neg (fun hh => Bool.noConfusion (hh.symm.trans ah))] at hm
 refine Tr 9 rfl (v' := .bool false) (by rw [ah] <;> rfl)<|As rfl rfl ?_
 rcases Bool.eq_false_or_eq_true j with aj | aj
 rw [if_pos aj] at hm
 refine Tr 10 rfl (v' := .bool true) (by rw [aj] <;> rfl)<|Tn<|Xm<|Xn<|Cg<|Ts rfl (sa rfl rfl (by omega))<|M rfl rfl<|Tn ?_
 obtain rfl := o1 hm
 exact xS ⟨d, rfl, rfl, ((a.trans c)), e, f⟩ (.refl _)
 rw [if_neg (fun hh => Bool.noConfusion (hh.symm.trans aj))] at hm
 refine Tr 10 rfl (v' := .bool false) (by rw [aj] <;> rfl)<|Tn<|Xm<|Xn<|Cg<|Ts rfl (sa rfl rfl (by omega))<|M rfl rfl<|Tn ?_
 obtain rfl := o1 hm
 exact xS ⟨d, rfl, rfl, ((a.trans c)), e, f⟩ (.refl _)
 rintro C _ _ ⟨i, rfl, rfl, a, h1005, hln1010⟩
 have hm := (unc4E hk1013)
 refine Cr<|Ts rfl (lF rfl rfl (by omega))<|Te<|Cs<|c_cond_f rfl<|Ce<|Xe<|Xe<|Xo<|Xn ?_
 refine Cs<|Cb<|Cr<|M rfl rfl ?_
 obtain ⟨x1209, hcl1210, hm⟩ := bS hm
 refine Do rfl (uW _ call33 rfl (fun w ho => cSlicesContainsFunc _ [] n t u (OS.now (o := (OT.fr rI)) (l := n) (hs := i) h1005 ho (.cons _ (List.sublist_append_left _ _))) x1209 hcl1210) (fun _ _ _ h => h.2.symm)) ?_
 rintro _ _ ⟨⟨_, rfl, _⟩, rfl⟩
 refine As rfl rfl<|Te ?_
 refine Cc _ rfl (fun hc1211 => ?_) (fun hc1211 => ?_)
 rw [if_pos hc1211] at hm
 refine Cr<|As rfl rfl<|Te<|Ct<|Xb<|Xr ?_
 obtain rfl := o1 hm
 exact rM (rs := [.tmp 6]) (vs := [iv 1]) ⟨rfl, trivial⟩ ⟨rfl, rfl⟩ (.cons _ (ss i (.refl _))) a
 rw [if_neg (fun hh => Bool.noConfusion (hh.symm.trans hc1211))] at hm
 refine Cr<|M rfl rfl<|As rfl rfl<|Te ?_
 refine Cc _ rfl (fun hc1212 => ?_) (fun hc1212 => ?_)
 rw [if_pos hc1212] at hm
 refine Cr<|As rfl rfl<|Te<|Ct<|Xb<|Xr ?_
 obtain rfl := o1 hm
 exact rM (rs := [.tmp 6]) (vs := [iv 2]) ⟨rfl, trivial⟩ ⟨rfl, rfl⟩ (.cons _ (ss i (.refl _))) a
 rw [if_neg (fun hh => Bool.noConfusion (hh.symm.trans hc1212))] at hm
 refine Cr<|M rfl rfl<|As rfl rfl<|Te ?_
 refine Cc _ rfl (fun hc1213 => ?_) (fun hc1213 => ?_)
 rw [if_pos hc1213] at hm
 refine Cr<|As rfl rfl<|Te<|Ct<|Xb<|Xr ?_
 obtain rfl := o1 hm
 exact rM (rs := [.tmp 6]) (vs := [iv 3]) ⟨rfl, trivial⟩ ⟨rfl, rfl⟩ (.cons _ (ss i (.refl _))) a
 rw [if_neg (fun hh => Bool.noConfusion (hh.symm.trans hc1213))] at hm
 refine Cr<|M rfl rfl<|As rfl rfl<|Te ?_
 refine Cc _ rfl (fun hc1214 => ?_) (fun hc1214 => ?_)
 rw [if_pos hc1214] at hm
 refine Cr<|As rfl rfl<|Te<|Ct<|Xb<|Xr ?_
 obtain rfl := o1 hm
 exact rM (rs := [.tmp 6]) (vs := [iv 4]) ⟨rfl, trivial⟩ ⟨rfl, rfl⟩ (.cons _ (ss i (.refl _))) a
 rw [if_neg (fun hh => Bool.noConfusion (hh.symm.trans hc1214))] at hm
 refine Ck<|Xm<|Xn<|Cr<|As rfl rfl<|Te<|Ct ?_
 obtain rfl := o1 hm
 exact rM (rs := [.tmp 6]) (vs := [iv 0]) ⟨rfl, trivial⟩ ⟨rfl, rfl⟩ (.cons _ (ss i (.refl _))) a

set_option maxRecDepth 20000 in
theorem cFleetJudgeRoster (b : Base) (R : Hp) (c : (List FleetShift)) (d : (List (List Int))) (a : FleetLimits) (e : OA) (f : Nat) (g : OA) (i : Nat) (j : FZ rFleetShift b.w e f c) (n : FZ (RT.list rI) b.w g i d) (o : Int) (p : Int) (hm : mFleetJudgeRoster c d a = some (o, p)) :
    CallsG Try.prog 7 [sv e c f, sv g d i, .agg #[iv a.Change, iv a.Long, iv a.Work, iv a.After, iv a.Break, iv a.Rest, iv a.Row]] b (R) (fun v b' hp' => .tuple #[iv o, iv p] = v ∧ R = hp') := by
 refine fE 31 Try.func7 rfl Try.ntmps7 rfl ?_
 unfold mFleetJudgeRoster at hm
 refine Cr<|Do rfl (uB _ rfl rfl) ?_
 rintro _ _ ⟨A, rfl, rfl⟩
 refine As rfl rfl<|As rfl rfl<|Te<|Cs<|Cr<|M rfl rfl ?_
 obtain ⟨q, u, hm⟩ := bS hm
 refine Do rfl (uW _ call15 rfl (fun w ho => cFleetCheckShifts _ [] c e f (j.old ho) q u) (fun _ _ _ h => h.2.symm)) ?_
 rintro _ _ ⟨⟨_, rfl, _⟩, rfl⟩
 refine As rfl rfl<|Te<|Cr<|M rfl rfl<|Ts rfl (q2 rfl rfl)<|Te ?_
 refine Cc _ rfl (fun k => ?_) (fun k => ?_)
 rw [if_pos (of_decide_eq_true k)] at hm
 refine Cr<|M rfl rfl<|As rfl rfl<|As rfl rfl<|Te<|Ct<|Xr ?_
 obtain ⟨rfl, rfl⟩ := some2 hm
 exact rM (rs := [.tmp 6, .tmp 7]) (vs := [iv 0, iv q]) ⟨rfl, ⟨rfl, trivial⟩⟩ ⟨rfl, rfl⟩ (.cons _ (.refl _)) lr
 rw [if_neg (of_decide_eq_false k)] at hm
 refine Ck<|Xn<|Cs<|Cr<|Ts rfl (sD (vs := [_, _, _, _, _, _, _]) 0 7 rfl agg24 rfl rfl rfl) ?_
 obtain ⟨r, x, hm⟩ := bS hm
 refine Do rfl (uW _ call16 rfl (fun w ho => cFleetCheckLimits _ [] a r x) (fun _ _ _ h => h.2.symm)) ?_
 rintro _ _ ⟨⟨_, rfl, _⟩, rfl⟩
 refine As rfl rfl<|Te<|Cr<|M rfl rfl<|Ts rfl (q2 rfl rfl)<|Te ?_
 refine Cc _ rfl (fun l => ?_) (fun l => ?_)
 rw [if_pos (of_decide_eq_true l)] at hm
 refine Cr<|M rfl rfl<|As rfl rfl<|As rfl rfl<|Te<|Ct<|Xr ?_
 obtain ⟨rfl, rfl⟩ := some2 hm
 exact rM (rs := [.tmp 6, .tmp 7]) (vs := [iv 0, iv r]) ⟨rfl, ⟨rfl, trivial⟩⟩ ⟨rfl, rfl⟩ (.cons _ (.refl _)) lr
 rw [if_neg (of_decide_eq_false l)] at hm
 refine Ck<|Xn<|Cs<|Cr<|M rfl rfl<|M rfl rfl ?_
 obtain ⟨s, y, hm⟩ := bS hm
 refine Do rfl (uW _ call23 rfl (fun w ho => cFleetCheckRoster _ [] c d e f g i (j.old ho) (n.old ho) s y) (fun _ _ _ h => h.2.symm)) ?_
 rintro _ _ ⟨⟨_, rfl, _⟩, rfl⟩
 refine As rfl rfl<|Te<|Cr<|M rfl rfl<|Ts rfl (q2 rfl rfl)<|Te ?_
 refine Cc _ rfl (fun m => ?_) (fun m => ?_)
 rw [if_pos (of_decide_eq_true m)] at hm
 refine Cr<|M rfl rfl<|As rfl rfl<|As rfl rfl<|Te<|Ct<|Xr ?_
 obtain ⟨rfl, rfl⟩ := some2 hm
 exact rM (rs := [.tmp 6, .tmp 7]) (vs := [iv 0, iv s]) ⟨rfl, ⟨rfl, trivial⟩⟩ ⟨rfl, rfl⟩ (.cons _ (.refl _)) lr
 rw [if_neg (of_decide_eq_false m)] at hm
 refine Ck<|Xn<|Cr<|M rfl rfl<|M rfl rfl<|Ts rfl (sD (vs := [_, _, _, _, _, _, _]) 0 7 rfl agg24 rfl rfl rfl) ?_
 obtain ⟨t, z, hm⟩ := bS hm
 refine Do rfl (uW _ call24 rfl (fun w ho => cFleetJudgeRoster_2 _ [] c d a e f g i (j.old ho) (n.old ho) t z) (fun _ _ _ h => h.2.symm)) ?_
 rintro _ _ ⟨⟨_, rfl, _⟩, rfl⟩
 refine As rfl rfl<|As rfl rfl<|Te<|Ct ?_
 obtain ⟨rfl, rfl⟩ := some2 hm
 exact rM (rs := [.tmp 6, .tmp 7]) (vs := [iv t, iv 0]) ⟨rfl, ⟨rfl, trivial⟩⟩ ⟨rfl, rfl⟩ (.cons _ (.refl _)) lr

set_option maxRecDepth 20000 in
theorem cFleetLoads (b : Base) (R : Hp) (a : (List FleetShift)) (c : (List (List Int))) (e : OA) (f : Nat) (o : OA) (p : Nat) (t : FZ rFleetShift b.w e f a) (u : FZ (RT.list rI) b.w o p c) (B : Int) (q : (List Int)) (hm : mFleetLoads a c = some (B, q)) :
    CallsG Try.prog 8 [sv e a f, sv o c p] b (R) (fun v b' hp' => ∃ (C : OA), ∃ (D : Nat), ∃ (E : Hp), .tuple #[sv C q D, iv B] = v ∧ (E ++ R) = hp' ∧ OS 3 (OT.fr rI) b'.w (sv C q D) q E) := by
 refine fE 36 Try.func8 rfl Try.ntmps8 rfl ?_
 unfold mFleetLoads at hm
 refine Cr<|As rfl rfl<|As rfl rfl<|Te<|Cs<|Cr<|M rfl rfl ?_
 obtain ⟨F, K, hm⟩ := bS hm
 refine Do rfl (uW _ call15 rfl (fun w ho => cFleetCheckShifts _ [] a e f (t.old ho) F K) (fun _ _ _ h => h.2.symm)) ?_
 rintro _ _ ⟨⟨_, rfl, _⟩, rfl⟩
 refine As rfl rfl<|Te<|Cr<|M rfl rfl<|Ts rfl (q2 rfl rfl)<|Te ?_
 refine Cc _ rfl (fun x => ?_) (fun x => ?_)
 rw [if_pos (of_decide_eq_true x)] at hm
 refine Cr<|M rfl rfl<|As rfl rfl<|As rfl rfl<|Te<|Ct<|Xr ?_
 obtain ⟨rfl, rfl⟩ := some2 hm
 exact rM (rs := [.tmp 4, .tmp 5]) (vs := [sn, iv F]) ⟨rfl, ⟨rfl, trivial⟩⟩ ⟨none, 0, [], rfl, rfl, OS.nil⟩ (.refl _) lr
 rw [if_neg (of_decide_eq_false x)] at hm
 refine Ck<|Xn<|Cs<|Cr<|M rfl rfl<|M rfl rfl ?_
 obtain ⟨G, L, hm⟩ := bS hm
 refine Do rfl (uW _ call23 rfl (fun w ho => cFleetCheckRoster _ [] a c e f o p (t.old ho) (u.old ho) G L) (fun _ _ _ h => h.2.symm)) ?_
 rintro _ _ ⟨⟨_, rfl, _⟩, rfl⟩
 refine As rfl rfl<|Te<|Cr<|M rfl rfl<|Ts rfl (q2 rfl rfl)<|Te ?_
 refine Cc _ rfl (fun y => ?_) (fun y => ?_)
 rw [if_pos (of_decide_eq_true y)] at hm
 refine Cr<|M rfl rfl<|As rfl rfl<|As rfl rfl<|Te<|Ct<|Xr ?_
 obtain ⟨rfl, rfl⟩ := some2 hm
 exact rM (rs := [.tmp 4, .tmp 5]) (vs := [sn, iv G]) ⟨rfl, ⟨rfl, trivial⟩⟩ ⟨none, 0, [], rfl, rfl, OS.nil⟩ (.refl _) lr
 rw [if_neg (of_decide_eq_false y)] at hm
 refine Ck<|Xn<|Cr<|As rfl rfl<|Te<|Cs<|Cr<|M rfl rfl<|Ts rfl (sE rfl sl27)<|M rfl rfl ?_
 refine Te<|Cb ?_
 have aj : c.length ≤ 9223372036854775807 := (FZ.bd u)
 obtain ⟨d, O, S⟩ := bS hm
 refine cS (fun H => fun d => fun s e' hp' => ∃ (g : OA), ∃ (j : Nat), ∃ (k : Hp), [(0, sv e a f), (8, sv g d j), (22, sv o c p), (23, iv ((c.length : Int))), (24, iv ((H : Int)))] = e' ∧ (k ++ R) = hp' ∧ b.Le s ∧ OS 3 (OT.fr rI) s.w (sv g d j) d k) O ⟨none, 0, [], rfl, rfl, lr, OS.nil⟩ (.refl _) ?_ ?_
 rintro H d s _ _ ak al ⟨g, j, k, rfl, rfl, m, z⟩ I
 unfold mFleetLoads_L111 at I
 have hm := I
 refine Cr<|Ts rfl (lT rfl rfl (by omega))<|Te<|Cs<|c_cond_t rfl<|Ck<|Xn<|Cs<|Cb<|Cr ?_
 obtain ⟨T, U, hm⟩ := bS hm
 obtain ⟨V, W, X⟩ := iS U
 obtain ⟨am, Y, Z, aa, ab⟩ := FZ.get (sz := 1) rfl (by decide) (u.le m) X
 obtain ⟨ac, ad, rfl, ae⟩ := Y
 refine Ts rfl (sI V rfl rfl W ab aa sl27)<|Ts rfl (sO rfl one33 (Z 0 _ rfl))<|As rfl rfl<|Te<|Cg<|M rfl rfl<|M rfl rfl<|M rfl rfl ?_
 obtain ⟨n, af, hm⟩ := bS hm
 refine Do rfl (uW _ call19 rfl (fun w ho => cFleetLoad _ [] a T e f ac ad ((t.le m).old ho) (ae.old ho) n af) (fun _ _ _ h => h.2.symm)) ?_
 rintro _ _ ⟨⟨_, rfl, _⟩, rfl⟩
 refine Do rfl (u_bslice (el := 3) [(0, iv n)] [iv n] rfl (fun _ => by kernel_rfl)) ?_
 rintro _ _ ⟨an, rfl, rfl⟩
 obtain ⟨_, A, hm⟩ := bS hm
 have A := room_some A
 refine Do rfl (uQ (r := rI) (l := d) [_] R [[iv n]] [n] rfl (by decide) sl33 inf3 rfl rfl rfl rfl z rfl (fun w ho => Rd.own (i := 0) ho rfl) ⟨rfl, trivial⟩ A) ?_
 rintro _ _ ⟨ag, rfl, J⟩
 obtain ⟨ah, ai, rfl, _⟩ := J.form
 refine As rfl rfl<|Tn<|Xm<|Xn<|Cg<|Ts rfl (sa rfl rfl (by omega))<|M rfl rfl<|Tn ?_
 obtain rfl := o1 hm
 exact xS ⟨ah, ai, ag, rfl, rfl, (m), J⟩ (.cons _ (.refl _))
 rintro s _ _ ⟨g, j, k, rfl, rfl, m, z⟩
 have hm := S
 refine Cr<|Ts rfl (lF rfl rfl (by omega))<|Te<|Cs<|c_cond_f rfl<|Ce<|Xe<|Xe<|Xo<|Xn ?_
 refine Cr<|M rfl rfl<|As rfl rfl<|As rfl rfl<|Te<|Ct ?_
 obtain ⟨rfl, rfl⟩ := some2 hm
 exact rM (rs := [.tmp 4, .tmp 5]) (vs := [sv g d j, iv 0]) ⟨rfl, ⟨rfl, trivial⟩⟩ ⟨g, j, k, rfl, rfl, z⟩ (.refl _) m

set_option maxRecDepth 20000 in
theorem cSlicesMax (b : Base) (R : Hp) (a : (List Int)) (c : OA) (d : Nat) (i : FZ rI b.w c d a) (j : Int) (hm : mSlicesMax a = some j) :
    CallsG Try.prog 9 [sv c a d] b (R) (fun v b' hp' => iv j = v ∧ R = hp') := by
 refine fE 25 Try.func9 rfl Try.ntmps9 rfl ?_
 unfold mSlicesMax at hm
 refine Cr<|As rfl rfl<|Te<|Cs<|Cr<|M rfl rfl<|Ts rfl (sE rfl sl33)<|Ts rfl (q3 rfl rfl)<|Te ?_
 refine Cc _ rfl (fun e => ?_) (fun e => ?_)
 rw [if_pos (of_decide_eq_true e)] at hm
 cases hm
 rw [if_neg (of_decide_eq_false e)] at hm
 refine Ck<|Xn<|Cr<|M rfl rfl ?_
 obtain ⟨L, q, hm⟩ := bS hm
 obtain ⟨r, s, t⟩ := iS q
 obtain ⟨O, u, w, x, y⟩ := FZ.get (sz := 1) rfl (by decide) i t
 obtain rfl := u
 refine Ts rfl (sI r rfl rfl s y x sl33)<|Ts rfl (sO rfl one3 (w 0 _ rfl))<|As rfl rfl<|Te ?_
 obtain ⟨k, z, A⟩ := bS hm
 refine Cj (fun l e' hp' => [(3, iv k)] = e' ∧ R = hp' ∧ b.Le l) ?_ ?_
 have hm := z
 refine Cr<|As rfl rfl<|Te<|Cb<|cL (unc2 fun m n => fun o e' hp' => [(0, sv c a d), (3, iv m), (4, iv n)] = e' ∧ R = hp' ∧ b.Le o) hm ⟨rfl, rfl, lr⟩ (.refl _) ?_
 rintro ⟨m, n⟩ o _ _ S ⟨rfl, rfl, f⟩ p B
 unfold mSlicesMax_L165 at p
 have hm := (unc2E p)
 refine Cs<|Cr<|M rfl rfl<|M rfl rfl<|Ts rfl (sE rfl sl33)<|Ts rfl (q3 rfl rfl)<|Te ?_
 refine Cc _ rfl (fun g => ?_) (fun g => ?_)
 rw [if_pos (of_decide_eq_true g)] at hm
 refine Ck<|Xn<|Cs<|Cb<|Cg<|M rfl rfl<|M rfl rfl<|M rfl rfl ?_
 obtain ⟨T, C, hm⟩ := bS hm
 obtain ⟨D, E, F⟩ := iS C
 obtain ⟨U, G, H, I, J⟩ := FZ.get (sz := 1) rfl (by decide) (i.le f) F
 obtain rfl := G
 refine Ts rfl (sI D rfl rfl E J I sl33)<|Ts rfl (sO rfl one3 (H 0 _ rfl))<|Ts rfl (st_max rfl rfl)<|As rfl rfl<|Tn<|Xm<|Xn<|Cg<|M rfl rfl ?_
 obtain ⟨_, h, hm⟩ := bS hm
 have h := (kS h).2
 refine Ts rfl (sa rfl rfl h)<|As rfl rfl<|Tn ?_
 exact xM hm ⟨rfl, rfl, (f)⟩ (.refl _)
 rw [if_neg (of_decide_eq_false g)] at hm
 refine Ce<|Xe<|Xe<|Xo ?_
 have hm := congrArg some (B _ (Option.some.inj hm).symm)
 obtain rfl := o1 hm
 exact xJ ⟨rfl, rfl, f⟩ (.refl _)
 rintro l _ _ ⟨rfl, rfl, K⟩
 have hm := A
 refine Cr<|M rfl rfl<|As rfl rfl<|Te<|Ct ?_
 obtain rfl := o1 hm
 exact rM (rs := [.tmp 2]) (vs := [iv k]) ⟨rfl, trivial⟩ ⟨rfl, rfl⟩ (.refl _) K

set_option maxRecDepth 20000 in
theorem cBitsLen64 (b : Base) (R : Hp) (m : Int) (n : Int) (hm : mBitsLen64 m = some n) :
    CallsG Try.prog 52 [.int .u64 (m)] b (R) (fun v b' hp' => iv n = v ∧ R = hp') := by
 refine fE 25 Try.func52 rfl Try.ntmps52 rfl ?_
 unfold mBitsLen64 at hm
 refine Cr<|As rfl rfl<|Te ?_
 obtain ⟨⟨q, r⟩, s, t⟩ := bS hm
 refine Cj (fun a e' hp' => [(0, .int .u64 (q)), (2, iv r)] = e' ∧ R = hp' ∧ b.Le a) ?_ ?_
 have hm := s
 refine Cr<|M rfl rfl<|Ts rfl (q6 rfl rfl)<|Te ?_
 refine Cc _ rfl (fun c => ?_) (fun c => ?_)
 rw [if_pos (of_decide_eq_true c)] at hm
 refine Cr<|M rfl rfl ?_
 obtain ⟨_, d, hm⟩ := bS hm
 have d := shN_some d
 refine Ts rfl (st_shr rfl rfl d)<|As rfl rfl<|Te<|Cg<|As rfl rfl<|Tn ?_
 obtain ⟨rfl, rfl⟩ := some2 hm
 exact xJ ⟨rfl, rfl, lr⟩ (.refl _)
 rw [if_neg (of_decide_eq_false c)] at hm
 refine Ck ?_
 obtain ⟨rfl, rfl⟩ := some2 hm
 exact xJ ⟨rfl, rfl, lr⟩ (.refl _)
 rintro a _ _ ⟨rfl, rfl, u⟩
 have hm := (unc2E t)
 obtain ⟨⟨w, x⟩, y, z⟩ := bS hm
 refine Cj (fun e e' hp' => [(0, .int .u64 (w)), (2, iv x)] = e' ∧ R = hp' ∧ a.Le e) ?_ ?_
 have hm := y
 refine Cr<|M rfl rfl<|Ts rfl (q6 rfl rfl)<|Te ?_
 refine Cc _ rfl (fun f => ?_) (fun f => ?_)
 rw [if_pos (of_decide_eq_true f)] at hm
 refine Cr<|M rfl rfl ?_
 obtain ⟨_, g, hm⟩ := bS hm
 have g := shN_some g
 refine Ts rfl (st_shr rfl rfl g)<|As rfl rfl<|Te<|Cg<|M rfl rfl ?_
 obtain ⟨_, h, hm⟩ := bS hm
 have h := (kS h).2
 refine Ts rfl (sa rfl rfl h)<|As rfl rfl<|Tn ?_
 obtain ⟨rfl, rfl⟩ := some2 hm
 exact xJ ⟨rfl, rfl, lr⟩ (.refl _)
 rw [if_neg (of_decide_eq_false f)] at hm
 refine Ck ?_
 obtain ⟨rfl, rfl⟩ := some2 hm
 exact xJ ⟨rfl, rfl, lr⟩ (.refl _)
 rintro e _ _ ⟨rfl, rfl, A⟩
 have hm := (unc2E z)
 obtain ⟨⟨B, o⟩, C, D⟩ := bS hm
 refine Cj (fun p e' hp' => [(0, .int .u64 (B)), (2, iv o)] = e' ∧ R = hp' ∧ e.Le p) ?_ ?_
 have hm := C
 refine Cr<|M rfl rfl<|Ts rfl (q6 rfl rfl)<|Te ?_
 refine Cc _ rfl (fun i => ?_) (fun i => ?_)
 rw [if_pos (of_decide_eq_true i)] at hm
 refine Cr<|M rfl rfl ?_
 obtain ⟨_, j, hm⟩ := bS hm
 have j := shN_some j
 refine Ts rfl (st_shr rfl rfl j)<|As rfl rfl<|Te<|Cg<|M rfl rfl ?_
 obtain ⟨_, k, hm⟩ := bS hm
 have k := (kS k).2
 refine Ts rfl (sa rfl rfl k)<|As rfl rfl<|Tn ?_
 obtain ⟨rfl, rfl⟩ := some2 hm
 exact xJ ⟨rfl, rfl, lr⟩ (.refl _)
 rw [if_neg (of_decide_eq_false i)] at hm
 refine Ck ?_
 obtain ⟨rfl, rfl⟩ := some2 hm
 exact xJ ⟨rfl, rfl, lr⟩ (.refl _)
 rintro p _ _ ⟨rfl, rfl, E⟩
 have hm := (unc2E D)
 refine Cr<|M rfl rfl<|M rfl rfl<|Ts rfl (st_conv rfl int94_u64 int5_u8) ?_
 obtain ⟨F, G, hm⟩ := bS hm
 refine Ts rfl (st_sidx rfl rfl G str9)<|Ts rfl (st_conv rfl int5_u8 int3_i64) ?_
 obtain ⟨_, l, hm⟩ := bS hm
 have l := (kS l).2
 refine Ts rfl (sa rfl rfl l)<|As rfl rfl<|Te<|Ct ?_
 obtain rfl := o1 hm
 exact rM (rs := [.tmp 2]) (vs := [iv (o + (IntKind.wrap .i64 F))]) ⟨rfl, trivial⟩ ⟨rfl, rfl⟩ (.refl _) (u.trans (A.trans E))

set_option maxRecDepth 20000 in
theorem cBitsLen (b : Base) (R : Hp) (a : Int) (c : Int) (hm : mBitsLen a = some c) :
    CallsG Try.prog 36 [.int .u64 (a)] b (R) (fun v b' hp' => iv c = v ∧ R = hp') := by
 refine fE 8 Try.func36 rfl Try.ntmps36 rfl ?_
 unfold mBitsLen at hm
 refine Cr<|As rfl rfl<|Te<|Cs<|c_cond_f rfl<|Ck<|Xn<|Cr<|M rfl rfl ?_
 obtain ⟨d, e, hm⟩ := bS hm
 refine Do rfl (uW _ call52 rfl (fun w ho => cBitsLen64 _ [] a d e) (fun _ _ _ h => h.2.symm)) ?_
 rintro _ _ ⟨⟨_, rfl, _⟩, rfl⟩
 refine As rfl rfl<|Te<|Ct ?_
 obtain rfl := o1 hm
 exact rM (rs := [.tmp 2]) (vs := [iv d]) ⟨rfl, trivial⟩ ⟨rfl, rfl⟩ (.refl _) lr

set_option maxRecDepth 20000 in
theorem cCmpLess (b : Base) (R : Hp) (d : Int) (e : Int) (f : Bool) (hm : mCmpLess d e = some f) :
    CallsG Try.prog 48 [iv d, iv e] b (R) (fun v b' hp' => bv f = v ∧ R = hp') := by
 refine fE 17 Try.func48 rfl Try.ntmps48 rfl ?_
 unfold mCmpLess at hm
 refine Cr<|As rfl rfl<|Te ?_
 obtain ⟨g, l, m⟩ := bS hm
 refine Cj (fun i e' hp' => [(4, bv g)] = e' ∧ R = hp' ∧ b.Le i) ?_ ?_
 have hm := l
 refine Cg<|M rfl rfl ?_
 obtain ⟨j, n, hm⟩ := bS hm
 refine Do rfl (uW _ call54 rfl (fun w ho => cCmpIsNaN _ [] d j n) (fun _ _ _ h => h.2.symm)) ?_
 rintro _ _ ⟨⟨_, rfl, _⟩, rfl⟩
 rcases Bool.eq_false_or_eq_true j with a | a
 rw [if_pos a] at hm
 refine Tr 6 rfl (v' := .bool true) (by rw [a] <;> rfl)<|M rfl rfl<|Ys 7 rfl rfl rfl<|M rfl rfl<|Ys 7 rfl rfl rfl ?_
 obtain ⟨k, o, hm⟩ := bS hm
 refine Do rfl (uW _ call54 rfl (fun w ho => cCmpIsNaN _ [] e k o) (fun _ _ _ h => h.2.symm)) ?_
 rintro _ _ ⟨⟨_, rfl, _⟩, rfl⟩
 rcases Bool.eq_false_or_eq_true k with c | c
 rw [if_pos c] at hm
 refine Tr 9 rfl (v' := .bool true) (by rw [c] <;> rfl)<|Ys 7 rfl rfl rfl<|Ts rfl (st_not_t rfl)<|Ts rfl (pT rfl rfl)<|M rfl rfl<|Ys 12 rfl rfl rfl<|M rfl rfl<|Ys 12 rfl rfl rfl<|M rfl rfl<|Ys 12 rfl rfl rfl ?_
 refine Ts rfl (q3 rfl rfl)<|Ts rfl (pF rfl rfl)<|As rfl rfl<|Tn ?_
 obtain rfl := o1 hm
 exact xJ ⟨rfl, rfl, lr⟩ (.refl _)
 rw [if_neg (fun hh => Bool.noConfusion (hh.symm.trans c))] at hm
 refine Tr 9 rfl (v' := .bool false) (by rw [c] <;> rfl)<|Ys 7 rfl rfl rfl<|Ts rfl (st_not_f rfl)<|Ts rfl (pT rfl rfl)<|M rfl rfl<|No 12 rfl rfl rfl rfl rfl<|No 12 rfl rfl rfl rfl rfl<|No 12 rfl rfl rfl rfl rfl<|Ts rfl (pT rfl rfl)<|As rfl rfl ?_
 refine Tn ?_
 obtain rfl := o1 hm
 exact xJ ⟨rfl, rfl, lr⟩ (.refl _)
 rw [if_neg (fun hh => Bool.noConfusion (hh.symm.trans a))] at hm
 refine Tr 6 rfl (v' := .bool false) (by rw [a] <;> rfl)<|M rfl rfl<|No 7 rfl rfl rfl rfl rfl<|No 7 rfl rfl rfl rfl rfl<|No 7 rfl rfl rfl rfl rfl<|Ts rfl (pF rfl rfl)<|M rfl rfl<|Ys 12 rfl rfl rfl<|M rfl rfl<|Ys 12 rfl rfl rfl ?_
 refine M rfl rfl<|Ys 12 rfl rfl rfl<|Ts rfl (q3 rfl rfl)<|Ts rfl (pF rfl rfl)<|As rfl rfl<|Tn ?_
 obtain rfl := o1 hm
 exact xJ ⟨rfl, rfl, lr⟩ (.refl _)
 rintro i _ _ ⟨rfl, rfl, p⟩
 have hm := m
 refine Ct ?_
 obtain rfl := o1 hm
 exact rM (rs := [.tmp 4]) (vs := [bv g]) ⟨rfl, trivial⟩ ⟨rfl, rfl⟩ (.refl _) p

set_option maxRecDepth 20000 in
theorem cSlicesInsertionSortOrdered (b : Base) (R : Hp) (g : Int) (k : Int) (e : (List Int)) (a : OA) (c : Nat) (y : Hp) (h5 : OS 3 (OT.fr rI) b.w (sv a e c) e y) (r : (List Int)) (hm : mSlicesInsertionSortOrdered g k e = some r) :
    CallsG Try.prog 42 [sv a e c, iv g, iv k] b ((y ++ R)) (fun v b' hp' => ∃ (J : Hp), .tuple #[] = v ∧ (J ++ R) = hp' ∧ OS 3 (OT.fr rI) b'.w (sv a r c) r J ∧ r.length = e.length) := by
 refine fE 49 Try.func42 rfl Try.ntmps42 rfl ?_
 unfold mSlicesInsertionSortOrdered at hm
 refine Cr<|M rfl rfl ?_
 obtain ⟨_, z, hm⟩ := bS hm
 have z := (kS z).2
 refine Ts rfl (sa rfl rfl z)<|As rfl rfl<|Te<|Cb<|cL (unc2 fun l m => fun n e' hp' => ∃ (o : Hp), [(0, sv a m c), (1, iv g), (2, iv k), (6, iv l)] = e' ∧ (o ++ R) = hp' ∧ b.Le n ∧ OS 3 (OT.fr rI) n.w (sv a m c) m o ∧ m.length = e.length) hm ⟨y, rfl, rfl, lr, h5, rfl⟩ (.refl _) ?_
 rintro ⟨l, m⟩ n _ _ oL5371 ⟨o, rfl, rfl, K, L, O⟩ S houtL5371
 unfold mSlicesInsertionSortOrdered_L5371 at S
 have hm := (unc2E S)
 refine Cs<|Cr<|M rfl rfl<|M rfl rfl<|Ts rfl (q3 rfl rfl)<|Te ?_
 refine Cc _ rfl (fun A => ?_) (fun A => ?_)
 rw [if_pos (of_decide_eq_true A)] at hm
 refine Ck<|Xn ?_
 obtain ⟨s, hj9839, hk9839⟩ := bS hm
 refine Cj (fun B e' hp' => ∃ (t : Hp), [(0, sv a s c), (1, iv g), (2, iv k), (6, iv l)] = e' ∧ (t ++ R) = hp' ∧ n.Le B ∧ OS 3 (OT.fr rI) B.w (sv a s c) s t ∧ s.length = e.length) ?_ ?_
 have hm := hj9839
 refine Cb<|Cr<|M rfl rfl<|As rfl rfl<|Te<|Cb<|cL (unc2 fun f d => fun u e' hp' => ∃ (p : Hp), [(0, sv a d c), (1, iv g), (2, iv k), (6, iv l), (7, iv f)] = e' ∧ (p ++ R) = hp' ∧ n.Le u ∧ OS 3 (OT.fr rI) u.w (sv a d c) d p ∧ d.length = e.length) hm ⟨o, rfl, rfl, lr, L, O⟩ (.refl _) ?_
 rintro ⟨f, d⟩ u _ _ oL9840 ⟨p, rfl, rfl, T, i, U⟩ V houtL9840
 unfold mSlicesInsertionSortOrdered_L9840 at V
 have hm := (unc2E V)
 refine Cs ?_
 obtain ⟨x10509, hj10510, hk10510⟩ := bS hm
 refine Cj (fun W e' hp' => [(0, sv a d c), (1, iv g), (2, iv k), (6, iv l), (7, iv f), (30, bv x10509)] = e' ∧ (p ++ R) = hp' ∧ u.Le W) ?_ ?_
 have hm := hj10510
 by_cases x : g < f
 rw [if_pos x] at hm
 obtain ⟨x10548, h10549, hm⟩ := bS hm
 obtain ⟨_, C, hm⟩ := bS hm
 obtain ⟨x10565, h10566, hm⟩ := bS hm
 obtain ⟨x10581, hcl10582, hm⟩ := bS hm
 refine Di mixed (.refl _)<|E0 0 rfl (sM rfl)<|E0 1 rfl (sM rfl)<|E0 2 rfl (st_gtr_t rfl rfl x)<|E0 3 rfl (sM rfl)<|Yz 4 19 rfl (sM rfl)<|Yz 5 19 rfl (sM rfl) ?_
 obtain ⟨j10550, hj10551, hx10552⟩ := iS h10549
 obtain ⟨cs10553, hs10558, P10559, P10560, hq10561, hr10554, hcs10555, hA10556, hlt10557, hb10562, hho10563⟩ := OS.get (sz := 1) rfl (by decide) i hx10552
 obtain ⟨rfl, rfl⟩ := hr10554
 refine Yz 6 19 rfl (sI j10550 rfl rfl hj10551 hlt10557 hA10556 sl33)<|Ey 7 19 rfl (st_load_rd rfl one3 (fun w ho => hcs10555 w _ ho (List.sublist_append_left _ _) 0 _ rfl))<|Yz 8 19 rfl (sM rfl)<|Yz 9 19 rfl (sM rfl) ?_
 have C := (kS C).2
 refine Yz 10 19 rfl (sb rfl rfl C) ?_
 obtain ⟨j10567, hj10568, hx10569⟩ := iS h10566
 obtain ⟨cs10570, hs10575, P10576, P10577, hq10578, hr10571, hcs10572, hA10573, hlt10574, hb10579, hho10580⟩ := OS.get (sz := 1) rfl (by decide) i hx10569
 obtain ⟨rfl, rfl⟩ := hr10571
 refine Yz 11 19 rfl (sI j10567 rfl rfl hj10568 hlt10574 hA10573 sl33)<|Ey 12 19 rfl (st_load_rd rfl one3 (fun w ho => hcs10572 w _ ho (List.sublist_append_left _ _) 0 _ rfl))<|Eo<|Da [13] (by kernel_rfl) rfl ?_
 refine R_doY lr rfl rfl 19 rfl rfl rfl (uW _ call48 rfl (fun w ho => cCmpLess _ [] x10548 x10565 x10581 hcl10582) (fun _ _ _ h => h.2.symm)) ?_ ?_
 rintro _ _ ⟨⟨_, rfl, _⟩, rfl⟩
 refine ⟨.inr (.refl _), ?_⟩
 refine Ei lr (.refl _)<|E0 14 rfl (pT rfl rfl)<|Eo<|Dd (by kernel_rfl) ?_
 obtain rfl := o1 hm
 exact xJ ⟨rfl, rfl, lr⟩ (.refl _)
 exact Rn
 rw [if_neg x] at hm
 refine Di mixed (.refl _)<|E0 0 rfl (sM rfl)<|E0 1 rfl (sM rfl)<|E0 2 rfl (st_gtr_f rfl rfl x)<|E0 3 rfl (sM rfl)<|En 4 19 rfl rfl rfl<|En 5 19 rfl rfl rfl<|En 6 19 rfl rfl rfl<|En 7 19 rfl rfl rfl<|En 8 19 rfl rfl rfl ?_
 refine En 9 19 rfl rfl rfl<|En 10 19 rfl rfl rfl<|En 11 19 rfl rfl rfl<|En 12 19 rfl rfl rfl<|En 13 19 rfl rfl rfl<|E0 14 rfl (pF rfl rfl)<|Eo<|Dd (by kernel_rfl) ?_
 obtain rfl := o1 hm
 exact xJ ⟨rfl, rfl, lr⟩ (.refl _)
 rintro W _ _ ⟨rfl, rfl, j⟩
 have hm := hk10510
 refine Cc _ rfl (fun D => ?_) (fun D => ?_)
 rw [if_pos D] at hm
 refine Ck<|Xn<|Cs<|Cb ?_
 obtain ⟨_, E, hm⟩ := bS hm
 obtain ⟨_, F, hm⟩ := bS hm
 obtain ⟨q, h10657, hm⟩ := bS hm
 obtain ⟨G, h10673, hm⟩ := bS hm
 obtain ⟨x10688, h10689, hm⟩ := bS hm
 obtain ⟨x10706, h10707, hm⟩ := bS hm
 refine Di mixed (.refl _)<|E0 0 rfl (sM rfl)<|E0 1 rfl (sM rfl)<|E0 2 rfl (sM rfl)<|E0 3 rfl (sM rfl) ?_
 have E := (kS E).2
 refine E0 4 rfl (sb rfl rfl E)<|E0 5 rfl (sM rfl)<|E0 6 rfl (sM rfl) ?_
 have F := (kS F).2
 refine E0 7 rfl (sb rfl rfl F) ?_
 obtain ⟨j10658, hj10659, hx10660⟩ := iS h10657
 obtain ⟨cs10661, hs10666, P10667, P10668, hq10669, hr10662, hcs10663, hA10664, hlt10665, hb10670, hho10671⟩ := OS.get (sz := 1) rfl (by decide) (i.le j) hx10660
 obtain ⟨rfl, rfl⟩ := hr10662
 refine E0 8 rfl (sI j10658 rfl rfl hj10659 hlt10665 hA10664 sl33)<|Es 9 rfl (st_load_rd rfl one3 (fun w ho => hcs10663 w _ ho (List.sublist_append_left _ _) 0 _ rfl))<|E0 10 rfl (sM rfl)<|E0 11 rfl (sM rfl) ?_
 obtain ⟨j10674, hj10675, hx10676⟩ := iS h10673
 obtain ⟨cs10677, hs10682, P10683, P10684, hq10685, hr10678, hcs10679, hA10680, hlt10681, hb10686, hho10687⟩ := OS.get (sz := 1) rfl (by decide) (i.le j) hx10676
 obtain ⟨rfl, rfl⟩ := hr10678
 refine E0 12 rfl (sI j10674 rfl rfl hj10675 hlt10681 hA10680 sl33)<|Es 13 rfl (st_load_rd rfl one3 (fun w ho => hcs10679 w _ ho (List.sublist_append_left _ _) 0 _ rfl)) ?_
 obtain ⟨j10690, X, Y⟩ := iS h10689
 obtain ⟨cs10693, hs10698, P10699, P10700, hq10701, hr10694, hcs10695, hA10696, hlt10697, hb10702, hho10703⟩ := OS.get (sz := 1) rfl (by decide) (i.le j) Y
 obtain ⟨rfl, rfl⟩ := hr10694
 refine E0 14 rfl (sI j10690 rfl rfl X hlt10697 hA10696 sl33)<|Eo<|Da [15] (by kernel_rfl) rfl ?_
 refine Rd2 lr rfl rfl (uP X (sz := 1) (a' := q) rfl [] R 0 1 [iv q] rfl (i.le j) Y rfl rfl rfl siz3 rfl (mc rfl mn) (fun cs hsj hh => by obtain ⟨rfl, rfl⟩ := hh; exact ⟨by first | decide | exact Nat.le_refl _, rfl, rfl⟩)) ?_ ?_
 rintro _ _ ⟨hs10704, rfl, Z⟩
 refine ⟨.inl (by kernel_rfl), ?_⟩
 refine d_resp 0 rfl (v' := .slice a (put d f q).length c) (by simp only [put_length])<|d_resp 35 rfl (v' := .slice a (put d f q).length c) (by simp only [put_length]) ?_
 obtain ⟨j10708, aa, ab⟩ := iS h10707
 obtain ⟨cs10711, hs10716, P10717, P10718, hq10719, hr10712, hcs10713, hA10714, hlt10715, hb10720, hho10721⟩ := OS.get (sz := 1) rfl (by decide) Z ab
 obtain ⟨rfl, rfl⟩ := hr10712
 refine El lr<|E0 16 rfl (sI j10708 rfl rfl aa hlt10715 hA10714 sl33)<|Eo<|Da [17] (by kernel_rfl) rfl ?_
 refine Rd2 lr rfl rfl (uP aa (sz := 1) (a' := G) rfl [] R 0 1 [iv G] rfl Z ab rfl rfl rfl siz3 rfl (mc rfl mn) (fun cs hsj hh => by obtain ⟨rfl, rfl⟩ := hh; exact ⟨by first | decide | exact Nat.le_refl _, rfl, rfl⟩)) ?_ ?_
 rintro _ _ ⟨hs10722, rfl, h10723⟩
 refine ⟨.inl (by kernel_rfl), ?_⟩
 refine d_resp 0 rfl (v' := .slice a (put (put d f q) (f - 1) G).length c) (by simp only [put_length])<|Dd (by kernel_rfl)<|Xm<|Xn<|Cg<|M rfl rfl ?_
 obtain ⟨_, H, hm⟩ := bS hm
 have H := (kS H).2
 refine Ts rfl (sb rfl rfl H)<|As rfl rfl<|Tn ?_
 exact xM hm ⟨hs10722, rfl, rfl, ((T.trans j)), h10723, ((put_length _ _ _).trans ((put_length _ _ _).trans U))⟩ (.refl _)
 exact Rn
 exact Rn
 rw [if_neg (fun hh => Bool.noConfusion (hh.symm.trans D))] at hm
 refine Ce<|Xe<|Xe<|Xo ?_
 have hm := congrArg some (houtL9840 _ (Option.some.inj hm).symm)
 refine Xm ?_
 obtain rfl := o1 hm
 exact xJ ⟨p, rfl, rfl, (T.trans j), (i.le j), U⟩ (.refl _)
 rintro B _ _ ⟨t, rfl, rfl, hle9833, h9836, hln9838⟩
 have hm := hk9839
 refine Cg<|M rfl rfl ?_
 obtain ⟨_, I, hm⟩ := bS hm
 have I := (kS I).2
 refine Ts rfl (sa rfl rfl I)<|As rfl rfl<|Tn ?_
 exact xM hm ⟨t, rfl, rfl, ((K.trans hle9833)), h9836, hln9838⟩ (.refl _)
 rw [if_neg (of_decide_eq_false A)] at hm
 refine Ce<|Xe<|Xe<|Xo ?_
 have hm := congrArg some (houtL5371 _ (Option.some.inj hm).symm)
 obtain rfl := o1 hm
 exact endM K rfl (.refl _) ⟨o, rfl, rfl, L, O⟩

set_option maxRecDepth 20000 in
theorem cSlicesSiftDownOrdered (b : Base) (R : Hp) (W : Int) (j : Int) (d : Int) (k : (List Int)) (a : OA) (c : Nat) (t : Hp) (h5 : OS 3 (OT.fr rI) b.w (sv a k c) k t) (p : (List Int)) (hm : mSlicesSiftDownOrdered W j d k = some p) :
    CallsG Try.prog 55 [sv a k c, iv W, iv j, iv d] b ((t ++ R)) (fun v b' hp' => ∃ (X : Hp), .tuple #[] = v ∧ (X ++ R) = hp' ∧ OS 3 (OT.fr rI) b'.w (sv a p c) p X ∧ p.length = k.length) := by
 refine fE 76 Try.func55 rfl Try.ntmps55 rfl ?_
 unfold mSlicesSiftDownOrdered at hm
 refine Cr<|M rfl rfl<|As rfl rfl<|Te<|Cb<|cL (unc2 fun g e => fun n e' hp' => ∃ (l : Hp), [(0, sv a e c), (2, iv j), (3, iv d), (8, iv g)] = e' ∧ (l ++ R) = hp' ∧ b.Le n ∧ OS 3 (OT.fr rI) n.w (sv a e c) e l ∧ e.length = k.length) hm ⟨t, rfl, rfl, lr, h5, rfl⟩ (.refl _) ?_
 rintro ⟨g, e⟩ n _ _ oL2130 ⟨l, rfl, rfl, u, f, x⟩ Y Z
 unfold mSlicesSiftDownOrdered_L2130 at Y
 have hm := (unc2E Y)
 refine Cb<|Cr<|M rfl rfl ?_
 obtain ⟨_, y, hm⟩ := bS hm
 have y := (kS y).2
 refine Ts rfl (st_mul rfl rfl y) ?_
 obtain ⟨_, z, hm⟩ := bS hm
 have z := (kS z).2
 refine Ts rfl (sa rfl rfl z)<|As rfl rfl<|Te<|Cs<|Cr<|M rfl rfl<|M rfl rfl<|Ts rfl (q6 rfl rfl)<|Te ?_
 refine Cc _ rfl (fun A => ?_) (fun A => ?_)
 rw [if_pos (of_decide_eq_true A)] at hm
 refine Ce<|Xe<|Xi rfl<|Xe<|Xo ?_
 have hm := congrArg some (Z _ (Option.some.inj hm).symm)
 obtain rfl := o1 hm
 exact endM u rfl (.refl _) ⟨l, rfl, rfl, f, x⟩
 rw [if_neg (of_decide_eq_false A)] at hm
 refine Ck<|Xn ?_
 obtain ⟨B, hj3713, hk3713⟩ := bS hm
 refine Cj (fun C e' hp' => [(0, sv a e c), (2, iv j), (3, iv d), (8, iv g), (9, iv B)] = e' ∧ (l ++ R) = hp' ∧ n.Le C) ?_ ?_
 have hm := hj3713
 obtain ⟨x3794, hj3795, hk3795⟩ := bS hm
 refine Cj (fun aa e' hp' => [(0, sv a e c), (2, iv j), (3, iv d), (8, iv g), (9, iv ((2 * g) + 1)), (36, bv x3794)] = e' ∧ (l ++ R) = hp' ∧ n.Le aa) ?_ ?_
 have hm := hj3795
 obtain ⟨_, m, hm⟩ := bS hm
 by_cases q : (((2 * g) + 1) + 1) < j
 rw [if_pos q] at hm
 obtain ⟨_, D, hm⟩ := bS hm
 obtain ⟨x3838, h3839, hm⟩ := bS hm
 obtain ⟨_, E, hm⟩ := bS hm
 obtain ⟨_, F, hm⟩ := bS hm
 obtain ⟨x3856, h3857, hm⟩ := bS hm
 obtain ⟨x3872, hcl3873, hm⟩ := bS hm
 refine Di mixed (.refl _)<|E0 0 rfl (sM rfl) ?_
 have m := (kS m).2
 refine E0 1 rfl (sa rfl rfl m)<|E0 2 rfl (sM rfl)<|E0 3 rfl (lT rfl rfl q)<|E0 4 rfl (sM rfl)<|Yz 5 21 rfl (sM rfl)<|Yz 6 21 rfl (sM rfl)<|Yz 7 21 rfl (sM rfl) ?_
 have D := (kS D).2
 refine Yz 8 21 rfl (sa rfl rfl D) ?_
 obtain ⟨j3840, hj3841, hx3842⟩ := iS h3839
 obtain ⟨cs3843, hs3848, P3849, P3850, hq3851, hr3844, hcs3845, hA3846, hlt3847, hb3852, hho3853⟩ := OS.get (sz := 1) rfl (by decide) f hx3842
 obtain ⟨rfl, rfl⟩ := hr3844
 refine Yz 9 21 rfl (sI j3840 rfl rfl hj3841 hlt3847 hA3846 sl33)<|Ey 10 21 rfl (st_load_rd rfl one3 (fun w ho => hcs3845 w _ ho (List.sublist_append_left _ _) 0 _ rfl))<|Yz 11 21 rfl (sM rfl)<|Yz 12 21 rfl (sM rfl)<|Yz 13 21 rfl (sM rfl) ?_
 have E := (kS E).2
 refine Yz 14 21 rfl (sa rfl rfl E) ?_
 have F := (kS F).2
 refine Yz 15 21 rfl (sa rfl rfl F) ?_
 obtain ⟨j3858, hj3859, hx3860⟩ := iS h3857
 obtain ⟨cs3861, hs3866, P3867, P3868, hq3869, hr3862, hcs3863, hA3864, hlt3865, hb3870, hho3871⟩ := OS.get (sz := 1) rfl (by decide) f hx3860
 obtain ⟨rfl, rfl⟩ := hr3862
 refine Yz 16 21 rfl (sI j3858 rfl rfl hj3859 hlt3865 hA3864 sl33)<|Ey 17 21 rfl (st_load_rd rfl one3 (fun w ho => hcs3863 w _ ho (List.sublist_append_left _ _) 0 _ rfl))<|Eo<|Da [18] (by kernel_rfl) rfl ?_
 refine R_doY lr rfl rfl 21 rfl rfl rfl (uW _ call48 rfl (fun w ho => cCmpLess _ [] x3838 x3856 x3872 hcl3873) (fun _ _ _ h => h.2.symm)) ?_ ?_
 rintro _ _ ⟨⟨_, rfl, _⟩, rfl⟩
 refine ⟨.inr (.refl _), ?_⟩
 refine Ei lr (.refl _)<|E0 19 rfl (pT rfl rfl)<|Eo<|Dd (by kernel_rfl) ?_
 obtain rfl := o1 hm
 exact xJ ⟨rfl, rfl, lr⟩ (.refl _)
 exact Rn
 rw [if_neg q] at hm
 refine Di mixed (.refl _)<|E0 0 rfl (sM rfl) ?_
 have m := (kS m).2
 refine E0 1 rfl (sa rfl rfl m)<|E0 2 rfl (sM rfl)<|E0 3 rfl (lF rfl rfl q)<|E0 4 rfl (sM rfl)<|En 5 21 rfl rfl rfl<|En 6 21 rfl rfl rfl<|En 7 21 rfl rfl rfl<|En 8 21 rfl rfl rfl<|En 9 21 rfl rfl rfl<|En 10 21 rfl rfl rfl ?_
 refine En 11 21 rfl rfl rfl<|En 12 21 rfl rfl rfl<|En 13 21 rfl rfl rfl<|En 14 21 rfl rfl rfl<|En 15 21 rfl rfl rfl<|En 16 21 rfl rfl rfl<|En 17 21 rfl rfl rfl<|En 18 21 rfl rfl rfl<|E0 19 rfl (pF rfl rfl)<|Eo ?_
 refine Dd (by kernel_rfl) ?_
 obtain rfl := o1 hm
 exact xJ ⟨rfl, rfl, lr⟩ (.refl _)
 rintro aa _ _ ⟨rfl, rfl, ab⟩
 have hm := hk3795
 refine Cc _ rfl (fun G => ?_) (fun G => ?_)
 rw [if_pos G] at hm
 refine Cg<|M rfl rfl ?_
 obtain ⟨_, H, hm⟩ := bS hm
 have H := (kS H).2
 refine Ts rfl (sa rfl rfl H)<|As rfl rfl<|Tn ?_
 obtain rfl := o1 hm
 exact xJ ⟨rfl, rfl, ab⟩ (.refl _)
 rw [if_neg (fun hh => Bool.noConfusion (hh.symm.trans G))] at hm
 refine Ck ?_
 obtain rfl := o1 hm
 exact xJ ⟨rfl, rfl, ab⟩ (.refl _)
 rintro C _ _ ⟨rfl, rfl, i⟩
 have hm := hk3713
 refine Cs<|Cs ?_
 obtain ⟨_, I, hm⟩ := bS hm
 obtain ⟨x3913, h3914, hm⟩ := bS hm
 obtain ⟨_, J, hm⟩ := bS hm
 obtain ⟨x3930, h3931, hm⟩ := bS hm
 obtain ⟨x3946, hcl3947, hm⟩ := bS hm
 refine Di mixed (.refl _)<|E0 0 rfl (sM rfl)<|E0 1 rfl (sM rfl)<|E0 2 rfl (sM rfl) ?_
 have I := (kS I).2
 refine E0 3 rfl (sa rfl rfl I) ?_
 obtain ⟨j3915, hj3916, hx3917⟩ := iS h3914
 obtain ⟨cs3918, hs3923, P3924, P3925, hq3926, hr3919, hcs3920, hA3921, hlt3922, hb3927, hho3928⟩ := OS.get (sz := 1) rfl (by decide) (f.le i) hx3917
 obtain ⟨rfl, rfl⟩ := hr3919
 refine E0 4 rfl (sI j3915 rfl rfl hj3916 hlt3922 hA3921 sl33)<|Es 5 rfl (st_load_rd rfl one3 (fun w ho => hcs3920 w _ ho (List.sublist_append_left _ _) 0 _ rfl))<|E0 6 rfl (sM rfl)<|E0 7 rfl (sM rfl)<|E0 8 rfl (sM rfl) ?_
 have J := (kS J).2
 refine E0 9 rfl (sa rfl rfl J) ?_
 obtain ⟨j3932, hj3933, hx3934⟩ := iS h3931
 obtain ⟨cs3935, hs3940, P3941, P3942, hq3943, hr3936, hcs3937, hA3938, hlt3939, hb3944, hho3945⟩ := OS.get (sz := 1) rfl (by decide) (f.le i) hx3934
 obtain ⟨rfl, rfl⟩ := hr3936
 refine E0 10 rfl (sI j3932 rfl rfl hj3933 hlt3939 hA3938 sl33)<|Es 11 rfl (st_load_rd rfl one3 (fun w ho => hcs3937 w _ ho (List.sublist_append_left _ _) 0 _ rfl))<|Eo<|Da [12] (by kernel_rfl) rfl ?_
 refine Rd2 lr rfl rfl (uW _ call48 rfl (fun w ho => cCmpLess _ [] x3913 x3930 x3946 hcl3947) (fun _ _ _ h => h.2.symm)) ?_ ?_
 rintro _ _ ⟨⟨_, rfl, _⟩, rfl⟩
 refine ⟨.inl (by kernel_rfl), ?_⟩
 refine El lr<|E0 13 rfl (sn2 rfl)<|Eo<|Dd (by kernel_rfl)<|Xn ?_
 refine Cc _ rfl (fun K => ?_) (fun K => ?_)
 rw [if_neg (fun hh => Bool.noConfusion (hh.symm.trans (nt K)))] at hm
 refine Ct<|Xr<|Xb<|Xr<|Xb ?_
 have hm := congrArg some (Z _ (Option.some.inj hm).symm)
 obtain rfl := o1 hm
 have he3949 := (f.le i)
 exact rM (rs := []) (vs := []) trivial ⟨l, rfl, rfl, he3949, x⟩ (.refl _) (u.trans i)
 rw [if_pos (nf K)] at hm
 refine Ck<|Xn ?_
 obtain ⟨r, hj4101, hk4101⟩ := bS hm
 refine Cj (fun L e' hp' => ∃ (s : Hp), [(0, sv a r c), (2, iv j), (3, iv d), (9, iv B)] = e' ∧ (s ++ R) = hp' ∧ C.Le L ∧ OS 3 (OT.fr rI) L.w (sv a r c) r s ∧ r.length = k.length) ?_ ?_
 have hm := hj4101
 obtain ⟨_, O, hm⟩ := bS hm
 obtain ⟨_, S, hm⟩ := bS hm
 obtain ⟨_, T, hm⟩ := bS hm
 obtain ⟨o, h4178, hm⟩ := bS hm
 obtain ⟨_, U, hm⟩ := bS hm
 obtain ⟨V, h4195, hm⟩ := bS hm
 obtain ⟨x4210, h4211, hm⟩ := bS hm
 obtain ⟨x4228, h4229, hm⟩ := bS hm
 refine Di mixed (.refl _)<|E0 0 rfl (sM rfl)<|E0 1 rfl (sM rfl)<|E0 2 rfl (sM rfl) ?_
 have O := (kS O).2
 refine E0 3 rfl (sa rfl rfl O)<|E0 4 rfl (sM rfl)<|E0 5 rfl (sM rfl)<|E0 6 rfl (sM rfl) ?_
 have S := (kS S).2
 refine E0 7 rfl (sa rfl rfl S)<|E0 8 rfl (sM rfl)<|E0 9 rfl (sM rfl)<|E0 10 rfl (sM rfl) ?_
 have T := (kS T).2
 refine E0 11 rfl (sa rfl rfl T) ?_
 obtain ⟨j4179, hj4180, hx4181⟩ := iS h4178
 obtain ⟨cs4182, hs4187, P4188, P4189, hq4190, hr4183, hcs4184, hA4185, hlt4186, hb4191, hho4192⟩ := OS.get (sz := 1) rfl (by decide) (f.le i) hx4181
 obtain ⟨rfl, rfl⟩ := hr4183
 refine E0 12 rfl (sI j4179 rfl rfl hj4180 hlt4186 hA4185 sl33)<|Es 13 rfl (st_load_rd rfl one3 (fun w ho => hcs4184 w _ ho (List.sublist_append_left _ _) 0 _ rfl))<|E0 14 rfl (sM rfl)<|E0 15 rfl (sM rfl)<|E0 16 rfl (sM rfl) ?_
 have U := (kS U).2
 refine E0 17 rfl (sa rfl rfl U) ?_
 obtain ⟨j4196, hj4197, hx4198⟩ := iS h4195
 obtain ⟨cs4199, hs4204, P4205, P4206, hq4207, hr4200, hcs4201, hA4202, hlt4203, hb4208, hho4209⟩ := OS.get (sz := 1) rfl (by decide) (f.le i) hx4198
 obtain ⟨rfl, rfl⟩ := hr4200
 refine E0 18 rfl (sI j4196 rfl rfl hj4197 hlt4203 hA4202 sl33)<|Es 19 rfl (st_load_rd rfl one3 (fun w ho => hcs4201 w _ ho (List.sublist_append_left _ _) 0 _ rfl)) ?_
 obtain ⟨j4212, ac, ad⟩ := iS h4211
 obtain ⟨cs4215, hs4220, P4221, P4222, hq4223, hr4216, hcs4217, hA4218, hlt4219, hb4224, hho4225⟩ := OS.get (sz := 1) rfl (by decide) (f.le i) ad
 obtain ⟨rfl, rfl⟩ := hr4216
 refine E0 20 rfl (sI j4212 rfl rfl ac hlt4219 hA4218 sl33)<|Eo<|Da [21] (by kernel_rfl) rfl ?_
 refine Rd2 lr rfl rfl (uP ac (sz := 1) (a' := o) rfl [] R 0 1 [iv o] rfl (f.le i) ad rfl rfl rfl siz3 rfl (mc rfl mn) (fun cs hsj hh => by obtain ⟨rfl, rfl⟩ := hh; exact ⟨by first | decide | exact Nat.le_refl _, rfl, rfl⟩)) ?_ ?_
 rintro _ _ ⟨hs4226, rfl, ae⟩
 refine ⟨.inl (by kernel_rfl), ?_⟩
 refine d_resp 0 rfl (v' := .slice a (put e (d + g) o).length c) (by simp only [put_length])<|d_resp 57 rfl (v' := .slice a (put e (d + g) o).length c) (by simp only [put_length]) ?_
 obtain ⟨j4230, af, ag⟩ := iS h4229
 obtain ⟨cs4233, hs4238, P4239, P4240, hq4241, hr4234, hcs4235, hA4236, hlt4237, hb4242, hho4243⟩ := OS.get (sz := 1) rfl (by decide) ae ag
 obtain ⟨rfl, rfl⟩ := hr4234
 refine El lr<|E0 22 rfl (sI j4230 rfl rfl af hlt4237 hA4236 sl33)<|Eo<|Da [23] (by kernel_rfl) rfl ?_
 refine Rd2 lr rfl rfl (uP af (sz := 1) (a' := V) rfl [] R 0 1 [iv V] rfl ae ag rfl rfl rfl siz3 rfl (mc rfl mn) (fun cs hsj hh => by obtain ⟨rfl, rfl⟩ := hh; exact ⟨by first | decide | exact Nat.le_refl _, rfl, rfl⟩)) ?_ ?_
 rintro _ _ ⟨hs4244, rfl, h4245⟩
 refine ⟨.inl (by kernel_rfl), ?_⟩
 refine d_resp 0 rfl (v' := .slice a (put (put e (d + g) o) (d + B) V).length c) (by simp only [put_length])<|Dd (by kernel_rfl) ?_
 obtain rfl := o1 hm
 exact xJ ⟨hs4244, rfl, rfl, lr, h4245, ((put_length _ _ _).trans ((put_length _ _ _).trans x))⟩ (.refl _)
 exact Rn
 exact Rn
 rintro L _ _ ⟨s, rfl, rfl, hle4095, h4098, hln4100⟩
 have hm := hk4101
 refine Cg<|M rfl rfl<|As rfl rfl<|Tn<|Xm ?_
 exact xM hm ⟨s, rfl, rfl, ((u.trans (i.trans hle4095))), h4098, hln4100⟩ (.refl _)
 exact Rn

set_option maxRecDepth 20000 in
theorem cSlicesHeapSortOrdered (b : Base) (R : Hp) (d : Int) (i : Int) (e : (List Int)) (a : OA) (c : Nat) (u : Hp) (h5 : OS 3 (OT.fr rI) b.w (sv a e c) e u) (o : (List Int)) (hm : mSlicesHeapSortOrdered d i e = some o) :
    CallsG Try.prog 43 [sv a e c, iv d, iv i] b ((u ++ R)) (fun v b' hp' => ∃ (L : Hp), .tuple #[] = v ∧ (L ++ R) = hp' ∧ OS 3 (OT.fr rI) b'.w (sv a o c) o L ∧ o.length = e.length) := by
 refine fE 56 Try.func43 rfl Try.ntmps43 rfl ?_
 unfold mSlicesHeapSortOrdered at hm
 refine Cr<|M rfl rfl<|As rfl rfl<|Te<|Cr<|As rfl rfl<|Te<|Cr<|M rfl rfl<|M rfl rfl ?_
 obtain ⟨_, x, hm⟩ := bS hm
 have x := (kS x).2
 refine Ts rfl (sb rfl rfl x)<|As rfl rfl<|Te ?_
 obtain ⟨p, hj1073, hk1073⟩ := bS hm
 refine Cj (fun q e' hp' => ∃ (r : Hp), [(0, sv a p c), (6, iv d), (7, iv 0), (8, iv (i - d))] = e' ∧ (r ++ R) = hp' ∧ b.Le q ∧ OS 3 (OT.fr rI) q.w (sv a p c) p r ∧ p.length = e.length) ?_ ?_
 have hm := hj1073
 refine Cr<|M rfl rfl ?_
 obtain ⟨_, y, hm⟩ := bS hm
 have y := (kS y).2
 refine Ts rfl (sb rfl rfl y) ?_
 obtain ⟨_, h1075, hm⟩ := bS hm
 obtain ⟨_, z, hm⟩ := bS hm
 have z := (kS z).2
 refine Ts rfl (st_quo rfl rfl (ne0_some h1075) z)<|As rfl rfl<|Te<|Cb<|cL (unc2 fun A g => fun B e' hp' => ∃ (h : Hp), [(0, sv a g c), (6, iv d), (7, iv 0), (8, iv (i - d)), (9, iv A)] = e' ∧ (h ++ R) = hp' ∧ b.Le B ∧ OS 3 (OT.fr rI) B.w (sv a g c) g h ∧ g.length = e.length) hm ⟨u, rfl, rfl, lr, h5, rfl⟩ (.refl _) ?_
 rintro ⟨A, g⟩ B _ _ oL1077 ⟨h, rfl, rfl, O, S, T⟩ U houtL1077
 unfold mSlicesHeapSortOrdered_L1077 at U
 have hm := (unc2E U)
 refine Cs<|Cr<|M rfl rfl<|Ts rfl (q6 rfl rfl)<|Te ?_
 refine Cc _ rfl (fun C => ?_) (fun C => ?_)
 rw [if_pos (of_decide_eq_true C)] at hm
 refine Ck<|Xn<|Cs<|Cb<|Cg<|M rfl rfl<|M rfl rfl<|M rfl rfl<|M rfl rfl ?_
 obtain ⟨V, hcl1112, hm⟩ := bS hm
 refine t_out1 [] [] h R rfl<|Tg _ rfl call55 rfl (cSlicesSiftDownOrdered _ _ A (i - d) d g a c h S V hcl1112) ?_
 rintro _ b1113 _ hle1114 ⟨W, rfl, rfl, h1116, X⟩
 refine t_in1 [] [] W R rfl<|Tr 0 rfl (v' := sv a V c) (by show Value.slice _ _ _ = Value.slice _ _ _; rw [X])<|Tn<|Xm<|Xn<|Cg<|M rfl rfl ?_
 obtain ⟨_, D, hm⟩ := bS hm
 have D := (kS D).2
 refine Ts rfl (sb rfl rfl D)<|As rfl rfl<|Tn ?_
 exact xM hm ⟨W, rfl, rfl, ((O.trans hle1114)), h1116, (X.trans T)⟩ (.refl _)
 rw [if_neg (of_decide_eq_false C)] at hm
 refine Ce<|Xe<|Xe<|Xo ?_
 have hm := congrArg some (houtL1077 _ (Option.some.inj hm).symm)
 obtain rfl := o1 hm
 exact xJ ⟨h, rfl, rfl, O, S, T⟩ (.refl _)
 rintro q _ _ ⟨r, rfl, rfl, hle1067, h1070, hln1072⟩
 have hm := hk1073
 refine Cr<|M rfl rfl ?_
 obtain ⟨_, E, hm⟩ := bS hm
 have E := (kS E).2
 refine Ts rfl (sb rfl rfl E)<|As rfl rfl<|Te<|Cb<|cL (unc2 fun j f => fun s e' hp' => ∃ (t : Hp), [(0, sv a f c), (6, iv d), (7, iv 0), (10, iv j)] = e' ∧ (t ++ R) = hp' ∧ q.Le s ∧ OS 3 (OT.fr rI) s.w (sv a f c) f t ∧ f.length = e.length) hm ⟨r, rfl, rfl, lr, h1070, hln1072⟩ (.refl _) ?_
 rintro ⟨j, f⟩ s _ _ oL1120 ⟨t, rfl, rfl, Y, k, Z⟩ aa houtL1120
 unfold mSlicesHeapSortOrdered_L1120 at aa
 have hm := (unc2E aa)
 refine Cs<|Cr<|M rfl rfl<|Ts rfl (q6 rfl rfl)<|Te ?_
 refine Cc _ rfl (fun F => ?_) (fun F => ?_)
 rw [if_pos (of_decide_eq_true F)] at hm
 refine Ck<|Xn<|Cs<|Cb ?_
 obtain ⟨l, hj1877, hk1877⟩ := bS hm
 refine Cj (fun G e' hp' => ∃ (m : Hp), [(0, sv a l c), (6, iv d), (7, iv 0), (10, iv j)] = e' ∧ (m ++ R) = hp' ∧ s.Le G ∧ OS 3 (OT.fr rI) G.w (sv a l c) l m ∧ l.length = e.length) ?_ ?_
 have hm := hj1877
 obtain ⟨_, H, hm⟩ := bS hm
 obtain ⟨_, I, hm⟩ := bS hm
 obtain ⟨n, h1951, hm⟩ := bS hm
 obtain ⟨J, h1967, hm⟩ := bS hm
 obtain ⟨x1982, h1983, hm⟩ := bS hm
 obtain ⟨x2000, h2001, hm⟩ := bS hm
 refine Di mixed (.refl _)<|E0 0 rfl (sM rfl)<|E0 1 rfl (sM rfl)<|E0 2 rfl (sM rfl)<|E0 3 rfl (sM rfl)<|E0 4 rfl (sM rfl) ?_
 have H := (kS H).2
 refine E0 5 rfl (sa rfl rfl H)<|E0 6 rfl (sM rfl)<|E0 7 rfl (sM rfl)<|E0 8 rfl (sM rfl) ?_
 have I := (kS I).2
 refine E0 9 rfl (sa rfl rfl I) ?_
 obtain ⟨j1952, hj1953, hx1954⟩ := iS h1951
 obtain ⟨cs1955, hs1960, P1961, P1962, hq1963, hr1956, hcs1957, hA1958, hlt1959, hb1964, hho1965⟩ := OS.get (sz := 1) rfl (by decide) k hx1954
 obtain ⟨rfl, rfl⟩ := hr1956
 refine E0 10 rfl (sI j1952 rfl rfl hj1953 hlt1959 hA1958 sl33)<|Es 11 rfl (st_load_rd rfl one3 (fun w ho => hcs1957 w _ ho (List.sublist_append_left _ _) 0 _ rfl))<|E0 12 rfl (sM rfl)<|E0 13 rfl (sM rfl) ?_
 obtain ⟨j1968, hj1969, hx1970⟩ := iS h1967
 obtain ⟨cs1971, hs1976, P1977, P1978, hq1979, hr1972, hcs1973, hA1974, hlt1975, hb1980, hho1981⟩ := OS.get (sz := 1) rfl (by decide) k hx1970
 obtain ⟨rfl, rfl⟩ := hr1972
 refine E0 14 rfl (sI j1968 rfl rfl hj1969 hlt1975 hA1974 sl33)<|Es 15 rfl (st_load_rd rfl one3 (fun w ho => hcs1973 w _ ho (List.sublist_append_left _ _) 0 _ rfl)) ?_
 obtain ⟨j1984, ab, ac⟩ := iS h1983
 obtain ⟨cs1987, hs1992, P1993, P1994, hq1995, hr1988, hcs1989, hA1990, hlt1991, hb1996, hho1997⟩ := OS.get (sz := 1) rfl (by decide) k ac
 obtain ⟨rfl, rfl⟩ := hr1988
 refine E0 16 rfl (sI j1984 rfl rfl ab hlt1991 hA1990 sl33)<|Eo<|Da [17] (by kernel_rfl) rfl ?_
 refine Rd2 lr rfl rfl (uP ab (sz := 1) (a' := n) rfl [] R 0 1 [iv n] rfl k ac rfl rfl rfl siz3 rfl (mc rfl mn) (fun cs hsj hh => by obtain ⟨rfl, rfl⟩ := hh; exact ⟨by first | decide | exact Nat.le_refl _, rfl, rfl⟩)) ?_ ?_
 rintro _ _ ⟨hs1998, rfl, ad⟩
 refine ⟨.inl (by kernel_rfl), ?_⟩
 refine d_resp 0 rfl (v' := .slice a (put f d n).length c) (by simp only [put_length])<|d_resp 35 rfl (v' := .slice a (put f d n).length c) (by simp only [put_length]) ?_
 obtain ⟨j2002, ae, af⟩ := iS h2001
 obtain ⟨cs2005, hs2010, P2011, P2012, hq2013, hr2006, hcs2007, hA2008, hlt2009, hb2014, hho2015⟩ := OS.get (sz := 1) rfl (by decide) ad af
 obtain ⟨rfl, rfl⟩ := hr2006
 refine El lr<|E0 18 rfl (sI j2002 rfl rfl ae hlt2009 hA2008 sl33)<|Eo<|Da [19] (by kernel_rfl) rfl ?_
 refine Rd2 lr rfl rfl (uP ae (sz := 1) (a' := J) rfl [] R 0 1 [iv J] rfl ad af rfl rfl rfl siz3 rfl (mc rfl mn) (fun cs hsj hh => by obtain ⟨rfl, rfl⟩ := hh; exact ⟨by first | decide | exact Nat.le_refl _, rfl, rfl⟩)) ?_ ?_
 rintro _ _ ⟨hs2016, rfl, h2017⟩
 refine ⟨.inl (by kernel_rfl), ?_⟩
 refine d_resp 0 rfl (v' := .slice a (put (put f d n) (d + j) J).length c) (by simp only [put_length])<|Dd (by kernel_rfl) ?_
 obtain rfl := o1 hm
 exact xJ ⟨hs2016, rfl, rfl, lr, h2017, ((put_length _ _ _).trans ((put_length _ _ _).trans Z))⟩ (.refl _)
 exact Rn
 exact Rn
 rintro G _ _ ⟨m, rfl, rfl, hle1871, h1874, hln1876⟩
 have hm := hk1877
 refine Cg<|M rfl rfl<|M rfl rfl<|M rfl rfl<|M rfl rfl ?_
 obtain ⟨ag, hcl2019, hm⟩ := bS hm
 refine t_out1 [] [] m R rfl<|Tg _ rfl call55 rfl (cSlicesSiftDownOrdered _ _ 0 j d l a c m h1874 ag hcl2019) ?_
 rintro _ b2020 _ hle2021 ⟨ah, rfl, rfl, h2023, ai⟩
 refine t_in1 [] [] ah R rfl<|Tr 0 rfl (v' := sv a ag c) (by show Value.slice _ _ _ = Value.slice _ _ _; rw [ai])<|Tn<|Xm<|Xn<|Cg<|M rfl rfl ?_
 obtain ⟨_, K, hm⟩ := bS hm
 have K := (kS K).2
 refine Ts rfl (sb rfl rfl K)<|As rfl rfl<|Tn ?_
 exact xM hm ⟨ah, rfl, rfl, ((Y.trans (hle1871.trans hle2021))), h2023, (ai.trans hln1876)⟩ (.refl _)
 rw [if_neg (of_decide_eq_false F)] at hm
 refine Ce<|Xe<|Xe<|Xo ?_
 have hm := congrArg some (houtL1120 _ (Option.some.inj hm).symm)
 obtain rfl := o1 hm
 exact endM (hle1067.trans Y) rfl (.refl _) ⟨t, rfl, rfl, k, Z⟩

set_option maxRecDepth 20000 in
theorem cSlicesOrder2Ordered (b : Base) (R : Hp) (d : (List Int)) (a : Int) (c : Int) (i : Int) (e : Nat) (j : OA) (k : Nat) (l : FZ rI b.w j k d) (m : Int) (n : Int) (o : Int) (hm : mSlicesOrder2Ordered d a c i = some (m, n, o)) :
    CallsG Try.prog 62 [sv j d k, iv a, iv c, pb e] b ((e, Cl 3 [iv i]) :: R) (fun v b' hp' => .tuple #[iv m, iv n] = v ∧ (e, Cl 3 [iv o]) :: R = hp') := by
 refine fE 28 Try.func62 rfl Try.ntmps62 rfl ?_
 unfold mSlicesOrder2Ordered at hm
 refine Cr<|As rfl rfl<|As rfl rfl<|Te<|Cs<|Cs ?_
 obtain ⟨p, q, hm⟩ := bS hm
 obtain ⟨r, s, hm⟩ := bS hm
 obtain ⟨t, u, hm⟩ := bS hm
 refine Di mixed (.refl _)<|E0 0 rfl (sM rfl)<|E0 1 rfl (sM rfl) ?_
 obtain ⟨x, y, z⟩ := iS q
 obtain ⟨L, A, B, C, D⟩ := FZ.get (sz := 1) rfl (by decide) l z
 obtain rfl := A
 refine E0 2 rfl (sI x rfl rfl y D C sl33)<|Es 3 rfl (sO rfl one3 (B 0 _ rfl))<|E0 4 rfl (sM rfl)<|E0 5 rfl (sM rfl) ?_
 obtain ⟨E, F, G⟩ := iS s
 obtain ⟨O, H, I, J, K⟩ := FZ.get (sz := 1) rfl (by decide) l G
 obtain rfl := H
 refine E0 6 rfl (sI E rfl rfl F K J sl33)<|Es 7 rfl (sO rfl one3 (I 0 _ rfl))<|Eo<|Da [8] (by kernel_rfl) rfl ?_
 refine Rd2 lr rfl rfl (uW _ call48 rfl (fun w ho => cCmpLess _ [] p r t u) (fun _ _ _ h => h.2.symm)) ?_ ?_
 rintro _ _ ⟨⟨_, rfl, _⟩, rfl⟩
 refine ⟨.inl (by kernel_rfl), ?_⟩
 refine Dd (by kernel_rfl)<|Xn ?_
 refine Cc _ rfl (fun f => ?_) (fun f => ?_)
 rw [if_pos f] at hm
 refine Cr<|M rfl rfl<|Ts rfl (sN rfl)<|Ts rfl (sL 0 rfl one3 rfl rfl) ?_
 obtain ⟨_, g, hm⟩ := bS hm
 have g := (kS g).2
 refine Ts rfl (sa rfl rfl g)<|Ts rfl (sN rfl)<|Do rfl (uS 0 rfl rfl siz3 rfl rfl (by simp)) ?_
 rintro _ _ rfl
 refine Te<|Cr<|M rfl rfl<|M rfl rfl<|As rfl rfl<|As rfl rfl<|Te<|Ct<|Xr ?_
 obtain ⟨rfl, rfl, rfl⟩ := some3 hm
 exact rM (rs := [.tmp 8, .tmp 9]) (vs := [iv c, iv a]) ⟨rfl, ⟨rfl, trivial⟩⟩ ⟨rfl, rfl⟩ (.refl _) lr
 rw [if_neg (fun hh => Bool.noConfusion (hh.symm.trans f))] at hm
 refine Ck<|Xn<|Cr<|M rfl rfl<|M rfl rfl<|As rfl rfl<|As rfl rfl<|Te<|Ct ?_
 obtain ⟨rfl, rfl, rfl⟩ := some3 hm
 exact rM (rs := [.tmp 8, .tmp 9]) (vs := [iv a, iv c]) ⟨rfl, ⟨rfl, trivial⟩⟩ ⟨rfl, rfl⟩ (.refl _) lr
 exact Rn

set_option maxRecDepth 20000 in
theorem cSlicesMedianOrdered (b : Base) (R : Hp) (a : (List Int)) (f : Int) (g : Int) (h : Int) (i : Int) (c : Nat) (d : OA) (e : Nat) (j : FZ rI b.w d e a) (l : Int) (m : Int) (hm : mSlicesMedianOrdered a f g h i = some (l, m)) :
    CallsG Try.prog 59 [sv d a e, iv f, iv g, iv h, pb c] b ((c, Cl 3 [iv i]) :: R) (fun v b' hp' => iv l = v ∧ (c, Cl 3 [iv m]) :: R = hp') := by
 refine fE 36 Try.func59 rfl Try.ntmps59 rfl ?_
 unfold mSlicesMedianOrdered at hm
 refine Cr<|As rfl rfl<|Te<|Cr<|M rfl rfl<|M rfl rfl<|M rfl rfl<|M rfl rfl ?_
 obtain ⟨⟨n, o, p⟩, u, hm⟩ := bS hm
 have hm := (unc3E hm)
 refine Tg _ rfl call62 rfl (cSlicesOrder2Ordered _ _ a f g i c d e j n o p u) ?_
 rintro _ C _ k ⟨rfl, rfl⟩
 refine M rfl rfl<|Ts rfl (st_extract rfl rfl)<|Ts rfl (st_extract rfl rfl)<|As rfl rfl<|As rfl rfl<|Te<|Cr<|M rfl rfl<|M rfl rfl<|M rfl rfl ?_
 refine M rfl rfl ?_
 obtain ⟨⟨q, w, r⟩, x, hm⟩ := bS hm
 have hm := (unc3E hm)
 refine Tg _ rfl call62 rfl (cSlicesOrder2Ordered _ _ a o h p c d e (j.le k) q w r x) ?_
 rintro _ D _ s ⟨rfl, rfl⟩
 refine M rfl rfl<|Ts rfl (st_extract rfl rfl)<|Ts rfl (st_extract rfl rfl)<|As rfl rfl<|As rfl rfl<|Te<|Cr<|M rfl rfl<|M rfl rfl<|M rfl rfl ?_
 refine M rfl rfl ?_
 obtain ⟨⟨y, t, z⟩, A, hm⟩ := bS hm
 have hm := (unc3E hm)
 refine Tg _ rfl call62 rfl (cSlicesOrder2Ordered _ _ a n q r c d e (j.le (k.trans s)) y t z A) ?_
 rintro _ E _ B ⟨rfl, rfl⟩
 refine M rfl rfl<|Ts rfl (st_extract rfl rfl)<|Ts rfl (st_extract rfl rfl)<|As rfl rfl<|As rfl rfl<|Te<|Cr<|M rfl rfl<|As rfl rfl<|Te ?_
 refine Ct ?_
 obtain ⟨rfl, rfl⟩ := some2 hm
 exact rM (rs := [.tmp 10]) (vs := [iv t]) ⟨rfl, trivial⟩ ⟨rfl, rfl⟩ (.refl _) (k.trans (s.trans B))

set_option maxRecDepth 20000 in
theorem cSlicesMedianAdjacentOrdered (b : Base) (R : Hp) (c : (List Int)) (a : Int) (e : Int) (d : Nat) (f : OA) (g : Nat) (m : FZ rI b.w f g c) (j : Int) (k : Int) (hm : mSlicesMedianAdjacentOrdered c a e = some (j, k)) :
    CallsG Try.prog 58 [sv f c g, iv a, pb d] b ((d, Cl 3 [iv e]) :: R) (fun v b' hp' => iv j = v ∧ (d, Cl 3 [iv k]) :: R = hp') := by
 refine fE 15 Try.func58 rfl Try.ntmps58 rfl ?_
 unfold mSlicesMedianAdjacentOrdered at hm
 refine Cr<|As rfl rfl<|Te<|Cr<|M rfl rfl<|M rfl rfl ?_
 obtain ⟨_, h, hm⟩ := bS hm
 have h := (kS h).2
 refine Ts rfl (sb rfl rfl h)<|M rfl rfl<|M rfl rfl ?_
 obtain ⟨_, i, hm⟩ := bS hm
 have i := (kS i).2
 refine Ts rfl (sa rfl rfl i)<|M rfl rfl ?_
 obtain ⟨⟨l, n⟩, o, hm⟩ := bS hm
 have hm := (unc2E hm)
 refine Tg _ rfl call59 rfl (cSlicesMedianOrdered _ _ c (a - 1) a (a + 1) e d f g m l n o) ?_
 rintro _ q _ p ⟨rfl, rfl⟩
 refine As rfl rfl<|Te<|Ct ?_
 obtain ⟨rfl, rfl⟩ := some2 hm
 exact rM (rs := [.tmp 6]) (vs := [iv l]) ⟨rfl, trivial⟩ ⟨rfl, rfl⟩ (.refl _) p

set_option maxRecDepth 20000 in
theorem cSlicesChoosePivotOrdered (b : Base) (R : Hp) (a : (List Int)) (c : Int) (g : Int) (e : OA) (f : Nat) (h : FZ rI b.w e f a) (A : Int) (B : Int) (hm : mSlicesChoosePivotOrdered a c g = some (A, B)) :
    CallsG Try.prog 45 [sv e a f, iv c, iv g] b (R) (fun v b' hp' => .tuple #[iv A, iv B] = v ∧ R = hp') := by
 refine fE 57 Try.func45 rfl Try.ntmps45 rfl ?_
 unfold mSlicesChoosePivotOrdered at hm
 refine Cr<|As rfl rfl<|As rfl rfl<|Te<|Cr<|M rfl rfl<|M rfl rfl ?_
 obtain ⟨_, j, hm⟩ := bS hm
 have j := (kS j).2
 refine Ts rfl (sb rfl rfl j)<|As rfl rfl<|Te<|Cr<|Do rfl (uA [iv 0] zero3 rfl) ?_
 rintro _ _ ⟨d, rfl, rfl⟩
 refine Te<|Cr<|M rfl rfl<|M rfl rfl ?_
 obtain ⟨_, O, hm⟩ := bS hm
 obtain ⟨_, k, hm⟩ := bS hm
 have k := (kS k).2
 refine Ts rfl (st_quo rfl rfl (ne0_some O) k) ?_
 obtain ⟨_, l, hm⟩ := bS hm
 have l := (kS l).2
 refine Ts rfl (st_mul rfl rfl l) ?_
 obtain ⟨_, m, hm⟩ := bS hm
 have m := (kS m).2
 refine Ts rfl (sa rfl rfl m)<|As rfl rfl<|Te<|Cr<|M rfl rfl<|M rfl rfl ?_
 obtain ⟨_, S, hm⟩ := bS hm
 obtain ⟨_, n, hm⟩ := bS hm
 have n := (kS n).2
 refine Ts rfl (st_quo rfl rfl (ne0_some S) n) ?_
 obtain ⟨_, o, hm⟩ := bS hm
 have o := (kS o).2
 refine Ts rfl (st_mul rfl rfl o) ?_
 obtain ⟨_, p, hm⟩ := bS hm
 have p := (kS p).2
 refine Ts rfl (sa rfl rfl p)<|As rfl rfl<|Te<|Cr<|M rfl rfl<|M rfl rfl ?_
 obtain ⟨_, T, hm⟩ := bS hm
 obtain ⟨_, q, hm⟩ := bS hm
 have q := (kS q).2
 refine Ts rfl (st_quo rfl rfl (ne0_some T) q) ?_
 obtain ⟨_, r, hm⟩ := bS hm
 have r := (kS r).2
 refine Ts rfl (st_mul rfl rfl r) ?_
 obtain ⟨_, s, hm⟩ := bS hm
 have s := (kS s).2
 refine Ts rfl (sa rfl rfl s)<|As rfl rfl<|Te ?_
 obtain ⟨⟨i, U⟩, V, W⟩ := bS hm
 refine Cj (fun C e' hp' => [(9, pb d), (11, iv i)] = e' ∧ (d, Cl 3 [iv U]) :: R = hp' ∧ b.Le C) ?_ ?_
 have hm := V
 refine Cr<|M rfl rfl<|Ts rfl (q6 rfl rfl)<|Te ?_
 refine Cc _ rfl (fun t => ?_) (fun t => ?_)
 rw [if_pos (of_decide_eq_true t)] at hm
 obtain ⟨⟨D, E, F, G⟩, X, Y⟩ := bS hm
 refine Cj (fun H e' hp' => [(0, sv e a f), (9, pb d), (10, iv D), (11, iv E), (12, iv F)] = e' ∧ (d, Cl 3 [iv G]) :: R = hp' ∧ b.Le H) ?_ ?_
 have hm := X
 refine Cr<|M rfl rfl<|Ts rfl (q6 rfl rfl)<|Te ?_
 refine Cc _ rfl (fun u => ?_) (fun u => ?_)
 rw [if_pos (of_decide_eq_true u)] at hm
 refine Cr<|M rfl rfl<|M rfl rfl ?_
 obtain ⟨⟨Z, I⟩, aa, hm⟩ := bS hm
 have hm := (unc2E hm)
 refine Tg _ rfl call58 rfl (cSlicesMedianAdjacentOrdered _ _ a (c + ((Int.tdiv (g - c) 4) * 1)) 0 d e f h Z I aa) ?_
 rintro _ al _ w ⟨rfl, rfl⟩
 refine As rfl rfl<|Te<|Cr<|M rfl rfl<|M rfl rfl ?_
 obtain ⟨⟨ab, J⟩, ac, hm⟩ := bS hm
 have hm := (unc2E hm)
 refine Tg _ rfl call58 rfl (cSlicesMedianAdjacentOrdered _ _ a (c + ((Int.tdiv (g - c) 4) * 2)) I d e f (h.le w) ab J ac) ?_
 rintro _ am _ K ⟨rfl, rfl⟩
 refine As rfl rfl<|Te<|Cg<|M rfl rfl<|M rfl rfl ?_
 obtain ⟨⟨ad, ae⟩, af, hm⟩ := bS hm
 have hm := (unc2E hm)
 refine Tg _ rfl call58 rfl (cSlicesMedianAdjacentOrdered _ _ a (c + ((Int.tdiv (g - c) 4) * 3)) J d e f (h.le (w.trans K)) ad ae af) ?_
 rintro _ an _ ag ⟨rfl, rfl⟩
 refine As rfl rfl<|Tn ?_
 obtain ⟨rfl, rfl, rfl, rfl⟩ := some4 hm
 exact xJ ⟨rfl, rfl, (w.trans (K.trans ag))⟩ (.refl _)
 rw [if_neg (of_decide_eq_false u)] at hm
 refine Ck ?_
 obtain ⟨rfl, rfl, rfl, rfl⟩ := some4 hm
 exact xJ ⟨rfl, rfl, lr⟩ (.refl _)
 rintro H _ _ ⟨rfl, rfl, L⟩
 have hm := (unc4E Y)
 refine Cg<|M rfl rfl<|M rfl rfl<|M rfl rfl<|M rfl rfl ?_
 obtain ⟨⟨ah, ai⟩, aj, hm⟩ := bS hm
 have hm := (unc2E hm)
 refine Tg _ rfl call59 rfl (cSlicesMedianOrdered _ _ a D E F G d e f (h.le L) ah ai aj) ?_
 rintro _ ao _ ak ⟨rfl, rfl⟩
 refine As rfl rfl<|Tn ?_
 obtain ⟨rfl, rfl⟩ := some2 hm
 exact xJ ⟨rfl, rfl, (L.trans ak)⟩ (.refl _)
 rw [if_neg (of_decide_eq_false t)] at hm
 refine Ck ?_
 obtain ⟨rfl, rfl⟩ := some2 hm
 exact xJ ⟨rfl, rfl, lr⟩ (.refl _)
 rintro C _ _ ⟨rfl, rfl, x⟩
 have hm := (unc2E W)
 refine Cr<|Ts rfl (sL 0 rfl one3 rfl rfl)<|Te<|Cb<|Cr<|Ts rfl (q1 rfl rfl)<|As rfl rfl<|Te ?_
 refine Cc _ rfl (fun y => ?_) (fun y => ?_)
 rw [if_pos (of_decide_eq_true y)] at hm
 refine Cr<|M rfl rfl<|As rfl rfl<|As rfl rfl<|Te<|Ct<|Xb ?_
 obtain ⟨rfl, rfl⟩ := some2 hm
 exact rM (rs := [.tmp 6, .tmp 7]) (vs := [iv i, iv 1]) ⟨rfl, ⟨rfl, trivial⟩⟩ ⟨rfl, rfl⟩ (.cons _ (.refl _)) x
 rw [if_neg (of_decide_eq_false y)] at hm
 refine Cr<|Ts rfl (q1 rfl rfl)<|As rfl rfl<|Te ?_
 refine Cc _ rfl (fun z => ?_) (fun z => ?_)
 rw [if_pos (of_decide_eq_true z)] at hm
 refine Cr<|M rfl rfl<|As rfl rfl<|As rfl rfl<|Te<|Ct<|Xb ?_
 obtain ⟨rfl, rfl⟩ := some2 hm
 exact rM (rs := [.tmp 6, .tmp 7]) (vs := [iv i, iv 2]) ⟨rfl, ⟨rfl, trivial⟩⟩ ⟨rfl, rfl⟩ (.cons _ (.refl _)) x
 rw [if_neg (of_decide_eq_false z)] at hm
 refine Cr<|M rfl rfl<|As rfl rfl<|As rfl rfl<|Te<|Ct<|Xb ?_
 obtain ⟨rfl, rfl⟩ := some2 hm
 exact rM (rs := [.tmp 6, .tmp 7]) (vs := [iv i, iv 0]) ⟨rfl, ⟨rfl, trivial⟩⟩ ⟨rfl, rfl⟩ (.cons _ (.refl _)) x

set_option maxRecDepth 20000 in
theorem cSlicesReverseRangeOrdered (b : Base) (R : Hp) (x : Int) (y : Int) (e : (List Int)) (a : OA) (c : Nat) (o : Hp) (I : OS 3 (OT.fr rI) b.w (sv a e c) e o) (i : (List Int)) (hm : mSlicesReverseRangeOrdered x y e = some i) :
    CallsG Try.prog 46 [sv a e c, iv x, iv y] b ((o ++ R)) (fun v b' hp' => ∃ (z : Hp), .tuple #[] = v ∧ (z ++ R) = hp' ∧ OS 3 (OT.fr rI) b'.w (sv a i c) i z ∧ i.length = e.length) := by
 refine fE 32 Try.func46 rfl Try.ntmps46 rfl ?_
 unfold mSlicesReverseRangeOrdered at hm
 refine Cr<|M rfl rfl<|As rfl rfl<|Te<|Cr<|M rfl rfl ?_
 obtain ⟨_, p, hm⟩ := bS hm
 have p := (kS p).2
 refine Ts rfl (sb rfl rfl p)<|As rfl rfl<|Te<|Cb<|cL (unc3 fun f j d => fun k e' hp' => ∃ (l : Hp), [(0, sv a d c), (6, iv f), (7, iv j)] = e' ∧ (l ++ R) = hp' ∧ b.Le k ∧ OS 3 (OT.fr rI) k.w (sv a d c) d l ∧ d.length = e.length) hm ⟨o, rfl, rfl, lr, I, rfl⟩ (.refl _) ?_
 rintro ⟨f, j, d⟩ k _ _ az ⟨l, rfl, rfl, A, g, B⟩ C J
 unfold mSlicesReverseRangeOrdered_L882 at C
 have hm := (unc3E C)
 refine Cs<|Cr<|M rfl rfl<|M rfl rfl<|Ts rfl (q3 rfl rfl)<|Te ?_
 refine Cc _ rfl (fun q => ?_) (fun q => ?_)
 rw [if_pos (of_decide_eq_true q)] at hm
 refine Ck<|Xn<|Cb ?_
 obtain ⟨m, K, L⟩ := bS hm
 refine Cj (fun r e' hp' => ∃ (n : Hp), [(0, sv a m c), (6, iv f), (7, iv j)] = e' ∧ (n ++ R) = hp' ∧ k.Le r ∧ OS 3 (OT.fr rI) r.w (sv a m c) m n ∧ m.length = e.length) ?_ ?_
 have hm := K
 obtain ⟨h, O, hm⟩ := bS hm
 obtain ⟨s, S, hm⟩ := bS hm
 obtain ⟨aA, T, hm⟩ := bS hm
 obtain ⟨aB, U, hm⟩ := bS hm
 refine Di mixed (.refl _)<|E0 0 rfl (sM rfl)<|E0 1 rfl (sM rfl)<|E0 2 rfl (sM rfl)<|E0 3 rfl (sM rfl)<|E0 4 rfl (sM rfl)<|E0 5 rfl (sM rfl) ?_
 obtain ⟨V, W, X⟩ := iS O
 obtain ⟨aC, aD, aE, aF, aG, Y, Z, aa, ab, aH, aI⟩ := OS.get (sz := 1) rfl (by decide) g X
 obtain ⟨rfl, rfl⟩ := Y
 refine E0 6 rfl (sI V rfl rfl W ab aa sl33)<|Es 7 rfl (st_load_rd rfl one3 (fun w ho => Z w _ ho (List.sublist_append_left _ _) 0 _ rfl))<|E0 8 rfl (sM rfl)<|E0 9 rfl (sM rfl) ?_
 obtain ⟨ac, ad, ae⟩ := iS S
 obtain ⟨aJ, aK, aL, aM, aN, af, ag, ah, ai, aO, aP⟩ := OS.get (sz := 1) rfl (by decide) g ae
 obtain ⟨rfl, rfl⟩ := af
 refine E0 10 rfl (sI ac rfl rfl ad ai ah sl33)<|Es 11 rfl (st_load_rd rfl one3 (fun w ho => ag w _ ho (List.sublist_append_left _ _) 0 _ rfl)) ?_
 obtain ⟨aj, D, E⟩ := iS T
 obtain ⟨aQ, aR, aS, aT, aU, ak, aV, al, am, aW, aX⟩ := OS.get (sz := 1) rfl (by decide) g E
 obtain ⟨rfl, rfl⟩ := ak
 refine E0 12 rfl (sI aj rfl rfl D am al sl33)<|Eo<|Da [13] (by kernel_rfl) rfl ?_
 refine Rd2 lr rfl rfl (uP D (sz := 1) (a' := h) rfl [] R 0 1 [iv h] rfl g E rfl rfl rfl siz3 rfl (mc rfl mn) (fun cs hsj hh => by obtain ⟨rfl, rfl⟩ := hh; exact ⟨by first | decide | exact Nat.le_refl _, rfl, rfl⟩)) ?_ ?_
 rintro _ _ ⟨aY, rfl, F⟩
 refine ⟨.inl (by kernel_rfl), ?_⟩
 refine d_resp 0 rfl (v' := .slice a (put d f h).length c) (by simp only [put_length])<|d_resp 16 rfl (v' := .slice a (put d f h).length c) (by simp only [put_length]) ?_
 obtain ⟨an, G, H⟩ := iS U
 obtain ⟨aZ, a0, a1, a2, a3, ao, a4, aq, ar, a5, a6⟩ := OS.get (sz := 1) rfl (by decide) F H
 obtain ⟨rfl, rfl⟩ := ao
 refine El lr<|E0 14 rfl (sI an rfl rfl G ar aq sl33)<|Eo<|Da [15] (by kernel_rfl) rfl ?_
 refine Rd2 lr rfl rfl (uP G (sz := 1) (a' := s) rfl [] R 0 1 [iv s] rfl F H rfl rfl rfl siz3 rfl (mc rfl mn) (fun cs hsj hh => by obtain ⟨rfl, rfl⟩ := hh; exact ⟨by first | decide | exact Nat.le_refl _, rfl, rfl⟩)) ?_ ?_
 rintro _ _ ⟨au, rfl, av⟩
 refine ⟨.inl (by kernel_rfl), ?_⟩
 refine d_resp 0 rfl (v' := .slice a (put (put d f h) j s).length c) (by simp only [put_length])<|Dd (by kernel_rfl) ?_
 obtain rfl := o1 hm
 exact xJ ⟨au, rfl, rfl, lr, av, ((put_length _ _ _).trans ((put_length _ _ _).trans B))⟩ (.refl _)
 exact Rn
 exact Rn
 rintro r _ _ ⟨n, rfl, rfl, aw, ax, ay⟩
 have hm := L
 refine Cr<|M rfl rfl ?_
 obtain ⟨_, t, hm⟩ := bS hm
 have t := (kS t).2
 refine Ts rfl (sa rfl rfl t)<|As rfl rfl<|Te<|Cg<|M rfl rfl ?_
 obtain ⟨_, u, hm⟩ := bS hm
 have u := (kS u).2
 refine Ts rfl (sb rfl rfl u)<|As rfl rfl<|Tn<|Xm ?_
 exact xM hm ⟨n, rfl, rfl, ((A.trans aw)), ax, ay⟩ (.refl _)
 rw [if_neg (of_decide_eq_false q)] at hm
 refine Ce<|Xe<|Xe<|Xo ?_
 have hm := congrArg some (J _ (Option.some.inj hm).symm)
 obtain rfl := o1 hm
 exact endM A rfl (.refl _) ⟨l, rfl, rfl, g, B⟩

end Go.Proofs.Ytbhomnclohcecaa
