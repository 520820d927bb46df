/- Contracts: the code computes its model (part 2). -/
import Derived.Test.YtckgfeglhjiflaaDoorZP1
set_option linter.unusedVariables false
set_option linter.unusedSimpArgs false
namespace Go.Proofs.YtckgfeglhjiflaaDoor
open Go.RowKit Go.Fp

open Go.Fp renaming t_ne → Te, t_nil → Tn, t_callG → Tg, t_resp → Tr, c_sr → Cr, c_seq → Cs, c_region → Cg, c_block → Cb, c_ret → Ct, c_skip → Ck, c_exit → Ce, c_join → Cj, x_then_normal → Xn, x_then_ret → Xr, x_then_exit → Xe, x_block_ret → Xb, x_block_normal → Xm, x_block_out → Xo, x_block_on → Xi, E_st → Es, E_s0 → E0, E_yes → Ey, E_y0 → Yz, E_in → Ei, E_il → El, E_out → Eo, D_all → Da, D_done → Dd, D_drawI → Di, R_do → Rd2, R_nil → Rn, st_load → sL, st_nil → sN, st_len → sE, st_move → sM, st_pick_t → pT, st_pick_f → pF, st_index_old → sI, st_add → sa, st_sub → sb, st_lss_t → lT, st_lss_f → lF, st_not → sn2, u_alloc → uA, u_store → uS, u_callW0 → uW, u_putOS → uP, fn_enterG → fE, bindS → bS, some1 → o1, idx_some → iS, chk_some → kS, mem_c → mc, mem_n → mn, st_eql → q1, st_lss → q3, st_leq → q4, st_gtr → q5, st_geq → q6
set_option maxRecDepth 20000 in
theorem cSlicesPartialInsertionSortCmpFunc (b : Base) (R : Hp) (x6 x7 l8 A3 c4 eh) (h5 : OS 42 (OT.fr rGuidePoint) b.w (sv A3 l8 c4) l8 eh) (bo an) (hm : mSlicesPartialInsertionSortCmpFunc x6 x7 l8 = some (bo, an)):
    CallsG Tryd.prog 112 [sv A3 l8 c4, iv x6, iv x7, .func (.func 76) #[] #[]] b ((eh ++ R)) (fun v b' hp' => ∃ aY, bv bo = v ∧ (aY ++ R) = hp' ∧ OS 42 (OT.fr rGuidePoint) b'.w (sv A3 an c4) an aY ∧ an.length = l8.length) := by
 refine fE 141 Tryd.func112 rfl Tryd.ntmps112 rfl ?_
 unfold mSlicesPartialInsertionSortCmpFunc at hm
 refine Cr<|aS rfl<|Te<|Cr<|mV rfl ?_
 obtain ⟨_, ax, hm⟩ := bS hm
 have ax := (kS ax).2
 refine tS (sa rfl rfl ax)<|aS rfl<|Te ?_
 obtain ⟨ds, cb, t⟩ := bS hm
 refine Cj (fun ay e' hp' => ∃ (V : (List GuidePoint)), ∃ W, [] = e' ∧ (W ++ R) = hp' ∧ b.Le ay ∧ OS 42 (OT.fr rGuidePoint) ay.w (sv A3 V c4) V W ∧ V.length = l8.length ∧ ds = .inl V) ?_ ?_
 have hm := cb
 refine Cr<|aS rfl<|Te<|Cb<|lL (unc3 fun bp k c => fun J e' hp' => ∃ i, [(0, sv A3 c c4), (1, iv x6), (2, iv x7), (3, .func (.func 76) #[] #[]), (9, iv bp), (10, iv k)] = e' ∧ (i ++ R) = hp' ∧ b.Le J ∧ OS 42 (OT.fr rGuidePoint) J.w (sv A3 c c4) c i ∧ c.length = l8.length) hm ⟨eh, rfl, rfl, lr, h5, rfl⟩ ?_
 rintro ⟨bp, k, c⟩ J _ _ eH ⟨i, rfl, rfl, K, p, L⟩ X E
 unfold mSlicesPartialInsertionSortCmpFunc_L57530 at X
 have hm := (unc3E X)
 refine Cs<|Cr<|mV rfl<|tS (q3 rfl rfl)<|Te ?_
 refine cI hm rfl (fun hm => ?_) fun hm => ?_
 refine Ck<|Xn ?_
 obtain ⟨dt, cc, x⟩ := bS hm
 refine Cj (fun az e' hp' => ∃ (aA : Int), ∃ (O : (List GuidePoint)), ∃ Y, [(0, sv A3 O c4), (1, iv x6), (2, iv x7), (3, .func (.func 76) #[] #[]), (9, iv aA), (10, iv k)] = e' ∧ (Y ++ R) = hp' ∧ J.Le az ∧ OS 42 (OT.fr rGuidePoint) az.w (sv A3 O c4) O Y ∧ O.length = l8.length ∧ dt = .inl (aA, O)) ?_ ?_
 have hm := cc
 refine Cb ?_
 obtain ⟨d, cd, ce⟩ := bS hm
 refine Cj (fun aB e' hp' => [(0, sv A3 c c4), (1, iv x6), (2, iv x7), (3, .func (.func 76) #[] #[]), (9, iv d), (10, iv k)] = e' ∧ (i ++ R) = hp' ∧ J.Le aB) ?_ ?_
 have hm := cd
 refine Cb<|lL (fun ao => fun aC e' hp' => [(0, sv A3 c c4), (1, iv x6), (2, iv x7), (3, .func (.func 76) #[] #[]), (9, iv ao), (10, iv k)] = e' ∧ (i ++ R) = hp' ∧ J.Le aC) hm ⟨rfl, rfl, lr⟩ ?_
 rintro ao aC _ _ eI ⟨rfl, rfl, S⟩ Z aZ
 unfold mSlicesPartialInsertionSortCmpFunc_L73965 at Z
 have hm := Z
 refine Cs ?_
 obtain ⟨du, cf, cg⟩ := bS hm
 refine Cj (fun bq e' hp' => [(0, sv A3 c c4), (1, iv x6), (2, iv x7), (3, .func (.func 76) #[] #[]), (9, iv ao), (10, iv k), (36, bv du)] = e' ∧ (i ++ R) = hp' ∧ aC.Le bq) ?_ ?_
 have hm := cf
 by_cases aa : ao < x7
 rw [if_pos aa] at hm
 obtain ⟨y, dv, hm⟩ := bS hm
 obtain ⟨_, aD, hm⟩ := bS hm
 obtain ⟨z, dw, hm⟩ := bS hm
 obtain ⟨dx, bx, hm⟩ := bS hm
 refine Di mixed (.refl _)<|E0 0 rfl (sM rfl)<|E0 1 rfl (sM rfl)<|E0 2 rfl (lT rfl rfl aa)<|E0 3 rfl (sM rfl)<|Yz 4 22 rfl (sM rfl)<|Yz 5 22 rfl (sM rfl)<|Yz 6 22 rfl (sM rfl) ?_
 obtain ⟨dy, ch, ci⟩ := iS dv
 obtain ⟨eJ, eK, f2, f3, eL, cj, bz, a0, bA, eM, ei⟩ := OS.get (sz := 3) rfl (by decide) (p.le S) ci
 obtain ⟨⟨_, _, rfl, rfl, ⟨_, _, rfl, rfl, rfl⟩⟩, rfl⟩ := cj
 refine Yz 7 22 rfl (sI dy rfl rfl ch bA a0 sl38)<|Ey 8 22 rfl (st_loadN_rd (vs := [iv y.Dep, iv y.Arr, iv y.Rides]) 3 rfl agg42 a0 rfl (fun w ho j u hu => bz w _ ho (List.sublist_append_left _ _) j u hu))<|Yz 9 22 rfl (sM rfl)<|Yz 10 22 rfl (sM rfl) ?_
 have aD := (kS aD).2
 refine Yz 11 22 rfl (sb rfl rfl aD) ?_
 obtain ⟨dz, ck, cl⟩ := iS dw
 obtain ⟨eO, eP, f4, f5, eQ, cm, bB, a1, bC, eR, ej⟩ := OS.get (sz := 3) rfl (by decide) (p.le S) cl
 obtain ⟨⟨_, _, rfl, rfl, ⟨_, _, rfl, rfl, rfl⟩⟩, rfl⟩ := cm
 refine Yz 12 22 rfl (sI dz rfl rfl ck bC a1 sl38)<|Ey 13 22 rfl (st_loadN_rd (vs := [iv z.Dep, iv z.Arr, iv z.Rides]) 3 rfl agg42 a1 rfl (fun w ho j u hu => bB w _ ho (List.sublist_append_left _ _) j u hu))<|Eo<|Da [14] (by kernel_rfl) rfl ?_
 refine R_doY lr rfl rfl 22 rfl rfl rfl (u_callvW0 #[] #[] [.agg #[iv y.Dep, iv y.Arr, iv y.Rides], .agg #[iv z.Dep, iv z.Arr, iv z.Rides]] rfl call76 rfl (fun w ho => cGuideComparePoints _ [] y z dx bx) (fun _ _ _ h => h.2.symm)) ?_ ?_
 rintro _ _ ⟨⟨_, rfl, _⟩, rfl⟩
 refine iR<|Ei lr (.refl _)<|Yz 15 22 rfl (q3 rfl rfl)<|Yz 16 22 rfl (sn2 rfl)<|E0 17 rfl (pT rfl rfl)<|Eo<|Dd (by kernel_rfl) ?_
 obtain rfl := o1 hm
 exact jJ ⟨rfl, rfl, lr⟩
 exact Rn
 rw [if_neg aa] at hm
 refine Di mixed (.refl _)<|E0 0 rfl (sM rfl)<|E0 1 rfl (sM rfl)<|E0 2 rfl (lF rfl rfl aa)<|E0 3 rfl (sM rfl)<|eN 4 rfl<|eN 5 rfl<|eN 6 rfl<|eN 7 rfl<|eN 8 rfl ?_
 refine eN 9 rfl<|eN 10 rfl<|eN 11 rfl<|eN 12 rfl<|eN 13 rfl<|eN 14 rfl<|eN 15 rfl<|eN 16 rfl<|E0 17 rfl (pF rfl rfl)<|Eo ?_
 refine Dd (by kernel_rfl) ?_
 obtain rfl := o1 hm
 exact jJ ⟨rfl, rfl, lr⟩
 rintro bq _ _ ⟨rfl, rfl, au⟩
 have hm := cg
 refine cB hm rfl (fun hm => ?_) fun hm => ?_
 refine Ck<|Xn<|Cb<|Cg<|mV rfl ?_
 obtain ⟨_, aE, hm⟩ := bS hm
 have aE := (kS aE).2
 refine tS (sa rfl rfl aE)<|aS rfl<|Tn<|Xm ?_
 exact jM hm ⟨rfl, rfl, ((S.trans au))⟩
 refine Ce<|Xe<|Xe<|Xo ?_
 have hm := congrArg some (aZ _ (Option.some.inj hm).symm)
 obtain rfl := o1 hm
 exact jJ ⟨rfl, rfl, (S.trans au)⟩
 rintro aB _ _ ⟨rfl, rfl, a⟩
 have hm := ce
 refine Cs<|Cr<|mV rfl<|mV rfl<|tS (q1 rfl rfl)<|Te ?_
 refine cI hm rfl (fun hm => ?_) fun hm => ?_
 refine Cr<|aS rfl<|Te<|Ct<|Xr<|Xb<|Xr<|Xr<|Xb<|Xr ?_
 have cn := (Option.some.inj hm).symm
 rw [cn] at x
 have hm := elimR x
 have hm := congrArg some (E _ (Option.some.inj hm).symm)
 have co := (Option.some.inj hm).symm
 rw [co] at t
 have hm := elimR t
 obtain ⟨rfl, rfl⟩ := some2 hm
 have cp := (p.le a)
 exact rO ⟨i, rfl, rfl, cp, L⟩ (K.trans a)
 refine Ck<|Xn<|Cs<|Cr<|mV rfl<|mV rfl ?_
 obtain ⟨_, aF, hm⟩ := bS hm
 have aF := (kS aF).2
 refine tS (sb rfl rfl aF)<|tS (q3 rfl rfl)<|Te ?_
 refine cI hm rfl (fun hm => ?_) fun hm => ?_
 refine Cr<|aS rfl<|Te<|Ct<|Xr<|Xb<|Xr<|Xr<|Xb<|Xr ?_
 have cq := (Option.some.inj hm).symm
 rw [cq] at x
 have hm := elimR x
 have hm := congrArg some (E _ (Option.some.inj hm).symm)
 have cr := (Option.some.inj hm).symm
 rw [cr] at t
 have hm := elimR t
 obtain ⟨rfl, rfl⟩ := some2 hm
 have ct := (p.le a)
 exact rO ⟨i, rfl, rfl, ct, L⟩ (K.trans a)
 refine Ck<|Xn ?_
 obtain ⟨aq, cu, cv⟩ := bS hm
 refine Cj (fun ab e' hp' => ∃ F, [(0, sv A3 aq c4), (1, iv x6), (2, iv x7), (3, .func (.func 76) #[] #[]), (9, iv d), (10, iv k)] = e' ∧ (F ++ R) = hp' ∧ aB.Le ab ∧ OS 42 (OT.fr rGuidePoint) ab.w (sv A3 aq c4) aq F ∧ aq.length = l8.length) ?_ ?_
 have hm := cu
 obtain ⟨_, aG, hm⟩ := bS hm
 obtain ⟨_, aH, hm⟩ := bS hm
 obtain ⟨e, dA, hm⟩ := bS hm
 obtain ⟨l, dB, hm⟩ := bS hm
 obtain ⟨f6, dC, hm⟩ := bS hm
 obtain ⟨f7, dD, hm⟩ := bS hm
 refine Di mixed (.refl _)<|E0 0 rfl (sM rfl)<|E0 1 rfl (sM rfl)<|E0 2 rfl (sM rfl)<|E0 3 rfl (sM rfl) ?_
 have aG := (kS aG).2
 refine E0 4 rfl (sb rfl rfl aG)<|E0 5 rfl (sM rfl)<|E0 6 rfl (sM rfl) ?_
 have aH := (kS aH).2
 refine E0 7 rfl (sb rfl rfl aH) ?_
 obtain ⟨dE, cw, cx⟩ := iS dA
 obtain ⟨eS, eU, f8, f9, eV, cy, bD, a2, bE, eW, ek⟩ := OS.get (sz := 3) rfl (by decide) (p.le a) cx
 obtain ⟨⟨_, _, rfl, rfl, ⟨_, _, rfl, rfl, rfl⟩⟩, rfl⟩ := cy
 refine E0 8 rfl (sI dE rfl rfl cw bE a2 sl38)<|Es 9 rfl (st_loadN_rd (vs := [iv e.Dep, iv e.Arr, iv e.Rides]) 3 rfl agg42 a2 rfl (fun w ho j u hu => bD w _ ho (List.sublist_append_left _ _) j u hu))<|E0 10 rfl (sM rfl)<|E0 11 rfl (sM rfl) ?_
 obtain ⟨dF, cz, cA⟩ := iS dB
 obtain ⟨eX, eY, ga, gb, e0, cC, bG, a3, bH, e1, el⟩ := OS.get (sz := 3) rfl (by decide) (p.le a) cA
 obtain ⟨⟨_, _, rfl, rfl, ⟨_, _, rfl, rfl, rfl⟩⟩, rfl⟩ := cC
 refine E0 12 rfl (sI dF rfl rfl cz bH a3 sl38)<|Es 13 rfl (st_loadN_rd (vs := [iv l.Dep, iv l.Arr, iv l.Rides]) 3 rfl agg42 a3 rfl (fun w ho j u hu => bG w _ ho (List.sublist_append_left _ _) j u hu)) ?_
 obtain ⟨dH, a4, a5⟩ := iS dC
 obtain ⟨e2, e3, gc, gd, e4, cD, em, cE, bI, e5, en⟩ := OS.get (sz := 3) rfl (by decide) (p.le a) a5
 obtain ⟨⟨_, _, rfl, rfl, ⟨_, _, rfl, rfl, rfl⟩⟩, rfl⟩ := cD
 refine E0 14 rfl (sI dH rfl rfl a4 bI cE sl38)<|Eo<|Da [15] (by kernel_rfl) rfl ?_
 refine Rd2 lr rfl rfl (uP a4 (sz := 3) (a' := e) rfl [] R 0 3 [iv e.Dep, iv e.Arr, iv e.Rides] rfl (p.le a) a5 rfl rfl rfl siz42 rfl (mc rfl (mc rfl (mc rfl mn))) (fun cs hsj hh => by obtain ⟨⟨_, _, rfl, rfl, ⟨_, _, rfl, rfl, rfl⟩⟩, rfl⟩ := hh; exact ⟨by first | decide | exact Nat.le_refl _, ⟨[iv e.Dep], _, rfl, rfl, ⟨[iv e.Arr], _, rfl, rfl, rfl⟩⟩, rfl⟩)) ?_ ?_
 rintro _ _ ⟨e6, rfl, br⟩
 refine ⟨.inl (by kernel_rfl), ?_⟩
 refine d_resp 0 rfl (v' := .slice A3 (put c d e).length c4) (by simp only [put_length])<|d_resp 48 rfl (v' := .slice A3 (put c d e).length c4) (by simp only [put_length]) ?_
 obtain ⟨dI, a6, a7⟩ := iS dD
 obtain ⟨e7, e8, ge, gf, e9, cG, eo, cH, bJ, fa, ep⟩ := OS.get (sz := 3) rfl (by decide) br a7
 obtain ⟨⟨_, _, rfl, rfl, ⟨_, _, rfl, rfl, rfl⟩⟩, rfl⟩ := cG
 refine El lr<|E0 16 rfl (sI dI rfl rfl a6 bJ cH sl38)<|Eo<|Da [17] (by kernel_rfl) rfl ?_
 refine Rd2 lr rfl rfl (uP a6 (sz := 3) (a' := l) rfl [] R 0 3 [iv l.Dep, iv l.Arr, iv l.Rides] rfl br a7 rfl rfl rfl siz42 rfl (mc rfl (mc rfl (mc rfl mn))) (fun cs hsj hh => by obtain ⟨⟨_, _, rfl, rfl, ⟨_, _, rfl, rfl, rfl⟩⟩, rfl⟩ := hh; exact ⟨by first | decide | exact Nat.le_refl _, ⟨[iv l.Dep], _, rfl, rfl, ⟨[iv l.Arr], _, rfl, rfl, rfl⟩⟩, rfl⟩)) ?_ ?_
 rintro _ _ ⟨cJ, rfl, dJ⟩
 refine ⟨.inl (by kernel_rfl), ?_⟩
 refine d_resp 0 rfl (v' := .slice A3 (put (put c d e) (d - 1) l).length c4) (by simp only [put_length])<|Dd (by kernel_rfl) ?_
 obtain rfl := o1 hm
 exact jJ ⟨cJ, rfl, rfl, lr, dJ, ((put_length _ _ _).trans ((put_length _ _ _).trans L))⟩
 exact Rn
 exact Rn
 rintro ab _ _ ⟨F, rfl, rfl, af, bs, av⟩
 have hm := cv
 obtain ⟨ac, cK, cO⟩ := bS hm
 refine Cj (fun ar e' hp' => ∃ G, [(0, sv A3 ac c4), (1, iv x6), (2, iv x7), (3, .func (.func 76) #[] #[]), (9, iv d), (10, iv k)] = e' ∧ (G ++ R) = hp' ∧ ab.Le ar ∧ OS 42 (OT.fr rGuidePoint) ar.w (sv A3 ac c4) ac G ∧ ac.length = l8.length) ?_ ?_
 have hm := cK
 refine Cr<|mV rfl<|mV rfl ?_
 obtain ⟨_, aI, hm⟩ := bS hm
 have aI := (kS aI).2
 refine tS (sb rfl rfl aI)<|tS (q6 rfl rfl)<|Te ?_
 refine cI hm rfl (fun hm => ?_) fun hm => ?_
 refine Cr<|mV rfl ?_
 obtain ⟨_, aJ, hm⟩ := bS hm
 have aJ := (kS aJ).2
 refine tS (sb rfl rfl aJ)<|aS rfl<|Te<|Cb<|lL (unc2 fun T q => fun aK e' hp' => ∃ H, [(0, sv A3 q c4), (1, iv x6), (2, iv x7), (3, .func (.func 76) #[] #[]), (9, iv d), (10, iv k), (11, iv T)] = e' ∧ (H ++ R) = hp' ∧ ab.Le aK ∧ OS 42 (OT.fr rGuidePoint) aK.w (sv A3 q c4) q H ∧ q.length = l8.length) hm ⟨F, rfl, rfl, lr, bs, av⟩ ?_
 rintro ⟨T, q⟩ aK _ _ fb ⟨H, rfl, rfl, ag, r, ah⟩ ad al
 unfold mSlicesPartialInsertionSortCmpFunc_L75385 at ad
 have hm := (unc2E ad)
 refine Cs<|Cr<|mV rfl<|tS (q6 rfl rfl)<|Te ?_
 refine cI hm rfl (fun hm => ?_) fun hm => ?_
 refine Ck<|Xn<|Cs<|Cb<|Cs<|Cs ?_
 obtain ⟨A, dK, hm⟩ := bS hm
 obtain ⟨_, aL, hm⟩ := bS hm
 obtain ⟨B, dL, hm⟩ := bS hm
 obtain ⟨dM, bK, hm⟩ := bS hm
 refine Di mixed (.refl _)<|E0 0 rfl (sM rfl)<|E0 1 rfl (sM rfl)<|E0 2 rfl (sM rfl) ?_
 obtain ⟨dN, cP, cQ⟩ := iS dK
 obtain ⟨fc, fd, gg, gh, fe, cR, bL, a8, bM, ff, eq⟩ := OS.get (sz := 3) rfl (by decide) r cQ
 obtain ⟨⟨_, _, rfl, rfl, ⟨_, _, rfl, rfl, rfl⟩⟩, rfl⟩ := cR
 refine E0 3 rfl (sI dN rfl rfl cP bM a8 sl38)<|Es 4 rfl (st_loadN_rd (vs := [iv A.Dep, iv A.Arr, iv A.Rides]) 3 rfl agg42 a8 rfl (fun w ho j u hu => bL w _ ho (List.sublist_append_left _ _) j u hu))<|E0 5 rfl (sM rfl)<|E0 6 rfl (sM rfl) ?_
 have aL := (kS aL).2
 refine E0 7 rfl (sb rfl rfl aL) ?_
 obtain ⟨dO, cT, cU⟩ := iS dL
 obtain ⟨fg, fh, gi, gj, fi, cV, bN, a9, bO, fj, er⟩ := OS.get (sz := 3) rfl (by decide) r cU
 obtain ⟨⟨_, _, rfl, rfl, ⟨_, _, rfl, rfl, rfl⟩⟩, rfl⟩ := cV
 refine E0 8 rfl (sI dO rfl rfl cT bO a9 sl38)<|Es 9 rfl (st_loadN_rd (vs := [iv B.Dep, iv B.Arr, iv B.Rides]) 3 rfl agg42 a9 rfl (fun w ho j u hu => bN w _ ho (List.sublist_append_left _ _) j u hu))<|Eo<|Da [10] (by kernel_rfl) rfl ?_
 refine Rd2 lr rfl rfl (u_callvW0 #[] #[] [.agg #[iv A.Dep, iv A.Arr, iv A.Rides], .agg #[iv B.Dep, iv B.Arr, iv B.Rides]] rfl call76 rfl (fun w ho => cGuideComparePoints _ [] A B dM bK) (fun _ _ _ h => h.2.symm)) ?_ ?_
 rintro _ _ ⟨⟨_, rfl, _⟩, rfl⟩
 refine ⟨.inl (by kernel_rfl), ?_⟩
 refine El lr<|E0 11 rfl (q3 rfl rfl)<|E0 12 rfl (sn2 rfl)<|Eo<|Dd (by kernel_rfl)<|Xn ?_
 refine cN hm rfl (fun hm => ?_) fun hm => ?_
 refine Ce<|Xe<|Xi rfl<|Xe<|Xe<|Xo ?_
 have hm := congrArg some (al _ (Option.some.inj hm).symm)
 obtain rfl := o1 hm
 exact jJ ⟨H, rfl, rfl, ag, r, ah⟩
 refine Ck<|Xn ?_
 obtain ⟨_, aM, hm⟩ := bS hm
 obtain ⟨_, aN, hm⟩ := bS hm
 obtain ⟨f, dP, hm⟩ := bS hm
 obtain ⟨m, dQ, hm⟩ := bS hm
 obtain ⟨gk, dR, hm⟩ := bS hm
 obtain ⟨gl, dS, hm⟩ := bS hm
 refine Di mixed (.refl _)<|E0 0 rfl (sM rfl)<|E0 1 rfl (sM rfl)<|E0 2 rfl (sM rfl)<|E0 3 rfl (sM rfl) ?_
 have aM := (kS aM).2
 refine E0 4 rfl (sb rfl rfl aM)<|E0 5 rfl (sM rfl)<|E0 6 rfl (sM rfl) ?_
 have aN := (kS aN).2
 refine E0 7 rfl (sb rfl rfl aN) ?_
 obtain ⟨dT, cW, cX⟩ := iS dP
 obtain ⟨fk, fl, gm, gn, fm, cY, bP, ba, bQ, fn, es⟩ := OS.get (sz := 3) rfl (by decide) r cX
 obtain ⟨⟨_, _, rfl, rfl, ⟨_, _, rfl, rfl, rfl⟩⟩, rfl⟩ := cY
 refine E0 8 rfl (sI dT rfl rfl cW bQ ba sl38)<|Es 9 rfl (st_loadN_rd (vs := [iv f.Dep, iv f.Arr, iv f.Rides]) 3 rfl agg42 ba rfl (fun w ho j u hu => bP w _ ho (List.sublist_append_left _ _) j u hu))<|E0 10 rfl (sM rfl)<|E0 11 rfl (sM rfl) ?_
 obtain ⟨dU, cZ, c0⟩ := iS dQ
 obtain ⟨fo, fp, go, gp, fq, c1, bR, bb, bT, fr, et⟩ := OS.get (sz := 3) rfl (by decide) r c0
 obtain ⟨⟨_, _, rfl, rfl, ⟨_, _, rfl, rfl, rfl⟩⟩, rfl⟩ := c1
 refine E0 12 rfl (sI dU rfl rfl cZ bT bb sl38)<|Es 13 rfl (st_loadN_rd (vs := [iv m.Dep, iv m.Arr, iv m.Rides]) 3 rfl agg42 bb rfl (fun w ho j u hu => bR w _ ho (List.sublist_append_left _ _) j u hu)) ?_
 obtain ⟨dV, bc, bd⟩ := iS dR
 obtain ⟨fs, ft, gq, gr, fu, c2, eu, c3, bU, fv, ev⟩ := OS.get (sz := 3) rfl (by decide) r bd
 obtain ⟨⟨_, _, rfl, rfl, ⟨_, _, rfl, rfl, rfl⟩⟩, rfl⟩ := c2
 refine E0 14 rfl (sI dV rfl rfl bc bU c3 sl38)<|Eo<|Da [15] (by kernel_rfl) rfl ?_
 refine Rd2 lr rfl rfl (uP bc (sz := 3) (a' := f) rfl [] R 0 3 [iv f.Dep, iv f.Arr, iv f.Rides] rfl r bd rfl rfl rfl siz42 rfl (mc rfl (mc rfl (mc rfl mn))) (fun cs hsj hh => by obtain ⟨⟨_, _, rfl, rfl, ⟨_, _, rfl, rfl, rfl⟩⟩, rfl⟩ := hh; exact ⟨by first | decide | exact Nat.le_refl _, ⟨[iv f.Dep], _, rfl, rfl, ⟨[iv f.Arr], _, rfl, rfl, rfl⟩⟩, rfl⟩)) ?_ ?_
 rintro _ _ ⟨fw, rfl, bt⟩
 refine ⟨.inl (by kernel_rfl), ?_⟩
 refine d_resp 0 rfl (v' := .slice A3 (put q T f).length c4) (by simp only [put_length])<|d_resp 87 rfl (v' := .slice A3 (put q T f).length c4) (by simp only [put_length]) ?_
 obtain ⟨dW, be, bf⟩ := iS dS
 obtain ⟨fx, fy, gs, gt, fz, c5, ew, c6, bV, fA, ex⟩ := OS.get (sz := 3) rfl (by decide) bt bf
 obtain ⟨⟨_, _, rfl, rfl, ⟨_, _, rfl, rfl, rfl⟩⟩, rfl⟩ := c5
 refine El lr<|E0 16 rfl (sI dW rfl rfl be bV c6 sl38)<|Eo<|Da [17] (by kernel_rfl) rfl ?_
 refine Rd2 lr rfl rfl (uP be (sz := 3) (a' := m) rfl [] R 0 3 [iv m.Dep, iv m.Arr, iv m.Rides] rfl bt bf rfl rfl rfl siz42 rfl (mc rfl (mc rfl (mc rfl mn))) (fun cs hsj hh => by obtain ⟨⟨_, _, rfl, rfl, ⟨_, _, rfl, rfl, rfl⟩⟩, rfl⟩ := hh; exact ⟨by first | decide | exact Nat.le_refl _, ⟨[iv m.Dep], _, rfl, rfl, ⟨[iv m.Arr], _, rfl, rfl, rfl⟩⟩, rfl⟩)) ?_ ?_
 rintro _ _ ⟨c7, rfl, dX⟩
 refine ⟨.inl (by kernel_rfl), ?_⟩
 refine d_resp 0 rfl (v' := .slice A3 (put (put q T f) (T - 1) m).length c4) (by simp only [put_length])<|Dd (by kernel_rfl)<|Xm<|Xn<|Cg<|mV rfl ?_
 obtain ⟨_, aO, hm⟩ := bS hm
 have aO := (kS aO).2
 refine tS (sb rfl rfl aO)<|aS rfl<|Tn ?_
 exact jM hm ⟨c7, rfl, rfl, (ag), dX, ((put_length _ _ _).trans ((put_length _ _ _).trans ah))⟩
 exact Rn
 exact Rn
 exact Rn
 refine Ce<|Xe<|Xe<|Xo ?_
 have hm := congrArg some (al _ (Option.some.inj hm).symm)
 obtain rfl := o1 hm
 exact jJ ⟨H, rfl, rfl, ag, r, ah⟩
 refine Ck ?_
 obtain rfl := o1 hm
 exact jJ ⟨F, rfl, rfl, lr, bs, av⟩
 rintro ar _ _ ⟨G, rfl, rfl, ai, bu, aw⟩
 have hm := cO
 refine Cr<|mV rfl<|mV rfl ?_
 obtain ⟨_, aP, hm⟩ := bS hm
 have aP := (kS aP).2
 refine tS (sb rfl rfl aP)<|tS (q6 rfl rfl)<|Te ?_
 refine cI hm rfl (fun hm => ?_) fun hm => ?_
 refine Cr<|mV rfl ?_
 obtain ⟨_, aQ, hm⟩ := bS hm
 have aQ := (kS aQ).2
 refine tS (sa rfl rfl aQ)<|aS rfl<|Te<|Cb<|lL (unc2 fun U n => fun aR e' hp' => ∃ I, [(0, sv A3 n c4), (1, iv x6), (2, iv x7), (3, .func (.func 76) #[] #[]), (9, iv d), (10, iv k), (12, iv U)] = e' ∧ (I ++ R) = hp' ∧ ar.Le aR ∧ OS 42 (OT.fr rGuidePoint) aR.w (sv A3 n c4) n I ∧ n.length = l8.length) hm ⟨G, rfl, rfl, lr, bu, aw⟩ ?_
 rintro ⟨U, n⟩ aR _ _ fB ⟨I, rfl, rfl, aj, s, ak⟩ ae am
 unfold mSlicesPartialInsertionSortCmpFunc_L76042 at ae
 have hm := (unc2E ae)
 refine Cs<|Cr<|mV rfl<|mV rfl<|tS (q3 rfl rfl)<|Te ?_
 refine cI hm rfl (fun hm => ?_) fun hm => ?_
 refine Ck<|Xn<|Cs<|Cb<|Cs<|Cs ?_
 obtain ⟨C, dY, hm⟩ := bS hm
 obtain ⟨_, aT, hm⟩ := bS hm
 obtain ⟨D, dZ, hm⟩ := bS hm
 obtain ⟨d0, bW, hm⟩ := bS hm
 refine Di mixed (.refl _)<|E0 0 rfl (sM rfl)<|E0 1 rfl (sM rfl)<|E0 2 rfl (sM rfl) ?_
 obtain ⟨d1, c8, c9⟩ := iS dY
 obtain ⟨fC, fD, gu, gv, fF, da, bX, bg, bY, fG, ey⟩ := OS.get (sz := 3) rfl (by decide) s c9
 obtain ⟨⟨_, _, rfl, rfl, ⟨_, _, rfl, rfl, rfl⟩⟩, rfl⟩ := da
 refine E0 3 rfl (sI d1 rfl rfl c8 bY bg sl38)<|Es 4 rfl (st_loadN_rd (vs := [iv C.Dep, iv C.Arr, iv C.Rides]) 3 rfl agg42 bg rfl (fun w ho j u hu => bX w _ ho (List.sublist_append_left _ _) j u hu))<|E0 5 rfl (sM rfl)<|E0 6 rfl (sM rfl) ?_
 have aT := (kS aT).2
 refine E0 7 rfl (sb rfl rfl aT) ?_
 obtain ⟨d5, db, dc⟩ := iS dZ
 obtain ⟨fH, fI, gw, gx, fJ, dd, bZ, bh, b0, fK, ez⟩ := OS.get (sz := 3) rfl (by decide) s dc
 obtain ⟨⟨_, _, rfl, rfl, ⟨_, _, rfl, rfl, rfl⟩⟩, rfl⟩ := dd
 refine E0 8 rfl (sI d5 rfl rfl db b0 bh sl38)<|Es 9 rfl (st_loadN_rd (vs := [iv D.Dep, iv D.Arr, iv D.Rides]) 3 rfl agg42 bh rfl (fun w ho j u hu => bZ w _ ho (List.sublist_append_left _ _) j u hu))<|Eo<|Da [10] (by kernel_rfl) rfl ?_
 refine Rd2 lr rfl rfl (u_callvW0 #[] #[] [.agg #[iv C.Dep, iv C.Arr, iv C.Rides], .agg #[iv D.Dep, iv D.Arr, iv D.Rides]] rfl call76 rfl (fun w ho => cGuideComparePoints _ [] C D d0 bW) (fun _ _ _ h => h.2.symm)) ?_ ?_
 rintro _ _ ⟨⟨_, rfl, _⟩, rfl⟩
 refine ⟨.inl (by kernel_rfl), ?_⟩
 refine El lr<|E0 11 rfl (q3 rfl rfl)<|E0 12 rfl (sn2 rfl)<|Eo<|Dd (by kernel_rfl)<|Xn ?_
 refine cN hm rfl (fun hm => ?_) fun hm => ?_
 refine Ce<|Xe<|Xi rfl<|Xe<|Xe<|Xo ?_
 have hm := congrArg some (am _ (Option.some.inj hm).symm)
 refine Xm ?_
 have hq := (Option.some.inj hm).symm
 exact jJ ⟨d, n, I, rfl, rfl, (a.trans (af.trans (ai.trans aj))), s, ak, hq⟩
 refine Ck<|Xn ?_
 obtain ⟨_, aU, hm⟩ := bS hm
 obtain ⟨_, aV, hm⟩ := bS hm
 obtain ⟨g, d6, hm⟩ := bS hm
 obtain ⟨o, d7, hm⟩ := bS hm
 obtain ⟨gy, d8, hm⟩ := bS hm
 obtain ⟨gz, d9, hm⟩ := bS hm
 refine Di mixed (.refl _)<|E0 0 rfl (sM rfl)<|E0 1 rfl (sM rfl)<|E0 2 rfl (sM rfl)<|E0 3 rfl (sM rfl) ?_
 have aU := (kS aU).2
 refine E0 4 rfl (sb rfl rfl aU)<|E0 5 rfl (sM rfl)<|E0 6 rfl (sM rfl) ?_
 have aV := (kS aV).2
 refine E0 7 rfl (sb rfl rfl aV) ?_
 obtain ⟨ea, de, df⟩ := iS d6
 obtain ⟨fL, fM, gA, gB, fN, dg, b1, bi, b2, fO, eA⟩ := OS.get (sz := 3) rfl (by decide) s df
 obtain ⟨⟨_, _, rfl, rfl, ⟨_, _, rfl, rfl, rfl⟩⟩, rfl⟩ := dg
 refine E0 8 rfl (sI ea rfl rfl de b2 bi sl38)<|Es 9 rfl (st_loadN_rd (vs := [iv g.Dep, iv g.Arr, iv g.Rides]) 3 rfl agg42 bi rfl (fun w ho j u hu => b1 w _ ho (List.sublist_append_left _ _) j u hu))<|E0 10 rfl (sM rfl)<|E0 11 rfl (sM rfl) ?_
 obtain ⟨eb, dh, di⟩ := iS d7
 obtain ⟨fP, fQ, gC, gD, fR, dj, b3, bj, b4, fS, eB⟩ := OS.get (sz := 3) rfl (by decide) s di
 obtain ⟨⟨_, _, rfl, rfl, ⟨_, _, rfl, rfl, rfl⟩⟩, rfl⟩ := dj
 refine E0 12 rfl (sI eb rfl rfl dh b4 bj sl38)<|Es 13 rfl (st_loadN_rd (vs := [iv o.Dep, iv o.Arr, iv o.Rides]) 3 rfl agg42 bj rfl (fun w ho j u hu => b3 w _ ho (List.sublist_append_left _ _) j u hu)) ?_
 obtain ⟨ec, bk, bl⟩ := iS d8
 obtain ⟨fT, fU, gE, gF, fV, dk, eC, dl, b5, fW, eD⟩ := OS.get (sz := 3) rfl (by decide) s bl
 obtain ⟨⟨_, _, rfl, rfl, ⟨_, _, rfl, rfl, rfl⟩⟩, rfl⟩ := dk
 refine E0 14 rfl (sI ec rfl rfl bk b5 dl sl38)<|Eo<|Da [15] (by kernel_rfl) rfl ?_
 refine Rd2 lr rfl rfl (uP bk (sz := 3) (a' := g) rfl [] R 0 3 [iv g.Dep, iv g.Arr, iv g.Rides] rfl s bl rfl rfl rfl siz42 rfl (mc rfl (mc rfl (mc rfl mn))) (fun cs hsj hh => by obtain ⟨⟨_, _, rfl, rfl, ⟨_, _, rfl, rfl, rfl⟩⟩, rfl⟩ := hh; exact ⟨by first | decide | exact Nat.le_refl _, ⟨[iv g.Dep], _, rfl, rfl, ⟨[iv g.Arr], _, rfl, rfl, rfl⟩⟩, rfl⟩)) ?_ ?_
 rintro _ _ ⟨fX, rfl, bw⟩
 refine ⟨.inl (by kernel_rfl), ?_⟩
 refine d_resp 0 rfl (v' := .slice A3 (put n U g).length c4) (by simp only [put_length])<|d_resp 127 rfl (v' := .slice A3 (put n U g).length c4) (by simp only [put_length]) ?_
 obtain ⟨ed, bm, bn⟩ := iS d9
 obtain ⟨fY, fZ, gG, gH, f0, dm, eE, dn, b6, f1, eG⟩ := OS.get (sz := 3) rfl (by decide) bw bn
 obtain ⟨⟨_, _, rfl, rfl, ⟨_, _, rfl, rfl, rfl⟩⟩, rfl⟩ := dm
 refine El lr<|E0 16 rfl (sI ed rfl rfl bm b6 dn sl38)<|Eo<|Da [17] (by kernel_rfl) rfl ?_
 refine Rd2 lr rfl rfl (uP bm (sz := 3) (a' := o) rfl [] R 0 3 [iv o.Dep, iv o.Arr, iv o.Rides] rfl bw bn rfl rfl rfl siz42 rfl (mc rfl (mc rfl (mc rfl mn))) (fun cs hsj hh => by obtain ⟨⟨_, _, rfl, rfl, ⟨_, _, rfl, rfl, rfl⟩⟩, rfl⟩ := hh; exact ⟨by first | decide | exact Nat.le_refl _, ⟨[iv o.Dep], _, rfl, rfl, ⟨[iv o.Arr], _, rfl, rfl, rfl⟩⟩, rfl⟩)) ?_ ?_
 rintro _ _ ⟨dp, rfl, ee⟩
 refine ⟨.inl (by kernel_rfl), ?_⟩
 refine d_resp 0 rfl (v' := .slice A3 (put (put n U g) (U - 1) o).length c4) (by simp only [put_length])<|Dd (by kernel_rfl)<|Xm<|Xn<|Cg<|mV rfl ?_
 obtain ⟨_, aW, hm⟩ := bS hm
 have aW := (kS aW).2
 refine tS (sa rfl rfl aW)<|aS rfl<|Tn ?_
 exact jM hm ⟨dp, rfl, rfl, (aj), ee, ((put_length _ _ _).trans ((put_length _ _ _).trans ak))⟩
 exact Rn
 exact Rn
 exact Rn
 refine Ce<|Xe<|Xe<|Xo ?_
 have hm := congrArg some (am _ (Option.some.inj hm).symm)
 refine Xm ?_
 have hq := (Option.some.inj hm).symm
 exact jJ ⟨d, n, I, rfl, rfl, (a.trans (af.trans (ai.trans aj))), s, ak, hq⟩
 refine Ck<|Xm ?_
 have hq := (Option.some.inj hm).symm
 exact jJ ⟨d, ac, G, rfl, rfl, (a.trans (af.trans ai)), bu, aw, hq⟩
 rintro az _ _ ⟨aA, O, Y, rfl, rfl, b7, ef, b8, dq⟩
 rw [dq] at x
 have hm := elimL x
 have hm := (unc2E hm)
 refine Cg<|mV rfl ?_
 obtain ⟨_, aX, hm⟩ := bS hm
 have aX := (kS aX).2
 refine tS (sa rfl rfl aX)<|aS rfl<|Tn ?_
 exact jM hm ⟨Y, rfl, rfl, ((K.trans b7)), ef, b8⟩
 refine Ce<|Xe<|Xe<|Xo ?_
 have hm := congrArg some (E _ (Option.some.inj hm).symm)
 have hq := (Option.some.inj hm).symm
 exact jJ ⟨c, i, rfl, rfl, K, p, L, hq⟩
 rintro ay _ _ ⟨V, W, rfl, rfl, b9, eg, ca, dr⟩
 rw [dr] at t
 have hm := elimL t
 refine Cr<|aS rfl<|Te<|Ct ?_
 obtain ⟨rfl, rfl⟩ := some2 hm
 exact rO ⟨W, rfl, rfl, eg, ca⟩ b9

set_option maxRecDepth 20000 in
theorem cSlicesPartitionEqualCmpFunc (b : Base) (R : Hp) (x6 x7 x8 l9 S T c3) (h5 : OS 42 (OT.fr rGuidePoint) b.w (sv S l9 T) l9 c3) (aI H) (hm : mSlicesPartitionEqualCmpFunc x6 x7 x8 l9 = some (aI, H)):
    CallsG Tryd.prog 113 [sv S l9 T, iv x6, iv x7, iv x8, .func (.func 76) #[] #[]] b ((c3 ++ R)) (fun v b' hp' => ∃ al, iv aI = v ∧ (al ++ R) = hp' ∧ OS 42 (OT.fr rGuidePoint) b'.w (sv S H T) H al ∧ H.length = l9.length) := by
 refine fE 90 Tryd.func113 rfl Tryd.ntmps113 rfl ?_
 unfold mSlicesPartitionEqualCmpFunc at hm
 refine Cr<|aS rfl<|Te ?_
 obtain ⟨I, bh, bi⟩ := bS hm
 refine Cj (fun x e' hp' => ∃ y, [(0, sv S I T), (1, iv x6), (2, iv x7), (4, .func (.func 76) #[] #[])] = e' ∧ (y ++ R) = hp' ∧ b.Le x ∧ OS 42 (OT.fr rGuidePoint) x.w (sv S I T) I y ∧ I.length = l9.length) ?_ ?_
 have hm := bh
 obtain ⟨e, b7, hm⟩ := bS hm
 obtain ⟨i, b8, hm⟩ := bS hm
 obtain ⟨dY, b9, hm⟩ := bS hm
 obtain ⟨dZ, ca, hm⟩ := bS hm
 refine Di mixed (.refl _)<|E0 0 rfl (sM rfl)<|E0 1 rfl (sM rfl)<|E0 2 rfl (sM rfl)<|E0 3 rfl (sM rfl)<|E0 4 rfl (sM rfl)<|E0 5 rfl (sM rfl) ?_
 obtain ⟨cb, bj, bk⟩ := iS b7
 obtain ⟨c5, c6, d0, d1, c7, bl, aO, am, aP, c8, cJ⟩ := OS.get (sz := 3) rfl (by decide) h5 bk
 obtain ⟨⟨_, _, rfl, rfl, ⟨_, _, rfl, rfl, rfl⟩⟩, rfl⟩ := bl
 refine E0 6 rfl (sI cb rfl rfl bj aP am sl38)<|Es 7 rfl (st_loadN_rd (vs := [iv e.Dep, iv e.Arr, iv e.Rides]) 3 rfl agg42 am rfl (fun w ho j u hu => aO w _ ho (List.sublist_append_left _ _) j u hu))<|E0 8 rfl (sM rfl)<|E0 9 rfl (sM rfl) ?_
 obtain ⟨cc, bm, bn⟩ := iS b8
 obtain ⟨c9, da, d5, d6, db, bo, aQ, an, aR, dc, cK⟩ := OS.get (sz := 3) rfl (by decide) h5 bn
 obtain ⟨⟨_, _, rfl, rfl, ⟨_, _, rfl, rfl, rfl⟩⟩, rfl⟩ := bo
 refine E0 10 rfl (sI cc rfl rfl bm aR an sl38)<|Es 11 rfl (st_loadN_rd (vs := [iv i.Dep, iv i.Arr, iv i.Rides]) 3 rfl agg42 an rfl (fun w ho j u hu => aQ w _ ho (List.sublist_append_left _ _) j u hu)) ?_
 obtain ⟨cd, ao, aq⟩ := iS b9
 obtain ⟨dd, de, d7, d8, df, bp, cO, bq, aT, dg, cP⟩ := OS.get (sz := 3) rfl (by decide) h5 aq
 obtain ⟨⟨_, _, rfl, rfl, ⟨_, _, rfl, rfl, rfl⟩⟩, rfl⟩ := bp
 refine E0 12 rfl (sI cd rfl rfl ao aT bq sl38)<|Eo<|Da [13] (by kernel_rfl) rfl ?_
 refine Rd2 lr rfl rfl (uP ao (sz := 3) (a' := e) rfl [] R 0 3 [iv e.Dep, iv e.Arr, iv e.Rides] rfl h5 aq rfl rfl rfl siz42 rfl (mc rfl (mc rfl (mc rfl mn))) (fun cs hsj hh => by obtain ⟨⟨_, _, rfl, rfl, ⟨_, _, rfl, rfl, rfl⟩⟩, rfl⟩ := hh; exact ⟨by first | decide | exact Nat.le_refl _, ⟨[iv e.Dep], _, rfl, rfl, ⟨[iv e.Arr], _, rfl, rfl, rfl⟩⟩, rfl⟩)) ?_ ?_
 rintro _ _ ⟨dh, rfl, aJ⟩
 refine ⟨.inl (by kernel_rfl), ?_⟩
 refine d_resp 0 rfl (v' := .slice S (put l9 x6 e).length T) (by simp only [put_length])<|d_resp 15 rfl (v' := .slice S (put l9 x6 e).length T) (by simp only [put_length]) ?_
 obtain ⟨ce, ar, au⟩ := iS ca
 obtain ⟨di, dj, d9, ea, dk, br, cQ, bs, aU, dl, cR⟩ := OS.get (sz := 3) rfl (by decide) aJ au
 obtain ⟨⟨_, _, rfl, rfl, ⟨_, _, rfl, rfl, rfl⟩⟩, rfl⟩ := br
 refine El lr<|E0 14 rfl (sI ce rfl rfl ar aU bs sl38)<|Eo<|Da [15] (by kernel_rfl) rfl ?_
 refine Rd2 lr rfl rfl (uP ar (sz := 3) (a' := i) rfl [] R 0 3 [iv i.Dep, iv i.Arr, iv i.Rides] rfl aJ au rfl rfl rfl siz42 rfl (mc rfl (mc rfl (mc rfl mn))) (fun cs hsj hh => by obtain ⟨⟨_, _, rfl, rfl, ⟨_, _, rfl, rfl, rfl⟩⟩, rfl⟩ := hh; exact ⟨by first | decide | exact Nat.le_refl _, ⟨[iv i.Dep], _, rfl, rfl, ⟨[iv i.Arr], _, rfl, rfl, rfl⟩⟩, rfl⟩)) ?_ ?_
 rintro _ _ ⟨bt, rfl, cf⟩
 refine ⟨.inl (by kernel_rfl), ?_⟩
 refine d_resp 0 rfl (v' := .slice S (put (put l9 x6 e) x8 i).length T) (by simp only [put_length])<|Dd (by kernel_rfl) ?_
 obtain rfl := o1 hm
 exact jJ ⟨bt, rfl, rfl, lr, cf, ((put_length _ _ _).trans ((put_length _ _ _).trans rfl))⟩
 exact Rn
 exact Rn
 rintro x _ _ ⟨y, rfl, rfl, aV, cg, aW⟩
 have hm := bi
 refine Cr<|mV rfl ?_
 obtain ⟨_, Y, hm⟩ := bS hm
 have Y := (kS Y).2
 refine tS (sa rfl rfl Y)<|mV rfl ?_
 obtain ⟨_, Z, hm⟩ := bS hm
 have Z := (kS Z).2
 refine tS (sb rfl rfl Z)<|aS rfl<|aS rfl<|Te ?_
 obtain ⟨⟨ch, aa⟩, bu, bw⟩ := bS hm
 refine Cj (fun ab e' hp' => ∃ z, [(11, iv ch)] = e' ∧ (z ++ R) = hp' ∧ x.Le ab ∧ OS 42 (OT.fr rGuidePoint) ab.w (sv S aa T) aa z ∧ aa.length = l9.length) ?_ ?_
 have hm := bu
 refine Cb<|lL (unc3 fun aK r a => fun A e' hp' => ∃ d, [(0, sv S a T), (1, iv x6), (4, .func (.func 76) #[] #[]), (11, iv aK), (12, iv r)] = e' ∧ (d ++ R) = hp' ∧ x.Le A ∧ OS 42 (OT.fr rGuidePoint) A.w (sv S a T) a d ∧ a.length = l9.length) hm ⟨y, rfl, rfl, lr, cg, aW⟩ ?_
 rintro ⟨aK, r, a⟩ A _ _ dm ⟨d, rfl, rfl, U, l, V⟩ B av
 unfold mSlicesPartitionEqualCmpFunc_L19216 at B
 have hm := (unc3E B)
 refine Cb ?_
 obtain ⟨m, bx, bz⟩ := bS hm
 refine Cj (fun J e' hp' => [(0, sv S a T), (1, iv x6), (4, .func (.func 76) #[] #[]), (11, iv m), (12, iv r)] = e' ∧ (d ++ R) = hp' ∧ A.Le J) ?_ ?_
 have hm := bx
 refine Cb<|lL (fun K => fun ac e' hp' => [(0, sv S a T), (1, iv x6), (4, .func (.func 76) #[] #[]), (11, iv K), (12, iv r)] = e' ∧ (d ++ R) = hp' ∧ A.Le ac) hm ⟨rfl, rfl, lr⟩ ?_
 rintro K ac _ _ dn ⟨rfl, rfl, s⟩ C aw
 unfold mSlicesPartitionEqualCmpFunc_L23806 at C
 have hm := C
 refine Cs ?_
 obtain ⟨ci, bA, bB⟩ := bS hm
 refine Cj (fun aL e' hp' => [(0, sv S a T), (1, iv x6), (4, .func (.func 76) #[] #[]), (11, iv K), (12, iv r), (47, bv ci)] = e' ∧ (d ++ R) = hp' ∧ ac.Le aL) ?_ ?_
 have hm := bA
 by_cases D : K ≤ r
 rw [if_pos D] at hm
 obtain ⟨n, cj, hm⟩ := bS hm
 obtain ⟨o, ck, hm⟩ := bS hm
 obtain ⟨cl, aX, hm⟩ := bS hm
 refine Di mixed (.refl _)<|E0 0 rfl (sM rfl)<|E0 1 rfl (sM rfl)<|E0 2 rfl (st_leq_t rfl rfl D)<|E0 3 rfl (sM rfl)<|Yz 4 34 rfl (sM rfl)<|Yz 5 34 rfl (sM rfl)<|Yz 6 34 rfl (sM rfl) ?_
 obtain ⟨cm, bC, bD⟩ := iS cj
 obtain ⟨dp, dq, eb, ec, dr, bE, aY, ax, aZ, ds, cT⟩ := OS.get (sz := 3) rfl (by decide) (l.le s) bD
 obtain ⟨⟨_, _, rfl, rfl, ⟨_, _, rfl, rfl, rfl⟩⟩, rfl⟩ := bE
 refine Yz 7 34 rfl (sI cm rfl rfl bC aZ ax sl38)<|Ey 8 34 rfl (st_loadN_rd (vs := [iv n.Dep, iv n.Arr, iv n.Rides]) 3 rfl agg42 ax rfl (fun w ho j u hu => aY w _ ho (List.sublist_append_left _ _) j u hu))<|Yz 9 34 rfl (sM rfl)<|Yz 10 34 rfl (sM rfl) ?_
 obtain ⟨cn, bG, bH⟩ := iS ck
 obtain ⟨dt, du, ed, ee, dv, bI, a0, ay, a1, dw, cU⟩ := OS.get (sz := 3) rfl (by decide) (l.le s) bH
 obtain ⟨⟨_, _, rfl, rfl, ⟨_, _, rfl, rfl, rfl⟩⟩, rfl⟩ := bI
 refine Yz 11 34 rfl (sI cn rfl rfl bG a1 ay sl38)<|Ey 12 34 rfl (st_loadN_rd (vs := [iv o.Dep, iv o.Arr, iv o.Rides]) 3 rfl agg42 ay rfl (fun w ho j u hu => a0 w _ ho (List.sublist_append_left _ _) j u hu))<|Eo<|Da [13] (by kernel_rfl) rfl ?_
 refine R_doY lr rfl rfl 34 rfl rfl rfl (u_callvW0 #[] #[] [.agg #[iv n.Dep, iv n.Arr, iv n.Rides], .agg #[iv o.Dep, iv o.Arr, iv o.Rides]] rfl call76 rfl (fun w ho => cGuideComparePoints _ [] n o cl aX) (fun _ _ _ h => h.2.symm)) ?_ ?_
 rintro _ _ ⟨⟨_, rfl, _⟩, rfl⟩
 refine iR<|Ei lr (.refl _)<|Yz 14 34 rfl (q3 rfl rfl)<|Yz 15 34 rfl (sn2 rfl)<|E0 16 rfl (pT rfl rfl)<|Eo<|Dd (by kernel_rfl) ?_
 obtain rfl := o1 hm
 exact jJ ⟨rfl, rfl, lr⟩
 exact Rn
 rw [if_neg D] at hm
 refine Di mixed (.refl _)<|E0 0 rfl (sM rfl)<|E0 1 rfl (sM rfl)<|E0 2 rfl (st_leq_f rfl rfl D)<|E0 3 rfl (sM rfl)<|eN 4 rfl<|eN 5 rfl<|eN 6 rfl<|eN 7 rfl<|eN 8 rfl ?_
 refine eN 9 rfl<|eN 10 rfl<|eN 11 rfl<|eN 12 rfl<|eN 13 rfl<|eN 14 rfl<|eN 15 rfl<|E0 16 rfl (pF rfl rfl)<|Eo<|Dd (by kernel_rfl) ?_
 obtain rfl := o1 hm
 exact jJ ⟨rfl, rfl, lr⟩
 rintro aL _ _ ⟨rfl, rfl, W⟩
 have hm := bB
 refine cB hm rfl (fun hm => ?_) fun hm => ?_
 refine Ck<|Xn<|Cb<|Cg<|mV rfl ?_
 obtain ⟨_, ad, hm⟩ := bS hm
 have ad := (kS ad).2
 refine tS (sa rfl rfl ad)<|aS rfl<|Tn<|Xm ?_
 exact jM hm ⟨rfl, rfl, ((s.trans W))⟩
 refine Ce<|Xe<|Xe<|Xo ?_
 have hm := congrArg some (aw _ (Option.some.inj hm).symm)
 obtain rfl := o1 hm
 exact jJ ⟨rfl, rfl, (s.trans W)⟩
 rintro J _ _ ⟨rfl, rfl, c⟩
 have hm := bz
 obtain ⟨ae, bJ, bK⟩ := bS hm
 refine Cj (fun af e' hp' => [(0, sv S a T), (1, iv x6), (4, .func (.func 76) #[] #[]), (11, iv m), (12, iv ae)] = e' ∧ (d ++ R) = hp' ∧ J.Le af) ?_ ?_
 have hm := bJ
 refine Cb<|lL (fun L => fun ag e' hp' => [(0, sv S a T), (1, iv x6), (4, .func (.func 76) #[] #[]), (11, iv m), (12, iv L)] = e' ∧ (d ++ R) = hp' ∧ J.Le ag) hm ⟨rfl, rfl, lr⟩ ?_
 rintro L ag _ _ dx ⟨rfl, rfl, t⟩ E az
 unfold mSlicesPartitionEqualCmpFunc_L24696 at E
 have hm := E
 refine Cs ?_
 obtain ⟨co, bL, bM⟩ := bS hm
 refine Cj (fun aM e' hp' => [(0, sv S a T), (1, iv x6), (4, .func (.func 76) #[] #[]), (11, iv m), (12, iv L), (65, bv co)] = e' ∧ (d ++ R) = hp' ∧ ag.Le aM) ?_ ?_
 have hm := bL
 by_cases F : m ≤ L
 rw [if_pos F] at hm
 obtain ⟨p, cp, hm⟩ := bS hm
 obtain ⟨q, cq, hm⟩ := bS hm
 obtain ⟨cr, a2, hm⟩ := bS hm
 refine Di mixed (.refl _)<|E0 0 rfl (sM rfl)<|E0 1 rfl (sM rfl)<|E0 2 rfl (st_leq_t rfl rfl F)<|E0 3 rfl (sM rfl)<|Yz 4 53 rfl (sM rfl)<|Yz 5 53 rfl (sM rfl)<|Yz 6 53 rfl (sM rfl) ?_
 obtain ⟨ct, bN, bO⟩ := iS cp
 obtain ⟨dy, dz, ef, eg, dA, bP, a3, aA, a4, dB, cV⟩ := OS.get (sz := 3) rfl (by decide) (l.le (c.trans t)) bO
 obtain ⟨⟨_, _, rfl, rfl, ⟨_, _, rfl, rfl, rfl⟩⟩, rfl⟩ := bP
 refine Yz 7 53 rfl (sI ct rfl rfl bN a4 aA sl38)<|Ey 8 53 rfl (st_loadN_rd (vs := [iv p.Dep, iv p.Arr, iv p.Rides]) 3 rfl agg42 aA rfl (fun w ho j u hu => a3 w _ ho (List.sublist_append_left _ _) j u hu))<|Yz 9 53 rfl (sM rfl)<|Yz 10 53 rfl (sM rfl) ?_
 obtain ⟨cu, bQ, bR⟩ := iS cq
 obtain ⟨dC, dD, eh, ei, dE, bT, a5, aB, a6, dF, cW⟩ := OS.get (sz := 3) rfl (by decide) (l.le (c.trans t)) bR
 obtain ⟨⟨_, _, rfl, rfl, ⟨_, _, rfl, rfl, rfl⟩⟩, rfl⟩ := bT
 refine Yz 11 53 rfl (sI cu rfl rfl bQ a6 aB sl38)<|Ey 12 53 rfl (st_loadN_rd (vs := [iv q.Dep, iv q.Arr, iv q.Rides]) 3 rfl agg42 aB rfl (fun w ho j u hu => a5 w _ ho (List.sublist_append_left _ _) j u hu))<|Eo<|Da [13] (by kernel_rfl) rfl ?_
 refine R_doY lr rfl rfl 53 rfl rfl rfl (u_callvW0 #[] #[] [.agg #[iv p.Dep, iv p.Arr, iv p.Rides], .agg #[iv q.Dep, iv q.Arr, iv q.Rides]] rfl call76 rfl (fun w ho => cGuideComparePoints _ [] p q cr a2) (fun _ _ _ h => h.2.symm)) ?_ ?_
 rintro _ _ ⟨⟨_, rfl, _⟩, rfl⟩
 refine iR<|Ei lr (.refl _)<|Yz 14 53 rfl (q3 rfl rfl)<|E0 15 rfl (pT rfl rfl)<|Eo<|Dd (by kernel_rfl) ?_
 obtain rfl := o1 hm
 exact jJ ⟨rfl, rfl, lr⟩
 exact Rn
 rw [if_neg F] at hm
 refine Di mixed (.refl _)<|E0 0 rfl (sM rfl)<|E0 1 rfl (sM rfl)<|E0 2 rfl (st_leq_f rfl rfl F)<|E0 3 rfl (sM rfl)<|eN 4 rfl<|eN 5 rfl<|eN 6 rfl<|eN 7 rfl<|eN 8 rfl ?_
 refine eN 9 rfl<|eN 10 rfl<|eN 11 rfl<|eN 12 rfl<|eN 13 rfl<|eN 14 rfl<|E0 15 rfl (pF rfl rfl)<|Eo<|Dd (by kernel_rfl) ?_
 obtain rfl := o1 hm
 exact jJ ⟨rfl, rfl, lr⟩
 rintro aM _ _ ⟨rfl, rfl, X⟩
 have hm := bM
 refine cB hm rfl (fun hm => ?_) fun hm => ?_
 refine Ck<|Xn<|Cb<|Cg<|mV rfl ?_
 obtain ⟨_, ah, hm⟩ := bS hm
 have ah := (kS ah).2
 refine tS (sb rfl rfl ah)<|aS rfl<|Tn<|Xm ?_
 exact jM hm ⟨rfl, rfl, ((t.trans X))⟩
 refine Ce<|Xe<|Xe<|Xo ?_
 have hm := congrArg some (az _ (Option.some.inj hm).symm)
 obtain rfl := o1 hm
 exact jJ ⟨rfl, rfl, (t.trans X)⟩
 rintro af _ _ ⟨rfl, rfl, g⟩
 have hm := bK
 refine Cs<|Cr<|mV rfl<|mV rfl<|tS (q5 rfl rfl)<|Te ?_
 refine cI hm rfl (fun hm => ?_) fun hm => ?_
 refine Ce<|Xe<|Xi rfl<|Xe<|Xo ?_
 have hm := congrArg some (av _ (Option.some.inj hm).symm)
 obtain ⟨rfl, rfl⟩ := some2 hm
 exact jJ ⟨d, rfl, rfl, (U.trans (c.trans g)), (l.le (c.trans g)), V⟩
 refine Ck<|Xn ?_
 obtain ⟨O, bU, bV⟩ := bS hm
 refine Cj (fun ai e' hp' => ∃ G, [(0, sv S O T), (1, iv x6), (4, .func (.func 76) #[] #[]), (11, iv m), (12, iv ae)] = e' ∧ (G ++ R) = hp' ∧ af.Le ai ∧ OS 42 (OT.fr rGuidePoint) ai.w (sv S O T) O G ∧ O.length = l9.length) ?_ ?_
 have hm := bU
 obtain ⟨f, cv, hm⟩ := bS hm
 obtain ⟨k, cw, hm⟩ := bS hm
 obtain ⟨ej, cx, hm⟩ := bS hm
 obtain ⟨ek, cy, hm⟩ := bS hm
 refine Di mixed (.refl _)<|E0 0 rfl (sM rfl)<|E0 1 rfl (sM rfl)<|E0 2 rfl (sM rfl)<|E0 3 rfl (sM rfl)<|E0 4 rfl (sM rfl)<|E0 5 rfl (sM rfl) ?_
 obtain ⟨cz, bW, bX⟩ := iS cv
 obtain ⟨dH, dI, el, em, dJ, bY, a7, aC, a8, dK, cX⟩ := OS.get (sz := 3) rfl (by decide) (l.le (c.trans g)) bX
 obtain ⟨⟨_, _, rfl, rfl, ⟨_, _, rfl, rfl, rfl⟩⟩, rfl⟩ := bY
 refine E0 6 rfl (sI cz rfl rfl bW a8 aC sl38)<|Es 7 rfl (st_loadN_rd (vs := [iv f.Dep, iv f.Arr, iv f.Rides]) 3 rfl agg42 aC rfl (fun w ho j u hu => a7 w _ ho (List.sublist_append_left _ _) j u hu))<|E0 8 rfl (sM rfl)<|E0 9 rfl (sM rfl) ?_
 obtain ⟨cA, bZ, b0⟩ := iS cw
 obtain ⟨dL, dM, en, eo, dN, b1, a9, aD, ba, dO, cY⟩ := OS.get (sz := 3) rfl (by decide) (l.le (c.trans g)) b0
 obtain ⟨⟨_, _, rfl, rfl, ⟨_, _, rfl, rfl, rfl⟩⟩, rfl⟩ := b1
 refine E0 10 rfl (sI cA rfl rfl bZ ba aD sl38)<|Es 11 rfl (st_loadN_rd (vs := [iv k.Dep, iv k.Arr, iv k.Rides]) 3 rfl agg42 aD rfl (fun w ho j u hu => a9 w _ ho (List.sublist_append_left _ _) j u hu)) ?_
 obtain ⟨cC, aE, aF⟩ := iS cx
 obtain ⟨dP, dQ, ep, eq, dR, b2, cZ, b3, bb, dS, c0⟩ := OS.get (sz := 3) rfl (by decide) (l.le (c.trans g)) aF
 obtain ⟨⟨_, _, rfl, rfl, ⟨_, _, rfl, rfl, rfl⟩⟩, rfl⟩ := b2
 refine E0 12 rfl (sI cC rfl rfl aE bb b3 sl38)<|Eo<|Da [13] (by kernel_rfl) rfl ?_
 refine Rd2 lr rfl rfl (uP aE (sz := 3) (a' := f) rfl [] R 0 3 [iv f.Dep, iv f.Arr, iv f.Rides] rfl (l.le (c.trans g)) aF rfl rfl rfl siz42 rfl (mc rfl (mc rfl (mc rfl mn))) (fun cs hsj hh => by obtain ⟨⟨_, _, rfl, rfl, ⟨_, _, rfl, rfl, rfl⟩⟩, rfl⟩ := hh; exact ⟨by first | decide | exact Nat.le_refl _, ⟨[iv f.Dep], _, rfl, rfl, ⟨[iv f.Arr], _, rfl, rfl, rfl⟩⟩, rfl⟩)) ?_ ?_
 rintro _ _ ⟨dT, rfl, aN⟩
 refine ⟨.inl (by kernel_rfl), ?_⟩
 refine d_resp 0 rfl (v' := .slice S (put a m f).length T) (by simp only [put_length])<|d_resp 73 rfl (v' := .slice S (put a m f).length T) (by simp only [put_length]) ?_
 obtain ⟨cD, aG, aH⟩ := iS cy
 obtain ⟨dU, dV, er, es, dW, b4, c1, b5, bc, dX, c2⟩ := OS.get (sz := 3) rfl (by decide) aN aH
 obtain ⟨⟨_, _, rfl, rfl, ⟨_, _, rfl, rfl, rfl⟩⟩, rfl⟩ := b4
 refine El lr<|E0 14 rfl (sI cD rfl rfl aG bc b5 sl38)<|Eo<|Da [15] (by kernel_rfl) rfl ?_
 refine Rd2 lr rfl rfl (uP aG (sz := 3) (a' := k) rfl [] R 0 3 [iv k.Dep, iv k.Arr, iv k.Rides] rfl aN aH rfl rfl rfl siz42 rfl (mc rfl (mc rfl (mc rfl mn))) (fun cs hsj hh => by obtain ⟨⟨_, _, rfl, rfl, ⟨_, _, rfl, rfl, rfl⟩⟩, rfl⟩ := hh; exact ⟨by first | decide | exact Nat.le_refl _, ⟨[iv k.Dep], _, rfl, rfl, ⟨[iv k.Arr], _, rfl, rfl, rfl⟩⟩, rfl⟩)) ?_ ?_
 rintro _ _ ⟨b6, rfl, cE⟩
 refine ⟨.inl (by kernel_rfl), ?_⟩
 refine d_resp 0 rfl (v' := .slice S (put (put a m f) ae k).length T) (by simp only [put_length])<|Dd (by kernel_rfl) ?_
 obtain rfl := o1 hm
 exact jJ ⟨b6, rfl, rfl, lr, cE, ((put_length _ _ _).trans ((put_length _ _ _).trans V))⟩
 exact Rn
 exact Rn
 rintro ai _ _ ⟨G, rfl, rfl, bd, cG, be⟩
 have hm := bV
 refine Cr<|mV rfl ?_
 obtain ⟨_, aj, hm⟩ := bS hm
 have aj := (kS aj).2
 refine tS (sa rfl rfl aj)<|aS rfl<|Te<|Cg<|mV rfl ?_
 obtain ⟨_, ak, hm⟩ := bS hm
 have ak := (kS ak).2
 refine tS (sb rfl rfl ak)<|aS rfl<|Tn<|Xm ?_
 exact jM hm ⟨G, rfl, rfl, ((U.trans (c.trans (g.trans bd)))), cG, be⟩
 rintro ab _ _ ⟨z, rfl, rfl, bf, cH, bg⟩
 have hm := (unc2E bw)
 refine Cr<|mV rfl<|aS rfl<|Te<|Ct ?_
 obtain ⟨rfl, rfl⟩ := some2 hm
 exact rO ⟨z, rfl, rfl, cH, bg⟩ (aV.trans bf)

set_option maxRecDepth 20000 in
theorem cSlicesPartitionCmpFunc (b : Base) (R : Hp) (x6 x7 x8 l9 K L gU) (h5 : OS 42 (OT.fr rGuidePoint) b.w (sv K l9 L) l9 gU) (bV bW ao) (hm : mSlicesPartitionCmpFunc x6 x7 x8 l9 = some (bV, bW, ao)):
    CallsG Tryd.prog 114 [sv K l9 L, iv x6, iv x7, iv x8, .func (.func 76) #[] #[]] b ((gU ++ R)) (fun v b' hp' => ∃ a9, .tuple #[iv bV, bv bW] = v ∧ (a9 ++ R) = hp' ∧ OS 42 (OT.fr rGuidePoint) b'.w (sv K ao L) ao a9 ∧ ao.length = l9.length) := by
 refine fE 178 Tryd.func114 rfl Tryd.ntmps114 rfl ?_
 unfold mSlicesPartitionCmpFunc at hm
 refine Cr<|aS rfl<|aS rfl<|Te ?_
 obtain ⟨d, de, df⟩ := bS hm
 refine Cj (fun W e' hp' => ∃ n, [(0, sv K d L), (1, iv x6), (2, iv x7), (4, .func (.func 76) #[] #[])] = e' ∧ (n ++ R) = hp' ∧ b.Le W ∧ OS 42 (OT.fr rGuidePoint) W.w (sv K d L) d n ∧ d.length = l9.length) ?_ ?_
 have hm := de
 obtain ⟨i, e6, hm⟩ := bS hm
 obtain ⟨p, e7, hm⟩ := bS hm
 obtain ⟨i7, e8, hm⟩ := bS hm
 obtain ⟨i8, e9, hm⟩ := bS hm
 refine Di mixed (.refl _)<|E0 0 rfl (sM rfl)<|E0 1 rfl (sM rfl)<|E0 2 rfl (sM rfl)<|E0 3 rfl (sM rfl)<|E0 4 rfl (sM rfl)<|E0 5 rfl (sM rfl) ?_
 obtain ⟨fa, dg, dh⟩ := iS e6
 obtain ⟨gV, gW, i9, ja, gX, di, b7, ba, b8, gY, gi⟩ := OS.get (sz := 3) rfl (by decide) h5 dh
 obtain ⟨⟨_, _, rfl, rfl, ⟨_, _, rfl, rfl, rfl⟩⟩, rfl⟩ := di
 refine E0 6 rfl (sI fa rfl rfl dg b8 ba sl38)<|Es 7 rfl (st_loadN_rd (vs := [iv i.Dep, iv i.Arr, iv i.Rides]) 3 rfl agg42 ba rfl (fun w ho j u hu => b7 w _ ho (List.sublist_append_left _ _) j u hu))<|E0 8 rfl (sM rfl)<|E0 9 rfl (sM rfl) ?_
 obtain ⟨fb, dj, dk⟩ := iS e7
 obtain ⟨gZ, g0, jb, jc, g1, dl, b9, bb, ca, g2, gj⟩ := OS.get (sz := 3) rfl (by decide) h5 dk
 obtain ⟨⟨_, _, rfl, rfl, ⟨_, _, rfl, rfl, rfl⟩⟩, rfl⟩ := dl
 refine E0 10 rfl (sI fb rfl rfl dj ca bb sl38)<|Es 11 rfl (st_loadN_rd (vs := [iv p.Dep, iv p.Arr, iv p.Rides]) 3 rfl agg42 bb rfl (fun w ho j u hu => b9 w _ ho (List.sublist_append_left _ _) j u hu)) ?_
 obtain ⟨fc, bc, bd⟩ := iS e8
 obtain ⟨g3, g4, jd, je, g5, dm, gk, dn, cb, g6, gl⟩ := OS.get (sz := 3) rfl (by decide) h5 bd
 obtain ⟨⟨_, _, rfl, rfl, ⟨_, _, rfl, rfl, rfl⟩⟩, rfl⟩ := dm
 refine E0 12 rfl (sI fc rfl rfl bc cb dn sl38)<|Eo<|Da [13] (by kernel_rfl) rfl ?_
 refine Rd2 lr rfl rfl (uP bc (sz := 3) (a' := i) rfl [] R 0 3 [iv i.Dep, iv i.Arr, iv i.Rides] rfl h5 bd rfl rfl rfl siz42 rfl (mc rfl (mc rfl (mc rfl mn))) (fun cs hsj hh => by obtain ⟨⟨_, _, rfl, rfl, ⟨_, _, rfl, rfl, rfl⟩⟩, rfl⟩ := hh; exact ⟨by first | decide | exact Nat.le_refl _, ⟨[iv i.Dep], _, rfl, rfl, ⟨[iv i.Arr], _, rfl, rfl, rfl⟩⟩, rfl⟩)) ?_ ?_
 rintro _ _ ⟨g7, rfl, bX⟩
 refine ⟨.inl (by kernel_rfl), ?_⟩
 refine d_resp 0 rfl (v' := .slice K (put l9 x6 i).length L) (by simp only [put_length])<|d_resp 16 rfl (v' := .slice K (put l9 x6 i).length L) (by simp only [put_length]) ?_
 obtain ⟨fd, be, bf⟩ := iS e9
 obtain ⟨g8, g9, jf, jg, ha, dp, gm, dq, cc, hb, gn⟩ := OS.get (sz := 3) rfl (by decide) bX bf
 obtain ⟨⟨_, _, rfl, rfl, ⟨_, _, rfl, rfl, rfl⟩⟩, rfl⟩ := dp
 refine El lr<|E0 14 rfl (sI fd rfl rfl be cc dq sl38)<|Eo<|Da [15] (by kernel_rfl) rfl ?_
 refine Rd2 lr rfl rfl (uP be (sz := 3) (a' := p) rfl [] R 0 3 [iv p.Dep, iv p.Arr, iv p.Rides] rfl bX bf rfl rfl rfl siz42 rfl (mc rfl (mc rfl (mc rfl mn))) (fun cs hsj hh => by obtain ⟨⟨_, _, rfl, rfl, ⟨_, _, rfl, rfl, rfl⟩⟩, rfl⟩ := hh; exact ⟨by first | decide | exact Nat.le_refl _, ⟨[iv p.Dep], _, rfl, rfl, ⟨[iv p.Arr], _, rfl, rfl, rfl⟩⟩, rfl⟩)) ?_ ?_
 rintro _ _ ⟨dr, rfl, fe⟩
 refine ⟨.inl (by kernel_rfl), ?_⟩
 refine d_resp 0 rfl (v' := .slice K (put (put l9 x6 i) x8 p).length L) (by simp only [put_length])<|Dd (by kernel_rfl) ?_
 obtain rfl := o1 hm
 exact jJ ⟨dr, rfl, rfl, lr, fe, ((put_length _ _ _).trans ((put_length _ _ _).trans rfl))⟩
 exact Rn
 exact Rn
 rintro W _ _ ⟨n, rfl, rfl, aE, k, aF⟩
 have hm := df
 refine Cr<|mV rfl ?_
 obtain ⟨_, aM, hm⟩ := bS hm
 have aM := (kS aM).2
 refine tS (sa rfl rfl aM)<|mV rfl ?_
 obtain ⟨_, aN, hm⟩ := bS hm
 have aN := (kS aN).2
 refine tS (sb rfl rfl aN)<|aS rfl<|aS rfl<|Te ?_
 obtain ⟨x, ds, dt⟩ := bS hm
 refine Cj (fun aq e' hp' => [(0, sv K d L), (1, iv x6), (4, .func (.func 76) #[] #[]), (12, iv x), (13, iv (x7 - 1))] = e' ∧ (n ++ R) = hp' ∧ W.Le aq) ?_ ?_
 have hm := ds
 refine Cb<|lL (fun ar => fun aO e' hp' => [(0, sv K d L), (1, iv x6), (4, .func (.func 76) #[] #[]), (12, iv ar), (13, iv (x7 - 1))] = e' ∧ (n ++ R) = hp' ∧ W.Le aO) hm ⟨rfl, rfl, lr⟩ ?_
 rintro ar aO _ _ hc ⟨rfl, rfl, O⟩ X bg
 unfold mSlicesPartitionCmpFunc_L16072 at X
 have hm := X
 refine Cs ?_
 obtain ⟨ff, du, dv⟩ := bS hm
 refine Cj (fun bY e' hp' => [(0, sv K d L), (1, iv x6), (4, .func (.func 76) #[] #[]), (12, iv ar), (13, iv (x7 - 1)), (47, bv ff)] = e' ∧ (n ++ R) = hp' ∧ aO.Le bY) ?_ ?_
 have hm := du
 by_cases Y : ar ≤ (x7 - 1)
 rw [if_pos Y] at hm
 obtain ⟨C, fg, hm⟩ := bS hm
 obtain ⟨D, fh, hm⟩ := bS hm
 obtain ⟨fi, cd, hm⟩ := bS hm
 refine Di mixed (.refl _)<|E0 0 rfl (sM rfl)<|E0 1 rfl (sM rfl)<|E0 2 rfl (st_leq_t rfl rfl Y)<|E0 3 rfl (sM rfl)<|Yz 4 35 rfl (sM rfl)<|Yz 5 35 rfl (sM rfl)<|Yz 6 35 rfl (sM rfl) ?_
 obtain ⟨fj, dw, dx⟩ := iS fg
 obtain ⟨hd, he, jh, ji, hf, dy, ce, bh, cf, hg, go⟩ := OS.get (sz := 3) rfl (by decide) (k.le O) dx
 obtain ⟨⟨_, _, rfl, rfl, ⟨_, _, rfl, rfl, rfl⟩⟩, rfl⟩ := dy
 refine Yz 7 35 rfl (sI fj rfl rfl dw cf bh sl38)<|Ey 8 35 rfl (st_loadN_rd (vs := [iv C.Dep, iv C.Arr, iv C.Rides]) 3 rfl agg42 bh rfl (fun w ho j u hu => ce w _ ho (List.sublist_append_left _ _) j u hu))<|Yz 9 35 rfl (sM rfl)<|Yz 10 35 rfl (sM rfl) ?_
 obtain ⟨fk, dz, dA⟩ := iS fh
 obtain ⟨hi, hj, jj, jk, hk, dB, cg, bi, ch, hl, gp⟩ := OS.get (sz := 3) rfl (by decide) (k.le O) dA
 obtain ⟨⟨_, _, rfl, rfl, ⟨_, _, rfl, rfl, rfl⟩⟩, rfl⟩ := dB
 refine Yz 11 35 rfl (sI fk rfl rfl dz ch bi sl38)<|Ey 12 35 rfl (st_loadN_rd (vs := [iv D.Dep, iv D.Arr, iv D.Rides]) 3 rfl agg42 bi rfl (fun w ho j u hu => cg w _ ho (List.sublist_append_left _ _) j u hu))<|Eo<|Da [13] (by kernel_rfl) rfl ?_
 refine R_doY lr rfl rfl 35 rfl rfl rfl (u_callvW0 #[] #[] [.agg #[iv C.Dep, iv C.Arr, iv C.Rides], .agg #[iv D.Dep, iv D.Arr, iv D.Rides]] rfl call76 rfl (fun w ho => cGuideComparePoints _ [] C D fi cd) (fun _ _ _ h => h.2.symm)) ?_ ?_
 rintro _ _ ⟨⟨_, rfl, _⟩, rfl⟩
 refine iR<|Ei lr (.refl _)<|Yz 14 35 rfl (q3 rfl rfl)<|E0 15 rfl (pT rfl rfl)<|Eo<|Dd (by kernel_rfl) ?_
 obtain rfl := o1 hm
 exact jJ ⟨rfl, rfl, lr⟩
 exact Rn
 rw [if_neg Y] at hm
 refine Di mixed (.refl _)<|E0 0 rfl (sM rfl)<|E0 1 rfl (sM rfl)<|E0 2 rfl (st_leq_f rfl rfl Y)<|E0 3 rfl (sM rfl)<|eN 4 rfl<|eN 5 rfl<|eN 6 rfl<|eN 7 rfl<|eN 8 rfl ?_
 refine eN 9 rfl<|eN 10 rfl<|eN 11 rfl<|eN 12 rfl<|eN 13 rfl<|eN 14 rfl<|E0 15 rfl (pF rfl rfl)<|Eo<|Dd (by kernel_rfl) ?_
 obtain rfl := o1 hm
 exact jJ ⟨rfl, rfl, lr⟩
 rintro bY _ _ ⟨rfl, rfl, aG⟩
 have hm := dv
 refine cB hm rfl (fun hm => ?_) fun hm => ?_
 refine Ck<|Xn<|Cb<|Cg<|mV rfl ?_
 obtain ⟨_, aP, hm⟩ := bS hm
 have aP := (kS aP).2
 refine tS (sa rfl rfl aP)<|aS rfl<|Tn<|Xm ?_
 exact jM hm ⟨rfl, rfl, ((O.trans aG))⟩
 refine Ce<|Xe<|Xe<|Xo ?_
 have hm := congrArg some (bg _ (Option.some.inj hm).symm)
 obtain rfl := o1 hm
 exact jJ ⟨rfl, rfl, (O.trans aG)⟩
 rintro aq _ _ ⟨rfl, rfl, a⟩
 have hm := dt
 obtain ⟨Z, dC, dD⟩ := bS hm
 refine Cj (fun au e' hp' => [(0, sv K d L), (1, iv x6), (4, .func (.func 76) #[] #[]), (12, iv x), (13, iv Z)] = e' ∧ (n ++ R) = hp' ∧ aq.Le au) ?_ ?_
 have hm := dC
 refine Cb<|lL (fun av => fun aQ e' hp' => [(0, sv K d L), (1, iv x6), (4, .func (.func 76) #[] #[]), (12, iv x), (13, iv av)] = e' ∧ (n ++ R) = hp' ∧ aq.Le aQ) hm ⟨rfl, rfl, lr⟩ ?_
 rintro av aQ _ _ hn ⟨rfl, rfl, S⟩ aa bj
 unfold mSlicesPartitionCmpFunc_L16962 at aa
 have hm := aa
 refine Cs ?_
 obtain ⟨fl, dE, dF⟩ := bS hm
 refine Cj (fun bZ e' hp' => [(0, sv K d L), (1, iv x6), (4, .func (.func 76) #[] #[]), (12, iv x), (13, iv av), (66, bv fl)] = e' ∧ (n ++ R) = hp' ∧ aQ.Le bZ) ?_ ?_
 have hm := dE
 by_cases ab : x ≤ av
 rw [if_pos ab] at hm
 obtain ⟨E, fm, hm⟩ := bS hm
 obtain ⟨F, fn, hm⟩ := bS hm
 obtain ⟨fo, ci, hm⟩ := bS hm
 refine Di mixed (.refl _)<|E0 0 rfl (sM rfl)<|E0 1 rfl (sM rfl)<|E0 2 rfl (st_leq_t rfl rfl ab)<|E0 3 rfl (sM rfl)<|Yz 4 53 rfl (sM rfl)<|Yz 5 53 rfl (sM rfl)<|Yz 6 53 rfl (sM rfl) ?_
 obtain ⟨fp, dH, dI⟩ := iS fm
 obtain ⟨hq, hr, jl, jm, hs, dJ, cj, bk, ck, ht, gq⟩ := OS.get (sz := 3) rfl (by decide) (k.le (a.trans S)) dI
 obtain ⟨⟨_, _, rfl, rfl, ⟨_, _, rfl, rfl, rfl⟩⟩, rfl⟩ := dJ
 refine Yz 7 53 rfl (sI fp rfl rfl dH ck bk sl38)<|Ey 8 53 rfl (st_loadN_rd (vs := [iv E.Dep, iv E.Arr, iv E.Rides]) 3 rfl agg42 bk rfl (fun w ho j u hu => cj w _ ho (List.sublist_append_left _ _) j u hu))<|Yz 9 53 rfl (sM rfl)<|Yz 10 53 rfl (sM rfl) ?_
 obtain ⟨fq, dK, dL⟩ := iS fn
 obtain ⟨hv, hw, jn, jo, hx, dM, cl, bl, cm, hy, gr⟩ := OS.get (sz := 3) rfl (by decide) (k.le (a.trans S)) dL
 obtain ⟨⟨_, _, rfl, rfl, ⟨_, _, rfl, rfl, rfl⟩⟩, rfl⟩ := dM
 refine Yz 11 53 rfl (sI fq rfl rfl dK cm bl sl38)<|Ey 12 53 rfl (st_loadN_rd (vs := [iv F.Dep, iv F.Arr, iv F.Rides]) 3 rfl agg42 bl rfl (fun w ho j u hu => cl w _ ho (List.sublist_append_left _ _) j u hu))<|Eo<|Da [13] (by kernel_rfl) rfl ?_
 refine R_doY lr rfl rfl 53 rfl rfl rfl (u_callvW0 #[] #[] [.agg #[iv E.Dep, iv E.Arr, iv E.Rides], .agg #[iv F.Dep, iv F.Arr, iv F.Rides]] rfl call76 rfl (fun w ho => cGuideComparePoints _ [] E F fo ci) (fun _ _ _ h => h.2.symm)) ?_ ?_
 rintro _ _ ⟨⟨_, rfl, _⟩, rfl⟩
 refine iR<|Ei lr (.refl _)<|Yz 14 53 rfl (q3 rfl rfl)<|Yz 15 53 rfl (sn2 rfl)<|E0 16 rfl (pT rfl rfl)<|Eo<|Dd (by kernel_rfl) ?_
 obtain rfl := o1 hm
 exact jJ ⟨rfl, rfl, lr⟩
 exact Rn
 rw [if_neg ab] at hm
 refine Di mixed (.refl _)<|E0 0 rfl (sM rfl)<|E0 1 rfl (sM rfl)<|E0 2 rfl (st_leq_f rfl rfl ab)<|E0 3 rfl (sM rfl)<|eN 4 rfl<|eN 5 rfl<|eN 6 rfl<|eN 7 rfl<|eN 8 rfl ?_
 refine eN 9 rfl<|eN 10 rfl<|eN 11 rfl<|eN 12 rfl<|eN 13 rfl<|eN 14 rfl<|eN 15 rfl<|E0 16 rfl (pF rfl rfl)<|Eo<|Dd (by kernel_rfl) ?_
 obtain rfl := o1 hm
 exact jJ ⟨rfl, rfl, lr⟩
 rintro bZ _ _ ⟨rfl, rfl, aH⟩
 have hm := dF
 refine cB hm rfl (fun hm => ?_) fun hm => ?_
 refine Ck<|Xn<|Cb<|Cg<|mV rfl ?_
 obtain ⟨_, aR, hm⟩ := bS hm
 have aR := (kS aR).2
 refine tS (sb rfl rfl aR)<|aS rfl<|Tn<|Xm ?_
 exact jM hm ⟨rfl, rfl, ((S.trans aH))⟩
 refine Ce<|Xe<|Xe<|Xo ?_
 have hm := congrArg some (bj _ (Option.some.inj hm).symm)
 obtain rfl := o1 hm
 exact jJ ⟨rfl, rfl, (S.trans aH)⟩
 rintro au _ _ ⟨rfl, rfl, c⟩
 have hm := dD
 refine Cs<|Cr<|mV rfl<|mV rfl<|tS (q5 rfl rfl)<|Te ?_
 refine cI hm rfl (fun hm => ?_) fun hm => ?_
 obtain ⟨aT, dN, dO⟩ := bS hm
 refine Cj (fun aU e' hp' => ∃ ac, [(13, iv Z)] = e' ∧ (ac ++ R) = hp' ∧ au.Le aU ∧ OS 42 (OT.fr rGuidePoint) aU.w (sv K aT L) aT ac ∧ aT.length = l9.length) ?_ ?_
 have hm := dN
 obtain ⟨q, fr, hm⟩ := bS hm
 obtain ⟨y, fs, hm⟩ := bS hm
 obtain ⟨jp, ft, hm⟩ := bS hm
 obtain ⟨jq, fu, hm⟩ := bS hm
 refine Di mixed (.refl _)<|E0 0 rfl (sM rfl)<|E0 1 rfl (sM rfl)<|E0 2 rfl (sM rfl)<|E0 3 rfl (sM rfl)<|E0 4 rfl (sM rfl)<|E0 5 rfl (sM rfl) ?_
 obtain ⟨fv, dP, dQ⟩ := iS fr
 obtain ⟨hz, hA, jr, js, hB, dR, cn, bm, co, hC, gs⟩ := OS.get (sz := 3) rfl (by decide) (k.le (a.trans c)) dQ
 obtain ⟨⟨_, _, rfl, rfl, ⟨_, _, rfl, rfl, rfl⟩⟩, rfl⟩ := dR
 refine E0 6 rfl (sI fv rfl rfl dP co bm sl38)<|Es 7 rfl (st_loadN_rd (vs := [iv q.Dep, iv q.Arr, iv q.Rides]) 3 rfl agg42 bm rfl (fun w ho j u hu => cn w _ ho (List.sublist_append_left _ _) j u hu))<|E0 8 rfl (sM rfl)<|E0 9 rfl (sM rfl) ?_
 obtain ⟨fw, dS, dT⟩ := iS fs
 obtain ⟨hD, hE, jt, ju, hF, dU, cp, bn, cq, hG, gt⟩ := OS.get (sz := 3) rfl (by decide) (k.le (a.trans c)) dT
 obtain ⟨⟨_, _, rfl, rfl, ⟨_, _, rfl, rfl, rfl⟩⟩, rfl⟩ := dU
 refine E0 10 rfl (sI fw rfl rfl dS cq bn sl38)<|Es 11 rfl (st_loadN_rd (vs := [iv y.Dep, iv y.Arr, iv y.Rides]) 3 rfl agg42 bn rfl (fun w ho j u hu => cp w _ ho (List.sublist_append_left _ _) j u hu)) ?_
 obtain ⟨fx, bo, bp⟩ := iS ft
 obtain ⟨hH, hI, jv, jw, hJ, dV, gu, dW, cr, hK, gv⟩ := OS.get (sz := 3) rfl (by decide) (k.le (a.trans c)) bp
 obtain ⟨⟨_, _, rfl, rfl, ⟨_, _, rfl, rfl, rfl⟩⟩, rfl⟩ := dV
 refine E0 12 rfl (sI fx rfl rfl bo cr dW sl38)<|Eo<|Da [13] (by kernel_rfl) rfl ?_
 refine Rd2 lr rfl rfl (uP bo (sz := 3) (a' := q) rfl [] R 0 3 [iv q.Dep, iv q.Arr, iv q.Rides] rfl (k.le (a.trans c)) bp rfl rfl rfl siz42 rfl (mc rfl (mc rfl (mc rfl mn))) (fun cs hsj hh => by obtain ⟨⟨_, _, rfl, rfl, ⟨_, _, rfl, rfl, rfl⟩⟩, rfl⟩ := hh; exact ⟨by first | decide | exact Nat.le_refl _, ⟨[iv q.Dep], _, rfl, rfl, ⟨[iv q.Arr], _, rfl, rfl, rfl⟩⟩, rfl⟩)) ?_ ?_
 rintro _ _ ⟨hL, rfl, b0⟩
 refine ⟨.inl (by kernel_rfl), ?_⟩
 refine d_resp 74 rfl (v' := .slice K (put d Z q).length L) (by simp only [put_length]) ?_
 obtain ⟨fy, bq, br⟩ := iS fu
 obtain ⟨hM, hN, jx, jy, hO, dX, gw, dY, ct, hP, gx⟩ := OS.get (sz := 3) rfl (by decide) b0 br
 obtain ⟨⟨_, _, rfl, rfl, ⟨_, _, rfl, rfl, rfl⟩⟩, rfl⟩ := dX
 refine El lr<|E0 14 rfl (sI fy rfl rfl bq ct dY sl38)<|Eo<|Da [15] (by kernel_rfl) rfl ?_
 refine Rd2 lr rfl rfl (uP bq (sz := 3) (a' := y) rfl [] R 0 3 [iv y.Dep, iv y.Arr, iv y.Rides] rfl b0 br rfl rfl rfl siz42 rfl (mc rfl (mc rfl (mc rfl mn))) (fun cs hsj hh => by obtain ⟨⟨_, _, rfl, rfl, ⟨_, _, rfl, rfl, rfl⟩⟩, rfl⟩ := hh; exact ⟨by first | decide | exact Nat.le_refl _, ⟨[iv y.Dep], _, rfl, rfl, ⟨[iv y.Arr], _, rfl, rfl, rfl⟩⟩, rfl⟩)) ?_ ?_
 rintro _ _ ⟨dZ, rfl, fz⟩
 refine ⟨.inl (by kernel_rfl), ?_⟩
 refine Dd (by kernel_rfl) ?_
 obtain rfl := o1 hm
 exact jJ ⟨dZ, rfl, rfl, lr, fz, ((put_length _ _ _).trans ((put_length _ _ _).trans aF))⟩
 exact Rn
 exact Rn
 rintro aU _ _ ⟨ac, rfl, rfl, cu, fA, cv⟩
 have hm := dO
 refine Cr<|mV rfl<|aS rfl<|aS rfl<|Te<|Ct<|Xr ?_
 obtain ⟨rfl, rfl, rfl⟩ := some3 hm
 exact rT ⟨ac, rfl, rfl, fA, cv⟩ (aE.trans (a.trans (c.trans cu)))
 refine Ck<|Xn ?_
 obtain ⟨aw, d0, d1⟩ := bS hm
 refine Cj (fun ad e' hp' => ∃ ae, [(0, sv K aw L), (1, iv x6), (4, .func (.func 76) #[] #[]), (12, iv x), (13, iv Z)] = e' ∧ (ae ++ R) = hp' ∧ au.Le ad ∧ OS 42 (OT.fr rGuidePoint) ad.w (sv K aw L) aw ae ∧ aw.length = l9.length) ?_ ?_
 have hm := d0
 obtain ⟨l, fB, hm⟩ := bS hm
 obtain ⟨r, fC, hm⟩ := bS hm
 obtain ⟨jz, fD, hm⟩ := bS hm
 obtain ⟨jA, fF, hm⟩ := bS hm
 refine Di mixed (.refl _)<|E0 0 rfl (sM rfl)<|E0 1 rfl (sM rfl)<|E0 2 rfl (sM rfl)<|E0 3 rfl (sM rfl)<|E0 4 rfl (sM rfl)<|E0 5 rfl (sM rfl) ?_
 obtain ⟨fG, d5, d6⟩ := iS fB
 obtain ⟨hQ, hR, jB, jC, hS, d7, cw, bs, cx, hT, gy⟩ := OS.get (sz := 3) rfl (by decide) (k.le (a.trans c)) d6
 obtain ⟨⟨_, _, rfl, rfl, ⟨_, _, rfl, rfl, rfl⟩⟩, rfl⟩ := d7
 refine E0 6 rfl (sI fG rfl rfl d5 cx bs sl38)<|Es 7 rfl (st_loadN_rd (vs := [iv l.Dep, iv l.Arr, iv l.Rides]) 3 rfl agg42 bs rfl (fun w ho j u hu => cw w _ ho (List.sublist_append_left _ _) j u hu))<|E0 8 rfl (sM rfl)<|E0 9 rfl (sM rfl) ?_
 obtain ⟨fH, d8, d9⟩ := iS fC
 obtain ⟨hU, hV, jD, jE, hW, ea, cy, bt, cz, hX, gz⟩ := OS.get (sz := 3) rfl (by decide) (k.le (a.trans c)) d9
 obtain ⟨⟨_, _, rfl, rfl, ⟨_, _, rfl, rfl, rfl⟩⟩, rfl⟩ := ea
 refine E0 10 rfl (sI fH rfl rfl d8 cz bt sl38)<|Es 11 rfl (st_loadN_rd (vs := [iv r.Dep, iv r.Arr, iv r.Rides]) 3 rfl agg42 bt rfl (fun w ho j u hu => cy w _ ho (List.sublist_append_left _ _) j u hu)) ?_
 obtain ⟨fI, bu, bw⟩ := iS fD
 obtain ⟨hY, hZ, jF, jG, h0, eb, gA, ec, cA, h1, gB⟩ := OS.get (sz := 3) rfl (by decide) (k.le (a.trans c)) bw
 obtain ⟨⟨_, _, rfl, rfl, ⟨_, _, rfl, rfl, rfl⟩⟩, rfl⟩ := eb
 refine E0 12 rfl (sI fI rfl rfl bu cA ec sl38)<|Eo<|Da [13] (by kernel_rfl) rfl ?_
 refine Rd2 lr rfl rfl (uP bu (sz := 3) (a' := l) rfl [] R 0 3 [iv l.Dep, iv l.Arr, iv l.Rides] rfl (k.le (a.trans c)) bw rfl rfl rfl siz42 rfl (mc rfl (mc rfl (mc rfl mn))) (fun cs hsj hh => by obtain ⟨⟨_, _, rfl, rfl, ⟨_, _, rfl, rfl, rfl⟩⟩, rfl⟩ := hh; exact ⟨by first | decide | exact Nat.le_refl _, ⟨[iv l.Dep], _, rfl, rfl, ⟨[iv l.Arr], _, rfl, rfl, rfl⟩⟩, rfl⟩)) ?_ ?_
 rintro _ _ ⟨h2, rfl, b1⟩
 refine ⟨.inl (by kernel_rfl), ?_⟩
 refine d_resp 0 rfl (v' := .slice K (put d x l).length L) (by simp only [put_length])<|d_resp 89 rfl (v' := .slice K (put d x l).length L) (by simp only [put_length]) ?_
 obtain ⟨fJ, bx, bz⟩ := iS fF
 obtain ⟨h3, h4, jH, jI, h6, ed, gC, ee, cC, h7, gD⟩ := OS.get (sz := 3) rfl (by decide) b1 bz
 obtain ⟨⟨_, _, rfl, rfl, ⟨_, _, rfl, rfl, rfl⟩⟩, rfl⟩ := ed
 refine El lr<|E0 14 rfl (sI fJ rfl rfl bx cC ee sl38)<|Eo<|Da [15] (by kernel_rfl) rfl ?_
 refine Rd2 lr rfl rfl (uP bx (sz := 3) (a' := r) rfl [] R 0 3 [iv r.Dep, iv r.Arr, iv r.Rides] rfl b1 bz rfl rfl rfl siz42 rfl (mc rfl (mc rfl (mc rfl mn))) (fun cs hsj hh => by obtain ⟨⟨_, _, rfl, rfl, ⟨_, _, rfl, rfl, rfl⟩⟩, rfl⟩ := hh; exact ⟨by first | decide | exact Nat.le_refl _, ⟨[iv r.Dep], _, rfl, rfl, ⟨[iv r.Arr], _, rfl, rfl, rfl⟩⟩, rfl⟩)) ?_ ?_
 rintro _ _ ⟨ef, rfl, fK⟩
 refine ⟨.inl (by kernel_rfl), ?_⟩
 refine d_resp 0 rfl (v' := .slice K (put (put d x l) Z r).length L) (by simp only [put_length])<|Dd (by kernel_rfl) ?_
 obtain rfl := o1 hm
 exact jJ ⟨ef, rfl, rfl, lr, fK, ((put_length _ _ _).trans ((put_length _ _ _).trans aF))⟩
 exact Rn
 exact Rn
 rintro ad _ _ ⟨ae, rfl, rfl, cD, fL, cE⟩
 have hm := d1
 refine Cr<|mV rfl ?_
 obtain ⟨_, aV, hm⟩ := bS hm
 have aV := (kS aV).2
 refine tS (sa rfl rfl aV)<|aS rfl<|Te<|Cr<|mV rfl ?_
 obtain ⟨_, aW, hm⟩ := bS hm
 have aW := (kS aW).2
 refine tS (sb rfl rfl aW)<|aS rfl<|Te ?_
 obtain ⟨⟨aX, af⟩, eg, eh⟩ := bS hm
 refine Cj (fun ax e' hp' => ∃ aD, [(0, sv K af L), (1, iv x6), (13, iv aX)] = e' ∧ (aD ++ R) = hp' ∧ ad.Le ax ∧ OS 42 (OT.fr rGuidePoint) ax.w (sv K af L) af aD ∧ af.length = l9.length) ?_ ?_
 have hm := eg
 refine Cb<|lL (unc3 fun b2 T e => fun ag e' hp' => ∃ g, [(0, sv K e L), (1, iv x6), (4, .func (.func 76) #[] #[]), (12, iv b2), (13, iv T)] = e' ∧ (g ++ R) = hp' ∧ ad.Le ag ∧ OS 42 (OT.fr rGuidePoint) ag.w (sv K e L) e g ∧ e.length = l9.length) hm ⟨ae, rfl, rfl, lr, fL, cE⟩ ?_
 rintro ⟨b2, T, e⟩ ag _ _ h8 ⟨g, rfl, rfl, aI, z, aJ⟩ ah bA
 unfold mSlicesPartitionCmpFunc_L24183 at ah
 have hm := (unc3E ah)
 refine Cb ?_
 obtain ⟨A, ei, ej⟩ := bS hm
 refine Cj (fun ay e' hp' => [(0, sv K e L), (1, iv x6), (4, .func (.func 76) #[] #[]), (12, iv A), (13, iv T)] = e' ∧ (g ++ R) = hp' ∧ ag.Le ay) ?_ ?_
 have hm := ei
 refine Cb<|lL (fun az => fun aY e' hp' => [(0, sv K e L), (1, iv x6), (4, .func (.func 76) #[] #[]), (12, iv az), (13, iv T)] = e' ∧ (g ++ R) = hp' ∧ ag.Le aY) hm ⟨rfl, rfl, lr⟩ ?_
 rintro az aY _ _ h9 ⟨rfl, rfl, U⟩ ai bB
 unfold mSlicesPartitionCmpFunc_L28773 at ai
 have hm := ai
 refine Cs ?_
 obtain ⟨fM, ek, el⟩ := bS hm
 refine Cj (fun b3 e' hp' => [(0, sv K e L), (1, iv x6), (4, .func (.func 76) #[] #[]), (12, iv az), (13, iv T), (120, bv fM)] = e' ∧ (g ++ R) = hp' ∧ aY.Le b3) ?_ ?_
 have hm := ek
 by_cases aj : az ≤ T
 rw [if_pos aj] at hm
 obtain ⟨G, fN, hm⟩ := bS hm
 obtain ⟨H, fO, hm⟩ := bS hm
 obtain ⟨fP, cG, hm⟩ := bS hm
 refine Di mixed (.refl _)<|E0 0 rfl (sM rfl)<|E0 1 rfl (sM rfl)<|E0 2 rfl (st_leq_t rfl rfl aj)<|E0 3 rfl (sM rfl)<|Yz 4 108 rfl (sM rfl)<|Yz 5 108 rfl (sM rfl)<|Yz 6 108 rfl (sM rfl) ?_
 obtain ⟨fQ, em, en⟩ := iS fN
 obtain ⟨ia, ib, jK, jL, ic, eo, cH, bC, cJ, id, gE⟩ := OS.get (sz := 3) rfl (by decide) (z.le U) en
 obtain ⟨⟨_, _, rfl, rfl, ⟨_, _, rfl, rfl, rfl⟩⟩, rfl⟩ := eo
 refine Yz 7 108 rfl (sI fQ rfl rfl em cJ bC sl38)<|Ey 8 108 rfl (st_loadN_rd (vs := [iv G.Dep, iv G.Arr, iv G.Rides]) 3 rfl agg42 bC rfl (fun w ho j u hu => cH w _ ho (List.sublist_append_left _ _) j u hu))<|Yz 9 108 rfl (sM rfl)<|Yz 10 108 rfl (sM rfl) ?_
 obtain ⟨fR, ep, eq⟩ := iS fO
 obtain ⟨ie, ig, jN, jO, ii, er, cK, bD, cO, ij, gF⟩ := OS.get (sz := 3) rfl (by decide) (z.le U) eq
 obtain ⟨⟨_, _, rfl, rfl, ⟨_, _, rfl, rfl, rfl⟩⟩, rfl⟩ := er
 refine Yz 11 108 rfl (sI fR rfl rfl ep cO bD sl38)<|Ey 12 108 rfl (st_loadN_rd (vs := [iv H.Dep, iv H.Arr, iv H.Rides]) 3 rfl agg42 bD rfl (fun w ho j u hu => cK w _ ho (List.sublist_append_left _ _) j u hu))<|Eo<|Da [13] (by kernel_rfl) rfl ?_
 refine R_doY lr rfl rfl 108 rfl rfl rfl (u_callvW0 #[] #[] [.agg #[iv G.Dep, iv G.Arr, iv G.Rides], .agg #[iv H.Dep, iv H.Arr, iv H.Rides]] rfl call76 rfl (fun w ho => cGuideComparePoints _ [] G H fP cG) (fun _ _ _ h => h.2.symm)) ?_ ?_
 rintro _ _ ⟨⟨_, rfl, _⟩, rfl⟩
 refine iR<|Ei lr (.refl _)<|Yz 14 108 rfl (q3 rfl rfl)<|E0 15 rfl (pT rfl rfl)<|Eo<|Dd (by kernel_rfl) ?_
 obtain rfl := o1 hm
 exact jJ ⟨rfl, rfl, lr⟩
 exact Rn
 rw [if_neg aj] at hm
 refine Di mixed (.refl _)<|E0 0 rfl (sM rfl)<|E0 1 rfl (sM rfl)<|E0 2 rfl (st_leq_f rfl rfl aj)<|E0 3 rfl (sM rfl)<|eN 4 rfl<|eN 5 rfl<|eN 6 rfl<|eN 7 rfl<|eN 8 rfl ?_
 refine eN 9 rfl<|eN 10 rfl<|eN 11 rfl<|eN 12 rfl<|eN 13 rfl<|eN 14 rfl<|E0 15 rfl (pF rfl rfl)<|Eo<|Dd (by kernel_rfl) ?_
 obtain rfl := o1 hm
 exact jJ ⟨rfl, rfl, lr⟩
 rintro b3 _ _ ⟨rfl, rfl, aK⟩
 have hm := el
 refine cB hm rfl (fun hm => ?_) fun hm => ?_
 refine Ck<|Xn<|Cb<|Cg<|mV rfl ?_
 obtain ⟨_, aZ, hm⟩ := bS hm
 have aZ := (kS aZ).2
 refine tS (sa rfl rfl aZ)<|aS rfl<|Tn<|Xm ?_
 exact jM hm ⟨rfl, rfl, ((U.trans aK))⟩
 refine Ce<|Xe<|Xe<|Xo ?_
 have hm := congrArg some (bB _ (Option.some.inj hm).symm)
 obtain rfl := o1 hm
 exact jJ ⟨rfl, rfl, (U.trans aK)⟩
 rintro ay _ _ ⟨rfl, rfl, f⟩
 have hm := ej
 obtain ⟨a0, es, et⟩ := bS hm
 refine Cj (fun a1 e' hp' => [(0, sv K e L), (1, iv x6), (4, .func (.func 76) #[] #[]), (12, iv A), (13, iv a0)] = e' ∧ (g ++ R) = hp' ∧ ay.Le a1) ?_ ?_
 have hm := es
 refine Cb<|lL (fun aA => fun a2 e' hp' => [(0, sv K e L), (1, iv x6), (4, .func (.func 76) #[] #[]), (12, iv A), (13, iv aA)] = e' ∧ (g ++ R) = hp' ∧ ay.Le a2) hm ⟨rfl, rfl, lr⟩ ?_
 rintro aA a2 _ _ ik ⟨rfl, rfl, V⟩ ak bE
 unfold mSlicesPartitionCmpFunc_L29663 at ak
 have hm := ak
 refine Cs ?_
 obtain ⟨fS, eu, ev⟩ := bS hm
 refine Cj (fun b4 e' hp' => [(0, sv K e L), (1, iv x6), (4, .func (.func 76) #[] #[]), (12, iv A), (13, iv aA), (139, bv fS)] = e' ∧ (g ++ R) = hp' ∧ a2.Le b4) ?_ ?_
 have hm := eu
 by_cases al : A ≤ aA
 rw [if_pos al] at hm
 obtain ⟨I, fT, hm⟩ := bS hm
 obtain ⟨J, fU, hm⟩ := bS hm
 obtain ⟨fV, cP, hm⟩ := bS hm
 refine Di mixed (.refl _)<|E0 0 rfl (sM rfl)<|E0 1 rfl (sM rfl)<|E0 2 rfl (st_leq_t rfl rfl al)<|E0 3 rfl (sM rfl)<|Yz 4 126 rfl (sM rfl)<|Yz 5 126 rfl (sM rfl)<|Yz 6 126 rfl (sM rfl) ?_
 obtain ⟨fW, ew, ex⟩ := iS fT
 obtain ⟨il, im, jP, jQ, io, ey, cQ, bG, cR, ip, gG⟩ := OS.get (sz := 3) rfl (by decide) (z.le (f.trans V)) ex
 obtain ⟨⟨_, _, rfl, rfl, ⟨_, _, rfl, rfl, rfl⟩⟩, rfl⟩ := ey
 refine Yz 7 126 rfl (sI fW rfl rfl ew cR bG sl38)<|Ey 8 126 rfl (st_loadN_rd (vs := [iv I.Dep, iv I.Arr, iv I.Rides]) 3 rfl agg42 bG rfl (fun w ho j u hu => cQ w _ ho (List.sublist_append_left _ _) j u hu))<|Yz 9 126 rfl (sM rfl)<|Yz 10 126 rfl (sM rfl) ?_
 obtain ⟨fX, ez, eA⟩ := iS fU
 obtain ⟨iq, ir, jR, jT, iu, eB, cT, bH, cU, iw, gH⟩ := OS.get (sz := 3) rfl (by decide) (z.le (f.trans V)) eA
 obtain ⟨⟨_, _, rfl, rfl, ⟨_, _, rfl, rfl, rfl⟩⟩, rfl⟩ := eB
 refine Yz 11 126 rfl (sI fX rfl rfl ez cU bH sl38)<|Ey 12 126 rfl (st_loadN_rd (vs := [iv J.Dep, iv J.Arr, iv J.Rides]) 3 rfl agg42 bH rfl (fun w ho j u hu => cT w _ ho (List.sublist_append_left _ _) j u hu))<|Eo<|Da [13] (by kernel_rfl) rfl ?_
 refine R_doY lr rfl rfl 126 rfl rfl rfl (u_callvW0 #[] #[] [.agg #[iv I.Dep, iv I.Arr, iv I.Rides], .agg #[iv J.Dep, iv J.Arr, iv J.Rides]] rfl call76 rfl (fun w ho => cGuideComparePoints _ [] I J fV cP) (fun _ _ _ h => h.2.symm)) ?_ ?_
 rintro _ _ ⟨⟨_, rfl, _⟩, rfl⟩
 refine iR<|Ei lr (.refl _)<|Yz 14 126 rfl (q3 rfl rfl)<|Yz 15 126 rfl (sn2 rfl)<|E0 16 rfl (pT rfl rfl)<|Eo<|Dd (by kernel_rfl) ?_
 obtain rfl := o1 hm
 exact jJ ⟨rfl, rfl, lr⟩
 exact Rn
 rw [if_neg al] at hm
 refine Di mixed (.refl _)<|E0 0 rfl (sM rfl)<|E0 1 rfl (sM rfl)<|E0 2 rfl (st_leq_f rfl rfl al)<|E0 3 rfl (sM rfl)<|eN 4 rfl<|eN 5 rfl<|eN 6 rfl<|eN 7 rfl<|eN 8 rfl ?_
 refine eN 9 rfl<|eN 10 rfl<|eN 11 rfl<|eN 12 rfl<|eN 13 rfl<|eN 14 rfl<|eN 15 rfl<|E0 16 rfl (pF rfl rfl)<|Eo<|Dd (by kernel_rfl) ?_
 obtain rfl := o1 hm
 exact jJ ⟨rfl, rfl, lr⟩
 rintro b4 _ _ ⟨rfl, rfl, aL⟩
 have hm := ev
 refine cB hm rfl (fun hm => ?_) fun hm => ?_
 refine Ck<|Xn<|Cb<|Cg<|mV rfl ?_
 obtain ⟨_, a3, hm⟩ := bS hm
 have a3 := (kS a3).2
 refine tS (sb rfl rfl a3)<|aS rfl<|Tn<|Xm ?_
 exact jM hm ⟨rfl, rfl, ((V.trans aL))⟩
 refine Ce<|Xe<|Xe<|Xo ?_
 have hm := congrArg some (bE _ (Option.some.inj hm).symm)
 obtain rfl := o1 hm
 exact jJ ⟨rfl, rfl, (V.trans aL)⟩
 rintro a1 _ _ ⟨rfl, rfl, o⟩
 have hm := et
 refine Cs<|Cr<|mV rfl<|mV rfl<|tS (q5 rfl rfl)<|Te ?_
 refine cI hm rfl (fun hm => ?_) fun hm => ?_
 refine Ce<|Xe<|Xi rfl<|Xe<|Xo ?_
 have hm := congrArg some (bA _ (Option.some.inj hm).symm)
 obtain ⟨rfl, rfl⟩ := some2 hm
 exact jJ ⟨g, rfl, rfl, (aI.trans (f.trans o)), (z.le (f.trans o)), aJ⟩
 refine Ck<|Xn ?_
 obtain ⟨aB, eC, eD⟩ := bS hm
 refine Cj (fun a4 e' hp' => ∃ am, [(0, sv K aB L), (1, iv x6), (4, .func (.func 76) #[] #[]), (12, iv A), (13, iv a0)] = e' ∧ (am ++ R) = hp' ∧ a1.Le a4 ∧ OS 42 (OT.fr rGuidePoint) a4.w (sv K aB L) aB am ∧ aB.length = l9.length) ?_ ?_
 have hm := eC
 obtain ⟨m, fY, hm⟩ := bS hm
 obtain ⟨s, fZ, hm⟩ := bS hm
 obtain ⟨jU, f0, hm⟩ := bS hm
 obtain ⟨jV, f1, hm⟩ := bS hm
 refine Di mixed (.refl _)<|E0 0 rfl (sM rfl)<|E0 1 rfl (sM rfl)<|E0 2 rfl (sM rfl)<|E0 3 rfl (sM rfl)<|E0 4 rfl (sM rfl)<|E0 5 rfl (sM rfl) ?_
 obtain ⟨f2, eE, eG⟩ := iS fY
 obtain ⟨ix, iy, jW, jX, iz, eH, cV, bI, cW, iA, gI⟩ := OS.get (sz := 3) rfl (by decide) (z.le (f.trans o)) eG
 obtain ⟨⟨_, _, rfl, rfl, ⟨_, _, rfl, rfl, rfl⟩⟩, rfl⟩ := eH
 refine E0 6 rfl (sI f2 rfl rfl eE cW bI sl38)<|Es 7 rfl (st_loadN_rd (vs := [iv m.Dep, iv m.Arr, iv m.Rides]) 3 rfl agg42 bI rfl (fun w ho j u hu => cV w _ ho (List.sublist_append_left _ _) j u hu))<|E0 8 rfl (sM rfl)<|E0 9 rfl (sM rfl) ?_
 obtain ⟨f3, eI, eJ⟩ := iS fZ
 obtain ⟨iB, iC, jY, jZ, iD, eK, cX, bJ, cY, iE, gJ⟩ := OS.get (sz := 3) rfl (by decide) (z.le (f.trans o)) eJ
 obtain ⟨⟨_, _, rfl, rfl, ⟨_, _, rfl, rfl, rfl⟩⟩, rfl⟩ := eK
 refine E0 10 rfl (sI f3 rfl rfl eI cY bJ sl38)<|Es 11 rfl (st_loadN_rd (vs := [iv s.Dep, iv s.Arr, iv s.Rides]) 3 rfl agg42 bJ rfl (fun w ho j u hu => cX w _ ho (List.sublist_append_left _ _) j u hu)) ?_
 obtain ⟨f4, bK, bL⟩ := iS f0
 obtain ⟨iF, iG, j0, j1, iH, eL, gK, eM, cZ, iI, gL⟩ := OS.get (sz := 3) rfl (by decide) (z.le (f.trans o)) bL
 obtain ⟨⟨_, _, rfl, rfl, ⟨_, _, rfl, rfl, rfl⟩⟩, rfl⟩ := eL
 refine E0 12 rfl (sI f4 rfl rfl bK cZ eM sl38)<|Eo<|Da [13] (by kernel_rfl) rfl ?_
 refine Rd2 lr rfl rfl (uP bK (sz := 3) (a' := m) rfl [] R 0 3 [iv m.Dep, iv m.Arr, iv m.Rides] rfl (z.le (f.trans o)) bL rfl rfl rfl siz42 rfl (mc rfl (mc rfl (mc rfl mn))) (fun cs hsj hh => by obtain ⟨⟨_, _, rfl, rfl, ⟨_, _, rfl, rfl, rfl⟩⟩, rfl⟩ := hh; exact ⟨by first | decide | exact Nat.le_refl _, ⟨[iv m.Dep], _, rfl, rfl, ⟨[iv m.Arr], _, rfl, rfl, rfl⟩⟩, rfl⟩)) ?_ ?_
 rintro _ _ ⟨iJ, rfl, b5⟩
 refine ⟨.inl (by kernel_rfl), ?_⟩
 refine d_resp 0 rfl (v' := .slice K (put e A m).length L) (by simp only [put_length])<|d_resp 147 rfl (v' := .slice K (put e A m).length L) (by simp only [put_length]) ?_
 obtain ⟨f5, bM, bN⟩ := iS f1
 obtain ⟨iK, iL, j2, j3, iM, eO, gM, eP, c0, iN, gN⟩ := OS.get (sz := 3) rfl (by decide) b5 bN
 obtain ⟨⟨_, _, rfl, rfl, ⟨_, _, rfl, rfl, rfl⟩⟩, rfl⟩ := eO
 refine El lr<|E0 14 rfl (sI f5 rfl rfl bM c0 eP sl38)<|Eo<|Da [15] (by kernel_rfl) rfl ?_
 refine Rd2 lr rfl rfl (uP bM (sz := 3) (a' := s) rfl [] R 0 3 [iv s.Dep, iv s.Arr, iv s.Rides] rfl b5 bN rfl rfl rfl siz42 rfl (mc rfl (mc rfl (mc rfl mn))) (fun cs hsj hh => by obtain ⟨⟨_, _, rfl, rfl, ⟨_, _, rfl, rfl, rfl⟩⟩, rfl⟩ := hh; exact ⟨by first | decide | exact Nat.le_refl _, ⟨[iv s.Dep], _, rfl, rfl, ⟨[iv s.Arr], _, rfl, rfl, rfl⟩⟩, rfl⟩)) ?_ ?_
 rintro _ _ ⟨eQ, rfl, f6⟩
 refine ⟨.inl (by kernel_rfl), ?_⟩
 refine d_resp 0 rfl (v' := .slice K (put (put e A m) a0 s).length L) (by simp only [put_length])<|Dd (by kernel_rfl) ?_
 obtain rfl := o1 hm
 exact jJ ⟨eQ, rfl, rfl, lr, f6, ((put_length _ _ _).trans ((put_length _ _ _).trans aJ))⟩
 exact Rn
 exact Rn
 rintro a4 _ _ ⟨am, rfl, rfl, c1, f7, c2⟩
 have hm := eD
 refine Cr<|mV rfl ?_
 obtain ⟨_, a5, hm⟩ := bS hm
 have a5 := (kS a5).2
 refine tS (sa rfl rfl a5)<|aS rfl<|Te<|Cg<|mV rfl ?_
 obtain ⟨_, a6, hm⟩ := bS hm
 have a6 := (kS a6).2
 refine tS (sb rfl rfl a6)<|aS rfl<|Tn<|Xm ?_
 exact jM hm ⟨am, rfl, rfl, ((aI.trans (f.trans (o.trans c1)))), f7, c2⟩
 rintro ax _ _ ⟨aD, rfl, rfl, c3, aC, c5⟩
 have hm := (unc2E eh)
 obtain ⟨a7, eR, eS⟩ := bS hm
 refine Cj (fun a8 e' hp' => ∃ an, [(13, iv aX)] = e' ∧ (an ++ R) = hp' ∧ ax.Le a8 ∧ OS 42 (OT.fr rGuidePoint) a8.w (sv K a7 L) a7 an ∧ a7.length = l9.length) ?_ ?_
 have hm := eR
 obtain ⟨t, f8, hm⟩ := bS hm
 obtain ⟨B, f9, hm⟩ := bS hm
 obtain ⟨j4, ga, hm⟩ := bS hm
 obtain ⟨j5, gb, hm⟩ := bS hm
 refine Di mixed (.refl _)<|E0 0 rfl (sM rfl)<|E0 1 rfl (sM rfl)<|E0 2 rfl (sM rfl)<|E0 3 rfl (sM rfl)<|E0 4 rfl (sM rfl)<|E0 5 rfl (sM rfl) ?_
 obtain ⟨gc, eU, eV⟩ := iS f8
 obtain ⟨iO, iP, j6, j7, iQ, eW, c6, bO, c7, iT, gO⟩ := OS.get (sz := 3) rfl (by decide) aC eV
 obtain ⟨⟨_, _, rfl, rfl, ⟨_, _, rfl, rfl, rfl⟩⟩, rfl⟩ := eW
 refine E0 6 rfl (sI gc rfl rfl eU c7 bO sl38)<|Es 7 rfl (st_loadN_rd (vs := [iv t.Dep, iv t.Arr, iv t.Rides]) 3 rfl agg42 bO rfl (fun w ho j u hu => c6 w _ ho (List.sublist_append_left _ _) j u hu))<|E0 8 rfl (sM rfl)<|E0 9 rfl (sM rfl) ?_
 obtain ⟨gd, eX, eY⟩ := iS f9
 obtain ⟨iU, iV, j8, j9, iW, e0, c8, bP, c9, iX, gP⟩ := OS.get (sz := 3) rfl (by decide) aC eY
 obtain ⟨⟨_, _, rfl, rfl, ⟨_, _, rfl, rfl, rfl⟩⟩, rfl⟩ := e0
 refine E0 10 rfl (sI gd rfl rfl eX c9 bP sl38)<|Es 11 rfl (st_loadN_rd (vs := [iv B.Dep, iv B.Arr, iv B.Rides]) 3 rfl agg42 bP rfl (fun w ho j u hu => c8 w _ ho (List.sublist_append_left _ _) j u hu)) ?_
 obtain ⟨ge, bQ, bR⟩ := iS ga
 obtain ⟨iY, iZ, ka, kb, i0, e1, gQ, e2, da, i1, gR⟩ := OS.get (sz := 3) rfl (by decide) aC bR
 obtain ⟨⟨_, _, rfl, rfl, ⟨_, _, rfl, rfl, rfl⟩⟩, rfl⟩ := e1
 refine E0 12 rfl (sI ge rfl rfl bQ da e2 sl38)<|Eo<|Da [13] (by kernel_rfl) rfl ?_
 refine Rd2 lr rfl rfl (uP bQ (sz := 3) (a' := t) rfl [] R 0 3 [iv t.Dep, iv t.Arr, iv t.Rides] rfl aC bR rfl rfl rfl siz42 rfl (mc rfl (mc rfl (mc rfl mn))) (fun cs hsj hh => by obtain ⟨⟨_, _, rfl, rfl, ⟨_, _, rfl, rfl, rfl⟩⟩, rfl⟩ := hh; exact ⟨by first | decide | exact Nat.le_refl _, ⟨[iv t.Dep], _, rfl, rfl, ⟨[iv t.Arr], _, rfl, rfl, rfl⟩⟩, rfl⟩)) ?_ ?_
 rintro _ _ ⟨i2, rfl, b6⟩
 refine ⟨.inl (by kernel_rfl), ?_⟩
 refine d_resp 165 rfl (v' := .slice K (put af aX t).length L) (by simp only [put_length]) ?_
 obtain ⟨gf, bT, bU⟩ := iS gb
 obtain ⟨i3, i4, kc, kd, i5, e3, gS, e4, db, i6, gT⟩ := OS.get (sz := 3) rfl (by decide) b6 bU
 obtain ⟨⟨_, _, rfl, rfl, ⟨_, _, rfl, rfl, rfl⟩⟩, rfl⟩ := e3
 refine El lr<|E0 14 rfl (sI gf rfl rfl bT db e4 sl38)<|Eo<|Da [15] (by kernel_rfl) rfl ?_
 refine Rd2 lr rfl rfl (uP bT (sz := 3) (a' := B) rfl [] R 0 3 [iv B.Dep, iv B.Arr, iv B.Rides] rfl b6 bU rfl rfl rfl siz42 rfl (mc rfl (mc rfl (mc rfl mn))) (fun cs hsj hh => by obtain ⟨⟨_, _, rfl, rfl, ⟨_, _, rfl, rfl, rfl⟩⟩, rfl⟩ := hh; exact ⟨by first | decide | exact Nat.le_refl _, ⟨[iv B.Dep], _, rfl, rfl, ⟨[iv B.Arr], _, rfl, rfl, rfl⟩⟩, rfl⟩)) ?_ ?_
 rintro _ _ ⟨e5, rfl, gg⟩
 refine ⟨.inl (by kernel_rfl), ?_⟩
 refine Dd (by kernel_rfl) ?_
 obtain rfl := o1 hm
 exact jJ ⟨e5, rfl, rfl, lr, gg, ((put_length _ _ _).trans ((put_length _ _ _).trans c5))⟩
 exact Rn
 exact Rn
 rintro a8 _ _ ⟨an, rfl, rfl, dc, gh, dd⟩
 have hm := eS
 refine Cr<|mV rfl<|aS rfl<|aS rfl<|Te<|Ct ?_
 obtain ⟨rfl, rfl, rfl⟩ := some3 hm
 exact rT ⟨an, rfl, rfl, gh, dd⟩ (aE.trans (a.trans (c.trans (cD.trans (c3.trans dc)))))

set_option maxRecDepth 20000 in
theorem cSlicesNextPowerOfTwo (b : Base) (R : Hp) (c e) (hm : mSlicesNextPowerOfTwo c = some e):
    CallsG Tryd.prog 123 [iv c] b (R) (fun v b' hp' => .int .u64 (e) = v ∧ R = hp') := by
 refine fE 7 Tryd.func123 rfl Tryd.ntmps123 rfl ?_
 unfold mSlicesNextPowerOfTwo at hm
 refine Cr<|aS rfl<|Te<|Cr<|mV rfl<|tS (st_conv rfl int3_i64 int145_u64) ?_
 obtain ⟨f, a, hm⟩ := bS hm
 refine tD (uW _ call95 rfl (fun w ho => cBitsLen _ [] (IntKind.wrap .u64 c) f a) (fun _ _ _ h => h.2.symm)) ?_
 rintro _ _ ⟨⟨_, rfl, _⟩, rfl⟩
 obtain ⟨_, d, hm⟩ := bS hm
 have d := shN_some d
 refine tS (st_shl rfl rfl d)<|aS rfl<|Te<|Ct ?_
 obtain rfl := o1 hm
 exact rO ⟨rfl, rfl⟩ lr

set_option maxRecDepth 20000 in
theorem cSlicesXorshiftNext (b : Base) (R : Hp) (g f h e) (hm : mSlicesXorshiftNext g = some (h, e)):
    CallsG Tryd.prog 124 [pb f] b ((f, Cl 205 [.int .u64 (g)]) :: R) (fun v b' hp' => .int .u64 (h) = v ∧ (f, Cl 205 [.int .u64 (e)]) :: R = hp') := by
 refine fE 33 Tryd.func124 rfl Tryd.ntmps124 rfl ?_
 unfold mSlicesXorshiftNext at hm
 refine Cr<|aS rfl<|Te<|Cs ?_
 obtain ⟨_, a, hm⟩ := bS hm
 refine Di mixed (.refl _)<|E0 0 rfl (sM rfl)<|E0 1 rfl (sN rfl)<|Es 2 rfl (sL 0 rfl one205 rfl rfl)<|E0 3 rfl (sM rfl)<|E0 4 rfl (sN rfl)<|Es 5 rfl (sL 0 rfl one205 rfl rfl) ?_
 have a := shN_some a
 refine E0 6 rfl (st_shl rfl rfl a)<|E0 7 rfl (st_xor rfl rfl)<|E0 8 rfl (sN rfl)<|Eo<|Da [9] (by kernel_rfl) rfl ?_
 refine Rd2 lr rfl rfl (uS 0 rfl rfl siz205 rfl rfl (by simp)) ?_ ?_
 rintro _ _ rfl
 refine ⟨.inl (by kernel_rfl), ?_⟩
 refine Dd (by kernel_rfl)<|Xn<|Cs ?_
 obtain ⟨_, c, hm⟩ := bS hm
 refine Di mixed (.refl _)<|E0 0 rfl (sM rfl)<|E0 1 rfl (sN rfl)<|Es 2 rfl (sL 0 rfl one205 rfl rfl)<|E0 3 rfl (sM rfl)<|E0 4 rfl (sN rfl)<|Es 5 rfl (sL 0 rfl one205 rfl rfl) ?_
 have c := shN_some c
 refine E0 6 rfl (st_shr rfl rfl c)<|E0 7 rfl (st_xor rfl rfl)<|E0 8 rfl (sN rfl)<|Eo<|Da [9] (by kernel_rfl) rfl ?_
 refine Rd2 lr rfl rfl (uS 0 rfl rfl siz205 rfl rfl (by simp)) ?_ ?_
 rintro _ _ rfl
 refine ⟨.inl (by kernel_rfl), ?_⟩
 refine Dd (by kernel_rfl)<|Xn<|Cs ?_
 obtain ⟨_, d, hm⟩ := bS hm
 refine Di mixed (.refl _)<|E0 0 rfl (sM rfl)<|E0 1 rfl (sN rfl)<|Es 2 rfl (sL 0 rfl one205 rfl rfl)<|E0 3 rfl (sM rfl)<|E0 4 rfl (sN rfl)<|Es 5 rfl (sL 0 rfl one205 rfl rfl) ?_
 have d := shN_some d
 refine E0 6 rfl (st_shl rfl rfl d)<|E0 7 rfl (st_xor rfl rfl)<|E0 8 rfl (sN rfl)<|Eo<|Da [9] (by kernel_rfl) rfl ?_
 refine Rd2 lr rfl rfl (uS 0 rfl rfl siz205 rfl rfl (by simp)) ?_ ?_
 rintro _ _ rfl
 refine ⟨.inl (by kernel_rfl), ?_⟩
 refine Dd (by kernel_rfl)<|Xn<|Cr<|mV rfl<|tS (sN rfl)<|tS (sL 0 rfl one205 rfl rfl)<|aS rfl<|Te<|Ct ?_
 obtain ⟨rfl, rfl⟩ := some2 hm
 exact rO ⟨rfl, rfl⟩ lr
 exact Rn
 exact Rn
 exact Rn

set_option maxRecDepth 20000 in
theorem cSlicesBreakPatternsCmpFunc (b : Base) (R : Hp) (x6 x7 l8 Z c4 aa) (h5 : OS 42 (OT.fr rGuidePoint) b.w (sv Z l8 c4) l8 aa) (o) (hm : mSlicesBreakPatternsCmpFunc x6 x7 l8 = some o):
    CallsG Tryd.prog 109 [sv Z l8 c4, iv x6, iv x7, .func (.func 76) #[] #[]] b ((aa ++ R)) (fun v b' hp' => ∃ x, .tuple #[] = v ∧ (x ++ R) = hp' ∧ OS 42 (OT.fr rGuidePoint) b'.w (sv Z o c4) o x ∧ o.length = l8.length) := by
 refine fE 67 Tryd.func109 rfl Tryd.ntmps109 rfl ?_
 unfold mSlicesBreakPatternsCmpFunc at hm
 refine Cr<|mV rfl<|mV rfl ?_
 obtain ⟨_, y, hm⟩ := bS hm
 have y := (kS y).2
 refine tS (sb rfl rfl y)<|aS rfl<|Te<|Cr<|mV rfl<|tS (q6 rfl rfl)<|Te ?_
 refine cI hm rfl (fun hm => ?_) fun hm => ?_
 refine Cr<|mV rfl<|tS (st_conv rfl int3_i64 int205_u64)<|tD (uA [.int .u64 0] zero205 rfl) ?_
 rintro _ _ ⟨l, rfl, rfl⟩
 refine tD (uS 0 rfl rfl siz205 rfl rfl (by simp)) ?_
 rintro _ _ rfl
 refine Te<|Cr<|mV rfl ?_
 obtain ⟨z, ab, hm⟩ := bS hm
 refine tD (uW _ call123 rfl (fun w ho => cSlicesNextPowerOfTwo _ [] (x7 - x6) z ab) (fun _ _ _ h => h.2.symm)) ?_
 rintro _ _ ⟨⟨_, rfl, _⟩, rfl⟩
 refine aS rfl<|Te<|Cr<|mV rfl<|mV rfl ?_
 obtain ⟨_, aD, hm⟩ := bS hm
 obtain ⟨_, A, hm⟩ := bS hm
 have A := (kS A).2
 refine tS (st_quo rfl rfl (ne0_some aD) A) ?_
 obtain ⟨_, B, hm⟩ := bS hm
 have B := (kS B).2
 refine tS (st_mul rfl rfl B) ?_
 obtain ⟨_, C, hm⟩ := bS hm
 have C := (kS C).2
 refine tS (sa rfl rfl C) ?_
 obtain ⟨_, D, hm⟩ := bS hm
 have D := (kS D).2
 refine tS (sb rfl rfl D)<|aS rfl<|Te<|Cb<|lL (unc3 fun k E d => fun F e' hp' => ∃ g, [(0, sv Z d c4), (1, iv x6), (8, iv (x7 - x6)), (9, pb l), (10, .int .u64 (z)), (11, iv k)] = e' ∧ (l, Cl 205 [.int .u64 (E)]) :: (g ++ R) = hp' ∧ b.Le F ∧ OS 42 (OT.fr rGuidePoint) F.w (sv Z d c4) d g ∧ d.length = l8.length) hm ⟨aa, rfl, rfl, lr, h5, rfl⟩ ?_
 rintro ⟨k, E, d⟩ F _ _ a2 ⟨g, rfl, rfl, p, m, q⟩ i t
 unfold mSlicesBreakPatternsCmpFunc_L531 at i
 have hm := (unc3E i)
 refine Cs<|Cr<|mV rfl<|mV rfl<|mV rfl ?_
 obtain ⟨_, aE, hm⟩ := bS hm
 obtain ⟨_, G, hm⟩ := bS hm
 have G := (kS G).2
 refine tS (st_quo rfl rfl (ne0_some aE) G) ?_
 obtain ⟨_, H, hm⟩ := bS hm
 have H := (kS H).2
 refine tS (st_mul rfl rfl H) ?_
 obtain ⟨_, I, hm⟩ := bS hm
 have I := (kS I).2
 refine tS (sa rfl rfl I) ?_
 obtain ⟨_, J, hm⟩ := bS hm
 have J := (kS J).2
 refine tS (sa rfl rfl J)<|tS (q4 rfl rfl)<|Te ?_
 refine cI hm rfl (fun hm => ?_) fun hm => ?_
 refine Ck<|Xn<|Cs<|Cb<|Cr ?_
 obtain ⟨⟨aF, ak⟩, ac, hm⟩ := bS hm
 have hm := (unc2E hm)
 refine Tg _ rfl call124 rfl (cSlicesXorshiftNext _ _ E l aF ak ac) ?_
 rintro _ aG _ e ⟨rfl, rfl⟩
 refine mV rfl<|tS (st_sub_w rfl rfl)<|tS (st_and rfl rfl)<|tS (st_conv rfl int145_u64 int3_i64)<|aS rfl<|Te ?_
 obtain ⟨al, an, ao⟩ := bS hm
 refine Cj (fun am e' hp' => [(0, sv Z d c4), (1, iv x6), (8, iv (x7 - x6)), (9, pb l), (10, .int .u64 (z)), (11, iv k), (12, iv al)] = e' ∧ (l, Cl 205 [.int .u64 (ak)]) :: (g ++ R) = hp' ∧ aG.Le am) ?_ ?_
 have hm := an
 refine Cr<|mV rfl<|mV rfl<|tS (q6 rfl rfl)<|Te ?_
 refine cI hm rfl (fun hm => ?_) fun hm => ?_
 refine Cg<|mV rfl<|mV rfl ?_
 obtain ⟨_, K, hm⟩ := bS hm
 have K := (kS K).2
 refine tS (sb rfl rfl K)<|aS rfl<|Tn ?_
 obtain rfl := o1 hm
 exact jJ ⟨rfl, rfl, lr⟩
 refine Ck ?_
 obtain rfl := o1 hm
 exact jJ ⟨rfl, rfl, lr⟩
 rintro am _ _ ⟨rfl, rfl, f⟩
 have hm := ao
 obtain ⟨_, L, hm⟩ := bS hm
 obtain ⟨_, O, hm⟩ := bS hm
 obtain ⟨a, aH, hm⟩ := bS hm
 obtain ⟨c, aI, hm⟩ := bS hm
 obtain ⟨bh, aJ, hm⟩ := bS hm
 obtain ⟨a3, aq, hm⟩ := bS hm
 refine Di mixed (.refl _)<|E0 0 rfl (sM rfl)<|E0 1 rfl (sM rfl)<|E0 2 rfl (sM rfl)<|E0 3 rfl (sM rfl)<|E0 4 rfl (sM rfl) ?_
 have L := (kS L).2
 refine E0 5 rfl (sa rfl rfl L)<|E0 6 rfl (sM rfl)<|E0 7 rfl (sM rfl)<|E0 8 rfl (sM rfl) ?_
 have O := (kS O).2
 refine E0 9 rfl (sa rfl rfl O) ?_
 obtain ⟨aK, ar, au⟩ := iS aH
 obtain ⟨a4, a5, bi, bj, a6, av, ad, S, ae, a7, aQ⟩ := OS.get (sz := 3) rfl (by decide) (m.le (e.trans f)) au
 obtain ⟨⟨_, _, rfl, rfl, ⟨_, _, rfl, rfl, rfl⟩⟩, rfl⟩ := av
 refine E0 10 rfl (sI aK rfl rfl ar ae S sl38)<|Es 11 rfl (st_loadN_rd (vs := [iv a.Dep, iv a.Arr, iv a.Rides]) 3 rfl agg42 S rfl (fun w ho j u hu => ad w _ ho (.cons _ (List.sublist_append_left _ _)) j u hu))<|E0 12 rfl (sM rfl)<|E0 13 rfl (sM rfl) ?_
 obtain ⟨aL, aw, ax⟩ := iS aI
 obtain ⟨a8, a9, bk, bl, ba, ay, af, T, ag, bb, aR⟩ := OS.get (sz := 3) rfl (by decide) (m.le (e.trans f)) ax
 obtain ⟨⟨_, _, rfl, rfl, ⟨_, _, rfl, rfl, rfl⟩⟩, rfl⟩ := ay
 refine E0 14 rfl (sI aL rfl rfl aw ag T sl38)<|Es 15 rfl (st_loadN_rd (vs := [iv c.Dep, iv c.Arr, iv c.Rides]) 3 rfl agg42 T rfl (fun w ho j u hu => af w _ ho (.cons _ (List.sublist_append_left _ _)) j u hu)) ?_
 obtain ⟨aM, U, V⟩ := iS aJ
 obtain ⟨bc, aT, bd, be, aU, az, aV, aA, W, aW, aN⟩ := OS.get (sz := 3) rfl (by decide) (m.le (e.trans f)) V
 obtain ⟨⟨_, _, rfl, rfl, ⟨_, _, rfl, rfl, rfl⟩⟩, rfl⟩ := az
 refine E0 16 rfl (sI aM rfl rfl U W aA sl38)<|Eo<|Da [17] (by kernel_rfl) rfl ?_
 refine Rd2 lr rfl rfl (uP U (sz := 3) (a' := a) rfl [_] R 0 3 [iv a.Dep, iv a.Arr, iv a.Rides] rfl (m.le (e.trans f)) V rfl rfl rfl siz42 rfl (mc rfl (mc rfl (mc rfl mn))) (fun cs hsj hh => by obtain ⟨⟨_, _, rfl, rfl, ⟨_, _, rfl, rfl, rfl⟩⟩, rfl⟩ := hh; exact ⟨by first | decide | exact Nat.le_refl _, ⟨[iv a.Dep], _, rfl, rfl, ⟨[iv a.Arr], _, rfl, rfl, rfl⟩⟩, rfl⟩)) ?_ ?_
 rintro _ _ ⟨aX, rfl, X⟩
 refine ⟨.inl (by kernel_rfl), ?_⟩
 refine d_resp 0 rfl (v' := .slice Z (put d k a).length c4) (by simp only [put_length])<|d_resp 51 rfl (v' := .slice Z (put d k a).length c4) (by simp only [put_length]) ?_
 obtain ⟨aB, r, s⟩ := iS aq
 obtain ⟨aY, aZ, bf, bg, a0, ah, aO, ai, Y, a1, aP⟩ := OS.get (sz := 3) rfl (by decide) X s
 obtain ⟨⟨_, _, rfl, rfl, ⟨_, _, rfl, rfl, rfl⟩⟩, rfl⟩ := ah
 refine El lr<|E0 18 rfl (sI aB rfl rfl r Y ai sl38)<|Eo<|Da [19] (by kernel_rfl) rfl ?_
 refine Rd2 lr rfl rfl (uP r (sz := 3) (a' := c) rfl [_] R 0 3 [iv c.Dep, iv c.Arr, iv c.Rides] rfl X s rfl rfl rfl siz42 rfl (mc rfl (mc rfl (mc rfl mn))) (fun cs hsj hh => by obtain ⟨⟨_, _, rfl, rfl, ⟨_, _, rfl, rfl, rfl⟩⟩, rfl⟩ := hh; exact ⟨by first | decide | exact Nat.le_refl _, ⟨[iv c.Dep], _, rfl, rfl, ⟨[iv c.Arr], _, rfl, rfl, rfl⟩⟩, rfl⟩)) ?_ ?_
 rintro _ _ ⟨aj, rfl, aC⟩
 refine ⟨.inl (by kernel_rfl), ?_⟩
 refine d_resp 0 rfl (v' := .slice Z (put (put d k a) (x6 + al) c).length c4) (by simp only [put_length])<|Dd (by kernel_rfl)<|Xm<|Xn<|Cg<|mV rfl ?_
 obtain ⟨_, n, hm⟩ := bS hm
 have n := (kS n).2
 refine tS (sa rfl rfl n)<|aS rfl<|Tn ?_
 exact jM hm ⟨aj, rfl, rfl, ((p.trans (e.trans f))), aC, ((put_length _ _ _).trans ((put_length _ _ _).trans q))⟩
 exact Rn
 exact Rn
 refine Ce<|Xe<|Xe<|Xo ?_
 have hm := congrArg some (t _ (Option.some.inj hm).symm)
 obtain rfl := o1 hm
 exact eZ ⟨g, rfl, rfl, m, q⟩ p
 refine Ck ?_
 obtain rfl := o1 hm
 exact eZ ⟨aa, rfl, rfl, h5, rfl⟩ lr

set_option maxRecDepth 20000 in
theorem cSlicesPdqsortCmpFunc : ∀ (N : Nat) (b : Base) (R : Hp) (x6 x7 x8 l9 s t aK) (h5 : OS 42 (OT.fr rGuidePoint) b.w (sv s l9 t) l9 aK) (J) (hm : mSlicesPdqsortCmpFunc N x6 x7 x8 l9 = some J),
    CallsG Tryd.prog 94 [sv s l9 t, iv x6, iv x7, iv x8, .func (.func 76) #[] #[]] b ((aK ++ R)) (fun v b' hp' => ∃ aA, .tuple #[] = v ∧ (aA ++ R) = hp' ∧ OS 42 (OT.fr rGuidePoint) b'.w (sv s J t) J aA ∧ J.length = l9.length) := by
  intro N
  induction N with
  | zero =>
    intro b R x6 x7 x8 l9 s t aK h5 J hm
    unfold mSlicesPdqsortCmpFunc at hm
    cases hm
  | succ N ih =>
   intro b R x6 x7 x8 l9 s t aK h5 J hm
   refine fE 148 Tryd.func94 rfl Tryd.ntmps94 rfl ?_
   unfold mSlicesPdqsortCmpFunc at hm
   refine Cr<|aS rfl<|Te<|Cr<|aS rfl<|Te<|Cb<|lL (unc6 fun a c aL m n p => fun X e' hp' => ∃ d, [(0, sv s p t), (1, iv a), (2, iv c), (3, iv aL), (4, .func (.func 76) #[] #[]), (10, bv m), (11, bv n)] = e' ∧ (d ++ R) = hp' ∧ b.Le X ∧ OS 42 (OT.fr rGuidePoint) X.w (sv s p t) p d ∧ p.length = l9.length) hm ⟨aK, rfl, rfl, lr, h5, rfl⟩ ?_
   rintro ⟨a, c, aL, m, n, p⟩ X _ _ cb ⟨d, rfl, rfl, f, Y, D⟩ L x
   unfold mSlicesPdqsortCmpFunc_L2079 at L
   have hm := (unc6E L)
   refine Cb<|Cr<|mV rfl<|mV rfl ?_
   obtain ⟨_, ah, hm⟩ := bS hm
   have ah := (kS ah).2
   refine tS (sb rfl rfl ah)<|aS rfl<|Te<|Cs<|Cr<|mV rfl<|tS (q4 rfl rfl)<|Te ?_
   refine cI hm rfl (fun hm => ?_) fun hm => ?_
   refine Cr<|mV rfl<|mV rfl<|mV rfl<|mV rfl ?_
   obtain ⟨bI, aM, hm⟩ := bS hm
   refine t_out1 [] [] d R rfl<|Tg _ rfl call107 rfl (cSlicesInsertionSortCmpFunc _ _ a c p s t d Y bI aM) ?_
   rintro _ ck _ aN ⟨aB, rfl, rfl, bJ, bK⟩
   refine t_in1 [] [] aB R rfl<|Te<|Ct<|Xr<|Xb<|Xr<|Xb ?_
   have hm := congrArg some (x _ (Option.some.inj hm).symm)
   obtain rfl := o1 hm
   exact rZ ⟨aB, rfl, rfl, bJ, (bK.trans D)⟩ (f.trans aN)
   refine Ck<|Xn<|Cs<|Cr<|mV rfl<|tS (q1 rfl rfl)<|Te ?_
   refine cI hm rfl (fun hm => ?_) fun hm => ?_
   refine Cr<|mV rfl<|mV rfl<|mV rfl<|mV rfl ?_
   obtain ⟨bL, aO, hm⟩ := bS hm
   refine t_out1 [] [] d R rfl<|Tg _ rfl call108 rfl (cSlicesHeapSortCmpFunc _ _ a c p s t d Y bL aO) ?_
   rintro _ cl _ aP ⟨aC, rfl, rfl, bM, bN⟩
   refine t_in1 [] [] aC R rfl<|Te<|Ct<|Xr<|Xb<|Xr<|Xb ?_
   have hm := congrArg some (x _ (Option.some.inj hm).symm)
   obtain rfl := o1 hm
   exact rZ ⟨aC, rfl, rfl, bM, (bN.trans D)⟩ (f.trans aP)
   refine Ck<|Xn ?_
   obtain ⟨⟨y, z⟩, bo, bp⟩ := bS hm
   refine Cj (fun Z e' hp' => ∃ g, [(0, sv s z t), (1, iv a), (2, iv c), (3, iv y), (4, .func (.func 76) #[] #[]), (10, bv m), (11, bv n), (12, iv (c - a))] = e' ∧ (g ++ R) = hp' ∧ X.Le Z ∧ OS 42 (OT.fr rGuidePoint) Z.w (sv s z t) z g ∧ z.length = l9.length) ?_ ?_
   have hm := bo
   refine Cr<|mV rfl<|tS (sn2 rfl)<|Te ?_
   refine cM hm rfl (fun hm => ?_) fun hm => ?_
   refine Cr<|mV rfl<|mV rfl<|mV rfl<|mV rfl ?_
   obtain ⟨aQ, aR, hm⟩ := bS hm
   refine t_out1 [] [] d R rfl<|Tg _ rfl call109 rfl (cSlicesBreakPatternsCmpFunc _ _ a c p s t d Y aQ aR) ?_
   rintro _ cm _ aT ⟨aD, rfl, rfl, bO, aU⟩
   refine t_in1 [] [] aD R rfl<|Tr 0 rfl (v' := sv s aQ t) (by show Value.slice _ _ _ = Value.slice _ _ _; rw [aU])<|Te<|Cg<|mV rfl ?_
   obtain ⟨_, ai, hm⟩ := bS hm
   have ai := (kS ai).2
   refine tS (sb rfl rfl ai)<|aS rfl<|Tn ?_
   obtain ⟨rfl, rfl⟩ := some2 hm
   exact jJ ⟨aD, rfl, rfl, aT, bO, (aU.trans D)⟩
   refine Ck ?_
   obtain ⟨rfl, rfl⟩ := some2 hm
   exact jJ ⟨d, rfl, rfl, lr, Y, D⟩
   rintro Z _ _ ⟨g, rfl, rfl, E, aj, ae⟩
   have hm := (unc2E bp)
   refine Cr<|mV rfl<|mV rfl<|mV rfl<|mV rfl ?_
   obtain ⟨⟨bP, bQ⟩, aV, hm⟩ := bS hm
   have hm := (unc2E hm)
   refine tD (uW _ call110 rfl (fun w ho => cSlicesChoosePivotCmpFunc _ [] z a c s t (OS.now (o := (OT.fr rGuidePoint)) (l := z) (hs := g) aj ho (List.sublist_append_left _ _)) bP bQ aV) (fun _ _ _ h => h.2.symm)) ?_
   rintro _ _ ⟨⟨_, rfl, _⟩, rfl⟩
   refine mV rfl<|tS (st_extract rfl rfl)<|tS (st_extract rfl rfl)<|aS rfl<|aS rfl<|Te ?_
   obtain ⟨⟨K, bR, A⟩, bq, br⟩ := bS hm
   refine Cj (fun T e' hp' => ∃ i, [(0, sv s A t), (1, iv a), (2, iv c), (3, iv y), (4, .func (.func 76) #[] #[]), (10, bv m), (11, bv n), (12, iv (c - a)), (13, iv K), (14, iv bR)] = e' ∧ (i ++ R) = hp' ∧ Z.Le T ∧ OS 42 (OT.fr rGuidePoint) T.w (sv s A t) A i ∧ A.length = l9.length) ?_ ?_
   have hm := bq
   refine Cr<|mV rfl<|tS (q1 rfl rfl)<|Te ?_
   refine cI hm rfl (fun hm => ?_) fun hm => ?_
   refine Cr<|mV rfl<|mV rfl<|mV rfl<|mV rfl ?_
   obtain ⟨aW, aX, hm⟩ := bS hm
   refine t_out1 [] [] g R rfl<|Tg _ rfl call111 rfl (cSlicesReverseRangeCmpFunc _ _ a c z s t g aj aW aX) ?_
   rintro _ cn _ aY ⟨aE, rfl, rfl, bT, aZ⟩
   refine t_in1 [] [] aE R rfl<|Tr 0 rfl (v' := sv s aW t) (by show Value.slice _ _ _ = Value.slice _ _ _; rw [aZ])<|Te<|Cr<|mV rfl ?_
   obtain ⟨_, ak, hm⟩ := bS hm
   have ak := (kS ak).2
   refine tS (sb rfl rfl ak)<|mV rfl<|mV rfl ?_
   obtain ⟨_, al, hm⟩ := bS hm
   have al := (kS al).2
   refine tS (sb rfl rfl al) ?_
   obtain ⟨_, am, hm⟩ := bS hm
   have am := (kS am).2
   refine tS (sb rfl rfl am)<|aS rfl<|Te<|Cg<|aS rfl<|Tn ?_
   obtain ⟨rfl, rfl, rfl⟩ := some3 hm
   exact jJ ⟨aE, rfl, rfl, aY, bT, (aZ.trans ae)⟩
   refine Ck ?_
   obtain ⟨rfl, rfl, rfl⟩ := some3 hm
   exact jJ ⟨g, rfl, rfl, lr, aj, ae⟩
   rintro T _ _ ⟨i, rfl, rfl, F, a0, U⟩
   have hm := (unc3E br)
   obtain ⟨bU, bs, O⟩ := bS hm
   refine Cj (fun aa e' hp' => ∃ (k : (List GuidePoint)), ∃ e, [(0, sv s k t), (1, iv a), (2, iv c), (3, iv y), (4, .func (.func 76) #[] #[]), (10, bv m), (11, bv n), (12, iv (c - a)), (13, iv K)] = e' ∧ (e ++ R) = hp' ∧ T.Le aa ∧ OS 42 (OT.fr rGuidePoint) aa.w (sv s k t) k e ∧ k.length = l9.length ∧ bU = .inl k) ?_ ?_
   have hm := bs
   obtain ⟨bV, bt, bu⟩ := bS hm
   refine Cj (fun a1 e' hp' => [(0, sv s A t), (1, iv a), (2, iv c), (3, iv y), (4, .func (.func 76) #[] #[]), (10, bv m), (11, bv n), (12, iv (c - a)), (13, iv K), (75, bv bV)] = e' ∧ (i ++ R) = hp' ∧ T.Le a1) ?_ ?_
   have hm := bt
   refine Cg<|mV rfl ?_
   rcases Bool.eq_false_or_eq_true m with G | G
   rw [if_pos G] at hm
   refine Tr 68 rfl (v' := .bool true) (by rw [G] <;> rfl)<|mV rfl<|yS<|mV rfl ?_
   rcases Bool.eq_false_or_eq_true n with H | H
   rw [if_pos H] at hm
   refine Tr 70 rfl (v' := .bool true) (by rw [H] <;> rfl)<|tS (pT rfl rfl)<|mV rfl<|yS<|mV rfl<|yS<|tS (q1 rfl rfl)<|tS (pT rfl rfl)<|Tn ?_
   obtain rfl := o1 hm
   exact jJ ⟨rfl, rfl, lr⟩
   rw [if_neg (fun hh => Bool.noConfusion (hh.symm.trans H))] at hm
   refine Tr 70 rfl (v' := .bool false) (by rw [H] <;> rfl)<|tS (pT rfl rfl)<|mV rfl<|nO<|nO<|tS (pF rfl rfl)<|Tn ?_
   obtain rfl := o1 hm
   exact jJ ⟨rfl, rfl, lr⟩
   rw [if_neg (fun hh => Bool.noConfusion (hh.symm.trans G))] at hm
   refine Tr 68 rfl (v' := .bool false) (by rw [G] <;> rfl)<|mV rfl<|nO<|tS (pF rfl rfl)<|mV rfl<|nO<|nO<|tS (pF rfl rfl)<|Tn ?_
   obtain rfl := o1 hm
   exact jJ ⟨rfl, rfl, lr⟩
   rintro a1 _ _ ⟨rfl, rfl, q⟩
   have hm := bu
   refine cB hm rfl (fun hm => ?_) fun hm => ?_
   refine Cr<|mV rfl<|mV rfl<|mV rfl<|mV rfl ?_
   obtain ⟨⟨bW, an⟩, a2, hm⟩ := bS hm
   have hm := (unc2E hm)
   refine t_out1 [] [] i R rfl<|Tg _ rfl call112 rfl (cSlicesPartialInsertionSortCmpFunc _ _ a c A s t i (a0.le q) bW an a2) ?_
   rintro _ co _ af ⟨ab, rfl, rfl, a3, ao⟩
   refine t_in1 [] [] ab R rfl<|Tr 0 rfl (v' := sv s an t) (by show Value.slice _ _ _ = Value.slice _ _ _; rw [ao])<|Te ?_
   refine cB hm rfl (fun hm => ?_) fun hm => ?_
   refine Ct<|Xr<|Xb<|Xr<|Xb ?_
   have bw := (Option.some.inj hm).symm
   rw [bw] at O
   have hm := elimR O
   have hm := congrArg some (x _ (Option.some.inj hm).symm)
   obtain rfl := o1 hm
   exact rZ ⟨ab, rfl, rfl, a3, (ao.trans U)⟩ (f.trans (E.trans (F.trans (q.trans af))))
   refine Ck ?_
   have hq := (Option.some.inj hm).symm
   exact jJ ⟨an, ab, rfl, rfl, (q.trans af), a3, (ao.trans U), hq⟩
   refine Ck ?_
   have hq := (Option.some.inj hm).symm
   exact jJ ⟨A, i, rfl, rfl, q, (a0.le q), U, hq⟩
   rintro aa _ _ ⟨k, e, rfl, rfl, V, ac, W, bx⟩
   rw [bx] at O
   have hm := elimL O
   refine Cs ?_
   obtain ⟨bX, bz, bA⟩ := bS hm
   refine Cj (fun a4 e' hp' => [(0, sv s k t), (1, iv a), (2, iv c), (3, iv y), (4, .func (.func 76) #[] #[]), (10, bv m), (11, bv n), (12, iv (c - a)), (13, iv K), (97, bv bX)] = e' ∧ (e ++ R) = hp' ∧ aa.Le a4) ?_ ?_
   have hm := bz
   by_cases S : 0 < a
   rw [if_pos S] at hm
   obtain ⟨_, aq, hm⟩ := bS hm
   obtain ⟨B, bY, hm⟩ := bS hm
   obtain ⟨C, bZ, hm⟩ := bS hm
   obtain ⟨b0, a5, hm⟩ := bS hm
   refine Di mixed (.refl _)<|E0 0 rfl (sM rfl)<|E0 1 rfl (st_gtr_t rfl rfl S)<|E0 2 rfl (sM rfl)<|Yz 3 83 rfl (sM rfl)<|Yz 4 83 rfl (sM rfl)<|Yz 5 83 rfl (sM rfl) ?_
   have aq := (kS aq).2
   refine Yz 6 83 rfl (sb rfl rfl aq) ?_
   obtain ⟨b1, bB, bC⟩ := iS bY
   obtain ⟨cc, cd, cp, cq, ce, bD, a6, aF, a7, cf, b9⟩ := OS.get (sz := 3) rfl (by decide) ac bC
   obtain ⟨⟨_, _, rfl, rfl, ⟨_, _, rfl, rfl, rfl⟩⟩, rfl⟩ := bD
   refine Yz 7 83 rfl (sI b1 rfl rfl bB a7 aF sl38)<|Ey 8 83 rfl (st_loadN_rd (vs := [iv B.Dep, iv B.Arr, iv B.Rides]) 3 rfl agg42 aF rfl (fun w ho j u hu => a6 w _ ho (List.sublist_append_left _ _) j u hu))<|Yz 9 83 rfl (sM rfl)<|Yz 10 83 rfl (sM rfl) ?_
   obtain ⟨b2, bE, bG⟩ := iS bZ
   obtain ⟨cg, ch, cr, cs, ci, bH, a8, aG, a9, cj, ca⟩ := OS.get (sz := 3) rfl (by decide) ac bG
   obtain ⟨⟨_, _, rfl, rfl, ⟨_, _, rfl, rfl, rfl⟩⟩, rfl⟩ := bH
   refine Yz 11 83 rfl (sI b2 rfl rfl bE a9 aG sl38)<|Ey 12 83 rfl (st_loadN_rd (vs := [iv C.Dep, iv C.Arr, iv C.Rides]) 3 rfl agg42 aG rfl (fun w ho j u hu => a8 w _ ho (List.sublist_append_left _ _) j u hu))<|Eo<|Da [13] (by kernel_rfl) rfl ?_
   refine R_doY lr rfl rfl 83 rfl rfl rfl (u_callvW0 #[] #[] [.agg #[iv B.Dep, iv B.Arr, iv B.Rides], .agg #[iv C.Dep, iv C.Arr, iv C.Rides]] rfl call76 rfl (fun w ho => cGuideComparePoints _ [] B C b0 a5) (fun _ _ _ h => h.2.symm)) ?_ ?_
   rintro _ _ ⟨⟨_, rfl, _⟩, rfl⟩
   refine iR<|Ei lr (.refl _)<|Yz 14 83 rfl (q3 rfl rfl)<|Yz 15 83 rfl (sn2 rfl)<|E0 16 rfl (pT rfl rfl)<|Eo<|Dd (by kernel_rfl) ?_
   obtain rfl := o1 hm
   exact jJ ⟨rfl, rfl, lr⟩
   exact Rn
   rw [if_neg S] at hm
   refine Di mixed (.refl _)<|E0 0 rfl (sM rfl)<|E0 1 rfl (st_gtr_f rfl rfl S)<|E0 2 rfl (sM rfl)<|eN 3 rfl<|eN 4 rfl<|eN 5 rfl<|eN 6 rfl<|eN 7 rfl<|eN 8 rfl ?_
   refine eN 9 rfl<|eN 10 rfl<|eN 11 rfl<|eN 12 rfl<|eN 13 rfl<|eN 14 rfl<|eN 15 rfl<|E0 16 rfl (pF rfl rfl)<|Eo<|Dd (by kernel_rfl) ?_
   obtain rfl := o1 hm
   exact jJ ⟨rfl, rfl, lr⟩
   rintro a4 _ _ ⟨rfl, rfl, r⟩
   have hm := bA
   refine cB hm rfl (fun hm => ?_) fun hm => ?_
   refine Cr<|mV rfl<|mV rfl<|mV rfl<|mV rfl<|mV rfl ?_
   obtain ⟨⟨b3, ba⟩, bb, hm⟩ := bS hm
   have hm := (unc2E hm)
   refine t_out1 [] [] e R rfl<|Tg _ rfl call113 rfl (cSlicesPartitionEqualCmpFunc _ _ a c K k s t e (ac.le r) b3 ba bb) ?_
   rintro _ ct _ bc ⟨aH, rfl, rfl, b4, bd⟩
   refine t_in1 [] [] aH R rfl<|Tr 0 rfl (v' := sv s ba t) (by show Value.slice _ _ _ = Value.slice _ _ _; rw [bd])<|aS rfl<|Te<|Cr<|mV rfl<|aS rfl<|Te<|Ce<|Xe ?_
   refine Xo ?_
   exact jM hm ⟨aH, rfl, rfl, ((f.trans (E.trans (F.trans (V.trans (r.trans bc)))))), b4, (bd.trans W)⟩
   refine Ck<|Xn<|Cr<|mV rfl<|mV rfl<|mV rfl<|mV rfl<|mV rfl ?_
   obtain ⟨⟨ar, b5, ad⟩, be, hm⟩ := bS hm
   have hm := (unc3E hm)
   refine t_out1 [] [] e R rfl<|Tg _ rfl call114 rfl (cSlicesPartitionCmpFunc _ _ a c K k s t e (ac.le r) ar b5 ad be) ?_
   rintro _ cu _ ag ⟨I, rfl, rfl, bf, au⟩
   refine t_in1 [] [] I R rfl<|Tr 0 rfl (v' := sv s ad t) (by show Value.slice _ _ _ = Value.slice _ _ _; rw [au])<|mV rfl<|tS (st_extract rfl rfl)<|tS (st_extract rfl rfl)<|aS rfl<|aS rfl<|Te<|Cr<|mV rfl ?_
   refine aS rfl<|Te<|Cr<|mV rfl<|mV rfl ?_
   obtain ⟨_, av, hm⟩ := bS hm
   have av := (kS av).2
   refine tS (sb rfl rfl av)<|mV rfl<|mV rfl ?_
   obtain ⟨_, aw, hm⟩ := bS hm
   have aw := (kS aw).2
   refine tS (sb rfl rfl aw)<|aS rfl<|aS rfl<|Te<|Cr<|mV rfl ?_
   obtain ⟨_, b6, hm⟩ := bS hm
   obtain ⟨_, ax, hm⟩ := bS hm
   have ax := (kS ax).2
   refine tS (st_quo rfl rfl (ne0_some b6) ax)<|aS rfl<|Te<|Cr<|mV rfl<|mV rfl<|tS (q3 rfl rfl)<|Te ?_
   refine cI hm rfl (fun hm => ?_) fun hm => ?_
   refine Cr<|mV rfl<|mV rfl<|tS (q6 rfl rfl)<|aS rfl<|Te<|Cr<|mV rfl<|mV rfl<|mV rfl ?_
   refine mV rfl<|mV rfl ?_
   obtain ⟨bg, bh, hm⟩ := bS hm
   refine t_out1 [] [] I R rfl<|Tg _ rfl call94 rfl (ih _ _ a ar y ad s t I bf bg bh) ?_
   rintro _ cv _ bi ⟨aI, rfl, rfl, b7, bj⟩
   refine t_in1 [] [] aI R rfl<|Tr 0 rfl (v' := sv s bg t) (by show Value.slice _ _ _ = Value.slice _ _ _; rw [bj])<|Te<|Cg<|mV rfl ?_
   obtain ⟨_, ay, hm⟩ := bS hm
   have ay := (kS ay).2
   refine tS (sa rfl rfl ay)<|aS rfl<|Tn<|Xm ?_
   exact jM hm ⟨aI, rfl, rfl, ((f.trans (E.trans (F.trans (V.trans (r.trans (ag.trans bi))))))), b7, (bj.trans (au.trans W))⟩
   refine Cr<|mV rfl<|mV rfl<|tS (q6 rfl rfl)<|aS rfl<|Te<|Cr<|mV rfl<|mV rfl ?_
   obtain ⟨_, az, hm⟩ := bS hm
   have az := (kS az).2
   refine tS (sa rfl rfl az)<|mV rfl<|mV rfl<|mV rfl ?_
   obtain ⟨bk, bl, hm⟩ := bS hm
   refine t_out1 [] [] I R rfl<|Tg _ rfl call94 rfl (ih _ _ (ar + 1) c y ad s t I bf bk bl) ?_
   rintro _ cw _ bm ⟨aJ, rfl, rfl, b8, bn⟩
   refine t_in1 [] [] aJ R rfl<|Tr 0 rfl (v' := sv s bk t) (by show Value.slice _ _ _ = Value.slice _ _ _; rw [bn])<|Te<|Cg<|mV rfl<|aS rfl<|Tn<|Xm ?_
   exact jM hm ⟨aJ, rfl, rfl, ((f.trans (E.trans (F.trans (V.trans (r.trans (ag.trans bm))))))), b8, (bn.trans (au.trans W))⟩

set_option maxRecDepth 20000 in
theorem cSlicesSortFunc (b : Base) (R : Hp) (f m n c) (r : OS 42 (OT.fr rGuidePoint) b.w (sv m f n) f c) (d) (hm : mSlicesSortFunc f = some d):
    CallsG Tryd.prog 75 [sv m f n, .func (.func 76) #[] #[]] b ((c ++ R)) (fun v b' hp' => ∃ g, .tuple #[] = v ∧ (g ++ R) = hp' ∧ OS 42 (OT.fr rGuidePoint) b'.w (sv m d n) d g ∧ d.length = f.length) := by
 refine fE 14 Tryd.func75 rfl Tryd.ntmps75 rfl ?_
 unfold mSlicesSortFunc at hm
 refine Cr<|mV rfl<|tS (sE rfl sl38)<|aS rfl<|Te<|Cg<|mV rfl<|mV rfl<|mV rfl<|tS (st_conv rfl int3_i64 int145_u64) ?_
 obtain ⟨l, j, hm⟩ := bS hm
 refine tD (uW _ call95 rfl (fun w ho => cBitsLen _ [] (IntKind.wrap .u64 (f.length : Int)) l j) (fun _ _ _ h => h.2.symm)) ?_
 rintro _ _ ⟨⟨_, rfl, _⟩, rfl⟩
 refine mV rfl ?_
 obtain ⟨o, a, hm⟩ := bS hm
 obtain ⟨e, a⟩ := lim_some a
 refine t_out1 [] [] c R rfl<|Tg _ rfl call94 rfl (cSlicesPdqsortCmpFunc e _ _ 0 (f.length : Int) l f m n c r o a) ?_
 rintro _ s _ k ⟨i, rfl, rfl, p, q⟩
 refine t_in1 [] [] i R rfl<|Tn ?_
 obtain rfl := o1 hm
 exact eZ ⟨i, rfl, rfl, p, (q.trans rfl)⟩ k

end Go.Proofs.YtckgfeglhjiflaaDoor
