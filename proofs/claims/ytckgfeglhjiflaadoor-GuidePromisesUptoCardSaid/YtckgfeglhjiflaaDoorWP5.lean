/- Contracts: the code computes its model (part 5). -/
import Derived.Test.YtckgfeglhjiflaaDoorWP4
set_option linter.unusedVariables false
set_option linter.unusedSimpArgs false
namespace Go.Proofs.YtckgfeglhjiflaaDoor
open Go.RowKit Go.Fp

open Go.Fp renaming t_ne → Te, t_nil → Tn, t_bool → Tb, t_callG → Tg, c_sr → Cr, c_seq → Cs, c_region → Cg, c_block → Cb, c_ret → Ct, c_skip → Ck, c_exit → Ce, c_join → Cj, c_pullb → Cp, x_then_normal → Xn, x_then_ret → Xr, x_then_exit → Xe, x_block_ret → Xb, x_block_normal → Xm, x_block_out → Xo, E_st → Es, E_s0 → E0, E_yes → Ey, E_y0 → Yz, E_in → Ei, E_out → Eo, D_all → Da, D_done → Dd, D_drawI → Di, R_nil → Rn, st_load → sL, st_loadD → sD, st_field → sF, st_len → sE, st_move → sM, st_assign → sA, st_pick_t → pT, st_pick_f → pF, st_index_old → sI, st_load_old → sO, st_loadN_old → sP, st_add → sa, st_lss_t → lT, st_lss_f → lF, st_not → sn2, u_box → uB, u_alloc → uA, u_storeN → uN, u_callW0 → uW, u_appOS → uQ, fn_enterG → fE, bindS → bS, some1 → o1, idx_some → iS, sub_skip → ss, chk_some → kS, mem_c → mc, mem_n → mn, st_eql → q1, st_neq → q2, st_lss → q3, st_geq → q6
set_option maxRecDepth 20000 in
theorem cFishkeep2GuidePromises (b : Base) (R : Hp) (hG : GOn GT b) (s1 : ApiDay) (x8 bg bh eM A2 c3 A5 c6 A9 bw bx bz eO eP) (h4 : FZ rApiTrain b.w A2 c3 s1.Trains) (h7 : FZ (RT.list rI) b.w A5 c6 s1.Turns) (f6 : FZ rApiDay b.w A9 bw bg) (dU : FZ rGuideJourney b.w bx bz bh) (gq : FZ rI b.w eO eP eM) (cz) (hm : mFishkeep2GuidePromises s1 x8 bg bh eM = some cz):
    CallsG Tryd.prog 5 [.agg #[sv A2 s1.Trains c3, sv A5 s1.Turns c6], iv x8, sv A9 bg bw, sv bx bh bz, sv eO eM eP] b (R) (fun v b' hp' => bv cz = v ∧ R = hp') := by
 refine fE 176 Tryd.func5 rfl Tryd.ntmps5 rfl ?_
 unfold mFishkeep2GuidePromises at hm
 refine Cr<|tD (uB _ rfl rfl) ?_
 rintro _ _ ⟨gr, rfl, rfl⟩
 refine aS rfl<|Te<|Cs<|Cr ?_
 obtain ⟨eQ, cA, hm⟩ := bS hm
 refine tD (uW _ call7 rfl (fun w ho => cFishkeep2AwakeGuide _ [] ((hG.le lr).old ho) eQ cA) (fun _ _ _ h => h.2.symm)) ?_
 rintro _ _ ⟨⟨_, rfl, _⟩, rfl⟩
 refine tS (sn2 rfl)<|Te ?_
 refine cM hm rfl (fun hm => ?_) fun hm => ?_
 refine Cr<|aS rfl<|Te<|Ct<|Xr ?_
 obtain rfl := o1 hm
 exact rO ⟨rfl, rfl⟩ lr
 refine Ck<|Xn<|Cr<|tS (sD (vs := [_, _]) 0 2 rfl agg25 rfl rfl rfl)<|mV rfl ?_
 obtain ⟨⟨eR, eS, A, eU, eV, eW⟩, cC, hm⟩ := bS hm
 have hm := (unc6E hm)
 refine Tg _ rfl call21 rfl (cGuideNewDesk _ _ (hG.le lr) s1 x8 A2 c3 A5 c6 h4 h7 eR eS A eU eV eW cC) ?_
 rintro _ cD _ n ⟨s, eX, eY, e0, e1, e2, e3, cp, e4, e5, cq, rfl, rfl, e6, e7, e8, e9, fa, gs⟩
 refine t_in2 [_] [_] cp cq R rfl<|mV rfl<|tS (st_extract rfl rfl)<|tS (st_extract rfl rfl)<|aS rfl<|aS rfl<|Te<|Cs<|Cr ?_
 obtain ⟨fb, cE, hm⟩ := bS hm
 refine tD (uW _ call8 rfl (fun w ho => cFishkeep2Guides _ [] ((hG.le n).old ho) fb cE) (fun _ _ _ h => h.2.symm)) ?_
 rintro _ _ ⟨⟨_, rfl, _⟩, rfl⟩
 refine tS (sn2 rfl)<|Te ?_
 refine cM hm rfl (fun hm => ?_) fun hm => ?_
 refine Cr<|aS rfl<|Te<|Ct<|Xr ?_
 obtain rfl := o1 hm
 exact rO ⟨rfl, rfl⟩ n
 refine Ck<|Xn<|Cs<|Cr<|mV rfl<|tS (q2 rfl rfl)<|Te ?_
 refine cI hm rfl (fun hm => ?_) fun hm => ?_
 refine Cr<|mV rfl<|tS (st_eqpn rfl rfl rfl ptr55)<|aS rfl<|Te<|Ct<|Xr ?_
 obtain rfl := o1 hm
 exact rO ⟨rfl, rfl⟩ n
 refine Ck<|Xn<|Cr<|aS rfl<|Te<|Cr<|aS rfl<|Te<|Cr<|tS (sD (vs := [_, _]) 1 2 rfl agg25 rfl rfl rfl) ?_
 refine tD (uA [sn, sn] zero25 rfl) ?_
 rintro _ _ ⟨E, rfl, rfl⟩
 refine tD (uN (vs := [_, _]) 0 2 rfl rfl rfl siz25 rfl (mc rfl (mc rfl mn)) rfl (by simp)) ?_
 rintro _ _ rfl
 refine Te ?_
 obtain ⟨fc, dV, Y⟩ := bS hm
 refine Cj (fun cG e' hp' => [] = e' ∧ R = hp' ∧ cD.Le cG ∧ fc = .inl ()) ?_ ?_
 have hm := dV
 refine Cb<|lL (unc10 fun bA aj Z aa aK K L O ak S => fun ar e' hp' => ∃ al y ab ac ad ae T U V W au av k H X q af ag m, [(1, iv x8), (2, sv A9 bg bw), (3, sv bx bh bz), (4, sv al bA y), (11, pb s), (13, sv au O av), (14, iv aj), (15, pb E)] = e' ∧ (s, Cl 116 [sv ab Z ac, sv ad aa ae, iv A, iv aK, sv H ak X, sv af S ag]) :: (E, Cl 25 [sv T K U, sv V L W]) :: (k ++ (q ++ (m ++ R))) = hp' ∧ cD.Le ar ∧ FZ rI ar.w al y bA ∧ FZ rApiTrain ar.w ab ac Z ∧ FZ (RT.list rI) ar.w ad ae aa ∧ FZ rApiTrain ar.w T U K ∧ FZ (RT.list rI) ar.w V W L ∧ OS 68 (OT.fr rGuideMessage) ar.w (sv au O av) O k ∧ OS 119 oGuidePromise0 ar.w (sv H ak X) ak q ∧ (H = none ↔ ak = []) ∧ OS 68 (OT.fr rGuideMessage) ar.w (sv af S ag) S m) hm ⟨eO, eP, eX, eY, e0, e1, A2, c3, A5, c6, none, 0, [], e2, e3, cp, e4, e5, cq, rfl, rfl, lr, (gq.le n), e6, e7, (h4.le n), (h7.le n), OS.nil, e8, e9, fa⟩ ?_
 rintro ⟨bA, aj, Z, aa, aK, K, L, O, ak, S⟩ ar _ _ f8 ⟨al, y, ab, ac, ad, ae, T, U, V, W, au, av, k, H, X, q, af, ag, m, rfl, rfl, x, bi, a5, a6, aW, aX, bj, bB, a0, a7⟩ ba am
 unfold mFishkeep2GuidePromises_L7255 at ba
 have hm := (unc10E ba)
 refine Cs<|Cr<|mV rfl<|tS (sE rfl sl49)<|tS (q6 rfl rfl)<|Te ?_
 refine cI hm rfl (fun hm => ?_) fun hm => ?_
 refine Ck<|Xn<|Cb<|Cs ?_
 obtain ⟨fd, fe, hm⟩ := bS hm
 obtain ⟨cH, ff, hm⟩ := bS hm
 obtain ⟨bk, fg, hm⟩ := bS hm
 refine Di mixed (.refl _)<|E0 0 rfl (sM rfl) ?_
 obtain ⟨fh, dW, dX⟩ := iS fe
 obtain ⟨f9, dY, cJ, dZ, cK⟩ := FZ.get (sz := 1) rfl (by decide) bi dX
 obtain rfl := dY
 refine E0 1 rfl (sI fh rfl rfl dW cK dZ sl49)<|Es 2 rfl (sO rfl one3 (cJ 0 _ rfl))<|E0 3 rfl (sM rfl) ?_
 obtain ⟨fi, d0, d1⟩ := iS ff
 obtain ⟨ga, d5, cO, d6, cP⟩ := FZ.get (sz := 1) rfl (by decide) bi d1
 obtain rfl := d5
 refine E0 4 rfl (sI fi rfl rfl d0 cP d6 sl49)<|Es 5 rfl (sO rfl one3 (cO 0 _ rfl))<|E0 6 rfl (sM rfl) ?_
 obtain ⟨fj, d7, d8⟩ := iS fg
 obtain ⟨gb, d9, cQ, ea, cR⟩ := FZ.get (sz := 1) rfl (by decide) bi d8
 obtain rfl := d9
 refine E0 7 rfl (sI fj rfl rfl d7 cR ea sl49)<|Es 8 rfl (sO rfl one3 (cQ 0 _ rfl))<|E0 9 rfl (sA rfl)<|E0 10 rfl (sA rfl)<|E0 11 rfl (sA rfl)<|Eo<|Dd (by kernel_rfl)<|Xn<|Cr<|mV rfl ?_
 obtain ⟨aY, fk, hm⟩ := bS hm
 obtain ⟨B, fl, eb, gc, cr, cs, ct⟩ := cutS_some fk
 have cT := FZ.sub (sz := 1) rfl bi cr cs
 have fm := bi.1.1
 rw [← ct] at cT
 refine tS (ct ▸ st_part (l := bA) B fl rfl (.inr ⟨_, _, _, rfl, rfl, eb⟩) (.inl ⟨rfl, by omega⟩) cr cs fm sl49)<|aS rfl<|Te<|Cr<|mV rfl ?_
 obtain ⟨bC, cU, hm⟩ := bS hm
 refine t_front3 [_, _] k q m R rfl<|t_front3 [_, _] m k q R rfl<|t_out2 [_] [_] q m (k ++ R) rfl<|Tg _ rfl call22 rfl (cGuideDeskPromises_2 _ _ Z aa A aK ak S s ab ac ad ae H X q af ag m a5 a6 bB a0 a7 bC cU) ?_
 rintro _ cV _ c ⟨cW, cX, D, rfl, rfl, fn⟩
 refine t_in3 [_] [_] D q m (k ++ R) rfl<|aS rfl<|Te ?_
 obtain ⟨fo, ec, aU⟩ := bS hm
 refine Cj (fun aw e' hp' => ∃ (a8 : Int), ∃ (ax : (List ApiTrain)), ∃ (ay : (List (List Int))), ∃ (aH : Int), ∃ (aL : (List ApiTrain)), ∃ (aM : (List (List Int))), ∃ (az : (List GuideMessage)), ∃ (ah : (List GuidePromise0)), ∃ (an : (List GuideMessage)), ∃ aA aB aC aD aN aO aP aQ aR aT i ao aE f aF aG g, [(1, iv x8), (2, sv A9 bg bw), (3, sv bx bh bz), (4, .slice (subA al y B 1) (aY).length (y - B)), (11, pb s), (13, sv aR az aT), (14, iv a8), (15, pb E)] = e' ∧ (s, Cl 116 [sv aA ax aB, sv aC ay aD, iv A, iv aH, sv ao ah aE, sv aF an aG]) :: (E, Cl 25 [sv aN aL aO, sv aP aM aQ]) :: (i ++ (f ++ (g ++ R))) = hp' ∧ cV.Le aw ∧ FZ rApiTrain aw.w aA aB ax ∧ FZ (RT.list rI) aw.w aC aD ay ∧ FZ rApiTrain aw.w aN aO aL ∧ FZ (RT.list rI) aw.w aP aQ aM ∧ OS 68 (OT.fr rGuideMessage) aw.w (sv aR az aT) az i ∧ OS 119 oGuidePromise0 aw.w (sv ao ah aE) ah f ∧ (ao = none ↔ ah = []) ∧ OS 68 (OT.fr rGuideMessage) aw.w (sv aF an aG) an g ∧ fo = .inl (a8, ax, ay, aH, aL, aM, az, ah, an)) ?_ ?_
 have hm := ec
 refine Cb ?_
 obtain ⟨fp, ed, ee⟩ := bS hm
 refine Cj (fun b7 e' hp' => [(1, iv x8), (2, sv A9 bg bw), (3, sv bx bh bz), (4, .slice (subA al y B 1) (aY).length (y - B)), (11, pb s), (13, sv au O av), (14, iv aj), (15, pb E), (16, iv fd), (17, iv cH), (18, iv bk), (19, sv cW bC cX), (57, bv fp)] = e' ∧ (s, Cl 116 [sv ab Z ac, sv ad aa ae, iv A, iv aK, sv H ak X, sv af S ag]) :: (E, Cl 25 [sv T K U, sv V L W]) :: (k ++ (D ++ (q ++ (m ++ R)))) = hp' ∧ cV.Le b7) ?_ ?_
 have hm := ed
 refine Cg<|mV rfl ?_
 refine Tb rfl (q1 rfl rfl) (fun bD => ?_) (fun bD => ?_)
 rw [if_pos bD] at hm
 refine mV rfl<|yS<|mV rfl<|yS ?_
 refine Tb rfl (q6 rfl rfl) (fun bE => ?_) (fun bE => ?_)
 rw [if_pos bE] at hm
 refine tS (pT rfl rfl)<|mV rfl<|yS<|mV rfl<|yS<|mV rfl<|yS<|tS (sE rfl sl53)<|yS<|tS (q3 rfl rfl) ?_
 refine tS (pT rfl rfl)<|aS rfl<|Tn ?_
 obtain rfl := o1 hm
 exact jJ ⟨rfl, rfl, lr⟩
 rw [if_neg bE] at hm
 refine tS (pT rfl rfl)<|mV rfl<|nO<|nO<|nO<|nO<|tS (pF rfl rfl)<|aS rfl<|Tn ?_
 obtain rfl := o1 hm
 exact jJ ⟨rfl, rfl, lr⟩
 rw [if_neg bD] at hm
 refine mV rfl<|nO<|nO<|tS (pF rfl rfl)<|mV rfl<|nO<|nO<|nO<|nO<|tS (pF rfl rfl) ?_
 refine aS rfl<|Tn ?_
 obtain rfl := o1 hm
 exact jJ ⟨rfl, rfl, lr⟩
 rintro b7 _ _ ⟨rfl, rfl, a⟩
 have hm := ee
 refine cB hm rfl (fun hm => ?_) fun hm => ?_
 refine Cr<|mV rfl<|mV rfl<|mV rfl ?_
 obtain ⟨b8, fq, gd, ef, ge, eg, cY, cu, cZ, hm⟩ := bF (sz := 2) hm (f6.le (n.trans (x.trans (c.trans a))))
 obtain ⟨_, _, rfl, ⟨c0, c1, rfl, fr⟩, ⟨c2, c4, rfl, fs⟩⟩ := eg
 refine tS (sI fq rfl rfl ef cZ cu sl53)<|tS (sP (vs := [sv c0 b8.Trains c1, sv c2 b8.Turns c4]) 2 rfl agg25 cu rfl (fun j u hu => cY j u hu))<|mV rfl ?_
 obtain ⟨⟨ft, bl, bm, bn, bo, bp, bq⟩, c5, hm⟩ := bS hm
 have hm := (unc7E hm)
 refine t_front4 [_, _] k D q m R rfl<|t_front4 [_, _] m k D q R rfl<|t_out2 [_] [_] q m (k ++ (D ++ R)) rfl<|Tg _ rfl call23 rfl (cGuideDeskNews_2 _ _ (hG.le (n.trans (x.trans (c.trans a)))) b8 bk Z aa A aK ak S s c0 c1 c2 c4 ab ac ad ae H X q af ag m fr fs (a5.le (c.trans a)) (a6.le (c.trans a)) (bB.le (c.trans a)) a0 (a7.le (c.trans a)) ft bl bm bn bo bp bq c5) ?_
 rintro _ gt _ I ⟨bG, bH, bI, bJ, fu, fv, ai, F, bK, bL, G, rfl, rfl, b9, ca, c7, cb, fw, cc, cd⟩
 refine t_in3 [_] [_] ai F G (k ++ (D ++ R)) rfl<|t_hresp 0 rfl (o' := Cl 116 [sv bG bl bH, sv bI bm bJ, iv A, iv bn, sv H bp X, sv bK bq bL]) (by simp only [sv, fw])<|mV rfl<|tS (st_extract rfl rfl)<|tS (st_extract rfl rfl)<|aS rfl<|aS rfl<|Te<|Cs<|Cr ?_
 refine mV rfl<|tS (q2 rfl rfl)<|Te ?_
 refine cI hm rfl (fun hm => ?_) fun hm => ?_
 refine Ce<|Xe<|Xo ?_
 have hq := (Option.some.inj hm).symm
 exact jJ ⟨aj, bl, bm, bn, K, L, O, bp, bq, bG, bH, bI, bJ, T, U, V, W, au, av, k, H, X, F, bK, bL, G, rfl, rfl, (a.trans I), b9, ca, (aW.le (c.trans (a.trans I))), (aX.le (c.trans (a.trans I))), (bj.le (c.trans (a.trans I))), cb, cc, cd, hq⟩
 refine Ck<|Xn<|Cr<|mV rfl<|mV rfl ?_
 obtain ⟨bM, fx, gf, eh, gg, ei, c8, cv, c9, hm⟩ := bF (sz := 2) hm (f6.le (n.trans (x.trans (c.trans (a.trans I)))))
 obtain ⟨_, _, rfl, ⟨da, db, rfl, fy⟩, ⟨dc, dd, rfl, fz⟩⟩ := ei
 refine tS (sI fx rfl rfl eh c9 cv sl53)<|tS (sP (vs := [sv da bM.Trains db, sv dc bM.Turns dd]) 2 rfl agg25 cv rfl (fun j u hu => c8 j u hu))<|tD (uN (vs := [_, _]) 1 2 rfl rfl rfl siz25 rfl (mc rfl (mc rfl mn)) rfl (by simp)) ?_
 rintro _ _ rfl
 refine Te<|Cr<|mV rfl<|mV rfl<|t_front4 [_, _] ai F G k (D ++ R) rfl ?_
 obtain ⟨de, fA, fB⟩ := rd_own c7 (.cons _ (.cons _ (ss k (List.sublist_append_left _ _))))
 obtain ⟨_, ce, hm⟩ := bS hm
 have ce := room_some ce
 refine tD (uQ (r := rGuideMessage) (l := O) [_, _] (ai ++ (F ++ (G ++ (D ++ R)))) de bo rfl (by decide) sl58 inf68 rfl rfl rfl rfl (bj.le (c.trans (a.trans I))) rfl fA fB ce) ?_
 rintro _ _ ⟨aI, rfl, df⟩
 obtain ⟨fC, fD, rfl, _⟩ := df.form
 refine aS rfl<|Te<|Cr<|mV rfl<|mV rfl ?_
 obtain ⟨cf, dg, hm⟩ := bS hm
 refine t_front4 [_, _] aI ai F G (D ++ R) rfl<|t_front4 [_, _] G aI ai F (D ++ R) rfl<|t_out2 [_] [_] F G (aI ++ (ai ++ (D ++ R))) rfl<|Tg _ rfl call22 rfl (cGuideDeskPromises_2 _ _ bl bm A bn bp bq s bG bH bI bJ H X F bK bL G b9 ca cb cc cd cf dg) ?_
 rintro _ gu _ C ⟨fF, fG, bc, rfl, rfl, fH⟩
 refine t_in3 [_] [_] bc F G (aI ++ (ai ++ (D ++ R))) rfl<|mV rfl<|mV rfl ?_
 obtain ⟨fI, dh, hm⟩ := bS hm
 refine tD (uW _ call24 rfl (fun w ho => cFishkeep2Honest _ [] bC cf bo bk cW cX fF fG fu fv (OS.now (o := (OT.fr rGuidePromise)) (l := bC) (hs := D) (fn.le (a.trans (I.trans C))) ho (.cons _ (.cons _ (ss bc (ss F (ss G (ss aI (ss ai (List.sublist_append_left _ _))))))))) (OS.now (o := (OT.fr rGuidePromise)) (l := cf) (hs := bc) fH ho (.cons _ (.cons _ (List.sublist_append_left _ _)))) (OS.now (o := (OT.fr rGuideMessage)) (l := bo) (hs := ai) (c7.le C) ho (.cons _ (.cons _ (ss bc (ss F (ss G (ss aI (List.sublist_append_left _ _)))))))) fI dh) (fun _ _ _ h => h.2.symm)) ?_
 rintro _ _ ⟨⟨_, rfl, _⟩, rfl⟩
 refine tS (sn2 rfl)<|Te ?_
 refine cM hm rfl (fun hm => ?_) fun hm => ?_
 refine Cr<|aS rfl<|Te<|Ct<|Xb<|Xr<|Xb<|Xr<|Xb<|Xr ?_
 have ej := (Option.some.inj hm).symm
 rw [ej] at aU
 have hm := elimR aU
 have hm := congrArg some (am _ (Option.some.inj hm).symm)
 have ek := (Option.some.inj hm).symm
 rw [ek] at Y
 have hm := elimR Y
 obtain rfl := o1 hm
 exact rO ⟨rfl, rfl⟩ (n.trans (x.trans (c.trans (a.trans (I.trans C)))))
 refine Ck<|Xm ?_
 have hq := (Option.some.inj hm).symm
 exact jJ ⟨aj, bl, bm, bn, bM.Trains, bM.Turns, O ++ bo, bp, bq, bG, bH, bI, bJ, da, db, dc, dd, fC, fD, aI, H, X, F, bK, bL, G, rfl, rfl, (a.trans (I.trans C)), (b9.le C), (ca.le C), (fy.le C), (fz.le C), (df.le C), (cb.le C), cc, (cd.le C), hq⟩
 obtain ⟨fJ, el, em⟩ := bS hm
 refine Cj (fun di e' hp' => [(1, iv x8), (2, sv A9 bg bw), (3, sv bx bh bz), (4, .slice (subA al y B 1) (aY).length (y - B)), (11, pb s), (13, sv au O av), (14, iv aj), (15, pb E), (17, iv cH), (18, iv bk), (96, bv fJ)] = e' ∧ (s, Cl 116 [sv ab Z ac, sv ad aa ae, iv A, iv aK, sv H ak X, sv af S ag]) :: (E, Cl 25 [sv T K U, sv V L W]) :: (k ++ (q ++ (m ++ R))) = hp' ∧ b7.Le di) ?_ ?_
 have hm := el
 refine Cg<|mV rfl ?_
 refine Tb rfl (q2 rfl rfl) (fun bN => ?_) (fun bN => ?_)
 rw [if_pos bN] at hm
 refine mV rfl<|yS<|mV rfl<|yS ?_
 refine Tb rfl (q6 rfl rfl) (fun bO => ?_) (fun bO => ?_)
 rw [if_pos bO] at hm
 refine tS (pT rfl rfl)<|mV rfl<|yS<|mV rfl<|yS<|mV rfl<|yS<|tS (sE rfl sl54)<|yS<|tS (q3 rfl rfl) ?_
 refine tS (pT rfl rfl)<|aS rfl<|Tn ?_
 obtain rfl := o1 hm
 exact jJ ⟨rfl, rfl, lr⟩
 rw [if_neg bO] at hm
 refine tS (pT rfl rfl)<|mV rfl<|nO<|nO<|nO<|nO<|tS (pF rfl rfl)<|aS rfl<|Tn ?_
 obtain rfl := o1 hm
 exact jJ ⟨rfl, rfl, lr⟩
 rw [if_neg bN] at hm
 refine mV rfl<|nO<|nO<|tS (pF rfl rfl)<|mV rfl<|nO<|nO<|nO<|nO<|tS (pF rfl rfl) ?_
 refine aS rfl<|Tn ?_
 obtain rfl := o1 hm
 exact jJ ⟨rfl, rfl, lr⟩
 rintro di _ _ ⟨rfl, rfl, d⟩
 have hm := em
 refine cB hm rfl (fun hm => ?_) fun hm => ?_
 refine Cr<|mV rfl<|mV rfl<|mV rfl ?_
 obtain ⟨dj, fK, gh, en, gi, eo, dk, cw, dl, hm⟩ := bF (sz := 1) hm (dU.le (n.trans (x.trans (c.trans (a.trans d)))))
 obtain ⟨dm, dn, rfl, fL⟩ := eo
 refine tS (sI fK rfl rfl en dl cw sl54)<|tS (sP (vs := [sv dm dj.Rides dn]) 1 rfl agg33 cw rfl (fun j u hu => dk j u hu))<|mV rfl ?_
 obtain ⟨⟨dp, fM, bP, bQ⟩, dq, hm⟩ := bS hm
 have hm := (unc4E hm)
 refine t_front3 [_, _] k q m R rfl<|t_front3 [_, _] m k q R rfl<|t_out2 [_] [_] q m (k ++ R) rfl<|Tg _ rfl call25 rfl (cGuideDeskSell_2 _ _ dj bk Z aa A aK ak S s dm dn ab ac ad ae H X q af ag m fL (a5.le (c.trans (a.trans d))) (a6.le (c.trans (a.trans d))) (bB.le (c.trans (a.trans d))) a0 (a7.le (c.trans (a.trans d))) dp fM bP bQ dq) ?_
 rintro _ fN _ e ⟨cg, ch, bd, rfl, rfl, dr, ds⟩
 refine t_in2 [_] [_] bd m (k ++ R) rfl<|mV rfl<|tS (st_extract rfl rfl)<|tS (st_extract rfl rfl)<|aS rfl<|aS rfl<|Te<|Cs<|Cr<|mV rfl ?_
 refine tS (q2 rfl rfl)<|Te ?_
 refine cI hm rfl (fun hm => ?_) fun hm => ?_
 refine Ce<|Xe<|Xo ?_
 have hq := (Option.some.inj hm).symm
 exact jJ ⟨aj, Z, aa, bP, K, L, O, bQ, S, ab, ac, ad, ae, T, U, V, W, au, av, k, cg, ch, bd, af, ag, m, rfl, rfl, (a.trans (d.trans e)), (a5.le (c.trans (a.trans (d.trans e)))), (a6.le (c.trans (a.trans (d.trans e)))), (aW.le (c.trans (a.trans (d.trans e)))), (aX.le (c.trans (a.trans (d.trans e)))), (bj.le (c.trans (a.trans (d.trans e)))), dr, ds, (a7.le (c.trans (a.trans (d.trans e)))), hq⟩
 refine Ck<|Xn<|Cs ?_
 obtain ⟨fO, ep, eq⟩ := bS hm
 refine Cj (fun dt e' hp' => [(1, iv x8), (2, sv A9 bg bw), (3, sv bx bh bz), (4, .slice (subA al y B 1) (aY).length (y - B)), (11, pb s), (13, sv au O av), (14, iv aj), (15, pb E), (143, bv fO)] = e' ∧ (s, Cl 116 [sv ab Z ac, sv ad aa ae, iv A, iv bP, sv cg bQ ch, sv af S ag]) :: (E, Cl 25 [sv T K U, sv V L W]) :: (k ++ (bd ++ (m ++ R))) = hp' ∧ fN.Le dt) ?_ ?_
 have hm := ep
 by_cases a1 : dp ≠ aj
 rw [if_pos a1] at hm
 refine Di mixed (.refl _)<|E0 0 rfl (sM rfl)<|E0 1 rfl (sM rfl)<|E0 2 rfl (st_neq_t rfl rfl a1)<|E0 3 rfl (sM rfl)<|eN 4 rfl<|eN 5 rfl<|eN 6 rfl<|eN 7 rfl<|eN 8 rfl ?_
 refine eN 9 rfl<|eN 10 rfl<|eN 11 rfl<|E0 12 rfl (pT rfl rfl)<|E0 13 rfl (sM rfl)<|eN 14 rfl<|eN 15 rfl<|eN 16 rfl<|eN 17 rfl<|eN 18 rfl ?_
 refine eN 19 rfl<|eN 20 rfl<|eN 21 rfl<|E0 22 rfl (pT rfl rfl)<|Eo<|Dd (by kernel_rfl) ?_
 obtain rfl := o1 hm
 exact jJ ⟨rfl, rfl, lr⟩
 rw [if_neg a1] at hm
 obtain ⟨bR, du, hm⟩ := bS hm
 obtain ⟨ci, b4, hm⟩ := bS hm
 by_cases be : ci ≠ 0
 rw [if_pos be] at hm
 refine Di mixed (.refl _)<|E0 0 rfl (sM rfl)<|E0 1 rfl (sM rfl)<|E0 2 rfl (st_neq_f rfl rfl a1)<|E0 3 rfl (sM rfl)<|Ey 4 124 rfl (sD (vs := [_, _]) 1 2 rfl agg25 rfl rfl rfl)<|Yz 5 124 rfl (sM rfl)<|Yz 6 124 rfl (sM rfl) ?_
 obtain ⟨cj, bT, bU⟩ := iS du
 obtain ⟨er, bV, br, a2, bs⟩ := FZ.get (sz := 1) rfl (by decide) (dU.le (n.trans (x.trans (c.trans (a.trans (d.trans e)))))) bU
 obtain ⟨bt, bu, rfl, ck⟩ := bV
 refine Yz 7 124 rfl (sI cj rfl rfl bT bs a2 sl54)<|Ey 8 124 rfl (sP (vs := [sv bt bR.Rides bu]) 1 rfl agg33 a2 rfl (fun j u hu => br j u hu))<|Yz 9 124 rfl (sM rfl)<|Eo<|Da [10] (by kernel_rfl) rfl ?_
 refine R_doY lr rfl rfl 124 rfl rfl rfl (uW _ call14 rfl (fun w ho => cFishref2JourneyFault _ [] (⟨K, L⟩ : ApiDay) bR x8 true T U V W bt bu ((aW.le (c.trans (a.trans (d.trans e)))).old ho) ((aX.le (c.trans (a.trans (d.trans e)))).old ho) (ck.old ho) ci b4) (fun _ _ _ h => h.2.symm)) ?_ ?_
 rintro _ _ ⟨⟨_, rfl, _⟩, rfl⟩
 refine iR<|Ei lr (.refl _)<|Yz 11 124 rfl (st_neq_t rfl rfl be)<|E0 12 rfl (pF rfl rfl)<|E0 13 rfl (sM rfl)<|eN 14 rfl<|eN 15 rfl<|eN 16 rfl<|eN 17 rfl<|eN 18 rfl ?_
 refine eN 19 rfl<|eN 20 rfl<|eN 21 rfl<|E0 22 rfl (pT rfl rfl)<|Eo<|Dd (by kernel_rfl) ?_
 obtain rfl := o1 hm
 exact jJ ⟨rfl, rfl, lr⟩
 exact Rn
 rw [if_neg be] at hm
 obtain ⟨dv, fP, hm⟩ := bS hm
 obtain ⟨fQ, dw, hm⟩ := bS hm
 refine Di mixed (.refl _)<|E0 0 rfl (sM rfl)<|E0 1 rfl (sM rfl)<|E0 2 rfl (st_neq_f rfl rfl a1)<|E0 3 rfl (sM rfl)<|Ey 4 124 rfl (sD (vs := [_, _]) 1 2 rfl agg25 rfl rfl rfl)<|Yz 5 124 rfl (sM rfl)<|Yz 6 124 rfl (sM rfl) ?_
 obtain ⟨cj, bT, bU⟩ := iS du
 obtain ⟨er, bV, br, a2, bs⟩ := FZ.get (sz := 1) rfl (by decide) (dU.le (n.trans (x.trans (c.trans (a.trans (d.trans e)))))) bU
 obtain ⟨bt, bu, rfl, ck⟩ := bV
 refine Yz 7 124 rfl (sI cj rfl rfl bT bs a2 sl54)<|Ey 8 124 rfl (sP (vs := [sv bt bR.Rides bu]) 1 rfl agg33 a2 rfl (fun j u hu => br j u hu))<|Yz 9 124 rfl (sM rfl)<|Eo<|Da [10] (by kernel_rfl) rfl ?_
 refine R_doY lr rfl rfl 124 rfl rfl rfl (uW _ call14 rfl (fun w ho => cFishref2JourneyFault _ [] (⟨K, L⟩ : ApiDay) bR x8 true T U V W bt bu ((aW.le (c.trans (a.trans (d.trans e)))).old ho) ((aX.le (c.trans (a.trans (d.trans e)))).old ho) (ck.old ho) ci b4) (fun _ _ _ h => h.2.symm)) ?_ ?_
 rintro _ _ ⟨⟨_, rfl, _⟩, rfl⟩
 refine iR<|Ei lr (.refl _)<|Yz 11 124 rfl (st_neq_f rfl rfl be)<|E0 12 rfl (pF rfl rfl)<|E0 13 rfl (sM rfl)<|Ey 14 134 rfl (sD (vs := [_, _]) 1 2 rfl agg25 rfl rfl rfl)<|Yz 15 134 rfl (sM rfl)<|Yz 16 134 rfl (sM rfl) ?_
 obtain ⟨fR, es, et⟩ := iS fP
 obtain ⟨gj, eu, dx, cx, dy⟩ := FZ.get (sz := 1) rfl (by decide) (dU.le (n.trans (x.trans (c.trans (a.trans (d.trans e)))))) et
 obtain ⟨dz, dA, rfl, fS⟩ := eu
 refine Yz 17 134 rfl (sI fR rfl rfl es dy cx sl54)<|Ey 18 134 rfl (sP (vs := [sv dz dv.Rides dA]) 1 rfl agg33 cx rfl (fun j u hu => dx j u hu))<|Yz 20 134 rfl (sM rfl)<|Eo<|Da [19] (by kernel_rfl) rfl ?_
 refine R_doY lr rfl rfl 134 rfl rfl rfl (uW _ call16 rfl (fun w ho => cFishref2Leaves _ [] (⟨K, L⟩ : ApiDay) dv T U V W dz dA ((aW.le (c.trans (a.trans (d.trans e)))).old ho) ((aX.le (c.trans (a.trans (d.trans e)))).old ho) (fS.old ho) fQ dw) (fun _ _ _ h => h.2.symm)) ?_ ?_
 rintro _ _ ⟨⟨_, rfl, _⟩, rfl⟩
 refine iR<|Ei lr (.refl _)<|Yz 21 134 rfl (q3 rfl rfl)<|E0 22 rfl (pF rfl rfl)<|Eo<|Dd (by kernel_rfl) ?_
 obtain rfl := o1 hm
 exact jJ ⟨rfl, rfl, lr⟩
 exact Rn
 exact Rn
 rintro dt _ _ ⟨rfl, rfl, J⟩
 have hm := eq
 refine cB hm rfl (fun hm => ?_) fun hm => ?_
 refine Cr<|aS rfl<|Te<|Ct<|Xr<|Xb<|Xr<|Xb<|Xr<|Xb ?_
 refine Xr ?_
 have ev := (Option.some.inj hm).symm
 rw [ev] at aU
 have hm := elimR aU
 have hm := congrArg some (am _ (Option.some.inj hm).symm)
 have ew := (Option.some.inj hm).symm
 rw [ew] at Y
 have hm := elimR Y
 obtain rfl := o1 hm
 exact rO ⟨rfl, rfl⟩ (n.trans (x.trans (c.trans (a.trans (d.trans (e.trans J))))))
 refine Ck<|Xn<|Cg<|mV rfl ?_
 obtain ⟨_, cl, hm⟩ := bS hm
 have cl := (kS cl).2
 refine tS (sa rfl rfl cl)<|aS rfl<|Tn<|Xm ?_
 have hq := (Option.some.inj hm).symm
 exact jJ ⟨aj + 1, Z, aa, bP, K, L, O, bQ, S, ab, ac, ad, ae, T, U, V, W, au, av, k, cg, ch, bd, af, ag, m, rfl, rfl, (a.trans (d.trans (e.trans J))), (a5.le (c.trans (a.trans (d.trans (e.trans J))))), (a6.le (c.trans (a.trans (d.trans (e.trans J))))), (aW.le (c.trans (a.trans (d.trans (e.trans J))))), (aX.le (c.trans (a.trans (d.trans (e.trans J))))), (bj.le (c.trans (a.trans (d.trans (e.trans J))))), (dr.le J), ds, (a7.le (c.trans (a.trans (d.trans (e.trans J))))), hq⟩
 refine Ck<|Xm ?_
 have hq := (Option.some.inj hm).symm
 exact jJ ⟨aj, Z, aa, aK, K, L, O, ak, S, ab, ac, ad, ae, T, U, V, W, au, av, k, H, X, q, af, ag, m, rfl, rfl, (a.trans d), (a5.le (c.trans (a.trans d))), (a6.le (c.trans (a.trans d))), (aW.le (c.trans (a.trans d))), (aX.le (c.trans (a.trans d))), (bj.le (c.trans (a.trans d))), (bB.le (c.trans (a.trans d))), a0, (a7.le (c.trans (a.trans d))), hq⟩
 rintro aw _ _ ⟨a8, ax, ay, aH, aL, aM, az, ah, an, aA, aB, aC, aD, aN, aO, aP, aQ, aR, aT, i, ao, aE, f, aF, aG, g, rfl, rfl, a3, bW, bX, dB, dC, dD, bY, a4, bZ, ex⟩
 rw [ex] at aU
 have hm := elimL aU
 have hm := (unc9E hm)
 refine Cs ?_
 obtain ⟨fT, ey, ez⟩ := bS hm
 refine Cj (fun dE e' hp' => [(1, iv x8), (2, sv A9 bg bw), (3, sv bx bh bz), (4, .slice (subA al y B 1) (aY).length (y - B)), (11, pb s), (13, sv aR az aT), (14, iv a8), (15, pb E), (157, bv fT)] = e' ∧ (s, Cl 116 [sv aA ax aB, sv aC ay aD, iv A, iv aH, sv ao ah aE, sv aF an aG]) :: (E, Cl 25 [sv aN aL aO, sv aP aM aQ]) :: (i ++ (f ++ (g ++ R))) = hp' ∧ aw.Le dE) ?_ ?_
 have hm := ey
 refine Cg<|mV rfl ?_
 obtain ⟨fU, dF, hm⟩ := bS hm
 refine t_front3 [_, _] i f g R rfl<|t_front3 [_, _] g i f R rfl<|t_out2 [_] [_] f g (i ++ R) rfl<|Tg _ rfl call22 rfl (cGuideDeskPromises_2 _ _ ax ay A aH ah an s aA aB aC aD ao aE f aF aG g bW bX bY a4 bZ fU dF) ?_
 rintro _ gv _ aq ⟨gw, gx, aV, rfl, rfl, gy⟩
 refine t_in3 [_] [_] aV f g (i ++ R) rfl<|tS (sE rfl sl59)<|mV rfl ?_
 refine Tb rfl (q2 rfl rfl) (fun b0 => ?_) (fun b0 => ?_)
 rw [if_pos b0] at hm
 refine mV rfl<|nO<|nO<|nO<|nO<|nO<|tS (pT rfl rfl)<|Tn ?_
 obtain rfl := o1 hm
 exact jJ ⟨rfl, rfl, aq⟩
 rw [if_neg b0] at hm
 refine mV rfl<|yS<|mV rfl<|yS ?_
 obtain ⟨cm, dH, hm⟩ := bS hm
 refine t_front3 [_, _] aV f g (i ++ R) rfl<|t_front3 [_, _] g aV f (i ++ R) rfl<|t_out2 [_] [_] f g (aV ++ (i ++ R)) rfl<|Tg _ rfl call27 rfl (cGuideDeskMessages _ _ ax ay A aH ah an s aA aB aC aD ao aE f aF aG g (bW.le aq) (bX.le aq) (bY.le aq) a4 (bZ.le aq) cm dH) ?_
 rintro _ gz _ b5 ⟨fV, fW, b1, rfl, rfl, fX⟩
 refine t_in3 [_] [_] b1 f g (aV ++ (i ++ R)) rfl<|yS<|mV rfl<|yS ?_
 obtain ⟨fY, dI, hm⟩ := bS hm
 refine tD (uW _ call26 rfl (fun w ho => cSlicesEqual_2 _ [] cm az fV fW aR aT (OS.now (o := (OT.fr rGuideMessage)) (l := cm) (hs := b1) fX ho (.cons _ (.cons _ (List.sublist_append_left _ _)))) (OS.now (o := (OT.fr rGuideMessage)) (l := az) (hs := i) (dD.le (aq.trans b5)) ho (.cons _ (.cons _ (ss b1 (ss f (ss g (ss aV (List.sublist_append_left _ _)))))))) fY dI) (fun _ _ _ h => h.2.symm)) ?_
 rintro _ _ ⟨⟨_, rfl, _⟩, rfl⟩
 refine yS<|tS (sn2 rfl)<|tS (pF rfl rfl)<|Tn ?_
 obtain rfl := o1 hm
 exact jJ ⟨rfl, rfl, (aq.trans b5)⟩
 rintro dE _ _ ⟨rfl, rfl, p⟩
 have hm := ez
 refine cB hm rfl (fun hm => ?_) fun hm => ?_
 refine Cr<|aS rfl<|Te<|Ct<|Xr<|Xb<|Xr<|Xb<|Xr ?_
 have hm := congrArg some (am _ (Option.some.inj hm).symm)
 have eA := (Option.some.inj hm).symm
 rw [eA] at Y
 have hm := elimR Y
 obtain rfl := o1 hm
 exact rO ⟨rfl, rfl⟩ (n.trans (x.trans (c.trans (a3.trans p))))
 refine Ck<|Xn<|Cr<|mV rfl ?_
 obtain ⟨a9, dJ, hm⟩ := bS hm
 refine t_front3 [_, _] i f g R rfl<|t_front3 [_, _] g i f R rfl<|t_out2 [_] [_] f g (i ++ R) rfl<|Tg _ rfl call22 rfl (cGuideDeskPromises_2 _ _ ax ay A aH ah an s aA aB aC aD ao aE f aF aG g (bW.le p) (bX.le p) (bY.le p) a4 (bZ.le p) a9 dJ) ?_
 rintro _ fZ _ z ⟨dK, dL, aJ, rfl, rfl, dM⟩
 refine t_in3 [_] [_] aJ f g (i ++ R) rfl<|tS (sE rfl sl59)<|mV rfl<|Te<|Cb ?_
 have gk : a9.length ≤ 9223372036854775807 := (OS.len dM)
 refine Cp 1 rfl<|Cp 1 rfl<|c_front3 [_, _] aJ f g (i ++ R) rfl<|c_front3 [_, _] g aJ f (i ++ R) rfl<|c_front3 [_, _] f g aJ (i ++ R) rfl<|c_front4 [_, _] aJ f g i R rfl ?_
 obtain ⟨gA, eB, bf⟩ := bS hm
 refine lF (fun cn => fun _ => fun b2 e' hp' => [(1, iv x8), (2, sv A9 bg bw), (3, sv bx bh bz), (4, .slice (subA al y B 1) (aY).length (y - B)), (11, pb s), (13, sv aR az aT), (14, iv a8), (15, pb E), (159, sv dK a9 dL), (160, iv ((a9.length : Int))), (161, iv ((cn : Int)))] = e' ∧ (s, Cl 116 [sv aA ax aB, sv aC ay aD, iv A, iv aH, sv ao ah aE, sv aF an aG]) :: (E, Cl 25 [sv aN aL aO, sv aP aM aQ]) :: (i ++ (aJ ++ (f ++ (g ++ R)))) = hp' ∧ fZ.Le b2) eB ⟨rfl, rfl, lr⟩ ?_ ?_
 rintro cn _ b2 _ _ gl f5 ⟨rfl, rfl, t⟩ bb co
 unfold mFishkeep2GuidePromises_L9570 at bb
 have hm := bb
 refine Cr<|tS (lT rfl rfl (by omega))<|Te<|Cs<|c_cond_t rfl<|Ck<|Xn<|Cs<|Cb<|Cr ?_
 obtain ⟨aZ, f0, hm⟩ := bS hm
 obtain ⟨f1, eC, eD⟩ := iS f0
 obtain ⟨gm, gn, gB, gC, go, eE, dN, cy, dO, gp, f7⟩ := OS.get (sz := 6) rfl (by decide) (dM.le t) eD
 obtain ⟨⟨_, _, rfl, rfl, ⟨_, _, rfl, rfl, ⟨_, _, rfl, rfl, ⟨_, _, rfl, rfl, ⟨_, _, rfl, rfl, ⟨dP, dQ, rfl, f2⟩⟩⟩⟩⟩⟩, rfl⟩ := eE
 refine tS (sI f1 rfl rfl eC dO cy sl59)<|tS (st_loadN_rd (vs := [iv aZ.From, iv aZ.To, iv aZ.Dep, iv aZ.Arr, iv aZ.State, sv dP aZ.Journey.Rides dQ]) 6 rfl agg71 cy rfl (fun w ho j u hu => dN w _ ho (.cons _ (.cons _ (ss i (List.sublist_append_left _ _)))) j u hu))<|tD (uA [iv 0, iv 0, iv 0, iv 0, iv 0, sn] zero71 rfl) ?_
 rintro _ _ ⟨gD, rfl, rfl⟩
 refine tD (uN (vs := [_, _, _, _, _, _]) 0 6 rfl rfl rfl siz71 rfl (mc rfl (mc rfl (mc rfl (mc rfl (mc rfl (mc rfl mn)))))) rfl (by simp)) ?_
 rintro _ _ rfl
 refine Te ?_
 obtain ⟨f3, eG, eH⟩ := bS hm
 refine Cj (fun dR e' hp' => [(1, iv x8), (2, sv A9 bg bw), (3, sv bx bh bz), (4, .slice (subA al y B 1) (aY).length (y - B)), (11, pb s), (13, sv aR az aT), (14, iv a8), (15, pb E), (159, sv dK a9 dL), (160, iv ((a9.length : Int))), (161, iv ((cn : Int))), (174, bv f3)] = e' ∧ (s, Cl 116 [sv aA ax aB, sv aC ay aD, iv A, iv aH, sv ao ah aE, sv aF an aG]) :: (E, Cl 25 [sv aN aL aO, sv aP aM aQ]) :: (i ++ (aJ ++ (f ++ (g ++ R)))) = hp' ∧ b2.Le dR) ?_ ?_
 have hm := eG
 refine Cg<|tS (sF rfl fld71_4)<|tS (sL 0 rfl one3 rfl rfl) ?_
 refine Tb rfl (q1 rfl rfl) (fun b3 => ?_) (fun b3 => ?_)
 rw [if_pos b3] at hm
 refine mV rfl<|yS<|tS (sD (vs := [_, _]) 2 2 rfl agg25 rfl rfl rfl)<|yS<|tS (sD (vs := [_, _, _, _, _, _]) 0 6 rfl agg71 rfl rfl rfl)<|yS<|mV rfl<|yS ?_
 obtain ⟨f4, dS, hm⟩ := bS hm
 refine tD (uW _ call28 rfl (fun w ho => cFishkeep2Stands _ [] (⟨aL, aM⟩ : ApiDay) aZ x8 aN aO aP aQ dP dQ ((dB.le (p.trans (z.trans t))).old ho) ((dC.le (p.trans (z.trans t))).old ho) (f2.old ho) f4 dS) (fun _ _ _ h => h.2.symm)) ?_
 rintro _ _ ⟨⟨_, rfl, _⟩, rfl⟩
 refine yS<|tS (sn2 rfl)<|tS (pT rfl rfl)<|Tn ?_
 obtain rfl := o1 hm
 exact jJ ⟨rfl, rfl, lr⟩
 rw [if_neg b3] at hm
 refine mV rfl<|nO<|nO<|nO<|nO<|nO<|tS (pF rfl rfl)<|Tn ?_
 obtain rfl := o1 hm
 exact jJ ⟨rfl, rfl, lr⟩
 rintro dR _ _ ⟨rfl, rfl, b6⟩
 have hm := eH
 refine cB hm rfl (fun hm => ?_) fun hm => ?_
 refine Cr<|aS rfl<|Te<|Ct<|Xb<|Xr<|Xr<|Xb<|Xb<|Xr ?_
 refine Xb<|Xr ?_
 have eI := co _ (Option.some.inj hm).symm
 rw [eI] at bf
 have hm := elimR bf
 have hm := congrArg some (am _ (Option.some.inj hm).symm)
 have eJ := (Option.some.inj hm).symm
 rw [eJ] at Y
 have hm := elimR Y
 obtain rfl := o1 hm
 exact rO ⟨rfl, rfl⟩ (n.trans (x.trans (c.trans (a3.trans (p.trans (z.trans (t.trans b6)))))))
 refine Ck<|Xm<|Xn<|Cg<|tS (sa rfl rfl (by omega))<|mV rfl<|Tn ?_
 exact jM hm ⟨rfl, rfl, ((t.trans b6))⟩
 rintro _ b2 _ _ ⟨rfl, rfl, t⟩ eK
 rw [eK] at bf
 have hm := elimL bf
 refine Cr<|tS (lF rfl rfl (by omega))<|Te<|Cs<|c_cond_f rfl<|Ce<|Xe<|Xe<|Xo<|Xm ?_
 exact jM hm ⟨(subA al y B 1), (y - B), aA, aB, aC, aD, aN, aO, aP, aQ, aR, aT, i, ao, aE, f, aF, aG, g, rfl, rfl, ((x.trans (c.trans (a3.trans (p.trans (z.trans t)))))), (cT.le (c.trans (a3.trans (p.trans (z.trans t))))), (bW.le (p.trans (z.trans t))), (bX.le (p.trans (z.trans t))), (dB.le (p.trans (z.trans t))), (dC.le (p.trans (z.trans t))), (dD.le (p.trans (z.trans t))), (bY.le (p.trans (z.trans t))), a4, (bZ.le (p.trans (z.trans t)))⟩
 refine Ce<|Xe<|Xe<|Xo ?_
 have hm := congrArg some (am _ (Option.some.inj hm).symm)
 have hq := (Option.some.inj hm).symm
 exact jJ ⟨rfl, rfl, x, hq⟩
 rintro cG _ _ ⟨rfl, rfl, dT, eL⟩
 rw [eL] at Y
 have hm := elimL Y
 refine Cr<|aS rfl<|Te<|Ct ?_
 obtain rfl := o1 hm
 exact rO ⟨rfl, rfl⟩ (n.trans dT)

end Go.Proofs.YtckgfeglhjiflaaDoor
