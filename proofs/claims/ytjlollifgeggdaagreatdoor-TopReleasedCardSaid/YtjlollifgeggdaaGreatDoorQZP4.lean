import Derived.Test.YtjlollifgeggdaaGreatDoorQZP3
set_option linter.unusedVariables false
set_option linter.unusedSimpArgs false
set_option linter.unusedSectionVars false
namespace Go.Proofs.YtjlollifgeggdaaGreatDoor
open Go.RowKit Go.Fp
set_option maxHeartbeats 4000000
set_option maxRecDepth 20000
open Go.Fp renaming q5t → Te, q7d → Tn, q5W → Tb, q8S → Tg, q7Q → Tv, z3Q → Tr, q7i → Cr, q3F → Cs, q0I → Cg, q7C → Cb, q4B → Ct, q4z → Ck, z2C → Ce, z4I → Cj, z1f → Cp, Q9 → Xn, X9 → Xr, q2i → Xe, q2j → Xb, q0R → Xm, q2X → Xo, q8P → Xi, z8l → Xp, q9U → X2, q7K → X3, q7J → X4, q9T → X5, j1Z → Es, z8g → E0, j1Y → Ey, j6k → Yz, j2O → Ei, z6d → Eo, z8c → Da, z2J → Dd, z1w → Di, j6f → Rd2, z8b → Rn, z0y → sL, q7R → sD, q7T → sF, z2j → sN, z2l → sE, q3L → sM, q2d → sA, q6m → pT, q6n → pF, q1s → sI, q2l → sO, q3y → sP, q2t → sQ, z2m → sa, z3U → sb, q6W → lT, q6X → lF, z2T → eT, z2U → eF, q7k → sn2, q7U → sB, z5k → uB, q8Q → uA, z0l → uS, q5u → uN, q7N → uW, z2M → uP, z0o → uQ, q5m → fE, q6e → bS, z5m → o1, q5G → iS, q6U → ss, q8s → kS, z6V → d2, q8q → d3, z3x → d4, z9h → mc, z9g → mn, z0B → q1, z0w → q2, z0z → q5, z0A → q6
theorem z4N (b : k9) (R : Hp) (I H an ao aq ar au av aw aR ax d7 d8) (ads : Int → Nat) (W ay az aA aB aC aD aE aF aG aH aI aJ aK aL A3 c4 n A8 c9 i ak Z s) (fH : FZ RT.str b.w ay az an) (fI : FZ j4 b.w aA aB ao) (fJ : FZ Q0 b.w aC aD aq) (fK : FZ j6 b.w aE aF ar) (fL : FZ Q1 b.w aG aH au) (d9 : FZ Z3 b.w aI aJ av) (ea : FZ (RT.list j7) b.w aK aL aw) (h5 : OS 80 (OT.fr Q5) b.w (sv A3 aR c4) aR n) (bU : OS 94 (OT.fr Q7) b.w (sv A8 ax c9) ax i) (cU : OM rI (OT.fr (RT.key ads)) false false b.w ak d7 Z) (bV : OAr 90 j8 ads b.w d8 s) (cV bD bE cW cX) (hm : q2w I H an ao aq ar au av aw aR ax d7 d8 = some (cV, bD, bE, cW, cX)):
 v8 Tryz.prog 9 [pb W, iv I, bv H] b ((W, Cl 78 [sv ay an az, sv aA ao aB, sv aC aq aD, sv aE ar aF, sv aG au aH, sv aI av aJ, sv aK aw aL, sv A3 aR c4, sv A8 ax c9, .map (some ak)]) :: (n ++ (i ++ (Z ++ (s ++ R))))) (fun v b' hp' => ∃ (ads : Int → Nat), ∃ co cp cq cr, iv cV = v ∧ (W, Cl 78 [sv ay an az, sv aA ao aB, sv aC aq aD, sv aE ar aF, sv aG au aH, sv aI av aJ, sv aK aw aL, sv A3 bD c4, sv A8 bE c9, .map (some ak)]) :: (co ++ (cp ++ (cq ++ (cr ++ R)))) = hp' ∧ OS 80 (OT.fr Q5) b'.w (sv A3 bD c4) bD co ∧ bD.length = aR.length ∧ OS 94 (OT.fr Q7) b'.w (sv A8 bE c9) bE cp ∧ bE.length = ax.length ∧ OM rI (OT.fr (RT.key ads)) false false b'.w ak cW cq ∧ OAr 90 j8 ads b'.w cX cr) := by
 refine fE 228 Tryz.func9 rfl Tryz.ntmps9 rfl ?_
 unfold q2w at hm
 refine Cr<|aS rfl<|Te<|Cs<|Cb<|Cr<|mV rfl<|mV rfl ?_
 obtain ⟨fM, cY, hm⟩ := bS hm
 refine K6 n i Z s<|K6 s n i Z<|K6 Z s n i<|K6 i Z s n<|G7 [_] [] n i Z s R rfl<|Tg _ rfl j2F rfl (q6a _ _ I an ao aq ar au av aw aR ax d7 d8 ads W ay az aA aB aC aD aE aF aG aH aI aJ aK aL A3 c4 n A8 c9 i ak Z s fH fI fJ fK fL d9 ea h5 bU cU bV fM cY) ?_
 rintro _ hJ _ d ⟨rfl, rfl⟩
 refine q3K [_] [] n i Z s R rfl<|tS (sn2 rfl)<|aS rfl<|Te<|cM hm rfl (fun hm => ?_) fun hm => ?_
 refine Cr<|aS rfl<|Te<|Ct<|Xb<|Xr ?_
 obtain ⟨rfl, rfl, rfl, rfl, rfl⟩ := z1F hm
 have eb := h5.le d
 have ec := bU.le d
 have ed := cU.le d
 have ee := bV.le d
 exact rO ⟨ads, n, i, Z, s, rfl, rfl, eb, rfl, ec, rfl, ed, ee⟩ d
 refine Cr<|mV rfl<|tS (sN rfl)<|tS (sF rfl q3f)<|tS (sL 0 rfl q8X rfl rfl)<|mV rfl ?_
 obtain ⟨cZ, fN, hm⟩ := bS hm
 have ef := Kd fN
 obtain ⟨c0, bt, eg⟩ := OM.lookF j3E (z0 := none) (cU.le d) (key := iv I) (k := I) rfl q5Z z8i rfl
 rw [ef] at bt
 obtain rfl : c0 = kv ads cZ := by have bt : [c0] = [kv ads cZ] := bt; injection bt
 refine tS (q6V (ok := false) rfl rfl (fun w ho => eg _ w ho (.cons _ (ss n (ss i (Kb _ _)))) false))<|tS (z6l rfl rfl j4K)<|aS rfl<|Te<|cM hm rfl (fun hm => ?_) fun hm => ?_
 refine Cr<|aS rfl<|Te<|Ct<|Xb<|Xr ?_
 obtain ⟨rfl, rfl, rfl, rfl, rfl⟩ := z1F hm
 have eh := h5.le d
 have ei := bU.le d
 have ej := cU.le d
 have ek := bV.le d
 exact rO ⟨ads, n, i, Z, s, rfl, rfl, eh, rfl, ei, rfl, ej, ek⟩ d
 refine Ck<|Xm<|Xn<|Cr<|mV rfl<|tS (sN rfl)<|tS (sF rfl z5P)<|tS (sL 0 rfl z8W rfl rfl)<|mV rfl ?_
 obtain ⟨fO, fP, gS, el, gT, em, c1, en, c2, hm⟩ := bF (sz := 1) hm (ea.le d)
 obtain ⟨fQ, fR, rfl, fS⟩ := em
 refine tS (sI fP rfl rfl el c2 en j4G)<|tS (sO rfl z4e (c1 0 _ rfl)) ?_
 obtain ⟨c3, c5, hm⟩ := bS hm
 refine Tg _ rfl j5S rfl (z1Q _ _ fO fQ fR fS c3 c5) ?_
 rintro _ fT _ e ⟨c6, c7, bu, rfl, rfl, c8⟩
 refine q3x [] [_] bu (n ++ (i ++ (Z ++ (s ++ R)))) rfl<|aS rfl<|Te ?_
 obtain ⟨p, eo, ep⟩ := bS hm
 refine Cj (fun ca e' hp' => ∃ t y a, [(0, pb W), (1, iv I), (2, bv H), (7, sv t p y)] = e' ∧ (W, Cl 78 [sv ay an az, sv aA ao aB, sv aC aq aD, sv aE ar aF, sv aG au aH, sv aI av aJ, sv aK aw aL, sv A3 aR c4, sv A8 ax c9, .map (some ak)]) :: (a ++ (n ++ (i ++ (Z ++ (s ++ R))))) = hp' ∧ fT.Le ca ∧ OS 55 (OT.fr j7) ca.w (sv t p y) p a) ?_ ?_
 have hm := eo
 refine Cr<|mV rfl<|Te<|cB hm rfl (fun hm => ?_) fun hm => ?_
 refine Cg<|mV rfl ?_
 obtain ⟨fU, da, hm⟩ := bS hm
 refine q3Q [] [_] bu (n ++ (i ++ (Z ++ (s ++ R)))) rfl<|Tg _ rfl j5R rfl (q9o _ _ c3 c6 c7 bu c8 fU da) ?_
 rintro _ hK _ db ⟨fV, fW, ct, rfl, rfl, fX⟩
 refine q3x [] [_] ct (n ++ (i ++ (Z ++ (s ++ R)))) rfl<|aS rfl<|Tn ?_
 obtain rfl := o1 hm
 exact jJ ⟨fV, fW, ct, rfl, rfl, db, fX⟩
 refine Ck ?_
 obtain rfl := o1 hm
 exact jJ ⟨c6, c7, bu, rfl, rfl, lr, c8⟩
 rintro ca _ _ ⟨t, y, a, rfl, rfl, f, aV⟩
 have hm := ep
 refine Cs<|Cr<|mV rfl<|mV rfl<|mV rfl ?_
 obtain ⟨⟨fY, fZ⟩, dc, hm⟩ := bS hm
 have hm := H0 hm
 have zz := d.trans (e.trans f)
 refine P4 a n i Z s<|P4 s a n i Z<|P4 Z s a n i<|P4 i Z s a n<|P4 n i Z s a<|j2f [_] [] a n i Z s R rfl<|Tg _ rfl j5Q rfl (z1n _ _ I an ao aq ar au av aw p aR ax d7 d8 ads W ay az aA aB aC aD aE aF aG aH aI aJ aK aL t y a A3 c4 n A8 c9 i ak Z s (fH.le zz) (fI.le zz) (fJ.le zz) (fK.le zz) (fL.le zz) (d9.le zz) (ea.le zz) aV (h5.le zz) (bU.le zz) (cU.le zz) (bV.le zz) fY fZ dc) ?_
 rintro _ f0 _ m ⟨A, rfl, rfl, bG⟩
 refine z2O [_] [] a n i A s R rfl<|Te<|cB hm rfl (fun hm => ?_) fun hm => ?_
 refine Cr<|aS rfl<|Te<|Ct<|Xr ?_
 obtain ⟨rfl, rfl, rfl, rfl, rfl⟩ := z1F hm
 have zy := d.trans (e.trans (f.trans m))
 have eq := h5.le zy
 have er := bU.le zy
 have es := bV.le zy
 exact rO ⟨ads, n, i, A, s, rfl, rfl, eq, rfl, er, rfl, bG, es⟩ zy
 refine Ck<|Xn<|Cs<|Cr<|mV rfl<|tS (sE rfl q5x)<|mV rfl<|Te<|Cb ?_
 have gU : p.length ≤ 9223372036854775807 := (OS.len aV)
 refine X1 a n i A s<|X1 s a n i A<|X1 A s a n i<|X1 i A s a n<|X1 n i A s a ?_
 obtain ⟨hL, et, bw⟩ := bS hm
 refine lF (fun cb => fun _ => fun bH e' hp' => [(0, pb W), (1, iv I), (2, bv H), (7, sv t p y), (49, sv t p y), (50, iv ((p.length : Int))), (51, iv ((cb : Int)))] = e' ∧ (W, Cl 78 [sv ay an az, sv aA ao aB, sv aC aq aD, sv aE ar aF, sv aG au aH, sv aI av aJ, sv aK aw aL, sv A3 aR c4, sv A8 ax c9, .map (some ak)]) :: (a ++ (n ++ (i ++ (A ++ (s ++ R))))) = hp' ∧ f0.Le bH) et ⟨rfl, rfl, lr⟩ ?_ ?_
 rintro cb _ bH _ _ gV gE ⟨rfl, rfl, g⟩ bo cc
 unfold q1k at bo
 have hm := bo
 refine Cr<|tS (lT rfl rfl (by omega))<|Te<|Cs<|k7 rfl<|Ck<|Xn<|Cs<|Cb<|Cr ?_
 obtain ⟨bI, f1, hm⟩ := bS hm
 obtain ⟨f2, eu, ev⟩ := iS f1
 obtain ⟨gW, gX, hM, hN, gY, ew, dd, cu, de, gZ, gJ⟩ := OS.get (sz := 4) rfl (by decide) (aV.le (m.trans g)) ev
 obtain ⟨⟨_, _, rfl, rfl, ⟨_, _, rfl, rfl, ⟨_, _, rfl, rfl, rfl⟩⟩⟩, rfl⟩ := ew
 refine tS (sI f2 rfl rfl eu de cu q5x)<|tS (J6 (vs := [iv bI.Kind, iv bI.Place, iv bI.Position, iv bI.At]) 4 rfl P7 cu rfl (fun w ho j u hu => dd w _ ho (.cons _ (Kb _ _)) j u hu))<|tD (uA [iv 0, iv 0, iv 0, iv 0] q7I rfl) ?_
 rintro _ _ ⟨hO, rfl, rfl⟩
 refine tD (uN (vs := [_, _, _, _]) 0 4 rfl rfl rfl z1G rfl (mc rfl (mc rfl (mc rfl (mc rfl mn)))) rfl (by simp)) ?_
 rintro _ _ rfl
 refine Te ?_
 obtain ⟨f3, ex, ey⟩ := bS hm
 refine Cj (fun df e' hp' => [(0, pb W), (1, iv I), (2, bv H), (7, sv t p y), (49, sv t p y), (50, iv ((p.length : Int))), (51, iv ((cb : Int))), (68, bv f3)] = e' ∧ (W, Cl 78 [sv ay an az, sv aA ao aB, sv aC aq aD, sv aE ar aF, sv aG au aH, sv aI av aJ, sv aK aw aL, sv A3 aR c4, sv A8 ax c9, .map (some ak)]) :: (a ++ (n ++ (i ++ (A ++ (s ++ R))))) = hp' ∧ bH.Le df) ?_ ?_
 have hm := ex
 by_cases bx : 0 < bI.Position
 rw [if_pos bx] at hm
 obtain ⟨hP, f4, hm⟩ := bS hm
 refine Di mixed (.refl _)<|E0 0 rfl (sF rfl q0Z)<|Es 1 rfl (sL 0 rfl Q8 rfl rfl)<|E0 2 rfl (q7S rfl rfl bx)<|E0 3 rfl (sM rfl)<|Yz 4 58 rfl (sM rfl)<|Yz 5 58 rfl (sN rfl)<|Yz 6 58 rfl (sF rfl q0o)<|Ey 7 58 rfl (sL 1 rfl q4V rfl rfl)<|Yz 8 58 rfl (sF rfl q3N)<|Ey 9 58 rfl (sL 0 rfl Q8 rfl rfl) ?_
 obtain ⟨f5, ez, eA⟩ := iS f4
 obtain ⟨g0, g1, hQ, hR, g2, eB, dg, cv, dh, g3, gK⟩ := OS.get (sz := 5) rfl (by decide) (h5.le (d.trans (e.trans (f.trans (m.trans g))))) eA
 obtain ⟨⟨_, _, rfl, rfl, ⟨_, _, rfl, rfl, ⟨_, _, rfl, rfl, ⟨_, _, rfl, rfl, rfl⟩⟩⟩⟩, rfl⟩ := eB
 refine Yz 10 58 rfl (sI f5 rfl rfl ez dh cv q7f)<|Yz 11 58 rfl (sQ rfl cv z5O)<|Ey 12 58 rfl (Q3 rfl q6p (fun w ho => dg w _ ho (.cons _ (.cons _ (ss a (Kb _ _)))) 4 _ rfl))<|E0 13 rfl (pT rfl rfl)<|Eo<|Dd (by kernel_rfl) ?_
 obtain rfl := o1 hm
 exact jJ ⟨rfl, rfl, lr⟩
 rw [if_neg bx] at hm
 refine Di mixed (.refl _)<|E0 0 rfl (sF rfl q0Z)<|Es 1 rfl (sL 0 rfl Q8 rfl rfl)<|E0 2 rfl (q9X rfl rfl bx)<|E0 3 rfl (sM rfl)<|eN 4 rfl<|eN 5 rfl<|eN 6 rfl<|eN 7 rfl<|eN 8 rfl<|eN 9 rfl<|eN 10 rfl<|eN 11 rfl<|eN 12 rfl<|E0 13 rfl (pF rfl rfl)<|Eo<|Dd (by kernel_rfl) ?_
 obtain rfl := o1 hm
 exact jJ ⟨rfl, rfl, lr⟩
 rintro df _ _ ⟨rfl, rfl, aN⟩
 have hm := ey
 refine cB hm rfl (fun hm => ?_) fun hm => ?_
 refine Cr<|aS rfl<|Te<|Ct<|Xb<|Xr<|Xr<|Xb<|Xr ?_
 have eC := cc _ (Kd hm).symm
 rw [eC] at bw
 have hm := V8 bw
 obtain ⟨rfl, rfl, rfl, rfl, rfl⟩ := z1F hm
 have zx := d.trans (e.trans (f.trans (m.trans (g.trans aN))))
 have eD := h5.le zx
 have eE := bU.le zx
 have eG := (bG.le (g.trans aN))
 have eH := bV.le zx
 exact rO ⟨ads, n, i, A, s, rfl, rfl, eD, rfl, eE, rfl, eG, eH⟩ zx
 refine Ck<|Xm<|Xn<|Cg<|tS (sa rfl rfl (by omega))<|mV rfl<|Tn ?_
 exact jM hm ⟨rfl, rfl, ((g.trans aN))⟩
 rintro _ bH _ _ ⟨rfl, rfl, g⟩ eI
 rw [eI] at bw
 have hm := G0 bw
 refine Cr<|tS (lF rfl rfl (by omega))<|Te<|Cs<|w9 rfl<|Ce<|Xe<|Xe<|Xo<|Xn<|Cs<|Cr<|mV rfl<|tS (sE rfl q5x)<|mV rfl<|Te<|Cb ?_
 have g4 : p.length ≤ 9223372036854775807 := (OS.len aV)
 refine X1 a n i A s<|X1 s a n i A<|X1 A s a n i<|X1 i A s a n<|X1 n i A s a ?_
 obtain ⟨hS, eJ, bz⟩ := bS hm
 refine lF (fun bW => fun _ => fun bJ e' hp' => [(0, pb W), (1, iv I), (2, bv H), (7, sv t p y), (70, sv t p y), (71, iv ((p.length : Int))), (72, iv ((bW : Int)))] = e' ∧ (W, Cl 78 [sv ay an az, sv aA ao aB, sv aC aq aD, sv aE ar aF, sv aG au aH, sv aI av aJ, sv aK aw aL, sv A3 aR c4, sv A8 ax c9, .map (some ak)]) :: (a ++ (n ++ (i ++ (A ++ (s ++ R))))) = hp' ∧ bH.Le bJ) eJ ⟨rfl, rfl, lr⟩ ?_ ?_
 rintro bW _ bJ _ _ g5 gF ⟨rfl, rfl, o⟩ bp cd
 unfold q1j at bp
 have hm := bp
 refine Cr<|tS (lT rfl rfl (by omega))<|Te<|Cs<|k7 rfl<|Ck<|Xn<|Cs<|Cb<|Cr ?_
 obtain ⟨aW, f6, hm⟩ := bS hm
 obtain ⟨f7, eK, eL⟩ := iS f6
 obtain ⟨g6, g7, hT, hU, g8, eM, di, cw, dj, g9, gL⟩ := OS.get (sz := 4) rfl (by decide) (aV.le (m.trans (g.trans o))) eL
 obtain ⟨⟨_, _, rfl, rfl, ⟨_, _, rfl, rfl, ⟨_, _, rfl, rfl, rfl⟩⟩⟩, rfl⟩ := eM
 refine tS (sI f7 rfl rfl eK dj cw q5x)<|tS (J6 (vs := [iv aW.Kind, iv aW.Place, iv aW.Position, iv aW.At]) 4 rfl P7 cw rfl (fun w ho j u hu => di w _ ho (.cons _ (Kb _ _)) j u hu))<|tD (uA [iv 0, iv 0, iv 0, iv 0] q7I rfl) ?_
 rintro _ _ ⟨dk, rfl, rfl⟩
 refine tD (uN (vs := [_, _, _, _]) 0 4 rfl rfl rfl z1G rfl (mc rfl (mc rfl (mc rfl (mc rfl mn)))) rfl (by simp)) ?_
 rintro _ _ rfl
 refine Te<|Cs<|Cr<|tS (sF rfl q0Z)<|tS (sL 0 rfl Q8 rfl rfl)<|tS (q1 rfl rfl)<|Te<|cI hm rfl (fun hm => ?_) fun hm => ?_
 refine Ce<|Xe<|Xo<|Xn<|Cg<|tS (sa rfl rfl (by omega))<|mV rfl<|Tn ?_
 exact jM hm ⟨rfl, rfl, (o)⟩
 refine Ck<|Xn ?_
 obtain ⟨⟨dl, dm, dn, dp, dq⟩, eO, eP⟩ := bS hm
 refine Cj (fun ce e' hp' => ∃ cf, [(0, pb W), (1, iv I), (2, bv H), (7, sv t p y), (11, pb dk), (12, pb cf), (70, sv t p y), (71, iv ((p.length : Int))), (72, iv ((bW : Int)))] = e' ∧ (W, Cl 78 [sv ay an az, sv aA ao aB, sv aC aq aD, sv aE ar aF, sv aG au aH, sv aI av aJ, sv aK aw aL, sv A3 aR c4, sv A8 ax c9, .map (some ak)]) :: (dk, Cl 55 [iv aW.Kind, iv aW.Place, iv aW.Position, iv aW.At]) :: (cf, Cl 80 [iv dl, bv dm, iv dn, iv dp, bv dq]) :: (a ++ (n ++ (i ++ (A ++ (s ++ R))))) = hp' ∧ bJ.Le ce) ?_ ?_
 have hm := eO
 obtain ⟨bK, f8, hm⟩ := bS hm
 refine Di mixed (.refl _)<|E0 0 rfl (sM rfl)<|E0 1 rfl (sN rfl)<|E0 2 rfl (sF rfl q0o)<|Es 3 rfl (sL 1 rfl q4V rfl rfl)<|E0 4 rfl (sF rfl q3N)<|Es 5 rfl (sL 0 rfl Q8 rfl rfl) ?_
 obtain ⟨f9, eQ, eR⟩ := iS f8
 obtain ⟨ha, hb, hV, hW, hc, eS, dr, cx, ds, hd, gM⟩ := OS.get (sz := 5) rfl (by decide) (h5.le (d.trans (e.trans (f.trans (m.trans (g.trans o)))))) eR
 obtain ⟨⟨_, _, rfl, rfl, ⟨_, _, rfl, rfl, ⟨_, _, rfl, rfl, ⟨_, _, rfl, rfl, rfl⟩⟩⟩⟩, rfl⟩ := eS
 refine E0 6 rfl (sI f9 rfl rfl eQ ds cx q7f)<|Es 7 rfl (J6 (vs := [iv bK.axles, bv bK.disturbed, iv bK.position, iv bK.moving, bv bK.failed]) 5 rfl z1Z cx rfl (fun w ho j u hu => dr w _ ho (.cons _ (.cons _ (ss a (Kb _ _)))) j u hu))<|Eo<|Da [8] (by kernel_rfl) rfl<|Rd2 lr rfl rfl (uA [iv 0, .bool false, iv 0, iv 0, .bool false] j4q rfl) ?_ ?_
 rintro _ _ ⟨ga, rfl, rfl⟩
 refine iR<|Da [9] (by kernel_rfl) rfl<|Rd2 lr rfl rfl (uN (vs := [_, _, _, _, _]) 0 5 rfl rfl rfl j6K rfl (mc rfl (mc rfl (mc rfl (mc rfl (mc rfl mn))))) rfl (by simp)) ?_ ?_
 rintro _ _ rfl
 refine ⟨.inl (by kernel_rfl), ?_⟩
 refine Dd (by kernel_rfl) ?_
 obtain ⟨rfl, rfl, rfl, rfl, rfl⟩ := z1F hm
 exact jJ ⟨ga, rfl, rfl, lr⟩
 exact Rn
 exact Rn
 rintro ce _ _ ⟨cf, rfl, rfl, aO⟩
 have hm := z3P eP
 obtain ⟨gb, eU, eV⟩ := bS hm
 refine Cj (fun dt e' hp' => [(0, pb W), (1, iv I), (2, bv H), (7, sv t p y), (70, sv t p y), (71, iv ((p.length : Int))), (72, iv ((bW : Int))), (112, bv gb)] = e' ∧ (W, Cl 78 [sv ay an az, sv aA ao aB, sv aC aq aD, sv aE ar aF, sv aG au aH, sv aI av aJ, sv aK aw aL, sv A3 aR c4, sv A8 ax c9, .map (some ak)]) :: (a ++ (n ++ (i ++ (A ++ (s ++ R))))) = hp' ∧ ce.Le dt) ?_ ?_
 have hm := eU
 refine Cg<|tS (sD (vs := [_, _, _, _, _]) 2 5 rfl z1Z rfl rfl rfl) ?_
 obtain ⟨du, dv, hm⟩ := bS hm
 refine tD (uW _ z1e rfl (fun w ho => q0p _ [] (⟨dl, dm, dn, dp, dq⟩ : q9) du dv) (fun _ _ _ h => h.2.symm)) ?_
 rintro _ _ ⟨⟨_, rfl, _⟩, rfl⟩
 rcases Kg du with bd | bd
 rw [if_pos bd] at hm
 refine Tr 88 rfl (v' := .bool true) (by rw [bd] <;> rfl)<|mV rfl<|yS<|tS (sF rfl q5J)<|yS<|tS (sL 2 rfl Q8 rfl rfl)<|yS<|tS (sF rfl q0Z)<|yS<|tS (sL 1 rfl Q8 rfl rfl)<|yS<|Tb rfl (q2 rfl rfl) (fun bX => ?_) (fun bX => ?_)
 rw [if_pos bX] at hm
 refine yS<|mV rfl<|nO<|nO<|nO<|yS<|tS (pT rfl rfl)<|tS (pT rfl rfl)<|mV rfl<|nO<|nO<|nO<|nO<|nO<|nO<|nO<|nO<|nO<|nO<|tS (pT rfl rfl)<|Tn ?_
 obtain rfl := o1 hm
 exact jJ ⟨rfl, rfl, lr⟩
 rw [if_neg bX] at hm
 refine yS<|mV rfl<|yS<|tS (sF rfl q4X)<|yS<|tS (sL 2 rfl Q8 rfl rfl)<|yS<|Tb rfl (q5 rfl rfl) (fun bY => ?_) (fun bY => ?_)
 rw [if_pos bY] at hm
 refine yS<|tS (pF rfl rfl)<|tS (pT rfl rfl)<|mV rfl<|nO<|nO<|nO<|nO<|nO<|nO<|nO<|nO<|nO<|nO<|tS (pT rfl rfl)<|Tn ?_
 obtain rfl := o1 hm
 exact jJ ⟨rfl, rfl, lr⟩
 rw [if_neg bY] at hm
 refine yS<|tS (pF rfl rfl)<|tS (pT rfl rfl)<|mV rfl<|yS<|tS (sF rfl q4X)<|yS<|tS (sL 2 rfl Q8 rfl rfl)<|yS<|Tb rfl (q5 rfl rfl) (fun bZ => ?_) (fun bZ => ?_)
 rw [if_pos bZ] at hm
 refine yS<|mV rfl<|yS<|tS (sF rfl q5J)<|yS<|tS (sL 2 rfl Q8 rfl rfl)<|yS<|tS (sF rfl q0Z)<|yS<|tS (sL 1 rfl Q8 rfl rfl)<|yS<|tS (q1 rfl rfl)<|yS<|tS (pT rfl rfl)<|tS (pF rfl rfl)<|Tn ?_
 obtain rfl := o1 hm
 exact jJ ⟨rfl, rfl, lr⟩
 rw [if_neg bZ] at hm
 refine yS<|mV rfl<|nO<|nO<|nO<|nO<|nO<|yS<|tS (pF rfl rfl)<|tS (pF rfl rfl)<|Tn ?_
 obtain rfl := o1 hm
 exact jJ ⟨rfl, rfl, lr⟩
 rw [if_neg (fun hh => Bool.noConfusion (hh.symm.trans bd))] at hm
 refine Tr 88 rfl (v' := .bool false) (by rw [bd] <;> rfl)<|mV rfl<|nO<|nO<|nO<|nO<|nO<|nO<|nO<|nO<|nO<|nO<|tS (pF rfl rfl)<|mV rfl<|yS<|tS (sF rfl q4X)<|yS<|tS (sL 2 rfl Q8 rfl rfl)<|yS<|Tb rfl (q5 rfl rfl) (fun b0 => ?_) (fun b0 => ?_)
 rw [if_pos b0] at hm
 refine yS<|mV rfl<|yS<|tS (sF rfl q5J)<|yS<|tS (sL 2 rfl Q8 rfl rfl)<|yS<|tS (sF rfl q0Z)<|yS<|tS (sL 1 rfl Q8 rfl rfl)<|yS<|tS (q1 rfl rfl)<|yS<|tS (pT rfl rfl)<|tS (pF rfl rfl)<|Tn ?_
 obtain rfl := o1 hm
 exact jJ ⟨rfl, rfl, lr⟩
 rw [if_neg b0] at hm
 refine yS<|mV rfl<|nO<|nO<|nO<|nO<|nO<|yS<|tS (pF rfl rfl)<|tS (pF rfl rfl)<|Tn ?_
 obtain rfl := o1 hm
 exact jJ ⟨rfl, rfl, lr⟩
 rintro dt _ _ ⟨rfl, rfl, aP⟩
 have hm := eV
 refine cB hm rfl (fun hm => ?_) fun hm => ?_
 refine Cr<|aS rfl<|Te<|Ct<|Xb<|Xr<|Xr<|Xb<|Xr ?_
 have eW := cd _ (Kd hm).symm
 rw [eW] at bz
 have hm := V8 bz
 obtain ⟨rfl, rfl, rfl, rfl, rfl⟩ := z1F hm
 have zw := d.trans (e.trans (f.trans (m.trans (g.trans (o.trans (aO.trans aP))))))
 have eX := h5.le zw
 have eY := bU.le zw
 have e0 := (bG.le (g.trans (o.trans (aO.trans aP))))
 have e1 := bV.le zw
 exact rO ⟨ads, n, i, A, s, rfl, rfl, eX, rfl, eY, rfl, e0, e1⟩ zw
 refine Ck<|Xm<|Xn<|Cg<|tS (sa rfl rfl (by omega))<|mV rfl<|Tn ?_
 exact jM hm ⟨rfl, rfl, ((o.trans (aO.trans aP)))⟩
 rintro _ bJ _ _ ⟨rfl, rfl, o⟩ e2
 rw [e2] at bz
 have hm := G0 bz
 refine Cr<|tS (lF rfl rfl (by omega))<|Te<|Cs<|w9 rfl<|Ce<|Xe<|Xe<|Xo<|Xn<|Cs<|Cr<|mV rfl<|tS (sE rfl q5x)<|mV rfl<|Te<|Cb ?_
 have he : p.length ≤ 9223372036854775807 := (OS.len aV)
 refine X1 a n i A s<|X1 s a n i A<|X1 A s a n i<|X1 i A s a n<|X1 n i A s a ?_
 obtain ⟨hX, e3, bA⟩ := bS hm
 refine lF (fun cg => fun _ => fun bh e' hp' => [(0, pb W), (1, iv I), (2, bv H), (7, sv t p y), (114, sv t p y), (115, iv ((p.length : Int))), (116, iv ((cg : Int)))] = e' ∧ (W, Cl 78 [sv ay an az, sv aA ao aB, sv aC aq aD, sv aE ar aF, sv aG au aH, sv aI av aJ, sv aK aw aL, sv A3 aR c4, sv A8 ax c9, .map (some ak)]) :: (a ++ (n ++ (i ++ (A ++ (s ++ R))))) = hp' ∧ bJ.Le bh) e3 ⟨rfl, rfl, lr⟩ ?_ ?_
 rintro cg _ bh _ _ hf gG ⟨rfl, rfl, z⟩ bq ch
 unfold q1i at bq
 have hm := bq
 refine Cr<|tS (lT rfl rfl (by omega))<|Te<|Cs<|k7 rfl<|Ck<|Xn<|Cs<|Cb<|Cr ?_
 obtain ⟨bi, gc, hm⟩ := bS hm
 obtain ⟨gd, e4, e5⟩ := iS gc
 obtain ⟨hg, hi, hY, hZ, hj, e6, dw, cy, dx, hk, gN⟩ := OS.get (sz := 4) rfl (by decide) (aV.le (m.trans (g.trans (o.trans z)))) e5
 obtain ⟨⟨_, _, rfl, rfl, ⟨_, _, rfl, rfl, ⟨_, _, rfl, rfl, rfl⟩⟩⟩, rfl⟩ := e6
 refine tS (sI gd rfl rfl e4 dx cy q5x)<|tS (J6 (vs := [iv bi.Kind, iv bi.Place, iv bi.Position, iv bi.At]) 4 rfl P7 cy rfl (fun w ho j u hu => dw w _ ho (.cons _ (Kb _ _)) j u hu))<|tD (uA [iv 0, iv 0, iv 0, iv 0] q7I rfl) ?_
 rintro _ _ ⟨h0, rfl, rfl⟩
 refine tD (uN (vs := [_, _, _, _]) 0 4 rfl rfl rfl z1G rfl (mc rfl (mc rfl (mc rfl (mc rfl mn)))) rfl (by simp)) ?_
 rintro _ _ rfl
 refine Te ?_
 obtain ⟨ge, e7, e8⟩ := bS hm
 refine Cj (fun dy e' hp' => [(0, pb W), (1, iv I), (2, bv H), (7, sv t p y), (114, sv t p y), (115, iv ((p.length : Int))), (116, iv ((cg : Int))), (142, bv ge)] = e' ∧ (W, Cl 78 [sv ay an az, sv aA ao aB, sv aC aq aD, sv aE ar aF, sv aG au aH, sv aI av aJ, sv aK aw aL, sv A3 aR c4, sv A8 ax c9, .map (some ak)]) :: (a ++ (n ++ (i ++ (A ++ (s ++ R))))) = hp' ∧ bh.Le dy) ?_ ?_
 have hm := e7
 rcases Kg H with aT | aT
 rw [if_pos aT] at hm
 refine Di mixed (.refl _)<|E0 0 rfl (stB (sM rfl) aT)<|E0 1 rfl (Y7 rfl)<|E0 2 rfl (sM rfl)<|eN 3 rfl<|eN 4 rfl<|eN 5 rfl<|eN 6 rfl<|eN 7 rfl<|eN 8 rfl<|eN 9 rfl<|eN 10 rfl<|E0 11 rfl (pF rfl rfl)<|E0 12 rfl (sM rfl)<|eN 13 rfl<|eN 14 rfl<|eN 15 rfl<|eN 16 rfl<|eN 17 rfl<|eN 18 rfl<|eN 19 rfl<|eN 20 rfl<|eN 21 rfl<|E0 22 rfl (pF rfl rfl)<|Eo<|Dd (by kernel_rfl) ?_
 obtain rfl := o1 hm
 exact jJ ⟨rfl, rfl, lr⟩
 rw [if_neg (fun hh => Bool.noConfusion (hh.symm.trans aT))] at hm
 by_cases be : bi.Kind = 1
 rw [if_pos be] at hm
 obtain ⟨bj, gf, hm⟩ := bS hm
 obtain ⟨gg, dz, hm⟩ := bS hm
 refine Di mixed (.refl _)<|E0 0 rfl (stB (sM rfl) aT)<|E0 1 rfl (q0r rfl)<|E0 2 rfl (sM rfl)<|Yz 3 122 rfl (sF rfl q0H)<|Ey 4 122 rfl (sL 0 rfl Q8 rfl rfl)<|Yz 5 122 rfl (eT rfl rfl be)<|Yz 6 122 rfl (sM rfl)<|eN 7 rfl<|eN 8 rfl ?_
 refine eN 9 rfl<|Yz 10 122 rfl (pT rfl rfl)<|E0 11 rfl (pT rfl rfl)<|E0 12 rfl (sM rfl)<|Yz 13 132 rfl (sM rfl)<|Yz 14 132 rfl (sN rfl)<|Yz 15 132 rfl (sF rfl q0o)<|Ey 16 132 rfl (sL 1 rfl q4V rfl rfl)<|Yz 17 132 rfl (sF rfl q3N)<|Ey 18 132 rfl (sL 0 rfl Q8 rfl rfl) ?_
 obtain ⟨gh, e9, fa⟩ := iS gf
 obtain ⟨hl, hn, h1, h2, hq, fb, dA, cz, dB, hr, gO⟩ := OS.get (sz := 5) rfl (by decide) (h5.le (d.trans (e.trans (f.trans (m.trans (g.trans (o.trans z))))))) fa
 obtain ⟨⟨_, _, rfl, rfl, ⟨_, _, rfl, rfl, ⟨_, _, rfl, rfl, ⟨_, _, rfl, rfl, rfl⟩⟩⟩⟩, rfl⟩ := fb
 refine Yz 19 132 rfl (sI gh rfl rfl e9 dB cz q7f)<|Ey 20 132 rfl (J6 (vs := [iv bj.axles, bv bj.disturbed, iv bj.position, iv bj.moving, bv bj.failed]) 5 rfl z1Z cz rfl (fun w ho j u hu => dA w _ ho (.cons _ (.cons _ (ss a (Kb _ _)))) j u hu))<|Eo<|Da [21] (by kernel_rfl) rfl<|q3j lr rfl rfl 132 rfl rfl rfl (uW _ z1e rfl (fun w ho => q0p _ [] bj gg dz) (fun _ _ _ h => h.2.symm)) ?_ ?_
 rintro _ _ ⟨⟨_, rfl, _⟩, rfl⟩
 refine iR<|Ei lr (.refl _)<|E0 22 rfl (pT rfl rfl)<|Eo<|Dd (by kernel_rfl) ?_
 obtain rfl := o1 hm
 exact jJ ⟨rfl, rfl, lr⟩
 exact Rn
 rw [if_neg be] at hm
 by_cases bB : bi.Kind = 2
 rw [if_pos bB] at hm
 obtain ⟨bk, gi, hm⟩ := bS hm
 obtain ⟨gj, dC, hm⟩ := bS hm
 refine Di mixed (.refl _)<|E0 0 rfl (stB (sM rfl) aT)<|E0 1 rfl (q0r rfl)<|E0 2 rfl (sM rfl)<|Yz 3 122 rfl (sF rfl q0H)<|Ey 4 122 rfl (sL 0 rfl Q8 rfl rfl)<|Yz 5 122 rfl (eF rfl rfl be)<|Yz 6 122 rfl (sM rfl)<|Yz 7 126 rfl (sF rfl q0H)<|Ey 8 126 rfl (sL 0 rfl Q8 rfl rfl) ?_
 refine Yz 9 126 rfl (eT rfl rfl bB)<|Yz 10 122 rfl (pF rfl rfl)<|E0 11 rfl (pT rfl rfl)<|E0 12 rfl (sM rfl)<|Yz 13 132 rfl (sM rfl)<|Yz 14 132 rfl (sN rfl)<|Yz 15 132 rfl (sF rfl q0o)<|Ey 16 132 rfl (sL 1 rfl q4V rfl rfl)<|Yz 17 132 rfl (sF rfl q3N)<|Ey 18 132 rfl (sL 0 rfl Q8 rfl rfl) ?_
 obtain ⟨gk, fc, fd⟩ := iS gi
 obtain ⟨hs, ht, h3, h4, hv, fe, dD, cA, dE, hw, gP⟩ := OS.get (sz := 5) rfl (by decide) (h5.le (d.trans (e.trans (f.trans (m.trans (g.trans (o.trans z))))))) fd
 obtain ⟨⟨_, _, rfl, rfl, ⟨_, _, rfl, rfl, ⟨_, _, rfl, rfl, ⟨_, _, rfl, rfl, rfl⟩⟩⟩⟩, rfl⟩ := fe
 refine Yz 19 132 rfl (sI gk rfl rfl fc dE cA q7f)<|Ey 20 132 rfl (J6 (vs := [iv bk.axles, bv bk.disturbed, iv bk.position, iv bk.moving, bv bk.failed]) 5 rfl z1Z cA rfl (fun w ho j u hu => dD w _ ho (.cons _ (.cons _ (ss a (Kb _ _)))) j u hu))<|Eo<|Da [21] (by kernel_rfl) rfl<|q3j lr rfl rfl 132 rfl rfl rfl (uW _ z1e rfl (fun w ho => q0p _ [] bk gj dC) (fun _ _ _ h => h.2.symm)) ?_ ?_
 rintro _ _ ⟨⟨_, rfl, _⟩, rfl⟩
 refine iR<|Ei lr (.refl _)<|E0 22 rfl (pT rfl rfl)<|Eo<|Dd (by kernel_rfl) ?_
 obtain rfl := o1 hm
 exact jJ ⟨rfl, rfl, lr⟩
 exact Rn
 rw [if_neg bB] at hm
 refine Di mixed (.refl _)<|E0 0 rfl (stB (sM rfl) aT)<|E0 1 rfl (q0r rfl)<|E0 2 rfl (sM rfl)<|Yz 3 122 rfl (sF rfl q0H)<|Ey 4 122 rfl (sL 0 rfl Q8 rfl rfl)<|Yz 5 122 rfl (eF rfl rfl be)<|Yz 6 122 rfl (sM rfl)<|Yz 7 126 rfl (sF rfl q0H)<|Ey 8 126 rfl (sL 0 rfl Q8 rfl rfl)<|Yz 9 126 rfl (eF rfl rfl bB)<|Yz 10 122 rfl (pF rfl rfl)<|E0 11 rfl (pT rfl rfl)<|E0 12 rfl (sM rfl)<|eN 13 rfl<|eN 14 rfl<|eN 15 rfl<|eN 16 rfl<|eN 17 rfl<|eN 18 rfl ?_
 refine eN 19 rfl<|eN 20 rfl<|eN 21 rfl<|E0 22 rfl (pF rfl rfl)<|Eo<|Dd (by kernel_rfl) ?_
 obtain rfl := o1 hm
 exact jJ ⟨rfl, rfl, lr⟩
 rintro dy _ _ ⟨rfl, rfl, aQ⟩
 have hm := e8
 refine cB hm rfl (fun hm => ?_) fun hm => ?_
 refine Cr<|aS rfl<|Te<|Ct<|Xb<|Xr<|Xr<|Xb<|Xr ?_
 have ff := ch _ (Kd hm).symm
 rw [ff] at bA
 have hm := V8 bA
 obtain ⟨rfl, rfl, rfl, rfl, rfl⟩ := z1F hm
 have zv := d.trans (e.trans (f.trans (m.trans (g.trans (o.trans (z.trans aQ))))))
 have fg := h5.le zv
 have fh := bU.le zv
 have fi := (bG.le (g.trans (o.trans (z.trans aQ))))
 have fj := bV.le zv
 exact rO ⟨ads, n, i, A, s, rfl, rfl, fg, rfl, fh, rfl, fi, fj⟩ zv
 refine Ck<|Xm<|Xn<|Cg<|tS (sa rfl rfl (by omega))<|mV rfl<|Tn ?_
 exact jM hm ⟨rfl, rfl, ((z.trans aQ))⟩
 rintro _ bh _ _ ⟨rfl, rfl, z⟩ fk
 rw [fk] at bA
 have hm := G0 bA
 refine Cr<|tS (lF rfl rfl (by omega))<|Te<|Cs<|w9 rfl<|Ce<|Xe<|Xe<|Xo<|Xn<|Cr<|mV rfl<|tS (sN rfl)<|tS (sF rfl z5Q)<|tS (sL 0 rfl z1L rfl rfl)<|mV rfl ?_
 have zu := d.trans (e.trans (f.trans (m.trans (g.trans (o.trans z)))))
 obtain ⟨q, gl, hx, fl, hy, fm, dF, cC, dH, hm⟩ := bF (sz := 3) hm (d9.le zu)
 obtain ⟨_, _, rfl, rfl, ⟨_, _, rfl, rfl, ⟨X, Y, rfl, dI⟩⟩⟩ := fm
 refine tS (sI gl rfl rfl fl dH cC z5c)<|tS (sP (vs := [iv q.From, iv q.To, sv X q.Steps Y]) 3 rfl z3K cC rfl (fun j u hu => dF j u hu))<|tD (uA [iv 0, iv 0, sn] z8j rfl) ?_
 rintro _ _ ⟨a9, rfl, rfl⟩
 refine tD (uN (vs := [_, _, _]) 0 3 rfl rfl rfl j3n rfl (mc rfl (mc rfl (mc rfl mn))) rfl (by simp)) ?_
 rintro _ _ rfl
 refine Te ?_
 obtain ⟨⟨gm, gn⟩, fn, fo⟩ := bS hm
 refine Cj (fun bL e' hp' => ∃ C J, [(0, pb W), (1, iv I), (2, bv H), (7, sv t p y), (15, pb a9)] = e' ∧ (W, Cl 78 [sv ay an az, sv aA ao aB, sv aC aq aD, sv aE ar aF, sv aG au aH, sv aI av aJ, sv aK aw aL, sv A3 aR c4, sv A8 ax c9, .map (some ak)]) :: (a9, Cl 36 [iv q.From, iv q.To, sv X q.Steps Y]) :: (a ++ (n ++ (i ++ (C ++ (J ++ R))))) = hp' ∧ bh.Le bL ∧ OM rI (OT.fr (RT.key ads)) false false bL.w ak gm C ∧ OAr 90 j8 ads bL.w gn J) ?_ ?_
 have hm := fn
 refine Cr<|mV rfl<|tS (sN rfl)<|tS (sF rfl q3f)<|tS (sL 1 rfl q8X rfl rfl)<|q2k a n i A<|tD (z0m [_, _] (a ++ (n ++ (i ++ (s ++ R)))) rfl (bG.le (g.trans (o.trans z))) q5Z rfl) ?_
 rintro _ _ ⟨b1, bf, rfl, rfl, go⟩
 refine Te<|Cb<|q2R bf a n i s<|q2R s bf a n i<|q2R i s bf a n<|q2R n i s bf a<|Cp 1 rfl<|q2R a n i s bf ?_
 obtain ⟨h6, fp, cD⟩ := bS hm
 refine z4H (fun b2 => fun ci e' hp' => ∃ K, [(0, pb W), (1, iv I), (2, bv H), (7, sv t p y), (15, pb a9), (155, pb b1)] = e' ∧ (W, Cl 78 [sv ay an az, sv aA ao aB, sv aC aq aD, sv aE ar aF, sv aG au aH, sv aI av aJ, sv aK aw aL, sv A3 aR c4, sv A8 ax c9, .map (some ak)]) :: (a9, Cl 36 [iv q.From, iv q.To, sv X q.Steps Y]) :: (a ++ (n ++ (i ++ (K ++ R)))) = hp' ∧ bh.Le ci ∧ OAr 90 j8 ads ci.w b2 K) fp go (e' := [(0, pb W), (1, iv I), (2, bv H), (7, sv t p y), (15, pb a9), (155, pb b1)]) ⟨rfl, rfl, rfl, rfl, rfl, rfl, trivial⟩ [_, _] (a ++ (n ++ (i ++ (s ++ R)))) rfl (.refl _) ⟨s, rfl, rfl, lr, (bV.le zu)⟩ ?_
 rintro b2 h7 ci _ _ cE ⟨K, rfl, rfl, aX, cj⟩ gQ dJ hd2790 hall2791
 refine j0c [_, _] cE (a ++ (n ++ (i ++ (K ++ R)))) ?_ rfl
 refine Cr<|z3R [_, _] (a ++ (n ++ (i ++ (K ++ R)))) rfl rfl rfl dJ (fun hnil2793 => ?_) (fun b3 h8 h9 ia D hperm2799 fq dK => ?_)
 obtain ⟨cG, cR, gp⟩ := MIt.done dJ
 refine z0r [_, _] cE cG (a ++ (n ++ (i ++ (K ++ R)))) rfl cR ?_
 have hend2805 := hd2790 hnil2793
 refine tS (w7 rfl rfl)<|Te<|Cs<|w9 rfl<|Ce<|Xe<|Xe<|Xo ?_
 rw [hend2805] at cD
 have hm := G0 cD
 obtain ⟨rfl, rfl⟩ := V9 hm
 exact jJ ⟨cG, K, rfl, rfl, aX, gp, cj⟩
 obtain ⟨ib, ba, gH⟩ := hall2791 _ _ hperm2799
 have br := ba
 unfold q1h at br
 have hm := br
 refine tS (w7 rfl rfl)<|Te<|Cs<|k7 rfl<|Ck<|Xn<|Cb<|Cr ?_
 obtain ⟨dL, dM, b4, b5, fr⟩ := MIx.entry Tryz.prog fq
 obtain rfl : dL = iv b3.1 := by have b4 : [dL] = [iv b3.1] := b4; injection b4
 obtain rfl : dM = kv ads b3.2 := by have b5 : [dM] = [kv ads b3.2] := b5; injection b5
 refine tS (fr (.cons _ (.cons _ (Kb _ _))) rfl)<|tS (w7 rfl rfl)<|aS rfl<|Te<|Cs ?_
 obtain ⟨aU, dN, hm⟩ := bS hm
 obtain ⟨c, gq, hm⟩ := bS hm
 refine z2B 17 rfl (v' := .pointer (some ⟨(ads aU), 0, none⟩)) (by rw [dN]; rfl)<|z2B 159 rfl (v' := .pointer (some ⟨(ads aU), 0, none⟩)) (by rw [dN]; rfl) ?_
 obtain ⟨hz, hA, U, cH, fs, hf2823⟩ := OAr.take cj gq
 obtain ⟨aY, aZ, a0, a1, a2, a3, L, a4, a5, O, rfl, gr, gs, gt, gu, rfl⟩ := fs
 refine q2R D a n i K<|z1g [_, _] K U L O (D ++ (a ++ (n ++ (i ++ R)))) rfl cH<|Di mixed (.refl _)<|E0 0 rfl (sM rfl)<|E0 1 rfl (sN rfl)<|E0 2 rfl (sF rfl q2O)<|E0 3 rfl (sF rfl q5K)<|Es 4 rfl (sL 0 rfl Q8 rfl rfl)<|E0 5 rfl (sF rfl q5L)<|Es 6 rfl (sL 2 rfl Q8 rfl rfl)<|E0 7 rfl (q1 rfl rfl)<|Eo<|Dd (by kernel_rfl)<|Xn<|cI hm rfl (fun hm => ?_) fun hm => ?_
 refine Cg<|mV rfl<|tS (sN rfl)<|tS (sF rfl z3n)<|tD (uS 0 rfl rfl z6o rfl rfl (by simp)) ?_
 rintro _ _ rfl
 refine Tn<|Xm<|Y9 L O U<|Y9 U L O<|Y9 O U L ?_
 have gv := hf2823 _ [iv c.Route.From, iv c.Route.To, sv aY c.Route.Steps aZ, sv a0 c.needs a1, sv a2 c.seen a3, sv a4 c.gone a5, bv false, bv c.sight, iv c.leave, iv c.clock, iv c.number] (⟨c.Route, c.needs, c.seen, c.gone, false, c.sight, c.leave, c.clock, c.number⟩ : z6) _ lr ⟨aY, aZ, a0, a1, a2, a3, L, a4, a5, O, rfl, gr, gs, gt, gu, rfl⟩
 refine z1B [_, _] U L O (D ++ (a ++ (n ++ (i ++ R)))) rfl<|Xp 1 rfl<|Xp 1 rfl<|X5 [_, _] (U ++ (((ads aU), Cl 90 [iv c.Route.From, iv c.Route.To, sv aY c.Route.Steps aZ, sv a0 c.needs a1, sv a2 c.seen a3, sv a4 c.gone a5, bv false, bv c.sight, iv c.leave, iv c.clock, iv c.number]) :: (L ++ O))) D a n i R rfl<|X5 [_, _] i (U ++ (((ads aU), Cl 90 [iv c.Route.From, iv c.Route.To, sv aY c.Route.Steps aZ, sv a0 c.needs a1, sv a2 c.seen a3, sv a4 c.gone a5, bv false, bv c.sight, iv c.leave, iv c.clock, iv c.number]) :: (L ++ O))) D a n R rfl<|X5 [_, _] n i (U ++ (((ads aU), Cl 90 [iv c.Route.From, iv c.Route.To, sv aY c.Route.Steps aZ, sv a0 c.needs a1, sv a2 c.seen a3, sv a4 c.gone a5, bv false, bv c.sight, iv c.leave, iv c.clock, iv c.number]) :: (L ++ O))) D a R rfl<|X5 [_, _] a n i (U ++ (((ads aU), Cl 90 [iv c.Route.From, iv c.Route.To, sv aY c.Route.Steps aZ, sv a0 c.needs a1, sv a2 c.seen a3, sv a4 c.gone a5, bv false, bv c.sight, iv c.leave, iv c.clock, iv c.number]) :: (L ++ O))) D R rfl ?_
 have dO := aX
 exact z2d (s' := X7 b2 aU (⟨c.Route, c.needs, c.seen, c.gone, false, c.sight, c.leave, c.clock, c.number⟩ : z6)) [_, _] (a ++ (n ++ (i ++ ((U ++ (((ads aU), Cl 90 [iv c.Route.From, iv c.Route.To, sv aY c.Route.Steps aZ, sv a0 c.needs a1, sv a2 c.seen a3, sv a4 c.gone a5, bv false, bv c.sight, iv c.leave, iv c.clock, iv c.number]) :: (L ++ O))) ++ R)))) rfl hperm2799 (ba.trans (Kd hm ▸ rfl)) dO dK (e' := [(0, pb W), (1, iv I), (2, bv H), (7, sv t p y), (15, pb a9), (155, pb b1)]) ⟨rfl, rfl, rfl, rfl, rfl, rfl, trivial⟩ (.refl _) ⟨(U ++ (((ads aU), Cl 90 [iv c.Route.From, iv c.Route.To, sv aY c.Route.Steps aZ, sv a0 c.needs a1, sv a2 c.seen a3, sv a4 c.gone a5, bv false, bv c.sight, iv c.leave, iv c.clock, iv c.number]) :: (L ++ O))), rfl, rfl, (aX), gv⟩
 refine Ck<|Xm<|Y9 L O U<|Y9 U L O<|Y9 O U L<|q3I [_, _] K U L O (D ++ (a ++ (n ++ (i ++ R)))) rfl cH<|Xp 1 rfl<|Xp 1 rfl<|j0F K D a n i<|j0F i K D a n<|j0F n i K D a<|j0F a n i K D ?_
 have dP := aX
 exact z2d (s' := b2) [_, _] (a ++ (n ++ (i ++ (K ++ R)))) rfl hperm2799 (ba.trans (Kd hm ▸ rfl)) dP dK (e' := [(0, pb W), (1, iv I), (2, bv H), (7, sv t p y), (15, pb a9), (155, pb b1)]) ⟨rfl, rfl, rfl, rfl, rfl, rfl, trivial⟩ (.refl _) ⟨K, rfl, rfl, (aX), cj⟩
 rintro bL _ _ ⟨C, J, rfl, rfl, T, dQ, dR⟩
 have hm := H0 fo
 obtain ⟨⟨bb, dS, dT⟩, ft, fu⟩ := bS hm
 refine Cj (fun bl e' hp' => ∃ (ads : Int → Nat), ∃ bM bN S E, [(0, pb W), (7, sv bM bb bN)] = e' ∧ (W, Cl 78 [sv ay an az, sv aA ao aB, sv aC aq aD, sv aE ar aF, sv aG au aH, sv aI av aJ, sv aK aw aL, sv A3 aR c4, sv A8 ax c9, .map (some ak)]) :: (n ++ (i ++ (S ++ (E ++ R)))) = hp' ∧ bL.Le bl ∧ FZ j7 bl.w bM bN bb ∧ OM rI (OT.fr (RT.key ads)) false false bl.w ak dS S ∧ OAr 90 j8 ads bl.w dT E) ?_ ?_
 have hm := ft
 refine j6d [_, _] a (n ++ (i ++ (C ++ (J ++ R)))) rfl ?_
 intro ic ai fv
 have b6 := OS.frz (l := p) (aV.le (m.trans (g.trans (o.trans (z.trans T))))) ai.cells fv
 obtain ⟨aa, a6, hm⟩ := bS hm
 obtain ⟨ab, a7, hm⟩ := bS hm
 obtain ⟨_, bm, hm⟩ := bS hm
 refine Di mixed (.refl _)<|E0 0 rfl (sM rfl)<|E0 1 rfl (sN rfl)<|E0 2 rfl (sF rfl q3f)<|Es 3 rfl (sL 0 rfl q8X rfl rfl)<|E0 4 rfl (sM rfl)<|Es 5 rfl (sD (vs := [_, _, _]) 1 3 rfl z3K rfl rfl rfl)<|E0 6 rfl (sM rfl)<|E0 7 rfl (sF rfl P6)<|Es 8 rfl (sL 1 rfl q3A rfl rfl)<|E0 9 rfl (sE rfl q6f)<|E0 11 rfl (sF rfl P6)<|Es 12 rfl (sL 1 rfl q3A rfl rfl)<|E0 13 rfl (sE rfl q6f)<|E0 15 rfl (sM rfl)<|E0 16 rfl (sn2 rfl)<|E0 17 rfl (sM rfl)<|E0 18 rfl (sM rfl)<|Eo ?_
 have a6 := q2Y a6
 have a7 := q2Y a7
 refine Da [10, 14] (by kernel_rfl) rfl<|Rd2 lr rfl rfl (q0w (r := RT.bool) [_, _] (n ++ (i ++ (C ++ (J ++ R)))) [bv false] false aa rfl a6.1 rfl rfl z0D j6n rfl rfl rfl (by decide) rfl a6.2.1 a6.2.2) ?_ ?_
 rintro _ _ ⟨F, rfl, bO⟩
 obtain ⟨ad, ae, rfl, _⟩ := bO.form
 refine iR<|Da [14] (by kernel_rfl) rfl<|Rd2 lr rfl rfl (q0w (r := RT.bool) [_, _] (F ++ (n ++ (i ++ (C ++ (J ++ R))))) [bv false] false ab rfl a7.1 rfl rfl z0D j6n rfl rfl rfl (by decide) rfl a7.2.1 a7.2.2) ?_ ?_
 rintro _ _ ⟨G, rfl, bP⟩
 obtain ⟨af, ag, rfl, _⟩ := bP.form
 refine iR<|Da [19] (by kernel_rfl) rfl ?_
 refine Rd2 lr rfl rfl (Z0.does (sB (v := .agg #[iv q.From, iv q.To, sv X q.Steps Y, sv t p y, .slice ad (List.replicate aa (false : Bool)).length ae, .slice af (List.replicate ab (false : Bool)).length ag, .bool (!H), bv H, iv 0, iv 0, iv I]) [(0, .agg #[iv q.From, iv q.To, sv X q.Steps Y]), (1, sv t p y), (2, .slice ad (List.replicate aa (false : Bool)).length ae), (3, .slice af (List.replicate ab (false : Bool)).length ag), (4, .bool (!H)), (5, bv H), (8, iv I)] rfl (fun _ => by kernel_rfl))) ?_ ?_
 rintro _ _ ⟨rfl, rfl⟩
 refine iR<|Da [20] (by kernel_rfl) rfl<|Rd2 lr rfl rfl (uB _ rfl rfl) ?_ ?_
 rintro _ _ ⟨ah, rfl, rfl⟩
 refine iR ?_
 have bm := z0G bm
 refine j5j G F n i C J<|j7d J G<|j1I G J F ?_
 obtain ⟨b7, al, b8, ck⟩ := OAr.add (dR.le ai) I ah (cs := [iv q.From, iv q.To, sv X q.Steps Y, sv t p y, .slice ad (List.replicate aa (false : Bool)).length ae, .slice af (List.replicate ab (false : Bool)).length ag, .bool (!H), bv H, iv 0, iv 0, iv I]) (x := (⟨q, p, List.replicate aa (false : Bool), List.replicate ab (false : Bool), !H, H, 0, 0, I⟩ : z6)) ⟨X, Y, t, y, ad, ae, F, af, ag, G, rfl, (dI.le (T.trans ai)), b6, bO, bP, rfl⟩
 have cl := OM.upd (dQ.le ai) I ah bm
 refine j2s [_, _] J b7 al F G (n ++ (i ++ (C ++ R))) rfl b8<|q3S 191 rfl (v' := kv (z3O ads I ah) (some I)) (by show _ = Value.pointer (some ⟨z3O ads _ _ _, 0, none⟩); rw [q7M]) ?_
 generalize z3O ads I ah = ads at *
 refine d4 [_, _] (al ++ ((ah, Cl 90 [iv q.From, iv q.To, sv X q.Steps Y, sv t p y, .slice ad (List.replicate aa (false : Bool)).length ae, .slice af (List.replicate ab (false : Bool)).length ag, .bool (!H), bv H, iv 0, iv 0, iv I]) :: (F ++ G))) n i C R rfl<|Da [21] (by kernel_rfl) rfl ?_
 refine Rd2 lr rfl rfl (z0n j3E [_, _] [] ((al ++ ((ah, Cl 90 [iv q.From, iv q.To, sv X q.Steps Y, sv t p y, .slice ad (List.replicate aa (false : Bool)).length ae, .slice af (List.replicate ab (false : Bool)).length ag, .bool (!H), bv H, iv 0, iv 0, iv I]) :: (F ++ G))) ++ (n ++ (i ++ R))) rfl cl q5Z rfl rfl rfl rfl ⟨rfl, rfl⟩ _ (.inl rfl)) ?_ ?_
 rintro _ _ ⟨b9, rfl, cT, cm⟩
 refine ⟨.inl (by kernel_rfl), ?_⟩
 refine Dd (by kernel_rfl) ?_
 obtain ⟨rfl, rfl, rfl⟩ := q7e hm
 exact jJ ⟨ads, t, y, b9, (al ++ ((ah, Cl 90 [iv q.From, iv q.To, sv X q.Steps Y, sv t p y, .slice ad (List.replicate aa (false : Bool)).length ae, .slice af (List.replicate ab (false : Bool)).length ag, .bool (!H), bv H, iv 0, iv 0, iv I]) :: (F ++ G))), rfl, rfl, ai, b6, cm, ck⟩
 exact Rn
 exact Rn
 exact Rn
 exact Rn
 refine Rd2 lr rfl rfl (q0w (r := RT.bool) [_, _] (n ++ (i ++ (C ++ (J ++ R)))) [bv false] false ab rfl a7.1 rfl rfl z0D j6n rfl rfl rfl (by decide) rfl a7.2.1 a7.2.2) ?_ ?_
 rintro _ _ ⟨G, rfl, bP⟩
 obtain ⟨af, ag, rfl, _⟩ := bP.form
 refine iR<|Da [10] (by kernel_rfl) rfl<|Rd2 lr rfl rfl (q0w (r := RT.bool) [_, _] (G ++ (n ++ (i ++ (C ++ (J ++ R))))) [bv false] false aa rfl a6.1 rfl rfl z0D j6n rfl rfl rfl (by decide) rfl a6.2.1 a6.2.2) ?_ ?_
 rintro _ _ ⟨F, rfl, bO⟩
 obtain ⟨ad, ae, rfl, _⟩ := bO.form
 refine iR<|Da [19] (by kernel_rfl) rfl ?_
 refine Rd2 lr rfl rfl (Z0.does (sB (v := .agg #[iv q.From, iv q.To, sv X q.Steps Y, sv t p y, .slice ad (List.replicate aa (false : Bool)).length ae, .slice af (List.replicate ab (false : Bool)).length ag, .bool (!H), bv H, iv 0, iv 0, iv I]) [(0, .agg #[iv q.From, iv q.To, sv X q.Steps Y]), (1, sv t p y), (2, .slice ad (List.replicate aa (false : Bool)).length ae), (3, .slice af (List.replicate ab (false : Bool)).length ag), (4, .bool (!H)), (5, bv H), (8, iv I)] rfl (fun _ => by kernel_rfl))) ?_ ?_
 rintro _ _ ⟨rfl, rfl⟩
 refine iR<|Da [20] (by kernel_rfl) rfl<|Rd2 lr rfl rfl (uB _ rfl rfl) ?_ ?_
 rintro _ _ ⟨ah, rfl, rfl⟩
 refine iR ?_
 have bm := z0G bm
 refine j5j F G n i C J<|j1I J F G<|j1I G J F ?_
 obtain ⟨b7, al, b8, ck⟩ := OAr.add (dR.le ai) I ah (cs := [iv q.From, iv q.To, sv X q.Steps Y, sv t p y, .slice ad (List.replicate aa (false : Bool)).length ae, .slice af (List.replicate ab (false : Bool)).length ag, .bool (!H), bv H, iv 0, iv 0, iv I]) (x := (⟨q, p, List.replicate aa (false : Bool), List.replicate ab (false : Bool), !H, H, 0, 0, I⟩ : z6)) ⟨X, Y, t, y, ad, ae, F, af, ag, G, rfl, (dI.le (T.trans ai)), b6, bO, bP, rfl⟩
 have cl := OM.upd (dQ.le ai) I ah bm
 refine j2s [_, _] J b7 al F G (n ++ (i ++ (C ++ R))) rfl b8<|q3S 191 rfl (v' := kv (z3O ads I ah) (some I)) (by show _ = Value.pointer (some ⟨z3O ads _ _ _, 0, none⟩); rw [q7M]) ?_
 generalize z3O ads I ah = ads at *
 refine d4 [_, _] (al ++ ((ah, Cl 90 [iv q.From, iv q.To, sv X q.Steps Y, sv t p y, .slice ad (List.replicate aa (false : Bool)).length ae, .slice af (List.replicate ab (false : Bool)).length ag, .bool (!H), bv H, iv 0, iv 0, iv I]) :: (F ++ G))) n i C R rfl<|Da [21] (by kernel_rfl) rfl ?_
 refine Rd2 lr rfl rfl (z0n j3E [_, _] [] ((al ++ ((ah, Cl 90 [iv q.From, iv q.To, sv X q.Steps Y, sv t p y, .slice ad (List.replicate aa (false : Bool)).length ae, .slice af (List.replicate ab (false : Bool)).length ag, .bool (!H), bv H, iv 0, iv 0, iv I]) :: (F ++ G))) ++ (n ++ (i ++ R))) rfl cl q5Z rfl rfl rfl rfl ⟨rfl, rfl⟩ _ (.inl rfl)) ?_ ?_
 rintro _ _ ⟨b9, rfl, cT, cm⟩
 refine ⟨.inl (by kernel_rfl), ?_⟩
 refine Dd (by kernel_rfl) ?_
 obtain ⟨rfl, rfl, rfl⟩ := q7e hm
 exact jJ ⟨ads, t, y, b9, (al ++ ((ah, Cl 90 [iv q.From, iv q.To, sv X q.Steps Y, sv t p y, .slice ad (List.replicate aa (false : Bool)).length ae, .slice af (List.replicate ab (false : Bool)).length ag, .bool (!H), bv H, iv 0, iv 0, iv I]) :: (F ++ G))), rfl, rfl, ai, b6, cm, ck⟩
 exact Rn
 exact Rn
 exact Rn
 exact Rn
 exact Rn
 rintro bl _ _ ⟨ads, bM, bN, S, E, rfl, rfl, ac, dU, gw, dV⟩
 have hm := q6j fu
 refine Cs<|Cr<|mV rfl<|tS (sE rfl q5x)<|mV rfl<|Te<|Cb ?_
 have hB : bb.length ≤ 9223372036854775807 := (FZ.bd dU)
 refine F9 n i S E<|F9 E n i S<|F9 S E n i<|F9 i S E n ?_
 obtain ⟨aM, fw, fx⟩ := bS hm
 refine lS (fun cn => fun aM => fun bQ e' hp' => ∃ V, [(0, pb W), (192, sv bM bb bN), (193, iv ((bb.length : Int))), (194, iv ((cn : Int)))] = e' ∧ (W, Cl 78 [sv ay an az, sv aA ao aB, sv aC aq aD, sv aE ar aF, sv aG au aH, sv aI av aJ, sv aK aw aL, sv A3 aM c4, sv A8 ax c9, .map (some ak)]) :: (V ++ (i ++ (S ++ (E ++ R)))) = hp' ∧ bl.Le bQ ∧ OS 80 (OT.fr Q5) bQ.w (sv A3 aM c4) aM V ∧ aM.length = aR.length) fw ⟨n, rfl, rfl, lr, (h5.le (d.trans (e.trans (f.trans (m.trans (g.trans (o.trans (z.trans (T.trans ac))))))))), rfl⟩ ?_ ?_
 rintro cn aM bQ _ _ hC gI ⟨V, rfl, rfl, B, bc, a8⟩ bs
 unfold q0j at bs
 have hm := bs
 refine Cr<|tS (lT rfl rfl (by omega))<|Te<|Cs<|k7 rfl<|Ck<|Xn<|Cs<|Cb<|Cr ?_
 obtain ⟨bn, gx, hD, fy, hE, fz, dW, cJ, dX, hm⟩ := bF (sz := 4) hm (dU.le B)
 obtain ⟨_, _, rfl, rfl, ⟨_, _, rfl, rfl, ⟨_, _, rfl, rfl, rfl⟩⟩⟩ := fz
 refine tS (sI gx rfl rfl fy dX cJ q5x)<|tS (sP (vs := [iv bn.Kind, iv bn.Place, iv bn.Position, iv bn.At]) 4 rfl P7 cJ rfl (fun j u hu => dW j u hu))<|tD (uA [iv 0, iv 0, iv 0, iv 0] q7I rfl) ?_
 rintro _ _ ⟨id, rfl, rfl⟩
 refine tD (uN (vs := [_, _, _, _]) 0 4 rfl rfl rfl z1G rfl (mc rfl (mc rfl (mc rfl (mc rfl mn)))) rfl (by simp)) ?_
 rintro _ _ rfl
 refine Te<|Cs<|Cr<|tS (sF rfl q0Z)<|tS (sL 0 rfl Q8 rfl rfl)<|tS (q1 rfl rfl)<|Te<|cI hm rfl (fun hm => ?_) fun hm => ?_
 refine Ce<|Xe<|Xo<|Xn<|Cg<|tS (sa rfl rfl (by omega))<|mV rfl<|Tn ?_
 obtain rfl := o1 hm
 exact jS ⟨V, rfl, rfl, (B), bc, a8⟩
 refine Ck<|Xn<|Cs ?_
 obtain ⟨aj, gy, hm⟩ := bS hm
 refine Di mixed (.refl _)<|E0 0 rfl (sM rfl)<|E0 1 rfl (sN rfl)<|E0 2 rfl (sF rfl q0o)<|Es 3 rfl (sL 1 rfl q4V rfl rfl)<|E0 4 rfl (sF rfl q3N)<|Es 5 rfl (sL 0 rfl Q8 rfl rfl) ?_
 obtain ⟨dY, cK, cO⟩ := iS gy
 obtain ⟨hF, hG, ie, ig, hH, fA, bR, am, dZ, hI, gR⟩ := OS.get (sz := 5) rfl (by decide) bc cO
 obtain ⟨⟨_, _, rfl, rfl, ⟨_, _, rfl, rfl, ⟨_, _, rfl, rfl, ⟨_, _, rfl, rfl, rfl⟩⟩⟩⟩, rfl⟩ := fA
 refine E0 6 rfl (sI dY rfl rfl cK dZ am q7f)<|E0 7 rfl (sA rfl)<|Eo<|Dd (by kernel_rfl)<|Xn ?_
 obtain ⟨gz, fB, fC⟩ := bS hm
 refine Cj (fun d0 e' hp' => [(0, pb W), (20, .pointer (Option.map (fun (x : Addr) => x.add (dY * 5)) A3)), (192, sv bM bb bN), (193, iv ((bb.length : Int))), (194, iv ((cn : Int))), (221, bv gz)] = e' ∧ (W, Cl 78 [sv ay an az, sv aA ao aB, sv aC aq aD, sv aE ar aF, sv aG au aH, sv aI av aJ, sv aK aw aL, sv A3 aM c4, sv A8 ax c9, .map (some ak)]) :: (V ++ (i ++ (S ++ (E ++ R)))) = hp' ∧ bQ.Le d0) ?_ ?_
 have hm := fB
 by_cases bC : aj.position ≠ bn.Position
 rw [if_pos bC] at hm
 refine Di mixed (.refl _)<|E0 0 rfl (sM rfl)<|E0 1 rfl (Z8 rfl am)<|E0 2 rfl (sQ rfl am q5J)<|Es 3 rfl (Q3 rfl Q8 (fun w ho => bR w _ ho (.cons _ (.cons _ (Kb _ _))) 2 _ rfl))<|E0 4 rfl (sF rfl q0Z)<|Es 5 rfl (sL 0 rfl Q8 rfl rfl)<|E0 6 rfl (z6m rfl rfl bC)<|E0 7 rfl (sM rfl)<|Yz 8 215 rfl (sM rfl) ?_
 refine Yz 9 215 rfl (Z8 rfl am)<|Yz 10 215 rfl (sQ rfl am q4X)<|Ey 11 215 rfl (Q3 rfl Q8 (fun w ho => bR w _ ho (.cons _ (.cons _ (Kb _ _))) 3 _ rfl))<|Yz 12 215 rfl (q1 rfl rfl)<|E0 13 rfl (pT rfl rfl)<|Eo<|Dd (by kernel_rfl) ?_
 obtain rfl := o1 hm
 exact jJ ⟨rfl, rfl, lr⟩
 rw [if_neg bC] at hm
 refine Di mixed (.refl _)<|E0 0 rfl (sM rfl)<|E0 1 rfl (Z8 rfl am)<|E0 2 rfl (sQ rfl am q5J)<|Es 3 rfl (Q3 rfl Q8 (fun w ho => bR w _ ho (.cons _ (.cons _ (Kb _ _))) 2 _ rfl))<|E0 4 rfl (sF rfl q0Z)<|Es 5 rfl (sL 0 rfl Q8 rfl rfl)<|E0 6 rfl (z6n rfl rfl bC)<|E0 7 rfl (sM rfl)<|eN 8 rfl<|eN 9 rfl<|eN 10 rfl<|eN 11 rfl<|eN 12 rfl<|E0 13 rfl (pF rfl rfl)<|Eo<|Dd (by kernel_rfl) ?_
 obtain rfl := o1 hm
 exact jJ ⟨rfl, rfl, lr⟩
 rintro d0 _ _ ⟨rfl, rfl, bg⟩
 have hm := fC
 refine cB hm rfl (fun hm => ?_) fun hm => ?_
 refine Cg<|mV rfl<|tS (Z8 rfl am)<|tS (sQ rfl am q4X)<|tD (uP cK (sz := 5) (a' := (⟨aj.axles, aj.disturbed, aj.position, 5, aj.failed⟩ : q9)) rfl [_] (i ++ (S ++ (E ++ R))) 3 1 [iv 5] rfl (bc.le bg) cO rfl rfl rfl z3Y rfl (mc rfl mn) (fun cs hsj hh => by obtain ⟨⟨_, _, rfl, rfl, ⟨_, _, rfl, rfl, ⟨_, _, rfl, rfl, ⟨_, _, rfl, rfl, rfl⟩⟩⟩⟩, rfl⟩ := hh; exact ⟨by first | decide | exact Nat.le_refl _, ⟨[iv aj.axles], _, rfl, rfl, ⟨[bv aj.disturbed], _, rfl, rfl, ⟨[iv aj.position], _, rfl, rfl, ⟨[iv 5], _, rfl, rfl, rfl⟩⟩⟩⟩, rfl⟩)) ?_
 rintro _ _ ⟨fD, rfl, gA⟩
 refine K9 0 rfl (o' := Cl 78 [sv ay an az, sv aA ao aB, sv aC aq aD, sv aE ar aF, sv aG au aH, sv aI av aJ, sv aK aw aL, .slice A3 (put aM bn.Place (⟨aj.axles, aj.disturbed, aj.position, 5, aj.failed⟩ : q9)).length c4, sv A8 ax c9, .map (some ak)]) (by simp only [sv, Q4])<|Tn<|Xm<|Xn<|Cg<|tS (sa rfl rfl (by omega))<|mV rfl<|Tn ?_
 obtain rfl := o1 hm
 exact jS ⟨fD, rfl, rfl, ((B.trans bg)), gA, ((Q4 _ _ _).trans a8)⟩
 refine Ck<|Xm<|Xn<|Cg<|tS (sa rfl rfl (by omega))<|mV rfl<|Tn ?_
 obtain rfl := o1 hm
 exact jS ⟨V, rfl, rfl, ((B.trans bg)), (bc.le bg), a8⟩
 rintro bQ _ _ ⟨V, rfl, rfl, B, bc, a8⟩
 have hm := fx
 refine Cr<|tS (lF rfl rfl (by omega))<|Te<|Cs<|w9 rfl<|Ce<|Xe<|Xe<|Xo<|Xn<|Cr<|mV rfl ?_
 obtain ⟨⟨d1, gB⟩, d5, hm⟩ := bS hm
 have hm := H0 hm
 have zt := d.trans (e.trans (f.trans (m.trans (g.trans (o.trans (z.trans (T.trans (ac.trans B))))))))
 refine K6 V i S E<|K6 E V i S<|K6 S E V i<|K6 i S E V<|G7 [_] [] V i S E R rfl<|Tg _ rfl j2D rfl (q9A _ _ an ao aq ar au av aw aM ax dS dT ads W ay az aA aB aC aD aE aF aG aH aI aJ aK aL A3 c4 V A8 c9 i ak S E (fH.le zt) (fI.le zt) (fJ.le zt) (fK.le zt) (fL.le zt) (d9.le zt) (ea.le zt) bc (bU.le zt) (gw.le B) (dV.le B) d1 gB d5) ?_
 rintro _ ii _ bT ⟨cP, cQ, rfl, rfl, gC, d6, gD⟩
 refine q3K [_] [] V cP cQ E R rfl<|K9 0 rfl (o' := Cl 78 [sv ay an az, sv aA ao aB, sv aC aq aD, sv aE ar aF, sv aG au aH, sv aI av aJ, sv aK aw aL, sv A3 aM c4, sv A8 d1 c9, .map (some ak)]) (by simp only [sv, d6])<|Te<|Cr<|aS rfl<|Te<|Ct ?_
 obtain ⟨rfl, rfl, rfl, rfl, rfl⟩ := z1F hm
 have fF := bc.le bT
 have fG := (dV.le (B.trans bT))
 exact rO ⟨ads, V, cP, cQ, E, rfl, rfl, fF, a8, gC, (d6.trans rfl), gD, fG⟩ (d.trans (e.trans (f.trans (m.trans (g.trans (o.trans (z.trans (T.trans (ac.trans (B.trans bT))))))))))
theorem z4L (b : k9) (R : Hp) (g h) (ads : Int → Nat) (e a c) (i : OM rI (OT.fr (RT.key ads)) false false b.w e g a) (j : OAr 90 j8 ads b.w h c) (hm : q5i g h = some ()):
 v8 Tryz.prog 50 [.map (some e)] b ((a ++ (c ++ R))) (fun v b' hp' => ∃ d, .func (.func 88) #[] #[pb d] = v ∧ (d, Cl 76 [.map (some e)]) :: (a ++ (c ++ R)) = hp') := by
 refine fE 4 Tryz.func50 rfl Tryz.ntmps50 rfl ?_
 unfold q5i at hm
 refine Cr<|tD (uB _ rfl rfl) ?_
 rintro _ _ ⟨f, rfl, rfl⟩
 refine aS rfl<|Te<|Cr<|tS (q2m _ _ rfl rfl)<|aS rfl<|Te<|Ct ?_
 clear hm
 exact rO ⟨f, rfl, rfl⟩ lr
theorem q8w (b : k9) (R : Hp) (k f) (ads : Int → Nat) (i j d e) (l : OM rI (OT.fr (RT.key ads)) false false b.w j k d) (m : OAr 90 j8 ads b.w f e) (a) (hm : q1S k f = some a):
 v8 Tryz.prog 49 [.func (.func 88) #[] #[pb i]] b ((i, Cl 76 [.map (some j)]) :: (d ++ (e ++ R))) (fun v b' hp' => ∃ g h c, sv g a h = v ∧ (i, Cl 76 [.map (some j)]) :: (c ++ (d ++ (e ++ R))) = hp' ∧ OS 3 (OT.fr rI) b'.w (sv g a h) a c) := by
 unfold q1S at hm
 exact j0S hm l
theorem q4d (b : k9) (R : Hp) (C D E F G H I z A S T) (ads : Int → Nat) (J U V W X Y Z aa ab ac ad ae af ag ah A3 c4 d A8 c9 e B a c) (a3 : FZ RT.str b.w U V C) (a4 : FZ j4 b.w W X D) (a5 : FZ Q0 b.w Y Z E) (a6 : FZ j6 b.w aa ab F) (a7 : FZ Q1 b.w ac ad G) (a8 : FZ Z3 b.w ae af H) (a9 : FZ (RT.list j7) b.w ag ah I) (h5 : OS 80 (OT.fr Q5) b.w (sv A3 z c4) z d) (ba : OS 94 (OT.fr Q7) b.w (sv A8 A c9) A e) (aw : OM rI (OT.fr (RT.key ads)) false false b.w B S a) (aG : OAr 90 j8 ads b.w T c) (t) (hm : q0i C D E F G H I z A S T = some t):
 v8 Tryz.prog 37 [pb J] b ((J, Cl 78 [sv U C V, sv W D X, sv Y E Z, sv aa F ab, sv ac G ad, sv ae H af, sv ag I ah, sv A3 z c4, sv A8 A c9, .map (some B)]) :: (d ++ (e ++ (a ++ (c ++ R))))) (fun v b' hp' => ∃ am an K, sv am t an = v ∧ (J, Cl 78 [sv U C V, sv W D X, sv Y E Z, sv aa F ab, sv ac G ad, sv ae H af, sv ag I ah, sv A3 z c4, sv A8 A c9, .map (some B)]) :: (K ++ (d ++ (e ++ (a ++ (c ++ R))))) = hp' ∧ OS 83 (OT.fr (RT.key ads)) b'.w (sv am t an) t K) := by
 refine fE 28 Tryz.func37 rfl Tryz.ntmps37 rfl ?_
 unfold q0i at hm
 refine Cr<|aS rfl<|Te<|Cr<|aS rfl<|Te<|Cs<|Cr<|mV rfl<|tS (sN rfl)<|tS (sF rfl q3f)<|tS (sL 0 rfl q8X rfl rfl) ?_
 obtain ⟨_, ai, hm⟩ := bS hm
 refine K6 d e a c<|K6 c d e a<|z6i [] [_] a c (d ++ (e ++ R)) rfl<|Tg _ rfl j2y rfl (z4L _ _ S T ads B a c aw aG ai) ?_
 rintro _ aZ _ j ⟨aH, rfl, rfl⟩
 refine z8s [_] [_] a c (d ++ (e ++ R)) rfl ?_
 obtain ⟨u, aj, hm⟩ := bS hm
 refine z1E a c<|z1E c a<|z6i [_] [_] a c (d ++ (e ++ R)) rfl<|Tg _ rfl j2z rfl (q8w _ _ S T ads aH B a c (aw.le j) (aG.le j) u aj) ?_
 rintro _ aI _ x ⟨aJ, aK, f, rfl, rfl, ao⟩
 refine z2P [_] [_] f a c (d ++ (e ++ R)) rfl<|tS (sE rfl q5y)<|mV rfl<|Te<|Cb ?_
 have aT : u.length ≤ 9223372036854775807 := (OS.len ao)
 refine Cp 1 rfl<|q6D f a c<|q6D c f a<|q2R a c f d e<|q2R e a c f d<|q2R d e a c f ?_
 obtain ⟨o, ax, ay⟩ := bS hm
 refine lS (fun aq => fun o => fun y e' hp' => ∃ q s g, [(0, pb J), (3, sv q o s), (11, sv aJ u aK), (12, iv ((u.length : Int))), (13, iv ((aq : Int)))] = e' ∧ (J, Cl 78 [sv U C V, sv W D X, sv Y E Z, sv aa F ab, sv ac G ad, sv ae H af, sv ag I ah, sv A3 z c4, sv A8 A c9, .map (some B)]) :: (g ++ (f ++ (d ++ (e ++ (a ++ (c ++ R)))))) = hp' ∧ aI.Le y ∧ OS 83 (OT.fr (RT.key ads)) y.w (sv q o s) o g) ax ⟨none, 0, [], rfl, rfl, lr, OS.nil⟩ ?_ ?_
 rintro aq o y _ _ aU aL ⟨q, s, g, rfl, rfl, h, L⟩ m
 unfold q1g at m
 have hm := m
 refine Cr<|tS (lT rfl rfl (by omega))<|Te<|Cs<|k7 rfl<|Ck<|Xn<|Cs<|Cb<|Cr ?_
 obtain ⟨ar, aM, hm⟩ := bS hm
 obtain ⟨aN, az, aA⟩ := iS aM
 obtain ⟨aV, aW, a0, a1, aX, aB, ak, aC, al, aY, aR⟩ := OS.get (sz := 1) rfl (by decide) (ao.le h) aA
 obtain ⟨rfl, rfl⟩ := aB
 refine tS (sI aN rfl rfl az al aC q5y)<|tS (Q3 rfl Q8 (fun w ho => ak w _ ho (.cons _ (ss g (Kb _ _))) 0 _ rfl))<|aS rfl<|Te<|Cg<|mV rfl<|mV rfl<|tS (sN rfl)<|tS (sF rfl q3f)<|tS (sL 0 rfl q8X rfl rfl)<|mV rfl ?_
 obtain ⟨n, aO, hm⟩ := bS hm
 have aD := Kd aO
 obtain ⟨au, p, aE⟩ := OM.lookF j3E (z0 := none) (aw.le (j.trans (x.trans h))) (key := iv ar) (k := ar) rfl q5Z z8i rfl
 rw [aD] at p
 obtain rfl : au = kv ads n := by have p : [au] = [kv ads n] := p; injection p
 refine tS (q6V (ok := false) rfl rfl (fun w ho => aE _ w ho (.cons _ (ss g (ss f (ss d (ss e (Kb _ _)))))) false))<|tD (V3 (el := 83) [(0, kv ads n)] [kv ads n] rfl (fun _ => by cases n <;> kernel_rfl)) ?_
 rintro _ _ ⟨a2, rfl, rfl⟩
 obtain ⟨_, O, hm⟩ := bS hm
 have O := W9 O
 refine tD (uQ (r := (RT.key ads)) (l := o) [_, _] (f ++ (d ++ (e ++ (a ++ (c ++ R))))) [[kv ads n]] [n] rfl (Nat.succ_pos _) j0V j6W rfl rfl rfl rfl L rfl (fun w ho => Rd.own (i := 0) ho rfl) ⟨rfl, trivial⟩ O) ?_
 rintro _ _ ⟨aF, rfl, av⟩
 obtain ⟨aP, aQ, rfl, _⟩ := av.form
 refine aS rfl<|Tn<|Xm<|Xn<|Cg<|tS (sa rfl rfl (by omega))<|mV rfl<|Tn ?_
 obtain rfl := o1 hm
 exact jS ⟨aP, aQ, aF, rfl, rfl, (h), av⟩
 rintro y _ _ ⟨q, s, g, rfl, rfl, h, L⟩
 have hm := ay
 refine Cr<|tS (lF rfl rfl (by omega))<|Te<|Cs<|w9 rfl<|Ce<|Xe<|Xe<|Xo<|Xn<|Cr<|mV rfl<|aS rfl<|Te<|Ct ?_
 obtain rfl := o1 hm
 exact rO ⟨q, s, g, rfl, rfl, L⟩ (j.trans (x.trans h))
theorem z1j (b : k9) (R : Hp) (cC : (Option Int)) (a4 a5 a6 a7 a8 a9 ba cD aH aI cE) (ads : Int → Nat) (aJ bc bd be bf bg bh bi bj bk bl bm bn bo bp an A6 c7 e bq br c bb d) (ef : FZ RT.str b.w bc bd a4) (eg : FZ j4 b.w be bf a5) (eh : FZ Q0 b.w bg bh a6) (ei : FZ j6 b.w bi bj a7) (ej : FZ Q1 b.w bk bl a8) (ek : FZ Z3 b.w bm bn a9) (el : FZ (RT.list j7) b.w bo bp ba) (h3 : OAr 90 j8 ads b.w cD an) (h8 : OS 80 (OT.fr Q5) b.w (sv A6 aH c7) aH e) (em : OS 94 (OT.fr Q7) b.w (sv bq aI br) aI c) (cG : OM rI (OT.fr (RT.key ads)) false false b.w bb cE d) (bs bt) (hm : G9 cC a4 a5 a6 a7 a8 a9 ba cD aH aI cE = some (bs, bt)):
 v8 Tryz.prog 38 [pb aJ, kv ads cC] b ((aJ, Cl 78 [sv bc a4 bd, sv be a5 bf, sv bg a6 bh, sv bi a7 bj, sv bk a8 bl, sv bm a9 bn, sv bo ba bp, sv A6 aH c7, sv bq aI br, .map (some bb)]) :: (an ++ (e ++ (c ++ (d ++ R))))) (fun v b' hp' => ∃ aR aT, .tuple #[] = v ∧ (aJ, Cl 78 [sv bc a4 bd, sv be a5 bf, sv bg a6 bh, sv bi a7 bj, sv bk a8 bl, sv bm a9 bn, sv bo ba bp, sv A6 aH c7, sv bq aI br, .map (some bb)]) :: (aR ++ (e ++ (c ++ (aT ++ R)))) = hp' ∧ OAr 90 j8 ads b'.w bs aR ∧ OM rI (OT.fr (RT.key ads)) false false b'.w bb bt aT) := by
 refine fE 82 Tryz.func38 rfl Tryz.ntmps38 rfl ?_
 unfold G9 at hm
 refine Cs<|Cr<|mV rfl ?_
 obtain ⟨ag, bu, hm⟩ := bS hm
 obtain ⟨ah, cc, hm⟩ := bS hm
 refine Tr 1 rfl (v' := .pointer (some ⟨(ads ag), 0, none⟩)) (by rw [bu]; rfl)<|Tr 6 rfl (v' := .pointer (some ⟨(ads ag), 0, none⟩)) (by rw [bu]; rfl) ?_
 obtain ⟨cP, cQ, U, aU, bM, hf1217⟩ := OAr.take h3 cc
 obtain ⟨bw, bx, dh, di, dj, dk, V, dl, dm, W, rfl, bz, dn, dp, dq, rfl⟩ := bM
 refine q2B [_] an U V W (e ++ (c ++ (d ++ R))) rfl aU<|tS (sN rfl)<|tS (sF rfl q2O)<|tS (sF rfl P6)<|tS (sL 0 rfl q3A rfl rfl)<|tS (sE rfl q6f)<|mV rfl<|Te<|Cb<|q6D V W U<|q6D U V W<|q6D W U V<|z4J [_] an U V W (e ++ (c ++ (d ++ R))) rfl aU ?_
 have cR : ah.Route.Steps.length ≤ 9223372036854775807 := (FZ.bd bz)
 refine F9 an e c d<|F9 d an e c<|F9 c d an e<|F9 e c d an ?_
 obtain ⟨dr, bN, ae⟩ := bS hm
 refine lF (fun z => fun aK => fun ai e' hp' => ∃ l, [(0, pb aJ), (1, kv ads (some ag)), (10, sv bw ah.Route.Steps bx), (11, iv ((ah.Route.Steps.length : Int))), (12, iv ((z : Int)))] = e' ∧ (aJ, Cl 78 [sv bc a4 bd, sv be a5 bf, sv bg a6 bh, sv bi a7 bj, sv bk a8 bl, sv bm a9 bn, sv bo ba bp, sv A6 aH c7, sv bq aI br, .map (some bb)]) :: (l ++ (e ++ (c ++ (d ++ R)))) = hp' ∧ b.Le ai ∧ OAr 90 j8 ads ai.w aK l) bN ⟨an, rfl, rfl, lr, h3⟩ ?_ ?_
 rintro z aK ai _ _ cT cA ⟨l, rfl, rfl, n, I⟩ ad aL
 unfold V5 at ad
 have hm := ad
 refine Cr<|tS (lT rfl rfl (by omega))<|Te<|Cs<|k7 rfl<|Ck<|Xn<|Cs<|Cb<|Cr<|mV rfl ?_
 obtain ⟨aM, cd, cU, bO, cV, bP, bA, aV, bB, hm⟩ := bF (sz := 3) hm (bz.le n)
 obtain ⟨_, _, rfl, rfl, ⟨_, _, rfl, rfl, rfl⟩⟩ := bP
 refine tS (sI cd rfl rfl bO bB aV q6f)<|tS (sP (vs := [iv aM.Section, iv aM.In, iv aM.Out]) 3 rfl q6T aV rfl (fun j u hu => bA j u hu))<|tD (uA [iv 0, iv 0, iv 0] q5T rfl) ?_
 rintro _ _ ⟨ds, rfl, rfl⟩
 refine aS rfl<|tD (uN (vs := [_, _, _]) 0 3 rfl rfl rfl q8T rfl (mc rfl (mc rfl (mc rfl mn))) rfl (by simp)) ?_
 rintro _ _ rfl
 refine Te<|Cs<|Cb<|Cr<|mV rfl ?_
 obtain ⟨dt, ce, hm⟩ := bS hm
 obtain ⟨cW, cX, p, ao, bQ, hf1986⟩ := OAr.take I ce
 obtain ⟨du, dv, dw, dx, dy, dz, o, dA, dB, q, rfl, dC, dD, dE, cf, rfl⟩ := bQ
 refine q2B [_, _] l p o q (e ++ (c ++ (d ++ R))) rfl ao<|tS (sN rfl)<|tS (sF rfl q9k)<|tS (sL 0 rfl q5C rfl rfl)<|mV rfl ?_
 obtain ⟨dF, cg, hm⟩ := bS hm
 obtain ⟨ch, bR, bT⟩ := iS cg
 obtain ⟨cY, cZ, dH, dI, c0, bU, bC, bV, bD, c1, cH⟩ := OS.get (sz := 1) rfl (by decide) cf bT
 obtain ⟨rfl, rfl⟩ := bU
 refine tS (sI ch rfl rfl bR bD bV z0D)<|tS (Q3 rfl q6p (fun w ho => bC w _ ho (.cons _ (.cons _ (.cons _ (ss o (Kb _ _))))) 0 _ rfl))<|aS rfl<|Te<|cB hm rfl (fun hm => ?_) fun hm => ?_
 refine Ce<|Xi rfl<|Xe<|Xo<|Xn<|Cg<|tS (sa rfl rfl (by omega))<|mV rfl<|Tn<|Y9 o q p<|Y9 p o q<|Y9 q p o<|q3I [_, _] l p o q (e ++ (c ++ (d ++ R))) rfl ao ?_
 exact jM hm ⟨l, rfl, rfl, (n), I⟩
 refine z3z o q p<|z3z p o q<|z3z q p o<|z4J [_, _] l p o q (e ++ (c ++ (d ++ R))) rfl ao ?_
 obtain ⟨ci, bW, bX⟩ := bS hm
 refine Cj (fun bE e' hp' => [(0, pb aJ), (1, kv ads (some ag)), (4, iv ((z : Int))), (10, sv bw ah.Route.Steps bx), (11, iv ((ah.Route.Steps.length : Int))), (12, iv ((z : Int))), (25, bv ci)] = e' ∧ (aJ, Cl 78 [sv bc a4 bd, sv be a5 bf, sv bg a6 bh, sv bi a7 bj, sv bk a8 bl, sv bm a9 bn, sv bo ba bp, sv A6 aH c7, sv bq aI br, .map (some bb)]) :: (l ++ (e ++ (c ++ (d ++ R)))) = hp' ∧ ai.Le bE) ?_ ?_
 have hm := bW
 obtain ⟨cj, ck, hm⟩ := bS hm
 obtain ⟨c2, c3, f, X, bY, hf2161⟩ := OAr.take I ck
 obtain ⟨dJ, dK, dL, dM, dN, dO, g, dP, dQ, i, rfl, dR, dS, aj, dT, rfl⟩ := bY
 refine z1g [_, _] l f g i (e ++ (c ++ (d ++ R))) rfl X ?_
 obtain ⟨cl, aq, hm⟩ := bS hm
 rcases Kg cl with A | A
 rw [if_pos A] at hm
 obtain ⟨m, aN, hm⟩ := bS hm
 obtain ⟨ar, ak, hm⟩ := bS hm
 rcases Kg ar with O | O
 rw [if_pos O] at hm
 refine Di mixed (.refl _)<|E0 0 rfl (sM rfl)<|E0 1 rfl (sN rfl)<|E0 2 rfl (sF rfl q3d)<|Es 3 rfl (sL 0 rfl q5C rfl rfl)<|E0 4 rfl (sM rfl) ?_
 obtain ⟨T, B, C⟩ := iS aq
 obtain ⟨au, av, aO, aP, aw, D, s, E, t, ax, al⟩ := OS.get (sz := 1) rfl (by decide) aj C
 obtain ⟨rfl, rfl⟩ := D
 refine E0 5 rfl (sI T rfl rfl B t E z0D)<|Es 6 rfl (stB (Q3 rfl q6p (fun w ho => s w _ ho (.cons _ (.cons _ (.cons _ (Kb _ _)))) 0 _ rfl)) A)<|E0 7 rfl (Y7 rfl)<|E0 8 rfl (sM rfl)<|Yz 9 34 rfl (sM rfl)<|Yz 10 34 rfl (sN rfl)<|Yz 11 34 rfl (sF rfl q0o)<|Ey 12 34 rfl (sL 2 rfl q4V rfl rfl)<|Yz 13 34 rfl (sF rfl K5)<|Ey 14 34 rfl (sL 1 rfl Q8 rfl rfl) ?_
 obtain ⟨am, Y, Z⟩ := iS aN
 obtain ⟨aW, aX, bG, bH, aY, aa, J, x, K, aZ, aG⟩ := OS.get (sz := 5) rfl (by decide) (h8.le n) Z
 obtain ⟨⟨_, _, rfl, rfl, ⟨_, _, rfl, rfl, ⟨_, _, rfl, rfl, ⟨_, _, rfl, rfl, rfl⟩⟩⟩⟩, rfl⟩ := aa
 refine Yz 15 34 rfl (sI am rfl rfl Y K x q7f)<|Ey 16 34 rfl (J6 (vs := [iv m.axles, bv m.disturbed, iv m.position, iv m.moving, bv m.failed]) 5 rfl z1Z x rfl (fun w ho j u hu => J w _ ho (.cons _ (.cons _ (.cons _ (ss g (ss i (ss f (Kb _ _))))))) j u hu))<|Eo<|Da [17] (by kernel_rfl) rfl<|q3j lr rfl rfl 34 rfl rfl rfl (uW _ z1e rfl (fun w ho => q0p _ [] m ar ak) (fun _ _ _ h => h.2.symm)) ?_ ?_
 rintro _ _ ⟨⟨_, rfl, _⟩, rfl⟩
 refine iR<|q3S 43 rfl (v' := .bool true) (by rw [O])<|Ei lr (.refl _)<|E0 18 rfl (pF rfl rfl)<|E0 19 rfl (sM rfl)<|eN 20 rfl<|eN 21 rfl<|eN 22 rfl<|eN 23 rfl<|eN 24 rfl<|eN 25 rfl<|eN 26 rfl<|eN 27 rfl<|eN 28 rfl<|eN 29 rfl<|eN 30 rfl<|eN 31 rfl<|eN 32 rfl<|eN 33 rfl<|eN 34 rfl<|eN 35 rfl<|eN 36 rfl<|eN 37 rfl<|eN 38 rfl<|eN 39 rfl<|E0 40 rfl (pT rfl rfl)<|E0 41 rfl (sA rfl)<|Eo<|Dd (by kernel_rfl)<|Y9 g i f ?_
 refine Y9 f g i<|Y9 i f g<|q3I [_, _] l f g i (e ++ (c ++ (d ++ R))) rfl X ?_
 obtain rfl := o1 hm
 exact jJ ⟨rfl, rfl, lr⟩
 exact Rn
 rw [if_neg (fun hh => Bool.noConfusion (hh.symm.trans O))] at hm
 obtain ⟨_, ac, hm⟩ := bS hm
 by_cases af : ((z : Int) + 1) < (cj.Route.Steps.length : Int)
 rw [if_pos af] at hm
 obtain ⟨_, aQ, hm⟩ := bS hm
 obtain ⟨dU, cm, hm⟩ := bS hm
 refine Di mixed (.refl _)<|E0 0 rfl (sM rfl)<|E0 1 rfl (sN rfl)<|E0 2 rfl (sF rfl q3d)<|Es 3 rfl (sL 0 rfl q5C rfl rfl)<|E0 4 rfl (sM rfl) ?_
 obtain ⟨T, B, C⟩ := iS aq
 obtain ⟨au, av, aO, aP, aw, D, s, E, t, ax, al⟩ := OS.get (sz := 1) rfl (by decide) aj C
 obtain ⟨rfl, rfl⟩ := D
 refine E0 5 rfl (sI T rfl rfl B t E z0D)<|Es 6 rfl (stB (Q3 rfl q6p (fun w ho => s w _ ho (.cons _ (.cons _ (.cons _ (Kb _ _)))) 0 _ rfl)) A)<|E0 7 rfl (Y7 rfl)<|E0 8 rfl (sM rfl)<|Yz 9 34 rfl (sM rfl)<|Yz 10 34 rfl (sN rfl)<|Yz 11 34 rfl (sF rfl q0o)<|Ey 12 34 rfl (sL 2 rfl q4V rfl rfl)<|Yz 13 34 rfl (sF rfl K5)<|Ey 14 34 rfl (sL 1 rfl Q8 rfl rfl) ?_
 obtain ⟨am, Y, Z⟩ := iS aN
 obtain ⟨aW, aX, bG, bH, aY, aa, J, x, K, aZ, aG⟩ := OS.get (sz := 5) rfl (by decide) (h8.le n) Z
 obtain ⟨⟨_, _, rfl, rfl, ⟨_, _, rfl, rfl, ⟨_, _, rfl, rfl, ⟨_, _, rfl, rfl, rfl⟩⟩⟩⟩, rfl⟩ := aa
 refine Yz 15 34 rfl (sI am rfl rfl Y K x q7f)<|Ey 16 34 rfl (J6 (vs := [iv m.axles, bv m.disturbed, iv m.position, iv m.moving, bv m.failed]) 5 rfl z1Z x rfl (fun w ho j u hu => J w _ ho (.cons _ (.cons _ (.cons _ (ss g (ss i (ss f (Kb _ _))))))) j u hu))<|Eo<|Da [17] (by kernel_rfl) rfl<|q3j lr rfl rfl 34 rfl rfl rfl (uW _ z1e rfl (fun w ho => q0p _ [] m ar ak) (fun _ _ _ h => h.2.symm)) ?_ ?_
 rintro _ _ ⟨⟨_, rfl, _⟩, rfl⟩
 refine iR<|q3S 43 rfl (v' := .bool false) (by rw [O])<|Ei lr (.refl _)<|E0 18 rfl (pF rfl rfl)<|E0 19 rfl (sM rfl)<|Yz 20 45 rfl (sM rfl) ?_
 have ac := (kS ac).2
 refine Yz 21 45 rfl (sa rfl rfl ac)<|Yz 22 45 rfl (sM rfl)<|Yz 23 45 rfl (sN rfl)<|Yz 24 45 rfl (sF rfl q2O)<|Yz 25 45 rfl (sF rfl P6)<|Ey 26 45 rfl (sL 0 rfl q3A rfl rfl)<|Yz 27 45 rfl (sE rfl q6f)<|Yz 28 45 rfl (lT rfl rfl af)<|Yz 29 45 rfl (sM rfl)<|Yz 30 55 rfl (sM rfl)<|Yz 31 55 rfl (sN rfl)<|Yz 32 55 rfl (sF rfl q3d)<|Ey 33 55 rfl (sL 0 rfl q5C rfl rfl)<|Yz 34 55 rfl (sM rfl) ?_
 have aQ := (kS aQ).2
 refine Yz 35 55 rfl (sa rfl rfl aQ) ?_
 obtain ⟨cn, bZ, b0⟩ := iS cm
 obtain ⟨c4, c5, dV, dW, c6, b1, bI, b2, bJ, c8, cJ⟩ := OS.get (sz := 1) rfl (by decide) aj b0
 obtain ⟨rfl, rfl⟩ := b1
 refine Yz 36 55 rfl (sI cn rfl rfl bZ bJ b2 z0D)<|Ey 37 55 rfl (Q3 rfl q6p (fun w ho => bI w _ ho (.cons _ (.cons _ (.cons _ (Kb _ _)))) 0 _ rfl))<|Yz 38 55 rfl (sn2 rfl)<|Yz 39 45 rfl (pT rfl rfl)<|E0 40 rfl (pF rfl rfl)<|E0 41 rfl (sA rfl)<|Eo<|Dd (by kernel_rfl)<|Y9 g i f<|Y9 f g i<|Y9 i f g<|q3I [_, _] l f g i (e ++ (c ++ (d ++ R))) rfl X ?_
 obtain rfl := o1 hm
 exact jJ ⟨rfl, rfl, lr⟩
 exact Rn
 rw [if_neg af] at hm
 refine Di mixed (.refl _)<|E0 0 rfl (sM rfl)<|E0 1 rfl (sN rfl)<|E0 2 rfl (sF rfl q3d)<|Es 3 rfl (sL 0 rfl q5C rfl rfl)<|E0 4 rfl (sM rfl) ?_
 obtain ⟨T, B, C⟩ := iS aq
 obtain ⟨au, av, aO, aP, aw, D, s, E, t, ax, al⟩ := OS.get (sz := 1) rfl (by decide) aj C
 obtain ⟨rfl, rfl⟩ := D
 refine E0 5 rfl (sI T rfl rfl B t E z0D)<|Es 6 rfl (stB (Q3 rfl q6p (fun w ho => s w _ ho (.cons _ (.cons _ (.cons _ (Kb _ _)))) 0 _ rfl)) A)<|E0 7 rfl (Y7 rfl)<|E0 8 rfl (sM rfl)<|Yz 9 34 rfl (sM rfl)<|Yz 10 34 rfl (sN rfl)<|Yz 11 34 rfl (sF rfl q0o)<|Ey 12 34 rfl (sL 2 rfl q4V rfl rfl)<|Yz 13 34 rfl (sF rfl K5)<|Ey 14 34 rfl (sL 1 rfl Q8 rfl rfl) ?_
 obtain ⟨am, Y, Z⟩ := iS aN
 obtain ⟨aW, aX, bG, bH, aY, aa, J, x, K, aZ, aG⟩ := OS.get (sz := 5) rfl (by decide) (h8.le n) Z
 obtain ⟨⟨_, _, rfl, rfl, ⟨_, _, rfl, rfl, ⟨_, _, rfl, rfl, ⟨_, _, rfl, rfl, rfl⟩⟩⟩⟩, rfl⟩ := aa
 refine Yz 15 34 rfl (sI am rfl rfl Y K x q7f)<|Ey 16 34 rfl (J6 (vs := [iv m.axles, bv m.disturbed, iv m.position, iv m.moving, bv m.failed]) 5 rfl z1Z x rfl (fun w ho j u hu => J w _ ho (.cons _ (.cons _ (.cons _ (ss g (ss i (ss f (Kb _ _))))))) j u hu))<|Eo<|Da [17] (by kernel_rfl) rfl<|q3j lr rfl rfl 34 rfl rfl rfl (uW _ z1e rfl (fun w ho => q0p _ [] m ar ak) (fun _ _ _ h => h.2.symm)) ?_ ?_
 rintro _ _ ⟨⟨_, rfl, _⟩, rfl⟩
 refine iR<|q3S 43 rfl (v' := .bool false) (by rw [O])<|Ei lr (.refl _)<|E0 18 rfl (pF rfl rfl)<|E0 19 rfl (sM rfl)<|Yz 20 45 rfl (sM rfl) ?_
 have ac := (kS ac).2
 refine Yz 21 45 rfl (sa rfl rfl ac)<|Yz 22 45 rfl (sM rfl)<|Yz 23 45 rfl (sN rfl)<|Yz 24 45 rfl (sF rfl q2O)<|Yz 25 45 rfl (sF rfl P6)<|Ey 26 45 rfl (sL 0 rfl q3A rfl rfl)<|Yz 27 45 rfl (sE rfl q6f)<|Yz 28 45 rfl (lF rfl rfl af)<|Yz 29 45 rfl (sM rfl)<|eN 30 rfl<|eN 31 rfl<|eN 32 rfl<|eN 33 rfl<|eN 34 rfl<|eN 35 rfl<|eN 36 rfl<|eN 37 rfl<|eN 38 rfl<|Yz 39 45 rfl (pF rfl rfl)<|E0 40 rfl (pF rfl rfl) ?_
 refine E0 41 rfl (sA rfl)<|Eo<|Dd (by kernel_rfl)<|Y9 g i f<|Y9 f g i<|Y9 i f g<|q3I [_, _] l f g i (e ++ (c ++ (d ++ R))) rfl X ?_
 obtain rfl := o1 hm
 exact jJ ⟨rfl, rfl, lr⟩
 exact Rn
 rw [if_neg (fun hh => Bool.noConfusion (hh.symm.trans A))] at hm
 refine Di mixed (.refl _)<|E0 0 rfl (sM rfl)<|E0 1 rfl (sN rfl)<|E0 2 rfl (sF rfl q3d)<|Es 3 rfl (sL 0 rfl q5C rfl rfl)<|E0 4 rfl (sM rfl) ?_
 obtain ⟨T, B, C⟩ := iS aq
 obtain ⟨au, av, aO, aP, aw, D, s, E, t, ax, al⟩ := OS.get (sz := 1) rfl (by decide) aj C
 obtain ⟨rfl, rfl⟩ := D
 refine E0 5 rfl (sI T rfl rfl B t E z0D)<|Es 6 rfl (stB (Q3 rfl q6p (fun w ho => s w _ ho (.cons _ (.cons _ (.cons _ (Kb _ _)))) 0 _ rfl)) A)<|E0 7 rfl (q0r rfl)<|E0 8 rfl (sM rfl)<|eN 9 rfl<|eN 10 rfl<|eN 11 rfl<|eN 12 rfl<|eN 13 rfl<|eN 14 rfl<|eN 15 rfl<|eN 16 rfl<|eN 17 rfl<|E0 18 rfl (pT rfl rfl)<|E0 19 rfl (sM rfl)<|eN 20 rfl<|eN 21 rfl<|eN 22 rfl<|eN 23 rfl<|eN 24 rfl ?_
 refine eN 25 rfl<|eN 26 rfl<|eN 27 rfl<|eN 28 rfl<|eN 29 rfl<|eN 30 rfl<|eN 31 rfl<|eN 32 rfl<|eN 33 rfl<|eN 34 rfl<|eN 35 rfl<|eN 36 rfl<|eN 37 rfl<|eN 38 rfl<|eN 39 rfl<|E0 40 rfl (pT rfl rfl)<|E0 41 rfl (sA rfl)<|Eo<|Dd (by kernel_rfl)<|Y9 g i f<|Y9 f g i<|Y9 i f g<|q3I [_, _] l f g i (e ++ (c ++ (d ++ R))) rfl X ?_
 obtain rfl := o1 hm
 exact jJ ⟨rfl, rfl, lr⟩
 rintro bE _ _ ⟨rfl, rfl, L⟩
 have hm := bX
 refine cB hm rfl (fun hm => ?_) fun hm => ?_
 refine Ct<|Xb<|Xr<|Xb<|Xr<|Xr<|Xb<|Xr ?_
 have b3 := aL _ (Kd hm).symm
 rw [b3] at ae
 have hm := V8 ae
 obtain ⟨rfl, rfl⟩ := V9 hm
 have b4 := I.le L
 have b5 := (cG.le (n.trans L))
 exact rZ ⟨l, d, rfl, rfl, b4, b5⟩ (n.trans L)
 refine Ck<|Xm<|Xn<|Cg<|mV rfl ?_
 obtain ⟨a, co, hm⟩ := bS hm
 obtain ⟨c9, da, y, b6, b7, hf2297⟩ := OAr.take (I.le L) co
 obtain ⟨ay, az, aA, aB, aC, aD, r, aE, aF, a0, rfl, cp, cq, cr, bK, rfl⟩ := b7
 refine q2B [_] l y r a0 (e ++ (c ++ (d ++ R))) rfl b6<|tS (sN rfl)<|tS (sF rfl q9k)<|tS (sL 0 rfl q5C rfl rfl)<|mV rfl ?_
 obtain ⟨dX, ct, hm⟩ := bS hm
 obtain ⟨cu, a1, a2⟩ := iS ct
 obtain ⟨db, dc, dY, dZ, dd, b8, cK, b9, bL, de, cO⟩ := OS.get (sz := 1) rfl (by decide) bK a2
 obtain ⟨rfl, rfl⟩ := b8
 refine tS (sI cu rfl rfl a1 bL b9 z0D)<|z1E r a0<|tD (uP a1 (sz := 1) (a' := true) rfl [_, _] (r ++ (y ++ (e ++ (c ++ (d ++ R))))) 0 1 [bv true] rfl bK a2 rfl rfl rfl z6o rfl (mc rfl mn) (fun cs hsj hh => by obtain ⟨rfl, rfl⟩ := hh; exact ⟨by first | decide | exact Nat.le_refl _, rfl, rfl⟩)) ?_
 rintro _ _ ⟨S, rfl, cv⟩
 refine K9 0 rfl (o' := Cl 90 [iv a.Route.From, iv a.Route.To, sv ay a.Route.Steps az, sv aA a.needs aB, sv aC a.seen aD, .slice aE (put a.gone (z : Int) true).length aF, bv a.laps, bv a.sight, iv a.leave, iv a.clock, iv a.number]) (by simp only [sv, Q4])<|Tn<|Xm<|Xn<|Cg<|tS (sa rfl rfl (by omega))<|mV rfl<|Tn<|G6 S r y<|j4r y S<|G6 S y r ?_
 have cw := hf2297 _ [iv a.Route.From, iv a.Route.To, sv ay a.Route.Steps az, sv aA a.needs aB, sv aC a.seen aD, .slice aE (put a.gone (z : Int) true).length aF, bv a.laps, bv a.sight, iv a.leave, iv a.clock, iv a.number] (⟨a.Route, a.needs, a.seen, put a.gone (z : Int) true, a.laps, a.sight, a.leave, a.clock, a.number⟩ : z6) _ lr ⟨ay, az, aA, aB, aC, aD, r, aE, aF, S, rfl, cp, cq, cr, cv, rfl⟩
 refine z1B [_] y r S (e ++ (c ++ (d ++ R))) rfl ?_
 exact jM hm ⟨(y ++ (((ads ag), Cl 90 [iv a.Route.From, iv a.Route.To, sv ay a.Route.Steps az, sv aA a.needs aB, sv aC a.seen aD, .slice aE (put a.gone (z : Int) true).length aF, bv a.laps, bv a.sight, iv a.leave, iv a.clock, iv a.number]) :: (r ++ S))), rfl, rfl, ((n.trans L)), cw⟩
 rintro aK ai _ _ ⟨l, rfl, rfl, n, I⟩ ca
 rw [ca] at ae
 have hm := G0 ae
 refine Cr<|tS (lF rfl rfl (by omega))<|Te<|Cs<|w9 rfl<|Ce<|Xe<|Xe<|Xo<|Xn ?_
 obtain ⟨cx, cy, hm⟩ := bS hm
 obtain ⟨df, dg, F, a3, cb, hf2339⟩ := OAr.take I cy
 obtain ⟨d0, d1, d5, d6, d7, d8, G, d9, ea, H, rfl, eb, ec, ed, ee, rfl⟩ := cb
 refine z1g [_] l F G H (e ++ (c ++ (d ++ R))) rfl a3<|Di mixed (.refl _)<|E0 0 rfl (sM rfl)<|E0 1 rfl (sN rfl)<|E0 2 rfl (sF rfl q3f)<|Es 3 rfl (sL 1 rfl q8X rfl rfl)<|E0 4 rfl (sM rfl)<|E0 5 rfl (sN rfl)<|E0 6 rfl (sF rfl z5M)<|Es 7 rfl (sL 0 rfl Q8 rfl rfl)<|Eo<|z1N G H F e c d<|Da [8] (by kernel_rfl) rfl<|Rd2 lr rfl rfl (j2d (k := cx.number) j3E [_, _] (G ++ (H ++ (F ++ (e ++ (c ++ R))))) rfl (cG.le n) q5Z rfl rfl rfl) ?_ ?_
 rintro _ _ ⟨ab, rfl, rfl, cz⟩
 refine ⟨.inl (by kernel_rfl), ?_⟩
 refine Dd (by kernel_rfl)<|z7o ab G H F<|z7o F ab G H<|z7o H F ab G<|q3I [_] l F G H (ab ++ (e ++ (c ++ R))) rfl a3 ?_
 obtain ⟨rfl, rfl⟩ := V9 hm
 exact eZ ⟨l, ab, rfl, rfl, I, cz⟩ n
 exact Rn
theorem q4Z (b : k9) (R : Hp) (X Y Z aa ab ac ad br aK dU dV) (ads : Int → Nat) (O ag ah ai aj ak al am an ao aq ar au av aw A3 c4 bK A8 c9 aD W A B) (cb : FZ RT.str b.w ag ah X) (cc : FZ j4 b.w ai aj Y) (cd : FZ Q0 b.w ak al Z) (ce : FZ j6 b.w am an aa) (cf : FZ Q1 b.w ao aq ab) (cg : FZ Z3 b.w ar au ac) (ch : FZ (RT.list j7) b.w av aw ad) (h5 : OS 80 (OT.fr Q5) b.w (sv A3 br c4) br bK) (eL : OS 94 (OT.fr Q7) b.w (sv A8 aK c9) aK aD) (eM : OM rI (OT.fr (RT.key ads)) false false b.w W dU A) (eO : OAr 90 j8 ads b.w dV B) (bc bd ci cj) (hm : Y5 X Y Z aa ab ac ad br aK dU dV = some (bc, bd, ci, cj)):
 v8 Tryz.prog 10 [pb O] b ((O, Cl 78 [sv ag X ah, sv ai Y aj, sv ak Z al, sv am aa an, sv ao ab aq, sv ar ac au, sv av ad aw, sv A3 br c4, sv A8 aK c9, .map (some W)]) :: (bK ++ (aD ++ (A ++ (B ++ R))))) (fun v b' hp' => ∃ bX bY bZ b0, .tuple #[] = v ∧ (O, Cl 78 [sv ag X ah, sv ai Y aj, sv ak Z al, sv am aa an, sv ao ab aq, sv ar ac au, sv av ad aw, sv A3 bc c4, sv A8 bd c9, .map (some W)]) :: (bX ++ (bY ++ (bZ ++ (b0 ++ R)))) = hp' ∧ OS 80 (OT.fr Q5) b'.w (sv A3 bc c4) bc bX ∧ bc.length = br.length ∧ OS 94 (OT.fr Q7) b'.w (sv A8 bd c9) bd bY ∧ bd.length = aK.length ∧ OM rI (OT.fr (RT.key ads)) false false b'.w W ci bZ ∧ OAr 90 j8 ads b'.w cj b0) := by
 refine fE 185 Tryz.func10 rfl Tryz.ntmps10 rfl ?_
 unfold Y5 at hm
 refine Cs<|Cr<|mV rfl<|tS (sN rfl)<|tS (sF rfl q0o)<|tS (sL 0 rfl q4V rfl rfl)<|tS (sE rfl q7f)<|mV rfl<|Te<|Cb ?_
 have eX : br.length ≤ 9223372036854775807 := (OS.len h5)
 refine F9 bK aD A B<|F9 B bK aD A<|F9 A B bK aD<|F9 aD A B bK ?_
 obtain ⟨C, c8, da⟩ := bS hm
 refine lS (fun aL => fun C => fun aM e' hp' => ∃ a, [(0, pb O), (16, iv ((br.length : Int))), (17, iv ((aL : Int)))] = e' ∧ (O, Cl 78 [sv ag X ah, sv ai Y aj, sv ak Z al, sv am aa an, sv ao ab aq, sv ar ac au, sv av ad aw, sv A3 C c4, sv A8 aK c9, .map (some W)]) :: (a ++ (aD ++ (A ++ (B ++ R)))) = hp' ∧ b.Le aM ∧ OS 80 (OT.fr Q5) aM.w (sv A3 C c4) C a ∧ C.length = br.length) c8 ⟨bK, rfl, rfl, lr, h5, rfl⟩ ?_ ?_
 rintro aL C aM _ _ eY eG ⟨a, rfl, rfl, f, ae, az⟩ a7
 unfold W5 at a7
 have hm := a7
 refine Cr<|tS (lT rfl rfl (by omega))<|Te<|Cs<|k7 rfl<|Ck<|Xn<|Cs<|Cb<|Cr<|mV rfl<|aS rfl<|Te<|Cr<|mV rfl<|tS (sN rfl)<|tS (sF rfl q0o)<|tS (sL 0 rfl q4V rfl rfl)<|mV rfl ?_
 obtain ⟨F, dW, hm⟩ := bS hm
 obtain ⟨bL, b1, b2⟩ := iS dW
 obtain ⟨e0, e1, fC, fD, e2, db, be, S, ck, e3, eP⟩ := OS.get (sz := 5) rfl (by decide) ae b2
 obtain ⟨⟨_, _, rfl, rfl, ⟨_, _, rfl, rfl, ⟨_, _, rfl, rfl, ⟨_, _, rfl, rfl, rfl⟩⟩⟩⟩, rfl⟩ := db
 refine tS (sI bL rfl rfl b1 ck S q7f)<|aS rfl<|Te<|Cs ?_
 obtain ⟨dX, dc, dd⟩ := bS hm
 refine Cj (fun cl e' hp' => [(0, pb O), (3, .pointer (Option.map (fun (x : Addr) => x.add (bL * 5)) A3)), (16, iv ((br.length : Int))), (17, iv ((aL : Int))), (36, bv dX)] = e' ∧ (O, Cl 78 [sv ag X ah, sv ai Y aj, sv ak Z al, sv am aa an, sv ao ab aq, sv ar ac au, sv av ad aw, sv A3 C c4, sv A8 aK c9, .map (some W)]) :: (a ++ (aD ++ (A ++ (B ++ R)))) = hp' ∧ aM.Le cl) ?_ ?_
 have hm := dc
 refine Cg<|mV rfl<|tS (Z8 rfl S)<|tS (sQ rfl S q4X)<|tS (Q3 rfl Q8 (fun w ho => be w _ ho (.cons _ (Kb _ _)) 3 _ rfl))<|Tb rfl (q1 rfl rfl) (fun bs => ?_) (fun bs => ?_)
 rw [if_pos bs] at hm
 refine mV rfl<|nO<|nO<|nO<|nO<|tS (pT rfl rfl)<|Tn ?_
 obtain rfl := o1 hm
 exact jJ ⟨rfl, rfl, lr⟩
 rw [if_neg bs] at hm
 refine mV rfl<|yS<|mV rfl<|yS<|tS (Z8 rfl S)<|yS<|tS (sQ rfl S z5O)<|yS<|tS (Q3 rfl q6p (fun w ho => be w _ ho (.cons _ (Kb _ _)) 4 _ rfl))<|tS (pF rfl rfl)<|Tn ?_
 obtain rfl := o1 hm
 exact jJ ⟨rfl, rfl, lr⟩
 rintro cl _ _ ⟨rfl, rfl, ax⟩
 have hm := dd
 refine cB hm rfl (fun hm => ?_) fun hm => ?_
 refine Ce<|Xe<|Xo<|Xn<|Cg<|tS (sa rfl rfl (by omega))<|mV rfl<|Tn ?_
 obtain rfl := o1 hm
 exact jS ⟨a, rfl, rfl, ((f.trans ax)), (ae.le ax), az⟩
 refine Ck<|Xn<|Cr<|mV rfl<|tS (Z8 rfl S)<|tS (sQ rfl S q4X)<|tS (Q3 rfl Q8 (fun w ho => be w _ (ax.back _ _ ho) (.cons _ (Kb _ _)) 3 _ rfl)) ?_
 obtain ⟨_, bM, hm⟩ := bS hm
 have bM := (kS bM).2
 refine tS (sb rfl rfl bM)<|tS (Z8 rfl S)<|tS (sQ rfl S q4X)<|tD (uP b1 (sz := 5) (a' := (⟨F.axles, F.disturbed, F.position, F.moving - 1, F.failed⟩ : q9)) rfl [_] (aD ++ (A ++ (B ++ R))) 3 1 [iv (F.moving - 1)] rfl (ae.le ax) b2 rfl rfl rfl z3Y rfl (mc rfl mn) (fun cs hsj hh => by obtain ⟨⟨_, _, rfl, rfl, ⟨_, _, rfl, rfl, ⟨_, _, rfl, rfl, ⟨_, _, rfl, rfl, rfl⟩⟩⟩⟩, rfl⟩ := hh; exact ⟨by first | decide | exact Nat.le_refl _, ⟨[iv F.axles], _, rfl, rfl, ⟨[bv F.disturbed], _, rfl, rfl, ⟨[iv F.position], _, rfl, rfl, ⟨[iv (F.moving - 1)], _, rfl, rfl, rfl⟩⟩⟩⟩, rfl⟩)) ?_
 rintro _ _ ⟨de, rfl, bN⟩
 refine K9 0 rfl (o' := Cl 78 [sv ag X ah, sv ai Y aj, sv ak Z al, sv am aa an, sv ao ab aq, sv ar ac au, sv av ad aw, .slice A3 (put C (aL : Int) (⟨F.axles, F.disturbed, F.position, F.moving - 1, F.failed⟩ : q9)).length c4, sv A8 aK c9, .map (some W)]) (by simp only [sv, Q4])<|Te<|Cr ?_
 obtain ⟨J, dY, hm⟩ := bS hm
 obtain ⟨dZ, df, b3⟩ := iS dY
 obtain rfl : bL = dZ := by omega
 obtain ⟨e4, e5, fF, fG, e6, dg, bJ, aC, eQ, e7, eR⟩ := OS.get (sz := 5) rfl (by decide) bN b3
 obtain ⟨⟨_, _, rfl, rfl, ⟨_, _, rfl, rfl, ⟨_, _, rfl, rfl, ⟨_, _, rfl, rfl, rfl⟩⟩⟩⟩, rfl⟩ := dg
 refine mV rfl<|tS (Z8 rfl aC)<|tS (sQ rfl aC q4X)<|tS (Q3 rfl Q8 (fun w ho => bJ w _ ho (.cons _ (Kb _ _)) 3 _ rfl))<|tS (q1 rfl rfl)<|Te<|cI hm rfl (fun hm => ?_) fun hm => ?_
 refine Cg<|mV rfl<|mV rfl<|tS (Z8 rfl aC)<|tS (sQ rfl aC q5J)<|tS (Q3 rfl Q8 (fun w ho => bJ w _ ho (.cons _ (Kb _ _)) 2 _ rfl)) ?_
 obtain ⟨_, bO, hm⟩ := bS hm
 have bO := (kS bO).2
 refine tS (sb rfl rfl bO)<|tS (Z8 rfl aC)<|tS (sQ rfl aC q5J)<|tD (uP df (sz := 5) (a' := (⟨J.axles, J.disturbed, 3 - J.position, J.moving, J.failed⟩ : q9)) rfl [_] (aD ++ (A ++ (B ++ R))) 2 1 [iv (3 - J.position)] rfl bN b3 rfl rfl rfl z3Y rfl (mc rfl mn) (fun cs hsj hh => by obtain ⟨⟨_, _, rfl, rfl, ⟨_, _, rfl, rfl, ⟨_, _, rfl, rfl, ⟨_, _, rfl, rfl, rfl⟩⟩⟩⟩, rfl⟩ := hh; exact ⟨by first | decide | exact Nat.le_refl _, ⟨[iv J.axles], _, rfl, rfl, ⟨[bv J.disturbed], _, rfl, rfl, ⟨[iv (3 - J.position)], _, rfl, rfl, ⟨[iv J.moving], _, rfl, rfl, rfl⟩⟩⟩⟩, rfl⟩)) ?_
 rintro _ _ ⟨dh, rfl, d0⟩
 refine K9 0 rfl (o' := Cl 78 [sv ag X ah, sv ai Y aj, sv ak Z al, sv am aa an, sv ao ab aq, sv ar ac au, sv av ad aw, .slice A3 (put (put C (aL : Int) (⟨F.axles, F.disturbed, F.position, F.moving - 1, F.failed⟩ : q9)) (aL : Int) (⟨J.axles, J.disturbed, 3 - J.position, J.moving, J.failed⟩ : q9)).length c4, sv A8 aK c9, .map (some W)]) (by simp only [sv, Q4])<|Tn<|Xm<|Xn<|Cg<|tS (sa rfl rfl (by omega))<|mV rfl<|Tn ?_
 obtain rfl := o1 hm
 exact jS ⟨dh, rfl, rfl, ((f.trans ax)), d0, ((Q4 _ _ _).trans ((Q4 _ _ _).trans az))⟩
 refine Ck<|Xm<|Xn<|Cg<|tS (sa rfl rfl (by omega))<|mV rfl<|Tn ?_
 obtain rfl := o1 hm
 exact jS ⟨de, rfl, rfl, ((f.trans ax)), bN, ((Q4 _ _ _).trans az)⟩
 rintro aM _ _ ⟨a, rfl, rfl, f, ae, az⟩
 have hm := da
 refine Cr<|tS (lF rfl rfl (by omega))<|Te<|Cs<|w9 rfl<|Ce<|Xe<|Xe<|Xo<|Xn<|Cs<|Cr<|mV rfl<|tS (sN rfl)<|tS (sF rfl z3o)<|tS (sL 0 rfl j1g rfl rfl)<|tS (sE rfl z5n)<|mV rfl<|Te<|Cb ?_
 have e8 : aK.length ≤ 9223372036854775807 := (OS.len eL)
 refine F9 a aD A B<|F9 B a aD A<|F9 A B a aD<|F9 aD A B a ?_
 obtain ⟨G, di, dj⟩ := bS hm
 refine lS (fun bt => fun G => fun bf e' hp' => ∃ c, [(0, pb O), (62, iv ((aK.length : Int))), (63, iv ((bt : Int)))] = e' ∧ (O, Cl 78 [sv ag X ah, sv ai Y aj, sv ak Z al, sv am aa an, sv ao ab aq, sv ar ac au, sv av ad aw, sv A3 C c4, sv A8 G c9, .map (some W)]) :: (a ++ (c ++ (A ++ (B ++ R)))) = hp' ∧ aM.Le bf ∧ OS 94 (OT.fr Q7) bf.w (sv A8 G c9) G c ∧ G.length = aK.length) di ⟨aD, rfl, rfl, lr, (eL.le f), rfl⟩ ?_ ?_
 rintro bt G bf _ _ e9 eH ⟨c, rfl, rfl, e, ay, aF⟩ a8
 unfold W4 at a8
 have hm := a8
 refine Cr<|tS (lT rfl rfl (by omega))<|Te<|Cs<|k7 rfl<|Ck<|Xn<|Cs<|Cb<|Cr<|mV rfl<|aS rfl<|Te<|Cr<|mV rfl<|tS (sN rfl)<|tS (sF rfl z3o)<|tS (sL 0 rfl j1g rfl rfl)<|mV rfl ?_
 obtain ⟨af, d1, hm⟩ := bS hm
 obtain ⟨cm, b4, b5⟩ := iS d1
 obtain ⟨fa, fb, fH, fI, fc, dk, aG, K, cn, fd, eS⟩ := OS.get (sz := 3) rfl (by decide) ay b5
 obtain ⟨⟨_, _, rfl, rfl, ⟨_, _, rfl, rfl, rfl⟩⟩, rfl⟩ := dk
 refine tS (sI cm rfl rfl b4 cn K z5n)<|aS rfl<|Te ?_
 obtain ⟨d5, dl, dm⟩ := bS hm
 refine Cj (fun co e' hp' => [(0, pb O), (5, .pointer (Option.map (fun (x : Addr) => x.add (cm * 3)) A8)), (62, iv ((aK.length : Int))), (63, iv ((bt : Int))), (89, bv d5)] = e' ∧ (O, Cl 78 [sv ag X ah, sv ai Y aj, sv ak Z al, sv am aa an, sv ao ab aq, sv ar ac au, sv av ad aw, sv A3 C c4, sv A8 G c9, .map (some W)]) :: (c ++ (a ++ (A ++ (B ++ R)))) = hp' ∧ bf.Le co) ?_ ?_
 have hm := dl
 refine Cg<|mV rfl<|tS (Z8 rfl K)<|tS (sQ rfl K q9j)<|tS (Q3 rfl q6p (fun w ho => aG w _ ho (.cons _ (ss a (Kb _ _))) 1 _ rfl)) ?_
 rcases Kg af.wanted with aH | aH
 rw [if_pos aH] at hm
 refine Tr 75 rfl (v' := .bool true) (by rw [aH] <;> rfl)<|mV rfl<|yS<|mV rfl<|yS<|tS (Z8 rfl K)<|yS<|tS (sQ rfl K z0Q)<|yS<|tS (Q3 rfl Q8 (fun w ho => aG w _ ho (.cons _ (ss a (Kb _ _))) 0 _ rfl))<|yS<|Tb rfl (q5 rfl rfl) (fun bu => ?_) (fun bu => ?_)
 rw [if_pos bu] at hm
 refine tS (pT rfl rfl)<|mV rfl<|yS<|mV rfl<|yS<|tS (Z8 rfl K)<|yS<|tS (sQ rfl K z9B)<|yS<|tS (Q3 rfl q6p (fun w ho => aG w _ ho (.cons _ (ss a (Kb _ _))) 2 _ rfl))<|yS<|tS (sn2 rfl)<|tS (pT rfl rfl)<|Tn ?_
 obtain rfl := o1 hm
 exact jJ ⟨rfl, rfl, lr⟩
 rw [if_neg bu] at hm
 refine tS (pT rfl rfl)<|mV rfl<|nO<|nO<|nO<|nO<|nO<|tS (pF rfl rfl)<|Tn ?_
 obtain rfl := o1 hm
 exact jJ ⟨rfl, rfl, lr⟩
 rw [if_neg (fun hh => Bool.noConfusion (hh.symm.trans aH))] at hm
 refine Tr 75 rfl (v' := .bool false) (by rw [aH] <;> rfl)<|mV rfl<|nO<|nO<|nO<|nO<|nO<|tS (pF rfl rfl)<|mV rfl<|nO<|nO<|nO<|nO<|nO<|tS (pF rfl rfl)<|Tn ?_
 obtain rfl := o1 hm
 exact jJ ⟨rfl, rfl, lr⟩
 rintro co _ _ ⟨rfl, rfl, aA⟩
 have hm := dm
 refine cB hm rfl (fun hm => ?_) fun hm => ?_
 refine Cg<|mV rfl<|tS (Z8 rfl K)<|tS (sQ rfl K z0Q)<|tS (Q3 rfl Q8 (fun w ho => aG w _ (aA.back _ _ ho) (.cons _ (Kb _ _)) 0 _ rfl)) ?_
 obtain ⟨_, bP, hm⟩ := bS hm
 have bP := (kS bP).2
 refine tS (sb rfl rfl bP)<|tS (Z8 rfl K)<|tS (sQ rfl K z0Q)<|tD (uP b4 (sz := 3) (a' := (⟨af.left - 1, af.wanted, af.failed⟩ : z8)) rfl [_] (a ++ (A ++ (B ++ R))) 0 1 [iv (af.left - 1)] rfl (ay.le aA) b5 rfl rfl rfl z3Y rfl (mc rfl mn) (fun cs hsj hh => by obtain ⟨⟨_, _, rfl, rfl, ⟨_, _, rfl, rfl, rfl⟩⟩, rfl⟩ := hh; exact ⟨by first | decide | exact Nat.le_refl _, ⟨[iv (af.left - 1)], _, rfl, rfl, ⟨[bv af.wanted], _, rfl, rfl, rfl⟩⟩, rfl⟩)) ?_
 rintro _ _ ⟨dn, rfl, d6⟩
 refine K9 0 rfl (o' := Cl 78 [sv ag X ah, sv ai Y aj, sv ak Z al, sv am aa an, sv ao ab aq, sv ar ac au, sv av ad aw, sv A3 C c4, .slice A8 (put G (bt : Int) (⟨af.left - 1, af.wanted, af.failed⟩ : z8)).length c9, .map (some W)]) (by simp only [sv, Q4])<|Tn<|Xm<|Xn<|Cg<|tS (sa rfl rfl (by omega))<|mV rfl<|Tn ?_
 obtain rfl := o1 hm
 exact jS ⟨dn, rfl, rfl, ((e.trans aA)), d6, ((Q4 _ _ _).trans aF)⟩
 refine Ck<|Xm<|Xn<|Cg<|tS (sa rfl rfl (by omega))<|mV rfl<|Tn ?_
 obtain rfl := o1 hm
 exact jS ⟨c, rfl, rfl, ((e.trans aA)), (ay.le aA), aF⟩
 rintro bf _ _ ⟨c, rfl, rfl, e, ay, aF⟩
 have hm := dj
 refine Cr<|tS (lF rfl rfl (by omega))<|Te<|Cs<|w9 rfl<|Ce<|Xe<|Xe<|Xo<|Xn<|Cs<|Cr<|mV rfl ?_
 obtain ⟨bw, cp, hm⟩ := bS hm
 have zz := f.trans e
 refine K6 a c A B<|K6 B a c A<|K6 A B a c<|K6 c A B a<|G7 [_] [] a c A B R rfl<|Tg _ rfl z7c rfl (q4d _ _ X Y Z aa ab ac ad C G dU dV ads O ag ah ai aj ak al am an ao aq ar au av aw A3 c4 a A8 c9 c W A B (cb.le zz) (cc.le zz) (cd.le zz) (ce.le zz) (cf.le zz) (cg.le zz) (ch.le zz) (ae.le e) ay (eM.le zz) (eO.le zz) bw cp) ?_
 rintro _ d7 _ i ⟨d8, d9, o, rfl, rfl, cq⟩
 refine z2O [_] [] o a c A B R rfl<|tS (sE rfl j0V)<|mV rfl<|Te<|Cb ?_
 have fe : bw.length ≤ 9223372036854775807 := (OS.len cq)
 refine X1 o a c A B<|X1 B o a c A<|X1 A B o a c<|X1 c A B o a<|X1 a c A B o ?_
 obtain ⟨⟨bg, bx⟩, dp, dq⟩ := bS hm
 refine lS (fun cr => q0q fun bg bx => fun bh e' hp' => ∃ d s, [(0, pb O), (99, sv d8 bw d9), (100, iv ((bw.length : Int))), (101, iv ((cr : Int)))] = e' ∧ (O, Cl 78 [sv ag X ah, sv ai Y aj, sv ak Z al, sv am aa an, sv ao ab aq, sv ar ac au, sv av ad aw, sv A3 C c4, sv A8 G c9, .map (some W)]) :: (o ++ (a ++ (c ++ (d ++ (s ++ R))))) = hp' ∧ d7.Le bh ∧ OM rI (OT.fr (RT.key ads)) false false bh.w W bg d ∧ OAr 90 j8 ads bh.w bx s) dp ⟨A, B, rfl, rfl, lr, (eM.le (f.trans (e.trans i))), (eO.le (f.trans (e.trans i)))⟩ ?_ ?_
 rintro cr ⟨bg, bx⟩ bh _ _ ff eI ⟨d, s, rfl, rfl, g, aE, bi⟩ a9
 unfold G2 at a9
 have hm := H0 a9
 refine Cr<|tS (lT rfl rfl (by omega))<|Te<|Cs<|k7 rfl<|Ck<|Xn<|Cs<|Cb<|Cr ?_
 obtain ⟨fJ, ea, hm⟩ := bS hm
 obtain ⟨eb, dr, ds⟩ := iS ea
 obtain ⟨fg, fh, fK, fL, fi, dt, ct, du, cu, fj, eU⟩ := OS.get (sz := 1) rfl (by decide) (cq.le g) ds
 obtain ⟨rfl, rfl⟩ := dt
 refine tS (sI eb rfl rfl dr cu du j0V)<|tS (Q3 rfl j1f (fun w ho => ct w _ ho (.cons _ (Kb _ _)) 0 _ rfl))<|aS rfl<|Te<|Cs<|Cr<|mV rfl ?_
 obtain ⟨bj, bQ, hm⟩ := bS hm
 obtain ⟨h, ec, hm⟩ := bS hm
 refine Tr 7 rfl (v' := .pointer (some ⟨(ads bj), 0, none⟩)) (by rw [bQ]; rfl)<|Tr 104 rfl (v' := .pointer (some ⟨(ads bj), 0, none⟩)) (by rw [bQ]; rfl)<|Tr 105 rfl (v' := .pointer (some ⟨(ads bj), 0, none⟩)) (by rw [bQ]; rfl) ?_
 obtain ⟨fk, fl, D, b6, dv, hf1562⟩ := OAr.take bi ec
 obtain ⟨aN, aO, aP, aQ, aR, aT, t, aU, aV, u, rfl, cv, cw, cx, cy, rfl⟩ := dv
 refine P4 o a c d s<|q2B [_] s D t u (o ++ (a ++ (c ++ (d ++ R)))) rfl b6<|tS (sN rfl)<|tS (sF rfl q7y)<|tS (sL 0 rfl Q8 rfl rfl)<|tS (q1 rfl rfl)<|Te<|cI hm rfl (fun hm => ?_) fun hm => ?_
 refine Ce<|Xe<|Xo<|Xn<|Cg<|tS (sa rfl rfl (by omega))<|mV rfl<|Tn<|G6 t u D<|G6 D t u<|G6 u D t<|q3I [_] s D t u (o ++ (a ++ (c ++ (d ++ R)))) rfl b6 ?_
 obtain rfl := o1 hm
 exact jS ⟨d, s, rfl, rfl, (g), aE, bi⟩
 refine Ck<|Xn<|Cr<|mV rfl<|tS (sN rfl)<|tS (sF rfl q7y)<|tS (sL 0 rfl Q8 rfl rfl) ?_
 obtain ⟨_, bR, hm⟩ := bS hm
 have bR := (kS bR).2
 refine tS (sb rfl rfl bR)<|tS (sN rfl)<|tS (sF rfl q7y)<|tD (uS 0 rfl rfl z3Y rfl rfl (by simp)) ?_
 rintro _ _ rfl
 refine Te<|Cr<|mV rfl<|tS (sN rfl)<|tS (sF rfl q7y)<|tS (sL 0 rfl Q8 rfl rfl)<|tS (q1 rfl rfl)<|Te<|cI hm rfl (fun hm => ?_) fun hm => ?_
 refine Di mixed (.refl _)<|E0 0 rfl (sM rfl)<|E0 1 rfl (sN rfl)<|E0 2 rfl (sF rfl q3f)<|Es 3 rfl (sL 1 rfl q8X rfl rfl)<|E0 4 rfl (sM rfl)<|E0 5 rfl (sN rfl)<|E0 6 rfl (sF rfl z5M)<|Es 7 rfl (sL 0 rfl Q8 rfl rfl)<|Eo<|j7b t u D o a c d<|Da [8] (by kernel_rfl) rfl<|Rd2 lr rfl rfl (j2d (k := h.number) j3E [_, _] (t ++ (u ++ (D ++ (o ++ (a ++ (c ++ R)))))) rfl aE q5Z rfl rfl rfl) ?_ ?_
 rintro _ _ ⟨aI, rfl, rfl, ed⟩
 refine ⟨.inl (by kernel_rfl), ?_⟩
 refine Dd (by kernel_rfl)<|Xm<|Xn<|Cg<|tS (sa rfl rfl (by omega))<|mV rfl<|Tn<|z7o aI t u D<|z7o D aI t u<|z7o u D aI t ?_
 have ee := hf1562 _ [iv h.Route.From, iv h.Route.To, sv aN h.Route.Steps aO, sv aP h.needs aQ, sv aR h.seen aT, sv aU h.gone aV, bv h.laps, bv h.sight, iv (h.leave - 1), iv h.clock, iv h.number] (⟨h.Route, h.needs, h.seen, h.gone, h.laps, h.sight, h.leave - 1, h.clock, h.number⟩ : z6) _ lr ⟨aN, aO, aP, aQ, aR, aT, t, aU, aV, u, rfl, cv, cw, cx, cy, rfl⟩
 refine z1B [_] D t u (aI ++ (o ++ (a ++ (c ++ R)))) rfl ?_
 obtain rfl := o1 hm
 exact jS ⟨aI, (D ++ (((ads bj), Cl 90 [iv h.Route.From, iv h.Route.To, sv aN h.Route.Steps aO, sv aP h.needs aQ, sv aR h.seen aT, sv aU h.gone aV, bv h.laps, bv h.sight, iv (h.leave - 1), iv h.clock, iv h.number]) :: (t ++ u))), rfl, rfl, (g), ed, ee⟩
 exact Rn
 refine Ck<|Xm<|Xn<|Cg<|tS (sa rfl rfl (by omega))<|mV rfl<|Tn<|G6 t u D<|G6 D t u<|G6 u D t ?_
 have ef := hf1562 _ [iv h.Route.From, iv h.Route.To, sv aN h.Route.Steps aO, sv aP h.needs aQ, sv aR h.seen aT, sv aU h.gone aV, bv h.laps, bv h.sight, iv (h.leave - 1), iv h.clock, iv h.number] (⟨h.Route, h.needs, h.seen, h.gone, h.laps, h.sight, h.leave - 1, h.clock, h.number⟩ : z6) _ lr ⟨aN, aO, aP, aQ, aR, aT, t, aU, aV, u, rfl, cv, cw, cx, cy, rfl⟩
 refine z1B [_] D t u (o ++ (a ++ (c ++ (d ++ R)))) rfl ?_
 obtain rfl := o1 hm
 exact jS ⟨d, (D ++ (((ads bj), Cl 90 [iv h.Route.From, iv h.Route.To, sv aN h.Route.Steps aO, sv aP h.needs aQ, sv aR h.seen aT, sv aU h.gone aV, bv h.laps, bv h.sight, iv (h.leave - 1), iv h.clock, iv h.number]) :: (t ++ u))), rfl, rfl, (g), aE, ef⟩
 rintro bh _ _ ⟨d, s, rfl, rfl, g, aE, bi⟩
 have hm := H0 dq
 refine Cr<|tS (lF rfl rfl (by omega))<|Te<|Cs<|w9 rfl<|Ce<|Xe<|Xe<|Xo<|Xn<|Cs<|Cr<|mV rfl ?_
 obtain ⟨aW, cz, hm⟩ := bS hm
 have zy := f.trans (e.trans (i.trans g))
 refine P4 o a c d s<|P4 s o a c d<|P4 d s o a c<|P4 c d s o a<|G7 [_] [] a c d s (o ++ R) rfl<|Tg _ rfl z7c rfl (q4d _ _ X Y Z aa ab ac ad C G bg bx ads O ag ah ai aj ak al am an ao aq ar au av aw A3 c4 a A8 c9 c W d s (cb.le zy) (cc.le zy) (cd.le zy) (ce.le zy) (cf.le zy) (cg.le zy) (ch.le zy) (ae.le (e.trans (i.trans g))) (ay.le (i.trans g)) aE bi aW cz) ?_
 rintro _ eg _ n ⟨cA, cC, m, rfl, rfl, cD⟩
 refine z2O [_] [] m a c d s (o ++ R) rfl<|tS (sE rfl j0V)<|mV rfl<|Te<|Cb ?_
 have fm : aW.length ≤ 9223372036854775807 := (OS.len cD)
 refine X1 m a c d s<|X1 s m a c d<|X1 d s m a c<|X1 c d s m a<|X1 a c d s m ?_
 obtain ⟨bz, dw, dx⟩ := bS hm
 refine lS (fun bT => fun bz => fun bk e' hp' => ∃ r, [(0, pb O), (132, sv cA aW cC), (133, iv ((aW.length : Int))), (134, iv ((bT : Int)))] = e' ∧ (O, Cl 78 [sv ag X ah, sv ai Y aj, sv ak Z al, sv am aa an, sv ao ab aq, sv ar ac au, sv av ad aw, sv A3 C c4, sv A8 G c9, .map (some W)]) :: (m ++ (a ++ (c ++ (d ++ (r ++ R))))) = hp' ∧ eg.Le bk ∧ OAr 90 j8 ads bk.w bz r) dw ⟨s, rfl, rfl, lr, (bi.le n)⟩ ?_ ?_
 rintro bT bz bk _ _ fn eJ ⟨r, rfl, rfl, l, aX⟩ ba
 unfold V0 at ba
 have hm := ba
 refine Cr<|tS (lT rfl rfl (by omega))<|Te<|Cs<|k7 rfl<|Ck<|Xn<|Cs<|Cb<|Cr ?_
 obtain ⟨fM, eh, hm⟩ := bS hm
 obtain ⟨ei, dy, dz⟩ := iS eh
 obtain ⟨fo, fp, fN, fO, fq, dA, cE, dB, cG, fr, eV⟩ := OS.get (sz := 1) rfl (by decide) (cD.le l) dz
 obtain ⟨rfl, rfl⟩ := dA
 refine tS (sI ei rfl rfl dy cG dB j0V)<|tS (Q3 rfl j1f (fun w ho => cE w _ ho (.cons _ (Kb _ _)) 0 _ rfl))<|aS rfl<|Te ?_
 obtain ⟨⟨ej, ek⟩, dC, dD⟩ := bS hm
 refine Cj (fun cH e' hp' => [(0, pb O), (9, kv ads ej), (132, sv cA aW cC), (133, iv ((aW.length : Int))), (134, iv ((bT : Int))), (155, bv ek)] = e' ∧ (O, Cl 78 [sv ag X ah, sv ai Y aj, sv ak Z al, sv am aa an, sv ao ab aq, sv ar ac au, sv av ad aw, sv A3 C c4, sv A8 G c9, .map (some W)]) :: (m ++ (a ++ (c ++ (d ++ (r ++ R))))) = hp' ∧ bk.Le cH) ?_ ?_
 have hm := dC
 obtain ⟨cJ, cK, hm⟩ := bS hm
 obtain ⟨fP, el, hm⟩ := bS hm
 refine z2B 9 rfl (v' := .pointer (some ⟨(ads cJ), 0, none⟩)) (by rw [cK]; rfl)<|z2B 137 rfl (v' := .pointer (some ⟨(ads cJ), 0, none⟩)) (by rw [cK]; rfl) ?_
 obtain ⟨fs, ft, T, bA, dE, hf2039⟩ := OAr.take aX el
 obtain ⟨fQ, fR, fS, fT, fU, fV, U, fW, fX, V, rfl, fY, fZ, cO, f0, rfl⟩ := dE
 refine X1 m a c d r<|z1g [_] r T U V (m ++ (a ++ (c ++ (d ++ R)))) rfl bA ?_
 obtain ⟨_, aY, hm⟩ := bS hm
 obtain ⟨em, cP, hm⟩ := bS hm
 rcases Kg em with aJ | aJ
 rw [if_pos aJ] at hm
 refine Di mixed (.refl _)<|E0 0 rfl (sM rfl)<|E0 1 rfl (sN rfl)<|E0 2 rfl (sF rfl q3d)<|Es 3 rfl (sL 0 rfl q5C rfl rfl)<|E0 4 rfl (sM rfl)<|E0 5 rfl (sN rfl)<|E0 6 rfl (sF rfl q3d)<|Es 7 rfl (sL 0 rfl q5C rfl rfl)<|E0 8 rfl (sE rfl z0D) ?_
 have aY := (kS aY).2
 refine E0 9 rfl (sb rfl rfl aY) ?_
 obtain ⟨bU, bB, bC⟩ := iS cP
 obtain ⟨dF, dH, en, eo, dI, bD, bl, bE, bm, dJ, cQ⟩ := OS.get (sz := 1) rfl (by decide) cO bC
 obtain ⟨rfl, rfl⟩ := bD
 refine E0 10 rfl (sI bU rfl rfl bB bm bE z0D)<|Es 11 rfl (stB (Q3 rfl q6p (fun w ho => bl w _ ho (.cons _ (.cons _ (Kb _ _))) 0 _ rfl)) aJ)<|E0 12 rfl (sM rfl)<|Yz 13 150 rfl (sM rfl)<|Yz 14 150 rfl (sN rfl)<|Yz 15 150 rfl (sF rfl z3n)<|Ey 16 150 rfl (sL 0 rfl q6p rfl rfl)<|E0 17 rfl (pT rfl rfl)<|Eo<|Dd (by kernel_rfl)<|G6 U V T<|G6 T U V<|G6 V T U<|q3I [_] r T U V (m ++ (a ++ (c ++ (d ++ R)))) rfl bA ?_
 obtain ⟨rfl, rfl⟩ := V9 hm
 exact jJ ⟨rfl, rfl, lr⟩
 rw [if_neg (fun hh => Bool.noConfusion (hh.symm.trans aJ))] at hm
 refine Di mixed (.refl _)<|E0 0 rfl (sM rfl)<|E0 1 rfl (sN rfl)<|E0 2 rfl (sF rfl q3d)<|Es 3 rfl (sL 0 rfl q5C rfl rfl)<|E0 4 rfl (sM rfl)<|E0 5 rfl (sN rfl)<|E0 6 rfl (sF rfl q3d)<|Es 7 rfl (sL 0 rfl q5C rfl rfl)<|E0 8 rfl (sE rfl z0D) ?_
 have aY := (kS aY).2
 refine E0 9 rfl (sb rfl rfl aY) ?_
 obtain ⟨bU, bB, bC⟩ := iS cP
 obtain ⟨dF, dH, en, eo, dI, bD, bl, bE, bm, dJ, cQ⟩ := OS.get (sz := 1) rfl (by decide) cO bC
 obtain ⟨rfl, rfl⟩ := bD
 refine E0 10 rfl (sI bU rfl rfl bB bm bE z0D)<|Es 11 rfl (stB (Q3 rfl q6p (fun w ho => bl w _ ho (.cons _ (.cons _ (Kb _ _))) 0 _ rfl)) aJ)<|E0 12 rfl (sM rfl)<|eN 13 rfl<|eN 14 rfl<|eN 15 rfl<|eN 16 rfl<|E0 17 rfl (pF rfl rfl)<|Eo<|Dd (by kernel_rfl)<|G6 U V T<|G6 T U V<|G6 V T U<|q3I [_] r T U V (m ++ (a ++ (c ++ (d ++ R)))) rfl bA ?_
 obtain ⟨rfl, rfl⟩ := V9 hm
 exact jJ ⟨rfl, rfl, lr⟩
 rintro cH _ _ ⟨rfl, rfl, aB⟩
 have hm := H0 dD
 refine cB hm rfl (fun hm => ?_) fun hm => ?_
 refine Cr<|mV rfl ?_
 obtain ⟨bG, cR, hm⟩ := bS hm
 obtain ⟨j, ep, hm⟩ := bS hm
 refine Tr 9 rfl (v' := .pointer (some ⟨(ads bG), 0, none⟩)) (by rw [cR]; rfl)<|Tr 156 rfl (v' := .pointer (some ⟨(ads bG), 0, none⟩)) (by rw [cR]; rfl) ?_
 obtain ⟨fu, fv, L, dK, dL, hf2100⟩ := OAr.take (aX.le aB) ep
 obtain ⟨aZ, a0, a1, a2, a3, a4, H, a5, a6, I, rfl, cT, cU, cV, cW, rfl⟩ := dL
 refine P4 m a c d r<|q2B [_] r L H I (m ++ (a ++ (c ++ (d ++ R)))) rfl dK<|tS (sN rfl)<|tS (sF rfl z5N)<|tS (sL 0 rfl Q8 rfl rfl) ?_
 obtain ⟨_, bV, hm⟩ := bS hm
 have bV := (kS bV).2
 refine tS (sa rfl rfl bV)<|tS (sN rfl)<|tS (sF rfl z5N)<|tD (uS 0 rfl rfl z3Y rfl rfl (by simp)) ?_
 rintro _ _ rfl
 refine Te<|Cr<|mV rfl<|tS (sN rfl)<|tS (sF rfl z5N)<|tS (sL 0 rfl Q8 rfl rfl)<|tS (q1 rfl rfl)<|Te<|cI hm rfl (fun hm => ?_) fun hm => ?_
 refine Cg<|mV rfl<|tS (sN rfl)<|tS (sF rfl z3n)<|tD (uS 0 rfl rfl z6o rfl rfl (by simp)) ?_
 rintro _ _ rfl
 refine Tn<|Xm<|Xn<|Cg<|tS (sa rfl rfl (by omega))<|mV rfl<|Tn<|G6 H I L<|G6 L H I<|G6 I L H ?_
 have eq := hf2100 _ [iv j.Route.From, iv j.Route.To, sv aZ j.Route.Steps a0, sv a1 j.needs a2, sv a3 j.seen a4, sv a5 j.gone a6, bv false, bv j.sight, iv j.leave, iv (j.clock + 1), iv j.number] (⟨j.Route, j.needs, j.seen, j.gone, false, j.sight, j.leave, j.clock + 1, j.number⟩ : z6) _ lr ⟨aZ, a0, a1, a2, a3, a4, H, a5, a6, I, rfl, cT, cU, cV, cW, rfl⟩
 refine z1B [_] L H I (m ++ (a ++ (c ++ (d ++ R)))) rfl ?_
 obtain rfl := o1 hm
 exact jS ⟨(L ++ (((ads bG), Cl 90 [iv j.Route.From, iv j.Route.To, sv aZ j.Route.Steps a0, sv a1 j.needs a2, sv a3 j.seen a4, sv a5 j.gone a6, bv false, bv j.sight, iv j.leave, iv (j.clock + 1), iv j.number]) :: (H ++ I))), rfl, rfl, ((l.trans aB)), eq⟩
 refine Ck<|Xm<|Xn<|Cg<|tS (sa rfl rfl (by omega))<|mV rfl<|Tn<|G6 H I L<|G6 L H I<|G6 I L H ?_
 have er := hf2100 _ [iv j.Route.From, iv j.Route.To, sv aZ j.Route.Steps a0, sv a1 j.needs a2, sv a3 j.seen a4, sv a5 j.gone a6, bv j.laps, bv j.sight, iv j.leave, iv (j.clock + 1), iv j.number] (⟨j.Route, j.needs, j.seen, j.gone, j.laps, j.sight, j.leave, j.clock + 1, j.number⟩ : z6) _ lr ⟨aZ, a0, a1, a2, a3, a4, H, a5, a6, I, rfl, cT, cU, cV, cW, rfl⟩
 refine z1B [_] L H I (m ++ (a ++ (c ++ (d ++ R)))) rfl ?_
 obtain rfl := o1 hm
 exact jS ⟨(L ++ (((ads bG), Cl 90 [iv j.Route.From, iv j.Route.To, sv aZ j.Route.Steps a0, sv a1 j.needs a2, sv a3 j.seen a4, sv a5 j.gone a6, bv j.laps, bv j.sight, iv j.leave, iv (j.clock + 1), iv j.number]) :: (H ++ I))), rfl, rfl, ((l.trans aB)), er⟩
 refine Ck<|Xm<|Xn<|Cg<|tS (sa rfl rfl (by omega))<|mV rfl<|Tn ?_
 obtain rfl := o1 hm
 exact jS ⟨r, rfl, rfl, ((l.trans aB)), (aX.le aB)⟩
 rintro bk _ _ ⟨r, rfl, rfl, l, aX⟩
 have hm := dx
 refine Cr<|tS (lF rfl rfl (by omega))<|Te<|Cs<|w9 rfl<|Ce<|Xe<|Xe<|Xo<|Xn<|Cs<|Cr<|mV rfl ?_
 obtain ⟨bH, cX, hm⟩ := bS hm
 have zx := f.trans (e.trans (i.trans (g.trans (n.trans l))))
 have zw := i.trans (g.trans (n.trans l))
 refine P4 m a c d r<|P4 r m a c d<|P4 d r m a c<|P4 c d r m a<|G7 [_] [] a c d r (m ++ R) rfl<|Tg _ rfl z7c rfl (q4d _ _ X Y Z aa ab ac ad C G bg bz ads O ag ah ai aj ak al am an ao aq ar au av aw A3 c4 a A8 c9 c W d r (cb.le zx) (cc.le zx) (cd.le zx) (ce.le zx) (cf.le zx) (cg.le zx) (ch.le zx) (ae.le (e.trans zw)) (ay.le zw) (aE.le (n.trans l)) aX bH cX) ?_
 rintro _ es _ q ⟨et, eu, y, rfl, rfl, cY⟩
 refine z2O [_] [] y a c d r (m ++ R) rfl<|tS (sE rfl j0V)<|mV rfl<|Te<|Cb ?_
 have fw : bH.length ≤ 9223372036854775807 := (OS.len cY)
 refine X1 y a c d r<|X1 r y a c d<|X1 d r y a c<|X1 c d r y a<|X1 a c d r y ?_
 obtain ⟨⟨bn, bo⟩, dM, dN⟩ := bS hm
 refine lS (fun cZ => q0q fun bn bo => fun bp e' hp' => ∃ E z, [(0, pb O), (173, sv et bH eu), (174, iv ((bH.length : Int))), (175, iv ((cZ : Int)))] = e' ∧ (O, Cl 78 [sv ag X ah, sv ai Y aj, sv ak Z al, sv am aa an, sv ao ab aq, sv ar ac au, sv av ad aw, sv A3 C c4, sv A8 G c9, .map (some W)]) :: (y ++ (a ++ (c ++ (E ++ (z ++ R))))) = hp' ∧ es.Le bp ∧ OM rI (OT.fr (RT.key ads)) false false bp.w W bn E ∧ OAr 90 j8 ads bp.w bo z) dM ⟨d, r, rfl, rfl, lr, (aE.le (n.trans (l.trans q))), (aX.le q)⟩ ?_ ?_
 rintro cZ ⟨bn, bo⟩ bp _ _ fx eK ⟨E, z, rfl, rfl, p, bW, bI⟩ bb
 unfold G1 at bb
 have hm := H0 bb
 refine Cr<|tS (lT rfl rfl (by omega))<|Te<|Cs<|k7 rfl<|Ck<|Xn<|Cs<|Cb<|Cr ?_
 obtain ⟨ev, ew, hm⟩ := bS hm
 obtain ⟨ex, dO, dP⟩ := iS ew
 obtain ⟨fy, fz, f1, f2, fA, dQ, c0, dR, c1, fB, eW⟩ := OS.get (sz := 1) rfl (by decide) (cY.le p) dP
 obtain ⟨rfl, rfl⟩ := dQ
 refine tS (sI ex rfl rfl dO c1 dR j0V)<|tS (Q3 rfl j1f (fun w ho => c0 w _ ho (.cons _ (Kb _ _)) 0 _ rfl))<|aS rfl<|Te<|Cg<|mV rfl<|mV rfl ?_
 obtain ⟨⟨ey, ez⟩, c2, hm⟩ := bS hm
 have hm := H0 hm
 have zv := f.trans (e.trans (i.trans (g.trans (n.trans (l.trans (q.trans p))))))
 have zu := i.trans (g.trans (n.trans (l.trans (q.trans p))))
 refine K6 y a c E<|K6 E y a c<|K6 c E y a<|P4 a c E y z<|G7 [_] [] z a c E (y ++ R) rfl<|Tg _ rfl j5P rfl (z1j _ _ ev X Y Z aa ab ac ad bo C G bn ads O ag ah ai aj ak al am an ao aq ar au av aw z A3 c4 a A8 c9 c W E (cb.le zv) (cc.le zv) (cd.le zv) (ce.le zv) (cf.le zv) (cg.le zv) (ch.le zv) bI (ae.le (e.trans zu)) (ay.le zu) bW ey ez c2) ?_
 rintro _ f3 _ c3 ⟨b7, b8, rfl, rfl, eA, eB⟩
 refine q3K [_] [] b7 a c b8 (y ++ R) rfl<|Tn<|Xm<|Xn<|Cg<|tS (sa rfl rfl (by omega))<|mV rfl<|Tn ?_
 obtain rfl := o1 hm
 exact jS ⟨b8, b7, rfl, rfl, ((p.trans c3)), eB, eA⟩
 rintro bp _ _ ⟨E, z, rfl, rfl, p, bW, bI⟩
 have hm := H0 dN
 refine Cr<|tS (lF rfl rfl (by omega))<|Te<|Cs<|w9 rfl<|Ce<|Xe<|Xe<|Xo<|Xn<|Cg<|mV rfl ?_
 obtain ⟨⟨c5, eC⟩, c6, hm⟩ := bS hm
 have hm := H0 hm
 have zt := f.trans (e.trans (i.trans (g.trans (n.trans (l.trans (q.trans p))))))
 have zs := i.trans (g.trans (n.trans (l.trans (q.trans p))))
 refine P4 y a c E z<|P4 z y a c E<|P4 E z y a c<|P4 c E z y a<|G7 [_] [] a c E z (y ++ R) rfl<|Tg _ rfl j2D rfl (q9A _ _ X Y Z aa ab ac ad C G bn bo ads O ag ah ai aj ak al am an ao aq ar au av aw A3 c4 a A8 c9 c W E z (cb.le zt) (cc.le zt) (cd.le zt) (ce.le zt) (cf.le zt) (cg.le zt) (ch.le zt) (ae.le (e.trans zs)) (ay.le zs) bW bI c5 eC c6) ?_
 rintro _ f4 _ bq ⟨b9, ca, rfl, rfl, eD, c7, eE⟩
 refine q3K [_] [] a b9 ca z (y ++ R) rfl<|K9 0 rfl (o' := Cl 78 [sv ag X ah, sv ai Y aj, sv ak Z al, sv am aa an, sv ao ab aq, sv ar ac au, sv av ad aw, sv A3 C c4, sv A8 c5 c9, .map (some W)]) (by simp only [sv, c7])<|Tn ?_
 obtain ⟨rfl, rfl, rfl, rfl⟩ := q9F hm
 have zr := e.trans (i.trans (g.trans (n.trans (l.trans (q.trans (p.trans bq))))))
 have dS := ae.le zr
 have dT := bI.le bq
 exact eZ ⟨a, b9, ca, z, rfl, rfl, dS, az, eD, (c7.trans aF), eE, dT⟩ (f.trans zr)
theorem z1O (b : k9) (R : Hp) (i s t u) (x : FZ rI b.w t u i) (j) (hm : q4W i s = some j):
 v8 Tryz.prog 39 [sv t i u, iv s] b (R) (fun v b' hp' => iv j = v ∧ R = hp') := by
 refine fE 19 Tryz.func39 rfl Tryz.ntmps39 rfl ?_
 unfold q4W at hm
 refine Cr<|aS rfl<|Te<|Cs<|Cr<|mV rfl<|tS (sE rfl q5y)<|mV rfl<|Te<|Cb ?_
 have y : i.length ≤ 9223372036854775807 := (FZ.bd x)
 obtain ⟨C, k, d⟩ := bS hm
 refine lF (fun l => fun _ => fun f e' hp' => [(0, sv t i u), (1, iv s), (7, iv ((i.length : Int))), (8, iv ((l : Int)))] = e' ∧ R = hp' ∧ b.Le f) k ⟨rfl, rfl, lr⟩ ?_ ?_
 rintro l _ f _ _ z r ⟨rfl, rfl, a⟩ c e
 unfold q2D at c
 have hm := c
 refine Cr<|tS (lT rfl rfl (by omega))<|Te<|Cs<|k7 rfl<|Ck<|Xn<|Cs<|Cb<|Cr<|mV rfl<|aS rfl<|Te<|Cr<|mV rfl<|mV rfl<|mV rfl ?_
 obtain ⟨D, w, A, m, B, n, g, o, h, hm⟩ := bF (sz := 1) hm (x.le a)
 obtain rfl := n
 refine tS (sI w rfl rfl m h o q5y)<|tS (sO rfl Q8 (g 0 _ rfl))<|tS (q1 rfl rfl)<|Te<|cI hm rfl (fun hm => ?_) fun hm => ?_
 refine Cr<|mV rfl<|aS rfl<|Te<|Ct<|Xb<|Xr<|Xr<|Xb<|Xr ?_
 have p := e _ (Kd hm).symm
 rw [p] at d
 have hm := V8 d
 obtain rfl := o1 hm
 exact rO ⟨rfl, rfl⟩ a
 refine Ck<|Xm<|Xn<|Cg<|tS (sa rfl rfl (by omega))<|mV rfl<|Tn ?_
 exact jM hm ⟨rfl, rfl, (a)⟩
 rintro _ f _ _ ⟨rfl, rfl, a⟩ q
 rw [q] at d
 have hm := G0 d
 refine Cr<|tS (lF rfl rfl (by omega))<|Te<|Cs<|w9 rfl<|Ce<|Xe<|Xe<|Xo<|Xn<|Cr<|aS rfl<|Te<|Ct ?_
 obtain rfl := o1 hm
 exact rO ⟨rfl, rfl⟩ a
theorem q9p (b : k9) (R : Hp) (c d e f) (i : FZ rI b.w e f c) (g) (hm : q1T c d = some g):
 v8 Tryz.prog 11 [sv e c f, iv d] b (R) (fun v b' hp' => bv g = v ∧ R = hp') := by
 refine fE 9 Tryz.func11 rfl Tryz.ntmps11 rfl ?_
 unfold q1T at hm
 refine Cr<|aS rfl<|Te<|Cr<|mV rfl<|mV rfl ?_
 obtain ⟨j, a, hm⟩ := bS hm
 refine tD (uW _ j5O rfl (fun w ho => z1O _ [] c d e f (i.old ho) j a) (fun _ _ _ h => h.2.symm)) ?_
 rintro _ _ ⟨⟨_, rfl, _⟩, rfl⟩
 refine tS (q6 rfl rfl)<|aS rfl<|Te<|Ct ?_
 obtain rfl := o1 hm
 exact rO ⟨rfl, rfl⟩ lr
theorem q8G (b : k9) (R : Hp) (d : q9) (i) (hm : q2K d = some i):
 v8 Tryz.prog 109 [.agg #[iv d.axles, bv d.disturbed, iv d.position, iv d.moving, bv d.failed]] b (R) (fun v b' hp' => bv i = v ∧ R = hp') := by
 refine fE 11 Tryz.func109 rfl Tryz.ntmps109 rfl ?_
 unfold q2K at hm
 refine Cr<|tD (uB _ rfl rfl) ?_
 rintro _ _ ⟨j, rfl, rfl⟩
 refine aS rfl<|Te ?_
 obtain ⟨h, e, f⟩ := bS hm
 refine Cj (fun g e' hp' => [(2, bv h)] = e' ∧ R = hp' ∧ b.Le g) ?_ ?_
 have hm := e
 refine Cg<|tS (sF rfl q4X)<|tS (sL 0 rfl Q8 rfl rfl)<|Tb rfl (q1 rfl rfl) (fun a => ?_) (fun a => ?_)
 rw [if_pos a] at hm
 refine mV rfl<|yS<|tS (sF rfl z5O)<|yS<|tS (sL 0 rfl q6p rfl rfl)<|yS<|tS (sn2 rfl)<|tS (pT rfl rfl)<|aS rfl<|Tn ?_
 obtain rfl := o1 hm
 exact jJ ⟨rfl, rfl, lr⟩
 rw [if_neg a] at hm
 refine mV rfl<|nO<|nO<|nO<|tS (pF rfl rfl)<|aS rfl<|Tn ?_
 obtain rfl := o1 hm
 exact jJ ⟨rfl, rfl, lr⟩
 rintro g _ _ ⟨rfl, rfl, c⟩
 have hm := f
 refine Ct ?_
 obtain rfl := o1 hm
 exact rO ⟨rfl, rfl⟩ c
theorem z1l (b : k9) (R : Hp) (a : v6) (c d e f) (hm : q2J a c d = some f):
 v8 Tryz.prog 110 [.agg #[iv a.Section, iv a.In, iv a.Out], pb e] b ((e, Cl 149 [iv c, iv d]) :: R) (fun v b' hp' => bv f = v ∧ (e, Cl 149 [iv c, iv d]) :: R = hp') := by
 refine fE 9 Tryz.func110 rfl Tryz.ntmps110 rfl ?_
 unfold q2J at hm
 refine Cr<|tD (uB _ rfl rfl) ?_
 rintro _ _ ⟨g, rfl, rfl⟩
 refine aS rfl<|Te<|Cr<|tS (sF rfl K5)<|tS (sL 0 rfl Q8 rfl rfl)<|tS (sF rfl q7a)<|tS (sL 1 rfl Q8 rfl rfl)<|tS (q1 rfl rfl)<|aS rfl<|Te<|Ct ?_
 obtain rfl := o1 hm
 exact rO ⟨rfl, rfl⟩ lr
theorem q8y (b : k9) (R : Hp) (o p q i B C) (F : FZ J1 b.w B C o) (r) (hm : q2F o p q = some r):
 v8 Tryz.prog 124 [sv B o C, .func (.func 110) #[] #[pb i]] b ((i, Cl 149 [iv p, iv q]) :: R) (fun v b' hp' => iv r = v ∧ (i, Cl 149 [iv p, iv q]) :: R = hp') := by
 refine fE 19 Tryz.func124 rfl Tryz.ntmps124 rfl ?_
 unfold q2F at hm
 refine Cr<|aS rfl<|Te<|Cs<|Cr<|mV rfl<|tS (sE rfl q6f)<|mV rfl<|Te<|Cb ?_
 have G : o.length ≤ 9223372036854775807 := (FZ.bd F)
 obtain ⟨K, s, e⟩ := bS hm
 refine lF (fun t => fun _ => fun k e' hp' => [(0, sv B o C), (1, .func (.func 110) #[] #[pb i]), (7, iv ((o.length : Int))), (8, iv ((t : Int)))] = e' ∧ (i, Cl 149 [iv p, iv q]) :: R = hp' ∧ b.Le k) s ⟨rfl, rfl, lr⟩ ?_ ?_
 rintro t _ k _ _ H A ⟨rfl, rfl, a⟩ c f
 unfold q0U at c
 have hm := c
 refine Cr<|tS (lT rfl rfl (by omega))<|Te<|Cs<|k7 rfl<|Ck<|Xn<|Cs<|Cb<|Cr<|mV rfl<|aS rfl<|Te<|Cr<|mV rfl<|mV rfl<|mV rfl ?_
 obtain ⟨d, D, I, w, J, x, l, h, m, hm⟩ := bF (sz := 3) hm (F.le a)
 obtain ⟨_, _, rfl, rfl, ⟨_, _, rfl, rfl, rfl⟩⟩ := x
 refine tS (sI D rfl rfl w m h q6f)<|tS (sP (vs := [iv d.Section, iv d.In, iv d.Out]) 3 rfl q6T h rfl (fun j u hu => l j u hu)) ?_
 obtain ⟨E, n, hm⟩ := bS hm
 refine Tv #[] #[pb i] [.agg #[iv d.Section, iv d.In, iv d.Out]] rfl rfl j4d rfl (z1l _ _ d p q i E n) ?_
 rintro _ L _ g ⟨rfl, rfl⟩
 refine Te<|cB hm rfl (fun hm => ?_) fun hm => ?_
 refine Cr<|mV rfl<|aS rfl<|Te<|Ct<|Xb<|Xr<|Xr<|Xb<|Xr ?_
 have y := f _ (Kd hm).symm
 rw [y] at e
 have hm := V8 e
 obtain rfl := o1 hm
 exact rO ⟨rfl, rfl⟩ (a.trans g)
 refine Ck<|Xm<|Xn<|Cg<|tS (sa rfl rfl (by omega))<|mV rfl<|Tn ?_
 exact jM hm ⟨rfl, rfl, ((a.trans g))⟩
 rintro _ k _ _ ⟨rfl, rfl, a⟩ z
 rw [z] at e
 have hm := G0 e
 refine Cr<|tS (lF rfl rfl (by omega))<|Te<|Cs<|w9 rfl<|Ce<|Xe<|Xe<|Xo<|Xn<|Cr<|aS rfl<|Te<|Ct ?_
 obtain rfl := o1 hm
 exact rO ⟨rfl, rfl⟩ a
theorem q6L (b : k9) (R : Hp) (e f g h i j) (l : FZ J1 b.w i j e) (d) (hm : q0c e f g = some d):
 v8 Tryz.prog 107 [sv i e j, .func (.func 110) #[] #[pb h]] b ((h, Cl 149 [iv f, iv g]) :: R) (fun v b' hp' => bv d = v ∧ (h, Cl 149 [iv f, iv g]) :: R = hp') := by
 refine fE 9 Tryz.func107 rfl Tryz.ntmps107 rfl ?_
 unfold q0c at hm
 refine Cr<|aS rfl<|Te<|Cr<|mV rfl<|mV rfl ?_
 obtain ⟨k, a, hm⟩ := bS hm
 refine Tg _ rfl z5U rfl (q8y _ _ e f g h i j l k a) ?_
 rintro _ m _ c ⟨rfl, rfl⟩
 refine tS (q6 rfl rfl)<|aS rfl<|Te<|Ct ?_
 obtain rfl := o1 hm
 exact rO ⟨rfl, rfl⟩ c
theorem z1i (b : k9) (R : Hp) (e : z8) (f) (hm : q1z e = some f):
 v8 Tryz.prog 111 [.agg #[iv e.left, bv e.wanted, bv e.failed]] b (R) (fun v b' hp' => bv f = v ∧ R = hp') := by
 refine fE 15 Tryz.func111 rfl Tryz.ntmps111 rfl ?_
 unfold q1z at hm
 refine Cr<|tD (uB _ rfl rfl) ?_
 rintro _ _ ⟨k, rfl, rfl⟩
 refine aS rfl<|Te ?_
 obtain ⟨j, g, h⟩ := bS hm
 refine Cj (fun i e' hp' => [(2, bv j)] = e' ∧ R = hp' ∧ b.Le i) ?_ ?_
 have hm := g
 refine Cg<|tS (sF rfl q9j)<|tS (sL 0 rfl q6p rfl rfl) ?_
 rcases Kg e.wanted with a | a
 rw [if_pos a] at hm
 refine Tr 4 rfl (v' := .bool true) (by rw [a] <;> rfl)<|mV rfl<|yS<|tS (sF rfl z0Q)<|yS<|tS (sL 0 rfl Q8 rfl rfl)<|yS<|Tb rfl (q1 rfl rfl) (fun c => ?_) (fun c => ?_)
 rw [if_pos c] at hm
 refine tS (pT rfl rfl)<|mV rfl<|yS<|tS (sF rfl z9B)<|yS<|tS (sL 0 rfl q6p rfl rfl)<|yS<|tS (sn2 rfl)<|tS (pT rfl rfl)<|aS rfl<|Tn ?_
 obtain rfl := o1 hm
 exact jJ ⟨rfl, rfl, lr⟩
 rw [if_neg c] at hm
 refine tS (pT rfl rfl)<|mV rfl<|nO<|nO<|nO<|tS (pF rfl rfl)<|aS rfl<|Tn ?_
 obtain rfl := o1 hm
 exact jJ ⟨rfl, rfl, lr⟩
 rw [if_neg (fun hh => Bool.noConfusion (hh.symm.trans a))] at hm
 refine Tr 4 rfl (v' := .bool false) (by rw [a] <;> rfl)<|mV rfl<|nO<|nO<|nO<|tS (pF rfl rfl)<|mV rfl<|nO<|nO<|nO<|tS (pF rfl rfl)<|aS rfl<|Tn ?_
 obtain rfl := o1 hm
 exact jJ ⟨rfl, rfl, lr⟩
 rintro i _ _ ⟨rfl, rfl, d⟩
 have hm := h
 refine Ct ?_
 obtain rfl := o1 hm
 exact rO ⟨rfl, rfl⟩ d
theorem z1k (b : k9) (R : Hp) (i : v6) (k l m n o p q c d Y Z) (ads : Int → Nat) (y r z A B C D E F G H I J K L O A3 c4 S A8 c9 T U e f) (al : FZ RT.str b.w z A k) (am : FZ j4 b.w B C l) (an : FZ Q0 b.w D E m) (ao : FZ j6 b.w F G n) (aq : FZ Q1 b.w H I o) (ar : FZ Z3 b.w J K p) (au : FZ (RT.list j7) b.w L O q) (h5 : OS 80 (OT.fr Q5) b.w (sv A3 c c4) c S) (av : OS 94 (OT.fr Q7) b.w (sv A8 d c9) d T) (aw : OM rI (OT.fr (RT.key ads)) false false b.w U Y e) (ax : OAr 90 j8 ads b.w Z f) (aa) (hm : q1B i k l m n o p q c d Y Z = some aa):
 v8 Tryz.prog 112 [.agg #[iv i.Section, iv i.In, iv i.Out], pb y] b ((y, Cl 40 [pb r]) :: (r, Cl 78 [sv z k A, sv B l C, sv D m E, sv F n G, sv H o I, sv J p K, sv L q O, sv A3 c c4, sv A8 d c9, .map (some U)]) :: (S ++ (T ++ (e ++ (f ++ R))))) (fun v b' hp' => bv aa = v ∧ (y, Cl 40 [pb r]) :: (r, Cl 78 [sv z k A, sv B l C, sv D m E, sv F n G, sv H o I, sv J p K, sv L q O, sv A3 c c4, sv A8 d c9, .map (some U)]) :: (S ++ (T ++ (e ++ (f ++ R)))) = hp') := by
 refine fE 13 Tryz.func112 rfl Tryz.ntmps112 rfl ?_
 unfold q1B at hm
 refine Cr<|tD (uB _ rfl rfl) ?_
 rintro _ _ ⟨ay, rfl, rfl⟩
 refine aS rfl<|Te<|Cs ?_
 obtain ⟨a, ab, hm⟩ := bS hm
 obtain ⟨ac, s, hm⟩ := bS hm
 refine Di mixed (.refl _)<|Es 0 rfl (sL 1 rfl z7F rfl rfl)<|E0 1 rfl (sN rfl)<|E0 2 rfl (sF rfl q0o)<|Es 3 rfl (sL 2 rfl q4V rfl rfl)<|E0 4 rfl (sF rfl K5)<|Es 5 rfl (sL 0 rfl Q8 rfl rfl) ?_
 obtain ⟨ad, V, W⟩ := iS ab
 obtain ⟨af, ag, aj, ak, ah, X, t, g, x, ai, ae⟩ := OS.get (sz := 5) rfl (by decide) h5 W
 obtain ⟨⟨_, _, rfl, rfl, ⟨_, _, rfl, rfl, ⟨_, _, rfl, rfl, ⟨_, _, rfl, rfl, rfl⟩⟩⟩⟩, rfl⟩ := X
 refine E0 6 rfl (sI ad rfl rfl V x g q7f)<|Es 7 rfl (J6 (vs := [iv a.axles, bv a.disturbed, iv a.position, iv a.moving, bv a.failed]) 5 rfl z1Z g rfl (fun w ho j u hu => t w _ ho (.cons _ (.cons _ (.cons _ (Kb _ _)))) j u hu))<|Eo<|Da [8] (by kernel_rfl) rfl<|Rd2 lr rfl rfl (uW _ z1e rfl (fun w ho => q0p _ [] a ac s) (fun _ _ _ h => h.2.symm)) ?_ ?_
 rintro _ _ ⟨⟨_, rfl, _⟩, rfl⟩
 refine iR<|Ei lr (.refl _)<|E0 9 rfl (sA rfl)<|Eo<|Dd (by kernel_rfl)<|Xn<|Ct ?_
 obtain rfl := o1 hm
 exact rO ⟨rfl, rfl⟩ lr
 exact Rn
theorem q8x (b : k9) (R : Hp) (p q r s t w x y k l aa ab) (ads : Int → Nat) (m n ac ad z A B C D E F G H I J K L O A3 c4 e A8 c9 f S c d) (aj : FZ J1 b.w ac ad p) (ao : FZ RT.str b.w z A q) (aq : FZ j4 b.w B C r) (ar : FZ Q0 b.w D E s) (au : FZ j6 b.w F G t) (av : FZ Q1 b.w H I w) (aw : FZ Z3 b.w J K x) (ax : FZ (RT.list j7) b.w L O y) (h5 : OS 80 (OT.fr Q5) b.w (sv A3 k c4) k e) (ay : OS 94 (OT.fr Q7) b.w (sv A8 l c9) l f) (az : OM rI (OT.fr (RT.key ads)) false false b.w S aa c) (aA : OAr 90 j8 ads b.w ab d) (ak) (hm : q2E p q r s t w x y k l aa ab = some ak):
 v8 Tryz.prog 124 [sv ac p ad, .func (.func 112) #[] #[pb m]] b ((m, Cl 40 [pb n]) :: (n, Cl 78 [sv z q A, sv B r C, sv D s E, sv F t G, sv H w I, sv J x K, sv L y O, sv A3 k c4, sv A8 l c9, .map (some S)]) :: (e ++ (f ++ (c ++ (d ++ R))))) (fun v b' hp' => iv ak = v ∧ (m, Cl 40 [pb n]) :: (n, Cl 78 [sv z q A, sv B r C, sv D s E, sv F t G, sv H w I, sv J x K, sv L y O, sv A3 k c4, sv A8 l c9, .map (some S)]) :: (e ++ (f ++ (c ++ (d ++ R)))) = hp') := by
 refine fE 19 Tryz.func124 rfl Tryz.ntmps124 rfl ?_
 unfold q2E at hm
 refine Cr<|aS rfl<|Te<|Cs<|Cr<|mV rfl<|tS (sE rfl q6f)<|mV rfl<|Te<|Cb ?_
 have aD : p.length ≤ 9223372036854775807 := (FZ.bd aj)
 refine Cp 1 rfl<|Cp 1 rfl<|j1P e f c d<|j1P d e f c<|j1P c d e f<|j1P f c d e ?_
 obtain ⟨aE, ae, i⟩ := bS hm
 refine lF (fun Z => fun _ => fun T e' hp' => [(0, sv ac p ad), (1, .func (.func 112) #[] #[pb m]), (7, iv ((p.length : Int))), (8, iv ((Z : Int)))] = e' ∧ (m, Cl 40 [pb n]) :: (n, Cl 78 [sv z q A, sv B r C, sv D s E, sv F t G, sv H w I, sv J x K, sv L y O, sv A3 k c4, sv A8 l c9, .map (some S)]) :: (e ++ (f ++ (c ++ (d ++ R)))) = hp' ∧ b.Le T) ae ⟨rfl, rfl, lr⟩ ?_ ?_
 rintro Z _ T _ _ aF an ⟨rfl, rfl, a⟩ h U
 unfold F8 at h
 have hm := h
 refine Cr<|tS (lT rfl rfl (by omega))<|Te<|Cs<|k7 rfl<|Ck<|Xn<|Cs<|Cb<|Cr<|mV rfl<|aS rfl<|Te<|Cr<|mV rfl<|mV rfl<|mV rfl ?_
 obtain ⟨g, al, aB, af, aC, ag, W, V, X, hm⟩ := bF (sz := 3) hm (aj.le a)
 obtain ⟨_, _, rfl, rfl, ⟨_, _, rfl, rfl, rfl⟩⟩ := ag
 refine tS (sI al rfl rfl af X V q6f)<|tS (sP (vs := [iv g.Section, iv g.In, iv g.Out]) 3 rfl q6T V rfl (fun j u hu => W j u hu)) ?_
 obtain ⟨am, Y, hm⟩ := bS hm
 refine J3 1 rfl<|J3 1 rfl<|q2k e f c d<|q2k d e f c<|q2k c d e f<|q2k f c d e<|G7 [_, _] [] e f c d R rfl<|Tv #[] #[pb m] [.agg #[iv g.Section, iv g.In, iv g.Out]] rfl rfl j4b rfl (z1k _ _ g q r s t w x y k l aa ab ads m n z A B C D E F G H I J K L O A3 c4 e A8 c9 f S c d (ao.le a) (aq.le a) (ar.le a) (au.le a) (av.le a) (aw.le a) (ax.le a) (h5.le a) (ay.le a) (az.le a) (aA.le a) am Y) ?_
 rintro _ aG _ o ⟨rfl, rfl⟩
 refine q3K [_, _] [] e f c d R rfl<|Te<|cB hm rfl (fun hm => ?_) fun hm => ?_
 refine Cr<|mV rfl<|aS rfl<|Te<|Ct<|Xb<|Xr<|Xr<|Xb<|Xr ?_
 have ah := U _ (Kd hm).symm
 rw [ah] at i
 have hm := V8 i
 obtain rfl := o1 hm
 exact rO ⟨rfl, rfl⟩ (a.trans o)
 refine Ck<|Xm<|Xn<|Cg<|tS (sa rfl rfl (by omega))<|mV rfl<|Tn ?_
 exact jM hm ⟨rfl, rfl, ((a.trans o))⟩
 rintro _ T _ _ ⟨rfl, rfl, a⟩ ai
 rw [ai] at i
 have hm := G0 i
 refine Cr<|tS (lF rfl rfl (by omega))<|Te<|Cs<|w9 rfl<|Ce<|Xe<|Xe<|Xo<|Xn<|Cr<|aS rfl<|Te<|Ct ?_
 obtain rfl := o1 hm
 exact rO ⟨rfl, rfl⟩ a
theorem q6K (b : k9) (R : Hp) (p h i j k l m n f g H I) (ads : Int → Nat) (q o J K r s t u w x y z A B C D E F T U d V W e G a c) (X : FZ J1 b.w J K p) (Y : FZ RT.str b.w r s h) (Z : FZ j4 b.w t u i) (aa : FZ Q0 b.w w x j) (ab : FZ j6 b.w y z k) (ac : FZ Q1 b.w A B l) (ad : FZ Z3 b.w C D m) (ae : FZ (RT.list j7) b.w E F n) (h5 : OS 80 (OT.fr Q5) b.w (sv T f U) f d) (af : OS 94 (OT.fr Q7) b.w (sv V g W) g e) (ag : OM rI (OT.fr (RT.key ads)) false false b.w G H a) (ah : OAr 90 j8 ads b.w I c) (S) (hm : V4 p h i j k l m n f g H I = some S):
 v8 Tryz.prog 107 [sv J p K, .func (.func 112) #[] #[pb q]] b ((q, Cl 40 [pb o]) :: (o, Cl 78 [sv r h s, sv t i u, sv w j x, sv y k z, sv A l B, sv C m D, sv E n F, sv T f U, sv V g W, .map (some G)]) :: (d ++ (e ++ (a ++ (c ++ R))))) (fun v b' hp' => bv S = v ∧ (q, Cl 40 [pb o]) :: (o, Cl 78 [sv r h s, sv t i u, sv w j x, sv y k z, sv A l B, sv C m D, sv E n F, sv T f U, sv V g W, .map (some G)]) :: (d ++ (e ++ (a ++ (c ++ R)))) = hp') := by
 refine fE 9 Tryz.func107 rfl Tryz.ntmps107 rfl ?_
 unfold V4 at hm
 refine Cr<|aS rfl<|Te<|Cr<|mV rfl<|mV rfl ?_
 obtain ⟨ai, L, hm⟩ := bS hm
 refine J3 1 rfl<|J3 1 rfl<|q2k d e a c<|q2k c d e a<|q2k a c d e<|q2k e a c d<|G7 [_, _] [] d e a c R rfl<|Tg _ rfl z5U rfl (q8x _ _ p h i j k l m n f g H I ads q o J K r s t u w x y z A B C D E F T U d V W e G a c X Y Z aa ab ac ad ae h5 af ag ah ai L) ?_
 rintro _ aj _ O ⟨rfl, rfl⟩
 refine q3K [_, _] [] d e a c R rfl<|tS (q6 rfl rfl)<|aS rfl<|Te<|Ct ?_
 obtain rfl := o1 hm
 exact rO ⟨rfl, rfl⟩ O
theorem z3B (b : k9) (R : Hp) (aP : (Option Int)) (S T U V p W X bd F G bM) (ads : Int → Nat) (C Z aa ab ac ad ae af ag H I ah ai aj ak i A6 c7 g al am c an d) (cK : FZ RT.str b.w Z aa S) (cO : FZ j4 b.w ab ac T) (cP : FZ Q0 b.w ad ae U) (cQ : FZ j6 b.w af ag V) (bN : FZ Q1 b.w H I p) (cR : FZ Z3 b.w ah ai W) (cT : FZ (RT.list j7) b.w aj ak X) (h3 : OAr 90 j8 ads b.w bd i) (h8 : OS 80 (OT.fr Q5) b.w (sv A6 F c7) F g) (ci : OS 94 (OT.fr Q7) b.w (sv al G am) G c) (cU : OM rI (OT.fr (RT.key ads)) false false b.w an bM d) (bH) (hm : q0G aP S T U V p W X bd F G bM = some bH):
 v8 Tryz.prog 83 [pb C, kv ads aP] b ((C, Cl 78 [sv Z S aa, sv ab T ac, sv ad U ae, sv af V ag, sv H p I, sv ah W ai, sv aj X ak, sv A6 F c7, sv al G am, .map (some an)]) :: (i ++ (g ++ (c ++ (d ++ R))))) (fun v b' hp' => bv bH = v ∧ (C, Cl 78 [sv Z S aa, sv ab T ac, sv ad U ae, sv af V ag, sv H p I, sv ah W ai, sv aj X ak, sv A6 F c7, sv al G am, .map (some an)]) :: (i ++ (g ++ (c ++ (d ++ R)))) = hp') := by
 refine fE 92 Tryz.func83 rfl Tryz.ntmps83 rfl ?_
 unfold q0G at hm
 refine Cr<|tD (uB _ rfl rfl) ?_
 rintro _ _ ⟨q, rfl, rfl⟩
 refine aS rfl<|Te<|Cs<|Cr<|mV rfl ?_
 obtain ⟨Y, be, hm⟩ := bS hm
 refine q3Q [] [_, _] i (g ++ (c ++ (d ++ R))) rfl<|Tg _ rfl z9R rfl (q4A _ _ aP bd ads i h3 Y be) ?_
 rintro _ cj _ f ⟨bI, bJ, k, rfl, rfl, bK⟩
 refine z8s [] [_, _] k i (g ++ (c ++ (d ++ R))) rfl<|tS (sE rfl q5x)<|mV rfl<|Te<|Cb ?_
 have cV : Y.length ≤ 9223372036854775807 := (OS.len bK)
 refine Cp 1 rfl<|Cp 1 rfl<|q2R k i g c d<|q2R d k i g c<|q2R c d k i g<|q2R g c d k i<|q2R i g c d k ?_
 obtain ⟨ds, bO, ao⟩ := bS hm
 refine lF (fun aQ => fun _ => fun az e' hp' => [(1, kv ads aP), (2, pb q), (11, sv bI Y bJ), (12, iv ((Y.length : Int))), (13, iv ((aQ : Int)))] = e' ∧ (q, Cl 40 [pb C]) :: (C, Cl 78 [sv Z S aa, sv ab T ac, sv ad U ae, sv af V ag, sv H p I, sv ah W ai, sv aj X ak, sv A6 F c7, sv al G am, .map (some an)]) :: (k ++ (i ++ (g ++ (c ++ (d ++ R))))) = hp' ∧ cj.Le az) bO ⟨rfl, rfl, lr⟩ ?_ ?_
 rintro aQ _ az _ _ cW ck ⟨rfl, rfl, a⟩ J aO
 unfold Y8 at J
 have hm := J
 refine Cr<|tS (lT rfl rfl (by omega))<|Te<|Cs<|k7 rfl<|Ck<|Xn<|Cs<|Cb<|Cr ?_
 obtain ⟨aA, cl, hm⟩ := bS hm
 obtain ⟨cm, bP, bQ⟩ := iS cl
 obtain ⟨cX, cY, dt, du, cZ, bR, bf, aR, bg, c0, cq⟩ := OS.get (sz := 4) rfl (by decide) (bK.le a) bQ
 obtain ⟨⟨_, _, rfl, rfl, ⟨_, _, rfl, rfl, ⟨_, _, rfl, rfl, rfl⟩⟩⟩, rfl⟩ := bR
 refine tS (sI cm rfl rfl bP bg aR q5x)<|tS (J6 (vs := [iv aA.Kind, iv aA.Place, iv aA.Position, iv aA.At]) 4 rfl P7 aR rfl (fun w ho j u hu => bf w _ ho (.cons _ (.cons _ (Kb _ _))) j u hu))<|tD (uA [iv 0, iv 0, iv 0, iv 0] q7I rfl) ?_
 rintro _ _ ⟨dv, rfl, rfl⟩
 refine tD (uN (vs := [_, _, _, _]) 0 4 rfl rfl rfl z1G rfl (mc rfl (mc rfl (mc rfl (mc rfl mn)))) rfl (by simp)) ?_
 rintro _ _ rfl
 refine Te ?_
 obtain ⟨cn, bT, bU⟩ := bS hm
 refine Cj (fun bL e' hp' => [(1, kv ads aP), (2, pb q), (11, sv bI Y bJ), (12, iv ((Y.length : Int))), (13, iv ((aQ : Int))), (45, bv cn)] = e' ∧ (q, Cl 40 [pb C]) :: (C, Cl 78 [sv Z S aa, sv ab T ac, sv ad U ae, sv af V ag, sv H p I, sv ah W ai, sv aj X ak, sv A6 F c7, sv al G am, .map (some an)]) :: (k ++ (i ++ (g ++ (c ++ (d ++ R))))) = hp' ∧ az.Le bL) ?_ ?_
 have hm := bT
 by_cases r : 0 < aA.Position
 rw [if_pos r] at hm
 obtain ⟨l, aT, hm⟩ := bS hm
 obtain ⟨aD, aB, hm⟩ := bS hm
 rcases Kg aD with s | s
 rw [if_pos s] at hm
 obtain ⟨c1, bV, hm⟩ := bS hm
 refine Di mixed (.refl _)<|E0 0 rfl (sF rfl q0Z)<|Es 1 rfl (sL 0 rfl Q8 rfl rfl)<|E0 2 rfl (q7S rfl rfl r)<|E0 3 rfl (sM rfl)<|Ey 4 20 rfl (sL 1 rfl z7F rfl rfl)<|Yz 5 20 rfl (sN rfl)<|Yz 6 20 rfl (sF rfl q0o)<|Ey 7 20 rfl (sL 2 rfl q4V rfl rfl)<|Yz 8 20 rfl (sF rfl q3N)<|Ey 9 20 rfl (sL 0 rfl Q8 rfl rfl) ?_
 obtain ⟨aE, aq, ar⟩ := iS aT
 obtain ⟨bh, bi, bW, bX, bj, au, K, t, L, bk, aU⟩ := OS.get (sz := 5) rfl (by decide) (h8.le (f.trans a)) ar
 obtain ⟨⟨_, _, rfl, rfl, ⟨_, _, rfl, rfl, ⟨_, _, rfl, rfl, ⟨_, _, rfl, rfl, rfl⟩⟩⟩⟩, rfl⟩ := au
 refine Yz 10 20 rfl (sI aE rfl rfl aq L t q7f)<|Ey 11 20 rfl (J6 (vs := [iv l.axles, bv l.disturbed, iv l.position, iv l.moving, bv l.failed]) 5 rfl z1Z t rfl (fun w ho j u hu => K w _ ho (.cons _ (.cons _ (.cons _ (ss k (ss i (Kb _ _)))))) j u hu))<|Eo<|Da [12] (by kernel_rfl) rfl<|q3j lr rfl rfl 20 rfl rfl rfl (uW _ z9W rfl (fun w ho => q8G _ [] l aD aB) (fun _ _ _ h => h.2.symm)) ?_ ?_
 rintro _ _ ⟨⟨_, rfl, _⟩, rfl⟩
 refine iR<|q3S 29 rfl (v' := .bool true) (by rw [s])<|Ei lr (.refl _)<|Yz 13 20 rfl (Y7 rfl)<|Yz 14 20 rfl (sM rfl)<|Ey 15 31 rfl (sL 1 rfl z7F rfl rfl)<|Yz 16 31 rfl (sN rfl)<|Yz 17 31 rfl (sF rfl q0o)<|Ey 18 31 rfl (sL 2 rfl q4V rfl rfl)<|Yz 19 31 rfl (sF rfl q3N)<|Ey 20 31 rfl (sL 0 rfl Q8 rfl rfl) ?_
 obtain ⟨bY, bl, bm⟩ := iS bV
 obtain ⟨cr, cs, c2, c3, ct, bn, aV, aJ, aW, cu, co⟩ := OS.get (sz := 5) rfl (by decide) (h8.le (f.trans a)) bm
 obtain ⟨⟨_, _, rfl, rfl, ⟨_, _, rfl, rfl, ⟨_, _, rfl, rfl, ⟨_, _, rfl, rfl, rfl⟩⟩⟩⟩, rfl⟩ := bn
 refine Yz 21 31 rfl (sI bY rfl rfl bl aW aJ q7f)<|Yz 22 31 rfl (sQ rfl aJ q5J)<|Ey 23 31 rfl (Q3 rfl Q8 (fun w ho => aV w _ ho (.cons _ (.cons _ (.cons _ (ss k (ss i (Kb _ _)))))) 2 _ rfl))<|Yz 24 31 rfl (sF rfl q0Z)<|Ey 25 31 rfl (sL 0 rfl Q8 rfl rfl)<|Yz 26 31 rfl (q2 rfl rfl)<|Yz 27 20 rfl (pF rfl rfl)<|E0 28 rfl (pT rfl rfl)<|Eo<|Dd (by kernel_rfl) ?_
 obtain rfl := o1 hm
 exact jJ ⟨rfl, rfl, lr⟩
 exact Rn
 rw [if_neg (fun hh => Bool.noConfusion (hh.symm.trans s))] at hm
 refine Di mixed (.refl _)<|E0 0 rfl (sF rfl q0Z)<|Es 1 rfl (sL 0 rfl Q8 rfl rfl)<|E0 2 rfl (q7S rfl rfl r)<|E0 3 rfl (sM rfl)<|Ey 4 20 rfl (sL 1 rfl z7F rfl rfl)<|Yz 5 20 rfl (sN rfl)<|Yz 6 20 rfl (sF rfl q0o)<|Ey 7 20 rfl (sL 2 rfl q4V rfl rfl)<|Yz 8 20 rfl (sF rfl q3N)<|Ey 9 20 rfl (sL 0 rfl Q8 rfl rfl) ?_
 obtain ⟨aE, aq, ar⟩ := iS aT
 obtain ⟨bh, bi, bW, bX, bj, au, K, t, L, bk, aU⟩ := OS.get (sz := 5) rfl (by decide) (h8.le (f.trans a)) ar
 obtain ⟨⟨_, _, rfl, rfl, ⟨_, _, rfl, rfl, ⟨_, _, rfl, rfl, ⟨_, _, rfl, rfl, rfl⟩⟩⟩⟩, rfl⟩ := au
 refine Yz 10 20 rfl (sI aE rfl rfl aq L t q7f)<|Ey 11 20 rfl (J6 (vs := [iv l.axles, bv l.disturbed, iv l.position, iv l.moving, bv l.failed]) 5 rfl z1Z t rfl (fun w ho j u hu => K w _ ho (.cons _ (.cons _ (.cons _ (ss k (ss i (Kb _ _)))))) j u hu))<|Eo<|Da [12] (by kernel_rfl) rfl<|q3j lr rfl rfl 20 rfl rfl rfl (uW _ z9W rfl (fun w ho => q8G _ [] l aD aB) (fun _ _ _ h => h.2.symm)) ?_ ?_
 rintro _ _ ⟨⟨_, rfl, _⟩, rfl⟩
 refine iR<|q3S 29 rfl (v' := .bool false) (by rw [s])<|Ei lr (.refl _)<|Yz 13 20 rfl (q0r rfl)<|Yz 14 20 rfl (sM rfl)<|eN 15 rfl<|eN 16 rfl<|eN 17 rfl<|eN 18 rfl<|eN 19 rfl<|eN 20 rfl<|eN 21 rfl<|eN 22 rfl<|eN 23 rfl<|eN 24 rfl<|eN 25 rfl<|eN 26 rfl<|Yz 27 20 rfl (pT rfl rfl)<|E0 28 rfl (pT rfl rfl)<|Eo<|Dd (by kernel_rfl) ?_
 obtain rfl := o1 hm
 exact jJ ⟨rfl, rfl, lr⟩
 exact Rn
 rw [if_neg r] at hm
 refine Di mixed (.refl _)<|E0 0 rfl (sF rfl q0Z)<|Es 1 rfl (sL 0 rfl Q8 rfl rfl)<|E0 2 rfl (q9X rfl rfl r)<|E0 3 rfl (sM rfl)<|eN 4 rfl<|eN 5 rfl<|eN 6 rfl<|eN 7 rfl<|eN 8 rfl<|eN 9 rfl<|eN 10 rfl<|eN 11 rfl<|eN 12 rfl<|eN 13 rfl<|eN 14 rfl<|eN 15 rfl<|eN 16 rfl<|eN 17 rfl<|eN 18 rfl<|eN 19 rfl<|eN 20 rfl<|eN 21 rfl<|eN 22 rfl<|eN 23 rfl<|eN 24 rfl<|eN 25 rfl<|eN 26 rfl<|eN 27 rfl<|E0 28 rfl (pF rfl rfl)<|Eo<|Dd (by kernel_rfl) ?_
 obtain rfl := o1 hm
 exact jJ ⟨rfl, rfl, lr⟩
 rintro bL _ _ ⟨rfl, rfl, aK⟩
 have hm := bU
 refine cB hm rfl (fun hm => ?_) fun hm => ?_
 refine Cr<|aS rfl<|Te<|Ct<|Xb<|Xr<|Xr<|Xb<|Xr ?_
 have bo := aO _ (Kd hm).symm
 rw [bo] at ao
 have hm := V8 ao
 obtain rfl := o1 hm
 exact rO ⟨rfl, rfl⟩ (f.trans (a.trans aK))
 refine Ck<|Xm<|Xn<|Cg<|tS (sa rfl rfl (by omega))<|mV rfl<|Tn ?_
 exact jM hm ⟨rfl, rfl, ((a.trans aK))⟩
 rintro _ az _ _ ⟨rfl, rfl, a⟩ bp
 rw [bp] at ao
 have hm := G0 ao
 refine Cr<|tS (lF rfl rfl (by omega))<|Te<|Cs<|w9 rfl<|Ce<|Xe<|Xe<|Xo<|Xn<|Cs<|Cr<|tS (sL 0 rfl z7F rfl rfl)<|tS (sN rfl)<|tS (sF rfl z0R)<|tS (sF rfl q7z)<|tS (sL 1 rfl z5x rfl rfl)<|tS (sE rfl z8z)<|mV rfl<|Te<|Cb ?_
 have cv : p.length ≤ 9223372036854775807 := (FZ.bd (bN.le (f.trans a)))
 refine Cp 1 rfl<|Cp 1 rfl<|q2R k i g c d<|q2R d k i g c<|q2R c d k i g<|q2R g c d k i ?_
 obtain ⟨c4, bq, E⟩ := bS hm
 refine lF (fun aF => fun aG => fun av e' hp' => [(1, kv ads aG), (2, pb q), (51, sv H p I), (52, iv ((p.length : Int))), (53, iv ((aF : Int)))] = e' ∧ (q, Cl 40 [pb C]) :: (C, Cl 78 [sv Z S aa, sv ab T ac, sv ad U ae, sv af V ag, sv H p I, sv ah W ai, sv aj X ak, sv A6 F c7, sv al G am, .map (some an)]) :: (i ++ (g ++ (c ++ (d ++ R)))) = hp' ∧ az.Le av) bq ⟨rfl, rfl, lr⟩ ?_ ?_
 rintro aF aG av _ _ cw ch ⟨rfl, rfl, e⟩ D aH
 unfold K4 at D
 have hm := D
 refine Cr<|tS (lT rfl rfl (by omega))<|Te<|Cs<|k7 rfl<|Ck<|Xn<|Cs<|Cb<|Cr<|mV rfl ?_
 have zz := f.trans (a.trans e)
 obtain ⟨aw, bZ, cx, br, cy, bs, aX, aL, aY, hm⟩ := bF (sz := 2) hm (bN.le zz)
 obtain ⟨_, _, rfl, rfl, rfl⟩ := bs
 refine tS (sI bZ rfl rfl br aY aL z8z)<|tS (sP (vs := [iv aw.Section, iv aw.Close]) 2 rfl j0u aL rfl (fun j u hu => aX j u hu))<|tD (uA [iv 0, iv 0] z5g rfl) ?_
 rintro _ _ ⟨b0, rfl, rfl⟩
 refine aS rfl<|tD (uN (vs := [_, _]) 0 2 rfl rfl rfl z8A rfl (mc rfl (mc rfl mn)) rfl (by simp)) ?_
 rintro _ _ rfl
 refine Te<|Cr<|mV rfl ?_
 obtain ⟨aI, aZ, hm⟩ := bS hm
 obtain ⟨b1, b2, hm⟩ := bS hm
 refine Tr 1 rfl (v' := .pointer (some ⟨(ads aI), 0, none⟩)) (by rw [aZ]; rfl)<|Tr 58 rfl (v' := .pointer (some ⟨(ads aI), 0, none⟩)) (by rw [aZ]; rfl) ?_
 obtain ⟨cz, cA, x, aM, bt, hf1269⟩ := OAr.take (h3.le zz) b2
 obtain ⟨b3, b4, c5, c6, c8, c9, y, da, db, z, rfl, b5, dc, dd, de, rfl⟩ := bt
 refine q2B [_, _, _] i x y z (g ++ (c ++ (d ++ R))) rfl aM<|tS (sN rfl)<|tS (sF rfl q2O)<|tS (sF rfl P6)<|tS (sL 0 rfl q3A rfl rfl)<|tS (q2m _ _ rfl rfl) ?_
 obtain ⟨a0, a1, hm⟩ := bS hm
 refine J3 1 rfl<|Tg _ rfl z5V rfl (q6L _ _ b1.Route.Steps aw.Section aw.Close b0 b3 b4 b5 a0 a1) ?_
 rintro _ b6 _ O ⟨rfl, rfl⟩
 refine aS rfl<|Te<|Cp 1 rfl<|j3Q y z x<|j3Q x y z<|j3Q z x y<|z4J [_, _, _] i x y z (g ++ (c ++ (d ++ R))) rfl aM ?_
 obtain ⟨b7, bu, bw⟩ := bS hm
 refine Cj (fun a2 e' hp' => [(1, kv ads (some aI)), (2, pb q), (51, sv H p I), (52, iv ((p.length : Int))), (53, iv ((aF : Int))), (76, bv b7)] = e' ∧ (q, Cl 40 [pb C]) :: (C, Cl 78 [sv Z S aa, sv ab T ac, sv ad U ae, sv af V ag, sv H p I, sv ah W ai, sv aj X ak, sv A6 F c7, sv al G am, .map (some an)]) :: (i ++ (g ++ (c ++ (d ++ R)))) = hp' ∧ b6.Le a2) ?_ ?_
 have hm := bu
 refine Cg<|mV rfl ?_
 rcases Kg a0 with A | A
 rw [if_pos A] at hm
 refine Tr 65 rfl (v' := .bool true) (by rw [A] <;> rfl)<|mV rfl<|yS<|tS (sL 1 rfl z7F rfl rfl)<|yS<|tS (sN rfl)<|yS<|tS (sF rfl z3o)<|yS<|tS (sL 2 rfl j1g rfl rfl)<|yS<|mV rfl<|yS ?_
 obtain ⟨ax, b8, hm⟩ := bS hm
 obtain ⟨b9, bx, bz⟩ := iS b8
 obtain ⟨cC, cD, df, dg, cE, bA, a3, aN, a4, cG, cp⟩ := OS.get (sz := 3) rfl (by decide) (ci.le (f.trans (a.trans (e.trans O)))) bz
 obtain ⟨⟨_, _, rfl, rfl, ⟨_, _, rfl, rfl, rfl⟩⟩, rfl⟩ := bA
 refine tS (sI b9 rfl rfl bx a4 aN z5n)<|yS<|tS (J6 (vs := [iv ax.left, bv ax.wanted, bv ax.failed]) 3 rfl j7k aN rfl (fun w ho j u hu => a3 w _ ho (.cons _ (.cons _ (.cons _ (ss i (ss g (Kb _ _)))))) j u hu))<|yS ?_
 obtain ⟨ca, a5, hm⟩ := bS hm
 refine tD (uW _ j4c rfl (fun w ho => z1i _ [] ax ca a5) (fun _ _ _ h => h.2.symm)) ?_
 rintro _ _ ⟨⟨_, rfl, _⟩, rfl⟩
 refine yS<|tS (sn2 rfl)<|tS (pT rfl rfl)<|Tn ?_
 obtain rfl := o1 hm
 exact jJ ⟨rfl, rfl, lr⟩
 rw [if_neg (fun hh => Bool.noConfusion (hh.symm.trans A))] at hm
 refine Tr 65 rfl (v' := .bool false) (by rw [A] <;> rfl)<|mV rfl<|nO<|nO<|nO<|nO<|nO<|nO<|nO<|nO<|nO<|tS (pF rfl rfl)<|Tn ?_
 obtain rfl := o1 hm
 exact jJ ⟨rfl, rfl, lr⟩
 rintro a2 _ _ ⟨rfl, rfl, aC⟩
 have hm := bw
 refine cB hm rfl (fun hm => ?_) fun hm => ?_
 refine Cr<|aS rfl<|Te<|Ct<|Xb<|Xr<|Xr<|Xb<|Xr ?_
 have bB := aH _ (Kd hm).symm
 rw [bB] at E
 have hm := V8 E
 obtain rfl := o1 hm
 exact rO ⟨rfl, rfl⟩ (f.trans (a.trans (e.trans (O.trans aC))))
 refine Ck<|Xm<|Xn<|Cg<|tS (sa rfl rfl (by omega))<|mV rfl<|Tn ?_
 exact jM hm ⟨rfl, rfl, ((e.trans (O.trans aC)))⟩
 rintro aG av _ _ ⟨rfl, rfl, e⟩ bC
 rw [bC] at E
 have hm := G0 E
 refine Cr<|tS (lF rfl rfl (by omega))<|Te<|Cs<|w9 rfl<|Ce<|Xe<|Xe<|Xo<|Xn ?_
 obtain ⟨cb, bD, bE⟩ := bS hm
 refine Cj (fun a6 e' hp' => [(4, bv cb)] = e' ∧ (C, Cl 78 [sv Z S aa, sv ab T ac, sv ad U ae, sv af V ag, sv H p I, sv ah W ai, sv aj X ak, sv A6 F c7, sv al G am, .map (some an)]) :: (i ++ (g ++ (c ++ (d ++ R)))) = hp' ∧ av.Le a6) ?_ ?_
 have hm := bD
 refine Cg<|mV rfl ?_
 obtain ⟨a7, a8, hm⟩ := bS hm
 obtain ⟨a9, cc, hm⟩ := bS hm
 refine Tr 1 rfl (v' := .pointer (some ⟨(ads a7), 0, none⟩)) (by rw [a8]; rfl)<|Tr 78 rfl (v' := .pointer (some ⟨(ads a7), 0, none⟩)) (by rw [a8]; rfl) ?_
 obtain ⟨cH, cJ, m, ay, bG, hf1375⟩ := OAr.take (h3.le (f.trans (a.trans e))) cc
 obtain ⟨cd, ce, dh, di, dj, dk, n, dl, dm, o, rfl, cf, dn, dp, dq, rfl⟩ := bG
 refine q2B [_, _] i m n o (g ++ (c ++ (d ++ R))) rfl ay<|tS (sN rfl)<|tS (sF rfl z9C)<|tS (sL 0 rfl q6p rfl rfl) ?_
 rcases Kg a9.sight with B | B
 rw [if_pos B] at hm
 refine Tr 81 rfl (v' := .bool true) (by rw [B] <;> rfl)<|mV rfl<|nO<|nO<|nO<|nO<|nO<|nO<|nO<|nO<|tS (pT rfl rfl)<|aS rfl<|Tn<|Y9 n o m<|Y9 m n o<|Y9 o m n<|q3I [_, _] i m n o (g ++ (c ++ (d ++ R))) rfl ay ?_
 obtain rfl := o1 hm
 exact jJ ⟨rfl, rfl, lr⟩
 rw [if_neg (fun hh => Bool.noConfusion (hh.symm.trans B))] at hm
 refine Tr 81 rfl (v' := .bool false) (by rw [B] <;> rfl)<|mV rfl<|yS<|mV rfl<|yS<|tS (sN rfl)<|yS<|tS (sF rfl q2O)<|yS<|tS (sF rfl P6)<|yS<|tS (sL 0 rfl q3A rfl rfl)<|yS<|tS (q2m _ _ rfl rfl)<|yS<|j3d n o m<|j3d m n o<|j3d o m n<|j4z [_, _] i m n o (g ++ (c ++ (d ++ R))) rfl ay ?_
 obtain ⟨cg, ba, hm⟩ := bS hm
 have zy := f.trans (a.trans e)
 refine J3 1 rfl<|J3 1 rfl<|q2k i g c d<|q2k d i g c<|q2k c d i g<|G7 [_, _] [] g c d i R rfl<|Tg _ rfl z5V rfl (q6K _ _ a9.Route.Steps S T U V p W X F G bM bd ads q C cd ce Z aa ab ac ad ae af ag H I ah ai aj ak A6 c7 g al am c an d i cf (cK.le zy) (cO.le zy) (cP.le zy) (cQ.le zy) (bN.le zy) (cR.le zy) (cT.le zy) (h8.le zy) (ci.le zy) (cU.le zy) (h3.le zy) cg ba) ?_
 rintro _ dr _ bb ⟨rfl, rfl⟩
 refine q3K [_, _] [] g c d i R rfl<|yS<|tS (sn2 rfl)<|tS (pF rfl rfl)<|aS rfl<|Tn ?_
 obtain rfl := o1 hm
 exact jJ ⟨rfl, rfl, bb⟩
 rintro a6 _ _ ⟨rfl, rfl, bc⟩
 have hm := bE
 refine Ct ?_
 obtain rfl := o1 hm
 exact rO ⟨rfl, rfl⟩ (f.trans (a.trans (e.trans bc)))
end Go.Proofs.YtjlollifgeggdaaGreatDoor
