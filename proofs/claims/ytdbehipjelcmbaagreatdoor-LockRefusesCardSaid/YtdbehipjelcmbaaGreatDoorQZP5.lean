import Derived.Test.YtdbehipjelcmbaaGreatDoorQZP4
set_option linter.unusedVariables false
set_option linter.unusedSimpArgs false
set_option linter.unusedSectionVars false
namespace Go.Proofs.YtdbehipjelcmbaaGreatDoor
open Go.RowKit Go.Fp
set_option maxHeartbeats 4000000
set_option maxRecDepth 20000
open Go.Fp renaming q4t → Te, q6p → Tn, q4S → Tb, q6q → Tg, q7X → Tv, z3Z → Tr, q5Y → Cr, q2V → Cs, q0w → Cg, q6K → Cb, q3M → Ct, q3d → Ck, z1j → Ce, z2z → Cj, q9m → Cp, Q4 → Xn, V5 → Xr, q1q → Xe, q1r → Xb, q0k → Xm, q2m → Xo, z2H → Xp, q7T → X3, q7S → X4, j1C → Es, z7Y → E0, j1B → Ey, j6t → Yz, j2v → Ei, z5X → Eo, z7U → Da, z2F → Dd, z1B → Di, j6g → Rd2, z7T → Rn, q8R → sL, q5N → sD, q6Z → sF, z2l → sN, z0C → sE, q3S → sM, q1Z → sA, q5s → pT, q5t → pF, q0B → sI, q2n → sO, q2v → sP, q2w → sQ, z0G → sa, z6g → sb, q5L → lT, q5M → lF, q6d → sn2, z2L → uB, q7v → uA, z0r → uS, q4Q → uN, q5I → uW, z0s → uP, z0t → uQ, q3L → fE, q7L → bS, z2V → o1, q4Y → iS, q5K → ss, z0x → sp, q8t → kS, j6T → nt, j6U → nf, z3A → d4, z7w → mc, z7v → mn, z0F → q1, q7Y → q2, z2m → q3, z0D → q5, z0E → q6
theorem z2b (b : k8) (R : Hp) (X Y Z aa ab ac ad br aK dU dV) (ads : Int → Nat) (O ag ah ai aj ak al am an ao aq ar au av aw A3 c4 bK A8 c9 aD W A B) (cb : FZ RT.str b.w ag ah X) (cc : FZ j3 b.w ai aj Y) (cd : FZ w6 b.w ak al Z) (ce : FZ j6 b.w am an aa) (cf : FZ w7 b.w ao aq ab) (cg : FZ Q3 b.w ar au ac) (ch : FZ (RT.list j8) b.w av aw ad) (h5 : OS 59 (OT.fr j9) b.w (sv A3 br c4) br bK) (eL : OS 127 (OT.fr v8) b.w (sv A8 aK c9) aK aD) (eM : OM rI (OT.fr (RT.key ads)) false false b.w W dU A) (eO : OAr 85 z8 ads b.w dV B) (bc bd ci cj) (hm : q2d X Y Z aa ab ac ad br aK dU dV = some (bc, bd, ci, cj)):
 w8 Tryz.prog 30 [pb O] b ((O, Cl 57 [sv ag X ah, sv ai Y aj, sv ak Z al, sv am aa an, sv ao ab aq, sv ar ac au, sv av ad aw, sv A3 br c4, sv A8 aK c9, .map (some W)]) :: (bK ++ (aD ++ (A ++ (B ++ R))))) (fun v b' hp' => ∃ bX bY bZ b0, .tuple #[] = v ∧ (O, Cl 57 [sv ag X ah, sv ai Y aj, sv ak Z al, sv am aa an, sv ao ab aq, sv ar ac au, sv av ad aw, sv A3 bc c4, sv A8 bd c9, .map (some W)]) :: (bX ++ (bY ++ (bZ ++ (b0 ++ R)))) = hp' ∧ OS 59 (OT.fr j9) b'.w (sv A3 bc c4) bc bX ∧ bc.length = br.length ∧ OS 127 (OT.fr v8) b'.w (sv A8 bd c9) bd bY ∧ bd.length = aK.length ∧ OM rI (OT.fr (RT.key ads)) false false b'.w W ci bZ ∧ OAr 85 z8 ads b'.w cj b0) := by
 refine fE 185 Tryz.func30 rfl Tryz.ntmps30 rfl ?_
 unfold q2d at hm
 refine Cs<|Cr<|mV rfl<|tS (sN rfl)<|tS (sF rfl V1)<|tS (sL 0 rfl q1p rfl rfl)<|tS (sE rfl q3O)<|mV rfl<|Te<|Cb ?_
 have eX : br.length ≤ 9223372036854775807 := (OS.len h5)
 refine F0 bK aD A B<|F0 B bK aD A<|F0 A B bK aD<|F0 aD A B bK ?_
 obtain ⟨C, c8, da⟩ := bS hm
 refine lS (fun aL => fun C => fun aM e' hp' => ∃ a, [(0, pb O), (16, iv ((br.length : Int))), (17, iv ((aL : Int)))] = e' ∧ (O, Cl 57 [sv ag X ah, sv ai Y aj, sv ak Z al, sv am aa an, sv ao ab aq, sv ar ac au, sv av ad aw, sv A3 C c4, sv A8 aK c9, .map (some W)]) :: (a ++ (aD ++ (A ++ (B ++ R)))) = hp' ∧ b.Le aM ∧ OS 59 (OT.fr j9) aM.w (sv A3 C c4) C a ∧ C.length = br.length) c8 ⟨bK, rfl, rfl, lr, h5, rfl⟩ ?_ ?_
 rintro aL C aM _ _ eY eG ⟨a, rfl, rfl, f, ae, az⟩ a7
 unfold Y5 at a7
 have hm := a7
 refine Cr<|tS (lT rfl rfl (by omega))<|Te<|Cs<|k9 rfl<|Ck<|Xn<|Cs<|Cb<|Cr<|mV rfl<|aS rfl<|Te<|Cr<|mV rfl<|tS (sN rfl)<|tS (sF rfl V1)<|tS (sL 0 rfl q1p rfl rfl)<|mV rfl ?_
 obtain ⟨F, dW, hm⟩ := bS hm
 obtain ⟨bL, b1, b2⟩ := iS dW
 obtain ⟨e0, e1, fC, fD, e2, db, be, S, ck, e3, eP⟩ := OS.get (sz := 5) rfl (by decide) ae b2
 obtain ⟨⟨_, _, rfl, rfl, ⟨_, _, rfl, rfl, ⟨_, _, rfl, rfl, ⟨_, _, rfl, rfl, rfl⟩⟩⟩⟩, rfl⟩ := db
 refine tS (sI bL rfl rfl b1 ck S q3O)<|aS rfl<|Te<|Cs ?_
 obtain ⟨dX, dc, dd⟩ := bS hm
 refine Cj (fun cl e' hp' => [(0, pb O), (3, .pointer (Option.map (fun (x : Addr) => x.add (bL * 5)) A3)), (16, iv ((br.length : Int))), (17, iv ((aL : Int))), (36, bv dX)] = e' ∧ (O, Cl 57 [sv ag X ah, sv ai Y aj, sv ak Z al, sv am aa an, sv ao ab aq, sv ar ac au, sv av ad aw, sv A3 C c4, sv A8 aK c9, .map (some W)]) :: (a ++ (aD ++ (A ++ (B ++ R)))) = hp' ∧ aM.Le cl) ?_ ?_
 have hm := dc
 refine Cg<|mV rfl<|tS (Q8 rfl S)<|tS (sQ rfl S q3U)<|tS (w9 rfl Q5 (fun w ho => be w _ ho (.cons _ (Kb _ _)) 3 _ rfl))<|Tb rfl (q1 rfl rfl) (fun bs => ?_) (fun bs => ?_)
 rw [if_pos bs] at hm
 refine mV rfl<|nO<|nO<|nO<|nO<|tS (pT rfl rfl)<|Tn ?_
 obtain rfl := o1 hm
 exact jJ ⟨rfl, rfl, lr⟩
 rw [if_neg bs] at hm
 refine mV rfl<|yS<|mV rfl<|yS<|tS (Q8 rfl S)<|yS<|tS (sQ rfl S q6C)<|yS<|tS (w9 rfl q4J (fun w ho => be w _ ho (.cons _ (Kb _ _)) 4 _ rfl))<|tS (pF rfl rfl)<|Tn ?_
 obtain rfl := o1 hm
 exact jJ ⟨rfl, rfl, lr⟩
 rintro cl _ _ ⟨rfl, rfl, ax⟩
 have hm := dd
 refine cB hm rfl (fun hm => ?_) fun hm => ?_
 refine Ce<|Xe<|Xo<|Xn<|Cg<|tS (sa rfl rfl (by omega))<|mV rfl<|Tn ?_
 obtain rfl := o1 hm
 exact jS ⟨a, rfl, rfl, ((f.trans ax)), (ae.le ax), az⟩
 refine Ck<|Xn<|Cr<|mV rfl<|tS (Q8 rfl S)<|tS (sQ rfl S q3U)<|tS (w9 rfl Q5 (fun w ho => be w _ (ax.back _ _ ho) (.cons _ (Kb _ _)) 3 _ rfl)) ?_
 obtain ⟨_, bM, hm⟩ := bS hm
 have bM := (kS bM).2
 refine tS (sb rfl rfl bM)<|tS (Q8 rfl S)<|tS (sQ rfl S q3U)<|tD (uP b1 (sz := 5) (a' := (⟨F.axles, F.disturbed, F.position, F.moving - 1, F.failed⟩ : q8)) rfl [_] (aD ++ (A ++ (B ++ R))) 3 1 [iv (F.moving - 1)] rfl (ae.le ax) b2 rfl rfl rfl z1I rfl (mc rfl mn) (fun cs hsj hh => by obtain ⟨⟨_, _, rfl, rfl, ⟨_, _, rfl, rfl, ⟨_, _, rfl, rfl, ⟨_, _, rfl, rfl, rfl⟩⟩⟩⟩, rfl⟩ := hh; exact ⟨by first | decide | exact Nat.le_refl _, ⟨[iv F.axles], _, rfl, rfl, ⟨[bv F.disturbed], _, rfl, rfl, ⟨[iv F.position], _, rfl, rfl, ⟨[iv (F.moving - 1)], _, rfl, rfl, rfl⟩⟩⟩⟩, rfl⟩)) ?_
 rintro _ _ ⟨de, rfl, bN⟩
 refine Z9 0 rfl (o' := Cl 57 [sv ag X ah, sv ai Y aj, sv ak Z al, sv am aa an, sv ao ab aq, sv ar ac au, sv av ad aw, .slice A3 (put C (aL : Int) (⟨F.axles, F.disturbed, F.position, F.moving - 1, F.failed⟩ : q8)).length c4, sv A8 aK c9, .map (some W)]) (by simp only [sv, v7])<|Te<|Cr ?_
 obtain ⟨J, dY, hm⟩ := bS hm
 obtain ⟨dZ, df, b3⟩ := iS dY
 obtain rfl : bL = dZ := by omega
 obtain ⟨e4, e5, fF, fG, e6, dg, bJ, aC, eQ, e7, eR⟩ := OS.get (sz := 5) rfl (by decide) bN b3
 obtain ⟨⟨_, _, rfl, rfl, ⟨_, _, rfl, rfl, ⟨_, _, rfl, rfl, ⟨_, _, rfl, rfl, rfl⟩⟩⟩⟩, rfl⟩ := dg
 refine mV rfl<|tS (Q8 rfl aC)<|tS (sQ rfl aC q3U)<|tS (w9 rfl Q5 (fun w ho => bJ w _ ho (.cons _ (Kb _ _)) 3 _ rfl))<|tS (q1 rfl rfl)<|Te<|cI hm rfl (fun hm => ?_) fun hm => ?_
 refine Cg<|mV rfl<|mV rfl<|tS (Q8 rfl aC)<|tS (sQ rfl aC q4C)<|tS (w9 rfl Q5 (fun w ho => bJ w _ ho (.cons _ (Kb _ _)) 2 _ rfl)) ?_
 obtain ⟨_, bO, hm⟩ := bS hm
 have bO := (kS bO).2
 refine tS (sb rfl rfl bO)<|tS (Q8 rfl aC)<|tS (sQ rfl aC q4C)<|tD (uP df (sz := 5) (a' := (⟨J.axles, J.disturbed, 3 - J.position, J.moving, J.failed⟩ : q8)) rfl [_] (aD ++ (A ++ (B ++ R))) 2 1 [iv (3 - J.position)] rfl bN b3 rfl rfl rfl z1I rfl (mc rfl mn) (fun cs hsj hh => by obtain ⟨⟨_, _, rfl, rfl, ⟨_, _, rfl, rfl, ⟨_, _, rfl, rfl, ⟨_, _, rfl, rfl, rfl⟩⟩⟩⟩, rfl⟩ := hh; exact ⟨by first | decide | exact Nat.le_refl _, ⟨[iv J.axles], _, rfl, rfl, ⟨[bv J.disturbed], _, rfl, rfl, ⟨[iv (3 - J.position)], _, rfl, rfl, ⟨[iv J.moving], _, rfl, rfl, rfl⟩⟩⟩⟩, rfl⟩)) ?_
 rintro _ _ ⟨dh, rfl, d0⟩
 refine Z9 0 rfl (o' := Cl 57 [sv ag X ah, sv ai Y aj, sv ak Z al, sv am aa an, sv ao ab aq, sv ar ac au, sv av ad aw, .slice A3 (put (put C (aL : Int) (⟨F.axles, F.disturbed, F.position, F.moving - 1, F.failed⟩ : q8)) (aL : Int) (⟨J.axles, J.disturbed, 3 - J.position, J.moving, J.failed⟩ : q8)).length c4, sv A8 aK c9, .map (some W)]) (by simp only [sv, v7])<|Tn<|Xm<|Xn<|Cg<|tS (sa rfl rfl (by omega))<|mV rfl<|Tn ?_
 obtain rfl := o1 hm
 exact jS ⟨dh, rfl, rfl, ((f.trans ax)), d0, ((v7 _ _ _).trans ((v7 _ _ _).trans az))⟩
 refine Ck<|Xm<|Xn<|Cg<|tS (sa rfl rfl (by omega))<|mV rfl<|Tn ?_
 obtain rfl := o1 hm
 exact jS ⟨de, rfl, rfl, ((f.trans ax)), bN, ((v7 _ _ _).trans az)⟩
 rintro aM _ _ ⟨a, rfl, rfl, f, ae, az⟩
 have hm := da
 refine Cr<|tS (lF rfl rfl (by omega))<|Te<|Cs<|k7 rfl<|Ce<|Xe<|Xe<|Xo<|Xn<|Cs<|Cr<|mV rfl<|tS (sN rfl)<|tS (sF rfl q2u)<|tS (sL 0 rfl q7A rfl rfl)<|tS (sE rfl q7P)<|mV rfl<|Te<|Cb ?_
 have e8 : aK.length ≤ 9223372036854775807 := (OS.len eL)
 refine F0 a aD A B<|F0 B a aD A<|F0 A B a aD<|F0 aD A B a ?_
 obtain ⟨G, di, dj⟩ := bS hm
 refine lS (fun bt => fun G => fun bf e' hp' => ∃ c, [(0, pb O), (62, iv ((aK.length : Int))), (63, iv ((bt : Int)))] = e' ∧ (O, Cl 57 [sv ag X ah, sv ai Y aj, sv ak Z al, sv am aa an, sv ao ab aq, sv ar ac au, sv av ad aw, sv A3 C c4, sv A8 G c9, .map (some W)]) :: (a ++ (c ++ (A ++ (B ++ R)))) = hp' ∧ aM.Le bf ∧ OS 127 (OT.fr v8) bf.w (sv A8 G c9) G c ∧ G.length = aK.length) di ⟨aD, rfl, rfl, lr, (eL.le f), rfl⟩ ?_ ?_
 rintro bt G bf _ _ e9 eH ⟨c, rfl, rfl, e, ay, aF⟩ a8
 unfold Y4 at a8
 have hm := a8
 refine Cr<|tS (lT rfl rfl (by omega))<|Te<|Cs<|k9 rfl<|Ck<|Xn<|Cs<|Cb<|Cr<|mV rfl<|aS rfl<|Te<|Cr<|mV rfl<|tS (sN rfl)<|tS (sF rfl q2u)<|tS (sL 0 rfl q7A rfl rfl)<|mV rfl ?_
 obtain ⟨af, d1, hm⟩ := bS hm
 obtain ⟨cm, b4, b5⟩ := iS d1
 obtain ⟨fa, fb, fH, fI, fc, dk, aG, K, cn, fd, eS⟩ := OS.get (sz := 3) rfl (by decide) ay b5
 obtain ⟨⟨_, _, rfl, rfl, ⟨_, _, rfl, rfl, rfl⟩⟩, rfl⟩ := dk
 refine tS (sI cm rfl rfl b4 cn K q7P)<|aS rfl<|Te ?_
 obtain ⟨d5, dl, dm⟩ := bS hm
 refine Cj (fun co e' hp' => [(0, pb O), (5, .pointer (Option.map (fun (x : Addr) => x.add (cm * 3)) A8)), (62, iv ((aK.length : Int))), (63, iv ((bt : Int))), (89, bv d5)] = e' ∧ (O, Cl 57 [sv ag X ah, sv ai Y aj, sv ak Z al, sv am aa an, sv ao ab aq, sv ar ac au, sv av ad aw, sv A3 C c4, sv A8 G c9, .map (some W)]) :: (c ++ (a ++ (A ++ (B ++ R)))) = hp' ∧ bf.Le co) ?_ ?_
 have hm := dl
 refine Cg<|mV rfl<|tS (Q8 rfl K)<|tS (sQ rfl K q5W)<|tS (w9 rfl q4J (fun w ho => aG w _ ho (.cons _ (ss a (Kb _ _))) 1 _ rfl)) ?_
 rcases Kg af.wanted with aH | aH
 rw [if_pos aH] at hm
 refine Tr 75 rfl (v' := .bool true) (by rw [aH] <;> rfl)<|mV rfl<|yS<|mV rfl<|yS<|tS (Q8 rfl K)<|yS<|tS (sQ rfl K q7e)<|yS<|tS (w9 rfl Q5 (fun w ho => aG w _ ho (.cons _ (ss a (Kb _ _))) 0 _ rfl))<|yS<|Tb rfl (q5 rfl rfl) (fun bu => ?_) (fun bu => ?_)
 rw [if_pos bu] at hm
 refine tS (pT rfl rfl)<|mV rfl<|yS<|mV rfl<|yS<|tS (Q8 rfl K)<|yS<|tS (sQ rfl K q7d)<|yS<|tS (w9 rfl q4J (fun w ho => aG w _ ho (.cons _ (ss a (Kb _ _))) 2 _ rfl))<|yS<|tS (sn2 rfl)<|tS (pT rfl rfl)<|Tn ?_
 obtain rfl := o1 hm
 exact jJ ⟨rfl, rfl, lr⟩
 rw [if_neg bu] at hm
 refine tS (pT rfl rfl)<|mV rfl<|nO<|nO<|nO<|nO<|nO<|tS (pF rfl rfl)<|Tn ?_
 obtain rfl := o1 hm
 exact jJ ⟨rfl, rfl, lr⟩
 rw [if_neg (fun hh => Bool.noConfusion (hh.symm.trans aH))] at hm
 refine Tr 75 rfl (v' := .bool false) (by rw [aH] <;> rfl)<|mV rfl<|nO<|nO<|nO<|nO<|nO<|tS (pF rfl rfl)<|mV rfl<|nO<|nO<|nO<|nO<|nO<|tS (pF rfl rfl)<|Tn ?_
 obtain rfl := o1 hm
 exact jJ ⟨rfl, rfl, lr⟩
 rintro co _ _ ⟨rfl, rfl, aA⟩
 have hm := dm
 refine cB hm rfl (fun hm => ?_) fun hm => ?_
 refine Cg<|mV rfl<|tS (Q8 rfl K)<|tS (sQ rfl K q7e)<|tS (w9 rfl Q5 (fun w ho => aG w _ (aA.back _ _ ho) (.cons _ (Kb _ _)) 0 _ rfl)) ?_
 obtain ⟨_, bP, hm⟩ := bS hm
 have bP := (kS bP).2
 refine tS (sb rfl rfl bP)<|tS (Q8 rfl K)<|tS (sQ rfl K q7e)<|tD (uP b4 (sz := 3) (a' := (⟨af.left - 1, af.wanted, af.failed⟩ : z6)) rfl [_] (a ++ (A ++ (B ++ R))) 0 1 [iv (af.left - 1)] rfl (ay.le aA) b5 rfl rfl rfl z1I rfl (mc rfl mn) (fun cs hsj hh => by obtain ⟨⟨_, _, rfl, rfl, ⟨_, _, rfl, rfl, rfl⟩⟩, rfl⟩ := hh; exact ⟨by first | decide | exact Nat.le_refl _, ⟨[iv (af.left - 1)], _, rfl, rfl, ⟨[bv af.wanted], _, rfl, rfl, rfl⟩⟩, rfl⟩)) ?_
 rintro _ _ ⟨dn, rfl, d6⟩
 refine Z9 0 rfl (o' := Cl 57 [sv ag X ah, sv ai Y aj, sv ak Z al, sv am aa an, sv ao ab aq, sv ar ac au, sv av ad aw, sv A3 C c4, .slice A8 (put G (bt : Int) (⟨af.left - 1, af.wanted, af.failed⟩ : z6)).length c9, .map (some W)]) (by simp only [sv, v7])<|Tn<|Xm<|Xn<|Cg<|tS (sa rfl rfl (by omega))<|mV rfl<|Tn ?_
 obtain rfl := o1 hm
 exact jS ⟨dn, rfl, rfl, ((e.trans aA)), d6, ((v7 _ _ _).trans aF)⟩
 refine Ck<|Xm<|Xn<|Cg<|tS (sa rfl rfl (by omega))<|mV rfl<|Tn ?_
 obtain rfl := o1 hm
 exact jS ⟨c, rfl, rfl, ((e.trans aA)), (ay.le aA), aF⟩
 rintro bf _ _ ⟨c, rfl, rfl, e, ay, aF⟩
 have hm := dj
 refine Cr<|tS (lF rfl rfl (by omega))<|Te<|Cs<|k7 rfl<|Ce<|Xe<|Xe<|Xo<|Xn<|Cs<|Cr<|mV rfl ?_
 obtain ⟨bw, cp, hm⟩ := bS hm
 have zz := f.trans e
 refine Z4 a c A B<|Z4 B a c A<|Z4 A B a c<|Z4 c A B a<|Z7 [_] [] a c A B R rfl<|Tg _ rfl z6H rfl (q4n _ _ X Y Z aa ab ac ad C G dU dV ads O ag ah ai aj ak al am an ao aq ar au av aw A3 c4 a A8 c9 c W A B (cb.le zz) (cc.le zz) (cd.le zz) (ce.le zz) (cf.le zz) (cg.le zz) (ch.le zz) (ae.le e) ay (eM.le zz) (eO.le zz) bw cp) ?_
 rintro _ d7 _ i ⟨d8, d9, o, rfl, rfl, cq⟩
 refine z0w [_] [] o a c A B R rfl<|tS (sE rfl z2W)<|mV rfl<|Te<|Cb ?_
 have fe : bw.length ≤ 9223372036854775807 := (OS.len cq)
 refine P3 o a c A B<|P3 B o a c A<|P3 A B o a c<|P3 c A B o a<|P3 a c A B o ?_
 obtain ⟨⟨bg, bx⟩, dp, dq⟩ := bS hm
 refine lS (fun cr => K5 fun bg bx => fun bh e' hp' => ∃ d s, [(0, pb O), (99, sv d8 bw d9), (100, iv ((bw.length : Int))), (101, iv ((cr : Int)))] = e' ∧ (O, Cl 57 [sv ag X ah, sv ai Y aj, sv ak Z al, sv am aa an, sv ao ab aq, sv ar ac au, sv av ad aw, sv A3 C c4, sv A8 G c9, .map (some W)]) :: (o ++ (a ++ (c ++ (d ++ (s ++ R))))) = hp' ∧ d7.Le bh ∧ OM rI (OT.fr (RT.key ads)) false false bh.w W bg d ∧ OAr 85 z8 ads bh.w bx s) dp ⟨A, B, rfl, rfl, lr, (eM.le (f.trans (e.trans i))), (eO.le (f.trans (e.trans i)))⟩ ?_ ?_
 rintro cr ⟨bg, bx⟩ bh _ _ ff eI ⟨d, s, rfl, rfl, g, aE, bi⟩ a9
 unfold Y3 at a9
 have hm := J4 a9
 refine Cr<|tS (lT rfl rfl (by omega))<|Te<|Cs<|k9 rfl<|Ck<|Xn<|Cs<|Cb<|Cr ?_
 obtain ⟨fJ, ea, hm⟩ := bS hm
 obtain ⟨eb, dr, ds⟩ := iS ea
 obtain ⟨fg, fh, fK, fL, fi, dt, ct, du, cu, fj, eU⟩ := OS.get (sz := 1) rfl (by decide) (cq.le g) ds
 obtain ⟨rfl, rfl⟩ := dt
 refine tS (sI eb rfl rfl dr cu du z2W)<|tS (w9 rfl j0Q (fun w ho => ct w _ ho (.cons _ (Kb _ _)) 0 _ rfl))<|aS rfl<|Te<|Cs<|Cr<|mV rfl ?_
 obtain ⟨bj, bQ, hm⟩ := bS hm
 obtain ⟨h, ec, hm⟩ := bS hm
 refine Tr 7 rfl (v' := .pointer (some ⟨(ads bj), 0, none⟩)) (by rw [bQ]; rfl)<|Tr 104 rfl (v' := .pointer (some ⟨(ads bj), 0, none⟩)) (by rw [bQ]; rfl)<|Tr 105 rfl (v' := .pointer (some ⟨(ads bj), 0, none⟩)) (by rw [bQ]; rfl) ?_
 obtain ⟨fk, fl, D, b6, dv, hf1562⟩ := OAr.take bi ec
 obtain ⟨aN, aO, aP, aQ, aR, aT, t, aU, aV, u, rfl, cv, cw, cx, cy, rfl⟩ := dv
 refine q3R o a c d s<|q1W [_] s D t u (o ++ (a ++ (c ++ (d ++ R)))) rfl b6<|tS (sN rfl)<|tS (sF rfl q5U)<|tS (sL 0 rfl Q5 rfl rfl)<|tS (q1 rfl rfl)<|Te<|cI hm rfl (fun hm => ?_) fun hm => ?_
 refine Ce<|Xe<|Xo<|Xn<|Cg<|tS (sa rfl rfl (by omega))<|mV rfl<|Tn<|W7 t u D<|W7 D t u<|W7 u D t<|q2A [_] s D t u (o ++ (a ++ (c ++ (d ++ R)))) rfl b6 ?_
 obtain rfl := o1 hm
 exact jS ⟨d, s, rfl, rfl, (g), aE, bi⟩
 refine Ck<|Xn<|Cr<|mV rfl<|tS (sN rfl)<|tS (sF rfl q5U)<|tS (sL 0 rfl Q5 rfl rfl) ?_
 obtain ⟨_, bR, hm⟩ := bS hm
 have bR := (kS bR).2
 refine tS (sb rfl rfl bR)<|tS (sN rfl)<|tS (sF rfl q5U)<|tD (uS 0 rfl rfl z1I rfl rfl (by simp)) ?_
 rintro _ _ rfl
 refine Te<|Cr<|mV rfl<|tS (sN rfl)<|tS (sF rfl q5U)<|tS (sL 0 rfl Q5 rfl rfl)<|tS (q1 rfl rfl)<|Te<|cI hm rfl (fun hm => ?_) fun hm => ?_
 refine Di mixed (.refl _)<|E0 0 rfl (sM rfl)<|E0 1 rfl (sN rfl)<|E0 2 rfl (sF rfl q0J)<|Es 3 rfl (sL 1 rfl q5O rfl rfl)<|E0 4 rfl (sM rfl)<|E0 5 rfl (sN rfl)<|E0 6 rfl (sF rfl z5F)<|Es 7 rfl (sL 0 rfl Q5 rfl rfl)<|Eo<|j7g t u D o a c d<|Da [8] (by kernel_rfl) rfl<|Rd2 lr rfl rfl (z8f (k := h.number) z8R [_, _] (t ++ (u ++ (D ++ (o ++ (a ++ (c ++ R)))))) rfl aE q3a rfl rfl rfl) ?_ ?_
 rintro _ _ ⟨aI, rfl, rfl, ed⟩
 refine ⟨.inl (by kernel_rfl), ?_⟩
 refine Dd (by kernel_rfl)<|Xm<|Xn<|Cg<|tS (sa rfl rfl (by omega))<|mV rfl<|Tn<|q8O aI t u D<|q8O D aI t u<|q8O u D aI t ?_
 have ee := hf1562 _ [iv h.Route.From, iv h.Route.To, sv aN h.Route.Steps aO, sv aP h.needs aQ, sv aR h.seen aT, sv aU h.gone aV, bv h.laps, bv h.sight, iv (h.leave - 1), iv h.clock, iv h.number] (⟨h.Route, h.needs, h.seen, h.gone, h.laps, h.sight, h.leave - 1, h.clock, h.number⟩ : j0) _ lr ⟨aN, aO, aP, aQ, aR, aT, t, aU, aV, u, rfl, cv, cw, cx, cy, rfl⟩
 refine z0q [_] D t u (aI ++ (o ++ (a ++ (c ++ R)))) rfl ?_
 obtain rfl := o1 hm
 exact jS ⟨aI, (D ++ (((ads bj), Cl 85 [iv h.Route.From, iv h.Route.To, sv aN h.Route.Steps aO, sv aP h.needs aQ, sv aR h.seen aT, sv aU h.gone aV, bv h.laps, bv h.sight, iv (h.leave - 1), iv h.clock, iv h.number]) :: (t ++ u))), rfl, rfl, (g), ed, ee⟩
 exact Rn
 refine Ck<|Xm<|Xn<|Cg<|tS (sa rfl rfl (by omega))<|mV rfl<|Tn<|W7 t u D<|W7 D t u<|W7 u D t ?_
 have ef := hf1562 _ [iv h.Route.From, iv h.Route.To, sv aN h.Route.Steps aO, sv aP h.needs aQ, sv aR h.seen aT, sv aU h.gone aV, bv h.laps, bv h.sight, iv (h.leave - 1), iv h.clock, iv h.number] (⟨h.Route, h.needs, h.seen, h.gone, h.laps, h.sight, h.leave - 1, h.clock, h.number⟩ : j0) _ lr ⟨aN, aO, aP, aQ, aR, aT, t, aU, aV, u, rfl, cv, cw, cx, cy, rfl⟩
 refine z0q [_] D t u (o ++ (a ++ (c ++ (d ++ R)))) rfl ?_
 obtain rfl := o1 hm
 exact jS ⟨d, (D ++ (((ads bj), Cl 85 [iv h.Route.From, iv h.Route.To, sv aN h.Route.Steps aO, sv aP h.needs aQ, sv aR h.seen aT, sv aU h.gone aV, bv h.laps, bv h.sight, iv (h.leave - 1), iv h.clock, iv h.number]) :: (t ++ u))), rfl, rfl, (g), aE, ef⟩
 rintro bh _ _ ⟨d, s, rfl, rfl, g, aE, bi⟩
 have hm := J4 dq
 refine Cr<|tS (lF rfl rfl (by omega))<|Te<|Cs<|k7 rfl<|Ce<|Xe<|Xe<|Xo<|Xn<|Cs<|Cr<|mV rfl ?_
 obtain ⟨aW, cz, hm⟩ := bS hm
 have zy := f.trans (e.trans (i.trans g))
 refine q3R o a c d s<|q3R s o a c d<|q3R d s o a c<|q3R c d s o a<|Z7 [_] [] a c d s (o ++ R) rfl<|Tg _ rfl z6H rfl (q4n _ _ X Y Z aa ab ac ad C G bg bx ads O ag ah ai aj ak al am an ao aq ar au av aw A3 c4 a A8 c9 c W d s (cb.le zy) (cc.le zy) (cd.le zy) (ce.le zy) (cf.le zy) (cg.le zy) (ch.le zy) (ae.le (e.trans (i.trans g))) (ay.le (i.trans g)) aE bi aW cz) ?_
 rintro _ eg _ n ⟨cA, cC, m, rfl, rfl, cD⟩
 refine z0w [_] [] m a c d s (o ++ R) rfl<|tS (sE rfl z2W)<|mV rfl<|Te<|Cb ?_
 have fm : aW.length ≤ 9223372036854775807 := (OS.len cD)
 refine P3 m a c d s<|P3 s m a c d<|P3 d s m a c<|P3 c d s m a<|P3 a c d s m ?_
 obtain ⟨bz, dw, dx⟩ := bS hm
 refine lS (fun bT => fun bz => fun bk e' hp' => ∃ r, [(0, pb O), (132, sv cA aW cC), (133, iv ((aW.length : Int))), (134, iv ((bT : Int)))] = e' ∧ (O, Cl 57 [sv ag X ah, sv ai Y aj, sv ak Z al, sv am aa an, sv ao ab aq, sv ar ac au, sv av ad aw, sv A3 C c4, sv A8 G c9, .map (some W)]) :: (m ++ (a ++ (c ++ (d ++ (r ++ R))))) = hp' ∧ eg.Le bk ∧ OAr 85 z8 ads bk.w bz r) dw ⟨s, rfl, rfl, lr, (bi.le n)⟩ ?_ ?_
 rintro bT bz bk _ _ fn eJ ⟨r, rfl, rfl, l, aX⟩ ba
 unfold Y2 at ba
 have hm := ba
 refine Cr<|tS (lT rfl rfl (by omega))<|Te<|Cs<|k9 rfl<|Ck<|Xn<|Cs<|Cb<|Cr ?_
 obtain ⟨fM, eh, hm⟩ := bS hm
 obtain ⟨ei, dy, dz⟩ := iS eh
 obtain ⟨fo, fp, fN, fO, fq, dA, cE, dB, cG, fr, eV⟩ := OS.get (sz := 1) rfl (by decide) (cD.le l) dz
 obtain ⟨rfl, rfl⟩ := dA
 refine tS (sI ei rfl rfl dy cG dB z2W)<|tS (w9 rfl j0Q (fun w ho => cE w _ ho (.cons _ (Kb _ _)) 0 _ rfl))<|aS rfl<|Te ?_
 obtain ⟨⟨ej, ek⟩, dC, dD⟩ := bS hm
 refine Cj (fun cH e' hp' => [(0, pb O), (9, kv ads ej), (132, sv cA aW cC), (133, iv ((aW.length : Int))), (134, iv ((bT : Int))), (155, bv ek)] = e' ∧ (O, Cl 57 [sv ag X ah, sv ai Y aj, sv ak Z al, sv am aa an, sv ao ab aq, sv ar ac au, sv av ad aw, sv A3 C c4, sv A8 G c9, .map (some W)]) :: (m ++ (a ++ (c ++ (d ++ (r ++ R))))) = hp' ∧ bk.Le cH) ?_ ?_
 have hm := dC
 obtain ⟨cJ, cK, hm⟩ := bS hm
 obtain ⟨fP, el, hm⟩ := bS hm
 refine z1h 9 rfl (v' := .pointer (some ⟨(ads cJ), 0, none⟩)) (by rw [cK]; rfl)<|z1h 137 rfl (v' := .pointer (some ⟨(ads cJ), 0, none⟩)) (by rw [cK]; rfl) ?_
 obtain ⟨fs, ft, T, bA, dE, hf2039⟩ := OAr.take aX el
 obtain ⟨fQ, fR, fS, fT, fU, fV, U, fW, fX, V, rfl, fY, fZ, cO, f0, rfl⟩ := dE
 refine P3 m a c d r<|q8v [_] r T U V (m ++ (a ++ (c ++ (d ++ R)))) rfl bA ?_
 obtain ⟨_, aY, hm⟩ := bS hm
 obtain ⟨em, cP, hm⟩ := bS hm
 rcases Kg em with aJ | aJ
 rw [if_pos aJ] at hm
 refine Di mixed (.refl _)<|E0 0 rfl (sM rfl)<|E0 1 rfl (sN rfl)<|E0 2 rfl (sF rfl q1H)<|Es 3 rfl (sL 0 rfl q4w rfl rfl)<|E0 4 rfl (sM rfl)<|E0 5 rfl (sN rfl)<|E0 6 rfl (sF rfl q1H)<|Es 7 rfl (sL 0 rfl q4w rfl rfl)<|E0 8 rfl (sE rfl q8S) ?_
 have aY := (kS aY).2
 refine E0 9 rfl (sb rfl rfl aY) ?_
 obtain ⟨bU, bB, bC⟩ := iS cP
 obtain ⟨dF, dH, en, eo, dI, bD, bl, bE, bm, dJ, cQ⟩ := OS.get (sz := 1) rfl (by decide) cO bC
 obtain ⟨rfl, rfl⟩ := bD
 refine E0 10 rfl (sI bU rfl rfl bB bm bE q8S)<|Es 11 rfl (stB (w9 rfl q4J (fun w ho => bl w _ ho (.cons _ (.cons _ (Kb _ _))) 0 _ rfl)) aJ)<|E0 12 rfl (sM rfl)<|Yz 13 150 rfl (sM rfl)<|Yz 14 150 rfl (sN rfl)<|Yz 15 150 rfl (sF rfl z3p)<|Ey 16 150 rfl (sL 0 rfl q4J rfl rfl)<|E0 17 rfl (pT rfl rfl)<|Eo<|Dd (by kernel_rfl)<|W7 U V T<|W7 T U V<|W7 V T U<|q2A [_] r T U V (m ++ (a ++ (c ++ (d ++ R)))) rfl bA ?_
 obtain ⟨rfl, rfl⟩ := Z6 hm
 exact jJ ⟨rfl, rfl, lr⟩
 rw [if_neg (fun hh => Bool.noConfusion (hh.symm.trans aJ))] at hm
 refine Di mixed (.refl _)<|E0 0 rfl (sM rfl)<|E0 1 rfl (sN rfl)<|E0 2 rfl (sF rfl q1H)<|Es 3 rfl (sL 0 rfl q4w rfl rfl)<|E0 4 rfl (sM rfl)<|E0 5 rfl (sN rfl)<|E0 6 rfl (sF rfl q1H)<|Es 7 rfl (sL 0 rfl q4w rfl rfl)<|E0 8 rfl (sE rfl q8S) ?_
 have aY := (kS aY).2
 refine E0 9 rfl (sb rfl rfl aY) ?_
 obtain ⟨bU, bB, bC⟩ := iS cP
 obtain ⟨dF, dH, en, eo, dI, bD, bl, bE, bm, dJ, cQ⟩ := OS.get (sz := 1) rfl (by decide) cO bC
 obtain ⟨rfl, rfl⟩ := bD
 refine E0 10 rfl (sI bU rfl rfl bB bm bE q8S)<|Es 11 rfl (stB (w9 rfl q4J (fun w ho => bl w _ ho (.cons _ (.cons _ (Kb _ _))) 0 _ rfl)) aJ)<|E0 12 rfl (sM rfl)<|eN 13 rfl<|eN 14 rfl<|eN 15 rfl<|eN 16 rfl<|E0 17 rfl (pF rfl rfl)<|Eo<|Dd (by kernel_rfl)<|W7 U V T<|W7 T U V<|W7 V T U<|q2A [_] r T U V (m ++ (a ++ (c ++ (d ++ R)))) rfl bA ?_
 obtain ⟨rfl, rfl⟩ := Z6 hm
 exact jJ ⟨rfl, rfl, lr⟩
 rintro cH _ _ ⟨rfl, rfl, aB⟩
 have hm := J4 dD
 refine cB hm rfl (fun hm => ?_) fun hm => ?_
 refine Cr<|mV rfl ?_
 obtain ⟨bG, cR, hm⟩ := bS hm
 obtain ⟨j, ep, hm⟩ := bS hm
 refine Tr 9 rfl (v' := .pointer (some ⟨(ads bG), 0, none⟩)) (by rw [cR]; rfl)<|Tr 156 rfl (v' := .pointer (some ⟨(ads bG), 0, none⟩)) (by rw [cR]; rfl) ?_
 obtain ⟨fu, fv, L, dK, dL, hf2100⟩ := OAr.take (aX.le aB) ep
 obtain ⟨aZ, a0, a1, a2, a3, a4, H, a5, a6, I, rfl, cT, cU, cV, cW, rfl⟩ := dL
 refine q3R m a c d r<|q1W [_] r L H I (m ++ (a ++ (c ++ (d ++ R)))) rfl dK<|tS (sN rfl)<|tS (sF rfl z5G)<|tS (sL 0 rfl Q5 rfl rfl) ?_
 obtain ⟨_, bV, hm⟩ := bS hm
 have bV := (kS bV).2
 refine tS (sa rfl rfl bV)<|tS (sN rfl)<|tS (sF rfl z5G)<|tD (uS 0 rfl rfl z1I rfl rfl (by simp)) ?_
 rintro _ _ rfl
 refine Te<|Cr<|mV rfl<|tS (sN rfl)<|tS (sF rfl z5G)<|tS (sL 0 rfl Q5 rfl rfl)<|tS (q1 rfl rfl)<|Te<|cI hm rfl (fun hm => ?_) fun hm => ?_
 refine Cg<|mV rfl<|tS (sN rfl)<|tS (sF rfl z3p)<|tD (uS 0 rfl rfl z2o rfl rfl (by simp)) ?_
 rintro _ _ rfl
 refine Tn<|Xm<|Xn<|Cg<|tS (sa rfl rfl (by omega))<|mV rfl<|Tn<|W7 H I L<|W7 L H I<|W7 I L H ?_
 have eq := hf2100 _ [iv j.Route.From, iv j.Route.To, sv aZ j.Route.Steps a0, sv a1 j.needs a2, sv a3 j.seen a4, sv a5 j.gone a6, bv false, bv j.sight, iv j.leave, iv (j.clock + 1), iv j.number] (⟨j.Route, j.needs, j.seen, j.gone, false, j.sight, j.leave, j.clock + 1, j.number⟩ : j0) _ lr ⟨aZ, a0, a1, a2, a3, a4, H, a5, a6, I, rfl, cT, cU, cV, cW, rfl⟩
 refine z0q [_] L H I (m ++ (a ++ (c ++ (d ++ R)))) rfl ?_
 obtain rfl := o1 hm
 exact jS ⟨(L ++ (((ads bG), Cl 85 [iv j.Route.From, iv j.Route.To, sv aZ j.Route.Steps a0, sv a1 j.needs a2, sv a3 j.seen a4, sv a5 j.gone a6, bv false, bv j.sight, iv j.leave, iv (j.clock + 1), iv j.number]) :: (H ++ I))), rfl, rfl, ((l.trans aB)), eq⟩
 refine Ck<|Xm<|Xn<|Cg<|tS (sa rfl rfl (by omega))<|mV rfl<|Tn<|W7 H I L<|W7 L H I<|W7 I L H ?_
 have er := hf2100 _ [iv j.Route.From, iv j.Route.To, sv aZ j.Route.Steps a0, sv a1 j.needs a2, sv a3 j.seen a4, sv a5 j.gone a6, bv j.laps, bv j.sight, iv j.leave, iv (j.clock + 1), iv j.number] (⟨j.Route, j.needs, j.seen, j.gone, j.laps, j.sight, j.leave, j.clock + 1, j.number⟩ : j0) _ lr ⟨aZ, a0, a1, a2, a3, a4, H, a5, a6, I, rfl, cT, cU, cV, cW, rfl⟩
 refine z0q [_] L H I (m ++ (a ++ (c ++ (d ++ R)))) rfl ?_
 obtain rfl := o1 hm
 exact jS ⟨(L ++ (((ads bG), Cl 85 [iv j.Route.From, iv j.Route.To, sv aZ j.Route.Steps a0, sv a1 j.needs a2, sv a3 j.seen a4, sv a5 j.gone a6, bv j.laps, bv j.sight, iv j.leave, iv (j.clock + 1), iv j.number]) :: (H ++ I))), rfl, rfl, ((l.trans aB)), er⟩
 refine Ck<|Xm<|Xn<|Cg<|tS (sa rfl rfl (by omega))<|mV rfl<|Tn ?_
 obtain rfl := o1 hm
 exact jS ⟨r, rfl, rfl, ((l.trans aB)), (aX.le aB)⟩
 rintro bk _ _ ⟨r, rfl, rfl, l, aX⟩
 have hm := dx
 refine Cr<|tS (lF rfl rfl (by omega))<|Te<|Cs<|k7 rfl<|Ce<|Xe<|Xe<|Xo<|Xn<|Cs<|Cr<|mV rfl ?_
 obtain ⟨bH, cX, hm⟩ := bS hm
 have zx := f.trans (e.trans (i.trans (g.trans (n.trans l))))
 have zw := i.trans (g.trans (n.trans l))
 refine q3R m a c d r<|q3R r m a c d<|q3R d r m a c<|q3R c d r m a<|Z7 [_] [] a c d r (m ++ R) rfl<|Tg _ rfl z6H rfl (q4n _ _ X Y Z aa ab ac ad C G bg bz ads O ag ah ai aj ak al am an ao aq ar au av aw A3 c4 a A8 c9 c W d r (cb.le zx) (cc.le zx) (cd.le zx) (ce.le zx) (cf.le zx) (cg.le zx) (ch.le zx) (ae.le (e.trans zw)) (ay.le zw) (aE.le (n.trans l)) aX bH cX) ?_
 rintro _ es _ q ⟨et, eu, y, rfl, rfl, cY⟩
 refine z0w [_] [] y a c d r (m ++ R) rfl<|tS (sE rfl z2W)<|mV rfl<|Te<|Cb ?_
 have fw : bH.length ≤ 9223372036854775807 := (OS.len cY)
 refine P3 y a c d r<|P3 r y a c d<|P3 d r y a c<|P3 c d r y a<|P3 a c d r y ?_
 obtain ⟨⟨bn, bo⟩, dM, dN⟩ := bS hm
 refine lS (fun cZ => K5 fun bn bo => fun bp e' hp' => ∃ E z, [(0, pb O), (173, sv et bH eu), (174, iv ((bH.length : Int))), (175, iv ((cZ : Int)))] = e' ∧ (O, Cl 57 [sv ag X ah, sv ai Y aj, sv ak Z al, sv am aa an, sv ao ab aq, sv ar ac au, sv av ad aw, sv A3 C c4, sv A8 G c9, .map (some W)]) :: (y ++ (a ++ (c ++ (E ++ (z ++ R))))) = hp' ∧ es.Le bp ∧ OM rI (OT.fr (RT.key ads)) false false bp.w W bn E ∧ OAr 85 z8 ads bp.w bo z) dM ⟨d, r, rfl, rfl, lr, (aE.le (n.trans (l.trans q))), (aX.le q)⟩ ?_ ?_
 rintro cZ ⟨bn, bo⟩ bp _ _ fx eK ⟨E, z, rfl, rfl, p, bW, bI⟩ bb
 unfold Y1 at bb
 have hm := J4 bb
 refine Cr<|tS (lT rfl rfl (by omega))<|Te<|Cs<|k9 rfl<|Ck<|Xn<|Cs<|Cb<|Cr ?_
 obtain ⟨ev, ew, hm⟩ := bS hm
 obtain ⟨ex, dO, dP⟩ := iS ew
 obtain ⟨fy, fz, f1, f2, fA, dQ, c0, dR, c1, fB, eW⟩ := OS.get (sz := 1) rfl (by decide) (cY.le p) dP
 obtain ⟨rfl, rfl⟩ := dQ
 refine tS (sI ex rfl rfl dO c1 dR z2W)<|tS (w9 rfl j0Q (fun w ho => c0 w _ ho (.cons _ (Kb _ _)) 0 _ rfl))<|aS rfl<|Te<|Cg<|mV rfl<|mV rfl ?_
 obtain ⟨⟨ey, ez⟩, c2, hm⟩ := bS hm
 have hm := J4 hm
 have zv := f.trans (e.trans (i.trans (g.trans (n.trans (l.trans (q.trans p))))))
 have zu := i.trans (g.trans (n.trans (l.trans (q.trans p))))
 refine Z4 y a c E<|Z4 E y a c<|Z4 c E y a<|q3R a c E y z<|Z7 [_] [] z a c E (y ++ R) rfl<|Tg _ rfl j5n rfl (z1l _ _ ev X Y Z aa ab ac ad bo C G bn ads O ag ah ai aj ak al am an ao aq ar au av aw z A3 c4 a A8 c9 c W E (cb.le zv) (cc.le zv) (cd.le zv) (ce.le zv) (cf.le zv) (cg.le zv) (ch.le zv) bI (ae.le (e.trans zu)) (ay.le zu) bW ey ez c2) ?_
 rintro _ f3 _ c3 ⟨b7, b8, rfl, rfl, eA, eB⟩
 refine K6 [_] [] b7 a c b8 (y ++ R) rfl<|Tn<|Xm<|Xn<|Cg<|tS (sa rfl rfl (by omega))<|mV rfl<|Tn ?_
 obtain rfl := o1 hm
 exact jS ⟨b8, b7, rfl, rfl, ((p.trans c3)), eB, eA⟩
 rintro bp _ _ ⟨E, z, rfl, rfl, p, bW, bI⟩
 have hm := J4 dN
 refine Cr<|tS (lF rfl rfl (by omega))<|Te<|Cs<|k7 rfl<|Ce<|Xe<|Xe<|Xo<|Xn<|Cg<|mV rfl ?_
 obtain ⟨⟨c5, eC⟩, c6, hm⟩ := bS hm
 have hm := J4 hm
 have zt := f.trans (e.trans (i.trans (g.trans (n.trans (l.trans (q.trans p))))))
 have zs := i.trans (g.trans (n.trans (l.trans (q.trans p))))
 refine q3R y a c E z<|q3R z y a c E<|q3R E z y a c<|q3R c E z y a<|Z7 [_] [] a c E z (y ++ R) rfl<|Tg _ rfl z9w rfl (q6U _ _ X Y Z aa ab ac ad C G bn bo ads O ag ah ai aj ak al am an ao aq ar au av aw A3 c4 a A8 c9 c W E z (cb.le zt) (cc.le zt) (cd.le zt) (ce.le zt) (cf.le zt) (cg.le zt) (ch.le zt) (ae.le (e.trans zs)) (ay.le zs) bW bI c5 eC c6) ?_
 rintro _ f4 _ bq ⟨b9, ca, rfl, rfl, eD, c7, eE⟩
 refine K6 [_] [] a b9 ca z (y ++ R) rfl<|Z9 0 rfl (o' := Cl 57 [sv ag X ah, sv ai Y aj, sv ak Z al, sv am aa an, sv ao ab aq, sv ar ac au, sv av ad aw, sv A3 C c4, sv A8 c5 c9, .map (some W)]) (by simp only [sv, c7])<|Tn ?_
 obtain ⟨rfl, rfl, rfl, rfl⟩ := q7j hm
 have zr := e.trans (i.trans (g.trans (n.trans (l.trans (q.trans (p.trans bq))))))
 have dS := ae.le zr
 have dT := bI.le bq
 exact eZ ⟨a, b9, ca, z, rfl, rfl, dS, az, eD, (c7.trans aF), eE, dT⟩ (f.trans zr)
theorem z4X (b : k8) (R : Hp) (F : J1) (i j k l m n o G E U V) (ads : Int → Nat) (K p q r s t u w x y z A B C D L O f S T e h c a) (W : FZ RT.str b.w p q i) (X : FZ j3 b.w r s j) (Y : FZ w6 b.w t u k) (Z : FZ j6 b.w w x l) (aa : FZ w7 b.w y z m) (ab : FZ Q3 b.w A B n) (ac : FZ (RT.list j8) b.w C D o) (h5 : OS 59 (OT.fr j9) b.w (sv L G O) G f) (I : OS 127 (OT.fr v8) b.w (sv S E T) E e) (J : OM rI (OT.fr (RT.key ads)) false false b.w h U c) (H : OAr 85 z8 ads b.w V a) (bo av aw bp bq) (hm : q3K F i j k l m n o G E U V = some (bo, av, aw, bp, bq)):
 w8 Tryz.prog 8 [pb K, .agg #[iv F.Kind, iv F.A, iv F.B, iv F.C]] b ((K, Cl 57 [sv p i q, sv r j s, sv t k u, sv w l x, sv y m z, sv A n B, sv C o D, sv L G O, sv S E T, .map (some h)]) :: (f ++ (e ++ (c ++ (a ++ R))))) (fun v b' hp' => ∃ (ads : Int → Nat), ∃ aB aC aD aE, iv bo = v ∧ (K, Cl 57 [sv p i q, sv r j s, sv t k u, sv w l x, sv y m z, sv A n B, sv C o D, sv L av O, sv S aw T, .map (some h)]) :: (aB ++ (aC ++ (aD ++ (aE ++ R)))) = hp' ∧ OS 59 (OT.fr j9) b'.w (sv L av O) av aB ∧ av.length = G.length ∧ OS 127 (OT.fr v8) b'.w (sv S aw T) aw aC ∧ aw.length = E.length ∧ OM rI (OT.fr (RT.key ads)) false false b'.w h bp aD ∧ OAr 85 z8 ads b'.w bq aE) := by
 refine fE 89 Tryz.func8 rfl Tryz.ntmps8 rfl ?_
 unfold q3K at hm
 refine Cr<|tD (uB _ rfl rfl) ?_
 rintro _ _ ⟨br, rfl, rfl⟩
 refine aS rfl<|Te ?_
 obtain ⟨cC, bX, g⟩ := bS hm
 refine Cj (fun ak e' hp' => ∃ (al : (List q8)), ∃ (am : (List z6)), ∃ (aF : (List (Int × (Option Int)))), ∃ (aG : (List (Int × j0))), ∃ an ao aq ar, [] = e' ∧ (K, Cl 57 [sv p i q, sv r j s, sv t k u, sv w l x, sv y m z, sv A n B, sv C o D, sv L al O, sv S am T, .map (some h)]) :: (an ++ (ao ++ (aq ++ (ar ++ R)))) = hp' ∧ b.Le ak ∧ OS 59 (OT.fr j9) ak.w (sv L al O) al an ∧ al.length = G.length ∧ OS 127 (OT.fr v8) ak.w (sv S am T) am ao ∧ am.length = E.length ∧ OM rI (OT.fr (RT.key ads)) false false ak.w h aF aq ∧ OAr 85 z8 ads ak.w aG ar ∧ cC = .inl (al, am, aF, aG)) ?_ ?_
 have hm := bX
 refine Cr<|tS (sF rfl z9i)<|tS (sL 0 rfl Q5 rfl rfl)<|Te<|Cb<|Cr<|tS (q1 rfl rfl)<|aS rfl<|Te<|cI hm rfl (fun hm => ?_) fun hm => ?_
 refine Cr<|mV rfl<|tS (sF rfl q4D)<|tS (sL 0 rfl Q5 rfl rfl)<|tS (sF rfl z5H)<|tS (sL 0 rfl Q5 rfl rfl) ?_
 obtain ⟨⟨cD, bs⟩, a7, hm⟩ := bS hm
 have hm := J4 hm
 refine Q9 1 rfl<|J8 f e c a<|J8 a f e c<|J8 c a f e<|J8 e c a f<|Z7 [_] [_] f e c a R rfl<|Tg _ rfl j5W rfl (z5S _ _ F.A F.B i j k l m n o G E U V ads K p q r s t u w x y z A B C D L O f S T e h c a W X Y Z aa ab ac h5 I J H cD bs a7) ?_
 rintro _ dw _ ad ⟨aH, rfl, rfl, cE, bt⟩
 refine K6 [_] [_] aH e c a R rfl<|Z9 0 rfl (o' := Cl 57 [sv p i q, sv r j s, sv t k u, sv w l x, sv y m z, sv A n B, sv C o D, sv L bs O, sv S E T, .map (some h)]) (by simp only [sv, bt])<|aS rfl<|Te<|Ct<|Xb<|Xr ?_
 have bY := (Kd hm).symm
 rw [bY] at g
 have hm := J9 g
 obtain ⟨rfl, rfl, rfl, rfl, rfl⟩ := q4e hm
 have bZ := I.le ad
 have b0 := J.le ad
 have b1 := H.le ad
 exact rO ⟨ads, aH, e, c, a, rfl, rfl, cE, (bt.trans rfl), bZ, rfl, b0, b1⟩ ad
 refine Cr<|tS (q1 rfl rfl)<|aS rfl<|Te<|cI hm rfl (fun hm => ?_) fun hm => ?_
 refine Cr<|mV rfl<|tS (sF rfl q4D)<|tS (sL 0 rfl Q5 rfl rfl)<|tS (sF rfl z5H)<|tS (sL 0 rfl Q5 rfl rfl)<|tS (sF rfl j3u)<|tS (sL 0 rfl Q5 rfl rfl) ?_
 obtain ⟨⟨cG, bu, cH, cJ⟩, a8, hm⟩ := bS hm
 have hm := z2K hm
 refine Q9 1 rfl<|J8 f e c a<|J8 a f e c<|J8 c a f e<|J8 e c a f<|Z7 [_] [_] f e c a R rfl<|Tg _ rfl j5V rfl (z4P _ _ F.A F.B F.C i j k l m n o G E U V ads K p q r s t u w x y z A B C D L O f S T e h c a W X Y Z aa ab ac h5 I J H cG bu cH cJ a8) ?_
 rintro _ dx _ ax ⟨aI, aJ, aK, rfl, rfl, cK, bw, cO, cP⟩
 refine K6 [_] [_] aI e aJ aK R rfl<|Z9 0 rfl (o' := Cl 57 [sv p i q, sv r j s, sv t k u, sv w l x, sv y m z, sv A n B, sv C o D, sv L bu O, sv S E T, .map (some h)]) (by simp only [sv, bw])<|aS rfl<|Te<|Ct<|Xb<|Xr ?_
 have b2 := (Kd hm).symm
 rw [b2] at g
 have hm := J9 g
 obtain ⟨rfl, rfl, rfl, rfl, rfl⟩ := q4e hm
 have b3 := I.le ax
 exact rO ⟨ads, aI, e, aJ, aK, rfl, rfl, cK, (bw.trans rfl), b3, rfl, cO, cP⟩ ax
 refine Cr<|tS (q1 rfl rfl)<|aS rfl<|Te<|cI hm rfl (fun hm => ?_) fun hm => ?_
 refine Cr<|mV rfl<|tS (sF rfl q4D)<|tS (sL 0 rfl Q5 rfl rfl) ?_
 obtain ⟨⟨cQ, bx⟩, a9, hm⟩ := bS hm
 have hm := J4 hm
 refine Q9 1 rfl<|J8 f e c a<|J8 a f e c<|J8 c a f e<|J8 e c a f<|Z7 [_] [_] f e c a R rfl<|Tg _ rfl j5U rfl (z1o _ _ F.A i j k l m n o G E U V ads K p q r s t u w x y z A B C D L O f S T e h c a W X Y Z aa ab ac h5 I J H cQ bx a9) ?_
 rintro _ dy _ ae ⟨aL, rfl, rfl, cR, bz⟩
 refine K6 [_] [_] aL e c a R rfl<|Z9 0 rfl (o' := Cl 57 [sv p i q, sv r j s, sv t k u, sv w l x, sv y m z, sv A n B, sv C o D, sv L bx O, sv S E T, .map (some h)]) (by simp only [sv, bz])<|aS rfl<|Te<|Ct<|Xb<|Xr ?_
 have b4 := (Kd hm).symm
 rw [b4] at g
 have hm := J9 g
 obtain ⟨rfl, rfl, rfl, rfl, rfl⟩ := q4e hm
 have b5 := I.le ae
 have b6 := J.le ae
 have b7 := H.le ae
 exact rO ⟨ads, aL, e, c, a, rfl, rfl, cR, (bz.trans rfl), b5, rfl, b6, b7⟩ ae
 refine Cr<|tS (q1 rfl rfl)<|aS rfl<|Te<|cI hm rfl (fun hm => ?_) fun hm => ?_
 refine Cr<|mV rfl<|tS (sF rfl q4D)<|tS (sL 0 rfl Q5 rfl rfl) ?_
 obtain ⟨⟨cT, bA⟩, ba, hm⟩ := bS hm
 have hm := J4 hm
 refine Q9 1 rfl<|J8 f e c a<|J8 a f e c<|J8 c a f e<|J8 e c a f<|Z7 [_] [_] f e c a R rfl<|Tg _ rfl j5T rfl (z3J _ _ F.A i j k l m n o G E U V ads K p q r s t u w x y z A B C D L O f S T e h c a W X Y Z aa ab ac h5 I J H cT bA ba) ?_
 rintro _ dz _ af ⟨aM, rfl, rfl, cU, bB⟩
 refine K6 [_] [_] aM e c a R rfl<|Z9 0 rfl (o' := Cl 57 [sv p i q, sv r j s, sv t k u, sv w l x, sv y m z, sv A n B, sv C o D, sv L bA O, sv S E T, .map (some h)]) (by simp only [sv, bB])<|aS rfl<|Te<|Ct<|Xb<|Xr ?_
 have b8 := (Kd hm).symm
 rw [b8] at g
 have hm := J9 g
 obtain ⟨rfl, rfl, rfl, rfl, rfl⟩ := q4e hm
 have b9 := I.le af
 have ca := J.le af
 have cb := H.le af
 exact rO ⟨ads, aM, e, c, a, rfl, rfl, cU, (bB.trans rfl), b9, rfl, ca, cb⟩ af
 refine Cr<|tS (q1 rfl rfl)<|aS rfl<|Te<|cI hm rfl (fun hm => ?_) fun hm => ?_
 refine Cr<|mV rfl<|tS (sF rfl q4D)<|tS (sL 0 rfl Q5 rfl rfl)<|tS (sF rfl z5H)<|tS (sL 0 rfl Q5 rfl rfl) ?_
 obtain ⟨⟨cV, bC, cW⟩, bb, hm⟩ := bS hm
 have hm := q4s hm
 refine Q9 1 rfl<|J8 f e c a<|J8 a f e c<|J8 c a f e<|J8 e c a f<|Z7 [_] [_] f e c a R rfl<|Tg _ rfl j5S rfl (z4O _ _ F.A F.B i j k l m n o G E U V ads K p q r s t u w x y z A B C D L O f S T e h c a W X Y Z aa ab ac h5 I J H cV bC cW bb) ?_
 rintro _ dA _ au ⟨aN, aO, rfl, rfl, cX, bD, cY⟩
 refine K6 [_] [_] aN e aO a R rfl<|Z9 0 rfl (o' := Cl 57 [sv p i q, sv r j s, sv t k u, sv w l x, sv y m z, sv A n B, sv C o D, sv L bC O, sv S E T, .map (some h)]) (by simp only [sv, bD])<|aS rfl<|Te<|Ct<|Xb<|Xr ?_
 have cc := (Kd hm).symm
 rw [cc] at g
 have hm := J9 g
 obtain ⟨rfl, rfl, rfl, rfl, rfl⟩ := q4e hm
 have cd := I.le au
 have ce := H.le au
 exact rO ⟨ads, aN, e, aO, a, rfl, rfl, cX, (bD.trans rfl), cd, rfl, cY, ce⟩ au
 refine Cr<|tS (q1 rfl rfl)<|aS rfl<|Te<|cI hm rfl (fun hm => ?_) fun hm => ?_
 refine Cr<|mV rfl<|tS (sF rfl q4D)<|tS (sL 0 rfl Q5 rfl rfl) ?_
 obtain ⟨⟨cZ, bE⟩, bc, hm⟩ := bS hm
 have hm := J4 hm
 refine Q9 1 rfl<|J8 f e c a<|J8 a f e c<|J8 c a f e<|J8 e c a f<|Z7 [_] [_] f e c a R rfl<|Tg _ rfl j5R rfl (z4S _ _ F.A i j k l m n o G E U V ads K p q r s t u w x y z A B C D L O f S T e h c a W X Y Z aa ab ac h5 I J H cZ bE bc) ?_
 rintro _ dB _ ag ⟨aP, rfl, rfl, c0, bG⟩
 refine K6 [_] [_] aP e c a R rfl<|Z9 0 rfl (o' := Cl 57 [sv p i q, sv r j s, sv t k u, sv w l x, sv y m z, sv A n B, sv C o D, sv L bE O, sv S E T, .map (some h)]) (by simp only [sv, bG])<|aS rfl<|Te<|Ct<|Xb<|Xr ?_
 have cf := (Kd hm).symm
 rw [cf] at g
 have hm := J9 g
 obtain ⟨rfl, rfl, rfl, rfl, rfl⟩ := q4e hm
 have cg := I.le ag
 have ch := J.le ag
 have ci := H.le ag
 exact rO ⟨ads, aP, e, c, a, rfl, rfl, c0, (bG.trans rfl), cg, rfl, ch, ci⟩ ag
 refine Cr<|tS (q1 rfl rfl)<|aS rfl<|Te<|cI hm rfl (fun hm => ?_) fun hm => ?_
 refine Cr<|mV rfl<|tS (sF rfl q4D)<|tS (sL 0 rfl Q5 rfl rfl) ?_
 obtain ⟨⟨c1, bH⟩, bd, hm⟩ := bS hm
 have hm := J4 hm
 refine Q9 1 rfl<|J8 f e c a<|J8 a f e c<|J8 c a f e<|J8 e c a f<|Z7 [_] [_] f e c a R rfl<|Tg _ rfl j5Q rfl (z4Q _ _ F.A i j k l m n o G E U V ads K p q r s t u w x y z A B C D L O f S T e h c a W X Y Z aa ab ac h5 I J H c1 bH bd) ?_
 rintro _ dC _ ah ⟨aQ, rfl, rfl, c2, bI⟩
 refine K6 [_] [_] aQ e c a R rfl<|Z9 0 rfl (o' := Cl 57 [sv p i q, sv r j s, sv t k u, sv w l x, sv y m z, sv A n B, sv C o D, sv L bH O, sv S E T, .map (some h)]) (by simp only [sv, bI])<|aS rfl<|Te<|Ct<|Xb<|Xr ?_
 have cj := (Kd hm).symm
 rw [cj] at g
 have hm := J9 g
 obtain ⟨rfl, rfl, rfl, rfl, rfl⟩ := q4e hm
 have ck := I.le ah
 have cl := J.le ah
 have cm := H.le ah
 exact rO ⟨ads, aQ, e, c, a, rfl, rfl, c2, (bI.trans rfl), ck, rfl, cl, cm⟩ ah
 refine Cr<|tS (q1 rfl rfl)<|aS rfl<|Te<|cI hm rfl (fun hm => ?_) fun hm => ?_
 refine Cr<|mV rfl<|tS (sF rfl q4D)<|tS (sL 0 rfl Q5 rfl rfl) ?_
 obtain ⟨⟨c3, bJ⟩, be, hm⟩ := bS hm
 have hm := J4 hm
 refine Q9 1 rfl<|J8 f e c a<|J8 a f e c<|J8 c a f e<|J8 e c a f<|Z7 [_] [_] f e c a R rfl<|Tg _ rfl z9z rfl (q9W _ _ F.A i j k l m n o G E U V ads K p q r s t u w x y z A B C D L O f S T e h c a W X Y Z aa ab ac h5 I J H c3 bJ be) ?_
 rintro _ dD _ ai ⟨aR, rfl, rfl, c5, bK⟩
 refine K6 [_] [_] f aR c a R rfl<|Z9 0 rfl (o' := Cl 57 [sv p i q, sv r j s, sv t k u, sv w l x, sv y m z, sv A n B, sv C o D, sv L G O, sv S bJ T, .map (some h)]) (by simp only [sv, bK])<|aS rfl<|Te<|Ct<|Xb<|Xr ?_
 have cn := (Kd hm).symm
 rw [cn] at g
 have hm := J9 g
 obtain ⟨rfl, rfl, rfl, rfl, rfl⟩ := q4e hm
 have co := h5.le ai
 have cp := J.le ai
 have cq := H.le ai
 exact rO ⟨ads, f, aR, c, a, rfl, rfl, co, rfl, c5, (bK.trans rfl), cp, cq⟩ ai
 refine Cr<|tS (q1 rfl rfl)<|aS rfl<|Te<|cI hm rfl (fun hm => ?_) fun hm => ?_
 refine Cr<|mV rfl<|tS (sF rfl q4D)<|tS (sL 0 rfl Q5 rfl rfl) ?_
 obtain ⟨⟨c6, bL⟩, bf, hm⟩ := bS hm
 have hm := J4 hm
 refine Q9 1 rfl<|J8 f e c a<|J8 a f e c<|J8 c a f e<|J8 e c a f<|Z7 [_] [_] f e c a R rfl<|Tg _ rfl z9y rfl (q9U _ _ F.A i j k l m n o G E U V ads K p q r s t u w x y z A B C D L O f S T e h c a W X Y Z aa ab ac h5 I J H c6 bL bf) ?_
 rintro _ dE _ aj ⟨aT, rfl, rfl, c7, bM⟩
 refine K6 [_] [_] f aT c a R rfl<|Z9 0 rfl (o' := Cl 57 [sv p i q, sv r j s, sv t k u, sv w l x, sv y m z, sv A n B, sv C o D, sv L G O, sv S bL T, .map (some h)]) (by simp only [sv, bM])<|aS rfl<|Te<|Ct<|Xb<|Xr ?_
 have cr := (Kd hm).symm
 rw [cr] at g
 have hm := J9 g
 obtain ⟨rfl, rfl, rfl, rfl, rfl⟩ := q4e hm
 have cs := h5.le aj
 have ct := J.le aj
 have cu := H.le aj
 exact rO ⟨ads, f, aT, c, a, rfl, rfl, cs, rfl, c7, (bM.trans rfl), ct, cu⟩ aj
 obtain ⟨c8, cv, cw⟩ := bS hm
 refine Cj (fun bN e' hp' => [(0, pb K), (3, pb br), (6, iv F.Kind), (69, bv c8)] = e' ∧ (K, Cl 57 [sv p i q, sv r j s, sv t k u, sv w l x, sv y m z, sv A n B, sv C o D, sv L G O, sv S E T, .map (some h)]) :: (br, Cl 39 [iv F.Kind, iv F.A, iv F.B, iv F.C]) :: (f ++ (e ++ (c ++ (a ++ R)))) = hp' ∧ b.Le bN) ?_ ?_
 have hm := cv
 refine Cr<|tS (q1 rfl rfl)<|aS rfl<|Te<|cI hm rfl (fun hm => ?_) fun hm => ?_
 refine Ck ?_
 obtain rfl := o1 hm
 exact jJ ⟨rfl, rfl, lr⟩
 refine Cg<|tS (q1 rfl rfl)<|aS rfl<|Tn ?_
 obtain rfl := o1 hm
 exact jJ ⟨rfl, rfl, lr⟩
 rintro bN _ _ ⟨rfl, rfl, d⟩
 have hm := cw
 refine cB hm rfl (fun hm => ?_) fun hm => ?_
 refine Cr<|mV rfl<|tS (sF rfl q4D)<|tS (sL 1 rfl Q5 rfl rfl)<|tS (sF rfl z9i)<|tS (sL 1 rfl Q5 rfl rfl)<|tS (q1 rfl rfl) ?_
 obtain ⟨⟨da, aU, aV, db, dc⟩, bg, hm⟩ := bS hm
 have hm := z6Y hm
 refine J8 f e c a<|J8 a f e c<|J8 c a f e<|J8 e c a f<|Z7 [_] [_] f e c a R rfl<|Tg _ rfl j5P rfl (z4R _ _ F.A (decide (F.Kind = 10)) i j k l m n o G E U V ads K p q r s t u w x y z A B C D L O f S T e h c a (W.le d) (X.le d) (Y.le d) (Z.le d) (aa.le d) (ab.le d) (ac.le d) (h5.le d) (I.le d) (J.le d) (H.le d) da aU aV db dc bg) ?_
 rintro _ dF _ bh ⟨ads, aW, aX, aY, aZ, rfl, rfl, dd, bO, de, bP, df, dg⟩
 refine K6 [_] [_] aW aX aY aZ R rfl<|Z9 0 rfl (o' := Cl 57 [sv p i q, sv r j s, sv t k u, sv w l x, sv y m z, sv A n B, sv C o D, sv L aU O, sv S aV T, .map (some h)]) (by simp only [sv, bO])<|Z9 0 rfl (o' := Cl 57 [sv p i q, sv r j s, sv t k u, sv w l x, sv y m z, sv A n B, sv C o D, sv L aU O, sv S aV T, .map (some h)]) (by simp only [sv, bP])<|aS rfl<|Te<|Ct<|Xb<|Xr ?_
 have cx := (Kd hm).symm
 rw [cx] at g
 have hm := J9 g
 obtain ⟨rfl, rfl, rfl, rfl, rfl⟩ := q4e hm
 exact rO ⟨ads, aW, aX, aY, aZ, rfl, rfl, dd, (bO.trans rfl), de, (bP.trans rfl), df, dg⟩ (d.trans bh)
 refine Cr<|tS (q1 rfl rfl)<|aS rfl<|Te<|cI hm rfl (fun hm => ?_) fun hm => ?_
 refine Cr<|mV rfl<|tS (sF rfl q4D)<|tS (sL 1 rfl Q5 rfl rfl) ?_
 obtain ⟨⟨dh, bQ, di, dj⟩, bi, hm⟩ := bS hm
 have hm := z2K hm
 refine J8 f e c a<|J8 a f e c<|J8 c a f e<|J8 e c a f<|Z7 [_] [_] f e c a R rfl<|Tg _ rfl j5O rfl (z2d _ _ F.A i j k l m n o G E U V ads K p q r s t u w x y z A B C D L O f S T e h c a (W.le d) (X.le d) (Y.le d) (Z.le d) (aa.le d) (ab.le d) (ac.le d) (h5.le d) (I.le d) (J.le d) (H.le d) dh bQ di dj bi) ?_
 rintro _ dH _ ay ⟨a0, a1, a2, rfl, rfl, dk, bR, dl, dm⟩
 refine K6 [_] [_] f a0 a1 a2 R rfl<|Z9 0 rfl (o' := Cl 57 [sv p i q, sv r j s, sv t k u, sv w l x, sv y m z, sv A n B, sv C o D, sv L G O, sv S bQ T, .map (some h)]) (by simp only [sv, bR])<|aS rfl<|Te<|Ct<|Xb<|Xr ?_
 have cy := (Kd hm).symm
 rw [cy] at g
 have hm := J9 g
 obtain ⟨rfl, rfl, rfl, rfl, rfl⟩ := q4e hm
 have cz := (h5.le (d.trans ay))
 exact rO ⟨ads, f, a0, a1, a2, rfl, rfl, cz, rfl, dk, (bR.trans rfl), dl, dm⟩ (d.trans ay)
 refine Cr<|tS (q1 rfl rfl)<|aS rfl<|Te<|cI hm rfl (fun hm => ?_) fun hm => ?_
 refine Cg<|mV rfl ?_
 obtain ⟨⟨az, aA, bT, bU⟩, bj, hm⟩ := bS hm
 have hm := z2K hm
 refine J8 f e c a<|J8 a f e c<|J8 c a f e<|J8 e c a f<|Z7 [_] [_] f e c a R rfl<|Tg _ rfl j5N rfl (z2b _ _ i j k l m n o G E U V ads K p q r s t u w x y z A B C D L O f S T e h c a (W.le d) (X.le d) (Y.le d) (Z.le d) (aa.le d) (ab.le d) (ac.le d) (h5.le d) (I.le d) (J.le d) (H.le d) az aA bT bU bj) ?_
 rintro _ dI _ bk ⟨a3, a4, a5, a6, rfl, rfl, dn, bV, dp, bW, dq, dr⟩
 refine K6 [_] [_] a3 a4 a5 a6 R rfl<|Z9 0 rfl (o' := Cl 57 [sv p i q, sv r j s, sv t k u, sv w l x, sv y m z, sv A n B, sv C o D, sv L az O, sv S aA T, .map (some h)]) (by simp only [sv, bV])<|Z9 0 rfl (o' := Cl 57 [sv p i q, sv r j s, sv t k u, sv w l x, sv y m z, sv A n B, sv C o D, sv L az O, sv S aA T, .map (some h)]) (by simp only [sv, bW])<|Tn<|Xm ?_
 have hq := (Kd hm).symm
 exact jJ ⟨az, aA, bT, bU, a3, a4, a5, a6, rfl, rfl, (d.trans bk), dn, (bV.trans rfl), dp, (bW.trans rfl), dq, dr, hq⟩
 refine Ck<|Xm ?_
 have hq := (Kd hm).symm
 exact jJ ⟨G, E, U, V, f, e, c, a, rfl, rfl, d, (h5.le d), rfl, (I.le d), rfl, (J.le d), (H.le d), hq⟩
 rintro ak _ _ ⟨al, am, aF, aG, an, ao, aq, ar, rfl, rfl, bl, ds, bm, dt, bn, du, dv, cA⟩
 rw [cA] at g
 have hm := H4 g
 have hm := z2K hm
 refine Cr<|aS rfl<|Te<|Ct ?_
 obtain ⟨rfl, rfl, rfl, rfl, rfl⟩ := q4e hm
 exact rO ⟨ads, an, ao, aq, ar, rfl, rfl, ds, bm, dt, bn, du, dv⟩ bl
theorem q8G (b : k8) (R : Hp) (O l m n o p q r g i S T) (ads : Int → Nat) (s t x y z A B C D E F G H I J A3 c4 d A8 c9 e K a c) (ad : FZ RT.str b.w t x l) (ae : FZ j3 b.w y z m) (af : FZ w6 b.w A B n) (ag : FZ j6 b.w C D o) (ah : FZ w7 b.w E F p) (ai : FZ Q3 b.w G H q) (aj : FZ (RT.list j8) b.w I J r) (h5 : OS 59 (OT.fr j9) b.w (sv A3 g c4) g d) (ak : OS 127 (OT.fr v8) b.w (sv A8 i c9) i e) (al : OM rI (OT.fr (RT.key ads)) false false b.w K S a) (am : OAr 85 z8 ads b.w T c) (Y Z) (hm : q1R O l m n o p q r g i S T = some (Y, Z)):
 w8 Tryz.prog 39 [pb s, iv O] b ((s, Cl 57 [sv t l x, sv y m z, sv A n B, sv C o D, sv E p F, sv G q H, sv I r J, sv A3 g c4, sv A8 i c9, .map (some K)]) :: (d ++ (e ++ (a ++ (c ++ R))))) (fun v b' hp' => .tuple #[bv Y, iv Z] = v ∧ (s, Cl 57 [sv t l x, sv y m z, sv A n B, sv C o D, sv E p F, sv G q H, sv I r J, sv A3 g c4, sv A8 i c9, .map (some K)]) :: (d ++ (e ++ (a ++ (c ++ R)))) = hp') := by
 refine fE 18 Tryz.func39 rfl Tryz.ntmps39 rfl ?_
 unfold q1R at hm
 refine Cr<|aS rfl<|aS rfl<|Te<|Cs<|Cr<|mV rfl<|mV rfl ?_
 obtain ⟨an, U, hm⟩ := bS hm
 refine Z4 d e a c<|Z4 c d e a<|Z4 a c d e<|Z4 e a c d<|Z7 [_] [] d e a c R rfl<|Tg _ rfl q9D rfl (q1I _ _ O l m n o p q r g i S T ads s t x y z A B C D E F G H I J A3 c4 d A8 c9 e K a c ad ae af ag ah ai aj h5 ak al am an U) ?_
 rintro _ az _ f ⟨rfl, rfl⟩
 refine K6 [_] [] d e a c R rfl<|tS (sn2 rfl)<|Te<|cM hm rfl (fun hm => ?_) fun hm => ?_
 refine Cr<|aS rfl<|aS rfl<|Te<|Ct<|Xr ?_
 obtain ⟨rfl, rfl⟩ := Z6 hm
 exact rT ⟨rfl, rfl⟩ f
 refine Ck<|Xn<|Cr<|mV rfl<|tS (sN rfl)<|tS (sF rfl V1)<|tS (sL 0 rfl q1p rfl rfl)<|mV rfl ?_
 obtain ⟨k, ao, hm⟩ := bS hm
 obtain ⟨aq, aa, ab⟩ := iS ao
 obtain ⟨av, aw, aA, aB, ax, ac, V, L, W, ay, ar⟩ := OS.get (sz := 5) rfl (by decide) (h5.le f) ab
 obtain ⟨⟨_, _, rfl, rfl, ⟨_, _, rfl, rfl, ⟨_, _, rfl, rfl, ⟨_, _, rfl, rfl, rfl⟩⟩⟩⟩, rfl⟩ := ac
 refine tS (sI aq rfl rfl aa W L q3O)<|tS (Z2 (vs := [iv k.axles, bv k.disturbed, iv k.position, iv k.moving, bv k.failed]) 5 rfl q7N L rfl (fun w ho j u hu => V w _ ho (.cons _ (Kb _ _)) j u hu)) ?_
 obtain ⟨au, X, hm⟩ := bS hm
 refine tD (uW _ q7p rfl (fun w ho => W6 _ [] k au X) (fun _ _ _ h => h.2.symm)) ?_
 rintro _ _ ⟨⟨_, rfl, _⟩, rfl⟩
 refine aS rfl<|aS rfl<|Te<|Ct ?_
 obtain ⟨rfl, rfl⟩ := Z6 hm
 exact rT ⟨rfl, rfl⟩ f
theorem q6V (b : k8) (R : Hp) (G i j k l m n o g h H I) (ads : Int → Nat) (q r s t u w x y z A B C D E F U V e W X f p d c) (Y : FZ RT.str b.w r s i) (Z : FZ j3 b.w t u j) (aa : FZ w6 b.w w x k) (ab : FZ j6 b.w y z l) (ac : FZ w7 b.w A B m) (ad : FZ Q3 b.w C D n) (ae : FZ (RT.list j8) b.w E F o) (h5 : OS 59 (OT.fr j9) b.w (sv U g V) g e) (af : OS 127 (OT.fr v8) b.w (sv W h X) h f) (L : OM rI (OT.fr (RT.key ads)) false false b.w p H d) (ag : OAr 85 z8 ads b.w I c) (ah ai aj) (hm : H2 G i j k l m n o g h H I = some (ah, ai, aj)):
 w8 Tryz.prog 40 [pb q, iv G] b ((q, Cl 57 [sv r i s, sv t j u, sv w k x, sv y l z, sv A m B, sv C n D, sv E o F, sv U g V, sv W h X, .map (some p)]) :: (e ++ (f ++ (d ++ (c ++ R))))) (fun v b' hp' => ∃ J, .tuple #[iv ah, iv ai] = v ∧ (q, Cl 57 [sv r i s, sv t j u, sv w k x, sv y l z, sv A m B, sv C n D, sv E o F, sv U g V, sv W h X, .map (some p)]) :: (e ++ (f ++ (J ++ (c ++ R)))) = hp' ∧ OM rI (OT.fr (RT.key ads)) false false b'.w p aj J) := by
 refine fE 13 Tryz.func40 rfl Tryz.ntmps40 rfl ?_
 unfold H2 at hm
 refine Cr<|aS rfl<|aS rfl<|Te<|Cs<|Cr<|mV rfl<|mV rfl ?_
 obtain ⟨al, O, hm⟩ := bS hm
 refine Z4 e f d c<|Z4 c e f d<|Z4 d c e f<|Z4 f d c e<|Z7 [_] [] e f d c R rfl<|Tg _ rfl q9D rfl (q1I _ _ G i j k l m n o g h H I ads q r s t u w x y z A B C D E F U V e W X f p d c Y Z aa ab ac ad ae h5 af L ag al O) ?_
 rintro _ aq _ a ⟨rfl, rfl⟩
 refine K6 [_] [] e f d c R rfl<|tS (sn2 rfl)<|Te<|cM hm rfl (fun hm => ?_) fun hm => ?_
 refine Cr<|aS rfl<|aS rfl<|Te<|Ct<|Xr ?_
 obtain ⟨rfl, rfl, rfl⟩ := q2o hm
 have ak := L.le a
 exact rT ⟨d, rfl, rfl, ak⟩ a
 refine Ck<|Xn<|Cr<|mV rfl<|mV rfl ?_
 obtain ⟨⟨am, an⟩, S, hm⟩ := bS hm
 have hm := J4 hm
 refine Z4 e f d c<|Z4 c e f d<|Z4 d c e f<|Z4 f d c e<|Z7 [_] [] e f d c R rfl<|Tg _ rfl j2d rfl (q8H _ _ G i j k l m n o g h H I ads q r s t u w x y z A B C D E F U V e W X f p d c (Y.le a) (Z.le a) (aa.le a) (ab.le a) (ac.le a) (ad.le a) (ae.le a) (h5.le a) (af.le a) (L.le a) (ag.le a) am an S) ?_
 rintro _ ar _ T ⟨K, rfl, rfl, ao⟩
 refine K6 [_] [] e f K c R rfl<|aS rfl<|aS rfl<|Te<|Ct ?_
 obtain ⟨rfl, rfl, rfl⟩ := q2o hm
 exact rT ⟨K, rfl, rfl, ao⟩ (a.trans T)
theorem q5Z (b : k8) (R : Hp) (d : q8) (i) (hm : q1U d = some i):
 w8 Tryz.prog 84 [.agg #[iv d.axles, bv d.disturbed, iv d.position, iv d.moving, bv d.failed]] b (R) (fun v b' hp' => bv i = v ∧ R = hp') := by
 refine fE 11 Tryz.func84 rfl Tryz.ntmps84 rfl ?_
 unfold q1U at hm
 refine Cr<|tD (uB _ rfl rfl) ?_
 rintro _ _ ⟨j, rfl, rfl⟩
 refine aS rfl<|Te ?_
 obtain ⟨h, e, f⟩ := bS hm
 refine Cj (fun g e' hp' => [(2, bv h)] = e' ∧ R = hp' ∧ b.Le g) ?_ ?_
 have hm := e
 refine Cg<|tS (sF rfl q3U)<|tS (sL 0 rfl Q5 rfl rfl)<|Tb rfl (q1 rfl rfl) (fun a => ?_) (fun a => ?_)
 rw [if_pos a] at hm
 refine mV rfl<|yS<|tS (sF rfl q6C)<|yS<|tS (sL 0 rfl q4J rfl rfl)<|yS<|tS (sn2 rfl)<|tS (pT rfl rfl)<|aS rfl<|Tn ?_
 obtain rfl := o1 hm
 exact jJ ⟨rfl, rfl, lr⟩
 rw [if_neg a] at hm
 refine mV rfl<|nO<|nO<|nO<|tS (pF rfl rfl)<|aS rfl<|Tn ?_
 obtain rfl := o1 hm
 exact jJ ⟨rfl, rfl, lr⟩
 rintro g _ _ ⟨rfl, rfl, c⟩
 have hm := f
 refine Ct ?_
 obtain rfl := o1 hm
 exact rO ⟨rfl, rfl⟩ c
theorem q6i (b : k8) (R : Hp) (T l m n o p q r i k U V) (ads : Int → Nat) (s t x y z A B C D E F G H I J A3 c4 d A8 c9 e K a c) (ag : FZ RT.str b.w t x l) (ah : FZ j3 b.w y z m) (ai : FZ w6 b.w A B n) (aj : FZ j6 b.w C D o) (ak : FZ w7 b.w E F p) (al : FZ Q3 b.w G H q) (am : FZ (RT.list j8) b.w I J r) (h5 : OS 59 (OT.fr j9) b.w (sv A3 i c4) i d) (an : OS 127 (OT.fr v8) b.w (sv A8 k c9) k e) (ao : OM rI (OT.fr (RT.key ads)) false false b.w K U a) (aq : OAr 85 z8 ads b.w V c) (Z aa ab) (hm : X1 T l m n o p q r i k U V = some (Z, aa, ab)):
 w8 Tryz.prog 41 [pb s, iv T] b ((s, Cl 57 [sv t l x, sv y m z, sv A n B, sv C o D, sv E p F, sv G q H, sv I r J, sv A3 i c4, sv A8 k c9, .map (some K)]) :: (d ++ (e ++ (a ++ (c ++ R))))) (fun v b' hp' => .tuple #[iv Z, bv aa, iv ab] = v ∧ (s, Cl 57 [sv t l x, sv y m z, sv A n B, sv C o D, sv E p F, sv G q H, sv I r J, sv A3 i c4, sv A8 k c9, .map (some K)]) :: (d ++ (e ++ (a ++ (c ++ R)))) = hp') := by
 refine fE 23 Tryz.func41 rfl Tryz.ntmps41 rfl ?_
 unfold X1 at hm
 refine Cr<|aS rfl<|aS rfl<|aS rfl<|Te<|Cs<|Cr<|mV rfl<|mV rfl ?_
 obtain ⟨ar, W, hm⟩ := bS hm
 refine Z4 d e a c<|Z4 c d e a<|Z4 a c d e<|Z4 e a c d<|Z7 [_] [] d e a c R rfl<|Tg _ rfl z6J rfl (q3y _ _ T l m n o p q r i k U V ads s t x y z A B C D E F G H I J A3 c4 d A8 c9 e K a c ag ah ai aj ak al am h5 an ao aq ar W) ?_
 rintro _ aB _ f ⟨rfl, rfl⟩
 refine K6 [_] [] d e a c R rfl<|tS (sn2 rfl)<|Te<|cM hm rfl (fun hm => ?_) fun hm => ?_
 refine Cr<|aS rfl<|aS rfl<|aS rfl<|Te<|Ct<|Xr ?_
 obtain ⟨rfl, rfl, rfl⟩ := q2o hm
 refine q6k d e a c<|q6k c d e a<|q6k a c d e<|q6k e a c d ?_
 exact rM (rs := [.tmp 4, .tmp 5, .tmp 6]) (vs := [iv 0, bv false, iv 3]) ⟨rfl, ⟨rfl, ⟨rfl, trivial⟩⟩⟩ ⟨rfl, rfl⟩ (.refl _) f
 refine Ck<|Xn<|Cr<|mV rfl<|tS (sN rfl)<|tS (sF rfl V1)<|tS (sL 0 rfl q1p rfl rfl)<|mV rfl ?_
 obtain ⟨g, au, hm⟩ := bS hm
 obtain ⟨av, ac, ad⟩ := iS au
 obtain ⟨ax, ay, aC, aD, az, ae, X, O, Y, aw, af⟩ := OS.get (sz := 5) rfl (by decide) (h5.le f) ad
 obtain ⟨⟨_, _, rfl, rfl, ⟨_, _, rfl, rfl, ⟨_, _, rfl, rfl, ⟨_, _, rfl, rfl, rfl⟩⟩⟩⟩, rfl⟩ := ae
 refine tS (sI av rfl rfl ac Y O q3O)<|tS (Z2 (vs := [iv g.axles, bv g.disturbed, iv g.position, iv g.moving, bv g.failed]) 5 rfl q7N O rfl (fun w ho j u hu => X w _ ho (.cons _ (Kb _ _)) j u hu))<|tD (uA [iv 0, .bool false, iv 0, iv 0, .bool false] j1F rfl) ?_
 rintro _ _ ⟨aA, rfl, rfl⟩
 refine tD (uN (vs := [_, _, _, _, _]) 0 5 rfl rfl rfl j4D rfl (mc rfl (mc rfl (mc rfl (mc rfl (mc rfl mn))))) rfl (by simp)) ?_
 rintro _ _ rfl
 refine Te<|Cs ?_
 obtain ⟨S, L, hm⟩ := bS hm
 refine Di mixed (.refl _)<|E0 0 rfl (sF rfl q4C)<|Es 1 rfl (sL 0 rfl Q5 rfl rfl)<|Es 2 rfl (sD (vs := [_, _, _, _, _]) 0 5 rfl q7N rfl rfl rfl)<|Eo<|Da [3] (by kernel_rfl) rfl<|Rd2 lr rfl rfl (uW _ z9u rfl (fun w ho => q5Z _ [] g S L) (fun _ _ _ h => h.2.symm)) ?_ ?_
 rintro _ _ ⟨⟨_, rfl, _⟩, rfl⟩
 refine iR<|Ei lr (.refl _)<|E0 4 rfl (sA rfl)<|E0 5 rfl (sA rfl)<|E0 6 rfl (sA rfl)<|Eo<|Dd (by kernel_rfl)<|Xn<|Ct ?_
 obtain ⟨rfl, rfl, rfl⟩ := q2o hm
 refine Xp 1 rfl<|q8O d e a c<|q8O c d e a<|q8O a c d e<|q8O e a c d ?_
 exact rM (rs := [.tmp 4, .tmp 5, .tmp 6]) (vs := [iv g.position, bv S, iv 0]) ⟨rfl, ⟨rfl, ⟨rfl, trivial⟩⟩⟩ ⟨rfl, rfl⟩ (.cons_cons _ (.cons _ (.refl _))) f
 exact Rn
theorem z1S (b : k8) (R : Hp) (i s t u) (x : FZ rI b.w t u i) (j) (hm : q5o i s = some j):
 w8 Tryz.prog 77 [sv t i u, iv s] b (R) (fun v b' hp' => iv j = v ∧ R = hp') := by
 refine fE 19 Tryz.func77 rfl Tryz.ntmps77 rfl ?_
 unfold q5o at hm
 refine Cr<|aS rfl<|Te<|Cs<|Cr<|mV rfl<|tS (sE rfl z2n)<|mV rfl<|Te<|Cb ?_
 have y : i.length ≤ 9223372036854775807 := (FZ.bd x)
 obtain ⟨C, k, d⟩ := bS hm
 refine lF (fun l => fun _ => fun f e' hp' => [(0, sv t i u), (1, iv s), (7, iv ((i.length : Int))), (8, iv ((l : Int)))] = e' ∧ R = hp' ∧ b.Le f) k ⟨rfl, rfl, lr⟩ ?_ ?_
 rintro l _ f _ _ z r ⟨rfl, rfl, a⟩ c e
 unfold q2F at c
 have hm := c
 refine Cr<|tS (lT rfl rfl (by omega))<|Te<|Cs<|k9 rfl<|Ck<|Xn<|Cs<|Cb<|Cr<|mV rfl<|aS rfl<|Te<|Cr<|mV rfl<|mV rfl<|mV rfl ?_
 obtain ⟨D, w, A, m, B, n, g, o, h, hm⟩ := bF (sz := 1) hm (x.le a)
 obtain rfl := n
 refine tS (sI w rfl rfl m h o z2n)<|tS (sO rfl Q5 (g 0 _ rfl))<|tS (q1 rfl rfl)<|Te<|cI hm rfl (fun hm => ?_) fun hm => ?_
 refine Cr<|mV rfl<|aS rfl<|Te<|Ct<|Xb<|Xr<|Xr<|Xb<|Xr ?_
 have p := e _ (Kd hm).symm
 rw [p] at d
 have hm := J9 d
 obtain rfl := o1 hm
 exact rO ⟨rfl, rfl⟩ a
 refine Ck<|Xm<|Xn<|Cg<|tS (sa rfl rfl (by omega))<|mV rfl<|Tn ?_
 exact jM hm ⟨rfl, rfl, (a)⟩
 rintro _ f _ _ ⟨rfl, rfl, a⟩ q
 rw [q] at d
 have hm := H4 d
 refine Cr<|tS (lF rfl rfl (by omega))<|Te<|Cs<|k7 rfl<|Ce<|Xe<|Xe<|Xo<|Xn<|Cr<|aS rfl<|Te<|Ct ?_
 obtain rfl := o1 hm
 exact rO ⟨rfl, rfl⟩ a
theorem q9q (b : k8) (R : Hp) (c d e f) (i : FZ rI b.w e f c) (g) (hm : q1P c d = some g):
 w8 Tryz.prog 33 [sv e c f, iv d] b (R) (fun v b' hp' => bv g = v ∧ R = hp') := by
 refine fE 9 Tryz.func33 rfl Tryz.ntmps33 rfl ?_
 unfold q1P at hm
 refine Cr<|aS rfl<|Te<|Cr<|mV rfl<|mV rfl ?_
 obtain ⟨j, a, hm⟩ := bS hm
 refine tD (uW _ j5m rfl (fun w ho => z1S _ [] c d e f (i.old ho) j a) (fun _ _ _ h => h.2.symm)) ?_
 rintro _ _ ⟨⟨_, rfl, _⟩, rfl⟩
 refine tS (q6 rfl rfl)<|aS rfl<|Te<|Ct ?_
 obtain rfl := o1 hm
 exact rO ⟨rfl, rfl⟩ lr
theorem z1n (b : k8) (R : Hp) (a : Q2) (c d e f) (hm : q2M a c d = some f):
 w8 Tryz.prog 130 [.agg #[iv a.Section, iv a.In, iv a.Out], pb e] b ((e, Cl 112 [iv c, iv d]) :: R) (fun v b' hp' => bv f = v ∧ (e, Cl 112 [iv c, iv d]) :: R = hp') := by
 refine fE 9 Tryz.func130 rfl Tryz.ntmps130 rfl ?_
 unfold q2M at hm
 refine Cr<|tD (uB _ rfl rfl) ?_
 rintro _ _ ⟨g, rfl, rfl⟩
 refine aS rfl<|Te<|Cr<|tS (sF rfl V8)<|tS (sL 0 rfl Q5 rfl rfl)<|tS (sF rfl q7g)<|tS (sL 1 rfl Q5 rfl rfl)<|tS (q1 rfl rfl)<|aS rfl<|Te<|Ct ?_
 obtain rfl := o1 hm
 exact rO ⟨rfl, rfl⟩ lr
theorem q8B (b : k8) (R : Hp) (o p q i B C) (F : FZ J2 b.w B C o) (r) (hm : q2H o p q = some r):
 w8 Tryz.prog 140 [sv B o C, .func (.func 130) #[] #[pb i]] b ((i, Cl 112 [iv p, iv q]) :: R) (fun v b' hp' => iv r = v ∧ (i, Cl 112 [iv p, iv q]) :: R = hp') := by
 refine fE 19 Tryz.func140 rfl Tryz.ntmps140 rfl ?_
 unfold q2H at hm
 refine Cr<|aS rfl<|Te<|Cs<|Cr<|mV rfl<|tS (sE rfl q7O)<|mV rfl<|Te<|Cb ?_
 have G : o.length ≤ 9223372036854775807 := (FZ.bd F)
 obtain ⟨K, s, e⟩ := bS hm
 refine lF (fun t => fun _ => fun k e' hp' => [(0, sv B o C), (1, .func (.func 130) #[] #[pb i]), (7, iv ((o.length : Int))), (8, iv ((t : Int)))] = e' ∧ (i, Cl 112 [iv p, iv q]) :: R = hp' ∧ b.Le k) s ⟨rfl, rfl, lr⟩ ?_ ?_
 rintro t _ k _ _ H A ⟨rfl, rfl, a⟩ c f
 unfold q0Y at c
 have hm := c
 refine Cr<|tS (lT rfl rfl (by omega))<|Te<|Cs<|k9 rfl<|Ck<|Xn<|Cs<|Cb<|Cr<|mV rfl<|aS rfl<|Te<|Cr<|mV rfl<|mV rfl<|mV rfl ?_
 obtain ⟨d, D, I, w, J, x, l, h, m, hm⟩ := bF (sz := 3) hm (F.le a)
 obtain ⟨_, _, rfl, rfl, ⟨_, _, rfl, rfl, rfl⟩⟩ := x
 refine tS (sI D rfl rfl w m h q7O)<|tS (sP (vs := [iv d.Section, iv d.In, iv d.Out]) 3 rfl q4H h rfl (fun j u hu => l j u hu)) ?_
 obtain ⟨E, n, hm⟩ := bS hm
 refine Tv #[] #[pb i] [.agg #[iv d.Section, iv d.In, iv d.Out]] rfl rfl j3L rfl (z1n _ _ d p q i E n) ?_
 rintro _ L _ g ⟨rfl, rfl⟩
 refine Te<|cB hm rfl (fun hm => ?_) fun hm => ?_
 refine Cr<|mV rfl<|aS rfl<|Te<|Ct<|Xb<|Xr<|Xr<|Xb<|Xr ?_
 have y := f _ (Kd hm).symm
 rw [y] at e
 have hm := J9 e
 obtain rfl := o1 hm
 exact rO ⟨rfl, rfl⟩ (a.trans g)
 refine Ck<|Xm<|Xn<|Cg<|tS (sa rfl rfl (by omega))<|mV rfl<|Tn ?_
 exact jM hm ⟨rfl, rfl, ((a.trans g))⟩
 rintro _ k _ _ ⟨rfl, rfl, a⟩ z
 rw [z] at e
 have hm := H4 e
 refine Cr<|tS (lF rfl rfl (by omega))<|Te<|Cs<|k7 rfl<|Ce<|Xe<|Xe<|Xo<|Xn<|Cr<|aS rfl<|Te<|Ct ?_
 obtain rfl := o1 hm
 exact rO ⟨rfl, rfl⟩ a
theorem q6P (b : k8) (R : Hp) (e f g h i j) (l : FZ J2 b.w i j e) (d) (hm : P8 e f g = some d):
 w8 Tryz.prog 123 [sv i e j, .func (.func 130) #[] #[pb h]] b ((h, Cl 112 [iv f, iv g]) :: R) (fun v b' hp' => bv d = v ∧ (h, Cl 112 [iv f, iv g]) :: R = hp') := by
 refine fE 9 Tryz.func123 rfl Tryz.ntmps123 rfl ?_
 unfold P8 at hm
 refine Cr<|aS rfl<|Te<|Cr<|mV rfl<|mV rfl ?_
 obtain ⟨k, a, hm⟩ := bS hm
 refine Tg _ rfl z5O rfl (q8B _ _ e f g h i j l k a) ?_
 rintro _ m _ c ⟨rfl, rfl⟩
 refine tS (q6 rfl rfl)<|aS rfl<|Te<|Ct ?_
 obtain rfl := o1 hm
 exact rO ⟨rfl, rfl⟩ c
theorem q6T (b : k8) (R : Hp) (e : z6) (f) (hm : q0x e = some f):
 w8 Tryz.prog 85 [.agg #[iv e.left, bv e.wanted, bv e.failed]] b (R) (fun v b' hp' => bv f = v ∧ R = hp') := by
 refine fE 15 Tryz.func85 rfl Tryz.ntmps85 rfl ?_
 unfold q0x at hm
 refine Cr<|tD (uB _ rfl rfl) ?_
 rintro _ _ ⟨k, rfl, rfl⟩
 refine aS rfl<|Te ?_
 obtain ⟨j, g, h⟩ := bS hm
 refine Cj (fun i e' hp' => [(2, bv j)] = e' ∧ R = hp' ∧ b.Le i) ?_ ?_
 have hm := g
 refine Cg<|tS (sF rfl q5W)<|tS (sL 0 rfl q4J rfl rfl) ?_
 rcases Kg e.wanted with a | a
 rw [if_pos a] at hm
 refine Tr 4 rfl (v' := .bool true) (by rw [a] <;> rfl)<|mV rfl<|yS<|tS (sF rfl q7e)<|yS<|tS (sL 0 rfl Q5 rfl rfl)<|yS<|Tb rfl (q1 rfl rfl) (fun c => ?_) (fun c => ?_)
 rw [if_pos c] at hm
 refine tS (pT rfl rfl)<|mV rfl<|yS<|tS (sF rfl q7d)<|yS<|tS (sL 0 rfl q4J rfl rfl)<|yS<|tS (sn2 rfl)<|tS (pT rfl rfl)<|aS rfl<|Tn ?_
 obtain rfl := o1 hm
 exact jJ ⟨rfl, rfl, lr⟩
 rw [if_neg c] at hm
 refine tS (pT rfl rfl)<|mV rfl<|nO<|nO<|nO<|tS (pF rfl rfl)<|aS rfl<|Tn ?_
 obtain rfl := o1 hm
 exact jJ ⟨rfl, rfl, lr⟩
 rw [if_neg (fun hh => Bool.noConfusion (hh.symm.trans a))] at hm
 refine Tr 4 rfl (v' := .bool false) (by rw [a] <;> rfl)<|mV rfl<|nO<|nO<|nO<|tS (pF rfl rfl)<|mV rfl<|nO<|nO<|nO<|tS (pF rfl rfl)<|aS rfl<|Tn ?_
 obtain rfl := o1 hm
 exact jJ ⟨rfl, rfl, lr⟩
 rintro i _ _ ⟨rfl, rfl, d⟩
 have hm := h
 refine Ct ?_
 obtain rfl := o1 hm
 exact rO ⟨rfl, rfl⟩ d
theorem z1m (b : k8) (R : Hp) (i : Q2) (k l m n o p q c d Y Z) (ads : Int → Nat) (y r z A B C D E F G H I J K L O A3 c4 S A8 c9 T U e f) (al : FZ RT.str b.w z A k) (am : FZ j3 b.w B C l) (an : FZ w6 b.w D E m) (ao : FZ j6 b.w F G n) (aq : FZ w7 b.w H I o) (ar : FZ Q3 b.w J K p) (au : FZ (RT.list j8) b.w L O q) (h5 : OS 59 (OT.fr j9) b.w (sv A3 c c4) c S) (av : OS 127 (OT.fr v8) b.w (sv A8 d c9) d T) (aw : OM rI (OT.fr (RT.key ads)) false false b.w U Y e) (ax : OAr 85 z8 ads b.w Z f) (aa) (hm : q2L i k l m n o p q c d Y Z = some aa):
 w8 Tryz.prog 131 [.agg #[iv i.Section, iv i.In, iv i.Out], pb y] b ((y, Cl 31 [pb r]) :: (r, Cl 57 [sv z k A, sv B l C, sv D m E, sv F n G, sv H o I, sv J p K, sv L q O, sv A3 c c4, sv A8 d c9, .map (some U)]) :: (S ++ (T ++ (e ++ (f ++ R))))) (fun v b' hp' => bv aa = v ∧ (y, Cl 31 [pb r]) :: (r, Cl 57 [sv z k A, sv B l C, sv D m E, sv F n G, sv H o I, sv J p K, sv L q O, sv A3 c c4, sv A8 d c9, .map (some U)]) :: (S ++ (T ++ (e ++ (f ++ R)))) = hp') := by
 refine fE 13 Tryz.func131 rfl Tryz.ntmps131 rfl ?_
 unfold q2L at hm
 refine Cr<|tD (uB _ rfl rfl) ?_
 rintro _ _ ⟨ay, rfl, rfl⟩
 refine aS rfl<|Te<|Cs ?_
 obtain ⟨a, ab, hm⟩ := bS hm
 obtain ⟨ac, s, hm⟩ := bS hm
 refine Di mixed (.refl _)<|Es 0 rfl (sL 1 rfl z7q rfl rfl)<|E0 1 rfl (sN rfl)<|E0 2 rfl (sF rfl V1)<|Es 3 rfl (sL 2 rfl q1p rfl rfl)<|E0 4 rfl (sF rfl V8)<|Es 5 rfl (sL 0 rfl Q5 rfl rfl) ?_
 obtain ⟨ad, V, W⟩ := iS ab
 obtain ⟨af, ag, aj, ak, ah, X, t, g, x, ai, ae⟩ := OS.get (sz := 5) rfl (by decide) h5 W
 obtain ⟨⟨_, _, rfl, rfl, ⟨_, _, rfl, rfl, ⟨_, _, rfl, rfl, ⟨_, _, rfl, rfl, rfl⟩⟩⟩⟩, rfl⟩ := X
 refine E0 6 rfl (sI ad rfl rfl V x g q3O)<|Es 7 rfl (Z2 (vs := [iv a.axles, bv a.disturbed, iv a.position, iv a.moving, bv a.failed]) 5 rfl q7N g rfl (fun w ho j u hu => t w _ ho (.cons _ (.cons _ (.cons _ (Kb _ _)))) j u hu))<|Eo<|Da [8] (by kernel_rfl) rfl<|Rd2 lr rfl rfl (uW _ q7p rfl (fun w ho => W6 _ [] a ac s) (fun _ _ _ h => h.2.symm)) ?_ ?_
 rintro _ _ ⟨⟨_, rfl, _⟩, rfl⟩
 refine iR<|Ei lr (.refl _)<|E0 9 rfl (sA rfl)<|Eo<|Dd (by kernel_rfl)<|Xn<|Ct ?_
 obtain rfl := o1 hm
 exact rO ⟨rfl, rfl⟩ lr
 exact Rn
theorem q8A (b : k8) (R : Hp) (p q r s t w x y k l aa ab) (ads : Int → Nat) (m n ac ad z A B C D E F G H I J K L O A3 c4 e A8 c9 f S c d) (aj : FZ J2 b.w ac ad p) (ao : FZ RT.str b.w z A q) (aq : FZ j3 b.w B C r) (ar : FZ w6 b.w D E s) (au : FZ j6 b.w F G t) (av : FZ w7 b.w H I w) (aw : FZ Q3 b.w J K x) (ax : FZ (RT.list j8) b.w L O y) (h5 : OS 59 (OT.fr j9) b.w (sv A3 k c4) k e) (ay : OS 127 (OT.fr v8) b.w (sv A8 l c9) l f) (az : OM rI (OT.fr (RT.key ads)) false false b.w S aa c) (aA : OAr 85 z8 ads b.w ab d) (ak) (hm : q2G p q r s t w x y k l aa ab = some ak):
 w8 Tryz.prog 140 [sv ac p ad, .func (.func 131) #[] #[pb m]] b ((m, Cl 31 [pb n]) :: (n, Cl 57 [sv z q A, sv B r C, sv D s E, sv F t G, sv H w I, sv J x K, sv L y O, sv A3 k c4, sv A8 l c9, .map (some S)]) :: (e ++ (f ++ (c ++ (d ++ R))))) (fun v b' hp' => iv ak = v ∧ (m, Cl 31 [pb n]) :: (n, Cl 57 [sv z q A, sv B r C, sv D s E, sv F t G, sv H w I, sv J x K, sv L y O, sv A3 k c4, sv A8 l c9, .map (some S)]) :: (e ++ (f ++ (c ++ (d ++ R)))) = hp') := by
 refine fE 19 Tryz.func140 rfl Tryz.ntmps140 rfl ?_
 unfold q2G at hm
 refine Cr<|aS rfl<|Te<|Cs<|Cr<|mV rfl<|tS (sE rfl q7O)<|mV rfl<|Te<|Cb ?_
 have aD : p.length ≤ 9223372036854775807 := (FZ.bd aj)
 refine Cp 1 rfl<|Cp 1 rfl<|z3E e f c d<|z3E d e f c<|z3E c d e f<|z3E f c d e ?_
 obtain ⟨aE, ae, i⟩ := bS hm
 refine lF (fun Z => fun _ => fun T e' hp' => [(0, sv ac p ad), (1, .func (.func 131) #[] #[pb m]), (7, iv ((p.length : Int))), (8, iv ((Z : Int)))] = e' ∧ (m, Cl 31 [pb n]) :: (n, Cl 57 [sv z q A, sv B r C, sv D s E, sv F t G, sv H w I, sv J x K, sv L y O, sv A3 k c4, sv A8 l c9, .map (some S)]) :: (e ++ (f ++ (c ++ (d ++ R)))) = hp' ∧ b.Le T) ae ⟨rfl, rfl, lr⟩ ?_ ?_
 rintro Z _ T _ _ aF an ⟨rfl, rfl, a⟩ h U
 unfold q0X at h
 have hm := h
 refine Cr<|tS (lT rfl rfl (by omega))<|Te<|Cs<|k9 rfl<|Ck<|Xn<|Cs<|Cb<|Cr<|mV rfl<|aS rfl<|Te<|Cr<|mV rfl<|mV rfl<|mV rfl ?_
 obtain ⟨g, al, aB, af, aC, ag, W, V, X, hm⟩ := bF (sz := 3) hm (aj.le a)
 obtain ⟨_, _, rfl, rfl, ⟨_, _, rfl, rfl, rfl⟩⟩ := ag
 refine tS (sI al rfl rfl af X V q7O)<|tS (sP (vs := [iv g.Section, iv g.In, iv g.Out]) 3 rfl q4H V rfl (fun j u hu => W j u hu)) ?_
 obtain ⟨am, Y, hm⟩ := bS hm
 refine Q9 1 rfl<|Q9 1 rfl<|J8 e f c d<|J8 d e f c<|J8 c d e f<|J8 f c d e<|Z7 [_, _] [] e f c d R rfl<|Tv #[] #[pb m] [.agg #[iv g.Section, iv g.In, iv g.Out]] rfl rfl j3K rfl (z1m _ _ g q r s t w x y k l aa ab ads m n z A B C D E F G H I J K L O A3 c4 e A8 c9 f S c d (ao.le a) (aq.le a) (ar.le a) (au.le a) (av.le a) (aw.le a) (ax.le a) (h5.le a) (ay.le a) (az.le a) (aA.le a) am Y) ?_
 rintro _ aG _ o ⟨rfl, rfl⟩
 refine K6 [_, _] [] e f c d R rfl<|Te<|cB hm rfl (fun hm => ?_) fun hm => ?_
 refine Cr<|mV rfl<|aS rfl<|Te<|Ct<|Xb<|Xr<|Xr<|Xb<|Xr ?_
 have ah := U _ (Kd hm).symm
 rw [ah] at i
 have hm := J9 i
 obtain rfl := o1 hm
 exact rO ⟨rfl, rfl⟩ (a.trans o)
 refine Ck<|Xm<|Xn<|Cg<|tS (sa rfl rfl (by omega))<|mV rfl<|Tn ?_
 exact jM hm ⟨rfl, rfl, ((a.trans o))⟩
 rintro _ T _ _ ⟨rfl, rfl, a⟩ ai
 rw [ai] at i
 have hm := H4 i
 refine Cr<|tS (lF rfl rfl (by omega))<|Te<|Cs<|k7 rfl<|Ce<|Xe<|Xe<|Xo<|Xn<|Cr<|aS rfl<|Te<|Ct ?_
 obtain rfl := o1 hm
 exact rO ⟨rfl, rfl⟩ a
theorem q6O (b : k8) (R : Hp) (p h i j k l m n f g H I) (ads : Int → Nat) (q o J K r s t u w x y z A B C D E F T U d V W e G a c) (X : FZ J2 b.w J K p) (Y : FZ RT.str b.w r s h) (Z : FZ j3 b.w t u i) (aa : FZ w6 b.w w x j) (ab : FZ j6 b.w y z k) (ac : FZ w7 b.w A B l) (ad : FZ Q3 b.w C D m) (ae : FZ (RT.list j8) b.w E F n) (h5 : OS 59 (OT.fr j9) b.w (sv T f U) f d) (af : OS 127 (OT.fr v8) b.w (sv V g W) g e) (ag : OM rI (OT.fr (RT.key ads)) false false b.w G H a) (ah : OAr 85 z8 ads b.w I c) (S) (hm : H0 p h i j k l m n f g H I = some S):
 w8 Tryz.prog 123 [sv J p K, .func (.func 131) #[] #[pb q]] b ((q, Cl 31 [pb o]) :: (o, Cl 57 [sv r h s, sv t i u, sv w j x, sv y k z, sv A l B, sv C m D, sv E n F, sv T f U, sv V g W, .map (some G)]) :: (d ++ (e ++ (a ++ (c ++ R))))) (fun v b' hp' => bv S = v ∧ (q, Cl 31 [pb o]) :: (o, Cl 57 [sv r h s, sv t i u, sv w j x, sv y k z, sv A l B, sv C m D, sv E n F, sv T f U, sv V g W, .map (some G)]) :: (d ++ (e ++ (a ++ (c ++ R)))) = hp') := by
 refine fE 9 Tryz.func123 rfl Tryz.ntmps123 rfl ?_
 unfold H0 at hm
 refine Cr<|aS rfl<|Te<|Cr<|mV rfl<|mV rfl ?_
 obtain ⟨ai, L, hm⟩ := bS hm
 refine Q9 1 rfl<|Q9 1 rfl<|J8 d e a c<|J8 c d e a<|J8 a c d e<|J8 e a c d<|Z7 [_, _] [] d e a c R rfl<|Tg _ rfl z5O rfl (q8A _ _ p h i j k l m n f g H I ads q o J K r s t u w x y z A B C D E F T U d V W e G a c X Y Z aa ab ac ad ae h5 af ag ah ai L) ?_
 rintro _ aj _ O ⟨rfl, rfl⟩
 refine K6 [_, _] [] d e a c R rfl<|tS (q6 rfl rfl)<|aS rfl<|Te<|Ct ?_
 obtain rfl := o1 hm
 exact rO ⟨rfl, rfl⟩ O
theorem z3K (b : k8) (R : Hp) (aP : (Option Int)) (S T U V p W X bd F G bM) (ads : Int → Nat) (C Z aa ab ac ad ae af ag H I ah ai aj ak i A6 c7 g al am c an d) (cK : FZ RT.str b.w Z aa S) (cO : FZ j3 b.w ab ac T) (cP : FZ w6 b.w ad ae U) (cQ : FZ j6 b.w af ag V) (bN : FZ w7 b.w H I p) (cR : FZ Q3 b.w ah ai W) (cT : FZ (RT.list j8) b.w aj ak X) (h3 : OAr 85 z8 ads b.w bd i) (h8 : OS 59 (OT.fr j9) b.w (sv A6 F c7) F g) (ci : OS 127 (OT.fr v8) b.w (sv al G am) G c) (cU : OM rI (OT.fr (RT.key ads)) false false b.w an bM d) (bH) (hm : Y8 aP S T U V p W X bd F G bM = some bH):
 w8 Tryz.prog 114 [pb C, kv ads aP] b ((C, Cl 57 [sv Z S aa, sv ab T ac, sv ad U ae, sv af V ag, sv H p I, sv ah W ai, sv aj X ak, sv A6 F c7, sv al G am, .map (some an)]) :: (i ++ (g ++ (c ++ (d ++ R))))) (fun v b' hp' => bv bH = v ∧ (C, Cl 57 [sv Z S aa, sv ab T ac, sv ad U ae, sv af V ag, sv H p I, sv ah W ai, sv aj X ak, sv A6 F c7, sv al G am, .map (some an)]) :: (i ++ (g ++ (c ++ (d ++ R)))) = hp') := by
 refine fE 92 Tryz.func114 rfl Tryz.ntmps114 rfl ?_
 unfold Y8 at hm
 refine Cr<|tD (uB _ rfl rfl) ?_
 rintro _ _ ⟨q, rfl, rfl⟩
 refine aS rfl<|Te<|Cs<|Cr<|mV rfl ?_
 obtain ⟨Y, be, hm⟩ := bS hm
 refine q4R [] [_, _] i (g ++ (c ++ (d ++ R))) rfl<|Tg _ rfl z6G rfl (q2X _ _ aP bd ads i h3 Y be) ?_
 rintro _ cj _ f ⟨bI, bJ, k, rfl, rfl, bK⟩
 refine z7a [] [_, _] k i (g ++ (c ++ (d ++ R))) rfl<|tS (sE rfl q6l)<|mV rfl<|Te<|Cb ?_
 have cV : Y.length ≤ 9223372036854775807 := (OS.len bK)
 refine Cp 1 rfl<|Cp 1 rfl<|q2B k i g c d<|q2B d k i g c<|q2B c d k i g<|q2B g c d k i<|q2B i g c d k ?_
 obtain ⟨ds, bO, ao⟩ := bS hm
 refine lF (fun aQ => fun _ => fun az e' hp' => [(1, kv ads aP), (2, pb q), (11, sv bI Y bJ), (12, iv ((Y.length : Int))), (13, iv ((aQ : Int)))] = e' ∧ (q, Cl 31 [pb C]) :: (C, Cl 57 [sv Z S aa, sv ab T ac, sv ad U ae, sv af V ag, sv H p I, sv ah W ai, sv aj X ak, sv A6 F c7, sv al G am, .map (some an)]) :: (k ++ (i ++ (g ++ (c ++ (d ++ R))))) = hp' ∧ cj.Le az) bO ⟨rfl, rfl, lr⟩ ?_ ?_
 rintro aQ _ az _ _ cW ck ⟨rfl, rfl, a⟩ J aO
 unfold q1g at J
 have hm := J
 refine Cr<|tS (lT rfl rfl (by omega))<|Te<|Cs<|k9 rfl<|Ck<|Xn<|Cs<|Cb<|Cr ?_
 obtain ⟨aA, cl, hm⟩ := bS hm
 obtain ⟨cm, bP, bQ⟩ := iS cl
 obtain ⟨cX, cY, dt, du, cZ, bR, bf, aR, bg, c0, cq⟩ := OS.get (sz := 4) rfl (by decide) (bK.le a) bQ
 obtain ⟨⟨_, _, rfl, rfl, ⟨_, _, rfl, rfl, ⟨_, _, rfl, rfl, rfl⟩⟩⟩, rfl⟩ := bR
 refine tS (sI cm rfl rfl bP bg aR q6l)<|tS (Z2 (vs := [iv aA.Kind, iv aA.Place, iv aA.Position, iv aA.At]) 4 rfl q0n aR rfl (fun w ho j u hu => bf w _ ho (.cons _ (.cons _ (Kb _ _))) j u hu))<|tD (uA [iv 0, iv 0, iv 0, iv 0] q7Q rfl) ?_
 rintro _ _ ⟨dv, rfl, rfl⟩
 refine tD (uN (vs := [_, _, _, _]) 0 4 rfl rfl rfl z1H rfl (mc rfl (mc rfl (mc rfl (mc rfl mn)))) rfl (by simp)) ?_
 rintro _ _ rfl
 refine Te ?_
 obtain ⟨cn, bT, bU⟩ := bS hm
 refine Cj (fun bL e' hp' => [(1, kv ads aP), (2, pb q), (11, sv bI Y bJ), (12, iv ((Y.length : Int))), (13, iv ((aQ : Int))), (45, bv cn)] = e' ∧ (q, Cl 31 [pb C]) :: (C, Cl 57 [sv Z S aa, sv ab T ac, sv ad U ae, sv af V ag, sv H p I, sv ah W ai, sv aj X ak, sv A6 F c7, sv al G am, .map (some an)]) :: (k ++ (i ++ (g ++ (c ++ (d ++ R))))) = hp' ∧ az.Le bL) ?_ ?_
 have hm := bT
 by_cases r : 0 < aA.Position
 rw [if_pos r] at hm
 obtain ⟨l, aT, hm⟩ := bS hm
 obtain ⟨aD, aB, hm⟩ := bS hm
 rcases Kg aD with s | s
 rw [if_pos s] at hm
 obtain ⟨c1, bV, hm⟩ := bS hm
 refine Di mixed (.refl _)<|E0 0 rfl (sF rfl q1c)<|Es 1 rfl (sL 0 rfl Q5 rfl rfl)<|E0 2 rfl (z0g rfl rfl r)<|E0 3 rfl (sM rfl)<|Ey 4 20 rfl (sL 1 rfl z7q rfl rfl)<|Yz 5 20 rfl (sN rfl)<|Yz 6 20 rfl (sF rfl V1)<|Ey 7 20 rfl (sL 2 rfl q1p rfl rfl)<|Yz 8 20 rfl (sF rfl q3T)<|Ey 9 20 rfl (sL 0 rfl Q5 rfl rfl) ?_
 obtain ⟨aE, aq, ar⟩ := iS aT
 obtain ⟨bh, bi, bW, bX, bj, au, K, t, L, bk, aU⟩ := OS.get (sz := 5) rfl (by decide) (h8.le (f.trans a)) ar
 obtain ⟨⟨_, _, rfl, rfl, ⟨_, _, rfl, rfl, ⟨_, _, rfl, rfl, ⟨_, _, rfl, rfl, rfl⟩⟩⟩⟩, rfl⟩ := au
 refine Yz 10 20 rfl (sI aE rfl rfl aq L t q3O)<|Ey 11 20 rfl (Z2 (vs := [iv l.axles, bv l.disturbed, iv l.position, iv l.moving, bv l.failed]) 5 rfl q7N t rfl (fun w ho j u hu => K w _ ho (.cons _ (.cons _ (.cons _ (ss k (ss i (Kb _ _)))))) j u hu))<|Eo<|Da [12] (by kernel_rfl) rfl<|q3X lr rfl rfl 20 rfl rfl rfl (uW _ z9u rfl (fun w ho => q5Z _ [] l aD aB) (fun _ _ _ h => h.2.symm)) ?_ ?_
 rintro _ _ ⟨⟨_, rfl, _⟩, rfl⟩
 refine iR<|q4c 29 rfl (v' := .bool true) (by rw [s])<|Ei lr (.refl _)<|Yz 13 20 rfl (K7 rfl)<|Yz 14 20 rfl (sM rfl)<|Ey 15 31 rfl (sL 1 rfl z7q rfl rfl)<|Yz 16 31 rfl (sN rfl)<|Yz 17 31 rfl (sF rfl V1)<|Ey 18 31 rfl (sL 2 rfl q1p rfl rfl)<|Yz 19 31 rfl (sF rfl q3T)<|Ey 20 31 rfl (sL 0 rfl Q5 rfl rfl) ?_
 obtain ⟨bY, bl, bm⟩ := iS bV
 obtain ⟨cr, cs, c2, c3, ct, bn, aV, aJ, aW, cu, co⟩ := OS.get (sz := 5) rfl (by decide) (h8.le (f.trans a)) bm
 obtain ⟨⟨_, _, rfl, rfl, ⟨_, _, rfl, rfl, ⟨_, _, rfl, rfl, ⟨_, _, rfl, rfl, rfl⟩⟩⟩⟩, rfl⟩ := bn
 refine Yz 21 31 rfl (sI bY rfl rfl bl aW aJ q3O)<|Yz 22 31 rfl (sQ rfl aJ q4C)<|Ey 23 31 rfl (w9 rfl Q5 (fun w ho => aV w _ ho (.cons _ (.cons _ (.cons _ (ss k (ss i (Kb _ _)))))) 2 _ rfl))<|Yz 24 31 rfl (sF rfl q1c)<|Ey 25 31 rfl (sL 0 rfl Q5 rfl rfl)<|Yz 26 31 rfl (q2 rfl rfl)<|Yz 27 20 rfl (pF rfl rfl)<|E0 28 rfl (pT rfl rfl)<|Eo<|Dd (by kernel_rfl) ?_
 obtain rfl := o1 hm
 exact jJ ⟨rfl, rfl, lr⟩
 exact Rn
 rw [if_neg (fun hh => Bool.noConfusion (hh.symm.trans s))] at hm
 refine Di mixed (.refl _)<|E0 0 rfl (sF rfl q1c)<|Es 1 rfl (sL 0 rfl Q5 rfl rfl)<|E0 2 rfl (z0g rfl rfl r)<|E0 3 rfl (sM rfl)<|Ey 4 20 rfl (sL 1 rfl z7q rfl rfl)<|Yz 5 20 rfl (sN rfl)<|Yz 6 20 rfl (sF rfl V1)<|Ey 7 20 rfl (sL 2 rfl q1p rfl rfl)<|Yz 8 20 rfl (sF rfl q3T)<|Ey 9 20 rfl (sL 0 rfl Q5 rfl rfl) ?_
 obtain ⟨aE, aq, ar⟩ := iS aT
 obtain ⟨bh, bi, bW, bX, bj, au, K, t, L, bk, aU⟩ := OS.get (sz := 5) rfl (by decide) (h8.le (f.trans a)) ar
 obtain ⟨⟨_, _, rfl, rfl, ⟨_, _, rfl, rfl, ⟨_, _, rfl, rfl, ⟨_, _, rfl, rfl, rfl⟩⟩⟩⟩, rfl⟩ := au
 refine Yz 10 20 rfl (sI aE rfl rfl aq L t q3O)<|Ey 11 20 rfl (Z2 (vs := [iv l.axles, bv l.disturbed, iv l.position, iv l.moving, bv l.failed]) 5 rfl q7N t rfl (fun w ho j u hu => K w _ ho (.cons _ (.cons _ (.cons _ (ss k (ss i (Kb _ _)))))) j u hu))<|Eo<|Da [12] (by kernel_rfl) rfl<|q3X lr rfl rfl 20 rfl rfl rfl (uW _ z9u rfl (fun w ho => q5Z _ [] l aD aB) (fun _ _ _ h => h.2.symm)) ?_ ?_
 rintro _ _ ⟨⟨_, rfl, _⟩, rfl⟩
 refine iR<|q4c 29 rfl (v' := .bool false) (by rw [s])<|Ei lr (.refl _)<|Yz 13 20 rfl (P7 rfl)<|Yz 14 20 rfl (sM rfl)<|eN 15 rfl<|eN 16 rfl<|eN 17 rfl<|eN 18 rfl<|eN 19 rfl<|eN 20 rfl<|eN 21 rfl<|eN 22 rfl<|eN 23 rfl<|eN 24 rfl<|eN 25 rfl<|eN 26 rfl<|Yz 27 20 rfl (pT rfl rfl)<|E0 28 rfl (pT rfl rfl)<|Eo<|Dd (by kernel_rfl) ?_
 obtain rfl := o1 hm
 exact jJ ⟨rfl, rfl, lr⟩
 exact Rn
 rw [if_neg r] at hm
 refine Di mixed (.refl _)<|E0 0 rfl (sF rfl q1c)<|Es 1 rfl (sL 0 rfl Q5 rfl rfl)<|E0 2 rfl (z2R rfl rfl r)<|E0 3 rfl (sM rfl)<|eN 4 rfl<|eN 5 rfl<|eN 6 rfl<|eN 7 rfl<|eN 8 rfl<|eN 9 rfl<|eN 10 rfl<|eN 11 rfl<|eN 12 rfl<|eN 13 rfl<|eN 14 rfl<|eN 15 rfl<|eN 16 rfl<|eN 17 rfl<|eN 18 rfl<|eN 19 rfl<|eN 20 rfl<|eN 21 rfl<|eN 22 rfl<|eN 23 rfl<|eN 24 rfl<|eN 25 rfl<|eN 26 rfl<|eN 27 rfl<|E0 28 rfl (pF rfl rfl)<|Eo<|Dd (by kernel_rfl) ?_
 obtain rfl := o1 hm
 exact jJ ⟨rfl, rfl, lr⟩
 rintro bL _ _ ⟨rfl, rfl, aK⟩
 have hm := bU
 refine cB hm rfl (fun hm => ?_) fun hm => ?_
 refine Cr<|aS rfl<|Te<|Ct<|Xb<|Xr<|Xr<|Xb<|Xr ?_
 have bo := aO _ (Kd hm).symm
 rw [bo] at ao
 have hm := J9 ao
 obtain rfl := o1 hm
 exact rO ⟨rfl, rfl⟩ (f.trans (a.trans aK))
 refine Ck<|Xm<|Xn<|Cg<|tS (sa rfl rfl (by omega))<|mV rfl<|Tn ?_
 exact jM hm ⟨rfl, rfl, ((a.trans aK))⟩
 rintro _ az _ _ ⟨rfl, rfl, a⟩ bp
 rw [bp] at ao
 have hm := H4 ao
 refine Cr<|tS (lF rfl rfl (by omega))<|Te<|Cs<|k7 rfl<|Ce<|Xe<|Xe<|Xo<|Xn<|Cs<|Cr<|tS (sL 0 rfl z7q rfl rfl)<|tS (sN rfl)<|tS (sF rfl q5p)<|tS (sF rfl q5V)<|tS (sL 1 rfl z3h rfl rfl)<|tS (sE rfl z7b)<|mV rfl<|Te<|Cb ?_
 have cv : p.length ≤ 9223372036854775807 := (FZ.bd (bN.le (f.trans a)))
 refine Cp 1 rfl<|Cp 1 rfl<|q2B k i g c d<|q2B d k i g c<|q2B c d k i g<|q2B g c d k i ?_
 obtain ⟨c4, bq, E⟩ := bS hm
 refine lF (fun aF => fun aG => fun av e' hp' => [(1, kv ads aG), (2, pb q), (51, sv H p I), (52, iv ((p.length : Int))), (53, iv ((aF : Int)))] = e' ∧ (q, Cl 31 [pb C]) :: (C, Cl 57 [sv Z S aa, sv ab T ac, sv ad U ae, sv af V ag, sv H p I, sv ah W ai, sv aj X ak, sv A6 F c7, sv al G am, .map (some an)]) :: (i ++ (g ++ (c ++ (d ++ R)))) = hp' ∧ az.Le av) bq ⟨rfl, rfl, lr⟩ ?_ ?_
 rintro aF aG av _ _ cw ch ⟨rfl, rfl, e⟩ D aH
 unfold V2 at D
 have hm := D
 refine Cr<|tS (lT rfl rfl (by omega))<|Te<|Cs<|k9 rfl<|Ck<|Xn<|Cs<|Cb<|Cr<|mV rfl ?_
 have zz := f.trans (a.trans e)
 obtain ⟨aw, bZ, cx, br, cy, bs, aX, aL, aY, hm⟩ := bF (sz := 2) hm (bN.le zz)
 obtain ⟨_, _, rfl, rfl, rfl⟩ := bs
 refine tS (sI bZ rfl rfl br aY aL z7b)<|tS (sP (vs := [iv aw.Section, iv aw.Close]) 2 rfl z9Z aL rfl (fun j u hu => aX j u hu))<|tD (uA [iv 0, iv 0] z5e rfl) ?_
 rintro _ _ ⟨b0, rfl, rfl⟩
 refine aS rfl<|tD (uN (vs := [_, _]) 0 2 rfl rfl rfl z8n rfl (mc rfl (mc rfl mn)) rfl (by simp)) ?_
 rintro _ _ rfl
 refine Te<|Cr<|mV rfl ?_
 obtain ⟨aI, aZ, hm⟩ := bS hm
 obtain ⟨b1, b2, hm⟩ := bS hm
 refine Tr 1 rfl (v' := .pointer (some ⟨(ads aI), 0, none⟩)) (by rw [aZ]; rfl)<|Tr 58 rfl (v' := .pointer (some ⟨(ads aI), 0, none⟩)) (by rw [aZ]; rfl) ?_
 obtain ⟨cz, cA, x, aM, bt, hf1269⟩ := OAr.take (h3.le zz) b2
 obtain ⟨b3, b4, c5, c6, c8, c9, y, da, db, z, rfl, b5, dc, dd, de, rfl⟩ := bt
 refine q1W [_, _, _] i x y z (g ++ (c ++ (d ++ R))) rfl aM<|tS (sN rfl)<|tS (sF rfl q2t)<|tS (sF rfl q1b)<|tS (sL 0 rfl q4M rfl rfl)<|tS (q5l _ _ rfl rfl) ?_
 obtain ⟨a0, a1, hm⟩ := bS hm
 refine Q9 1 rfl<|Tg _ rfl z5P rfl (q6P _ _ b1.Route.Steps aw.Section aw.Close b0 b3 b4 b5 a0 a1) ?_
 rintro _ b6 _ O ⟨rfl, rfl⟩
 refine aS rfl<|Te<|Cp 1 rfl<|z7M y z x<|z7M x y z<|z7M z x y<|z3G [_, _, _] i x y z (g ++ (c ++ (d ++ R))) rfl aM ?_
 obtain ⟨b7, bu, bw⟩ := bS hm
 refine Cj (fun a2 e' hp' => [(1, kv ads (some aI)), (2, pb q), (51, sv H p I), (52, iv ((p.length : Int))), (53, iv ((aF : Int))), (76, bv b7)] = e' ∧ (q, Cl 31 [pb C]) :: (C, Cl 57 [sv Z S aa, sv ab T ac, sv ad U ae, sv af V ag, sv H p I, sv ah W ai, sv aj X ak, sv A6 F c7, sv al G am, .map (some an)]) :: (i ++ (g ++ (c ++ (d ++ R)))) = hp' ∧ b6.Le a2) ?_ ?_
 have hm := bu
 refine Cg<|mV rfl ?_
 rcases Kg a0 with A | A
 rw [if_pos A] at hm
 refine Tr 65 rfl (v' := .bool true) (by rw [A] <;> rfl)<|mV rfl<|yS<|tS (sL 1 rfl z7q rfl rfl)<|yS<|tS (sN rfl)<|yS<|tS (sF rfl q2u)<|yS<|tS (sL 2 rfl q7A rfl rfl)<|yS<|mV rfl<|yS ?_
 obtain ⟨ax, b8, hm⟩ := bS hm
 obtain ⟨b9, bx, bz⟩ := iS b8
 obtain ⟨cC, cD, df, dg, cE, bA, a3, aN, a4, cG, cp⟩ := OS.get (sz := 3) rfl (by decide) (ci.le (f.trans (a.trans (e.trans O)))) bz
 obtain ⟨⟨_, _, rfl, rfl, ⟨_, _, rfl, rfl, rfl⟩⟩, rfl⟩ := bA
 refine tS (sI b9 rfl rfl bx a4 aN q7P)<|yS<|tS (Z2 (vs := [iv ax.left, bv ax.wanted, bv ax.failed]) 3 rfl j2s aN rfl (fun w ho j u hu => a3 w _ ho (.cons _ (.cons _ (.cons _ (ss i (ss g (Kb _ _)))))) j u hu))<|yS ?_
 obtain ⟨ca, a5, hm⟩ := bS hm
 refine tD (uW _ j2c rfl (fun w ho => q6T _ [] ax ca a5) (fun _ _ _ h => h.2.symm)) ?_
 rintro _ _ ⟨⟨_, rfl, _⟩, rfl⟩
 refine yS<|tS (sn2 rfl)<|tS (pT rfl rfl)<|Tn ?_
 obtain rfl := o1 hm
 exact jJ ⟨rfl, rfl, lr⟩
 rw [if_neg (fun hh => Bool.noConfusion (hh.symm.trans A))] at hm
 refine Tr 65 rfl (v' := .bool false) (by rw [A] <;> rfl)<|mV rfl<|nO<|nO<|nO<|nO<|nO<|nO<|nO<|nO<|nO<|tS (pF rfl rfl)<|Tn ?_
 obtain rfl := o1 hm
 exact jJ ⟨rfl, rfl, lr⟩
 rintro a2 _ _ ⟨rfl, rfl, aC⟩
 have hm := bw
 refine cB hm rfl (fun hm => ?_) fun hm => ?_
 refine Cr<|aS rfl<|Te<|Ct<|Xb<|Xr<|Xr<|Xb<|Xr ?_
 have bB := aH _ (Kd hm).symm
 rw [bB] at E
 have hm := J9 E
 obtain rfl := o1 hm
 exact rO ⟨rfl, rfl⟩ (f.trans (a.trans (e.trans (O.trans aC))))
 refine Ck<|Xm<|Xn<|Cg<|tS (sa rfl rfl (by omega))<|mV rfl<|Tn ?_
 exact jM hm ⟨rfl, rfl, ((e.trans (O.trans aC)))⟩
 rintro aG av _ _ ⟨rfl, rfl, e⟩ bC
 rw [bC] at E
 have hm := H4 E
 refine Cr<|tS (lF rfl rfl (by omega))<|Te<|Cs<|k7 rfl<|Ce<|Xe<|Xe<|Xo<|Xn ?_
 obtain ⟨cb, bD, bE⟩ := bS hm
 refine Cj (fun a6 e' hp' => [(4, bv cb)] = e' ∧ (C, Cl 57 [sv Z S aa, sv ab T ac, sv ad U ae, sv af V ag, sv H p I, sv ah W ai, sv aj X ak, sv A6 F c7, sv al G am, .map (some an)]) :: (i ++ (g ++ (c ++ (d ++ R)))) = hp' ∧ av.Le a6) ?_ ?_
 have hm := bD
 refine Cg<|mV rfl ?_
 obtain ⟨a7, a8, hm⟩ := bS hm
 obtain ⟨a9, cc, hm⟩ := bS hm
 refine Tr 1 rfl (v' := .pointer (some ⟨(ads a7), 0, none⟩)) (by rw [a8]; rfl)<|Tr 78 rfl (v' := .pointer (some ⟨(ads a7), 0, none⟩)) (by rw [a8]; rfl) ?_
 obtain ⟨cH, cJ, m, ay, bG, hf1375⟩ := OAr.take (h3.le (f.trans (a.trans e))) cc
 obtain ⟨cd, ce, dh, di, dj, dk, n, dl, dm, o, rfl, cf, dn, dp, dq, rfl⟩ := bG
 refine q1W [_, _] i m n o (g ++ (c ++ (d ++ R))) rfl ay<|tS (sN rfl)<|tS (sF rfl z9h)<|tS (sL 0 rfl q4J rfl rfl) ?_
 rcases Kg a9.sight with B | B
 rw [if_pos B] at hm
 refine Tr 81 rfl (v' := .bool true) (by rw [B] <;> rfl)<|mV rfl<|nO<|nO<|nO<|nO<|nO<|nO<|nO<|nO<|tS (pT rfl rfl)<|aS rfl<|Tn<|X0 n o m<|X0 m n o<|X0 o m n<|q2A [_, _] i m n o (g ++ (c ++ (d ++ R))) rfl ay ?_
 obtain rfl := o1 hm
 exact jJ ⟨rfl, rfl, lr⟩
 rw [if_neg (fun hh => Bool.noConfusion (hh.symm.trans B))] at hm
 refine Tr 81 rfl (v' := .bool false) (by rw [B] <;> rfl)<|mV rfl<|yS<|mV rfl<|yS<|tS (sN rfl)<|yS<|tS (sF rfl q2t)<|yS<|tS (sF rfl q1b)<|yS<|tS (sL 0 rfl q4M rfl rfl)<|yS<|tS (q5l _ _ rfl rfl)<|yS<|j2M n o m<|j2M m n o<|j2M o m n<|j4u [_, _] i m n o (g ++ (c ++ (d ++ R))) rfl ay ?_
 obtain ⟨cg, ba, hm⟩ := bS hm
 have zy := f.trans (a.trans e)
 refine Q9 1 rfl<|Q9 1 rfl<|J8 i g c d<|J8 d i g c<|J8 c d i g<|Z7 [_, _] [] g c d i R rfl<|Tg _ rfl z5P rfl (q6O _ _ a9.Route.Steps S T U V p W X F G bM bd ads q C cd ce Z aa ab ac ad ae af ag H I ah ai aj ak A6 c7 g al am c an d i cf (cK.le zy) (cO.le zy) (cP.le zy) (cQ.le zy) (bN.le zy) (cR.le zy) (cT.le zy) (h8.le zy) (ci.le zy) (cU.le zy) (h3.le zy) cg ba) ?_
 rintro _ dr _ bb ⟨rfl, rfl⟩
 refine K6 [_, _] [] g c d i R rfl<|yS<|tS (sn2 rfl)<|tS (pF rfl rfl)<|aS rfl<|Tn ?_
 obtain rfl := o1 hm
 exact jJ ⟨rfl, rfl, bb⟩
 rintro a6 _ _ ⟨rfl, rfl, bc⟩
 have hm := bE
 refine Ct ?_
 obtain rfl := o1 hm
 exact rO ⟨rfl, rfl⟩ (f.trans (a.trans (e.trans bc)))
theorem q9X : ∀ (N : Nat) (b : k8) (R : Hp) (E O S T U V W X G H I aH aI) (ads : Int → Nat) (J ac ad ae af ag ah ai aj ak al am an ao aq A3 c4 n A8 c9 j ar au e av f k) (aU : FZ RT.str b.w ac ad O) (aV : FZ j3 b.w ae af S) (aW : FZ w6 b.w ag ah T) (aX : FZ j6 b.w ai aj U) (aY : FZ w7 b.w ak al V) (aZ : FZ Q3 b.w am an W) (a0 : FZ (RT.list j8) b.w ao aq X) (h5 : OS 3 (OT.fr rI) b.w (sv A3 G c4) G n) (a1 : OS 59 (OT.fr j9) b.w (sv A8 H c9) H j) (a2 : OS 127 (OT.fr v8) b.w (sv ar I au) I e) (a3 : OM rI (OT.fr (RT.key ads)) false false b.w av aH f) (aG : OAr 85 z8 ads b.w aI k) (aJ az) (hm : Q6 N E O S T U V W X G H I aH aI = some (aJ, az)),
 w8 Tryz.prog 81 [pb J, iv E, sv A3 G c4] b ((J, Cl 57 [sv ac O ad, sv ae S af, sv ag T ah, sv ai U aj, sv ak V al, sv am W an, sv ao X aq, sv A8 H c9, sv ar I au, .map (some av)]) :: (n ++ (j ++ (e ++ (f ++ (k ++ R)))))) (fun v b' hp' => ∃ bQ bR ba, iv aJ = v ∧ (J, Cl 57 [sv ac O ad, sv ae S af, sv ag T ah, sv ai U aj, sv ak V al, sv am W an, sv ao X aq, sv A8 H c9, sv ar I au, .map (some av)]) :: (ba ++ (j ++ (e ++ (f ++ (k ++ R))))) = hp' ∧ OS 3 (OT.fr rI) b'.w (sv bQ az bR) az ba) := by
  intro N
  induction N with
  | zero =>
    intro b R E O S T U V W X G H I aH aI ads J ac ad ae af ag ah ai aj ak al am an ao aq A3 c4 n A8 c9 j ar au e av f k aU aV aW aX aY aZ a0 h5 a1 a2 a3 aG aJ az hm
    unfold Q6 at hm
    cases hm
  | succ N ih =>
   intro b R E O S T U V W X G H I aH aI ads J ac ad ae af ag ah ai aj ak al am an ao aq A3 c4 n A8 c9 j ar au e av f k aU aV aW aX aY aZ a0 h5 a1 a2 a3 aG aJ az hm
   refine fE 74 Tryz.func81 rfl Tryz.ntmps81 rfl ?_
   unfold Q6 at hm
   refine Cr<|aS rfl<|Te<|Cs<|Cr<|mV rfl<|mV rfl ?_
   obtain ⟨bT, bb, hm⟩ := bS hm
   refine tD (uW _ j5M rfl (fun w ho => q9q _ [] G E A3 c4 (OS.now (o := (OT.fr rI)) (l := G) (hs := n) h5 ho (.cons _ (Kb _ _))) bT bb) (fun _ _ _ h => h.2.symm)) ?_
   rintro _ _ ⟨⟨_, rfl, _⟩, rfl⟩
   refine Te ?_
   refine cB hm rfl (fun hm => ?_) fun hm => ?_
   refine Cr<|aS rfl<|Te<|Ct<|Xr ?_
   obtain ⟨rfl, rfl⟩ := Z6 hm
   exact rO ⟨A3, c4, n, rfl, rfl, h5⟩ lr
   refine Ck<|Xn<|Cs<|Cr<|mV rfl ?_
   obtain ⟨aw, bc, hm⟩ := bS hm
   refine q3R n j e f k<|q3R k n j e f<|q3R f k n j e<|q3R e f k n j<|Z7 [_] [] j e f k (n ++ R) rfl<|Tg _ rfl z6H rfl (q4n _ _ O S T U V W X H I aH aI ads J ac ad ae af ag ah ai aj ak al am an ao aq A8 c9 j ar au e av f k aU aV aW aX aY aZ a0 a1 a2 a3 aG aw bc) ?_
   rintro _ bU _ d ⟨bd, be, a, rfl, rfl, bf⟩
   refine z0w [_] [] a j e f k (n ++ R) rfl<|tS (sE rfl z2W)<|mV rfl<|Te<|Cb ?_
   have cc : aw.length ≤ 9223372036854775807 := (OS.len bf)
   refine P3 a j e f k<|P3 k a j e f<|P3 f k a j e<|P3 e f k a j<|P3 j e f k a<|j1u a j e f k n ?_
   obtain ⟨cs, br, D⟩ := bS hm
   refine lF (fun a4 => fun _ => fun aK e' hp' => [(0, pb J), (1, iv E), (2, sv A3 G c4), (13, sv bd aw be), (14, iv ((aw.length : Int))), (15, iv ((a4 : Int)))] = e' ∧ (J, Cl 57 [sv ac O ad, sv ae S af, sv ag T ah, sv ai U aj, sv ak V al, sv am W an, sv ao X aq, sv A8 H c9, sv ar I au, .map (some av)]) :: (n ++ (a ++ (j ++ (e ++ (f ++ (k ++ R)))))) = hp' ∧ bU.Le aK) br ⟨rfl, rfl, lr⟩ ?_ ?_
   rintro a4 _ aK _ _ cd b9 ⟨rfl, rfl, c⟩ ax K
   unfold Z0 at ax
   have hm := ax
   refine Cr<|tS (lT rfl rfl (by omega))<|Te<|Cs<|k9 rfl<|Ck<|Xn<|Cs<|Cb<|Cr ?_
   obtain ⟨ct, bV, hm⟩ := bS hm
   obtain ⟨bW, bs, bt⟩ := iS bV
   obtain ⟨ce, cf, cu, cv, cg, bu, bg, bw, bh, ch, ca⟩ := OS.get (sz := 1) rfl (by decide) (bf.le c) bt
   obtain ⟨rfl, rfl⟩ := bu
   refine tS (sI bW rfl rfl bs bh bw z2W)<|tS (w9 rfl j0Q (fun w ho => bg w _ ho (.cons _ (ss n (Kb _ _))) 0 _ rfl))<|aS rfl<|Te<|Cs ?_
   obtain ⟨⟨bX, bY⟩, bx, bz⟩ := bS hm
   refine Cj (fun a5 e' hp' => [(0, pb J), (1, iv E), (2, sv A3 G c4), (8, kv ads bX), (13, sv bd aw be), (14, iv ((aw.length : Int))), (15, iv ((a4 : Int))), (46, bv bY)] = e' ∧ (J, Cl 57 [sv ac O ad, sv ae S af, sv ag T ah, sv ai U aj, sv ak V al, sv am W an, sv ao X aq, sv A8 H c9, sv ar I au, .map (some av)]) :: (n ++ (a ++ (j ++ (e ++ (f ++ (k ++ R)))))) = hp' ∧ aK.Le a5) ?_ ?_
   have hm := bx
   refine Cg<|mV rfl ?_
   obtain ⟨aL, a6, hm⟩ := bS hm
   obtain ⟨cw, bZ, hm⟩ := bS hm
   refine Tr 8 rfl (v' := .pointer (some ⟨(ads aL), 0, none⟩)) (by rw [a6]; rfl)<|Tr 18 rfl (v' := .pointer (some ⟨(ads aL), 0, none⟩)) (by rw [a6]; rfl)<|Tr 19 rfl (v' := .pointer (some ⟨(ads aL), 0, none⟩)) (by rw [a6]; rfl) ?_
   obtain ⟨ci, cj, t, Y, bA, hf1850⟩ := OAr.take (aG.le (d.trans c)) bZ
   obtain ⟨cx, cy, cz, cA, cC, cD, u, cE, cG, x, rfl, cH, cJ, b0, cK, rfl⟩ := bA
   refine z8i n a j e f k<|q1W [_] k t u x (n ++ (a ++ (j ++ (e ++ (f ++ R))))) rfl Y<|tS (sN rfl)<|tS (sF rfl q2t)<|tS (sF rfl q7F)<|tS (sL 0 rfl Q5 rfl rfl)<|mV rfl ?_
   refine Tb rfl (q2 rfl rfl) (fun aM => ?_) (fun aM => ?_)
   rw [if_pos aM] at hm
   refine mV rfl<|nO<|nO<|nO<|nO<|nO<|nO<|tS (pT rfl rfl)<|mV rfl<|nO ?_
   refine nO<|nO<|nO<|nO<|tS (pT rfl rfl)<|mV rfl<|nO<|nO<|nO<|nO ?_
   refine tS (pT rfl rfl)<|Tn<|W7 u x t<|W7 t u x<|W7 x t u<|q2A [_] k t u x (n ++ (a ++ (j ++ (e ++ (f ++ R))))) rfl Y ?_
   obtain ⟨rfl, rfl⟩ := Z6 hm
   exact jJ ⟨rfl, rfl, lr⟩
   rw [if_neg aM] at hm
   refine mV rfl<|yS<|mV rfl<|yS<|tS (sN rfl)<|yS<|tS (sF rfl q1H)<|yS<|tS (sL 0 rfl q4w rfl rfl)<|yS ?_
   obtain ⟨b1, b2, hm⟩ := bS hm
   obtain ⟨b3, bB, bC⟩ := iS b2
   obtain ⟨ck, cl, cO, cP, cm, bD, bi, bE, bj, cn, cb⟩ := OS.get (sz := 1) rfl (by decide) b0 bC
   obtain ⟨rfl, rfl⟩ := bD
   refine tS (sI b3 rfl rfl bB bj bE q8S)<|yS<|tS (w9 rfl q4J (fun w ho => bi w _ ho (.cons _ (.cons _ (Kb _ _))) 0 _ rfl)) ?_
   rcases Kg b1 with Z | Z
   rw [if_pos Z] at hm
   refine Tr 32 rfl (v' := .bool true) (by rw [Z] <;> rfl)<|tS (pF rfl rfl)<|mV rfl<|nO<|nO<|nO<|nO<|nO<|tS (pT rfl rfl)<|mV rfl ?_
   refine nO<|nO<|nO<|nO<|tS (pT rfl rfl)<|Tn<|W7 u x t<|W7 t u x<|W7 x t u<|q2A [_] k t u x (n ++ (a ++ (j ++ (e ++ (f ++ R))))) rfl Y ?_
   obtain ⟨rfl, rfl⟩ := Z6 hm
   exact jJ ⟨rfl, rfl, lr⟩
   rw [if_neg (fun hh => Bool.noConfusion (hh.symm.trans Z))] at hm
   refine Tr 32 rfl (v' := .bool false) (by rw [Z] <;> rfl)<|tS (pF rfl rfl)<|mV rfl<|yS<|mV rfl<|yS<|tS (sN rfl)<|yS<|tS (sF rfl q5U)<|yS ?_
   refine tS (sL 0 rfl Q5 rfl rfl)<|yS ?_
   refine Tb rfl (q5 rfl rfl) (fun aN => ?_) (fun aN => ?_)
   rw [if_pos aN] at hm
   refine tS (pF rfl rfl)<|mV rfl<|nO<|nO<|nO<|nO<|tS (pT rfl rfl)<|Tn<|W7 u x t<|W7 t u x ?_
   refine W7 x t u<|q2A [_] k t u x (n ++ (a ++ (j ++ (e ++ (f ++ R))))) rfl Y ?_
   obtain ⟨rfl, rfl⟩ := Z6 hm
   exact jJ ⟨rfl, rfl, lr⟩
   rw [if_neg aN] at hm
   refine tS (pF rfl rfl)<|mV rfl<|yS<|mV rfl<|yS<|mV rfl<|yS<|z2N u x t<|z2N t u x<|z2N x t u ?_
   refine j4u [_] k t u x (n ++ (a ++ (j ++ (e ++ (f ++ R))))) rfl Y ?_
   obtain ⟨b4, bk, hm⟩ := bS hm
   refine z8i k n a j e f<|z8i f k n a j e<|z8i e f k n a j<|Z4 j e f k<|Z7 [_] [] k j e f (n ++ (a ++ R)) rfl<|Tg _ rfl j3T rfl (z3K _ _ (some aL) O S T U V W X aI H I aH ads J ac ad ae af ag ah ai aj ak al am an ao aq k A8 c9 j ar au e av f (aU.le (d.trans c)) (aV.le (d.trans c)) (aW.le (d.trans c)) (aX.le (d.trans c)) (aY.le (d.trans c)) (aZ.le (d.trans c)) (a0.le (d.trans c)) (aG.le (d.trans c)) (a1.le (d.trans c)) (a2.le (d.trans c)) (a3.le (d.trans c)) b4 bk) ?_
   rintro _ cQ _ bl ⟨rfl, rfl⟩
   refine K6 [_] [] k j e f (n ++ (a ++ R)) rfl<|yS<|tS (sn2 rfl)<|tS (pF rfl rfl)<|Tn ?_
   obtain ⟨rfl, rfl⟩ := Z6 hm
   exact jJ ⟨rfl, rfl, bl⟩
   rintro a5 _ _ ⟨rfl, rfl, g⟩
   have hm := (J4 bz)
   refine cB hm rfl (fun hm => ?_) fun hm => ?_
   refine Ce<|Xe<|Xo<|Xn<|Cg<|tS (sa rfl rfl (by omega))<|mV rfl<|Tn ?_
   exact jM hm ⟨rfl, rfl, ((c.trans g))⟩
   refine Ck<|Xn<|Cs<|Cb<|Cr<|mV rfl ?_
   obtain ⟨bm, bn, hm⟩ := bS hm
   obtain ⟨cR, b5, hm⟩ := bS hm
   refine Tr 8 rfl (v' := .pointer (some ⟨(ads bm), 0, none⟩)) (by rw [bn]; rfl)<|Tr 48 rfl (v' := .pointer (some ⟨(ads bm), 0, none⟩)) (by rw [bn]; rfl) ?_
   obtain ⟨co, cp, A, aO, bG, hf1898⟩ := OAr.take (aG.le (d.trans (c.trans g))) b5
   obtain ⟨cT, cU, cV, cW, cX, cY, B, cZ, c0, C, rfl, c1, c2, c3, c5, rfl⟩ := bG
   refine z8i n a j e f k<|q1W [_] k A B C (n ++ (a ++ (j ++ (e ++ (f ++ R))))) rfl aO<|tS (sN rfl)<|tS (sF rfl z9h)<|tS (sL 0 rfl q4J rfl rfl)<|aS rfl<|Te ?_
   refine cB hm rfl (fun hm => ?_) fun hm => ?_
   refine Cr<|aS rfl<|Te<|Ct<|Xb<|Xr<|Xb<|Xr<|Xr<|Xb ?_
   refine Xr ?_
   have bH := K _ (Kd hm).symm
   rw [bH] at D
   have hm := J9 D
   refine W7 B C A<|W7 A B C<|W7 C A B<|q2A [_] k A B C (n ++ (a ++ (j ++ (e ++ (f ++ R))))) rfl aO ?_
   obtain ⟨rfl, rfl⟩ := Z6 hm
   have bI := (h5.le (d.trans (c.trans g)))
   exact rO ⟨A3, c4, n, rfl, rfl, bI⟩ (d.trans (c.trans g))
   refine q6I B C A<|q6I A B C<|q6I C A B<|z3G [_] k A B C (n ++ (a ++ (j ++ (e ++ (f ++ R))))) rfl aO ?_
   obtain ⟨⟨b6, bo⟩, bJ, bK⟩ := bS hm
   refine Cj (fun a7 e' hp' => ∃ aP aQ aa, [(52, bv b6)] = e' ∧ (J, Cl 57 [sv ac O ad, sv ae S af, sv ag T ah, sv ai U aj, sv ak V al, sv am W an, sv ao X aq, sv A8 H c9, sv ar I au, .map (some av)]) :: (aa ++ (j ++ (e ++ (f ++ (k ++ R))))) = hp' ∧ a5.Le a7 ∧ OS 3 (OT.fr rI) a7.w (sv aP bo aQ) bo aa) ?_ ?_
   have hm := bJ
   obtain ⟨aR, b7, hm⟩ := bS hm
   obtain ⟨cq, cr, p, ab, bL, hf1987⟩ := OAr.take (aG.le (d.trans (c.trans g))) b7
   obtain ⟨c6, c7, c8, da, db, dc, q, dd, de, s, rfl, df, dg, dh, di, rfl⟩ := bL
   refine q8v [_] k p q s (n ++ (a ++ (j ++ (e ++ (f ++ R))))) rfl ab ?_
   by_cases ay : 0 ≤ aR.Route.To
   rw [if_pos ay] at hm
   obtain ⟨_, L, hm⟩ := bS hm
   obtain ⟨⟨a8, a9⟩, aA, hm⟩ := bS hm
   have hm := (J4 hm)
   refine Di mixed (.cons _ (.cons _ (ss q (ss s (ss p (ss n (sp a (ss j (ss e (ss f (.refl _)))))))))))<|E0 0 rfl (sM rfl)<|E0 1 rfl (sN rfl)<|E0 2 rfl (sF rfl q2t)<|E0 3 rfl (sF rfl q6B)<|Eo<|Da [4] (by kernel_rfl) rfl ?_
   refine Rd2 lr rfl rfl (Q7.does (sL 0 rfl Q5 rfl rfl)) ?_ ?_
   rintro _ _ ⟨rfl, rfl⟩
   refine iR<|Ei lr (.cons _ (.cons _ (ss q (ss s (ss p (ss n (sp a (ss j (ss e (ss f (.refl _)))))))))))<|E0 5 rfl (j0A rfl rfl ay)<|E0 6 rfl (sM rfl)<|Yz 7 59 rfl (sM rfl)<|Yz 8 59 rfl (sM rfl)<|Yz 9 59 rfl (sN rfl)<|Yz 10 59 rfl (sF rfl q2t)<|Yz 11 59 rfl (sF rfl q6B)<|Yz 13 59 rfl (sM rfl) ?_
   refine Yz 14 59 rfl (sM rfl)<|Eo<|Da [12, 15] (by kernel_rfl) rfl ?_
   refine q3X lr rfl rfl 59 rfl rfl rfl (Q7.does (sL 0 rfl Q5 rfl rfl)) ?_ ?_
   rintro _ _ ⟨rfl, rfl⟩
   refine iR<|Da [15] (by kernel_rfl) rfl ?_
   refine q3X lr rfl rfl 59 rfl rfl rfl (V7 (el := 3) [(0, iv E)] [iv E] rfl (fun _ => by kernel_rfl)) ?_ ?_
   rintro _ _ ⟨b8, rfl, rfl⟩
   refine iR ?_
   have L := V6 L
   refine z0W q s p n<|Da [16] (by kernel_rfl) rfl ?_
   refine q3X lr rfl rfl 59 rfl rfl rfl (uQ (r := rI) (l := G) [_, _, _] (q ++ (s ++ (p ++ (a ++ (j ++ (e ++ (f ++ R))))))) [[iv E]] [E] rfl (by decide) z2n j7b rfl rfl rfl rfl (h5.le (d.trans (c.trans g))) rfl (fun w ho => Rd.own (i := 0) ho rfl) ⟨rfl, trivial⟩ L) ?_ ?_
   rintro _ _ ⟨m, rfl, F⟩
   obtain ⟨aB, aC, rfl, _⟩ := F.form
   refine iR<|q6F 1 rfl<|z0W m q s p<|z0W p m q s<|z0W s p m q<|j3A [_, _] k p q s (m ++ (a ++ (j ++ (e ++ (f ++ R))))) rfl ab<|q6F 1 rfl<|z1P k m a j e f<|z1P f k m a j e<|z1P e f k m a j ?_
   refine j3y j e f k m<|z9m [_] [_] m j e f k (a ++ R) rfl<|Da [17] (by kernel_rfl) rfl ?_
   refine z1z lr rfl rfl 59 rfl rfl rfl _ z6D rfl (ih _ _ aR.Route.To O S T U V W X (G ++ [E]) H I aH aI ads J ac ad ae af ag ah ai aj ak al am an ao aq aB aC m A8 c9 j ar au e av f k (aU.le (d.trans (c.trans g))) (aV.le (d.trans (c.trans g))) (aW.le (d.trans (c.trans g))) (aX.le (d.trans (c.trans g))) (aY.le (d.trans (c.trans g))) (aZ.le (d.trans (c.trans g))) (a0.le (d.trans (c.trans g))) F (a1.le (d.trans (c.trans g))) (a2.le (d.trans (c.trans g))) (a3.le (d.trans (c.trans g))) (aG.le (d.trans (c.trans g))) a8 a9 aA) ?_ ?_
   rintro _ bp _ z ⟨aD, aE, y, rfl, rfl, aF⟩
   refine iR<|j3z [_] [_] y j e f k (a ++ R) rfl<|Ei z (.cons _ (.cons _ (ss y (ss j (ss e (ss f (ss k (.refl _))))))))<|Yz 18 59 rfl (q2 rfl rfl)<|E0 19 rfl (pT rfl rfl)<|E0 20 rfl (sA rfl)<|Eo<|Dd (by kernel_rfl) ?_
   obtain ⟨rfl, rfl⟩ := Z6 hm
   exact jJ ⟨aD, aE, y, rfl, rfl, z, aF⟩
   exact Rn
   exact Rn
   exact Rn
   refine q3X lr rfl rfl 59 rfl rfl rfl (V7 (el := 3) [(0, iv E)] [iv E] rfl (fun _ => by kernel_rfl)) ?_ ?_
   rintro _ _ ⟨b8, rfl, rfl⟩
   refine iR ?_
   have L := V6 L
   refine z0W q s p n<|Da [12, 16] (by kernel_rfl) rfl ?_
   refine q3X lr rfl rfl 59 rfl rfl rfl (Q7.does (sL 1 rfl Q5 rfl rfl)) ?_ ?_
   rintro _ _ ⟨rfl, rfl⟩
   refine iR<|Da [16] (by kernel_rfl) rfl ?_
   refine q3X lr rfl rfl 59 rfl rfl rfl (uQ (r := rI) (l := G) [_, _, _] (q ++ (s ++ (p ++ (a ++ (j ++ (e ++ (f ++ R))))))) [[iv E]] [E] rfl (by decide) z2n j7b rfl rfl rfl rfl (h5.le (d.trans (c.trans g))) rfl (fun w ho => Rd.own (i := 0) ho rfl) ⟨rfl, trivial⟩ L) ?_ ?_
   rintro _ _ ⟨m, rfl, F⟩
   obtain ⟨aB, aC, rfl, _⟩ := F.form
   refine iR<|q6F 1 rfl<|z0W m q s p<|z0W p m q s<|z0W s p m q<|j3A [_, _] k p q s (m ++ (a ++ (j ++ (e ++ (f ++ R))))) rfl ab<|q6F 1 rfl<|z1P k m a j e f<|z1P f k m a j e<|z1P e f k m a j ?_
   refine j3y j e f k m<|z9m [_] [_] m j e f k (a ++ R) rfl<|Da [17] (by kernel_rfl) rfl ?_
   refine z1z lr rfl rfl 59 rfl rfl rfl _ z6D rfl (ih _ _ aR.Route.To O S T U V W X (G ++ [E]) H I aH aI ads J ac ad ae af ag ah ai aj ak al am an ao aq aB aC m A8 c9 j ar au e av f k (aU.le (d.trans (c.trans g))) (aV.le (d.trans (c.trans g))) (aW.le (d.trans (c.trans g))) (aX.le (d.trans (c.trans g))) (aY.le (d.trans (c.trans g))) (aZ.le (d.trans (c.trans g))) (a0.le (d.trans (c.trans g))) F (a1.le (d.trans (c.trans g))) (a2.le (d.trans (c.trans g))) (a3.le (d.trans (c.trans g))) (aG.le (d.trans (c.trans g))) a8 a9 aA) ?_ ?_
   rintro _ bp _ z ⟨aD, aE, y, rfl, rfl, aF⟩
   refine iR<|j3z [_] [_] y j e f k (a ++ R) rfl<|Ei z (.cons _ (.cons _ (ss y (ss j (ss e (ss f (ss k (.refl _))))))))<|Yz 18 59 rfl (q2 rfl rfl)<|E0 19 rfl (pT rfl rfl)<|E0 20 rfl (sA rfl)<|Eo<|Dd (by kernel_rfl) ?_
   obtain ⟨rfl, rfl⟩ := Z6 hm
   exact jJ ⟨aD, aE, y, rfl, rfl, z, aF⟩
   exact Rn
   exact Rn
   refine q3X lr rfl rfl 59 rfl rfl rfl (uQ (r := rI) (l := G) [_, _, _] (q ++ (s ++ (p ++ (a ++ (j ++ (e ++ (f ++ R))))))) [[iv E]] [E] rfl (by decide) z2n j7b rfl rfl rfl rfl (h5.le (d.trans (c.trans g))) rfl (fun w ho => Rd.own (i := 0) ho rfl) ⟨rfl, trivial⟩ L) ?_ ?_
   rintro _ _ ⟨m, rfl, F⟩
   obtain ⟨aB, aC, rfl, _⟩ := F.form
   refine iR<|Da [12] (by kernel_rfl) rfl ?_
   refine q3X lr rfl rfl 59 rfl rfl rfl (Q7.does (sL 1 rfl Q5 rfl rfl)) ?_ ?_
   rintro _ _ ⟨rfl, rfl⟩
   refine iR<|q6F 1 rfl<|z0W m q s p<|z0W p m q s<|z0W s p m q<|j3A [_, _] k p q s (m ++ (a ++ (j ++ (e ++ (f ++ R))))) rfl ab<|q6F 1 rfl<|z1P k m a j e f<|z1P f k m a j e<|z1P e f k m a j ?_
   refine j3y j e f k m<|z9m [_] [_] m j e f k (a ++ R) rfl<|Da [17] (by kernel_rfl) rfl ?_
   refine z1z lr rfl rfl 59 rfl rfl rfl _ z6D rfl (ih _ _ aR.Route.To O S T U V W X (G ++ [E]) H I aH aI ads J ac ad ae af ag ah ai aj ak al am an ao aq aB aC m A8 c9 j ar au e av f k (aU.le (d.trans (c.trans g))) (aV.le (d.trans (c.trans g))) (aW.le (d.trans (c.trans g))) (aX.le (d.trans (c.trans g))) (aY.le (d.trans (c.trans g))) (aZ.le (d.trans (c.trans g))) (a0.le (d.trans (c.trans g))) F (a1.le (d.trans (c.trans g))) (a2.le (d.trans (c.trans g))) (a3.le (d.trans (c.trans g))) (aG.le (d.trans (c.trans g))) a8 a9 aA) ?_ ?_
   rintro _ bp _ z ⟨aD, aE, y, rfl, rfl, aF⟩
   refine iR<|j3z [_] [_] y j e f k (a ++ R) rfl<|Ei z (.cons _ (.cons _ (ss y (ss j (ss e (ss f (ss k (.refl _))))))))<|Yz 18 59 rfl (q2 rfl rfl)<|E0 19 rfl (pT rfl rfl)<|E0 20 rfl (sA rfl)<|Eo<|Dd (by kernel_rfl) ?_
   obtain ⟨rfl, rfl⟩ := Z6 hm
   exact jJ ⟨aD, aE, y, rfl, rfl, z, aF⟩
   exact Rn
   exact Rn
   exact Rn
   exact Rn
   exact Rn
   rw [if_neg ay] at hm
   refine Di mixed (.refl _)<|E0 0 rfl (sM rfl)<|E0 1 rfl (sN rfl)<|E0 2 rfl (sF rfl q2t)<|E0 3 rfl (sF rfl q6B)<|Es 4 rfl (sL 0 rfl Q5 rfl rfl)<|E0 5 rfl (j0B rfl rfl ay)<|E0 6 rfl (sM rfl)<|eN 7 rfl<|eN 8 rfl ?_
   refine eN 9 rfl<|eN 10 rfl<|eN 11 rfl<|eN 12 rfl<|eN 13 rfl<|eN 14 rfl<|eN 15 rfl<|eN 16 rfl<|eN 17 rfl<|eN 18 rfl ?_
   refine E0 19 rfl (pF rfl rfl)<|E0 20 rfl (sA rfl)<|Eo<|Dd (by kernel_rfl)<|W7 q s p<|W7 p q s<|W7 s p q<|q2A [_] k p q s (n ++ (a ++ (j ++ (e ++ (f ++ R))))) rfl ab ?_
   obtain ⟨rfl, rfl⟩ := Z6 hm
   exact jJ ⟨A3, c4, n, rfl, rfl, lr, (h5.le (d.trans (c.trans g)))⟩
   rintro a7 _ _ ⟨aP, aQ, aa, rfl, rfl, aT, bq⟩
   have hm := (J4 bK)
   refine cB hm rfl (fun hm => ?_) fun hm => ?_
   refine Cr<|aS rfl<|Te<|Ct<|Xb<|Xr<|Xb<|Xr<|Xr<|Xb ?_
   refine Xr ?_
   have bM := K _ (Kd hm).symm
   rw [bM] at D
   have hm := J9 D
   obtain ⟨rfl, rfl⟩ := Z6 hm
   exact rO ⟨aP, aQ, aa, rfl, rfl, bq⟩ (d.trans (c.trans (g.trans aT)))
   refine Ck<|Xm<|Xn<|Cr<|aS rfl<|Te<|Ct<|Xb<|Xr<|Xr ?_
   refine Xb<|Xr ?_
   have bN := K _ (Kd hm).symm
   rw [bN] at D
   have hm := J9 D
   obtain ⟨rfl, rfl⟩ := Z6 hm
   exact rO ⟨aP, aQ, aa, rfl, rfl, bq⟩ (d.trans (c.trans (g.trans aT)))
   rintro _ aK _ _ ⟨rfl, rfl, c⟩ bO
   rw [bO] at D
   have hm := H4 D
   refine Cr<|tS (lF rfl rfl (by omega))<|Te<|Cs<|k7 rfl<|Ce<|Xe<|Xe<|Xo<|Xn ?_
   refine Cr<|aS rfl<|Te<|Ct ?_
   obtain ⟨rfl, rfl⟩ := Z6 hm
   have bP := (h5.le (d.trans c))
   exact rO ⟨A3, c4, n, rfl, rfl, bP⟩ (d.trans c)
theorem q7t (b : k8) (R : Hp) (K j k l m n p q g h O S) (ads : Int → Nat) (r s t u w x y z B C D E F G H U V e W X f I c d) (ae : FZ RT.str b.w s t j) (af : FZ j3 b.w u w k) (ag : FZ w6 b.w x y l) (ah : FZ j6 b.w z B m) (ai : FZ w7 b.w C D n) (aj : FZ Q3 b.w E F p) (ak : FZ (RT.list j8) b.w G H q) (h5 : OS 59 (OT.fr j9) b.w (sv U g V) g e) (al : OS 127 (OT.fr v8) b.w (sv W h X) h f) (am : OM rI (OT.fr (RT.key ads)) false false b.w I O c) (an : OAr 85 z8 ads b.w S d) (Y Z) (hm : K9 K j k l m n p q g h O S = some (Y, Z)):
 w8 Tryz.prog 35 [pb r, iv K] b ((r, Cl 57 [sv s j t, sv u k w, sv x l y, sv z m B, sv C n D, sv E p F, sv G q H, sv U g V, sv W h X, .map (some I)]) :: (e ++ (f ++ (c ++ (d ++ R))))) (fun v b' hp' => .tuple #[iv Y, iv Z] = v ∧ (r, Cl 57 [sv s j t, sv u k w, sv x l y, sv z m B, sv C n D, sv E p F, sv G q H, sv U g V, sv W h X, .map (some I)]) :: (e ++ (f ++ (c ++ (d ++ R)))) = hp') := by
 refine fE 21 Tryz.func35 rfl Tryz.ntmps35 rfl ?_
 unfold K9 at hm
 refine Cr<|aS rfl<|aS rfl<|Te<|Cs ?_
 obtain ⟨ao, aa, ab⟩ := bS hm
 refine Cj (fun ac e' hp' => [(0, pb r), (1, iv K), (17, bv ao)] = e' ∧ (r, Cl 57 [sv s j t, sv u k w, sv x l y, sv z m B, sv C n D, sv E p F, sv G q H, sv U g V, sv W h X, .map (some I)]) :: (e ++ (f ++ (c ++ (d ++ R)))) = hp' ∧ b.Le ac) ?_ ?_
 have hm := aa
 refine Cg<|mV rfl<|Tb rfl (q3 rfl rfl) (fun J => ?_) (fun J => ?_)
 rw [if_pos J] at hm
 refine mV rfl<|nO<|nO<|nO<|nO<|nO<|nO<|nO<|nO<|tS (pT rfl rfl)<|Tn ?_
 obtain rfl := o1 hm
 exact jJ ⟨rfl, rfl, lr⟩
 rw [if_neg J] at hm
 refine mV rfl<|yS<|mV rfl<|yS<|mV rfl<|yS<|tS (sN rfl)<|yS<|tS (sF rfl q5p)<|yS<|tS (sF rfl q3k)<|yS<|tS (sL 0 rfl q8X rfl rfl)<|yS<|tS (sE rfl z4e)<|yS<|tS (q6 rfl rfl)<|tS (pF rfl rfl)<|Tn ?_
 obtain rfl := o1 hm
 exact jJ ⟨rfl, rfl, lr⟩
 rintro ac _ _ ⟨rfl, rfl, a⟩
 have hm := ab
 refine cB hm rfl (fun hm => ?_) fun hm => ?_
 refine Cr<|aS rfl<|aS rfl<|Te<|Ct<|Xr ?_
 obtain ⟨rfl, rfl⟩ := Z6 hm
 exact rT ⟨rfl, rfl⟩ a
 refine Ck<|Xn<|Cr<|mV rfl<|mV rfl ?_
 obtain ⟨⟨aq, ar⟩, i, hm⟩ := bS hm
 obtain ⟨L, i⟩ := q8k i
 have hm := J4 hm
 refine q5J [_] [] e f c d R rfl<|q5J [_] d [] e f c R rfl<|q5J [_] c d [] e f R rfl<|q5J [_] f c d [] e R rfl<|q5J [_] e f c d [] R rfl<|j1J [_] [] [] e f c d R rfl<|Tg _ rfl z6D rfl (q9X L _ _ K j k l m n p q ([] : List Int) g h O S ads r s t u w x y z B C D E F G H none 0 [] U V e W X f I c d (ae.le a) (af.le a) (ag.le a) (ah.le a) (ai.le a) (aj.le a) (ak.le a) (OS.nil (el := 3) (o := (OT.fr rI)) (A := none)) (h5.le a) (al.le a) (am.le a) (an.le a) aq ar i) ?_
 rintro _ au _ T ⟨av, aw, ad, rfl, rfl, ax⟩
 refine z0w [_] [] ad e f c d R rfl<|aS rfl<|aS rfl<|Te<|Ct ?_
 obtain ⟨rfl, rfl⟩ := Z6 hm
 exact rT ⟨rfl, rfl⟩ (a.trans T)
theorem q7s (b : k8) (R : Hp) (T g i k l m n o e f W X) (ads : Int → Nat) (p s t x y z A B C D E F G H I A3 c4 q A8 c9 J K c d) (ar : FZ RT.str b.w s t g) (au : FZ j3 b.w x y i) (av : FZ w6 b.w z A k) (aw : FZ j6 b.w B C l) (ax : FZ w7 b.w D E m) (ay : FZ Q3 b.w F G n) (az : FZ (RT.list j8) b.w H I o) (h5 : OS 59 (OT.fr j9) b.w (sv A3 e c4) e q) (ai : OS 127 (OT.fr v8) b.w (sv A8 f c9) f J) (aA : OM rI (OT.fr (RT.key ads)) false false b.w K W c) (aB : OAr 85 z8 ads b.w X d) (Y Z) (hm : q0V T g i k l m n o e f W X = some (Y, Z)):
 w8 Tryz.prog 42 [pb p, iv T] b ((p, Cl 57 [sv s g t, sv x i y, sv z k A, sv B l C, sv D m E, sv F n G, sv H o I, sv A3 e c4, sv A8 f c9, .map (some K)]) :: (q ++ (J ++ (c ++ (d ++ R))))) (fun v b' hp' => .tuple #[bv Y, iv Z] = v ∧ (p, Cl 57 [sv s g t, sv x i y, sv z k A, sv B l C, sv D m E, sv F n G, sv H o I, sv A3 e c4, sv A8 f c9, .map (some K)]) :: (q ++ (J ++ (c ++ (d ++ R)))) = hp') := by
 refine fE 25 Tryz.func42 rfl Tryz.ntmps42 rfl ?_
 unfold q0V at hm
 refine Cr<|aS rfl<|aS rfl<|Te<|Cs ?_
 obtain ⟨aj, aa, ab⟩ := bS hm
 refine Cj (fun ac e' hp' => [(0, pb p), (1, iv T), (16, bv aj)] = e' ∧ (p, Cl 57 [sv s g t, sv x i y, sv z k A, sv B l C, sv D m E, sv F n G, sv H o I, sv A3 e c4, sv A8 f c9, .map (some K)]) :: (q ++ (J ++ (c ++ (d ++ R)))) = hp' ∧ b.Le ac) ?_ ?_
 have hm := aa
 refine Cg<|mV rfl<|Tb rfl (q3 rfl rfl) (fun r => ?_) (fun r => ?_)
 rw [if_pos r] at hm
 refine mV rfl<|nO<|nO<|nO<|nO<|nO<|nO<|nO<|tS (pT rfl rfl)<|Tn ?_
 obtain rfl := o1 hm
 exact jJ ⟨rfl, rfl, lr⟩
 rw [if_neg r] at hm
 refine mV rfl<|yS<|mV rfl<|yS<|mV rfl<|yS<|tS (sN rfl)<|yS<|tS (sF rfl q2u)<|yS<|tS (sL 0 rfl q7A rfl rfl)<|yS<|tS (sE rfl q7P)<|yS<|tS (q6 rfl rfl)<|tS (pF rfl rfl)<|Tn ?_
 obtain rfl := o1 hm
 exact jJ ⟨rfl, rfl, lr⟩
 rintro ac _ _ ⟨rfl, rfl, a⟩
 have hm := ab
 refine cB hm rfl (fun hm => ?_) fun hm => ?_
 refine Cr<|aS rfl<|aS rfl<|Te<|Ct<|Xr ?_
 obtain ⟨rfl, rfl⟩ := Z6 hm
 exact rT ⟨rfl, rfl⟩ a
 refine Ck<|Xn<|Cr<|mV rfl<|tS (sN rfl)<|tS (sF rfl q2u)<|tS (sL 0 rfl q7A rfl rfl)<|mV rfl ?_
 obtain ⟨L, ak, hm⟩ := bS hm
 obtain ⟨al, ad, ae⟩ := iS ak
 obtain ⟨an, ao, aC, aD, aq, af, U, S, V, am, ah⟩ := OS.get (sz := 3) rfl (by decide) (ai.le a) ae
 obtain ⟨⟨_, _, rfl, rfl, ⟨_, _, rfl, rfl, rfl⟩⟩, rfl⟩ := af
 refine tS (sI al rfl rfl ad V S q7P)<|tS (Z2 (vs := [iv L.left, bv L.wanted, bv L.failed]) 3 rfl j2s S rfl (fun w ho j u hu => U w _ ho (.cons _ (ss q (Kb _ _))) j u hu)) ?_
 obtain ⟨ag, O, hm⟩ := bS hm
 refine tD (uW _ j2c rfl (fun w ho => q6T _ [] L ag O) (fun _ _ _ h => h.2.symm)) ?_
 rintro _ _ ⟨⟨_, rfl, _⟩, rfl⟩
 refine aS rfl<|aS rfl<|Te<|Ct ?_
 obtain ⟨rfl, rfl⟩ := Z6 hm
 exact rT ⟨rfl, rfl⟩ a
theorem q5r (b : k8) (R : Hp) (j k l m n o p g h q r) (ads : Int → Nat) (w x y z A B C D E F G H I J K X Y d Z c9 e i a c) (af : FZ RT.str b.w x y j) (ag : FZ j3 b.w z A k) (ah : FZ w6 b.w B C l) (ai : FZ j6 b.w D E m) (aj : FZ w7 b.w F G n) (ak : FZ Q3 b.w H I o) (al : FZ (RT.list j8) b.w J K p) (h5 : OS 59 (OT.fr j9) b.w (sv X g Y) g d) (am : OS 127 (OT.fr v8) b.w (sv Z h c9) h e) (T : OM rI (OT.fr (RT.key ads)) false false b.w i q a) (U : OAr 85 z8 ads b.w r c) (s) (hm : q0l j k l m n o p g h q r = some s):
 w8 Tryz.prog 31 [pb w] b ((w, Cl 57 [sv x j y, sv z k A, sv B l C, sv D m E, sv F n G, sv H o I, sv J p K, sv X g Y, sv Z h c9, .map (some i)]) :: (d ++ (e ++ (a ++ (c ++ R))))) (fun v b' hp' => ∃ V W t, sv V s W = v ∧ (w, Cl 57 [sv x j y, sv z k A, sv B l C, sv D m E, sv F n G, sv H o I, sv J p K, sv X g Y, sv Z h c9, .map (some i)]) :: (t ++ (d ++ (e ++ (a ++ (c ++ R))))) = hp' ∧ OS 3 (OT.fr rI) b'.w (sv V s W) s t) := by
 refine fE 9 Tryz.func31 rfl Tryz.ntmps31 rfl ?_
 unfold q0l at hm
 refine Cr<|aS rfl<|Te<|Cr<|mV rfl<|tS (sN rfl)<|tS (sF rfl q0J)<|tS (sL 0 rfl q5O rfl rfl) ?_
 obtain ⟨_, L, hm⟩ := bS hm
 refine Z4 d e a c<|Z4 c d e a<|z6e [] [_] a c (d ++ (e ++ R)) rfl<|Tg _ rfl j2e rfl (z4N _ _ q r ads i a c T U L) ?_
 rintro _ an _ f ⟨aa, rfl, rfl⟩
 refine z7a [_] [_] a c (d ++ (e ++ R)) rfl ?_
 obtain ⟨ab, O, hm⟩ := bS hm
 refine z1G a c<|z1G c a<|z6e [_] [_] a c (d ++ (e ++ R)) rfl<|Tg _ rfl j2f rfl (q8z _ _ q r ads aa i a c (T.le f) (U.le f) ab O) ?_
 rintro _ ao _ S ⟨ac, ad, u, rfl, rfl, ae⟩
 refine z2O [_] [_] u a c (d ++ (e ++ R)) rfl<|aS rfl<|Te<|Ct ?_
 obtain rfl := o1 hm
 exact rO ⟨ac, ad, u, rfl, rfl, ae⟩ (f.trans S)
theorem q9G (b : k8) (R : Hp) (j l m n o p q r h i T s) (ads : Int → Nat) (t u x y z A B C D E F G H I J A3 c4 d A8 c9 e K c a) (ag : FZ RT.str b.w u x l) (ah : FZ j3 b.w y z m) (ai : FZ w6 b.w A B n) (aj : FZ j6 b.w C D o) (ak : FZ w7 b.w E F p) (al : FZ Q3 b.w G H q) (am : FZ (RT.list j8) b.w I J r) (h5 : OS 59 (OT.fr j9) b.w (sv A3 h c4) h d) (an : OS 127 (OT.fr v8) b.w (sv A8 i c9) i e) (Y : OM rI (OT.fr (RT.key ads)) false false b.w K T c) (Z : OAr 85 z8 ads b.w s a) (aa L) (hm : q2y j l m n o p q r h i T s = some (aa, L)):
 w8 Tryz.prog 32 [pb t, iv j] b ((t, Cl 57 [sv u l x, sv y m z, sv A n B, sv C o D, sv E p F, sv G q H, sv I r J, sv A3 h c4, sv A8 i c9, .map (some K)]) :: (d ++ (e ++ (c ++ (a ++ R))))) (fun v b' hp' => ∃ ab ac O, .tuple #[sv ab L ac, iv aa] = v ∧ (t, Cl 57 [sv u l x, sv y m z, sv A n B, sv C o D, sv E p F, sv G q H, sv I r J, sv A3 h c4, sv A8 i c9, .map (some K)]) :: (O ++ (d ++ (e ++ (c ++ (a ++ R))))) = hp' ∧ OS 72 (OT.fr j8) b'.w (sv ab L ac) L O) := by
 refine fE 21 Tryz.func32 rfl Tryz.ntmps32 rfl ?_
 unfold q2y at hm
 refine Cr<|aS rfl<|aS rfl<|Te<|Cs<|Cr<|mV rfl<|mV rfl ?_
 obtain ⟨ao, U, hm⟩ := bS hm
 refine Z4 d e c a<|Z4 a d e c<|Z4 c a d e<|Z4 e c a d<|Z7 [_] [] d e c a R rfl<|Tg _ rfl z6I rfl (q2l _ _ j l m n o p q r h i T s ads t u x y z A B C D E F G H I J A3 c4 d A8 c9 e K c a ag ah ai aj ak al am h5 an Y Z ao U) ?_
 rintro _ ax _ f ⟨rfl, rfl⟩
 refine K6 [_] [] d e c a R rfl<|tS (sn2 rfl)<|Te<|cM hm rfl (fun hm => ?_) fun hm => ?_
 refine Cr<|aS rfl<|aS rfl<|Te<|Ct<|Xr ?_
 obtain ⟨rfl, rfl⟩ := Z6 hm
 exact rT ⟨none, 0, [], rfl, rfl, OS.nil⟩ f
 refine Ck<|Xn<|Cs<|Cr<|mV rfl<|tS (sN rfl)<|tS (sF rfl q0J)<|tS (sL 0 rfl q5O rfl rfl)<|mV rfl ?_
 obtain ⟨V, aq, hm⟩ := bS hm
 have ad := Kd aq
 obtain ⟨ae, g, af⟩ := OM.lookF z8R (z0 := none) (Y.le f) (key := iv j) (k := j) rfl q3a z3V rfl
 rw [ad] at g
 obtain rfl : ae = kv ads V := by have g : [ae] = [kv ads V] := g; injection g
 refine tS (q4T (ok := false) rfl rfl (fun w ho => af _ w ho (.cons _ (ss d (ss e (Kb _ _)))) false))<|aS rfl<|Te<|Cr<|mV rfl<|tS (z2Q rfl rfl j0M)<|Te<|cM hm rfl (fun hm => ?_) fun hm => ?_
 refine Cr<|mV rfl ?_
 obtain ⟨ar, W, hm⟩ := bS hm
 refine Z4 d e c a<|q4R [] [_] a (d ++ (e ++ (c ++ R))) rfl<|Tg _ rfl z6G rfl (q2X _ _ V s ads a (Z.le f) ar W) ?_
 rintro _ ay _ X ⟨au, av, S, rfl, rfl, aw⟩
 refine z7a [] [_] S a (d ++ (e ++ (c ++ R))) rfl<|aS rfl<|aS rfl<|Te<|Ct<|Xr ?_
 obtain ⟨rfl, rfl⟩ := Z6 hm
 exact rT ⟨au, av, S, rfl, rfl, aw⟩ (f.trans X)
 refine Ck<|Xn<|Cr<|aS rfl<|aS rfl<|Te<|Ct ?_
 obtain ⟨rfl, rfl⟩ := Z6 hm
 exact rT ⟨none, 0, [], rfl, rfl, OS.nil⟩ f
theorem q9F (b : k8) (R : Hp) (z q r s t u x y m n af ag) (ads : Int → Nat) (A B C D E F G H I J K L O S T A3 c4 d A8 c9 e U a c) (aE : FZ RT.str b.w B C q) (aF : FZ j3 b.w D E r) (aG : FZ w6 b.w F G s) (aH : FZ j6 b.w H I t) (aI : FZ w7 b.w J K u) (aJ : FZ Q3 b.w L O x) (aK : FZ (RT.list j8) b.w S T y) (h5 : OS 59 (OT.fr j9) b.w (sv A3 m c4) m d) (aL : OS 127 (OT.fr v8) b.w (sv A8 n c9) n e) (ar : OM rI (OT.fr (RT.key ads)) false false b.w U af a) (au : OAr 85 z8 ads b.w ag c) (ab ac) (hm : q2x z q r s t u x y m n af ag = some (ab, ac)):
 w8 Tryz.prog 36 [pb A, iv z] b ((A, Cl 57 [sv B q C, sv D r E, sv F s G, sv H t I, sv J u K, sv L x O, sv S y T, sv A3 m c4, sv A8 n c9, .map (some U)]) :: (d ++ (e ++ (a ++ (c ++ R))))) (fun v b' hp' => .tuple #[bv ab, iv ac] = v ∧ (A, Cl 57 [sv B q C, sv D r E, sv F s G, sv H t I, sv J u K, sv L x O, sv S y T, sv A3 m c4, sv A8 n c9, .map (some U)]) :: (d ++ (e ++ (a ++ (c ++ R)))) = hp') := by
 refine fE 27 Tryz.func36 rfl Tryz.ntmps36 rfl ?_
 unfold q2x at hm
 refine Cr<|aS rfl<|aS rfl<|Te<|Cs<|Cr<|mV rfl<|mV rfl ?_
 obtain ⟨av, X, hm⟩ := bS hm
 refine Z4 d e a c<|Z4 c d e a<|Z4 a c d e<|Z4 e a c d<|Z7 [_] [] d e a c R rfl<|Tg _ rfl z6I rfl (q2l _ _ z q r s t u x y m n af ag ads A B C D E F G H I J K L O S T A3 c4 d A8 c9 e U a c aE aF aG aH aI aJ aK h5 aL ar au av X) ?_
 rintro _ aw _ f ⟨rfl, rfl⟩
 refine K6 [_] [] d e a c R rfl<|tS (sn2 rfl)<|Te<|cM hm rfl (fun hm => ?_) fun hm => ?_
 refine Cr<|aS rfl<|aS rfl<|Te<|Ct<|Xr ?_
 obtain ⟨rfl, rfl⟩ := Z6 hm
 exact rT ⟨rfl, rfl⟩ f
 refine Ck<|Xn<|Cr<|mV rfl<|tS (sN rfl)<|tS (sF rfl q0J)<|tS (sL 0 rfl q5O rfl rfl)<|mV rfl ?_
 obtain ⟨V, ax, hm⟩ := bS hm
 have ah := Kd ax
 obtain ⟨ad, l, ai⟩ := OM.lookF z8R (z0 := none) (ar.le f) (key := iv z) (k := z) rfl q3a z3V rfl
 rw [ah] at l
 obtain rfl : ad = kv ads V := by have l : [ad] = [kv ads V] := l; injection l
 refine tS (q4T (ok := false) rfl rfl (fun w ho => ai _ w ho (.cons _ (ss d (ss e (Kb _ _)))) false))<|aS rfl<|Te ?_
 obtain ⟨ay, aj, ak⟩ := bS hm
 refine Cj (fun ae e' hp' => [(4, bv ay), (5, iv 0)] = e' ∧ (A, Cl 57 [sv B q C, sv D r E, sv F s G, sv H t I, sv J u K, sv L x O, sv S y T, sv A3 m c4, sv A8 n c9, .map (some U)]) :: (d ++ (e ++ (a ++ (c ++ R)))) = hp' ∧ aw.Le ae) ?_ ?_
 have hm := aj
 refine Cg<|mV rfl<|tS (z2Q rfl rfl j0M) ?_
 rcases Kg (!V.isNone) with g | g
 rw [if_neg (fun hh => Bool.noConfusion (hh.symm.trans (nt g)))] at hm
 refine Tr 18 rfl (v' := .bool true) (by rw [g] <;> rfl)<|mV rfl<|yS<|mV rfl<|yS ?_
 obtain ⟨o, p, hm⟩ := bS hm
 obtain ⟨aT, az, hm⟩ := bS hm
 refine Tr 6 rfl (v' := .pointer (some ⟨(ads o), 0, none⟩)) (by rw [p]; rfl)<|Tr 16 rfl (v' := .pointer (some ⟨(ads o), 0, none⟩)) (by rw [p]; rfl)<|Tr 17 rfl (v' := .pointer (some ⟨(ads o), 0, none⟩)) (by rw [p]; rfl)<|Tr 20 rfl (v' := .pointer (some ⟨(ads o), 0, none⟩)) (by rw [p]; rfl) ?_
 obtain ⟨aM, aN, h, W, al, hf217⟩ := OAr.take (au.le f) az
 obtain ⟨aU, aV, aW, aX, aY, aZ, i, a0, a1, j, rfl, a2, a3, aA, a4, rfl⟩ := al
 refine Z4 d e a c<|q1W [_] c h i j (d ++ (e ++ (a ++ R))) rfl W<|tS (sN rfl)<|yS<|tS (sF rfl q1H)<|yS<|tS (sL 0 rfl q4w rfl rfl)<|yS ?_
 obtain ⟨a5, aB, hm⟩ := bS hm
 obtain ⟨aC, am, an⟩ := iS aB
 obtain ⟨aO, aP, a6, a7, aQ, ao, Y, aq, Z, aR, aD⟩ := OS.get (sz := 1) rfl (by decide) aA an
 obtain ⟨rfl, rfl⟩ := ao
 refine tS (sI aC rfl rfl am Z aq q8S)<|yS<|tS (w9 rfl q4J (fun w ho => Y w _ ho (.cons _ (.cons _ (Kb _ _))) 0 _ rfl))<|tS (pT rfl rfl)<|aS rfl<|aS rfl<|Tn<|W7 i j h<|W7 h i j<|W7 j h i<|q2A [_] c h i j (d ++ (e ++ (a ++ R))) rfl W ?_
 obtain rfl := o1 hm
 exact jJ ⟨rfl, rfl, lr⟩
 rw [if_pos (nf g)] at hm
 refine Tr 18 rfl (v' := .bool false) (by rw [g] <;> rfl)<|mV rfl<|nO<|nO<|nO<|nO<|nO<|nO<|tS (pF rfl rfl)<|aS rfl<|aS rfl<|Tn ?_
 obtain rfl := o1 hm
 exact jJ ⟨rfl, rfl, lr⟩
 rintro ae _ _ ⟨rfl, rfl, aa⟩
 have hm := ak
 refine Ct ?_
 obtain ⟨rfl, rfl⟩ := Z6 hm
 exact rT ⟨rfl, rfl⟩ (f.trans aa)
theorem z4M (b : k8) (R : Hp) (D J K L O S) (X : FZ j8 b.w K L D) (Z : FZ j8 b.w O S J) (q) (hm : q3B D J = some q):
 w8 Tryz.prog 43 [sv K D L, sv O J S] b (R) (fun v b' hp' => bv q = v ∧ R = hp') := by
 refine fE 26 Tryz.func43 rfl Tryz.ntmps43 rfl ?_
 unfold q3B at hm
 refine Cr<|aS rfl<|Te<|Cs<|Cr<|mV rfl<|tS (sE rfl q6l)<|mV rfl<|tS (sE rfl q6l)<|tS (q2 rfl rfl)<|Te<|cI hm rfl (fun hm => ?_) fun hm => ?_
 refine Cr<|aS rfl<|Te<|Ct<|Xr ?_
 obtain rfl := o1 hm
 exact rO ⟨rfl, rfl⟩ lr
 refine Ck<|Xn<|Cs<|Cr<|mV rfl<|tS (sE rfl q6l)<|mV rfl<|Te<|Cb ?_
 have T : D.length ≤ 9223372036854775807 := (FZ.bd X)
 obtain ⟨Y, s, f⟩ := bS hm
 refine lF (fun r => fun _ => fun h e' hp' => [(0, sv K D L), (1, sv O J S), (12, iv ((D.length : Int))), (13, iv ((r : Int)))] = e' ∧ R = hp' ∧ b.Le h) s ⟨rfl, rfl, lr⟩ ?_ ?_
 rintro r _ h _ _ U E ⟨rfl, rfl, d⟩ e g
 unfold q3i at e
 have hm := e
 refine Cr<|tS (lT rfl rfl (by omega))<|Te<|Cs<|k9 rfl<|Ck<|Xn<|Cs<|Cb<|Cr<|mV rfl<|aS rfl<|Te<|Cs ?_
 obtain ⟨a, F, hm⟩ := bS hm
 obtain ⟨c, G, hm⟩ := bS hm
 refine Di mixed (.refl _)<|E0 0 rfl (sM rfl)<|E0 1 rfl (sM rfl) ?_
 obtain ⟨H, t, w⟩ := iS F
 obtain ⟨V, x, l, i, m⟩ := FZ.get (sz := 4) rfl (by decide) (X.le d) w
 obtain ⟨_, _, rfl, rfl, ⟨_, _, rfl, rfl, ⟨_, _, rfl, rfl, rfl⟩⟩⟩ := x
 refine E0 2 rfl (sI H rfl rfl t m i q6l)<|Es 3 rfl (sP (vs := [iv a.Kind, iv a.Place, iv a.Position, iv a.At]) 4 rfl q0n i rfl (fun j u hu => l j u hu))<|E0 4 rfl (sM rfl)<|E0 5 rfl (sM rfl) ?_
 obtain ⟨I, y, z⟩ := iS G
 obtain ⟨W, A, n, k, o⟩ := FZ.get (sz := 4) rfl (by decide) (Z.le d) z
 obtain ⟨_, _, rfl, rfl, ⟨_, _, rfl, rfl, ⟨_, _, rfl, rfl, rfl⟩⟩⟩ := A
 refine E0 6 rfl (sI I rfl rfl y o k q6l)<|Es 7 rfl (sP (vs := [iv c.Kind, iv c.Place, iv c.Position, iv c.At]) 4 rfl q0n k rfl (fun j u hu => n j u hu))<|E0 8 rfl (j2R (xs := [iv a.Kind, iv a.Place, iv a.Position, iv a.At]) (ys := [iv c.Kind, iv c.Place, iv c.Position, iv c.At]) (p := a.Kind = c.Kind ∧ a.Place = c.Place ∧ a.Position = c.Position ∧ a.At = c.At) rfl rfl j7d ⟨⟨_, rfl⟩, ⟨⟨_, rfl⟩, ⟨⟨_, rfl⟩, ⟨⟨_, rfl⟩, trivial⟩⟩⟩⟩ ⟨⟨_, rfl⟩, ⟨⟨_, rfl⟩, ⟨⟨_, rfl⟩, ⟨⟨_, rfl⟩, trivial⟩⟩⟩⟩ (by simp [W0, q4b, Bool.decide_and, z3O]))<|Eo<|Dd (by kernel_rfl)<|Xn ?_
 refine cN hm rfl (fun hm => ?_) fun hm => ?_
 refine Cr<|aS rfl<|Te<|Ct<|Xb<|Xr<|Xr<|Xb<|Xr ?_
 have B := g _ (Kd hm).symm
 rw [B] at f
 have hm := J9 f
 obtain rfl := o1 hm
 exact rO ⟨rfl, rfl⟩ d
 refine Ck<|Xm<|Xn<|Cg<|tS (sa rfl rfl (by omega))<|mV rfl<|Tn ?_
 exact jM hm ⟨rfl, rfl, (d)⟩
 rintro _ h _ _ ⟨rfl, rfl, d⟩ C
 rw [C] at f
 have hm := H4 f
 refine Cr<|tS (lF rfl rfl (by omega))<|Te<|Cs<|k7 rfl<|Ce<|Xe<|Xe<|Xo<|Xn<|Cr<|aS rfl<|Te<|Ct ?_
 obtain rfl := o1 hm
 exact rO ⟨rfl, rfl⟩ d
theorem z1U (b : k8) (R : Hp) (y E F G H I) (S : FZ rI b.w F G y) (W : FZ rI b.w H I E) (k) (hm : q2b y E = some k):
 w8 Tryz.prog 44 [sv F y G, sv H E I] b (R) (fun v b' hp' => bv k = v ∧ R = hp') := by
 refine fE 26 Tryz.func44 rfl Tryz.ntmps44 rfl ?_
 unfold q2b at hm
 refine Cr<|aS rfl<|Te<|Cs<|Cr<|mV rfl<|tS (sE rfl z2n)<|mV rfl<|tS (sE rfl z2n)<|tS (q2 rfl rfl)<|Te<|cI hm rfl (fun hm => ?_) fun hm => ?_
 refine Cr<|aS rfl<|Te<|Ct<|Xr ?_
 obtain rfl := o1 hm
 exact rO ⟨rfl, rfl⟩ lr
 refine Ck<|Xn<|Cs<|Cr<|mV rfl<|tS (sE rfl z2n)<|mV rfl<|Te<|Cb ?_
 have J : y.length ≤ 9223372036854775807 := (FZ.bd S)
 obtain ⟨T, m, d⟩ := bS hm
 refine lF (fun l => fun _ => fun f e' hp' => [(0, sv F y G), (1, sv H E I), (12, iv ((y.length : Int))), (13, iv ((l : Int)))] = e' ∧ R = hp' ∧ b.Le f) m ⟨rfl, rfl, lr⟩ ?_ ?_
 rintro l _ f _ _ K z ⟨rfl, rfl, a⟩ c e
 unfold q2q at c
 have hm := c
 refine Cr<|tS (lT rfl rfl (by omega))<|Te<|Cs<|k9 rfl<|Ck<|Xn<|Cs<|Cb<|Cr<|mV rfl<|aS rfl<|Te<|Cs ?_
 obtain ⟨U, A, hm⟩ := bS hm
 obtain ⟨V, B, hm⟩ := bS hm
 refine Di mixed (.refl _)<|E0 0 rfl (sM rfl)<|E0 1 rfl (sM rfl) ?_
 obtain ⟨C, n, o⟩ := iS A
 obtain ⟨L, p, g, q, h⟩ := FZ.get (sz := 1) rfl (by decide) (S.le a) o
 obtain rfl := p
 refine E0 2 rfl (sI C rfl rfl n h q z2n)<|Es 3 rfl (sO rfl Q5 (g 0 _ rfl))<|E0 4 rfl (sM rfl)<|E0 5 rfl (sM rfl) ?_
 obtain ⟨D, r, s⟩ := iS B
 obtain ⟨O, t, i, u, j⟩ := FZ.get (sz := 1) rfl (by decide) (W.le a) s
 obtain rfl := t
 refine E0 6 rfl (sI D rfl rfl r j u z2n)<|Es 7 rfl (sO rfl Q5 (i 0 _ rfl))<|E0 8 rfl (q2 rfl rfl)<|Eo<|Dd (by kernel_rfl)<|Xn<|cI hm rfl (fun hm => ?_) fun hm => ?_
 refine Cr<|aS rfl<|Te<|Ct<|Xb<|Xr<|Xr<|Xb<|Xr ?_
 have w := e _ (Kd hm).symm
 rw [w] at d
 have hm := J9 d
 obtain rfl := o1 hm
 exact rO ⟨rfl, rfl⟩ a
 refine Ck<|Xm<|Xn<|Cg<|tS (sa rfl rfl (by omega))<|mV rfl<|Tn ?_
 exact jM hm ⟨rfl, rfl, (a)⟩
 rintro _ f _ _ ⟨rfl, rfl, a⟩ x
 rw [x] at d
 have hm := H4 d
 refine Cr<|tS (lF rfl rfl (by omega))<|Te<|Cs<|k7 rfl<|Ce<|Xe<|Xe<|Xo<|Xn<|Cr<|aS rfl<|Te<|Ct ?_
 obtain rfl := o1 hm
 exact rO ⟨rfl, rfl⟩ a
end Go.Proofs.YtdbehipjelcmbaaGreatDoor
