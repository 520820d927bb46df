import Derived.Test.YtjlollifgeggdaaGreatDoorQZP3
set_option linter.unusedVariables false
set_option linter.unusedSimpArgs false
set_option linter.unusedSectionVars false
namespace Go.Proofs.YtjlollifgeggdaaGreatDoor
open Go.RowKit Go.Fp
set_option maxHeartbeats 4000000
set_option maxRecDepth 20000
open Go.Fp renaming q3U → Te, q5t → Tn, q4y → Tb, q8c → Tg, z3g → Tr, q5p → Cr, q2t → Cs, q0r → Cg, q6V → Cb, q3B → Ct, q3r → Ck, z1L → Ce, z4d → Cj, Q0 → Xn, W5 → Xr, q1R → Xe, q1S → Xb, q1d → Xm, q2L → Xo, q6F → Xi, q7C → X2, q7B → X3, q7A → X4, z9p → Es, z7f → E0, z8C → Ey, j2U → Yz, j0P → Ei, z5c → Eo, z7g → Da, z2a → Dd, z1b → Di, j2R → Rd2, z7c → Rn, z0l → sL, q7F → sD, q7G → sF, z1h → sN, z1i → sE, q2O → sM, q1w → sA, q5M → pT, q5N → pF, q1r → sI, q1T → sO, q3g → sP, q2m → sQ, z1k → sa, z5u → sb, q5P → lT, q5Q → lF, q5O → sn2, z4q → uB, q7Z → uA, z0b → uS, q3T → uN, q7D → uW, z0c → uP, q4J → fE, q9t → bS, z4w → o1, q5g → iS, q5L → ss, q7T → kS, z7P → mc, z7O → mn, q9E → q1, q9B → q2, q9C → q3, q9D → q5, z3o → q6
theorem q8H (b : v7) (R : Hp) (cC : (Option Int)) (a4 a5 a6 a7 a8 a9 ba cD aH aI cE) (ads : Int → Nat) (aJ bc bd be bf bg bh bi bj bk bl bm bn bo bp an A6 c7 e bq br c bb d) (ef : FZ RT.str b.w bc bd a4) (eg : FZ j5 b.w be bf a5) (eh : FZ w9 b.w bg bh a6) (ei : FZ j6 b.w bi bj a7) (ej : FZ k7 b.w bk bl a8) (ek : FZ Z9 b.w bm bn a9) (el : FZ (RT.list j4) b.w bo bp ba) (h3 : OAr 90 j9 ads b.w cD an) (h8 : OS 80 (OT.fr Q5) b.w (sv A6 aH c7) aH e) (em : OS 94 (OT.fr Q4) b.w (sv bq aI br) aI c) (cG : OM rI (OT.fr (RT.key ads)) false false b.w bb cE d) (bs bt) (hm : H1 cC a4 a5 a6 a7 a8 a9 ba cD aH aI cE = some (bs, bt)):
 w5 Tryz.prog 38 [pb aJ, kv ads cC] b ((aJ, Cl 78 [sv bc a4 bd, sv be a5 bf, sv bg a6 bh, sv bi a7 bj, sv bk a8 bl, sv bm a9 bn, sv bo ba bp, sv A6 aH c7, sv bq aI br, .map (some bb)]) :: (an ++ (e ++ (c ++ (d ++ R))))) (fun v b' hp' => ∃ aR aT, .tuple #[] = v ∧ (aJ, Cl 78 [sv bc a4 bd, sv be a5 bf, sv bg a6 bh, sv bi a7 bj, sv bk a8 bl, sv bm a9 bn, sv bo ba bp, sv A6 aH c7, sv bq aI br, .map (some bb)]) :: (aR ++ (e ++ (c ++ (aT ++ R)))) = hp' ∧ OAr 90 j9 ads b'.w bs aR ∧ OM rI (OT.fr (RT.key ads)) false false b'.w bb bt aT) := by
 refine fE 82 Tryz.func38 rfl Tryz.ntmps38 rfl ?_
 unfold H1 at hm
 refine Cs<|Cr<|mV rfl ?_
 obtain ⟨ag, bu, hm⟩ := bS hm
 obtain ⟨ah, cc, hm⟩ := bS hm
 refine Tr 1 rfl (v' := .pointer (some ⟨(ads ag), 0, none⟩)) (by rw [bu]; rfl)<|Tr 6 rfl (v' := .pointer (some ⟨(ads ag), 0, none⟩)) (by rw [bu]; rfl) ?_
 obtain ⟨cP, cQ, U, aU, bM, hf1217⟩ := OAr.take h3 cc
 obtain ⟨bw, bx, dh, di, dj, dk, V, dl, dm, W, rfl, bz, dn, dp, dq, rfl⟩ := bM
 refine q4x [_] an U V W (e ++ (c ++ (d ++ R))) rfl aU<|tS (sN rfl)<|tS (sF rfl q6S)<|tS (sF rfl q1I)<|tS (sL 0 rfl q4u rfl rfl)<|tS (sE rfl q8T)<|mV rfl<|Te<|Cb<|z1H V W U<|z1H U V W<|z1H W U V<|z8v [_] an U V W (e ++ (c ++ (d ++ R))) rfl aU ?_
 have cR : ah.Route.Steps.length ≤ 9223372036854775807 := (FZ.bd bz)
 refine q1L an e c d<|q1L d an e c<|q1L c d an e<|q1L e c d an ?_
 obtain ⟨dr, bN, ae⟩ := bS hm
 refine lF (fun z => fun aK => fun ai e' hp' => ∃ l, [(0, pb aJ), (1, kv ads (some ag)), (10, sv bw ah.Route.Steps bx), (11, iv ((ah.Route.Steps.length : Int))), (12, iv ((z : Int)))] = e' ∧ (aJ, Cl 78 [sv bc a4 bd, sv be a5 bf, sv bg a6 bh, sv bi a7 bj, sv bk a8 bl, sv bm a9 bn, sv bo ba bp, sv A6 aH c7, sv bq aI br, .map (some bb)]) :: (l ++ (e ++ (c ++ (d ++ R)))) = hp' ∧ b.Le ai ∧ OAr 90 j9 ads ai.w aK l) bN ⟨an, rfl, rfl, lr, h3⟩ ?_ ?_
 rintro z aK ai _ _ cT cA ⟨l, rfl, rfl, n, I⟩ ad aL
 unfold Z8 at ad
 have hm := ad
 refine Cr<|tS (lT rfl rfl (by omega))<|Te<|Cs<|w6 rfl<|Ck<|Xn<|Cs<|Cb<|Cr<|mV rfl ?_
 obtain ⟨aM, cd, cU, bO, cV, bP, bA, aV, bB, hm⟩ := bF (sz := 3) hm (bz.le n)
 obtain ⟨_, _, rfl, rfl, ⟨_, _, rfl, rfl, rfl⟩⟩ := bP
 refine tS (sI cd rfl rfl bO bB aV q8T)<|tS (sP (vs := [iv aM.Section, iv aM.In, iv aM.Out]) 3 rfl q8Q aV rfl (fun j u hu => bA j u hu))<|tD (uA [iv 0, iv 0, iv 0] q7h rfl) ?_
 rintro _ _ ⟨ds, rfl, rfl⟩
 refine aS rfl<|tD (uN (vs := [_, _, _]) 0 3 rfl rfl rfl z0p rfl (mc rfl (mc rfl (mc rfl mn))) rfl (by simp)) ?_
 rintro _ _ rfl
 refine Te<|Cs<|Cb<|Cr<|mV rfl ?_
 obtain ⟨dt, ce, hm⟩ := bS hm
 obtain ⟨cW, cX, p, ao, bQ, hf1986⟩ := OAr.take I ce
 obtain ⟨du, dv, dw, dx, dy, dz, o, dA, dB, q, rfl, dC, dD, dE, cf, rfl⟩ := bQ
 refine q4x [_, _] l p o q (e ++ (c ++ (d ++ R))) rfl ao<|tS (sN rfl)<|tS (sF rfl z0F)<|tS (sL 0 rfl q5W rfl rfl)<|mV rfl ?_
 obtain ⟨dF, cg, hm⟩ := bS hm
 obtain ⟨ch, bR, bT⟩ := iS cg
 obtain ⟨cY, cZ, dH, dI, c0, bU, bC, bV, bD, c1, cH⟩ := OS.get (sz := 1) rfl (by decide) cf bT
 obtain ⟨rfl, rfl⟩ := bU
 refine tS (sI ch rfl rfl bR bD bV z1c)<|tS (k9 rfl q7k (fun w ho => bC w _ ho (.cons _ (.cons _ (.cons _ (ss o (Kb _ _))))) 0 _ rfl))<|aS rfl<|Te<|cB hm rfl (fun hm => ?_) fun hm => ?_
 refine Ce<|Xi rfl<|Xe<|Xo<|Xn<|Cg<|tS (sa rfl rfl (by omega))<|mV rfl<|Tn<|q1u o q p<|q1u p o q<|q1u q p o<|q4v [_, _] l p o q (e ++ (c ++ (d ++ R))) rfl ao ?_
 exact jM hm ⟨l, rfl, rfl, (n), I⟩
 refine z0O o q p<|z0O p o q<|z0O q p o<|z8v [_, _] l p o q (e ++ (c ++ (d ++ R))) rfl ao ?_
 obtain ⟨ci, bW, bX⟩ := bS hm
 refine Cj (fun bE e' hp' => [(0, pb aJ), (1, kv ads (some ag)), (4, iv ((z : Int))), (10, sv bw ah.Route.Steps bx), (11, iv ((ah.Route.Steps.length : Int))), (12, iv ((z : Int))), (25, bv ci)] = e' ∧ (aJ, Cl 78 [sv bc a4 bd, sv be a5 bf, sv bg a6 bh, sv bi a7 bj, sv bk a8 bl, sv bm a9 bn, sv bo ba bp, sv A6 aH c7, sv bq aI br, .map (some bb)]) :: (l ++ (e ++ (c ++ (d ++ R)))) = hp' ∧ ai.Le bE) ?_ ?_
 have hm := bW
 obtain ⟨cj, ck, hm⟩ := bS hm
 obtain ⟨c2, c3, f, X, bY, hf2161⟩ := OAr.take I ck
 obtain ⟨dJ, dK, dL, dM, dN, dO, g, dP, dQ, i, rfl, dR, dS, aj, dT, rfl⟩ := bY
 refine q9S [_, _] l f g i (e ++ (c ++ (d ++ R))) rfl X ?_
 obtain ⟨cl, aq, hm⟩ := bS hm
 rcases Kg cl with A | A
 rw [if_pos A] at hm
 obtain ⟨m, aN, hm⟩ := bS hm
 obtain ⟨ar, ak, hm⟩ := bS hm
 rcases Kg ar with O | O
 rw [if_pos O] at hm
 refine Di mixed (.refl _)<|E0 0 rfl (sM rfl)<|E0 1 rfl (sN rfl)<|E0 2 rfl (sF rfl q3y)<|Es 3 rfl (sL 0 rfl q5W rfl rfl)<|E0 4 rfl (sM rfl) ?_
 obtain ⟨T, B, C⟩ := iS aq
 obtain ⟨au, av, aO, aP, aw, D, s, E, t, ax, al⟩ := OS.get (sz := 1) rfl (by decide) aj C
 obtain ⟨rfl, rfl⟩ := D
 refine E0 5 rfl (sI T rfl rfl B t E z1c)<|Es 6 rfl (stB (k9 rfl q7k (fun w ho => s w _ ho (.cons _ (.cons _ (.cons _ (Kb _ _)))) 0 _ rfl)) A)<|E0 7 rfl (H6 rfl)<|E0 8 rfl (sM rfl)<|Yz 9 34 rfl (sM rfl)<|Yz 10 34 rfl (sN rfl)<|Yz 11 34 rfl (sF rfl q2s)<|Ey 12 34 rfl (sL 2 rfl q7t rfl rfl)<|Yz 13 34 rfl (sF rfl Y6)<|Ey 14 34 rfl (sL 1 rfl Q3 rfl rfl) ?_
 obtain ⟨am, Y, Z⟩ := iS aN
 obtain ⟨aW, aX, bG, bH, aY, aa, J, x, K, aZ, aG⟩ := OS.get (sz := 5) rfl (by decide) (h8.le n) Z
 obtain ⟨⟨_, _, rfl, rfl, ⟨_, _, rfl, rfl, ⟨_, _, rfl, rfl, ⟨_, _, rfl, rfl, rfl⟩⟩⟩⟩, rfl⟩ := aa
 refine Yz 15 34 rfl (sI am rfl rfl Y K x q8j)<|Ey 16 34 rfl (Z6 (vs := [iv m.axles, bv m.disturbed, iv m.position, iv m.moving, bv m.failed]) 5 rfl z2Y x rfl (fun w ho j u hu => J w _ ho (.cons _ (.cons _ (.cons _ (ss g (ss i (ss f (Kb _ _))))))) j u hu))<|Eo<|Da [17] (by kernel_rfl) rfl<|q3c lr rfl rfl 34 rfl rfl rfl (uW _ q9Q rfl (fun w ho => P8 _ [] m ar ak) (fun _ _ _ h => h.2.symm)) ?_ ?_
 rintro _ _ ⟨⟨_, rfl, _⟩, rfl⟩
 refine iR<|q1J 43 rfl (v' := .bool true) (by rw [O])<|Ei lr (.refl _)<|E0 18 rfl (pF rfl rfl)<|E0 19 rfl (sM rfl)<|eN 20 rfl<|eN 21 rfl<|eN 22 rfl<|eN 23 rfl<|eN 24 rfl<|eN 25 rfl<|eN 26 rfl<|eN 27 rfl<|eN 28 rfl<|eN 29 rfl<|eN 30 rfl<|eN 31 rfl<|eN 32 rfl<|eN 33 rfl<|eN 34 rfl<|eN 35 rfl<|eN 36 rfl<|eN 37 rfl<|eN 38 rfl<|eN 39 rfl<|E0 40 rfl (pT rfl rfl)<|E0 41 rfl (sA rfl)<|Eo<|Dd (by kernel_rfl)<|q1u g i f ?_
 refine q1u f g i<|q1u i f g<|q4v [_, _] l f g i (e ++ (c ++ (d ++ R))) rfl X ?_
 obtain rfl := o1 hm
 exact jJ ⟨rfl, rfl, lr⟩
 exact Rn
 rw [if_neg (fun hh => Bool.noConfusion (hh.symm.trans O))] at hm
 obtain ⟨_, ac, hm⟩ := bS hm
 by_cases af : ((z : Int) + 1) < (cj.Route.Steps.length : Int)
 rw [if_pos af] at hm
 obtain ⟨_, aQ, hm⟩ := bS hm
 obtain ⟨dU, cm, hm⟩ := bS hm
 refine Di mixed (.refl _)<|E0 0 rfl (sM rfl)<|E0 1 rfl (sN rfl)<|E0 2 rfl (sF rfl q3y)<|Es 3 rfl (sL 0 rfl q5W rfl rfl)<|E0 4 rfl (sM rfl) ?_
 obtain ⟨T, B, C⟩ := iS aq
 obtain ⟨au, av, aO, aP, aw, D, s, E, t, ax, al⟩ := OS.get (sz := 1) rfl (by decide) aj C
 obtain ⟨rfl, rfl⟩ := D
 refine E0 5 rfl (sI T rfl rfl B t E z1c)<|Es 6 rfl (stB (k9 rfl q7k (fun w ho => s w _ ho (.cons _ (.cons _ (.cons _ (Kb _ _)))) 0 _ rfl)) A)<|E0 7 rfl (H6 rfl)<|E0 8 rfl (sM rfl)<|Yz 9 34 rfl (sM rfl)<|Yz 10 34 rfl (sN rfl)<|Yz 11 34 rfl (sF rfl q2s)<|Ey 12 34 rfl (sL 2 rfl q7t rfl rfl)<|Yz 13 34 rfl (sF rfl Y6)<|Ey 14 34 rfl (sL 1 rfl Q3 rfl rfl) ?_
 obtain ⟨am, Y, Z⟩ := iS aN
 obtain ⟨aW, aX, bG, bH, aY, aa, J, x, K, aZ, aG⟩ := OS.get (sz := 5) rfl (by decide) (h8.le n) Z
 obtain ⟨⟨_, _, rfl, rfl, ⟨_, _, rfl, rfl, ⟨_, _, rfl, rfl, ⟨_, _, rfl, rfl, rfl⟩⟩⟩⟩, rfl⟩ := aa
 refine Yz 15 34 rfl (sI am rfl rfl Y K x q8j)<|Ey 16 34 rfl (Z6 (vs := [iv m.axles, bv m.disturbed, iv m.position, iv m.moving, bv m.failed]) 5 rfl z2Y x rfl (fun w ho j u hu => J w _ ho (.cons _ (.cons _ (.cons _ (ss g (ss i (ss f (Kb _ _))))))) j u hu))<|Eo<|Da [17] (by kernel_rfl) rfl<|q3c lr rfl rfl 34 rfl rfl rfl (uW _ q9Q rfl (fun w ho => P8 _ [] m ar ak) (fun _ _ _ h => h.2.symm)) ?_ ?_
 rintro _ _ ⟨⟨_, rfl, _⟩, rfl⟩
 refine iR<|q1J 43 rfl (v' := .bool false) (by rw [O])<|Ei lr (.refl _)<|E0 18 rfl (pF rfl rfl)<|E0 19 rfl (sM rfl)<|Yz 20 45 rfl (sM rfl) ?_
 have ac := (kS ac).2
 refine Yz 21 45 rfl (sa rfl rfl ac)<|Yz 22 45 rfl (sM rfl)<|Yz 23 45 rfl (sN rfl)<|Yz 24 45 rfl (sF rfl q6S)<|Yz 25 45 rfl (sF rfl q1I)<|Ey 26 45 rfl (sL 0 rfl q4u rfl rfl)<|Yz 27 45 rfl (sE rfl q8T)<|Yz 28 45 rfl (lT rfl rfl af)<|Yz 29 45 rfl (sM rfl)<|Yz 30 55 rfl (sM rfl)<|Yz 31 55 rfl (sN rfl)<|Yz 32 55 rfl (sF rfl q3y)<|Ey 33 55 rfl (sL 0 rfl q5W rfl rfl)<|Yz 34 55 rfl (sM rfl) ?_
 have aQ := (kS aQ).2
 refine Yz 35 55 rfl (sa rfl rfl aQ) ?_
 obtain ⟨cn, bZ, b0⟩ := iS cm
 obtain ⟨c4, c5, dV, dW, c6, b1, bI, b2, bJ, c8, cJ⟩ := OS.get (sz := 1) rfl (by decide) aj b0
 obtain ⟨rfl, rfl⟩ := b1
 refine Yz 36 55 rfl (sI cn rfl rfl bZ bJ b2 z1c)<|Ey 37 55 rfl (k9 rfl q7k (fun w ho => bI w _ ho (.cons _ (.cons _ (.cons _ (Kb _ _)))) 0 _ rfl))<|Yz 38 55 rfl (sn2 rfl)<|Yz 39 45 rfl (pT rfl rfl)<|E0 40 rfl (pF rfl rfl)<|E0 41 rfl (sA rfl)<|Eo<|Dd (by kernel_rfl)<|q1u g i f<|q1u f g i<|q1u i f g<|q4v [_, _] l f g i (e ++ (c ++ (d ++ R))) rfl X ?_
 obtain rfl := o1 hm
 exact jJ ⟨rfl, rfl, lr⟩
 exact Rn
 rw [if_neg af] at hm
 refine Di mixed (.refl _)<|E0 0 rfl (sM rfl)<|E0 1 rfl (sN rfl)<|E0 2 rfl (sF rfl q3y)<|Es 3 rfl (sL 0 rfl q5W rfl rfl)<|E0 4 rfl (sM rfl) ?_
 obtain ⟨T, B, C⟩ := iS aq
 obtain ⟨au, av, aO, aP, aw, D, s, E, t, ax, al⟩ := OS.get (sz := 1) rfl (by decide) aj C
 obtain ⟨rfl, rfl⟩ := D
 refine E0 5 rfl (sI T rfl rfl B t E z1c)<|Es 6 rfl (stB (k9 rfl q7k (fun w ho => s w _ ho (.cons _ (.cons _ (.cons _ (Kb _ _)))) 0 _ rfl)) A)<|E0 7 rfl (H6 rfl)<|E0 8 rfl (sM rfl)<|Yz 9 34 rfl (sM rfl)<|Yz 10 34 rfl (sN rfl)<|Yz 11 34 rfl (sF rfl q2s)<|Ey 12 34 rfl (sL 2 rfl q7t rfl rfl)<|Yz 13 34 rfl (sF rfl Y6)<|Ey 14 34 rfl (sL 1 rfl Q3 rfl rfl) ?_
 obtain ⟨am, Y, Z⟩ := iS aN
 obtain ⟨aW, aX, bG, bH, aY, aa, J, x, K, aZ, aG⟩ := OS.get (sz := 5) rfl (by decide) (h8.le n) Z
 obtain ⟨⟨_, _, rfl, rfl, ⟨_, _, rfl, rfl, ⟨_, _, rfl, rfl, ⟨_, _, rfl, rfl, rfl⟩⟩⟩⟩, rfl⟩ := aa
 refine Yz 15 34 rfl (sI am rfl rfl Y K x q8j)<|Ey 16 34 rfl (Z6 (vs := [iv m.axles, bv m.disturbed, iv m.position, iv m.moving, bv m.failed]) 5 rfl z2Y x rfl (fun w ho j u hu => J w _ ho (.cons _ (.cons _ (.cons _ (ss g (ss i (ss f (Kb _ _))))))) j u hu))<|Eo<|Da [17] (by kernel_rfl) rfl<|q3c lr rfl rfl 34 rfl rfl rfl (uW _ q9Q rfl (fun w ho => P8 _ [] m ar ak) (fun _ _ _ h => h.2.symm)) ?_ ?_
 rintro _ _ ⟨⟨_, rfl, _⟩, rfl⟩
 refine iR<|q1J 43 rfl (v' := .bool false) (by rw [O])<|Ei lr (.refl _)<|E0 18 rfl (pF rfl rfl)<|E0 19 rfl (sM rfl)<|Yz 20 45 rfl (sM rfl) ?_
 have ac := (kS ac).2
 refine Yz 21 45 rfl (sa rfl rfl ac)<|Yz 22 45 rfl (sM rfl)<|Yz 23 45 rfl (sN rfl)<|Yz 24 45 rfl (sF rfl q6S)<|Yz 25 45 rfl (sF rfl q1I)<|Ey 26 45 rfl (sL 0 rfl q4u rfl rfl)<|Yz 27 45 rfl (sE rfl q8T)<|Yz 28 45 rfl (lF rfl rfl af)<|Yz 29 45 rfl (sM rfl)<|eN 30 rfl<|eN 31 rfl<|eN 32 rfl<|eN 33 rfl<|eN 34 rfl<|eN 35 rfl<|eN 36 rfl<|eN 37 rfl<|eN 38 rfl<|Yz 39 45 rfl (pF rfl rfl)<|E0 40 rfl (pF rfl rfl) ?_
 refine E0 41 rfl (sA rfl)<|Eo<|Dd (by kernel_rfl)<|q1u g i f<|q1u f g i<|q1u i f g<|q4v [_, _] l f g i (e ++ (c ++ (d ++ R))) rfl X ?_
 obtain rfl := o1 hm
 exact jJ ⟨rfl, rfl, lr⟩
 exact Rn
 rw [if_neg (fun hh => Bool.noConfusion (hh.symm.trans A))] at hm
 refine Di mixed (.refl _)<|E0 0 rfl (sM rfl)<|E0 1 rfl (sN rfl)<|E0 2 rfl (sF rfl q3y)<|Es 3 rfl (sL 0 rfl q5W rfl rfl)<|E0 4 rfl (sM rfl) ?_
 obtain ⟨T, B, C⟩ := iS aq
 obtain ⟨au, av, aO, aP, aw, D, s, E, t, ax, al⟩ := OS.get (sz := 1) rfl (by decide) aj C
 obtain ⟨rfl, rfl⟩ := D
 refine E0 5 rfl (sI T rfl rfl B t E z1c)<|Es 6 rfl (stB (k9 rfl q7k (fun w ho => s w _ ho (.cons _ (.cons _ (.cons _ (Kb _ _)))) 0 _ rfl)) A)<|E0 7 rfl (q0e rfl)<|E0 8 rfl (sM rfl)<|eN 9 rfl<|eN 10 rfl<|eN 11 rfl<|eN 12 rfl<|eN 13 rfl<|eN 14 rfl<|eN 15 rfl<|eN 16 rfl<|eN 17 rfl<|E0 18 rfl (pT rfl rfl)<|E0 19 rfl (sM rfl)<|eN 20 rfl<|eN 21 rfl<|eN 22 rfl<|eN 23 rfl<|eN 24 rfl ?_
 refine eN 25 rfl<|eN 26 rfl<|eN 27 rfl<|eN 28 rfl<|eN 29 rfl<|eN 30 rfl<|eN 31 rfl<|eN 32 rfl<|eN 33 rfl<|eN 34 rfl<|eN 35 rfl<|eN 36 rfl<|eN 37 rfl<|eN 38 rfl<|eN 39 rfl<|E0 40 rfl (pT rfl rfl)<|E0 41 rfl (sA rfl)<|Eo<|Dd (by kernel_rfl)<|q1u g i f<|q1u f g i<|q1u i f g<|q4v [_, _] l f g i (e ++ (c ++ (d ++ R))) rfl X ?_
 obtain rfl := o1 hm
 exact jJ ⟨rfl, rfl, lr⟩
 rintro bE _ _ ⟨rfl, rfl, L⟩
 have hm := bX
 refine cB hm rfl (fun hm => ?_) fun hm => ?_
 refine Ct<|Xb<|Xr<|Xb<|Xr<|Xr<|Xb<|Xr ?_
 have b3 := aL _ (Kd hm).symm
 rw [b3] at ae
 have hm := V6 ae
 obtain ⟨rfl, rfl⟩ := W4 hm
 have b4 := I.le L
 have b5 := (cG.le (n.trans L))
 exact rZ ⟨l, d, rfl, rfl, b4, b5⟩ (n.trans L)
 refine Ck<|Xm<|Xn<|Cg<|mV rfl ?_
 obtain ⟨a, co, hm⟩ := bS hm
 obtain ⟨c9, da, y, b6, b7, hf2297⟩ := OAr.take (I.le L) co
 obtain ⟨ay, az, aA, aB, aC, aD, r, aE, aF, a0, rfl, cp, cq, cr, bK, rfl⟩ := b7
 refine q4x [_] l y r a0 (e ++ (c ++ (d ++ R))) rfl b6<|tS (sN rfl)<|tS (sF rfl z0F)<|tS (sL 0 rfl q5W rfl rfl)<|mV rfl ?_
 obtain ⟨dX, ct, hm⟩ := bS hm
 obtain ⟨cu, a1, a2⟩ := iS ct
 obtain ⟨db, dc, dY, dZ, dd, b8, cK, b9, bL, de, cO⟩ := OS.get (sz := 1) rfl (by decide) bK a2
 obtain ⟨rfl, rfl⟩ := b8
 refine tS (sI cu rfl rfl a1 bL b9 z1c)<|q8Y r a0<|tD (uP a1 (sz := 1) (a' := true) rfl [_, _] (r ++ (y ++ (e ++ (c ++ (d ++ R))))) 0 1 [bv true] rfl bK a2 rfl rfl rfl z5y rfl (mc rfl mn) (fun cs hsj hh => by obtain ⟨rfl, rfl⟩ := hh; exact ⟨by first | decide | exact Nat.le_refl _, rfl, rfl⟩)) ?_
 rintro _ _ ⟨S, rfl, cv⟩
 refine P9 0 rfl (o' := Cl 90 [iv a.Route.From, iv a.Route.To, sv ay a.Route.Steps az, sv aA a.needs aB, sv aC a.seen aD, .slice aE (put a.gone (z : Int) true).length aF, bv a.laps, bv a.sight, iv a.leave, iv a.clock, iv a.number]) (by simp only [sv, w8])<|Tn<|Xm<|Xn<|Cg<|tS (sa rfl rfl (by omega))<|mV rfl<|Tn<|q1c S r y<|j0V y S<|q1c S y r ?_
 have cw := hf2297 _ [iv a.Route.From, iv a.Route.To, sv ay a.Route.Steps az, sv aA a.needs aB, sv aC a.seen aD, .slice aE (put a.gone (z : Int) true).length aF, bv a.laps, bv a.sight, iv a.leave, iv a.clock, iv a.number] (⟨a.Route, a.needs, a.seen, put a.gone (z : Int) true, a.laps, a.sight, a.leave, a.clock, a.number⟩ : z7) _ lr ⟨ay, az, aA, aB, aC, aD, r, aE, aF, S, rfl, cp, cq, cr, cv, rfl⟩
 refine z4m [_] y r S (e ++ (c ++ (d ++ R))) rfl ?_
 exact jM hm ⟨(y ++ (((ads ag), Cl 90 [iv a.Route.From, iv a.Route.To, sv ay a.Route.Steps az, sv aA a.needs aB, sv aC a.seen aD, .slice aE (put a.gone (z : Int) true).length aF, bv a.laps, bv a.sight, iv a.leave, iv a.clock, iv a.number]) :: (r ++ S))), rfl, rfl, ((n.trans L)), cw⟩
 rintro aK ai _ _ ⟨l, rfl, rfl, n, I⟩ ca
 rw [ca] at ae
 have hm := G6 ae
 refine Cr<|tS (lF rfl rfl (by omega))<|Te<|Cs<|v8 rfl<|Ce<|Xe<|Xe<|Xo<|Xn ?_
 obtain ⟨cx, cy, hm⟩ := bS hm
 obtain ⟨df, dg, F, a3, cb, hf2339⟩ := OAr.take I cy
 obtain ⟨d0, d1, d5, d6, d7, d8, G, d9, ea, H, rfl, eb, ec, ed, ee, rfl⟩ := cb
 refine q9S [_] l F G H (e ++ (c ++ (d ++ R))) rfl a3<|Di mixed (.refl _)<|E0 0 rfl (sM rfl)<|E0 1 rfl (sN rfl)<|E0 2 rfl (sF rfl q2U)<|Es 3 rfl (sL 1 rfl q8m rfl rfl)<|E0 4 rfl (sM rfl)<|E0 5 rfl (sN rfl)<|E0 6 rfl (sF rfl z2K)<|Es 7 rfl (sL 0 rfl Q3 rfl rfl)<|Eo<|j3z G H F e c d<|Da [8] (by kernel_rfl) rfl<|Rd2 lr rfl rfl (z8H (k := cx.number) j0g [_, _] (G ++ (H ++ (F ++ (e ++ (c ++ R))))) rfl (cG.le n) q5n rfl rfl rfl) ?_ ?_
 rintro _ _ ⟨ab, rfl, rfl, cz⟩
 refine ⟨.inl (by kernel_rfl), ?_⟩
 refine Dd (by kernel_rfl)<|z4l ab G H F<|z4l F ab G H<|z4l H F ab G<|q4v [_] l F G H (ab ++ (e ++ (c ++ R))) rfl a3 ?_
 obtain ⟨rfl, rfl⟩ := W4 hm
 exact eZ ⟨l, ab, rfl, rfl, I, cz⟩ n
 exact Rn
theorem q9q (b : v7) (R : Hp) (X Y Z aa ab ac ad br aK dU dV) (ads : Int → Nat) (O ag ah ai aj ak al am an ao aq ar au av aw A3 c4 bK A8 c9 aD W A B) (cb : FZ RT.str b.w ag ah X) (cc : FZ j5 b.w ai aj Y) (cd : FZ w9 b.w ak al Z) (ce : FZ j6 b.w am an aa) (cf : FZ k7 b.w ao aq ab) (cg : FZ Z9 b.w ar au ac) (ch : FZ (RT.list j4) b.w av aw ad) (h5 : OS 80 (OT.fr Q5) b.w (sv A3 br c4) br bK) (eL : OS 94 (OT.fr Q4) b.w (sv A8 aK c9) aK aD) (eM : OM rI (OT.fr (RT.key ads)) false false b.w W dU A) (eO : OAr 90 j9 ads b.w dV B) (bc bd ci cj) (hm : P6 X Y Z aa ab ac ad br aK dU dV = some (bc, bd, ci, cj)):
 w5 Tryz.prog 10 [pb O] b ((O, Cl 78 [sv ag X ah, sv ai Y aj, sv ak Z al, sv am aa an, sv ao ab aq, sv ar ac au, sv av ad aw, sv A3 br c4, sv A8 aK c9, .map (some W)]) :: (bK ++ (aD ++ (A ++ (B ++ R))))) (fun v b' hp' => ∃ bX bY bZ b0, .tuple #[] = v ∧ (O, Cl 78 [sv ag X ah, sv ai Y aj, sv ak Z al, sv am aa an, sv ao ab aq, sv ar ac au, sv av ad aw, sv A3 bc c4, sv A8 bd c9, .map (some W)]) :: (bX ++ (bY ++ (bZ ++ (b0 ++ R)))) = hp' ∧ OS 80 (OT.fr Q5) b'.w (sv A3 bc c4) bc bX ∧ bc.length = br.length ∧ OS 94 (OT.fr Q4) b'.w (sv A8 bd c9) bd bY ∧ bd.length = aK.length ∧ OM rI (OT.fr (RT.key ads)) false false b'.w W ci bZ ∧ OAr 90 j9 ads b'.w cj b0) := by
 refine fE 185 Tryz.func10 rfl Tryz.ntmps10 rfl ?_
 unfold P6 at hm
 refine Cs<|Cr<|mV rfl<|tS (sN rfl)<|tS (sF rfl q2s)<|tS (sL 0 rfl q7t rfl rfl)<|tS (sE rfl q8j)<|mV rfl<|Te<|Cb ?_
 have eX : br.length ≤ 9223372036854775807 := (OS.len h5)
 refine q1L bK aD A B<|q1L B bK aD A<|q1L A B bK aD<|q1L aD A B bK ?_
 obtain ⟨C, c8, da⟩ := bS hm
 refine lS (fun aL => fun C => fun aM e' hp' => ∃ a, [(0, pb O), (16, iv ((br.length : Int))), (17, iv ((aL : Int)))] = e' ∧ (O, Cl 78 [sv ag X ah, sv ai Y aj, sv ak Z al, sv am aa an, sv ao ab aq, sv ar ac au, sv av ad aw, sv A3 C c4, sv A8 aK c9, .map (some W)]) :: (a ++ (aD ++ (A ++ (B ++ R)))) = hp' ∧ b.Le aM ∧ OS 80 (OT.fr Q5) aM.w (sv A3 C c4) C a ∧ C.length = br.length) c8 ⟨bK, rfl, rfl, lr, h5, rfl⟩ ?_ ?_
 rintro aL C aM _ _ eY eG ⟨a, rfl, rfl, f, ae, az⟩ a7
 unfold J1 at a7
 have hm := a7
 refine Cr<|tS (lT rfl rfl (by omega))<|Te<|Cs<|w6 rfl<|Ck<|Xn<|Cs<|Cb<|Cr<|mV rfl<|aS rfl<|Te<|Cr<|mV rfl<|tS (sN rfl)<|tS (sF rfl q2s)<|tS (sL 0 rfl q7t rfl rfl)<|mV rfl ?_
 obtain ⟨F, dW, hm⟩ := bS hm
 obtain ⟨bL, b1, b2⟩ := iS dW
 obtain ⟨e0, e1, fC, fD, e2, db, be, S, ck, e3, eP⟩ := OS.get (sz := 5) rfl (by decide) ae b2
 obtain ⟨⟨_, _, rfl, rfl, ⟨_, _, rfl, rfl, ⟨_, _, rfl, rfl, ⟨_, _, rfl, rfl, rfl⟩⟩⟩⟩, rfl⟩ := db
 refine tS (sI bL rfl rfl b1 ck S q8j)<|aS rfl<|Te<|Cs ?_
 obtain ⟨dX, dc, dd⟩ := bS hm
 refine Cj (fun cl e' hp' => [(0, pb O), (3, .pointer (Option.map (fun (x : Addr) => x.add (bL * 5)) A3)), (16, iv ((br.length : Int))), (17, iv ((aL : Int))), (36, bv dX)] = e' ∧ (O, Cl 78 [sv ag X ah, sv ai Y aj, sv ak Z al, sv am aa an, sv ao ab aq, sv ar ac au, sv av ad aw, sv A3 C c4, sv A8 aK c9, .map (some W)]) :: (a ++ (aD ++ (A ++ (B ++ R)))) = hp' ∧ aM.Le cl) ?_ ?_
 have hm := dc
 refine Cg<|mV rfl<|tS (J2 rfl S)<|tS (sQ rfl S q4c)<|tS (k9 rfl Q3 (fun w ho => be w _ ho (.cons _ (Kb _ _)) 3 _ rfl))<|Tb rfl (q1 rfl rfl) (fun bs => ?_) (fun bs => ?_)
 rw [if_pos bs] at hm
 refine mV rfl<|nO<|nO<|nO<|nO<|tS (pT rfl rfl)<|Tn ?_
 obtain rfl := o1 hm
 exact jJ ⟨rfl, rfl, lr⟩
 rw [if_neg bs] at hm
 refine mV rfl<|yS<|mV rfl<|yS<|tS (J2 rfl S)<|yS<|tS (sQ rfl S z6m)<|yS<|tS (k9 rfl q7k (fun w ho => be w _ ho (.cons _ (Kb _ _)) 4 _ rfl))<|tS (pF rfl rfl)<|Tn ?_
 obtain rfl := o1 hm
 exact jJ ⟨rfl, rfl, lr⟩
 rintro cl _ _ ⟨rfl, rfl, ax⟩
 have hm := dd
 refine cB hm rfl (fun hm => ?_) fun hm => ?_
 refine Ce<|Xe<|Xo<|Xn<|Cg<|tS (sa rfl rfl (by omega))<|mV rfl<|Tn ?_
 obtain rfl := o1 hm
 exact jS ⟨a, rfl, rfl, ((f.trans ax)), (ae.le ax), az⟩
 refine Ck<|Xn<|Cr<|mV rfl<|tS (J2 rfl S)<|tS (sQ rfl S q4c)<|tS (k9 rfl Q3 (fun w ho => be w _ (ax.back _ _ ho) (.cons _ (Kb _ _)) 3 _ rfl)) ?_
 obtain ⟨_, bM, hm⟩ := bS hm
 have bM := (kS bM).2
 refine tS (sb rfl rfl bM)<|tS (J2 rfl S)<|tS (sQ rfl S q4c)<|tD (uP b1 (sz := 5) (a' := (⟨F.axles, F.disturbed, F.position, F.moving - 1, F.failed⟩ : q9)) rfl [_] (aD ++ (A ++ (B ++ R))) 3 1 [iv (F.moving - 1)] rfl (ae.le ax) b2 rfl rfl rfl z7l rfl (mc rfl mn) (fun cs hsj hh => by obtain ⟨⟨_, _, rfl, rfl, ⟨_, _, rfl, rfl, ⟨_, _, rfl, rfl, ⟨_, _, rfl, rfl, rfl⟩⟩⟩⟩, rfl⟩ := hh; exact ⟨by first | decide | exact Nat.le_refl _, ⟨[iv F.axles], _, rfl, rfl, ⟨[bv F.disturbed], _, rfl, rfl, ⟨[iv F.position], _, rfl, rfl, ⟨[iv (F.moving - 1)], _, rfl, rfl, rfl⟩⟩⟩⟩, rfl⟩)) ?_
 rintro _ _ ⟨de, rfl, bN⟩
 refine P9 0 rfl (o' := Cl 78 [sv ag X ah, sv ai Y aj, sv ak Z al, sv am aa an, sv ao ab aq, sv ar ac au, sv av ad aw, .slice A3 (put C (aL : Int) (⟨F.axles, F.disturbed, F.position, F.moving - 1, F.failed⟩ : q9)).length c4, sv A8 aK c9, .map (some W)]) (by simp only [sv, w8])<|Te<|Cr ?_
 obtain ⟨J, dY, hm⟩ := bS hm
 obtain ⟨dZ, df, b3⟩ := iS dY
 obtain rfl : bL = dZ := by omega
 obtain ⟨e4, e5, fF, fG, e6, dg, bJ, aC, eQ, e7, eR⟩ := OS.get (sz := 5) rfl (by decide) bN b3
 obtain ⟨⟨_, _, rfl, rfl, ⟨_, _, rfl, rfl, ⟨_, _, rfl, rfl, ⟨_, _, rfl, rfl, rfl⟩⟩⟩⟩, rfl⟩ := dg
 refine mV rfl<|tS (J2 rfl aC)<|tS (sQ rfl aC q4c)<|tS (k9 rfl Q3 (fun w ho => bJ w _ ho (.cons _ (Kb _ _)) 3 _ rfl))<|tS (q1 rfl rfl)<|Te<|cI hm rfl (fun hm => ?_) fun hm => ?_
 refine Cg<|mV rfl<|mV rfl<|tS (J2 rfl aC)<|tS (sQ rfl aC q4K)<|tS (k9 rfl Q3 (fun w ho => bJ w _ ho (.cons _ (Kb _ _)) 2 _ rfl)) ?_
 obtain ⟨_, bO, hm⟩ := bS hm
 have bO := (kS bO).2
 refine tS (sb rfl rfl bO)<|tS (J2 rfl aC)<|tS (sQ rfl aC q4K)<|tD (uP df (sz := 5) (a' := (⟨J.axles, J.disturbed, 3 - J.position, J.moving, J.failed⟩ : q9)) rfl [_] (aD ++ (A ++ (B ++ R))) 2 1 [iv (3 - J.position)] rfl bN b3 rfl rfl rfl z7l rfl (mc rfl mn) (fun cs hsj hh => by obtain ⟨⟨_, _, rfl, rfl, ⟨_, _, rfl, rfl, ⟨_, _, rfl, rfl, ⟨_, _, rfl, rfl, rfl⟩⟩⟩⟩, rfl⟩ := hh; exact ⟨by first | decide | exact Nat.le_refl _, ⟨[iv J.axles], _, rfl, rfl, ⟨[bv J.disturbed], _, rfl, rfl, ⟨[iv (3 - J.position)], _, rfl, rfl, ⟨[iv J.moving], _, rfl, rfl, rfl⟩⟩⟩⟩, rfl⟩)) ?_
 rintro _ _ ⟨dh, rfl, d0⟩
 refine P9 0 rfl (o' := Cl 78 [sv ag X ah, sv ai Y aj, sv ak Z al, sv am aa an, sv ao ab aq, sv ar ac au, sv av ad aw, .slice A3 (put (put C (aL : Int) (⟨F.axles, F.disturbed, F.position, F.moving - 1, F.failed⟩ : q9)) (aL : Int) (⟨J.axles, J.disturbed, 3 - J.position, J.moving, J.failed⟩ : q9)).length c4, sv A8 aK c9, .map (some W)]) (by simp only [sv, w8])<|Tn<|Xm<|Xn<|Cg<|tS (sa rfl rfl (by omega))<|mV rfl<|Tn ?_
 obtain rfl := o1 hm
 exact jS ⟨dh, rfl, rfl, ((f.trans ax)), d0, ((w8 _ _ _).trans ((w8 _ _ _).trans az))⟩
 refine Ck<|Xm<|Xn<|Cg<|tS (sa rfl rfl (by omega))<|mV rfl<|Tn ?_
 obtain rfl := o1 hm
 exact jS ⟨de, rfl, rfl, ((f.trans ax)), bN, ((w8 _ _ _).trans az)⟩
 rintro aM _ _ ⟨a, rfl, rfl, f, ae, az⟩
 have hm := da
 refine Cr<|tS (lF rfl rfl (by omega))<|Te<|Cs<|v8 rfl<|Ce<|Xe<|Xe<|Xo<|Xn<|Cs<|Cr<|mV rfl<|tS (sN rfl)<|tS (sF rfl z2M)<|tS (sL 0 rfl z9Y rfl rfl)<|tS (sE rfl z3r)<|mV rfl<|Te<|Cb ?_
 have e8 : aK.length ≤ 9223372036854775807 := (OS.len eL)
 refine q1L a aD A B<|q1L B a aD A<|q1L A B a aD<|q1L aD A B a ?_
 obtain ⟨G, di, dj⟩ := bS hm
 refine lS (fun bt => fun G => fun bf e' hp' => ∃ c, [(0, pb O), (62, iv ((aK.length : Int))), (63, iv ((bt : Int)))] = e' ∧ (O, Cl 78 [sv ag X ah, sv ai Y aj, sv ak Z al, sv am aa an, sv ao ab aq, sv ar ac au, sv av ad aw, sv A3 C c4, sv A8 G c9, .map (some W)]) :: (a ++ (c ++ (A ++ (B ++ R)))) = hp' ∧ aM.Le bf ∧ OS 94 (OT.fr Q4) bf.w (sv A8 G c9) G c ∧ G.length = aK.length) di ⟨aD, rfl, rfl, lr, (eL.le f), rfl⟩ ?_ ?_
 rintro bt G bf _ _ e9 eH ⟨c, rfl, rfl, e, ay, aF⟩ a8
 unfold J0 at a8
 have hm := a8
 refine Cr<|tS (lT rfl rfl (by omega))<|Te<|Cs<|w6 rfl<|Ck<|Xn<|Cs<|Cb<|Cr<|mV rfl<|aS rfl<|Te<|Cr<|mV rfl<|tS (sN rfl)<|tS (sF rfl z2M)<|tS (sL 0 rfl z9Y rfl rfl)<|mV rfl ?_
 obtain ⟨af, d1, hm⟩ := bS hm
 obtain ⟨cm, b4, b5⟩ := iS d1
 obtain ⟨fa, fb, fH, fI, fc, dk, aG, K, cn, fd, eS⟩ := OS.get (sz := 3) rfl (by decide) ay b5
 obtain ⟨⟨_, _, rfl, rfl, ⟨_, _, rfl, rfl, rfl⟩⟩, rfl⟩ := dk
 refine tS (sI cm rfl rfl b4 cn K z3r)<|aS rfl<|Te ?_
 obtain ⟨d5, dl, dm⟩ := bS hm
 refine Cj (fun co e' hp' => [(0, pb O), (5, .pointer (Option.map (fun (x : Addr) => x.add (cm * 3)) A8)), (62, iv ((aK.length : Int))), (63, iv ((bt : Int))), (89, bv d5)] = e' ∧ (O, Cl 78 [sv ag X ah, sv ai Y aj, sv ak Z al, sv am aa an, sv ao ab aq, sv ar ac au, sv av ad aw, sv A3 C c4, sv A8 G c9, .map (some W)]) :: (c ++ (a ++ (A ++ (B ++ R)))) = hp' ∧ bf.Le co) ?_ ?_
 have hm := dl
 refine Cg<|mV rfl<|tS (J2 rfl K)<|tS (sQ rfl K q8v)<|tS (k9 rfl q7k (fun w ho => aG w _ ho (.cons _ (ss a (Kb _ _))) 1 _ rfl)) ?_
 rcases Kg af.wanted with aH | aH
 rw [if_pos aH] at hm
 refine Tr 75 rfl (v' := .bool true) (by rw [aH] <;> rfl)<|mV rfl<|yS<|mV rfl<|yS<|tS (J2 rfl K)<|yS<|tS (sQ rfl K z0C)<|yS<|tS (k9 rfl Q3 (fun w ho => aG w _ ho (.cons _ (ss a (Kb _ _))) 0 _ rfl))<|yS<|Tb rfl (q5 rfl rfl) (fun bu => ?_) (fun bu => ?_)
 rw [if_pos bu] at hm
 refine tS (pT rfl rfl)<|mV rfl<|yS<|mV rfl<|yS<|tS (J2 rfl K)<|yS<|tS (sQ rfl K j0k)<|yS<|tS (k9 rfl q7k (fun w ho => aG w _ ho (.cons _ (ss a (Kb _ _))) 2 _ rfl))<|yS<|tS (sn2 rfl)<|tS (pT rfl rfl)<|Tn ?_
 obtain rfl := o1 hm
 exact jJ ⟨rfl, rfl, lr⟩
 rw [if_neg bu] at hm
 refine tS (pT rfl rfl)<|mV rfl<|nO<|nO<|nO<|nO<|nO<|tS (pF rfl rfl)<|Tn ?_
 obtain rfl := o1 hm
 exact jJ ⟨rfl, rfl, lr⟩
 rw [if_neg (fun hh => Bool.noConfusion (hh.symm.trans aH))] at hm
 refine Tr 75 rfl (v' := .bool false) (by rw [aH] <;> rfl)<|mV rfl<|nO<|nO<|nO<|nO<|nO<|tS (pF rfl rfl)<|mV rfl<|nO<|nO<|nO<|nO<|nO<|tS (pF rfl rfl)<|Tn ?_
 obtain rfl := o1 hm
 exact jJ ⟨rfl, rfl, lr⟩
 rintro co _ _ ⟨rfl, rfl, aA⟩
 have hm := dm
 refine cB hm rfl (fun hm => ?_) fun hm => ?_
 refine Cg<|mV rfl<|tS (J2 rfl K)<|tS (sQ rfl K z0C)<|tS (k9 rfl Q3 (fun w ho => aG w _ (aA.back _ _ ho) (.cons _ (Kb _ _)) 0 _ rfl)) ?_
 obtain ⟨_, bP, hm⟩ := bS hm
 have bP := (kS bP).2
 refine tS (sb rfl rfl bP)<|tS (J2 rfl K)<|tS (sQ rfl K z0C)<|tD (uP b4 (sz := 3) (a' := (⟨af.left - 1, af.wanted, af.failed⟩ : z6)) rfl [_] (a ++ (A ++ (B ++ R))) 0 1 [iv (af.left - 1)] rfl (ay.le aA) b5 rfl rfl rfl z7l rfl (mc rfl mn) (fun cs hsj hh => by obtain ⟨⟨_, _, rfl, rfl, ⟨_, _, rfl, rfl, rfl⟩⟩, rfl⟩ := hh; exact ⟨by first | decide | exact Nat.le_refl _, ⟨[iv (af.left - 1)], _, rfl, rfl, ⟨[bv af.wanted], _, rfl, rfl, rfl⟩⟩, rfl⟩)) ?_
 rintro _ _ ⟨dn, rfl, d6⟩
 refine P9 0 rfl (o' := Cl 78 [sv ag X ah, sv ai Y aj, sv ak Z al, sv am aa an, sv ao ab aq, sv ar ac au, sv av ad aw, sv A3 C c4, .slice A8 (put G (bt : Int) (⟨af.left - 1, af.wanted, af.failed⟩ : z6)).length c9, .map (some W)]) (by simp only [sv, w8])<|Tn<|Xm<|Xn<|Cg<|tS (sa rfl rfl (by omega))<|mV rfl<|Tn ?_
 obtain rfl := o1 hm
 exact jS ⟨dn, rfl, rfl, ((e.trans aA)), d6, ((w8 _ _ _).trans aF)⟩
 refine Ck<|Xm<|Xn<|Cg<|tS (sa rfl rfl (by omega))<|mV rfl<|Tn ?_
 obtain rfl := o1 hm
 exact jS ⟨c, rfl, rfl, ((e.trans aA)), (ay.le aA), aF⟩
 rintro bf _ _ ⟨c, rfl, rfl, e, ay, aF⟩
 have hm := dj
 refine Cr<|tS (lF rfl rfl (by omega))<|Te<|Cs<|v8 rfl<|Ce<|Xe<|Xe<|Xo<|Xn<|Cs<|Cr<|mV rfl ?_
 obtain ⟨bw, cp, hm⟩ := bS hm
 have zz := f.trans e
 refine q1n a c A B<|q1n B a c A<|q1n A B a c<|q1n c A B a<|q2M [_] [] a c A B R rfl<|Tg _ rfl z6z rfl (q4h _ _ X Y Z aa ab ac ad C G dU dV ads O ag ah ai aj ak al am an ao aq ar au av aw A3 c4 a A8 c9 c W A B (cb.le zz) (cc.le zz) (cd.le zz) (ce.le zz) (cf.le zz) (cg.le zz) (ch.le zz) (ae.le e) ay (eM.le zz) (eO.le zz) bw cp) ?_
 rintro _ d7 _ i ⟨d8, d9, o, rfl, rfl, cq⟩
 refine z2k [_] [] o a c A B R rfl<|tS (sE rfl z9M)<|mV rfl<|Te<|Cb ?_
 have fe : bw.length ≤ 9223372036854775807 := (OS.len cq)
 refine H5 o a c A B<|H5 B o a c A<|H5 A B o a c<|H5 c A B o a<|H5 a c A B o ?_
 obtain ⟨⟨bg, bx⟩, dp, dq⟩ := bS hm
 refine lS (fun cr => F7 fun bg bx => fun bh e' hp' => ∃ d s, [(0, pb O), (99, sv d8 bw d9), (100, iv ((bw.length : Int))), (101, iv ((cr : Int)))] = e' ∧ (O, Cl 78 [sv ag X ah, sv ai Y aj, sv ak Z al, sv am aa an, sv ao ab aq, sv ar ac au, sv av ad aw, sv A3 C c4, sv A8 G c9, .map (some W)]) :: (o ++ (a ++ (c ++ (d ++ (s ++ R))))) = hp' ∧ d7.Le bh ∧ OM rI (OT.fr (RT.key ads)) false false bh.w W bg d ∧ OAr 90 j9 ads bh.w bx s) dp ⟨A, B, rfl, rfl, lr, (eM.le (f.trans (e.trans i))), (eO.le (f.trans (e.trans i)))⟩ ?_ ?_
 rintro cr ⟨bg, bx⟩ bh _ _ ff eI ⟨d, s, rfl, rfl, g, aE, bi⟩ a9
 unfold K2 at a9
 have hm := V8 a9
 refine Cr<|tS (lT rfl rfl (by omega))<|Te<|Cs<|w6 rfl<|Ck<|Xn<|Cs<|Cb<|Cr ?_
 obtain ⟨fJ, ea, hm⟩ := bS hm
 obtain ⟨eb, dr, ds⟩ := iS ea
 obtain ⟨fg, fh, fK, fL, fi, dt, ct, du, cu, fj, eU⟩ := OS.get (sz := 1) rfl (by decide) (cq.le g) ds
 obtain ⟨rfl, rfl⟩ := dt
 refine tS (sI eb rfl rfl dr cu du z9M)<|tS (k9 rfl z9X (fun w ho => ct w _ ho (.cons _ (Kb _ _)) 0 _ rfl))<|aS rfl<|Te<|Cs<|Cr<|mV rfl ?_
 obtain ⟨bj, bQ, hm⟩ := bS hm
 obtain ⟨h, ec, hm⟩ := bS hm
 refine Tr 7 rfl (v' := .pointer (some ⟨(ads bj), 0, none⟩)) (by rw [bQ]; rfl)<|Tr 104 rfl (v' := .pointer (some ⟨(ads bj), 0, none⟩)) (by rw [bQ]; rfl)<|Tr 105 rfl (v' := .pointer (some ⟨(ads bj), 0, none⟩)) (by rw [bQ]; rfl) ?_
 obtain ⟨fk, fl, D, b6, dv, hf1562⟩ := OAr.take bi ec
 obtain ⟨aN, aO, aP, aQ, aR, aT, t, aU, aV, u, rfl, cv, cw, cx, cy, rfl⟩ := dv
 refine q0X o a c d s<|q4x [_] s D t u (o ++ (a ++ (c ++ (d ++ R)))) rfl b6<|tS (sN rfl)<|tS (sF rfl z0D)<|tS (sL 0 rfl Q3 rfl rfl)<|tS (q1 rfl rfl)<|Te<|cI hm rfl (fun hm => ?_) fun hm => ?_
 refine Ce<|Xe<|Xo<|Xn<|Cg<|tS (sa rfl rfl (by omega))<|mV rfl<|Tn<|q1c t u D<|q1c D t u<|q1c u D t<|q4v [_] s D t u (o ++ (a ++ (c ++ (d ++ R)))) rfl b6 ?_
 obtain rfl := o1 hm
 exact jS ⟨d, s, rfl, rfl, (g), aE, bi⟩
 refine Ck<|Xn<|Cr<|mV rfl<|tS (sN rfl)<|tS (sF rfl z0D)<|tS (sL 0 rfl Q3 rfl rfl) ?_
 obtain ⟨_, bR, hm⟩ := bS hm
 have bR := (kS bR).2
 refine tS (sb rfl rfl bR)<|tS (sN rfl)<|tS (sF rfl z0D)<|tD (uS 0 rfl rfl z7l rfl rfl (by simp)) ?_
 rintro _ _ rfl
 refine Te<|Cr<|mV rfl<|tS (sN rfl)<|tS (sF rfl z0D)<|tS (sL 0 rfl Q3 rfl rfl)<|tS (q1 rfl rfl)<|Te<|cI hm rfl (fun hm => ?_) fun hm => ?_
 refine Di mixed (.refl _)<|E0 0 rfl (sM rfl)<|E0 1 rfl (sN rfl)<|E0 2 rfl (sF rfl q2U)<|Es 3 rfl (sL 1 rfl q8m rfl rfl)<|E0 4 rfl (sM rfl)<|E0 5 rfl (sN rfl)<|E0 6 rfl (sF rfl z2K)<|Es 7 rfl (sL 0 rfl Q3 rfl rfl)<|Eo<|j3y t u D o a c d<|Da [8] (by kernel_rfl) rfl<|Rd2 lr rfl rfl (z8H (k := h.number) j0g [_, _] (t ++ (u ++ (D ++ (o ++ (a ++ (c ++ R)))))) rfl aE q5n rfl rfl rfl) ?_ ?_
 rintro _ _ ⟨aI, rfl, rfl, ed⟩
 refine ⟨.inl (by kernel_rfl), ?_⟩
 refine Dd (by kernel_rfl)<|Xm<|Xn<|Cg<|tS (sa rfl rfl (by omega))<|mV rfl<|Tn<|z4l aI t u D<|z4l D aI t u<|z4l u D aI t ?_
 have ee := hf1562 _ [iv h.Route.From, iv h.Route.To, sv aN h.Route.Steps aO, sv aP h.needs aQ, sv aR h.seen aT, sv aU h.gone aV, bv h.laps, bv h.sight, iv (h.leave - 1), iv h.clock, iv h.number] (⟨h.Route, h.needs, h.seen, h.gone, h.laps, h.sight, h.leave - 1, h.clock, h.number⟩ : z7) _ lr ⟨aN, aO, aP, aQ, aR, aT, t, aU, aV, u, rfl, cv, cw, cx, cy, rfl⟩
 refine z4m [_] D t u (aI ++ (o ++ (a ++ (c ++ R)))) rfl ?_
 obtain rfl := o1 hm
 exact jS ⟨aI, (D ++ (((ads bj), Cl 90 [iv h.Route.From, iv h.Route.To, sv aN h.Route.Steps aO, sv aP h.needs aQ, sv aR h.seen aT, sv aU h.gone aV, bv h.laps, bv h.sight, iv (h.leave - 1), iv h.clock, iv h.number]) :: (t ++ u))), rfl, rfl, (g), ed, ee⟩
 exact Rn
 refine Ck<|Xm<|Xn<|Cg<|tS (sa rfl rfl (by omega))<|mV rfl<|Tn<|q1c t u D<|q1c D t u<|q1c u D t ?_
 have ef := hf1562 _ [iv h.Route.From, iv h.Route.To, sv aN h.Route.Steps aO, sv aP h.needs aQ, sv aR h.seen aT, sv aU h.gone aV, bv h.laps, bv h.sight, iv (h.leave - 1), iv h.clock, iv h.number] (⟨h.Route, h.needs, h.seen, h.gone, h.laps, h.sight, h.leave - 1, h.clock, h.number⟩ : z7) _ lr ⟨aN, aO, aP, aQ, aR, aT, t, aU, aV, u, rfl, cv, cw, cx, cy, rfl⟩
 refine z4m [_] D t u (o ++ (a ++ (c ++ (d ++ R)))) rfl ?_
 obtain rfl := o1 hm
 exact jS ⟨d, (D ++ (((ads bj), Cl 90 [iv h.Route.From, iv h.Route.To, sv aN h.Route.Steps aO, sv aP h.needs aQ, sv aR h.seen aT, sv aU h.gone aV, bv h.laps, bv h.sight, iv (h.leave - 1), iv h.clock, iv h.number]) :: (t ++ u))), rfl, rfl, (g), aE, ef⟩
 rintro bh _ _ ⟨d, s, rfl, rfl, g, aE, bi⟩
 have hm := V8 dq
 refine Cr<|tS (lF rfl rfl (by omega))<|Te<|Cs<|v8 rfl<|Ce<|Xe<|Xe<|Xo<|Xn<|Cs<|Cr<|mV rfl ?_
 obtain ⟨aW, cz, hm⟩ := bS hm
 have zy := f.trans (e.trans (i.trans g))
 refine q0X o a c d s<|q0X s o a c d<|q0X d s o a c<|q0X c d s o a<|q2M [_] [] a c d s (o ++ R) rfl<|Tg _ rfl z6z rfl (q4h _ _ X Y Z aa ab ac ad C G bg bx ads O ag ah ai aj ak al am an ao aq ar au av aw A3 c4 a A8 c9 c W d s (cb.le zy) (cc.le zy) (cd.le zy) (ce.le zy) (cf.le zy) (cg.le zy) (ch.le zy) (ae.le (e.trans (i.trans g))) (ay.le (i.trans g)) aE bi aW cz) ?_
 rintro _ eg _ n ⟨cA, cC, m, rfl, rfl, cD⟩
 refine z2k [_] [] m a c d s (o ++ R) rfl<|tS (sE rfl z9M)<|mV rfl<|Te<|Cb ?_
 have fm : aW.length ≤ 9223372036854775807 := (OS.len cD)
 refine H5 m a c d s<|H5 s m a c d<|H5 d s m a c<|H5 c d s m a<|H5 a c d s m ?_
 obtain ⟨bz, dw, dx⟩ := bS hm
 refine lS (fun bT => fun bz => fun bk e' hp' => ∃ r, [(0, pb O), (132, sv cA aW cC), (133, iv ((aW.length : Int))), (134, iv ((bT : Int)))] = e' ∧ (O, Cl 78 [sv ag X ah, sv ai Y aj, sv ak Z al, sv am aa an, sv ao ab aq, sv ar ac au, sv av ad aw, sv A3 C c4, sv A8 G c9, .map (some W)]) :: (m ++ (a ++ (c ++ (d ++ (r ++ R))))) = hp' ∧ eg.Le bk ∧ OAr 90 j9 ads bk.w bz r) dw ⟨s, rfl, rfl, lr, (bi.le n)⟩ ?_ ?_
 rintro bT bz bk _ _ fn eJ ⟨r, rfl, rfl, l, aX⟩ ba
 unfold Z5 at ba
 have hm := ba
 refine Cr<|tS (lT rfl rfl (by omega))<|Te<|Cs<|w6 rfl<|Ck<|Xn<|Cs<|Cb<|Cr ?_
 obtain ⟨fM, eh, hm⟩ := bS hm
 obtain ⟨ei, dy, dz⟩ := iS eh
 obtain ⟨fo, fp, fN, fO, fq, dA, cE, dB, cG, fr, eV⟩ := OS.get (sz := 1) rfl (by decide) (cD.le l) dz
 obtain ⟨rfl, rfl⟩ := dA
 refine tS (sI ei rfl rfl dy cG dB z9M)<|tS (k9 rfl z9X (fun w ho => cE w _ ho (.cons _ (Kb _ _)) 0 _ rfl))<|aS rfl<|Te ?_
 obtain ⟨⟨ej, ek⟩, dC, dD⟩ := bS hm
 refine Cj (fun cH e' hp' => [(0, pb O), (9, kv ads ej), (132, sv cA aW cC), (133, iv ((aW.length : Int))), (134, iv ((bT : Int))), (155, bv ek)] = e' ∧ (O, Cl 78 [sv ag X ah, sv ai Y aj, sv ak Z al, sv am aa an, sv ao ab aq, sv ar ac au, sv av ad aw, sv A3 C c4, sv A8 G c9, .map (some W)]) :: (m ++ (a ++ (c ++ (d ++ (r ++ R))))) = hp' ∧ bk.Le cH) ?_ ?_
 have hm := dC
 obtain ⟨cJ, cK, hm⟩ := bS hm
 obtain ⟨fP, el, hm⟩ := bS hm
 refine q9R 9 rfl (v' := .pointer (some ⟨(ads cJ), 0, none⟩)) (by rw [cK]; rfl)<|q9R 137 rfl (v' := .pointer (some ⟨(ads cJ), 0, none⟩)) (by rw [cK]; rfl) ?_
 obtain ⟨fs, ft, T, bA, dE, hf2039⟩ := OAr.take aX el
 obtain ⟨fQ, fR, fS, fT, fU, fV, U, fW, fX, V, rfl, fY, fZ, cO, f0, rfl⟩ := dE
 refine H5 m a c d r<|q9S [_] r T U V (m ++ (a ++ (c ++ (d ++ R)))) rfl bA ?_
 obtain ⟨_, aY, hm⟩ := bS hm
 obtain ⟨em, cP, hm⟩ := bS hm
 rcases Kg em with aJ | aJ
 rw [if_pos aJ] at hm
 refine Di mixed (.refl _)<|E0 0 rfl (sM rfl)<|E0 1 rfl (sN rfl)<|E0 2 rfl (sF rfl q3y)<|Es 3 rfl (sL 0 rfl q5W rfl rfl)<|E0 4 rfl (sM rfl)<|E0 5 rfl (sN rfl)<|E0 6 rfl (sF rfl q3y)<|Es 7 rfl (sL 0 rfl q5W rfl rfl)<|E0 8 rfl (sE rfl z1c) ?_
 have aY := (kS aY).2
 refine E0 9 rfl (sb rfl rfl aY) ?_
 obtain ⟨bU, bB, bC⟩ := iS cP
 obtain ⟨dF, dH, en, eo, dI, bD, bl, bE, bm, dJ, cQ⟩ := OS.get (sz := 1) rfl (by decide) cO bC
 obtain ⟨rfl, rfl⟩ := bD
 refine E0 10 rfl (sI bU rfl rfl bB bm bE z1c)<|Es 11 rfl (stB (k9 rfl q7k (fun w ho => bl w _ ho (.cons _ (.cons _ (Kb _ _))) 0 _ rfl)) aJ)<|E0 12 rfl (sM rfl)<|Yz 13 150 rfl (sM rfl)<|Yz 14 150 rfl (sN rfl)<|Yz 15 150 rfl (sF rfl z0E)<|Ey 16 150 rfl (sL 0 rfl q7k rfl rfl)<|E0 17 rfl (pT rfl rfl)<|Eo<|Dd (by kernel_rfl)<|q1c U V T<|q1c T U V<|q1c V T U<|q4v [_] r T U V (m ++ (a ++ (c ++ (d ++ R)))) rfl bA ?_
 obtain ⟨rfl, rfl⟩ := W4 hm
 exact jJ ⟨rfl, rfl, lr⟩
 rw [if_neg (fun hh => Bool.noConfusion (hh.symm.trans aJ))] at hm
 refine Di mixed (.refl _)<|E0 0 rfl (sM rfl)<|E0 1 rfl (sN rfl)<|E0 2 rfl (sF rfl q3y)<|Es 3 rfl (sL 0 rfl q5W rfl rfl)<|E0 4 rfl (sM rfl)<|E0 5 rfl (sN rfl)<|E0 6 rfl (sF rfl q3y)<|Es 7 rfl (sL 0 rfl q5W rfl rfl)<|E0 8 rfl (sE rfl z1c) ?_
 have aY := (kS aY).2
 refine E0 9 rfl (sb rfl rfl aY) ?_
 obtain ⟨bU, bB, bC⟩ := iS cP
 obtain ⟨dF, dH, en, eo, dI, bD, bl, bE, bm, dJ, cQ⟩ := OS.get (sz := 1) rfl (by decide) cO bC
 obtain ⟨rfl, rfl⟩ := bD
 refine E0 10 rfl (sI bU rfl rfl bB bm bE z1c)<|Es 11 rfl (stB (k9 rfl q7k (fun w ho => bl w _ ho (.cons _ (.cons _ (Kb _ _))) 0 _ rfl)) aJ)<|E0 12 rfl (sM rfl)<|eN 13 rfl<|eN 14 rfl<|eN 15 rfl<|eN 16 rfl<|E0 17 rfl (pF rfl rfl)<|Eo<|Dd (by kernel_rfl)<|q1c U V T<|q1c T U V<|q1c V T U<|q4v [_] r T U V (m ++ (a ++ (c ++ (d ++ R)))) rfl bA ?_
 obtain ⟨rfl, rfl⟩ := W4 hm
 exact jJ ⟨rfl, rfl, lr⟩
 rintro cH _ _ ⟨rfl, rfl, aB⟩
 have hm := V8 dD
 refine cB hm rfl (fun hm => ?_) fun hm => ?_
 refine Cr<|mV rfl ?_
 obtain ⟨bG, cR, hm⟩ := bS hm
 obtain ⟨j, ep, hm⟩ := bS hm
 refine Tr 9 rfl (v' := .pointer (some ⟨(ads bG), 0, none⟩)) (by rw [cR]; rfl)<|Tr 156 rfl (v' := .pointer (some ⟨(ads bG), 0, none⟩)) (by rw [cR]; rfl) ?_
 obtain ⟨fu, fv, L, dK, dL, hf2100⟩ := OAr.take (aX.le aB) ep
 obtain ⟨aZ, a0, a1, a2, a3, a4, H, a5, a6, I, rfl, cT, cU, cV, cW, rfl⟩ := dL
 refine q0X m a c d r<|q4x [_] r L H I (m ++ (a ++ (c ++ (d ++ R)))) rfl dK<|tS (sN rfl)<|tS (sF rfl z2L)<|tS (sL 0 rfl Q3 rfl rfl) ?_
 obtain ⟨_, bV, hm⟩ := bS hm
 have bV := (kS bV).2
 refine tS (sa rfl rfl bV)<|tS (sN rfl)<|tS (sF rfl z2L)<|tD (uS 0 rfl rfl z7l rfl rfl (by simp)) ?_
 rintro _ _ rfl
 refine Te<|Cr<|mV rfl<|tS (sN rfl)<|tS (sF rfl z2L)<|tS (sL 0 rfl Q3 rfl rfl)<|tS (q1 rfl rfl)<|Te<|cI hm rfl (fun hm => ?_) fun hm => ?_
 refine Cg<|mV rfl<|tS (sN rfl)<|tS (sF rfl z0E)<|tD (uS 0 rfl rfl z5y rfl rfl (by simp)) ?_
 rintro _ _ rfl
 refine Tn<|Xm<|Xn<|Cg<|tS (sa rfl rfl (by omega))<|mV rfl<|Tn<|q1c H I L<|q1c L H I<|q1c I L H ?_
 have eq := hf2100 _ [iv j.Route.From, iv j.Route.To, sv aZ j.Route.Steps a0, sv a1 j.needs a2, sv a3 j.seen a4, sv a5 j.gone a6, bv false, bv j.sight, iv j.leave, iv (j.clock + 1), iv j.number] (⟨j.Route, j.needs, j.seen, j.gone, false, j.sight, j.leave, j.clock + 1, j.number⟩ : z7) _ lr ⟨aZ, a0, a1, a2, a3, a4, H, a5, a6, I, rfl, cT, cU, cV, cW, rfl⟩
 refine z4m [_] L H I (m ++ (a ++ (c ++ (d ++ R)))) rfl ?_
 obtain rfl := o1 hm
 exact jS ⟨(L ++ (((ads bG), Cl 90 [iv j.Route.From, iv j.Route.To, sv aZ j.Route.Steps a0, sv a1 j.needs a2, sv a3 j.seen a4, sv a5 j.gone a6, bv false, bv j.sight, iv j.leave, iv (j.clock + 1), iv j.number]) :: (H ++ I))), rfl, rfl, ((l.trans aB)), eq⟩
 refine Ck<|Xm<|Xn<|Cg<|tS (sa rfl rfl (by omega))<|mV rfl<|Tn<|q1c H I L<|q1c L H I<|q1c I L H ?_
 have er := hf2100 _ [iv j.Route.From, iv j.Route.To, sv aZ j.Route.Steps a0, sv a1 j.needs a2, sv a3 j.seen a4, sv a5 j.gone a6, bv j.laps, bv j.sight, iv j.leave, iv (j.clock + 1), iv j.number] (⟨j.Route, j.needs, j.seen, j.gone, j.laps, j.sight, j.leave, j.clock + 1, j.number⟩ : z7) _ lr ⟨aZ, a0, a1, a2, a3, a4, H, a5, a6, I, rfl, cT, cU, cV, cW, rfl⟩
 refine z4m [_] L H I (m ++ (a ++ (c ++ (d ++ R)))) rfl ?_
 obtain rfl := o1 hm
 exact jS ⟨(L ++ (((ads bG), Cl 90 [iv j.Route.From, iv j.Route.To, sv aZ j.Route.Steps a0, sv a1 j.needs a2, sv a3 j.seen a4, sv a5 j.gone a6, bv j.laps, bv j.sight, iv j.leave, iv (j.clock + 1), iv j.number]) :: (H ++ I))), rfl, rfl, ((l.trans aB)), er⟩
 refine Ck<|Xm<|Xn<|Cg<|tS (sa rfl rfl (by omega))<|mV rfl<|Tn ?_
 obtain rfl := o1 hm
 exact jS ⟨r, rfl, rfl, ((l.trans aB)), (aX.le aB)⟩
 rintro bk _ _ ⟨r, rfl, rfl, l, aX⟩
 have hm := dx
 refine Cr<|tS (lF rfl rfl (by omega))<|Te<|Cs<|v8 rfl<|Ce<|Xe<|Xe<|Xo<|Xn<|Cs<|Cr<|mV rfl ?_
 obtain ⟨bH, cX, hm⟩ := bS hm
 have zx := f.trans (e.trans (i.trans (g.trans (n.trans l))))
 have zw := i.trans (g.trans (n.trans l))
 refine q0X m a c d r<|q0X r m a c d<|q0X d r m a c<|q0X c d r m a<|q2M [_] [] a c d r (m ++ R) rfl<|Tg _ rfl z6z rfl (q4h _ _ X Y Z aa ab ac ad C G bg bz ads O ag ah ai aj ak al am an ao aq ar au av aw A3 c4 a A8 c9 c W d r (cb.le zx) (cc.le zx) (cd.le zx) (ce.le zx) (cf.le zx) (cg.le zx) (ch.le zx) (ae.le (e.trans zw)) (ay.le zw) (aE.le (n.trans l)) aX bH cX) ?_
 rintro _ es _ q ⟨et, eu, y, rfl, rfl, cY⟩
 refine z2k [_] [] y a c d r (m ++ R) rfl<|tS (sE rfl z9M)<|mV rfl<|Te<|Cb ?_
 have fw : bH.length ≤ 9223372036854775807 := (OS.len cY)
 refine H5 y a c d r<|H5 r y a c d<|H5 d r y a c<|H5 c d r y a<|H5 a c d r y ?_
 obtain ⟨⟨bn, bo⟩, dM, dN⟩ := bS hm
 refine lS (fun cZ => F7 fun bn bo => fun bp e' hp' => ∃ E z, [(0, pb O), (173, sv et bH eu), (174, iv ((bH.length : Int))), (175, iv ((cZ : Int)))] = e' ∧ (O, Cl 78 [sv ag X ah, sv ai Y aj, sv ak Z al, sv am aa an, sv ao ab aq, sv ar ac au, sv av ad aw, sv A3 C c4, sv A8 G c9, .map (some W)]) :: (y ++ (a ++ (c ++ (E ++ (z ++ R))))) = hp' ∧ es.Le bp ∧ OM rI (OT.fr (RT.key ads)) false false bp.w W bn E ∧ OAr 90 j9 ads bp.w bo z) dM ⟨d, r, rfl, rfl, lr, (aE.le (n.trans (l.trans q))), (aX.le q)⟩ ?_ ?_
 rintro cZ ⟨bn, bo⟩ bp _ _ fx eK ⟨E, z, rfl, rfl, p, bW, bI⟩ bb
 unfold K1 at bb
 have hm := V8 bb
 refine Cr<|tS (lT rfl rfl (by omega))<|Te<|Cs<|w6 rfl<|Ck<|Xn<|Cs<|Cb<|Cr ?_
 obtain ⟨ev, ew, hm⟩ := bS hm
 obtain ⟨ex, dO, dP⟩ := iS ew
 obtain ⟨fy, fz, f1, f2, fA, dQ, c0, dR, c1, fB, eW⟩ := OS.get (sz := 1) rfl (by decide) (cY.le p) dP
 obtain ⟨rfl, rfl⟩ := dQ
 refine tS (sI ex rfl rfl dO c1 dR z9M)<|tS (k9 rfl z9X (fun w ho => c0 w _ ho (.cons _ (Kb _ _)) 0 _ rfl))<|aS rfl<|Te<|Cg<|mV rfl<|mV rfl ?_
 obtain ⟨⟨ey, ez⟩, c2, hm⟩ := bS hm
 have hm := V8 hm
 have zv := f.trans (e.trans (i.trans (g.trans (n.trans (l.trans (q.trans p))))))
 have zu := i.trans (g.trans (n.trans (l.trans (q.trans p))))
 refine q1n y a c E<|q1n E y a c<|q1n c E y a<|q0X a c E y z<|q2M [_] [] z a c E (y ++ R) rfl<|Tg _ rfl j2t rfl (q8H _ _ ev X Y Z aa ab ac ad bo C G bn ads O ag ah ai aj ak al am an ao aq ar au av aw z A3 c4 a A8 c9 c W E (cb.le zv) (cc.le zv) (cd.le zv) (ce.le zv) (cf.le zv) (cg.le zv) (ch.le zv) bI (ae.le (e.trans zu)) (ay.le zu) bW ey ez c2) ?_
 rintro _ f3 _ c3 ⟨b7, b8, rfl, rfl, eA, eB⟩
 refine q8Z [_] [] b7 a c b8 (y ++ R) rfl<|Tn<|Xm<|Xn<|Cg<|tS (sa rfl rfl (by omega))<|mV rfl<|Tn ?_
 obtain rfl := o1 hm
 exact jS ⟨b8, b7, rfl, rfl, ((p.trans c3)), eB, eA⟩
 rintro bp _ _ ⟨E, z, rfl, rfl, p, bW, bI⟩
 have hm := V8 dN
 refine Cr<|tS (lF rfl rfl (by omega))<|Te<|Cs<|v8 rfl<|Ce<|Xe<|Xe<|Xo<|Xn<|Cg<|mV rfl ?_
 obtain ⟨⟨c5, eC⟩, c6, hm⟩ := bS hm
 have hm := V8 hm
 have zt := f.trans (e.trans (i.trans (g.trans (n.trans (l.trans (q.trans p))))))
 have zs := i.trans (g.trans (n.trans (l.trans (q.trans p))))
 refine q0X y a c E z<|q0X z y a c E<|q0X E z y a c<|q0X c E z y a<|q2M [_] [] a c E z (y ++ R) rfl<|Tg _ rfl z9f rfl (q7n _ _ X Y Z aa ab ac ad C G bn bo ads O ag ah ai aj ak al am an ao aq ar au av aw A3 c4 a A8 c9 c W E z (cb.le zt) (cc.le zt) (cd.le zt) (ce.le zt) (cf.le zt) (cg.le zt) (ch.le zt) (ae.le (e.trans zs)) (ay.le zs) bW bI c5 eC c6) ?_
 rintro _ f4 _ bq ⟨b9, ca, rfl, rfl, eD, c7, eE⟩
 refine q8Z [_] [] a b9 ca z (y ++ R) rfl<|P9 0 rfl (o' := Cl 78 [sv ag X ah, sv ai Y aj, sv ak Z al, sv am aa an, sv ao ab aq, sv ar ac au, sv av ad aw, sv A3 C c4, sv A8 c5 c9, .map (some W)]) (by simp only [sv, c7])<|Tn ?_
 obtain ⟨rfl, rfl, rfl, rfl⟩ := z9L hm
 have zr := e.trans (i.trans (g.trans (n.trans (l.trans (q.trans (p.trans bq))))))
 have dS := ae.le zr
 have dT := bI.le bq
 exact eZ ⟨a, b9, ca, z, rfl, rfl, dS, az, eD, (c7.trans aF), eE, dT⟩ (f.trans zr)
theorem q9i (b : v7) (R : Hp) (i s t u) (x : FZ rI b.w t u i) (j) (hm : q3w i s = some j):
 w5 Tryz.prog 39 [sv t i u, iv s] b (R) (fun v b' hp' => iv j = v ∧ R = hp') := by
 refine fE 19 Tryz.func39 rfl Tryz.ntmps39 rfl ?_
 unfold q3w at hm
 refine Cr<|aS rfl<|Te<|Cs<|Cr<|mV rfl<|tS (sE rfl z5x)<|mV rfl<|Te<|Cb ?_
 have y : i.length ≤ 9223372036854775807 := (FZ.bd x)
 obtain ⟨C, k, d⟩ := bS hm
 refine lF (fun l => fun _ => fun f e' hp' => [(0, sv t i u), (1, iv s), (7, iv ((i.length : Int))), (8, iv ((l : Int)))] = e' ∧ R = hp' ∧ b.Le f) k ⟨rfl, rfl, lr⟩ ?_ ?_
 rintro l _ f _ _ z r ⟨rfl, rfl, a⟩ c e
 unfold q1y at c
 have hm := c
 refine Cr<|tS (lT rfl rfl (by omega))<|Te<|Cs<|w6 rfl<|Ck<|Xn<|Cs<|Cb<|Cr<|mV rfl<|aS rfl<|Te<|Cr<|mV rfl<|mV rfl<|mV rfl ?_
 obtain ⟨D, w, A, m, B, n, g, o, h, hm⟩ := bF (sz := 1) hm (x.le a)
 obtain rfl := n
 refine tS (sI w rfl rfl m h o z5x)<|tS (sO rfl Q3 (g 0 _ rfl))<|tS (q1 rfl rfl)<|Te<|cI hm rfl (fun hm => ?_) fun hm => ?_
 refine Cr<|mV rfl<|aS rfl<|Te<|Ct<|Xb<|Xr<|Xr<|Xb<|Xr ?_
 have p := e _ (Kd hm).symm
 rw [p] at d
 have hm := V6 d
 obtain rfl := o1 hm
 exact rO ⟨rfl, rfl⟩ a
 refine Ck<|Xm<|Xn<|Cg<|tS (sa rfl rfl (by omega))<|mV rfl<|Tn ?_
 exact jM hm ⟨rfl, rfl, (a)⟩
 rintro _ f _ _ ⟨rfl, rfl, a⟩ q
 rw [q] at d
 have hm := G6 d
 refine Cr<|tS (lF rfl rfl (by omega))<|Te<|Cs<|v8 rfl<|Ce<|Xe<|Xe<|Xo<|Xn<|Cr<|aS rfl<|Te<|Ct ?_
 obtain rfl := o1 hm
 exact rO ⟨rfl, rfl⟩ a
theorem q3O (b : v7) (R : Hp) (c d e f) (i : FZ rI b.w e f c) (g) (hm : K7 c d = some g):
 w5 Tryz.prog 11 [sv e c f, iv d] b (R) (fun v b' hp' => bv g = v ∧ R = hp') := by
 refine fE 9 Tryz.func11 rfl Tryz.ntmps11 rfl ?_
 unfold K7 at hm
 refine Cr<|aS rfl<|Te<|Cr<|mV rfl<|mV rfl ?_
 obtain ⟨j, a, hm⟩ := bS hm
 refine tD (uW _ j2s rfl (fun w ho => q9i _ [] c d e f (i.old ho) j a) (fun _ _ _ h => h.2.symm)) ?_
 rintro _ _ ⟨⟨_, rfl, _⟩, rfl⟩
 refine tS (q6 rfl rfl)<|aS rfl<|Te<|Ct ?_
 obtain rfl := o1 hm
 exact rO ⟨rfl, rfl⟩ lr
theorem q9r (b : v7) (R : Hp) (j k l m n o p g h q r) (ads : Int → Nat) (w x y z A B C D E F G H I J K X Y d Z c9 e i a c) (af : FZ RT.str b.w x y j) (ag : FZ j5 b.w z A k) (ah : FZ w9 b.w B C l) (ai : FZ j6 b.w D E m) (aj : FZ k7 b.w F G n) (ak : FZ Z9 b.w H I o) (al : FZ (RT.list j4) b.w J K p) (h5 : OS 80 (OT.fr Q5) b.w (sv X g Y) g d) (am : OS 94 (OT.fr Q4) b.w (sv Z h c9) h e) (T : OM rI (OT.fr (RT.key ads)) false false b.w i q a) (U : OAr 90 j9 ads b.w r c) (s) (hm : q2i j k l m n o p g h q r = some s):
 w5 Tryz.prog 21 [pb w] b ((w, Cl 78 [sv x j y, sv z k A, sv B l C, sv D m E, sv F n G, sv H o I, sv J p K, sv X g Y, sv Z h c9, .map (some i)]) :: (d ++ (e ++ (a ++ (c ++ R))))) (fun v b' hp' => ∃ V W t, sv V s W = v ∧ (w, Cl 78 [sv x j y, sv z k A, sv B l C, sv D m E, sv F n G, sv H o I, sv J p K, sv X g Y, sv Z h c9, .map (some i)]) :: (t ++ (d ++ (e ++ (a ++ (c ++ R))))) = hp' ∧ OS 3 (OT.fr rI) b'.w (sv V s W) s t) := by
 refine fE 9 Tryz.func21 rfl Tryz.ntmps21 rfl ?_
 unfold q2i at hm
 refine Cr<|aS rfl<|Te<|Cr<|mV rfl<|tS (sN rfl)<|tS (sF rfl q2U)<|tS (sL 0 rfl q8m rfl rfl) ?_
 obtain ⟨_, L, hm⟩ := bS hm
 refine q1n d e a c<|q1n c d e a<|z3h [] [_] a c (d ++ (e ++ R)) rfl<|Tg _ rfl z9d rfl (z1O _ _ q r ads i a c T U L) ?_
 rintro _ an _ f ⟨aa, rfl, rfl⟩
 refine z7x [_] [_] a c (d ++ (e ++ R)) rfl ?_
 obtain ⟨ab, O, hm⟩ := bS hm
 refine q8Y a c<|q8Y c a<|z3h [_] [_] a c (d ++ (e ++ R)) rfl<|Tg _ rfl z9e rfl (q6v _ _ q r ads aa i a c (T.le f) (U.le f) ab O) ?_
 rintro _ ao _ S ⟨ac, ad, u, rfl, rfl, ae⟩
 refine z0h [_] [_] u a c (d ++ (e ++ R)) rfl<|aS rfl<|Te<|Ct ?_
 obtain rfl := o1 hm
 exact rO ⟨ac, ad, u, rfl, rfl, ae⟩ (f.trans S)
theorem z1P (b : v7) (R : Hp) (j l m n o p q r h i T s) (ads : Int → Nat) (t u x y z A B C D E F G H I J A3 c4 d A8 c9 e K c a) (ag : FZ RT.str b.w u x l) (ah : FZ j5 b.w y z m) (ai : FZ w9 b.w A B n) (aj : FZ j6 b.w C D o) (ak : FZ k7 b.w E F p) (al : FZ Z9 b.w G H q) (am : FZ (RT.list j4) b.w I J r) (h5 : OS 80 (OT.fr Q5) b.w (sv A3 h c4) h d) (an : OS 94 (OT.fr Q4) b.w (sv A8 i c9) i e) (Y : OM rI (OT.fr (RT.key ads)) false false b.w K T c) (Z : OAr 90 j9 ads b.w s a) (aa L) (hm : q2p j l m n o p q r h i T s = some (aa, L)):
 w5 Tryz.prog 22 [pb t, iv j] b ((t, Cl 78 [sv u l x, sv y m z, sv A n B, sv C o D, sv E p F, sv G q H, sv I r J, sv A3 h c4, sv A8 i c9, .map (some K)]) :: (d ++ (e ++ (c ++ (a ++ R))))) (fun v b' hp' => ∃ ab ac O, .tuple #[sv ab L ac, iv aa] = v ∧ (t, Cl 78 [sv u l x, sv y m z, sv A n B, sv C o D, sv E p F, sv G q H, sv I r J, sv A3 h c4, sv A8 i c9, .map (some K)]) :: (O ++ (d ++ (e ++ (c ++ (a ++ R))))) = hp' ∧ OS 55 (OT.fr j4) b'.w (sv ab L ac) L O) := by
 refine fE 21 Tryz.func22 rfl Tryz.ntmps22 rfl ?_
 unfold q2p at hm
 refine Cr<|aS rfl<|aS rfl<|Te<|Cs<|Cr<|mV rfl<|mV rfl ?_
 obtain ⟨ao, U, hm⟩ := bS hm
 refine q1n d e c a<|q1n a d e c<|q1n c a d e<|q1n e c a d<|q2M [_] [] d e c a R rfl<|Tg _ rfl z9h rfl (q4q _ _ j l m n o p q r h i T s ads t u x y z A B C D E F G H I J A3 c4 d A8 c9 e K c a ag ah ai aj ak al am h5 an Y Z ao U) ?_
 rintro _ ax _ f ⟨rfl, rfl⟩
 refine q8Z [_] [] d e c a R rfl<|tS (sn2 rfl)<|Te<|cM hm rfl (fun hm => ?_) fun hm => ?_
 refine Cr<|aS rfl<|aS rfl<|Te<|Ct<|Xr ?_
 obtain ⟨rfl, rfl⟩ := W4 hm
 exact rT ⟨none, 0, [], rfl, rfl, OS.nil⟩ f
 refine Ck<|Xn<|Cs<|Cr<|mV rfl<|tS (sN rfl)<|tS (sF rfl q2U)<|tS (sL 0 rfl q8m rfl rfl)<|mV rfl ?_
 obtain ⟨V, aq, hm⟩ := bS hm
 have ad := Kd aq
 obtain ⟨ae, g, af⟩ := OM.lookF j0g (z0 := none) (Y.le f) (key := iv j) (k := j) rfl q5n z5i rfl
 rw [ad] at g
 obtain rfl : ae = kv ads V := by have g : [ae] = [kv ads V] := g; injection g
 refine tS (q5d (ok := false) rfl rfl (fun w ho => af _ w ho (.cons _ (ss d (ss e (Kb _ _)))) false))<|aS rfl<|Te<|Cr<|mV rfl<|tS (z3j rfl rfl j1r)<|Te<|cM hm rfl (fun hm => ?_) fun hm => ?_
 refine Cr<|mV rfl ?_
 obtain ⟨ar, W, hm⟩ := bS hm
 refine q1n d e c a<|q4m [] [_] a (d ++ (e ++ (c ++ R))) rfl<|Tg _ rfl z9c rfl (q5a _ _ V s ads a (Z.le f) ar W) ?_
 rintro _ ay _ X ⟨au, av, S, rfl, rfl, aw⟩
 refine z7x [] [_] S a (d ++ (e ++ (c ++ R))) rfl<|aS rfl<|aS rfl<|Te<|Ct<|Xr ?_
 obtain ⟨rfl, rfl⟩ := W4 hm
 exact rT ⟨au, av, S, rfl, rfl, aw⟩ (f.trans X)
 refine Ck<|Xn<|Cr<|aS rfl<|aS rfl<|Te<|Ct ?_
 obtain ⟨rfl, rfl⟩ := W4 hm
 exact rT ⟨none, 0, [], rfl, rfl, OS.nil⟩ f
theorem q9s (b : v7) (R : Hp) (aw C D E F G H I x y ax ay) (ads : Int → Nat) (z S T U V W X Y Z aa ab ac ad ae af A3 c4 i A8 c9 j ag a c) (aW : FZ RT.str b.w S T C) (aX : FZ j5 b.w U V D) (aY : FZ w9 b.w W X E) (aZ : FZ j6 b.w Y Z F) (a0 : FZ k7 b.w aa ab G) (a1 : FZ Z9 b.w ac ad H) (a2 : FZ (RT.list j4) b.w ae af I) (h5 : OS 80 (OT.fr Q5) b.w (sv A3 x c4) x i) (a3 : OS 94 (OT.fr Q4) b.w (sv A8 y c9) y j) (a4 : OM rI (OT.fr (RT.key ads)) false false b.w ag ax a) (a5 : OAr 90 j9 ads b.w ay c) (aD aj) (hm : q1h aw C D E F G H I x y ax ay = some (aD, aj)):
 w5 Tryz.prog 12 [pb z, iv aw] b ((z, Cl 78 [sv S C T, sv U D V, sv W E X, sv Y F Z, sv aa G ab, sv ac H ad, sv ae I af, sv A3 x c4, sv A8 y c9, .map (some ag)]) :: (i ++ (j ++ (a ++ (c ++ R))))) (fun v b' hp' => ∃ aE aF ao, .tuple #[sv aE aj aF, bv aD] = v ∧ (z, Cl 78 [sv S C T, sv U D V, sv W E X, sv Y F Z, sv aa G ab, sv ac H ad, sv ae I af, sv A3 x c4, sv A8 y c9, .map (some ag)]) :: (ao ++ (i ++ (j ++ (a ++ (c ++ R))))) = hp' ∧ OS 46 (OT.fr (RT.list j4)) b'.w (sv aE aj aF) aj ao) := by
 refine fE 44 Tryz.func12 rfl Tryz.ntmps12 rfl ?_
 unfold q1h at hm
 refine Cr<|aS rfl<|aS rfl<|Te<|Cr<|mV rfl ?_
 obtain ⟨aG, J, hm⟩ := bS hm
 have J := q0Q J
 refine tD (Y7 (r := (RT.list j4)) [_] (i ++ (j ++ (a ++ (c ++ R)))) [sn] ([] : List q8) aG rfl J.1 rfl rfl z5d j1I rfl rfl rfl (by decide) (RT.list_mk FZ.nil) J.2.1 J.2.2) ?_
 rintro _ _ ⟨k, rfl, aH⟩
 obtain ⟨K, L, rfl, _⟩ := aH.form
 refine aS rfl<|Te<|Cr<|mV rfl ?_
 obtain ⟨O, az, hm⟩ := bS hm
 refine q0X k i j a c<|q0X c k i j a<|q0X a c k i j<|q0X j a c k i<|q2M [_] [] i j a c (k ++ R) rfl<|Tg _ rfl j2B rfl (q9r _ _ C D E F G H I x y ax ay ads z S T U V W X Y Z aa ab ac ad ae af A3 c4 i A8 c9 j ag a c aW aX aY aZ a0 a1 a2 h5 a3 a4 a5 O az) ?_
 rintro _ a6 _ f ⟨aq, ar, e, rfl, rfl, a7⟩
 refine z2k [_] [] e i j a c (k ++ R) rfl<|aS rfl<|Te<|Cs<|Cr<|mV rfl<|mV rfl<|Te<|Cb ?_
 obtain ⟨_, aI, hm⟩ := bS hm
 have aI := (kS aI).2
 refine H5 e i j a c<|H5 c e i j a<|H5 a c e i j<|H5 j a c e i<|H5 i j a c e<|z8s e i j a c k ?_
 obtain ⟨bp, aM, A⟩ := bS hm
 refine lF (fun q => fun p => fun ak e' hp' => ∃ g, [(0, pb z), (6, sv K p L), (7, sv aq O ar), (15, iv aw), (16, iv ((q : Int)))] = e' ∧ (z, Cl 78 [sv S C T, sv U D V, sv W E X, sv Y F Z, sv aa G ab, sv ac H ad, sv ae I af, sv A3 x c4, sv A8 y c9, .map (some ag)]) :: (g ++ (e ++ (i ++ (j ++ (a ++ (c ++ R)))))) = hp' ∧ a6.Le ak ∧ OS 46 (OT.fr (RT.list j4)) ak.w (sv K p L) p g ∧ p.length = aG) aM ⟨k, rfl, rfl, lr, (aH.le f), List.length_replicate⟩ ?_ ?_
 rintro q p ak _ _ bk a8 ⟨g, rfl, rfl, d, al, am⟩ s an
 unfold F4 at s
 have hm := s
 refine Cr<|tS (lT rfl rfl (by omega))<|Te<|Cs<|w6 rfl<|Ck<|Xn<|Cs<|Cb<|Cr<|mV rfl<|aS rfl<|Te<|Cr<|mV rfl<|mV rfl ?_
 obtain ⟨⟨a9, u⟩, aA, hm⟩ := bS hm
 have hm := V8 hm
 have zz := f.trans d
 refine z7w g e i j a c<|z7w c g e i j a<|z7w a c g e i j<|z7w j a c g e i<|q2M [_] [] i j a c (g ++ (e ++ R)) rfl<|Tg _ rfl j2A rfl (z1P _ _ (q : Int) C D E F G H I x y ax ay ads z S T U V W X Y Z aa ab ac ad ae af A3 c4 i A8 c9 j ag a c (aW.le zz) (aX.le zz) (aY.le zz) (aZ.le zz) (a0.le zz) (a1.le zz) (a2.le zz) (h5.le zz) (a3.le zz) (a4.le zz) (a5.le zz) a9 u aA) ?_
 rintro _ ba _ m ⟨aJ, aK, t, rfl, rfl, bb⟩
 refine z2k [_] [] t i j a c (g ++ (e ++ R)) rfl<|mV rfl<|tS (v6 rfl rfl)<|tS (v6 rfl rfl)<|aS rfl<|aS rfl<|Te<|Cs ?_
 obtain ⟨bc, aN, aO⟩ := bS hm
 refine Cj (fun aL e' hp' => [(0, pb z), (6, sv K p L), (7, sv aq O ar), (8, iv ((q : Int))), (9, sv aJ u aK), (15, iv aw), (16, iv ((q : Int))), (37, bv bc)] = e' ∧ (z, Cl 78 [sv S C T, sv U D V, sv W E X, sv Y F Z, sv aa G ab, sv ac H ad, sv ae I af, sv A3 x c4, sv A8 y c9, .map (some ag)]) :: (g ++ (e ++ (t ++ (i ++ (j ++ (a ++ (c ++ R))))))) = hp' ∧ ba.Le aL) ?_ ?_
 have hm := aN
 refine Cg<|mV rfl<|Tb rfl (q2 rfl rfl) (fun ah => ?_) (fun ah => ?_)
 rw [if_pos ah] at hm
 refine mV rfl<|nO<|nO<|nO<|nO<|nO<|nO<|nO<|nO<|nO<|tS (pT rfl rfl)<|Tn ?_
 obtain rfl := o1 hm
 exact jJ ⟨rfl, rfl, lr⟩
 rw [if_neg ah] at hm
 refine mV rfl<|yS<|mV rfl<|yS<|tS (sE rfl q3C)<|yS<|Tb rfl (q5 rfl rfl) (fun ai => ?_) (fun ai => ?_)
 rw [if_pos ai] at hm
 refine yS<|mV rfl<|yS<|mV rfl<|yS<|mV rfl<|yS ?_
 obtain ⟨bd, aB, hm⟩ := bS hm
 refine tD (uW _ z9i rfl (fun w ho => q3O _ [] O (q : Int) aq ar (OS.now (o := (OT.fr rI)) (l := O) (hs := e) (a7.le (d.trans m)) ho (.cons _ (ss t (ss i (ss j (ss a (ss c (ss g (Kb _ _))))))))) bd aB) (fun _ _ _ h => h.2.symm)) ?_
 rintro _ _ ⟨⟨_, rfl, _⟩, rfl⟩
 refine yS<|tS (sn2 rfl)<|yS<|tS (pT rfl rfl)<|tS (pF rfl rfl)<|Tn ?_
 obtain rfl := o1 hm
 exact jJ ⟨rfl, rfl, lr⟩
 rw [if_neg ai] at hm
 refine yS<|mV rfl<|nO<|nO<|nO<|nO<|yS<|tS (pF rfl rfl)<|tS (pF rfl rfl)<|Tn ?_
 obtain rfl := o1 hm
 exact jJ ⟨rfl, rfl, lr⟩
 rintro aL _ _ ⟨rfl, rfl, n⟩
 have hm := aO
 refine cB hm rfl (fun hm => ?_) fun hm => ?_
 refine Cr<|aS rfl<|aS rfl<|Te<|Ct<|Xr<|Xb<|Xr<|Xr<|Xb<|Xr ?_
 have aP := an _ (Kd hm).symm
 rw [aP] at A
 have hm := V6 A
 obtain ⟨rfl, rfl⟩ := W4 hm
 exact rT ⟨none, 0, [], rfl, rfl, OS.nil⟩ (f.trans (d.trans (m.trans n)))
 refine Ck<|Xn<|Cg<|mV rfl<|mV rfl<|mV rfl ?_
 obtain ⟨bq, be, hm⟩ := bS hm
 obtain ⟨bf, au, av⟩ := iS be
 obtain ⟨bl, bm, br, bs, bn, aQ, bi, aR, aC, bo, bj⟩ := OS.get (sz := 1) rfl (by decide) (al.le (m.trans n)) av
 obtain ⟨⟨bt, bu, rfl, bw⟩, rfl⟩ := aQ
 refine tS (sI bf rfl rfl au aC aR z5d)<|j1c g e t<|z2l [_] t (g ++ (e ++ (i ++ (j ++ (a ++ (c ++ R)))))) rfl ?_
 intro bx B aT
 have bg := OS.frz (l := u) (bb.le n) B.cells aT
 have zy := m.trans (n.trans B)
 refine tD (uP au (sz := 1) (a' := u) rfl [_] (e ++ (i ++ (j ++ (a ++ (c ++ R))))) 0 1 [sv aJ u aK] rfl (al.le zy) av rfl rfl rfl z9P rfl (mc rfl mn) (fun cs hsj hh => by obtain ⟨⟨bz, bA, rfl, bB⟩, rfl⟩ := hh; exact ⟨by first | decide | exact Nat.le_refl _, (RT.list_mk bg), rfl⟩)) ?_
 rintro _ _ ⟨aU, rfl, bh⟩
 refine Tr 6 rfl (v' := .slice K (put p (q : Int) u).length L) (by simp only [w8])<|Tn<|Xm<|Xn<|Cg<|tS (sa rfl rfl (by omega))<|mV rfl<|Tn ?_
 exact jM hm ⟨aU, rfl, rfl, ((d.trans zy)), bh, ((w8 _ _ _).trans am)⟩
 rintro p ak _ _ ⟨g, rfl, rfl, d, al, am⟩ aV
 rw [aV] at A
 have hm := G6 A
 refine Cr<|tS (lF rfl rfl (by omega))<|Te<|Cs<|v8 rfl<|Ce<|Xe<|Xe<|Xo<|Xn<|Cr<|mV rfl<|aS rfl<|aS rfl<|Te<|Ct ?_
 obtain ⟨rfl, rfl⟩ := W4 hm
 exact rT ⟨K, L, g, rfl, rfl, al⟩ (f.trans d)
theorem q2Z (b : v7) (R : Hp) (A V E) (h3 : FZ (RT.list j4) b.w V E A) (aI) (hm : q0G A = some aI):
 w5 Tryz.prog 13 [sv V A E] b (R) (fun v b' hp' => bv aI = v ∧ R = hp') := by
 refine fE 45 Tryz.func13 rfl Tryz.ntmps13 rfl ?_
 unfold q0G at hm
 refine Cr<|aS rfl<|Te<|Cs<|Cr<|mV rfl<|tS (sE rfl z5d)<|mV rfl<|Te<|Cb ?_
 have bd : A.length ≤ 9223372036854775807 := (FZ.bd h3)
 obtain ⟨bn, aK, x⟩ := bS hm
 refine lF (fun B => fun _ => fun L e' hp' => [(0, sv V A E), (11, sv V A E), (12, iv ((A.length : Int))), (13, iv ((B : Int)))] = e' ∧ R = hp' ∧ b.Le L) aK ⟨rfl, rfl, lr⟩ ?_ ?_
 rintro B _ L _ _ be aX ⟨rfl, rfl, c⟩ o W
 unfold q1a at o
 have hm := o
 refine Cr<|tS (lT rfl rfl (by omega))<|Te<|Cs<|w6 rfl<|Ck<|Xn<|Cs<|Cb<|Cr<|mV rfl ?_
 obtain ⟨g, aY, bf, aL, bg, aM, am, aN, an, hm⟩ := bF (sz := 1) hm (h3.le c)
 obtain ⟨C, D, rfl, aJ⟩ := aM
 refine tS (sI aY rfl rfl aL an aN z5d)<|tS (sO rfl q5j (am 0 _ rfl))<|aS rfl<|aS rfl<|Te<|Cr<|mV rfl<|mV rfl ?_
 obtain ⟨p, aZ, hm⟩ := bS hm
 obtain ⟨q, a0, bh, aO, Y, Z, aa⟩ := q4P aZ
 have ab := FZ.sub (sz := 1) rfl (h3.le c) Y Z
 have a1 := (h3.le c).1.1
 rw [← aa] at ab
 refine tS (aa ▸ q8g (l := A) q a0 rfl (.inl ⟨rfl, by omega⟩) (.inr ⟨_, _, _, rfl, rfl, aO⟩) Y Z a1 z5d)<|tS (sE rfl z5d)<|mV rfl<|Te<|Cb ?_
 have bi : p.length ≤ 9223372036854775807 := (FZ.bd ab)
 obtain ⟨bo, aP, y⟩ := bS hm
 refine lF (fun O => fun _ => fun S e' hp' => [(0, sv V A E), (4, sv C g D), (11, sv V A E), (12, iv ((A.length : Int))), (13, iv ((B : Int))), (20, .slice (q9a V E q 1) (p).length (E - q)), (21, iv ((p.length : Int))), (22, iv ((O : Int)))] = e' ∧ R = hp' ∧ L.Le S) aP ⟨rfl, rfl, lr⟩ ?_ ?_
 rintro O _ S _ _ bj a2 ⟨rfl, rfl, d⟩ r X
 unfold q0Z at r
 have hm := r
 refine Cr<|tS (lT rfl rfl (by omega))<|Te<|Cs<|w6 rfl<|Ck<|Xn<|Cs<|Cb<|Cr ?_
 obtain ⟨s, aQ, a3, ao, a4, aq, ac, ar, ad, hm⟩ := bF (sz := 1) hm (ab.le d)
 obtain ⟨F, G, rfl, ae⟩ := aq
 refine tS (sI aQ rfl rfl ao ad ar z5d)<|tS (sO rfl q5j (ac 0 _ rfl))<|aS rfl<|Te<|Cr<|mV rfl<|tS (sE rfl q3C)<|mV rfl<|Te<|Cb ?_
 have a5 : g.length ≤ 9223372036854775807 := (FZ.bd (aJ.le d))
 obtain ⟨bk, au, m⟩ := bS hm
 refine lF (fun H => fun _ => fun z e' hp' => [(0, sv V A E), (4, sv C g D), (6, sv F s G), (11, sv V A E), (12, iv ((A.length : Int))), (13, iv ((B : Int))), (20, .slice (q9a V E q 1) (p).length (E - q)), (21, iv ((p.length : Int))), (22, iv ((O : Int))), (26, sv C g D), (27, iv ((g.length : Int))), (28, iv ((H : Int)))] = e' ∧ R = hp' ∧ S.Le z) au ⟨rfl, rfl, lr⟩ ?_ ?_
 rintro H _ z _ _ a6 aV ⟨rfl, rfl, a⟩ i I
 unfold q0F at i
 have hm := i
 refine Cr<|tS (lT rfl rfl (by omega))<|Te<|Cs<|w6 rfl<|Ck<|Xn<|Cs<|Cb<|Cr ?_
 obtain ⟨e, aR, a7, av, a8, aw, af, T, ag, hm⟩ := bF (sz := 4) hm (aJ.le (d.trans a))
 obtain ⟨_, _, rfl, rfl, ⟨_, _, rfl, rfl, ⟨_, _, rfl, rfl, rfl⟩⟩⟩ := aw
 refine tS (sI aR rfl rfl av ag T q3C)<|tS (sP (vs := [iv e.Kind, iv e.Place, iv e.Position, iv e.At]) 4 rfl K8 T rfl (fun j u hu => af j u hu))<|tD (uA [iv 0, iv 0, iv 0, iv 0] q5F rfl) ?_
 rintro _ _ ⟨ah, rfl, rfl⟩
 refine tD (uN (vs := [_, _, _, _]) 0 4 rfl rfl rfl q9b rfl (mc rfl (mc rfl (mc rfl (mc rfl mn)))) rfl (by simp)) ?_
 rintro _ _ rfl
 refine Te<|Cr<|mV rfl<|tS (sE rfl q3C)<|mV rfl<|Te<|Cb ?_
 have a9 : s.length ≤ 9223372036854775807 := (FZ.bd (ae.le a))
 obtain ⟨bl, ax, n⟩ := bS hm
 refine lF (fun ai => fun _ => fun J e' hp' => [(0, sv V A E), (4, sv C g D), (6, sv F s G), (8, pb ah), (11, sv V A E), (12, iv ((A.length : Int))), (13, iv ((B : Int))), (20, .slice (q9a V E q 1) (p).length (E - q)), (21, iv ((p.length : Int))), (22, iv ((O : Int))), (26, sv C g D), (27, iv ((g.length : Int))), (28, iv ((H : Int))), (32, sv F s G), (33, iv ((s.length : Int))), (34, iv ((ai : Int)))] = e' ∧ (ah, Cl 55 [iv e.Kind, iv e.Place, iv e.Position, iv e.At]) :: R = hp' ∧ z.Le J) ax ⟨rfl, rfl, lr⟩ ?_ ?_
 rintro ai _ J _ _ ba aW ⟨rfl, rfl, f⟩ k K
 unfold q0E at k
 have hm := k
 refine Cr<|tS (lT rfl rfl (by omega))<|Te<|Cs<|w6 rfl<|Ck<|Xn<|Cs<|Cb<|Cr ?_
 obtain ⟨t, aT, bb, ay, bc, az, aj, U, ak, hm⟩ := bF (sz := 4) hm (ae.le (a.trans f))
 obtain ⟨_, _, rfl, rfl, ⟨_, _, rfl, rfl, ⟨_, _, rfl, rfl, rfl⟩⟩⟩ := az
 refine tS (sI aT rfl rfl ay ak U q3C)<|tS (sP (vs := [iv t.Kind, iv t.Place, iv t.Position, iv t.At]) 4 rfl K8 U rfl (fun j u hu => aj j u hu))<|tD (uA [iv 0, iv 0, iv 0, iv 0] q5F rfl) ?_
 rintro _ _ ⟨bm, rfl, rfl⟩
 refine tD (uN (vs := [_, _, _, _]) 0 4 rfl rfl rfl q9b rfl (mc rfl (mc rfl (mc rfl (mc rfl mn)))) rfl (by simp)) ?_
 rintro _ _ rfl
 refine Te<|Cr<|tS (sD (vs := [_, _, _, _]) 1 4 rfl K8 rfl rfl rfl)<|tS (sD (vs := [_, _, _, _]) 0 4 rfl K8 rfl rfl rfl) ?_
 obtain ⟨aU, al, hm⟩ := bS hm
 refine tD (uW _ z6y rfl (fun w ho => q7a _ [] e t aU al) (fun _ _ _ h => h.2.symm)) ?_
 rintro _ _ ⟨⟨_, rfl, _⟩, rfl⟩
 refine Te<|cB hm rfl (fun hm => ?_) fun hm => ?_
 refine Cr<|aS rfl<|Te<|Ct<|Xb<|Xr<|Xr<|Xb<|Xb<|Xr<|Xr<|Xb<|Xb<|Xr<|Xr<|Xb<|Xb<|Xr<|Xr<|Xb<|Xr ?_
 have aA := K _ (Kd hm).symm
 rw [aA] at n
 have hm := V6 n
 have aB := I _ (Kd hm).symm
 rw [aB] at m
 have hm := V6 m
 have aC := X _ (Kd hm).symm
 rw [aC] at y
 have hm := V6 y
 have aD := W _ (Kd hm).symm
 rw [aD] at x
 have hm := V6 x
 obtain rfl := o1 hm
 exact rO ⟨rfl, rfl⟩ (c.trans (d.trans (a.trans f)))
 refine Ck<|Xm<|Xn<|Cg<|tS (sa rfl rfl (by omega))<|mV rfl<|Tn ?_
 exact jM hm ⟨rfl, rfl, (f)⟩
 rintro _ J _ _ ⟨rfl, rfl, f⟩ aE
 rw [aE] at n
 have hm := G6 n
 refine Cr<|tS (lF rfl rfl (by omega))<|Te<|Cs<|v8 rfl<|Ce<|Xe<|Xe<|Xo<|Xm<|Xn<|Cg<|tS (sa rfl rfl (by omega))<|mV rfl<|Tn ?_
 exact jM hm ⟨rfl, rfl, ((a.trans f))⟩
 rintro _ z _ _ ⟨rfl, rfl, a⟩ aF
 rw [aF] at m
 have hm := G6 m
 refine Cr<|tS (lF rfl rfl (by omega))<|Te<|Cs<|v8 rfl<|Ce<|Xe<|Xe<|Xo<|Xm<|Xn<|Cg<|tS (sa rfl rfl (by omega))<|mV rfl<|Tn ?_
 exact jM hm ⟨rfl, rfl, ((d.trans a))⟩
 rintro _ S _ _ ⟨rfl, rfl, d⟩ aG
 rw [aG] at y
 have hm := G6 y
 refine Cr<|tS (lF rfl rfl (by omega))<|Te<|Cs<|v8 rfl<|Ce<|Xe<|Xe<|Xo<|Xm<|Xn<|Cg<|tS (sa rfl rfl (by omega))<|mV rfl<|Tn ?_
 exact jM hm ⟨rfl, rfl, ((c.trans d))⟩
 rintro _ L _ _ ⟨rfl, rfl, c⟩ aH
 rw [aH] at x
 have hm := G6 x
 refine Cr<|tS (lF rfl rfl (by omega))<|Te<|Cs<|v8 rfl<|Ce<|Xe<|Xe<|Xo<|Xn<|Cr<|aS rfl<|Te<|Ct ?_
 obtain rfl := o1 hm
 exact rO ⟨rfl, rfl⟩ c
theorem q4V (b : v7) (R : Hp) (D J K L O S) (X : FZ j4 b.w K L D) (Z : FZ j4 b.w O S J) (q) (hm : q1t D J = some q):
 w5 Tryz.prog 14 [sv K D L, sv O J S] b (R) (fun v b' hp' => bv q = v ∧ R = hp') := by
 refine fE 26 Tryz.func14 rfl Tryz.ntmps14 rfl ?_
 unfold q1t at hm
 refine Cr<|aS rfl<|Te<|Cs<|Cr<|mV rfl<|tS (sE rfl q3C)<|mV rfl<|tS (sE rfl q3C)<|tS (q2 rfl rfl)<|Te<|cI hm rfl (fun hm => ?_) fun hm => ?_
 refine Cr<|aS rfl<|Te<|Ct<|Xr ?_
 obtain rfl := o1 hm
 exact rO ⟨rfl, rfl⟩ lr
 refine Ck<|Xn<|Cs<|Cr<|mV rfl<|tS (sE rfl q3C)<|mV rfl<|Te<|Cb ?_
 have T : D.length ≤ 9223372036854775807 := (FZ.bd X)
 obtain ⟨Y, s, f⟩ := bS hm
 refine lF (fun r => fun _ => fun h e' hp' => [(0, sv K D L), (1, sv O J S), (12, iv ((D.length : Int))), (13, iv ((r : Int)))] = e' ∧ R = hp' ∧ b.Le h) s ⟨rfl, rfl, lr⟩ ?_ ?_
 rintro r _ h _ _ U E ⟨rfl, rfl, d⟩ e g
 unfold q1X at e
 have hm := e
 refine Cr<|tS (lT rfl rfl (by omega))<|Te<|Cs<|w6 rfl<|Ck<|Xn<|Cs<|Cb<|Cr<|mV rfl<|aS rfl<|Te<|Cs ?_
 obtain ⟨a, F, hm⟩ := bS hm
 obtain ⟨c, G, hm⟩ := bS hm
 refine Di mixed (.refl _)<|E0 0 rfl (sM rfl)<|E0 1 rfl (sM rfl) ?_
 obtain ⟨H, t, w⟩ := iS F
 obtain ⟨V, x, l, i, m⟩ := FZ.get (sz := 4) rfl (by decide) (X.le d) w
 obtain ⟨_, _, rfl, rfl, ⟨_, _, rfl, rfl, ⟨_, _, rfl, rfl, rfl⟩⟩⟩ := x
 refine E0 2 rfl (sI H rfl rfl t m i q3C)<|Es 3 rfl (sP (vs := [iv a.Kind, iv a.Place, iv a.Position, iv a.At]) 4 rfl K8 i rfl (fun j u hu => l j u hu))<|E0 4 rfl (sM rfl)<|E0 5 rfl (sM rfl) ?_
 obtain ⟨I, y, z⟩ := iS G
 obtain ⟨W, A, n, k, o⟩ := FZ.get (sz := 4) rfl (by decide) (Z.le d) z
 obtain ⟨_, _, rfl, rfl, ⟨_, _, rfl, rfl, ⟨_, _, rfl, rfl, rfl⟩⟩⟩ := A
 refine E0 6 rfl (sI I rfl rfl y o k q3C)<|Es 7 rfl (sP (vs := [iv c.Kind, iv c.Place, iv c.Position, iv c.At]) 4 rfl K8 k rfl (fun j u hu => n j u hu))<|E0 8 rfl (z9I (xs := [iv a.Kind, iv a.Place, iv a.Position, iv a.At]) (ys := [iv c.Kind, iv c.Place, iv c.Position, iv c.At]) (p := a.Kind = c.Kind ∧ a.Place = c.Place ∧ a.Position = c.Position ∧ a.At = c.At) rfl rfl j3w ⟨⟨_, rfl⟩, ⟨⟨_, rfl⟩, ⟨⟨_, rfl⟩, ⟨⟨_, rfl⟩, trivial⟩⟩⟩⟩ ⟨⟨_, rfl⟩, ⟨⟨_, rfl⟩, ⟨⟨_, rfl⟩, ⟨⟨_, rfl⟩, trivial⟩⟩⟩⟩ (by simp [J4, q2x, Bool.decide_and, z0V]))<|Eo<|Dd (by kernel_rfl)<|Xn ?_
 refine cN hm rfl (fun hm => ?_) fun hm => ?_
 refine Cr<|aS rfl<|Te<|Ct<|Xb<|Xr<|Xr<|Xb<|Xr ?_
 have B := g _ (Kd hm).symm
 rw [B] at f
 have hm := V6 f
 obtain rfl := o1 hm
 exact rO ⟨rfl, rfl⟩ d
 refine Ck<|Xm<|Xn<|Cg<|tS (sa rfl rfl (by omega))<|mV rfl<|Tn ?_
 exact jM hm ⟨rfl, rfl, (d)⟩
 rintro _ h _ _ ⟨rfl, rfl, d⟩ C
 rw [C] at f
 have hm := G6 f
 refine Cr<|tS (lF rfl rfl (by omega))<|Te<|Cs<|v8 rfl<|Ce<|Xe<|Xe<|Xo<|Xn<|Cr<|aS rfl<|Te<|Ct ?_
 obtain rfl := o1 hm
 exact rO ⟨rfl, rfl⟩ d
theorem q7y (b : v7) (R : Hp) (s1 : j1) (bs aT A2 c3 A5 c6 A8 c9 bt bu bw bx) (h4 : FZ RT.str b.w A2 c3 s1.Stations) (h7 : FZ j5 b.w A5 c6 s1.Sections) (dW : FZ w9 b.w A8 c9 s1.Links) (dX : FZ j6 b.w bt bu s1.Signals) (dY : FZ k7 b.w bw bx s1.Gates) (dS) (hm : V5 s1 bs aT = some dS):
 w5 Tryz.prog 3 [.agg #[sv A2 s1.Stations c3, sv A5 s1.Sections c6, sv A8 s1.Links c9, sv bt s1.Signals bu, sv bw s1.Gates bx], iv bs, iv aT] b (R) (fun v b' hp' => bv dS = v ∧ R = hp') := by
 refine fE 164 Tryz.func3 rfl Tryz.ntmps3 rfl ?_
 unfold V5 at hm
 refine Cr<|tD (uB _ rfl rfl) ?_
 rintro _ _ ⟨aR, rfl, rfl⟩
 refine aS rfl<|Te<|Cs<|Cr ?_
 obtain ⟨fd, dl, hm⟩ := bS hm
 refine tD (uW _ j3F rfl (fun w ho => q7f _ [] fd dl) (fun _ _ _ h => h.2.symm)) ?_
 rintro _ _ ⟨⟨_, rfl, _⟩, rfl⟩
 refine tS (sn2 rfl)<|Te<|cM hm rfl (fun hm => ?_) fun hm => ?_
 refine Cr<|aS rfl<|Te<|Ct<|Xr ?_
 obtain rfl := o1 hm
 exact rO ⟨rfl, rfl⟩ lr
 refine Ck<|Xn<|Cr<|tS (sD (vs := [_, _, _, _, _]) 0 5 rfl G7 rfl rfl rfl) ?_
 obtain ⟨⟨fe, aJ⟩, dm, hm⟩ := bS hm
 have hm := V8 hm
 refine Tg _ rfl z8t rfl (q4i _ _ s1 A2 c3 A5 c6 A8 c9 bt bu bw bx h4 h7 dW dX dY fe aJ dm) ?_
 rintro _ ff _ i ⟨bz, bA, d, rfl, rfl, dT, fX⟩
 refine q2z [] [_] d R rfl<|mV rfl<|tS (v6 rfl rfl)<|tS (v6 rfl rfl)<|aS rfl<|aS rfl<|Te<|Cs ?_
 obtain ⟨fg, dZ, d0⟩ := bS hm
 refine Cj (fun cp e' hp' => [(1, iv bs), (2, iv aT), (3, pb aR), (7, sv bz aJ bA), (49, bv fg)] = e' ∧ (aR, Cl 28 [sv A2 s1.Stations c3, sv A5 s1.Sections c6, sv A8 s1.Links c9, sv bt s1.Signals bu, sv bw s1.Gates bx]) :: (d ++ R) = hp' ∧ ff.Le cp) ?_ ?_
 have hm := dZ
 refine Cg<|mV rfl<|Tb rfl (q2 rfl rfl) (fun bD => ?_) (fun bD => ?_)
 rw [if_pos bD] at hm
 refine mV rfl<|nO<|nO<|tS (pT rfl rfl)<|mV rfl<|nO<|nO<|nO<|nO<|tS (pT rfl rfl)<|mV rfl<|nO<|nO<|tS (pT rfl rfl)<|mV rfl<|nO<|nO<|nO<|nO<|tS (pT rfl rfl)<|mV rfl<|nO<|nO<|nO<|tS (pT rfl rfl)<|Tn ?_
 obtain rfl := o1 hm
 exact jJ ⟨rfl, rfl, lr⟩
 rw [if_neg bD] at hm
 refine mV rfl<|yS<|mV rfl<|yS<|Tb rfl (q3 rfl rfl) (fun bE => ?_) (fun bE => ?_)
 rw [if_pos bE] at hm
 refine tS (pF rfl rfl)<|mV rfl<|nO<|nO<|nO<|nO<|tS (pT rfl rfl)<|mV rfl<|nO<|nO<|tS (pT rfl rfl)<|mV rfl<|nO<|nO<|nO<|nO<|tS (pT rfl rfl)<|mV rfl<|nO<|nO<|nO<|tS (pT rfl rfl)<|Tn ?_
 obtain rfl := o1 hm
 exact jJ ⟨rfl, rfl, lr⟩
 rw [if_neg bE] at hm
 refine tS (pF rfl rfl)<|mV rfl<|yS<|mV rfl<|yS<|mV rfl<|yS<|tS (sE rfl z2b)<|yS<|Tb rfl (q6 rfl rfl) (fun bG => ?_) (fun bG => ?_)
 rw [if_pos bG] at hm
 refine tS (pF rfl rfl)<|mV rfl<|nO<|nO<|tS (pT rfl rfl)<|mV rfl<|nO<|nO<|nO<|nO<|tS (pT rfl rfl)<|mV rfl<|nO<|nO<|nO<|tS (pT rfl rfl)<|Tn ?_
 obtain rfl := o1 hm
 exact jJ ⟨rfl, rfl, lr⟩
 rw [if_neg bG] at hm
 refine tS (pF rfl rfl)<|mV rfl<|yS<|mV rfl<|yS<|Tb rfl (q3 rfl rfl) (fun bH => ?_) (fun bH => ?_)
 rw [if_pos bH] at hm
 refine tS (pF rfl rfl)<|mV rfl<|nO<|nO<|nO<|nO<|tS (pT rfl rfl)<|mV rfl<|nO<|nO<|nO<|tS (pT rfl rfl)<|Tn ?_
 obtain rfl := o1 hm
 exact jJ ⟨rfl, rfl, lr⟩
 rw [if_neg bH] at hm
 refine tS (pF rfl rfl)<|mV rfl<|yS<|mV rfl<|yS<|mV rfl<|yS<|tS (sE rfl z2b)<|yS<|Tb rfl (q6 rfl rfl) (fun bI => ?_) (fun bI => ?_)
 rw [if_pos bI] at hm
 refine tS (pF rfl rfl)<|mV rfl<|nO<|nO<|nO<|tS (pT rfl rfl)<|Tn ?_
 obtain rfl := o1 hm
 exact jJ ⟨rfl, rfl, lr⟩
 rw [if_neg bI] at hm
 refine tS (pF rfl rfl)<|mV rfl<|yS<|mV rfl<|yS<|mV rfl<|yS<|tS (q1 rfl rfl)<|tS (pF rfl rfl)<|Tn ?_
 obtain rfl := o1 hm
 exact jJ ⟨rfl, rfl, lr⟩
 rintro cp _ _ ⟨rfl, rfl, f⟩
 have hm := d0
 refine cB hm rfl (fun hm => ?_) fun hm => ?_
 refine Cr<|aS rfl<|Te<|Ct<|Xr ?_
 obtain rfl := o1 hm
 exact rO ⟨rfl, rfl⟩ (i.trans f)
 refine Ck<|Xn<|Cs ?_
 obtain ⟨⟨fh, fi, dU, fj, fk, dV⟩, d1, d5⟩ := bS hm
 refine Cj (fun bB e' hp' => ∃ cq cr cs ct cu cv, [(1, iv bs), (2, iv aT), (3, pb aR), (7, sv bz aJ bA), (9, pb cq), (10, pb cr)] = e' ∧ (aR, Cl 28 [sv A2 s1.Stations c3, sv A5 s1.Sections c6, sv A8 s1.Links c9, sv bt s1.Signals bu, sv bw s1.Gates bx]) :: (cq, Cl 36 [iv fh, iv fi, sv cs dU ct]) :: (cr, Cl 36 [iv fj, iv fk, sv cu dV cv]) :: (d ++ R) = hp' ∧ cp.Le bB ∧ FZ Z3 bB.w cs ct dU ∧ FZ Z3 bB.w cu cv dV) ?_ ?_
 have hm := d1
 obtain ⟨cw, fl, hm⟩ := bS hm
 obtain ⟨bJ, d6, hm⟩ := bS hm
 refine Di mixed (.refl _)<|E0 0 rfl (sM rfl)<|E0 1 rfl (sM rfl) ?_
 obtain ⟨d7, dn, dp⟩ := iS fl
 obtain ⟨fp, fq, fG, fH, fr, dq, cx, cc, cy, fs, fm⟩ := OS.get (sz := 3) rfl (by decide) (dT.le f) dp
 obtain ⟨⟨_, _, rfl, rfl, ⟨_, _, rfl, rfl, ⟨bK, bL, rfl, cz⟩⟩⟩, rfl⟩ := dq
 refine E0 2 rfl (sI d7 rfl rfl dn cy cc z2b)<|Es 3 rfl (Z6 (vs := [iv cw.From, iv cw.To, sv bK cw.Steps bL]) 3 rfl z0Y cc rfl (fun w ho j u hu => cx w _ ho (.cons _ (Kb _ _)) j u hu))<|E0 4 rfl (sM rfl)<|E0 5 rfl (sM rfl) ?_
 obtain ⟨d8, dr, ds⟩ := iS d6
 obtain ⟨ft, fu, fI, fJ, fv, dt, cA, cd, cC, fw, fn⟩ := OS.get (sz := 3) rfl (by decide) (dT.le f) ds
 obtain ⟨⟨_, _, rfl, rfl, ⟨_, _, rfl, rfl, ⟨bM, bN, rfl, cD⟩⟩⟩, rfl⟩ := dt
 refine E0 6 rfl (sI d8 rfl rfl dr cC cd z2b)<|Es 7 rfl (Z6 (vs := [iv bJ.From, iv bJ.To, sv bM bJ.Steps bN]) 3 rfl z0Y cd rfl (fun w ho j u hu => cA w _ ho (.cons _ (Kb _ _)) j u hu))<|Eo<|Da [8, 9] (by kernel_rfl) rfl<|Rd2 lr rfl rfl (uA [iv 0, iv 0, sn] q9v rfl) ?_ ?_
 rintro _ _ ⟨bO, rfl, rfl⟩
 refine iR<|Da [9] (by kernel_rfl) rfl<|Rd2 lr rfl rfl (uA [iv 0, iv 0, sn] q9v rfl) ?_ ?_
 rintro _ _ ⟨bP, rfl, rfl⟩
 refine iR<|Da [10] (by kernel_rfl) rfl<|Rd2 lr rfl rfl (uN (vs := [_, _, _]) 1 3 rfl rfl rfl z4y rfl (mc rfl (mc rfl (mc rfl mn))) rfl (by simp)) ?_ ?_
 rintro _ _ rfl
 refine iR<|Da [11] (by kernel_rfl) rfl<|Rd2 lr rfl rfl (uN (vs := [_, _, _]) 0 3 rfl rfl rfl z4y rfl (mc rfl (mc rfl (mc rfl mn))) rfl (by simp)) ?_ ?_
 rintro _ _ rfl
 refine ⟨.inl (by kernel_rfl), ?_⟩
 refine Dd (by kernel_rfl) ?_
 obtain ⟨rfl, rfl, rfl, rfl, rfl, rfl⟩ := z4v hm
 exact jJ ⟨bO, bP, bK, bL, bM, bN, rfl, rfl, lr, cz, cD⟩
 exact Rn
 exact Rn
 exact Rn
 refine Rd2 lr rfl rfl (uA [iv 0, iv 0, sn] q9v rfl) ?_ ?_
 rintro _ _ ⟨bP, rfl, rfl⟩
 refine iR<|Da [8] (by kernel_rfl) rfl<|Rd2 lr rfl rfl (uA [iv 0, iv 0, sn] q9v rfl) ?_ ?_
 rintro _ _ ⟨bO, rfl, rfl⟩
 refine iR<|Da [10] (by kernel_rfl) rfl<|Rd2 lr rfl rfl (uN (vs := [_, _, _]) 0 3 rfl rfl rfl z4y rfl (mc rfl (mc rfl (mc rfl mn))) rfl (by simp)) ?_ ?_
 rintro _ _ rfl
 refine iR<|Da [11] (by kernel_rfl) rfl<|Rd2 lr rfl rfl (uN (vs := [_, _, _]) 1 3 rfl rfl rfl z4y rfl (mc rfl (mc rfl (mc rfl mn))) rfl (by simp)) ?_ ?_
 rintro _ _ rfl
 refine ⟨.inl (by kernel_rfl), ?_⟩
 refine Dd (by kernel_rfl) ?_
 obtain ⟨rfl, rfl, rfl, rfl, rfl, rfl⟩ := z4v hm
 exact jJ ⟨bO, bP, bK, bL, bM, bN, rfl, rfl, lr, cz, cD⟩
 exact Rn
 exact Rn
 exact Rn
 exact Rn
 rintro bB _ _ ⟨cq, cr, cs, ct, cu, cv, rfl, rfl, q, fY, fZ⟩
 have hm := j0Y d5
 obtain ⟨d9, du, dv⟩ := bS hm
 refine Cj (fun cE e' hp' => [(1, iv bs), (2, iv aT), (3, pb aR), (7, sv bz aJ bA), (79, bv d9)] = e' ∧ (aR, Cl 28 [sv A2 s1.Stations c3, sv A5 s1.Sections c6, sv A8 s1.Links c9, sv bt s1.Signals bu, sv bw s1.Gates bx]) :: (d ++ R) = hp' ∧ bB.Le cE) ?_ ?_
 have hm := du
 refine Cg<|tS (sF rfl q2V)<|tS (sL 1 rfl Q3 rfl rfl)<|Tb rfl (q6 rfl rfl) (fun aU => ?_) (fun aU => ?_)
 rw [if_pos aU] at hm
 refine mV rfl<|yS<|tS (sF rfl q2V)<|yS<|tS (sL 1 rfl Q3 rfl rfl)<|yS<|tS (sF rfl q4M)<|yS<|tS (sL 2 rfl Q3 rfl rfl)<|yS<|Tb rfl (q1 rfl rfl) (fun aV => ?_) (fun aV => ?_)
 rw [if_pos aV] at hm
 refine tS (pT rfl rfl)<|mV rfl<|nO<|nO<|nO<|nO<|nO<|nO<|nO<|nO<|nO<|nO<|tS (pT rfl rfl)<|Tn ?_
 obtain rfl := o1 hm
 exact jJ ⟨rfl, rfl, lr⟩
 rw [if_neg aV] at hm
 refine tS (pT rfl rfl)<|mV rfl<|yS<|tS (sF rfl q2V)<|yS<|tS (sL 2 rfl Q3 rfl rfl)<|yS<|Tb rfl (q6 rfl rfl) (fun aW => ?_) (fun aW => ?_)
 rw [if_pos aW] at hm
 refine yS<|mV rfl<|yS<|tS (sF rfl q2V)<|yS<|tS (sL 2 rfl Q3 rfl rfl)<|yS<|tS (sF rfl q4M)<|yS<|tS (sL 1 rfl Q3 rfl rfl)<|yS<|tS (q1 rfl rfl)<|yS<|tS (pT rfl rfl)<|tS (pF rfl rfl)<|Tn ?_
 obtain rfl := o1 hm
 exact jJ ⟨rfl, rfl, lr⟩
 rw [if_neg aW] at hm
 refine yS<|mV rfl<|nO<|nO<|nO<|nO<|nO<|yS<|tS (pF rfl rfl)<|tS (pF rfl rfl)<|Tn ?_
 obtain rfl := o1 hm
 exact jJ ⟨rfl, rfl, lr⟩
 rw [if_neg aU] at hm
 refine mV rfl<|nO<|nO<|nO<|nO<|nO<|tS (pF rfl rfl)<|mV rfl<|yS<|tS (sF rfl q2V)<|yS<|tS (sL 2 rfl Q3 rfl rfl)<|yS<|Tb rfl (q6 rfl rfl) (fun aX => ?_) (fun aX => ?_)
 rw [if_pos aX] at hm
 refine yS<|mV rfl<|yS<|tS (sF rfl q2V)<|yS<|tS (sL 2 rfl Q3 rfl rfl)<|yS<|tS (sF rfl q4M)<|yS<|tS (sL 1 rfl Q3 rfl rfl)<|yS<|tS (q1 rfl rfl)<|yS<|tS (pT rfl rfl)<|tS (pF rfl rfl)<|Tn ?_
 obtain rfl := o1 hm
 exact jJ ⟨rfl, rfl, lr⟩
 rw [if_neg aX] at hm
 refine yS<|mV rfl<|nO<|nO<|nO<|nO<|nO<|yS<|tS (pF rfl rfl)<|tS (pF rfl rfl)<|Tn ?_
 obtain rfl := o1 hm
 exact jJ ⟨rfl, rfl, lr⟩
 rintro cE _ _ ⟨rfl, rfl, e⟩
 have hm := dv
 refine cB hm rfl (fun hm => ?_) fun hm => ?_
 refine Cr<|aS rfl<|Te<|Ct<|Xr ?_
 obtain rfl := o1 hm
 exact rO ⟨rfl, rfl⟩ (i.trans (f.trans (q.trans e)))
 refine Ck<|Xn<|Cr<|tS (sD (vs := [_, _, _, _, _]) 0 5 rfl G7 rfl rfl rfl) ?_
 obtain ⟨⟨ea, aY⟩, cG, hm⟩ := bS hm
 have hm := V8 hm
 have zz := i.trans (f.trans (q.trans e))
 refine Tg _ rfl j3E rfl (z4Z _ _ s1 A2 c3 A5 c6 A8 c9 bt bu bw bx (h4.le zz) (h7.le zz) (dW.le zz) (dX.le zz) (dY.le zz) ea aY cG) ?_
 rintro _ fK _ s ⟨cH, cJ, ce, rfl, rfl, eb⟩
 refine q2z [] [_] ce (d ++ R) rfl<|mV rfl<|tS (v6 rfl rfl)<|tS (v6 rfl rfl)<|z2l [_] ce (d ++ R) rfl ?_
 intro fL r dw
 have aZ := OS.frz (l := aY) eb r.cells dw
 refine aS rfl<|aS rfl<|Te<|Cr<|tS (sD (vs := [_, _, _, _, _]) 0 5 rfl G7 rfl rfl rfl) ?_
 obtain ⟨⟨x, y, z, A, B, C, D, cK, cO, cP, cQ⟩, cR, hm⟩ := bS hm
 have hm := j0Z hm
 have zy := i.trans (f.trans (q.trans (e.trans (s.trans r))))
 refine Tg _ rfl j3D rfl (z8w _ _ s1 A2 c3 A5 c6 A8 c9 bt bu bw bx (h4.le zy) (h7.le zy) (dW.le zy) (dX.le zy) (dY.le zy) x y z A B C D cK cO cP cQ cR) ?_
 rintro _ ec _ I ⟨ads, aq, J, K, L, O, S, T, U, V, W, X, Y, Z, aa, ab, au, av, E, aw, ax, F, t, G, H, rfl, rfl, a0, a1, a2, a3, a4, a5, a6, a7, a8, a9, ba⟩
 refine q8Z [_] [_] E F G H (d ++ R) rfl<|mV rfl<|tS (v6 rfl rfl)<|tS (v6 rfl rfl)<|aS rfl<|aS rfl<|Te<|Cs ?_
 obtain ⟨⟨ed, bQ, bR, ee, ef⟩, dx, dy⟩ := bS hm
 refine Cj (fun ay e' hp' => ∃ (ads : Int → Nat), ∃ bb bc ag bd be ah ai aj, [(1, iv bs), (2, iv aT), (7, sv bz aJ bA), (11, sv cH aY cJ), (12, pb aq), (108, bv ed)] = e' ∧ (aq, Cl 78 [sv J x K, sv L y O, sv S z T, sv U A V, sv W B X, sv Y C Z, sv aa D ab, sv bb bQ bc, sv bd bR be, .map (some t)]) :: (d ++ (ag ++ (ah ++ (ai ++ (aj ++ R))))) = hp' ∧ ec.Le ay ∧ OS 80 (OT.fr Q5) ay.w (sv bb bQ bc) bQ ag ∧ OS 94 (OT.fr Q4) ay.w (sv bd bR be) bR ah ∧ OM rI (OT.fr (RT.key ads)) false false ay.w t ee ai ∧ OAr 90 j9 ads ay.w ef aj) ?_ ?_
 have hm := dx
 refine Cg<|mV rfl<|Tb rfl (q2 rfl rfl) (fun bf => ?_) (fun bf => ?_)
 rw [if_pos bf] at hm
 refine mV rfl<|nO<|nO<|tS (pT rfl rfl)<|mV rfl<|nO<|nO<|nO<|nO<|nO<|tS (pT rfl rfl)<|mV rfl<|nO<|nO<|nO<|nO<|tS (pT rfl rfl)<|Tn ?_
 obtain ⟨rfl, rfl, rfl, rfl, rfl⟩ := q5R hm
 exact jJ ⟨ads, au, av, E, aw, ax, F, G, H, rfl, rfl, lr, a7, a8, a9, ba⟩
 rw [if_neg bf] at hm
 refine mV rfl<|yS<|mV rfl<|yS<|Tb rfl (q2 rfl rfl) (fun bg => ?_) (fun bg => ?_)
 rw [if_pos bg] at hm
 refine tS (pF rfl rfl)<|mV rfl<|nO<|nO<|nO<|nO<|nO<|tS (pT rfl rfl)<|mV rfl<|nO<|nO<|nO<|nO<|tS (pT rfl rfl)<|Tn ?_
 obtain ⟨rfl, rfl, rfl, rfl, rfl⟩ := q5R hm
 exact jJ ⟨ads, au, av, E, aw, ax, F, G, H, rfl, rfl, lr, a7, a8, a9, ba⟩
 rw [if_neg bg] at hm
 refine tS (pF rfl rfl)<|mV rfl<|yS<|mV rfl<|yS<|tS (sE rfl z4x)<|yS<|mV rfl<|yS<|tS (sE rfl z2b)<|yS<|Tb rfl (q2 rfl rfl) (fun bh => ?_) (fun bh => ?_)
 rw [if_pos bh] at hm
 refine tS (pF rfl rfl)<|mV rfl<|nO<|nO<|nO<|nO<|tS (pT rfl rfl)<|Tn ?_
 obtain ⟨rfl, rfl, rfl, rfl, rfl⟩ := q5R hm
 exact jJ ⟨ads, au, av, E, aw, ax, F, G, H, rfl, rfl, lr, a7, a8, a9, ba⟩
 rw [if_neg bh] at hm
 refine tS (pF rfl rfl)<|mV rfl<|yS<|mV rfl<|yS<|mV rfl<|yS ?_
 obtain ⟨⟨eg, bT, bU, eh, ei⟩, cT, hm⟩ := bS hm
 have hm := z4o hm
 refine q8X E F G H<|q8X H E F G<|q8X G H E F<|q8X F G H E<|q2M [_] [_] E F G H (d ++ R) rfl<|Tg _ rfl j1Y rfl (q7o _ _ bs false x y z A B C D cK cO cP cQ ads aq J K L O S T U V W X Y Z aa ab au av E aw ax F t G H a0 a1 a2 a3 a4 a5 a6 a7 a8 a9 ba eg bT bU eh ei cT) ?_
 rintro _ fM _ cU ⟨ads, cf, cg, ch, ci, rfl, rfl, ej, ek, el, em, en, eo⟩
 refine q8Z [_] [_] cf cg ch ci (d ++ R) rfl<|P9 0 rfl (o' := Cl 78 [sv J x K, sv L y O, sv S z T, sv U A V, sv W B X, sv Y C Z, sv aa D ab, sv au bT av, sv aw bU ax, .map (some t)]) (by simp only [sv, ek])<|P9 0 rfl (o' := Cl 78 [sv J x K, sv L y O, sv S z T, sv U A V, sv W B X, sv Y C Z, sv aa D ab, sv au bT av, sv aw bU ax, .map (some t)]) (by simp only [sv, em])<|yS<|tS (q2 rfl rfl)<|tS (pF rfl rfl)<|Tn ?_
 obtain ⟨rfl, rfl, rfl, rfl, rfl⟩ := q5R hm
 exact jJ ⟨ads, au, av, cf, aw, ax, cg, ch, ci, rfl, rfl, cU, ej, el, en, eo⟩
 rintro ay _ _ ⟨ads, bb, bc, ag, bd, be, ah, ai, aj, rfl, rfl, c, ep, eq, er, es⟩
 have hm := z4o dy
 refine cB hm rfl (fun hm => ?_) fun hm => ?_
 refine Cr<|aS rfl<|Te<|Ct<|Xr ?_
 obtain rfl := o1 hm
 exact rO ⟨rfl, rfl⟩ (i.trans (f.trans (q.trans (e.trans (s.trans (r.trans (I.trans c)))))))
 refine Ck<|Xn<|Cs<|Cr<|mV rfl<|Te<|Cb<|H5 d ag ah ai aj<|H5 aj d ag ah ai<|H5 ai aj d ag ah<|H5 ah ai aj d ag<|H5 ag ah ai aj d ?_
 obtain ⟨⟨az, aA, aK, aL⟩, dz, dA⟩ := bS hm
 refine lS (fun cV => z7k fun az aA aK aL => fun aB e' hp' => ∃ ac ad k ae af m n p, [(1, iv bs), (2, iv aT), (7, sv bz aJ bA), (11, sv cH aY cJ), (12, pb aq), (109, iv ((cV : Int)))] = e' ∧ (aq, Cl 78 [sv J x K, sv L y O, sv S z T, sv U A V, sv W B X, sv Y C Z, sv aa D ab, sv ac az ad, sv ae aA af, .map (some t)]) :: (d ++ (k ++ (m ++ (n ++ (p ++ R))))) = hp' ∧ ay.Le aB ∧ OS 80 (OT.fr Q5) aB.w (sv ac az ad) az k ∧ OS 94 (OT.fr Q4) aB.w (sv ae aA af) aA m ∧ OM rI (OT.fr (RT.key ads)) false false aB.w t aK n ∧ OAr 90 j9 ads aB.w aL p) dz ⟨bb, bc, ag, bd, be, ah, ai, aj, rfl, rfl, lr, ep, eq, er, es⟩ ?_ ?_
 rintro cV ⟨az, aA, aK, aL⟩ aB _ _ fx fc ⟨ac, ad, k, ae, af, m, n, p, rfl, rfl, a, bV, bW, bX, bY⟩ aH
 unfold H9 at aH
 have hm := z5q aH
 refine Cr<|tS (lT rfl rfl (by omega))<|Te<|Cs<|w6 rfl<|Ck<|Xn<|Cs<|Cb<|Cg<|mV rfl ?_
 obtain ⟨⟨bZ, b0, et, eu⟩, cW, hm⟩ := bS hm
 have hm := z5q hm
 have zx := c.trans a
 refine q0X d k m n p<|q0X p d k m n<|q0X n p d k m<|q0X m n p d k<|q2M [_] [] k m n p (d ++ R) rfl<|Tg _ rfl j2D rfl (q9q _ _ x y z A B C D az aA aK aL ads aq J K L O S T U V W X Y Z aa ab ac ad k ae af m t n p (a0.le zx) (a1.le zx) (a2.le zx) (a3.le zx) (a4.le zx) (a5.le zx) (a6.le zx) bV bW bX bY bZ b0 et eu cW) ?_
 rintro _ fN _ cX ⟨cj, ck, cl, cm, rfl, rfl, ev, ew, ex, ey, ez, eA⟩
 refine q8Z [_] [] cj ck cl cm (d ++ R) rfl<|P9 0 rfl (o' := Cl 78 [sv J x K, sv L y O, sv S z T, sv U A V, sv W B X, sv Y C Z, sv aa D ab, sv ac bZ ad, sv ae b0 af, .map (some t)]) (by simp only [sv, ew])<|P9 0 rfl (o' := Cl 78 [sv J x K, sv L y O, sv S z T, sv U A V, sv W B X, sv Y C Z, sv aa D ab, sv ac bZ ad, sv ae b0 af, .map (some t)]) (by simp only [sv, ey])<|Tn<|Xm<|Xn<|Cg<|tS (sa rfl rfl (by omega))<|mV rfl<|Tn ?_
 obtain rfl := o1 hm
 exact jS ⟨ac, ad, cj, ae, af, ck, cl, cm, rfl, rfl, ((a.trans cX)), ev, ex, ez, eA⟩
 rintro aB _ _ ⟨ac, ad, k, ae, af, m, n, p, rfl, rfl, a, bV, bW, bX, bY⟩
 have hm := z5q dA
 refine Cr<|tS (lF rfl rfl (by omega))<|Te<|Cs<|v8 rfl<|Ce<|Xe<|Xe<|Xo<|Xn<|Cr<|mV rfl<|mV rfl ?_
 obtain ⟨⟨eB, bi, bj, cY, cZ⟩, c0, hm⟩ := bS hm
 have hm := z4o hm
 have zw := c.trans a
 refine q0X d k m n p<|q0X p d k m n<|q0X n p d k m<|q0X m n p d k<|q2M [_] [] k m n p (d ++ R) rfl<|Tg _ rfl j1Y rfl (q7o _ _ aT false x y z A B C D az aA aK aL ads aq J K L O S T U V W X Y Z aa ab ac ad k ae af m t n p (a0.le zw) (a1.le zw) (a2.le zw) (a3.le zw) (a4.le zw) (a5.le zw) (a6.le zw) bV bW bX bY eB bi bj cY cZ c0) ?_
 rintro _ fO _ g ⟨ads, al, am, an, ak, rfl, rfl, eC, eD, eE, eG, eH, eI⟩
 refine q8Z [_] [] al am an ak (d ++ R) rfl<|P9 0 rfl (o' := Cl 78 [sv J x K, sv L y O, sv S z T, sv U A V, sv W B X, sv Y C Z, sv aa D ab, sv ac bi ad, sv ae bj af, .map (some t)]) (by simp only [sv, eD])<|P9 0 rfl (o' := Cl 78 [sv J x K, sv L y O, sv S z T, sv U A V, sv W B X, sv Y C Z, sv aa D ab, sv ac bi ad, sv ae bj af, .map (some t)]) (by simp only [sv, eG])<|aS rfl<|Te<|Cs<|Cr<|mV rfl<|mV rfl ?_
 have zv := I.trans (c.trans (a.trans g))
 obtain ⟨eJ, eK, fy, dB, fz, dC, c1, cn, c2, hm⟩ := bF (sz := 2) hm (aZ.le zv)
 obtain ⟨_, _, rfl, ⟨fP, fQ, rfl, fR⟩, ⟨eL, eM, rfl, eO⟩⟩ := dC
 refine tS (sI eK rfl rfl dB c2 cn z4x)<|tS (sQ rfl cn z2P)<|tS (sO rfl j1v (c1 1 _ rfl))<|mV rfl ?_
 obtain ⟨eP, c4, hm⟩ := bS hm
 refine tD (uW _ z9i rfl (fun w ho => q3O _ [] eJ.Clashes aT eL eM (eO.old ho) eP c4) (fun _ _ _ h => h.2.symm)) ?_
 rintro _ _ ⟨⟨_, rfl, _⟩, rfl⟩
 refine Te<|cB hm rfl (fun hm => ?_) fun hm => ?_
 refine Cr<|mV rfl<|tS (q1 rfl rfl)<|aS rfl<|Te<|Ct<|Xr ?_
 obtain rfl := o1 hm
 exact rO ⟨rfl, rfl⟩ (i.trans (f.trans (q.trans (e.trans (s.trans (r.trans zv))))))
 refine Ck<|Xn<|Cs<|Cr<|mV rfl<|tS (q2 rfl rfl)<|Te<|cI hm rfl (fun hm => ?_) fun hm => ?_
 refine Cr<|aS rfl<|Te<|Ct<|Xr ?_
 obtain rfl := o1 hm
 exact rO ⟨rfl, rfl⟩ (i.trans (f.trans (q.trans (e.trans (s.trans (r.trans (I.trans (c.trans (a.trans g)))))))))
 refine Ck<|Xn<|Cr<|mV rfl<|mV rfl<|tS (sE rfl z2b) ?_
 obtain ⟨⟨c5, aC⟩, c7, hm⟩ := bS hm
 have hm := V8 hm
 have zu := c.trans (a.trans g)
 refine q1n al am an ak<|q1n ak al am an<|q1n an ak al am<|q1n am an ak al<|q2M [_] [] al am an ak (d ++ R) rfl<|Tg _ rfl j2C rfl (q9s _ _ (aJ.length : Int) x y z A B C D bi bj cY cZ ads aq J K L O S T U V W X Y Z aa ab ac ad al ae af am t an ak (a0.le zu) (a1.le zu) (a2.le zu) (a3.le zu) (a4.le zu) (a5.le zu) (a6.le zu) eC eE eH eI c5 aC c7) ?_
 rintro _ eQ _ aD ⟨b1, b2, aI, rfl, rfl, aG⟩
 refine z2k [_] [] aI al am an ak (d ++ R) rfl<|mV rfl<|tS (v6 rfl rfl)<|tS (v6 rfl rfl)<|aS rfl<|aS rfl<|Te ?_
 obtain ⟨eR, dD, dE⟩ := bS hm
 refine Cj (fun c8 e' hp' => [(6, bv eR)] = e' ∧ (ak ++ R) = hp' ∧ eQ.Le c8) ?_ ?_
 have hm := dD
 rcases Kg c5 with ao | ao
 rw [if_pos ao] at hm
 obtain ⟨bk, aM, hm⟩ := bS hm
 rcases Kg bk with ar | ar
 rw [if_pos ar] at hm
 obtain ⟨da, db, hm⟩ := bS hm
 obtain ⟨dc, dd, hm⟩ := bS hm
 obtain ⟨b3, bC, hm⟩ := bS hm
 rcases Kg b3 with aE | aE
 rw [if_pos aE] at hm
 obtain ⟨eS, eU, hm⟩ := bS hm
 obtain ⟨eV, eW, hm⟩ := bS hm
 obtain ⟨eX, de, hm⟩ := bS hm
 refine Di mixed (.refl _)<|E0 0 rfl (stB (sM rfl) ao)<|E0 1 rfl (sM rfl)<|Yz 2 136 rfl (sM rfl)<|Eo<|Da [3] (by kernel_rfl) rfl<|q3c lr rfl rfl 136 rfl rfl rfl (uW _ z6E rfl (fun w ho => q2Z _ [] aC b1 b2 (OS.now (o := (OT.fr (RT.list j4))) (l := aC) (hs := aI) aG ho (.cons _ (Kb _ _))) bk aM) (fun _ _ _ h => h.2.symm)) ?_ ?_
 rintro _ _ ⟨⟨_, rfl, _⟩, rfl⟩
 refine iR<|q1J 138 rfl (v' := .bool true) (by rw [ar])<|Ei lr (.refl _)<|E0 4 rfl (pT rfl rfl)<|E0 5 rfl (sM rfl)<|Yz 6 140 rfl (sM rfl)<|Yz 7 140 rfl (sM rfl) ?_
 obtain ⟨b4, bl, bm⟩ := iS db
 obtain ⟨dF, dH, eY, e0, dI, bn, aN, bo, aO, dJ, df⟩ := OS.get (sz := 1) rfl (by decide) aG bm
 obtain ⟨⟨b5, b6, rfl, b7⟩, rfl⟩ := bn
 refine Yz 8 140 rfl (sI b4 rfl rfl bl aO bo z5d)<|Ey 9 140 rfl (k9 rfl q5j (fun w ho => aN w _ ho (.cons _ (Kb _ _)) 0 _ rfl))<|Yz 10 140 rfl (sM rfl)<|Yz 11 140 rfl (sM rfl) ?_
 obtain ⟨b8, bp, bq⟩ := iS dd
 have zt := I.trans (c.trans (a.trans (g.trans aD)))
 obtain ⟨dK, br, aP, aF, aQ⟩ := FZ.get (sz := 2) rfl (by decide) (aZ.le zt) bq
 obtain ⟨_, _, rfl, ⟨b9, ca, rfl, cb⟩, ⟨e1, e2, rfl, e3⟩⟩ := br
 refine Yz 12 140 rfl (sI b8 rfl rfl bp aQ aF z4x)<|Yz 13 140 rfl (sQ rfl aF q6T)<|Ey 14 140 rfl (sO rfl q5j (aP 0 _ rfl))<|Eo<|Da [15] (by kernel_rfl) rfl<|q3c lr rfl rfl 140 rfl rfl rfl (uW _ z6C rfl (fun w ho => q4V _ [] da dc.Needs b5 b6 b9 ca (b7.old ho) (cb.old ho) b3 bC) (fun _ _ _ h => h.2.symm)) ?_ ?_
 rintro _ _ ⟨⟨_, rfl, _⟩, rfl⟩
 refine iR<|q1J 150 rfl (v' := .bool true) (by rw [aE])<|Ei lr (.refl _)<|E0 16 rfl (pT rfl rfl)<|E0 17 rfl (sM rfl)<|Yz 18 152 rfl (sM rfl)<|Yz 19 152 rfl (sM rfl) ?_
 obtain ⟨e4, dL, dM⟩ := iS eU
 obtain ⟨fA, fB, fS, fT, fC, dN, dg, dO, dh, fD, fo⟩ := OS.get (sz := 1) rfl (by decide) aG dM
 obtain ⟨⟨e5, e6, rfl, e7⟩, rfl⟩ := dN
 refine Yz 20 152 rfl (sI e4 rfl rfl dL dh dO z5d)<|Ey 21 152 rfl (k9 rfl q5j (fun w ho => dg w _ ho (.cons _ (Kb _ _)) 0 _ rfl))<|Yz 22 152 rfl (sM rfl)<|Yz 23 152 rfl (sM rfl) ?_
 obtain ⟨e8, dP, dQ⟩ := iS eW
 obtain ⟨fF, dR, di, co, dj⟩ := FZ.get (sz := 2) rfl (by decide) (aZ.le zt) dQ
 obtain ⟨_, _, rfl, ⟨e9, fa, rfl, fb⟩, ⟨fU, fV, rfl, fW⟩⟩ := dR
 refine Yz 24 152 rfl (sI e8 rfl rfl dP dj co z4x)<|Yz 25 152 rfl (sQ rfl co q6T)<|Ey 26 152 rfl (sO rfl q5j (di 0 _ rfl))<|Eo<|Da [27] (by kernel_rfl) rfl<|q3c lr rfl rfl 152 rfl rfl rfl (uW _ z6C rfl (fun w ho => q4V _ [] eS eV.Needs e5 e6 e9 fa (e7.old ho) (fb.old ho) eX de) (fun _ _ _ h => h.2.symm)) ?_ ?_
 rintro _ _ ⟨⟨_, rfl, _⟩, rfl⟩
 refine iR<|Ei lr (.refl _)<|E0 28 rfl (pT rfl rfl)<|E0 29 rfl (sA rfl)<|Eo<|Dd (by kernel_rfl) ?_
 obtain rfl := o1 hm
 exact jJ ⟨rfl, rfl, lr⟩
 exact Rn
 exact Rn
 exact Rn
 rw [if_neg (fun hh => Bool.noConfusion (hh.symm.trans aE))] at hm
 refine Di mixed (.refl _)<|E0 0 rfl (stB (sM rfl) ao)<|E0 1 rfl (sM rfl)<|Yz 2 136 rfl (sM rfl)<|Eo<|Da [3] (by kernel_rfl) rfl<|q3c lr rfl rfl 136 rfl rfl rfl (uW _ z6E rfl (fun w ho => q2Z _ [] aC b1 b2 (OS.now (o := (OT.fr (RT.list j4))) (l := aC) (hs := aI) aG ho (.cons _ (Kb _ _))) bk aM) (fun _ _ _ h => h.2.symm)) ?_ ?_
 rintro _ _ ⟨⟨_, rfl, _⟩, rfl⟩
 refine iR<|q1J 138 rfl (v' := .bool true) (by rw [ar])<|Ei lr (.refl _)<|E0 4 rfl (pT rfl rfl)<|E0 5 rfl (sM rfl)<|Yz 6 140 rfl (sM rfl)<|Yz 7 140 rfl (sM rfl) ?_
 obtain ⟨b4, bl, bm⟩ := iS db
 obtain ⟨dF, dH, eY, e0, dI, bn, aN, bo, aO, dJ, df⟩ := OS.get (sz := 1) rfl (by decide) aG bm
 obtain ⟨⟨b5, b6, rfl, b7⟩, rfl⟩ := bn
 refine Yz 8 140 rfl (sI b4 rfl rfl bl aO bo z5d)<|Ey 9 140 rfl (k9 rfl q5j (fun w ho => aN w _ ho (.cons _ (Kb _ _)) 0 _ rfl))<|Yz 10 140 rfl (sM rfl)<|Yz 11 140 rfl (sM rfl) ?_
 obtain ⟨b8, bp, bq⟩ := iS dd
 obtain ⟨dK, br, aP, aF, aQ⟩ := FZ.get (sz := 2) rfl (by decide) (aZ.le (I.trans (c.trans (a.trans (g.trans aD))))) bq
 obtain ⟨_, _, rfl, ⟨b9, ca, rfl, cb⟩, ⟨e1, e2, rfl, e3⟩⟩ := br
 refine Yz 12 140 rfl (sI b8 rfl rfl bp aQ aF z4x)<|Yz 13 140 rfl (sQ rfl aF q6T)<|Ey 14 140 rfl (sO rfl q5j (aP 0 _ rfl))<|Eo<|Da [15] (by kernel_rfl) rfl<|q3c lr rfl rfl 140 rfl rfl rfl (uW _ z6C rfl (fun w ho => q4V _ [] da dc.Needs b5 b6 b9 ca (b7.old ho) (cb.old ho) b3 bC) (fun _ _ _ h => h.2.symm)) ?_ ?_
 rintro _ _ ⟨⟨_, rfl, _⟩, rfl⟩
 refine iR<|q1J 150 rfl (v' := .bool false) (by rw [aE])<|Ei lr (.refl _)<|E0 16 rfl (pT rfl rfl)<|E0 17 rfl (sM rfl)<|eN 18 rfl<|eN 19 rfl<|eN 20 rfl<|eN 21 rfl<|eN 22 rfl<|eN 23 rfl<|eN 24 rfl<|eN 25 rfl<|eN 26 rfl<|eN 27 rfl<|E0 28 rfl (pF rfl rfl)<|E0 29 rfl (sA rfl)<|Eo<|Dd (by kernel_rfl) ?_
 obtain rfl := o1 hm
 exact jJ ⟨rfl, rfl, lr⟩
 exact Rn
 exact Rn
 rw [if_neg (fun hh => Bool.noConfusion (hh.symm.trans ar))] at hm
 refine Di mixed (.refl _)<|E0 0 rfl (stB (sM rfl) ao)<|E0 1 rfl (sM rfl)<|Yz 2 136 rfl (sM rfl)<|Eo<|Da [3] (by kernel_rfl) rfl<|q3c lr rfl rfl 136 rfl rfl rfl (uW _ z6E rfl (fun w ho => q2Z _ [] aC b1 b2 (OS.now (o := (OT.fr (RT.list j4))) (l := aC) (hs := aI) aG ho (.cons _ (Kb _ _))) bk aM) (fun _ _ _ h => h.2.symm)) ?_ ?_
 rintro _ _ ⟨⟨_, rfl, _⟩, rfl⟩
 refine iR<|q1J 138 rfl (v' := .bool false) (by rw [ar])<|Ei lr (.refl _)<|E0 4 rfl (pT rfl rfl)<|E0 5 rfl (sM rfl)<|eN 6 rfl<|eN 7 rfl<|eN 8 rfl<|eN 9 rfl<|eN 10 rfl<|eN 11 rfl<|eN 12 rfl<|eN 13 rfl<|eN 14 rfl<|eN 15 rfl<|E0 16 rfl (pF rfl rfl)<|E0 17 rfl (sM rfl)<|eN 18 rfl<|eN 19 rfl<|eN 20 rfl<|eN 21 rfl<|eN 22 rfl<|eN 23 rfl<|eN 24 rfl<|eN 25 rfl<|eN 26 rfl<|eN 27 rfl<|E0 28 rfl (pF rfl rfl)<|E0 29 rfl (sA rfl)<|Eo<|Dd (by kernel_rfl) ?_
 obtain rfl := o1 hm
 exact jJ ⟨rfl, rfl, lr⟩
 exact Rn
 rw [if_neg (fun hh => Bool.noConfusion (hh.symm.trans ao))] at hm
 refine Di mixed (.refl _)<|E0 0 rfl (stB (sM rfl) ao)<|E0 1 rfl (sM rfl)<|eN 2 rfl<|eN 3 rfl<|E0 4 rfl (pF rfl rfl)<|E0 5 rfl (sM rfl)<|eN 6 rfl<|eN 7 rfl<|eN 8 rfl<|eN 9 rfl<|eN 10 rfl<|eN 11 rfl<|eN 12 rfl<|eN 13 rfl<|eN 14 rfl<|eN 15 rfl<|E0 16 rfl (pF rfl rfl)<|E0 17 rfl (sM rfl)<|eN 18 rfl<|eN 19 rfl<|eN 20 rfl<|eN 21 rfl<|eN 22 rfl<|eN 23 rfl<|eN 24 rfl<|eN 25 rfl<|eN 26 rfl<|eN 27 rfl<|E0 28 rfl (pF rfl rfl)<|E0 29 rfl (sA rfl)<|Eo<|Dd (by kernel_rfl) ?_
 obtain rfl := o1 hm
 exact jJ ⟨rfl, rfl, lr⟩
 rintro c8 _ _ ⟨rfl, rfl, dk⟩
 have hm := dE
 refine Ct ?_
 obtain rfl := o1 hm
 exact rO ⟨rfl, rfl⟩ (i.trans (f.trans (q.trans (e.trans (s.trans (r.trans (I.trans (c.trans (a.trans (g.trans (aD.trans dk)))))))))))
end Go.Proofs.YtjlollifgeggdaaGreatDoor
