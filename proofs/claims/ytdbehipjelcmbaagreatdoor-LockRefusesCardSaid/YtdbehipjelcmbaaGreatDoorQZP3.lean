import Derived.Test.YtdbehipjelcmbaaGreatDoorQZP2
set_option linter.unusedVariables false
set_option linter.unusedSimpArgs false
set_option linter.unusedSectionVars false
namespace Go.Proofs.YtdbehipjelcmbaaGreatDoor
open Go.RowKit Go.Fp
set_option maxHeartbeats 4000000
set_option maxRecDepth 20000
open Go.Fp renaming q4t → Te, q6p → Tn, q4S → Tb, q6q → Tg, q7X → Tv, z3Z → Tr, q5Y → Cr, q2V → Cs, q0w → Cg, q6K → Cb, q3M → Ct, q3d → Ck, z1j → Ce, z2z → Cj, q9m → Cp, Q4 → Xn, V5 → Xr, q1q → Xe, q1r → Xb, q0k → Xm, q2m → Xo, z2H → Xp, z0b → X2, q7T → X3, q7S → X4, q7R → X5, j1C → Es, z7Y → E0, j2v → Ei, j7n → El, z5X → Eo, z7U → Da, z2F → Dd, z1B → Di, j6g → Rd2, z7T → Rn, q8R → sL, q5N → sD, q6Z → sF, z2l → sN, z0C → sE, q3S → sM, q1Z → sA, q5s → pT, q5t → pF, q0B → sI, q2n → sO, q2v → sP, q2w → sQ, z0G → sa, z6g → sb, q5L → lT, q5M → lF, q6d → sn2, q7Z → sB, z2L → uB, q7v → uA, z0r → uS, q4Q → uN, q5I → uW, z0s → uP, z0t → uQ, q3L → fE, q7L → bS, z2V → o1, q4Y → iS, q5K → ss, z0x → sp, q8t → kS, z7w → mc, z7v → mn, z0F → q1, q7Y → q2, z2m → q3, j1L → q4, z0D → q5, z0E → q6
theorem z4T (b : k8) (R : Hp) (aq ar au av aw ax ay aW a0 dP dQ) (ads : Int → Nat) (bc az aA aB aC aD aE aF aG aH aI aJ aK aL aM A3 c4 g A8 c9 j bd B f) (dX : FZ RT.str b.w az aA aq) (dY : FZ j3 b.w aB aC ar) (dZ : FZ w6 b.w aD aE au) (d0 : FZ j6 b.w aF aG av) (d1 : FZ w7 b.w aH aI aw) (d5 : FZ Q3 b.w aJ aK ax) (d6 : FZ (RT.list j8) b.w aL aM ay) (h5 : OS 59 (OT.fr j9) b.w (sv A3 aW c4) aW g) (d7 : OS 127 (OT.fr v8) b.w (sv A8 a0 c9) a0 j) (d8 : OM rI (OT.fr (RT.key ads)) false false b.w bd dP B) (dR : OAr 85 z8 ads b.w dQ f) (bo bp bq br bs bt bu bO bh bi bP bQ) (hm : q3I aq ar au av aw ax ay aW a0 dP dQ = some (bo, bp, bq, br, bs, bt, bu, bO, bh, bi, bP, bQ)):
 w8 Tryz.prog 12 [pb bc] b ((bc, Cl 57 [sv az aq aA, sv aB ar aC, sv aD au aE, sv aF av aG, sv aH aw aI, sv aJ ax aK, sv aL ay aM, sv A3 aW c4, sv A8 a0 c9, .map (some bd)]) :: (g ++ (j ++ (B ++ (f ++ R))))) (fun v b' hp' => ∃ (adt : Int → Nat), ∃ bR bT bU bV bW bX bY bZ b0 b1 b2 b3 b4 b5 b6 bC b7 b8 bD b9 ca bE cb bG bH, pb bR = v ∧ (bR, Cl 57 [sv bT bo bU, sv bV bp bW, sv bX bq bY, sv bZ br b0, sv b1 bs b2, sv b3 bt b4, sv b5 bu b6, sv b7 bh b8, sv b9 bi ca, .map (some cb)]) :: (bc, Cl 57 [sv az aq aA, sv aB ar aC, sv aD au aE, sv aF av aG, sv aH aw aI, sv aJ ax aK, sv aL ay aM, sv A3 aW c4, sv A8 a0 c9, .map (some bd)]) :: (g ++ (j ++ (bC ++ (f ++ (bD ++ (bE ++ (bG ++ (bH ++ R)))))))) = hp' ∧ FZ RT.str b'.w bT bU bo ∧ FZ j3 b'.w bV bW bp ∧ FZ w6 b'.w bX bY bq ∧ FZ j6 b'.w bZ b0 br ∧ FZ w7 b'.w b1 b2 bs ∧ FZ Q3 b'.w b3 b4 bt ∧ FZ (RT.list j8) b'.w b5 b6 bu ∧ OM rI (OT.fr (RT.key ads)) false false b'.w bd bO bC ∧ OS 59 (OT.fr j9) b'.w (sv b7 bh b8) bh bD ∧ OS 127 (OT.fr v8) b'.w (sv b9 bi ca) bi bE ∧ OM rI (OT.fr (RT.key adt)) false false b'.w cb bP bG ∧ OAr 85 z8 adt b'.w bQ bH) := by
 refine fE 83 Tryz.func12 rfl Tryz.ntmps12 rfl ?_
 unfold q3I at hm
 refine Cr<|aS rfl<|Te ?_
 obtain ⟨⟨aN, aO, cR, cT⟩, cm, cn⟩ := bS hm
 refine Cj (fun aX e' hp' => ∃ (adt : Int → Nat), ∃ af aP aQ a2 aR aT aU ah y z, [(0, pb bc), (3, pb af)] = e' ∧ (bc, Cl 57 [sv az aq aA, sv aB ar aC, sv aD au aE, sv aF av aG, sv aH aw aI, sv aJ ax aK, sv aL ay aM, sv A3 aW c4, sv A8 a0 c9, .map (some bd)]) :: (af, Cl 57 [sv az aq aA, sv aB ar aC, sv aD au aE, sv aF av aG, sv aH aw aI, sv aJ ax aK, sv aL ay aM, sv aP aN aQ, sv aR aO aT, .map (some ah)]) :: (g ++ (j ++ (B ++ (f ++ (a2 ++ (aU ++ (y ++ (z ++ R)))))))) = hp' ∧ b.Le aX ∧ OS 59 (OT.fr j9) aX.w (sv aP aN aQ) aN a2 ∧ OS 127 (OT.fr v8) aX.w (sv aR aO aT) aO aU ∧ OM rI (OT.fr (RT.key adt)) false false aX.w ah cR y ∧ OAr 85 z8 adt aX.w cT z) ?_ ?_
 have hm := cm
 obtain ⟨am, F, hm⟩ := bS hm
 obtain ⟨an, G, hm⟩ := bS hm
 refine z3T ((bc, Cl 57 [sv az aq aA, sv aB ar aC, sv aD au aE, sv aF av aG, sv aH aw aI, sv aJ ax aK, sv aL ay aM, sv A3 aW c4, sv A8 a0 c9, .map (some bd)]) :: (g ++ (j ++ (B ++ (f ++ R))))) mixed ?_
 refine z2E (fun be e' hp' => ∃ (adt : Int → Nat), ∃ p H q I J s K L, [(0, pb bc), (10, .agg #[sv az aq aA, sv aB ar aC, sv aD au aE, sv aF av aG, sv aH aw aI]), (14, sv aJ ax aK), (18, sv aL ay aM), (24, .slice K (List.replicate am ((⟨0, false, 0, 0, false⟩ : q8) : q8)).length L), (30, .slice I (List.replicate an ((⟨0, false, false⟩ : z6) : z6)).length J), (31, .map (some H))] = e' ∧ (bc, Cl 57 [sv az aq aA, sv aB ar aC, sv aD au aE, sv aF av aG, sv aH aw aI, sv aJ ax aK, sv aL ay aM, sv A3 aW c4, sv A8 a0 c9, .map (some bd)]) :: (p ++ (q ++ (s ++ (g ++ (j ++ (B ++ (f ++ ([] ++ R)))))))) = hp' ∧ OM rI (OT.fr (RT.key adt)) false false be.w H ([] : (List (Int × (Option Int)))) p ∧ OS 127 (OT.fr v8) be.w (.slice I (List.replicate an ((⟨0, false, false⟩ : z6) : z6)).length J) (List.replicate an ((⟨0, false, false⟩ : z6) : z6)) q ∧ OS 59 (OT.fr j9) be.w (.slice K (List.replicate am ((⟨0, false, 0, 0, false⟩ : q8) : q8)).length L) (List.replicate am ((⟨0, false, 0, 0, false⟩ : q8) : q8)) s ∧ OAr 85 z8 adt be.w ([] : List (Int × j0)) []) 3 #[true, true, true, true, true, true, true, true, true, true, true, true, true, true, true, true, true, true, true, true, true, true, true, true, true, false, false, false] ?_ (fun tl1486 => ?_)
 rintro be _ _ a3 ⟨adt, p, H, q, I, J, s, K, L, rfl, rfl, cU, cV, cW, cX⟩
 refine Da [25] (by kernel_rfl) rfl ?_
 refine Rd2 a3 rfl rfl (Q7.does (sB (v := .agg #[sv az aq aA, sv aB ar aC, sv aD au aE, sv aF av aG, sv aH aw aI, sv aJ ax aK, sv aL ay aM, .slice K (List.replicate am ((⟨0, false, 0, 0, false⟩ : q8) : q8)).length L, .slice I (List.replicate an ((⟨0, false, false⟩ : z6) : z6)).length J, .map (some H)]) [(0, .agg #[sv az aq aA, sv aB ar aC, sv aD au aE, sv aF av aG, sv aH aw aI]), (1, sv aJ ax aK), (2, sv aL ay aM), (3, .slice K (List.replicate am ((⟨0, false, 0, 0, false⟩ : q8) : q8)).length L), (4, .slice I (List.replicate an ((⟨0, false, false⟩ : z6) : z6)).length J), (5, .map (some H))] rfl (fun _ => by kernel_rfl))) ?_ ?_
 rintro _ _ ⟨rfl, rfl⟩
 refine iR<|Da [26] (by kernel_rfl) rfl<|Rd2 a3 rfl rfl (uB _ rfl rfl) ?_ ?_
 rintro _ _ ⟨cY, rfl, rfl⟩
 refine iR<|Ei a3 (.cons _ (.cons_cons _ (ss p (ss q (ss s (sp g (sp j (sp B (sp f (ss [] (.refl _)))))))))))<|E0 27 rfl (sA rfl)<|Eo<|Dd (by kernel_rfl) ?_
 obtain ⟨rfl, rfl, rfl, rfl⟩ := q7j hm
 exact jJ ⟨adt, cY, K, L, s, I, J, q, H, p, [], rfl, rfl, a3, cW, cV, cU, cX⟩
 exact Rn
 exact Rn
 refine Ei lr (.refl _)<|E0 0 rfl (sM rfl)<|E0 1 rfl (sN rfl)<|E0 2 rfl (sF rfl q5p)<|Es 3 rfl (sD (vs := [_, _, _, _, _]) 0 5 rfl q0o rfl rfl rfl)<|E0 4 rfl (sM rfl)<|E0 5 rfl (sN rfl)<|E0 6 rfl (sF rfl z3r)<|Es 7 rfl (sL 0 rfl z7p rfl rfl)<|E0 8 rfl (sM rfl) ?_
 refine E0 9 rfl (sN rfl)<|E0 10 rfl (sF rfl z3q)<|Es 11 rfl (sL 0 rfl j3f rfl rfl)<|E0 12 rfl (sM rfl)<|E0 13 rfl (sN rfl)<|E0 14 rfl (sF rfl V1)<|Es 15 rfl (sL 0 rfl q1p rfl rfl)<|E0 16 rfl (sE rfl q3O)<|E0 18 rfl (sM rfl)<|E0 19 rfl (sN rfl)<|E0 20 rfl (sF rfl q2u)<|Es 21 rfl (sL 0 rfl q7A rfl rfl)<|E0 22 rfl (sE rfl q7P)<|Eo ?_
 have F := q1N F
 have G := q1N G
 obtain ⟨adt, _⟩ : ∃ a : Int → Nat, a = fun _ => 0 := ⟨_, rfl⟩
 refine Da [17, 23, 24] (by kernel_rfl) rfl<|Rd2 lr rfl rfl (K2 (r := j9) [_] (g ++ (j ++ (B ++ (f ++ R)))) [iv 0, bv false, iv 0, iv 0, bv false] (⟨0, false, 0, 0, false⟩ : q8) am rfl F.1 rfl rfl q3O q7k rfl rfl rfl (by decide) ⟨[iv 0], _, rfl, rfl, ⟨[bv false], _, rfl, rfl, ⟨[iv 0], _, rfl, rfl, ⟨[iv 0], _, rfl, rfl, rfl⟩⟩⟩⟩ F.2.1 F.2.2) ?_ ?_
 rintro _ _ ⟨s, rfl, X⟩
 obtain ⟨K, L, rfl, _⟩ := X.form
 refine iR<|Da [23, 24] (by kernel_rfl) rfl<|Rd2 lr rfl rfl (K2 (r := v8) [_] (s ++ (g ++ (j ++ (B ++ (f ++ R))))) [iv 0, bv false, bv false] (⟨0, false, false⟩ : z6) an rfl G.1 rfl rfl q7P q4a rfl rfl rfl (by decide) ⟨[iv 0], _, rfl, rfl, ⟨[bv false], _, rfl, rfl, rfl⟩⟩ G.2.1 G.2.2) ?_ ?_
 rintro _ _ ⟨q, rfl, Y⟩
 obtain ⟨I, J, rfl, _⟩ := Y.form
 refine iR<|Da [24] (by kernel_rfl) rfl<|Rd2 lr rfl rfl (q2D rI (OT.fr (RT.key adt)) false false [_] (q ++ (s ++ (g ++ (j ++ (B ++ (f ++ R)))))) rfl) ?_ ?_
 rintro _ _ ⟨H, p, rfl, rfl, ao⟩
 have ad : OAr 85 z8 adt b.w [] [] := OAr.nil Z1
 refine iR ?_
 exact dG tl1486 ⟨adt, p, H, q, I, J, s, K, L, rfl, rfl, ao, Y, X, ad⟩ lr
 exact Rn
 refine Rd2 lr rfl rfl (q2D rI (OT.fr (RT.key adt)) false false [_] (s ++ (g ++ (j ++ (B ++ (f ++ R))))) rfl) ?_ ?_
 rintro _ _ ⟨H, p, rfl, rfl, ao⟩
 have ad : OAr 85 z8 adt b.w [] [] := OAr.nil Z1
 refine iR<|Da [23] (by kernel_rfl) rfl<|Rd2 lr rfl rfl (K2 (r := v8) [_] (p ++ (s ++ (g ++ (j ++ (B ++ (f ++ ([] ++ R))))))) [iv 0, bv false, bv false] (⟨0, false, false⟩ : z6) an rfl G.1 rfl rfl q7P q4a rfl rfl rfl (by decide) ⟨[iv 0], _, rfl, rfl, ⟨[bv false], _, rfl, rfl, rfl⟩⟩ G.2.1 G.2.2) ?_ ?_
 rintro _ _ ⟨q, rfl, Y⟩
 obtain ⟨I, J, rfl, _⟩ := Y.form
 refine iR ?_
 exact dG tl1486 ⟨adt, p, H, q, I, J, s, K, L, rfl, rfl, ao, Y, X, ad⟩ lr
 exact Rn
 exact Rn
 refine Rd2 lr rfl rfl (K2 (r := v8) [_] (g ++ (j ++ (B ++ (f ++ R)))) [iv 0, bv false, bv false] (⟨0, false, false⟩ : z6) an rfl G.1 rfl rfl q7P q4a rfl rfl rfl (by decide) ⟨[iv 0], _, rfl, rfl, ⟨[bv false], _, rfl, rfl, rfl⟩⟩ G.2.1 G.2.2) ?_ ?_
 rintro _ _ ⟨q, rfl, Y⟩
 obtain ⟨I, J, rfl, _⟩ := Y.form
 refine iR<|Da [17, 24] (by kernel_rfl) rfl<|Rd2 lr rfl rfl (K2 (r := j9) [_] (q ++ (g ++ (j ++ (B ++ (f ++ R))))) [iv 0, bv false, iv 0, iv 0, bv false] (⟨0, false, 0, 0, false⟩ : q8) am rfl F.1 rfl rfl q3O q7k rfl rfl rfl (by decide) ⟨[iv 0], _, rfl, rfl, ⟨[bv false], _, rfl, rfl, ⟨[iv 0], _, rfl, rfl, ⟨[iv 0], _, rfl, rfl, rfl⟩⟩⟩⟩ F.2.1 F.2.2) ?_ ?_
 rintro _ _ ⟨s, rfl, X⟩
 obtain ⟨K, L, rfl, _⟩ := X.form
 refine iR<|Da [24] (by kernel_rfl) rfl<|Rd2 lr rfl rfl (q2D rI (OT.fr (RT.key adt)) false false [_] (s ++ (q ++ (g ++ (j ++ (B ++ (f ++ R)))))) rfl) ?_ ?_
 rintro _ _ ⟨H, p, rfl, rfl, ao⟩
 have ad : OAr 85 z8 adt b.w [] [] := OAr.nil Z1
 refine iR ?_
 exact dG tl1486 ⟨adt, p, H, q, I, J, s, K, L, rfl, rfl, ao, Y, X, ad⟩ lr
 exact Rn
 refine Rd2 lr rfl rfl (q2D rI (OT.fr (RT.key adt)) false false [_] (q ++ (g ++ (j ++ (B ++ (f ++ R))))) rfl) ?_ ?_
 rintro _ _ ⟨H, p, rfl, rfl, ao⟩
 have ad : OAr 85 z8 adt b.w [] [] := OAr.nil Z1
 refine iR<|Da [17] (by kernel_rfl) rfl<|Rd2 lr rfl rfl (K2 (r := j9) [_] (p ++ (q ++ (g ++ (j ++ (B ++ (f ++ ([] ++ R))))))) [iv 0, bv false, iv 0, iv 0, bv false] (⟨0, false, 0, 0, false⟩ : q8) am rfl F.1 rfl rfl q3O q7k rfl rfl rfl (by decide) ⟨[iv 0], _, rfl, rfl, ⟨[bv false], _, rfl, rfl, ⟨[iv 0], _, rfl, rfl, ⟨[iv 0], _, rfl, rfl, rfl⟩⟩⟩⟩ F.2.1 F.2.2) ?_ ?_
 rintro _ _ ⟨s, rfl, X⟩
 obtain ⟨K, L, rfl, _⟩ := X.form
 refine iR ?_
 exact dG tl1486 ⟨adt, p, H, q, I, J, s, K, L, rfl, rfl, ao, Y, X, ad⟩ lr
 exact Rn
 exact Rn
 refine Rd2 lr rfl rfl (q2D rI (OT.fr (RT.key adt)) false false [_] (g ++ (j ++ (B ++ (f ++ R)))) rfl) ?_ ?_
 rintro _ _ ⟨H, p, rfl, rfl, ao⟩
 have ad : OAr 85 z8 adt b.w [] [] := OAr.nil Z1
 refine iR<|Da [17, 23] (by kernel_rfl) rfl<|Rd2 lr rfl rfl (K2 (r := j9) [_] (p ++ (g ++ (j ++ (B ++ (f ++ ([] ++ R)))))) [iv 0, bv false, iv 0, iv 0, bv false] (⟨0, false, 0, 0, false⟩ : q8) am rfl F.1 rfl rfl q3O q7k rfl rfl rfl (by decide) ⟨[iv 0], _, rfl, rfl, ⟨[bv false], _, rfl, rfl, ⟨[iv 0], _, rfl, rfl, ⟨[iv 0], _, rfl, rfl, rfl⟩⟩⟩⟩ F.2.1 F.2.2) ?_ ?_
 rintro _ _ ⟨s, rfl, X⟩
 obtain ⟨K, L, rfl, _⟩ := X.form
 refine iR<|Da [23] (by kernel_rfl) rfl<|Rd2 lr rfl rfl (K2 (r := v8) [_] (s ++ (p ++ (g ++ (j ++ (B ++ (f ++ ([] ++ R))))))) [iv 0, bv false, bv false] (⟨0, false, false⟩ : z6) an rfl G.1 rfl rfl q7P q4a rfl rfl rfl (by decide) ⟨[iv 0], _, rfl, rfl, ⟨[bv false], _, rfl, rfl, rfl⟩⟩ G.2.1 G.2.2) ?_ ?_
 rintro _ _ ⟨q, rfl, Y⟩
 obtain ⟨I, J, rfl, _⟩ := Y.form
 refine iR ?_
 exact dG tl1486 ⟨adt, p, H, q, I, J, s, K, L, rfl, rfl, ao, Y, X, ad⟩ lr
 exact Rn
 refine Rd2 lr rfl rfl (K2 (r := v8) [_] (p ++ (g ++ (j ++ (B ++ (f ++ ([] ++ R)))))) [iv 0, bv false, bv false] (⟨0, false, false⟩ : z6) an rfl G.1 rfl rfl q7P q4a rfl rfl rfl (by decide) ⟨[iv 0], _, rfl, rfl, ⟨[bv false], _, rfl, rfl, rfl⟩⟩ G.2.1 G.2.2) ?_ ?_
 rintro _ _ ⟨q, rfl, Y⟩
 obtain ⟨I, J, rfl, _⟩ := Y.form
 refine iR<|Da [17] (by kernel_rfl) rfl<|Rd2 lr rfl rfl (K2 (r := j9) [_] (q ++ (p ++ (g ++ (j ++ (B ++ (f ++ ([] ++ R))))))) [iv 0, bv false, iv 0, iv 0, bv false] (⟨0, false, 0, 0, false⟩ : q8) am rfl F.1 rfl rfl q3O q7k rfl rfl rfl (by decide) ⟨[iv 0], _, rfl, rfl, ⟨[bv false], _, rfl, rfl, ⟨[iv 0], _, rfl, rfl, ⟨[iv 0], _, rfl, rfl, rfl⟩⟩⟩⟩ F.2.1 F.2.2) ?_ ?_
 rintro _ _ ⟨s, rfl, X⟩
 obtain ⟨K, L, rfl, _⟩ := X.form
 refine iR ?_
 exact dG tl1486 ⟨adt, p, H, q, I, J, s, K, L, rfl, rfl, ao, Y, X, ad⟩ lr
 exact Rn
 exact Rn
 exact Rn
 rintro aX _ _ ⟨adt, af, aP, aQ, a2, aR, aT, aU, ah, y, z, rfl, rfl, A, cZ, c0, c1, c2⟩
 have hm := z2K cn
 refine Cs<|q2B g j B f a2<|Di mixed (.refl _)<|E0 0 rfl (sM rfl)<|E0 1 rfl (sN rfl)<|E0 2 rfl (sF rfl V1)<|Es 3 rfl (sL 1 rfl q1p rfl rfl)<|E0 4 rfl (sM rfl)<|E0 5 rfl (sN rfl)<|E0 6 rfl (sF rfl V1)<|Es 7 rfl (sL 0 rfl q1p rfl rfl)<|Eo ?_
 obtain ⟨cc, c3, c5⟩ := j1P (h5.le A) (.cons _ (.cons _ (ss a2 (Kb _ _))))
 refine Da [8] (by kernel_rfl) rfl<|Rd2 lr rfl rfl (z8g (r := j9) (l := aN) (m := aW) [_, _] (g ++ (j ++ (B ++ (f ++ (aU ++ (y ++ (z ++ R))))))) cc (by decide) rfl q3O rfl rfl rfl cZ rfl c3 c5) ?_ ?_
 rintro _ _ ⟨rfl, d, rfl, c6⟩
 refine ⟨.inl (by kernel_rfl), ?_⟩
 refine z9n 1 rfl (o' := Cl 57 [sv az aq aA, sv aB ar aC, sv aD au aE, sv aF av aG, sv aH aw aI, sv aJ ax aK, sv aL ay aM, .slice aP (z1R aN aW).length aQ, sv aR aO aT, .map (some ah)]) (by simp only [sv, (q4E _ _)])<|Dd (by kernel_rfl)<|Xn<|Cs<|j5g d g j B f aU<|Di mixed (.refl _)<|E0 0 rfl (sM rfl)<|E0 1 rfl (sN rfl)<|E0 2 rfl (sF rfl q2u)<|Es 3 rfl (sL 1 rfl q7A rfl rfl) ?_
 refine E0 4 rfl (sM rfl)<|E0 5 rfl (sN rfl)<|E0 6 rfl (sF rfl q2u)<|Es 7 rfl (sL 0 rfl q7A rfl rfl)<|Eo ?_
 obtain ⟨cd, c7, c8⟩ := j1P (d7.le A) (.cons _ (.cons _ (ss aU (ss d (ss g (Kb _ _))))))
 refine Da [8] (by kernel_rfl) rfl<|Rd2 lr rfl rfl (z8g (r := v8) (l := aO) (m := a0) [_, _] (d ++ (g ++ (j ++ (B ++ (f ++ (y ++ (z ++ R))))))) cd (by decide) rfl q7P rfl rfl rfl c0 rfl c7 c8) ?_ ?_
 rintro _ _ ⟨rfl, e, rfl, da⟩
 refine ⟨.inl (by kernel_rfl), ?_⟩
 refine z9n 1 rfl (o' := Cl 57 [sv az aq aA, sv aB ar aC, sv aD au aE, sv aF av aG, sv aH aw aI, sv aJ ax aK, sv aL ay aM, .slice aP (z1R aN aW).length aQ, .slice aR (z1R aO a0).length aT, .map (some ah)]) (by simp only [sv, (q4E _ _)])<|Dd (by kernel_rfl)<|Xn ?_
 obtain ⟨⟨db, dc, dd⟩, co, cp⟩ := bS hm
 refine Cj (fun bf e' hp' => ∃ (adt : Int → Nat), ∃ a9 ba bb, [(3, pb af)] = e' ∧ (af, Cl 57 [sv az aq aA, sv aB ar aC, sv aD au aE, sv aF av aG, sv aH aw aI, sv aJ ax aK, sv aL ay aM, .slice aP (z1R aN aW).length aQ, .slice aR (z1R aO a0).length aT, .map (some ah)]) :: (bc, Cl 57 [sv az aq aA, sv aB ar aC, sv aD au aE, sv aF av aG, sv aH aw aI, sv aJ ax aK, sv aL ay aM, sv A3 aW c4, sv A8 a0 c9, .map (some bd)]) :: (g ++ (j ++ (a9 ++ (f ++ (d ++ (e ++ (ba ++ (bb ++ R)))))))) = hp' ∧ aX.Le bf ∧ OM rI (OT.fr (RT.key ads)) false false bf.w bd db a9 ∧ OM rI (OT.fr (RT.key adt)) false false bf.w ah dc ba ∧ OAr 85 z8 adt bf.w dd bb) ?_ ?_
 have hm := co
 refine Cr<|mV rfl<|tS (sN rfl)<|tS (sF rfl q0J)<|tS (sL 0 rfl q5O rfl rfl)<|z2M e d g j B<|tD (q7u [_, _] (e ++ (d ++ (g ++ (j ++ (f ++ (y ++ (z ++ R))))))) rfl (d8.le A) q3a rfl) ?_
 rintro _ _ ⟨bj, aj, rfl, rfl, de⟩
 refine Te<|Cb<|z7K aj e d g j f y z<|z7K z aj e d g j f y<|z3E y z aj e<|q2B e y z aj d<|z7K d e y z aj g j f<|z7K f d e y z aj g j<|z7K j f d e y z aj g<|Cp 1 rfl<|z7K g j f d e y z aj ?_
 obtain ⟨d9, cq, bI⟩ := bS hm
 refine z1i (K5 fun bw bx => fun a1 e' hp' => ∃ (adt : Int → Nat), ∃ k n, [(3, pb af), (56, pb bj)] = e' ∧ (af, Cl 57 [sv az aq aA, sv aB ar aC, sv aD au aE, sv aF av aG, sv aH aw aI, sv aJ ax aK, sv aL ay aM, .slice aP (z1R aN aW).length aQ, .slice aR (z1R aO a0).length aT, .map (some ah)]) :: (bc, Cl 57 [sv az aq aA, sv aB ar aC, sv aD au aE, sv aF av aG, sv aH aw aI, sv aJ ax aK, sv aL ay aM, sv A3 aW c4, sv A8 a0 c9, .map (some bd)]) :: (g ++ (j ++ (f ++ (d ++ (e ++ (k ++ (n ++ R))))))) = hp' ∧ aX.Le a1 ∧ OM rI (OT.fr (RT.key adt)) false false a1.w ah bw k ∧ OAr 85 z8 adt a1.w bx n) cq de (e' := [(3, pb af), (56, pb bj)]) ⟨rfl, rfl, trivial⟩ [_, _] (g ++ (j ++ (f ++ (d ++ (e ++ (y ++ (z ++ R))))))) rfl (.refl _) ⟨adt, y, z, rfl, rfl, lr, c1, c2⟩ ?_
 rintro ⟨bw, bx⟩ ea a1 _ _ bJ ⟨adt, k, n, rfl, rfl, aY, ce, cf⟩ dS cg hd2481 hall2482
 refine z5R [_, _] bJ (g ++ (j ++ (f ++ (d ++ (e ++ (k ++ (n ++ R))))))) ?_ rfl
 refine Cr<|z0v [_, _] (g ++ (j ++ (f ++ (d ++ (e ++ (k ++ (n ++ R))))))) rfl rfl rfl cg (fun hnil2484 => ?_) (fun a7 eb ec ed i hperm2490 cr df => ?_)
 obtain ⟨bK, bN, dg⟩ := MIt.done cg
 refine q7W [_, _] bJ bK (g ++ (j ++ (f ++ (d ++ (e ++ (k ++ (n ++ R))))))) rfl bN ?_
 have hend2496 := hd2481 hnil2484
 refine tS (j5 rfl rfl)<|Te<|Cs<|k7 rfl<|Ce<|Xe<|Xe<|Xo ?_
 rw [hend2496] at bI
 have hm := H4 bI
 have hm := J4 hm
 obtain ⟨rfl, rfl, rfl⟩ := q2o hm
 exact jJ ⟨adt, bK, k, n, rfl, rfl, aY, dg, ce, cf⟩
 obtain ⟨ee, bg, dN⟩ := hall2482 _ _ hperm2490
 have a8 := bg
 unfold H8 at a8
 have hm := J4 a8
 refine tS (j5 rfl rfl)<|Te<|Cs<|k9 rfl<|Ck<|Xn<|Cb<|Cr ?_
 obtain ⟨ch, ci, bk, bl, ct⟩ := MIx.entry Tryz.prog cr
 obtain rfl : ch = iv a7.1 := by have bk : [ch] = [iv a7.1] := bk; injection bk
 obtain rfl : ci = kv ads a7.2 := by have bl : [ci] = [kv ads a7.2] := bl; injection bl
 refine tS (ct (.cons _ (.cons _ (Kb _ _))) rfl)<|tS (j5 rfl rfl)<|tS (j5 rfl rfl)<|aS rfl<|aS rfl<|Te<|Cr<|mV rfl ?_
 obtain ⟨bz, bA, hm⟩ := bS hm
 obtain ⟨c, dh, hm⟩ := bS hm
 refine Tr 5 rfl (v' := .pointer (some ⟨(ads bz), 0, none⟩)) (by rw [bA]; rfl)<|Tr 61 rfl (v' := .pointer (some ⟨(ads bz), 0, none⟩)) (by rw [bA]; rfl)<|Tr 62 rfl (v' := .pointer (some ⟨(ads bz), 0, none⟩)) (by rw [bA]; rfl) ?_
 obtain ⟨dT, dU, a4, bL, cu, hf2514⟩ := OAr.take (dR.le (A.trans aY)) dh
 obtain ⟨Z, aa, ab, ac, ef, eg, a5, eh, ei, a6, rfl, di, dj, ej, ek, rfl⟩ := cu
 refine J8 i g j f<|q1W [_, _] f a4 a5 a6 (i ++ (g ++ (j ++ (d ++ (e ++ (k ++ (n ++ R))))))) rfl bL<|tS (sN rfl)<|tS (sD (vs := [_, _, _, _, _, _, _, _, _, _, _]) 0 11 rfl j7l rfl rfl rfl)<|tD (uA [iv 0, iv 0, sn, sn, sn, sn, .bool false, .bool false, iv 0, iv 0, iv 0] j4g rfl) ?_
 rintro _ _ ⟨C, rfl, rfl⟩
 refine tD (uN (vs := [_, _, _, _, _, _, _, _, _, _, _]) 0 11 rfl rfl rfl j6H rfl (mc rfl (mc rfl (mc rfl (mc rfl (mc rfl (mc rfl (mc rfl (mc rfl (mc rfl (mc rfl (mc rfl mn))))))))))) rfl (by simp)) ?_
 rintro _ _ rfl
 refine Te<|Cp 1 rfl<|z7M a5 a6 a4<|z7M a4 a5 a6<|z7M a6 a4 a5<|z3G [_, _, _] f a4 a5 a6 (i ++ (g ++ (j ++ (d ++ (e ++ (k ++ (n ++ R))))))) rfl bL ?_
 obtain ⟨⟨D, E⟩, cv, cw⟩ := bS hm
 refine Cj (fun bm e' hp' => ∃ O S t T U u, [(3, pb af), (4, iv a7.1), (6, pb C), (56, pb bj)] = e' ∧ (af, Cl 57 [sv az aq aA, sv aB ar aC, sv aD au aE, sv aF av aG, sv aH aw aI, sv aJ ax aK, sv aL ay aM, .slice aP (z1R aN aW).length aQ, .slice aR (z1R aO a0).length aT, .map (some ah)]) :: (C, Cl 85 [iv c.Route.From, iv c.Route.To, sv Z c.Route.Steps aa, sv ab c.needs ac, sv O D S, sv T E U, bv c.laps, bv c.sight, iv c.leave, iv c.clock, iv c.number]) :: (bc, Cl 57 [sv az aq aA, sv aB ar aC, sv aD au aE, sv aF av aG, sv aH aw aI, sv aJ ax aK, sv aL ay aM, sv A3 aW c4, sv A8 a0 c9, .map (some bd)]) :: (i ++ (g ++ (j ++ (f ++ (d ++ (e ++ (k ++ (n ++ (t ++ (u ++ R)))))))))) = hp' ∧ a1.Le bm ∧ OS 4 (OT.fr RT.bool) bm.w (sv O D S) D t ∧ OS 4 (OT.fr RT.bool) bm.w (sv T E U) E u) ?_ ?_
 have hm := cv
 obtain ⟨bn, dk, hm⟩ := bS hm
 obtain ⟨dV, dW, aV, bM, cx, hf2606⟩ := OAr.take (dR.le (A.trans aY)) dk
 obtain ⟨el, em, en, eo, dl, dm, ag, dn, dp, ak, rfl, ep, eq, dq, dr, rfl⟩ := cx
 refine q8v [_, _, _] f aV ag ak (i ++ (g ++ (j ++ (d ++ (e ++ (k ++ (n ++ R))))))) rfl bM ?_
 obtain ⟨ds, cj, hm⟩ := bS hm
 obtain ⟨dt, ck, hm⟩ := bS hm
 refine Di mixed (.refl _)<|E0 0 rfl (sM rfl)<|E0 1 rfl (sN rfl)<|E0 2 rfl (sF rfl q1H)<|Es 3 rfl (sL 0 rfl q4w rfl rfl)<|E0 5 rfl (sM rfl)<|E0 6 rfl (sN rfl)<|E0 7 rfl (sF rfl q6A)<|Es 8 rfl (sL 0 rfl q4w rfl rfl)<|Eo<|Da [4] (by kernel_rfl) rfl ?_
 refine Rd2 lr rfl rfl (z6d [_, _, _, _] (ag ++ (ak ++ (aV ++ (i ++ (g ++ (j ++ (d ++ (e ++ (k ++ (n ++ R)))))))))) _ rfl j2m rfl (fun w ho => q7q _ [] bn.seen dl dm (OS.now (o := (OT.fr RT.bool)) (l := bn.seen) (hs := ag) dq ho (.cons _ (.cons _ (.cons _ (.cons _ (Kb _ _)))))) ds cj)) ?_ ?_
 rintro _ _ ⟨_, _, rfl, du, dv, al, rfl, cy, dw⟩
 obtain rfl := List.append_cancel_right cy
 have dx := z9j (w' := a1.w) (fun _ _ _ _ h => h) dw
 refine iR<|Da [9] (by kernel_rfl) rfl<|Rd2 lr rfl rfl (z6d [_, _, _, _] (al ++ (ag ++ (ak ++ (aV ++ (i ++ (g ++ (j ++ (d ++ (e ++ (k ++ (n ++ R))))))))))) _ rfl j2m rfl (fun w ho => q7q _ [] bn.gone dn dp (OS.now (o := (OT.fr RT.bool)) (l := bn.gone) (hs := ak) dr ho (.cons _ (.cons _ (.cons _ (.cons _ (ss al (ss ag (Kb _ _)))))))) dt ck)) ?_ ?_
 rintro _ _ ⟨_, _, rfl, dy, dz, aZ, rfl, cz, dA⟩
 obtain rfl := List.append_cancel_right cz
 have dB := z9j (w' := a1.w) (fun _ _ _ _ h => h) dA
 refine iR<|Ei lr (.cons_cons _ (.cons_cons _ (.cons_cons _ (.cons_cons _ (ss aZ (ss al (.refl _)))))))<|E0 10 rfl (sF rfl q1H)<|Eo<|Da [11] (by kernel_rfl) rfl<|Rd2 lr rfl rfl (uS 1 rfl rfl j4C rfl rfl (by simp)) ?_ ?_
 rintro _ _ rfl
 refine ⟨.inl (by kernel_rfl), ?_⟩
 refine El lr<|E0 12 rfl (sF rfl q6A)<|Eo<|Da [13] (by kernel_rfl) rfl<|Rd2 lr rfl rfl (uS 1 rfl rfl j4C rfl rfl (by simp)) ?_ ?_
 rintro _ _ rfl
 refine ⟨.inl (by kernel_rfl), ?_⟩
 refine Dd (by kernel_rfl)<|j2z aZ al ag ak aV<|j2z aV aZ al ag ak<|j2z ak aV aZ al ag<|q2A [_, _, _] f aV ag ak (aZ ++ (al ++ (i ++ (g ++ (j ++ (d ++ (e ++ (k ++ (n ++ R))))))))) rfl bM ?_
 obtain ⟨rfl, rfl⟩ := Z6 hm
 exact jJ ⟨du, dv, al, dy, dz, aZ, rfl, rfl, lr, dx, dB⟩
 exact Rn
 exact Rn
 exact Rn
 exact Rn
 rintro bm _ _ ⟨O, S, t, T, U, u, rfl, rfl, ai, dC, dD⟩
 have hm := J4 cw
 refine Cg<|mV rfl<|tS (sN rfl)<|tS (sF rfl q0J)<|tS (sL 0 rfl q5O rfl rfl)<|mV rfl ?_
 obtain ⟨_, bB, hm⟩ := bS hm
 have bB := q7B bB
 refine Q9 1 rfl<|q3Q i g j f d e k n<|j1I n i g j f d e k t u<|j1I u n i g j f d e k t ?_
 obtain ⟨cA, V, cC, dE⟩ := OAr.add (cf.le ai) c.number C (cs := [iv c.Route.From, iv c.Route.To, sv Z c.Route.Steps aa, sv ab c.needs ac, sv O D S, sv T E U, bv c.laps, bv c.sight, iv c.leave, iv c.clock, iv c.number]) (x := (⟨c.Route, c.needs, D, E, c.laps, c.sight, c.leave, c.clock, c.number⟩ : j0)) ⟨Z, aa, ab, ac, O, S, t, T, U, u, rfl, (di.le ai), (dj.le ai), dC, dD, rfl⟩
 have dF := OM.upd (ce.le ai) c.number C bB
 refine j4v [_, _] n cA V t u (i ++ (g ++ (j ++ (f ++ (d ++ (e ++ (k ++ R))))))) rfl cC<|Tr 6 rfl (v' := kv (z2h adt c.number C) (some c.number)) (by show _ = Value.pointer (some ⟨z2h adt _ _ _, 0, none⟩); rw [q6o]) ?_
 generalize z2h adt c.number C = adt at *
 have dH := dE.prm (q3A _).symm
 refine z0c [_, _] (V ++ ((C, Cl 85 [iv c.Route.From, iv c.Route.To, sv Z c.Route.Steps aa, sv ab c.needs ac, sv O D S, sv T E U, bv c.laps, bv c.sight, iv c.leave, iv c.clock, iv c.number]) :: (t ++ u))) i g j f d e k R rfl<|tD (q8Q z8R [_, _] [] ((V ++ ((C, Cl 85 [iv c.Route.From, iv c.Route.To, sv Z c.Route.Steps aa, sv ab c.needs ac, sv O D S, sv T E U, bv c.laps, bv c.sight, iv c.leave, iv c.clock, iv c.number]) :: (t ++ u))) ++ (i ++ (g ++ (j ++ (f ++ (d ++ (e ++ R))))))) rfl dF q3a rfl rfl rfl rfl ⟨rfl, rfl⟩ _ (.inl rfl)) ?_
 rintro _ _ ⟨ae, rfl, dO, dI⟩
 have dJ := dI.prm (q3A _).symm
 refine Tn<|Xm<|Xp 1 rfl<|Xp 1 rfl<|X2 [_, _] ae (V ++ ((C, Cl 85 [iv c.Route.From, iv c.Route.To, sv Z c.Route.Steps aa, sv ab c.needs ac, sv O D S, sv T E U, bv c.laps, bv c.sight, iv c.leave, iv c.clock, iv c.number]) :: (t ++ u))) (i ++ (g ++ (j ++ (f ++ (d ++ (e ++ R)))))) rfl<|X2 [_, _] (V ++ ((C, Cl 85 [iv c.Route.From, iv c.Route.To, sv Z c.Route.Steps aa, sv ab c.needs ac, sv O D S, sv T E U, bv c.laps, bv c.sight, iv c.leave, iv c.clock, iv c.number]) :: (t ++ u))) ae (i ++ (g ++ (j ++ (f ++ (d ++ (e ++ R)))))) rfl<|q6Y [_, _] ae (V ++ ((C, Cl 85 [iv c.Route.From, iv c.Route.To, sv Z c.Route.Steps aa, sv ab c.needs ac, sv O D S, sv T E U, bv c.laps, bv c.sight, iv c.leave, iv c.clock, iv c.number]) :: (t ++ u))) i g j f d e R rfl<|q6Y [_, _] e ae (V ++ ((C, Cl 85 [iv c.Route.From, iv c.Route.To, sv Z c.Route.Steps aa, sv ab c.needs ac, sv O D S, sv T E U, bv c.laps, bv c.sight, iv c.leave, iv c.clock, iv c.number]) :: (t ++ u))) i g j f d R rfl<|q6Y [_, _] d e ae (V ++ ((C, Cl 85 [iv c.Route.From, iv c.Route.To, sv Z c.Route.Steps aa, sv ab c.needs ac, sv O D S, sv T E U, bv c.laps, bv c.sight, iv c.leave, iv c.clock, iv c.number]) :: (t ++ u))) i g j f R rfl<|q6Y [_, _] f d e ae (V ++ ((C, Cl 85 [iv c.Route.From, iv c.Route.To, sv Z c.Route.Steps aa, sv ab c.needs ac, sv O D S, sv T E U, bv c.laps, bv c.sight, iv c.leave, iv c.clock, iv c.number]) :: (t ++ u))) i g j R rfl ?_
 refine q6Y [_, _] j f d e ae (V ++ ((C, Cl 85 [iv c.Route.From, iv c.Route.To, sv Z c.Route.Steps aa, sv ab c.needs ac, sv O D S, sv T E U, bv c.laps, bv c.sight, iv c.leave, iv c.clock, iv c.number]) :: (t ++ u))) i g R rfl<|q6Y [_, _] g j f d e ae (V ++ ((C, Cl 85 [iv c.Route.From, iv c.Route.To, sv Z c.Route.Steps aa, sv ab c.needs ac, sv O D S, sv T E U, bv c.laps, bv c.sight, iv c.leave, iv c.clock, iv c.number]) :: (t ++ u))) i R rfl ?_
 have cl := aY.trans ai
 exact q9y (s' := (q6g (G1 bw a7.1 (some c.number)), q6g (G1 bx c.number (⟨c.Route, c.needs, D, E, c.laps, c.sight, c.leave, c.clock, c.number⟩ : j0)))) [_, _] (g ++ (j ++ (f ++ (d ++ (e ++ (ae ++ ((V ++ ((C, Cl 85 [iv c.Route.From, iv c.Route.To, sv Z c.Route.Steps aa, sv ab c.needs ac, sv O D S, sv T E U, bv c.laps, bv c.sight, iv c.leave, iv c.clock, iv c.number]) :: (t ++ u))) ++ R))))))) rfl hperm2490 (bg.trans (Kd hm ▸ rfl)) cl (df.le ai) (e' := [(3, pb af), (56, pb bj)]) ⟨rfl, rfl, trivial⟩ (.refl _) ⟨adt, ae, (V ++ ((C, Cl 85 [iv c.Route.From, iv c.Route.To, sv Z c.Route.Steps aa, sv ab c.needs ac, sv O D S, sv T E U, bv c.laps, bv c.sight, iv c.leave, iv c.clock, iv c.number]) :: (t ++ u))), rfl, rfl, ((aY.trans ai)), dJ, dH⟩
 rintro bf _ _ ⟨adt, a9, ba, bb, rfl, rfl, W, dK, dL, dM⟩
 have hm := q4s cp
 refine Cr<|mV rfl<|aS rfl<|Te<|Ct ?_
 obtain ⟨rfl, rfl, rfl, rfl, rfl, rfl, rfl, rfl, rfl, rfl, rfl, rfl⟩ := j4A hm
 have zz := A.trans W
 have cD := dX.le zz
 have cE := dY.le zz
 have cG := dZ.le zz
 have cH := d0.le zz
 have cJ := d1.le zz
 have cK := d5.le zz
 have cO := d6.le zz
 have cP := c6.le W
 have cQ := da.le W
 exact rO ⟨adt, af, az, aA, aB, aC, aD, aE, aF, aG, aH, aI, aJ, aK, aL, aM, a9, aP, aQ, d, aR, aT, e, ah, ba, bb, rfl, rfl, cD, cE, cG, cH, cJ, cK, cO, dK, cP, cQ, dL, dM⟩ zz
 exact Rn
 exact Rn
theorem q1I (b : k8) (R : Hp) (H f g h i j k l d e I J) (ads : Int → Nat) (n o p q r s t u w x y z A B C T U D V W E F a c) (Y : FZ RT.str b.w o p f) (Z : FZ j3 b.w q r g) (aa : FZ w6 b.w s t h) (ab : FZ j6 b.w u w i) (ac : FZ w7 b.w x y j) (ad : FZ Q3 b.w z A k) (ae : FZ (RT.list j8) b.w B C l) (h5 : OS 59 (OT.fr j9) b.w (sv T d U) d D) (af : OS 127 (OT.fr v8) b.w (sv V e W) e E) (ag : OM rI (OT.fr (RT.key ads)) false false b.w F I a) (ah : OAr 85 z8 ads b.w J c) (K) (hm : X7 H f g h i j k l d e I J = some K):
 w8 Tryz.prog 61 [pb n, iv H] b ((n, Cl 57 [sv o f p, sv q g r, sv s h t, sv u i w, sv x j y, sv z k A, sv B l C, sv T d U, sv V e W, .map (some F)]) :: (D ++ (E ++ (a ++ (c ++ R))))) (fun v b' hp' => bv K = v ∧ (n, Cl 57 [sv o f p, sv q g r, sv s h t, sv u i w, sv x j y, sv z k A, sv B l C, sv T d U, sv V e W, .map (some F)]) :: (D ++ (E ++ (a ++ (c ++ R)))) = hp') := by
 refine fE 16 Tryz.func61 rfl Tryz.ntmps61 rfl ?_
 unfold X7 at hm
 refine Cr<|aS rfl<|Te ?_
 obtain ⟨X, L, O⟩ := bS hm
 refine Cj (fun S e' hp' => [(4, bv X)] = e' ∧ (n, Cl 57 [sv o f p, sv q g r, sv s h t, sv u i w, sv x j y, sv z k A, sv B l C, sv T d U, sv V e W, .map (some F)]) :: (D ++ (E ++ (a ++ (c ++ R)))) = hp' ∧ b.Le S) ?_ ?_
 have hm := L
 refine Cg<|mV rfl<|Tb rfl (q6 rfl rfl) (fun m => ?_) (fun m => ?_)
 rw [if_pos m] at hm
 refine mV rfl<|yS<|mV rfl<|yS<|mV rfl<|yS<|tS (sN rfl)<|yS<|tS (sF rfl V1)<|yS<|tS (sL 0 rfl q1p rfl rfl)<|yS<|tS (sE rfl q3O)<|yS<|tS (q3 rfl rfl)<|tS (pT rfl rfl)<|aS rfl<|Tn ?_
 obtain rfl := o1 hm
 exact jJ ⟨rfl, rfl, lr⟩
 rw [if_neg m] at hm
 refine mV rfl<|nO<|nO<|nO<|nO<|nO<|nO<|nO<|tS (pF rfl rfl)<|aS rfl<|Tn ?_
 obtain rfl := o1 hm
 exact jJ ⟨rfl, rfl, lr⟩
 rintro S _ _ ⟨rfl, rfl, G⟩
 have hm := O
 refine Ct ?_
 obtain rfl := o1 hm
 exact rO ⟨rfl, rfl⟩ G
theorem z5S (b : k8) (R : Hp) (S l m n o p q r s i j aj ak) (ads : Int → Nat) (x y z A B C D E F G H I J K L A3 c4 g A8 c9 h O d e) (aP : FZ RT.str b.w y z m) (aQ : FZ j3 b.w A B n) (aR : FZ w6 b.w C D o) (aT : FZ j6 b.w E F p) (aU : FZ w7 b.w G H q) (aV : FZ Q3 b.w I J r) (aW : FZ (RT.list j8) b.w K L s) (h5 : OS 59 (OT.fr j9) b.w (sv A3 i c4) i g) (aX : OS 127 (OT.fr v8) b.w (sv A8 j c9) j h) (aY : OM rI (OT.fr (RT.key ads)) false false b.w O aj d) (aZ : OAr 85 z8 ads b.w ak e) (ah k) (hm : q4z S l m n o p q r s i j aj ak = some (ah, k)):
 w8 Tryz.prog 19 [pb x, iv S, iv l] b ((x, Cl 57 [sv y m z, sv A n B, sv C o D, sv E p F, sv G q H, sv I r J, sv K s L, sv A3 i c4, sv A8 j c9, .map (some O)]) :: (g ++ (h ++ (d ++ (e ++ R))))) (fun v b' hp' => ∃ T, iv ah = v ∧ (x, Cl 57 [sv y m z, sv A n B, sv C o D, sv E p F, sv G q H, sv I r J, sv K s L, sv A3 k c4, sv A8 j c9, .map (some O)]) :: (T ++ (h ++ (d ++ (e ++ R)))) = hp' ∧ OS 59 (OT.fr j9) b'.w (sv A3 k c4) k T ∧ k.length = i.length) := by
 refine fE 43 Tryz.func19 rfl Tryz.ntmps19 rfl ?_
 unfold q4z at hm
 refine Cr<|aS rfl<|Te<|Cs<|Cb<|Cr<|mV rfl<|mV rfl ?_
 obtain ⟨aB, ab, hm⟩ := bS hm
 refine Z4 g h d e<|Z4 e g h d<|Z4 d e g h<|Z4 h d e g<|Z7 [_] [] g h d e R rfl<|Tg _ rfl q9D rfl (q1I _ _ S m n o p q r s i j aj ak ads x y z A B C D E F G H I J K L A3 c4 g A8 c9 h O d e aP aQ aR aT aU aV aW h5 aX aY aZ aB ab) ?_
 rintro _ aC _ a ⟨rfl, rfl⟩
 refine K6 [_] [] g h d e R rfl<|tS (sn2 rfl)<|aS rfl<|Te<|cM hm rfl (fun hm => ?_) fun hm => ?_
 refine Cr<|aS rfl<|Te<|Ct<|Xb<|Xr ?_
 obtain ⟨rfl, rfl⟩ := Z6 hm
 have al := h5.le a
 exact rO ⟨g, rfl, rfl, al, rfl⟩ a
 obtain ⟨aD, am, an⟩ := bS hm
 refine Cj (fun ai e' hp' => [(0, pb x), (1, iv S), (2, iv l), (12, bv aD)] = e' ∧ (x, Cl 57 [sv y m z, sv A n B, sv C o D, sv E p F, sv G q H, sv I r J, sv K s L, sv A3 i c4, sv A8 j c9, .map (some O)]) :: (g ++ (h ++ (d ++ (e ++ R)))) = hp' ∧ aC.Le ai) ?_ ?_
 have hm := am
 refine Cg<|mV rfl<|Tb rfl (q3 rfl rfl) (fun t => ?_) (fun t => ?_)
 rw [if_pos t] at hm
 refine mV rfl<|nO<|nO<|tS (pT rfl rfl)<|aS rfl<|Tn ?_
 obtain rfl := o1 hm
 exact jJ ⟨rfl, rfl, lr⟩
 rw [if_neg t] at hm
 refine mV rfl<|yS<|mV rfl<|yS<|tS (q5 rfl rfl)<|tS (pF rfl rfl)<|aS rfl<|Tn ?_
 obtain rfl := o1 hm
 exact jJ ⟨rfl, rfl, lr⟩
 rintro ai _ _ ⟨rfl, rfl, c⟩
 have hm := an
 refine cB hm rfl (fun hm => ?_) fun hm => ?_
 refine Cr<|aS rfl<|Te<|Ct<|Xb<|Xr ?_
 obtain ⟨rfl, rfl⟩ := Z6 hm
 have ao := (h5.le (a.trans c))
 exact rO ⟨g, rfl, rfl, ao, rfl⟩ (a.trans c)
 refine Cr<|mV rfl<|tS (sN rfl)<|tS (sF rfl V1)<|tS (sL 0 rfl q1p rfl rfl)<|mV rfl ?_
 obtain ⟨bc, aE, hm⟩ := bS hm
 obtain ⟨aF, aq, ar⟩ := iS aE
 have zz := a.trans c
 obtain ⟨a0, a1, bd, be, a2, au, ac, U, ad, a3, aL⟩ := OS.get (sz := 5) rfl (by decide) (h5.le zz) ar
 obtain ⟨⟨_, _, rfl, rfl, ⟨_, _, rfl, rfl, ⟨_, _, rfl, rfl, ⟨_, _, rfl, rfl, rfl⟩⟩⟩⟩, rfl⟩ := au
 refine tS (sI aF rfl rfl aq ad U q3O)<|tS (sQ rfl U q2U)<|tS (w9 rfl Q5 (fun w ho => ac w _ ho (.cons _ (Kb _ _)) 0 _ rfl))<|mV rfl ?_
 obtain ⟨_, V, hm⟩ := bS hm
 have V := (kS V).2
 refine tS (sa rfl rfl V)<|tS (q5 rfl rfl)<|aS rfl<|Te<|cI hm rfl (fun hm => ?_) fun hm => ?_
 refine Cr<|aS rfl<|Te<|Ct<|Xb<|Xr ?_
 obtain ⟨rfl, rfl⟩ := Z6 hm
 have av := h5.le zz
 exact rO ⟨g, rfl, rfl, av, rfl⟩ zz
 refine Ck<|Xm<|Xn<|Cr<|mV rfl<|tS (sN rfl)<|tS (sF rfl V1)<|tS (sL 0 rfl q1p rfl rfl)<|mV rfl ?_
 obtain ⟨u, aG, hm⟩ := bS hm
 obtain ⟨aH, aw, ax⟩ := iS aG
 have zy := a.trans c
 obtain ⟨a4, a5, bf, bg, a6, ay, ae, W, af, a7, aM⟩ := OS.get (sz := 5) rfl (by decide) (h5.le zy) ax
 obtain ⟨⟨_, _, rfl, rfl, ⟨_, _, rfl, rfl, ⟨_, _, rfl, rfl, ⟨_, _, rfl, rfl, rfl⟩⟩⟩⟩, rfl⟩ := ay
 refine tS (sI aH rfl rfl aw af W q3O)<|tS (sQ rfl W q2U)<|tS (w9 rfl Q5 (fun w ho => ae w _ ho (.cons _ (Kb _ _)) 0 _ rfl))<|mV rfl ?_
 obtain ⟨_, X, hm⟩ := bS hm
 have X := (kS X).2
 refine tS (sa rfl rfl X) ?_
 obtain ⟨f, aI, hm⟩ := bS hm
 obtain ⟨aJ, Y, Z⟩ := iS aI
 obtain ⟨a8, a9, bh, bi, ba, az, aN, aa, ag, bb, aO⟩ := OS.get (sz := 5) rfl (by decide) (h5.le zy) Z
 obtain ⟨⟨_, _, rfl, rfl, ⟨_, _, rfl, rfl, ⟨_, _, rfl, rfl, ⟨_, _, rfl, rfl, rfl⟩⟩⟩⟩, rfl⟩ := az
 refine tS (sI aJ rfl rfl Y ag aa q3O)<|tS (sQ rfl aa q2U)<|tD (uP Y (sz := 5) (a' := (⟨u.axles + l, f.disturbed, f.position, f.moving, f.failed⟩ : q8)) rfl [_] (h ++ (d ++ (e ++ R))) 0 1 [iv (u.axles + l)] rfl (h5.le zy) Z rfl rfl rfl z1I rfl (mc rfl mn) (fun cs hsj hh => by obtain ⟨⟨_, _, rfl, rfl, ⟨_, _, rfl, rfl, ⟨_, _, rfl, rfl, ⟨_, _, rfl, rfl, rfl⟩⟩⟩⟩, rfl⟩ := hh; exact ⟨by first | decide | exact Nat.le_refl _, ⟨[iv (u.axles + l)], _, rfl, rfl, ⟨[bv f.disturbed], _, rfl, rfl, ⟨[iv f.position], _, rfl, rfl, ⟨[iv f.moving], _, rfl, rfl, rfl⟩⟩⟩⟩, rfl⟩)) ?_
 rintro _ _ ⟨aA, rfl, aK⟩
 refine Z9 0 rfl (o' := Cl 57 [sv y m z, sv A n B, sv C o D, sv E p F, sv G q H, sv I r J, sv K s L, .slice A3 (put i S (⟨u.axles + l, f.disturbed, f.position, f.moving, f.failed⟩ : q8)).length c4, sv A8 j c9, .map (some O)]) (by simp only [sv, v7])<|Te<|Cr<|aS rfl<|Te<|Ct ?_
 obtain ⟨rfl, rfl⟩ := Z6 hm
 exact rO ⟨aA, rfl, rfl, aK, ((v7 _ _ _).trans rfl)⟩ zy
theorem q9V (b : k8) (R : Hp) (g : w5) (l m n o h) (hm : q0P g l m = some h):
 w8 Tryz.prog 106 [.agg #[iv g.A, iv g.EndA, iv g.B, iv g.EndB], pb n, pb o] b ((n, Cl 3 [iv l]) :: (o, Cl 3 [iv m]) :: R) (fun v b' hp' => bv h = v ∧ (n, Cl 3 [iv l]) :: (o, Cl 3 [iv m]) :: R = hp') := by
 refine fE 27 Tryz.func106 rfl Tryz.ntmps106 rfl ?_
 unfold q0P at hm
 refine Cr<|tD (uB _ rfl rfl) ?_
 rintro _ _ ⟨q, rfl, rfl⟩
 refine aS rfl<|Te ?_
 obtain ⟨p, i, j⟩ := bS hm
 refine Cj (fun k e' hp' => [(4, bv p)] = e' ∧ (n, Cl 3 [iv l]) :: (o, Cl 3 [iv m]) :: R = hp' ∧ b.Le k) ?_ ?_
 have hm := i
 refine Cg<|tS (sF rfl q3w)<|tS (sL 0 rfl Q5 rfl rfl)<|tS (sL 1 rfl Q5 rfl rfl)<|Tb rfl (q1 rfl rfl) (fun a => ?_) (fun a => ?_)
 rw [if_pos a] at hm
 refine mV rfl<|yS<|tS (sF rfl q5b)<|yS<|tS (sL 0 rfl Q5 rfl rfl)<|yS<|tS (sL 2 rfl Q5 rfl rfl)<|yS<|Tb rfl (q1 rfl rfl) (fun c => ?_) (fun c => ?_)
 rw [if_pos c] at hm
 refine tS (pT rfl rfl)<|mV rfl<|nO<|nO<|nO<|nO<|nO<|nO<|nO<|nO<|nO<|nO<|tS (pT rfl rfl)<|aS rfl<|Tn ?_
 obtain rfl := o1 hm
 exact jJ ⟨rfl, rfl, lr⟩
 rw [if_neg c] at hm
 refine tS (pT rfl rfl)<|mV rfl<|yS<|tS (sF rfl q3w)<|yS<|tS (sL 0 rfl Q5 rfl rfl)<|yS<|tS (sL 2 rfl Q5 rfl rfl)<|yS<|Tb rfl (q1 rfl rfl) (fun d => ?_) (fun d => ?_)
 rw [if_pos d] at hm
 refine yS<|mV rfl<|yS<|tS (sF rfl q5b)<|yS<|tS (sL 0 rfl Q5 rfl rfl)<|yS<|tS (sL 1 rfl Q5 rfl rfl)<|yS<|tS (q1 rfl rfl)<|yS<|tS (pT rfl rfl)<|tS (pF rfl rfl)<|aS rfl<|Tn ?_
 obtain rfl := o1 hm
 exact jJ ⟨rfl, rfl, lr⟩
 rw [if_neg d] at hm
 refine yS<|mV rfl<|nO<|nO<|nO<|nO<|yS<|tS (pF rfl rfl)<|tS (pF rfl rfl)<|aS rfl<|Tn ?_
 obtain rfl := o1 hm
 exact jJ ⟨rfl, rfl, lr⟩
 rw [if_neg a] at hm
 refine mV rfl<|nO<|nO<|nO<|nO<|tS (pF rfl rfl)<|mV rfl<|yS<|tS (sF rfl q3w)<|yS<|tS (sL 0 rfl Q5 rfl rfl)<|yS<|tS (sL 2 rfl Q5 rfl rfl)<|yS<|Tb rfl (q1 rfl rfl) (fun e => ?_) (fun e => ?_)
 rw [if_pos e] at hm
 refine yS<|mV rfl<|yS<|tS (sF rfl q5b)<|yS<|tS (sL 0 rfl Q5 rfl rfl)<|yS<|tS (sL 1 rfl Q5 rfl rfl)<|yS<|tS (q1 rfl rfl)<|yS<|tS (pT rfl rfl)<|tS (pF rfl rfl)<|aS rfl<|Tn ?_
 obtain rfl := o1 hm
 exact jJ ⟨rfl, rfl, lr⟩
 rw [if_neg e] at hm
 refine yS<|mV rfl<|nO<|nO<|nO<|nO<|yS<|tS (pF rfl rfl)<|tS (pF rfl rfl)<|aS rfl<|Tn ?_
 obtain rfl := o1 hm
 exact jJ ⟨rfl, rfl, lr⟩
 rintro k _ _ ⟨rfl, rfl, f⟩
 have hm := j
 refine Ct ?_
 obtain rfl := o1 hm
 exact rO ⟨rfl, rfl⟩ f
theorem q8E (b : k8) (R : Hp) (p q r i k C D) (G : FZ w6 b.w C D p) (s) (hm : q2J p q r = some s):
 w8 Tryz.prog 126 [sv C p D, .func (.func 106) #[] #[pb i, pb k]] b ((i, Cl 3 [iv q]) :: (k, Cl 3 [iv r]) :: R) (fun v b' hp' => iv s = v ∧ (i, Cl 3 [iv q]) :: (k, Cl 3 [iv r]) :: R = hp') := by
 refine fE 19 Tryz.func126 rfl Tryz.ntmps126 rfl ?_
 unfold q2J at hm
 refine Cr<|aS rfl<|Te<|Cs<|Cr<|mV rfl<|tS (sE rfl j0d)<|mV rfl<|Te<|Cb ?_
 have H : p.length ≤ 9223372036854775807 := (FZ.bd G)
 refine Cp 1 rfl<|Cp 1 rfl ?_
 obtain ⟨L, t, e⟩ := bS hm
 refine lF (fun w => fun _ => fun l e' hp' => [(0, sv C p D), (1, .func (.func 106) #[] #[pb i, pb k]), (7, iv ((p.length : Int))), (8, iv ((w : Int)))] = e' ∧ (i, Cl 3 [iv q]) :: (k, Cl 3 [iv r]) :: R = hp' ∧ b.Le l) t ⟨rfl, rfl, lr⟩ ?_ ?_
 rintro w _ l _ _ I B ⟨rfl, rfl, a⟩ c f
 unfold q1a at c
 have hm := c
 refine Cr<|tS (lT rfl rfl (by omega))<|Te<|Cs<|k9 rfl<|Ck<|Xn<|Cs<|Cb<|Cr<|mV rfl<|aS rfl<|Te<|Cr<|mV rfl<|mV rfl<|mV rfl ?_
 obtain ⟨d, E, J, x, K, y, m, h, n, hm⟩ := bF (sz := 4) hm (G.le a)
 obtain ⟨_, _, rfl, rfl, ⟨_, _, rfl, rfl, ⟨_, _, rfl, rfl, rfl⟩⟩⟩ := y
 refine tS (sI E rfl rfl x n h j0d)<|tS (sP (vs := [iv d.A, iv d.EndA, iv d.B, iv d.EndB]) 4 rfl z6S h rfl (fun j u hu => m j u hu)) ?_
 obtain ⟨F, o, hm⟩ := bS hm
 refine Q9 1 rfl<|Q9 1 rfl<|Tv #[] #[pb i, pb k] [.agg #[iv d.A, iv d.EndA, iv d.B, iv d.EndB]] rfl rfl j3W rfl (q9V _ _ d q r i k F o) ?_
 rintro _ O _ g ⟨rfl, rfl⟩
 refine Te<|cB hm rfl (fun hm => ?_) fun hm => ?_
 refine Cr<|mV rfl<|aS rfl<|Te<|Ct<|Xb<|Xr<|Xr<|Xb<|Xr ?_
 have z := f _ (Kd hm).symm
 rw [z] at e
 have hm := J9 e
 obtain rfl := o1 hm
 exact rO ⟨rfl, rfl⟩ (a.trans g)
 refine Ck<|Xm<|Xn<|Cg<|tS (sa rfl rfl (by omega))<|mV rfl<|Tn ?_
 exact jM hm ⟨rfl, rfl, ((a.trans g))⟩
 rintro _ l _ _ ⟨rfl, rfl, a⟩ A
 rw [A] at e
 have hm := H4 e
 refine Cr<|tS (lF rfl rfl (by omega))<|Te<|Cs<|k7 rfl<|Ce<|Xe<|Xe<|Xo<|Xn<|Cr<|aS rfl<|Te<|Ct ?_
 obtain rfl := o1 hm
 exact rO ⟨rfl, rfl⟩ a
theorem q6R (b : k8) (R : Hp) (e f g h i j k) (m : FZ w6 b.w j k e) (d) (hm : q0a e f g = some d):
 w8 Tryz.prog 105 [sv j e k, .func (.func 106) #[] #[pb h, pb i]] b ((h, Cl 3 [iv f]) :: (i, Cl 3 [iv g]) :: R) (fun v b' hp' => bv d = v ∧ (h, Cl 3 [iv f]) :: (i, Cl 3 [iv g]) :: R = hp') := by
 refine fE 9 Tryz.func105 rfl Tryz.ntmps105 rfl ?_
 unfold q0a at hm
 refine Cr<|aS rfl<|Te<|Cr<|mV rfl<|mV rfl ?_
 obtain ⟨l, a, hm⟩ := bS hm
 refine Q9 1 rfl<|Q9 1 rfl<|Tg _ rfl j3M rfl (q8E _ _ e f g h i j k m l a) ?_
 rintro _ n _ c ⟨rfl, rfl⟩
 refine tS (q6 rfl rfl)<|aS rfl<|Te<|Ct ?_
 obtain rfl := o1 hm
 exact rO ⟨rfl, rfl⟩ c
theorem z2c (b : k8) (R : Hp) (o p g h a i j k l c d J K) (ads : Int → Nat) (q r s t u m n w x y z A B C D O S E T U F G e f) (Z : FZ RT.str b.w r s g) (aa : FZ j3 b.w t u h) (V : FZ w6 b.w m n a) (ab : FZ j6 b.w w x i) (ac : FZ w7 b.w y z j) (ad : FZ Q3 b.w A B k) (ae : FZ (RT.list j8) b.w C D l) (h5 : OS 59 (OT.fr j9) b.w (sv O c S) c E) (af : OS 127 (OT.fr v8) b.w (sv T d U) d F) (ag : OM rI (OT.fr (RT.key ads)) false false b.w G J e) (ah : OAr 85 z8 ads b.w K f) (L) (hm : q2f o p g h a i j k l c d J K = some L):
 w8 Tryz.prog 62 [pb q, iv o, iv p] b ((q, Cl 57 [sv r g s, sv t h u, sv m a n, sv w i x, sv y j z, sv A k B, sv C l D, sv O c S, sv T d U, .map (some G)]) :: (E ++ (F ++ (e ++ (f ++ R))))) (fun v b' hp' => bv L = v ∧ (q, Cl 57 [sv r g s, sv t h u, sv m a n, sv w i x, sv y j z, sv A k B, sv C l D, sv O c S, sv T d U, .map (some G)]) :: (E ++ (F ++ (e ++ (f ++ R)))) = hp') := by
 refine fE 14 Tryz.func62 rfl Tryz.ntmps62 rfl ?_
 unfold q2f at hm
 refine Cr<|tD (uB _ rfl rfl) ?_
 rintro _ _ ⟨W, rfl, rfl⟩
 refine tD (uB _ rfl rfl) ?_
 rintro _ _ ⟨X, rfl, rfl⟩
 refine aS rfl<|Te<|Cr<|mV rfl<|tS (sN rfl)<|tS (sF rfl q5p)<|tS (sF rfl q9l)<|tS (sL 2 rfl z7r rfl rfl)<|tS (q5l _ _ rfl rfl) ?_
 obtain ⟨Y, H, hm⟩ := bS hm
 refine Q9 1 rfl<|Tg _ rfl j3X rfl (q6R _ _ a o p W X m n V Y H) ?_
 rintro _ ai _ I ⟨rfl, rfl⟩
 refine aS rfl<|Te<|Ct ?_
 obtain rfl := o1 hm
 exact rO ⟨rfl, rfl⟩ I
theorem z4P (b : k8) (R : Hp) (S O J X Y Z aa ab ac ad T U ci cj) (ads : Int → Nat) (bd af ag ah ai aj ak al am an ao aq ar au av A3 c4 F A8 c9 g ae o l) (eq : FZ RT.str b.w af ag X) (dh : FZ j3 b.w ah ai Y) (er : FZ w6 b.w aj ak Z) (es : FZ j6 b.w al am aa) (et : FZ w7 b.w an ao ab) (eu : FZ Q3 b.w aq ar ac) (ev : FZ (RT.list j8) b.w au av ad) (h5 : OS 59 (OT.fr j9) b.w (sv A3 T c4) T F) (ew : OS 127 (OT.fr v8) b.w (sv A8 U c9) U g) (a2 : OM rI (OT.fr (RT.key ads)) false false b.w ae ci o) (a3 : OAr 85 z8 ads b.w cj l) (ck a8 cl cm) (hm : q3E S O J X Y Z aa ab ac ad T U ci cj = some (ck, a8, cl, cm)):
 w8 Tryz.prog 20 [pb bd, iv S, iv O, iv J] b ((bd, Cl 57 [sv af X ag, sv ah Y ai, sv aj Z ak, sv al aa am, sv an ab ao, sv aq ac ar, sv au ad av, sv A3 T c4, sv A8 U c9, .map (some ae)]) :: (F ++ (g ++ (o ++ (l ++ R))))) (fun v b' hp' => ∃ bR bT bU, iv ck = v ∧ (bd, Cl 57 [sv af X ag, sv ah Y ai, sv aj Z ak, sv al aa am, sv an ab ao, sv aq ac ar, sv au ad av, sv A3 a8 c4, sv A8 U c9, .map (some ae)]) :: (bR ++ (g ++ (bT ++ (bU ++ R)))) = hp' ∧ OS 59 (OT.fr j9) b'.w (sv A3 a8 c4) a8 bR ∧ a8.length = T.length ∧ OM rI (OT.fr (RT.key ads)) false false b'.w ae cl bT ∧ OAr 85 z8 ads b'.w cm bU) := by
 refine fE 145 Tryz.func20 rfl Tryz.ntmps20 rfl ?_
 unfold q3E at hm
 refine Cr<|aS rfl<|Te<|Cs<|Cb<|Cr<|mV rfl<|mV rfl ?_
 obtain ⟨cn, co, hm⟩ := bS hm
 refine Z4 F g o l<|Z4 l F g o<|Z4 o l F g<|Z4 g o l F<|Z7 [_] [] F g o l R rfl<|Tg _ rfl q9D rfl (q1I _ _ S X Y Z aa ab ac ad T U ci cj ads bd af ag ah ai aj ak al am an ao aq ar au av A3 c4 F A8 c9 g ae o l eq dh er es et eu ev h5 ew a2 a3 cn co) ?_
 rintro _ gx _ a ⟨rfl, rfl⟩
 refine K6 [_] [] F g o l R rfl ?_
 rcases Kg cn with aM | aM
 rw [if_pos aM] at hm
 refine Tr 18 rfl (v' := .bool true) (by rw [aM] <;> rfl)<|tS (K7 rfl)<|mV rfl<|yS<|mV rfl<|yS<|mV rfl<|yS ?_
 obtain ⟨ex, cp, hm⟩ := bS hm
 refine Z4 F g o l<|Z4 l F g o<|Z4 o l F g<|Z4 g o l F<|Z7 [_] [] F g o l R rfl<|Tg _ rfl q9D rfl (q1I _ _ O X Y Z aa ab ac ad T U ci cj ads bd af ag ah ai aj ak al am an ao aq ar au av A3 c4 F A8 c9 g ae o l (eq.le a) (dh.le a) (er.le a) (es.le a) (et.le a) (eu.le a) (ev.le a) (h5.le a) (ew.le a) (a2.le a) (a3.le a) ex cp) ?_
 rintro _ gy _ e ⟨rfl, rfl⟩
 refine K6 [_] [] F g o l R rfl<|yS<|tS (sn2 rfl)<|tS (pF rfl rfl)<|aS rfl<|Te<|cM hm rfl (fun hm => ?_) fun hm => ?_
 refine Cr<|aS rfl<|Te<|Ct<|Xb<|Xr ?_
 obtain ⟨rfl, rfl, rfl, rfl⟩ := q7j hm
 have zz := a.trans e
 have di := h5.le zz
 have dj := a2.le zz
 have dk := a3.le zz
 exact rO ⟨F, o, l, rfl, rfl, di, rfl, dj, dk⟩ zz
 refine Cr<|mV rfl<|mV rfl<|mV rfl ?_
 obtain ⟨ey, cq, hm⟩ := bS hm
 have zy := a.trans e
 refine Z4 F g o l<|Z4 l F g o<|Z4 o l F g<|Z4 g o l F<|Z7 [_] [] F g o l R rfl<|Tg _ rfl j5s rfl (z2c _ _ S O X Y Z aa ab ac ad T U ci cj ads bd af ag ah ai aj ak al am an ao aq ar au av A3 c4 F A8 c9 g ae o l (eq.le zy) (dh.le zy) (er.le zy) (es.le zy) (et.le zy) (eu.le zy) (ev.le zy) (h5.le zy) (ew.le zy) (a2.le zy) (a3.le zy) ey cq) ?_
 rintro _ cr _ k ⟨rfl, rfl⟩
 refine K6 [_] [] F g o l R rfl<|tS (sn2 rfl)<|aS rfl<|Te<|cM hm rfl (fun hm => ?_) fun hm => ?_
 refine Cr<|aS rfl<|Te<|Ct<|Xb<|Xr ?_
 obtain ⟨rfl, rfl, rfl, rfl⟩ := q7j hm
 have zx := a.trans (e.trans k)
 have dl := h5.le zx
 have dm := a2.le zx
 have dn := a3.le zx
 exact rO ⟨F, o, l, rfl, rfl, dl, rfl, dm, dn⟩ zx
 refine Cr<|mV rfl<|Tb rfl (q3 rfl rfl) (fun be => ?_) (fun be => ?_)
 rw [if_pos be] at hm
 refine mV rfl<|nO<|nO<|tS (pT rfl rfl)<|aS rfl<|Te<|k9 rfl<|Cr<|aS rfl<|Te<|Ct<|Xb<|Xr ?_
 obtain ⟨rfl, rfl, rfl, rfl⟩ := q7j hm
 have zw := a.trans (e.trans k)
 have dp := h5.le zw
 have dq := a2.le zw
 have dr := a3.le zw
 exact rO ⟨F, o, l, rfl, rfl, dp, rfl, dq, dr⟩ zw
 rw [if_neg be] at hm
 refine mV rfl<|yS<|mV rfl<|yS<|tS (q5 rfl rfl)<|tS (pF rfl rfl)<|aS rfl<|Te<|cI hm rfl (fun hm => ?_) fun hm => ?_
 refine Cr<|aS rfl<|Te<|Ct<|Xb<|Xr ?_
 obtain ⟨rfl, rfl, rfl, rfl⟩ := q7j hm
 have zv := a.trans (e.trans k)
 have ds := h5.le zv
 have dt := a2.le zv
 have du := a3.le zv
 exact rO ⟨F, o, l, rfl, rfl, ds, rfl, dt, du⟩ zv
 refine Ck<|Xm<|Xn<|Cs ?_
 obtain ⟨f, ez, hm⟩ := bS hm
 obtain ⟨gz, eA, hm⟩ := bS hm
 refine Di mixed (.refl _)<|E0 0 rfl (sM rfl)<|E0 1 rfl (sN rfl)<|E0 2 rfl (sF rfl V1)<|Es 3 rfl (sL 0 rfl q1p rfl rfl)<|E0 4 rfl (sM rfl) ?_
 obtain ⟨ct, bf, bg⟩ := iS ez
 have zu := a.trans (e.trans k)
 obtain ⟨fB, fC, gA, gB, fD, dv, bA, I, cu, fF, fk⟩ := OS.get (sz := 5) rfl (by decide) (h5.le zu) bg
 obtain ⟨⟨_, _, rfl, rfl, ⟨_, _, rfl, rfl, ⟨_, _, rfl, rfl, ⟨_, _, rfl, rfl, rfl⟩⟩⟩⟩, rfl⟩ := dv
 refine E0 5 rfl (sI ct rfl rfl bf cu I q3O)<|E0 6 rfl (sM rfl)<|E0 7 rfl (sN rfl)<|E0 8 rfl (sF rfl V1)<|Es 9 rfl (sL 0 rfl q1p rfl rfl)<|E0 10 rfl (sM rfl) ?_
 obtain ⟨bB, dw, dx⟩ := iS eA
 obtain ⟨fG, fH, gC, gD, fI, dy, cv, bh, cw, fJ, fl⟩ := OS.get (sz := 5) rfl (by decide) (h5.le zu) dx
 obtain ⟨⟨_, _, rfl, rfl, ⟨_, _, rfl, rfl, ⟨_, _, rfl, rfl, ⟨_, _, rfl, rfl, rfl⟩⟩⟩⟩, rfl⟩ := dy
 refine E0 11 rfl (sI bB rfl rfl dw cw bh q3O)<|E0 12 rfl (sA rfl)<|E0 13 rfl (sA rfl)<|Eo<|Dd (by kernel_rfl)<|Xn<|Cs<|Cb<|Cr<|mV rfl<|tS (Q8 rfl bh)<|tS (sQ rfl bh q2U)<|tS (w9 rfl Q5 (fun w ho => cv w _ ho (.cons _ (Kb _ _)) 0 _ rfl))<|mV rfl ?_
 obtain ⟨_, bC, hm⟩ := bS hm
 have bC := (kS bC).2
 refine tS (sa rfl rfl bC)<|tS (q5 rfl rfl)<|aS rfl<|Te<|cI hm rfl (fun hm => ?_) fun hm => ?_
 refine Cr<|aS rfl<|Te<|Ct<|Xb<|Xr ?_
 obtain ⟨rfl, rfl, rfl, rfl⟩ := q7j hm
 have dz := h5.le zu
 have dA := a2.le zu
 have dB := a3.le zu
 exact rO ⟨F, o, l, rfl, rfl, dz, rfl, dA, dB⟩ zu
 refine Cr<|mV rfl<|tS (Q8 rfl I)<|tS (sQ rfl I q2U)<|tS (w9 rfl Q5 (fun w ho => bA w _ ho (.cons _ (Kb _ _)) 0 _ rfl))<|mV rfl<|tS (q6 rfl rfl)<|aS rfl<|Te<|cI hm rfl (fun hm => ?_) fun hm => ?_
 refine Cg<|mV rfl<|tS (Q8 rfl I)<|tS (sQ rfl I q2U)<|tS (w9 rfl Q5 (fun w ho => bA w _ ho (.cons _ (Kb _ _)) 0 _ rfl))<|mV rfl ?_
 obtain ⟨_, bD, hm⟩ := bS hm
 have bD := (kS bD).2
 have zt := a.trans (e.trans k)
 refine tS (sb rfl rfl bD)<|tS (Q8 rfl I)<|tS (sQ rfl I q2U)<|tD (uP bf (sz := 5) (a' := (⟨f.axles - J, f.disturbed, f.position, f.moving, f.failed⟩ : q8)) rfl [_] (g ++ (o ++ (l ++ R))) 0 1 [iv (f.axles - J)] rfl (h5.le zt) bg rfl rfl rfl z1I rfl (mc rfl mn) (fun cs hsj hh => by obtain ⟨⟨_, _, rfl, rfl, ⟨_, _, rfl, rfl, ⟨_, _, rfl, rfl, ⟨_, _, rfl, rfl, rfl⟩⟩⟩⟩, rfl⟩ := hh; exact ⟨by first | decide | exact Nat.le_refl _, ⟨[iv (f.axles - J)], _, rfl, rfl, ⟨[bv f.disturbed], _, rfl, rfl, ⟨[iv f.position], _, rfl, rfl, ⟨[iv f.moving], _, rfl, rfl, rfl⟩⟩⟩⟩, rfl⟩)) ?_
 rintro _ _ ⟨fK, rfl, cx⟩
 refine Z9 0 rfl (o' := Cl 57 [sv af X ag, sv ah Y ai, sv aj Z ak, sv al aa am, sv an ab ao, sv aq ac ar, sv au ad av, .slice A3 (put T S (⟨f.axles - J, f.disturbed, f.position, f.moving, f.failed⟩ : q8)).length c4, sv A8 U c9, .map (some ae)]) (by simp only [sv, v7])<|Tn<|Xm<|Xn<|Cr ?_
 obtain ⟨p, eB, hm⟩ := bS hm
 obtain ⟨eC, dC, bV⟩ := iS eB
 obtain rfl : bB = eC := by omega
 obtain ⟨fL, fM, gE, gF, fN, dD, cy, a4, fm, fO, fn⟩ := OS.get (sz := 5) rfl (by decide) cx bV
 obtain ⟨⟨_, _, rfl, rfl, ⟨_, _, rfl, rfl, ⟨_, _, rfl, rfl, ⟨_, _, rfl, rfl, rfl⟩⟩⟩⟩, rfl⟩ := dD
 refine mV rfl<|tS (Q8 rfl a4)<|tS (sQ rfl a4 q2U)<|tS (w9 rfl Q5 (fun w ho => cy w _ ho (.cons _ (Kb _ _)) 0 _ rfl))<|mV rfl ?_
 obtain ⟨_, bE, hm⟩ := bS hm
 have bE := (kS bE).2
 refine tS (sa rfl rfl bE)<|tS (Q8 rfl a4)<|tS (sQ rfl a4 q2U)<|tD (uP dC (sz := 5) (a' := (⟨p.axles + J, p.disturbed, p.position, p.moving, p.failed⟩ : q8)) rfl [_] (g ++ (o ++ (l ++ R))) 0 1 [iv (p.axles + J)] rfl cx bV rfl rfl rfl z1I rfl (mc rfl mn) (fun cs hsj hh => by obtain ⟨⟨_, _, rfl, rfl, ⟨_, _, rfl, rfl, ⟨_, _, rfl, rfl, ⟨_, _, rfl, rfl, rfl⟩⟩⟩⟩, rfl⟩ := hh; exact ⟨by first | decide | exact Nat.le_refl _, ⟨[iv (p.axles + J)], _, rfl, rfl, ⟨[bv p.disturbed], _, rfl, rfl, ⟨[iv p.position], _, rfl, rfl, ⟨[iv p.moving], _, rfl, rfl, rfl⟩⟩⟩⟩, rfl⟩)) ?_
 rintro _ _ ⟨h, rfl, eD⟩
 refine Z9 0 rfl (o' := Cl 57 [sv af X ag, sv ah Y ai, sv aj Z ak, sv al aa am, sv an ab ao, sv aq ac ar, sv au ad av, .slice A3 (put (put T S (⟨f.axles - J, f.disturbed, f.position, f.moving, f.failed⟩ : q8)) O (⟨p.axles + J, p.disturbed, p.position, p.moving, p.failed⟩ : q8)).length c4, sv A8 U c9, .map (some ae)]) (by simp only [sv, v7])<|Te<|Cs<|Cr<|mV rfl<|tS (sN rfl)<|tS (sF rfl q0J)<|tS (sL 0 rfl q5O rfl rfl)<|j0t h g o<|tD (q7u [_] (h ++ (g ++ (l ++ R))) rfl (a2.le zt) q3a rfl) ?_
 rintro _ _ ⟨bi, a5, rfl, rfl, eE⟩
 refine Te<|Cb<|F0 a5 h g l<|F0 l a5 h g<|F0 g l a5 h<|F0 h g l a5 ?_
 obtain ⟨gG, dE, bW⟩ := bS hm
 refine z1i (fun cz => fun bj e' hp' => ∃ B, [(2, iv O), (103, pb bi)] = e' ∧ (bd, Cl 57 [sv af X ag, sv ah Y ai, sv aj Z ak, sv al aa am, sv an ab ao, sv aq ac ar, sv au ad av, .slice A3 (put (put T S (⟨f.axles - J, f.disturbed, f.position, f.moving, f.failed⟩ : q8)) O (⟨p.axles + J, p.disturbed, p.position, p.moving, p.failed⟩ : q8)).length c4, sv A8 U c9, .map (some ae)]) :: (h ++ (g ++ (B ++ R))) = hp' ∧ cr.Le bj ∧ OAr 85 z8 ads bj.w cz B) dE eE (e' := [(2, iv O), (103, pb bi)]) ⟨rfl, rfl, trivial⟩ [_] (h ++ (g ++ (l ++ R))) rfl (.refl _) ⟨l, rfl, rfl, lr, (a3.le zt)⟩ ?_
 rintro cz gH bj _ _ bX ⟨B, rfl, rfl, aN, bG⟩ fo cA hd2597 hall2598
 refine z5R [_] bX (h ++ (g ++ (B ++ R))) ?_ rfl
 refine Cr<|z0v [_] (h ++ (g ++ (B ++ R))) rfl rfl rfl cA (fun hnil2600 => ?_) (fun bk gI gJ gK m hperm2606 dF eG => ?_)
 obtain ⟨bY, cg, eH⟩ := MIt.done cA
 refine q7W [_] bX bY (h ++ (g ++ (B ++ R))) rfl cg ?_
 have hend2612 := hd2597 hnil2600
 refine tS (j5 rfl rfl)<|Te<|Cs<|k7 rfl<|Ce<|Xe<|Xe<|Xo ?_
 rw [hend2612] at bW
 have hm := H4 bW
 refine Xn<|Cr<|aS rfl<|Te<|Ct ?_
 obtain ⟨rfl, rfl, rfl, rfl⟩ := q7j hm
 have dH := eD.le aN
 exact rO ⟨h, bY, B, rfl, rfl, dH, ((v7 _ _ _).trans ((v7 _ _ _).trans rfl)), eH, bG⟩ (a.trans (e.trans (k.trans aN)))
 obtain ⟨gL, a9, fg⟩ := hall2598 _ _ hperm2606
 have aY := a9
 unfold H6 at aY
 have hm := aY
 refine tS (j5 rfl rfl)<|Te<|Cs<|k9 rfl<|Ck<|Xn<|Cb<|Cr ?_
 obtain ⟨cC, cD, bl, bm, dI⟩ := MIx.entry Tryz.prog dF
 obtain rfl : cC = iv bk.1 := by have bl : [cC] = [iv bk.1] := bl; injection bl
 obtain rfl : cD = kv ads bk.2 := by have bm : [cD] = [kv ads bk.2] := bm; injection bm
 refine tS (dI (.cons _ (Kb _ _)) rfl)<|tS (j5 rfl rfl)<|aS rfl<|Te<|Cr<|mV rfl ?_
 obtain ⟨aW, bH, hm⟩ := bS hm
 obtain ⟨bI, eI, hm⟩ := bS hm
 refine Tr 12 rfl (v' := .pointer (some ⟨(ads aW), 0, none⟩)) (by rw [bH]; rfl)<|Tr 107 rfl (v' := .pointer (some ⟨(ads aW), 0, none⟩)) (by rw [bH]; rfl)<|Tr 108 rfl (v' := .pointer (some ⟨(ads aW), 0, none⟩)) (by rw [bH]; rfl) ?_
 obtain ⟨fP, fQ, aO, bZ, dJ, hf2631⟩ := OAr.take bG eI
 obtain ⟨eJ, eK, gM, gN, gO, gP, aP, gQ, gR, aQ, rfl, cE, gS, gT, gU, rfl⟩ := dJ
 refine Z4 m h g B<|q1W [_] B aO aP aQ (m ++ (h ++ (g ++ R))) rfl bZ<|tS (sN rfl)<|tS (sF rfl q2t)<|tS (sF rfl q1b)<|tS (sL 0 rfl q4M rfl rfl)<|tS (sE rfl q7O)<|mV rfl<|Te<|Cb<|q6I aP aQ aO<|q6I aO aP aQ<|q6I aQ aO aP<|z3G [_] B aO aP aQ (m ++ (h ++ (g ++ R))) rfl bZ ?_
 have fR : bI.Route.Steps.length ≤ 9223372036854775807 := (FZ.bd cE)
 refine F0 B m h g<|F0 g B m h<|F0 h g B m ?_
 obtain ⟨bn, dK, dL⟩ := bS hm
 refine lS (fun K => fun bn => fun bo e' hp' => ∃ z, [(2, iv O), (12, kv ads (some aW)), (103, pb bi), (112, sv eJ bI.Route.Steps eK), (113, iv ((bI.Route.Steps.length : Int))), (114, iv ((K : Int)))] = e' ∧ (bd, Cl 57 [sv af X ag, sv ah Y ai, sv aj Z ak, sv al aa am, sv an ab ao, sv aq ac ar, sv au ad av, .slice A3 (put (put T S (⟨f.axles - J, f.disturbed, f.position, f.moving, f.failed⟩ : q8)) O (⟨p.axles + J, p.disturbed, p.position, p.moving, p.failed⟩ : q8)).length c4, sv A8 U c9, .map (some ae)]) :: (m ++ (h ++ (g ++ (z ++ R)))) = hp' ∧ bj.Le bo ∧ OAr 85 z8 ads bo.w bn z) dK ⟨B, rfl, rfl, lr, bG⟩ ?_ ?_
 rintro K bn bo _ _ fS fh ⟨z, rfl, rfl, G, ba⟩ aZ
 unfold q1h at aZ
 have hm := aZ
 refine Cr<|tS (lT rfl rfl (by omega))<|Te<|Cs<|k9 rfl<|Ck<|Xn<|Cs<|Cb<|Cr<|mV rfl ?_
 obtain ⟨bJ, eL, fT, dM, fU, dN, cG, b0, cH, hm⟩ := bF (sz := 3) hm (cE.le G)
 obtain ⟨_, _, rfl, rfl, ⟨_, _, rfl, rfl, rfl⟩⟩ := dN
 refine tS (sI eL rfl rfl dM cH b0 q7O)<|tS (sP (vs := [iv bJ.Section, iv bJ.In, iv bJ.Out]) 3 rfl q4H b0 rfl (fun j u hu => cG j u hu))<|tD (uA [iv 0, iv 0, iv 0] q5j rfl) ?_
 rintro _ _ ⟨gV, rfl, rfl⟩
 refine aS rfl<|tD (uN (vs := [_, _, _]) 0 3 rfl rfl rfl q6s rfl (mc rfl (mc rfl (mc rfl mn))) rfl (by simp)) ?_
 rintro _ _ rfl
 refine Te<|Cr<|tS (sF rfl V8)<|tS (sL 0 rfl Q5 rfl rfl)<|mV rfl<|Tb rfl (q1 rfl rfl) (fun bp => ?_) (fun bp => ?_)
 rw [if_pos bp] at hm
 refine mV rfl<|yS<|mV rfl<|yS ?_
 obtain ⟨c, eM, hm⟩ := bS hm
 obtain ⟨fV, fW, x, b1, dO, hf2824⟩ := OAr.take ba eM
 obtain ⟨aw, ax, ay, az, aA, aB, V, aC, aD, s, rfl, cJ, cK, cO, bK, rfl⟩ := dO
 refine J8 m h g z<|q1W [_, _] z x V s (m ++ (h ++ (g ++ R))) rfl b1<|tS (sN rfl)<|yS<|tS (sF rfl q6A)<|yS<|tS (sL 0 rfl q4w rfl rfl)<|yS<|mV rfl<|yS ?_
 obtain ⟨gW, eO, hm⟩ := bS hm
 obtain ⟨eP, dP, dQ⟩ := iS eO
 obtain ⟨fX, fY, gX, gY, fZ, dR, cP, dS, cQ, f0, fp⟩ := OS.get (sz := 1) rfl (by decide) bK dQ
 obtain ⟨rfl, rfl⟩ := dR
 refine tS (sI eP rfl rfl dP cQ dS q8S)<|yS<|tS (w9 rfl q4J (fun w ho => cP w _ ho (.cons _ (.cons _ (.cons _ (ss V (Kb _ _))))) 0 _ rfl))<|yS<|tS (sn2 rfl)<|tS (pT rfl rfl)<|Te<|cM hm rfl (fun hm => ?_) fun hm => ?_
 refine Cr<|mV rfl<|tS (sN rfl)<|tS (sF rfl q1H)<|tS (sL 0 rfl q4w rfl rfl)<|mV rfl ?_
 obtain ⟨gZ, eQ, hm⟩ := bS hm
 obtain ⟨eR, b2, b3⟩ := iS eQ
 obtain ⟨f1, f2, g0, g1, f3, dT, fq, dU, cR, f4, fr⟩ := OS.get (sz := 1) rfl (by decide) cO b3
 obtain ⟨rfl, rfl⟩ := dT
 refine tS (sI eR rfl rfl b2 cR dU q8S)<|tD (uP b2 (sz := 1) (a' := true) rfl [_, _, _] (s ++ (x ++ (m ++ (h ++ (g ++ R))))) 0 1 [bv true] rfl cO b3 rfl rfl rfl z2o rfl (mc rfl mn) (fun cs hsj hh => by obtain ⟨rfl, rfl⟩ := hh; exact ⟨by first | decide | exact Nat.le_refl _, rfl, rfl⟩)) ?_
 rintro _ _ ⟨D, rfl, cT⟩
 refine Z9 0 rfl (o' := Cl 85 [iv c.Route.From, iv c.Route.To, sv aw c.Route.Steps ax, sv ay c.needs az, .slice aA (put c.seen (K : Int) true).length aB, sv aC c.gone aD, bv c.laps, bv c.sight, iv c.leave, iv c.clock, iv c.number]) (by simp only [sv, v7])<|Te<|Cr<|mV rfl<|tS (q1 rfl rfl)<|Te<|cI hm rfl (fun hm => ?_) fun hm => ?_
 refine Cg<|mV rfl<|tS (sN rfl)<|tS (sF rfl q5U)<|tD (uS 0 rfl rfl z1I rfl rfl (by simp)) ?_
 rintro _ _ rfl
 refine Tn<|Xm<|Xn<|Cg<|tS (sa rfl rfl (by omega))<|mV rfl<|Tn<|X0 D s x<|X0 x D s<|X0 s x D ?_
 have eS := hf2824 _ [iv c.Route.From, iv c.Route.To, sv aw c.Route.Steps ax, sv ay c.needs az, .slice aA (put c.seen (K : Int) true).length aB, sv aC c.gone aD, bv c.laps, bv c.sight, iv 0, iv c.clock, iv c.number] (⟨c.Route, c.needs, put c.seen (K : Int) true, c.gone, c.laps, c.sight, 0, c.clock, c.number⟩ : j0) _ lr ⟨aw, ax, ay, az, aA, aB, D, aC, aD, s, rfl, cJ, cK, cT, bK, rfl⟩
 refine z0q [_, _] x D s (m ++ (h ++ (g ++ R))) rfl ?_
 obtain rfl := o1 hm
 exact jS ⟨(x ++ (((ads aW), Cl 85 [iv c.Route.From, iv c.Route.To, sv aw c.Route.Steps ax, sv ay c.needs az, .slice aA (put c.seen (K : Int) true).length aB, sv aC c.gone aD, bv c.laps, bv c.sight, iv 0, iv c.clock, iv c.number]) :: (D ++ s))), rfl, rfl, (G), eS⟩
 refine Ck<|Xm<|Xn<|Cg<|tS (sa rfl rfl (by omega))<|mV rfl<|Tn<|X0 D s x<|X0 x D s<|X0 s x D ?_
 have eU := hf2824 _ [iv c.Route.From, iv c.Route.To, sv aw c.Route.Steps ax, sv ay c.needs az, .slice aA (put c.seen (K : Int) true).length aB, sv aC c.gone aD, bv c.laps, bv c.sight, iv c.leave, iv c.clock, iv c.number] (⟨c.Route, c.needs, put c.seen (K : Int) true, c.gone, c.laps, c.sight, c.leave, c.clock, c.number⟩ : j0) _ lr ⟨aw, ax, ay, az, aA, aB, D, aC, aD, s, rfl, cJ, cK, cT, bK, rfl⟩
 refine z0q [_, _] x D s (m ++ (h ++ (g ++ R))) rfl ?_
 obtain rfl := o1 hm
 exact jS ⟨(x ++ (((ads aW), Cl 85 [iv c.Route.From, iv c.Route.To, sv aw c.Route.Steps ax, sv ay c.needs az, .slice aA (put c.seen (K : Int) true).length aB, sv aC c.gone aD, bv c.laps, bv c.sight, iv c.leave, iv c.clock, iv c.number]) :: (D ++ s))), rfl, rfl, (G), eU⟩
 refine Ck<|Xm<|Xn<|Cg<|tS (sa rfl rfl (by omega))<|mV rfl<|Tn<|X0 V s x<|X0 x V s<|X0 s x V<|q2A [_, _] z x V s (m ++ (h ++ (g ++ R))) rfl b1 ?_
 obtain rfl := o1 hm
 exact jS ⟨z, rfl, rfl, (G), ba⟩
 rw [if_neg bp] at hm
 refine mV rfl<|nO<|nO<|nO<|nO<|nO<|nO<|nO<|nO<|tS (pF rfl rfl)<|Te<|k7 rfl<|Ck<|Xm<|Xn<|Cg<|tS (sa rfl rfl (by omega))<|mV rfl<|Tn ?_
 obtain rfl := o1 hm
 exact jS ⟨z, rfl, rfl, (G), ba⟩
 rintro bo _ _ ⟨z, rfl, rfl, G, ba⟩
 have hm := dL
 refine Cr<|tS (lF rfl rfl (by omega))<|Te<|Cs<|k7 rfl<|Ce<|Xe<|Xe<|Xo<|Xm<|q6k m h g z<|q6k z m h g<|q6k g z m h<|q6k h g z m ?_
 have cU := aN.trans G
 exact q9y (s' := bn) [_] (h ++ (g ++ (z ++ R))) rfl hperm2606 (a9.trans (Kd hm ▸ rfl)) cU (eG.le G) (e' := [(2, iv O), (103, pb bi)]) ⟨rfl, rfl, trivial⟩ (.refl _) ⟨z, rfl, rfl, ((aN.trans G)), ba⟩
 refine Cr<|mV rfl<|tS (sN rfl)<|tS (sF rfl q5p)<|tS (sF rfl q0m)<|tS (sL 0 rfl q5n rfl rfl)<|mV rfl ?_
 have zs := a.trans (e.trans k)
 obtain ⟨g2, eV, f5, dV, f6, dW, cV, b4, cW, hm⟩ := bF (sz := 7) hm (dh.le zs)
 obtain ⟨_, _, rfl, rfl, ⟨_, _, rfl, rfl, ⟨_, _, rfl, rfl, ⟨_, _, rfl, rfl, ⟨_, _, rfl, rfl, ⟨_, _, rfl, rfl, rfl⟩⟩⟩⟩⟩⟩ := dW
 refine tS (sI eV rfl rfl dV cW b4 z0I)<|tS (sQ rfl b4 z9d)<|tS (sO rfl q4J (cV 6 _ rfl))<|tS (sn2 rfl)<|aS rfl<|Te<|cM hm rfl (fun hm => ?_) fun hm => ?_
 refine Cr<|aS rfl<|Te<|Ct<|Xb<|Xr ?_
 obtain ⟨rfl, rfl, rfl, rfl⟩ := q7j hm
 have dX := h5.le zs
 have dY := a2.le zs
 have dZ := a3.le zs
 exact rO ⟨F, o, l, rfl, rfl, dX, rfl, dY, dZ⟩ zs
 have zr := a.trans (e.trans k)
 refine Cg<|mV rfl<|mV rfl<|tS (Q8 rfl I)<|tS (sQ rfl I q2U)<|tD (uP bf (sz := 5) (a' := (⟨0, f.disturbed, f.position, f.moving, f.failed⟩ : q8)) rfl [_] (g ++ (o ++ (l ++ R))) 0 1 [iv 0] rfl (h5.le zr) bg rfl rfl rfl z1I rfl (mc rfl mn) (fun cs hsj hh => by obtain ⟨⟨_, _, rfl, rfl, ⟨_, _, rfl, rfl, ⟨_, _, rfl, rfl, ⟨_, _, rfl, rfl, rfl⟩⟩⟩⟩, rfl⟩ := hh; exact ⟨by first | decide | exact Nat.le_refl _, ⟨[iv 0], _, rfl, rfl, ⟨[bv f.disturbed], _, rfl, rfl, ⟨[iv f.position], _, rfl, rfl, ⟨[iv f.moving], _, rfl, rfl, rfl⟩⟩⟩⟩, rfl⟩)) ?_
 rintro _ _ ⟨f7, rfl, cX⟩
 refine Z9 0 rfl (o' := Cl 57 [sv af X ag, sv ah Y ai, sv aj Z ak, sv al aa am, sv an ab ao, sv aq ac ar, sv au ad av, .slice A3 (put T S (⟨0, f.disturbed, f.position, f.moving, f.failed⟩ : q8)).length c4, sv A8 U c9, .map (some ae)]) (by simp only [sv, v7]) ?_
 obtain ⟨r, eW, hm⟩ := bS hm
 obtain ⟨eX, d0, b5⟩ := iS eW
 obtain rfl : ct = eX := by omega
 obtain ⟨f8, f9, g3, g4, ga, d1, fs, b6, ft, gb, fu⟩ := OS.get (sz := 5) rfl (by decide) cX b5
 obtain ⟨⟨_, _, rfl, rfl, ⟨_, _, rfl, rfl, ⟨_, _, rfl, rfl, ⟨_, _, rfl, rfl, rfl⟩⟩⟩⟩, rfl⟩ := d1
 refine tS (Q8 rfl b6)<|tS (sQ rfl b6 q9k)<|tD (uP d0 (sz := 5) (a' := (⟨r.axles, true, r.position, r.moving, r.failed⟩ : q8)) rfl [_] (g ++ (o ++ (l ++ R))) 1 1 [bv true] rfl cX b5 rfl rfl rfl z2o rfl (mc rfl mn) (fun cs hsj hh => by obtain ⟨⟨_, _, rfl, rfl, ⟨_, _, rfl, rfl, ⟨_, _, rfl, rfl, ⟨_, _, rfl, rfl, rfl⟩⟩⟩⟩, rfl⟩ := hh; exact ⟨by first | decide | exact Nat.le_refl _, ⟨[iv r.axles], _, rfl, rfl, ⟨[bv true], _, rfl, rfl, ⟨[iv r.position], _, rfl, rfl, ⟨[iv r.moving], _, rfl, rfl, rfl⟩⟩⟩⟩, rfl⟩)) ?_
 rintro _ _ ⟨gc, rfl, cY⟩
 refine Z9 0 rfl (o' := Cl 57 [sv af X ag, sv ah Y ai, sv aj Z ak, sv al aa am, sv an ab ao, sv aq ac ar, sv au ad av, .slice A3 (put (put T S (⟨0, f.disturbed, f.position, f.moving, f.failed⟩ : q8)) S (⟨r.axles, true, r.position, r.moving, r.failed⟩ : q8)).length c4, sv A8 U c9, .map (some ae)]) (by simp only [sv, v7])<|Tn<|Xm<|Xn<|Cr ?_
 obtain ⟨q, eY, hm⟩ := bS hm
 obtain ⟨e0, d5, b7⟩ := iS eY
 obtain rfl : bB = e0 := by omega
 obtain ⟨gd, ge, g5, g6, gf, d6, cZ, a6, fv, gg, fw⟩ := OS.get (sz := 5) rfl (by decide) cY b7
 obtain ⟨⟨_, _, rfl, rfl, ⟨_, _, rfl, rfl, ⟨_, _, rfl, rfl, ⟨_, _, rfl, rfl, rfl⟩⟩⟩⟩, rfl⟩ := d6
 refine mV rfl<|tS (Q8 rfl a6)<|tS (sQ rfl a6 q2U)<|tS (w9 rfl Q5 (fun w ho => cZ w _ ho (.cons _ (Kb _ _)) 0 _ rfl))<|mV rfl ?_
 obtain ⟨_, bL, hm⟩ := bS hm
 have bL := (kS bL).2
 refine tS (sa rfl rfl bL)<|tS (Q8 rfl a6)<|tS (sQ rfl a6 q2U)<|tD (uP d5 (sz := 5) (a' := (⟨q.axles + J, q.disturbed, q.position, q.moving, q.failed⟩ : q8)) rfl [_] (g ++ (o ++ (l ++ R))) 0 1 [iv (q.axles + J)] rfl cY b7 rfl rfl rfl z1I rfl (mc rfl mn) (fun cs hsj hh => by obtain ⟨⟨_, _, rfl, rfl, ⟨_, _, rfl, rfl, ⟨_, _, rfl, rfl, ⟨_, _, rfl, rfl, rfl⟩⟩⟩⟩, rfl⟩ := hh; exact ⟨by first | decide | exact Nat.le_refl _, ⟨[iv (q.axles + J)], _, rfl, rfl, ⟨[bv q.disturbed], _, rfl, rfl, ⟨[iv q.position], _, rfl, rfl, ⟨[iv q.moving], _, rfl, rfl, rfl⟩⟩⟩⟩, rfl⟩)) ?_
 rintro _ _ ⟨i, rfl, e1⟩
 refine Z9 0 rfl (o' := Cl 57 [sv af X ag, sv ah Y ai, sv aj Z ak, sv al aa am, sv an ab ao, sv aq ac ar, sv au ad av, .slice A3 (put (put (put T S (⟨0, f.disturbed, f.position, f.moving, f.failed⟩ : q8)) S (⟨r.axles, true, r.position, r.moving, r.failed⟩ : q8)) O (⟨q.axles + J, q.disturbed, q.position, q.moving, q.failed⟩ : q8)).length c4, sv A8 U c9, .map (some ae)]) (by simp only [sv, v7])<|Te<|Cs<|Cr<|mV rfl<|tS (sN rfl)<|tS (sF rfl q0J)<|tS (sL 0 rfl q5O rfl rfl)<|j0t i g o<|tD (q7u [_] (i ++ (g ++ (l ++ R))) rfl (a2.le zr) q3a rfl) ?_
 rintro _ _ ⟨bq, a7, rfl, rfl, e2⟩
 refine Te<|Cb<|F0 a7 i g l<|F0 l a7 i g<|F0 g l a7 i<|F0 i g l a7 ?_
 obtain ⟨g7, d7, b8⟩ := bS hm
 refine z1i (fun c0 => fun br e' hp' => ∃ C, [(2, iv O), (103, pb bq)] = e' ∧ (bd, Cl 57 [sv af X ag, sv ah Y ai, sv aj Z ak, sv al aa am, sv an ab ao, sv aq ac ar, sv au ad av, .slice A3 (put (put (put T S (⟨0, f.disturbed, f.position, f.moving, f.failed⟩ : q8)) S (⟨r.axles, true, r.position, r.moving, r.failed⟩ : q8)) O (⟨q.axles + J, q.disturbed, q.position, q.moving, q.failed⟩ : q8)).length c4, sv A8 U c9, .map (some ae)]) :: (i ++ (g ++ (C ++ R))) = hp' ∧ cr.Le br ∧ OAr 85 z8 ads br.w c0 C) d7 e2 (e' := [(2, iv O), (103, pb bq)]) ⟨rfl, rfl, trivial⟩ [_] (i ++ (g ++ (l ++ R))) rfl (.refl _) ⟨l, rfl, rfl, lr, (a3.le zr)⟩ ?_
 rintro c0 g8 br _ _ b9 ⟨C, rfl, rfl, aR, bM⟩ fx c1 hd3495 hall3496
 refine z5R [_] b9 (i ++ (g ++ (C ++ R))) ?_ rfl
 refine Cr<|z0v [_] (i ++ (g ++ (C ++ R))) rfl rfl rfl c1 (fun hnil3498 => ?_) (fun bs g9 ha hb n hperm3504 d8 e3 => ?_)
 obtain ⟨ca, ch, e4⟩ := MIt.done c1
 refine q7W [_] b9 ca (i ++ (g ++ (C ++ R))) rfl ch ?_
 have hend3510 := hd3495 hnil3498
 refine tS (j5 rfl rfl)<|Te<|Cs<|k7 rfl<|Ce<|Xe<|Xe<|Xo ?_
 rw [hend3510] at b8
 have hm := H4 b8
 refine Xn<|Cr<|aS rfl<|Te<|Ct ?_
 obtain ⟨rfl, rfl, rfl, rfl⟩ := q7j hm
 have d9 := e1.le aR
 exact rO ⟨i, ca, C, rfl, rfl, d9, ((v7 _ _ _).trans ((v7 _ _ _).trans ((v7 _ _ _).trans rfl))), e4, bM⟩ (a.trans (e.trans (k.trans aR)))
 obtain ⟨hc, bb, fi⟩ := hall3496 _ _ hperm3504
 have a0 := bb
 unfold q2N at a0
 have hm := a0
 refine tS (j5 rfl rfl)<|Te<|Cs<|k9 rfl<|Ck<|Xn<|Cb<|Cr ?_
 obtain ⟨c2, c3, bt, bu, ea⟩ := MIx.entry Tryz.prog d8
 obtain rfl : c2 = iv bs.1 := by have bt : [c2] = [iv bs.1] := bt; injection bt
 obtain rfl : c3 = kv ads bs.2 := by have bu : [c3] = [kv ads bs.2] := bu; injection bu
 refine tS (ea (.cons _ (Kb _ _)) rfl)<|tS (j5 rfl rfl)<|aS rfl<|Te<|Cr<|mV rfl ?_
 obtain ⟨aX, bN, hm⟩ := bS hm
 obtain ⟨bO, e5, hm⟩ := bS hm
 refine Tr 12 rfl (v' := .pointer (some ⟨(ads aX), 0, none⟩)) (by rw [bN]; rfl)<|Tr 107 rfl (v' := .pointer (some ⟨(ads aX), 0, none⟩)) (by rw [bN]; rfl)<|Tr 108 rfl (v' := .pointer (some ⟨(ads aX), 0, none⟩)) (by rw [bN]; rfl) ?_
 obtain ⟨gh, gi, aT, cb, eb, hf3529⟩ := OAr.take bM e5
 obtain ⟨e6, e7, hd, he, hf, hg, aU, hi, hj, aV, rfl, c5, hk, hl, hn, rfl⟩ := eb
 refine Z4 n i g C<|q1W [_] C aT aU aV (n ++ (i ++ (g ++ R))) rfl cb<|tS (sN rfl)<|tS (sF rfl q2t)<|tS (sF rfl q1b)<|tS (sL 0 rfl q4M rfl rfl)<|tS (sE rfl q7O)<|mV rfl<|Te<|Cb<|q6I aU aV aT<|q6I aT aU aV<|q6I aV aT aU<|z3G [_] C aT aU aV (n ++ (i ++ (g ++ R))) rfl cb ?_
 have gj : bO.Route.Steps.length ≤ 9223372036854775807 := (FZ.bd c5)
 refine F0 C n i g<|F0 g C n i<|F0 i g C n ?_
 obtain ⟨bw, ec, ed⟩ := bS hm
 refine lS (fun L => fun bw => fun bx e' hp' => ∃ A, [(2, iv O), (12, kv ads (some aX)), (103, pb bq), (112, sv e6 bO.Route.Steps e7), (113, iv ((bO.Route.Steps.length : Int))), (114, iv ((L : Int)))] = e' ∧ (bd, Cl 57 [sv af X ag, sv ah Y ai, sv aj Z ak, sv al aa am, sv an ab ao, sv aq ac ar, sv au ad av, .slice A3 (put (put (put T S (⟨0, f.disturbed, f.position, f.moving, f.failed⟩ : q8)) S (⟨r.axles, true, r.position, r.moving, r.failed⟩ : q8)) O (⟨q.axles + J, q.disturbed, q.position, q.moving, q.failed⟩ : q8)).length c4, sv A8 U c9, .map (some ae)]) :: (n ++ (i ++ (g ++ (A ++ R)))) = hp' ∧ br.Le bx ∧ OAr 85 z8 ads bx.w bw A) ec ⟨C, rfl, rfl, lr, bM⟩ ?_ ?_
 rintro L bw bx _ _ gk fj ⟨A, rfl, rfl, H, bc⟩ a1
 unfold q4X at a1
 have hm := a1
 refine Cr<|tS (lT rfl rfl (by omega))<|Te<|Cs<|k9 rfl<|Ck<|Xn<|Cs<|Cb<|Cr<|mV rfl ?_
 obtain ⟨bP, e8, gl, ee, gm, ef, c6, cc, c7, hm⟩ := bF (sz := 3) hm (c5.le H)
 obtain ⟨_, _, rfl, rfl, ⟨_, _, rfl, rfl, rfl⟩⟩ := ef
 refine tS (sI e8 rfl rfl ee c7 cc q7O)<|tS (sP (vs := [iv bP.Section, iv bP.In, iv bP.Out]) 3 rfl q4H cc rfl (fun j u hu => c6 j u hu))<|tD (uA [iv 0, iv 0, iv 0] q5j rfl) ?_
 rintro _ _ ⟨hq, rfl, rfl⟩
 refine aS rfl<|tD (uN (vs := [_, _, _]) 0 3 rfl rfl rfl q6s rfl (mc rfl (mc rfl (mc rfl mn))) rfl (by simp)) ?_
 rintro _ _ rfl
 refine Te<|Cr<|tS (sF rfl V8)<|tS (sL 0 rfl Q5 rfl rfl)<|mV rfl<|Tb rfl (q1 rfl rfl) (fun bz => ?_) (fun bz => ?_)
 rw [if_pos bz] at hm
 refine mV rfl<|yS<|mV rfl<|yS ?_
 obtain ⟨d, e9, hm⟩ := bS hm
 obtain ⟨gn, go, y, cd, eg, hf3722⟩ := OAr.take bc e9
 obtain ⟨aE, aF, aG, aH, aI, aJ, W, aK, aL, t, rfl, c8, da, db, bQ, rfl⟩ := eg
 refine J8 n i g A<|q1W [_, _] A y W t (n ++ (i ++ (g ++ R))) rfl cd<|tS (sN rfl)<|yS<|tS (sF rfl q6A)<|yS<|tS (sL 0 rfl q4w rfl rfl)<|yS<|mV rfl<|yS ?_
 obtain ⟨hr, fa, hm⟩ := bS hm
 obtain ⟨fb, eh, ei⟩ := iS fa
 obtain ⟨gp, gq, hs, ht, gr, ej, dc, ek, dd, gs, fy⟩ := OS.get (sz := 1) rfl (by decide) bQ ei
 obtain ⟨rfl, rfl⟩ := ej
 refine tS (sI fb rfl rfl eh dd ek q8S)<|yS<|tS (w9 rfl q4J (fun w ho => dc w _ ho (.cons _ (.cons _ (.cons _ (ss W (Kb _ _))))) 0 _ rfl))<|yS<|tS (sn2 rfl)<|tS (pT rfl rfl)<|Te<|cM hm rfl (fun hm => ?_) fun hm => ?_
 refine Cr<|mV rfl<|tS (sN rfl)<|tS (sF rfl q1H)<|tS (sL 0 rfl q4w rfl rfl)<|mV rfl ?_
 obtain ⟨hv, fc, hm⟩ := bS hm
 obtain ⟨fd, ce, cf⟩ := iS fc
 obtain ⟨gt, gu, hw, hx, gv, el, fz, em, de, gw, fA⟩ := OS.get (sz := 1) rfl (by decide) db cf
 obtain ⟨rfl, rfl⟩ := el
 refine tS (sI fd rfl rfl ce de em q8S)<|tD (uP ce (sz := 1) (a' := true) rfl [_, _, _] (t ++ (y ++ (n ++ (i ++ (g ++ R))))) 0 1 [bv true] rfl db cf rfl rfl rfl z2o rfl (mc rfl mn) (fun cs hsj hh => by obtain ⟨rfl, rfl⟩ := hh; exact ⟨by first | decide | exact Nat.le_refl _, rfl, rfl⟩)) ?_
 rintro _ _ ⟨E, rfl, df⟩
 refine Z9 0 rfl (o' := Cl 85 [iv d.Route.From, iv d.Route.To, sv aE d.Route.Steps aF, sv aG d.needs aH, .slice aI (put d.seen (L : Int) true).length aJ, sv aK d.gone aL, bv d.laps, bv d.sight, iv d.leave, iv d.clock, iv d.number]) (by simp only [sv, v7])<|Te<|Cr<|mV rfl<|tS (q1 rfl rfl)<|Te<|cI hm rfl (fun hm => ?_) fun hm => ?_
 refine Cg<|mV rfl<|tS (sN rfl)<|tS (sF rfl q5U)<|tD (uS 0 rfl rfl z1I rfl rfl (by simp)) ?_
 rintro _ _ rfl
 refine Tn<|Xm<|Xn<|Cg<|tS (sa rfl rfl (by omega))<|mV rfl<|Tn<|X0 E t y<|X0 y E t<|X0 t y E ?_
 have fe := hf3722 _ [iv d.Route.From, iv d.Route.To, sv aE d.Route.Steps aF, sv aG d.needs aH, .slice aI (put d.seen (L : Int) true).length aJ, sv aK d.gone aL, bv d.laps, bv d.sight, iv 0, iv d.clock, iv d.number] (⟨d.Route, d.needs, put d.seen (L : Int) true, d.gone, d.laps, d.sight, 0, d.clock, d.number⟩ : j0) _ lr ⟨aE, aF, aG, aH, aI, aJ, E, aK, aL, t, rfl, c8, da, df, bQ, rfl⟩
 refine z0q [_, _] y E t (n ++ (i ++ (g ++ R))) rfl ?_
 obtain rfl := o1 hm
 exact jS ⟨(y ++ (((ads aX), Cl 85 [iv d.Route.From, iv d.Route.To, sv aE d.Route.Steps aF, sv aG d.needs aH, .slice aI (put d.seen (L : Int) true).length aJ, sv aK d.gone aL, bv d.laps, bv d.sight, iv 0, iv d.clock, iv d.number]) :: (E ++ t))), rfl, rfl, (H), fe⟩
 refine Ck<|Xm<|Xn<|Cg<|tS (sa rfl rfl (by omega))<|mV rfl<|Tn<|X0 E t y<|X0 y E t<|X0 t y E ?_
 have ff := hf3722 _ [iv d.Route.From, iv d.Route.To, sv aE d.Route.Steps aF, sv aG d.needs aH, .slice aI (put d.seen (L : Int) true).length aJ, sv aK d.gone aL, bv d.laps, bv d.sight, iv d.leave, iv d.clock, iv d.number] (⟨d.Route, d.needs, put d.seen (L : Int) true, d.gone, d.laps, d.sight, d.leave, d.clock, d.number⟩ : j0) _ lr ⟨aE, aF, aG, aH, aI, aJ, E, aK, aL, t, rfl, c8, da, df, bQ, rfl⟩
 refine z0q [_, _] y E t (n ++ (i ++ (g ++ R))) rfl ?_
 obtain rfl := o1 hm
 exact jS ⟨(y ++ (((ads aX), Cl 85 [iv d.Route.From, iv d.Route.To, sv aE d.Route.Steps aF, sv aG d.needs aH, .slice aI (put d.seen (L : Int) true).length aJ, sv aK d.gone aL, bv d.laps, bv d.sight, iv d.leave, iv d.clock, iv d.number]) :: (E ++ t))), rfl, rfl, (H), ff⟩
 refine Ck<|Xm<|Xn<|Cg<|tS (sa rfl rfl (by omega))<|mV rfl<|Tn<|X0 W t y<|X0 y W t<|X0 t y W<|q2A [_, _] A y W t (n ++ (i ++ (g ++ R))) rfl cd ?_
 obtain rfl := o1 hm
 exact jS ⟨A, rfl, rfl, (H), bc⟩
 rw [if_neg bz] at hm
 refine mV rfl<|nO<|nO<|nO<|nO<|nO<|nO<|nO<|nO<|tS (pF rfl rfl)<|Te<|k7 rfl<|Ck<|Xm<|Xn<|Cg<|tS (sa rfl rfl (by omega))<|mV rfl<|Tn ?_
 obtain rfl := o1 hm
 exact jS ⟨A, rfl, rfl, (H), bc⟩
 rintro bx _ _ ⟨A, rfl, rfl, H, bc⟩
 have hm := ed
 refine Cr<|tS (lF rfl rfl (by omega))<|Te<|Cs<|k7 rfl<|Ce<|Xe<|Xe<|Xo<|Xm<|q6k n i g A<|q6k A n i g<|q6k g A n i<|q6k i g A n ?_
 have dg := aR.trans H
 exact q9y (s' := bw) [_] (i ++ (g ++ (A ++ R))) rfl hperm3504 (bb.trans (Kd hm ▸ rfl)) dg (e3.le H) (e' := [(2, iv O), (103, pb bq)]) ⟨rfl, rfl, trivial⟩ (.refl _) ⟨A, rfl, rfl, ((aR.trans H)), bc⟩
 rw [if_neg (fun hh => Bool.noConfusion (hh.symm.trans aM))] at hm
 refine Tr 18 rfl (v' := .bool false) (by rw [aM] <;> rfl)<|tS (P7 rfl)<|mV rfl<|nO<|nO<|nO<|nO<|tS (pT rfl rfl)<|aS rfl<|Te<|k9 rfl<|Cr<|aS rfl<|Te<|Ct<|Xb<|Xr ?_
 obtain ⟨rfl, rfl, rfl, rfl⟩ := q7j hm
 have en := h5.le a
 have eo := a2.le a
 have ep := a3.le a
 exact rO ⟨F, o, l, rfl, rfl, en, rfl, eo, ep⟩ a
theorem z1o (b : k8) (R : Hp) (O j k l m n o p h i X Y) (ads : Int → Nat) (S q r s t u x y z A B C D E F A3 c4 f A8 c9 g G c d) (ar : FZ RT.str b.w q r j) (au : FZ j3 b.w s t k) (av : FZ w6 b.w u x l) (aw : FZ j6 b.w y z m) (ax : FZ w7 b.w A B n) (ay : FZ Q3 b.w C D o) (az : FZ (RT.list j8) b.w E F p) (h5 : OS 59 (OT.fr j9) b.w (sv A3 h c4) h f) (aA : OS 127 (OT.fr v8) b.w (sv A8 i c9) i g) (aB : OM rI (OT.fr (RT.key ads)) false false b.w G X c) (aC : OAr 85 z8 ads b.w Y d) (ah H) (hm : q1y O j k l m n o p h i X Y = some (ah, H)):
 w8 Tryz.prog 21 [pb S, iv O] b ((S, Cl 57 [sv q j r, sv s k t, sv u l x, sv y m z, sv A n B, sv C o D, sv E p F, sv A3 h c4, sv A8 i c9, .map (some G)]) :: (f ++ (g ++ (c ++ (d ++ R))))) (fun v b' hp' => ∃ W, iv ah = v ∧ (S, Cl 57 [sv q j r, sv s k t, sv u l x, sv y m z, sv A n B, sv C o D, sv E p F, sv A3 H c4, sv A8 i c9, .map (some G)]) :: (W ++ (g ++ (c ++ (d ++ R)))) = hp' ∧ OS 59 (OT.fr j9) b'.w (sv A3 H c4) H W ∧ H.length = h.length) := by
 refine fE 26 Tryz.func21 rfl Tryz.ntmps21 rfl ?_
 unfold q1y at hm
 refine Cr<|aS rfl<|Te<|Cs<|Cb<|Cr<|mV rfl<|mV rfl ?_
 obtain ⟨aD, Z, hm⟩ := bS hm
 refine Z4 f g c d<|Z4 d f g c<|Z4 c d f g<|Z4 g c d f<|Z7 [_] [] f g c d R rfl<|Tg _ rfl q9D rfl (q1I _ _ O j k l m n o p h i X Y ads S q r s t u x y z A B C D E F A3 c4 f A8 c9 g G c d ar au av aw ax ay az h5 aA aB aC aD Z) ?_
 rintro _ aM _ a ⟨rfl, rfl⟩
 refine K6 [_] [] f g c d R rfl<|tS (sn2 rfl)<|aS rfl<|Te<|cM hm rfl (fun hm => ?_) fun hm => ?_
 refine Cr<|aS rfl<|Te<|Ct<|Xb<|Xr ?_
 obtain ⟨rfl, rfl⟩ := Z6 hm
 have aa := h5.le a
 exact rO ⟨f, rfl, rfl, aa, rfl⟩ a
 refine Cr<|mV rfl<|tS (sN rfl)<|tS (sF rfl V1)<|tS (sL 0 rfl q1p rfl rfl)<|mV rfl ?_
 obtain ⟨aN, ai, hm⟩ := bS hm
 obtain ⟨aj, ab, ac⟩ := iS ai
 obtain ⟨aE, aF, aO, aP, aG, ad, T, I, U, aH, an⟩ := OS.get (sz := 5) rfl (by decide) (h5.le a) ac
 obtain ⟨⟨_, _, rfl, rfl, ⟨_, _, rfl, rfl, ⟨_, _, rfl, rfl, ⟨_, _, rfl, rfl, rfl⟩⟩⟩⟩, rfl⟩ := ad
 refine tS (sI aj rfl rfl ab U I q3O)<|tS (sQ rfl I q9k)<|tS (w9 rfl q4J (fun w ho => T w _ ho (.cons _ (Kb _ _)) 1 _ rfl))<|aS rfl<|Te<|cB hm rfl (fun hm => ?_) fun hm => ?_
 refine Cr<|aS rfl<|Te<|Ct<|Xb<|Xr ?_
 obtain ⟨rfl, rfl⟩ := Z6 hm
 have ae := h5.le a
 exact rO ⟨f, rfl, rfl, ae, rfl⟩ a
 refine Ck<|Xm<|Xn<|Cr<|mV rfl<|tS (sN rfl)<|tS (sF rfl V1)<|tS (sL 0 rfl q1p rfl rfl)<|mV rfl ?_
 obtain ⟨e, ak, hm⟩ := bS hm
 obtain ⟨al, J, K⟩ := iS ak
 obtain ⟨aI, aJ, aQ, aR, aK, af, ao, L, V, aL, aq⟩ := OS.get (sz := 5) rfl (by decide) (h5.le a) K
 obtain ⟨⟨_, _, rfl, rfl, ⟨_, _, rfl, rfl, ⟨_, _, rfl, rfl, ⟨_, _, rfl, rfl, rfl⟩⟩⟩⟩, rfl⟩ := af
 refine tS (sI al rfl rfl J V L q3O)<|tS (sQ rfl L q9k)<|tD (uP J (sz := 5) (a' := (⟨e.axles, true, e.position, e.moving, e.failed⟩ : q8)) rfl [_] (g ++ (c ++ (d ++ R))) 1 1 [bv true] rfl (h5.le a) K rfl rfl rfl z2o rfl (mc rfl mn) (fun cs hsj hh => by obtain ⟨⟨_, _, rfl, rfl, ⟨_, _, rfl, rfl, ⟨_, _, rfl, rfl, ⟨_, _, rfl, rfl, rfl⟩⟩⟩⟩, rfl⟩ := hh; exact ⟨by first | decide | exact Nat.le_refl _, ⟨[iv e.axles], _, rfl, rfl, ⟨[bv true], _, rfl, rfl, ⟨[iv e.position], _, rfl, rfl, ⟨[iv e.moving], _, rfl, rfl, rfl⟩⟩⟩⟩, rfl⟩)) ?_
 rintro _ _ ⟨ag, rfl, am⟩
 refine Z9 0 rfl (o' := Cl 57 [sv q j r, sv s k t, sv u l x, sv y m z, sv A n B, sv C o D, sv E p F, .slice A3 (put h O (⟨e.axles, true, e.position, e.moving, e.failed⟩ : q8)).length c4, sv A8 i c9, .map (some G)]) (by simp only [sv, v7])<|Te<|Cr<|aS rfl<|Te<|Ct ?_
 obtain ⟨rfl, rfl⟩ := Z6 hm
 exact rO ⟨ag, rfl, rfl, am, ((v7 _ _ _).trans rfl)⟩ a
theorem z3J (b : k8) (R : Hp) (O l m n o p q r i j am an) (ads : Int → Nat) (S t u x y z A B C D E F G H I A3 c4 h A8 c9 g J d e) (aX : FZ RT.str b.w t u l) (aF : FZ j3 b.w x y m) (aY : FZ w6 b.w z A n) (aZ : FZ j6 b.w B C o) (a0 : FZ w7 b.w D E p) (a1 : FZ Q3 b.w F G q) (a2 : FZ (RT.list j8) b.w H I r) (h5 : OS 59 (OT.fr j9) b.w (sv A3 i c4) i h) (a3 : OS 127 (OT.fr v8) b.w (sv A8 j c9) j g) (a4 : OM rI (OT.fr (RT.key ads)) false false b.w J am d) (a5 : OAr 85 z8 ads b.w an e) (ak s) (hm : q2K O l m n o p q r i j am an = some (ak, s)):
 w8 Tryz.prog 22 [pb S, iv O] b ((S, Cl 57 [sv t l u, sv x m y, sv z n A, sv B o C, sv D p E, sv F q G, sv H r I, sv A3 i c4, sv A8 j c9, .map (some J)]) :: (h ++ (g ++ (d ++ (e ++ R))))) (fun v b' hp' => ∃ T, iv ak = v ∧ (S, Cl 57 [sv t l u, sv x m y, sv z n A, sv B o C, sv D p E, sv F q G, sv H r I, sv A3 s c4, sv A8 j c9, .map (some J)]) :: (T ++ (g ++ (d ++ (e ++ R)))) = hp' ∧ OS 59 (OT.fr j9) b'.w (sv A3 s c4) s T ∧ s.length = i.length) := by
 refine fE 42 Tryz.func22 rfl Tryz.ntmps22 rfl ?_
 unfold q2K at hm
 refine Cr<|aS rfl<|Te<|Cs<|Cb<|Cr<|mV rfl<|mV rfl ?_
 obtain ⟨aG, ac, hm⟩ := bS hm
 refine Z4 h g d e<|Z4 e h g d<|Z4 d e h g<|Z4 g d e h<|Z7 [_] [] h g d e R rfl<|Tg _ rfl q9D rfl (q1I _ _ O l m n o p q r i j am an ads S t u x y z A B C D E F G H I A3 c4 h A8 c9 g J d e aX aF aY aZ a0 a1 a2 h5 a3 a4 a5 aG ac) ?_
 rintro _ aH _ a ⟨rfl, rfl⟩
 refine K6 [_] [] h g d e R rfl<|tS (sn2 rfl)<|aS rfl<|Te<|cM hm rfl (fun hm => ?_) fun hm => ?_
 refine Cr<|aS rfl<|Te<|Ct<|Xb<|Xr ?_
 obtain ⟨rfl, rfl⟩ := Z6 hm
 have ao := h5.le a
 exact rO ⟨h, rfl, rfl, ao, rfl⟩ a
 refine Cr<|mV rfl<|tS (sN rfl)<|tS (sF rfl V1)<|tS (sL 0 rfl q1p rfl rfl)<|mV rfl ?_
 obtain ⟨bk, aI, hm⟩ := bS hm
 obtain ⟨aJ, aq, ar⟩ := iS aI
 obtain ⟨a6, a7, bl, bm, a8, au, ad, U, ae, a9, aQ⟩ := OS.get (sz := 5) rfl (by decide) (h5.le a) ar
 obtain ⟨⟨_, _, rfl, rfl, ⟨_, _, rfl, rfl, ⟨_, _, rfl, rfl, ⟨_, _, rfl, rfl, rfl⟩⟩⟩⟩, rfl⟩ := au
 refine tS (sI aJ rfl rfl aq ae U q3O)<|tS (sQ rfl U q9k)<|tS (w9 rfl q4J (fun w ho => ad w _ ho (.cons _ (Kb _ _)) 1 _ rfl))<|tS (sn2 rfl)<|aS rfl<|Te<|cM hm rfl (fun hm => ?_) fun hm => ?_
 refine Cr<|aS rfl<|Te<|Ct<|Xb<|Xr ?_
 obtain ⟨rfl, rfl⟩ := Z6 hm
 have av := h5.le a
 exact rO ⟨h, rfl, rfl, av, rfl⟩ a
 refine Ck<|Xm<|Xn<|Cr<|mV rfl<|tS (sN rfl)<|tS (sF rfl V1)<|tS (sL 0 rfl q1p rfl rfl)<|mV rfl ?_
 obtain ⟨c, aK, hm⟩ := bS hm
 obtain ⟨al, V, W⟩ := iS aK
 obtain ⟨ba, bb, bn, bo, bc, aw, aR, K, af, bd, aT⟩ := OS.get (sz := 5) rfl (by decide) (h5.le a) W
 obtain ⟨⟨_, _, rfl, rfl, ⟨_, _, rfl, rfl, ⟨_, _, rfl, rfl, ⟨_, _, rfl, rfl, rfl⟩⟩⟩⟩, rfl⟩ := aw
 refine tS (sI al rfl rfl V af K q3O)<|aS rfl<|Te<|Cr<|mV rfl<|tS (Q8 rfl K)<|tS (sQ rfl K q9k)<|tD (uP V (sz := 5) (a' := (⟨c.axles, false, c.position, c.moving, c.failed⟩ : q8)) rfl [_] (g ++ (d ++ (e ++ R))) 1 1 [bv false] rfl (h5.le a) W rfl rfl rfl z2o rfl (mc rfl mn) (fun cs hsj hh => by obtain ⟨⟨_, _, rfl, rfl, ⟨_, _, rfl, rfl, ⟨_, _, rfl, rfl, ⟨_, _, rfl, rfl, rfl⟩⟩⟩⟩, rfl⟩ := hh; exact ⟨by first | decide | exact Nat.le_refl _, ⟨[iv c.axles], _, rfl, rfl, ⟨[bv false], _, rfl, rfl, ⟨[iv c.position], _, rfl, rfl, ⟨[iv c.moving], _, rfl, rfl, rfl⟩⟩⟩⟩, rfl⟩)) ?_
 rintro _ _ ⟨ax, rfl, X⟩
 refine Z9 0 rfl (o' := Cl 57 [sv t l u, sv x m y, sv z n A, sv B o C, sv D p E, sv F q G, sv H r I, .slice A3 (put i O (⟨c.axles, false, c.position, c.moving, c.failed⟩ : q8)).length c4, sv A8 j c9, .map (some J)]) (by simp only [sv, v7])<|Te ?_
 obtain ⟨L, ay, az⟩ := bS hm
 refine Cj (fun Y e' hp' => ∃ k, [] = e' ∧ (S, Cl 57 [sv t l u, sv x m y, sv z n A, sv B o C, sv D p E, sv F q G, sv H r I, sv A3 L c4, sv A8 j c9, .map (some J)]) :: (k ++ (g ++ (d ++ (e ++ R)))) = hp' ∧ aH.Le Y ∧ OS 59 (OT.fr j9) Y.w (sv A3 L c4) L k ∧ L.length = i.length) ?_ ?_
 have hm := ay
 refine Cr<|mV rfl<|tS (sN rfl)<|tS (sF rfl q5p)<|tS (sF rfl q0m)<|tS (sL 0 rfl q5n rfl rfl)<|mV rfl ?_
 obtain ⟨bp, aL, be, aA, bf, aB, ag, Z, ah, hm⟩ := bF (sz := 7) hm (aF.le a)
 obtain ⟨_, _, rfl, rfl, ⟨_, _, rfl, rfl, ⟨_, _, rfl, rfl, ⟨_, _, rfl, rfl, ⟨_, _, rfl, rfl, ⟨_, _, rfl, rfl, rfl⟩⟩⟩⟩⟩⟩ := aB
 refine tS (sI aL rfl rfl aA ah Z z0I)<|tS (sQ rfl Z z9d)<|tS (sO rfl q4J (ag 6 _ rfl))<|Te<|cB hm rfl (fun hm => ?_) fun hm => ?_
 refine Cg ?_
 obtain ⟨f, aM, hm⟩ := bS hm
 obtain ⟨aN, aC, aa⟩ := iS aM
 obtain rfl : al = aN := by omega
 obtain ⟨bg, bh, bq, br, bi, aD, aU, ab, aV, bj, aW⟩ := OS.get (sz := 5) rfl (by decide) X aa
 obtain ⟨⟨_, _, rfl, rfl, ⟨_, _, rfl, rfl, ⟨_, _, rfl, rfl, ⟨_, _, rfl, rfl, rfl⟩⟩⟩⟩, rfl⟩ := aD
 refine mV rfl<|tS (Q8 rfl ab)<|tS (sQ rfl ab q2U)<|tD (uP aC (sz := 5) (a' := (⟨0, f.disturbed, f.position, f.moving, f.failed⟩ : q8)) rfl [_] (g ++ (d ++ (e ++ R))) 0 1 [iv 0] rfl X aa rfl rfl rfl z1I rfl (mc rfl mn) (fun cs hsj hh => by obtain ⟨⟨_, _, rfl, rfl, ⟨_, _, rfl, rfl, ⟨_, _, rfl, rfl, ⟨_, _, rfl, rfl, rfl⟩⟩⟩⟩, rfl⟩ := hh; exact ⟨by first | decide | exact Nat.le_refl _, ⟨[iv 0], _, rfl, rfl, ⟨[bv f.disturbed], _, rfl, rfl, ⟨[iv f.position], _, rfl, rfl, ⟨[iv f.moving], _, rfl, rfl, rfl⟩⟩⟩⟩, rfl⟩)) ?_
 rintro _ _ ⟨aE, rfl, aO⟩
 refine Z9 0 rfl (o' := Cl 57 [sv t l u, sv x m y, sv z n A, sv B o C, sv D p E, sv F q G, sv H r I, .slice A3 (put (put i O (⟨c.axles, false, c.position, c.moving, c.failed⟩ : q8)) O (⟨0, f.disturbed, f.position, f.moving, f.failed⟩ : q8)).length c4, sv A8 j c9, .map (some J)]) (by simp only [sv, v7])<|Tn ?_
 obtain rfl := o1 hm
 exact jJ ⟨aE, rfl, rfl, lr, aO, ((v7 _ _ _).trans ((v7 _ _ _).trans rfl))⟩
 refine Ck ?_
 obtain rfl := o1 hm
 exact jJ ⟨ax, rfl, rfl, lr, X, ((v7 _ _ _).trans rfl)⟩
 rintro Y _ _ ⟨k, rfl, rfl, ai, aP, aj⟩
 have hm := az
 refine Cr<|aS rfl<|Te<|Ct ?_
 obtain ⟨rfl, rfl⟩ := Z6 hm
 exact rO ⟨k, rfl, rfl, aP, aj⟩ (a.trans ai)
theorem q3y (b : k8) (R : Hp) (T j k l m n o p h i U V) (ads : Int → Nat) (q r s t u w x y z A B C D E F A3 c4 d A8 c9 e G a c) (ae : FZ RT.str b.w r s j) (aa : FZ j3 b.w t u k) (af : FZ w6 b.w w x l) (ag : FZ j6 b.w y z m) (ah : FZ w7 b.w A B n) (ai : FZ Q3 b.w C D o) (aj : FZ (RT.list j8) b.w E F p) (h5 : OS 59 (OT.fr j9) b.w (sv A3 h c4) h d) (ak : OS 127 (OT.fr v8) b.w (sv A8 i c9) i e) (al : OM rI (OT.fr (RT.key ads)) false false b.w G U a) (am : OAr 85 z8 ads b.w V c) (ab) (hm : G2 T j k l m n o p h i U V = some ab):
 w8 Tryz.prog 63 [pb q, iv T] b ((q, Cl 57 [sv r j s, sv t k u, sv w l x, sv y m z, sv A n B, sv C o D, sv E p F, sv A3 h c4, sv A8 i c9, .map (some G)]) :: (d ++ (e ++ (a ++ (c ++ R))))) (fun v b' hp' => bv ab = v ∧ (q, Cl 57 [sv r j s, sv t k u, sv w l x, sv y m z, sv A n B, sv C o D, sv E p F, sv A3 h c4, sv A8 i c9, .map (some G)]) :: (d ++ (e ++ (a ++ (c ++ R)))) = hp') := by
 refine fE 20 Tryz.func63 rfl Tryz.ntmps63 rfl ?_
 unfold G2 at hm
 refine Cr<|aS rfl<|Te ?_
 obtain ⟨ac, W, X⟩ := bS hm
 refine Cj (fun O e' hp' => [(4, bv ac)] = e' ∧ (q, Cl 57 [sv r j s, sv t k u, sv w l x, sv y m z, sv A n B, sv C o D, sv E p F, sv A3 h c4, sv A8 i c9, .map (some G)]) :: (d ++ (e ++ (a ++ (c ++ R)))) = hp' ∧ b.Le O) ?_ ?_
 have hm := W
 refine Cg<|mV rfl<|mV rfl ?_
 obtain ⟨S, I, hm⟩ := bS hm
 refine Z4 d e a c<|Z4 c d e a<|Z4 a c d e<|Z4 e a c d<|Z7 [_] [] d e a c R rfl<|Tg _ rfl q9D rfl (q1I _ _ T j k l m n o p h i U V ads q r s t u w x y z A B C D E F A3 c4 d A8 c9 e G a c ae aa af ag ah ai aj h5 ak al am S I) ?_
 rintro _ aq _ g ⟨rfl, rfl⟩
 refine K6 [_] [] d e a c R rfl ?_
 rcases Kg S with f | f
 rw [if_pos f] at hm
 refine Tr 7 rfl (v' := .bool true) (by rw [f] <;> rfl)<|mV rfl<|yS<|mV rfl<|yS<|tS (sN rfl)<|yS<|tS (sF rfl q5p)<|yS<|tS (sF rfl q0m)<|yS<|tS (sL 0 rfl q5n rfl rfl)<|yS<|mV rfl<|yS ?_
 obtain ⟨ar, ad, an, Y, ao, Z, J, H, K, hm⟩ := bF (sz := 7) hm (aa.le g)
 obtain ⟨_, _, rfl, rfl, ⟨_, _, rfl, rfl, ⟨_, _, rfl, rfl, ⟨_, _, rfl, rfl, ⟨_, _, rfl, rfl, ⟨_, _, rfl, rfl, rfl⟩⟩⟩⟩⟩⟩ := Z
 refine tS (sI ad rfl rfl Y K H z0I)<|yS<|tS (sQ rfl H q4B)<|yS<|tS (sO rfl Q5 (J 0 _ rfl))<|yS<|tS (q1 rfl rfl)<|tS (pT rfl rfl)<|aS rfl<|Tn ?_
 obtain rfl := o1 hm
 exact jJ ⟨rfl, rfl, g⟩
 rw [if_neg (fun hh => Bool.noConfusion (hh.symm.trans f))] at hm
 refine Tr 7 rfl (v' := .bool false) (by rw [f] <;> rfl)<|mV rfl<|nO<|nO<|nO<|nO<|nO<|nO<|nO<|nO<|nO<|nO<|tS (pF rfl rfl)<|aS rfl<|Tn ?_
 obtain rfl := o1 hm
 exact jJ ⟨rfl, rfl, g⟩
 rintro O _ _ ⟨rfl, rfl, L⟩
 have hm := X
 refine Ct ?_
 obtain rfl := o1 hm
 exact rO ⟨rfl, rfl⟩ L
theorem W6 (b : k8) (R : Hp) (d : q8) (i) (hm : J5 d = some i):
 w8 Tryz.prog 64 [.agg #[iv d.axles, bv d.disturbed, iv d.position, iv d.moving, bv d.failed]] b (R) (fun v b' hp' => bv i = v ∧ R = hp') := by
 refine fE 10 Tryz.func64 rfl Tryz.ntmps64 rfl ?_
 unfold J5 at hm
 refine Cr<|tD (uB _ rfl rfl) ?_
 rintro _ _ ⟨j, rfl, rfl⟩
 refine aS rfl<|Te ?_
 obtain ⟨h, e, f⟩ := bS hm
 refine Cj (fun g e' hp' => [(2, bv h)] = e' ∧ R = hp' ∧ b.Le g) ?_ ?_
 have hm := e
 refine Cg<|tS (sF rfl q2U)<|tS (sL 0 rfl Q5 rfl rfl)<|Tb rfl (q5 rfl rfl) (fun a => ?_) (fun a => ?_)
 rw [if_pos a] at hm
 refine mV rfl<|nO<|nO<|tS (pT rfl rfl)<|aS rfl<|Tn ?_
 obtain rfl := o1 hm
 exact jJ ⟨rfl, rfl, lr⟩
 rw [if_neg a] at hm
 refine mV rfl<|yS<|tS (sF rfl q9k)<|yS<|tS (sL 0 rfl q4J rfl rfl)<|tS (pF rfl rfl)<|aS rfl<|Tn ?_
 obtain rfl := o1 hm
 exact jJ ⟨rfl, rfl, lr⟩
 rintro g _ _ ⟨rfl, rfl, c⟩
 have hm := f
 refine Ct ?_
 obtain rfl := o1 hm
 exact rO ⟨rfl, rfl⟩ c
theorem q9T (b : k8) (R : Hp) (q4 : (Option Int)) (K : q9) (l6) (ads : Int → Nat) (k) (h3 : OAr 85 z8 ads b.w l6 k) (s) (hm : q0N q4 K l6 = some s):
 w8 Tryz.prog 113 [kv ads q4, .agg #[iv K.Kind, iv K.Place, iv K.Position, iv K.At]] b ((k ++ R)) (fun v b' hp' => bv s = v ∧ (k ++ R) = hp') := by
 refine fE 31 Tryz.func113 rfl Tryz.ntmps113 rfl ?_
 unfold q0N at hm
 refine Cr<|tD (uB _ rfl rfl) ?_
 rintro _ _ ⟨au, rfl, rfl⟩
 refine aS rfl<|Te<|Cs<|Cr<|tS (sF rfl q0I)<|tS (sL 0 rfl Q5 rfl rfl)<|Te<|Cb<|Cr<|tS (q1 rfl rfl)<|aS rfl<|Te<|cI hm rfl (fun hm => ?_) fun hm => ?_
 refine Cr<|mV rfl ?_
 obtain ⟨t, u, hm⟩ := bS hm
 obtain ⟨av, L, hm⟩ := bS hm
 refine Tr 0 rfl (v' := .pointer (some ⟨(ads t), 0, none⟩)) (by rw [u]; rfl)<|Tr 9 rfl (v' := .pointer (some ⟨(ads t), 0, none⟩)) (by rw [u]; rfl) ?_
 obtain ⟨ad, ae, c, l, z, hf142⟩ := OAr.take h3 L
 obtain ⟨aw, ax, ay, az, aA, aB, d, aC, aD, e, rfl, aE, aF, aG, aH, rfl⟩ := z
 refine q1W [_] k c d e R rfl l<|tS (sN rfl)<|tS (sF rfl z3p)<|tS (sL 0 rfl q4J rfl rfl)<|aS rfl<|Te<|Ct<|Xb<|Xr<|W7 d e c<|W7 c d e<|W7 e c d<|q2A [_] k c d e R rfl l ?_
 obtain rfl := o1 hm
 exact rO ⟨rfl, rfl⟩ lr
 refine Cr<|tS (q1 rfl rfl)<|aS rfl<|Te<|cI hm rfl (fun hm => ?_) fun hm => ?_
 refine Cr<|mV rfl ?_
 obtain ⟨x, y, hm⟩ := bS hm
 obtain ⟨aI, O, hm⟩ := bS hm
 refine Tr 0 rfl (v' := .pointer (some ⟨(ads x), 0, none⟩)) (by rw [y]; rfl)<|Tr 15 rfl (v' := .pointer (some ⟨(ads x), 0, none⟩)) (by rw [y]; rfl) ?_
 obtain ⟨af, ag, f, m, A, hf167⟩ := OAr.take h3 O
 obtain ⟨aJ, aK, aL, aM, aN, aO, g, aP, aQ, h, rfl, aR, aT, S, aU, rfl⟩ := A
 refine q1W [_] k f g h R rfl m<|tS (sN rfl)<|tS (sF rfl q1H)<|tS (sL 0 rfl q4w rfl rfl) ?_
 obtain ⟨aV, T, hm⟩ := bS hm
 obtain ⟨U, B, C⟩ := iS T
 obtain ⟨ah, ai, aW, aX, aj, D, o, E, p, ak, ab⟩ := OS.get (sz := 1) rfl (by decide) S C
 obtain ⟨rfl, rfl⟩ := D
 refine tS (sI U rfl rfl B p E q8S)<|tS (w9 rfl q4J (fun w ho => o w _ ho (.cons _ (.cons _ (Kb _ _))) 0 _ rfl))<|tS (sn2 rfl)<|aS rfl<|Te<|Ct<|Xb<|Xr<|W7 g h f<|W7 f g h<|W7 h f g<|q2A [_] k f g h R rfl m ?_
 obtain rfl := o1 hm
 exact rO ⟨rfl, rfl⟩ lr
 refine Ck<|Xm<|Xn<|Cs ?_
 obtain ⟨V, W, hm⟩ := bS hm
 obtain ⟨aY, X, hm⟩ := bS hm
 refine z1h 0 rfl (v' := .pointer (some ⟨(ads V), 0, none⟩)) (by rw [W]; rfl) ?_
 obtain ⟨al, am, i, n, F, hf207⟩ := OAr.take h3 X
 obtain ⟨aZ, a0, a1, a2, a3, a4, a, a5, a6, j, rfl, a7, a8, a9, Y, rfl⟩ := F
 refine q8v [_] k i a j R rfl n ?_
 obtain ⟨ba, Z, hm⟩ := bS hm
 refine Di mixed (.refl _)<|E0 0 rfl (sM rfl)<|E0 1 rfl (sN rfl)<|E0 2 rfl (sF rfl q6A)<|Es 3 rfl (sL 0 rfl q4w rfl rfl)<|E0 4 rfl (sF rfl j3t)<|Es 5 rfl (sL 1 rfl Q5 rfl rfl) ?_
 obtain ⟨aa, G, H⟩ := iS Z
 obtain ⟨an, ao, bb, bc, aq, I, q, J, r, ar, ac⟩ := OS.get (sz := 1) rfl (by decide) Y H
 obtain ⟨rfl, rfl⟩ := I
 refine E0 6 rfl (sI aa rfl rfl G r J q8S)<|Es 7 rfl (w9 rfl q4J (fun w ho => q w _ ho (.cons _ (.cons _ (ss a (Kb _ _)))) 0 _ rfl))<|E0 8 rfl (sn2 rfl)<|E0 9 rfl (sA rfl)<|Eo<|Dd (by kernel_rfl)<|Xn<|Ct<|W7 a j i<|W7 i a j<|W7 j i a<|q2A [_] k i a j R rfl n ?_
 obtain rfl := o1 hm
 exact rO ⟨rfl, rfl⟩ lr
theorem q2X (b : k8) (R : Hp) (q4 : (Option Int)) (l5) (ads : Int → Nat) (e) (h3 : OAr 85 z8 ads b.w l5 e) (q) (hm : H1 q4 l5 = some q):
 w8 Tryz.prog 76 [kv ads q4] b ((e ++ R)) (fun v b' hp' => ∃ G H y, sv G q H = v ∧ (y ++ (e ++ R)) = hp' ∧ OS 72 (OT.fr j8) b'.w (sv G q H) q y) := by
 refine fE 24 Tryz.func76 rfl Tryz.ntmps76 rfl ?_
 unfold H1 at hm
 refine Cr<|aS rfl<|Te<|Cr<|aS rfl<|Te<|Cs<|Cr<|mV rfl ?_
 obtain ⟨s, I, hm⟩ := bS hm
 obtain ⟨z, X, hm⟩ := bS hm
 refine Tr 0 rfl (v' := .pointer (some ⟨(ads s), 0, none⟩)) (by rw [I]; rfl)<|Tr 6 rfl (v' := .pointer (some ⟨(ads s), 0, none⟩)) (by rw [I]; rfl) ?_
 obtain ⟨af, ag, g, A, O, hf131⟩ := OAr.take h3 X
 obtain ⟨al, am, Y, Z, an, ao, h, aq, ar, k, rfl, au, J, av, aw, rfl⟩ := O
 refine q1W [] e g h k R rfl A<|tS (sN rfl)<|tS (sF rfl j3s)<|tS (sL 0 rfl z8D rfl rfl)<|tS (sE rfl q6l)<|mV rfl<|Te<|Cb<|j3C h k g<|j3C g h k<|j3C k g h<|z3G [] e g h k R rfl A ?_
 have ah : z.needs.length ≤ 9223372036854775807 := (FZ.bd J)
 obtain ⟨n, S, T⟩ := bS hm
 refine lS (fun K => fun n => fun t e' hp' => ∃ o p c, [(0, kv ads (some s)), (3, sv o n p), (9, sv Y z.needs Z), (10, iv ((z.needs.length : Int))), (11, iv ((K : Int)))] = e' ∧ (c ++ (e ++ R)) = hp' ∧ b.Le t ∧ OS 72 (OT.fr j8) t.w (sv o n p) n c) S ⟨none, 0, [], rfl, rfl, lr, OS.nil⟩ ?_ ?_
 rintro K n t _ _ ai aa ⟨o, p, c, rfl, rfl, d, x⟩ m
 unfold q0q at m
 have hm := m
 refine Cr<|tS (lT rfl rfl (by omega))<|Te<|Cs<|k9 rfl<|Ck<|Xn<|Cs<|Cb<|Cr ?_
 obtain ⟨a, ab, aj, U, ak, V, D, B, E, hm⟩ := bF (sz := 4) hm (J.le d)
 obtain ⟨_, _, rfl, rfl, ⟨_, _, rfl, rfl, ⟨_, _, rfl, rfl, rfl⟩⟩⟩ := V
 refine tS (sI ab rfl rfl U E B q6l)<|tS (sP (vs := [iv a.Kind, iv a.Place, iv a.Position, iv a.At]) 4 rfl q0n B rfl (fun j u hu => D j u hu))<|tD (uA [iv 0, iv 0, iv 0, iv 0] q7Q rfl) ?_
 rintro _ _ ⟨ax, rfl, rfl⟩
 refine tD (uN (vs := [_, _, _, _]) 0 4 rfl rfl rfl z1H rfl (mc rfl (mc rfl (mc rfl (mc rfl mn)))) rfl (by simp)) ?_
 rintro _ _ rfl
 refine Te<|Cr<|mV rfl<|tS (sD (vs := [_, _, _, _]) 0 4 rfl q0n rfl rfl rfl) ?_
 obtain ⟨ac, F, hm⟩ := bS hm
 refine j2N c e<|q4R [] [_] e (c ++ R) rfl<|Tg _ rfl j3U rfl (q9T _ _ (some s) a l5 ads e (h3.le d) ac F) ?_
 rintro _ ay _ f ⟨rfl, rfl⟩
 refine q5k [] [_] e (c ++ R) rfl<|Te<|cB hm rfl (fun hm => ?_) fun hm => ?_
 refine Cg<|mV rfl<|tS (sD (vs := [_, _, _, _]) 0 4 rfl q0n rfl rfl rfl)<|tD (V7 (el := 72) [(0, .agg #[iv a.Kind, iv a.Place, iv a.Position, iv a.At])] [iv a.Kind, iv a.Place, iv a.Position, iv a.At] rfl (fun _ => by kernel_rfl)) ?_
 rintro _ _ ⟨az, rfl, rfl⟩
 obtain ⟨_, C, hm⟩ := bS hm
 have C := V6 C
 refine z1G e c<|tD (uQ (r := j8) (l := n) [_, _] (e ++ R) [[iv a.Kind, iv a.Place, iv a.Position, iv a.At]] [a] rfl (by decide) q6l j0X rfl rfl rfl rfl (x.le f) rfl (fun w ho => Rd.own (i := 0) ho rfl) ⟨⟨[iv a.Kind], _, rfl, rfl, ⟨[iv a.Place], _, rfl, rfl, ⟨[iv a.Position], _, rfl, rfl, rfl⟩⟩⟩, trivial⟩ C) ?_
 rintro _ _ ⟨W, rfl, L⟩
 obtain ⟨ad, ae, rfl, _⟩ := L.form
 refine aS rfl<|Tn<|Xm<|Xn<|Cg<|tS (sa rfl rfl (by omega))<|mV rfl<|Tn ?_
 obtain rfl := o1 hm
 exact jS ⟨ad, ae, W, rfl, rfl, ((d.trans f)), L⟩
 refine Ck<|Xm<|Xn<|Cg<|tS (sa rfl rfl (by omega))<|mV rfl<|Tn ?_
 obtain rfl := o1 hm
 exact jS ⟨o, p, c, rfl, rfl, ((d.trans f)), (x.le f)⟩
 rintro t _ _ ⟨o, p, c, rfl, rfl, d, x⟩
 have hm := T
 refine Cr<|tS (lF rfl rfl (by omega))<|Te<|Cs<|k7 rfl<|Ce<|Xe<|Xe<|Xo<|Xn<|Cr<|mV rfl<|aS rfl<|Te<|Ct ?_
 obtain rfl := o1 hm
 exact rO ⟨o, p, c, rfl, rfl, x⟩ d
theorem q8I (b : k8) (R : Hp) (J A B C D E F G o p aR aT) (ads : Int → Nat) (K L O S T U V W X Y Z aa ab ac ad A3 c4 d A8 c9 e q am a) (bG : FZ RT.str b.w L O A) (bH : FZ j3 b.w S T B) (bI : FZ w6 b.w U V C) (bJ : FZ j6 b.w W X D) (bK : FZ w7 b.w Y Z E) (bL : FZ Q3 b.w aa ab F) (bM : FZ (RT.list j8) b.w ac ad G) (h5 : OS 59 (OT.fr j9) b.w (sv A3 o c4) o d) (bN : OS 127 (OT.fr v8) b.w (sv A8 p c9) p e) (bl : OM rI (OT.fr (RT.key ads)) false false b.w q aR am) (bm : OAr 85 z8 ads b.w aT a) (aG aH) (hm : H7 J A B C D E F G o p aR aT = some (aG, aH)):
 w8 Tryz.prog 65 [pb K, iv J] b ((K, Cl 57 [sv L A O, sv S B T, sv U C V, sv W D X, sv Y E Z, sv aa F ab, sv ac G ad, sv A3 o c4, sv A8 p c9, .map (some q)]) :: (d ++ (e ++ (am ++ (a ++ R))))) (fun v b' hp' => ∃ an, bv aG = v ∧ (K, Cl 57 [sv L A O, sv S B T, sv U C V, sv W D X, sv Y E Z, sv aa F ab, sv ac G ad, sv A3 o c4, sv A8 p c9, .map (some q)]) :: (d ++ (e ++ (an ++ (a ++ R)))) = hp' ∧ OM rI (OT.fr (RT.key ads)) false false b'.w q aH an) := by
 refine fE 45 Tryz.func65 rfl Tryz.ntmps65 rfl ?_
 unfold H7 at hm
 refine Cr<|aS rfl<|Te ?_
 obtain ⟨a9, aU, r⟩ := bS hm
 refine Cj (fun ao e' hp' => ∃ (aq : (List (Int × (Option Int)))), ∃ s, [] = e' ∧ (K, Cl 57 [sv L A O, sv S B T, sv U C V, sv W D X, sv Y E Z, sv aa F ab, sv ac G ad, sv A3 o c4, sv A8 p c9, .map (some q)]) :: (d ++ (e ++ (s ++ (a ++ R)))) = hp' ∧ b.Le ao ∧ OM rI (OT.fr (RT.key ads)) false false ao.w q aq s ∧ a9 = .inl aq) ?_ ?_
 have hm := aU
 refine Cr<|mV rfl<|tS (sN rfl)<|tS (sF rfl q0J)<|tS (sL 0 rfl q5O rfl rfl)<|j0t d e am<|tD (q7u [_] (d ++ (e ++ (a ++ R))) rfl bl q3a rfl) ?_
 rintro _ _ ⟨H, t, rfl, rfl, ba⟩
 refine Te<|Cb<|F0 t d e a<|F0 a t d e<|F0 e a t d<|F0 d e a t ?_
 obtain ⟨bt, aV, x⟩ := bS hm
 refine z1i (fun _ => fun aI e' hp' => [(1, iv J), (13, pb H)] = e' ∧ (K, Cl 57 [sv L A O, sv S B T, sv U C V, sv W D X, sv Y E Z, sv aa F ab, sv ac G ad, sv A3 o c4, sv A8 p c9, .map (some q)]) :: (d ++ (e ++ (a ++ R))) = hp' ∧ b.Le aI) aV ba (e' := [(1, iv J), (13, pb H)]) ⟨rfl, rfl, trivial⟩ [_] (d ++ (e ++ (a ++ R))) rfl (.refl _) ⟨rfl, rfl, lr⟩ ?_
 rintro _ bu aI _ _ ar ⟨rfl, rfl, h⟩ bj aJ hd783 hall784
 refine z5R [_] ar (d ++ (e ++ (a ++ R))) ?_ rfl
 refine Cr<|z0v [_] (d ++ (e ++ (a ++ R))) rfl rfl rfl aJ (fun hnil786 => ?_) (fun I bw bx bz c hperm792 aW aK => ?_)
 obtain ⟨au, av, bb⟩ := MIt.done aJ
 refine q7W [_] ar au (d ++ (e ++ (a ++ R))) rfl av ?_
 have hend798 := hd783 hnil786
 refine tS (j5 rfl rfl)<|Te<|Cs<|k7 rfl<|Ce<|Xe<|Xe<|Xo ?_
 rw [hend798] at x
 have hm := H4 x
 have hq := (Kd hm).symm
 exact jJ ⟨aR, au, rfl, rfl, h, bb, hq⟩
 obtain ⟨bA, m, aw⟩ := hall784 _ _ hperm792
 have k := m
 unfold Y9 at k
 have hm := k
 refine tS (j5 rfl rfl)<|Te<|Cs<|k9 rfl<|Ck<|Xn<|Cb<|Cr ?_
 obtain ⟨aL, aM, ae, af, aX⟩ := MIx.entry Tryz.prog aW
 obtain rfl : aL = iv I.1 := by have ae : [aL] = [iv I.1] := ae; injection ae
 obtain rfl : aM = kv ads I.2 := by have af : [aM] = [kv ads I.2] := af; injection af
 refine tS (aX (.cons _ (Kb _ _)) rfl)<|tS (j5 rfl rfl)<|aS rfl<|Te<|Cr<|mV rfl ?_
 obtain ⟨n, aB, hm⟩ := bS hm
 refine Z4 c d e a<|q4R [] [_] a (c ++ (d ++ (e ++ R))) rfl<|Tg _ rfl z6G rfl (q2X _ _ I.2 aT ads a (bm.le h) n aB) ?_
 rintro _ bc _ i ⟨aN, aO, f, rfl, rfl, aP⟩
 refine z7a [] [_] f a (c ++ (d ++ (e ++ R))) rfl<|tS (sE rfl q6l)<|mV rfl<|Te<|Cb ?_
 have bn : n.length ≤ 9223372036854775807 := (OS.len aP)
 refine j5i f a<|P3 a f c d e<|P3 e a f c d<|F0 d e a f<|P3 f d e a c ?_
 obtain ⟨bB, aY, y⟩ := bS hm
 refine lF (fun ax => fun _ => fun aj e' hp' => [(1, iv J), (13, pb H), (19, sv aN n aO), (20, iv ((n.length : Int))), (21, iv ((ax : Int)))] = e' ∧ (K, Cl 57 [sv L A O, sv S B T, sv U C V, sv W D X, sv Y E Z, sv aa F ab, sv ac G ad, sv A3 o c4, sv A8 p c9, .map (some q)]) :: (c ++ (f ++ (d ++ (e ++ (a ++ R))))) = hp' ∧ bc.Le aj) aY ⟨rfl, rfl, lr⟩ ?_ ?_
 rintro ax _ aj _ _ bo bd ⟨rfl, rfl, g⟩ l al
 unfold q0G at l
 have hm := l
 refine Cr<|tS (lT rfl rfl (by omega))<|Te<|Cs<|k9 rfl<|Ck<|Xn<|Cs<|Cb<|Cr ?_
 obtain ⟨ak, be, hm⟩ := bS hm
 obtain ⟨bf, aZ, a0⟩ := iS be
 obtain ⟨bp, bq, bC, bD, br, a1, aC, ay, aD, bs, bk⟩ := OS.get (sz := 4) rfl (by decide) (aP.le g) a0
 obtain ⟨⟨_, _, rfl, rfl, ⟨_, _, rfl, rfl, ⟨_, _, rfl, rfl, rfl⟩⟩⟩, rfl⟩ := a1
 refine tS (sI bf rfl rfl aZ aD ay q6l)<|tS (Z2 (vs := [iv ak.Kind, iv ak.Place, iv ak.Position, iv ak.At]) 4 rfl q0n ay rfl (fun w ho j u hu => aC w _ ho (.cons _ (ss c (Kb _ _))) j u hu))<|tD (uA [iv 0, iv 0, iv 0, iv 0] q7Q rfl) ?_
 rintro _ _ ⟨bE, rfl, rfl⟩
 refine tD (uN (vs := [_, _, _, _]) 0 4 rfl rfl rfl z1H rfl (mc rfl (mc rfl (mc rfl (mc rfl mn)))) rfl (by simp)) ?_
 rintro _ _ rfl
 refine Te ?_
 obtain ⟨bg, a2, a3⟩ := bS hm
 refine Cj (fun aQ e' hp' => [(1, iv J), (13, pb H), (19, sv aN n aO), (20, iv ((n.length : Int))), (21, iv ((ax : Int))), (43, bv bg)] = e' ∧ (K, Cl 57 [sv L A O, sv S B T, sv U C V, sv W D X, sv Y E Z, sv aa F ab, sv ac G ad, sv A3 o c4, sv A8 p c9, .map (some q)]) :: (c ++ (f ++ (d ++ (e ++ (a ++ R))))) = hp' ∧ aj.Le aQ) ?_ ?_
 have hm := a2
 refine Cg<|tS (sF rfl q3T)<|tS (sL 0 rfl Q5 rfl rfl)<|mV rfl<|Tb rfl (q1 rfl rfl) (fun ag => ?_) (fun ag => ?_)
 rw [if_pos ag] at hm
 refine mV rfl<|yS<|tS (sF rfl q0I)<|yS<|tS (sL 0 rfl Q5 rfl rfl)<|yS<|Tb rfl (q1 rfl rfl) (fun ah => ?_) (fun ah => ?_)
 rw [if_pos ah] at hm
 refine yS<|mV rfl<|nO<|nO<|nO<|yS<|tS (pT rfl rfl)<|yS<|mV rfl<|nO<|nO<|nO<|yS<|tS (pT rfl rfl)<|tS (pT rfl rfl)<|Tn ?_
 obtain rfl := o1 hm
 exact jJ ⟨rfl, rfl, lr⟩
 rw [if_neg ah] at hm
 refine yS<|mV rfl<|yS<|tS (sF rfl q0I)<|yS<|tS (sL 0 rfl Q5 rfl rfl)<|yS<|Tb rfl (q1 rfl rfl) (fun ai => ?_) (fun ai => ?_)
 rw [if_pos ai] at hm
 refine yS<|tS (pF rfl rfl)<|yS<|mV rfl<|nO<|nO<|nO<|yS<|tS (pT rfl rfl)<|tS (pT rfl rfl)<|Tn ?_
 obtain rfl := o1 hm
 exact jJ ⟨rfl, rfl, lr⟩
 rw [if_neg ai] at hm
 refine yS<|tS (pF rfl rfl)<|yS<|mV rfl<|yS<|tS (sF rfl q0I)<|yS<|tS (sL 0 rfl Q5 rfl rfl)<|yS<|tS (q1 rfl rfl)<|yS<|tS (pF rfl rfl)<|tS (pT rfl rfl)<|Tn ?_
 obtain rfl := o1 hm
 exact jJ ⟨rfl, rfl, lr⟩
 rw [if_neg ag] at hm
 refine mV rfl<|nO<|nO<|nO<|nO<|nO<|nO<|nO<|nO<|nO<|nO<|nO<|nO<|nO<|tS (pF rfl rfl)<|Tn ?_
 obtain rfl := o1 hm
 exact jJ ⟨rfl, rfl, lr⟩
 rintro aQ _ _ ⟨rfl, rfl, z⟩
 have hm := a3
 refine cB hm rfl (fun hm => ?_) fun hm => ?_
 refine Cr<|aS rfl<|Te<|Ct<|Xb<|Xr<|Xr<|Xb<|Xb<|Xr<|Xb<|Xr ?_
 have a4 := al _ (Kd hm).symm
 rw [a4] at y
 have hm := J9 y
 have a5 := aw _ (Kd hm).symm
 rw [a5] at x
 have hm := J9 x
 have a6 := (Kd hm).symm
 rw [a6] at r
 have hm := J9 r
 have zz := i.trans (g.trans z)
 obtain ⟨az, aA, bh⟩ := MIt.done (aK.le zz)
 refine z8b [_] c az (f ++ (d ++ (e ++ (a ++ R)))) rfl aA ?_
 obtain ⟨rfl, rfl⟩ := Z6 hm
 exact rO ⟨az, rfl, rfl, bh⟩ (h.trans zz)
 refine Ck<|Xm<|Xn<|Cg<|tS (sa rfl rfl (by omega))<|mV rfl<|Tn ?_
 exact jM hm ⟨rfl, rfl, ((g.trans z))⟩
 rintro _ aj _ _ ⟨rfl, rfl, g⟩ a7
 rw [a7] at y
 have hm := H4 y
 refine Cr<|tS (lF rfl rfl (by omega))<|Te<|Cs<|k7 rfl<|Ce<|Xe<|Xe<|Xo<|Xm<|j0k c f d e a<|j0k a c f d e<|j0k e a c f d<|q6k d e a c ?_
 have zy := h.trans (i.trans g)
 have aE := zy
 exact q9y (s' := ()) [_] (d ++ (e ++ (a ++ (f ++ R)))) rfl hperm792 (m.trans (Kd hm ▸ rfl)) aE (aK.le (i.trans g)) (e' := [(1, iv J), (13, pb H)]) ⟨rfl, rfl, trivial⟩ (.cons_cons _ (sp d (sp e (sp a (ss f (.refl _)))))) ⟨rfl, rfl, (zy)⟩
 rintro ao _ _ ⟨aq, s, rfl, rfl, aF, bi, a8⟩
 rw [a8] at r
 have hm := H4 r
 refine Cr<|aS rfl<|Te<|Ct ?_
 obtain ⟨rfl, rfl⟩ := Z6 hm
 exact rO ⟨s, rfl, rfl, bi⟩ aF
theorem z4O (b : k8) (R : Hp) (aa ax s t y z A B C p q aj ak) (ads : Int → Nat) (D E F G H I J K L O S T U V W A3 c4 g A8 c9 k r d e) (aP : FZ RT.str b.w E F s) (aQ : FZ j3 b.w G H t) (aR : FZ w6 b.w I J y) (aT : FZ j6 b.w K L z) (aU : FZ w7 b.w O S A) (aV : FZ Q3 b.w T U B) (aW : FZ (RT.list j8) b.w V W C) (h5 : OS 59 (OT.fr j9) b.w (sv A3 p c4) p g) (aX : OS 127 (OT.fr v8) b.w (sv A8 q c9) q k) (X : OM rI (OT.fr (RT.key ads)) false false b.w r aj d) (aY : OAr 85 z8 ads b.w ak e) (ar Y au) (hm : q3D aa ax s t y z A B C p q aj ak = some (ar, Y, au)):
 w8 Tryz.prog 23 [pb D, iv aa, iv ax] b ((D, Cl 57 [sv E s F, sv G t H, sv I y J, sv K z L, sv O A S, sv T B U, sv V C W, sv A3 p c4, sv A8 q c9, .map (some r)]) :: (g ++ (k ++ (d ++ (e ++ R))))) (fun v b' hp' => ∃ ab ac, iv ar = v ∧ (D, Cl 57 [sv E s F, sv G t H, sv I y J, sv K z L, sv O A S, sv T B U, sv V C W, sv A3 Y c4, sv A8 q c9, .map (some r)]) :: (ab ++ (k ++ (ac ++ (e ++ R)))) = hp' ∧ OS 59 (OT.fr j9) b'.w (sv A3 Y c4) Y ab ∧ Y.length = p.length ∧ OM rI (OT.fr (RT.key ads)) false false b'.w r au ac) := by
 refine fE 56 Tryz.func23 rfl Tryz.ntmps23 rfl ?_
 unfold q3D at hm
 refine Cr<|aS rfl<|Te<|Cs<|Cr<|mV rfl<|mV rfl ?_
 obtain ⟨aZ, al, hm⟩ := bS hm
 refine Z4 g k d e<|Z4 e g k d<|Z4 d e g k<|Z4 k d e g<|Z7 [_] [] g k d e R rfl<|Tg _ rfl z6J rfl (q3y _ _ aa s t y z A B C p q aj ak ads D E F G H I J K L O S T U V W A3 c4 g A8 c9 k r d e aP aQ aR aT aU aV aW h5 aX X aY aZ al) ?_
 rintro _ a0 _ a ⟨rfl, rfl⟩
 refine K6 [_] [] g k d e R rfl<|tS (sn2 rfl)<|Te<|cM hm rfl (fun hm => ?_) fun hm => ?_
 refine Cr<|aS rfl<|Te<|Ct<|Xr ?_
 obtain ⟨rfl, rfl, rfl⟩ := q2o hm
 have ay := h5.le a
 have az := X.le a
 exact rO ⟨g, d, rfl, rfl, ay, rfl, az⟩ a
 refine Ck<|Xn<|Cr<|mV rfl<|tS (sN rfl)<|tS (sF rfl V1)<|tS (sL 0 rfl q1p rfl rfl)<|mV rfl ?_
 obtain ⟨f, a1, hm⟩ := bS hm
 obtain ⟨ad, ae, af⟩ := iS a1
 obtain ⟨ba, bb, be, bf, bc, aA, m, i, am, bd, a9⟩ := OS.get (sz := 5) rfl (by decide) (h5.le a) af
 obtain ⟨⟨_, _, rfl, rfl, ⟨_, _, rfl, rfl, ⟨_, _, rfl, rfl, ⟨_, _, rfl, rfl, rfl⟩⟩⟩⟩, rfl⟩ := aA
 refine tS (sI ad rfl rfl ae am i q3O)<|aS rfl<|Te<|Cs<|Cb ?_
 obtain ⟨a2, aB, aC⟩ := bS hm
 refine Cj (fun ag e' hp' => [(0, pb D), (1, iv aa), (2, iv ax), (7, .pointer (Option.map (fun (x : Addr) => x.add (ad * 5)) A3)), (18, bv a2)] = e' ∧ (D, Cl 57 [sv E s F, sv G t H, sv I y J, sv K z L, sv O A S, sv T B U, sv V C W, sv A3 p c4, sv A8 q c9, .map (some r)]) :: (g ++ (k ++ (d ++ (e ++ R)))) = hp' ∧ a0.Le ag) ?_ ?_
 have hm := aB
 refine Cg<|mV rfl<|Tb rfl (q2 rfl rfl) (fun Z => ?_) (fun Z => ?_)
 rw [if_pos Z] at hm
 refine mV rfl<|yS<|mV rfl<|yS<|tS (q2 rfl rfl)<|tS (pT rfl rfl)<|aS rfl<|Tn ?_
 obtain rfl := o1 hm
 exact jJ ⟨rfl, rfl, lr⟩
 rw [if_neg Z] at hm
 refine mV rfl<|nO<|nO<|tS (pF rfl rfl)<|aS rfl<|Tn ?_
 obtain rfl := o1 hm
 exact jJ ⟨rfl, rfl, lr⟩
 rintro ag _ _ ⟨rfl, rfl, c⟩
 have hm := aC
 refine cB hm rfl (fun hm => ?_) fun hm => ?_
 refine Cr<|aS rfl<|Te<|Ct<|Xb<|Xr ?_
 obtain ⟨rfl, rfl, rfl⟩ := q2o hm
 have zz := a.trans c
 have aD := h5.le zz
 have aE := X.le zz
 exact rO ⟨g, d, rfl, rfl, aD, rfl, aE⟩ zz
 refine Cr<|mV rfl<|tS (Q8 rfl i)<|tS (sQ rfl i q6C)<|tS (w9 rfl q4J (fun w ho => m w _ (c.back _ _ ho) (.cons _ (Kb _ _)) 4 _ rfl))<|aS rfl<|Te<|cB hm rfl (fun hm => ?_) fun hm => ?_
 refine Cr<|aS rfl<|Te<|Ct<|Xb<|Xr ?_
 obtain ⟨rfl, rfl, rfl⟩ := q2o hm
 have zy := a.trans c
 have aF := h5.le zy
 have aG := X.le zy
 exact rO ⟨g, d, rfl, rfl, aF, rfl, aG⟩ zy
 refine Cr<|mV rfl<|tS (Q8 rfl i)<|tS (sQ rfl i q3U)<|tS (w9 rfl Q5 (fun w ho => m w _ (c.back _ _ ho) (.cons _ (Kb _ _)) 3 _ rfl))<|tS (q5 rfl rfl)<|aS rfl<|Te<|cI hm rfl (fun hm => ?_) fun hm => ?_
 refine Cr<|aS rfl<|Te<|Ct<|Xb<|Xr ?_
 obtain ⟨rfl, rfl, rfl⟩ := q2o hm
 have zx := a.trans c
 have aH := h5.le zx
 have aI := X.le zx
 exact rO ⟨g, d, rfl, rfl, aH, rfl, aI⟩ zx
 refine Cr<|mV rfl<|tS (Q8 rfl i)<|tS (sQ rfl i q4C)<|tS (w9 rfl Q5 (fun w ho => m w _ (c.back _ _ ho) (.cons _ (Kb _ _)) 2 _ rfl))<|mV rfl<|tS (q1 rfl rfl)<|aS rfl<|Te<|cI hm rfl (fun hm => ?_) fun hm => ?_
 refine Cr<|aS rfl<|Te<|Ct<|Xb<|Xr ?_
 obtain ⟨rfl, rfl, rfl⟩ := q2o hm
 have zw := a.trans c
 have aJ := h5.le zw
 have aK := X.le zw
 exact rO ⟨g, d, rfl, rfl, aJ, rfl, aK⟩ zw
 obtain ⟨⟨a3, a4⟩, aL, aM⟩ := bS hm
 refine Cj (fun ah e' hp' => ∃ l, [(7, .pointer (Option.map (fun (x : Addr) => x.add (ad * 5)) A3)), (43, bv a3)] = e' ∧ (D, Cl 57 [sv E s F, sv G t H, sv I y J, sv K z L, sv O A S, sv T B U, sv V C W, sv A3 p c4, sv A8 q c9, .map (some r)]) :: (g ++ (k ++ (l ++ (e ++ R)))) = hp' ∧ ag.Le ah ∧ OM rI (OT.fr (RT.key ads)) false false ah.w r a4 l) ?_ ?_
 have hm := aL
 refine Cg<|mV rfl<|tS (Q8 rfl i)<|tS (Z2 (vs := [iv f.axles, bv f.disturbed, iv f.position, iv f.moving, bv f.failed]) 5 rfl q7N i rfl (fun w ho j u hu => m w _ (c.back _ _ ho) (.cons _ (Kb _ _)) j u hu)) ?_
 obtain ⟨av, an, hm⟩ := bS hm
 refine tD (uW _ q7p rfl (fun w ho => W6 _ [] f av an) (fun _ _ _ h => h.2.symm)) ?_
 rintro _ _ ⟨⟨_, rfl, _⟩, rfl⟩
 rcases Kg av with o | o
 rw [if_pos o] at hm
 refine Tr 47 rfl (v' := .bool true) (by rw [o] <;> rfl)<|mV rfl<|nO<|nO<|nO<|tS (pT rfl rfl)<|aS rfl<|Tn ?_
 obtain ⟨rfl, rfl⟩ := Z6 hm
 exact jJ ⟨d, rfl, rfl, lr, (X.le (a.trans c))⟩
 rw [if_neg (fun hh => Bool.noConfusion (hh.symm.trans o))] at hm
 refine Tr 47 rfl (v' := .bool false) (by rw [o] <;> rfl)<|mV rfl<|yS<|mV rfl<|yS<|mV rfl<|yS ?_
 obtain ⟨⟨a5, a6⟩, ao, hm⟩ := bS hm
 have hm := J4 hm
 have zv := a.trans c
 refine Z4 g k d e<|Z4 e g k d<|Z4 d e g k<|Z4 k d e g<|Z7 [_] [] g k d e R rfl<|Tg _ rfl j5r rfl (q8I _ _ aa s t y z A B C p q aj ak ads D E F G H I J K L O S T U V W A3 c4 g A8 c9 k r d e (aP.le zv) (aQ.le zv) (aR.le zv) (aT.le zv) (aU.le zv) (aV.le zv) (aW.le zv) (h5.le zv) (aX.le zv) (X.le zv) (aY.le zv) a5 a6 ao) ?_
 rintro _ bg _ aq ⟨ai, rfl, rfl, a7⟩
 refine K6 [_] [] g k ai e R rfl<|tS (pF rfl rfl)<|aS rfl<|Tn ?_
 obtain ⟨rfl, rfl⟩ := Z6 hm
 exact jJ ⟨ai, rfl, rfl, aq, a7⟩
 rintro ah _ _ ⟨l, rfl, rfl, n, aw⟩
 have hm := J4 aM
 refine cB hm rfl (fun hm => ?_) fun hm => ?_
 refine Cr<|aS rfl<|Te<|Ct<|Xb<|Xr ?_
 obtain ⟨rfl, rfl, rfl⟩ := q2o hm
 have zu := a.trans (c.trans n)
 have aN := h5.le zu
 exact rO ⟨g, l, rfl, rfl, aN, rfl, aw⟩ zu
 have zt := a.trans (c.trans n)
 refine Ck<|Xm<|Xn<|Cr<|mV rfl<|tS (Q8 rfl i)<|tS (sQ rfl i q3U)<|tD (uP ae (sz := 5) (a' := (⟨f.axles, f.disturbed, f.position, 5, f.failed⟩ : q8)) rfl [_] (k ++ (l ++ (e ++ R))) 3 1 [iv 5] rfl (h5.le zt) af rfl rfl rfl z1I rfl (mc rfl mn) (fun cs hsj hh => by obtain ⟨⟨_, _, rfl, rfl, ⟨_, _, rfl, rfl, ⟨_, _, rfl, rfl, ⟨_, _, rfl, rfl, rfl⟩⟩⟩⟩, rfl⟩ := hh; exact ⟨by first | decide | exact Nat.le_refl _, ⟨[iv f.axles], _, rfl, rfl, ⟨[bv f.disturbed], _, rfl, rfl, ⟨[iv f.position], _, rfl, rfl, ⟨[iv 5], _, rfl, rfl, rfl⟩⟩⟩⟩, rfl⟩)) ?_
 rintro _ _ ⟨aO, rfl, a8⟩
 refine Z9 0 rfl (o' := Cl 57 [sv E s F, sv G t H, sv I y J, sv K z L, sv O A S, sv T B U, sv V C W, .slice A3 (put p aa (⟨f.axles, f.disturbed, f.position, 5, f.failed⟩ : q8)).length c4, sv A8 q c9, .map (some r)]) (by simp only [sv, v7])<|Te<|Cr<|aS rfl<|Te<|Ct ?_
 obtain ⟨rfl, rfl, rfl⟩ := q2o hm
 exact rO ⟨aO, l, rfl, rfl, a8, ((v7 _ _ _).trans rfl), aw⟩ zt
theorem z4S (b : k8) (R : Hp) (O j k l m n o p h i X Y) (ads : Int → Nat) (S q r s t u x y z A B C D E F A3 c4 f A8 c9 g G d e) (ar : FZ RT.str b.w q r j) (au : FZ j3 b.w s t k) (av : FZ w6 b.w u x l) (aw : FZ j6 b.w y z m) (ax : FZ w7 b.w A B n) (ay : FZ Q3 b.w C D o) (az : FZ (RT.list j8) b.w E F p) (h5 : OS 59 (OT.fr j9) b.w (sv A3 h c4) h f) (aA : OS 127 (OT.fr v8) b.w (sv A8 i c9) i g) (aB : OM rI (OT.fr (RT.key ads)) false false b.w G X d) (aC : OAr 85 z8 ads b.w Y e) (ah H) (hm : q3H O j k l m n o p h i X Y = some (ah, H)):
 w8 Tryz.prog 24 [pb S, iv O] b ((S, Cl 57 [sv q j r, sv s k t, sv u l x, sv y m z, sv A n B, sv C o D, sv E p F, sv A3 h c4, sv A8 i c9, .map (some G)]) :: (f ++ (g ++ (d ++ (e ++ R))))) (fun v b' hp' => ∃ W, iv ah = v ∧ (S, Cl 57 [sv q j r, sv s k t, sv u l x, sv y m z, sv A n B, sv C o D, sv E p F, sv A3 H c4, sv A8 i c9, .map (some G)]) :: (W ++ (g ++ (d ++ (e ++ R)))) = hp' ∧ OS 59 (OT.fr j9) b'.w (sv A3 H c4) H W ∧ H.length = h.length) := by
 refine fE 26 Tryz.func24 rfl Tryz.ntmps24 rfl ?_
 unfold q3H at hm
 refine Cr<|aS rfl<|Te<|Cs<|Cb<|Cr<|mV rfl<|mV rfl ?_
 obtain ⟨aD, Z, hm⟩ := bS hm
 refine Z4 f g d e<|Z4 e f g d<|Z4 d e f g<|Z4 g d e f<|Z7 [_] [] f g d e R rfl<|Tg _ rfl z6J rfl (q3y _ _ O j k l m n o p h i X Y ads S q r s t u x y z A B C D E F A3 c4 f A8 c9 g G d e ar au av aw ax ay az h5 aA aB aC aD Z) ?_
 rintro _ aM _ a ⟨rfl, rfl⟩
 refine K6 [_] [] f g d e R rfl<|tS (sn2 rfl)<|aS rfl<|Te<|cM hm rfl (fun hm => ?_) fun hm => ?_
 refine Cr<|aS rfl<|Te<|Ct<|Xb<|Xr ?_
 obtain ⟨rfl, rfl⟩ := Z6 hm
 have aa := h5.le a
 exact rO ⟨f, rfl, rfl, aa, rfl⟩ a
 refine Cr<|mV rfl<|tS (sN rfl)<|tS (sF rfl V1)<|tS (sL 0 rfl q1p rfl rfl)<|mV rfl ?_
 obtain ⟨aN, ai, hm⟩ := bS hm
 obtain ⟨aj, ab, ac⟩ := iS ai
 obtain ⟨aE, aF, aO, aP, aG, ad, T, I, U, aH, an⟩ := OS.get (sz := 5) rfl (by decide) (h5.le a) ac
 obtain ⟨⟨_, _, rfl, rfl, ⟨_, _, rfl, rfl, ⟨_, _, rfl, rfl, ⟨_, _, rfl, rfl, rfl⟩⟩⟩⟩, rfl⟩ := ad
 refine tS (sI aj rfl rfl ab U I q3O)<|tS (sQ rfl I q6C)<|tS (w9 rfl q4J (fun w ho => T w _ ho (.cons _ (Kb _ _)) 4 _ rfl))<|aS rfl<|Te<|cB hm rfl (fun hm => ?_) fun hm => ?_
 refine Cr<|aS rfl<|Te<|Ct<|Xb<|Xr ?_
 obtain ⟨rfl, rfl⟩ := Z6 hm
 have ae := h5.le a
 exact rO ⟨f, rfl, rfl, ae, rfl⟩ a
 refine Ck<|Xm<|Xn<|Cr<|mV rfl<|tS (sN rfl)<|tS (sF rfl V1)<|tS (sL 0 rfl q1p rfl rfl)<|mV rfl ?_
 obtain ⟨c, ak, hm⟩ := bS hm
 obtain ⟨al, J, K⟩ := iS ak
 obtain ⟨aI, aJ, aQ, aR, aK, af, ao, L, V, aL, aq⟩ := OS.get (sz := 5) rfl (by decide) (h5.le a) K
 obtain ⟨⟨_, _, rfl, rfl, ⟨_, _, rfl, rfl, ⟨_, _, rfl, rfl, ⟨_, _, rfl, rfl, rfl⟩⟩⟩⟩, rfl⟩ := af
 refine tS (sI al rfl rfl J V L q3O)<|tS (sQ rfl L q6C)<|tD (uP J (sz := 5) (a' := (⟨c.axles, c.disturbed, c.position, c.moving, true⟩ : q8)) rfl [_] (g ++ (d ++ (e ++ R))) 4 1 [bv true] rfl (h5.le a) K rfl rfl rfl z2o rfl (mc rfl mn) (fun cs hsj hh => by obtain ⟨⟨_, _, rfl, rfl, ⟨_, _, rfl, rfl, ⟨_, _, rfl, rfl, ⟨_, _, rfl, rfl, rfl⟩⟩⟩⟩, rfl⟩ := hh; exact ⟨by first | decide | exact Nat.le_refl _, ⟨[iv c.axles], _, rfl, rfl, ⟨[bv c.disturbed], _, rfl, rfl, ⟨[iv c.position], _, rfl, rfl, ⟨[iv c.moving], _, rfl, rfl, rfl⟩⟩⟩⟩, rfl⟩)) ?_
 rintro _ _ ⟨ag, rfl, am⟩
 refine Z9 0 rfl (o' := Cl 57 [sv q j r, sv s k t, sv u l x, sv y m z, sv A n B, sv C o D, sv E p F, .slice A3 (put h O (⟨c.axles, c.disturbed, c.position, c.moving, true⟩ : q8)).length c4, sv A8 i c9, .map (some G)]) (by simp only [sv, v7])<|Te<|Cr<|aS rfl<|Te<|Ct ?_
 obtain ⟨rfl, rfl⟩ := Z6 hm
 exact rO ⟨ag, rfl, rfl, am, ((v7 _ _ _).trans rfl)⟩ a
theorem z4Q (b : k8) (R : Hp) (O j k l m n o p h i X Y) (ads : Int → Nat) (S q r s t u x y z A B C D E F A3 c4 f A8 c9 g G d e) (ar : FZ RT.str b.w q r j) (au : FZ j3 b.w s t k) (av : FZ w6 b.w u x l) (aw : FZ j6 b.w y z m) (ax : FZ w7 b.w A B n) (ay : FZ Q3 b.w C D o) (az : FZ (RT.list j8) b.w E F p) (h5 : OS 59 (OT.fr j9) b.w (sv A3 h c4) h f) (aA : OS 127 (OT.fr v8) b.w (sv A8 i c9) i g) (aB : OM rI (OT.fr (RT.key ads)) false false b.w G X d) (aC : OAr 85 z8 ads b.w Y e) (ah H) (hm : q3F O j k l m n o p h i X Y = some (ah, H)):
 w8 Tryz.prog 25 [pb S, iv O] b ((S, Cl 57 [sv q j r, sv s k t, sv u l x, sv y m z, sv A n B, sv C o D, sv E p F, sv A3 h c4, sv A8 i c9, .map (some G)]) :: (f ++ (g ++ (d ++ (e ++ R))))) (fun v b' hp' => ∃ W, iv ah = v ∧ (S, Cl 57 [sv q j r, sv s k t, sv u l x, sv y m z, sv A n B, sv C o D, sv E p F, sv A3 H c4, sv A8 i c9, .map (some G)]) :: (W ++ (g ++ (d ++ (e ++ R)))) = hp' ∧ OS 59 (OT.fr j9) b'.w (sv A3 H c4) H W ∧ H.length = h.length) := by
 refine fE 27 Tryz.func25 rfl Tryz.ntmps25 rfl ?_
 unfold q3F at hm
 refine Cr<|aS rfl<|Te<|Cs<|Cb<|Cr<|mV rfl<|mV rfl ?_
 obtain ⟨aD, Z, hm⟩ := bS hm
 refine Z4 f g d e<|Z4 e f g d<|Z4 d e f g<|Z4 g d e f<|Z7 [_] [] f g d e R rfl<|Tg _ rfl z6J rfl (q3y _ _ O j k l m n o p h i X Y ads S q r s t u x y z A B C D E F A3 c4 f A8 c9 g G d e ar au av aw ax ay az h5 aA aB aC aD Z) ?_
 rintro _ aM _ a ⟨rfl, rfl⟩
 refine K6 [_] [] f g d e R rfl<|tS (sn2 rfl)<|aS rfl<|Te<|cM hm rfl (fun hm => ?_) fun hm => ?_
 refine Cr<|aS rfl<|Te<|Ct<|Xb<|Xr ?_
 obtain ⟨rfl, rfl⟩ := Z6 hm
 have aa := h5.le a
 exact rO ⟨f, rfl, rfl, aa, rfl⟩ a
 refine Cr<|mV rfl<|tS (sN rfl)<|tS (sF rfl V1)<|tS (sL 0 rfl q1p rfl rfl)<|mV rfl ?_
 obtain ⟨aN, ai, hm⟩ := bS hm
 obtain ⟨aj, ab, ac⟩ := iS ai
 obtain ⟨aE, aF, aO, aP, aG, ad, T, I, U, aH, an⟩ := OS.get (sz := 5) rfl (by decide) (h5.le a) ac
 obtain ⟨⟨_, _, rfl, rfl, ⟨_, _, rfl, rfl, ⟨_, _, rfl, rfl, ⟨_, _, rfl, rfl, rfl⟩⟩⟩⟩, rfl⟩ := ad
 refine tS (sI aj rfl rfl ab U I q3O)<|tS (sQ rfl I q6C)<|tS (w9 rfl q4J (fun w ho => T w _ ho (.cons _ (Kb _ _)) 4 _ rfl))<|tS (sn2 rfl)<|aS rfl<|Te<|cM hm rfl (fun hm => ?_) fun hm => ?_
 refine Cr<|aS rfl<|Te<|Ct<|Xb<|Xr ?_
 obtain ⟨rfl, rfl⟩ := Z6 hm
 have ae := h5.le a
 exact rO ⟨f, rfl, rfl, ae, rfl⟩ a
 refine Ck<|Xm<|Xn<|Cr<|mV rfl<|tS (sN rfl)<|tS (sF rfl V1)<|tS (sL 0 rfl q1p rfl rfl)<|mV rfl ?_
 obtain ⟨c, ak, hm⟩ := bS hm
 obtain ⟨al, J, K⟩ := iS ak
 obtain ⟨aI, aJ, aQ, aR, aK, af, ao, L, V, aL, aq⟩ := OS.get (sz := 5) rfl (by decide) (h5.le a) K
 obtain ⟨⟨_, _, rfl, rfl, ⟨_, _, rfl, rfl, ⟨_, _, rfl, rfl, ⟨_, _, rfl, rfl, rfl⟩⟩⟩⟩, rfl⟩ := af
 refine tS (sI al rfl rfl J V L q3O)<|tS (sQ rfl L q6C)<|tD (uP J (sz := 5) (a' := (⟨c.axles, c.disturbed, c.position, c.moving, false⟩ : q8)) rfl [_] (g ++ (d ++ (e ++ R))) 4 1 [bv false] rfl (h5.le a) K rfl rfl rfl z2o rfl (mc rfl mn) (fun cs hsj hh => by obtain ⟨⟨_, _, rfl, rfl, ⟨_, _, rfl, rfl, ⟨_, _, rfl, rfl, ⟨_, _, rfl, rfl, rfl⟩⟩⟩⟩, rfl⟩ := hh; exact ⟨by first | decide | exact Nat.le_refl _, ⟨[iv c.axles], _, rfl, rfl, ⟨[bv c.disturbed], _, rfl, rfl, ⟨[iv c.position], _, rfl, rfl, ⟨[iv c.moving], _, rfl, rfl, rfl⟩⟩⟩⟩, rfl⟩)) ?_
 rintro _ _ ⟨ag, rfl, am⟩
 refine Z9 0 rfl (o' := Cl 57 [sv q j r, sv s k t, sv u l x, sv y m z, sv A n B, sv C o D, sv E p F, .slice A3 (put h O (⟨c.axles, c.disturbed, c.position, c.moving, false⟩ : q8)).length c4, sv A8 i c9, .map (some G)]) (by simp only [sv, v7])<|Te<|Cr<|aS rfl<|Te<|Ct ?_
 obtain ⟨rfl, rfl⟩ := Z6 hm
 exact rO ⟨ag, rfl, rfl, am, ((v7 _ _ _).trans rfl)⟩ a
theorem q9W (b : k8) (R : Hp) (U j k l m n o p f g aj ak) (ads : Int → Nat) (r s t u x y z A B C D E F G H A3 c4 h A8 c9 q I c d) (aL : FZ RT.str b.w s t j) (aM : FZ j3 b.w u x k) (aN : FZ w6 b.w y z l) (aO : FZ j6 b.w A B m) (aP : FZ w7 b.w C D n) (aQ : FZ Q3 b.w E F o) (aR : FZ (RT.list j8) b.w G H p) (h5 : OS 59 (OT.fr j9) b.w (sv A3 f c4) f h) (J : OS 127 (OT.fr v8) b.w (sv A8 g c9) g q) (aT : OM rI (OT.fr (RT.key ads)) false false b.w I aj c) (aU : OAr 85 z8 ads b.w ak d) (al K) (hm : q0Q U j k l m n o p f g aj ak = some (al, K)):
 w8 Tryz.prog 26 [pb r, iv U] b ((r, Cl 57 [sv s j t, sv u k x, sv y l z, sv A m B, sv C n D, sv E o F, sv G p H, sv A3 f c4, sv A8 g c9, .map (some I)]) :: (h ++ (q ++ (c ++ (d ++ R))))) (fun v b' hp' => ∃ Y, iv al = v ∧ (r, Cl 57 [sv s j t, sv u k x, sv y l z, sv A m B, sv C n D, sv E o F, sv G p H, sv A3 f c4, sv A8 K c9, .map (some I)]) :: (h ++ (Y ++ (c ++ (d ++ R)))) = hp' ∧ OS 127 (OT.fr v8) b'.w (sv A8 K c9) K Y ∧ K.length = g.length) := by
 refine fE 33 Tryz.func26 rfl Tryz.ntmps26 rfl ?_
 unfold q0Q at hm
 refine Cr<|aS rfl<|Te<|Cs<|Cb ?_
 obtain ⟨am, aa, ab⟩ := bS hm
 refine Cj (fun Z e' hp' => [(0, pb r), (1, iv U), (5, bv am)] = e' ∧ (r, Cl 57 [sv s j t, sv u k x, sv y l z, sv A m B, sv C n D, sv E o F, sv G p H, sv A3 f c4, sv A8 g c9, .map (some I)]) :: (h ++ (q ++ (c ++ (d ++ R)))) = hp' ∧ b.Le Z) ?_ ?_
 have hm := aa
 refine Cg<|mV rfl<|Tb rfl (q3 rfl rfl) (fun i => ?_) (fun i => ?_)
 rw [if_pos i] at hm
 refine mV rfl<|nO<|nO<|nO<|nO<|nO<|nO<|nO<|tS (pT rfl rfl)<|aS rfl<|Tn ?_
 obtain rfl := o1 hm
 exact jJ ⟨rfl, rfl, lr⟩
 rw [if_neg i] at hm
 refine mV rfl<|yS<|mV rfl<|yS<|mV rfl<|yS<|tS (sN rfl)<|yS<|tS (sF rfl q2u)<|yS<|tS (sL 0 rfl q7A rfl rfl)<|yS<|tS (sE rfl q7P)<|yS<|tS (q6 rfl rfl)<|tS (pF rfl rfl)<|aS rfl<|Tn ?_
 obtain rfl := o1 hm
 exact jJ ⟨rfl, rfl, lr⟩
 rintro Z _ _ ⟨rfl, rfl, a⟩
 have hm := ab
 refine cB hm rfl (fun hm => ?_) fun hm => ?_
 refine Cr<|aS rfl<|Te<|Ct<|Xb<|Xr ?_
 obtain ⟨rfl, rfl⟩ := Z6 hm
 have ac := J.le a
 exact rO ⟨q, rfl, rfl, ac, rfl⟩ a
 refine Cr<|mV rfl<|tS (sN rfl)<|tS (sF rfl q2u)<|tS (sL 0 rfl q7A rfl rfl)<|mV rfl ?_
 obtain ⟨aG, an, hm⟩ := bS hm
 obtain ⟨ao, ad, ae⟩ := iS an
 obtain ⟨ay, az, aH, aI, aA, af, V, L, W, aB, av⟩ := OS.get (sz := 3) rfl (by decide) (J.le a) ae
 obtain ⟨⟨_, _, rfl, rfl, ⟨_, _, rfl, rfl, rfl⟩⟩, rfl⟩ := af
 refine tS (sI ao rfl rfl ad W L q7P)<|tS (sQ rfl L q7d)<|tS (w9 rfl q4J (fun w ho => V w _ ho (.cons _ (ss h (Kb _ _))) 2 _ rfl))<|aS rfl<|Te<|cB hm rfl (fun hm => ?_) fun hm => ?_
 refine Cr<|aS rfl<|Te<|Ct<|Xb<|Xr ?_
 obtain ⟨rfl, rfl⟩ := Z6 hm
 have ag := J.le a
 exact rO ⟨q, rfl, rfl, ag, rfl⟩ a
 refine Ck<|Xm<|Xn<|Cr<|mV rfl<|tS (sN rfl)<|tS (sF rfl q2u)<|tS (sL 0 rfl q7A rfl rfl)<|mV rfl ?_
 obtain ⟨e, aq, hm⟩ := bS hm
 obtain ⟨ar, O, S⟩ := iS aq
 obtain ⟨aC, aD, aJ, aK, aE, ah, aw, T, X, aF, ax⟩ := OS.get (sz := 3) rfl (by decide) (J.le a) S
 obtain ⟨⟨_, _, rfl, rfl, ⟨_, _, rfl, rfl, rfl⟩⟩, rfl⟩ := ah
 refine tS (sI ar rfl rfl O X T q7P)<|tS (sQ rfl T q7d)<|j2N h q<|tD (uP O (sz := 3) (a' := (⟨e.left, e.wanted, true⟩ : z6)) rfl [_] (h ++ (c ++ (d ++ R))) 2 1 [bv true] rfl (J.le a) S rfl rfl rfl z2o rfl (mc rfl mn) (fun cs hsj hh => by obtain ⟨⟨_, _, rfl, rfl, ⟨_, _, rfl, rfl, rfl⟩⟩, rfl⟩ := hh; exact ⟨by first | decide | exact Nat.le_refl _, ⟨[iv e.left], _, rfl, rfl, ⟨[bv e.wanted], _, rfl, rfl, rfl⟩⟩, rfl⟩)) ?_
 rintro _ _ ⟨ai, rfl, au⟩
 refine Z9 0 rfl (o' := Cl 57 [sv s j t, sv u k x, sv y l z, sv A m B, sv C n D, sv E o F, sv G p H, sv A3 f c4, .slice A8 (put g U (⟨e.left, e.wanted, true⟩ : z6)).length c9, .map (some I)]) (by simp only [sv, v7])<|Te<|Cr<|aS rfl<|Te<|Ct ?_
 obtain ⟨rfl, rfl⟩ := Z6 hm
 exact rO ⟨ai, rfl, rfl, au, ((v7 _ _ _).trans rfl)⟩ a
theorem q9U (b : k8) (R : Hp) (T k l m n o p q f g aJ aK) (ads : Int → Nat) (U t u x y z A B C D E F G H I A3 c4 h A8 c9 V J c d) (bm : FZ RT.str b.w t u k) (bn : FZ j3 b.w x y l) (bo : FZ w6 b.w z A m) (bp : FZ j6 b.w B C n) (a0 : FZ w7 b.w D E o) (bq : FZ Q3 b.w F G p) (br : FZ (RT.list j8) b.w H I q) (h5 : OS 59 (OT.fr j9) b.w (sv A3 f c4) f h) (W : OS 127 (OT.fr v8) b.w (sv A8 g c9) g V) (bs : OM rI (OT.fr (RT.key ads)) false false b.w J aJ c) (bt : OAr 85 z8 ads b.w aK d) (ao r) (hm : q0O T k l m n o p q f g aJ aK = some (ao, r)):
 w8 Tryz.prog 27 [pb U, iv T] b ((U, Cl 57 [sv t k u, sv x l y, sv z m A, sv B n C, sv D o E, sv F p G, sv H q I, sv A3 f c4, sv A8 g c9, .map (some J)]) :: (h ++ (V ++ (c ++ (d ++ R))))) (fun v b' hp' => ∃ X, iv ao = v ∧ (U, Cl 57 [sv t k u, sv x l y, sv z m A, sv B n C, sv D o E, sv F p G, sv H q I, sv A3 f c4, sv A8 r c9, .map (some J)]) :: (h ++ (X ++ (c ++ (d ++ R)))) = hp' ∧ OS 127 (OT.fr v8) b'.w (sv A8 r c9) r X ∧ r.length = g.length) := by
 refine fE 53 Tryz.func27 rfl Tryz.ntmps27 rfl ?_
 unfold q0O at hm
 refine Cr<|aS rfl<|Te<|Cs<|Cb ?_
 obtain ⟨aL, ar, au⟩ := bS hm
 refine Cj (fun Y e' hp' => [(0, pb U), (1, iv T), (6, bv aL)] = e' ∧ (U, Cl 57 [sv t k u, sv x l y, sv z m A, sv B n C, sv D o E, sv F p G, sv H q I, sv A3 f c4, sv A8 g c9, .map (some J)]) :: (h ++ (V ++ (c ++ (d ++ R)))) = hp' ∧ b.Le Y) ?_ ?_
 have hm := ar
 refine Cg<|mV rfl<|Tb rfl (q3 rfl rfl) (fun K => ?_) (fun K => ?_)
 rw [if_pos K] at hm
 refine mV rfl<|nO<|nO<|nO<|nO<|nO<|nO<|nO<|tS (pT rfl rfl)<|aS rfl<|Tn ?_
 obtain rfl := o1 hm
 exact jJ ⟨rfl, rfl, lr⟩
 rw [if_neg K] at hm
 refine mV rfl<|yS<|mV rfl<|yS<|mV rfl<|yS<|tS (sN rfl)<|yS<|tS (sF rfl q2u)<|yS<|tS (sL 0 rfl q7A rfl rfl)<|yS<|tS (sE rfl q7P)<|yS<|tS (q6 rfl rfl)<|tS (pF rfl rfl)<|aS rfl<|Tn ?_
 obtain rfl := o1 hm
 exact jJ ⟨rfl, rfl, lr⟩
 rintro Y _ _ ⟨rfl, rfl, a⟩
 have hm := au
 refine cB hm rfl (fun hm => ?_) fun hm => ?_
 refine Cr<|aS rfl<|Te<|Ct<|Xb<|Xr ?_
 obtain ⟨rfl, rfl⟩ := Z6 hm
 have av := W.le a
 exact rO ⟨V, rfl, rfl, av, rfl⟩ a
 refine Cr<|mV rfl<|tS (sN rfl)<|tS (sF rfl q2u)<|tS (sL 0 rfl q7A rfl rfl)<|mV rfl ?_
 obtain ⟨bf, aM, hm⟩ := bS hm
 obtain ⟨aN, aw, ax⟩ := iS aM
 obtain ⟨a1, a2, bg, bh, a3, ay, ag, Z, ah, a4, aV⟩ := OS.get (sz := 3) rfl (by decide) (W.le a) ax
 obtain ⟨⟨_, _, rfl, rfl, ⟨_, _, rfl, rfl, rfl⟩⟩, rfl⟩ := ay
 refine tS (sI aN rfl rfl aw ah Z q7P)<|tS (sQ rfl Z q7d)<|tS (w9 rfl q4J (fun w ho => ag w _ ho (.cons _ (ss h (Kb _ _))) 2 _ rfl))<|tS (sn2 rfl)<|aS rfl<|Te<|cM hm rfl (fun hm => ?_) fun hm => ?_
 refine Cr<|aS rfl<|Te<|Ct<|Xb<|Xr ?_
 obtain ⟨rfl, rfl⟩ := Z6 hm
 have az := W.le a
 exact rO ⟨V, rfl, rfl, az, rfl⟩ a
 refine Ck<|Xm<|Xn<|Cr<|mV rfl<|tS (sN rfl)<|tS (sF rfl q2u)<|tS (sL 0 rfl q7A rfl rfl)<|mV rfl ?_
 obtain ⟨e, aO, hm⟩ := bS hm
 obtain ⟨aq, aa, ab⟩ := iS aO
 obtain ⟨a5, a6, bi, bj, a7, aA, aW, L, ai, a8, aX⟩ := OS.get (sz := 3) rfl (by decide) (W.le a) ab
 obtain ⟨⟨_, _, rfl, rfl, ⟨_, _, rfl, rfl, rfl⟩⟩, rfl⟩ := aA
 refine tS (sI aq rfl rfl aa ai L q7P)<|aS rfl<|Te<|Cr<|mV rfl<|tS (Q8 rfl L)<|tS (sQ rfl L q7d)<|j2N h V<|tD (uP aa (sz := 3) (a' := (⟨e.left, e.wanted, false⟩ : z6)) rfl [_] (h ++ (c ++ (d ++ R))) 2 1 [bv false] rfl (W.le a) ab rfl rfl rfl z2o rfl (mc rfl mn) (fun cs hsj hh => by obtain ⟨⟨_, _, rfl, rfl, ⟨_, _, rfl, rfl, rfl⟩⟩, rfl⟩ := hh; exact ⟨by first | decide | exact Nat.le_refl _, ⟨[iv e.left], _, rfl, rfl, ⟨[bv e.wanted], _, rfl, rfl, rfl⟩⟩, rfl⟩)) ?_
 rintro _ _ ⟨aB, rfl, ac⟩
 refine Z9 0 rfl (o' := Cl 57 [sv t k u, sv x l y, sv z m A, sv B n C, sv D o E, sv F p G, sv H q I, sv A3 f c4, .slice A8 (put g T (⟨e.left, e.wanted, false⟩ : z6)).length c9, .map (some J)]) (by simp only [sv, v7])<|Te ?_
 obtain ⟨O, aC, aD⟩ := bS hm
 refine Cj (fun ad e' hp' => ∃ i, [] = e' ∧ (U, Cl 57 [sv t k u, sv x l y, sv z m A, sv B n C, sv D o E, sv F p G, sv H q I, sv A3 f c4, sv A8 O c9, .map (some J)]) :: (h ++ (i ++ (c ++ (d ++ R)))) = hp' ∧ Y.Le ad ∧ OS 127 (OT.fr v8) ad.w (sv A8 O c9) O i ∧ O.length = g.length) ?_ ?_
 have hm := aC
 refine Cr ?_
 obtain ⟨s, aP, hm⟩ := bS hm
 obtain ⟨aQ, aE, ae⟩ := iS aP
 obtain rfl : aq = aQ := by omega
 obtain ⟨a9, ba, bk, bl, bb, aF, aj, j, aY, bc, aZ⟩ := OS.get (sz := 3) rfl (by decide) ac ae
 obtain ⟨⟨_, _, rfl, rfl, ⟨_, _, rfl, rfl, rfl⟩⟩, rfl⟩ := aF
 refine mV rfl<|tS (Q8 rfl j)<|tS (sQ rfl j q5W)<|tS (w9 rfl q4J (fun w ho => aj w _ ho (.cons _ (Kb _ _)) 1 _ rfl))<|Te<|cB hm rfl (fun hm => ?_) fun hm => ?_
 refine Cg<|mV rfl<|mV rfl<|tS (sN rfl)<|tS (sF rfl q5p)<|tS (sF rfl q5V)<|tS (sL 0 rfl z3h rfl rfl)<|mV rfl ?_
 obtain ⟨S, aR, bd, aG, be, aH, ak, af, al, hm⟩ := bF (sz := 2) hm (a0.le a)
 obtain ⟨_, _, rfl, rfl, rfl⟩ := aH
 refine tS (sI aR rfl rfl aG al af z7b)<|tS (sQ rfl af z3u)<|tS (sO rfl Q5 (ak 1 _ rfl))<|tS (Q8 rfl j)<|tS (sQ rfl j q7e)<|tD (uP aE (sz := 3) (a' := (⟨S.Close, s.wanted, s.failed⟩ : z6)) rfl [_] (h ++ (c ++ (d ++ R))) 0 1 [iv S.Close] rfl ac ae rfl rfl rfl z1I rfl (mc rfl mn) (fun cs hsj hh => by obtain ⟨⟨_, _, rfl, rfl, ⟨_, _, rfl, rfl, rfl⟩⟩, rfl⟩ := hh; exact ⟨by first | decide | exact Nat.le_refl _, ⟨[iv S.Close], _, rfl, rfl, ⟨[bv s.wanted], _, rfl, rfl, rfl⟩⟩, rfl⟩)) ?_
 rintro _ _ ⟨aI, rfl, aT⟩
 refine Z9 0 rfl (o' := Cl 57 [sv t k u, sv x l y, sv z m A, sv B n C, sv D o E, sv F p G, sv H q I, sv A3 f c4, .slice A8 (put (put g T (⟨e.left, e.wanted, false⟩ : z6)) T (⟨S.Close, s.wanted, s.failed⟩ : z6)).length c9, .map (some J)]) (by simp only [sv, v7])<|Tn ?_
 obtain rfl := o1 hm
 exact jJ ⟨aI, rfl, rfl, lr, aT, ((v7 _ _ _).trans ((v7 _ _ _).trans rfl))⟩
 refine Ck ?_
 obtain rfl := o1 hm
 exact jJ ⟨aB, rfl, rfl, lr, ac, ((v7 _ _ _).trans rfl)⟩
 rintro ad _ _ ⟨i, rfl, rfl, am, aU, an⟩
 have hm := aD
 refine Cr<|aS rfl<|Te<|Ct ?_
 obtain ⟨rfl, rfl⟩ := Z6 hm
 exact rO ⟨i, rfl, rfl, aU, an⟩ (a.trans am)
theorem q2l (b : k8) (R : Hp) (H f g h i j k l d e I J) (ads : Int → Nat) (n o p q r s t u w x y z A B C T U D V W E F a c) (Y : FZ RT.str b.w o p f) (Z : FZ j3 b.w q r g) (aa : FZ w6 b.w s t h) (ab : FZ j6 b.w u w i) (ac : FZ w7 b.w x y j) (ad : FZ Q3 b.w z A k) (ae : FZ (RT.list j8) b.w B C l) (h5 : OS 59 (OT.fr j9) b.w (sv T d U) d D) (af : OS 127 (OT.fr v8) b.w (sv V e W) e E) (ag : OM rI (OT.fr (RT.key ads)) false false b.w F I a) (ah : OAr 85 z8 ads b.w J c) (K) (hm : K1 H f g h i j k l d e I J = some K):
 w8 Tryz.prog 66 [pb n, iv H] b ((n, Cl 57 [sv o f p, sv q g r, sv s h t, sv u i w, sv x j y, sv z k A, sv B l C, sv T d U, sv V e W, .map (some F)]) :: (D ++ (E ++ (a ++ (c ++ R))))) (fun v b' hp' => bv K = v ∧ (n, Cl 57 [sv o f p, sv q g r, sv s h t, sv u i w, sv x j y, sv z k A, sv B l C, sv T d U, sv V e W, .map (some F)]) :: (D ++ (E ++ (a ++ (c ++ R)))) = hp') := by
 refine fE 16 Tryz.func66 rfl Tryz.ntmps66 rfl ?_
 unfold K1 at hm
 refine Cr<|aS rfl<|Te ?_
 obtain ⟨X, L, O⟩ := bS hm
 refine Cj (fun S e' hp' => [(4, bv X)] = e' ∧ (n, Cl 57 [sv o f p, sv q g r, sv s h t, sv u i w, sv x j y, sv z k A, sv B l C, sv T d U, sv V e W, .map (some F)]) :: (D ++ (E ++ (a ++ (c ++ R)))) = hp' ∧ b.Le S) ?_ ?_
 have hm := L
 refine Cg<|mV rfl<|Tb rfl (q6 rfl rfl) (fun m => ?_) (fun m => ?_)
 rw [if_pos m] at hm
 refine mV rfl<|yS<|mV rfl<|yS<|mV rfl<|yS<|tS (sN rfl)<|yS<|tS (sF rfl z3r)<|yS<|tS (sL 0 rfl z7p rfl rfl)<|yS<|tS (sE rfl j2U)<|yS<|tS (q3 rfl rfl)<|tS (pT rfl rfl)<|aS rfl<|Tn ?_
 obtain rfl := o1 hm
 exact jJ ⟨rfl, rfl, lr⟩
 rw [if_neg m] at hm
 refine mV rfl<|nO<|nO<|nO<|nO<|nO<|nO<|nO<|tS (pF rfl rfl)<|aS rfl<|Tn ?_
 obtain rfl := o1 hm
 exact jJ ⟨rfl, rfl, lr⟩
 rintro S _ _ ⟨rfl, rfl, G⟩
 have hm := O
 refine Ct ?_
 obtain rfl := o1 hm
 exact rO ⟨rfl, rfl⟩ G
theorem z0Z (A : Option Addr) (n c : Nat) (xs : List Value) (w : World) (hR : Rd w A xs) (hl : xs.length = n * 4) (hn : n * 32 ≤ 140737488355328 ∧ n ≤ 9223372036854775807) :
    q5i Tryz.prog 67 [.slice A n c] w [] (fun v hp' => q9x 72 4 v n xs hp') := by
  refine q4Z 8 Tryz.func67 rfl Tryz.ntmps67 rfl ?_
  refine q5Y ?_
  refine q9L rfl rfl ?_
  refine q4t ?_
  refine q2V ?_
  refine q5Y ?_
  refine z4a rfl rfl ?_
  refine q4S rfl (q4U rfl rfl q6l) (fun hc1 => ?_) (fun hc1 => ?_)
  ·
    refine q4t ?_
    refine k9 rfl ?_
    refine q5Y ?_
    refine q9L rfl rfl ?_
    refine q4t ?_
    refine q3M ?_
    refine V5 ?_
    subst hc1
    obtain rfl := hR.none_nil
    obtain rfl : n = 0 := by simp at hl; omega
    refine q3Y (hp' := []) (by repeat (first | exact List.Sublist.refl _ | exact List.nil_sublist _ | exact Kb _ _ | exact Kc _ _ | exact (Kc _ _).trans (Kc _ _) | apply List.Sublist.cons_cons | apply List.Sublist.cons)) ?_
    exact z5d (k8.Le.refl _) rfl rfl (q9x.nil)
  ·
    refine q4t ?_
    refine k7 rfl ?_
    refine q3d ?_
    refine Q4 ?_
    refine q5Y ?_
    refine z1C rfl (V7 (el := 72) [] [] rfl (fun _ => by kernel_rfl)) ?_
    rintro _ _ ⟨g0, rfl, rfl⟩
    refine z4a rfl rfl ?_
    refine z1C rfl (q9z xs q6l j0X rfl (by decide) rfl rfl hl (fun w ho => hR.old ho) hn.2 hn.1) ?_
    rintro _ _ ⟨hs, rfl, hseg⟩
    refine q9L rfl rfl ?_
    refine q4t ?_
    refine q3M ?_
    refine q3Y (hp' := hs) (by repeat (first | exact List.Sublist.refl _ | exact List.nil_sublist _ | exact Kb _ _ | exact Kc _ _ | exact (Kc _ _).trans (Kc _ _) | apply List.Sublist.cons_cons | apply List.Sublist.cons)) ?_
    exact z5d (k8.Le.refl _) rfl rfl hseg
theorem z1V (b : k8) (R : Hp) (d e f) (i : FZ j8 b.w e f d) (a) (hm : q3q d = some a):
 w8 Tryz.prog 67 [sv e d f] b (R) (fun v b' hp' => ∃ g h c, sv g a h = v ∧ (c ++ R) = hp' ∧ OS 72 (OT.fr j8) b'.w (sv g a h) a c) := by
 unfold q3q at hm
 obtain ⟨_, hroom, hm⟩ := bS hm
 have hroom := V6 hroom
 obtain rfl := o1 hm
 exact q5d (r := j8) (sz := 4) (by_ := 32) rfl (by decide) z0Z i hroom
theorem q7r (b : k8) (R : Hp) (a : q9) (c) (hm : q2e a = some c):
 w8 Tryz.prog 69 [.agg #[iv a.Kind, iv a.Place, iv a.Position, iv a.At]] b (R) (fun v b' hp' => bv c = v ∧ R = hp') := by
 refine fE 6 Tryz.func69 rfl Tryz.ntmps69 rfl ?_
 unfold q2e at hm
 refine Cr<|tD (uB _ rfl rfl) ?_
 rintro _ _ ⟨d, rfl, rfl⟩
 refine aS rfl<|Te<|Cr<|tS (sF rfl q0I)<|tS (sL 0 rfl Q5 rfl rfl)<|tS (q1 rfl rfl)<|aS rfl<|Te<|Ct ?_
 obtain rfl := o1 hm
 exact rO ⟨rfl, rfl⟩ lr
theorem q8D (b : k8) (R : Hp) (n z A) (D : FZ j8 b.w z A n) (o) (hm : H5 n = some o):
 w8 Tryz.prog 107 [sv z n A, .func (.func 69) #[] #[]] b (R) (fun v b' hp' => iv o = v ∧ R = hp') := by
 refine fE 19 Tryz.func107 rfl Tryz.ntmps107 rfl ?_
 unfold H5 at hm
 refine Cr<|aS rfl<|Te<|Cs<|Cr<|mV rfl<|tS (sE rfl q6l)<|mV rfl<|Te<|Cb ?_
 have E : n.length ≤ 9223372036854775807 := (FZ.bd D)
 obtain ⟨I, p, e⟩ := bS hm
 refine lF (fun q => fun _ => fun i e' hp' => [(0, sv z n A), (1, .func (.func 69) #[] #[]), (7, iv ((n.length : Int))), (8, iv ((q : Int)))] = e' ∧ R = hp' ∧ b.Le i) p ⟨rfl, rfl, lr⟩ ?_ ?_
 rintro q _ i _ _ F y ⟨rfl, rfl, a⟩ c f
 unfold F5 at c
 have hm := c
 refine Cr<|tS (lT rfl rfl (by omega))<|Te<|Cs<|k9 rfl<|Ck<|Xn<|Cs<|Cb<|Cr<|mV rfl<|aS rfl<|Te<|Cr<|mV rfl<|mV rfl<|mV rfl ?_
 obtain ⟨d, B, G, r, H, s, k, g, l, hm⟩ := bF (sz := 4) hm (D.le a)
 obtain ⟨_, _, rfl, rfl, ⟨_, _, rfl, rfl, ⟨_, _, rfl, rfl, rfl⟩⟩⟩ := s
 refine tS (sI B rfl rfl r l g q6l)<|tS (sP (vs := [iv d.Kind, iv d.Place, iv d.Position, iv d.At]) 4 rfl q0n g rfl (fun j u hu => k j u hu)) ?_
 obtain ⟨C, m, hm⟩ := bS hm
 refine tD (q0L #[] #[] [.agg #[iv d.Kind, iv d.Place, iv d.Position, iv d.At]] rfl j2g rfl (fun w ho => q7r _ [] d C m) (fun _ _ _ h => h.2.symm)) ?_
 rintro _ _ ⟨⟨_, rfl, _⟩, rfl⟩
 refine Te<|cB hm rfl (fun hm => ?_) fun hm => ?_
 refine Cr<|mV rfl<|aS rfl<|Te<|Ct<|Xb<|Xr<|Xr<|Xb<|Xr ?_
 have t := f _ (Kd hm).symm
 rw [t] at e
 have hm := J9 e
 obtain rfl := o1 hm
 exact rO ⟨rfl, rfl⟩ a
 refine Ck<|Xm<|Xn<|Cg<|tS (sa rfl rfl (by omega))<|mV rfl<|Tn ?_
 exact jM hm ⟨rfl, rfl, (a)⟩
 rintro _ i _ _ ⟨rfl, rfl, a⟩ x
 rw [x] at e
 have hm := H4 e
 refine Cr<|tS (lF rfl rfl (by omega))<|Te<|Cs<|k7 rfl<|Ce<|Xe<|Xe<|Xo<|Xn<|Cr<|aS rfl<|Te<|Ct ?_
 obtain rfl := o1 hm
 exact rO ⟨rfl, rfl⟩ a
theorem q9p (b : k8) (R : Hp) (l6 W D Y) (h5 : OS 72 (OT.fr j8) b.w (sv W l6 D) l6 Y) (E) (hm : G6 l6 = some E):
 w8 Tryz.prog 68 [sv W l6 D, .func (.func 69) #[] #[]] b ((Y ++ R)) (fun v b' hp' => ∃ aB aC Z, sv aB E aC = v ∧ (Z ++ R) = hp' ∧ OS 72 (OT.fr j8) b'.w (sv aB E aC) E Z) := by
 refine fE 42 Tryz.func68 rfl Tryz.ntmps68 rfl ?_
 unfold G6 at hm
 refine Cr<|aS rfl<|Te<|Cr<|mV rfl<|mV rfl ?_
 obtain ⟨aW, ak, hm⟩ := bS hm
 refine tD (uW _ z5Q rfl (fun w ho => q8D _ [] l6 W D (OS.now (o := (OT.fr j8)) (l := l6) (hs := Y) h5 ho (Kb _ _)) aW ak) (fun _ _ _ h => h.2.symm)) ?_
 rintro _ _ ⟨⟨_, rfl, _⟩, rfl⟩
 refine aS rfl<|Te<|Cs<|Cr<|mV rfl<|tS (q1 rfl rfl)<|Te<|cI hm rfl (fun hm => ?_) fun hm => ?_
 refine Cr<|mV rfl<|aS rfl<|Te<|Ct<|Xr ?_
 obtain rfl := o1 hm
 exact rO ⟨W, D, Y, rfl, rfl, h5⟩ lr
 refine Ck<|Xn ?_
 obtain ⟨⟨F, e⟩, aE, aF⟩ := bS hm
 refine Cj (fun aa e' hp' => ∃ s, [(0, sv W e D), (5, iv F)] = e' ∧ (s ++ R) = hp' ∧ b.Le aa ∧ OS 72 (OT.fr j8) aa.w (sv W e D) e s ∧ e.length = l6.length) ?_ ?_
 have hm := aE
 refine Cr<|mV rfl ?_
 obtain ⟨_, ab, hm⟩ := bS hm
 have ab := (kS ab).2
 refine tS (sa rfl rfl ab)<|aS rfl<|Te<|Cb<|lL (q4L fun t x d => fun n e' hp' => ∃ c, [(0, sv W d D), (1, .func (.func 69) #[] #[]), (5, iv t), (6, iv x)] = e' ∧ (c ++ R) = hp' ∧ b.Le n ∧ OS 72 (OT.fr j8) n.w (sv W d D) d c ∧ d.length = l6.length) hm ⟨Y, rfl, rfl, lr, h5, rfl⟩ ?_
 rintro ⟨t, x, d⟩ n _ _ bb ⟨c, rfl, rfl, q, g, k⟩ m X
 unfold F7 at m
 have hm := q4s m
 refine Cs<|Cr<|mV rfl<|mV rfl<|tS (sE rfl q6l)<|tS (q3 rfl rfl)<|Te<|cI hm rfl (fun hm => ?_) fun hm => ?_
 refine Ck<|Xn ?_
 obtain ⟨⟨aG, p⟩, al, am⟩ := bS hm
 refine Cj (fun y e' hp' => ∃ f, [(0, sv W p D), (1, .func (.func 69) #[] #[]), (5, iv aG), (6, iv x)] = e' ∧ (f ++ R) = hp' ∧ n.Le y ∧ OS 72 (OT.fr j8) y.w (sv W p D) p f ∧ p.length = l6.length) ?_ ?_
 have hm := al
 refine Cb<|Cr<|mV rfl<|mV rfl ?_
 obtain ⟨a, aH, hm⟩ := bS hm
 obtain ⟨aI, an, ao⟩ := iS aH
 obtain ⟨a0, a1, bc, bd, a2, aq, ac, G, ad, a3, aX⟩ := OS.get (sz := 4) rfl (by decide) g ao
 obtain ⟨⟨_, _, rfl, rfl, ⟨_, _, rfl, rfl, ⟨_, _, rfl, rfl, rfl⟩⟩⟩, rfl⟩ := aq
 refine tS (sI aI rfl rfl an ad G q6l)<|tS (Z2 (vs := [iv a.Kind, iv a.Place, iv a.Position, iv a.At]) 4 rfl q0n G rfl (fun w ho j u hu => ac w _ ho (Kb _ _) j u hu))<|tD (uA [iv 0, iv 0, iv 0, iv 0] q7Q rfl) ?_
 rintro _ _ ⟨be, rfl, rfl⟩
 refine tD (uN (vs := [_, _, _, _]) 0 4 rfl rfl rfl z1H rfl (mc rfl (mc rfl (mc rfl (mc rfl mn)))) rfl (by simp)) ?_
 rintro _ _ rfl
 refine Te<|Cr<|mV rfl<|tS (sD (vs := [_, _, _, _]) 0 4 rfl q0n rfl rfl rfl) ?_
 obtain ⟨aJ, ae, hm⟩ := bS hm
 refine tD (q0L #[] #[] [.agg #[iv a.Kind, iv a.Place, iv a.Position, iv a.At]] rfl j2g rfl (fun w ho => q7r _ [] a aJ ae) (fun _ _ _ h => h.2.symm)) ?_
 rintro _ _ ⟨⟨_, rfl, _⟩, rfl⟩
 refine tS (sn2 rfl)<|Te<|cM hm rfl (fun hm => ?_) fun hm => ?_
 refine Cr<|mV rfl<|mV rfl<|tS (sD (vs := [_, _, _, _]) 0 4 rfl q0n rfl rfl rfl) ?_
 obtain ⟨bf, aK, hm⟩ := bS hm
 obtain ⟨aL, H, I⟩ := iS aK
 obtain ⟨a4, a5, bg, bh, a6, ar, aY, au, af, a7, aZ⟩ := OS.get (sz := 4) rfl (by decide) g I
 obtain ⟨⟨_, _, rfl, rfl, ⟨_, _, rfl, rfl, ⟨_, _, rfl, rfl, rfl⟩⟩⟩, rfl⟩ := ar
 refine tS (sI aL rfl rfl H af au q6l)<|tD (uP H (sz := 4) (a' := a) rfl [_] R 0 4 [iv a.Kind, iv a.Place, iv a.Position, iv a.At] rfl g I rfl rfl rfl z1H rfl (mc rfl (mc rfl (mc rfl (mc rfl mn)))) (fun cs hsj hh => by obtain ⟨⟨_, _, rfl, rfl, ⟨_, _, rfl, rfl, ⟨_, _, rfl, rfl, rfl⟩⟩⟩, rfl⟩ := hh; exact ⟨by first | decide | exact Nat.le_refl _, ⟨[iv a.Kind], _, rfl, rfl, ⟨[iv a.Place], _, rfl, rfl, ⟨[iv a.Position], _, rfl, rfl, rfl⟩⟩⟩, rfl⟩)) ?_
 rintro _ _ ⟨av, rfl, aM⟩
 refine Tr 0 rfl (v' := .slice W (put d t a).length D) (by simp only [v7])<|Te<|Cg<|mV rfl ?_
 obtain ⟨_, z, hm⟩ := bS hm
 have z := (kS z).2
 refine tS (sa rfl rfl z)<|aS rfl<|Tn<|Xm ?_
 obtain ⟨rfl, rfl⟩ := Z6 hm
 exact jJ ⟨av, rfl, rfl, lr, aM, ((v7 _ _ _).trans k)⟩
 refine Ck<|Xm ?_
 obtain ⟨rfl, rfl⟩ := Z6 hm
 exact jJ ⟨c, rfl, rfl, lr, g, k⟩
 rintro y _ _ ⟨f, rfl, rfl, ag, aN, ah⟩
 have hm := J4 am
 refine Cg<|mV rfl ?_
 obtain ⟨_, A, hm⟩ := bS hm
 have A := (kS A).2
 refine tS (sa rfl rfl A)<|aS rfl<|Tn ?_
 exact jM hm ⟨f, rfl, rfl, ((q.trans ag)), aN, ah⟩
 refine Ce<|Xe<|Xe<|Xo ?_
 have hm := congrArg some (X _ (Kd hm).symm)
 obtain ⟨rfl, rfl⟩ := Z6 hm
 exact jJ ⟨c, rfl, rfl, q, g, k⟩
 rintro aa _ _ ⟨s, rfl, rfl, aw, aD, a8⟩
 have hm := J4 aF
 refine Cr<|mV rfl<|mV rfl ?_
 obtain ⟨aO, aP, hm⟩ := bS hm
 obtain ⟨B, aQ, J, a9, K, L, O⟩ := q6G aP
 have aR := OS.lc aD
 refine tS (O ▸ z0A (l := e) B aQ rfl (.inr ⟨_, _, _, rfl, rfl, J⟩) (.inl ⟨rfl, by omega⟩) K L aR q6l) ?_
 have ax : (aO).length = e.length - B := by rw [O]; simp only [List.length_drop, List.length_take]; omega
 refine tD (j6z (r := j8) (i := F) [] R [iv 0, iv 0, iv 0, iv 0] ((⟨0, 0, 0, 0⟩ : q9) : q9) B rfl aD J (Nat.le_trans K L) ax rfl q6l j0X rfl rfl rfl ⟨[iv 0], _, rfl, rfl, ⟨[iv 0], _, rfl, rfl, ⟨[iv 0], _, rfl, rfl, rfl⟩⟩⟩) ?_
 rintro _ _ ⟨ay, rfl, rfl, ai⟩
 refine Tr 0 rfl (v' := .slice W (j1r e F ((⟨0, 0, 0, 0⟩ : q9) : q9)).length D) (by simp only [z0Y])<|Te<|Cr<|mV rfl<|mV rfl ?_
 obtain ⟨bi, aT, hm⟩ := bS hm
 obtain ⟨C, aU, ba, az, S, T, U⟩ := q6G aT
 have aV := OS.lc ai
 refine tS (U ▸ z0A (l := j1r e F ((⟨0, 0, 0, 0⟩ : q9) : q9)) C aU rfl (.inl ⟨rfl, by omega⟩) (.inr ⟨_, _, _, rfl, rfl, az⟩) S T aV q6l) ?_
 obtain ⟨V, aA, aj⟩ := OS.sub (sz := 4) rfl ai S T
 rw [← U] at aj
 refine q7W [] ay V R rfl aA<|aS rfl<|Te<|Ct ?_
 obtain rfl := o1 hm
 exact rO ⟨(z2k W D C 4), (D - C), V, rfl, rfl, aj⟩ aw
end Go.Proofs.YtdbehipjelcmbaaGreatDoor
