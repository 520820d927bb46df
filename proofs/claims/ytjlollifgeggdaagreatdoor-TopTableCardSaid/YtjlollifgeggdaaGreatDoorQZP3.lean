import Derived.Test.YtjlollifgeggdaaGreatDoorQZP2
set_option linter.unusedVariables false
set_option linter.unusedSimpArgs false
set_option linter.unusedSectionVars false
namespace Go.Proofs.YtjlollifgeggdaaGreatDoor
open Go.RowKit Go.Fp
set_option maxHeartbeats 4000000
set_option maxRecDepth 20000
open Go.Fp renaming q3U → Te, q5t → Tn, q4y → Tb, q8c → Tg, z0k → Tv, z3g → Tr, q5p → Cr, q2t → Cs, q0r → Cg, q6V → Cb, q3B → Ct, q3r → Ck, z1L → Ce, z4d → Cj, z2U → Cp, Q0 → Xn, W5 → Xr, q1R → Xe, q1S → Xb, q1d → Xm, q2L → Xo, z5m → Xp, q7C → X2, q7B → X3, q7A → X4, z0a → X5, z3e → X6, z9p → Es, z7f → E0, z8C → Ey, j2U → Yz, j0P → Ei, z5c → Eo, z7g → Da, z2a → Dd, z1b → Di, j2R → Rd2, z7c → Rn, q7W → Rg, z0l → sL, q7F → sD, q7G → sF, z1h → sN, z1i → sE, q2O → sM, q1w → sA, q5M → pT, q5N → pF, q1r → sI, q1T → sO, q3g → sP, q2m → sQ, z1k → sa, q5P → lT, q5Q → lF, z3p → eT, z3q → eF, q5O → sn2, q7H → sB, z4q → uB, q7Z → uA, z0b → uS, q3T → uN, q7D → uW, z0c → uP, z0d → uQ, q4J → fE, q9t → bS, z4w → o1, q5g → iS, q5L → ss, z2m → sp, q7T → kS, z3W → d2, q6p → d3, z8n → d4, z7P → mc, z7O → mn, q9E → q1, q9B → q2, q9C → q3, z8J → q4, q9D → q5, z3o → q6
theorem z8w (b : v7) (R : Hp) (Y : j1) (A2 c3 A5 c6 A8 c9 an ao aq ar) (h4 : FZ RT.str b.w A2 c3 Y.Stations) (h7 : FZ j5 b.w A5 c6 Y.Sections) (aD : FZ w9 b.w A8 c9 Y.Links) (aE : FZ j6 b.w an ao Y.Signals) (aF : FZ k7 b.w aq ar Y.Gates) (bt bu bw bx bz bA bB bj bk bW bX) (hm : q6b Y = some (bt, bu, bw, bx, bz, bA, bB, bj, bk, bW, bX)):
 w5 Tryz.prog 8 [.agg #[sv A2 Y.Stations c3, sv A5 Y.Sections c6, sv A8 Y.Links c9, sv an Y.Signals ao, sv aq Y.Gates ar]] b (R) (fun v b' hp' => ∃ (ads : Int → Nat), ∃ bY bZ b0 b1 b2 b3 b4 b5 b6 b7 b8 b9 ca cb cc cd ce bC cf cg bD ch bE bG, .tuple #[pb bY, iv 0] = v ∧ (bY, Cl 78 [sv bZ bt b0, sv b1 bu b2, sv b3 bw b4, sv b5 bx b6, sv b7 bz b8, sv b9 bA ca, sv cb bB cc, sv cd bj ce, sv cf bk cg, .map (some ch)]) :: (bC ++ (bD ++ (bE ++ (bG ++ R)))) = hp' ∧ FZ RT.str b'.w bZ b0 bt ∧ FZ j5 b'.w b1 b2 bu ∧ FZ w9 b'.w b3 b4 bw ∧ FZ j6 b'.w b5 b6 bx ∧ FZ k7 b'.w b7 b8 bz ∧ FZ Z9 b'.w b9 ca bA ∧ FZ (RT.list j4) b'.w cb cc bB ∧ OS 80 (OT.fr Q5) b'.w (sv cd bj ce) bj bC ∧ OS 94 (OT.fr Q4) b'.w (sv cf bk cg) bk bD ∧ OM rI (OT.fr (RT.key ads)) false false b'.w ch bW bE ∧ OAr 90 j9 ads b'.w bX bG) := by
 refine fE 78 Tryz.func8 rfl Tryz.ntmps8 rfl ?_
 unfold q6b at hm
 refine Cr<|tD (uB _ rfl rfl) ?_
 rintro _ _ ⟨au, rfl, rfl⟩
 refine aS rfl<|aS rfl<|Te<|Cs<|Cr<|tS (sD (vs := [_, _, _, _, _]) 0 5 rfl G7 rfl rfl rfl) ?_
 obtain ⟨cO, bR, hm⟩ := bS hm
 refine tD (uW _ z6B rfl (fun w ho => q7e _ [] Y A2 c3 A5 c6 A8 c9 an ao aq ar (h4.old ho) (h7.old ho) (aD.old ho) (aE.old ho) (aF.old ho) cO bR) (fun _ _ _ h => h.2.symm)) ?_
 rintro _ _ ⟨⟨_, rfl, _⟩, rfl⟩
 refine aS rfl<|Te<|Cr<|mV rfl<|tS (q2 rfl rfl)<|Te<|cI hm rfl (fun hm => ?_) fun hm => ?_
 refine Cr<|mV rfl<|aS rfl<|aS rfl<|Te<|Ct<|Xr ?_
 cases hm
 refine Ck<|Xn<|Cr<|tS (sD (vs := [_, _, _, _, _]) 0 5 rfl G7 rfl rfl rfl) ?_
 obtain ⟨⟨cP, ac⟩, bT, hm⟩ := bS hm
 have hm := V8 hm
 refine Tg _ rfl z8t rfl (q4i _ _ Y A2 c3 A5 c6 A8 c9 an ao aq ar h4 h7 aD aE aF cP ac bT) ?_
 rintro _ a5 _ d ⟨ak, al, j, rfl, rfl, ci, d6⟩
 refine q2z [] [_] j R rfl<|mV rfl<|tS (v6 rfl rfl)<|tS (v6 rfl rfl)<|aS rfl<|aS rfl<|Te<|Cs<|Cr<|mV rfl<|tS (q2 rfl rfl)<|Te<|cI hm rfl (fun hm => ?_) fun hm => ?_
 refine Cr<|mV rfl<|aS rfl<|aS rfl<|Te<|Ct<|Xr ?_
 cases hm
 refine Ck<|Xn ?_
 obtain ⟨⟨a9, ba, bb, bc, bd, be, a6, cQ, cR⟩, cl, cm⟩ := bS hm
 refine Cj (fun aA e' hp' => ∃ (ads : Int → Nat), ∃ aJ aN aO aP aQ aR aT aU aV aW aX bl bm aw aY aZ I a0 J K, [(1, pb au), (5, sv ak ac al), (7, pb aJ)] = e' ∧ (au, Cl 28 [sv A2 Y.Stations c3, sv A5 Y.Sections c6, sv A8 Y.Links c9, sv an Y.Signals ao, sv aq Y.Gates ar]) :: (aJ, Cl 78 [sv aN a9 aO, sv aP ba aQ, sv aR bb aT, sv aU bc aV, sv aW bd aX, sv ak ac al, sn, sv bl be bm, sv aY a6 aZ, .map (some a0)]) :: (j ++ (aw ++ (I ++ (J ++ (K ++ R))))) = hp' ∧ a5.Le aA ∧ FZ RT.str aA.w aN aO a9 ∧ FZ j5 aA.w aP aQ ba ∧ FZ w9 aA.w aR aT bb ∧ FZ j6 aA.w aU aV bc ∧ FZ k7 aA.w aW aX bd ∧ OS 80 (OT.fr Q5) aA.w (sv bl be bm) be aw ∧ OS 94 (OT.fr Q4) aA.w (sv aY a6 aZ) a6 I ∧ OM rI (OT.fr (RT.key ads)) false false aA.w a0 cQ J ∧ OAr 90 j9 ads aA.w cR K) ?_ ?_
 have hm := cl
 obtain ⟨⟨ad, ae, af, ag, ah⟩, am, hm⟩ := bS hm
 have hm := z4o hm
 obtain ⟨Z, G, hm⟩ := bS hm
 obtain ⟨aa, H, hm⟩ := bS hm
 refine z3a ((au, Cl 28 [sv A2 Y.Stations c3, sv A5 Y.Sections c6, sv A8 Y.Links c9, sv an Y.Signals ao, sv aq Y.Gates ar]) :: (j ++ R)) mixed ?_
 refine z1Z (fun aC e' hp' => ∃ (ads : Int → Nat), ∃ e k f m n g o p q s t u x y z A B C, [(1, pb au), (5, sv ak ac al), (26, .agg #[sv q ad s, sv t ae u, sv x af y, sv z ag A, sv B ah C]), (27, sv ak ac al), (31, .slice o (List.replicate Z ((⟨0, false, 0, 0, false⟩ : q9) : q9)).length p), (35, .slice m (List.replicate aa ((⟨0, false, false⟩ : z6) : z6)).length n), (36, .map (some k))] = e' ∧ (au, Cl 28 [sv A2 Y.Stations c3, sv A5 Y.Sections c6, sv A8 Y.Links c9, sv an Y.Signals ao, sv aq Y.Gates ar]) :: (e ++ (f ++ (g ++ (j ++ ([] ++ R))))) = hp' ∧ OM rI (OT.fr (RT.key ads)) false false aC.w k ([] : (List (Int × (Option Int)))) e ∧ OS 94 (OT.fr Q4) aC.w (.slice m (List.replicate aa ((⟨0, false, false⟩ : z6) : z6)).length n) (List.replicate aa ((⟨0, false, false⟩ : z6) : z6)) f ∧ OS 80 (OT.fr Q5) aC.w (.slice o (List.replicate Z ((⟨0, false, 0, 0, false⟩ : q9) : q9)).length p) (List.replicate Z ((⟨0, false, 0, 0, false⟩ : q9) : q9)) g ∧ OAr 90 j9 ads aC.w ([] : List (Int × z7)) [] ∧ FZ RT.str aC.w q s ad ∧ FZ j5 aC.w t u ae ∧ FZ w9 aC.w x y af ∧ FZ j6 aC.w z A ag ∧ FZ k7 aC.w B C ah) 3 #[true, true, true, true, true, true, true, true, true, true, true, true, false, false, false] ?_ (fun tl687 => ?_)
 rintro aC _ _ aM ⟨ads, e, k, f, m, n, g, o, p, q, s, t, u, x, y, z, A, B, C, rfl, rfl, cT, cU, cV, cW, cX, cY, cZ, c0, c1⟩
 refine Da [12] (by kernel_rfl) rfl ?_
 refine Rd2 aM rfl rfl (Q2.does (sB (v := .agg #[sv q ad s, sv t ae u, sv x af y, sv z ag A, sv B ah C, sv ak ac al, sn, .slice o (List.replicate Z ((⟨0, false, 0, 0, false⟩ : q9) : q9)).length p, .slice m (List.replicate aa ((⟨0, false, false⟩ : z6) : z6)).length n, .map (some k)]) [(0, .agg #[sv q ad s, sv t ae u, sv x af y, sv z ag A, sv B ah C]), (1, sv ak ac al), (3, .slice o (List.replicate Z ((⟨0, false, 0, 0, false⟩ : q9) : q9)).length p), (4, .slice m (List.replicate aa ((⟨0, false, false⟩ : z6) : z6)).length n), (5, .map (some k))] rfl (fun _ => by kernel_rfl))) ?_ ?_
 rintro _ _ ⟨rfl, rfl⟩
 refine iR<|Da [13] (by kernel_rfl) rfl<|Rd2 aM rfl rfl (uB _ rfl rfl) ?_ ?_
 rintro _ _ ⟨c2, rfl, rfl⟩
 refine iR<|Ei aM (.cons _ (.cons_cons _ (ss e (ss f (ss g (sp j (ss [] (.refl _))))))))<|E0 14 rfl (sA rfl)<|Eo<|Dd (by kernel_rfl) ?_
 obtain ⟨rfl, rfl, rfl, rfl, rfl, rfl, rfl, rfl, rfl⟩ := j3e hm
 exact jJ ⟨ads, c2, q, s, t, u, x, y, z, A, B, C, o, p, g, m, n, f, k, e, [], rfl, rfl, aM, cX, cY, cZ, c0, c1, cV, cU, cT, cW⟩
 exact Rn
 exact Rn
 refine z1Z (fun aG e' hp' => ∃ f m n g o p q s t u x y z A B C, [(1, pb au), (5, sv ak ac al), (26, .agg #[sv q ad s, sv t ae u, sv x af y, sv z ag A, sv B ah C]), (27, sv ak ac al), (31, .slice o (List.replicate Z ((⟨0, false, 0, 0, false⟩ : q9) : q9)).length p), (35, .slice m (List.replicate aa ((⟨0, false, false⟩ : z6) : z6)).length n)] = e' ∧ (au, Cl 28 [sv A2 Y.Stations c3, sv A5 Y.Sections c6, sv A8 Y.Links c9, sv an Y.Signals ao, sv aq Y.Gates ar]) :: (f ++ (g ++ (j ++ R))) = hp' ∧ OS 94 (OT.fr Q4) aG.w (.slice m (List.replicate aa ((⟨0, false, false⟩ : z6) : z6)).length n) (List.replicate aa ((⟨0, false, false⟩ : z6) : z6)) f ∧ OS 80 (OT.fr Q5) aG.w (.slice o (List.replicate Z ((⟨0, false, 0, 0, false⟩ : q9) : q9)).length p) (List.replicate Z ((⟨0, false, 0, 0, false⟩ : q9) : q9)) g ∧ FZ RT.str aG.w q s ad ∧ FZ j5 aG.w t u ae ∧ FZ w9 aG.w x y af ∧ FZ j6 aG.w z A ag ∧ FZ k7 aG.w B C ah) 4 #[true, true, true, true, true, true, true, true, true, true, true, false, false, false, false] ?_ (fun tl697 => ?_)
 rintro aG _ _ bn ⟨f, m, n, g, o, p, q, s, t, u, x, y, z, A, B, C, rfl, rfl, c4, c5, c7, c8, da, db, dc⟩
 obtain ⟨ads, _⟩ : ∃ a : Int → Nat, a = fun _ => 0 := ⟨_, rfl⟩
 refine Da [11] (by kernel_rfl) rfl<|Rd2 bn rfl rfl (q3f rI (OT.fr (RT.key ads)) false false [_] (f ++ (g ++ (j ++ R))) rfl) ?_ ?_
 rintro _ _ ⟨k, e, rfl, rfl, O⟩
 have F : OAr 90 j9 ads aG.w [] [] := OAr.nil Z4
 refine iR ?_
 exact dG tl687 ⟨ads, e, k, f, m, n, g, o, p, q, s, t, u, x, y, z, A, B, C, rfl, rfl, O, c4, c5, F, c7, c8, da, db, dc⟩ bn
 exact Rn
 refine z1Z (fun aH e' hp' => ∃ (ads : Int → Nat), ∃ e k g o p q s t u x y z A B C, [(1, pb au), (5, sv ak ac al), (26, .agg #[sv q ad s, sv t ae u, sv x af y, sv z ag A, sv B ah C]), (27, sv ak ac al), (31, .slice o (List.replicate Z ((⟨0, false, 0, 0, false⟩ : q9) : q9)).length p), (34, iv ((Y.Gates.length : Int))), (36, .map (some k))] = e' ∧ (au, Cl 28 [sv A2 Y.Stations c3, sv A5 Y.Sections c6, sv A8 Y.Links c9, sv an Y.Signals ao, sv aq Y.Gates ar]) :: (e ++ (g ++ (j ++ ([] ++ R)))) = hp' ∧ OM rI (OT.fr (RT.key ads)) false false aH.w k ([] : (List (Int × (Option Int)))) e ∧ OS 80 (OT.fr Q5) aH.w (.slice o (List.replicate Z ((⟨0, false, 0, 0, false⟩ : q9) : q9)).length p) (List.replicate Z ((⟨0, false, 0, 0, false⟩ : q9) : q9)) g ∧ OAr 90 j9 ads aH.w ([] : List (Int × z7)) [] ∧ FZ RT.str aH.w q s ad ∧ FZ j5 aH.w t u ae ∧ FZ w9 aH.w x y af ∧ FZ j6 aH.w z A ag ∧ FZ k7 aH.w B C ah) 4 #[true, true, true, true, true, true, true, true, true, true, false, true, false, false, false] ?_ (fun tl708 => ?_)
 rintro aH _ _ bo ⟨ads, e, k, g, o, p, q, s, t, u, x, y, z, A, B, C, rfl, rfl, dd, de, df, dg, dh, di, dj, dk⟩
 have H := q0Q H
 refine Da [10] (by kernel_rfl) rfl<|Rd2 bo rfl rfl (Y7 (r := Q4) [_] (e ++ (g ++ (j ++ ([] ++ R)))) [iv 0, bv false, bv false] (⟨0, false, false⟩ : z6) aa rfl H.1 rfl rfl z3r q8s rfl rfl rfl (by decide) ⟨[iv 0], _, rfl, rfl, ⟨[bv false], _, rfl, rfl, rfl⟩⟩ H.2.1 H.2.2) ?_ ?_
 rintro _ _ ⟨f, rfl, D⟩
 obtain ⟨m, n, rfl, _⟩ := D.form
 refine iR ?_
 exact dG tl687 ⟨ads, e, k, f, m, n, g, o, p, q, s, t, u, x, y, z, A, B, C, rfl, rfl, dd, D, de, df, dg, dh, di, dj, dk⟩ bo
 exact Rn
 refine z1Z (fun aI e' hp' => ∃ (ads : Int → Nat), ∃ e k f m n q s t u x y z A B C, [(1, pb au), (5, sv ak ac al), (26, .agg #[sv q ad s, sv t ae u, sv x af y, sv z ag A, sv B ah C]), (27, sv ak ac al), (30, iv ((Y.Sections.length : Int))), (35, .slice m (List.replicate aa ((⟨0, false, false⟩ : z6) : z6)).length n), (36, .map (some k))] = e' ∧ (au, Cl 28 [sv A2 Y.Stations c3, sv A5 Y.Sections c6, sv A8 Y.Links c9, sv an Y.Signals ao, sv aq Y.Gates ar]) :: (e ++ (f ++ (j ++ ([] ++ R)))) = hp' ∧ OM rI (OT.fr (RT.key ads)) false false aI.w k ([] : (List (Int × (Option Int)))) e ∧ OS 94 (OT.fr Q4) aI.w (.slice m (List.replicate aa ((⟨0, false, false⟩ : z6) : z6)).length n) (List.replicate aa ((⟨0, false, false⟩ : z6) : z6)) f ∧ OAr 90 j9 ads aI.w ([] : List (Int × z7)) [] ∧ FZ RT.str aI.w q s ad ∧ FZ j5 aI.w t u ae ∧ FZ w9 aI.w x y af ∧ FZ j6 aI.w z A ag ∧ FZ k7 aI.w B C ah) 4 #[true, true, true, true, true, true, false, true, true, true, true, true, false, false, false] ?_ (fun tl719 => ?_)
 rintro aI _ _ bp ⟨ads, e, k, f, m, n, q, s, t, u, x, y, z, A, B, C, rfl, rfl, dl, dm, dn, dp, dq, dr, ds, dt⟩
 have G := q0Q G
 refine Da [6] (by kernel_rfl) rfl<|Rd2 bp rfl rfl (Y7 (r := Q5) [_] (e ++ (f ++ (j ++ ([] ++ R)))) [iv 0, bv false, iv 0, iv 0, bv false] (⟨0, false, 0, 0, false⟩ : q9) Z rfl G.1 rfl rfl q8j q8t rfl rfl rfl (by decide) ⟨[iv 0], _, rfl, rfl, ⟨[bv false], _, rfl, rfl, ⟨[iv 0], _, rfl, rfl, ⟨[iv 0], _, rfl, rfl, rfl⟩⟩⟩⟩ G.2.1 G.2.2) ?_ ?_
 rintro _ _ ⟨g, rfl, E⟩
 obtain ⟨o, p, rfl, _⟩ := E.form
 refine iR ?_
 exact dG tl687 ⟨ads, e, k, f, m, n, g, o, p, q, s, t, u, x, y, z, A, B, C, rfl, rfl, dl, dm, E, dn, dp, dq, dr, ds, dt⟩ bp
 exact Rn
 refine z1Z (fun bf e' hp' => ∃ (ads : Int → Nat), ∃ e k f m n g o p, [(1, pb au), (5, sv ak ac al), (25, .agg #[sv A2 Y.Stations c3, sv A5 Y.Sections c6, sv A8 Y.Links c9, sv an Y.Signals ao, sv aq Y.Gates ar]), (27, sv ak ac al), (31, .slice o (List.replicate Z ((⟨0, false, 0, 0, false⟩ : q9) : q9)).length p), (35, .slice m (List.replicate aa ((⟨0, false, false⟩ : z6) : z6)).length n), (36, .map (some k))] = e' ∧ (au, Cl 28 [sv A2 Y.Stations c3, sv A5 Y.Sections c6, sv A8 Y.Links c9, sv an Y.Signals ao, sv aq Y.Gates ar]) :: (e ++ (f ++ (g ++ (j ++ ([] ++ R))))) = hp' ∧ OM rI (OT.fr (RT.key ads)) false false bf.w k ([] : (List (Int × (Option Int)))) e ∧ OS 94 (OT.fr Q4) bf.w (.slice m (List.replicate aa ((⟨0, false, false⟩ : z6) : z6)).length n) (List.replicate aa ((⟨0, false, false⟩ : z6) : z6)) f ∧ OS 80 (OT.fr Q5) bf.w (.slice o (List.replicate Z ((⟨0, false, 0, 0, false⟩ : q9) : q9)).length p) (List.replicate Z ((⟨0, false, 0, 0, false⟩ : q9) : q9)) g ∧ OAr 90 j9 ads bf.w ([] : List (Int × z7)) []) 4 #[true, false, true, true, true, true, true, true, true, true, true, true, false, false, false] ?_ (fun tl726 => ?_)
 rintro bf _ _ ax ⟨ads, e, k, f, m, n, g, o, p, rfl, rfl, du, dv, dw, dx⟩
 refine Da [1] (by kernel_rfl) rfl ?_
 have zz := d.trans ax
 refine Rg ax rfl rfl _ q4R rfl (q1K _ _ Y A2 c3 A5 c6 A8 c9 an ao aq ar (h4.le zz) (h7.le zz) (aD.le zz) (aE.le zz) (aF.le zz) ad ae af ag ah am) ?_ ?_
 rintro _ av _ c ⟨q, s, t, u, x, y, z, A, B, C, rfl, rfl, S, T, U, V, W⟩
 refine iR ?_
 exact dG tl687 ⟨ads, e, k, f, m, n, g, o, p, q, s, t, u, x, y, z, A, B, C, rfl, rfl, (du.le c), (dv.le c), (dw.le c), (dx.le c), S, T, U, V, W⟩ (ax.trans c)
 exact Rn
 refine Ei lr (.refl _)<|Es 0 rfl (sD (vs := [_, _, _, _, _]) 0 5 rfl G7 rfl rfl rfl)<|E0 2 rfl (sM rfl)<|E0 3 rfl (sF rfl q0J)<|Es 4 rfl (sL 0 rfl q4B rfl rfl)<|E0 5 rfl (sE rfl z0o)<|E0 7 rfl (sF rfl q6U)<|Es 8 rfl (sL 0 rfl z4J rfl rfl)<|E0 9 rfl (sE rfl z7F)<|Eo ?_
 have G := q0Q G
 have H := q0Q H
 obtain ⟨ads, _⟩ : ∃ a : Int → Nat, a = fun _ => 0 := ⟨_, rfl⟩
 refine Da [1, 6, 10, 11] (by kernel_rfl) rfl<|Rg lr rfl rfl _ q4R rfl (q1K _ _ Y A2 c3 A5 c6 A8 c9 an ao aq ar (h4.le d) (h7.le d) (aD.le d) (aE.le d) (aF.le d) ad ae af ag ah am) ?_ ?_
 rintro _ av _ c ⟨q, s, t, u, x, y, z, A, B, C, rfl, rfl, S, T, U, V, W⟩
 refine iR<|Da [6, 10, 11] (by kernel_rfl) rfl<|Rd2 c rfl rfl (Y7 (r := Q5) [_] (j ++ R) [iv 0, bv false, iv 0, iv 0, bv false] (⟨0, false, 0, 0, false⟩ : q9) Z rfl G.1 rfl rfl q8j q8t rfl rfl rfl (by decide) ⟨[iv 0], _, rfl, rfl, ⟨[bv false], _, rfl, rfl, ⟨[iv 0], _, rfl, rfl, ⟨[iv 0], _, rfl, rfl, rfl⟩⟩⟩⟩ G.2.1 G.2.2) ?_ ?_
 rintro _ _ ⟨g, rfl, E⟩
 obtain ⟨o, p, rfl, _⟩ := E.form
 refine iR<|Da [10, 11] (by kernel_rfl) rfl<|Rd2 c rfl rfl (Y7 (r := Q4) [_] (g ++ (j ++ R)) [iv 0, bv false, bv false] (⟨0, false, false⟩ : z6) aa rfl H.1 rfl rfl z3r q8s rfl rfl rfl (by decide) ⟨[iv 0], _, rfl, rfl, ⟨[bv false], _, rfl, rfl, rfl⟩⟩ H.2.1 H.2.2) ?_ ?_
 rintro _ _ ⟨f, rfl, D⟩
 obtain ⟨m, n, rfl, _⟩ := D.form
 refine iR ?_
 exact dG tl697 ⟨f, m, n, g, o, p, q, s, t, u, x, y, z, A, B, C, rfl, rfl, D, E, S, T, U, V, W⟩ c
 refine Rd2 c rfl rfl (q3f rI (OT.fr (RT.key ads)) false false [_] (g ++ (j ++ R)) rfl) ?_ ?_
 rintro _ _ ⟨k, e, rfl, rfl, O⟩
 have F : OAr 90 j9 ads av.w [] [] := OAr.nil Z4
 refine iR ?_
 exact dG tl708 ⟨ads, e, k, g, o, p, q, s, t, u, x, y, z, A, B, C, rfl, rfl, O, E, F, S, T, U, V, W⟩ c
 exact Rn
 refine Rd2 c rfl rfl (Y7 (r := Q4) [_] (j ++ R) [iv 0, bv false, bv false] (⟨0, false, false⟩ : z6) aa rfl H.1 rfl rfl z3r q8s rfl rfl rfl (by decide) ⟨[iv 0], _, rfl, rfl, ⟨[bv false], _, rfl, rfl, rfl⟩⟩ H.2.1 H.2.2) ?_ ?_
 rintro _ _ ⟨f, rfl, D⟩
 obtain ⟨m, n, rfl, _⟩ := D.form
 refine iR<|Da [6, 11] (by kernel_rfl) rfl<|Rd2 c rfl rfl (Y7 (r := Q5) [_] (f ++ (j ++ R)) [iv 0, bv false, iv 0, iv 0, bv false] (⟨0, false, 0, 0, false⟩ : q9) Z rfl G.1 rfl rfl q8j q8t rfl rfl rfl (by decide) ⟨[iv 0], _, rfl, rfl, ⟨[bv false], _, rfl, rfl, ⟨[iv 0], _, rfl, rfl, ⟨[iv 0], _, rfl, rfl, rfl⟩⟩⟩⟩ G.2.1 G.2.2) ?_ ?_
 rintro _ _ ⟨g, rfl, E⟩
 obtain ⟨o, p, rfl, _⟩ := E.form
 refine iR ?_
 exact dG tl697 ⟨f, m, n, g, o, p, q, s, t, u, x, y, z, A, B, C, rfl, rfl, D, E, S, T, U, V, W⟩ c
 refine Rd2 c rfl rfl (q3f rI (OT.fr (RT.key ads)) false false [_] (f ++ (j ++ R)) rfl) ?_ ?_
 rintro _ _ ⟨k, e, rfl, rfl, O⟩
 have F : OAr 90 j9 ads av.w [] [] := OAr.nil Z4
 refine iR ?_
 exact dG tl719 ⟨ads, e, k, f, m, n, q, s, t, u, x, y, z, A, B, C, rfl, rfl, O, D, F, S, T, U, V, W⟩ c
 exact Rn
 refine Rd2 c rfl rfl (q3f rI (OT.fr (RT.key ads)) false false [_] (j ++ R) rfl) ?_ ?_
 rintro _ _ ⟨k, e, rfl, rfl, O⟩
 have F : OAr 90 j9 ads av.w [] [] := OAr.nil Z4
 refine iR<|Da [6, 10] (by kernel_rfl) rfl<|Rd2 c rfl rfl (Y7 (r := Q5) [_] (e ++ (j ++ ([] ++ R))) [iv 0, bv false, iv 0, iv 0, bv false] (⟨0, false, 0, 0, false⟩ : q9) Z rfl G.1 rfl rfl q8j q8t rfl rfl rfl (by decide) ⟨[iv 0], _, rfl, rfl, ⟨[bv false], _, rfl, rfl, ⟨[iv 0], _, rfl, rfl, ⟨[iv 0], _, rfl, rfl, rfl⟩⟩⟩⟩ G.2.1 G.2.2) ?_ ?_
 rintro _ _ ⟨g, rfl, E⟩
 obtain ⟨o, p, rfl, _⟩ := E.form
 refine iR ?_
 exact dG tl708 ⟨ads, e, k, g, o, p, q, s, t, u, x, y, z, A, B, C, rfl, rfl, O, E, F, S, T, U, V, W⟩ c
 refine Rd2 c rfl rfl (Y7 (r := Q4) [_] (e ++ (j ++ ([] ++ R))) [iv 0, bv false, bv false] (⟨0, false, false⟩ : z6) aa rfl H.1 rfl rfl z3r q8s rfl rfl rfl (by decide) ⟨[iv 0], _, rfl, rfl, ⟨[bv false], _, rfl, rfl, rfl⟩⟩ H.2.1 H.2.2) ?_ ?_
 rintro _ _ ⟨f, rfl, D⟩
 obtain ⟨m, n, rfl, _⟩ := D.form
 refine iR ?_
 exact dG tl719 ⟨ads, e, k, f, m, n, q, s, t, u, x, y, z, A, B, C, rfl, rfl, O, D, F, S, T, U, V, W⟩ c
 exact Rn
 exact Rn
 refine Rd2 lr rfl rfl (Y7 (r := Q5) [_] (j ++ R) [iv 0, bv false, iv 0, iv 0, bv false] (⟨0, false, 0, 0, false⟩ : q9) Z rfl G.1 rfl rfl q8j q8t rfl rfl rfl (by decide) ⟨[iv 0], _, rfl, rfl, ⟨[bv false], _, rfl, rfl, ⟨[iv 0], _, rfl, rfl, ⟨[iv 0], _, rfl, rfl, rfl⟩⟩⟩⟩ G.2.1 G.2.2) ?_ ?_
 rintro _ _ ⟨g, rfl, E⟩
 obtain ⟨o, p, rfl, _⟩ := E.form
 refine iR<|Da [1, 10, 11] (by kernel_rfl) rfl<|Rg lr rfl rfl _ q4R rfl (q1K _ _ Y A2 c3 A5 c6 A8 c9 an ao aq ar (h4.le d) (h7.le d) (aD.le d) (aE.le d) (aF.le d) ad ae af ag ah am) ?_ ?_
 rintro _ av _ c ⟨q, s, t, u, x, y, z, A, B, C, rfl, rfl, S, T, U, V, W⟩
 refine iR<|Da [10, 11] (by kernel_rfl) rfl<|Rd2 c rfl rfl (Y7 (r := Q4) [_] (g ++ (j ++ R)) [iv 0, bv false, bv false] (⟨0, false, false⟩ : z6) aa rfl H.1 rfl rfl z3r q8s rfl rfl rfl (by decide) ⟨[iv 0], _, rfl, rfl, ⟨[bv false], _, rfl, rfl, rfl⟩⟩ H.2.1 H.2.2) ?_ ?_
 rintro _ _ ⟨f, rfl, D⟩
 obtain ⟨m, n, rfl, _⟩ := D.form
 refine iR ?_
 exact dG tl697 ⟨f, m, n, g, o, p, q, s, t, u, x, y, z, A, B, C, rfl, rfl, D, (E.le c), S, T, U, V, W⟩ c
 refine Rd2 c rfl rfl (q3f rI (OT.fr (RT.key ads)) false false [_] (g ++ (j ++ R)) rfl) ?_ ?_
 rintro _ _ ⟨k, e, rfl, rfl, O⟩
 have F : OAr 90 j9 ads av.w [] [] := OAr.nil Z4
 refine iR ?_
 exact dG tl708 ⟨ads, e, k, g, o, p, q, s, t, u, x, y, z, A, B, C, rfl, rfl, O, (E.le c), F, S, T, U, V, W⟩ c
 exact Rn
 refine Rd2 lr rfl rfl (Y7 (r := Q4) [_] (g ++ (j ++ R)) [iv 0, bv false, bv false] (⟨0, false, false⟩ : z6) aa rfl H.1 rfl rfl z3r q8s rfl rfl rfl (by decide) ⟨[iv 0], _, rfl, rfl, ⟨[bv false], _, rfl, rfl, rfl⟩⟩ H.2.1 H.2.2) ?_ ?_
 rintro _ _ ⟨f, rfl, D⟩
 obtain ⟨m, n, rfl, _⟩ := D.form
 refine iR<|Da [1, 11] (by kernel_rfl) rfl<|Rg lr rfl rfl _ q4R rfl (q1K _ _ Y A2 c3 A5 c6 A8 c9 an ao aq ar (h4.le d) (h7.le d) (aD.le d) (aE.le d) (aF.le d) ad ae af ag ah am) ?_ ?_
 rintro _ av _ c ⟨q, s, t, u, x, y, z, A, B, C, rfl, rfl, S, T, U, V, W⟩
 refine iR ?_
 exact dG tl697 ⟨f, m, n, g, o, p, q, s, t, u, x, y, z, A, B, C, rfl, rfl, (D.le c), (E.le c), S, T, U, V, W⟩ c
 refine Rd2 lr rfl rfl (q3f rI (OT.fr (RT.key ads)) false false [_] (f ++ (g ++ (j ++ R))) rfl) ?_ ?_
 rintro _ _ ⟨k, e, rfl, rfl, O⟩
 have F : OAr 90 j9 ads a5.w [] [] := OAr.nil Z4
 refine iR ?_
 exact dG tl726 ⟨ads, e, k, f, m, n, g, o, p, rfl, rfl, O, D, E, F⟩ lr
 exact Rn
 refine Rd2 lr rfl rfl (q3f rI (OT.fr (RT.key ads)) false false [_] (g ++ (j ++ R)) rfl) ?_ ?_
 rintro _ _ ⟨k, e, rfl, rfl, O⟩
 have F : OAr 90 j9 ads a5.w [] [] := OAr.nil Z4
 refine iR<|Da [1, 10] (by kernel_rfl) rfl<|Rg lr rfl rfl _ q4R rfl (q1K _ _ Y A2 c3 A5 c6 A8 c9 an ao aq ar (h4.le d) (h7.le d) (aD.le d) (aE.le d) (aF.le d) ad ae af ag ah am) ?_ ?_
 rintro _ av _ c ⟨q, s, t, u, x, y, z, A, B, C, rfl, rfl, S, T, U, V, W⟩
 refine iR ?_
 exact dG tl708 ⟨ads, e, k, g, o, p, q, s, t, u, x, y, z, A, B, C, rfl, rfl, (O.le c), (E.le c), (F.le c), S, T, U, V, W⟩ c
 refine Rd2 lr rfl rfl (Y7 (r := Q4) [_] (e ++ (g ++ (j ++ ([] ++ R)))) [iv 0, bv false, bv false] (⟨0, false, false⟩ : z6) aa rfl H.1 rfl rfl z3r q8s rfl rfl rfl (by decide) ⟨[iv 0], _, rfl, rfl, ⟨[bv false], _, rfl, rfl, rfl⟩⟩ H.2.1 H.2.2) ?_ ?_
 rintro _ _ ⟨f, rfl, D⟩
 obtain ⟨m, n, rfl, _⟩ := D.form
 refine iR ?_
 exact dG tl726 ⟨ads, e, k, f, m, n, g, o, p, rfl, rfl, O, D, E, F⟩ lr
 exact Rn
 exact Rn
 refine Rd2 lr rfl rfl (Y7 (r := Q4) [_] (j ++ R) [iv 0, bv false, bv false] (⟨0, false, false⟩ : z6) aa rfl H.1 rfl rfl z3r q8s rfl rfl rfl (by decide) ⟨[iv 0], _, rfl, rfl, ⟨[bv false], _, rfl, rfl, rfl⟩⟩ H.2.1 H.2.2) ?_ ?_
 rintro _ _ ⟨f, rfl, D⟩
 obtain ⟨m, n, rfl, _⟩ := D.form
 refine iR<|Da [1, 6, 11] (by kernel_rfl) rfl<|Rg lr rfl rfl _ q4R rfl (q1K _ _ Y A2 c3 A5 c6 A8 c9 an ao aq ar (h4.le d) (h7.le d) (aD.le d) (aE.le d) (aF.le d) ad ae af ag ah am) ?_ ?_
 rintro _ av _ c ⟨q, s, t, u, x, y, z, A, B, C, rfl, rfl, S, T, U, V, W⟩
 refine iR<|Da [6, 11] (by kernel_rfl) rfl<|Rd2 c rfl rfl (Y7 (r := Q5) [_] (f ++ (j ++ R)) [iv 0, bv false, iv 0, iv 0, bv false] (⟨0, false, 0, 0, false⟩ : q9) Z rfl G.1 rfl rfl q8j q8t rfl rfl rfl (by decide) ⟨[iv 0], _, rfl, rfl, ⟨[bv false], _, rfl, rfl, ⟨[iv 0], _, rfl, rfl, ⟨[iv 0], _, rfl, rfl, rfl⟩⟩⟩⟩ G.2.1 G.2.2) ?_ ?_
 rintro _ _ ⟨g, rfl, E⟩
 obtain ⟨o, p, rfl, _⟩ := E.form
 refine iR ?_
 exact dG tl697 ⟨f, m, n, g, o, p, q, s, t, u, x, y, z, A, B, C, rfl, rfl, (D.le c), E, S, T, U, V, W⟩ c
 refine Rd2 c rfl rfl (q3f rI (OT.fr (RT.key ads)) false false [_] (f ++ (j ++ R)) rfl) ?_ ?_
 rintro _ _ ⟨k, e, rfl, rfl, O⟩
 have F : OAr 90 j9 ads av.w [] [] := OAr.nil Z4
 refine iR ?_
 exact dG tl719 ⟨ads, e, k, f, m, n, q, s, t, u, x, y, z, A, B, C, rfl, rfl, O, (D.le c), F, S, T, U, V, W⟩ c
 exact Rn
 refine Rd2 lr rfl rfl (Y7 (r := Q5) [_] (f ++ (j ++ R)) [iv 0, bv false, iv 0, iv 0, bv false] (⟨0, false, 0, 0, false⟩ : q9) Z rfl G.1 rfl rfl q8j q8t rfl rfl rfl (by decide) ⟨[iv 0], _, rfl, rfl, ⟨[bv false], _, rfl, rfl, ⟨[iv 0], _, rfl, rfl, ⟨[iv 0], _, rfl, rfl, rfl⟩⟩⟩⟩ G.2.1 G.2.2) ?_ ?_
 rintro _ _ ⟨g, rfl, E⟩
 obtain ⟨o, p, rfl, _⟩ := E.form
 refine iR<|Da [1, 11] (by kernel_rfl) rfl<|Rg lr rfl rfl _ q4R rfl (q1K _ _ Y A2 c3 A5 c6 A8 c9 an ao aq ar (h4.le d) (h7.le d) (aD.le d) (aE.le d) (aF.le d) ad ae af ag ah am) ?_ ?_
 rintro _ av _ c ⟨q, s, t, u, x, y, z, A, B, C, rfl, rfl, S, T, U, V, W⟩
 refine iR ?_
 exact dG tl697 ⟨f, m, n, g, o, p, q, s, t, u, x, y, z, A, B, C, rfl, rfl, (D.le c), (E.le c), S, T, U, V, W⟩ c
 refine Rd2 lr rfl rfl (q3f rI (OT.fr (RT.key ads)) false false [_] (g ++ (f ++ (j ++ R))) rfl) ?_ ?_
 rintro _ _ ⟨k, e, rfl, rfl, O⟩
 have F : OAr 90 j9 ads a5.w [] [] := OAr.nil Z4
 refine iR ?_
 exact dG tl726 ⟨ads, e, k, f, m, n, g, o, p, rfl, rfl, O, D, E, F⟩ lr
 exact Rn
 refine Rd2 lr rfl rfl (q3f rI (OT.fr (RT.key ads)) false false [_] (f ++ (j ++ R)) rfl) ?_ ?_
 rintro _ _ ⟨k, e, rfl, rfl, O⟩
 have F : OAr 90 j9 ads a5.w [] [] := OAr.nil Z4
 refine iR<|Da [1, 6] (by kernel_rfl) rfl<|Rg lr rfl rfl _ q4R rfl (q1K _ _ Y A2 c3 A5 c6 A8 c9 an ao aq ar (h4.le d) (h7.le d) (aD.le d) (aE.le d) (aF.le d) ad ae af ag ah am) ?_ ?_
 rintro _ av _ c ⟨q, s, t, u, x, y, z, A, B, C, rfl, rfl, S, T, U, V, W⟩
 refine iR ?_
 exact dG tl719 ⟨ads, e, k, f, m, n, q, s, t, u, x, y, z, A, B, C, rfl, rfl, (O.le c), (D.le c), (F.le c), S, T, U, V, W⟩ c
 refine Rd2 lr rfl rfl (Y7 (r := Q5) [_] (e ++ (f ++ (j ++ ([] ++ R)))) [iv 0, bv false, iv 0, iv 0, bv false] (⟨0, false, 0, 0, false⟩ : q9) Z rfl G.1 rfl rfl q8j q8t rfl rfl rfl (by decide) ⟨[iv 0], _, rfl, rfl, ⟨[bv false], _, rfl, rfl, ⟨[iv 0], _, rfl, rfl, ⟨[iv 0], _, rfl, rfl, rfl⟩⟩⟩⟩ G.2.1 G.2.2) ?_ ?_
 rintro _ _ ⟨g, rfl, E⟩
 obtain ⟨o, p, rfl, _⟩ := E.form
 refine iR ?_
 exact dG tl726 ⟨ads, e, k, f, m, n, g, o, p, rfl, rfl, O, D, E, F⟩ lr
 exact Rn
 exact Rn
 refine Rd2 lr rfl rfl (q3f rI (OT.fr (RT.key ads)) false false [_] (j ++ R) rfl) ?_ ?_
 rintro _ _ ⟨k, e, rfl, rfl, O⟩
 have F : OAr 90 j9 ads a5.w [] [] := OAr.nil Z4
 refine iR<|Da [1, 6, 10] (by kernel_rfl) rfl<|Rg lr rfl rfl _ q4R rfl (q1K _ _ Y A2 c3 A5 c6 A8 c9 an ao aq ar (h4.le d) (h7.le d) (aD.le d) (aE.le d) (aF.le d) ad ae af ag ah am) ?_ ?_
 rintro _ av _ c ⟨q, s, t, u, x, y, z, A, B, C, rfl, rfl, S, T, U, V, W⟩
 refine iR<|Da [6, 10] (by kernel_rfl) rfl<|Rd2 c rfl rfl (Y7 (r := Q5) [_] (e ++ (j ++ ([] ++ R))) [iv 0, bv false, iv 0, iv 0, bv false] (⟨0, false, 0, 0, false⟩ : q9) Z rfl G.1 rfl rfl q8j q8t rfl rfl rfl (by decide) ⟨[iv 0], _, rfl, rfl, ⟨[bv false], _, rfl, rfl, ⟨[iv 0], _, rfl, rfl, ⟨[iv 0], _, rfl, rfl, rfl⟩⟩⟩⟩ G.2.1 G.2.2) ?_ ?_
 rintro _ _ ⟨g, rfl, E⟩
 obtain ⟨o, p, rfl, _⟩ := E.form
 refine iR ?_
 exact dG tl708 ⟨ads, e, k, g, o, p, q, s, t, u, x, y, z, A, B, C, rfl, rfl, (O.le c), E, (F.le c), S, T, U, V, W⟩ c
 refine Rd2 c rfl rfl (Y7 (r := Q4) [_] (e ++ (j ++ ([] ++ R))) [iv 0, bv false, bv false] (⟨0, false, false⟩ : z6) aa rfl H.1 rfl rfl z3r q8s rfl rfl rfl (by decide) ⟨[iv 0], _, rfl, rfl, ⟨[bv false], _, rfl, rfl, rfl⟩⟩ H.2.1 H.2.2) ?_ ?_
 rintro _ _ ⟨f, rfl, D⟩
 obtain ⟨m, n, rfl, _⟩ := D.form
 refine iR ?_
 exact dG tl719 ⟨ads, e, k, f, m, n, q, s, t, u, x, y, z, A, B, C, rfl, rfl, (O.le c), D, (F.le c), S, T, U, V, W⟩ c
 exact Rn
 refine Rd2 lr rfl rfl (Y7 (r := Q5) [_] (e ++ (j ++ ([] ++ R))) [iv 0, bv false, iv 0, iv 0, bv false] (⟨0, false, 0, 0, false⟩ : q9) Z rfl G.1 rfl rfl q8j q8t rfl rfl rfl (by decide) ⟨[iv 0], _, rfl, rfl, ⟨[bv false], _, rfl, rfl, ⟨[iv 0], _, rfl, rfl, ⟨[iv 0], _, rfl, rfl, rfl⟩⟩⟩⟩ G.2.1 G.2.2) ?_ ?_
 rintro _ _ ⟨g, rfl, E⟩
 obtain ⟨o, p, rfl, _⟩ := E.form
 refine iR<|Da [1, 10] (by kernel_rfl) rfl<|Rg lr rfl rfl _ q4R rfl (q1K _ _ Y A2 c3 A5 c6 A8 c9 an ao aq ar (h4.le d) (h7.le d) (aD.le d) (aE.le d) (aF.le d) ad ae af ag ah am) ?_ ?_
 rintro _ av _ c ⟨q, s, t, u, x, y, z, A, B, C, rfl, rfl, S, T, U, V, W⟩
 refine iR ?_
 exact dG tl708 ⟨ads, e, k, g, o, p, q, s, t, u, x, y, z, A, B, C, rfl, rfl, (O.le c), (E.le c), (F.le c), S, T, U, V, W⟩ c
 refine Rd2 lr rfl rfl (Y7 (r := Q4) [_] (g ++ (e ++ (j ++ ([] ++ R)))) [iv 0, bv false, bv false] (⟨0, false, false⟩ : z6) aa rfl H.1 rfl rfl z3r q8s rfl rfl rfl (by decide) ⟨[iv 0], _, rfl, rfl, ⟨[bv false], _, rfl, rfl, rfl⟩⟩ H.2.1 H.2.2) ?_ ?_
 rintro _ _ ⟨f, rfl, D⟩
 obtain ⟨m, n, rfl, _⟩ := D.form
 refine iR ?_
 exact dG tl726 ⟨ads, e, k, f, m, n, g, o, p, rfl, rfl, O, D, E, F⟩ lr
 exact Rn
 refine Rd2 lr rfl rfl (Y7 (r := Q4) [_] (e ++ (j ++ ([] ++ R))) [iv 0, bv false, bv false] (⟨0, false, false⟩ : z6) aa rfl H.1 rfl rfl z3r q8s rfl rfl rfl (by decide) ⟨[iv 0], _, rfl, rfl, ⟨[bv false], _, rfl, rfl, rfl⟩⟩ H.2.1 H.2.2) ?_ ?_
 rintro _ _ ⟨f, rfl, D⟩
 obtain ⟨m, n, rfl, _⟩ := D.form
 refine iR<|Da [1, 6] (by kernel_rfl) rfl<|Rg lr rfl rfl _ q4R rfl (q1K _ _ Y A2 c3 A5 c6 A8 c9 an ao aq ar (h4.le d) (h7.le d) (aD.le d) (aE.le d) (aF.le d) ad ae af ag ah am) ?_ ?_
 rintro _ av _ c ⟨q, s, t, u, x, y, z, A, B, C, rfl, rfl, S, T, U, V, W⟩
 refine iR ?_
 exact dG tl719 ⟨ads, e, k, f, m, n, q, s, t, u, x, y, z, A, B, C, rfl, rfl, (O.le c), (D.le c), (F.le c), S, T, U, V, W⟩ c
 refine Rd2 lr rfl rfl (Y7 (r := Q5) [_] (f ++ (e ++ (j ++ ([] ++ R)))) [iv 0, bv false, iv 0, iv 0, bv false] (⟨0, false, 0, 0, false⟩ : q9) Z rfl G.1 rfl rfl q8j q8t rfl rfl rfl (by decide) ⟨[iv 0], _, rfl, rfl, ⟨[bv false], _, rfl, rfl, ⟨[iv 0], _, rfl, rfl, ⟨[iv 0], _, rfl, rfl, rfl⟩⟩⟩⟩ G.2.1 G.2.2) ?_ ?_
 rintro _ _ ⟨g, rfl, E⟩
 obtain ⟨o, p, rfl, _⟩ := E.form
 refine iR ?_
 exact dG tl726 ⟨ads, e, k, f, m, n, g, o, p, rfl, rfl, O, D, E, F⟩ lr
 exact Rn
 exact Rn
 exact Rn
 rintro aA _ _ ⟨ads, aJ, aN, aO, aP, aQ, aR, aT, aU, aV, aW, aX, bl, bm, aw, aY, aZ, I, a0, J, K, rfl, rfl, ay, dy, dz, dA, dB, dC, cj, dD, dE, dF⟩
 have hm := j2Y cm
 refine Cs<|Cr<|mV rfl<|tS (sN rfl)<|tS (sF rfl q2s)<|tS (sL 1 rfl q7t rfl rfl)<|tS (sE rfl q8j)<|mV rfl<|Te<|Cb ?_
 have dV : be.length ≤ 9223372036854775807 := (OS.len cj)
 refine Cp 1 rfl<|Cp 1 rfl<|q4g j aw I J K<|q4g K j aw I J<|q4g J K j aw I<|q4g I J K j aw<|q4g aw I J K j ?_
 obtain ⟨a1, cn, co⟩ := bS hm
 refine lS (fun bH => fun a1 => fun bg e' hp' => ∃ aK aL ab, [(1, pb au), (5, sv ak ac al), (7, pb aJ), (43, iv ((be.length : Int))), (44, iv ((bH : Int)))] = e' ∧ (au, Cl 28 [sv A2 Y.Stations c3, sv A5 Y.Sections c6, sv A8 Y.Links c9, sv an Y.Signals ao, sv aq Y.Gates ar]) :: (aJ, Cl 78 [sv aN a9 aO, sv aP ba aQ, sv aR bb aT, sv aU bc aV, sv aW bd aX, sv ak ac al, sn, sv aK a1 aL, sv aY a6 aZ, .map (some a0)]) :: (j ++ (ab ++ (I ++ (J ++ (K ++ R))))) = hp' ∧ aA.Le bg ∧ OS 80 (OT.fr Q5) bg.w (sv aK a1 aL) a1 ab) cn ⟨bl, bm, aw, rfl, rfl, lr, cj⟩ ?_ ?_
 rintro bH a1 bg _ _ dW dH ⟨aK, aL, ab, rfl, rfl, X, bq⟩ a2
 unfold q2C at a2
 have hm := a2
 refine Cr<|tS (lT rfl rfl (by omega))<|Te<|Cs<|w6 rfl<|Ck<|Xn<|Cs<|Cb<|Cr<|mV rfl<|aS rfl<|Te<|Cg<|mV rfl<|tS (sN rfl)<|tS (sF rfl q2s)<|tS (sL 1 rfl q7t rfl rfl)<|mV rfl ?_
 obtain ⟨aB, dI, hm⟩ := bS hm
 obtain ⟨dJ, bI, bJ⟩ := iS dI
 obtain ⟨dX, dY, d7, d8, dZ, cp, dT, bK, bU, d0, dU⟩ := OS.get (sz := 5) rfl (by decide) bq bJ
 obtain ⟨⟨_, _, rfl, rfl, ⟨_, _, rfl, rfl, ⟨_, _, rfl, rfl, ⟨_, _, rfl, rfl, rfl⟩⟩⟩⟩, rfl⟩ := cp
 refine tS (sI dJ rfl rfl bI bU bK q8j)<|tS (sQ rfl bK q4K)<|q8Y j ab<|tD (uP bI (sz := 5) (a' := (⟨aB.axles, aB.disturbed, 1, aB.moving, aB.failed⟩ : q9)) rfl [_, _] (j ++ (I ++ (J ++ (K ++ R)))) 2 1 [iv 1] rfl bq bJ rfl rfl rfl z7l rfl (mc rfl mn) (fun cs hsj hh => by obtain ⟨⟨_, _, rfl, rfl, ⟨_, _, rfl, rfl, ⟨_, _, rfl, rfl, ⟨_, _, rfl, rfl, rfl⟩⟩⟩⟩, rfl⟩ := hh; exact ⟨by first | decide | exact Nat.le_refl _, ⟨[iv aB.axles], _, rfl, rfl, ⟨[bv aB.disturbed], _, rfl, rfl, ⟨[iv 1], _, rfl, rfl, ⟨[iv aB.moving], _, rfl, rfl, rfl⟩⟩⟩⟩, rfl⟩)) ?_
 rintro _ _ ⟨cq, rfl, dK⟩
 refine P9 1 rfl (o' := Cl 78 [sv aN a9 aO, sv aP ba aQ, sv aR bb aT, sv aU bc aV, sv aW bd aX, sv ak ac al, sn, .slice aK (put a1 (bH : Int) (⟨aB.axles, aB.disturbed, 1, aB.moving, aB.failed⟩ : q9)).length aL, sv aY a6 aZ, .map (some a0)]) (by simp only [sv, w8])<|Tn<|Xm<|Xn<|Cg<|tS (sa rfl rfl (by omega))<|mV rfl<|Tn ?_
 obtain rfl := o1 hm
 exact jS ⟨aK, aL, cq, rfl, rfl, (X), dK⟩
 rintro bg _ _ ⟨aK, aL, ab, rfl, rfl, X, bq⟩
 have hm := co
 refine Cr<|tS (lF rfl rfl (by omega))<|Te<|Cs<|v8 rfl<|Ce<|Xe<|Xe<|Xo<|Xn<|Cs<|Cr<|mV rfl<|tS (sE rfl z2b)<|mV rfl<|Te<|Cb ?_
 have d1 : ac.length ≤ 9223372036854775807 := (OS.len ci)
 refine Cp 1 rfl<|Cp 1 rfl<|q4g j ab I J K<|q4g K j ab I J<|q4g J K j ab I<|q4g I J K j ab<|q4g ab I J K j ?_
 obtain ⟨a3, cr, ct⟩ := bS hm
 refine lS (fun bL => fun a3 => fun br e' hp' => ∃ bh bi az, [(1, pb au), (7, pb aJ), (56, iv ((ac.length : Int))), (57, iv ((bL : Int)))] = e' ∧ (au, Cl 28 [sv A2 Y.Stations c3, sv A5 Y.Sections c6, sv A8 Y.Links c9, sv an Y.Signals ao, sv aq Y.Gates ar]) :: (aJ, Cl 78 [sv aN a9 aO, sv aP ba aQ, sv aR bb aT, sv aU bc aV, sv aW bd aX, sv ak ac al, sv bh a3 bi, sv aK a1 aL, sv aY a6 aZ, .map (some a0)]) :: (j ++ (az ++ (ab ++ (I ++ (J ++ (K ++ R)))))) = hp' ∧ bg.Le br ∧ OS 46 (OT.fr (RT.list j4)) br.w (sv bh a3 bi) a3 az) cr ⟨none, 0, [], rfl, rfl, lr, OS.nil⟩ ?_ ?_
 rintro bL a3 br _ _ d5 dL ⟨bh, bi, az, rfl, rfl, L, bM⟩ a4
 unfold q2B at a4
 have hm := a4
 refine Cr<|tS (lT rfl rfl (by omega))<|Te<|Cs<|w6 rfl<|Ck<|Xn<|Cs<|Cb<|Cr<|mV rfl<|aS rfl<|Te<|Cr<|tS (sD (vs := [_, _, _, _, _]) 0 5 rfl G7 rfl rfl rfl)<|mV rfl ?_
 obtain ⟨⟨dM, a7⟩, bV, hm⟩ := bS hm
 have hm := V8 hm
 have zy := d.trans (ay.trans (X.trans L))
 refine Tg _ rfl j2x rfl (z1S _ _ Y (bL : Int) A2 c3 A5 c6 A8 c9 an ao aq ar (h4.le zy) (h7.le zy) (aD.le zy) (aE.le zy) (aF.le zy) dM a7 bV) ?_
 rintro _ d9 _ bs ⟨bN, bO, bP, rfl, rfl, dN, ea⟩
 refine q2z [] [_, _] bP (j ++ (az ++ (ab ++ (I ++ (J ++ (K ++ R)))))) rfl<|mV rfl<|tS (v6 rfl rfl)<|tS (v6 rfl rfl)<|aS rfl<|aS rfl<|Te<|Cg<|mV rfl<|mV rfl ?_
 refine tS (sN rfl)<|tS (sF rfl z2N)<|tS (sL 1 rfl j1u rfl rfl)<|mV rfl<|tD (J8 (el := 46) [(0, sv bN a7 bO)] [sv bN a7 bO] rfl (fun _ => by kernel_rfl)) ?_
 rintro _ _ ⟨eb, rfl, rfl⟩
 refine z2l [_, _, _] bP (j ++ (az ++ (ab ++ (I ++ (J ++ (K ++ R)))))) rfl ?_
 intro ec a8 cu
 have dO := OS.frz (l := a7) dN a8.cells cu
 obtain ⟨_, bQ, hm⟩ := bS hm
 have bQ := J9 bQ
 refine j1d j az<|tD (uQ (r := (RT.list j4)) (l := a3) [_, _, _] (j ++ (ab ++ (I ++ (J ++ (K ++ R))))) [[sv bN a7 bO]] [a7] rfl (by decide) z5d j1I rfl rfl rfl rfl (bM.le (bs.trans a8)) rfl (fun w ho => Rd.own (i := 0) ho rfl) ⟨(RT.list_mk dO), trivial⟩ bQ) ?_
 rintro _ _ ⟨cv, rfl, ck⟩
 obtain ⟨dP, dQ, rfl, _⟩ := ck.form
 refine tS (sN rfl)<|tS (sF rfl z2N)<|tD (uS 2 rfl rfl j3h rfl rfl (by simp)) ?_
 rintro _ _ rfl
 refine Tn<|Xm<|Xn<|Cg<|tS (sa rfl rfl (by omega))<|mV rfl<|Tn ?_
 obtain rfl := o1 hm
 exact jS ⟨dP, dQ, cv, rfl, rfl, ((L.trans (bs.trans a8))), ck⟩
 rintro br _ _ ⟨bh, bi, az, rfl, rfl, L, bM⟩
 have hm := ct
 refine Cr<|tS (lF rfl rfl (by omega))<|Te<|Cs<|v8 rfl<|Ce<|Xe<|Xe<|Xo<|Xn<|Cr<|mV rfl<|aS rfl<|aS rfl<|Te<|Ct<|q8V [_, _] j (az ++ (ab ++ (I ++ (J ++ (K ++ R))))) rfl ?_
 intro ed ai cw
 have dR := OS.frz (l := ac) (ci.le (ay.trans (X.trans L))) ai.cells cw
 refine q8V [_, _] az (ab ++ (I ++ (J ++ (K ++ R)))) rfl ?_
 intro ee aj cx
 have dS := OS.frz (l := a3) (bM.le ai) aj.cells cx
 obtain ⟨rfl, rfl, rfl, rfl, rfl, rfl, rfl, rfl, rfl, rfl, rfl⟩ := j1m hm
 have zx := X.trans (L.trans (ai.trans aj))
 have cy := dy.le zx
 have cz := dz.le zx
 have cA := dA.le zx
 have cC := dB.le zx
 have cD := dC.le zx
 have cE := dR.le aj
 have cG := (bq.le (L.trans (ai.trans aj)))
 have cH := dD.le zx
 have cJ := dE.le zx
 have cK := dF.le zx
 exact rT ⟨ads, aJ, aN, aO, aP, aQ, aR, aT, aU, aV, aW, aX, ak, al, bh, bi, aK, aL, ab, aY, aZ, I, a0, J, K, rfl, rfl, cy, cz, cA, cC, cD, cE, dS, cG, cH, cJ, cK⟩ (d.trans (ay.trans zx))
theorem q4q (b : v7) (R : Hp) (H f g h i j k l d e I J) (ads : Int → Nat) (n o p q r s t u w x y z A B C T U D V W E F a c) (Y : FZ RT.str b.w o p f) (Z : FZ j5 b.w q r g) (aa : FZ w9 b.w s t h) (ab : FZ j6 b.w u w i) (ac : FZ k7 b.w x y j) (ad : FZ Z9 b.w z A k) (ae : FZ (RT.list j4) b.w B C l) (h5 : OS 80 (OT.fr Q5) b.w (sv T d U) d D) (af : OS 94 (OT.fr Q4) b.w (sv V e W) e E) (ag : OM rI (OT.fr (RT.key ads)) false false b.w F I a) (ah : OAr 90 j9 ads b.w J c) (K) (hm : X0 H f g h i j k l d e I J = some K):
 w5 Tryz.prog 30 [pb n, iv H] b ((n, Cl 78 [sv o f p, sv q g r, sv s h t, sv u i w, sv x j y, sv z k A, sv B l C, sv T d U, sv V e W, .map (some F)]) :: (D ++ (E ++ (a ++ (c ++ R))))) (fun v b' hp' => bv K = v ∧ (n, Cl 78 [sv o f p, sv q g r, sv s h t, sv u i w, sv x j y, sv z k A, sv B l C, sv T d U, sv V e W, .map (some F)]) :: (D ++ (E ++ (a ++ (c ++ R)))) = hp') := by
 refine fE 16 Tryz.func30 rfl Tryz.ntmps30 rfl ?_
 unfold X0 at hm
 refine Cr<|aS rfl<|Te ?_
 obtain ⟨X, L, O⟩ := bS hm
 refine Cj (fun S e' hp' => [(4, bv X)] = e' ∧ (n, Cl 78 [sv o f p, sv q g r, sv s h t, sv u i w, sv x j y, sv z k A, sv B l C, sv T d U, sv V e W, .map (some F)]) :: (D ++ (E ++ (a ++ (c ++ R)))) = hp' ∧ b.Le S) ?_ ?_
 have hm := L
 refine Cg<|mV rfl<|Tb rfl (q6 rfl rfl) (fun m => ?_) (fun m => ?_)
 rw [if_pos m] at hm
 refine mV rfl<|yS<|mV rfl<|yS<|mV rfl<|yS<|tS (sN rfl)<|yS<|tS (sF rfl z2O)<|yS<|tS (sL 0 rfl z5M rfl rfl)<|yS<|tS (sE rfl z2b)<|yS<|tS (q3 rfl rfl)<|tS (pT rfl rfl)<|aS rfl<|Tn ?_
 obtain rfl := o1 hm
 exact jJ ⟨rfl, rfl, lr⟩
 rw [if_neg m] at hm
 refine mV rfl<|nO<|nO<|nO<|nO<|nO<|nO<|nO<|tS (pF rfl rfl)<|aS rfl<|Tn ?_
 obtain rfl := o1 hm
 exact jJ ⟨rfl, rfl, lr⟩
 rintro S _ _ ⟨rfl, rfl, G⟩
 have hm := O
 refine Ct ?_
 obtain rfl := o1 hm
 exact rO ⟨rfl, rfl⟩ G
theorem q8A (A : Option Addr) (n c : Nat) (xs : List Value) (w : World) (hR : Rd w A xs) (hl : xs.length = n * 4) (hn : n * 32 ≤ 140737488355328 ∧ n ≤ 9223372036854775807) :
    q3S Tryz.prog 31 [.slice A n c] w [] (fun v hp' => q7z 55 4 v n xs hp') := by
  refine q4b 8 Tryz.func31 rfl Tryz.ntmps31 rfl ?_
  refine q5p ?_
  refine q8S rfl rfl ?_
  refine q3U ?_
  refine q2t ?_
  refine q5p ?_
  refine z2j rfl rfl ?_
  refine q4y rfl (q3W rfl rfl q3C) (fun hc1 => ?_) (fun hc1 => ?_)
  ·
    refine q3U ?_
    refine w6 rfl ?_
    refine q5p ?_
    refine q8S rfl rfl ?_
    refine q3U ?_
    refine q3B ?_
    refine W5 ?_
    subst hc1
    obtain rfl := hR.none_nil
    obtain rfl : n = 0 := by simp at hl; omega
    refine q3e (hp' := []) (by repeat (first | exact List.Sublist.refl _ | exact List.nil_sublist _ | exact Kb _ _ | exact Kc _ _ | exact (Kc _ _).trans (Kc _ _) | apply List.Sublist.cons_cons | apply List.Sublist.cons)) ?_
    exact z3t (v7.Le.refl _) rfl rfl (q7z.nil)
  ·
    refine q3U ?_
    refine v8 rfl ?_
    refine q3r ?_
    refine Q0 ?_
    refine q5p ?_
    refine q9A rfl (J8 (el := 55) [] [] rfl (fun _ => by kernel_rfl)) ?_
    rintro _ _ ⟨g0, rfl, rfl⟩
    refine z2j rfl rfl ?_
    refine q9A rfl (q7Y xs q3C z7T rfl (by decide) rfl rfl hl (fun w ho => hR.old ho) hn.2 hn.1) ?_
    rintro _ _ ⟨hs, rfl, hseg⟩
    refine q8S rfl rfl ?_
    refine q3U ?_
    refine q3B ?_
    refine q3e (hp' := hs) (by repeat (first | exact List.Sublist.refl _ | exact List.nil_sublist _ | exact Kb _ _ | exact Kc _ _ | exact (Kc _ _).trans (Kc _ _) | apply List.Sublist.cons_cons | apply List.Sublist.cons)) ?_
    exact z3t (v7.Le.refl _) rfl rfl hseg
theorem q9k (b : v7) (R : Hp) (d e f) (i : FZ j4 b.w e f d) (a) (hm : q1f d = some a):
 w5 Tryz.prog 31 [sv e d f] b (R) (fun v b' hp' => ∃ g h c, sv g a h = v ∧ (c ++ R) = hp' ∧ OS 55 (OT.fr j4) b'.w (sv g a h) a c) := by
 unfold q1f at hm
 obtain ⟨_, hroom, hm⟩ := bS hm
 have hroom := J9 hroom
 obtain rfl := o1 hm
 exact q4f (r := j4) (sz := 4) (by_ := 32) rfl (by decide) q8A i hroom
theorem q5q (b : v7) (R : Hp) (a : q8) (c) (hm : q2j a = some c):
 w5 Tryz.prog 33 [.agg #[iv a.Kind, iv a.Place, iv a.Position, iv a.At]] b (R) (fun v b' hp' => bv c = v ∧ R = hp') := by
 refine fE 6 Tryz.func33 rfl Tryz.ntmps33 rfl ?_
 unfold q2j at hm
 refine Cr<|tD (uB _ rfl rfl) ?_
 rintro _ _ ⟨d, rfl, rfl⟩
 refine aS rfl<|Te<|Cr<|tS (sF rfl q1b)<|tS (sL 0 rfl Q3 rfl rfl)<|tS (q1 rfl rfl)<|aS rfl<|Te<|Ct ?_
 obtain rfl := o1 hm
 exact rO ⟨rfl, rfl⟩ lr
theorem q6x (b : v7) (R : Hp) (n z A) (D : FZ j4 b.w z A n) (o) (hm : q1A n = some o):
 w5 Tryz.prog 74 [sv z n A, .func (.func 33) #[] #[]] b (R) (fun v b' hp' => iv o = v ∧ R = hp') := by
 refine fE 19 Tryz.func74 rfl Tryz.ntmps74 rfl ?_
 unfold q1A at hm
 refine Cr<|aS rfl<|Te<|Cs<|Cr<|mV rfl<|tS (sE rfl q3C)<|mV rfl<|Te<|Cb ?_
 have E : n.length ≤ 9223372036854775807 := (FZ.bd D)
 obtain ⟨I, p, e⟩ := bS hm
 refine lF (fun q => fun _ => fun i e' hp' => [(0, sv z n A), (1, .func (.func 33) #[] #[]), (7, iv ((n.length : Int))), (8, iv ((q : Int)))] = e' ∧ R = hp' ∧ b.Le i) p ⟨rfl, rfl, lr⟩ ?_ ?_
 rintro q _ i _ _ F y ⟨rfl, rfl, a⟩ c f
 unfold q1M at c
 have hm := c
 refine Cr<|tS (lT rfl rfl (by omega))<|Te<|Cs<|w6 rfl<|Ck<|Xn<|Cs<|Cb<|Cr<|mV rfl<|aS rfl<|Te<|Cr<|mV rfl<|mV rfl<|mV rfl ?_
 obtain ⟨d, B, G, r, H, s, k, g, l, hm⟩ := bF (sz := 4) hm (D.le a)
 obtain ⟨_, _, rfl, rfl, ⟨_, _, rfl, rfl, ⟨_, _, rfl, rfl, rfl⟩⟩⟩ := s
 refine tS (sI B rfl rfl r l g q3C)<|tS (sP (vs := [iv d.Kind, iv d.Place, iv d.Position, iv d.At]) 4 rfl K8 g rfl (fun j u hu => k j u hu)) ?_
 obtain ⟨C, m, hm⟩ := bS hm
 refine tD (F8 #[] #[] [.agg #[iv d.Kind, iv d.Place, iv d.Position, iv d.At]] rfl z9g rfl (fun w ho => q5q _ [] d C m) (fun _ _ _ h => h.2.symm)) ?_
 rintro _ _ ⟨⟨_, rfl, _⟩, rfl⟩
 refine Te<|cB hm rfl (fun hm => ?_) fun hm => ?_
 refine Cr<|mV rfl<|aS rfl<|Te<|Ct<|Xb<|Xr<|Xr<|Xb<|Xr ?_
 have t := f _ (Kd hm).symm
 rw [t] at e
 have hm := V6 e
 obtain rfl := o1 hm
 exact rO ⟨rfl, rfl⟩ a
 refine Ck<|Xm<|Xn<|Cg<|tS (sa rfl rfl (by omega))<|mV rfl<|Tn ?_
 exact jM hm ⟨rfl, rfl, (a)⟩
 rintro _ i _ _ ⟨rfl, rfl, a⟩ x
 rw [x] at e
 have hm := G6 e
 refine Cr<|tS (lF rfl rfl (by omega))<|Te<|Cs<|v8 rfl<|Ce<|Xe<|Xe<|Xo<|Xn<|Cr<|aS rfl<|Te<|Ct ?_
 obtain rfl := o1 hm
 exact rO ⟨rfl, rfl⟩ a
theorem q6Y (b : v7) (R : Hp) (l6 W D Y) (h5 : OS 55 (OT.fr j4) b.w (sv W l6 D) l6 Y) (E) (hm : q1Y l6 = some E):
 w5 Tryz.prog 32 [sv W l6 D, .func (.func 33) #[] #[]] b ((Y ++ R)) (fun v b' hp' => ∃ aB aC Z, sv aB E aC = v ∧ (Z ++ R) = hp' ∧ OS 55 (OT.fr j4) b'.w (sv aB E aC) E Z) := by
 refine fE 42 Tryz.func32 rfl Tryz.ntmps32 rfl ?_
 unfold q1Y at hm
 refine Cr<|aS rfl<|Te<|Cr<|mV rfl<|mV rfl ?_
 obtain ⟨aW, ak, hm⟩ := bS hm
 refine tD (uW _ z1J rfl (fun w ho => q6x _ [] l6 W D (OS.now (o := (OT.fr j4)) (l := l6) (hs := Y) h5 ho (Kb _ _)) aW ak) (fun _ _ _ h => h.2.symm)) ?_
 rintro _ _ ⟨⟨_, rfl, _⟩, rfl⟩
 refine aS rfl<|Te<|Cs<|Cr<|mV rfl<|tS (q1 rfl rfl)<|Te<|cI hm rfl (fun hm => ?_) fun hm => ?_
 refine Cr<|mV rfl<|aS rfl<|Te<|Ct<|Xr ?_
 obtain rfl := o1 hm
 exact rO ⟨W, D, Y, rfl, rfl, h5⟩ lr
 refine Ck<|Xn ?_
 obtain ⟨⟨F, e⟩, aE, aF⟩ := bS hm
 refine Cj (fun aa e' hp' => ∃ s, [(0, sv W e D), (5, iv F)] = e' ∧ (s ++ R) = hp' ∧ b.Le aa ∧ OS 55 (OT.fr j4) aa.w (sv W e D) e s ∧ e.length = l6.length) ?_ ?_
 have hm := aE
 refine Cr<|mV rfl ?_
 obtain ⟨_, ab, hm⟩ := bS hm
 have ab := (kS ab).2
 refine tS (sa rfl rfl ab)<|aS rfl<|Te<|Cb<|lL (q4t fun t x d => fun n e' hp' => ∃ c, [(0, sv W d D), (1, .func (.func 33) #[] #[]), (5, iv t), (6, iv x)] = e' ∧ (c ++ R) = hp' ∧ b.Le n ∧ OS 55 (OT.fr j4) n.w (sv W d D) d c ∧ d.length = l6.length) hm ⟨Y, rfl, rfl, lr, h5, rfl⟩ ?_
 rintro ⟨t, x, d⟩ n _ _ bb ⟨c, rfl, rfl, q, g, k⟩ m X
 unfold q1N at m
 have hm := q5i m
 refine Cs<|Cr<|mV rfl<|mV rfl<|tS (sE rfl q3C)<|tS (q3 rfl rfl)<|Te<|cI hm rfl (fun hm => ?_) fun hm => ?_
 refine Ck<|Xn ?_
 obtain ⟨⟨aG, p⟩, al, am⟩ := bS hm
 refine Cj (fun y e' hp' => ∃ f, [(0, sv W p D), (1, .func (.func 33) #[] #[]), (5, iv aG), (6, iv x)] = e' ∧ (f ++ R) = hp' ∧ n.Le y ∧ OS 55 (OT.fr j4) y.w (sv W p D) p f ∧ p.length = l6.length) ?_ ?_
 have hm := al
 refine Cb<|Cr<|mV rfl<|mV rfl ?_
 obtain ⟨a, aH, hm⟩ := bS hm
 obtain ⟨aI, an, ao⟩ := iS aH
 obtain ⟨a0, a1, bc, bd, a2, aq, ac, G, ad, a3, aX⟩ := OS.get (sz := 4) rfl (by decide) g ao
 obtain ⟨⟨_, _, rfl, rfl, ⟨_, _, rfl, rfl, ⟨_, _, rfl, rfl, rfl⟩⟩⟩, rfl⟩ := aq
 refine tS (sI aI rfl rfl an ad G q3C)<|tS (Z6 (vs := [iv a.Kind, iv a.Place, iv a.Position, iv a.At]) 4 rfl K8 G rfl (fun w ho j u hu => ac w _ ho (Kb _ _) j u hu))<|tD (uA [iv 0, iv 0, iv 0, iv 0] q5F rfl) ?_
 rintro _ _ ⟨be, rfl, rfl⟩
 refine tD (uN (vs := [_, _, _, _]) 0 4 rfl rfl rfl q9b rfl (mc rfl (mc rfl (mc rfl (mc rfl mn)))) rfl (by simp)) ?_
 rintro _ _ rfl
 refine Te<|Cr<|mV rfl<|tS (sD (vs := [_, _, _, _]) 0 4 rfl K8 rfl rfl rfl) ?_
 obtain ⟨aJ, ae, hm⟩ := bS hm
 refine tD (F8 #[] #[] [.agg #[iv a.Kind, iv a.Place, iv a.Position, iv a.At]] rfl z9g rfl (fun w ho => q5q _ [] a aJ ae) (fun _ _ _ h => h.2.symm)) ?_
 rintro _ _ ⟨⟨_, rfl, _⟩, rfl⟩
 refine tS (sn2 rfl)<|Te<|cM hm rfl (fun hm => ?_) fun hm => ?_
 refine Cr<|mV rfl<|mV rfl<|tS (sD (vs := [_, _, _, _]) 0 4 rfl K8 rfl rfl rfl) ?_
 obtain ⟨bf, aK, hm⟩ := bS hm
 obtain ⟨aL, H, I⟩ := iS aK
 obtain ⟨a4, a5, bg, bh, a6, ar, aY, au, af, a7, aZ⟩ := OS.get (sz := 4) rfl (by decide) g I
 obtain ⟨⟨_, _, rfl, rfl, ⟨_, _, rfl, rfl, ⟨_, _, rfl, rfl, rfl⟩⟩⟩, rfl⟩ := ar
 refine tS (sI aL rfl rfl H af au q3C)<|tD (uP H (sz := 4) (a' := a) rfl [_] R 0 4 [iv a.Kind, iv a.Place, iv a.Position, iv a.At] rfl g I rfl rfl rfl q9b rfl (mc rfl (mc rfl (mc rfl (mc rfl mn)))) (fun cs hsj hh => by obtain ⟨⟨_, _, rfl, rfl, ⟨_, _, rfl, rfl, ⟨_, _, rfl, rfl, rfl⟩⟩⟩, rfl⟩ := hh; exact ⟨by first | decide | exact Nat.le_refl _, ⟨[iv a.Kind], _, rfl, rfl, ⟨[iv a.Place], _, rfl, rfl, ⟨[iv a.Position], _, rfl, rfl, rfl⟩⟩⟩, rfl⟩)) ?_
 rintro _ _ ⟨av, rfl, aM⟩
 refine Tr 0 rfl (v' := .slice W (put d t a).length D) (by simp only [w8])<|Te<|Cg<|mV rfl ?_
 obtain ⟨_, z, hm⟩ := bS hm
 have z := (kS z).2
 refine tS (sa rfl rfl z)<|aS rfl<|Tn<|Xm ?_
 obtain ⟨rfl, rfl⟩ := W4 hm
 exact jJ ⟨av, rfl, rfl, lr, aM, ((w8 _ _ _).trans k)⟩
 refine Ck<|Xm ?_
 obtain ⟨rfl, rfl⟩ := W4 hm
 exact jJ ⟨c, rfl, rfl, lr, g, k⟩
 rintro y _ _ ⟨f, rfl, rfl, ag, aN, ah⟩
 have hm := V8 am
 refine Cg<|mV rfl ?_
 obtain ⟨_, A, hm⟩ := bS hm
 have A := (kS A).2
 refine tS (sa rfl rfl A)<|aS rfl<|Tn ?_
 exact jM hm ⟨f, rfl, rfl, ((q.trans ag)), aN, ah⟩
 refine Ce<|Xe<|Xe<|Xo ?_
 have hm := congrArg some (X _ (Kd hm).symm)
 obtain ⟨rfl, rfl⟩ := W4 hm
 exact jJ ⟨c, rfl, rfl, q, g, k⟩
 rintro aa _ _ ⟨s, rfl, rfl, aw, aD, a8⟩
 have hm := V8 aF
 refine Cr<|mV rfl<|mV rfl ?_
 obtain ⟨aO, aP, hm⟩ := bS hm
 obtain ⟨B, aQ, J, a9, K, L, O⟩ := q4P aP
 have aR := OS.lc aD
 refine tS (O ▸ q8g (l := e) B aQ rfl (.inr ⟨_, _, _, rfl, rfl, J⟩) (.inl ⟨rfl, by omega⟩) K L aR q3C) ?_
 have ax : (aO).length = e.length - B := by rw [O]; simp only [List.length_drop, List.length_take]; omega
 refine tD (j3a (r := j4) (i := F) [] R [iv 0, iv 0, iv 0, iv 0] ((⟨0, 0, 0, 0⟩ : q8) : q8) B rfl aD J (Nat.le_trans K L) ax rfl q3C z7T rfl rfl rfl ⟨[iv 0], _, rfl, rfl, ⟨[iv 0], _, rfl, rfl, ⟨[iv 0], _, rfl, rfl, rfl⟩⟩⟩) ?_
 rintro _ _ ⟨ay, rfl, rfl, ai⟩
 refine Tr 0 rfl (v' := .slice W (j0s e F ((⟨0, 0, 0, 0⟩ : q8) : q8)).length D) (by simp only [z2S])<|Te<|Cr<|mV rfl<|mV rfl ?_
 obtain ⟨bi, aT, hm⟩ := bS hm
 obtain ⟨C, aU, ba, az, S, T, U⟩ := q4P aT
 have aV := OS.lc ai
 refine tS (U ▸ q8g (l := j0s e F ((⟨0, 0, 0, 0⟩ : q8) : q8)) C aU rfl (.inl ⟨rfl, by omega⟩) (.inr ⟨_, _, _, rfl, rfl, az⟩) S T aV q3C) ?_
 obtain ⟨V, aA, aj⟩ := OS.sub (sz := 4) rfl ai S T
 rw [← U] at aj
 refine z1f [] ay V R rfl aA<|aS rfl<|Te<|Ct ?_
 obtain rfl := o1 hm
 exact rO ⟨(q9a W D C 4), (D - C), V, rfl, rfl, aj⟩ aw
theorem q7w (b : v7) (R : Hp) (q4 : (Option Int)) (K : q8) (l6) (ads : Int → Nat) (k) (h3 : OAr 90 j9 ads b.w l6 k) (s) (hm : P0 q4 K l6 = some s):
 w5 Tryz.prog 89 [kv ads q4, .agg #[iv K.Kind, iv K.Place, iv K.Position, iv K.At]] b ((k ++ R)) (fun v b' hp' => bv s = v ∧ (k ++ R) = hp') := by
 refine fE 31 Tryz.func89 rfl Tryz.ntmps89 rfl ?_
 unfold P0 at hm
 refine Cr<|tD (uB _ rfl rfl) ?_
 rintro _ _ ⟨au, rfl, rfl⟩
 refine aS rfl<|Te<|Cs<|Cr<|tS (sF rfl q1b)<|tS (sL 0 rfl Q3 rfl rfl)<|Te<|Cb<|Cr<|tS (q1 rfl rfl)<|aS rfl<|Te<|cI hm rfl (fun hm => ?_) fun hm => ?_
 refine Cr<|mV rfl ?_
 obtain ⟨t, u, hm⟩ := bS hm
 obtain ⟨av, L, hm⟩ := bS hm
 refine Tr 0 rfl (v' := .pointer (some ⟨(ads t), 0, none⟩)) (by rw [u]; rfl)<|Tr 9 rfl (v' := .pointer (some ⟨(ads t), 0, none⟩)) (by rw [u]; rfl) ?_
 obtain ⟨ad, ae, c, l, z, hf142⟩ := OAr.take h3 L
 obtain ⟨aw, ax, ay, az, aA, aB, d, aC, aD, e, rfl, aE, aF, aG, aH, rfl⟩ := z
 refine q4x [_] k c d e R rfl l<|tS (sN rfl)<|tS (sF rfl z0E)<|tS (sL 0 rfl q7k rfl rfl)<|aS rfl<|Te<|Ct<|Xb<|Xr<|q1c d e c<|q1c c d e<|q1c e c d<|q4v [_] k c d e R rfl l ?_
 obtain rfl := o1 hm
 exact rO ⟨rfl, rfl⟩ lr
 refine Cr<|tS (q1 rfl rfl)<|aS rfl<|Te<|cI hm rfl (fun hm => ?_) fun hm => ?_
 refine Cr<|mV rfl ?_
 obtain ⟨x, y, hm⟩ := bS hm
 obtain ⟨aI, O, hm⟩ := bS hm
 refine Tr 0 rfl (v' := .pointer (some ⟨(ads x), 0, none⟩)) (by rw [y]; rfl)<|Tr 15 rfl (v' := .pointer (some ⟨(ads x), 0, none⟩)) (by rw [y]; rfl) ?_
 obtain ⟨af, ag, f, m, A, hf167⟩ := OAr.take h3 O
 obtain ⟨aJ, aK, aL, aM, aN, aO, g, aP, aQ, h, rfl, aR, aT, S, aU, rfl⟩ := A
 refine q4x [_] k f g h R rfl m<|tS (sN rfl)<|tS (sF rfl q3y)<|tS (sL 0 rfl q5W rfl rfl) ?_
 obtain ⟨aV, T, hm⟩ := bS hm
 obtain ⟨U, B, C⟩ := iS T
 obtain ⟨ah, ai, aW, aX, aj, D, o, E, p, ak, ab⟩ := OS.get (sz := 1) rfl (by decide) S C
 obtain ⟨rfl, rfl⟩ := D
 refine tS (sI U rfl rfl B p E z1c)<|tS (k9 rfl q7k (fun w ho => o w _ ho (.cons _ (.cons _ (Kb _ _))) 0 _ rfl))<|tS (sn2 rfl)<|aS rfl<|Te<|Ct<|Xb<|Xr<|q1c g h f<|q1c f g h<|q1c h f g<|q4v [_] k f g h R rfl m ?_
 obtain rfl := o1 hm
 exact rO ⟨rfl, rfl⟩ lr
 refine Ck<|Xm<|Xn<|Cs ?_
 obtain ⟨V, W, hm⟩ := bS hm
 obtain ⟨aY, X, hm⟩ := bS hm
 refine q9R 0 rfl (v' := .pointer (some ⟨(ads V), 0, none⟩)) (by rw [W]; rfl) ?_
 obtain ⟨al, am, i, n, F, hf207⟩ := OAr.take h3 X
 obtain ⟨aZ, a0, a1, a2, a3, a4, a, a5, a6, j, rfl, a7, a8, a9, Y, rfl⟩ := F
 refine q9S [_] k i a j R rfl n ?_
 obtain ⟨ba, Z, hm⟩ := bS hm
 refine Di mixed (.refl _)<|E0 0 rfl (sM rfl)<|E0 1 rfl (sN rfl)<|E0 2 rfl (sF rfl z0F)<|Es 3 rfl (sL 0 rfl q5W rfl rfl)<|E0 4 rfl (sF rfl j0p)<|Es 5 rfl (sL 1 rfl Q3 rfl rfl) ?_
 obtain ⟨aa, G, H⟩ := iS Z
 obtain ⟨an, ao, bb, bc, aq, I, q, J, r, ar, ac⟩ := OS.get (sz := 1) rfl (by decide) Y H
 obtain ⟨rfl, rfl⟩ := I
 refine E0 6 rfl (sI aa rfl rfl G r J z1c)<|Es 7 rfl (k9 rfl q7k (fun w ho => q w _ ho (.cons _ (.cons _ (ss a (Kb _ _)))) 0 _ rfl))<|E0 8 rfl (sn2 rfl)<|E0 9 rfl (sA rfl)<|Eo<|Dd (by kernel_rfl)<|Xn<|Ct<|q1c a j i<|q1c i a j<|q1c j i a<|q4v [_] k i a j R rfl n ?_
 obtain rfl := o1 hm
 exact rO ⟨rfl, rfl⟩ lr
theorem q5a (b : v7) (R : Hp) (q4 : (Option Int)) (l5) (ads : Int → Nat) (e) (h3 : OAr 90 j9 ads b.w l5 e) (q) (hm : p7 q4 l5 = some q):
 w5 Tryz.prog 51 [kv ads q4] b ((e ++ R)) (fun v b' hp' => ∃ G H y, sv G q H = v ∧ (y ++ (e ++ R)) = hp' ∧ OS 55 (OT.fr j4) b'.w (sv G q H) q y) := by
 refine fE 24 Tryz.func51 rfl Tryz.ntmps51 rfl ?_
 unfold p7 at hm
 refine Cr<|aS rfl<|Te<|Cr<|aS rfl<|Te<|Cs<|Cr<|mV rfl ?_
 obtain ⟨s, I, hm⟩ := bS hm
 obtain ⟨z, X, hm⟩ := bS hm
 refine Tr 0 rfl (v' := .pointer (some ⟨(ads s), 0, none⟩)) (by rw [I]; rfl)<|Tr 6 rfl (v' := .pointer (some ⟨(ads s), 0, none⟩)) (by rw [I]; rfl) ?_
 obtain ⟨af, ag, g, A, O, hf131⟩ := OAr.take h3 X
 obtain ⟨al, am, Y, Z, an, ao, h, aq, ar, k, rfl, au, J, av, aw, rfl⟩ := O
 refine q4x [] e g h k R rfl A<|tS (sN rfl)<|tS (sF rfl j0l)<|tS (sL 0 rfl q5j rfl rfl)<|tS (sE rfl q3C)<|mV rfl<|Te<|Cb<|j0u h k g<|j0u g h k<|j0u k g h<|z8v [] e g h k R rfl A ?_
 have ah : z.needs.length ≤ 9223372036854775807 := (FZ.bd J)
 obtain ⟨n, S, T⟩ := bS hm
 refine lS (fun K => fun n => fun t e' hp' => ∃ o p c, [(0, kv ads (some s)), (3, sv o n p), (9, sv Y z.needs Z), (10, iv ((z.needs.length : Int))), (11, iv ((K : Int)))] = e' ∧ (c ++ (e ++ R)) = hp' ∧ b.Le t ∧ OS 55 (OT.fr j4) t.w (sv o n p) n c) S ⟨none, 0, [], rfl, rfl, lr, OS.nil⟩ ?_ ?_
 rintro K n t _ _ ai aa ⟨o, p, c, rfl, rfl, d, x⟩ m
 unfold Y9 at m
 have hm := m
 refine Cr<|tS (lT rfl rfl (by omega))<|Te<|Cs<|w6 rfl<|Ck<|Xn<|Cs<|Cb<|Cr ?_
 obtain ⟨a, ab, aj, U, ak, V, D, B, E, hm⟩ := bF (sz := 4) hm (J.le d)
 obtain ⟨_, _, rfl, rfl, ⟨_, _, rfl, rfl, ⟨_, _, rfl, rfl, rfl⟩⟩⟩ := V
 refine tS (sI ab rfl rfl U E B q3C)<|tS (sP (vs := [iv a.Kind, iv a.Place, iv a.Position, iv a.At]) 4 rfl K8 B rfl (fun j u hu => D j u hu))<|tD (uA [iv 0, iv 0, iv 0, iv 0] q5F rfl) ?_
 rintro _ _ ⟨ax, rfl, rfl⟩
 refine tD (uN (vs := [_, _, _, _]) 0 4 rfl rfl rfl q9b rfl (mc rfl (mc rfl (mc rfl (mc rfl mn)))) rfl (by simp)) ?_
 rintro _ _ rfl
 refine Te<|Cr<|mV rfl<|tS (sD (vs := [_, _, _, _]) 0 4 rfl K8 rfl rfl rfl) ?_
 obtain ⟨ac, F, hm⟩ := bS hm
 refine j1e c e<|q4m [] [_] e (c ++ R) rfl<|Tg _ rfl j1Z rfl (q7w _ _ (some s) a l5 ads e (h3.le d) ac F) ?_
 rintro _ ay _ f ⟨rfl, rfl⟩
 refine q2z [] [_] e (c ++ R) rfl<|Te<|cB hm rfl (fun hm => ?_) fun hm => ?_
 refine Cg<|mV rfl<|tS (sD (vs := [_, _, _, _]) 0 4 rfl K8 rfl rfl rfl)<|tD (J8 (el := 55) [(0, .agg #[iv a.Kind, iv a.Place, iv a.Position, iv a.At])] [iv a.Kind, iv a.Place, iv a.Position, iv a.At] rfl (fun _ => by kernel_rfl)) ?_
 rintro _ _ ⟨az, rfl, rfl⟩
 obtain ⟨_, C, hm⟩ := bS hm
 have C := J9 C
 refine q8Y e c<|tD (uQ (r := j4) (l := n) [_, _] (e ++ R) [[iv a.Kind, iv a.Place, iv a.Position, iv a.At]] [a] rfl (by decide) q3C z7T rfl rfl rfl rfl (x.le f) rfl (fun w ho => Rd.own (i := 0) ho rfl) ⟨⟨[iv a.Kind], _, rfl, rfl, ⟨[iv a.Place], _, rfl, rfl, ⟨[iv a.Position], _, rfl, rfl, rfl⟩⟩⟩, trivial⟩ C) ?_
 rintro _ _ ⟨W, rfl, L⟩
 obtain ⟨ad, ae, rfl, _⟩ := L.form
 refine aS rfl<|Tn<|Xm<|Xn<|Cg<|tS (sa rfl rfl (by omega))<|mV rfl<|Tn ?_
 obtain rfl := o1 hm
 exact jS ⟨ad, ae, W, rfl, rfl, ((d.trans f)), L⟩
 refine Ck<|Xm<|Xn<|Cg<|tS (sa rfl rfl (by omega))<|mV rfl<|Tn ?_
 obtain rfl := o1 hm
 exact jS ⟨o, p, c, rfl, rfl, ((d.trans f)), (x.le f)⟩
 rintro t _ _ ⟨o, p, c, rfl, rfl, d, x⟩
 have hm := T
 refine Cr<|tS (lF rfl rfl (by omega))<|Te<|Cs<|v8 rfl<|Ce<|Xe<|Xe<|Xo<|Xn<|Cr<|mV rfl<|aS rfl<|Te<|Ct ?_
 obtain rfl := o1 hm
 exact rO ⟨o, p, c, rfl, rfl, x⟩ d
theorem q6Z (b : v7) (R : Hp) (c : q8) (e f g i j d) (hm : q0T c e f g i = some d):
 w5 Tryz.prog 75 [.agg #[iv c.Kind, iv c.Place, iv c.Position, iv c.At], pb j] b ((j, Cl 55 [iv e, iv f, iv g, iv i]) :: R) (fun v b' hp' => bv d = v ∧ (j, Cl 55 [iv e, iv f, iv g, iv i]) :: R = hp') := by
 refine fE 7 Tryz.func75 rfl Tryz.ntmps75 rfl ?_
 unfold q0T at hm
 refine Cr<|tD (uB _ rfl rfl) ?_
 rintro _ _ ⟨l, rfl, rfl⟩
 refine aS rfl<|Te<|Cr<|tS (sD (vs := [_, _, _, _]) 0 4 rfl K8 rfl rfl rfl)<|tS (sD (vs := [_, _, _, _]) 1 4 rfl K8 rfl rfl rfl) ?_
 obtain ⟨k, a, hm⟩ := bS hm
 refine tD (uW _ z6y rfl (fun w ho => q7a _ [] c (⟨e, f, g, i⟩ : q8) k a) (fun _ _ _ h => h.2.symm)) ?_
 rintro _ _ ⟨⟨_, rfl, _⟩, rfl⟩
 refine aS rfl<|Te<|Ct ?_
 obtain rfl := o1 hm
 exact rO ⟨rfl, rfl⟩ lr
theorem q6w (b : v7) (R : Hp) (x y z h e p I J l) (U : OS 55 (OT.fr j4) b.w (sv I e J) e l) (A) (hm : q1z x y z h e = some A):
 w5 Tryz.prog 74 [sv I e J, .func (.func 75) #[] #[pb p]] b ((p, Cl 55 [iv x, iv y, iv z, iv h]) :: (l ++ R)) (fun v b' hp' => iv A = v ∧ (p, Cl 55 [iv x, iv y, iv z, iv h]) :: (l ++ R) = hp') := by
 refine fE 19 Tryz.func74 rfl Tryz.ntmps74 rfl ?_
 unfold q1z at hm
 refine Cr<|aS rfl<|Te<|Cs<|Cr<|mV rfl<|tS (sE rfl q3C)<|mV rfl<|Te<|Cb ?_
 have V : e.length ≤ 9223372036854775807 := (OS.len U)
 obtain ⟨ab, B, f⟩ := bS hm
 refine lF (fun C => fun _ => fun q e' hp' => [(0, sv I e J), (1, .func (.func 75) #[] #[pb p]), (7, iv ((e.length : Int))), (8, iv ((C : Int)))] = e' ∧ (p, Cl 55 [iv x, iv y, iv z, iv h]) :: (l ++ R) = hp' ∧ b.Le q) B ⟨rfl, rfl, lr⟩ ?_ ?_
 rintro C _ q _ _ W G ⟨rfl, rfl, a⟩ c i
 unfold q0a at c
 have hm := c
 refine Cr<|tS (lT rfl rfl (by omega))<|Te<|Cs<|w6 rfl<|Ck<|Xn<|Cs<|Cb<|Cr<|mV rfl<|aS rfl<|Te<|Cr<|mV rfl<|mV rfl<|mV rfl ?_
 obtain ⟨d, K, hm⟩ := bS hm
 obtain ⟨L, D, E⟩ := iS K
 obtain ⟨X, O, Y, Z, S, r, m, k, n, T, H⟩ := OS.get (sz := 4) rfl (by decide) (U.le a) E
 obtain ⟨⟨_, _, rfl, rfl, ⟨_, _, rfl, rfl, ⟨_, _, rfl, rfl, rfl⟩⟩⟩, rfl⟩ := r
 refine tS (sI L rfl rfl D n k q3C)<|tS (Z6 (vs := [iv d.Kind, iv d.Place, iv d.Position, iv d.At]) 4 rfl K8 k rfl (fun w ho j u hu => m w _ ho (.cons _ (Kb _ _)) j u hu)) ?_
 obtain ⟨F, o, hm⟩ := bS hm
 refine Tv #[] #[pb p] [.agg #[iv d.Kind, iv d.Place, iv d.Position, iv d.At]] rfl rfl j2a rfl (q6Z _ _ d x y z h p F o) ?_
 rintro _ aa _ g ⟨rfl, rfl⟩
 refine Te<|cB hm rfl (fun hm => ?_) fun hm => ?_
 refine Cr<|mV rfl<|aS rfl<|Te<|Ct<|Xb<|Xr<|Xr<|Xb<|Xr ?_
 have s := i _ (Kd hm).symm
 rw [s] at f
 have hm := V6 f
 obtain rfl := o1 hm
 exact rO ⟨rfl, rfl⟩ (a.trans g)
 refine Ck<|Xm<|Xn<|Cg<|tS (sa rfl rfl (by omega))<|mV rfl<|Tn ?_
 exact jM hm ⟨rfl, rfl, ((a.trans g))⟩
 rintro _ q _ _ ⟨rfl, rfl, a⟩ t
 rw [t] at f
 have hm := G6 f
 refine Cr<|tS (lF rfl rfl (by omega))<|Te<|Cs<|v8 rfl<|Ce<|Xe<|Xe<|Xo<|Xn<|Cr<|aS rfl<|Te<|Ct ?_
 obtain rfl := o1 hm
 exact rO ⟨rfl, rfl⟩ a
theorem q4W (b : v7) (R : Hp) (h i j d c k l m a) (o : OS 55 (OT.fr j4) b.w (sv l c m) c a) (g) (hm : X9 h i j d c = some g):
 w5 Tryz.prog 65 [sv l c m, .func (.func 75) #[] #[pb k]] b ((k, Cl 55 [iv h, iv i, iv j, iv d]) :: (a ++ R)) (fun v b' hp' => bv g = v ∧ (k, Cl 55 [iv h, iv i, iv j, iv d]) :: (a ++ R) = hp') := by
 refine fE 9 Tryz.func65 rfl Tryz.ntmps65 rfl ?_
 unfold X9 at hm
 refine Cr<|aS rfl<|Te<|Cr<|mV rfl<|mV rfl ?_
 obtain ⟨n, e, hm⟩ := bS hm
 refine q4m [_] [] a R rfl<|Tg _ rfl z1J rfl (q6w _ _ h i j d c k l m a o n e) ?_
 rintro _ p _ f ⟨rfl, rfl⟩
 refine q2z [_] [] a R rfl<|tS (q6 rfl rfl)<|aS rfl<|Te<|Ct ?_
 obtain rfl := o1 hm
 exact rO ⟨rfl, rfl⟩ f
theorem q8I (b : v7) (R : Hp) (ab U V W X Y Z aa H I J bo bp) (ads : Int → Nat) (x ac ad ae af ag ah ai aj ak al am an ao aq A3 c4 f A8 c9 g ar au d K aK e) (cq : FZ RT.str b.w ac ad U) (cr : FZ j5 b.w ae af V) (cs : FZ w9 b.w ag ah W) (ct : FZ j6 b.w ai aj X) (cu : FZ k7 b.w ak al Y) (bX : FZ Z9 b.w am an Z) (cv : FZ (RT.list j4) b.w ao aq aa) (h5 : OS 55 (OT.fr j4) b.w (sv A3 H c4) H f) (cw : OS 80 (OT.fr Q5) b.w (sv A8 I c9) I g) (cx : OS 94 (OT.fr Q4) b.w (sv ar J au) J d) (bY : OM rI (OT.fr (RT.key ads)) false false b.w K bo aK) (bK : OAr 90 j9 ads b.w bp e) (aL aM) (hm : q0z ab U V W X Y Z aa H I J bo bp = some (aL, aM)):
 w5 Tryz.prog 34 [pb x, iv ab, sv A3 H c4] b ((x, Cl 78 [sv ac U ad, sv ae V af, sv ag W ah, sv ai X aj, sv ak Y al, sv am Z an, sv ao aa aq, sv A8 I c9, sv ar J au, .map (some K)]) :: (f ++ (g ++ (d ++ (aK ++ (e ++ R)))))) (fun v b' hp' => ∃ aB, bv aL = v ∧ (x, Cl 78 [sv ac U ad, sv ae V af, sv ag W ah, sv ai X aj, sv ak Y al, sv am Z an, sv ao aa aq, sv A8 I c9, sv ar J au, .map (some K)]) :: (f ++ (g ++ (d ++ (aB ++ (e ++ R))))) = hp' ∧ OM rI (OT.fr (RT.key ads)) false false b'.w K aM aB) := by
 refine fE 50 Tryz.func34 rfl Tryz.ntmps34 rfl ?_
 unfold q0z at hm
 refine Cr<|aS rfl<|Te ?_
 obtain ⟨bq, a5, y⟩ := bS hm
 refine Cj (fun av e' hp' => ∃ (aw : (List (Int × (Option Int)))), ∃ z, [] = e' ∧ (x, Cl 78 [sv ac U ad, sv ae V af, sv ag W ah, sv ai X aj, sv ak Y al, sv am Z an, sv ao aa aq, sv A8 I c9, sv ar J au, .map (some K)]) :: (f ++ (g ++ (d ++ (z ++ (e ++ R))))) = hp' ∧ b.Le av ∧ OM rI (OT.fr (RT.key ads)) false false av.w K aw z ∧ bq = .inl aw) ?_ ?_
 have hm := a5
 refine Cr<|mV rfl<|tS (sN rfl)<|tS (sF rfl q2U)<|tS (sL 0 rfl q8m rfl rfl)<|q1n f g d aK<|tD (z2g [_] (f ++ (g ++ (d ++ (e ++ R)))) rfl bY q5n rfl) ?_
 rintro _ _ ⟨D, q, rfl, rfl, br⟩
 refine Te<|Cb<|H5 q f g d e<|H5 e q f g d<|H5 d e q f g<|H5 g d e q f<|H5 f g d e q ?_
 obtain ⟨bZ, a6, A⟩ := bS hm
 refine z6K (fun _ => fun aN e' hp' => [(0, pb x), (1, iv ab), (2, sv A3 H c4), (15, pb D)] = e' ∧ (x, Cl 78 [sv ac U ad, sv ae V af, sv ag W ah, sv ai X aj, sv ak Y al, sv am Z an, sv ao aa aq, sv A8 I c9, sv ar J au, .map (some K)]) :: (f ++ (g ++ (d ++ (e ++ R)))) = hp' ∧ b.Le aN) a6 br (e' := [(0, pb x), (1, iv ab), (2, sv A3 H c4), (15, pb D)]) ⟨rfl, rfl, rfl, rfl, trivial⟩ [_] (f ++ (g ++ (d ++ (e ++ R)))) rfl (.refl _) ⟨rfl, rfl, lr⟩ ?_
 rintro _ b0 aN _ _ aC ⟨rfl, rfl, k⟩ bL aO hd3183 hall3184
 refine j0J [_] aC (f ++ (g ++ (d ++ (e ++ R)))) ?_ rfl
 refine Cr<|z5t [_] (f ++ (g ++ (d ++ (e ++ R)))) rfl rfl rfl aO (fun hnil3186 => ?_) (fun E b1 b2 b3 a hperm3192 a7 aP => ?_)
 obtain ⟨aD, aH, bs⟩ := MIt.done aO
 refine z1f [_] aC aD (f ++ (g ++ (d ++ (e ++ R)))) rfl aH ?_
 have hend3198 := hd3183 hnil3186
 refine tS (v6 rfl rfl)<|Te<|Cs<|v8 rfl<|Ce<|Xe<|Xe<|Xo ?_
 rw [hend3198] at A
 have hm := G6 A
 have hq := (Kd hm).symm
 exact jJ ⟨bo, aD, rfl, rfl, k, bs, hq⟩
 obtain ⟨b4, F, aI⟩ := hall3184 _ _ hperm3192
 have s := F
 unfold Y4 at s
 have hm := s
 refine tS (v6 rfl rfl)<|Te<|Cs<|w6 rfl<|Ck<|Xn<|Cb<|Cr ?_
 obtain ⟨aQ, aR, L, O, a8⟩ := MIx.entry Tryz.prog a7
 obtain rfl : aQ = iv E.1 := by have L : [aQ] = [iv E.1] := L; injection L
 obtain rfl : aR = kv ads E.2 := by have O : [aR] = [kv ads E.2] := O; injection O
 refine tS (a8 (.cons _ (Kb _ _)) rfl)<|tS (v6 rfl rfl)<|aS rfl<|Te<|Cr<|mV rfl ?_
 obtain ⟨r, aT, hm⟩ := bS hm
 refine q0X a f g d e<|q4m [] [_] e (a ++ (f ++ (g ++ (d ++ R)))) rfl<|Tg _ rfl z9c rfl (q5a _ _ E.2 bp ads e (bK.le k) r aT) ?_
 rintro _ bt _ l ⟨aU, aV, c, rfl, rfl, aW⟩
 refine z7x [] [_] c e (a ++ (f ++ (g ++ (d ++ R)))) rfl<|tS (sE rfl q3C)<|mV rfl<|Te<|Cb ?_
 have bN : r.length ≤ 9223372036854775807 := (OS.len aW)
 refine j0v c e<|z8s e c a f g d<|z8s d e c a f g<|q1L g d e c<|H5 c g d e a<|z8s a c g d e f ?_
 obtain ⟨b5, a9, B⟩ := bS hm
 refine lF (fun ax => fun ay => fun S e' hp' => [(0, pb x), (1, iv ab), (2, sv A3 H c4), (8, kv ads ay), (15, pb D), (21, sv aU r aV), (22, iv ((r.length : Int))), (23, iv ((ax : Int)))] = e' ∧ (x, Cl 78 [sv ac U ad, sv ae V af, sv ag W ah, sv ai X aj, sv ak Y al, sv am Z an, sv ao aa aq, sv A8 I c9, sv ar J au, .map (some K)]) :: (f ++ (a ++ (c ++ (g ++ (d ++ (e ++ R)))))) = hp' ∧ bt.Le S) a9 ⟨rfl, rfl, lr⟩ ?_ ?_
 rintro ax ay S _ _ bO bJ ⟨rfl, rfl, h⟩ t az
 unfold J6 at t
 have hm := t
 refine Cr<|tS (lT rfl rfl (by omega))<|Te<|Cs<|w6 rfl<|Ck<|Xn<|Cs<|Cb<|Cr ?_
 obtain ⟨i, bu, hm⟩ := bS hm
 obtain ⟨bw, ba, bb⟩ := iS bu
 obtain ⟨bP, bQ, b6, b7, bR, bc, aX, aE, aY, bT, bM⟩ := OS.get (sz := 4) rfl (by decide) (aW.le h) bb
 obtain ⟨⟨_, _, rfl, rfl, ⟨_, _, rfl, rfl, ⟨_, _, rfl, rfl, rfl⟩⟩⟩, rfl⟩ := bc
 refine tS (sI bw rfl rfl ba aY aE q3C)<|tS (Z6 (vs := [iv i.Kind, iv i.Place, iv i.Position, iv i.At]) 4 rfl K8 aE rfl (fun w ho j u hu => aX w _ ho (.cons _ (ss f (ss a (Kb _ _)))) j u hu))<|tD (uA [iv 0, iv 0, iv 0, iv 0] q5F rfl) ?_
 rintro _ _ ⟨aA, rfl, rfl⟩
 refine tD (uN (vs := [_, _, _, _]) 0 4 rfl rfl rfl q9b rfl (mc rfl (mc rfl (mc rfl (mc rfl mn)))) rfl (by simp)) ?_
 rintro _ _ rfl
 refine Te<|Cs ?_
 obtain ⟨⟨bx, bz⟩, bd, be⟩ := bS hm
 refine Cj (fun aZ e' hp' => [(0, pb x), (1, iv ab), (2, sv A3 H c4), (8, kv ads bx), (10, pb aA), (15, pb D), (21, sv aU r aV), (22, iv ((r.length : Int))), (23, iv ((ax : Int))), (45, bv bz)] = e' ∧ (x, Cl 78 [sv ac U ad, sv ae V af, sv ag W ah, sv ai X aj, sv ak Y al, sv am Z an, sv ao aa aq, sv A8 I c9, sv ar J au, .map (some K)]) :: (aA, Cl 55 [iv i.Kind, iv i.Place, iv i.Position, iv i.At]) :: (f ++ (a ++ (c ++ (g ++ (d ++ (e ++ R)))))) = hp' ∧ S.Le aZ) ?_ ?_
 have hm := bd
 obtain ⟨bA, bB, hm⟩ := bS hm
 obtain ⟨b8, bC, hm⟩ := bS hm
 refine q9R 8 rfl (v' := .pointer (some ⟨(ads bA), 0, none⟩)) (by rw [bB]; rfl) ?_
 have zz := k.trans (l.trans h)
 obtain ⟨bU, bV, m, T, bf, hf3572⟩ := OAr.take (bK.le zz) bC
 obtain ⟨b9, ca, cb, cc, cd, ce, n, cf, cg, o, rfl, ch, ci, cj, ck, rfl⟩ := bf
 refine j3C f a c g d e<|q9S [_, _] e m n o (f ++ (a ++ (c ++ (g ++ (d ++ R))))) rfl T ?_
 by_cases C : i.Kind = 2
 rw [if_pos C] at hm
 obtain ⟨cl, bD, hm⟩ := bS hm
 refine Di mixed (.refl _)<|E0 0 rfl (sF rfl q1b)<|Es 1 rfl (sL 1 rfl Q3 rfl rfl)<|E0 2 rfl (eT rfl rfl C)<|E0 3 rfl (sM rfl)<|Yz 4 30 rfl (sM rfl)<|Yz 5 30 rfl (sN rfl)<|Yz 6 30 rfl (sF rfl q6S)<|Yz 7 30 rfl (sF rfl q2V)<|Ey 8 30 rfl (sL 0 rfl Q3 rfl rfl)<|Yz 9 30 rfl (sM rfl)<|Yz 10 30 rfl (sN rfl)<|Yz 11 30 rfl (sF rfl z2O)<|Ey 12 30 rfl (sL 2 rfl z5M rfl rfl)<|Yz 13 30 rfl (sM rfl) ?_
 obtain ⟨bE, bg, bh⟩ := iS bD
 obtain ⟨bW, bi, a0, aF, a1⟩ := FZ.get (sz := 3) rfl (by decide) (bX.le zz) bh
 obtain ⟨_, _, rfl, rfl, ⟨_, _, rfl, rfl, ⟨cm, cn, rfl, co⟩⟩⟩ := bi
 refine Yz 14 30 rfl (sI bE rfl rfl bg a1 aF z2b)<|Yz 15 30 rfl (sQ rfl aF q4M)<|Ey 16 30 rfl (sO rfl Q3 (a0 0 _ rfl))<|Yz 17 30 rfl (q1 rfl rfl)<|E0 18 rfl (pT rfl rfl)<|Eo<|Dd (by kernel_rfl)<|q1u n o m<|q1u m n o<|q1u o m n<|q4v [_, _] e m n o (f ++ (a ++ (c ++ (g ++ (d ++ R))))) rfl T ?_
 obtain ⟨rfl, rfl⟩ := W4 hm
 exact jJ ⟨rfl, rfl, lr⟩
 rw [if_neg C] at hm
 refine Di mixed (.refl _)<|E0 0 rfl (sF rfl q1b)<|Es 1 rfl (sL 1 rfl Q3 rfl rfl)<|E0 2 rfl (eF rfl rfl C)<|E0 3 rfl (sM rfl)<|eN 4 rfl<|eN 5 rfl<|eN 6 rfl<|eN 7 rfl<|eN 8 rfl<|eN 9 rfl<|eN 10 rfl<|eN 11 rfl<|eN 12 rfl<|eN 13 rfl<|eN 14 rfl<|eN 15 rfl<|eN 16 rfl<|eN 17 rfl<|E0 18 rfl (pF rfl rfl)<|Eo<|Dd (by kernel_rfl)<|q1u n o m<|q1u m n o<|q1u o m n<|q4v [_, _] e m n o (f ++ (a ++ (c ++ (g ++ (d ++ R))))) rfl T ?_
 obtain ⟨rfl, rfl⟩ := W4 hm
 exact jJ ⟨rfl, rfl, lr⟩
 rintro aZ _ _ ⟨rfl, rfl, p⟩
 have hm := V8 be
 refine cB hm rfl (fun hm => ?_) fun hm => ?_
 refine Ce<|Xe<|Xo<|Xn<|Cg<|tS (sa rfl rfl (by omega))<|mV rfl<|Tn ?_
 exact jM hm ⟨rfl, rfl, ((h.trans p))⟩
 refine Ck<|Xn<|Cr<|mV rfl<|tS (q3V _ _ rfl rfl) ?_
 obtain ⟨bG, a2, hm⟩ := bS hm
 refine H0 1 rfl<|q4m [_] [_] f (a ++ (c ++ (g ++ (d ++ (e ++ R))))) rfl<|Tg _ rfl z4a rfl (q4W _ _ i.Kind i.Place i.Position i.At H aA A3 c4 f (h5.le (k.trans (l.trans (h.trans p)))) bG a2) ?_
 rintro _ cp _ G ⟨rfl, rfl⟩
 refine q2z [_] [_] f (a ++ (c ++ (g ++ (d ++ (e ++ R))))) rfl<|Te<|cB hm rfl (fun hm => ?_) fun hm => ?_
 refine Cr<|aS rfl<|Te<|Ct<|Xb<|Xr<|Xr<|Xb<|Xb<|Xr<|Xb<|Xr ?_
 have bj := az _ (Kd hm).symm
 rw [bj] at B
 have hm := V6 B
 have bk := aI _ (Kd hm).symm
 rw [bk] at A
 have hm := V6 A
 have bl := (Kd hm).symm
 rw [bl] at y
 have hm := V6 y
 refine j0V f a ?_
 have zy := l.trans (h.trans (p.trans G))
 obtain ⟨aG, aJ, bH⟩ := MIt.done (aP.le zy)
 refine z8F [_, _] a aG (f ++ (c ++ (g ++ (d ++ (e ++ R))))) rfl aJ ?_
 obtain ⟨rfl, rfl⟩ := W4 hm
 exact rO ⟨aG, rfl, rfl, bH⟩ (k.trans zy)
 refine Ck<|Xm<|Xn<|Cg<|tS (sa rfl rfl (by omega))<|mV rfl<|Tn ?_
 exact jM hm ⟨rfl, rfl, ((h.trans (p.trans G)))⟩
 rintro ay S _ _ ⟨rfl, rfl, h⟩ bm
 rw [bm] at B
 have hm := G6 B
 refine Cr<|tS (lF rfl rfl (by omega))<|Te<|Cs<|v8 rfl<|Ce<|Xe<|Xe<|Xo<|Xm<|z9s f a c g d e<|z9s e f a c g d<|z9s d e f a c g<|z5k g d e f<|j2W f g d e a ?_
 have zx := k.trans (l.trans h)
 have a3 := zx
 exact z3d (s' := ()) [_] (f ++ (g ++ (d ++ (e ++ (c ++ R))))) rfl hperm3192 (F.trans (Kd hm ▸ rfl)) a3 (aP.le (l.trans h)) (e' := [(0, pb x), (1, iv ab), (2, sv A3 H c4), (15, pb D)]) ⟨rfl, rfl, rfl, rfl, trivial⟩ (.cons_cons _ (sp f (sp g (sp d (sp e (ss c (.refl _))))))) ⟨rfl, rfl, (zx)⟩
 rintro av _ _ ⟨aw, z, rfl, rfl, a4, bI, bn⟩
 rw [bn] at y
 have hm := G6 y
 refine Cr<|aS rfl<|Te<|Ct ?_
 obtain ⟨rfl, rfl⟩ := W4 hm
 exact rO ⟨z, rfl, rfl, bI⟩ a4
theorem P8 (b : v7) (R : Hp) (d : q9) (i) (hm : W0 d = some i):
 w5 Tryz.prog 35 [.agg #[iv d.axles, bv d.disturbed, iv d.position, iv d.moving, bv d.failed]] b (R) (fun v b' hp' => bv i = v ∧ R = hp') := by
 refine fE 10 Tryz.func35 rfl Tryz.ntmps35 rfl ?_
 unfold W0 at hm
 refine Cr<|tD (uB _ rfl rfl) ?_
 rintro _ _ ⟨j, rfl, rfl⟩
 refine aS rfl<|Te ?_
 obtain ⟨h, e, f⟩ := bS hm
 refine Cj (fun g e' hp' => [(2, bv h)] = e' ∧ R = hp' ∧ b.Le g) ?_ ?_
 have hm := e
 refine Cg<|tS (sF rfl j0n)<|tS (sL 0 rfl Q3 rfl rfl)<|Tb rfl (q5 rfl rfl) (fun a => ?_) (fun a => ?_)
 rw [if_pos a] at hm
 refine mV rfl<|nO<|nO<|tS (pT rfl rfl)<|aS rfl<|Tn ?_
 obtain rfl := o1 hm
 exact jJ ⟨rfl, rfl, lr⟩
 rw [if_neg a] at hm
 refine mV rfl<|yS<|tS (sF rfl j0m)<|yS<|tS (sL 0 rfl q7k rfl rfl)<|tS (pF rfl rfl)<|aS rfl<|Tn ?_
 obtain rfl := o1 hm
 exact jJ ⟨rfl, rfl, lr⟩
 rintro g _ _ ⟨rfl, rfl, c⟩
 have hm := f
 refine Ct ?_
 obtain rfl := o1 hm
 exact rO ⟨rfl, rfl⟩ c
theorem z0Q (b : v7) (R : Hp) (aa T U V W X Y Z G H bo bH) (ads : Int → Nat) (ab ac ad ae af ag ah ai aj ak al am an ao aq A3 c4 d A8 c9 e I aL c) (cP : FZ RT.str b.w ac ad T) (cQ : FZ j5 b.w ae af U) (cR : FZ w9 b.w ag ah V) (cT : FZ j6 b.w ai aj W) (cU : FZ k7 b.w ak al X) (cV : FZ Z9 b.w am an Y) (cW : FZ (RT.list j4) b.w ao aq Z) (h5 : OS 80 (OT.fr Q5) b.w (sv A3 G c4) G d) (cX : OS 94 (OT.fr Q4) b.w (sv A8 H c9) H e) (bZ : OM rI (OT.fr (RT.key ads)) false false b.w I bo aL) (bp : OAr 90 j9 ads b.w bH c) (aM aN) (hm : q1B aa T U V W X Y Z G H bo bH = some (aM, aN)):
 w5 Tryz.prog 48 [pb ab, iv aa] b ((ab, Cl 78 [sv ac T ad, sv ae U af, sv ag V ah, sv ai W aj, sv ak X al, sv am Y an, sv ao Z aq, sv A3 G c4, sv A8 H c9, .map (some I)]) :: (d ++ (e ++ (aL ++ (c ++ R))))) (fun v b' hp' => ∃ aA, iv aM = v ∧ (ab, Cl 78 [sv ac T ad, sv ae U af, sv ag V ah, sv ai W aj, sv ak X al, sv am Y an, sv ao Z aq, sv A3 G c4, sv A8 H c9, .map (some I)]) :: (d ++ (e ++ (aA ++ (c ++ R)))) = hp' ∧ OM rI (OT.fr (RT.key ads)) false false b'.w I aN aA) := by
 refine fE 48 Tryz.func48 rfl Tryz.ntmps48 rfl ?_
 unfold q1B at hm
 refine Cr<|aS rfl<|Te ?_
 obtain ⟨bq, a3, x⟩ := bS hm
 refine Cj (fun ar e' hp' => ∃ (au : (List (Int × (Option Int)))), ∃ y, [] = e' ∧ (ab, Cl 78 [sv ac T ad, sv ae U af, sv ag V ah, sv ai W aj, sv ak X al, sv am Y an, sv ao Z aq, sv A3 G c4, sv A8 H c9, .map (some I)]) :: (d ++ (e ++ (y ++ (c ++ R)))) = hp' ∧ b.Le ar ∧ OM rI (OT.fr (RT.key ads)) false false ar.w I au y ∧ bq = .inl au) ?_ ?_
 have hm := a3
 refine Cr<|mV rfl<|tS (sN rfl)<|tS (sF rfl q2U)<|tS (sL 0 rfl q8m rfl rfl)<|j1c d e aL<|tD (z2g [_] (d ++ (e ++ (c ++ R))) rfl bZ q5n rfl) ?_
 rintro _ _ ⟨C, z, rfl, rfl, br⟩
 refine Te<|Cb<|q1L z d e c<|q1L c z d e<|q1L e c z d<|q1L d e c z ?_
 obtain ⟨b0, a4, A⟩ := bS hm
 refine z6K (fun _ => fun av e' hp' => [(1, iv aa), (13, pb C)] = e' ∧ (ab, Cl 78 [sv ac T ad, sv ae U af, sv ag V ah, sv ai W aj, sv ak X al, sv am Y an, sv ao Z aq, sv A3 G c4, sv A8 H c9, .map (some I)]) :: (d ++ (e ++ (c ++ R))) = hp' ∧ b.Le av) a4 br (e' := [(1, iv aa), (13, pb C)]) ⟨rfl, rfl, trivial⟩ [_] (d ++ (e ++ (c ++ R))) rfl (.refl _) ⟨rfl, rfl, lr⟩ ?_
 rintro _ b1 av _ _ aB ⟨rfl, rfl, g⟩ bI aO hd2127 hall2128
 refine j0J [_] aB (d ++ (e ++ (c ++ R))) ?_ rfl
 refine Cr<|z5t [_] (d ++ (e ++ (c ++ R))) rfl rfl rfl aO (fun hnil2130 => ?_) (fun J b2 b3 b4 a hperm2136 a5 aP => ?_)
 obtain ⟨aC, aI, bs⟩ := MIt.done aO
 refine z1f [_] aB aC (d ++ (e ++ (c ++ R))) rfl aI ?_
 have hend2142 := hd2127 hnil2130
 refine tS (v6 rfl rfl)<|Te<|Cs<|v8 rfl<|Ce<|Xe<|Xe<|Xo ?_
 rw [hend2142] at A
 have hm := G6 A
 have hq := (Kd hm).symm
 exact jJ ⟨bo, aC, rfl, rfl, g, bs, hq⟩
 obtain ⟨b5, D, aJ⟩ := hall2128 _ _ hperm2136
 have s := D
 unfold H2 at s
 have hm := s
 refine tS (v6 rfl rfl)<|Te<|Cs<|w6 rfl<|Ck<|Xn<|Cb<|Cr ?_
 obtain ⟨aQ, aR, K, L, a6⟩ := MIx.entry Tryz.prog a5
 obtain rfl : aQ = iv J.1 := by have K : [aQ] = [iv J.1] := K; injection K
 obtain rfl : aR = kv ads J.2 := by have L : [aR] = [kv ads J.2] := L; injection L
 refine tS (a6 (.cons _ (Kb _ _)) rfl)<|tS (v6 rfl rfl)<|aS rfl<|Te<|Cr<|mV rfl ?_
 obtain ⟨E, aw, hm⟩ := bS hm
 obtain ⟨F, bt, hm⟩ := bS hm
 refine Tr 6 rfl (v' := .pointer (some ⟨(ads E), 0, none⟩)) (by rw [aw]; rfl)<|Tr 17 rfl (v' := .pointer (some ⟨(ads E), 0, none⟩)) (by rw [aw]; rfl)<|Tr 18 rfl (v' := .pointer (some ⟨(ads E), 0, none⟩)) (by rw [aw]; rfl) ?_
 obtain ⟨bK, bL, i, aD, a7, hf2160⟩ := OAr.take (bp.le g) bt
 obtain ⟨aT, aU, b6, b7, b8, b9, k, ca, cb, l, rfl, aV, cc, cd, ce, rfl⟩ := a7
 refine q1n a d e c<|q4x [_] c i k l (a ++ (d ++ (e ++ R))) rfl aD<|tS (sN rfl)<|tS (sF rfl q6S)<|tS (sF rfl q1I)<|tS (sL 0 rfl q4u rfl rfl)<|tS (sE rfl q8T)<|mV rfl<|Te<|Cb<|z1H k l i<|z1H i k l<|z1H l i k<|z8v [_] c i k l (a ++ (d ++ (e ++ R))) rfl aD ?_
 have bM : F.Route.Steps.length ≤ 9223372036854775807 := (FZ.bd aV)
 refine q1L c a d e<|q1L e c a d<|q1L d e c a ?_
 obtain ⟨cf, a8, B⟩ := bS hm
 refine lF (fun ax => fun _ => fun O e' hp' => [(1, iv aa), (6, kv ads (some E)), (13, pb C), (22, sv aT F.Route.Steps aU), (23, iv ((F.Route.Steps.length : Int))), (24, iv ((ax : Int)))] = e' ∧ (ab, Cl 78 [sv ac T ad, sv ae U af, sv ag V ah, sv ai W aj, sv ak X al, sv am Y an, sv ao Z aq, sv A3 G c4, sv A8 H c9, .map (some I)]) :: (a ++ (d ++ (e ++ (c ++ R)))) = hp' ∧ av.Le O) a8 ⟨rfl, rfl, lr⟩ ?_ ?_
 rintro ax _ O _ _ bN bG ⟨rfl, rfl, f⟩ t ay
 unfold q1p at t
 have hm := t
 refine Cr<|tS (lT rfl rfl (by omega))<|Te<|Cs<|w6 rfl<|Ck<|Xn<|Cs<|Cb<|Cr<|mV rfl ?_
 obtain ⟨az, bu, bO, a9, bP, ba, aW, aE, aX, hm⟩ := bF (sz := 3) hm (aV.le f)
 obtain ⟨_, _, rfl, rfl, ⟨_, _, rfl, rfl, rfl⟩⟩ := ba
 refine tS (sI bu rfl rfl a9 aX aE q8T)<|tS (sP (vs := [iv az.Section, iv az.In, iv az.Out]) 3 rfl q8Q aE rfl (fun j u hu => aW j u hu))<|tD (uA [iv 0, iv 0, iv 0] q7h rfl) ?_
 rintro _ _ ⟨cg, rfl, rfl⟩
 refine aS rfl<|tD (uN (vs := [_, _, _]) 0 3 rfl rfl rfl z0p rfl (mc rfl (mc rfl (mc rfl mn))) rfl (by simp)) ?_
 rintro _ _ rfl
 refine Te ?_
 obtain ⟨bw, bb, bc⟩ := bS hm
 refine Cj (fun aY e' hp' => [(1, iv aa), (6, kv ads (some E)), (13, pb C), (22, sv aT F.Route.Steps aU), (23, iv ((F.Route.Steps.length : Int))), (24, iv ((ax : Int))), (42, bv bw)] = e' ∧ (ab, Cl 78 [sv ac T ad, sv ae U af, sv ag V ah, sv ai W aj, sv ak X al, sv am Y an, sv ao Z aq, sv A3 G c4, sv A8 H c9, .map (some I)]) :: (a ++ (d ++ (e ++ (c ++ R)))) = hp' ∧ O.Le aY) ?_ ?_
 have hm := bb
 refine Cg<|tS (sF rfl Y6)<|tS (sL 0 rfl Q3 rfl rfl)<|mV rfl<|Tb rfl (q1 rfl rfl) (fun S => ?_) (fun S => ?_)
 rw [if_pos S] at hm
 refine mV rfl<|yS<|mV rfl<|yS ?_
 obtain ⟨ch, bx, hm⟩ := bS hm
 obtain ⟨bQ, bR, m, aF, bd, hf2361⟩ := OAr.take (bp.le (g.trans f)) bx
 obtain ⟨ci, cj, ck, cl, cm, cn, h, co, cp, n, rfl, cq, cr, cs, bz, rfl⟩ := bd
 refine q8X a d e c<|q4x [_, _] c m h n (a ++ (d ++ (e ++ R))) rfl aF<|tS (sN rfl)<|yS<|tS (sF rfl z0F)<|yS<|tS (sL 0 rfl q5W rfl rfl)<|yS<|mV rfl<|yS ?_
 obtain ⟨ct, bA, hm⟩ := bS hm
 obtain ⟨bB, be, bf⟩ := iS bA
 obtain ⟨bT, bU, cu, cv, bV, bg, aZ, bh, a0, bW, bJ⟩ := OS.get (sz := 1) rfl (by decide) bz bf
 obtain ⟨rfl, rfl⟩ := bg
 refine tS (sI bB rfl rfl be a0 bh z1c)<|yS<|tS (k9 rfl q7k (fun w ho => aZ w _ ho (.cons _ (.cons _ (.cons _ (ss h (Kb _ _))))) 0 _ rfl))<|yS<|tS (sn2 rfl)<|tS (pT rfl rfl)<|Tn<|q1u h n m<|q1u m h n<|q1u n m h<|q4v [_, _] c m h n (a ++ (d ++ (e ++ R))) rfl aF ?_
 obtain rfl := o1 hm
 exact jJ ⟨rfl, rfl, lr⟩
 rw [if_neg S] at hm
 refine mV rfl<|nO<|nO<|nO<|nO<|nO<|nO<|nO<|nO<|tS (pF rfl rfl)<|Tn ?_
 obtain rfl := o1 hm
 exact jJ ⟨rfl, rfl, lr⟩
 rintro aY _ _ ⟨rfl, rfl, o⟩
 have hm := bc
 refine cB hm rfl (fun hm => ?_) fun hm => ?_
 refine Cr<|mV rfl ?_
 obtain ⟨cw, bC, hm⟩ := bS hm
 have zz := g.trans (f.trans o)
 obtain ⟨bX, bY, p, aG, bi, hf2400⟩ := OAr.take (bp.le zz) bC
 obtain ⟨cx, cy, cz, cA, cC, cD, q, cE, cG, r, rfl, cH, cJ, cK, cO, rfl⟩ := bi
 refine q1n a d e c<|q4x [_] c p q r (a ++ (d ++ (e ++ R))) rfl aG<|tS (sN rfl)<|tS (sF rfl z2K)<|tS (sL 0 rfl Q3 rfl rfl)<|aS rfl<|Te<|Ct<|Xb<|Xr<|Xr<|Xb<|Xb<|Xr<|Xb<|Xr ?_
 have bj := ay _ (Kd hm).symm
 rw [bj] at B
 have hm := V6 B
 have bk := aJ _ (Kd hm).symm
 rw [bk] at A
 have hm := V6 A
 have bl := (Kd hm).symm
 rw [bl] at x
 have hm := V6 x
 refine q1c q r p<|q1c p q r<|q1c r p q<|q4v [_] c p q r (a ++ (d ++ (e ++ R))) rfl aG<|j2X c a ?_
 obtain ⟨aH, aK, bD⟩ := MIt.done (aP.le (f.trans o))
 refine z8F [_] a aH (c ++ (d ++ (e ++ R))) rfl aK ?_
 obtain ⟨rfl, rfl⟩ := W4 hm
 exact rO ⟨aH, rfl, rfl, bD⟩ zz
 refine Ck<|Xm<|Xn<|Cg<|tS (sa rfl rfl (by omega))<|mV rfl<|Tn ?_
 exact jM hm ⟨rfl, rfl, ((f.trans o))⟩
 rintro _ O _ _ ⟨rfl, rfl, f⟩ bm
 rw [bm] at B
 have hm := G6 B
 refine Cr<|tS (lF rfl rfl (by omega))<|Te<|Cs<|v8 rfl<|Ce<|Xe<|Xe<|Xo<|Xm<|z5k a d e c<|z5k c a d e<|z5k e c a d<|z5k d e c a ?_
 have a1 := g.trans f
 exact z3d (s' := ()) [_] (d ++ (e ++ (c ++ R))) rfl hperm2136 (D.trans (Kd hm ▸ rfl)) a1 (aP.le f) (e' := [(1, iv aa), (13, pb C)]) ⟨rfl, rfl, trivial⟩ (.refl _) ⟨rfl, rfl, ((g.trans f))⟩
 rintro ar _ _ ⟨au, y, rfl, rfl, a2, bE, bn⟩
 rw [bn] at x
 have hm := G6 x
 refine Cr<|aS rfl<|Te<|Ct ?_
 obtain ⟨rfl, rfl⟩ := W4 hm
 exact rO ⟨y, rfl, rfl, bE⟩ a2
theorem q7n (b : v7) (R : Hp) (z A B C o D E q ag aM aA) (ads : Int → Nat) (ah H I J K L O S T F G U V W X A3 c4 f A8 c9 ad r s c) (a1 : FZ RT.str b.w H I z) (a2 : FZ j5 b.w J K A) (a3 : FZ w9 b.w L O B) (a4 : FZ j6 b.w S T C) (aB : FZ k7 b.w F G o) (a5 : FZ Z9 b.w U V D) (a6 : FZ (RT.list j4) b.w W X E) (h5 : OS 80 (OT.fr Q5) b.w (sv A3 q c4) q f) (a7 : OS 94 (OT.fr Q4) b.w (sv A8 ag c9) ag ad) (a8 : OM rI (OT.fr (RT.key ads)) false false b.w r aM s) (a9 : OAr 90 j9 ads b.w aA c) (aa ax) (hm : q0y z A B C o D E q ag aM aA = some (aa, ax)):
 w5 Tryz.prog 36 [pb ah] b ((ah, Cl 78 [sv H z I, sv J A K, sv L B O, sv S C T, sv F o G, sv U D V, sv W E X, sv A3 q c4, sv A8 ag c9, .map (some r)]) :: (f ++ (ad ++ (s ++ (c ++ R))))) (fun v b' hp' => ∃ ai aj, .tuple #[] = v ∧ (ah, Cl 78 [sv H z I, sv J A K, sv L B O, sv S C T, sv F o G, sv U D V, sv W E X, sv A3 q c4, sv A8 aa c9, .map (some r)]) :: (f ++ (ai ++ (aj ++ (c ++ R)))) = hp' ∧ OS 94 (OT.fr Q4) b'.w (sv A8 aa c9) aa ai ∧ aa.length = ag.length ∧ OM rI (OT.fr (RT.key ads)) false false b'.w r ax aj) := by
 refine fE 46 Tryz.func36 rfl Tryz.ntmps36 rfl ?_
 unfold q0y at hm
 refine Cr<|mV rfl<|tS (sN rfl)<|tS (sF rfl j0o)<|tS (sF rfl q6U)<|tS (sL 0 rfl z4J rfl rfl)<|tS (sE rfl z7F)<|mV rfl<|Te<|Cb ?_
 have ba : o.length ≤ 9223372036854775807 := (FZ.bd aB)
 refine q1L f ad s c<|q1L c f ad s<|q1L s c f ad<|q1L ad s c f ?_
 obtain ⟨⟨m, af⟩, aC, aD⟩ := bS hm
 refine lS (fun t => F7 fun m af => fun ab e' hp' => ∃ d g, [(0, pb ah), (10, sv F o G), (11, iv ((o.length : Int))), (12, iv ((t : Int)))] = e' ∧ (ah, Cl 78 [sv H z I, sv J A K, sv L B O, sv S C T, sv F o G, sv U D V, sv W E X, sv A3 q c4, sv A8 m c9, .map (some r)]) :: (f ++ (d ++ (g ++ (c ++ R)))) = hp' ∧ b.Le ab ∧ OS 94 (OT.fr Q4) ab.w (sv A8 m c9) m d ∧ m.length = ag.length ∧ OM rI (OT.fr (RT.key ads)) false false ab.w r af g) aC ⟨ad, s, rfl, rfl, lr, a7, rfl, a8⟩ ?_ ?_
 rintro t ⟨m, af⟩ ab _ _ bb aN ⟨d, g, rfl, rfl, a, x, n, ak⟩ y
 unfold q0S at y
 have hm := V8 y
 refine Cr<|tS (lT rfl rfl (by omega))<|Te<|Cs<|w6 rfl<|Ck<|Xn<|Cs<|Cb<|Cr<|mV rfl ?_
 obtain ⟨p, aO, bc, aE, bd, aF, aq, al, ar, hm⟩ := bF (sz := 2) hm (aB.le a)
 obtain ⟨_, _, rfl, rfl, rfl⟩ := aF
 refine tS (sI aO rfl rfl aE ar al z7F)<|tS (sP (vs := [iv p.Section, iv p.Close]) 2 rfl z9l al rfl (fun j u hu => aq j u hu))<|tD (uA [iv 0, iv 0] z5j rfl) ?_
 rintro _ _ ⟨bn, rfl, rfl⟩
 refine aS rfl<|tD (uN (vs := [_, _]) 0 2 rfl rfl rfl z8L rfl (mc rfl (mc rfl mn)) rfl (by simp)) ?_
 rintro _ _ rfl
 refine Te<|Cr<|mV rfl<|tS (sN rfl)<|tS (sF rfl z2M)<|tS (sL 1 rfl z9Y rfl rfl)<|mV rfl ?_
 obtain ⟨e, aP, hm⟩ := bS hm
 obtain ⟨ay, Y, Z⟩ := iS aP
 obtain ⟨be, bf, bo, bp, bg, aG, au, k, av, bh, aX⟩ := OS.get (sz := 3) rfl (by decide) x Z
 obtain ⟨⟨_, _, rfl, rfl, ⟨_, _, rfl, rfl, rfl⟩⟩, rfl⟩ := aG
 refine tS (sI ay rfl rfl Y av k z3r)<|aS rfl<|Te<|Cr<|mV rfl<|tS (sF rfl q6j)<|tS (sL 0 rfl Q3 rfl rfl) ?_
 obtain ⟨⟨i, aQ⟩, aw, hm⟩ := bS hm
 have hm := V8 hm
 refine H0 1 rfl<|q8X f d g c<|q8X c f d g<|q8X g c f d<|q8X d g c f<|q2M [_] [_] f d g c R rfl<|Tg _ rfl j2r rfl (z0Q _ _ p.Section z A B C o D E q m af aA ads ah H I J K L O S T F G U V W X A3 c4 f A8 c9 d r g c (a1.le a) (a2.le a) (a3.le a) (a4.le a) (aB.le a) (a5.le a) (a6.le a) (h5.le a) x ak (a9.le a) i aQ aw) ?_
 rintro _ bq _ l ⟨h, rfl, rfl, am⟩
 refine q8Z [_] [_] f d h c R rfl<|tS (q6 rfl rfl)<|aS rfl<|Te<|Cs<|Cr<|Tb rfl (sM rfl) (fun ae => ?_) (fun ae => ?_)
 rw [if_pos ae] at hm
 refine mV rfl<|yS<|mV rfl<|yS<|tS (J2 rfl k)<|yS<|tS (sQ rfl k q8v)<|yS<|tS (k9 rfl q7k (fun w ho => au w _ (l.back _ _ ho) (.cons _ (.cons _ (ss f (Kb _ _)))) 1 _ rfl))<|yS<|tS (sn2 rfl)<|tS (pT rfl rfl)<|Te<|cM hm rfl (fun hm => ?_) fun hm => ?_
 refine Cg<|mV rfl<|tS (sF rfl z3N)<|tS (sL 1 rfl Q3 rfl rfl)<|tS (J2 rfl k)<|tS (sQ rfl k z0C)<|q8Y f d<|tD (uP Y (sz := 3) (a' := (⟨p.Close, e.wanted, e.failed⟩ : z6)) rfl [_, _] (f ++ (h ++ (c ++ R))) 0 1 [iv p.Close] rfl (x.le l) Z rfl rfl rfl z7l rfl (mc rfl mn) (fun cs hsj hh => by obtain ⟨⟨_, _, rfl, rfl, ⟨_, _, rfl, rfl, rfl⟩⟩, rfl⟩ := hh; exact ⟨by first | decide | exact Nat.le_refl _, ⟨[iv p.Close], _, rfl, rfl, ⟨[bv e.wanted], _, rfl, rfl, rfl⟩⟩, rfl⟩)) ?_
 rintro _ _ ⟨bi, rfl, az⟩
 refine P9 0 rfl (o' := Cl 78 [sv H z I, sv J A K, sv L B O, sv S C T, sv F o G, sv U D V, sv W E X, sv A3 q c4, .slice A8 (put m (t : Int) (⟨p.Close, e.wanted, e.failed⟩ : z6)).length c9, .map (some r)]) (by simp only [sv, w8])<|Te<|Cg ?_
 obtain ⟨ac, aR, hm⟩ := bS hm
 obtain ⟨aT, aH, an⟩ := iS aR
 obtain rfl : ay = aT := by omega
 obtain ⟨bj, bk, br, bs, bl, aI, aY, ao, aZ, bm, a0⟩ := OS.get (sz := 3) rfl (by decide) az an
 obtain ⟨⟨_, _, rfl, rfl, ⟨_, _, rfl, rfl, rfl⟩⟩, rfl⟩ := aI
 refine mV rfl<|mV rfl<|tS (J2 rfl ao)<|tS (sQ rfl ao q8v)<|tD (uP aH (sz := 3) (a' := (⟨ac.left, decide (0 ≤ i), ac.failed⟩ : z6)) rfl [_, _] (f ++ (h ++ (c ++ R))) 1 1 [.bool (decide (0 ≤ i))] rfl az an rfl rfl rfl z5y rfl (mc rfl mn) (fun cs hsj hh => by obtain ⟨⟨_, _, rfl, rfl, ⟨_, _, rfl, rfl, rfl⟩⟩, rfl⟩ := hh; exact ⟨by first | decide | exact Nat.le_refl _, ⟨[iv ac.left], _, rfl, rfl, ⟨[.bool (decide (0 ≤ i))], _, rfl, rfl, rfl⟩⟩, rfl⟩)) ?_
 rintro _ _ ⟨aJ, rfl, aU⟩
 refine P9 0 rfl (o' := Cl 78 [sv H z I, sv J A K, sv L B O, sv S C T, sv F o G, sv U D V, sv W E X, sv A3 q c4, .slice A8 (put (put m (t : Int) (⟨p.Close, e.wanted, e.failed⟩ : z6)) (t : Int) (⟨ac.left, decide (0 ≤ i), ac.failed⟩ : z6)).length c9, .map (some r)]) (by simp only [sv, w8])<|Tn<|Xm<|Xn<|Cg<|tS (sa rfl rfl (by omega))<|mV rfl<|Tn ?_
 obtain rfl := o1 hm
 exact jS ⟨aJ, h, rfl, rfl, ((a.trans l)), aU, ((w8 _ _ _).trans ((w8 _ _ _).trans n)), am⟩
 refine Ck<|Xn<|Cg<|mV rfl<|mV rfl<|tS (J2 rfl k)<|tS (sQ rfl k q8v)<|q8Y f d<|tD (uP Y (sz := 3) (a' := (⟨e.left, decide (0 ≤ i), e.failed⟩ : z6)) rfl [_, _] (f ++ (h ++ (c ++ R))) 1 1 [.bool (decide (0 ≤ i))] rfl (x.le l) Z rfl rfl rfl z5y rfl (mc rfl mn) (fun cs hsj hh => by obtain ⟨⟨_, _, rfl, rfl, ⟨_, _, rfl, rfl, rfl⟩⟩, rfl⟩ := hh; exact ⟨by first | decide | exact Nat.le_refl _, ⟨[iv e.left], _, rfl, rfl, ⟨[.bool (decide (0 ≤ i))], _, rfl, rfl, rfl⟩⟩, rfl⟩)) ?_
 rintro _ _ ⟨aK, rfl, aV⟩
 refine P9 0 rfl (o' := Cl 78 [sv H z I, sv J A K, sv L B O, sv S C T, sv F o G, sv U D V, sv W E X, sv A3 q c4, .slice A8 (put m (t : Int) (⟨e.left, decide (0 ≤ i), e.failed⟩ : z6)).length c9, .map (some r)]) (by simp only [sv, w8])<|Tn<|Xm<|Xn<|Cg<|tS (sa rfl rfl (by omega))<|mV rfl<|Tn ?_
 obtain rfl := o1 hm
 exact jS ⟨aK, h, rfl, rfl, ((a.trans l)), aV, ((w8 _ _ _).trans n), am⟩
 rw [if_neg ae] at hm
 refine mV rfl<|nO<|nO<|nO<|nO<|nO<|tS (pF rfl rfl)<|Te<|v8 rfl<|Ck ?_
 refine Xn<|Cg<|mV rfl<|mV rfl<|tS (J2 rfl k)<|tS (sQ rfl k q8v)<|q8Y f d<|tD (uP Y (sz := 3) (a' := (⟨e.left, decide (0 ≤ i), e.failed⟩ : z6)) rfl [_, _] (f ++ (h ++ (c ++ R))) 1 1 [.bool (decide (0 ≤ i))] rfl (x.le l) Z rfl rfl rfl z5y rfl (mc rfl mn) (fun cs hsj hh => by obtain ⟨⟨_, _, rfl, rfl, ⟨_, _, rfl, rfl, rfl⟩⟩, rfl⟩ := hh; exact ⟨by first | decide | exact Nat.le_refl _, ⟨[iv e.left], _, rfl, rfl, ⟨[.bool (decide (0 ≤ i))], _, rfl, rfl, rfl⟩⟩, rfl⟩)) ?_
 rintro _ _ ⟨aL, rfl, aW⟩
 refine P9 0 rfl (o' := Cl 78 [sv H z I, sv J A K, sv L B O, sv S C T, sv F o G, sv U D V, sv W E X, sv A3 q c4, .slice A8 (put m (t : Int) (⟨e.left, decide (0 ≤ i), e.failed⟩ : z6)).length c9, .map (some r)]) (by simp only [sv, w8])<|Tn<|Xm<|Xn<|Cg<|tS (sa rfl rfl (by omega))<|mV rfl<|Tn ?_
 obtain rfl := o1 hm
 exact jS ⟨aL, h, rfl, rfl, ((a.trans l)), aW, ((w8 _ _ _).trans n), am⟩
 rintro ab _ _ ⟨d, g, rfl, rfl, a, x, n, ak⟩
 have hm := V8 aD
 refine Cr<|tS (lF rfl rfl (by omega))<|Te<|Cs<|v8 rfl<|Ce<|Xe<|Xe<|Xo ?_
 obtain ⟨rfl, rfl⟩ := W4 hm
 exact eZ ⟨d, g, rfl, rfl, x, n, ak⟩ a
theorem q7o (b : v7) (R : Hp) (I H an ao aq ar au av aw aR ax d7 d8) (ads : Int → Nat) (W ay az aA aB aC aD aE aF aG aH aI aJ aK aL A3 c4 n A8 c9 i ak Z s) (fH : FZ RT.str b.w ay az an) (fI : FZ j5 b.w aA aB ao) (fJ : FZ w9 b.w aC aD aq) (fK : FZ j6 b.w aE aF ar) (fL : FZ k7 b.w aG aH au) (d9 : FZ Z9 b.w aI aJ av) (ea : FZ (RT.list j4) b.w aK aL aw) (h5 : OS 80 (OT.fr Q5) b.w (sv A3 aR c4) aR n) (bU : OS 94 (OT.fr Q4) b.w (sv A8 ax c9) ax i) (cU : OM rI (OT.fr (RT.key ads)) false false b.w ak d7 Z) (bV : OAr 90 j9 ads b.w d8 s) (cV bD bE cW cX) (hm : G8 I H an ao aq ar au av aw aR ax d7 d8 = some (cV, bD, bE, cW, cX)):
 w5 Tryz.prog 9 [pb W, iv I, bv H] b ((W, Cl 78 [sv ay an az, sv aA ao aB, sv aC aq aD, sv aE ar aF, sv aG au aH, sv aI av aJ, sv aK aw aL, sv A3 aR c4, sv A8 ax c9, .map (some ak)]) :: (n ++ (i ++ (Z ++ (s ++ R))))) (fun v b' hp' => ∃ (ads : Int → Nat), ∃ co cp cq cr, iv cV = v ∧ (W, Cl 78 [sv ay an az, sv aA ao aB, sv aC aq aD, sv aE ar aF, sv aG au aH, sv aI av aJ, sv aK aw aL, sv A3 bD c4, sv A8 bE c9, .map (some ak)]) :: (co ++ (cp ++ (cq ++ (cr ++ R)))) = hp' ∧ OS 80 (OT.fr Q5) b'.w (sv A3 bD c4) bD co ∧ bD.length = aR.length ∧ OS 94 (OT.fr Q4) b'.w (sv A8 bE c9) bE cp ∧ bE.length = ax.length ∧ OM rI (OT.fr (RT.key ads)) false false b'.w ak cW cq ∧ OAr 90 j9 ads b'.w cX cr) := by
 refine fE 228 Tryz.func9 rfl Tryz.ntmps9 rfl ?_
 unfold G8 at hm
 refine Cr<|aS rfl<|Te<|Cs<|Cb<|Cr<|mV rfl<|mV rfl ?_
 obtain ⟨fM, cY, hm⟩ := bS hm
 refine q1n n i Z s<|q1n s n i Z<|q1n Z s n i<|q1n i Z s n<|q2M [_] [] n i Z s R rfl<|Tg _ rfl z9h rfl (q4q _ _ I an ao aq ar au av aw aR ax d7 d8 ads W ay az aA aB aC aD aE aF aG aH aI aJ aK aL A3 c4 n A8 c9 i ak Z s fH fI fJ fK fL d9 ea h5 bU cU bV fM cY) ?_
 rintro _ hJ _ d ⟨rfl, rfl⟩
 refine q8Z [_] [] n i Z s R rfl<|tS (sn2 rfl)<|aS rfl<|Te<|cM hm rfl (fun hm => ?_) fun hm => ?_
 refine Cr<|aS rfl<|Te<|Ct<|Xb<|Xr ?_
 obtain ⟨rfl, rfl, rfl, rfl, rfl⟩ := q5R hm
 have eb := h5.le d
 have ec := bU.le d
 have ed := cU.le d
 have ee := bV.le d
 exact rO ⟨ads, n, i, Z, s, rfl, rfl, eb, rfl, ec, rfl, ed, ee⟩ d
 refine Cr<|mV rfl<|tS (sN rfl)<|tS (sF rfl q2U)<|tS (sL 0 rfl q8m rfl rfl)<|mV rfl ?_
 obtain ⟨cZ, fN, hm⟩ := bS hm
 have ef := Kd fN
 obtain ⟨c0, bt, eg⟩ := OM.lookF j0g (z0 := none) (cU.le d) (key := iv I) (k := I) rfl q5n z5i rfl
 rw [ef] at bt
 obtain rfl : c0 = kv ads cZ := by have bt : [c0] = [kv ads cZ] := bt; injection bt
 refine tS (q5d (ok := false) rfl rfl (fun w ho => eg _ w ho (.cons _ (ss n (ss i (Kb _ _)))) false))<|tS (z3j rfl rfl j1r)<|aS rfl<|Te<|cM hm rfl (fun hm => ?_) fun hm => ?_
 refine Cr<|aS rfl<|Te<|Ct<|Xb<|Xr ?_
 obtain ⟨rfl, rfl, rfl, rfl, rfl⟩ := q5R hm
 have eh := h5.le d
 have ei := bU.le d
 have ej := cU.le d
 have ek := bV.le d
 exact rO ⟨ads, n, i, Z, s, rfl, rfl, eh, rfl, ei, rfl, ej, ek⟩ d
 refine Ck<|Xm<|Xn<|Cr<|mV rfl<|tS (sN rfl)<|tS (sF rfl z2N)<|tS (sL 0 rfl j1u rfl rfl)<|mV rfl ?_
 obtain ⟨fO, fP, gS, el, gT, em, c1, en, c2, hm⟩ := bF (sz := 1) hm (ea.le d)
 obtain ⟨fQ, fR, rfl, fS⟩ := em
 refine tS (sI fP rfl rfl el c2 en z5d)<|tS (sO rfl q5j (c1 0 _ rfl)) ?_
 obtain ⟨c3, c5, hm⟩ := bS hm
 refine Tg _ rfl j2w rfl (q9k _ _ fO fQ fR fS c3 c5) ?_
 rintro _ fT _ e ⟨c6, c7, bu, rfl, rfl, c8⟩
 refine q2z [] [_] bu (n ++ (i ++ (Z ++ (s ++ R)))) rfl<|aS rfl<|Te ?_
 obtain ⟨p, eo, ep⟩ := bS hm
 refine Cj (fun ca e' hp' => ∃ t y a, [(0, pb W), (1, iv I), (2, bv H), (7, sv t p y)] = e' ∧ (W, Cl 78 [sv ay an az, sv aA ao aB, sv aC aq aD, sv aE ar aF, sv aG au aH, sv aI av aJ, sv aK aw aL, sv A3 aR c4, sv A8 ax c9, .map (some ak)]) :: (a ++ (n ++ (i ++ (Z ++ (s ++ R))))) = hp' ∧ fT.Le ca ∧ OS 55 (OT.fr j4) ca.w (sv t p y) p a) ?_ ?_
 have hm := eo
 refine Cr<|mV rfl<|Te<|cB hm rfl (fun hm => ?_) fun hm => ?_
 refine Cg<|mV rfl ?_
 obtain ⟨fU, da, hm⟩ := bS hm
 refine q4m [] [_] bu (n ++ (i ++ (Z ++ (s ++ R)))) rfl<|Tg _ rfl j2v rfl (q6Y _ _ c3 c6 c7 bu c8 fU da) ?_
 rintro _ hK _ db ⟨fV, fW, ct, rfl, rfl, fX⟩
 refine q2z [] [_] ct (n ++ (i ++ (Z ++ (s ++ R)))) rfl<|aS rfl<|Tn ?_
 obtain rfl := o1 hm
 exact jJ ⟨fV, fW, ct, rfl, rfl, db, fX⟩
 refine Ck ?_
 obtain rfl := o1 hm
 exact jJ ⟨c6, c7, bu, rfl, rfl, lr, c8⟩
 rintro ca _ _ ⟨t, y, a, rfl, rfl, f, aV⟩
 have hm := ep
 refine Cs<|Cr<|mV rfl<|mV rfl<|mV rfl ?_
 obtain ⟨⟨fY, fZ⟩, dc, hm⟩ := bS hm
 have hm := V8 hm
 have zz := d.trans (e.trans f)
 refine q0X a n i Z s<|q0X s a n i Z<|q0X Z s a n i<|q0X i Z s a n<|q0X n i Z s a<|j1f [_] [] a n i Z s R rfl<|Tg _ rfl j2u rfl (q8I _ _ I an ao aq ar au av aw p aR ax d7 d8 ads W ay az aA aB aC aD aE aF aG aH aI aJ aK aL t y a A3 c4 n A8 c9 i ak Z s (fH.le zz) (fI.le zz) (fJ.le zz) (fK.le zz) (fL.le zz) (d9.le zz) (ea.le zz) aV (h5.le zz) (bU.le zz) (cU.le zz) (bV.le zz) fY fZ dc) ?_
 rintro _ f0 _ m ⟨A, rfl, rfl, bG⟩
 refine z2k [_] [] a n i A s R rfl<|Te<|cB hm rfl (fun hm => ?_) fun hm => ?_
 refine Cr<|aS rfl<|Te<|Ct<|Xr ?_
 obtain ⟨rfl, rfl, rfl, rfl, rfl⟩ := q5R hm
 have zy := d.trans (e.trans (f.trans m))
 have eq := h5.le zy
 have er := bU.le zy
 have es := bV.le zy
 exact rO ⟨ads, n, i, A, s, rfl, rfl, eq, rfl, er, rfl, bG, es⟩ zy
 refine Ck<|Xn<|Cs<|Cr<|mV rfl<|tS (sE rfl q3C)<|mV rfl<|Te<|Cb ?_
 have gU : p.length ≤ 9223372036854775807 := (OS.len aV)
 refine H5 a n i A s<|H5 s a n i A<|H5 A s a n i<|H5 i A s a n<|H5 n i A s a ?_
 obtain ⟨hL, et, bw⟩ := bS hm
 refine lF (fun cb => fun _ => fun bH e' hp' => [(0, pb W), (1, iv I), (2, bv H), (7, sv t p y), (49, sv t p y), (50, iv ((p.length : Int))), (51, iv ((cb : Int)))] = e' ∧ (W, Cl 78 [sv ay an az, sv aA ao aB, sv aC aq aD, sv aE ar aF, sv aG au aH, sv aI av aJ, sv aK aw aL, sv A3 aR c4, sv A8 ax c9, .map (some ak)]) :: (a ++ (n ++ (i ++ (A ++ (s ++ R))))) = hp' ∧ f0.Le bH) et ⟨rfl, rfl, lr⟩ ?_ ?_
 rintro cb _ bH _ _ gV gE ⟨rfl, rfl, g⟩ bo cc
 unfold q0n at bo
 have hm := bo
 refine Cr<|tS (lT rfl rfl (by omega))<|Te<|Cs<|w6 rfl<|Ck<|Xn<|Cs<|Cb<|Cr ?_
 obtain ⟨bI, f1, hm⟩ := bS hm
 obtain ⟨f2, eu, ev⟩ := iS f1
 obtain ⟨gW, gX, hM, hN, gY, ew, dd, cu, de, gZ, gJ⟩ := OS.get (sz := 4) rfl (by decide) (aV.le (m.trans g)) ev
 obtain ⟨⟨_, _, rfl, rfl, ⟨_, _, rfl, rfl, ⟨_, _, rfl, rfl, rfl⟩⟩⟩, rfl⟩ := ew
 refine tS (sI f2 rfl rfl eu de cu q3C)<|tS (Z6 (vs := [iv bI.Kind, iv bI.Place, iv bI.Position, iv bI.At]) 4 rfl K8 cu rfl (fun w ho j u hu => dd w _ ho (.cons _ (Kb _ _)) j u hu))<|tD (uA [iv 0, iv 0, iv 0, iv 0] q5F rfl) ?_
 rintro _ _ ⟨hO, rfl, rfl⟩
 refine tD (uN (vs := [_, _, _, _]) 0 4 rfl rfl rfl q9b rfl (mc rfl (mc rfl (mc rfl (mc rfl mn)))) rfl (by simp)) ?_
 rintro _ _ rfl
 refine Te ?_
 obtain ⟨f3, ex, ey⟩ := bS hm
 refine Cj (fun df e' hp' => [(0, pb W), (1, iv I), (2, bv H), (7, sv t p y), (49, sv t p y), (50, iv ((p.length : Int))), (51, iv ((cb : Int))), (68, bv f3)] = e' ∧ (W, Cl 78 [sv ay an az, sv aA ao aB, sv aC aq aD, sv aE ar aF, sv aG au aH, sv aI av aJ, sv aK aw aL, sv A3 aR c4, sv A8 ax c9, .map (some ak)]) :: (a ++ (n ++ (i ++ (A ++ (s ++ R))))) = hp' ∧ bH.Le df) ?_ ?_
 have hm := ex
 by_cases bx : 0 < bI.Position
 rw [if_pos bx] at hm
 obtain ⟨hP, f4, hm⟩ := bS hm
 refine Di mixed (.refl _)<|E0 0 rfl (sF rfl q1H)<|Es 1 rfl (sL 0 rfl Q3 rfl rfl)<|E0 2 rfl (z3m rfl rfl bx)<|E0 3 rfl (sM rfl)<|Yz 4 58 rfl (sM rfl)<|Yz 5 58 rfl (sN rfl)<|Yz 6 58 rfl (sF rfl q2s)<|Ey 7 58 rfl (sL 1 rfl q7t rfl rfl)<|Yz 8 58 rfl (sF rfl q4L)<|Ey 9 58 rfl (sL 0 rfl Q3 rfl rfl) ?_
 obtain ⟨f5, ez, eA⟩ := iS f4
 obtain ⟨g0, g1, hQ, hR, g2, eB, dg, cv, dh, g3, gK⟩ := OS.get (sz := 5) rfl (by decide) (h5.le (d.trans (e.trans (f.trans (m.trans g))))) eA
 obtain ⟨⟨_, _, rfl, rfl, ⟨_, _, rfl, rfl, ⟨_, _, rfl, rfl, ⟨_, _, rfl, rfl, rfl⟩⟩⟩⟩, rfl⟩ := eB
 refine Yz 10 58 rfl (sI f5 rfl rfl ez dh cv q8j)<|Yz 11 58 rfl (sQ rfl cv z6m)<|Ey 12 58 rfl (k9 rfl q7k (fun w ho => dg w _ ho (.cons _ (.cons _ (ss a (Kb _ _)))) 4 _ rfl))<|E0 13 rfl (pT rfl rfl)<|Eo<|Dd (by kernel_rfl) ?_
 obtain rfl := o1 hm
 exact jJ ⟨rfl, rfl, lr⟩
 rw [if_neg bx] at hm
 refine Di mixed (.refl _)<|E0 0 rfl (sF rfl q1H)<|Es 1 rfl (sL 0 rfl Q3 rfl rfl)<|E0 2 rfl (z3n rfl rfl bx)<|E0 3 rfl (sM rfl)<|eN 4 rfl<|eN 5 rfl<|eN 6 rfl<|eN 7 rfl<|eN 8 rfl<|eN 9 rfl<|eN 10 rfl<|eN 11 rfl<|eN 12 rfl<|E0 13 rfl (pF rfl rfl)<|Eo<|Dd (by kernel_rfl) ?_
 obtain rfl := o1 hm
 exact jJ ⟨rfl, rfl, lr⟩
 rintro df _ _ ⟨rfl, rfl, aN⟩
 have hm := ey
 refine cB hm rfl (fun hm => ?_) fun hm => ?_
 refine Cr<|aS rfl<|Te<|Ct<|Xb<|Xr<|Xr<|Xb<|Xr ?_
 have eC := cc _ (Kd hm).symm
 rw [eC] at bw
 have hm := V6 bw
 obtain ⟨rfl, rfl, rfl, rfl, rfl⟩ := q5R hm
 have zx := d.trans (e.trans (f.trans (m.trans (g.trans aN))))
 have eD := h5.le zx
 have eE := bU.le zx
 have eG := (bG.le (g.trans aN))
 have eH := bV.le zx
 exact rO ⟨ads, n, i, A, s, rfl, rfl, eD, rfl, eE, rfl, eG, eH⟩ zx
 refine Ck<|Xm<|Xn<|Cg<|tS (sa rfl rfl (by omega))<|mV rfl<|Tn ?_
 exact jM hm ⟨rfl, rfl, ((g.trans aN))⟩
 rintro _ bH _ _ ⟨rfl, rfl, g⟩ eI
 rw [eI] at bw
 have hm := G6 bw
 refine Cr<|tS (lF rfl rfl (by omega))<|Te<|Cs<|v8 rfl<|Ce<|Xe<|Xe<|Xo<|Xn<|Cs<|Cr<|mV rfl<|tS (sE rfl q3C)<|mV rfl<|Te<|Cb ?_
 have g4 : p.length ≤ 9223372036854775807 := (OS.len aV)
 refine H5 a n i A s<|H5 s a n i A<|H5 A s a n i<|H5 i A s a n<|H5 n i A s a ?_
 obtain ⟨hS, eJ, bz⟩ := bS hm
 refine lF (fun bW => fun _ => fun bJ e' hp' => [(0, pb W), (1, iv I), (2, bv H), (7, sv t p y), (70, sv t p y), (71, iv ((p.length : Int))), (72, iv ((bW : Int)))] = e' ∧ (W, Cl 78 [sv ay an az, sv aA ao aB, sv aC aq aD, sv aE ar aF, sv aG au aH, sv aI av aJ, sv aK aw aL, sv A3 aR c4, sv A8 ax c9, .map (some ak)]) :: (a ++ (n ++ (i ++ (A ++ (s ++ R))))) = hp' ∧ bH.Le bJ) eJ ⟨rfl, rfl, lr⟩ ?_ ?_
 rintro bW _ bJ _ _ g5 gF ⟨rfl, rfl, o⟩ bp cd
 unfold q0m at bp
 have hm := bp
 refine Cr<|tS (lT rfl rfl (by omega))<|Te<|Cs<|w6 rfl<|Ck<|Xn<|Cs<|Cb<|Cr ?_
 obtain ⟨aW, f6, hm⟩ := bS hm
 obtain ⟨f7, eK, eL⟩ := iS f6
 obtain ⟨g6, g7, hT, hU, g8, eM, di, cw, dj, g9, gL⟩ := OS.get (sz := 4) rfl (by decide) (aV.le (m.trans (g.trans o))) eL
 obtain ⟨⟨_, _, rfl, rfl, ⟨_, _, rfl, rfl, ⟨_, _, rfl, rfl, rfl⟩⟩⟩, rfl⟩ := eM
 refine tS (sI f7 rfl rfl eK dj cw q3C)<|tS (Z6 (vs := [iv aW.Kind, iv aW.Place, iv aW.Position, iv aW.At]) 4 rfl K8 cw rfl (fun w ho j u hu => di w _ ho (.cons _ (Kb _ _)) j u hu))<|tD (uA [iv 0, iv 0, iv 0, iv 0] q5F rfl) ?_
 rintro _ _ ⟨dk, rfl, rfl⟩
 refine tD (uN (vs := [_, _, _, _]) 0 4 rfl rfl rfl q9b rfl (mc rfl (mc rfl (mc rfl (mc rfl mn)))) rfl (by simp)) ?_
 rintro _ _ rfl
 refine Te<|Cs<|Cr<|tS (sF rfl q1H)<|tS (sL 0 rfl Q3 rfl rfl)<|tS (q1 rfl rfl)<|Te<|cI hm rfl (fun hm => ?_) fun hm => ?_
 refine Ce<|Xe<|Xo<|Xn<|Cg<|tS (sa rfl rfl (by omega))<|mV rfl<|Tn ?_
 exact jM hm ⟨rfl, rfl, (o)⟩
 refine Ck<|Xn ?_
 obtain ⟨⟨dl, dm, dn, dp, dq⟩, eO, eP⟩ := bS hm
 refine Cj (fun ce e' hp' => ∃ cf, [(0, pb W), (1, iv I), (2, bv H), (7, sv t p y), (11, pb dk), (12, pb cf), (70, sv t p y), (71, iv ((p.length : Int))), (72, iv ((bW : Int)))] = e' ∧ (W, Cl 78 [sv ay an az, sv aA ao aB, sv aC aq aD, sv aE ar aF, sv aG au aH, sv aI av aJ, sv aK aw aL, sv A3 aR c4, sv A8 ax c9, .map (some ak)]) :: (dk, Cl 55 [iv aW.Kind, iv aW.Place, iv aW.Position, iv aW.At]) :: (cf, Cl 80 [iv dl, bv dm, iv dn, iv dp, bv dq]) :: (a ++ (n ++ (i ++ (A ++ (s ++ R))))) = hp' ∧ bJ.Le ce) ?_ ?_
 have hm := eO
 obtain ⟨bK, f8, hm⟩ := bS hm
 refine Di mixed (.refl _)<|E0 0 rfl (sM rfl)<|E0 1 rfl (sN rfl)<|E0 2 rfl (sF rfl q2s)<|Es 3 rfl (sL 1 rfl q7t rfl rfl)<|E0 4 rfl (sF rfl q4L)<|Es 5 rfl (sL 0 rfl Q3 rfl rfl) ?_
 obtain ⟨f9, eQ, eR⟩ := iS f8
 obtain ⟨ha, hb, hV, hW, hc, eS, dr, cx, ds, hd, gM⟩ := OS.get (sz := 5) rfl (by decide) (h5.le (d.trans (e.trans (f.trans (m.trans (g.trans o)))))) eR
 obtain ⟨⟨_, _, rfl, rfl, ⟨_, _, rfl, rfl, ⟨_, _, rfl, rfl, ⟨_, _, rfl, rfl, rfl⟩⟩⟩⟩, rfl⟩ := eS
 refine E0 6 rfl (sI f9 rfl rfl eQ ds cx q8j)<|Es 7 rfl (Z6 (vs := [iv bK.axles, bv bK.disturbed, iv bK.position, iv bK.moving, bv bK.failed]) 5 rfl z2Y cx rfl (fun w ho j u hu => dr w _ ho (.cons _ (.cons _ (ss a (Kb _ _)))) j u hu))<|Eo<|Da [8] (by kernel_rfl) rfl<|Rd2 lr rfl rfl (uA [iv 0, .bool false, iv 0, iv 0, .bool false] j0U rfl) ?_ ?_
 rintro _ _ ⟨ga, rfl, rfl⟩
 refine iR<|Da [9] (by kernel_rfl) rfl<|Rd2 lr rfl rfl (uN (vs := [_, _, _, _, _]) 0 5 rfl rfl rfl j3g rfl (mc rfl (mc rfl (mc rfl (mc rfl (mc rfl mn))))) rfl (by simp)) ?_ ?_
 rintro _ _ rfl
 refine ⟨.inl (by kernel_rfl), ?_⟩
 refine Dd (by kernel_rfl) ?_
 obtain ⟨rfl, rfl, rfl, rfl, rfl⟩ := q5R hm
 exact jJ ⟨ga, rfl, rfl, lr⟩
 exact Rn
 exact Rn
 rintro ce _ _ ⟨cf, rfl, rfl, aO⟩
 have hm := z4o eP
 obtain ⟨gb, eU, eV⟩ := bS hm
 refine Cj (fun dt e' hp' => [(0, pb W), (1, iv I), (2, bv H), (7, sv t p y), (70, sv t p y), (71, iv ((p.length : Int))), (72, iv ((bW : Int))), (112, bv gb)] = e' ∧ (W, Cl 78 [sv ay an az, sv aA ao aB, sv aC aq aD, sv aE ar aF, sv aG au aH, sv aI av aJ, sv aK aw aL, sv A3 aR c4, sv A8 ax c9, .map (some ak)]) :: (a ++ (n ++ (i ++ (A ++ (s ++ R))))) = hp' ∧ ce.Le dt) ?_ ?_
 have hm := eU
 refine Cg<|tS (sD (vs := [_, _, _, _, _]) 2 5 rfl z2Y rfl rfl rfl) ?_
 obtain ⟨du, dv, hm⟩ := bS hm
 refine tD (uW _ q9Q rfl (fun w ho => P8 _ [] (⟨dl, dm, dn, dp, dq⟩ : q9) du dv) (fun _ _ _ h => h.2.symm)) ?_
 rintro _ _ ⟨⟨_, rfl, _⟩, rfl⟩
 rcases Kg du with bd | bd
 rw [if_pos bd] at hm
 refine Tr 88 rfl (v' := .bool true) (by rw [bd] <;> rfl)<|mV rfl<|yS<|tS (sF rfl q4K)<|yS<|tS (sL 2 rfl Q3 rfl rfl)<|yS<|tS (sF rfl q1H)<|yS<|tS (sL 1 rfl Q3 rfl rfl)<|yS<|Tb rfl (q2 rfl rfl) (fun bX => ?_) (fun bX => ?_)
 rw [if_pos bX] at hm
 refine yS<|mV rfl<|nO<|nO<|nO<|yS<|tS (pT rfl rfl)<|tS (pT rfl rfl)<|mV rfl<|nO<|nO<|nO<|nO<|nO<|nO<|nO<|nO<|nO<|nO<|tS (pT rfl rfl)<|Tn ?_
 obtain rfl := o1 hm
 exact jJ ⟨rfl, rfl, lr⟩
 rw [if_neg bX] at hm
 refine yS<|mV rfl<|yS<|tS (sF rfl q4c)<|yS<|tS (sL 2 rfl Q3 rfl rfl)<|yS<|Tb rfl (q5 rfl rfl) (fun bY => ?_) (fun bY => ?_)
 rw [if_pos bY] at hm
 refine yS<|tS (pF rfl rfl)<|tS (pT rfl rfl)<|mV rfl<|nO<|nO<|nO<|nO<|nO<|nO<|nO<|nO<|nO<|nO<|tS (pT rfl rfl)<|Tn ?_
 obtain rfl := o1 hm
 exact jJ ⟨rfl, rfl, lr⟩
 rw [if_neg bY] at hm
 refine yS<|tS (pF rfl rfl)<|tS (pT rfl rfl)<|mV rfl<|yS<|tS (sF rfl q4c)<|yS<|tS (sL 2 rfl Q3 rfl rfl)<|yS<|Tb rfl (q5 rfl rfl) (fun bZ => ?_) (fun bZ => ?_)
 rw [if_pos bZ] at hm
 refine yS<|mV rfl<|yS<|tS (sF rfl q4K)<|yS<|tS (sL 2 rfl Q3 rfl rfl)<|yS<|tS (sF rfl q1H)<|yS<|tS (sL 1 rfl Q3 rfl rfl)<|yS<|tS (q1 rfl rfl)<|yS<|tS (pT rfl rfl)<|tS (pF rfl rfl)<|Tn ?_
 obtain rfl := o1 hm
 exact jJ ⟨rfl, rfl, lr⟩
 rw [if_neg bZ] at hm
 refine yS<|mV rfl<|nO<|nO<|nO<|nO<|nO<|yS<|tS (pF rfl rfl)<|tS (pF rfl rfl)<|Tn ?_
 obtain rfl := o1 hm
 exact jJ ⟨rfl, rfl, lr⟩
 rw [if_neg (fun hh => Bool.noConfusion (hh.symm.trans bd))] at hm
 refine Tr 88 rfl (v' := .bool false) (by rw [bd] <;> rfl)<|mV rfl<|nO<|nO<|nO<|nO<|nO<|nO<|nO<|nO<|nO<|nO<|tS (pF rfl rfl)<|mV rfl<|yS<|tS (sF rfl q4c)<|yS<|tS (sL 2 rfl Q3 rfl rfl)<|yS<|Tb rfl (q5 rfl rfl) (fun b0 => ?_) (fun b0 => ?_)
 rw [if_pos b0] at hm
 refine yS<|mV rfl<|yS<|tS (sF rfl q4K)<|yS<|tS (sL 2 rfl Q3 rfl rfl)<|yS<|tS (sF rfl q1H)<|yS<|tS (sL 1 rfl Q3 rfl rfl)<|yS<|tS (q1 rfl rfl)<|yS<|tS (pT rfl rfl)<|tS (pF rfl rfl)<|Tn ?_
 obtain rfl := o1 hm
 exact jJ ⟨rfl, rfl, lr⟩
 rw [if_neg b0] at hm
 refine yS<|mV rfl<|nO<|nO<|nO<|nO<|nO<|yS<|tS (pF rfl rfl)<|tS (pF rfl rfl)<|Tn ?_
 obtain rfl := o1 hm
 exact jJ ⟨rfl, rfl, lr⟩
 rintro dt _ _ ⟨rfl, rfl, aP⟩
 have hm := eV
 refine cB hm rfl (fun hm => ?_) fun hm => ?_
 refine Cr<|aS rfl<|Te<|Ct<|Xb<|Xr<|Xr<|Xb<|Xr ?_
 have eW := cd _ (Kd hm).symm
 rw [eW] at bz
 have hm := V6 bz
 obtain ⟨rfl, rfl, rfl, rfl, rfl⟩ := q5R hm
 have zw := d.trans (e.trans (f.trans (m.trans (g.trans (o.trans (aO.trans aP))))))
 have eX := h5.le zw
 have eY := bU.le zw
 have e0 := (bG.le (g.trans (o.trans (aO.trans aP))))
 have e1 := bV.le zw
 exact rO ⟨ads, n, i, A, s, rfl, rfl, eX, rfl, eY, rfl, e0, e1⟩ zw
 refine Ck<|Xm<|Xn<|Cg<|tS (sa rfl rfl (by omega))<|mV rfl<|Tn ?_
 exact jM hm ⟨rfl, rfl, ((o.trans (aO.trans aP)))⟩
 rintro _ bJ _ _ ⟨rfl, rfl, o⟩ e2
 rw [e2] at bz
 have hm := G6 bz
 refine Cr<|tS (lF rfl rfl (by omega))<|Te<|Cs<|v8 rfl<|Ce<|Xe<|Xe<|Xo<|Xn<|Cs<|Cr<|mV rfl<|tS (sE rfl q3C)<|mV rfl<|Te<|Cb ?_
 have he : p.length ≤ 9223372036854775807 := (OS.len aV)
 refine H5 a n i A s<|H5 s a n i A<|H5 A s a n i<|H5 i A s a n<|H5 n i A s a ?_
 obtain ⟨hX, e3, bA⟩ := bS hm
 refine lF (fun cg => fun _ => fun bh e' hp' => [(0, pb W), (1, iv I), (2, bv H), (7, sv t p y), (114, sv t p y), (115, iv ((p.length : Int))), (116, iv ((cg : Int)))] = e' ∧ (W, Cl 78 [sv ay an az, sv aA ao aB, sv aC aq aD, sv aE ar aF, sv aG au aH, sv aI av aJ, sv aK aw aL, sv A3 aR c4, sv A8 ax c9, .map (some ak)]) :: (a ++ (n ++ (i ++ (A ++ (s ++ R))))) = hp' ∧ bJ.Le bh) e3 ⟨rfl, rfl, lr⟩ ?_ ?_
 rintro cg _ bh _ _ hf gG ⟨rfl, rfl, z⟩ bq ch
 unfold q0l at bq
 have hm := bq
 refine Cr<|tS (lT rfl rfl (by omega))<|Te<|Cs<|w6 rfl<|Ck<|Xn<|Cs<|Cb<|Cr ?_
 obtain ⟨bi, gc, hm⟩ := bS hm
 obtain ⟨gd, e4, e5⟩ := iS gc
 obtain ⟨hg, hi, hY, hZ, hj, e6, dw, cy, dx, hk, gN⟩ := OS.get (sz := 4) rfl (by decide) (aV.le (m.trans (g.trans (o.trans z)))) e5
 obtain ⟨⟨_, _, rfl, rfl, ⟨_, _, rfl, rfl, ⟨_, _, rfl, rfl, rfl⟩⟩⟩, rfl⟩ := e6
 refine tS (sI gd rfl rfl e4 dx cy q3C)<|tS (Z6 (vs := [iv bi.Kind, iv bi.Place, iv bi.Position, iv bi.At]) 4 rfl K8 cy rfl (fun w ho j u hu => dw w _ ho (.cons _ (Kb _ _)) j u hu))<|tD (uA [iv 0, iv 0, iv 0, iv 0] q5F rfl) ?_
 rintro _ _ ⟨h0, rfl, rfl⟩
 refine tD (uN (vs := [_, _, _, _]) 0 4 rfl rfl rfl q9b rfl (mc rfl (mc rfl (mc rfl (mc rfl mn)))) rfl (by simp)) ?_
 rintro _ _ rfl
 refine Te ?_
 obtain ⟨ge, e7, e8⟩ := bS hm
 refine Cj (fun dy e' hp' => [(0, pb W), (1, iv I), (2, bv H), (7, sv t p y), (114, sv t p y), (115, iv ((p.length : Int))), (116, iv ((cg : Int))), (142, bv ge)] = e' ∧ (W, Cl 78 [sv ay an az, sv aA ao aB, sv aC aq aD, sv aE ar aF, sv aG au aH, sv aI av aJ, sv aK aw aL, sv A3 aR c4, sv A8 ax c9, .map (some ak)]) :: (a ++ (n ++ (i ++ (A ++ (s ++ R))))) = hp' ∧ bh.Le dy) ?_ ?_
 have hm := e7
 rcases Kg H with aT | aT
 rw [if_pos aT] at hm
 refine Di mixed (.refl _)<|E0 0 rfl (stB (sM rfl) aT)<|E0 1 rfl (H6 rfl)<|E0 2 rfl (sM rfl)<|eN 3 rfl<|eN 4 rfl<|eN 5 rfl<|eN 6 rfl<|eN 7 rfl<|eN 8 rfl<|eN 9 rfl<|eN 10 rfl<|E0 11 rfl (pF rfl rfl)<|E0 12 rfl (sM rfl)<|eN 13 rfl<|eN 14 rfl<|eN 15 rfl<|eN 16 rfl<|eN 17 rfl<|eN 18 rfl<|eN 19 rfl<|eN 20 rfl<|eN 21 rfl<|E0 22 rfl (pF rfl rfl)<|Eo<|Dd (by kernel_rfl) ?_
 obtain rfl := o1 hm
 exact jJ ⟨rfl, rfl, lr⟩
 rw [if_neg (fun hh => Bool.noConfusion (hh.symm.trans aT))] at hm
 by_cases be : bi.Kind = 1
 rw [if_pos be] at hm
 obtain ⟨bj, gf, hm⟩ := bS hm
 obtain ⟨gg, dz, hm⟩ := bS hm
 refine Di mixed (.refl _)<|E0 0 rfl (stB (sM rfl) aT)<|E0 1 rfl (q0e rfl)<|E0 2 rfl (sM rfl)<|Yz 3 122 rfl (sF rfl q1b)<|Ey 4 122 rfl (sL 0 rfl Q3 rfl rfl)<|Yz 5 122 rfl (eT rfl rfl be)<|Yz 6 122 rfl (sM rfl)<|eN 7 rfl<|eN 8 rfl ?_
 refine eN 9 rfl<|Yz 10 122 rfl (pT rfl rfl)<|E0 11 rfl (pT rfl rfl)<|E0 12 rfl (sM rfl)<|Yz 13 132 rfl (sM rfl)<|Yz 14 132 rfl (sN rfl)<|Yz 15 132 rfl (sF rfl q2s)<|Ey 16 132 rfl (sL 1 rfl q7t rfl rfl)<|Yz 17 132 rfl (sF rfl q4L)<|Ey 18 132 rfl (sL 0 rfl Q3 rfl rfl) ?_
 obtain ⟨gh, e9, fa⟩ := iS gf
 obtain ⟨hl, hn, h1, h2, hq, fb, dA, cz, dB, hr, gO⟩ := OS.get (sz := 5) rfl (by decide) (h5.le (d.trans (e.trans (f.trans (m.trans (g.trans (o.trans z))))))) fa
 obtain ⟨⟨_, _, rfl, rfl, ⟨_, _, rfl, rfl, ⟨_, _, rfl, rfl, ⟨_, _, rfl, rfl, rfl⟩⟩⟩⟩, rfl⟩ := fb
 refine Yz 19 132 rfl (sI gh rfl rfl e9 dB cz q8j)<|Ey 20 132 rfl (Z6 (vs := [iv bj.axles, bv bj.disturbed, iv bj.position, iv bj.moving, bv bj.failed]) 5 rfl z2Y cz rfl (fun w ho j u hu => dA w _ ho (.cons _ (.cons _ (ss a (Kb _ _)))) j u hu))<|Eo<|Da [21] (by kernel_rfl) rfl<|q3c lr rfl rfl 132 rfl rfl rfl (uW _ q9Q rfl (fun w ho => P8 _ [] bj gg dz) (fun _ _ _ h => h.2.symm)) ?_ ?_
 rintro _ _ ⟨⟨_, rfl, _⟩, rfl⟩
 refine iR<|Ei lr (.refl _)<|E0 22 rfl (pT rfl rfl)<|Eo<|Dd (by kernel_rfl) ?_
 obtain rfl := o1 hm
 exact jJ ⟨rfl, rfl, lr⟩
 exact Rn
 rw [if_neg be] at hm
 by_cases bB : bi.Kind = 2
 rw [if_pos bB] at hm
 obtain ⟨bk, gi, hm⟩ := bS hm
 obtain ⟨gj, dC, hm⟩ := bS hm
 refine Di mixed (.refl _)<|E0 0 rfl (stB (sM rfl) aT)<|E0 1 rfl (q0e rfl)<|E0 2 rfl (sM rfl)<|Yz 3 122 rfl (sF rfl q1b)<|Ey 4 122 rfl (sL 0 rfl Q3 rfl rfl)<|Yz 5 122 rfl (eF rfl rfl be)<|Yz 6 122 rfl (sM rfl)<|Yz 7 126 rfl (sF rfl q1b)<|Ey 8 126 rfl (sL 0 rfl Q3 rfl rfl) ?_
 refine Yz 9 126 rfl (eT rfl rfl bB)<|Yz 10 122 rfl (pF rfl rfl)<|E0 11 rfl (pT rfl rfl)<|E0 12 rfl (sM rfl)<|Yz 13 132 rfl (sM rfl)<|Yz 14 132 rfl (sN rfl)<|Yz 15 132 rfl (sF rfl q2s)<|Ey 16 132 rfl (sL 1 rfl q7t rfl rfl)<|Yz 17 132 rfl (sF rfl q4L)<|Ey 18 132 rfl (sL 0 rfl Q3 rfl rfl) ?_
 obtain ⟨gk, fc, fd⟩ := iS gi
 obtain ⟨hs, ht, h3, h4, hv, fe, dD, cA, dE, hw, gP⟩ := OS.get (sz := 5) rfl (by decide) (h5.le (d.trans (e.trans (f.trans (m.trans (g.trans (o.trans z))))))) fd
 obtain ⟨⟨_, _, rfl, rfl, ⟨_, _, rfl, rfl, ⟨_, _, rfl, rfl, ⟨_, _, rfl, rfl, rfl⟩⟩⟩⟩, rfl⟩ := fe
 refine Yz 19 132 rfl (sI gk rfl rfl fc dE cA q8j)<|Ey 20 132 rfl (Z6 (vs := [iv bk.axles, bv bk.disturbed, iv bk.position, iv bk.moving, bv bk.failed]) 5 rfl z2Y cA rfl (fun w ho j u hu => dD w _ ho (.cons _ (.cons _ (ss a (Kb _ _)))) j u hu))<|Eo<|Da [21] (by kernel_rfl) rfl<|q3c lr rfl rfl 132 rfl rfl rfl (uW _ q9Q rfl (fun w ho => P8 _ [] bk gj dC) (fun _ _ _ h => h.2.symm)) ?_ ?_
 rintro _ _ ⟨⟨_, rfl, _⟩, rfl⟩
 refine iR<|Ei lr (.refl _)<|E0 22 rfl (pT rfl rfl)<|Eo<|Dd (by kernel_rfl) ?_
 obtain rfl := o1 hm
 exact jJ ⟨rfl, rfl, lr⟩
 exact Rn
 rw [if_neg bB] at hm
 refine Di mixed (.refl _)<|E0 0 rfl (stB (sM rfl) aT)<|E0 1 rfl (q0e rfl)<|E0 2 rfl (sM rfl)<|Yz 3 122 rfl (sF rfl q1b)<|Ey 4 122 rfl (sL 0 rfl Q3 rfl rfl)<|Yz 5 122 rfl (eF rfl rfl be)<|Yz 6 122 rfl (sM rfl)<|Yz 7 126 rfl (sF rfl q1b)<|Ey 8 126 rfl (sL 0 rfl Q3 rfl rfl)<|Yz 9 126 rfl (eF rfl rfl bB)<|Yz 10 122 rfl (pF rfl rfl)<|E0 11 rfl (pT rfl rfl)<|E0 12 rfl (sM rfl)<|eN 13 rfl<|eN 14 rfl<|eN 15 rfl<|eN 16 rfl<|eN 17 rfl<|eN 18 rfl ?_
 refine eN 19 rfl<|eN 20 rfl<|eN 21 rfl<|E0 22 rfl (pF rfl rfl)<|Eo<|Dd (by kernel_rfl) ?_
 obtain rfl := o1 hm
 exact jJ ⟨rfl, rfl, lr⟩
 rintro dy _ _ ⟨rfl, rfl, aQ⟩
 have hm := e8
 refine cB hm rfl (fun hm => ?_) fun hm => ?_
 refine Cr<|aS rfl<|Te<|Ct<|Xb<|Xr<|Xr<|Xb<|Xr ?_
 have ff := ch _ (Kd hm).symm
 rw [ff] at bA
 have hm := V6 bA
 obtain ⟨rfl, rfl, rfl, rfl, rfl⟩ := q5R hm
 have zv := d.trans (e.trans (f.trans (m.trans (g.trans (o.trans (z.trans aQ))))))
 have fg := h5.le zv
 have fh := bU.le zv
 have fi := (bG.le (g.trans (o.trans (z.trans aQ))))
 have fj := bV.le zv
 exact rO ⟨ads, n, i, A, s, rfl, rfl, fg, rfl, fh, rfl, fi, fj⟩ zv
 refine Ck<|Xm<|Xn<|Cg<|tS (sa rfl rfl (by omega))<|mV rfl<|Tn ?_
 exact jM hm ⟨rfl, rfl, ((z.trans aQ))⟩
 rintro _ bh _ _ ⟨rfl, rfl, z⟩ fk
 rw [fk] at bA
 have hm := G6 bA
 refine Cr<|tS (lF rfl rfl (by omega))<|Te<|Cs<|v8 rfl<|Ce<|Xe<|Xe<|Xo<|Xn<|Cr<|mV rfl<|tS (sN rfl)<|tS (sF rfl z2O)<|tS (sL 0 rfl z5M rfl rfl)<|mV rfl ?_
 have zu := d.trans (e.trans (f.trans (m.trans (g.trans (o.trans z)))))
 obtain ⟨q, gl, hx, fl, hy, fm, dF, cC, dH, hm⟩ := bF (sz := 3) hm (d9.le zu)
 obtain ⟨_, _, rfl, rfl, ⟨_, _, rfl, rfl, ⟨X, Y, rfl, dI⟩⟩⟩ := fm
 refine tS (sI gl rfl rfl fl dH cC z2b)<|tS (sP (vs := [iv q.From, iv q.To, sv X q.Steps Y]) 3 rfl z0Y cC rfl (fun j u hu => dF j u hu))<|tD (uA [iv 0, iv 0, sn] q9v rfl) ?_
 rintro _ _ ⟨a9, rfl, rfl⟩
 refine tD (uN (vs := [_, _, _]) 0 3 rfl rfl rfl z4y rfl (mc rfl (mc rfl (mc rfl mn))) rfl (by simp)) ?_
 rintro _ _ rfl
 refine Te ?_
 obtain ⟨⟨gm, gn⟩, fn, fo⟩ := bS hm
 refine Cj (fun bL e' hp' => ∃ C J, [(0, pb W), (1, iv I), (2, bv H), (7, sv t p y), (15, pb a9)] = e' ∧ (W, Cl 78 [sv ay an az, sv aA ao aB, sv aC aq aD, sv aE ar aF, sv aG au aH, sv aI av aJ, sv aK aw aL, sv A3 aR c4, sv A8 ax c9, .map (some ak)]) :: (a9, Cl 36 [iv q.From, iv q.To, sv X q.Steps Y]) :: (a ++ (n ++ (i ++ (C ++ (J ++ R))))) = hp' ∧ bh.Le bL ∧ OM rI (OT.fr (RT.key ads)) false false bL.w ak gm C ∧ OAr 90 j9 ads bL.w gn J) ?_ ?_
 have hm := fn
 refine Cr<|mV rfl<|tS (sN rfl)<|tS (sF rfl q2U)<|tS (sL 1 rfl q8m rfl rfl)<|q8X a n i A<|tD (z2g [_, _] (a ++ (n ++ (i ++ (s ++ R)))) rfl (bG.le (g.trans (o.trans z))) q5n rfl) ?_
 rintro _ _ ⟨b1, bf, rfl, rfl, go⟩
 refine Te<|Cb<|q4g bf a n i s<|q4g s bf a n i<|q4g i s bf a n<|q4g n i s bf a<|Cp 1 rfl<|q4g a n i s bf ?_
 obtain ⟨h6, fp, cD⟩ := bS hm
 refine z6K (fun b2 => fun ci e' hp' => ∃ K, [(0, pb W), (1, iv I), (2, bv H), (7, sv t p y), (15, pb a9), (155, pb b1)] = e' ∧ (W, Cl 78 [sv ay an az, sv aA ao aB, sv aC aq aD, sv aE ar aF, sv aG au aH, sv aI av aJ, sv aK aw aL, sv A3 aR c4, sv A8 ax c9, .map (some ak)]) :: (a9, Cl 36 [iv q.From, iv q.To, sv X q.Steps Y]) :: (a ++ (n ++ (i ++ (K ++ R)))) = hp' ∧ bh.Le ci ∧ OAr 90 j9 ads ci.w b2 K) fp go (e' := [(0, pb W), (1, iv I), (2, bv H), (7, sv t p y), (15, pb a9), (155, pb b1)]) ⟨rfl, rfl, rfl, rfl, rfl, rfl, trivial⟩ [_, _] (a ++ (n ++ (i ++ (s ++ R)))) rfl (.refl _) ⟨s, rfl, rfl, lr, (bV.le zu)⟩ ?_
 rintro b2 h7 ci _ _ cE ⟨K, rfl, rfl, aX, cj⟩ gQ dJ hd2790 hall2791
 refine j0J [_, _] cE (a ++ (n ++ (i ++ (K ++ R)))) ?_ rfl
 refine Cr<|z5t [_, _] (a ++ (n ++ (i ++ (K ++ R)))) rfl rfl rfl dJ (fun hnil2793 => ?_) (fun b3 h8 h9 ia D hperm2799 fq dK => ?_)
 obtain ⟨cG, cR, gp⟩ := MIt.done dJ
 refine z1f [_, _] cE cG (a ++ (n ++ (i ++ (K ++ R)))) rfl cR ?_
 have hend2805 := hd2790 hnil2793
 refine tS (v6 rfl rfl)<|Te<|Cs<|v8 rfl<|Ce<|Xe<|Xe<|Xo ?_
 rw [hend2805] at cD
 have hm := G6 cD
 obtain ⟨rfl, rfl⟩ := W4 hm
 exact jJ ⟨cG, K, rfl, rfl, aX, gp, cj⟩
 obtain ⟨ib, ba, gH⟩ := hall2791 _ _ hperm2799
 have br := ba
 unfold q0k at br
 have hm := br
 refine tS (v6 rfl rfl)<|Te<|Cs<|w6 rfl<|Ck<|Xn<|Cb<|Cr ?_
 obtain ⟨dL, dM, b4, b5, fr⟩ := MIx.entry Tryz.prog fq
 obtain rfl : dL = iv b3.1 := by have b4 : [dL] = [iv b3.1] := b4; injection b4
 obtain rfl : dM = kv ads b3.2 := by have b5 : [dM] = [kv ads b3.2] := b5; injection b5
 refine tS (fr (.cons _ (.cons _ (Kb _ _))) rfl)<|tS (v6 rfl rfl)<|aS rfl<|Te<|Cs ?_
 obtain ⟨aU, dN, hm⟩ := bS hm
 obtain ⟨c, gq, hm⟩ := bS hm
 refine q9R 17 rfl (v' := .pointer (some ⟨(ads aU), 0, none⟩)) (by rw [dN]; rfl)<|q9R 159 rfl (v' := .pointer (some ⟨(ads aU), 0, none⟩)) (by rw [dN]; rfl) ?_
 obtain ⟨hz, hA, U, cH, fs, hf2823⟩ := OAr.take cj gq
 obtain ⟨aY, aZ, a0, a1, a2, a3, L, a4, a5, O, rfl, gr, gs, gt, gu, rfl⟩ := fs
 refine q4g D a n i K<|q9S [_, _] K U L O (D ++ (a ++ (n ++ (i ++ R)))) rfl cH<|Di mixed (.refl _)<|E0 0 rfl (sM rfl)<|E0 1 rfl (sN rfl)<|E0 2 rfl (sF rfl q6S)<|E0 3 rfl (sF rfl q2V)<|Es 4 rfl (sL 0 rfl Q3 rfl rfl)<|E0 5 rfl (sF rfl q4M)<|Es 6 rfl (sL 2 rfl Q3 rfl rfl)<|E0 7 rfl (q1 rfl rfl)<|Eo<|Dd (by kernel_rfl)<|Xn<|cI hm rfl (fun hm => ?_) fun hm => ?_
 refine Cg<|mV rfl<|tS (sN rfl)<|tS (sF rfl z0E)<|tD (uS 0 rfl rfl z5y rfl rfl (by simp)) ?_
 rintro _ _ rfl
 refine Tn<|Xm<|q1u L O U<|q1u U L O<|q1u O U L ?_
 have gv := hf2823 _ [iv c.Route.From, iv c.Route.To, sv aY c.Route.Steps aZ, sv a0 c.needs a1, sv a2 c.seen a3, sv a4 c.gone a5, bv false, bv c.sight, iv c.leave, iv c.clock, iv c.number] (⟨c.Route, c.needs, c.seen, c.gone, false, c.sight, c.leave, c.clock, c.number⟩ : z7) _ lr ⟨aY, aZ, a0, a1, a2, a3, L, a4, a5, O, rfl, gr, gs, gt, gu, rfl⟩
 refine z4m [_, _] U L O (D ++ (a ++ (n ++ (i ++ R)))) rfl<|Xp 1 rfl<|Xp 1 rfl<|X5 [_, _] (U ++ (((ads aU), Cl 90 [iv c.Route.From, iv c.Route.To, sv aY c.Route.Steps aZ, sv a0 c.needs a1, sv a2 c.seen a3, sv a4 c.gone a5, bv false, bv c.sight, iv c.leave, iv c.clock, iv c.number]) :: (L ++ O))) D a n i R rfl<|X5 [_, _] i (U ++ (((ads aU), Cl 90 [iv c.Route.From, iv c.Route.To, sv aY c.Route.Steps aZ, sv a0 c.needs a1, sv a2 c.seen a3, sv a4 c.gone a5, bv false, bv c.sight, iv c.leave, iv c.clock, iv c.number]) :: (L ++ O))) D a n R rfl<|X5 [_, _] n i (U ++ (((ads aU), Cl 90 [iv c.Route.From, iv c.Route.To, sv aY c.Route.Steps aZ, sv a0 c.needs a1, sv a2 c.seen a3, sv a4 c.gone a5, bv false, bv c.sight, iv c.leave, iv c.clock, iv c.number]) :: (L ++ O))) D a R rfl<|X5 [_, _] a n i (U ++ (((ads aU), Cl 90 [iv c.Route.From, iv c.Route.To, sv aY c.Route.Steps aZ, sv a0 c.needs a1, sv a2 c.seen a3, sv a4 c.gone a5, bv false, bv c.sight, iv c.leave, iv c.clock, iv c.number]) :: (L ++ O))) D R rfl ?_
 have dO := aX
 exact z3d (s' := V7 b2 aU (⟨c.Route, c.needs, c.seen, c.gone, false, c.sight, c.leave, c.clock, c.number⟩ : z7)) [_, _] (a ++ (n ++ (i ++ ((U ++ (((ads aU), Cl 90 [iv c.Route.From, iv c.Route.To, sv aY c.Route.Steps aZ, sv a0 c.needs a1, sv a2 c.seen a3, sv a4 c.gone a5, bv false, bv c.sight, iv c.leave, iv c.clock, iv c.number]) :: (L ++ O))) ++ R)))) rfl hperm2799 (ba.trans (Kd hm ▸ rfl)) dO dK (e' := [(0, pb W), (1, iv I), (2, bv H), (7, sv t p y), (15, pb a9), (155, pb b1)]) ⟨rfl, rfl, rfl, rfl, rfl, rfl, trivial⟩ (.refl _) ⟨(U ++ (((ads aU), Cl 90 [iv c.Route.From, iv c.Route.To, sv aY c.Route.Steps aZ, sv a0 c.needs a1, sv a2 c.seen a3, sv a4 c.gone a5, bv false, bv c.sight, iv c.leave, iv c.clock, iv c.number]) :: (L ++ O))), rfl, rfl, (aX), gv⟩
 refine Ck<|Xm<|q1u L O U<|q1u U L O<|q1u O U L<|q4v [_, _] K U L O (D ++ (a ++ (n ++ (i ++ R)))) rfl cH<|Xp 1 rfl<|Xp 1 rfl<|z7q K D a n i<|z7q i K D a n<|z7q n i K D a<|z7q a n i K D ?_
 have dP := aX
 exact z3d (s' := b2) [_, _] (a ++ (n ++ (i ++ (K ++ R)))) rfl hperm2799 (ba.trans (Kd hm ▸ rfl)) dP dK (e' := [(0, pb W), (1, iv I), (2, bv H), (7, sv t p y), (15, pb a9), (155, pb b1)]) ⟨rfl, rfl, rfl, rfl, rfl, rfl, trivial⟩ (.refl _) ⟨K, rfl, rfl, (aX), cj⟩
 rintro bL _ _ ⟨C, J, rfl, rfl, T, dQ, dR⟩
 have hm := V8 fo
 obtain ⟨⟨bb, dS, dT⟩, ft, fu⟩ := bS hm
 refine Cj (fun bl e' hp' => ∃ (ads : Int → Nat), ∃ bM bN S E, [(0, pb W), (7, sv bM bb bN)] = e' ∧ (W, Cl 78 [sv ay an az, sv aA ao aB, sv aC aq aD, sv aE ar aF, sv aG au aH, sv aI av aJ, sv aK aw aL, sv A3 aR c4, sv A8 ax c9, .map (some ak)]) :: (n ++ (i ++ (S ++ (E ++ R)))) = hp' ∧ bL.Le bl ∧ FZ j4 bl.w bM bN bb ∧ OM rI (OT.fr (RT.key ads)) false false bl.w ak dS S ∧ OAr 90 j9 ads bl.w dT E) ?_ ?_
 have hm := ft
 refine j2E [_, _] a (n ++ (i ++ (C ++ (J ++ R)))) rfl ?_
 intro ic ai fv
 have b6 := OS.frz (l := p) (aV.le (m.trans (g.trans (o.trans (z.trans T))))) ai.cells fv
 obtain ⟨aa, a6, hm⟩ := bS hm
 obtain ⟨ab, a7, hm⟩ := bS hm
 obtain ⟨_, bm, hm⟩ := bS hm
 refine Di mixed (.refl _)<|E0 0 rfl (sM rfl)<|E0 1 rfl (sN rfl)<|E0 2 rfl (sF rfl q2U)<|Es 3 rfl (sL 0 rfl q8m rfl rfl)<|E0 4 rfl (sM rfl)<|Es 5 rfl (sD (vs := [_, _, _]) 1 3 rfl z0Y rfl rfl rfl)<|E0 6 rfl (sM rfl)<|E0 7 rfl (sF rfl q1I)<|Es 8 rfl (sL 1 rfl q4u rfl rfl)<|E0 9 rfl (sE rfl q8T)<|E0 11 rfl (sF rfl q1I)<|Es 12 rfl (sL 1 rfl q4u rfl rfl)<|E0 13 rfl (sE rfl q8T)<|E0 15 rfl (sM rfl)<|E0 16 rfl (sn2 rfl)<|E0 17 rfl (sM rfl)<|E0 18 rfl (sM rfl)<|Eo ?_
 have a6 := q0Q a6
 have a7 := q0Q a7
 refine Da [10, 14] (by kernel_rfl) rfl<|Rd2 lr rfl rfl (Y7 (r := RT.bool) [_, _] (n ++ (i ++ (C ++ (J ++ R)))) [bv false] false aa rfl a6.1 rfl rfl z1c j2N rfl rfl rfl (by decide) rfl a6.2.1 a6.2.2) ?_ ?_
 rintro _ _ ⟨F, rfl, bO⟩
 obtain ⟨ad, ae, rfl, _⟩ := bO.form
 refine iR<|Da [14] (by kernel_rfl) rfl<|Rd2 lr rfl rfl (Y7 (r := RT.bool) [_, _] (F ++ (n ++ (i ++ (C ++ (J ++ R))))) [bv false] false ab rfl a7.1 rfl rfl z1c j2N rfl rfl rfl (by decide) rfl a7.2.1 a7.2.2) ?_ ?_
 rintro _ _ ⟨G, rfl, bP⟩
 obtain ⟨af, ag, rfl, _⟩ := bP.form
 refine iR<|Da [19] (by kernel_rfl) rfl ?_
 refine Rd2 lr rfl rfl (Q2.does (sB (v := .agg #[iv q.From, iv q.To, sv X q.Steps Y, sv t p y, .slice ad (List.replicate aa (false : Bool)).length ae, .slice af (List.replicate ab (false : Bool)).length ag, .bool (!H), bv H, iv 0, iv 0, iv I]) [(0, .agg #[iv q.From, iv q.To, sv X q.Steps Y]), (1, sv t p y), (2, .slice ad (List.replicate aa (false : Bool)).length ae), (3, .slice af (List.replicate ab (false : Bool)).length ag), (4, .bool (!H)), (5, bv H), (8, iv I)] rfl (fun _ => by kernel_rfl))) ?_ ?_
 rintro _ _ ⟨rfl, rfl⟩
 refine iR<|Da [20] (by kernel_rfl) rfl<|Rd2 lr rfl rfl (uB _ rfl rfl) ?_ ?_
 rintro _ _ ⟨ah, rfl, rfl⟩
 refine iR ?_
 have bm := q8n bm
 refine j1S G F n i C J<|j3B J G<|z8l G J F ?_
 obtain ⟨b7, al, b8, ck⟩ := OAr.add (dR.le ai) I ah (cs := [iv q.From, iv q.To, sv X q.Steps Y, sv t p y, .slice ad (List.replicate aa (false : Bool)).length ae, .slice af (List.replicate ab (false : Bool)).length ag, .bool (!H), bv H, iv 0, iv 0, iv I]) (x := (⟨q, p, List.replicate aa (false : Bool), List.replicate ab (false : Bool), !H, H, 0, 0, I⟩ : z7)) ⟨X, Y, t, y, ad, ae, F, af, ag, G, rfl, (dI.le (T.trans ai)), b6, bO, bP, rfl⟩
 have cl := OM.upd (dQ.le ai) I ah bm
 refine z8V [_, _] J b7 al F G (n ++ (i ++ (C ++ R))) rfl b8<|q1J 191 rfl (v' := kv (z1e ads I ah) (some I)) (by show _ = Value.pointer (some ⟨z1e ads _ _ _, 0, none⟩); rw [q5I]) ?_
 generalize z1e ads I ah = ads at *
 refine d4 [_, _] (al ++ ((ah, Cl 90 [iv q.From, iv q.To, sv X q.Steps Y, sv t p y, .slice ad (List.replicate aa (false : Bool)).length ae, .slice af (List.replicate ab (false : Bool)).length ag, .bool (!H), bv H, iv 0, iv 0, iv I]) :: (F ++ G))) n i C R rfl<|Da [21] (by kernel_rfl) rfl ?_
 refine Rd2 lr rfl rfl (q7X j0g [_, _] [] ((al ++ ((ah, Cl 90 [iv q.From, iv q.To, sv X q.Steps Y, sv t p y, .slice ad (List.replicate aa (false : Bool)).length ae, .slice af (List.replicate ab (false : Bool)).length ag, .bool (!H), bv H, iv 0, iv 0, iv I]) :: (F ++ G))) ++ (n ++ (i ++ R))) rfl cl q5n rfl rfl rfl rfl ⟨rfl, rfl⟩ _ (.inl rfl)) ?_ ?_
 rintro _ _ ⟨b9, rfl, cT, cm⟩
 refine ⟨.inl (by kernel_rfl), ?_⟩
 refine Dd (by kernel_rfl) ?_
 obtain ⟨rfl, rfl, rfl⟩ := q5S hm
 exact jJ ⟨ads, t, y, b9, (al ++ ((ah, Cl 90 [iv q.From, iv q.To, sv X q.Steps Y, sv t p y, .slice ad (List.replicate aa (false : Bool)).length ae, .slice af (List.replicate ab (false : Bool)).length ag, .bool (!H), bv H, iv 0, iv 0, iv I]) :: (F ++ G))), rfl, rfl, ai, b6, cm, ck⟩
 exact Rn
 exact Rn
 exact Rn
 exact Rn
 refine Rd2 lr rfl rfl (Y7 (r := RT.bool) [_, _] (n ++ (i ++ (C ++ (J ++ R)))) [bv false] false ab rfl a7.1 rfl rfl z1c j2N rfl rfl rfl (by decide) rfl a7.2.1 a7.2.2) ?_ ?_
 rintro _ _ ⟨G, rfl, bP⟩
 obtain ⟨af, ag, rfl, _⟩ := bP.form
 refine iR<|Da [10] (by kernel_rfl) rfl<|Rd2 lr rfl rfl (Y7 (r := RT.bool) [_, _] (G ++ (n ++ (i ++ (C ++ (J ++ R))))) [bv false] false aa rfl a6.1 rfl rfl z1c j2N rfl rfl rfl (by decide) rfl a6.2.1 a6.2.2) ?_ ?_
 rintro _ _ ⟨F, rfl, bO⟩
 obtain ⟨ad, ae, rfl, _⟩ := bO.form
 refine iR<|Da [19] (by kernel_rfl) rfl ?_
 refine Rd2 lr rfl rfl (Q2.does (sB (v := .agg #[iv q.From, iv q.To, sv X q.Steps Y, sv t p y, .slice ad (List.replicate aa (false : Bool)).length ae, .slice af (List.replicate ab (false : Bool)).length ag, .bool (!H), bv H, iv 0, iv 0, iv I]) [(0, .agg #[iv q.From, iv q.To, sv X q.Steps Y]), (1, sv t p y), (2, .slice ad (List.replicate aa (false : Bool)).length ae), (3, .slice af (List.replicate ab (false : Bool)).length ag), (4, .bool (!H)), (5, bv H), (8, iv I)] rfl (fun _ => by kernel_rfl))) ?_ ?_
 rintro _ _ ⟨rfl, rfl⟩
 refine iR<|Da [20] (by kernel_rfl) rfl<|Rd2 lr rfl rfl (uB _ rfl rfl) ?_ ?_
 rintro _ _ ⟨ah, rfl, rfl⟩
 refine iR ?_
 have bm := q8n bm
 refine j1S F G n i C J<|z8l J F G<|z8l G J F ?_
 obtain ⟨b7, al, b8, ck⟩ := OAr.add (dR.le ai) I ah (cs := [iv q.From, iv q.To, sv X q.Steps Y, sv t p y, .slice ad (List.replicate aa (false : Bool)).length ae, .slice af (List.replicate ab (false : Bool)).length ag, .bool (!H), bv H, iv 0, iv 0, iv I]) (x := (⟨q, p, List.replicate aa (false : Bool), List.replicate ab (false : Bool), !H, H, 0, 0, I⟩ : z7)) ⟨X, Y, t, y, ad, ae, F, af, ag, G, rfl, (dI.le (T.trans ai)), b6, bO, bP, rfl⟩
 have cl := OM.upd (dQ.le ai) I ah bm
 refine z8V [_, _] J b7 al F G (n ++ (i ++ (C ++ R))) rfl b8<|q1J 191 rfl (v' := kv (z1e ads I ah) (some I)) (by show _ = Value.pointer (some ⟨z1e ads _ _ _, 0, none⟩); rw [q5I]) ?_
 generalize z1e ads I ah = ads at *
 refine d4 [_, _] (al ++ ((ah, Cl 90 [iv q.From, iv q.To, sv X q.Steps Y, sv t p y, .slice ad (List.replicate aa (false : Bool)).length ae, .slice af (List.replicate ab (false : Bool)).length ag, .bool (!H), bv H, iv 0, iv 0, iv I]) :: (F ++ G))) n i C R rfl<|Da [21] (by kernel_rfl) rfl ?_
 refine Rd2 lr rfl rfl (q7X j0g [_, _] [] ((al ++ ((ah, Cl 90 [iv q.From, iv q.To, sv X q.Steps Y, sv t p y, .slice ad (List.replicate aa (false : Bool)).length ae, .slice af (List.replicate ab (false : Bool)).length ag, .bool (!H), bv H, iv 0, iv 0, iv I]) :: (F ++ G))) ++ (n ++ (i ++ R))) rfl cl q5n rfl rfl rfl rfl ⟨rfl, rfl⟩ _ (.inl rfl)) ?_ ?_
 rintro _ _ ⟨b9, rfl, cT, cm⟩
 refine ⟨.inl (by kernel_rfl), ?_⟩
 refine Dd (by kernel_rfl) ?_
 obtain ⟨rfl, rfl, rfl⟩ := q5S hm
 exact jJ ⟨ads, t, y, b9, (al ++ ((ah, Cl 90 [iv q.From, iv q.To, sv X q.Steps Y, sv t p y, .slice ad (List.replicate aa (false : Bool)).length ae, .slice af (List.replicate ab (false : Bool)).length ag, .bool (!H), bv H, iv 0, iv 0, iv I]) :: (F ++ G))), rfl, rfl, ai, b6, cm, ck⟩
 exact Rn
 exact Rn
 exact Rn
 exact Rn
 exact Rn
 rintro bl _ _ ⟨ads, bM, bN, S, E, rfl, rfl, ac, dU, gw, dV⟩
 have hm := q5i fu
 refine Cs<|Cr<|mV rfl<|tS (sE rfl q3C)<|mV rfl<|Te<|Cb ?_
 have hB : bb.length ≤ 9223372036854775807 := (FZ.bd dU)
 refine q1L n i S E<|q1L E n i S<|q1L S E n i<|q1L i S E n ?_
 obtain ⟨aM, fw, fx⟩ := bS hm
 refine lS (fun cn => fun aM => fun bQ e' hp' => ∃ V, [(0, pb W), (192, sv bM bb bN), (193, iv ((bb.length : Int))), (194, iv ((cn : Int)))] = e' ∧ (W, Cl 78 [sv ay an az, sv aA ao aB, sv aC aq aD, sv aE ar aF, sv aG au aH, sv aI av aJ, sv aK aw aL, sv A3 aM c4, sv A8 ax c9, .map (some ak)]) :: (V ++ (i ++ (S ++ (E ++ R)))) = hp' ∧ bl.Le bQ ∧ OS 80 (OT.fr Q5) bQ.w (sv A3 aM c4) aM V ∧ aM.length = aR.length) fw ⟨n, rfl, rfl, lr, (h5.le (d.trans (e.trans (f.trans (m.trans (g.trans (o.trans (z.trans (T.trans ac))))))))), rfl⟩ ?_ ?_
 rintro cn aM bQ _ _ hC gI ⟨V, rfl, rfl, B, bc, a8⟩ bs
 unfold Y3 at bs
 have hm := bs
 refine Cr<|tS (lT rfl rfl (by omega))<|Te<|Cs<|w6 rfl<|Ck<|Xn<|Cs<|Cb<|Cr ?_
 obtain ⟨bn, gx, hD, fy, hE, fz, dW, cJ, dX, hm⟩ := bF (sz := 4) hm (dU.le B)
 obtain ⟨_, _, rfl, rfl, ⟨_, _, rfl, rfl, ⟨_, _, rfl, rfl, rfl⟩⟩⟩ := fz
 refine tS (sI gx rfl rfl fy dX cJ q3C)<|tS (sP (vs := [iv bn.Kind, iv bn.Place, iv bn.Position, iv bn.At]) 4 rfl K8 cJ rfl (fun j u hu => dW j u hu))<|tD (uA [iv 0, iv 0, iv 0, iv 0] q5F rfl) ?_
 rintro _ _ ⟨id, rfl, rfl⟩
 refine tD (uN (vs := [_, _, _, _]) 0 4 rfl rfl rfl q9b rfl (mc rfl (mc rfl (mc rfl (mc rfl mn)))) rfl (by simp)) ?_
 rintro _ _ rfl
 refine Te<|Cs<|Cr<|tS (sF rfl q1H)<|tS (sL 0 rfl Q3 rfl rfl)<|tS (q1 rfl rfl)<|Te<|cI hm rfl (fun hm => ?_) fun hm => ?_
 refine Ce<|Xe<|Xo<|Xn<|Cg<|tS (sa rfl rfl (by omega))<|mV rfl<|Tn ?_
 obtain rfl := o1 hm
 exact jS ⟨V, rfl, rfl, (B), bc, a8⟩
 refine Ck<|Xn<|Cs ?_
 obtain ⟨aj, gy, hm⟩ := bS hm
 refine Di mixed (.refl _)<|E0 0 rfl (sM rfl)<|E0 1 rfl (sN rfl)<|E0 2 rfl (sF rfl q2s)<|Es 3 rfl (sL 1 rfl q7t rfl rfl)<|E0 4 rfl (sF rfl q4L)<|Es 5 rfl (sL 0 rfl Q3 rfl rfl) ?_
 obtain ⟨dY, cK, cO⟩ := iS gy
 obtain ⟨hF, hG, ie, ig, hH, fA, bR, am, dZ, hI, gR⟩ := OS.get (sz := 5) rfl (by decide) bc cO
 obtain ⟨⟨_, _, rfl, rfl, ⟨_, _, rfl, rfl, ⟨_, _, rfl, rfl, ⟨_, _, rfl, rfl, rfl⟩⟩⟩⟩, rfl⟩ := fA
 refine E0 6 rfl (sI dY rfl rfl cK dZ am q8j)<|E0 7 rfl (sA rfl)<|Eo<|Dd (by kernel_rfl)<|Xn ?_
 obtain ⟨gz, fB, fC⟩ := bS hm
 refine Cj (fun d0 e' hp' => [(0, pb W), (20, .pointer (Option.map (fun (x : Addr) => x.add (dY * 5)) A3)), (192, sv bM bb bN), (193, iv ((bb.length : Int))), (194, iv ((cn : Int))), (221, bv gz)] = e' ∧ (W, Cl 78 [sv ay an az, sv aA ao aB, sv aC aq aD, sv aE ar aF, sv aG au aH, sv aI av aJ, sv aK aw aL, sv A3 aM c4, sv A8 ax c9, .map (some ak)]) :: (V ++ (i ++ (S ++ (E ++ R)))) = hp' ∧ bQ.Le d0) ?_ ?_
 have hm := fB
 by_cases bC : aj.position ≠ bn.Position
 rw [if_pos bC] at hm
 refine Di mixed (.refl _)<|E0 0 rfl (sM rfl)<|E0 1 rfl (J2 rfl am)<|E0 2 rfl (sQ rfl am q4K)<|Es 3 rfl (k9 rfl Q3 (fun w ho => bR w _ ho (.cons _ (.cons _ (Kb _ _))) 2 _ rfl))<|E0 4 rfl (sF rfl q1H)<|Es 5 rfl (sL 0 rfl Q3 rfl rfl)<|E0 6 rfl (z3k rfl rfl bC)<|E0 7 rfl (sM rfl)<|Yz 8 215 rfl (sM rfl) ?_
 refine Yz 9 215 rfl (J2 rfl am)<|Yz 10 215 rfl (sQ rfl am q4c)<|Ey 11 215 rfl (k9 rfl Q3 (fun w ho => bR w _ ho (.cons _ (.cons _ (Kb _ _))) 3 _ rfl))<|Yz 12 215 rfl (q1 rfl rfl)<|E0 13 rfl (pT rfl rfl)<|Eo<|Dd (by kernel_rfl) ?_
 obtain rfl := o1 hm
 exact jJ ⟨rfl, rfl, lr⟩
 rw [if_neg bC] at hm
 refine Di mixed (.refl _)<|E0 0 rfl (sM rfl)<|E0 1 rfl (J2 rfl am)<|E0 2 rfl (sQ rfl am q4K)<|Es 3 rfl (k9 rfl Q3 (fun w ho => bR w _ ho (.cons _ (.cons _ (Kb _ _))) 2 _ rfl))<|E0 4 rfl (sF rfl q1H)<|Es 5 rfl (sL 0 rfl Q3 rfl rfl)<|E0 6 rfl (z3l rfl rfl bC)<|E0 7 rfl (sM rfl)<|eN 8 rfl<|eN 9 rfl<|eN 10 rfl<|eN 11 rfl<|eN 12 rfl<|E0 13 rfl (pF rfl rfl)<|Eo<|Dd (by kernel_rfl) ?_
 obtain rfl := o1 hm
 exact jJ ⟨rfl, rfl, lr⟩
 rintro d0 _ _ ⟨rfl, rfl, bg⟩
 have hm := fC
 refine cB hm rfl (fun hm => ?_) fun hm => ?_
 refine Cg<|mV rfl<|tS (J2 rfl am)<|tS (sQ rfl am q4c)<|tD (uP cK (sz := 5) (a' := (⟨aj.axles, aj.disturbed, aj.position, 5, aj.failed⟩ : q9)) rfl [_] (i ++ (S ++ (E ++ R))) 3 1 [iv 5] rfl (bc.le bg) cO rfl rfl rfl z7l rfl (mc rfl mn) (fun cs hsj hh => by obtain ⟨⟨_, _, rfl, rfl, ⟨_, _, rfl, rfl, ⟨_, _, rfl, rfl, ⟨_, _, rfl, rfl, rfl⟩⟩⟩⟩, rfl⟩ := hh; exact ⟨by first | decide | exact Nat.le_refl _, ⟨[iv aj.axles], _, rfl, rfl, ⟨[bv aj.disturbed], _, rfl, rfl, ⟨[iv aj.position], _, rfl, rfl, ⟨[iv 5], _, rfl, rfl, rfl⟩⟩⟩⟩, rfl⟩)) ?_
 rintro _ _ ⟨fD, rfl, gA⟩
 refine P9 0 rfl (o' := Cl 78 [sv ay an az, sv aA ao aB, sv aC aq aD, sv aE ar aF, sv aG au aH, sv aI av aJ, sv aK aw aL, .slice A3 (put aM bn.Place (⟨aj.axles, aj.disturbed, aj.position, 5, aj.failed⟩ : q9)).length c4, sv A8 ax c9, .map (some ak)]) (by simp only [sv, w8])<|Tn<|Xm<|Xn<|Cg<|tS (sa rfl rfl (by omega))<|mV rfl<|Tn ?_
 obtain rfl := o1 hm
 exact jS ⟨fD, rfl, rfl, ((B.trans bg)), gA, ((w8 _ _ _).trans a8)⟩
 refine Ck<|Xm<|Xn<|Cg<|tS (sa rfl rfl (by omega))<|mV rfl<|Tn ?_
 obtain rfl := o1 hm
 exact jS ⟨V, rfl, rfl, ((B.trans bg)), (bc.le bg), a8⟩
 rintro bQ _ _ ⟨V, rfl, rfl, B, bc, a8⟩
 have hm := fx
 refine Cr<|tS (lF rfl rfl (by omega))<|Te<|Cs<|v8 rfl<|Ce<|Xe<|Xe<|Xo<|Xn<|Cr<|mV rfl ?_
 obtain ⟨⟨d1, gB⟩, d5, hm⟩ := bS hm
 have hm := V8 hm
 have zt := d.trans (e.trans (f.trans (m.trans (g.trans (o.trans (z.trans (T.trans (ac.trans B))))))))
 refine q1n V i S E<|q1n E V i S<|q1n S E V i<|q1n i S E V<|q2M [_] [] V i S E R rfl<|Tg _ rfl z9f rfl (q7n _ _ an ao aq ar au av aw aM ax dS dT ads W ay az aA aB aC aD aE aF aG aH aI aJ aK aL A3 c4 V A8 c9 i ak S E (fH.le zt) (fI.le zt) (fJ.le zt) (fK.le zt) (fL.le zt) (d9.le zt) (ea.le zt) bc (bU.le zt) (gw.le B) (dV.le B) d1 gB d5) ?_
 rintro _ ii _ bT ⟨cP, cQ, rfl, rfl, gC, d6, gD⟩
 refine q8Z [_] [] V cP cQ E R rfl<|P9 0 rfl (o' := Cl 78 [sv ay an az, sv aA ao aB, sv aC aq aD, sv aE ar aF, sv aG au aH, sv aI av aJ, sv aK aw aL, sv A3 aM c4, sv A8 d1 c9, .map (some ak)]) (by simp only [sv, d6])<|Te<|Cr<|aS rfl<|Te<|Ct ?_
 obtain ⟨rfl, rfl, rfl, rfl, rfl⟩ := q5R hm
 have fF := bc.le bT
 have fG := (dV.le (B.trans bT))
 exact rO ⟨ads, V, cP, cQ, E, rfl, rfl, fF, a8, gC, (d6.trans rfl), gD, fG⟩ (d.trans (e.trans (f.trans (m.trans (g.trans (o.trans (z.trans (T.trans (ac.trans (B.trans bT))))))))))
theorem z1O (b : v7) (R : Hp) (g h) (ads : Int → Nat) (e a c) (i : OM rI (OT.fr (RT.key ads)) false false b.w e g a) (j : OAr 90 j9 ads b.w h c) (hm : q3G g h = some ()):
 w5 Tryz.prog 50 [.map (some e)] b ((a ++ (c ++ R))) (fun v b' hp' => ∃ d, .func (.func 88) #[] #[pb d] = v ∧ (d, Cl 76 [.map (some e)]) :: (a ++ (c ++ R)) = hp') := by
 refine fE 4 Tryz.func50 rfl Tryz.ntmps50 rfl ?_
 unfold q3G at hm
 refine Cr<|tD (uB _ rfl rfl) ?_
 rintro _ _ ⟨f, rfl, rfl⟩
 refine aS rfl<|Te<|Cr<|tS (q3V _ _ rfl rfl)<|aS rfl<|Te<|Ct ?_
 clear hm
 exact rO ⟨f, rfl, rfl⟩ lr
theorem q6v (b : v7) (R : Hp) (k f) (ads : Int → Nat) (i j d e) (l : OM rI (OT.fr (RT.key ads)) false false b.w j k d) (m : OAr 90 j9 ads b.w f e) (a) (hm : q0R k f = some a):
 w5 Tryz.prog 49 [.func (.func 88) #[] #[pb i]] b ((i, Cl 76 [.map (some j)]) :: (d ++ (e ++ R))) (fun v b' hp' => ∃ g h c, sv g a h = v ∧ (i, Cl 76 [.map (some j)]) :: (c ++ (d ++ (e ++ R))) = hp' ∧ OS 3 (OT.fr rI) b'.w (sv g a h) a c) := by
 unfold q0R at hm
 exact z7D hm l
theorem q4h (b : v7) (R : Hp) (C D E F G H I z A S T) (ads : Int → Nat) (J U V W X Y Z aa ab ac ad ae af ag ah A3 c4 d A8 c9 e B a c) (a3 : FZ RT.str b.w U V C) (a4 : FZ j5 b.w W X D) (a5 : FZ w9 b.w Y Z E) (a6 : FZ j6 b.w aa ab F) (a7 : FZ k7 b.w ac ad G) (a8 : FZ Z9 b.w ae af H) (a9 : FZ (RT.list j4) b.w ag ah I) (h5 : OS 80 (OT.fr Q5) b.w (sv A3 z c4) z d) (ba : OS 94 (OT.fr Q4) b.w (sv A8 A c9) A e) (aw : OM rI (OT.fr (RT.key ads)) false false b.w B S a) (aG : OAr 90 j9 ads b.w T c) (t) (hm : F3 C D E F G H I z A S T = some t):
 w5 Tryz.prog 37 [pb J] b ((J, Cl 78 [sv U C V, sv W D X, sv Y E Z, sv aa F ab, sv ac G ad, sv ae H af, sv ag I ah, sv A3 z c4, sv A8 A c9, .map (some B)]) :: (d ++ (e ++ (a ++ (c ++ R))))) (fun v b' hp' => ∃ am an K, sv am t an = v ∧ (J, Cl 78 [sv U C V, sv W D X, sv Y E Z, sv aa F ab, sv ac G ad, sv ae H af, sv ag I ah, sv A3 z c4, sv A8 A c9, .map (some B)]) :: (K ++ (d ++ (e ++ (a ++ (c ++ R))))) = hp' ∧ OS 83 (OT.fr (RT.key ads)) b'.w (sv am t an) t K) := by
 refine fE 28 Tryz.func37 rfl Tryz.ntmps37 rfl ?_
 unfold F3 at hm
 refine Cr<|aS rfl<|Te<|Cr<|aS rfl<|Te<|Cs<|Cr<|mV rfl<|tS (sN rfl)<|tS (sF rfl q2U)<|tS (sL 0 rfl q8m rfl rfl) ?_
 obtain ⟨_, ai, hm⟩ := bS hm
 refine q1n d e a c<|q1n c d e a<|z3h [] [_] a c (d ++ (e ++ R)) rfl<|Tg _ rfl z9d rfl (z1O _ _ S T ads B a c aw aG ai) ?_
 rintro _ aZ _ j ⟨aH, rfl, rfl⟩
 refine z7x [_] [_] a c (d ++ (e ++ R)) rfl ?_
 obtain ⟨u, aj, hm⟩ := bS hm
 refine q8Y a c<|q8Y c a<|z3h [_] [_] a c (d ++ (e ++ R)) rfl<|Tg _ rfl z9e rfl (q6v _ _ S T ads aH B a c (aw.le j) (aG.le j) u aj) ?_
 rintro _ aI _ x ⟨aJ, aK, f, rfl, rfl, ao⟩
 refine z0h [_] [_] f a c (d ++ (e ++ R)) rfl<|tS (sE rfl z5x)<|mV rfl<|Te<|Cb ?_
 have aT : u.length ≤ 9223372036854775807 := (OS.len ao)
 refine Cp 1 rfl<|z1H f a c<|z1H c f a<|q4g a c f d e<|q4g e a c f d<|q4g d e a c f ?_
 obtain ⟨o, ax, ay⟩ := bS hm
 refine lS (fun aq => fun o => fun y e' hp' => ∃ q s g, [(0, pb J), (3, sv q o s), (11, sv aJ u aK), (12, iv ((u.length : Int))), (13, iv ((aq : Int)))] = e' ∧ (J, Cl 78 [sv U C V, sv W D X, sv Y E Z, sv aa F ab, sv ac G ad, sv ae H af, sv ag I ah, sv A3 z c4, sv A8 A c9, .map (some B)]) :: (g ++ (f ++ (d ++ (e ++ (a ++ (c ++ R)))))) = hp' ∧ aI.Le y ∧ OS 83 (OT.fr (RT.key ads)) y.w (sv q o s) o g) ax ⟨none, 0, [], rfl, rfl, lr, OS.nil⟩ ?_ ?_
 rintro aq o y _ _ aU aL ⟨q, s, g, rfl, rfl, h, L⟩ m
 unfold q0j at m
 have hm := m
 refine Cr<|tS (lT rfl rfl (by omega))<|Te<|Cs<|w6 rfl<|Ck<|Xn<|Cs<|Cb<|Cr ?_
 obtain ⟨ar, aM, hm⟩ := bS hm
 obtain ⟨aN, az, aA⟩ := iS aM
 obtain ⟨aV, aW, a0, a1, aX, aB, ak, aC, al, aY, aR⟩ := OS.get (sz := 1) rfl (by decide) (ao.le h) aA
 obtain ⟨rfl, rfl⟩ := aB
 refine tS (sI aN rfl rfl az al aC z5x)<|tS (k9 rfl Q3 (fun w ho => ak w _ ho (.cons _ (ss g (Kb _ _))) 0 _ rfl))<|aS rfl<|Te<|Cg<|mV rfl<|mV rfl<|tS (sN rfl)<|tS (sF rfl q2U)<|tS (sL 0 rfl q8m rfl rfl)<|mV rfl ?_
 obtain ⟨n, aO, hm⟩ := bS hm
 have aD := Kd aO
 obtain ⟨au, p, aE⟩ := OM.lookF j0g (z0 := none) (aw.le (j.trans (x.trans h))) (key := iv ar) (k := ar) rfl q5n z5i rfl
 rw [aD] at p
 obtain rfl : au = kv ads n := by have p : [au] = [kv ads n] := p; injection p
 refine tS (q5d (ok := false) rfl rfl (fun w ho => aE _ w ho (.cons _ (ss g (ss f (ss d (ss e (Kb _ _)))))) false))<|tD (J8 (el := 83) [(0, kv ads n)] [kv ads n] rfl (fun _ => by cases n <;> kernel_rfl)) ?_
 rintro _ _ ⟨a2, rfl, rfl⟩
 obtain ⟨_, O, hm⟩ := bS hm
 have O := J9 O
 refine tD (uQ (r := (RT.key ads)) (l := o) [_, _] (f ++ (d ++ (e ++ (a ++ (c ++ R))))) [[kv ads n]] [n] rfl (Nat.succ_pos _) z9M j3s rfl rfl rfl rfl L rfl (fun w ho => Rd.own (i := 0) ho rfl) ⟨rfl, trivial⟩ O) ?_
 rintro _ _ ⟨aF, rfl, av⟩
 obtain ⟨aP, aQ, rfl, _⟩ := av.form
 refine aS rfl<|Tn<|Xm<|Xn<|Cg<|tS (sa rfl rfl (by omega))<|mV rfl<|Tn ?_
 obtain rfl := o1 hm
 exact jS ⟨aP, aQ, aF, rfl, rfl, (h), av⟩
 rintro y _ _ ⟨q, s, g, rfl, rfl, h, L⟩
 have hm := ay
 refine Cr<|tS (lF rfl rfl (by omega))<|Te<|Cs<|v8 rfl<|Ce<|Xe<|Xe<|Xo<|Xn<|Cr<|mV rfl<|aS rfl<|Te<|Ct ?_
 obtain rfl := o1 hm
 exact rO ⟨q, s, g, rfl, rfl, L⟩ (j.trans (x.trans h))
end Go.Proofs.YtjlollifgeggdaaGreatDoor
