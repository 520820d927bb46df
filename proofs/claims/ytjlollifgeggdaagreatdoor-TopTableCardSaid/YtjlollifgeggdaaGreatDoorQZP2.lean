import Derived.Test.YtjlollifgeggdaaGreatDoorQZP1
set_option linter.unusedVariables false
set_option linter.unusedSimpArgs false
set_option linter.unusedSectionVars false
namespace Go.Proofs.YtjlollifgeggdaaGreatDoor
open Go.RowKit Go.Fp
set_option maxRecDepth 20000
set_option maxHeartbeats 4000000
open Go.Fp renaming q3U → Te, q5t → Tn, q4y → Tb, q8c → Tg, z0k → Tv, z3g → Tr, q5p → Cr, q2t → Cs, q0r → Cg, q6V → Cb, q3B → Ct, q3r → Ck, z1L → Ce, z4d → Cj, z2U → Cp, Q0 → Xn, W5 → Xr, q1R → Xe, q1S → Xb, q1d → Xm, q2L → Xo, q6F → Xi, z9p → Es, z7f → E0, z8C → Ey, j2U → Yz, j0P → Ei, j3V → El, z5c → Eo, z7g → Da, z2a → Dd, z1b → Di, j2R → Rd2, z7c → Rn, q7W → Rg, z0l → sL, q7F → sD, q7G → sF, z1h → sN, z1i → sE, q2O → sM, q1w → sA, q5M → pT, q5N → pF, q1r → sI, q1T → sO, q3g → sP, q2m → sQ, z1k → sa, z5u → sb, q5P → lT, q5Q → lF, z3p → eT, z3q → eF, q5O → sn2, q7H → sB, z4q → uB, q7Z → uA, z0b → uS, q3T → uN, q7D → uW, z0c → uP, z0d → uQ, q4J → fE, q9t → bS, z4w → o1, q5g → iS, q5L → ss, z2m → sp, q7T → kS, q6p → d3, z7P → mc, z7O → mn, q9E → q1, q9B → q2, q9C → q3, q9D → q5, z3o → q6
theorem q7p (b : v7) (R : Hp) (t : j1) (j : z8) (A2 c3 A5 c6 A8 c9 ad ae af ag U V) (h4 : FZ RT.str b.w A2 c3 t.Stations) (h7 : FZ j5 b.w A5 c6 t.Sections) (bH : FZ w9 b.w A8 c9 t.Links) (aQ : FZ j6 b.w ad ae t.Signals) (bI : FZ k7 b.w af ag t.Gates) (bf : FZ Z3 b.w U V j.Steps) (W) (hm : q2q t j = some W):
 w5 Tryz.prog 61 [.agg #[sv A2 t.Stations c3, sv A5 t.Sections c6, sv A8 t.Links c9, sv ad t.Signals ae, sv af t.Gates ag], .agg #[iv j.From, iv j.To, sv U j.Steps V]] b (R) (fun v b' hp' => ∃ ay az ar, sv ay W az = v ∧ (ar ++ R) = hp' ∧ OS 62 (OT.fr Z3) b'.w (sv ay W az) W ar) := by
 refine fE 83 Tryz.func61 rfl Tryz.ntmps61 rfl ?_
 unfold q2q at hm
 refine Cr<|tD (uB _ rfl rfl) ?_
 rintro _ _ ⟨m, rfl, rfl⟩
 refine tD (uB _ rfl rfl) ?_
 rintro _ _ ⟨n, rfl, rfl⟩
 refine aS rfl<|Te<|Cs<|Cr<|tS (sF rfl q2V)<|tS (sL 0 rfl Q3 rfl rfl)<|tS (q3 rfl rfl)<|Te<|cI hm rfl (fun hm => ?_) fun hm => ?_
 refine Cr<|aS rfl<|Te<|Ct<|Xr ?_
 obtain rfl := o1 hm
 exact rO ⟨none, 0, [], rfl, rfl, OS.nil⟩ lr
 refine Ck<|Xn<|Cr<|aS rfl<|Te ?_
 obtain ⟨⟨bg, bh⟩, aR, aT⟩ := bS hm
 refine Cj (fun X e' hp' => ∃ k, [(2, pb m), (3, pb n), (5, sn), (6, pb k)] = e' ∧ (m, Cl 28 [sv A2 t.Stations c3, sv A5 t.Sections c6, sv A8 t.Links c9, sv ad t.Signals ae, sv af t.Gates ag]) :: (n, Cl 36 [iv j.From, iv j.To, sv U j.Steps V]) :: (k, Cl 131 [iv bg, iv bh]) :: R = hp' ∧ b.Le X) ?_ ?_
 have hm := aR
 obtain ⟨aA, bi, hm⟩ := bS hm
 obtain ⟨aB, bj, hm⟩ := bS hm
 refine Di mixed (.refl _)<|E0 0 rfl (sF rfl q3z)<|Es 1 rfl (sL 1 rfl q9f rfl rfl)<|E0 2 rfl (sF rfl q2V)<|Es 3 rfl (sL 0 rfl Q3 rfl rfl) ?_
 obtain ⟨bk, aU, aV⟩ := iS bi
 obtain ⟨bz, aW, aC, au, aD⟩ := FZ.get (sz := 2) rfl (by decide) aQ aV
 obtain ⟨_, _, rfl, rfl, rfl⟩ := aW
 refine E0 4 rfl (sI bk rfl rfl aU aD au z3s)<|E0 5 rfl (sQ rfl au q3n)<|Es 6 rfl (sO rfl Q3 (aC 0 _ rfl))<|E0 7 rfl (sF rfl q3z)<|Es 8 rfl (sL 1 rfl q9f rfl rfl)<|E0 9 rfl (sF rfl q2V)<|Es 10 rfl (sL 0 rfl Q3 rfl rfl) ?_
 obtain ⟨bl, aX, aY⟩ := iS bj
 obtain ⟨bA, aZ, aE, av, aF⟩ := FZ.get (sz := 2) rfl (by decide) aQ aY
 obtain ⟨_, _, rfl, rfl, rfl⟩ := aZ
 refine E0 11 rfl (sI bl rfl rfl aX aF av z3s)<|E0 12 rfl (sQ rfl av q6m)<|Es 13 rfl (sO rfl Q3 (aE 1 _ rfl))<|E0 14 rfl (sB (v := .agg #[iv aA.Section, iv aB.End]) [(0, iv aA.Section), (1, iv aB.End)] rfl (fun _ => by kernel_rfl))<|Eo<|Da [15] (by kernel_rfl) rfl<|Rd2 lr rfl rfl (uA [iv 0, iv 0] q1Q rfl) ?_ ?_
 rintro _ _ ⟨bm, rfl, rfl⟩
 refine iR<|Da [16] (by kernel_rfl) rfl<|Rd2 lr rfl rfl (uN (vs := [_, _]) 0 2 rfl rfl rfl q2v rfl (mc rfl (mc rfl mn)) rfl (by simp)) ?_ ?_
 rintro _ _ rfl
 refine ⟨.inl (by kernel_rfl), ?_⟩
 refine Dd (by kernel_rfl) ?_
 obtain ⟨rfl, rfl⟩ := W4 hm
 exact jJ ⟨bm, rfl, rfl, lr⟩
 exact Rn
 exact Rn
 rintro X _ _ ⟨k, rfl, rfl, c⟩
 have hm := V8 aT
 obtain ⟨ai, a0, a1⟩ := bS hm
 refine Cj (fun aj e' hp' => ∃ Y Z H, [(5, sv Y ai Z)] = e' ∧ (H ++ R) = hp' ∧ X.Le aj ∧ OS 62 (OT.fr Z3) aj.w (sv Y ai Z) ai H) ?_ ?_
 have hm := a0
 refine Cr<|aS rfl<|Te<|Cb<|lL (z7k fun J C D g => fun aa e' hp' => ∃ p q f, [(2, pb m), (3, pb n), (5, sv p g q), (6, pb k), (7, iv J)] = e' ∧ (m, Cl 28 [sv A2 t.Stations c3, sv A5 t.Sections c6, sv A8 t.Links c9, sv ad t.Signals ae, sv af t.Gates ag]) :: (n, Cl 36 [iv j.From, iv j.To, sv U j.Steps V]) :: (k, Cl 131 [iv C, iv D]) :: (f ++ R) = hp' ∧ X.Le aa ∧ OS 62 (OT.fr Z3) aa.w (sv p g q) g f) hm ⟨none, 0, [], rfl, rfl, lr, OS.nil⟩ ?_
 rintro ⟨J, C, D, g⟩ aa _ _ bB ⟨p, q, f, rfl, rfl, a, K⟩ F L
 unfold q0p at F
 have hm := z5q F
 refine Cs<|Cr<|mV rfl<|tS (q3 rfl rfl)<|Te<|cI hm rfl (fun hm => ?_) fun hm => ?_
 refine Ck<|Xn<|Cb<|Cr<|tS (sB (v := .agg #[iv 0, iv 0, iv 0]) [] rfl (fun _ => by kernel_rfl))<|tD (uA [iv 0, iv 0, iv 0] q7h rfl) ?_
 rintro _ _ ⟨E, rfl, rfl⟩
 refine tD (uA [.bool false] z7o rfl) ?_
 rintro _ _ ⟨ab, rfl, rfl⟩
 refine tD (uN (vs := [_, _, _]) 1 3 rfl rfl rfl z0p rfl (mc rfl (mc rfl (mc rfl mn))) rfl (by simp)) ?_
 rintro _ _ rfl
 refine tD (uS 0 rfl rfl z5y rfl rfl (by simp)) ?_
 rintro _ _ rfl
 refine Te ?_
 obtain ⟨⟨e, A, u, aG⟩, a2, a3⟩ := bS hm
 refine Cj (fun ak e' hp' => [(2, pb m), (3, pb n), (5, sv p g q), (6, pb k), (7, iv J), (8, pb E), (9, pb ab)] = e' ∧ (m, Cl 28 [sv A2 t.Stations c3, sv A5 t.Sections c6, sv A8 t.Links c9, sv ad t.Signals ae, sv af t.Gates ag]) :: (n, Cl 36 [iv j.From, iv j.To, sv U j.Steps V]) :: (k, Cl 131 [iv C, iv D]) :: (E, Cl 62 [iv e, iv A, iv u]) :: (ab, Cl 4 [bv aG]) :: (f ++ R) = hp' ∧ aa.Le ak) ?_ ?_
 have hm := a2
 refine Cr<|tS (sD (vs := [_, _, _, _, _]) 2 5 rfl G7 rfl rfl rfl)<|tS (sD (vs := [_, _]) 4 2 rfl q1P rfl rfl rfl) ?_
 obtain ⟨bn, aH, hm⟩ := bS hm
 have zz := c.trans a
 refine Tg _ rfl z8W rfl (z1Q _ _ t (⟨C, D⟩ : j8) A2 c3 A5 c6 A8 c9 ad ae af ag (h4.le zz) (h7.le zz) (bH.le zz) (aQ.le zz) (bI.le zz) bn aH) ?_
 rintro _ bo _ O ⟨bJ, rfl, rfl, bp⟩
 refine Te<|Cb ?_
 obtain ⟨bK, a4, I⟩ := bS hm
 refine Cp 1 rfl<|Cp 4 rfl<|Cp 4 rfl<|Cp 4 rfl ?_
 refine z4c (fun x : w7 => (.agg #[iv x.Section, iv x.In, iv x.Out] : Value)) (fun _ => fun al hp' => (m, Cl 28 [sv A2 t.Stations c3, sv A5 t.Sections c6, sv A8 t.Links c9, sv ad t.Signals ae, sv af t.Gates ag]) :: (n, Cl 36 [iv j.From, iv j.To, sv U j.Steps V]) :: (k, Cl 131 [iv C, iv D]) :: (E, Cl 62 [iv 0, iv 0, iv 0]) :: (ab, Cl 4 [bv false]) :: (f ++ R) = hp' ∧ bo.Le al) rfl bp a4 (e' := [(2, pb m), (3, pb n), (5, sv p g q), (6, pb k), (7, iv J), (8, pb E), (9, pb ab)]) ⟨rfl, rfl, rfl, rfl, rfl, rfl, rfl, trivial⟩ (.refl _) rfl (fun dk hdk => ⟨rfl, v7.Le.dks hdk⟩) ?_ ?_ (fun x hx => (c.trans (a.trans O)).dk x hx)
 rintro bL bM bN _ al bO _ bC ⟨rfl, S⟩ aI G am
 unfold q1D at G
 have hm := G
 refine Cg<|tD (uA [iv 0, iv 0, iv 0] q7h rfl) ?_
 rintro _ _ ⟨bP, rfl, rfl⟩
 refine tD (uN (vs := [_, _, _]) 0 3 rfl rfl rfl z0p rfl (mc rfl (mc rfl (mc rfl mn))) rfl (by simp)) ?_
 rintro _ _ rfl
 refine Tn<|z5n 1 rfl<|Cb<|Cr<|tS (sD (vs := [_, _, _]) 1 3 rfl q8Q rfl rfl rfl)<|tD (uN (vs := [_, _, _]) 5 3 rfl rfl rfl z0p rfl (mc rfl (mc rfl (mc rfl mn))) rfl (by simp)) ?_
 rintro _ _ rfl
 refine tD (uS 6 rfl rfl z5y rfl rfl (by simp)) ?_
 rintro _ _ rfl
 refine Te<|Ce<|Xi rfl<|z9u 0 rfl lr<|Ce<|Xo ?_
 have a5 := am _ (Kd hm).symm
 rw [a5] at I
 have hm := V6 I
 obtain ⟨rfl, rfl, rfl, rfl⟩ := z9L hm
 exact jJ ⟨rfl, rfl, (O.trans (S.trans aI))⟩
 rintro _ al _ ⟨rfl, S⟩ a6
 rw [a6] at I
 have hm := G6 I
 refine Xm ?_
 obtain ⟨rfl, rfl, rfl, rfl⟩ := z9L hm
 exact jJ ⟨rfl, rfl, (O.trans S)⟩
 rintro ak _ _ ⟨rfl, rfl, d⟩
 have hm := z5q a3
 refine Cs ?_
 obtain ⟨bq, a7, a8⟩ := bS hm
 refine Cj (fun aJ e' hp' => [(2, pb m), (3, pb n), (5, sv p g q), (6, pb k), (7, iv J), (8, pb E), (63, bv bq)] = e' ∧ (m, Cl 28 [sv A2 t.Stations c3, sv A5 t.Sections c6, sv A8 t.Links c9, sv ad t.Signals ae, sv af t.Gates ag]) :: (n, Cl 36 [iv j.From, iv j.To, sv U j.Steps V]) :: (k, Cl 131 [iv C, iv D]) :: (E, Cl 62 [iv e, iv A, iv u]) :: (f ++ R) = hp' ∧ ak.Le aJ) ?_ ?_
 have hm := a7
 rcases Kg aG with s | s
 rw [if_pos s] at hm
 obtain ⟨ac, T, hm⟩ := bS hm
 rcases Kg ac with z | z
 rw [if_pos z] at hm
 refine Di mixed (.refl _)<|Es 0 rfl (stB (sL 4 rfl q7k rfl rfl) s)<|E0 1 rfl (H6 rfl)<|E0 2 rfl (sM rfl)<|Yz 3 39 rfl (sF rfl q1I)<|Ey 4 39 rfl (sL 1 rfl q4u rfl rfl)<|Yz 5 39 rfl (sF rfl Y6)<|Ey 6 39 rfl (sL 3 rfl Q3 rfl rfl)<|Eo<|Da [7] (by kernel_rfl) rfl<|q3c lr rfl rfl 39 rfl rfl rfl (uW _ q6s rfl (fun w ho => F5 _ [] j.Steps e U V ((bf.le (c.trans (a.trans d))).old ho) ac T) (fun _ _ _ h => h.2.symm)) ?_ ?_
 rintro _ _ ⟨⟨_, rfl, _⟩, rfl⟩
 refine iR<|q1J 44 rfl (v' := .bool true) (by rw [z])<|Ei lr (.refl _)<|E0 8 rfl (pF rfl rfl)<|E0 9 rfl (sM rfl)<|eN 10 rfl<|eN 11 rfl<|eN 12 rfl<|eN 13 rfl<|E0 14 rfl (pT rfl rfl)<|E0 15 rfl (sM rfl)<|eN 16 rfl<|eN 17 rfl<|eN 18 rfl<|eN 19 rfl<|eN 20 rfl<|eN 21 rfl<|eN 22 rfl<|eN 23 rfl<|eN 24 rfl<|eN 25 rfl<|E0 26 rfl (pT rfl rfl)<|Eo<|Dd (by kernel_rfl) ?_
 obtain rfl := o1 hm
 exact jJ ⟨rfl, rfl, lr⟩
 exact Rn
 rw [if_neg (fun hh => Bool.noConfusion (hh.symm.trans z))] at hm
 obtain ⟨an, ah, hm⟩ := bS hm
 rcases Kg an with B | B
 rw [if_pos B] at hm
 refine Di mixed (.refl _)<|Es 0 rfl (stB (sL 4 rfl q7k rfl rfl) s)<|E0 1 rfl (H6 rfl)<|E0 2 rfl (sM rfl)<|Yz 3 39 rfl (sF rfl q1I)<|Ey 4 39 rfl (sL 1 rfl q4u rfl rfl)<|Yz 5 39 rfl (sF rfl Y6)<|Ey 6 39 rfl (sL 3 rfl Q3 rfl rfl)<|Eo<|Da [7] (by kernel_rfl) rfl<|q3c lr rfl rfl 39 rfl rfl rfl (uW _ q6s rfl (fun w ho => F5 _ [] j.Steps e U V ((bf.le (c.trans (a.trans d))).old ho) ac T) (fun _ _ _ h => h.2.symm)) ?_ ?_
 rintro _ _ ⟨⟨_, rfl, _⟩, rfl⟩
 refine iR<|q1J 44 rfl (v' := .bool false) (by rw [z])<|Ei lr (.refl _)<|E0 8 rfl (pF rfl rfl)<|E0 9 rfl (sM rfl)<|Yz 10 46 rfl (sM rfl)<|Yz 11 46 rfl (sF rfl Y6)<|Ey 12 46 rfl (sL 3 rfl Q3 rfl rfl)<|Eo<|Da [13] (by kernel_rfl) rfl ?_
 refine q3c lr rfl rfl 46 rfl rfl rfl (uW _ q6s rfl (fun w ho => F5 _ [] g e p q (OS.now (o := (OT.fr Z3)) (l := g) (hs := f) (K.le d) ho (.cons _ (.cons _ (.cons _ (.cons _ (.cons _ (Kb _ _))))))) an ah) (fun _ _ _ h => h.2.symm)) ?_ ?_
 rintro _ _ ⟨⟨_, rfl, _⟩, rfl⟩
 refine iR<|q1J 50 rfl (v' := .bool true) (by rw [B])<|Ei lr (.refl _)<|E0 14 rfl (pF rfl rfl)<|E0 15 rfl (sM rfl)<|eN 16 rfl<|eN 17 rfl<|eN 18 rfl<|eN 19 rfl<|eN 20 rfl<|eN 21 rfl<|eN 22 rfl<|eN 23 rfl<|eN 24 rfl<|eN 25 rfl<|E0 26 rfl (pT rfl rfl)<|Eo<|Dd (by kernel_rfl) ?_
 obtain rfl := o1 hm
 exact jJ ⟨rfl, rfl, lr⟩
 exact Rn
 exact Rn
 rw [if_neg (fun hh => Bool.noConfusion (hh.symm.trans B))] at hm
 obtain ⟨bQ, br, hm⟩ := bS hm
 refine Di mixed (.refl _)<|Es 0 rfl (stB (sL 4 rfl q7k rfl rfl) s)<|E0 1 rfl (H6 rfl)<|E0 2 rfl (sM rfl)<|Yz 3 39 rfl (sF rfl q1I)<|Ey 4 39 rfl (sL 1 rfl q4u rfl rfl)<|Yz 5 39 rfl (sF rfl Y6)<|Ey 6 39 rfl (sL 3 rfl Q3 rfl rfl)<|Eo<|Da [7] (by kernel_rfl) rfl ?_
 have zy := c.trans (a.trans d)
 refine q3c lr rfl rfl 39 rfl rfl rfl (uW _ q6s rfl (fun w ho => F5 _ [] j.Steps e U V ((bf.le zy).old ho) ac T) (fun _ _ _ h => h.2.symm)) ?_ ?_
 rintro _ _ ⟨⟨_, rfl, _⟩, rfl⟩
 refine iR<|q1J 44 rfl (v' := .bool false) (by rw [z])<|Ei lr (.refl _)<|E0 8 rfl (pF rfl rfl)<|E0 9 rfl (sM rfl)<|Yz 10 46 rfl (sM rfl)<|Yz 11 46 rfl (sF rfl Y6)<|Ey 12 46 rfl (sL 3 rfl Q3 rfl rfl)<|Eo<|Da [13] (by kernel_rfl) rfl ?_
 refine q3c lr rfl rfl 46 rfl rfl rfl (uW _ q6s rfl (fun w ho => F5 _ [] g e p q (OS.now (o := (OT.fr Z3)) (l := g) (hs := f) (K.le d) ho (.cons _ (.cons _ (.cons _ (.cons _ (.cons _ (Kb _ _))))))) an ah) (fun _ _ _ h => h.2.symm)) ?_ ?_
 rintro _ _ ⟨⟨_, rfl, _⟩, rfl⟩
 refine iR<|q1J 50 rfl (v' := .bool false) (by rw [B])<|Ei lr (.refl _)<|E0 14 rfl (pF rfl rfl)<|E0 15 rfl (sM rfl)<|Yz 16 52 rfl (sF rfl Y6)<|Ey 17 52 rfl (sL 3 rfl Q3 rfl rfl)<|Yz 18 52 rfl (sF rfl q3z)<|Ey 19 52 rfl (sL 0 rfl q9f rfl rfl)<|Yz 20 52 rfl (sF rfl q4M)<|Ey 21 52 rfl (sL 1 rfl Q3 rfl rfl) ?_
 obtain ⟨bs, a9, ba⟩ := iS br
 obtain ⟨bD, bb, aK, aw, aL⟩ := FZ.get (sz := 2) rfl (by decide) (aQ.le zy) ba
 obtain ⟨_, _, rfl, rfl, rfl⟩ := bb
 refine Yz 22 52 rfl (sI bs rfl rfl a9 aL aw z3s)<|Yz 23 52 rfl (sQ rfl aw q3n)<|Ey 24 52 rfl (sO rfl Q3 (aK 0 _ rfl))<|Yz 25 52 rfl (q1 rfl rfl)<|E0 26 rfl (pF rfl rfl)<|Eo<|Dd (by kernel_rfl) ?_
 obtain rfl := o1 hm
 exact jJ ⟨rfl, rfl, lr⟩
 exact Rn
 exact Rn
 rw [if_neg (fun hh => Bool.noConfusion (hh.symm.trans s))] at hm
 refine Di mixed (.refl _)<|Es 0 rfl (stB (sL 4 rfl q7k rfl rfl) s)<|E0 1 rfl (q0e rfl)<|E0 2 rfl (sM rfl)<|eN 3 rfl<|eN 4 rfl<|eN 5 rfl<|eN 6 rfl<|eN 7 rfl<|E0 8 rfl (pT rfl rfl)<|E0 9 rfl (sM rfl)<|eN 10 rfl<|eN 11 rfl<|eN 12 rfl<|eN 13 rfl<|E0 14 rfl (pT rfl rfl)<|E0 15 rfl (sM rfl)<|eN 16 rfl<|eN 17 rfl<|eN 18 rfl<|eN 19 rfl<|eN 20 rfl<|eN 21 rfl<|eN 22 rfl<|eN 23 rfl<|eN 24 rfl<|eN 25 rfl<|E0 26 rfl (pT rfl rfl)<|Eo<|Dd (by kernel_rfl) ?_
 obtain rfl := o1 hm
 exact jJ ⟨rfl, rfl, lr⟩
 rintro aJ _ _ ⟨rfl, rfl, y⟩
 have hm := a8
 refine cB hm rfl (fun hm => ?_) fun hm => ?_
 refine Ce<|Xe<|Xi rfl<|Xe<|Xo ?_
 have hm := congrArg some (L _ (Kd hm).symm)
 obtain rfl := o1 hm
 exact jJ ⟨p, q, f, rfl, rfl, (a.trans (d.trans y)), (K.le (d.trans y))⟩
 refine Ck<|Xn<|Cr<|mV rfl<|tS (sD (vs := [_, _, _]) 3 3 rfl q8Q rfl rfl rfl)<|tD (J8 (el := 62) [(0, .agg #[iv e, iv A, iv u])] [iv e, iv A, iv u] rfl (fun _ => by kernel_rfl)) ?_
 rintro _ _ ⟨bR, rfl, rfl⟩
 obtain ⟨_, ao, hm⟩ := bS hm
 have ao := J9 ao
 have zx := d.trans y
 refine tD (uQ (r := Z3) (l := g) [_, _, _, _, _] R [[iv e, iv A, iv u]] [(⟨e, A, u⟩ : w7)] rfl (by decide) q8T z7S rfl rfl rfl rfl (K.le zx) rfl (fun w ho => Rd.own (i := 0) ho rfl) ⟨⟨[iv e], _, rfl, rfl, ⟨[iv A], _, rfl, rfl, rfl⟩⟩, trivial⟩ ao) ?_
 rintro _ _ ⟨bc, rfl, aM⟩
 obtain ⟨bt, bu, rfl, _⟩ := aM.form
 refine aS rfl<|Te<|Cr<|mV rfl<|tS (sF rfl q0J)<|tS (sL 1 rfl q4B rfl rfl)<|tS (sF rfl Y6)<|tS (sL 4 rfl Q3 rfl rfl) ?_
 obtain ⟨bT, bw, bE, bd, bG, be, aN, ax, aO, hm⟩ := bF (sz := 7) hm (h7.le (c.trans (a.trans zx)))
 obtain ⟨_, _, rfl, rfl, ⟨_, _, rfl, rfl, ⟨_, _, rfl, rfl, ⟨_, _, rfl, rfl, ⟨_, _, rfl, rfl, ⟨_, _, rfl, rfl, rfl⟩⟩⟩⟩⟩⟩ := be
 refine tS (sI bw rfl rfl bd aO ax z0o)<|tS (sQ rfl ax z3S)<|tS (sO rfl Q3 (aN 1 _ rfl)) ?_
 obtain ⟨_, aq, hm⟩ := bS hm
 have aq := (kS aq).2
 refine tS (sa rfl rfl aq)<|aS rfl<|Te<|Cg<|tS (sF rfl Y6)<|tS (sL 4 rfl Q3 rfl rfl)<|tS (sF rfl z0G)<|tS (sL 4 rfl Q3 rfl rfl)<|tS (sB (v := .agg #[iv e, iv u]) [(0, iv e), (1, iv u)] rfl (fun _ => by kernel_rfl))<|tD (uN (vs := [_, _]) 3 2 rfl rfl rfl q2v rfl (mc rfl (mc rfl mn)) rfl (by simp)) ?_
 rintro _ _ rfl
 refine Tn<|Xm ?_
 exact jM hm ⟨bt, bu, bc, rfl, rfl, ((a.trans zx)), aM⟩
 refine Ce<|Xe<|Xe<|Xo ?_
 have hm := congrArg some (L _ (Kd hm).symm)
 obtain rfl := o1 hm
 exact jJ ⟨p, q, f, rfl, rfl, a, K⟩
 rintro aj _ _ ⟨Y, Z, H, rfl, rfl, aP, bx⟩
 have hm := a1
 refine Cr<|mV rfl<|aS rfl<|Te<|Ct ?_
 obtain rfl := o1 hm
 exact rO ⟨Y, Z, H, rfl, rfl, bx⟩ (c.trans aP)
theorem q6B (b : v7) (R : Hp) (a : j1) (c : w7) (o p q r s t g h i j) (E : FZ RT.str b.w o p a.Stations) (x : FZ j5 b.w q r a.Sections) (y : FZ w9 b.w s t a.Links) (z : FZ j6 b.w g h a.Signals) (A : FZ k7 b.w i j a.Gates) (k) (hm : Y5 a c = some k):
 w5 Tryz.prog 63 [.agg #[sv o a.Stations p, sv q a.Sections r, sv s a.Links t, sv g a.Signals h, sv i a.Gates j], .agg #[iv c.Section, iv c.In, iv c.Out]] b (R) (fun v b' hp' => iv k = v ∧ R = hp') := by
 refine fE 18 Tryz.func63 rfl Tryz.ntmps63 rfl ?_
 unfold Y5 at hm
 refine Cr<|tD (uB _ rfl rfl) ?_
 rintro _ _ ⟨B, rfl, rfl⟩
 refine tD (uB _ rfl rfl) ?_
 rintro _ _ ⟨C, rfl, rfl⟩
 refine aS rfl<|Te<|Cs<|Cr<|tS (sF rfl q0J)<|tS (sL 1 rfl q4B rfl rfl)<|tS (sF rfl Y6)<|tS (sL 0 rfl Q3 rfl rfl) ?_
 obtain ⟨D, n, u, l, w, m, e, d, f, hm⟩ := bF (sz := 7) hm x
 obtain ⟨_, _, rfl, rfl, ⟨_, _, rfl, rfl, ⟨_, _, rfl, rfl, ⟨_, _, rfl, rfl, ⟨_, _, rfl, rfl, ⟨_, _, rfl, rfl, rfl⟩⟩⟩⟩⟩⟩ := m
 refine tS (sI n rfl rfl l f d z0o)<|tS (sQ rfl d q2l)<|tS (sO rfl Q3 (e 0 _ rfl))<|tS (q1 rfl rfl)<|Te<|cI hm rfl (fun hm => ?_) fun hm => ?_
 refine Cr<|tS (sF rfl z6n)<|tS (sL 0 rfl Q3 rfl rfl)<|tS (sF rfl z0G)<|tS (sL 0 rfl Q3 rfl rfl)<|tS (j1j rfl rfl)<|aS rfl<|Te<|Ct<|Xr ?_
 obtain rfl := o1 hm
 exact rO ⟨rfl, rfl⟩ lr
 refine Ck<|Xn<|Cr<|aS rfl<|Te<|Ct ?_
 obtain rfl := o1 hm
 exact rO ⟨rfl, rfl⟩ lr
theorem q0K (b : v7) (R : Hp) (a : q8) (q s t u x D E y j h ab F G H I J K L O S T U V W A3 c4 c A8 c9 e z f) (an : FZ RT.str b.w G H q) (ao : FZ j5 b.w I J s) (aq : FZ w9 b.w K L t) (ar : FZ j6 b.w O S u) (au : FZ k7 b.w T U x) (av : FZ Z3 b.w V W y) (h5 : OS 62 (OT.fr Z3) b.w (sv A3 j c4) j c) (ac : OS 55 (OT.fr j4) b.w (sv A8 h c9) h e) (X : (A8 = none ↔ h = [])) (Y : OM j4 (OT.fr RT.bool) true false b.w z ab f) (m ad) (hm : Q9 a q s t u x D E y j h ab = some (m, ad)):
 w5 Tryz.prog 62 [pb F, .agg #[iv a.Kind, iv a.Place, iv a.Position, iv a.At]] b ((F, Cl 136 [sv G q H, sv I s J, sv K t L, sv O u S, sv T x U, iv D, iv E, sv V y W, sv A3 j c4, sv A8 h c9, .map (some z)]) :: (c ++ (e ++ (f ++ R)))) (fun v b' hp' => ∃ Z ae A B, .tuple #[] = v ∧ (F, Cl 136 [sv G q H, sv I s J, sv K t L, sv O u S, sv T x U, iv D, iv E, sv V y W, sv A3 j c4, sv Z m ae, .map (some z)]) :: (c ++ (A ++ (B ++ R))) = hp' ∧ OS 55 (OT.fr j4) b'.w (sv Z m ae) m A ∧ (Z = none ↔ m = []) ∧ OM j4 (OT.fr RT.bool) true false b'.w z ad B) := by
 refine fE 26 Tryz.func62 rfl Tryz.ntmps62 rfl ?_
 unfold Q9 at hm
 refine Cr<|tD (uB _ rfl rfl) ?_
 rintro _ _ ⟨aw, rfl, rfl⟩
 refine Te<|Cs ?_
 obtain ⟨C, af, hm⟩ := bS hm
 refine Di mixed (.refl _)<|E0 0 rfl (sM rfl)<|E0 1 rfl (sN rfl)<|E0 2 rfl (sF rfl z3O)<|Es 3 rfl (sL 1 rfl z8S rfl rfl)<|Es 4 rfl (sD (vs := [_, _, _, _]) 0 4 rfl K8 rfl rfl rfl) ?_
 have aa := Kd af
 obtain ⟨ag, g, ah⟩ := OM.lookF j1F (z0 := false) Y (key := .agg #[iv a.Kind, iv a.Place, iv a.Position, iv a.At]) (k := a) ⟨[iv a.Kind, iv a.Place, iv a.Position, iv a.At], rfl, ⟨[iv a.Kind], _, rfl, rfl, ⟨[iv a.Place], _, rfl, rfl, ⟨[iv a.Position], _, rfl, rfl, rfl⟩⟩⟩⟩ z5W z7o rfl
 rw [aa] at g
 obtain rfl : ag = bv C := by have g : [ag] = [bv C] := g; injection g
 refine Es 5 rfl (q5d (ok := false) rfl rfl (fun w ho => ah _ w ho (.cons _ (.cons _ (ss c (ss e (Kb _ _))))) false))<|E0 6 rfl (sn2 rfl)<|Eo<|Dd (by kernel_rfl)<|Xn<|cM hm rfl (fun hm => ?_) fun hm => ?_
 refine Cs<|Di mixed (.refl _)<|E0 0 rfl (sM rfl)<|E0 1 rfl (sN rfl)<|E0 2 rfl (sF rfl z3O)<|Es 3 rfl (sL 1 rfl z8S rfl rfl)<|Es 4 rfl (sD (vs := [_, _, _, _]) 0 4 rfl K8 rfl rfl rfl)<|Eo<|j3A c e f<|Da [5] (by kernel_rfl) rfl ?_
 refine Rd2 lr rfl rfl (q7X (k := a) j1F [_, _] [] (c ++ (e ++ R)) rfl Y z5W rfl rfl rfl (⟨[iv a.Kind, iv a.Place, iv a.Position, iv a.At], rfl, ⟨[iv a.Kind], _, rfl, rfl, ⟨[iv a.Place], _, rfl, rfl, ⟨[iv a.Position], _, rfl, rfl, rfl⟩⟩⟩⟩) ⟨rfl, rfl⟩ _ (.inl rfl)) ?_ ?_
 rintro _ _ ⟨d, rfl, ai, aj⟩
 refine ⟨.inl (by kernel_rfl), ?_⟩
 refine Dd (by kernel_rfl)<|Xn ?_
 obtain ⟨_, n, hm⟩ := bS hm
 refine Di mixed (.cons_cons _ (.cons_cons _ (sp d (sp c (ss e (.refl _))))))<|E0 0 rfl (sM rfl)<|E0 1 rfl (sM rfl)<|E0 2 rfl (sN rfl)<|E0 3 rfl (sF rfl q7O)<|Es 4 rfl (sL 1 rfl q5j rfl rfl)<|Es 5 rfl (sD (vs := [_, _, _, _]) 0 4 rfl K8 rfl rfl rfl)<|Eo<|Da [6] (by kernel_rfl) rfl ?_
 refine Rd2 lr rfl rfl (J8 (el := 55) [(0, .agg #[iv a.Kind, iv a.Place, iv a.Position, iv a.At])] [iv a.Kind, iv a.Place, iv a.Position, iv a.At] rfl (fun _ => by kernel_rfl)) ?_ ?_
 rintro _ _ ⟨am, rfl, rfl⟩
 refine iR ?_
 have n := J9 n
 refine z8l d c e<|Da [7] (by kernel_rfl) rfl<|Rd2 lr rfl rfl (uQ (r := j4) (l := h) [_, _, _] (d ++ (c ++ R)) [[iv a.Kind, iv a.Place, iv a.Position, iv a.At]] [a] rfl (by decide) q3C z7T rfl rfl rfl rfl ac rfl (fun w ho => Rd.own (i := 0) ho rfl) ⟨⟨[iv a.Kind], _, rfl, rfl, ⟨[iv a.Place], _, rfl, rfl, ⟨[iv a.Position], _, rfl, rfl, rfl⟩⟩⟩, trivial⟩ n) ?_ ?_
 rintro _ _ ⟨o, rfl, p⟩
 obtain ⟨ak, al, rfl, _⟩ := p.form
 refine iR<|Ei lr (.cons _ (.cons_cons _ (.cons_cons _ (ss o (.refl _)))))<|E0 8 rfl (sN rfl)<|E0 9 rfl (sF rfl q7O)<|Eo<|Da [10] (by kernel_rfl) rfl<|Rd2 lr rfl rfl (uS 2 rfl rfl z9P rfl rfl (by simp)) ?_ ?_
 rintro _ _ rfl
 refine ⟨.inl (by kernel_rfl), ?_⟩
 refine Dd (by kernel_rfl) ?_
 obtain ⟨rfl, rfl⟩ := W4 hm
 exact eZ ⟨ak, al, o, d, rfl, rfl, p, (OS.nz p (by simp)), aj⟩ lr
 exact Rn
 exact Rn
 exact Rn
 exact Rn
 refine Ck ?_
 obtain ⟨rfl, rfl⟩ := W4 hm
 exact eZ ⟨A8, c9, e, f, rfl, rfl, ac, X, Y⟩ lr
theorem q6C (b : v7) (R : Hp) (e : q8) (j k l m f) (hm : q0q e j k = some f):
 w5 Tryz.prog 123 [.agg #[iv e.Kind, iv e.Place, iv e.Position, iv e.At], pb l, pb m] b ((l, Cl 3 [iv j]) :: (m, Cl 3 [iv k]) :: R) (fun v b' hp' => bv f = v ∧ (l, Cl 3 [iv j]) :: (m, Cl 3 [iv k]) :: R = hp') := by
 refine fE 20 Tryz.func123 rfl Tryz.ntmps123 rfl ?_
 unfold q0q at hm
 refine Cr<|tD (uB _ rfl rfl) ?_
 rintro _ _ ⟨o, rfl, rfl⟩
 refine aS rfl<|Te ?_
 obtain ⟨n, g, h⟩ := bS hm
 refine Cj (fun i e' hp' => [(4, bv n)] = e' ∧ (l, Cl 3 [iv j]) :: (m, Cl 3 [iv k]) :: R = hp' ∧ b.Le i) ?_ ?_
 have hm := g
 refine Cg<|tS (sF rfl q1b)<|tS (sL 0 rfl Q3 rfl rfl)<|Tb rfl (q1 rfl rfl) (fun a => ?_) (fun a => ?_)
 rw [if_pos a] at hm
 refine mV rfl<|yS<|tS (sF rfl q4L)<|yS<|tS (sL 0 rfl Q3 rfl rfl)<|yS<|tS (sL 1 rfl Q3 rfl rfl)<|yS<|Tb rfl (q1 rfl rfl) (fun c => ?_) (fun c => ?_)
 rw [if_pos c] at hm
 refine tS (pT rfl rfl)<|mV rfl<|yS<|tS (sF rfl q1H)<|yS<|tS (sL 0 rfl Q3 rfl rfl)<|yS<|tS (sL 2 rfl Q3 rfl rfl)<|yS<|tS (q1 rfl rfl)<|tS (pT rfl rfl)<|aS rfl<|Tn ?_
 obtain rfl := o1 hm
 exact jJ ⟨rfl, rfl, lr⟩
 rw [if_neg c] at hm
 refine tS (pT rfl rfl)<|mV rfl<|nO<|nO<|nO<|nO<|tS (pF rfl rfl)<|aS rfl<|Tn ?_
 obtain rfl := o1 hm
 exact jJ ⟨rfl, rfl, lr⟩
 rw [if_neg a] at hm
 refine mV rfl<|nO<|nO<|nO<|nO<|tS (pF rfl rfl)<|mV rfl<|nO<|nO<|nO<|nO<|tS (pF rfl rfl)<|aS rfl<|Tn ?_
 obtain rfl := o1 hm
 exact jJ ⟨rfl, rfl, lr⟩
 rintro i _ _ ⟨rfl, rfl, d⟩
 have hm := h
 refine Ct ?_
 obtain rfl := o1 hm
 exact rO ⟨rfl, rfl⟩ d
theorem q6A (b : v7) (R : Hp) (x y e o p F I k) (U : OS 55 (OT.fr j4) b.w (sv F e I) e k) (J : (F = none ↔ e = [])) (z) (hm : q0i x y e = some z):
 w5 Tryz.prog 74 [sv F e I, .func (.func 123) #[] #[pb o, pb p]] b ((o, Cl 3 [iv x]) :: (p, Cl 3 [iv y]) :: (k ++ R)) (fun v b' hp' => iv z = v ∧ (o, Cl 3 [iv x]) :: (p, Cl 3 [iv y]) :: (k ++ R) = hp') := by
 refine fE 19 Tryz.func74 rfl Tryz.ntmps74 rfl ?_
 unfold q0i at hm
 refine Cr<|aS rfl<|Te<|Cs<|Cr<|mV rfl<|tS (sE rfl q3C)<|mV rfl<|Te<|Cb ?_
 have V : e.length ≤ 9223372036854775807 := (OS.len U)
 refine Cp 1 rfl<|Cp 1 rfl ?_
 obtain ⟨ab, A, f⟩ := bS hm
 refine lF (fun B => fun _ => fun q e' hp' => [(0, sv F e I), (1, .func (.func 123) #[] #[pb o, pb p]), (7, iv ((e.length : Int))), (8, iv ((B : Int)))] = e' ∧ (o, Cl 3 [iv x]) :: (p, Cl 3 [iv y]) :: (k ++ R) = hp' ∧ b.Le q) A ⟨rfl, rfl, lr⟩ ?_ ?_
 rintro B _ q _ _ W G ⟨rfl, rfl, a⟩ c h
 unfold H7 at c
 have hm := c
 refine Cr<|tS (lT rfl rfl (by omega))<|Te<|Cs<|w6 rfl<|Ck<|Xn<|Cs<|Cb<|Cr<|mV rfl<|aS rfl<|Te<|Cr<|mV rfl<|mV rfl<|mV rfl ?_
 obtain ⟨d, K, hm⟩ := bS hm
 obtain ⟨L, C, D⟩ := iS K
 obtain ⟨X, O, Y, Z, S, r, l, i, m, T, H⟩ := OS.get (sz := 4) rfl (by decide) (U.le a) D
 obtain ⟨⟨_, _, rfl, rfl, ⟨_, _, rfl, rfl, ⟨_, _, rfl, rfl, rfl⟩⟩⟩, rfl⟩ := r
 refine tS (sI L rfl rfl C m i q3C)<|tS (Z6 (vs := [iv d.Kind, iv d.Place, iv d.Position, iv d.At]) 4 rfl K8 i rfl (fun w ho j u hu => l w _ ho (.cons _ (.cons _ (Kb _ _))) j u hu)) ?_
 obtain ⟨E, n, hm⟩ := bS hm
 refine H0 1 rfl<|H0 1 rfl<|Tv #[] #[pb o, pb p] [.agg #[iv d.Kind, iv d.Place, iv d.Position, iv d.At]] rfl rfl j0B rfl (q6C _ _ d x y o p E n) ?_
 rintro _ aa _ g ⟨rfl, rfl⟩
 refine Te<|cB hm rfl (fun hm => ?_) fun hm => ?_
 refine Cr<|mV rfl<|aS rfl<|Te<|Ct<|Xb<|Xr<|Xr<|Xb<|Xr ?_
 have s := h _ (Kd hm).symm
 rw [s] at f
 have hm := V6 f
 obtain rfl := o1 hm
 exact rO ⟨rfl, rfl⟩ (a.trans g)
 refine Ck<|Xm<|Xn<|Cg<|tS (sa rfl rfl (by omega))<|mV rfl<|Tn ?_
 exact jM hm ⟨rfl, rfl, ((a.trans g))⟩
 rintro _ q _ _ ⟨rfl, rfl, a⟩ t
 rw [t] at f
 have hm := G6 f
 refine Cr<|tS (lF rfl rfl (by omega))<|Te<|Cs<|v8 rfl<|Ce<|Xe<|Xe<|Xo<|Xn<|Cr<|aS rfl<|Te<|Ct ?_
 obtain rfl := o1 hm
 exact rO ⟨rfl, rfl⟩ a
theorem q4Z (b : v7) (R : Hp) (h i a j k l m c) (o : OS 55 (OT.fr j4) b.w (sv l a m) a c) (d : (l = none ↔ a = [])) (g) (hm : Y2 h i a = some g):
 w5 Tryz.prog 65 [sv l a m, .func (.func 123) #[] #[pb j, pb k]] b ((j, Cl 3 [iv h]) :: (k, Cl 3 [iv i]) :: (c ++ R)) (fun v b' hp' => bv g = v ∧ (j, Cl 3 [iv h]) :: (k, Cl 3 [iv i]) :: (c ++ R) = hp') := by
 refine fE 9 Tryz.func65 rfl Tryz.ntmps65 rfl ?_
 unfold Y2 at hm
 refine Cr<|aS rfl<|Te<|Cr<|mV rfl<|mV rfl ?_
 obtain ⟨n, e, hm⟩ := bS hm
 refine H0 1 rfl<|H0 1 rfl<|q4m [_, _] [] c R rfl<|Tg _ rfl z1J rfl (q6A _ _ h i a j k l m c o d n e) ?_
 rintro _ p _ f ⟨rfl, rfl⟩
 refine q2z [_, _] [] c R rfl<|tS (q6 rfl rfl)<|aS rfl<|Te<|Ct ?_
 obtain rfl := o1 hm
 exact rO ⟨rfl, rfl⟩ f
theorem q7x (b : v7) (R : Hp) (m n g h i j k o p l f c I q r s t u w x y z A B C D O S e J L d E a) (X : FZ RT.str b.w r s g) (Y : FZ j5 b.w t u h) (Z : FZ w9 b.w w x i) (aa : FZ j6 b.w y z j) (ab : FZ k7 b.w A B k) (ac : FZ Z3 b.w C D l) (h5 : OS 62 (OT.fr Z3) b.w (sv O f S) f e) (T : OS 55 (OT.fr j4) b.w (sv J c L) c d) (F : (J = none ↔ c = [])) (ad : OM j4 (OT.fr RT.bool) true false b.w E I a) (K) (hm : X1 m n g h i j k o p l f c I = some K):
 w5 Tryz.prog 104 [pb q, iv m, iv n] b ((q, Cl 136 [sv r g s, sv t h u, sv w i x, sv y j z, sv A k B, iv o, iv p, sv C l D, sv O f S, sv J c L, .map (some E)]) :: (e ++ (d ++ (a ++ R)))) (fun v b' hp' => bv K = v ∧ (q, Cl 136 [sv r g s, sv t h u, sv w i x, sv y j z, sv A k B, iv o, iv p, sv C l D, sv O f S, sv J c L, .map (some E)]) :: (e ++ (d ++ (a ++ R))) = hp') := by
 refine fE 13 Tryz.func104 rfl Tryz.ntmps104 rfl ?_
 unfold X1 at hm
 refine Cr<|tD (uB _ rfl rfl) ?_
 rintro _ _ ⟨U, rfl, rfl⟩
 refine tD (uB _ rfl rfl) ?_
 rintro _ _ ⟨V, rfl, rfl⟩
 refine aS rfl<|Te<|Cr<|mV rfl<|tS (sN rfl)<|tS (sF rfl q7O)<|tS (sL 2 rfl q5j rfl rfl)<|tS (q3V _ _ rfl rfl) ?_
 obtain ⟨W, G, hm⟩ := bS hm
 refine H0 1 rfl<|j1d e d<|q4m [_, _] [_] d (e ++ (a ++ R)) rfl<|Tg _ rfl z4a rfl (q4Z _ _ m n c U V J L d T F W G) ?_
 rintro _ ae _ H ⟨rfl, rfl⟩
 refine q2z [_, _] [_] d (e ++ (a ++ R)) rfl<|aS rfl<|Te<|Ct ?_
 obtain rfl := o1 hm
 exact rO ⟨rfl, rfl⟩ H
theorem q7b : ∀ (N : Nat) (b : v7) (R : Hp) (aV : j8) (al E y z A B C ac ad F D ah aW s t n x G H I J K L O S T U X Y A3 c4 g A8 c9 m V e) (aB : FZ RT.str b.w G H y) (aA : FZ j5 b.w I J z) (aC : FZ w9 b.w K L A) (aD : FZ j6 b.w O S B) (aE : FZ k7 b.w T U C) (aU : FZ Z3 b.w X Y F) (h5 : OS 62 (OT.fr Z3) b.w (sv A3 D c4) D g) (aF : OS 55 (OT.fr j4) b.w (sv A8 ah c9) ah m) (W : (A8 = none ↔ ah = [])) (aG : OM j4 (OT.fr RT.bool) true false b.w V aW e) (ar a1) (hm : Q8 N aV al E y z A B C ac ad F D ah aW = some (ar, a1)),
 w5 Tryz.prog 103 [.agg #[iv aV.section_, iv aV.end_], iv al, pb s, pb t, pb n] b ((s, Cl 132 [pb x]) :: (t, Cl 3 [iv E]) :: (n, Cl 181 [.func (.func 103) #[] #[pb s, pb t, pb n]]) :: (x, Cl 136 [sv G y H, sv I z J, sv K A L, sv O B S, sv T C U, iv ac, iv ad, sv X F Y, sv A3 D c4, sv A8 ah c9, .map (some V)]) :: (g ++ (m ++ (e ++ R)))) (fun v b' hp' => ∃ bb bX bc bY bd, .tuple #[] = v ∧ (s, Cl 132 [pb x]) :: (t, Cl 3 [iv E]) :: (n, Cl 181 [.func (.func 103) #[] #[pb s, pb t, pb n]]) :: (x, Cl 136 [sv G y H, sv I z J, sv K A L, sv O B S, sv T C U, iv ac, iv ad, sv X F Y, sv A3 D c4, sv bb ar bX, .map (some bY)]) :: (g ++ (bc ++ (bd ++ R))) = hp' ∧ OS 55 (OT.fr j4) b'.w (sv bb ar bX) ar bc ∧ (bb = none ↔ ar = []) ∧ OM j4 (OT.fr RT.bool) true false b'.w bY a1 bd) := by
  intro N
  induction N with
  | zero =>
    intro b R aV al E y z A B C ac ad F D ah aW s t n x G H I J K L O S T U X Y A3 c4 g A8 c9 m V e aB aA aC aD aE aU h5 aF W aG ar a1 hm
    unfold Q8 at hm
    cases hm
  | succ N ih =>
   intro b R aV al E y z A B C ac ad F D ah aW s t n x G H I J K L O S T U X Y A3 c4 g A8 c9 m V e aB aA aC aD aE aU h5 aF W aG ar a1 hm
   refine fE 122 Tryz.func103 rfl Tryz.ntmps103 rfl ?_
   unfold Q8 at hm
   refine Cr<|tD (uB _ rfl rfl) ?_
   rintro _ _ ⟨c8, rfl, rfl⟩
   refine Te ?_
   obtain ⟨⟨bZ, u, Z⟩, b3, b4⟩ := bS hm
   refine Cj (fun be e' hp' => ∃ aa, [(1, iv al), (2, pb s), (3, pb t), (4, pb n), (7, pb aa), (8, bv bZ)] = e' ∧ (s, Cl 132 [pb x]) :: (t, Cl 3 [iv E]) :: (n, Cl 181 [.func (.func 103) #[] #[pb s, pb t, pb n]]) :: (aa, Cl 131 [iv u, iv Z]) :: (x, Cl 136 [sv G y H, sv I z J, sv K A L, sv O B S, sv T C U, iv ac, iv ad, sv X F Y, sv A3 D c4, sv A8 ah c9, .map (some V)]) :: (g ++ (m ++ (e ++ R))) = hp' ∧ b.Le be) ?_ ?_
   have hm := b3
   obtain ⟨⟨b0, b1, b2⟩, a2, hm⟩ := bS hm
   have hm := (q5i hm)
   refine Di mixed (.refl _)<|Es 0 rfl (sL 1 rfl q4o rfl rfl)<|E0 1 rfl (sN rfl)<|E0 2 rfl (sF rfl q7Q)<|Es 3 rfl (sD (vs := [_, _, _, _, _]) 4 5 rfl G7 rfl rfl rfl)<|Es 4 rfl (sD (vs := [_, _]) 0 2 rfl q1P rfl rfl rfl)<|Eo<|Da [5, 9] (by kernel_rfl) rfl ?_
   refine Rg lr rfl rfl _ z1I rfl (q2a _ _ (⟨y, z, A, B, C⟩ : j1) aV G H I J K L O S T U aB aA aC aD aE b0 b1 b2 a2) ?_ ?_
   rintro _ cT _ p ⟨rfl, rfl⟩
   refine iR<|Ei p (.refl _)<|E0 6 rfl (sM rfl)<|E0 7 rfl (v6 rfl rfl)<|E0 8 rfl (v6 rfl rfl)<|Eo<|Da [9] (by kernel_rfl) rfl ?_
   refine Rd2 p rfl rfl (uA [iv 0, iv 0] q1Q rfl) ?_ ?_
   rintro _ _ ⟨bf, rfl, rfl⟩
   refine iR<|Da [10] (by kernel_rfl) rfl ?_
   refine Rd2 p rfl rfl (uN (vs := [_, _]) 0 2 rfl rfl rfl q2v rfl (mc rfl (mc rfl mn)) rfl (by simp)) ?_ ?_
   rintro _ _ rfl
   refine ⟨.inl (by kernel_rfl), ?_⟩
   refine El p<|E0 11 rfl (sA rfl)<|Eo<|Dd (by kernel_rfl) ?_
   obtain ⟨rfl, rfl, rfl⟩ := q5S hm
   exact jJ ⟨bf, rfl, rfl, p⟩
   exact Rn
   exact Rn
   refine Rd2 lr rfl rfl (uA [iv 0, iv 0] q1Q rfl) ?_ ?_
   rintro _ _ ⟨bf, rfl, rfl⟩
   refine iR<|Da [5] (by kernel_rfl) rfl ?_
   refine Rg lr rfl rfl _ z1I rfl (q2a _ _ (⟨y, z, A, B, C⟩ : j1) aV G H I J K L O S T U aB aA aC aD aE b0 b1 b2 a2) ?_ ?_
   rintro _ cT _ p ⟨rfl, rfl⟩
   refine iR<|Ei p (.cons _ (.refl _))<|E0 6 rfl (sM rfl)<|E0 7 rfl (v6 rfl rfl)<|E0 8 rfl (v6 rfl rfl)<|Eo<|Da [10] (by kernel_rfl) rfl ?_
   refine Rd2 p rfl rfl (uN (vs := [_, _]) 0 2 rfl rfl rfl q2v rfl (mc rfl (mc rfl mn)) rfl (by simp)) ?_ ?_
   rintro _ _ rfl
   refine ⟨.inl (by kernel_rfl), ?_⟩
   refine El p<|E0 11 rfl (sA rfl)<|Eo<|Dd (by kernel_rfl) ?_
   obtain ⟨rfl, rfl, rfl⟩ := q5S hm
   exact jJ ⟨bf, rfl, rfl, p⟩
   exact Rn
   exact Rn
   exact Rn
   rintro be _ _ ⟨aa, rfl, rfl, a⟩
   have hm := (q5i b4)
   refine Cs ?_
   obtain ⟨cU, b5, b6⟩ := bS hm
   refine Cj (fun a3 e' hp' => [(1, iv al), (2, pb s), (3, pb t), (4, pb n), (7, pb aa), (46, bv cU)] = e' ∧ (s, Cl 132 [pb x]) :: (t, Cl 3 [iv E]) :: (n, Cl 181 [.func (.func 103) #[] #[pb s, pb t, pb n]]) :: (aa, Cl 131 [iv u, iv Z]) :: (x, Cl 136 [sv G y H, sv I z J, sv K A L, sv O B S, sv T C U, iv ac, iv ad, sv X F Y, sv A3 D c4, sv A8 ah c9, .map (some V)]) :: (g ++ (m ++ (e ++ R))) = hp' ∧ be.Le a3) ?_ ?_
   have hm := b5
   rcases Kg bZ with ae | ae
   rw [if_pos ae] at hm
   by_cases au : al = 8
   rw [if_pos au] at hm
   refine Di mixed (.refl _)<|E0 0 rfl (stB (sM rfl) ae)<|E0 1 rfl (H6 rfl)<|E0 2 rfl (sM rfl)<|Yz 3 24 rfl (sM rfl)<|Yz 4 24 rfl (eT rfl rfl au)<|E0 5 rfl (pF rfl rfl)<|E0 6 rfl (sM rfl)<|eN 7 rfl<|eN 8 rfl ?_
   refine eN 9 rfl<|eN 10 rfl<|eN 11 rfl<|eN 12 rfl<|eN 13 rfl<|eN 14 rfl<|E0 15 rfl (pT rfl rfl)<|E0 16 rfl (sM rfl)<|eN 17 rfl<|eN 18 rfl ?_
   refine eN 19 rfl<|eN 20 rfl<|eN 21 rfl<|eN 22 rfl<|eN 23 rfl<|E0 24 rfl (pT rfl rfl)<|Eo<|Dd (by kernel_rfl) ?_
   obtain rfl := o1 hm
   exact jJ ⟨rfl, rfl, lr⟩
   rw [if_neg au] at hm
   obtain ⟨bg, a4, hm⟩ := bS hm
   rcases Kg bg with av | av
   rw [if_pos av] at hm
   refine Di mixed (.refl _)<|E0 0 rfl (stB (sM rfl) ae)<|E0 1 rfl (H6 rfl)<|E0 2 rfl (sM rfl)<|Yz 3 24 rfl (sM rfl)<|Yz 4 24 rfl (eF rfl rfl au)<|E0 5 rfl (pF rfl rfl)<|E0 6 rfl (sM rfl)<|Ey 7 28 rfl (sL 0 rfl q4o rfl rfl)<|Yz 8 28 rfl (sN rfl) ?_
   refine Yz 9 28 rfl (sF rfl q7P)<|Yz 10 28 rfl (sF rfl q1I)<|Ey 11 28 rfl (sL 4 rfl q4u rfl rfl)<|Yz 12 28 rfl (sF rfl q0V)<|Ey 13 28 rfl (sL 3 rfl Q3 rfl rfl)<|Eo<|Da [14] (by kernel_rfl) rfl ?_
   refine q3c lr rfl rfl 28 rfl rfl rfl (uW _ q6s rfl (fun w ho => F5 _ [] F u X Y ((aU.le a).old ho) bg a4) (fun _ _ _ h => h.2.symm)) ?_ ?_
   rintro _ _ ⟨⟨_, rfl, _⟩, rfl⟩
   refine iR<|q1J 36 rfl (v' := .bool true) (by rw [av])<|Ei lr (.refl _)<|E0 15 rfl (pF rfl rfl)<|E0 16 rfl (sM rfl)<|eN 17 rfl<|eN 18 rfl<|eN 19 rfl<|eN 20 rfl<|eN 21 rfl ?_
   refine eN 22 rfl<|eN 23 rfl<|E0 24 rfl (pT rfl rfl)<|Eo<|Dd (by kernel_rfl) ?_
   obtain rfl := o1 hm
   exact jJ ⟨rfl, rfl, lr⟩
   exact Rn
   rw [if_neg (fun hh => Bool.noConfusion (hh.symm.trans av))] at hm
   obtain ⟨cV, bD, hm⟩ := bS hm
   refine Di mixed (.refl _)<|E0 0 rfl (stB (sM rfl) ae)<|E0 1 rfl (H6 rfl)<|E0 2 rfl (sM rfl)<|Yz 3 24 rfl (sM rfl)<|Yz 4 24 rfl (eF rfl rfl au)<|E0 5 rfl (pF rfl rfl)<|E0 6 rfl (sM rfl)<|Ey 7 28 rfl (sL 0 rfl q4o rfl rfl)<|Yz 8 28 rfl (sN rfl) ?_
   refine Yz 9 28 rfl (sF rfl q7P)<|Yz 10 28 rfl (sF rfl q1I)<|Ey 11 28 rfl (sL 4 rfl q4u rfl rfl)<|Yz 12 28 rfl (sF rfl q0V)<|Ey 13 28 rfl (sL 3 rfl Q3 rfl rfl)<|Eo<|Da [14] (by kernel_rfl) rfl ?_
   refine q3c lr rfl rfl 28 rfl rfl rfl (uW _ q6s rfl (fun w ho => F5 _ [] F u X Y ((aU.le a).old ho) bg a4) (fun _ _ _ h => h.2.symm)) ?_ ?_
   rintro _ _ ⟨⟨_, rfl, _⟩, rfl⟩
   refine iR<|q1J 36 rfl (v' := .bool false) (by rw [av])<|Ei lr (.refl _)<|E0 15 rfl (pF rfl rfl)<|E0 16 rfl (sM rfl)<|Ey 17 38 rfl (sL 0 rfl q4o rfl rfl)<|Yz 18 38 rfl (sN rfl)<|Yz 19 38 rfl (sF rfl z3P)<|Ey 20 38 rfl (sL 4 rfl q4u rfl rfl)<|Yz 21 38 rfl (sF rfl q0V) ?_
   refine Ey 22 38 rfl (sL 3 rfl Q3 rfl rfl)<|Eo<|Da [23] (by kernel_rfl) rfl ?_
   refine q3c lr rfl rfl 38 rfl rfl rfl (uW _ q6s rfl (fun w ho => F5 _ [] D u A3 c4 (OS.now (o := (OT.fr Z3)) (l := D) (hs := g) (h5.le a) ho (.cons _ (.cons _ (.cons _ (.cons _ (.cons _ (Kb _ _))))))) cV bD) (fun _ _ _ h => h.2.symm)) ?_ ?_
   rintro _ _ ⟨⟨_, rfl, _⟩, rfl⟩
   refine iR<|Ei lr (.refl _)<|E0 24 rfl (pF rfl rfl)<|Eo<|Dd (by kernel_rfl) ?_
   obtain rfl := o1 hm
   exact jJ ⟨rfl, rfl, lr⟩
   exact Rn
   exact Rn
   rw [if_neg (fun hh => Bool.noConfusion (hh.symm.trans ae))] at hm
   refine Di mixed (.refl _)<|E0 0 rfl (stB (sM rfl) ae)<|E0 1 rfl (q0e rfl)<|E0 2 rfl (sM rfl)<|eN 3 rfl<|eN 4 rfl<|E0 5 rfl (pT rfl rfl)<|E0 6 rfl (sM rfl)<|eN 7 rfl<|eN 8 rfl ?_
   refine eN 9 rfl<|eN 10 rfl<|eN 11 rfl<|eN 12 rfl<|eN 13 rfl<|eN 14 rfl<|E0 15 rfl (pT rfl rfl)<|E0 16 rfl (sM rfl)<|eN 17 rfl<|eN 18 rfl ?_
   refine eN 19 rfl<|eN 20 rfl<|eN 21 rfl<|eN 22 rfl<|eN 23 rfl<|E0 24 rfl (pT rfl rfl)<|Eo<|Dd (by kernel_rfl) ?_
   obtain rfl := o1 hm
   exact jJ ⟨rfl, rfl, lr⟩
   rintro a3 _ _ ⟨rfl, rfl, c⟩
   have hm := b6
   refine cB hm rfl (fun hm => ?_) fun hm => ?_
   refine Ct<|Xr ?_
   obtain ⟨rfl, rfl⟩ := W4 hm
   have b7 := (aF.le (a.trans c))
   have b8 := (aG.le (a.trans c))
   exact rZ ⟨A8, c9, m, V, e, rfl, rfl, b7, W, b8⟩ (a.trans c)
   refine Ck<|Xn<|Cs ?_
   obtain ⟨bh, cW, hm⟩ := bS hm
   refine Di mixed (.refl _)<|Es 0 rfl (sL 0 rfl q4o rfl rfl)<|E0 1 rfl (sN rfl)<|E0 2 rfl (sF rfl q7Q)<|E0 3 rfl (sF rfl q0J)<|Es 4 rfl (sL 4 rfl q4B rfl rfl)<|E0 5 rfl (sF rfl q0V)<|Es 6 rfl (sL 3 rfl Q3 rfl rfl) ?_
   obtain ⟨cX, b9, ca⟩ := iS cW
   obtain ⟨c2, cb, bE, bi, bG⟩ := FZ.get (sz := 7) rfl (by decide) (aA.le (a.trans c)) ca
   obtain ⟨_, _, rfl, rfl, ⟨_, _, rfl, rfl, ⟨_, _, rfl, rfl, ⟨_, _, rfl, rfl, ⟨_, _, rfl, rfl, ⟨_, _, rfl, rfl, rfl⟩⟩⟩⟩⟩⟩ := cb
   refine E0 7 rfl (sI cX rfl rfl b9 bG bi z0o)<|E0 8 rfl (sQ rfl bi q2l)<|Es 9 rfl (sO rfl Q3 (bE 0 _ rfl))<|E0 10 rfl (sA rfl)<|Eo<|Dd (by kernel_rfl)<|Xn ?_
   obtain ⟨cc, bH, ab⟩ := bS hm
   refine Cj (fun bj e' hp' => [(1, iv al), (4, pb n), (7, pb aa), (9, iv bh.Kind)] = e' ∧ (n, Cl 181 [.func (.func 103) #[] #[pb s, pb t, pb n]]) :: (aa, Cl 131 [iv u, iv Z]) :: (s, Cl 132 [pb x]) :: (t, Cl 3 [iv E]) :: (x, Cl 136 [sv G y H, sv I z J, sv K A L, sv O B S, sv T C U, iv ac, iv ad, sv X F Y, sv A3 D c4, sv A8 ah c9, .map (some V)]) :: (g ++ (m ++ (e ++ R))) = hp' ∧ a3.Le bj ∧ cc = .inl ()) ?_ ?_
   have hm := bH
   refine Cb ?_
   obtain ⟨cd, bI, bJ⟩ := bS hm
   refine Cj (fun aH e' hp' => [(1, iv al), (2, pb s), (3, pb t), (4, pb n), (7, pb aa), (9, iv bh.Kind), (57, bv cd)] = e' ∧ (s, Cl 132 [pb x]) :: (t, Cl 3 [iv E]) :: (n, Cl 181 [.func (.func 103) #[] #[pb s, pb t, pb n]]) :: (aa, Cl 131 [iv u, iv Z]) :: (x, Cl 136 [sv G y H, sv I z J, sv K A L, sv O B S, sv T C U, iv ac, iv ad, sv X F Y, sv A3 D c4, sv A8 ah c9, .map (some V)]) :: (g ++ (m ++ (e ++ R))) = hp' ∧ a3.Le aH) ?_ ?_
   have hm := bI
   refine Cg<|mV rfl ?_
   refine Tb rfl (q1 rfl rfl) (fun aI => ?_) (fun aI => ?_)
   rw [if_pos aI] at hm
   refine mV rfl<|yS<|tS (sF rfl q3m)<|yS<|tS (sL 3 rfl Q3 rfl rfl)<|yS<|tS (q5 rfl rfl)<|tS (pT rfl rfl)<|aS rfl<|Tn ?_
   obtain rfl := o1 hm
   exact jJ ⟨rfl, rfl, lr⟩
   rw [if_neg aI] at hm
   refine mV rfl<|nO<|nO<|nO<|tS (pF rfl rfl)<|aS rfl<|Tn ?_
   obtain rfl := o1 hm
   exact jJ ⟨rfl, rfl, lr⟩
   rintro aH _ _ ⟨rfl, rfl, d⟩
   have hm := bJ
   refine cB hm rfl (fun hm => ?_) fun hm => ?_
   obtain ⟨⟨aJ, ce⟩, bK, bL⟩ := bS hm
   refine Cj (fun aK e' hp' => ∃ aw aL am an, [] = e' ∧ (s, Cl 132 [pb x]) :: (t, Cl 3 [iv E]) :: (n, Cl 181 [.func (.func 103) #[] #[pb s, pb t, pb n]]) :: (x, Cl 136 [sv G y H, sv I z J, sv K A L, sv O B S, sv T C U, iv ac, iv ad, sv X F Y, sv A3 D c4, sv aw aJ aL, .map (some V)]) :: (g ++ (am ++ (an ++ R))) = hp' ∧ aH.Le aK ∧ OS 55 (OT.fr j4) aK.w (sv aw aJ aL) aJ am ∧ (aw = none ↔ aJ = []) ∧ OM j4 (OT.fr RT.bool) true false aK.w V ce an) ?_ ?_
   have hm := bK
   refine Cr<|tS (sL 0 rfl q4o rfl rfl)<|tS (sF rfl q0V)<|tS (sL 3 rfl Q3 rfl rfl)<|tS (sF rfl q3m)<|tS (sL 3 rfl Q3 rfl rfl) ?_
   obtain ⟨cf, bk, hm⟩ := bS hm
   refine H0 4 rfl<|q5r g m e<|q5r e g m<|q5r m e g<|q8b [_] [_, _, _, _] g m e R rfl<|Tg _ rfl j0I rfl (q7x _ _ u Z y z A B C ac ad F D ah aW x G H I J K L O S T U X Y A3 c4 g A8 c9 m V e (aB.le (a.trans (c.trans d))) (aA.le (a.trans (c.trans d))) (aC.le (a.trans (c.trans d))) (aD.le (a.trans (c.trans d))) (aE.le (a.trans (c.trans d))) (aU.le (a.trans (c.trans d))) (h5.le (a.trans (c.trans d))) (aF.le (a.trans (c.trans d))) W (aG.le (a.trans (c.trans d))) cf bk) ?_
   rintro _ c3 _ f ⟨rfl, rfl⟩
   refine z0h [_] [_, _, _, _] g m e R rfl<|tS (sn2 rfl)<|Te ?_
   refine cM hm rfl (fun hm => ?_) fun hm => ?_
   refine Cg<|tS (sL 1 rfl q4o rfl rfl)<|tS (sF rfl q0V)<|tS (sL 4 rfl Q3 rfl rfl)<|tS (sF rfl q3m)<|tS (sL 4 rfl Q3 rfl rfl) ?_
   obtain ⟨_, aX, hm⟩ := bS hm
   have aX := (kS aX).2
   refine tS (sb rfl rfl aX)<|tS (sL 2 rfl Q3 rfl rfl)<|tS (sB (v := .agg #[iv 3, iv u, iv (3 - Z), iv E]) [(0, iv 3), (1, iv u), (2, iv (3 - Z)), (3, iv E)] rfl (fun _ => by kernel_rfl)) ?_
   obtain ⟨⟨cg, ch⟩, bl, hm⟩ := bS hm
   have hm := (V8 hm)
   refine q5r g m e<|q5r e g m<|q5r m e g<|q8b [_] [_, _, _, _] g m e R rfl<|Tg _ rfl z1K rfl (q0K _ _ (⟨3, u, 3 - Z, E⟩ : q8) y z A B C ac ad F D ah aW x G H I J K L O S T U X Y A3 c4 g A8 c9 m V e (aB.le (a.trans (c.trans (d.trans f)))) (aA.le (a.trans (c.trans (d.trans f)))) (aC.le (a.trans (c.trans (d.trans f)))) (aD.le (a.trans (c.trans (d.trans f)))) (aE.le (a.trans (c.trans (d.trans f)))) (aU.le (a.trans (c.trans (d.trans f)))) (h5.le (a.trans (c.trans (d.trans f)))) (aF.le (a.trans (c.trans (d.trans f)))) W (aG.le (a.trans (c.trans (d.trans f)))) cg ch bl) ?_
   rintro _ c5 _ bm ⟨ci, cj, a5, a6, rfl, rfl, ck, cl, cm⟩
   refine z0h [_] [_, _, _, _] g a5 a6 R rfl<|Tn ?_
   obtain ⟨rfl, rfl⟩ := W4 hm
   exact jJ ⟨ci, cj, a5, a6, rfl, rfl, (f.trans bm), ck, cl, cm⟩
   refine Ck ?_
   obtain ⟨rfl, rfl⟩ := W4 hm
   exact jJ ⟨A8, c9, m, e, rfl, rfl, f, (aF.le (a.trans (c.trans (d.trans f)))), W, (aG.le (a.trans (c.trans (d.trans f))))⟩
   rintro aK _ _ ⟨aw, aL, am, an, rfl, rfl, bn, cn, bo, co⟩
   have hm := (V8 bL)
   refine Ct<|Xb<|Xr ?_
   have bM := (Kd hm).symm
   rw [bM] at ab
   have hm := V6 ab
   obtain ⟨rfl, rfl⟩ := W4 hm
   exact rZ ⟨aw, aL, am, V, an, rfl, rfl, cn, bo, co⟩ (a.trans (c.trans (d.trans bn)))
   refine Cr<|mV rfl<|tS (q1 rfl rfl)<|aS rfl<|Te ?_
   refine cI hm rfl (fun hm => ?_) fun hm => ?_
   refine Cs ?_
   obtain ⟨aM, bp, hm⟩ := bS hm
   refine Di mixed (.refl _)<|Es 0 rfl (sL 0 rfl q4o rfl rfl)<|E0 1 rfl (sN rfl)<|E0 2 rfl (sF rfl q7Q)<|Es 3 rfl (sD (vs := [_, _, _, _, _]) 4 5 rfl G7 rfl rfl rfl)<|Es 4 rfl (sD (vs := [_, _]) 3 2 rfl q1P rfl rfl rfl)<|Eo<|Da [5] (by kernel_rfl) rfl ?_
   refine Rd2 lr rfl rfl (uW _ z6H rfl (fun w ho => q8J _ [] (⟨y, z, A, B, C⟩ : j1) (⟨u, Z⟩ : j8) G H I J K L O S T U ((aB.le (a.trans (c.trans d))).old ho) ((aA.le (a.trans (c.trans d))).old ho) ((aC.le (a.trans (c.trans d))).old ho) ((aD.le (a.trans (c.trans d))).old ho) ((aE.le (a.trans (c.trans d))).old ho) aM bp) (fun _ _ _ h => h.2.symm)) ?_ ?_
   rintro _ _ ⟨⟨_, rfl, _⟩, rfl⟩
   refine iR<|Ei lr (.refl _)<|E0 6 rfl (sA rfl)<|Eo<|Dd (by kernel_rfl)<|Xn<|Cr<|mV rfl<|tS (q6 rfl rfl)<|Te ?_
   refine cI hm rfl (fun hm => ?_) fun hm => ?_
   obtain ⟨⟨aN, cp⟩, bN, bO⟩ := bS hm
   refine Cj (fun aO e' hp' => ∃ ax aP ao aq, [] = e' ∧ (s, Cl 132 [pb x]) :: (t, Cl 3 [iv E]) :: (n, Cl 181 [.func (.func 103) #[] #[pb s, pb t, pb n]]) :: (x, Cl 136 [sv G y H, sv I z J, sv K A L, sv O B S, sv T C U, iv ac, iv ad, sv X F Y, sv A3 D c4, sv ax aN aP, .map (some V)]) :: (g ++ (ao ++ (aq ++ R))) = hp' ∧ aH.Le aO ∧ OS 55 (OT.fr j4) aO.w (sv ax aN aP) aN ao ∧ (ax = none ↔ aN = []) ∧ OM j4 (OT.fr RT.bool) true false aO.w V cp aq) ?_ ?_
   have hm := bN
   refine Cr<|mV rfl<|tS (sL 0 rfl q4o rfl rfl)<|tS (sN rfl)<|tS (sF rfl q7P)<|tS (sF rfl q4M)<|tS (sL 4 rfl Q3 rfl rfl)<|tS (q2 rfl rfl)<|Te ?_
   refine cI hm rfl (fun hm => ?_) fun hm => ?_
   refine Cg<|tS (sL 0 rfl q4o rfl rfl)<|mV rfl<|tS (sL 1 rfl Q3 rfl rfl)<|tS (sB (v := .agg #[iv 4, iv aM, iv 0, iv E]) [(0, iv 4), (1, iv aM), (3, iv E)] rfl (fun _ => by kernel_rfl)) ?_
   obtain ⟨⟨cq, cr⟩, bq, hm⟩ := bS hm
   have hm := (V8 hm)
   refine H0 4 rfl<|q5r g m e<|q5r e g m<|q5r m e g<|q8b [_] [_, _, _, _] g m e R rfl<|Tg _ rfl z1K rfl (q0K _ _ (⟨4, aM, 0, E⟩ : q8) y z A B C ac ad F D ah aW x G H I J K L O S T U X Y A3 c4 g A8 c9 m V e (aB.le (a.trans (c.trans d))) (aA.le (a.trans (c.trans d))) (aC.le (a.trans (c.trans d))) (aD.le (a.trans (c.trans d))) (aE.le (a.trans (c.trans d))) (aU.le (a.trans (c.trans d))) (h5.le (a.trans (c.trans d))) (aF.le (a.trans (c.trans d))) W (aG.le (a.trans (c.trans d))) cq cr bq) ?_
   rintro _ c6 _ br ⟨cs, ct, a7, a8, rfl, rfl, cu, cv, cw⟩
   refine z0h [_] [_, _, _, _] g a7 a8 R rfl<|Tn ?_
   obtain ⟨rfl, rfl⟩ := W4 hm
   exact jJ ⟨cs, ct, a7, a8, rfl, rfl, br, cu, cv, cw⟩
   refine Ck ?_
   obtain ⟨rfl, rfl⟩ := W4 hm
   exact jJ ⟨A8, c9, m, e, rfl, rfl, lr, (aF.le (a.trans (c.trans d))), W, (aG.le (a.trans (c.trans d)))⟩
   rintro aO _ _ ⟨ax, aP, ao, aq, rfl, rfl, bs, cx, bt, cy⟩
   have hm := (V8 bO)
   refine Ct<|Xb<|Xr ?_
   have bP := (Kd hm).symm
   rw [bP] at ab
   have hm := V6 ab
   obtain ⟨rfl, rfl⟩ := W4 hm
   exact rZ ⟨ax, aP, ao, V, aq, rfl, rfl, cx, bt, cy⟩ (a.trans (c.trans (d.trans bs)))
   refine Ck<|Xm ?_
   have hq := (Kd hm).symm
   exact jJ ⟨rfl, rfl, d, hq⟩
   exact Rn
   refine Ck<|Xm ?_
   have hq := (Kd hm).symm
   exact jJ ⟨rfl, rfl, d, hq⟩
   rintro bj _ _ ⟨rfl, rfl, j, bQ⟩
   rw [bQ] at ab
   have hm := G6 ab
   refine Cr<|mV rfl<|tS (sF rfl q3m)<|tS (sL 1 rfl Q3 rfl rfl) ?_
   obtain ⟨aQ, bu, hm⟩ := bS hm
   refine Tg _ rfl j0H rfl (z1R _ _ bh.Kind Z aQ bu) ?_
   rintro _ cz _ k ⟨cA, cC, rfl, rfl, bw⟩
   refine tS (sE rfl z5x)<|mV rfl<|Te<|Cb ?_
   have cY : aQ.length ≤ 9223372036854775807 := (FZ.bd bw)
   refine Cp 4 rfl<|Cp 4 rfl<|Cp 4 rfl<|Cp 4 rfl<|Cp 4 rfl<|z4W g m e<|z4W e g m<|z4W m e g ?_
   obtain ⟨⟨af, aR⟩, bR, bT⟩ := bS hm
   refine lS (fun bx => F7 fun af aR => fun ay e' hp' => ∃ ag ai q aj r, [(1, iv al), (4, pb n), (7, pb aa), (107, sv cA aQ cC), (108, iv ((aQ.length : Int))), (109, iv ((bx : Int)))] = e' ∧ (n, Cl 181 [.func (.func 103) #[] #[pb s, pb t, pb n]]) :: (aa, Cl 131 [iv u, iv Z]) :: (s, Cl 132 [pb x]) :: (t, Cl 3 [iv E]) :: (x, Cl 136 [sv G y H, sv I z J, sv K A L, sv O B S, sv T C U, iv ac, iv ad, sv X F Y, sv A3 D c4, sv ag af ai, .map (some aj)]) :: (g ++ (q ++ (r ++ R))) = hp' ∧ cz.Le ay ∧ OS 55 (OT.fr j4) ay.w (sv ag af ai) af q ∧ (ag = none ↔ af = []) ∧ OM j4 (OT.fr RT.bool) true false ay.w aj aR r) bR ⟨A8, c9, m, V, e, rfl, rfl, lr, (aF.le (a.trans (c.trans (j.trans k)))), W, (aG.le (a.trans (c.trans (j.trans k))))⟩ ?_ ?_
   rintro bx ⟨af, aR⟩ ay _ _ cZ cR ⟨ag, ai, q, aj, r, rfl, rfl, i, aY, az, aZ⟩ ak
   unfold V2 at ak
   have hm := (V8 ak)
   refine Cr<|tS (lT rfl rfl (by omega))<|Te<|Cs<|w6 rfl<|Ck<|Xn<|Cs<|Cb<|Cr ?_
   obtain ⟨aT, cD, c0, bU, c1, bV, bz, bW, bA, hm⟩ := bF (sz := 1) hm (bw.le i)
   obtain rfl := bV
   refine tS (sI cD rfl rfl bU bA bW z5x)<|tS (sO rfl Q3 (bz 0 _ rfl))<|aS rfl<|Te<|Cg<|tS (sL 0 rfl z8R rfl rfl)<|tS (sF rfl q0V)<|tS (sL 1 rfl Q3 rfl rfl)<|mV rfl<|tS (sB (v := .agg #[iv u, iv aT]) [(0, iv u), (1, iv aT)] rfl (fun _ => by kernel_rfl)) ?_
   refine mV rfl ?_
   obtain ⟨_, a0, hm⟩ := bS hm
   have a0 := (kS a0).2
   refine tS (sa rfl rfl a0) ?_
   obtain ⟨⟨cE, cG⟩, bB, hm⟩ := bS hm
   have hm := (V8 hm)
   refine H0 4 rfl<|H0 1 rfl<|H0 4 rfl<|H0 4 rfl<|q5r g q r<|q5r r g q<|q5r q r g<|q8b [_, _, _, _] [_] g q r R rfl<|Tv #[] #[pb s, pb t, pb n] [.agg #[iv u, iv aT], iv (al + 1)] rfl rfl z6G rfl (ih _ _ (⟨u, aT⟩ : j8) (al + 1) E y z A B C ac ad F D af aR s t n x G H I J K L O S T U X Y A3 c4 g ag ai q aj r (aB.le (a.trans (c.trans (j.trans (k.trans i))))) (aA.le (a.trans (c.trans (j.trans (k.trans i))))) (aC.le (a.trans (c.trans (j.trans (k.trans i))))) (aD.le (a.trans (c.trans (j.trans (k.trans i))))) (aE.le (a.trans (c.trans (j.trans (k.trans i))))) (aU.le (a.trans (c.trans (j.trans (k.trans i))))) (h5.le (a.trans (c.trans (j.trans (k.trans i))))) aY az aZ cE cG bB) ?_
   rintro _ c7 _ bC ⟨cH, cJ, a9, cK, ba, rfl, rfl, cO, cP, cQ⟩
   refine z0h [_, _, _, _] [_] g a9 ba R rfl<|Tn<|Xm<|Xn<|Cg<|tS (sa rfl rfl (by omega))<|mV rfl<|Tn ?_
   obtain rfl := o1 hm
   exact jS ⟨cH, cJ, a9, cK, ba, rfl, rfl, ((i.trans bC)), cO, cP, cQ⟩
   rintro ay _ _ ⟨ag, ai, q, aj, r, rfl, rfl, i, aY, az, aZ⟩
   have hm := (V8 bT)
   refine Cr<|tS (lF rfl rfl (by omega))<|Te<|Cs<|v8 rfl<|Ce<|Xe<|Xe<|Xo ?_
   obtain ⟨rfl, rfl⟩ := W4 hm
   exact eZ ⟨ag, ai, q, aj, r, rfl, rfl, aY, az, aZ⟩ (a.trans (c.trans (j.trans (k.trans i))))
theorem q8K (b : v7) (R : Hp) (ai D E F G H K L I B aj a0 z O S T U V W X Y Z aa ab ac A3 c4 i A8 c9 ad aA s) (bj : FZ RT.str b.w O S D) (a1 : FZ j5 b.w T U E) (bk : FZ w9 b.w V W F) (bl : FZ j6 b.w X Y G) (bm : FZ k7 b.w Z aa H) (a2 : FZ Z3 b.w ab ac I) (h5 : OS 62 (OT.fr Z3) b.w (sv A3 B c4) B i) (bn : OS 55 (OT.fr j4) b.w (sv A8 aj c9) aj ad) (aM : (A8 = none ↔ aj = [])) (bo : OM j4 (OT.fr RT.bool) true false b.w aA a0 s) (J aH) (hm : H4 ai D E F G H K L I B aj a0 = some (J, aH)):
 w5 Tryz.prog 64 [pb z, iv ai] b ((z, Cl 136 [sv O D S, sv T E U, sv V F W, sv X G Y, sv Z H aa, iv K, iv L, sv ab I ac, sv A3 B c4, sv A8 aj c9, .map (some aA)]) :: (i ++ (ad ++ (s ++ R)))) (fun v b' hp' => ∃ ak aI al aJ am, .tuple #[] = v ∧ (z, Cl 136 [sv O D S, sv T E U, sv V F W, sv X G Y, sv Z H aa, iv K, iv L, sv ab I ac, sv A3 B c4, sv ak J aI, .map (some aJ)]) :: (i ++ (al ++ (am ++ R))) = hp' ∧ OS 55 (OT.fr j4) b'.w (sv ak J aI) J al ∧ (ak = none ↔ J = []) ∧ OM j4 (OT.fr RT.bool) true false b'.w aJ aH am) := by
 refine fE 47 Tryz.func64 rfl Tryz.ntmps64 rfl ?_
 unfold H4 at hm
 refine Cr<|tD (uB _ rfl rfl) ?_
 rintro _ _ ⟨k, rfl, rfl⟩
 refine tD (uB _ rfl rfl) ?_
 rintro _ _ ⟨m, rfl, rfl⟩
 refine Te<|Cr<|tD (uA [.nilFunc] z9q rfl) ?_
 rintro _ _ ⟨g, rfl, rfl⟩
 refine Te<|Cr<|tS (q3V _ _ rfl rfl)<|tD (uS 0 rfl rfl j1n rfl rfl (by simp)) ?_
 rintro _ _ rfl
 refine Te ?_
 obtain ⟨⟨t, an, ao⟩, aN, aO⟩ := bS hm
 refine Cj (fun aq e' hp' => ∃ x, [(2, pb k), (4, pb g), (5, pb x)] = e' ∧ (k, Cl 132 [pb z]) :: (g, Cl 181 [.func (.func 103) #[] #[pb k, pb m, pb g]]) :: (x, Cl 62 [iv t, iv an, iv ao]) :: (z, Cl 136 [sv O D S, sv T E U, sv V F W, sv X G Y, sv Z H aa, iv K, iv L, sv ab I ac, sv A3 B c4, sv A8 aj c9, .map (some aA)]) :: (m, Cl 3 [iv ai]) :: (i ++ (ad ++ (s ++ R))) = hp' ∧ b.Le aq) ?_ ?_
 have hm := aN
 obtain ⟨ar, a3, hm⟩ := bS hm
 refine Di mixed (.refl _)<|Es 0 rfl (sL 2 rfl q4o rfl rfl)<|E0 1 rfl (sN rfl)<|E0 2 rfl (sF rfl q7P)<|E0 3 rfl (sF rfl q1I)<|Es 4 rfl (sL 3 rfl q4u rfl rfl)<|Es 5 rfl (sL 1 rfl Q3 rfl rfl) ?_
 obtain ⟨a4, aP, aQ⟩ := iS a3
 obtain ⟨bp, aR, aB, au, aC⟩ := FZ.get (sz := 3) rfl (by decide) a2 aQ
 obtain ⟨_, _, rfl, rfl, ⟨_, _, rfl, rfl, rfl⟩⟩ := aR
 refine E0 6 rfl (sI a4 rfl rfl aP aC au q8T)<|Es 7 rfl (sP (vs := [iv ar.Section, iv ar.In, iv ar.Out]) 3 rfl q8Q au rfl (fun j u hu => aB j u hu))<|Eo<|Da [8] (by kernel_rfl) rfl<|Rd2 lr rfl rfl (uA [iv 0, iv 0, iv 0] q7h rfl) ?_ ?_
 rintro _ _ ⟨a5, rfl, rfl⟩
 refine iR<|Da [9] (by kernel_rfl) rfl<|Rd2 lr rfl rfl (uN (vs := [_, _, _]) 0 3 rfl rfl rfl z0p rfl (mc rfl (mc rfl (mc rfl mn))) rfl (by simp)) ?_ ?_
 rintro _ _ rfl
 refine ⟨.inl (by kernel_rfl), ?_⟩
 refine Dd (by kernel_rfl) ?_
 obtain ⟨rfl, rfl, rfl⟩ := q5S hm
 exact jJ ⟨a5, rfl, rfl, lr⟩
 exact Rn
 exact Rn
 rintro aq _ _ ⟨x, rfl, rfl, c⟩
 have hm := q5i aO
 refine Cs ?_
 obtain ⟨a6, a7, hm⟩ := bS hm
 obtain ⟨av, aD, hm⟩ := bS hm
 refine Di mixed (.refl _)<|Es 0 rfl (sL 0 rfl q4o rfl rfl)<|E0 1 rfl (sN rfl)<|E0 2 rfl (sF rfl q7Q)<|E0 3 rfl (sF rfl q0J)<|Es 4 rfl (sL 3 rfl q4B rfl rfl)<|E0 5 rfl (sF rfl Y6)<|Es 6 rfl (sL 2 rfl Q3 rfl rfl) ?_
 obtain ⟨a8, aT, aU⟩ := iS a7
 obtain ⟨bq, aV, aE, aw, aF⟩ := FZ.get (sz := 7) rfl (by decide) (a1.le c) aU
 obtain ⟨_, _, rfl, rfl, ⟨_, _, rfl, rfl, ⟨_, _, rfl, rfl, ⟨_, _, rfl, rfl, ⟨_, _, rfl, rfl, ⟨_, _, rfl, rfl, rfl⟩⟩⟩⟩⟩⟩ := aV
 refine E0 7 rfl (sI a8 rfl rfl aT aF aw z0o)<|E0 8 rfl (sQ rfl aw q2l)<|Es 9 rfl (sO rfl Q3 (aE 0 _ rfl))<|E0 11 rfl (sM rfl)<|Eo<|Da [10] (by kernel_rfl) rfl<|Rd2 lr rfl rfl (uW _ z6w rfl (fun w ho => q8M _ [] a6.Kind av aD) (fun _ _ _ h => h.2.symm)) ?_ ?_
 rintro _ _ ⟨⟨_, rfl, _⟩, rfl⟩
 refine iR<|Dd (by kernel_rfl)<|Xn<|Cb ?_
 obtain ⟨_, aK, hm⟩ := bS hm
 have aK := (kS aK).2
 refine Cp 4 rfl<|Cp 1 rfl<|Cp 4 rfl<|Cp 4 rfl<|Cp 4 rfl<|z4W i ad s<|z4W s i ad<|z4W ad s i ?_
 obtain ⟨⟨n, af⟩, aW, aX⟩ := bS hm
 refine lS (fun o => F7 fun n af => fun A e' hp' => ∃ l p e q f, [(4, pb g), (5, pb x), (26, iv av), (27, iv ((o : Int)))] = e' ∧ (g, Cl 181 [.func (.func 103) #[] #[pb k, pb m, pb g]]) :: (x, Cl 62 [iv t, iv an, iv ao]) :: (z, Cl 136 [sv O D S, sv T E U, sv V F W, sv X G Y, sv Z H aa, iv K, iv L, sv ab I ac, sv A3 B c4, sv l n p, .map (some q)]) :: (k, Cl 132 [pb z]) :: (m, Cl 3 [iv ai]) :: (i ++ (e ++ (f ++ R))) = hp' ∧ aq.Le A ∧ OS 55 (OT.fr j4) A.w (sv l n p) n e ∧ (l = none ↔ n = []) ∧ OM j4 (OT.fr RT.bool) true false A.w q af f) aW ⟨A8, c9, ad, aA, s, rfl, rfl, lr, (bn.le c), aM, (bo.le c)⟩ ?_ ?_
 rintro o ⟨n, af⟩ A _ _ br a9 ⟨l, p, e, q, f, rfl, rfl, d, ag, r, ah⟩ y
 unfold K3 at y
 have hm := V8 y
 refine Cr<|tS (lT rfl rfl (by omega))<|Te<|Cs<|w6 rfl<|Ck<|Xn<|Cs<|Cb<|Cr<|mV rfl<|aS rfl<|Te ?_
 obtain ⟨ba, aY, aZ⟩ := bS hm
 refine Cj (fun aL e' hp' => [(4, pb g), (5, pb x), (6, iv ((o : Int))), (26, iv av), (27, iv ((o : Int))), (39, bv ba)] = e' ∧ (g, Cl 181 [.func (.func 103) #[] #[pb k, pb m, pb g]]) :: (x, Cl 62 [iv t, iv an, iv ao]) :: (z, Cl 136 [sv O D S, sv T E U, sv V F W, sv X G Y, sv Z H aa, iv K, iv L, sv ab I ac, sv A3 B c4, sv l n p, .map (some q)]) :: (k, Cl 132 [pb z]) :: (m, Cl 3 [iv ai]) :: (i ++ (e ++ (f ++ R))) = hp' ∧ A.Le aL) ?_ ?_
 have hm := aY
 refine Cg<|mV rfl<|tS (sF rfl z6n)<|tS (sL 1 rfl Q3 rfl rfl)<|Tb rfl (q2 rfl rfl) (fun ae => ?_) (fun ae => ?_)
 rw [if_pos ae] at hm
 refine mV rfl<|yS<|mV rfl<|yS<|tS (sF rfl z0G)<|yS<|tS (sL 1 rfl Q3 rfl rfl)<|yS<|tS (q2 rfl rfl)<|tS (pT rfl rfl)<|Tn ?_
 obtain rfl := o1 hm
 exact jJ ⟨rfl, rfl, lr⟩
 rw [if_neg ae] at hm
 refine mV rfl<|nO<|nO<|nO<|nO<|tS (pF rfl rfl)<|Tn ?_
 obtain rfl := o1 hm
 exact jJ ⟨rfl, rfl, lr⟩
 rintro aL _ _ ⟨rfl, rfl, a⟩
 have hm := aZ
 refine cB hm rfl (fun hm => ?_) fun hm => ?_
 refine Cg<|tS (sL 0 rfl z8R rfl rfl)<|tS (sF rfl Y6)<|tS (sL 1 rfl Q3 rfl rfl)<|mV rfl<|tS (sB (v := .agg #[iv t, iv ((o : Int))]) [(0, iv t), (1, iv ((o : Int)))] rfl (fun _ => by kernel_rfl)) ?_
 obtain ⟨⟨bb, bc⟩, C, hm⟩ := bS hm
 obtain ⟨ax, C⟩ := q7M C
 have hm := V8 hm
 have zz := c.trans (d.trans a)
 refine H0 2 rfl<|H0 1 rfl<|H0 4 rfl<|H0 4 rfl<|q5r i e f<|q5r f i e<|q5r e f i<|q8b [_, _, _, _] [_] i e f R rfl<|Tv #[] #[pb k, pb m, pb g] [.agg #[iv t, iv ((o : Int))], iv 0] rfl rfl z6G rfl (q7b ax _ _ (⟨t, (o : Int)⟩ : j8) 0 ai D E F G H K L I B n af k m g z O S T U V W X Y Z aa ab ac A3 c4 i l p e q f (bj.le zz) (a1.le zz) (bk.le zz) (bl.le zz) (bm.le zz) (a2.le zz) (h5.le zz) (ag.le a) r (ah.le a) bb bc C) ?_
 rintro _ bs _ aG ⟨bd, be, ay, bf, az, rfl, rfl, bg, bh, bi⟩
 refine z0h [_, _, _, _] [_] i ay az R rfl<|Tn<|Xm<|Xn<|Cg<|tS (sa rfl rfl (by omega))<|mV rfl<|Tn ?_
 obtain rfl := o1 hm
 exact jS ⟨bd, be, ay, bf, az, rfl, rfl, ((d.trans (a.trans aG))), bg, bh, bi⟩
 refine Ck<|Xm<|Xn<|Cg<|tS (sa rfl rfl (by omega))<|mV rfl<|Tn ?_
 obtain rfl := o1 hm
 exact jS ⟨l, p, e, q, f, rfl, rfl, ((d.trans a)), (ag.le a), r, (ah.le a)⟩
 rintro A _ _ ⟨l, p, e, q, f, rfl, rfl, d, ag, r, ah⟩
 have hm := V8 aX
 refine Cr<|tS (lF rfl rfl (by omega))<|Te<|Cs<|v8 rfl<|Ce<|Xe<|Xe<|Xo ?_
 obtain ⟨rfl, rfl⟩ := W4 hm
 exact eZ ⟨l, p, e, q, f, rfl, rfl, ag, r, ah⟩ (c.trans d)
 exact Rn
theorem q9T (b : v7) (R : Hp) (g : j1) (f : z8) (A2 c3 A5 c6 A8 c9 r s t x y z) (h4 : FZ RT.str b.w A2 c3 g.Stations) (h7 : FZ j5 b.w A5 c6 g.Sections) (aq : FZ w9 b.w A8 c9 g.Links) (ar : FZ j6 b.w r s g.Signals) (au : FZ k7 b.w t x g.Gates) (al : FZ Z3 b.w y z f.Steps) (av) (hm : G1 g f = some av):
 w5 Tryz.prog 26 [.agg #[sv A2 g.Stations c3, sv A5 g.Sections c6, sv A8 g.Links c9, sv r g.Signals s, sv t g.Gates x], .agg #[iv f.From, iv f.To, sv y f.Steps z]] b (R) (fun v b' hp' => ∃ aF bf aG, sv aF av bf = v ∧ (aG ++ R) = hp' ∧ OS 55 (OT.fr j4) b'.w (sv aF av bf) av aG ∧ (aF = none ↔ av = [])) := by
 refine fE 74 Tryz.func26 rfl Tryz.ntmps26 rfl ?_
 unfold G1 at hm
 refine Cr<|tD (uB _ rfl rfl) ?_
 rintro _ _ ⟨ac, rfl, rfl⟩
 refine tD (uB _ rfl rfl) ?_
 rintro _ _ ⟨I, rfl, rfl⟩
 refine aS rfl<|Te ?_
 obtain ⟨⟨A, bw⟩, bh, bi⟩ := bS hm
 refine Cj (fun aw e' hp' => ∃ B C D d F G, [(2, pb ac), (3, pb I), (5, pb B)] = e' ∧ (ac, Cl 28 [sv A2 g.Stations c3, sv A5 g.Sections c6, sv A8 g.Links c9, sv r g.Signals s, sv t g.Gates x]) :: (I, Cl 36 [iv f.From, iv f.To, sv y f.Steps z]) :: (B, Cl 136 [sv A2 g.Stations c3, sv A5 g.Sections c6, sv A8 g.Links c9, sv r g.Signals s, sv t g.Gates x, iv f.From, iv f.To, sv y f.Steps z, sv C A D, sn, .map (some F)]) :: (d ++ (G ++ R)) = hp' ∧ b.Le aw ∧ OS 62 (OT.fr Z3) aw.w (sv C A D) A d ∧ OM j4 (OT.fr RT.bool) true false aw.w F bw G) ?_ ?_
 have hm := bh
 obtain ⟨ad, aA, hm⟩ := bS hm
 refine Di mixed (.refl _)<|Es 0 rfl (sD (vs := [_, _, _, _, _]) 1 5 rfl G7 rfl rfl rfl)<|Es 1 rfl (sD (vs := [_, _, _]) 0 3 rfl z0Y rfl rfl rfl)<|Es 2 rfl (sD (vs := [_, _, _, _, _]) 1 5 rfl G7 rfl rfl rfl)<|Es 3 rfl (sD (vs := [_, _, _]) 0 3 rfl z0Y rfl rfl rfl)<|Eo<|Da [4, 5] (by kernel_rfl) rfl<|Rg lr rfl rfl _ z9a rfl (q7p _ _ g f A2 c3 A5 c6 A8 c9 r s t x y z h4 h7 aq ar au al ad aA) ?_ ?_
 rintro _ bx _ o ⟨K, L, E, rfl, rfl, aH⟩
 refine iR<|q9h [] [_, _] E R rfl<|Da [5] (by kernel_rfl) rfl<|Rd2 o rfl rfl (q3f j4 (OT.fr RT.bool) true false [_, _] (E ++ R) rfl) ?_ ?_
 rintro _ _ ⟨O, H, rfl, rfl, aI⟩
 refine iR<|Da [6] (by kernel_rfl) rfl ?_
 refine Rd2 o rfl rfl (Q2.does (sB (v := .agg #[sv A2 g.Stations c3, sv A5 g.Sections c6, sv A8 g.Links c9, sv r g.Signals s, sv t g.Gates x, iv f.From, iv f.To, sv y f.Steps z, sv K ad L, sn, .map (some O)]) [(0, .agg #[sv A2 g.Stations c3, sv A5 g.Sections c6, sv A8 g.Links c9, sv r g.Signals s, sv t g.Gates x]), (1, .agg #[iv f.From, iv f.To, sv y f.Steps z]), (2, sv K ad L), (4, .map (some O))] rfl (fun _ => by kernel_rfl))) ?_ ?_
 rintro _ _ ⟨rfl, rfl⟩
 refine iR<|Da [7] (by kernel_rfl) rfl<|Rd2 o rfl rfl (uB _ rfl rfl) ?_ ?_
 rintro _ _ ⟨aJ, rfl, rfl⟩
 refine iR<|Ei o (.cons _ (.cons_cons _ (.cons_cons _ (ss H (ss E (.refl _))))))<|E0 8 rfl (sA rfl)<|Eo<|Dd (by kernel_rfl) ?_
 obtain ⟨rfl, rfl⟩ := W4 hm
 exact jJ ⟨aJ, K, L, E, O, H, rfl, rfl, o, aH, aI⟩
 exact Rn
 exact Rn
 exact Rn
 refine Rd2 lr rfl rfl (q3f j4 (OT.fr RT.bool) true false [_, _] R rfl) ?_ ?_
 rintro _ _ ⟨O, H, rfl, rfl, aI⟩
 refine iR<|Da [4] (by kernel_rfl) rfl<|Rg lr rfl rfl _ z9a rfl (q7p _ _ g f A2 c3 A5 c6 A8 c9 r s t x y z h4 h7 aq ar au al ad aA) ?_ ?_
 rintro _ bx _ o ⟨K, L, E, rfl, rfl, aH⟩
 refine iR<|q9h [] [_, _] E (H ++ R) rfl<|Da [6] (by kernel_rfl) rfl ?_
 refine Rd2 o rfl rfl (Q2.does (sB (v := .agg #[sv A2 g.Stations c3, sv A5 g.Sections c6, sv A8 g.Links c9, sv r g.Signals s, sv t g.Gates x, iv f.From, iv f.To, sv y f.Steps z, sv K ad L, sn, .map (some O)]) [(0, .agg #[sv A2 g.Stations c3, sv A5 g.Sections c6, sv A8 g.Links c9, sv r g.Signals s, sv t g.Gates x]), (1, .agg #[iv f.From, iv f.To, sv y f.Steps z]), (2, sv K ad L), (4, .map (some O))] rfl (fun _ => by kernel_rfl))) ?_ ?_
 rintro _ _ ⟨rfl, rfl⟩
 refine iR<|Da [7] (by kernel_rfl) rfl<|Rd2 o rfl rfl (uB _ rfl rfl) ?_ ?_
 rintro _ _ ⟨aJ, rfl, rfl⟩
 refine iR<|Ei o (.cons _ (.cons_cons _ (.cons_cons _ (ss E (ss H (.refl _))))))<|E0 8 rfl (sA rfl)<|Eo<|Dd (by kernel_rfl) ?_
 obtain ⟨rfl, rfl⟩ := W4 hm
 exact jJ ⟨aJ, K, L, E, O, H, rfl, rfl, o, aH, (aI.le o)⟩
 exact Rn
 exact Rn
 exact Rn
 exact Rn
 rintro aw _ _ ⟨B, C, D, d, F, G, rfl, rfl, c, ae, bz⟩
 have hm := V8 bi
 refine Cs<|Cr<|tS (sF rfl q1I)<|tS (sL 1 rfl q4u rfl rfl)<|tS (sE rfl q8T)<|mV rfl<|Te<|Cb ?_
 have cb : f.Steps.length ≤ 9223372036854775807 := (FZ.bd (al.le c))
 refine Cp 2 rfl<|Cp 2 rfl<|Cp 2 rfl<|j1V d G<|j1V G d ?_
 obtain ⟨⟨S, aB⟩, bj, bk⟩ := bS hm
 refine lS (fun ax => F7 fun S aB => fun af e' hp' => ∃ T ag k l, [(2, pb ac), (3, pb I), (5, pb B), (20, sv y f.Steps z), (21, iv ((f.Steps.length : Int))), (22, iv ((ax : Int)))] = e' ∧ (ac, Cl 28 [sv A2 g.Stations c3, sv A5 g.Sections c6, sv A8 g.Links c9, sv r g.Signals s, sv t g.Gates x]) :: (I, Cl 36 [iv f.From, iv f.To, sv y f.Steps z]) :: (B, Cl 136 [sv A2 g.Stations c3, sv A5 g.Sections c6, sv A8 g.Links c9, sv r g.Signals s, sv t g.Gates x, iv f.From, iv f.To, sv y f.Steps z, sv C A D, sv T S ag, .map (some F)]) :: (d ++ (k ++ (l ++ R))) = hp' ∧ aw.Le af ∧ OS 55 (OT.fr j4) af.w (sv T S ag) S k ∧ (T = none ↔ S = []) ∧ OM j4 (OT.fr RT.bool) true false af.w F aB l) bj ⟨none, 0, [], G, rfl, rfl, lr, OS.nil, ⟨fun _ => rfl, fun _ => rfl⟩, bz⟩ ?_ ?_
 rintro ax ⟨S, aB⟩ af _ _ cc bA ⟨T, ag, k, l, rfl, rfl, a, aK, am, aL⟩ U
 unfold G0 at U
 have hm := V8 U
 refine Cr<|tS (lT rfl rfl (by omega))<|Te<|Cs<|w6 rfl<|Ck<|Xn<|Cs<|Cb<|Cr<|mV rfl ?_
 have zz := c.trans a
 obtain ⟨V, bB, cd, bl, ce, bm, a1, aM, a2, hm⟩ := bF (sz := 3) hm (al.le zz)
 obtain ⟨_, _, rfl, rfl, ⟨_, _, rfl, rfl, rfl⟩⟩ := bm
 refine tS (sI bB rfl rfl bl a2 aM q8T)<|tS (sP (vs := [iv V.Section, iv V.In, iv V.Out]) 3 rfl q8Q aM rfl (fun j u hu => a1 j u hu))<|tD (uA [iv 0, iv 0, iv 0] q7h rfl) ?_
 rintro _ _ ⟨cn, rfl, rfl⟩
 refine aS rfl<|tD (uN (vs := [_, _, _]) 0 3 rfl rfl rfl z0p rfl (mc rfl (mc rfl (mc rfl mn))) rfl (by simp)) ?_
 rintro _ _ rfl
 refine Te ?_
 obtain ⟨aC, a3, hm⟩ := bS hm
 obtain ⟨⟨bC, bD⟩, a4, hm⟩ := bS hm
 have hm := V8 hm
 refine Di mixed (.cons_cons _ (.cons_cons _ (.cons_cons _ (.cons _ (ss d (ss k (ss l (.refl _))))))))<|E0 0 rfl (sM rfl)<|E0 1 rfl (sF rfl Y6)<|Es 2 rfl (sL 0 rfl Q3 rfl rfl)<|Es 3 rfl (sD (vs := [_, _, _, _, _]) 1 5 rfl G7 rfl rfl rfl)<|Es 4 rfl (sD (vs := [_, _, _]) 0 3 rfl q8Q rfl rfl rfl)<|E0 6 rfl (sM rfl)<|Eo<|Da [5] (by kernel_rfl) rfl ?_
 refine Rd2 lr rfl rfl (uW _ z8Z rfl (fun w ho => q6B _ [] g V A2 c3 A5 c6 A8 c9 r s t x ((h4.le zz).old ho) ((h7.le zz).old ho) ((aq.le zz).old ho) ((ar.le zz).old ho) ((au.le zz).old ho) aC a3) (fun _ _ _ h => h.2.symm)) ?_ ?_
 rintro _ _ ⟨⟨_, rfl, _⟩, rfl⟩
 refine iR<|Ei lr (.cons_cons _ (.cons_cons _ (.cons_cons _ (.cons _ (ss d (ss k (ss l (.refl _))))))))<|E0 7 rfl (sB (v := .agg #[iv 1, iv V.Section, iv aC, iv ((ax : Int))]) [(0, iv 1), (1, iv V.Section), (2, iv aC), (3, iv ((ax : Int)))] rfl (fun _ => by kernel_rfl))<|Eo<|z6p 3 rfl<|z4U d k l<|z4U l d k<|z4U k l d<|z8U [_] [_, _, _] d k l R rfl<|Da [8] (by kernel_rfl) rfl ?_
 refine Rg lr rfl rfl _ z1K rfl (q0K _ _ (⟨1, V.Section, aC, (ax : Int)⟩ : q8) g.Stations g.Sections g.Links g.Signals g.Gates f.From f.To f.Steps A S aB B A2 c3 A5 c6 A8 c9 r s t x y z C D d T ag k F l (h4.le zz) (h7.le zz) (aq.le zz) (ar.le zz) (au.le zz) (al.le zz) (ae.le a) aK am aL bC bD a4) ?_ ?_
 rintro _ co _ a5 ⟨bE, bG, aN, aO, rfl, rfl, bH, bI, bJ⟩
 refine iR<|j1U [_] [_, _, _] d aN aO R rfl<|Dd (by kernel_rfl)<|Xm<|Xn<|Cg<|tS (sa rfl rfl (by omega))<|mV rfl<|Tn ?_
 obtain rfl := o1 hm
 exact jS ⟨bE, bG, aN, aO, rfl, rfl, ((a.trans a5)), bH, bI, bJ⟩
 exact Rn
 exact Rn
 rintro af _ _ ⟨T, ag, k, l, rfl, rfl, a, aK, am, aL⟩
 have hm := V8 bk
 refine Cr<|tS (lF rfl rfl (by omega))<|Te<|Cs<|v8 rfl<|Ce<|Xe<|Xe<|Xo<|Xn<|Cs<|Cr<|mV rfl<|tS (sN rfl)<|tS (sF rfl z3P)<|tS (sL 2 rfl q4u rfl rfl)<|tS (sE rfl q8T)<|mV rfl<|Te<|Cb ?_
 have cf : A.length ≤ 9223372036854775807 := (OS.len ae)
 refine Cp 2 rfl<|Cp 2 rfl<|Cp 2 rfl<|z0O d k l<|z0O l d k<|z0O k l d ?_
 obtain ⟨⟨W, aD⟩, bn, bo⟩ := bS hm
 refine lS (fun bg => F7 fun W aD => fun ah e' hp' => ∃ X ai m n, [(2, pb ac), (3, pb I), (5, pb B), (40, sv C A D), (41, iv ((A.length : Int))), (42, iv ((bg : Int)))] = e' ∧ (ac, Cl 28 [sv A2 g.Stations c3, sv A5 g.Sections c6, sv A8 g.Links c9, sv r g.Signals s, sv t g.Gates x]) :: (I, Cl 36 [iv f.From, iv f.To, sv y f.Steps z]) :: (B, Cl 136 [sv A2 g.Stations c3, sv A5 g.Sections c6, sv A8 g.Links c9, sv r g.Signals s, sv t g.Gates x, iv f.From, iv f.To, sv y f.Steps z, sv C A D, sv X W ai, .map (some F)]) :: (d ++ (m ++ (n ++ R))) = hp' ∧ af.Le ah ∧ OS 55 (OT.fr j4) ah.w (sv X W ai) W m ∧ (X = none ↔ W = []) ∧ OM j4 (OT.fr RT.bool) true false ah.w F aD n) bn ⟨T, ag, k, l, rfl, rfl, lr, aK, am, aL⟩ ?_ ?_
 rintro bg ⟨W, aD⟩ ah _ _ cg bK ⟨X, ai, m, n, rfl, rfl, e, aP, an, aQ⟩ Y
 unfold p9 at Y
 have hm := V8 Y
 refine Cr<|tS (lT rfl rfl (by omega))<|Te<|Cs<|w6 rfl<|Ck<|Xn<|Cs<|Cb<|Cr ?_
 obtain ⟨Z, bL, hm⟩ := bS hm
 obtain ⟨bM, bp, bq⟩ := iS bL
 have zy := a.trans e
 obtain ⟨ch, ci, cp, cq, cj, br, a6, aR, a7, ck, ca⟩ := OS.get (sz := 3) rfl (by decide) (ae.le zy) bq
 obtain ⟨⟨_, _, rfl, rfl, ⟨_, _, rfl, rfl, rfl⟩⟩, rfl⟩ := br
 refine tS (sI bM rfl rfl bp a7 aR q8T)<|tS (Z6 (vs := [iv Z.Section, iv Z.In, iv Z.Out]) 3 rfl q8Q aR rfl (fun w ho j u hu => a6 w _ ho (.cons _ (.cons _ (.cons _ (Kb _ _)))) j u hu))<|tD (uA [iv 0, iv 0, iv 0] q7h rfl) ?_
 rintro _ _ ⟨cr, rfl, rfl⟩
 refine tD (uN (vs := [_, _, _]) 0 3 rfl rfl rfl z0p rfl (mc rfl (mc rfl (mc rfl mn))) rfl (by simp)) ?_
 rintro _ _ rfl
 refine Te ?_
 obtain ⟨aE, a8, hm⟩ := bS hm
 obtain ⟨⟨bN, bO⟩, a9, hm⟩ := bS hm
 have hm := V8 hm
 refine Di mixed (.cons_cons _ (.cons_cons _ (.cons_cons _ (.cons _ (ss d (ss m (ss n (.refl _))))))))<|E0 0 rfl (sM rfl)<|E0 1 rfl (sF rfl Y6)<|Es 2 rfl (sL 0 rfl Q3 rfl rfl)<|Es 3 rfl (sD (vs := [_, _, _, _, _]) 1 5 rfl G7 rfl rfl rfl)<|Es 4 rfl (sD (vs := [_, _, _]) 0 3 rfl q8Q rfl rfl rfl)<|Eo<|Da [5] (by kernel_rfl) rfl ?_
 have zx := c.trans zy
 refine Rd2 lr rfl rfl (uW _ z8Z rfl (fun w ho => q6B _ [] g Z A2 c3 A5 c6 A8 c9 r s t x ((h4.le zx).old ho) ((h7.le zx).old ho) ((aq.le zx).old ho) ((ar.le zx).old ho) ((au.le zx).old ho) aE a8) (fun _ _ _ h => h.2.symm)) ?_ ?_
 rintro _ _ ⟨⟨_, rfl, _⟩, rfl⟩
 refine iR<|Ei lr (.cons_cons _ (.cons_cons _ (.cons_cons _ (.cons _ (ss d (ss m (ss n (.refl _))))))))<|E0 6 rfl (sB (v := .agg #[iv 2, iv Z.Section, iv aE, iv ((-1))]) [(0, iv 2), (1, iv Z.Section), (2, iv aE), (3, iv ((-1)))] rfl (fun _ => by kernel_rfl))<|Eo<|z6p 3 rfl<|z4U d m n<|z4U n d m<|z4U m n d<|z8U [_] [_, _, _] d m n R rfl<|Da [7] (by kernel_rfl) rfl ?_
 refine Rg lr rfl rfl _ z1K rfl (q0K _ _ (⟨2, Z.Section, aE, (-1)⟩ : q8) g.Stations g.Sections g.Links g.Signals g.Gates f.From f.To f.Steps A W aD B A2 c3 A5 c6 A8 c9 r s t x y z C D d X ai m F n (h4.le zx) (h7.le zx) (aq.le zx) (ar.le zx) (au.le zx) (al.le zx) (ae.le zy) aP an aQ bN bO a9) ?_ ?_
 rintro _ cs _ ba ⟨bP, bQ, aT, aU, rfl, rfl, bR, bT, bU⟩
 refine iR<|j1U [_] [_, _, _] d aT aU R rfl<|Dd (by kernel_rfl)<|Xm<|Xn<|Cg<|tS (sa rfl rfl (by omega))<|mV rfl<|Tn ?_
 obtain rfl := o1 hm
 exact jS ⟨bP, bQ, aT, aU, rfl, rfl, ((e.trans ba)), bR, bT, bU⟩
 exact Rn
 exact Rn
 rintro ah _ _ ⟨X, ai, m, n, rfl, rfl, e, aP, an, aQ⟩
 have hm := V8 bo
 refine Cr<|tS (lF rfl rfl (by omega))<|Te<|Cs<|v8 rfl<|Ce<|Xe<|Xe<|Xo<|Xn<|Cs<|Cr<|tS (sF rfl q1I)<|tS (sL 1 rfl q4u rfl rfl)<|tS (sE rfl q8T)<|mV rfl<|Te<|Cb ?_
 have cl : f.Steps.length ≤ 9223372036854775807 := (FZ.bd (al.le (c.trans (a.trans e))))
 refine Cp 2 rfl<|Cp 2 rfl<|z0O d m n<|z0O n d m<|z0O m n d ?_
 obtain ⟨⟨J, ay⟩, bs, bt⟩ := bS hm
 refine lS (fun aV => F7 fun J ay => fun az e' hp' => ∃ aa aj p ak q, [(3, pb I), (5, pb B), (57, iv ((f.Steps.length : Int))), (58, iv ((aV : Int)))] = e' ∧ (I, Cl 36 [iv f.From, iv f.To, sv y f.Steps z]) :: (B, Cl 136 [sv A2 g.Stations c3, sv A5 g.Sections c6, sv A8 g.Links c9, sv r g.Signals s, sv t g.Gates x, iv f.From, iv f.To, sv y f.Steps z, sv C A D, sv aa J aj, .map (some ak)]) :: (d ++ (p ++ (q ++ R))) = hp' ∧ ah.Le az ∧ OS 55 (OT.fr j4) az.w (sv aa J aj) J p ∧ (aa = none ↔ J = []) ∧ OM j4 (OT.fr RT.bool) true false az.w ak ay q) bs ⟨X, ai, m, F, n, rfl, rfl, lr, aP, an, aQ⟩ ?_ ?_
 rintro aV ⟨J, ay⟩ az _ _ cm bV ⟨aa, aj, p, ak, q, rfl, rfl, i, aW, ao, aX⟩ ab
 unfold p8 at ab
 have hm := V8 ab
 refine Cr<|tS (lT rfl rfl (by omega))<|Te<|Cs<|w6 rfl<|Ck<|Xn<|Cs<|Cb<|Cr<|mV rfl<|aS rfl<|Te<|Cg<|mV rfl<|mV rfl ?_
 obtain ⟨⟨bW, bX⟩, bb, hm⟩ := bS hm
 have hm := V8 hm
 have zw := c.trans (a.trans (e.trans i))
 refine H0 1 rfl<|z4r d p q<|z4r q d p<|z4r p q d<|q8b [_] [_] d p q R rfl<|Tg _ rfl j2j rfl (q8K _ _ (aV : Int) g.Stations g.Sections g.Links g.Signals g.Gates f.From f.To f.Steps A J ay B A2 c3 A5 c6 A8 c9 r s t x y z C D d aa aj p ak q (h4.le zw) (h7.le zw) (aq.le zw) (ar.le zw) (au.le zw) (al.le zw) (ae.le (a.trans (e.trans i))) aW ao aX bW bX bb) ?_
 rintro _ ct _ bc ⟨bY, bZ, aY, b0, aZ, rfl, rfl, b1, b2, b3⟩
 refine z0h [_] [_] d aY aZ R rfl<|Tn<|Xm<|Xn<|Cg<|tS (sa rfl rfl (by omega))<|mV rfl<|Tn ?_
 obtain rfl := o1 hm
 exact jS ⟨bY, bZ, aY, b0, aZ, rfl, rfl, ((i.trans bc)), b1, b2, b3⟩
 rintro az _ _ ⟨aa, aj, p, ak, q, rfl, rfl, i, aW, ao, aX⟩
 have hm := V8 bt
 refine Cr<|tS (lF rfl rfl (by omega))<|Te<|Cs<|v8 rfl<|Ce<|Xe<|Xe<|Xo<|Xn ?_
 refine Cr<|mV rfl<|tS (sF rfl q4M)<|tS (sL 0 rfl Q3 rfl rfl)<|tS (sB (v := .agg #[iv 5, iv f.From, iv 0, iv ((-1))]) [(0, iv 5), (1, iv f.From), (3, iv ((-1)))] rfl (fun _ => by kernel_rfl)) ?_
 obtain ⟨⟨b4, b5⟩, bd, hm⟩ := bS hm
 have hm := V8 hm
 have zv := c.trans (a.trans (e.trans i))
 refine H0 1 rfl<|z4r d p q<|z4r q d p<|z4r p q d<|q8b [_] [_] d p q R rfl<|Tg _ rfl z1K rfl (q0K _ _ (⟨5, f.From, 0, (-1)⟩ : q8) g.Stations g.Sections g.Links g.Signals g.Gates f.From f.To f.Steps A J ay B A2 c3 A5 c6 A8 c9 r s t x y z C D d aa aj p ak q (h4.le zv) (h7.le zv) (aq.le zv) (ar.le zv) (au.le zv) (al.le zv) (ae.le (a.trans (e.trans i))) aW ao aX b4 b5 bd) ?_
 rintro _ cu _ be ⟨b6, b7, a0, bu, rfl, rfl, b8, b9, cv⟩
 refine z0h [_] [_] d a0 bu R rfl<|Te<|Cr<|mV rfl<|tS (sN rfl)<|tS (sF rfl q7O)<|tS (sL 0 rfl q5j rfl rfl)<|aS rfl<|Te<|Ct ?_
 obtain rfl := o1 hm
 exact rO ⟨b6, b7, a0, rfl, rfl, b8, b9⟩ (c.trans (a.trans (e.trans (i.trans be))))
theorem q5b (b : v7) (R : Hp) (d : q8) (i) (hm : q0A d = some i):
 w5 Tryz.prog 76 [.agg #[iv d.Kind, iv d.Place, iv d.Position, iv d.At]] b (R) (fun v b' hp' => bv i = v ∧ R = hp') := by
 refine fE 11 Tryz.func76 rfl Tryz.ntmps76 rfl ?_
 unfold q0A at hm
 refine Cr<|tD (uB _ rfl rfl) ?_
 rintro _ _ ⟨j, rfl, rfl⟩
 refine aS rfl<|Te ?_
 obtain ⟨h, e, f⟩ := bS hm
 refine Cj (fun g e' hp' => [(2, bv h)] = e' ∧ R = hp' ∧ b.Le g) ?_ ?_
 have hm := e
 refine Cg<|tS (sF rfl q1b)<|tS (sL 0 rfl Q3 rfl rfl)<|Tb rfl (q1 rfl rfl) (fun a => ?_) (fun a => ?_)
 rw [if_pos a] at hm
 refine mV rfl<|nO<|nO<|nO<|tS (pT rfl rfl)<|aS rfl<|Tn ?_
 obtain rfl := o1 hm
 exact jJ ⟨rfl, rfl, lr⟩
 rw [if_neg a] at hm
 refine mV rfl<|yS<|tS (sF rfl q1b)<|yS<|tS (sL 0 rfl Q3 rfl rfl)<|yS<|tS (q1 rfl rfl)<|tS (pF rfl rfl)<|aS rfl<|Tn ?_
 obtain rfl := o1 hm
 exact jJ ⟨rfl, rfl, lr⟩
 rintro g _ _ ⟨rfl, rfl, c⟩
 have hm := f
 refine Ct ?_
 obtain rfl := o1 hm
 exact rO ⟨rfl, rfl⟩ c
theorem q3t (b : v7) (R : Hp) (i : q8) (e : q8) (o j) (hm : K6 i e = some j):
 w5 Tryz.prog 77 [.agg #[iv i.Kind, iv i.Place, iv i.Position, iv i.At], .agg #[iv e.Kind, iv e.Place, iv e.Position, iv e.At], pb o] b ((o, Cl 86 [.func (.func 76) #[] #[]]) :: R) (fun v b' hp' => bv j = v ∧ (o, Cl 86 [.func (.func 76) #[] #[]]) :: R = hp') := by
 refine fE 26 Tryz.func77 rfl Tryz.ntmps77 rfl ?_
 unfold K6 at hm
 refine Cr<|tD (uB _ rfl rfl) ?_
 rintro _ _ ⟨q, rfl, rfl⟩
 refine tD (uB _ rfl rfl) ?_
 rintro _ _ ⟨r, rfl, rfl⟩
 refine aS rfl<|Te ?_
 obtain ⟨p, k, l⟩ := bS hm
 refine Cj (fun m e' hp' => [(5, bv p)] = e' ∧ (o, Cl 86 [.func (.func 76) #[] #[]]) :: R = hp' ∧ b.Le m) ?_ ?_
 have hm := k
 refine Cg<|tS (sF rfl q1b)<|tS (sL 1 rfl Q3 rfl rfl)<|Tb rfl (q1 rfl rfl) (fun c => ?_) (fun c => ?_)
 rw [if_pos c] at hm
 refine mV rfl<|yS<|tS (sF rfl q1b)<|yS<|tS (sL 0 rfl Q3 rfl rfl)<|yS<|Tb rfl (q1 rfl rfl) (fun d => ?_) (fun d => ?_)
 rw [if_pos d] at hm
 refine yS<|mV rfl<|nO<|nO<|nO<|yS<|tS (pT rfl rfl)<|tS (pT rfl rfl)<|mV rfl<|yS<|tS (sF rfl q1H)<|yS<|tS (sL 1 rfl Q3 rfl rfl)<|yS<|tS (sF rfl q1H)<|yS<|tS (sL 0 rfl Q3 rfl rfl)<|yS<|tS (q2 rfl rfl)<|tS (pT rfl rfl)<|aS rfl<|Tn ?_
 obtain rfl := o1 hm
 exact jJ ⟨rfl, rfl, lr⟩
 rw [if_neg d] at hm
 refine yS<|mV rfl<|yS<|tS (sL 2 rfl z9W rfl rfl)<|yS<|tS (sD (vs := [_, _, _, _]) 0 4 rfl K8 rfl rfl rfl)<|yS ?_
 obtain ⟨n, f, hm⟩ := bS hm
 refine tD (F8 #[] #[] [.agg #[iv e.Kind, iv e.Place, iv e.Position, iv e.At]] rfl z6x rfl (fun w ho => q5b _ [] e n f) (fun _ _ _ h => h.2.symm)) ?_
 rintro _ _ ⟨⟨_, rfl, _⟩, rfl⟩
 rcases Kg n with a | a
 rw [if_pos a] at hm
 refine Tr 16 rfl (v' := .bool true) (by rw [a] <;> rfl)<|yS<|tS (pF rfl rfl)<|tS (pT rfl rfl)<|mV rfl<|yS<|tS (sF rfl q1H)<|yS<|tS (sL 1 rfl Q3 rfl rfl)<|yS<|tS (sF rfl q1H)<|yS<|tS (sL 0 rfl Q3 rfl rfl)<|yS<|tS (q2 rfl rfl)<|tS (pT rfl rfl)<|aS rfl<|Tn ?_
 obtain rfl := o1 hm
 exact jJ ⟨rfl, rfl, lr⟩
 rw [if_neg (fun hh => Bool.noConfusion (hh.symm.trans a))] at hm
 refine Tr 16 rfl (v' := .bool false) (by rw [a] <;> rfl)<|yS<|tS (pF rfl rfl)<|tS (pT rfl rfl)<|mV rfl<|nO<|nO<|nO<|nO<|nO<|tS (pF rfl rfl)<|aS rfl<|Tn ?_
 obtain rfl := o1 hm
 exact jJ ⟨rfl, rfl, lr⟩
 rw [if_neg c] at hm
 refine mV rfl<|nO<|nO<|nO<|nO<|nO<|nO<|nO<|nO<|tS (pF rfl rfl)<|mV rfl<|nO<|nO<|nO<|nO<|nO<|tS (pF rfl rfl)<|aS rfl<|Tn ?_
 obtain rfl := o1 hm
 exact jJ ⟨rfl, rfl, lr⟩
 rintro m _ _ ⟨rfl, rfl, g⟩
 have hm := l
 refine Ct ?_
 obtain rfl := o1 hm
 exact rO ⟨rfl, rfl⟩ g
theorem q3s (b : v7) (R : Hp) (d : q8) (e : q8) (f) (hm : K5 d e = some f):
 w5 Tryz.prog 78 [.agg #[iv d.Kind, iv d.Place, iv d.Position, iv d.At], .agg #[iv e.Kind, iv e.Place, iv e.Position, iv e.At]] b (R) (fun v b' hp' => bv f = v ∧ R = hp') := by
 refine fE 13 Tryz.func78 rfl Tryz.ntmps78 rfl ?_
 unfold K5 at hm
 refine Cr<|tD (uB _ rfl rfl) ?_
 rintro _ _ ⟨k, rfl, rfl⟩
 refine tD (uB _ rfl rfl) ?_
 rintro _ _ ⟨l, rfl, rfl⟩
 refine aS rfl<|Te ?_
 obtain ⟨j, g, h⟩ := bS hm
 refine Cj (fun i e' hp' => [(4, bv j)] = e' ∧ R = hp' ∧ b.Le i) ?_ ?_
 have hm := g
 refine Cg<|tS (sF rfl q1b)<|tS (sL 1 rfl Q3 rfl rfl)<|Tb rfl (q1 rfl rfl) (fun a => ?_) (fun a => ?_)
 rw [if_pos a] at hm
 refine mV rfl<|yS<|tS (sF rfl q1b)<|yS<|tS (sL 0 rfl Q3 rfl rfl)<|yS<|tS (q1 rfl rfl)<|tS (pT rfl rfl)<|aS rfl<|Tn ?_
 obtain rfl := o1 hm
 exact jJ ⟨rfl, rfl, lr⟩
 rw [if_neg a] at hm
 refine mV rfl<|nO<|nO<|nO<|tS (pF rfl rfl)<|aS rfl<|Tn ?_
 obtain rfl := o1 hm
 exact jJ ⟨rfl, rfl, lr⟩
 rintro i _ _ ⟨rfl, rfl, c⟩
 have hm := h
 refine Ct ?_
 obtain rfl := o1 hm
 exact rO ⟨rfl, rfl⟩ c
theorem q7a (b : v7) (R : Hp) (a : q8) (c : q8) (U) (hm : q0U a c = some U):
 w5 Tryz.prog 40 [.agg #[iv a.Kind, iv a.Place, iv a.Position, iv a.At], .agg #[iv c.Kind, iv c.Place, iv c.Position, iv c.At]] b (R) (fun v b' hp' => bv U = v ∧ R = hp') := by
 refine fE 46 Tryz.func40 rfl Tryz.ntmps40 rfl ?_
 unfold q0U at hm
 refine Cr<|tD (uB _ rfl rfl) ?_
 rintro _ _ ⟨ac, rfl, rfl⟩
 refine tD (uB _ rfl rfl) ?_
 rintro _ _ ⟨ad, rfl, rfl⟩
 refine aS rfl<|Te<|Cs<|Cr<|tS (sF rfl q4L)<|tS (sL 1 rfl Q3 rfl rfl)<|tS (sF rfl q4L)<|tS (sL 0 rfl Q3 rfl rfl)<|tS (q2 rfl rfl)<|Te<|cI hm rfl (fun hm => ?_) fun hm => ?_
 refine Cr<|aS rfl<|Te<|Ct<|Xr ?_
 obtain rfl := o1 hm
 exact rO ⟨rfl, rfl⟩ lr
 refine Ck<|Xn<|Cr<|tD (uA [.nilFunc] j0T rfl) ?_
 rintro _ _ ⟨q, rfl, rfl⟩
 refine tD (uS 0 rfl rfl j3f rfl rfl (by simp)) ?_
 rintro _ _ rfl
 refine Te<|Cr<|tS (q3V _ _ rfl rfl)<|aS rfl<|Te<|Cr<|aS rfl<|Te ?_
 obtain ⟨V, S, T⟩ := bS hm
 refine Cj (fun E e' hp' => [(4, bv V)] = e' ∧ R = hp' ∧ b.Le E) ?_ ?_
 have hm := S
 refine Cg<|tS (sL 0 rfl z9W rfl rfl)<|tS (sD (vs := [_, _, _, _]) 2 4 rfl K8 rfl rfl rfl) ?_
 obtain ⟨F, r, hm⟩ := bS hm
 refine tD (F8 #[] #[] [.agg #[iv a.Kind, iv a.Place, iv a.Position, iv a.At]] rfl z6x rfl (fun w ho => q5b _ [] a F r) (fun _ _ _ h => h.2.symm)) ?_
 rintro _ _ ⟨⟨_, rfl, _⟩, rfl⟩
 rcases Kg F with f | f
 rw [if_pos f] at hm
 refine Tr 16 rfl (v' := .bool true) (by rw [f] <;> rfl)<|mV rfl<|yS<|tS (sL 0 rfl z9W rfl rfl)<|yS<|tS (sD (vs := [_, _, _, _]) 1 4 rfl K8 rfl rfl rfl)<|yS ?_
 obtain ⟨G, s, hm⟩ := bS hm
 refine tD (F8 #[] #[] [.agg #[iv c.Kind, iv c.Place, iv c.Position, iv c.At]] rfl z6x rfl (fun w ho => q5b _ [] c G s) (fun _ _ _ h => h.2.symm)) ?_
 rintro _ _ ⟨⟨_, rfl, _⟩, rfl⟩
 rcases Kg G with g | g
 rw [if_pos g] at hm
 refine Tr 20 rfl (v' := .bool true) (by rw [g] <;> rfl)<|tS (pT rfl rfl)<|mV rfl<|nO<|nO<|nO<|nO<|tS (pT rfl rfl)<|mV rfl<|nO<|nO<|nO<|nO<|tS (pT rfl rfl)<|mV rfl<|nO<|nO<|nO<|nO<|tS (pT rfl rfl)<|mV rfl<|nO<|nO<|nO<|nO<|tS (pT rfl rfl)<|aS rfl<|Tn ?_
 obtain rfl := o1 hm
 exact jJ ⟨rfl, rfl, lr⟩
 rw [if_neg (fun hh => Bool.noConfusion (hh.symm.trans g))] at hm
 refine Tr 20 rfl (v' := .bool false) (by rw [g] <;> rfl)<|tS (pT rfl rfl)<|mV rfl<|yS<|mV rfl<|yS<|tS (sD (vs := [_, _, _, _]) 2 4 rfl K8 rfl rfl rfl)<|yS<|tS (sD (vs := [_, _, _, _]) 1 4 rfl K8 rfl rfl rfl)<|yS ?_
 obtain ⟨H, t, hm⟩ := bS hm
 refine Tv #[] #[pb q] [.agg #[iv a.Kind, iv a.Place, iv a.Position, iv a.At], .agg #[iv c.Kind, iv c.Place, iv c.Position, iv c.At]] rfl rfl z3Z rfl (q3t _ _ a c q H t) ?_
 rintro _ Y _ d ⟨rfl, rfl⟩
 rcases Kg H with i | i
 rw [if_pos i] at hm
 refine Tr 26 rfl (v' := .bool true) (by rw [i] <;> rfl)<|tS (pF rfl rfl)<|mV rfl<|nO<|nO<|nO<|nO<|tS (pT rfl rfl)<|mV rfl<|nO<|nO<|nO<|nO<|tS (pT rfl rfl)<|mV rfl<|nO<|nO<|nO<|nO<|tS (pT rfl rfl)<|aS rfl<|Tn ?_
 obtain rfl := o1 hm
 exact jJ ⟨rfl, rfl, d⟩
 rw [if_neg (fun hh => Bool.noConfusion (hh.symm.trans i))] at hm
 refine Tr 26 rfl (v' := .bool false) (by rw [i] <;> rfl)<|tS (pF rfl rfl)<|mV rfl<|yS<|mV rfl<|yS<|tS (sD (vs := [_, _, _, _]) 1 4 rfl K8 rfl rfl rfl)<|yS<|tS (sD (vs := [_, _, _, _]) 2 4 rfl K8 rfl rfl rfl)<|yS ?_
 obtain ⟨I, u, hm⟩ := bS hm
 refine Tv #[] #[pb q] [.agg #[iv c.Kind, iv c.Place, iv c.Position, iv c.At], .agg #[iv a.Kind, iv a.Place, iv a.Position, iv a.At]] rfl rfl z3Z rfl (q3t _ _ c a q I u) ?_
 rintro _ Z _ o ⟨rfl, rfl⟩
 rcases Kg I with j | j
 rw [if_pos j] at hm
 refine Tr 32 rfl (v' := .bool true) (by rw [j] <;> rfl)<|tS (pF rfl rfl)<|mV rfl<|nO<|nO<|nO<|nO<|tS (pT rfl rfl)<|mV rfl<|nO<|nO<|nO<|nO<|tS (pT rfl rfl)<|aS rfl<|Tn ?_
 obtain rfl := o1 hm
 exact jJ ⟨rfl, rfl, (d.trans o)⟩
 rw [if_neg (fun hh => Bool.noConfusion (hh.symm.trans j))] at hm
 refine Tr 32 rfl (v' := .bool false) (by rw [j] <;> rfl)<|tS (pF rfl rfl)<|mV rfl<|yS<|mV rfl<|yS<|tS (sD (vs := [_, _, _, _]) 2 4 rfl K8 rfl rfl rfl)<|yS<|tS (sD (vs := [_, _, _, _]) 1 4 rfl K8 rfl rfl rfl)<|yS ?_
 obtain ⟨J, x, hm⟩ := bS hm
 refine tD (F8 #[] #[] [.agg #[iv a.Kind, iv a.Place, iv a.Position, iv a.At], .agg #[iv c.Kind, iv c.Place, iv c.Position, iv c.At]] rfl z3Y rfl (fun w ho => q3s _ [] a c J x) (fun _ _ _ h => h.2.symm)) ?_
 rintro _ _ ⟨⟨_, rfl, _⟩, rfl⟩
 rcases Kg J with k | k
 rw [if_pos k] at hm
 refine Tr 38 rfl (v' := .bool true) (by rw [k] <;> rfl)<|tS (pF rfl rfl)<|mV rfl<|nO<|nO<|nO<|nO<|tS (pT rfl rfl)<|aS rfl<|Tn ?_
 obtain rfl := o1 hm
 exact jJ ⟨rfl, rfl, (d.trans o)⟩
 rw [if_neg (fun hh => Bool.noConfusion (hh.symm.trans k))] at hm
 refine Tr 38 rfl (v' := .bool false) (by rw [k] <;> rfl)<|tS (pF rfl rfl)<|mV rfl<|yS<|mV rfl<|yS<|tS (sD (vs := [_, _, _, _]) 1 4 rfl K8 rfl rfl rfl)<|yS<|tS (sD (vs := [_, _, _, _]) 2 4 rfl K8 rfl rfl rfl)<|yS ?_
 obtain ⟨W, y, hm⟩ := bS hm
 refine tD (F8 #[] #[] [.agg #[iv c.Kind, iv c.Place, iv c.Position, iv c.At], .agg #[iv a.Kind, iv a.Place, iv a.Position, iv a.At]] rfl z3Y rfl (fun w ho => q3s _ [] c a W y) (fun _ _ _ h => h.2.symm)) ?_
 rintro _ _ ⟨⟨_, rfl, _⟩, rfl⟩
 refine tS (pF rfl rfl)<|aS rfl<|Tn ?_
 obtain rfl := o1 hm
 exact jJ ⟨rfl, rfl, (d.trans o)⟩
 rw [if_neg (fun hh => Bool.noConfusion (hh.symm.trans f))] at hm
 refine Tr 16 rfl (v' := .bool false) (by rw [f] <;> rfl)<|mV rfl<|nO<|nO<|nO<|tS (pF rfl rfl)<|mV rfl<|yS<|mV rfl<|yS<|tS (sD (vs := [_, _, _, _]) 2 4 rfl K8 rfl rfl rfl)<|yS<|tS (sD (vs := [_, _, _, _]) 1 4 rfl K8 rfl rfl rfl)<|yS ?_
 obtain ⟨K, z, hm⟩ := bS hm
 refine Tv #[] #[pb q] [.agg #[iv a.Kind, iv a.Place, iv a.Position, iv a.At], .agg #[iv c.Kind, iv c.Place, iv c.Position, iv c.At]] rfl rfl z3Z rfl (q3t _ _ a c q K z) ?_
 rintro _ aa _ e ⟨rfl, rfl⟩
 rcases Kg K with l | l
 rw [if_pos l] at hm
 refine Tr 26 rfl (v' := .bool true) (by rw [l] <;> rfl)<|tS (pF rfl rfl)<|mV rfl<|nO<|nO<|nO<|nO<|tS (pT rfl rfl)<|mV rfl<|nO<|nO<|nO<|nO<|tS (pT rfl rfl)<|mV rfl<|nO<|nO<|nO<|nO<|tS (pT rfl rfl)<|aS rfl<|Tn ?_
 obtain rfl := o1 hm
 exact jJ ⟨rfl, rfl, e⟩
 rw [if_neg (fun hh => Bool.noConfusion (hh.symm.trans l))] at hm
 refine Tr 26 rfl (v' := .bool false) (by rw [l] <;> rfl)<|tS (pF rfl rfl)<|mV rfl<|yS<|mV rfl<|yS<|tS (sD (vs := [_, _, _, _]) 1 4 rfl K8 rfl rfl rfl)<|yS<|tS (sD (vs := [_, _, _, _]) 2 4 rfl K8 rfl rfl rfl)<|yS ?_
 obtain ⟨L, A, hm⟩ := bS hm
 refine Tv #[] #[pb q] [.agg #[iv c.Kind, iv c.Place, iv c.Position, iv c.At], .agg #[iv a.Kind, iv a.Place, iv a.Position, iv a.At]] rfl rfl z3Z rfl (q3t _ _ c a q L A) ?_
 rintro _ ab _ p ⟨rfl, rfl⟩
 rcases Kg L with m | m
 rw [if_pos m] at hm
 refine Tr 32 rfl (v' := .bool true) (by rw [m] <;> rfl)<|tS (pF rfl rfl)<|mV rfl<|nO<|nO<|nO<|nO<|tS (pT rfl rfl)<|mV rfl<|nO<|nO<|nO<|nO<|tS (pT rfl rfl)<|aS rfl<|Tn ?_
 obtain rfl := o1 hm
 exact jJ ⟨rfl, rfl, (e.trans p)⟩
 rw [if_neg (fun hh => Bool.noConfusion (hh.symm.trans m))] at hm
 refine Tr 32 rfl (v' := .bool false) (by rw [m] <;> rfl)<|tS (pF rfl rfl)<|mV rfl<|yS<|mV rfl<|yS<|tS (sD (vs := [_, _, _, _]) 2 4 rfl K8 rfl rfl rfl)<|yS<|tS (sD (vs := [_, _, _, _]) 1 4 rfl K8 rfl rfl rfl)<|yS ?_
 obtain ⟨O, B, hm⟩ := bS hm
 refine tD (F8 #[] #[] [.agg #[iv a.Kind, iv a.Place, iv a.Position, iv a.At], .agg #[iv c.Kind, iv c.Place, iv c.Position, iv c.At]] rfl z3Y rfl (fun w ho => q3s _ [] a c O B) (fun _ _ _ h => h.2.symm)) ?_
 rintro _ _ ⟨⟨_, rfl, _⟩, rfl⟩
 rcases Kg O with n | n
 rw [if_pos n] at hm
 refine Tr 38 rfl (v' := .bool true) (by rw [n] <;> rfl)<|tS (pF rfl rfl)<|mV rfl<|nO<|nO<|nO<|nO<|tS (pT rfl rfl)<|aS rfl<|Tn ?_
 obtain rfl := o1 hm
 exact jJ ⟨rfl, rfl, (e.trans p)⟩
 rw [if_neg (fun hh => Bool.noConfusion (hh.symm.trans n))] at hm
 refine Tr 38 rfl (v' := .bool false) (by rw [n] <;> rfl)<|tS (pF rfl rfl)<|mV rfl<|yS<|mV rfl<|yS<|tS (sD (vs := [_, _, _, _]) 1 4 rfl K8 rfl rfl rfl)<|yS<|tS (sD (vs := [_, _, _, _]) 2 4 rfl K8 rfl rfl rfl)<|yS ?_
 obtain ⟨X, C, hm⟩ := bS hm
 refine tD (F8 #[] #[] [.agg #[iv c.Kind, iv c.Place, iv c.Position, iv c.At], .agg #[iv a.Kind, iv a.Place, iv a.Position, iv a.At]] rfl z3Y rfl (fun w ho => q3s _ [] c a X C) (fun _ _ _ h => h.2.symm)) ?_
 rintro _ _ ⟨⟨_, rfl, _⟩, rfl⟩
 refine tS (pF rfl rfl)<|aS rfl<|Tn ?_
 obtain rfl := o1 hm
 exact jJ ⟨rfl, rfl, (e.trans p)⟩
 rintro E _ _ ⟨rfl, rfl, D⟩
 have hm := T
 refine Ct ?_
 obtain rfl := o1 hm
 exact rO ⟨rfl, rfl⟩ D
theorem z0T (b : v7) (R : Hp) (c : q8) (e f g i j d) (hm : q2F c e f g i = some d):
 w5 Tryz.prog 67 [.agg #[iv c.Kind, iv c.Place, iv c.Position, iv c.At], pb j] b ((j, Cl 55 [iv e, iv f, iv g, iv i]) :: R) (fun v b' hp' => bv d = v ∧ (j, Cl 55 [iv e, iv f, iv g, iv i]) :: R = hp') := by
 refine fE 7 Tryz.func67 rfl Tryz.ntmps67 rfl ?_
 unfold q2F at hm
 refine Cr<|tD (uB _ rfl rfl) ?_
 rintro _ _ ⟨l, rfl, rfl⟩
 refine aS rfl<|Te<|Cr<|tS (sD (vs := [_, _, _, _]) 1 4 rfl K8 rfl rfl rfl)<|tS (sD (vs := [_, _, _, _]) 0 4 rfl K8 rfl rfl rfl) ?_
 obtain ⟨k, a, hm⟩ := bS hm
 refine tD (uW _ z6y rfl (fun w ho => q7a _ [] (⟨e, f, g, i⟩ : q8) c k a) (fun _ _ _ h => h.2.symm)) ?_
 rintro _ _ ⟨⟨_, rfl, _⟩, rfl⟩
 refine aS rfl<|Te<|Ct ?_
 obtain rfl := o1 hm
 exact rO ⟨rfl, rfl⟩ lr
theorem q6y (b : v7) (R : Hp) (o p q r s i D E) (H : FZ j4 b.w D E o) (t) (hm : q0g o p q r s = some t):
 w5 Tryz.prog 74 [sv D o E, .func (.func 67) #[] #[pb i]] b ((i, Cl 55 [iv p, iv q, iv r, iv s]) :: R) (fun v b' hp' => iv t = v ∧ (i, Cl 55 [iv p, iv q, iv r, iv s]) :: R = hp') := by
 refine fE 19 Tryz.func74 rfl Tryz.ntmps74 rfl ?_
 unfold q0g at hm
 refine Cr<|aS rfl<|Te<|Cs<|Cr<|mV rfl<|tS (sE rfl q3C)<|mV rfl<|Te<|Cb ?_
 have I : o.length ≤ 9223372036854775807 := (FZ.bd H)
 obtain ⟨O, w, e⟩ := bS hm
 refine lF (fun x => fun _ => fun k e' hp' => [(0, sv D o E), (1, .func (.func 67) #[] #[pb i]), (7, iv ((o.length : Int))), (8, iv ((x : Int)))] = e' ∧ (i, Cl 55 [iv p, iv q, iv r, iv s]) :: R = hp' ∧ b.Le k) w ⟨rfl, rfl, lr⟩ ?_ ?_
 rintro x _ k _ _ J C ⟨rfl, rfl, a⟩ c f
 unfold q0b at c
 have hm := c
 refine Cr<|tS (lT rfl rfl (by omega))<|Te<|Cs<|w6 rfl<|Ck<|Xn<|Cs<|Cb<|Cr<|mV rfl<|aS rfl<|Te<|Cr<|mV rfl<|mV rfl<|mV rfl ?_
 obtain ⟨d, F, K, y, L, z, l, h, m, hm⟩ := bF (sz := 4) hm (H.le a)
 obtain ⟨_, _, rfl, rfl, ⟨_, _, rfl, rfl, ⟨_, _, rfl, rfl, rfl⟩⟩⟩ := z
 refine tS (sI F rfl rfl y m h q3C)<|tS (sP (vs := [iv d.Kind, iv d.Place, iv d.Position, iv d.At]) 4 rfl K8 h rfl (fun j u hu => l j u hu)) ?_
 obtain ⟨G, n, hm⟩ := bS hm
 refine Tv #[] #[pb i] [.agg #[iv d.Kind, iv d.Place, iv d.Position, iv d.At]] rfl rfl j2h rfl (z0T _ _ d p q r s i G n) ?_
 rintro _ S _ g ⟨rfl, rfl⟩
 refine Te<|cB hm rfl (fun hm => ?_) fun hm => ?_
 refine Cr<|mV rfl<|aS rfl<|Te<|Ct<|Xb<|Xr<|Xr<|Xb<|Xr ?_
 have A := f _ (Kd hm).symm
 rw [A] at e
 have hm := V6 e
 obtain rfl := o1 hm
 exact rO ⟨rfl, rfl⟩ (a.trans g)
 refine Ck<|Xm<|Xn<|Cg<|tS (sa rfl rfl (by omega))<|mV rfl<|Tn ?_
 exact jM hm ⟨rfl, rfl, ((a.trans g))⟩
 rintro _ k _ _ ⟨rfl, rfl, a⟩ B
 rw [B] at e
 have hm := G6 e
 refine Cr<|tS (lF rfl rfl (by omega))<|Te<|Cs<|v8 rfl<|Ce<|Xe<|Xe<|Xo<|Xn<|Cr<|aS rfl<|Te<|Ct ?_
 obtain rfl := o1 hm
 exact rO ⟨rfl, rfl⟩ a
theorem q4X (b : v7) (R : Hp) (e f g h i j k l) (n : FZ j4 b.w k l e) (d) (hm : Y0 e f g h i = some d):
 w5 Tryz.prog 65 [sv k e l, .func (.func 67) #[] #[pb j]] b ((j, Cl 55 [iv f, iv g, iv h, iv i]) :: R) (fun v b' hp' => bv d = v ∧ (j, Cl 55 [iv f, iv g, iv h, iv i]) :: R = hp') := by
 refine fE 9 Tryz.func65 rfl Tryz.ntmps65 rfl ?_
 unfold Y0 at hm
 refine Cr<|aS rfl<|Te<|Cr<|mV rfl<|mV rfl ?_
 obtain ⟨m, a, hm⟩ := bS hm
 refine Tg _ rfl z1J rfl (q6y _ _ e f g h i j k l n m a) ?_
 rintro _ o _ c ⟨rfl, rfl⟩
 refine tS (q6 rfl rfl)<|aS rfl<|Te<|Ct ?_
 obtain rfl := o1 hm
 exact rO ⟨rfl, rfl⟩ c
theorem z2V (b : v7) (R : Hp) (a : q8) (e i g h) (l : FZ j4 b.w g h e) (f) (hm : q2R a e = some f):
 w5 Tryz.prog 66 [.agg #[iv a.Kind, iv a.Place, iv a.Position, iv a.At], pb i] b ((i, Cl 46 [sv g e h]) :: R) (fun v b' hp' => bv f = v ∧ (i, Cl 46 [sv g e h]) :: R = hp') := by
 refine fE 7 Tryz.func66 rfl Tryz.ntmps66 rfl ?_
 unfold q2R at hm
 refine Cr<|tD (uB _ rfl rfl) ?_
 rintro _ _ ⟨j, rfl, rfl⟩
 refine aS rfl<|Te<|Cr<|tS (sL 1 rfl q5j rfl rfl)<|tS (q3V _ _ rfl rfl) ?_
 obtain ⟨k, c, hm⟩ := bS hm
 refine Tg _ rfl z4a rfl (q4X _ _ e a.Kind a.Place a.Position a.At j g h l k c) ?_
 rintro _ m _ d ⟨rfl, rfl⟩
 refine aS rfl<|Te<|Ct ?_
 obtain rfl := o1 hm
 exact rO ⟨rfl, rfl⟩ d
theorem q6z (b : v7) (R : Hp) (o p i C D q r) (G : FZ j4 b.w C D o) (L : FZ j4 b.w q r p) (s) (hm : q0h o p = some s):
 w5 Tryz.prog 74 [sv C o D, .func (.func 66) #[] #[pb i]] b ((i, Cl 46 [sv q p r]) :: R) (fun v b' hp' => iv s = v ∧ (i, Cl 46 [sv q p r]) :: R = hp') := by
 refine fE 19 Tryz.func74 rfl Tryz.ntmps74 rfl ?_
 unfold q0h at hm
 refine Cr<|aS rfl<|Te<|Cs<|Cr<|mV rfl<|tS (sE rfl q3C)<|mV rfl<|Te<|Cb ?_
 have H : o.length ≤ 9223372036854775807 := (FZ.bd G)
 obtain ⟨O, t, e⟩ := bS hm
 refine lF (fun w => fun _ => fun k e' hp' => [(0, sv C o D), (1, .func (.func 66) #[] #[pb i]), (7, iv ((o.length : Int))), (8, iv ((w : Int)))] = e' ∧ (i, Cl 46 [sv q p r]) :: R = hp' ∧ b.Le k) t ⟨rfl, rfl, lr⟩ ?_ ?_
 rintro w _ k _ _ I B ⟨rfl, rfl, a⟩ c f
 unfold q0c at c
 have hm := c
 refine Cr<|tS (lT rfl rfl (by omega))<|Te<|Cs<|w6 rfl<|Ck<|Xn<|Cs<|Cb<|Cr<|mV rfl<|aS rfl<|Te<|Cr<|mV rfl<|mV rfl<|mV rfl ?_
 obtain ⟨d, E, J, x, K, y, l, h, m, hm⟩ := bF (sz := 4) hm (G.le a)
 obtain ⟨_, _, rfl, rfl, ⟨_, _, rfl, rfl, ⟨_, _, rfl, rfl, rfl⟩⟩⟩ := y
 refine tS (sI E rfl rfl x m h q3C)<|tS (sP (vs := [iv d.Kind, iv d.Place, iv d.Position, iv d.At]) 4 rfl K8 h rfl (fun j u hu => l j u hu)) ?_
 obtain ⟨F, n, hm⟩ := bS hm
 refine Tv #[] #[pb i] [.agg #[iv d.Kind, iv d.Place, iv d.Position, iv d.At]] rfl rfl j2i rfl (z2V _ _ d p i q r (L.le a) F n) ?_
 rintro _ S _ g ⟨rfl, rfl⟩
 refine Te<|cB hm rfl (fun hm => ?_) fun hm => ?_
 refine Cr<|mV rfl<|aS rfl<|Te<|Ct<|Xb<|Xr<|Xr<|Xb<|Xr ?_
 have z := f _ (Kd hm).symm
 rw [z] at e
 have hm := V6 e
 obtain rfl := o1 hm
 exact rO ⟨rfl, rfl⟩ (a.trans g)
 refine Ck<|Xm<|Xn<|Cg<|tS (sa rfl rfl (by omega))<|mV rfl<|Tn ?_
 exact jM hm ⟨rfl, rfl, ((a.trans g))⟩
 rintro _ k _ _ ⟨rfl, rfl, a⟩ A
 rw [A] at e
 have hm := G6 e
 refine Cr<|tS (lF rfl rfl (by omega))<|Te<|Cs<|v8 rfl<|Ce<|Xe<|Xe<|Xo<|Xn<|Cr<|aS rfl<|Te<|Ct ?_
 obtain rfl := o1 hm
 exact rO ⟨rfl, rfl⟩ a
theorem q4Y (b : v7) (R : Hp) (f d g j k h i) (m : FZ j4 b.w j k f) (n : FZ j4 b.w h i d) (e) (hm : Y1 f d = some e):
 w5 Tryz.prog 65 [sv j f k, .func (.func 66) #[] #[pb g]] b ((g, Cl 46 [sv h d i]) :: R) (fun v b' hp' => bv e = v ∧ (g, Cl 46 [sv h d i]) :: R = hp') := by
 refine fE 9 Tryz.func65 rfl Tryz.ntmps65 rfl ?_
 unfold Y1 at hm
 refine Cr<|aS rfl<|Te<|Cr<|mV rfl<|mV rfl ?_
 obtain ⟨l, a, hm⟩ := bS hm
 refine Tg _ rfl z1J rfl (q6z _ _ f d g j k h i m n l a) ?_
 rintro _ o _ c ⟨rfl, rfl⟩
 refine tS (q6 rfl rfl)<|aS rfl<|Te<|Ct ?_
 obtain rfl := o1 hm
 exact rO ⟨rfl, rfl⟩ c
theorem z6Q (b : v7) (R : Hp) (e f g h i j) (m : FZ j4 b.w g h e) (n : FZ j4 b.w i j f) (d) (hm : q3I e f = some d):
 w5 Tryz.prog 27 [sv g e h, sv i f j] b (R) (fun v b' hp' => bv d = v ∧ R = hp') := by
 refine fE 8 Tryz.func27 rfl Tryz.ntmps27 rfl ?_
 unfold q3I at hm
 refine Cr<|tD (uB _ rfl rfl) ?_
 rintro _ _ ⟨k, rfl, rfl⟩
 refine aS rfl<|Te<|Cr<|mV rfl<|tS (q3V _ _ rfl rfl) ?_
 obtain ⟨l, a, hm⟩ := bS hm
 refine Tg _ rfl z4a rfl (q4Y _ _ e f k g h i j m n l a) ?_
 rintro _ o _ c ⟨rfl, rfl⟩
 refine aS rfl<|Te<|Ct ?_
 obtain rfl := o1 hm
 exact rO ⟨rfl, rfl⟩ c
theorem z4Z (b : v7) (R : Hp) (s1 : j1) (A2 c3 A5 c6 A8 c9 au av aw ax) (h4 : FZ RT.str b.w A2 c3 s1.Stations) (h7 : FZ j5 b.w A5 c6 s1.Sections) (b9 : FZ w9 b.w A8 c9 s1.Links) (ca : FZ j6 b.w au av s1.Signals) (cb : FZ k7 b.w aw ax s1.Gates) (ay W) (hm : q3H s1 = some (ay, W)):
 w5 Tryz.prog 7 [.agg #[sv A2 s1.Stations c3, sv A5 s1.Sections c6, sv A8 s1.Links c9, sv au s1.Signals av, sv aw s1.Gates ax]] b (R) (fun v b' hp' => ∃ az aA ai, .tuple #[sv az W aA, iv ay] = v ∧ (ai ++ R) = hp' ∧ OS 48 (OT.catR (RT.on (RT.list j4) W7.Needs) (OT.on (OT.list 3 (OT.fr rI)) W7.Clashes)) b'.w (sv az W aA) W ai) := by
 refine fE 78 Tryz.func7 rfl Tryz.ntmps7 rfl ?_
 unfold q3H at hm
 refine Cr<|tD (uB _ rfl rfl) ?_
 rintro _ _ ⟨aB, rfl, rfl⟩
 refine aS rfl<|aS rfl<|Te<|Cr<|tS (sD (vs := [_, _, _, _, _]) 0 5 rfl G7 rfl rfl rfl) ?_
 obtain ⟨⟨bn, X⟩, aC, hm⟩ := bS hm
 have hm := V8 hm
 refine Tg _ rfl z8t rfl (q4i _ _ s1 A2 c3 A5 c6 A8 c9 au av aw ax h4 h7 b9 ca cb bn X aC) ?_
 rintro _ bo _ f ⟨bp, bq, k, rfl, rfl, aD, cH⟩
 refine q2z [] [_] k R rfl<|mV rfl<|tS (v6 rfl rfl)<|tS (v6 rfl rfl)<|aS rfl<|aS rfl<|Te<|Cs<|Cr<|mV rfl<|tS (q2 rfl rfl)<|Te<|cI hm rfl (fun hm => ?_) fun hm => ?_
 refine Cr<|mV rfl<|aS rfl<|aS rfl<|Te<|Ct<|Xr ?_
 obtain ⟨rfl, rfl⟩ := W4 hm
 exact rT ⟨none, 0, [], rfl, rfl, OS.nil⟩ f
 refine Ck<|Xn<|Cr<|mV rfl<|tS (sE rfl z2b) ?_
 obtain ⟨Y, I, hm⟩ := bS hm
 have I := q0Q I
 refine tD (j1a (o := (OT.catR (RT.on (RT.list j4) W7.Needs) (OT.on (OT.list 3 (OT.fr rI)) W7.Clashes))) [_] (k ++ R) [sn, sn] (⟨([] : List q8), ([] : List Int)⟩ : W7) Y rfl I.1 rfl rfl z4x j3t rfl rfl rfl (by decide) ⟨[sn], _, rfl, (RT.list_mk FZ.nil), ⟨_, rfl, OS.nil⟩⟩ I.2.1 I.2.2) ?_
 rintro _ _ ⟨Z, rfl, aE⟩
 obtain ⟨c, d, rfl, _⟩ := aE.form
 refine aS rfl<|Te<|Cs<|Cr<|mV rfl<|tS (sE rfl z2b)<|mV rfl<|Te<|Cb ?_
 have ch : X.length ≤ 9223372036854775807 := (OS.len aD)
 refine j0v Z k<|j0v k Z ?_
 obtain ⟨g, aZ, a0⟩ := bS hm
 refine lS (fun af => fun g => fun J e' hp' => ∃ m, [(1, pb aB), (6, sv c g d), (22, sv bp X bq), (23, iv ((X.length : Int))), (24, iv ((af : Int)))] = e' ∧ (aB, Cl 28 [sv A2 s1.Stations c3, sv A5 s1.Sections c6, sv A8 s1.Links c9, sv au s1.Signals av, sv aw s1.Gates ax]) :: (m ++ (k ++ R)) = hp' ∧ bo.Le J ∧ OS 48 (OT.catR (RT.on (RT.list j4) W7.Needs) (OT.on (OT.list 3 (OT.fr rI)) W7.Clashes)) J.w (sv c g d) g m ∧ g.length = Y) aZ ⟨Z, rfl, rfl, lr, aE, List.length_replicate⟩ ?_ ?_
 rintro af g J _ _ ci b6 ⟨m, rfl, rfl, a, K, L⟩ D
 unfold q1l at D
 have hm := D
 refine Cr<|tS (lT rfl rfl (by omega))<|Te<|Cs<|w6 rfl<|Ck<|Xn<|Cs<|Cb<|Cr<|mV rfl ?_
 obtain ⟨aa, br, hm⟩ := bS hm
 obtain ⟨bs, a1, a2⟩ := iS br
 obtain ⟨cj, ck, cJ, cK, cl, a3, aF, aj, aG, cm, cc⟩ := OS.get (sz := 3) rfl (by decide) (aD.le a) a2
 obtain ⟨⟨_, _, rfl, rfl, ⟨_, _, rfl, rfl, ⟨aH, aI, rfl, bt⟩⟩⟩, rfl⟩ := a3
 refine tS (sI bs rfl rfl a1 aG aj z2b)<|tS (Z6 (vs := [iv aa.From, iv aa.To, sv aH aa.Steps aI]) 3 rfl z0Y aj rfl (fun w ho j u hu => aF w _ ho (.cons _ (ss m (Kb _ _))) j u hu))<|tD (uA [iv 0, iv 0, sn] q9v rfl) ?_
 rintro _ _ ⟨cO, rfl, rfl⟩
 refine aS rfl<|tD (uN (vs := [_, _, _]) 0 3 rfl rfl rfl z4y rfl (mc rfl (mc rfl (mc rfl mn))) rfl (by simp)) ?_
 rintro _ _ rfl
 refine Te<|Cg<|mV rfl<|mV rfl<|tS (sD (vs := [_, _, _, _, _]) 1 5 rfl G7 rfl rfl rfl)<|tS (sD (vs := [_, _, _]) 0 3 rfl z0Y rfl rfl rfl) ?_
 obtain ⟨A, aJ, hm⟩ := bS hm
 have zz := f.trans a
 refine Tg _ rfl z4b rfl (q9T _ _ s1 aa A2 c3 A5 c6 A8 c9 au av aw ax aH aI (h4.le zz) (h7.le zz) (b9.le zz) (ca.le zz) (cb.le zz) bt A aJ) ?_
 rintro _ cP _ O ⟨aK, aL, ak, rfl, rfl, bu, cQ⟩
 refine q2z [] [_, _] ak (m ++ (k ++ R)) rfl ?_
 obtain ⟨aM, bw, hm⟩ := bS hm
 obtain ⟨bx, al, am⟩ := iS bw
 obtain ⟨cn, co, cR, cT, cp, a4, cd, an, aN, ce⟩ := OS.getQ (sz := 2) rfl (by decide) (K.le O) am
 obtain ⟨_, _, rfl, ⟨cU, cV, rfl, cW⟩, ⟨cX, rfl, bz⟩⟩ := a4
 obtain ⟨cY, cZ, rfl, _⟩ := bz.form
 refine tS (sI bx rfl rfl al aN an z4x)<|tS (sQ rfl an q6T)<|z2l [_, _] ak (m ++ (k ++ R)) rfl ?_
 intro c0 S a5
 have bA := OS.frz (l := A) bu S.cells a5
 refine tD (uP al (sz := 2) (a' := (⟨A, aM.Clashes⟩ : W7)) rfl [_, _] (k ++ R) 0 1 [sv aK A aL] rfl (K.le (O.trans S)) am rfl rfl rfl z9P rfl (mc rfl mn) (fun cs hsj hh => by obtain ⟨_, _, rfl, ⟨c1, c2, rfl, c4⟩, ⟨c5, rfl, bB⟩⟩ := hh; exact ⟨by decide, ⟨[sv aK A aL], _, rfl, (RT.list_mk bA), ⟨_, rfl, bB⟩⟩⟩)) ?_
 rintro _ _ ⟨a6, rfl, bC⟩
 refine Tr 6 rfl (v' := .slice c (put g (af : Int) (⟨A, aM.Clashes⟩ : W7)).length d) (by simp only [w8])<|Tn<|Xm<|Xn<|Cg<|tS (sa rfl rfl (by omega))<|mV rfl<|Tn ?_
 obtain rfl := o1 hm
 exact jS ⟨a6, rfl, rfl, ((a.trans (O.trans S))), bC, ((w8 _ _ _).trans L)⟩
 rintro J _ _ ⟨m, rfl, rfl, a, K, L⟩
 have hm := a0
 refine Cr<|tS (lF rfl rfl (by omega))<|Te<|Cs<|v8 rfl<|Ce<|Xe<|Xe<|Xo<|Xn<|Cs<|Cr<|mV rfl<|tS (sE rfl z4x)<|mV rfl<|Te<|Cb ?_
 have cq : g.length ≤ 9223372036854775807 := (OS.len K)
 obtain ⟨p, a7, a8⟩ := bS hm
 refine lS (fun s => fun p => fun T e' hp' => ∃ t, [(6, sv c p d), (38, iv ((g.length : Int))), (39, iv ((s : Int)))] = e' ∧ (t ++ R) = hp' ∧ J.Le T ∧ OS 48 (OT.catR (RT.on (RT.list j4) W7.Needs) (OT.on (OT.list 3 (OT.fr rI)) W7.Clashes)) T.w (sv c p d) p t ∧ p.length = Y) a7 ⟨m, rfl, rfl, lr, K, L⟩ ?_ ?_
 rintro s p T _ _ cr b7 ⟨t, rfl, rfl, U, ab, ad⟩ E
 unfold q1k at E
 have hm := E
 refine Cr<|tS (lT rfl rfl (by omega))<|Te<|Cs<|w6 rfl<|Ck<|Xn<|Cs<|Cb<|Cr<|mV rfl<|aS rfl<|Te<|Cr<|mV rfl<|tS (sE rfl z4x)<|mV rfl<|Te<|Cb ?_
 have ct : p.length ≤ 9223372036854775807 := (OS.len ab)
 obtain ⟨n, a9, ba⟩ := bS hm
 refine lS (fun e => fun n => fun V e' hp' => ∃ q, [(6, sv c n d), (9, iv ((s : Int))), (38, iv ((g.length : Int))), (39, iv ((s : Int))), (43, iv ((p.length : Int))), (44, iv ((e : Int)))] = e' ∧ (q ++ R) = hp' ∧ T.Le V ∧ OS 48 (OT.catR (RT.on (RT.list j4) W7.Needs) (OT.on (OT.list 3 (OT.fr rI)) W7.Clashes)) V.w (sv c n d) n q ∧ n.length = Y) a9 ⟨t, rfl, rfl, lr, ab, ad⟩ ?_ ?_
 rintro e n V _ _ cu b8 ⟨q, rfl, rfl, x, B, y⟩ F
 unfold P4 at F
 have hm := F
 refine Cr<|tS (lT rfl rfl (by omega))<|Te<|Cs<|w6 rfl<|Ck<|Xn<|Cs<|Cb<|Cr<|mV rfl<|aS rfl<|Te ?_
 obtain ⟨bD, bb, bc⟩ := bS hm
 refine Cj (fun aO e' hp' => [(6, sv c n d), (9, iv ((s : Int))), (10, iv ((e : Int))), (38, iv ((g.length : Int))), (39, iv ((s : Int))), (43, iv ((p.length : Int))), (44, iv ((e : Int))), (62, bv bD)] = e' ∧ (q ++ R) = hp' ∧ V.Le aO) ?_ ?_
 have hm := bb
 by_cases G : (s : Int) ≠ (e : Int)
 rw [if_pos G] at hm
 obtain ⟨bE, bG, hm⟩ := bS hm
 obtain ⟨bH, bI, hm⟩ := bS hm
 obtain ⟨bJ, aP, hm⟩ := bS hm
 refine Di mixed (.refl _)<|E0 0 rfl (sM rfl)<|E0 1 rfl (sM rfl)<|E0 2 rfl (z3k rfl rfl G)<|E0 3 rfl (sM rfl)<|Yz 4 50 rfl (sM rfl)<|Yz 5 50 rfl (sM rfl) ?_
 obtain ⟨bK, bd, be⟩ := iS bG
 obtain ⟨cv, cw, c7, c8, cx, bf, aQ, ao, aR, cf⟩ := OS.getQ (sz := 2) rfl (by decide) B be
 obtain ⟨_, _, rfl, ⟨bL, bM, rfl, bN⟩, ⟨da, rfl, bO⟩⟩ := bf
 obtain ⟨db, dc, rfl, _⟩ := bO.form
 refine Yz 6 50 rfl (sI bK rfl rfl bd aR ao z4x)<|Yz 7 50 rfl (sQ rfl ao q6T)<|Ey 8 50 rfl (k9 rfl q5j (fun w ho => aQ w _ ho (Kb _ _) 0 _ rfl))<|Yz 9 50 rfl (sM rfl)<|Yz 10 50 rfl (sM rfl) ?_
 obtain ⟨bP, bg, bh⟩ := iS bI
 obtain ⟨cy, cz, dd, de, cA, bi, aT, aq, aU, cg⟩ := OS.getQ (sz := 2) rfl (by decide) B bh
 obtain ⟨_, _, rfl, ⟨bQ, bR, rfl, bT⟩, ⟨df, rfl, bU⟩⟩ := bi
 obtain ⟨dg, dh, rfl, _⟩ := bU.form
 refine Yz 11 50 rfl (sI bP rfl rfl bg aU aq z4x)<|Yz 12 50 rfl (sQ rfl aq q6T)<|Ey 13 50 rfl (k9 rfl q5j (fun w ho => aT w _ ho (Kb _ _) 0 _ rfl))<|Eo<|Da [14] (by kernel_rfl) rfl<|q3c lr rfl rfl 50 rfl rfl rfl (uW _ z6A rfl (fun w ho => z6Q _ [] bE.Needs bH.Needs bL bM bQ bR (bN.old ho) (bT.old ho) bJ aP) (fun _ _ _ h => h.2.symm)) ?_ ?_
 rintro _ _ ⟨⟨_, rfl, _⟩, rfl⟩
 refine iR<|Ei lr (.refl _)<|E0 15 rfl (pT rfl rfl)<|Eo<|Dd (by kernel_rfl) ?_
 obtain rfl := o1 hm
 exact jJ ⟨rfl, rfl, lr⟩
 exact Rn
 rw [if_neg G] at hm
 refine Di mixed (.refl _)<|E0 0 rfl (sM rfl)<|E0 1 rfl (sM rfl)<|E0 2 rfl (z3l rfl rfl G)<|E0 3 rfl (sM rfl)<|eN 4 rfl<|eN 5 rfl<|eN 6 rfl<|eN 7 rfl<|eN 8 rfl<|eN 9 rfl<|eN 10 rfl<|eN 11 rfl<|eN 12 rfl<|eN 13 rfl<|eN 14 rfl<|E0 15 rfl (pF rfl rfl)<|Eo<|Dd (by kernel_rfl) ?_
 obtain rfl := o1 hm
 exact jJ ⟨rfl, rfl, lr⟩
 rintro aO _ _ ⟨rfl, rfl, z⟩
 have hm := bc
 refine cB hm rfl (fun hm => ?_) fun hm => ?_
 refine Cg<|mV rfl<|mV rfl<|mV rfl<|mV rfl ?_
 obtain ⟨C, bV, hm⟩ := bS hm
 obtain ⟨ag, ac, bj⟩ := iS bV
 obtain ⟨cC, cD, bW, bX, bk, bl, aV, H, ae, aW⟩ := OS.getQ (sz := 2) rfl (by decide) (B.le z) bj
 obtain ⟨_, _, rfl, ⟨bY, bZ, rfl, b0⟩, ⟨di, rfl, aX⟩⟩ := bl
 obtain ⟨dj, dk, rfl, _⟩ := aX.form
 refine tS (sI ag rfl rfl ac ae H z4x)<|tS (sQ rfl H z2P)<|tS (k9 rfl j1v (fun w ho => aV w _ ho (Kb _ _) 1 _ rfl))<|mV rfl<|tD (J8 (el := 3) [(0, iv ((e : Int)))] [iv ((e : Int))] rfl (fun _ => by kernel_rfl)) ?_
 rintro _ _ ⟨dl, rfl, rfl⟩
 obtain ⟨_, ah, hm⟩ := bS hm
 have ah := J9 ah
 refine tD (z9E (r := rI) [_] R [[iv ((e : Int))]] [(e : Int)] rfl (by decide) z5x j4g rfl rfl rfl rfl bk aX rfl (fun w ho => Rd.own (i := 0) ho rfl) ⟨rfl, trivial⟩ ah) ?_
 rintro _ _ ⟨ar, rfl, aY⟩
 obtain ⟨b1, b2, rfl, _⟩ := aY.form
 refine Tr 6 rfl (v' := sv c n d) (by show Value.slice _ _ _ = Value.slice _ _ _; simp only [w8])<|Tr 63 rfl (v' := sv c n d) (by show Value.slice _ _ _ = Value.slice _ _ _; simp only [w8]) ?_
 obtain ⟨dm, b3, hm⟩ := bS hm
 obtain ⟨b4, cE, cG⟩ := iS b3
 obtain rfl : ag = b4 := by omega
 refine tS (sI ag rfl rfl ac ae H z4x)<|tS (sQ rfl H z2P)<|j1e ar (bW ++ bX)<|tD (z4p ac (sz := 2) (a' := (⟨C.Needs, C.Clashes ++ [(e : Int)]⟩ : W7)) rfl [_] ar R 1 1 [.slice b1 (C.Clashes ++ [(e : Int)]).length b2] rfl (aW _ _ lr ⟨[sv bY C.Needs bZ], _, rfl, (RT.list_mk b0), ⟨_, rfl, aY⟩⟩) rfl rfl rfl j3i rfl (by decide) (mc rfl mn)) ?_
 rintro _ _ ⟨bm, rfl, b5⟩
 refine Tr 6 rfl (v' := .slice c (put n (s : Int) (⟨C.Needs, C.Clashes ++ [(e : Int)]⟩ : W7)).length d) (by simp only [w8])<|Tn<|Xm<|Xn<|Cg<|tS (sa rfl rfl (by omega))<|mV rfl<|Tn ?_
 obtain rfl := o1 hm
 exact jS ⟨bm, rfl, rfl, ((x.trans z)), b5, ((w8 _ _ _).trans y)⟩
 refine Ck<|Xm<|Xn<|Cg<|tS (sa rfl rfl (by omega))<|mV rfl<|Tn ?_
 obtain rfl := o1 hm
 exact jS ⟨q, rfl, rfl, ((x.trans z)), (B.le z), y⟩
 rintro V _ _ ⟨q, rfl, rfl, x, B, y⟩
 have hm := ba
 refine Cr<|tS (lF rfl rfl (by omega))<|Te<|Cs<|v8 rfl<|Ce<|Xe<|Xe<|Xo<|Xm<|Xn<|Cg<|tS (sa rfl rfl (by omega))<|mV rfl<|Tn ?_
 obtain rfl := o1 hm
 exact jS ⟨q, rfl, rfl, ((U.trans x)), B, y⟩
 rintro T _ _ ⟨t, rfl, rfl, U, ab, ad⟩
 have hm := a8
 refine Cr<|tS (lF rfl rfl (by omega))<|Te<|Cs<|v8 rfl<|Ce<|Xe<|Xe<|Xo<|Xn<|Cr<|mV rfl<|aS rfl<|aS rfl<|Te<|Ct ?_
 obtain ⟨rfl, rfl⟩ := W4 hm
 exact rT ⟨c, d, t, rfl, rfl, ab⟩ (f.trans (a.trans U))
theorem q8F (A : Option Addr) (n c : Nat) (xs : List Value) (w : World) (hR : Rd w A xs) (hl : xs.length = n * 1) (hn : n * 16 ≤ 140737488355328 ∧ n ≤ 9223372036854775807) :
    q3S Tryz.prog 68 [.slice A n c] w [] (fun v hp' => q7z 9 1 v n xs hp') := by
  refine q4b 8 Tryz.func68 rfl Tryz.ntmps68 rfl ?_
  refine q5p ?_
  refine q8S rfl rfl ?_
  refine q3U ?_
  refine q2t ?_
  refine q5p ?_
  refine z2j rfl rfl ?_
  refine q4y rfl (q3W rfl rfl z2n) (fun hc1 => ?_) (fun hc1 => ?_)
  ·
    refine q3U ?_
    refine w6 rfl ?_
    refine q5p ?_
    refine q8S rfl rfl ?_
    refine q3U ?_
    refine q3B ?_
    refine W5 ?_
    subst hc1
    obtain rfl := hR.none_nil
    obtain rfl : n = 0 := by simp at hl; omega
    refine q3e (hp' := []) (by repeat (first | exact List.Sublist.refl _ | exact List.nil_sublist _ | exact Kb _ _ | exact Kc _ _ | exact (Kc _ _).trans (Kc _ _) | apply List.Sublist.cons_cons | apply List.Sublist.cons)) ?_
    exact z3t (v7.Le.refl _) rfl rfl (q7z.nil)
  ·
    refine q3U ?_
    refine v8 rfl ?_
    refine q3r ?_
    refine Q0 ?_
    refine q5p ?_
    refine q9A rfl (J8 (el := 9) [] [] rfl (fun _ => by kernel_rfl)) ?_
    rintro _ _ ⟨g0, rfl, rfl⟩
    refine z2j rfl rfl ?_
    refine q9A rfl (q7Y xs z2n j3T rfl (by decide) rfl rfl hl (fun w ho => hR.old ho) hn.2 hn.1) ?_
    rintro _ _ ⟨hs, rfl, hseg⟩
    refine q8S rfl rfl ?_
    refine q3U ?_
    refine q3B ?_
    refine q3e (hp' := hs) (by repeat (first | exact List.Sublist.refl _ | exact List.nil_sublist _ | exact Kb _ _ | exact Kc _ _ | exact (Kc _ _).trans (Kc _ _) | apply List.Sublist.cons_cons | apply List.Sublist.cons)) ?_
    exact z3t (v7.Le.refl _) rfl rfl hseg
theorem q9p (b : v7) (R : Hp) (d e f) (i : FZ RT.str b.w e f d) (a) (hm : q2h d = some a):
 w5 Tryz.prog 68 [sv e d f] b (R) (fun v b' hp' => ∃ g h c, sv g a h = v ∧ (c ++ R) = hp' ∧ OS 9 (OT.fr RT.str) b'.w (sv g a h) a c) := by
 unfold q2h at hm
 obtain ⟨_, hroom, hm⟩ := bS hm
 have hroom := J9 hroom
 obtain rfl := o1 hm
 exact q4f (r := RT.str) (sz := 1) (by_ := 16) rfl (by decide) q8F i hroom
theorem q8E (A : Option Addr) (n c : Nat) (xs : List Value) (w : World) (hR : Rd w A xs) (hl : xs.length = n * 7) (hn : n * 56 ≤ 140737488355328 ∧ n ≤ 9223372036854775807) :
    q3S Tryz.prog 69 [.slice A n c] w [] (fun v hp' => q7z 108 7 v n xs hp') := by
  refine q4b 8 Tryz.func69 rfl Tryz.ntmps69 rfl ?_
  refine q5p ?_
  refine q8S rfl rfl ?_
  refine q3U ?_
  refine q2t ?_
  refine q5p ?_
  refine z2j rfl rfl ?_
  refine q4y rfl (q3W rfl rfl z0o) (fun hc1 => ?_) (fun hc1 => ?_)
  ·
    refine q3U ?_
    refine w6 rfl ?_
    refine q5p ?_
    refine q8S rfl rfl ?_
    refine q3U ?_
    refine q3B ?_
    refine W5 ?_
    subst hc1
    obtain rfl := hR.none_nil
    obtain rfl : n = 0 := by simp at hl; omega
    refine q3e (hp' := []) (by repeat (first | exact List.Sublist.refl _ | exact List.nil_sublist _ | exact Kb _ _ | exact Kc _ _ | exact (Kc _ _).trans (Kc _ _) | apply List.Sublist.cons_cons | apply List.Sublist.cons)) ?_
    exact z3t (v7.Le.refl _) rfl rfl (q7z.nil)
  ·
    refine q3U ?_
    refine v8 rfl ?_
    refine q3r ?_
    refine Q0 ?_
    refine q5p ?_
    refine q9A rfl (J8 (el := 108) [] [] rfl (fun _ => by kernel_rfl)) ?_
    rintro _ _ ⟨g0, rfl, rfl⟩
    refine z2j rfl rfl ?_
    refine q9A rfl (q7Y xs z0o j1M rfl (by decide) rfl rfl hl (fun w ho => hR.old ho) hn.2 hn.1) ?_
    rintro _ _ ⟨hs, rfl, hseg⟩
    refine q8S rfl rfl ?_
    refine q3U ?_
    refine q3B ?_
    refine q3e (hp' := hs) (by repeat (first | exact List.Sublist.refl _ | exact List.nil_sublist _ | exact Kb _ _ | exact Kc _ _ | exact (Kc _ _).trans (Kc _ _) | apply List.Sublist.cons_cons | apply List.Sublist.cons)) ?_
    exact z3t (v7.Le.refl _) rfl rfl hseg
theorem q9o (b : v7) (R : Hp) (d e f) (i : FZ j5 b.w e f d) (a) (hm : q2g d = some a):
 w5 Tryz.prog 69 [sv e d f] b (R) (fun v b' hp' => ∃ g h c, sv g a h = v ∧ (c ++ R) = hp' ∧ OS 108 (OT.fr j5) b'.w (sv g a h) a c) := by
 unfold q2g at hm
 obtain ⟨_, hroom, hm⟩ := bS hm
 have hroom := J9 hroom
 obtain rfl := o1 hm
 exact q4f (r := j5) (sz := 7) (by_ := 56) rfl (by decide) q8E i hroom
theorem q8D (A : Option Addr) (n c : Nat) (xs : List Value) (w : World) (hR : Rd w A xs) (hl : xs.length = n * 4) (hn : n * 32 ≤ 140737488355328 ∧ n ≤ 9223372036854775807) :
    q3S Tryz.prog 70 [.slice A n c] w [] (fun v hp' => q7z 145 4 v n xs hp') := by
  refine q4b 8 Tryz.func70 rfl Tryz.ntmps70 rfl ?_
  refine q5p ?_
  refine q8S rfl rfl ?_
  refine q3U ?_
  refine q2t ?_
  refine q5p ?_
  refine z2j rfl rfl ?_
  refine q4y rfl (q3W rfl rfl z8K) (fun hc1 => ?_) (fun hc1 => ?_)
  ·
    refine q3U ?_
    refine w6 rfl ?_
    refine q5p ?_
    refine q8S rfl rfl ?_
    refine q3U ?_
    refine q3B ?_
    refine W5 ?_
    subst hc1
    obtain rfl := hR.none_nil
    obtain rfl : n = 0 := by simp at hl; omega
    refine q3e (hp' := []) (by repeat (first | exact List.Sublist.refl _ | exact List.nil_sublist _ | exact Kb _ _ | exact Kc _ _ | exact (Kc _ _).trans (Kc _ _) | apply List.Sublist.cons_cons | apply List.Sublist.cons)) ?_
    exact z3t (v7.Le.refl _) rfl rfl (q7z.nil)
  ·
    refine q3U ?_
    refine v8 rfl ?_
    refine q3r ?_
    refine Q0 ?_
    refine q5p ?_
    refine q9A rfl (J8 (el := 145) [] [] rfl (fun _ => by kernel_rfl)) ?_
    rintro _ _ ⟨g0, rfl, rfl⟩
    refine z2j rfl rfl ?_
    refine q9A rfl (q7Y xs z8K j1K rfl (by decide) rfl rfl hl (fun w ho => hR.old ho) hn.2 hn.1) ?_
    rintro _ _ ⟨hs, rfl, hseg⟩
    refine q8S rfl rfl ?_
    refine q3U ?_
    refine q3B ?_
    refine q3e (hp' := hs) (by repeat (first | exact List.Sublist.refl _ | exact List.nil_sublist _ | exact Kb _ _ | exact Kc _ _ | exact (Kc _ _).trans (Kc _ _) | apply List.Sublist.cons_cons | apply List.Sublist.cons)) ?_
    exact z3t (v7.Le.refl _) rfl rfl hseg
theorem q9n (b : v7) (R : Hp) (d e f) (i : FZ w9 b.w e f d) (a) (hm : q2f d = some a):
 w5 Tryz.prog 70 [sv e d f] b (R) (fun v b' hp' => ∃ g h c, sv g a h = v ∧ (c ++ R) = hp' ∧ OS 145 (OT.fr w9) b'.w (sv g a h) a c) := by
 unfold q2f at hm
 obtain ⟨_, hroom, hm⟩ := bS hm
 have hroom := J9 hroom
 obtain rfl := o1 hm
 exact q4f (r := w9) (sz := 4) (by_ := 32) rfl (by decide) q8D i hroom
theorem q8C (A : Option Addr) (n c : Nat) (xs : List Value) (w : World) (hR : Rd w A xs) (hl : xs.length = n * 2) (hn : n * 16 ≤ 140737488355328 ∧ n ≤ 9223372036854775807) :
    q3S Tryz.prog 71 [.slice A n c] w [] (fun v hp' => q7z 128 2 v n xs hp') := by
  refine q4b 8 Tryz.func71 rfl Tryz.ntmps71 rfl ?_
  refine q5p ?_
  refine q8S rfl rfl ?_
  refine q3U ?_
  refine q2t ?_
  refine q5p ?_
  refine z2j rfl rfl ?_
  refine q4y rfl (q3W rfl rfl z3s) (fun hc1 => ?_) (fun hc1 => ?_)
  ·
    refine q3U ?_
    refine w6 rfl ?_
    refine q5p ?_
    refine q8S rfl rfl ?_
    refine q3U ?_
    refine q3B ?_
    refine W5 ?_
    subst hc1
    obtain rfl := hR.none_nil
    obtain rfl : n = 0 := by simp at hl; omega
    refine q3e (hp' := []) (by repeat (first | exact List.Sublist.refl _ | exact List.nil_sublist _ | exact Kb _ _ | exact Kc _ _ | exact (Kc _ _).trans (Kc _ _) | apply List.Sublist.cons_cons | apply List.Sublist.cons)) ?_
    exact z3t (v7.Le.refl _) rfl rfl (q7z.nil)
  ·
    refine q3U ?_
    refine v8 rfl ?_
    refine q3r ?_
    refine Q0 ?_
    refine q5p ?_
    refine q9A rfl (J8 (el := 128) [] [] rfl (fun _ => by kernel_rfl)) ?_
    rintro _ _ ⟨g0, rfl, rfl⟩
    refine z2j rfl rfl ?_
    refine q9A rfl (q7Y xs z3s j1L rfl (by decide) rfl rfl hl (fun w ho => hR.old ho) hn.2 hn.1) ?_
    rintro _ _ ⟨hs, rfl, hseg⟩
    refine q8S rfl rfl ?_
    refine q3U ?_
    refine q3B ?_
    refine q3e (hp' := hs) (by repeat (first | exact List.Sublist.refl _ | exact List.nil_sublist _ | exact Kb _ _ | exact Kc _ _ | exact (Kc _ _).trans (Kc _ _) | apply List.Sublist.cons_cons | apply List.Sublist.cons)) ?_
    exact z3t (v7.Le.refl _) rfl rfl hseg
theorem q9m (b : v7) (R : Hp) (d e f) (i : FZ j6 b.w e f d) (a) (hm : q2e d = some a):
 w5 Tryz.prog 71 [sv e d f] b (R) (fun v b' hp' => ∃ g h c, sv g a h = v ∧ (c ++ R) = hp' ∧ OS 128 (OT.fr j6) b'.w (sv g a h) a c) := by
 unfold q2e at hm
 obtain ⟨_, hroom, hm⟩ := bS hm
 have hroom := J9 hroom
 obtain rfl := o1 hm
 exact q4f (r := j6) (sz := 2) (by_ := 16) rfl (by decide) q8C i hroom
theorem q8B (A : Option Addr) (n c : Nat) (xs : List Value) (w : World) (hR : Rd w A xs) (hl : xs.length = n * 2) (hn : n * 16 ≤ 140737488355328 ∧ n ≤ 9223372036854775807) :
    q3S Tryz.prog 72 [.slice A n c] w [] (fun v hp' => q7z 149 2 v n xs hp') := by
  refine q4b 8 Tryz.func72 rfl Tryz.ntmps72 rfl ?_
  refine q5p ?_
  refine q8S rfl rfl ?_
  refine q3U ?_
  refine q2t ?_
  refine q5p ?_
  refine z2j rfl rfl ?_
  refine q4y rfl (q3W rfl rfl z7F) (fun hc1 => ?_) (fun hc1 => ?_)
  ·
    refine q3U ?_
    refine w6 rfl ?_
    refine q5p ?_
    refine q8S rfl rfl ?_
    refine q3U ?_
    refine q3B ?_
    refine W5 ?_
    subst hc1
    obtain rfl := hR.none_nil
    obtain rfl : n = 0 := by simp at hl; omega
    refine q3e (hp' := []) (by repeat (first | exact List.Sublist.refl _ | exact List.nil_sublist _ | exact Kb _ _ | exact Kc _ _ | exact (Kc _ _).trans (Kc _ _) | apply List.Sublist.cons_cons | apply List.Sublist.cons)) ?_
    exact z3t (v7.Le.refl _) rfl rfl (q7z.nil)
  ·
    refine q3U ?_
    refine v8 rfl ?_
    refine q3r ?_
    refine Q0 ?_
    refine q5p ?_
    refine q9A rfl (J8 (el := 149) [] [] rfl (fun _ => by kernel_rfl)) ?_
    rintro _ _ ⟨g0, rfl, rfl⟩
    refine z2j rfl rfl ?_
    refine q9A rfl (q7Y xs z7F j1J rfl (by decide) rfl rfl hl (fun w ho => hR.old ho) hn.2 hn.1) ?_
    rintro _ _ ⟨hs, rfl, hseg⟩
    refine q8S rfl rfl ?_
    refine q3U ?_
    refine q3B ?_
    refine q3e (hp' := hs) (by repeat (first | exact List.Sublist.refl _ | exact List.nil_sublist _ | exact Kb _ _ | exact Kc _ _ | exact (Kc _ _).trans (Kc _ _) | apply List.Sublist.cons_cons | apply List.Sublist.cons)) ?_
    exact z3t (v7.Le.refl _) rfl rfl hseg
theorem q9l (b : v7) (R : Hp) (d e f) (i : FZ k7 b.w e f d) (a) (hm : q2d d = some a):
 w5 Tryz.prog 72 [sv e d f] b (R) (fun v b' hp' => ∃ g h c, sv g a h = v ∧ (c ++ R) = hp' ∧ OS 149 (OT.fr k7) b'.w (sv g a h) a c) := by
 unfold q2d at hm
 obtain ⟨_, hroom, hm⟩ := bS hm
 have hroom := J9 hroom
 obtain rfl := o1 hm
 exact q4f (r := k7) (sz := 2) (by_ := 16) rfl (by decide) q8B i hroom
theorem q1K (b : v7) (R : Hp) (O : j1) (A2 c3 A5 c6 A8 c9 aI aJ aK aL) (h4 : FZ RT.str b.w A2 c3 O.Stations) (h7 : FZ j5 b.w A5 c6 O.Sections) (bd : FZ w9 b.w A8 c9 O.Links) (be : FZ j6 b.w aI aJ O.Signals) (bf : FZ k7 b.w aK aL O.Gates) (T U V W X) (hm : q6a O = some (T, U, V, W, X)):
 w5 Tryz.prog 28 [.agg #[sv A2 O.Stations c3, sv A5 O.Sections c6, sv A8 O.Links c9, sv aI O.Signals aJ, sv aK O.Gates aL]] b (R) (fun v b' hp' => ∃ ax ay az aA aB aC aD aE aF aG, .agg #[sv ax T ay, sv az U aA, sv aB V aC, sv aD W aE, sv aF X aG] = v ∧ R = hp' ∧ FZ RT.str b'.w ax ay T ∧ FZ j5 b'.w az aA U ∧ FZ w9 b'.w aB aC V ∧ FZ j6 b'.w aD aE W ∧ FZ k7 b'.w aF aG X) := by
 refine fE 19 Tryz.func28 rfl Tryz.ntmps28 rfl ?_
 unfold q6a at hm
 refine Cr<|tD (uB _ rfl rfl) ?_
 rintro _ _ ⟨bg, rfl, rfl⟩
 refine tD (uA [sn, sn, sn, sn, sn] z3b rfl) ?_
 rintro _ _ ⟨aH, rfl, rfl⟩
 refine Te ?_
 obtain ⟨⟨x, y, z, A, B⟩, aM, aN⟩ := bS hm
 refine Cj (fun q e' hp' => ∃ C D t E F r G H o I J n K L g, [(2, pb aH)] = e' ∧ (aH, Cl 28 [sv C x D, sv E y F, sv G z H, sv I A J, sv K B L]) :: (t ++ (r ++ (o ++ (n ++ (g ++ R))))) = hp' ∧ b.Le q ∧ OS 9 (OT.fr RT.str) q.w (sv C x D) x t ∧ OS 108 (OT.fr j5) q.w (sv E y F) y r ∧ OS 145 (OT.fr w9) q.w (sv G z H) z o ∧ OS 128 (OT.fr j6) q.w (sv I A J) A n ∧ OS 149 (OT.fr k7) q.w (sv K B L) B g) ?_ ?_
 have hm := aM
 obtain ⟨Y, ao, hm⟩ := bS hm
 obtain ⟨Z, aq, hm⟩ := bS hm
 obtain ⟨aa, ar, hm⟩ := bS hm
 obtain ⟨ab, au, hm⟩ := bS hm
 obtain ⟨ac, av, hm⟩ := bS hm
 refine Di mixed (.refl _)<|E0 0 rfl (sF rfl q8x)<|Es 1 rfl (sL 1 rfl z4K rfl rfl)<|E0 3 rfl (sF rfl q0J)<|Es 4 rfl (sL 1 rfl q4B rfl rfl)<|E0 6 rfl (sF rfl q8w)<|Es 7 rfl (sL 1 rfl z5N rfl rfl)<|E0 9 rfl (sF rfl q3z)<|Es 10 rfl (sL 1 rfl q9f rfl rfl)<|E0 12 rfl (sF rfl q6U)<|Es 13 rfl (sL 1 rfl z4J rfl rfl)<|Eo<|Da [2] (by kernel_rfl) rfl<|Rg lr rfl rfl _ j2g rfl (q9p _ _ O.Stations A2 c3 h4 Y ao) ?_ ?_
 rintro _ bh _ a ⟨ad, ae, p, rfl, rfl, aY⟩
 refine iR<|q9h [] [_, _] p R rfl<|Da [5] (by kernel_rfl) rfl<|Rg a rfl rfl _ j2f rfl (q9o _ _ O.Sections A5 c6 (h7.le a) Z aq) ?_ ?_
 rintro _ bi _ c ⟨af, ag, s, rfl, rfl, aZ⟩
 refine iR<|q9h [] [_, _] s (p ++ R) rfl<|Da [8] (by kernel_rfl) rfl<|Rg (a.trans c) rfl rfl _ j2e rfl (q9n _ _ O.Links A8 c9 (bd.le (a.trans c)) aa ar) ?_ ?_
 rintro _ bj _ d ⟨ah, ai, u, rfl, rfl, a0⟩
 refine iR<|q9h [] [_, _] u (s ++ (p ++ R)) rfl<|Da [11] (by kernel_rfl) rfl ?_
 have zz := a.trans (c.trans d)
 refine Rg zz rfl rfl _ j2d rfl (q9m _ _ O.Signals aI aJ (be.le zz) ab au) ?_ ?_
 rintro _ bk _ e ⟨aj, ak, S, rfl, rfl, a1⟩
 refine iR<|q9h [] [_, _] S (u ++ (s ++ (p ++ R))) rfl<|Da [14] (by kernel_rfl) rfl ?_
 have zy := a.trans (c.trans (d.trans e))
 refine Rg zy rfl rfl _ j2c rfl (q9l _ _ O.Gates aK aL (bf.le zy) ac av) ?_ ?_
 rintro _ bl _ f ⟨al, am, an, rfl, rfl, a2⟩
 refine iR<|q9h [] [_, _] an (S ++ (u ++ (s ++ (p ++ R)))) rfl<|Da [15] (by kernel_rfl) rfl ?_
 have zx := a.trans (c.trans (d.trans (e.trans f)))
 refine Rd2 zx rfl rfl (Q2.does (sB (v := .agg #[sv ad Y ae, sv af Z ag, sv ah aa ai, sv aj ab ak, sv al ac am]) [(0, sv ad Y ae), (1, sv af Z ag), (2, sv ah aa ai), (3, sv aj ab ak), (4, sv al ac am)] rfl (fun _ => by kernel_rfl))) ?_ ?_
 rintro _ _ ⟨rfl, rfl⟩
 refine iR<|Da [16] (by kernel_rfl) rfl<|Rd2 zx rfl rfl (uN (vs := [_, _, _, _, _]) 0 5 rfl rfl rfl z4z rfl (mc rfl (mc rfl (mc rfl (mc rfl (mc rfl mn))))) rfl (by simp)) ?_ ?_
 rintro _ _ rfl
 refine ⟨.inl (by kernel_rfl), ?_⟩
 refine Dd (by kernel_rfl) ?_
 obtain ⟨rfl, rfl, rfl, rfl, rfl⟩ := q5R hm
 have zw := d.trans (e.trans f)
 exact jJ ⟨ad, ae, p, af, ag, s, ah, ai, u, aj, ak, S, al, am, an, rfl, rfl, zx, (aY.le (c.trans zw)), (aZ.le zw), (a0.le (e.trans f)), (a1.le f), a2⟩
 exact Rn
 exact Rn
 exact Rn
 exact Rn
 exact Rn
 exact Rn
 exact Rn
 rintro q _ _ ⟨C, D, t, E, F, r, G, H, o, I, J, n, K, L, g, rfl, rfl, aw, a3, a4, a5, a6, a7⟩
 have hm := z4o aN
 refine Ct<|q8V [_] t (r ++ (o ++ (n ++ (g ++ R)))) rfl ?_
 intro bm h aO
 have a8 := OS.frz (l := x) a3 h.cells aO
 refine q8V [_] r (o ++ (n ++ (g ++ R))) rfl ?_
 intro bn i aP
 have a9 := OS.frz (l := y) (a4.le h) i.cells aP
 refine q8V [_] o (n ++ (g ++ R)) rfl ?_
 intro bo j aQ
 have ba := OS.frz (l := z) (a5.le (h.trans i)) j.cells aQ
 refine q8V [_] n (g ++ R) rfl ?_
 intro bp k aR
 have bb := OS.frz (l := A) (a6.le (h.trans (i.trans j))) k.cells aR
 refine q8V [_] g R rfl ?_
 intro bq m aT
 have bc := OS.frz (l := B) (a7.le (h.trans (i.trans (j.trans k)))) m.cells aT
 obtain ⟨rfl, rfl, rfl, rfl, rfl⟩ := q5R hm
 have zv := i.trans (j.trans (k.trans m))
 have aU := a8.le zv
 have aV := (a9.le (j.trans (k.trans m)))
 have aW := (ba.le (k.trans m))
 have aX := bb.le m
 exact rM (rs := [.cell 2 28]) (vs := [.agg #[sv C x D, sv E y F, sv G z H, sv I A J, sv K B L]]) ⟨⟨_, rfl, fun w ho => q3q (vs := [_, _, _, _, _]) 0 5 G7 rfl rfl rfl w ho⟩, trivial⟩ ⟨C, D, E, F, G, H, I, J, K, L, rfl, rfl, aU, aV, aW, aX, bc⟩ (.cons _ (.refl _)) (aw.trans (h.trans zv))
theorem z6N (b : v7) (R : Hp) (g : j1) (f Y Z A5 c6 A8 c9 s t u x y z) (h4 : FZ RT.str b.w Y Z g.Stations) (h7 : FZ j5 b.w A5 c6 g.Sections) (aa : FZ w9 b.w A8 c9 g.Links) (ab : FZ j6 b.w s t g.Signals) (ac : FZ k7 b.w u x g.Gates) (K : FZ rI b.w y z f) (L i) (hm : q4E g f = some (L, i)):
 w5 Tryz.prog 73 [.agg #[sv Y g.Stations Z, sv A5 g.Sections c6, sv A8 g.Links c9, sv s g.Signals t, sv u g.Gates x], sv y f z] b (R) (fun v b' hp' => ∃ A O q, .tuple #[sv A i O, iv L] = v ∧ (q ++ R) = hp' ∧ OS 36 (OT.fr Z9) b'.w (sv A i O) i q ∧ (A = none ↔ i = [])) := by
 refine fE 32 Tryz.func73 rfl Tryz.ntmps73 rfl ?_
 unfold q4E at hm
 refine Cr<|tD (uB _ rfl rfl) ?_
 rintro _ _ ⟨am, rfl, rfl⟩
 refine aS rfl<|aS rfl<|Te<|Cr<|tS (sD (vs := [_, _, _, _, _]) 0 5 rfl G7 rfl rfl rfl) ?_
 obtain ⟨⟨ad, B⟩, C, hm⟩ := bS hm
 have hm := V8 hm
 refine Tg _ rfl z8t rfl (q4i _ _ g Y Z A5 c6 A8 c9 s t u x h4 h7 aa ab ac ad B C) ?_
 rintro _ ae _ c ⟨S, T, j, rfl, rfl, af, ag⟩
 refine q2z [] [_] j R rfl<|mV rfl<|tS (v6 rfl rfl)<|tS (v6 rfl rfl)<|aS rfl<|aS rfl<|Te<|Cs<|Cr<|mV rfl<|tS (q2 rfl rfl)<|Te<|cI hm rfl (fun hm => ?_) fun hm => ?_
 refine Cr<|mV rfl<|aS rfl<|aS rfl<|Te<|Ct<|Xr ?_
 obtain ⟨rfl, rfl⟩ := W4 hm
 exact rT ⟨none, 0, [], rfl, rfl, OS.nil, ⟨fun _ => rfl, fun _ => rfl⟩⟩ c
 refine Ck<|Xn<|Cs<|Cr<|mV rfl<|tS (sE rfl z5x)<|mV rfl<|Te<|Cb ?_
 have aj : f.length ≤ 9223372036854775807 := (FZ.bd (K.le c))
 obtain ⟨ak, D, e⟩ := bS hm
 refine lF (fun r => fun _ => fun k e' hp' => [(6, sv S B T), (18, sv y f z), (19, iv ((f.length : Int))), (20, iv ((r : Int)))] = e' ∧ (j ++ R) = hp' ∧ ae.Le k) D ⟨rfl, rfl, lr⟩ ?_ ?_
 rintro r _ k _ _ al X ⟨rfl, rfl, a⟩ d l
 unfold q3Z at d
 have hm := d
 refine Cr<|tS (lT rfl rfl (by omega))<|Te<|Cs<|w6 rfl<|Ck<|Xn<|Cs<|Cb<|Cr ?_
 obtain ⟨U, V, ah, E, ai, F, n, G, o, hm⟩ := bF (sz := 1) hm (K.le (c.trans a))
 obtain rfl := F
 refine tS (sI V rfl rfl E o G z5x)<|tS (sO rfl Q3 (n 0 _ rfl))<|aS rfl<|Te<|Cr<|mV rfl<|mV rfl<|tS (sE rfl z2b) ?_
 obtain ⟨_, m, hm⟩ := bS hm
 have m := (kS m).2
 refine tS (sb rfl rfl m) ?_
 obtain ⟨W, p, hm⟩ := bS hm
 refine tD (uW _ q4p rfl (fun w ho => K0 _ [] U 0 ((B.length : Int) - 1) W p) (fun _ _ _ h => h.2.symm)) ?_
 rintro _ _ ⟨⟨_, rfl, _⟩, rfl⟩
 refine tS (sn2 rfl)<|Te<|cM hm rfl (fun hm => ?_) fun hm => ?_
 refine Cr<|aS rfl<|aS rfl<|Te<|Ct<|Xb<|Xr<|Xr<|Xb<|Xr ?_
 have H := l _ (Kd hm).symm
 rw [H] at e
 have hm := V6 e
 obtain ⟨rfl, rfl⟩ := W4 hm
 exact rT ⟨none, 0, [], rfl, rfl, OS.nil, ⟨fun _ => rfl, fun _ => rfl⟩⟩ (c.trans a)
 refine Ck<|Xm<|Xn<|Cg<|tS (sa rfl rfl (by omega))<|mV rfl<|Tn ?_
 exact jM hm ⟨rfl, rfl, (a)⟩
 rintro _ k _ _ ⟨rfl, rfl, a⟩ I
 rw [I] at e
 have hm := G6 e
 refine Cr<|tS (lF rfl rfl (by omega))<|Te<|Cs<|v8 rfl<|Ce<|Xe<|Xe<|Xo<|Xn<|Cr<|mV rfl<|aS rfl<|aS rfl<|Te<|Ct ?_
 obtain ⟨rfl, rfl⟩ := W4 hm
 have J := af.le a
 exact rT ⟨S, T, j, rfl, rfl, J, ag⟩ (c.trans a)
theorem z1S (b : v7) (R : Hp) (i : j1) (d A2 c3 A5 c6 A8 c9 o p q r) (h4 : FZ RT.str b.w A2 c3 i.Stations) (h7 : FZ j5 b.w A5 c6 i.Sections) (H : FZ w9 b.w A8 c9 i.Links) (I : FZ j6 b.w o p i.Signals) (J : FZ k7 b.w q r i.Gates) (K e) (hm : q3j i d = some (K, e)):
 w5 Tryz.prog 29 [.agg #[sv A2 i.Stations c3, sv A5 i.Sections c6, sv A8 i.Links c9, sv o i.Signals p, sv q i.Gates r], iv d] b (R) (fun v b' hp' => ∃ C L z, .tuple #[sv C e L, iv K] = v ∧ (z ++ R) = hp' ∧ OS 55 (OT.fr j4) b'.w (sv C e L) e z ∧ (C = none ↔ e = [])) := by
 refine fE 24 Tryz.func29 rfl Tryz.ntmps29 rfl ?_
 unfold q3j at hm
 refine Cr<|tD (uB _ rfl rfl) ?_
 rintro _ _ ⟨ak, rfl, rfl⟩
 refine aS rfl<|aS rfl<|Te<|Cr<|tS (sD (vs := [_, _, _, _, _]) 0 5 rfl G7 rfl rfl rfl)<|mV rfl<|tD (J8 (el := 3) [(0, iv d)] [iv d] rfl (fun _ => by kernel_rfl)) ?_
 rintro _ _ ⟨f, rfl, rfl⟩
 refine j3d 0 [_] R rfl rfl ?_
 have O : OS 3 (OT.fr rI) b.w (.slice (some ⟨f, 0, none⟩) 1 1) [d] [(f, Cl 3 [iv d])] := OS.lit [[iv d]] rfl ⟨rfl, trivial⟩ rfl (by decide)
 have ae : (((some ⟨f, 0, none⟩) : OA) = none ↔ [d] = []) := ⟨nofun, nofun⟩
 refine z2l [_] [(f, Cl 3 [iv d])] R rfl ?_
 intro al a D
 have S := OS.frz (l := [d]) O a.cells D
 obtain ⟨⟨T, U⟩, s, hm⟩ := bS hm
 have hm := V8 hm
 refine Tg _ rfl j2b rfl (z6N _ _ i [d] A2 c3 A5 c6 A8 c9 o p q r (some ⟨f, 0, none⟩) 1 (h4.le a) (h7.le a) (H.le a) (I.le a) (J.le a) S T U s) ?_
 rintro _ am _ c ⟨an, ao, k, rfl, rfl, V, aq⟩
 refine q2z [] [_] k R rfl<|mV rfl<|tS (v6 rfl rfl)<|tS (v6 rfl rfl)<|aS rfl<|aS rfl<|Te<|Cs<|Cr<|mV rfl<|tS (q2 rfl rfl)<|Te<|cI hm rfl (fun hm => ?_) fun hm => ?_
 refine Cr<|mV rfl<|aS rfl<|aS rfl<|Te<|Ct<|Xr ?_
 obtain ⟨rfl, rfl⟩ := W4 hm
 exact rT ⟨none, 0, [], rfl, rfl, OS.nil, ⟨fun _ => rfl, fun _ => rfl⟩⟩ (a.trans c)
 refine Ck<|Xn<|Cs ?_
 obtain ⟨g, W, hm⟩ := bS hm
 obtain ⟨X, t, hm⟩ := bS hm
 refine Di mixed (.refl _)<|Es 0 rfl (sD (vs := [_, _, _, _, _]) 0 5 rfl G7 rfl rfl rfl)<|E0 1 rfl (sM rfl)<|E0 2 rfl (sM rfl) ?_
 obtain ⟨Y, E, F⟩ := iS W
 obtain ⟨ag, ah, ar, au, ai, G, x, m, y, aj, af⟩ := OS.get (sz := 3) rfl (by decide) V F
 obtain ⟨⟨_, _, rfl, rfl, ⟨_, _, rfl, rfl, ⟨A, B, rfl, Z⟩⟩⟩, rfl⟩ := G
 refine E0 3 rfl (sI Y rfl rfl E y m z2b)<|Es 4 rfl (Z6 (vs := [iv g.From, iv g.To, sv A g.Steps B]) 3 rfl z0Y m rfl (fun w ho j u hu => x w _ ho (.cons _ (Kb _ _)) j u hu))<|Eo<|Da [5] (by kernel_rfl) rfl ?_
 have zz := a.trans c
 refine Rg lr rfl rfl _ z4b rfl (q9T _ _ i g A2 c3 A5 c6 A8 c9 o p q r A B (h4.le zz) (h7.le zz) (H.le zz) (I.le zz) (J.le zz) Z X t) ?_ ?_
 rintro _ av _ h ⟨aa, ab, n, rfl, rfl, ac, ad⟩
 refine ⟨.inl (by kernel_rfl), ?_⟩
 refine q9h [] [_] n (k ++ R) rfl<|El h<|E0 6 rfl (sA rfl)<|E0 7 rfl (sA rfl)<|Eo<|Dd (by kernel_rfl)<|Xn<|Ct ?_
 obtain ⟨rfl, rfl⟩ := W4 hm
 exact rT ⟨aa, ab, n, rfl, rfl, ac, ad⟩ (a.trans (c.trans h))
 exact Rn
end Go.Proofs.YtjlollifgeggdaaGreatDoor
