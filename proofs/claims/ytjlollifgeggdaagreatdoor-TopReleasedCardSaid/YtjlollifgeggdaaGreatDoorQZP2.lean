import Derived.Test.YtjlollifgeggdaaGreatDoorQZP1
set_option linter.unusedVariables false
set_option linter.unusedSimpArgs false
set_option linter.unusedSectionVars false
namespace Go.Proofs.YtjlollifgeggdaaGreatDoor
open Go.RowKit Go.Fp
set_option maxRecDepth 20000
set_option maxHeartbeats 4000000
open Go.Fp renaming q5t → Te, q7d → Tn, q5W → Tb, q8S → Tg, q7Q → Tv, z3Q → Tr, q7i → Cr, q3F → Cs, q0I → Cg, q7C → Cb, q4B → Ct, q4z → Ck, z2C → Ce, z4I → Cj, z1f → Cp, Q9 → Xn, X9 → Xr, q2i → Xe, q2j → Xb, q0R → Xm, q2X → Xo, q8P → Xi, j1Z → Es, z8g → E0, j1Y → Ey, j6k → Yz, j2O → Ei, j7o → El, z6d → Eo, z8c → Da, z2J → Dd, z1w → Di, j6f → Rd2, z8b → Rn, z0j → Rg, z0y → sL, q7R → sD, q7T → sF, z2j → sN, z2l → sE, q3L → sM, q2d → sA, q6m → pT, q6n → pF, q1s → sI, q2l → sO, q3y → sP, q2t → sQ, z2m → sa, z3U → sb, q6W → lT, q6X → lF, z2T → eT, z2U → eF, q7k → sn2, q7U → sB, z5k → uB, q8Q → uA, z0l → uS, q5u → uN, q7N → uW, z0o → uQ, q5m → fE, q6e → bS, z5m → o1, q5G → iS, q6U → ss, z2R → sp, q8s → kS, q8q → d3, z9h → mc, z9g → mn, z0B → q1, z0w → q2, z2k → q3, z0z → q5, z0A → q6
theorem q6Q (b : k9) (R : Hp) (t : j3) (j : z7) (A2 c3 A5 c6 A8 c9 ad ae af ag U V) (h4 : FZ RT.str b.w A2 c3 t.Stations) (h7 : FZ j4 b.w A5 c6 t.Sections) (bH : FZ Q0 b.w A8 c9 t.Links) (aQ : FZ j6 b.w ad ae t.Signals) (bI : FZ Q1 b.w af ag t.Gates) (bf : FZ J1 b.w U V j.Steps) (W) (hm : H9 t j = some W):
 v8 Tryz.prog 61 [.agg #[sv A2 t.Stations c3, sv A5 t.Sections c6, sv A8 t.Links c9, sv ad t.Signals ae, sv af t.Gates ag], .agg #[iv j.From, iv j.To, sv U j.Steps V]] b (R) (fun v b' hp' => ∃ ay az ar, sv ay W az = v ∧ (ar ++ R) = hp' ∧ OS 62 (OT.fr J1) b'.w (sv ay W az) W ar) := by
 refine fE 83 Tryz.func61 rfl Tryz.ntmps61 rfl ?_
 unfold H9 at hm
 refine Cr<|tD (uB _ rfl rfl) ?_
 rintro _ _ ⟨m, rfl, rfl⟩
 refine tD (uB _ rfl rfl) ?_
 rintro _ _ ⟨n, rfl, rfl⟩
 refine aS rfl<|Te<|Cs<|Cr<|tS (sF rfl q5K)<|tS (sL 0 rfl Q8 rfl rfl)<|tS (q3 rfl rfl)<|Te<|cI hm rfl (fun hm => ?_) fun hm => ?_
 refine Cr<|aS rfl<|Te<|Ct<|Xr ?_
 obtain rfl := o1 hm
 exact rO ⟨none, 0, [], rfl, rfl, OS.nil⟩ lr
 refine Ck<|Xn<|Cr<|aS rfl<|Te ?_
 obtain ⟨⟨bg, bh⟩, aR, aT⟩ := bS hm
 refine Cj (fun X e' hp' => ∃ k, [(2, pb m), (3, pb n), (5, sn), (6, pb k)] = e' ∧ (m, Cl 28 [sv A2 t.Stations c3, sv A5 t.Sections c6, sv A8 t.Links c9, sv ad t.Signals ae, sv af t.Gates ag]) :: (n, Cl 36 [iv j.From, iv j.To, sv U j.Steps V]) :: (k, Cl 131 [iv bg, iv bh]) :: R = hp' ∧ b.Le X) ?_ ?_
 have hm := aR
 obtain ⟨aA, bi, hm⟩ := bS hm
 obtain ⟨aB, bj, hm⟩ := bS hm
 refine Di mixed (.refl _)<|E0 0 rfl (sF rfl q3O)<|Es 1 rfl (sL 1 rfl q9J rfl rfl)<|E0 2 rfl (sF rfl q5K)<|Es 3 rfl (sL 0 rfl Q8 rfl rfl) ?_
 obtain ⟨bk, aU, aV⟩ := iS bi
 obtain ⟨bz, aW, aC, au, aD⟩ := FZ.get (sz := 2) rfl (by decide) aQ aV
 obtain ⟨_, _, rfl, rfl, rfl⟩ := aW
 refine E0 4 rfl (sI bk rfl rfl aU aD au z5d)<|E0 5 rfl (sQ rfl au q4c)<|Es 6 rfl (sO rfl Q8 (aC 0 _ rfl))<|E0 7 rfl (sF rfl q3O)<|Es 8 rfl (sL 1 rfl q9J rfl rfl)<|E0 9 rfl (sF rfl q5K)<|Es 10 rfl (sL 0 rfl Q8 rfl rfl) ?_
 obtain ⟨bl, aX, aY⟩ := iS bj
 obtain ⟨bA, aZ, aE, av, aF⟩ := FZ.get (sz := 2) rfl (by decide) aQ aY
 obtain ⟨_, _, rfl, rfl, rfl⟩ := aZ
 refine E0 11 rfl (sI bl rfl rfl aX aF av z5d)<|E0 12 rfl (sQ rfl av q8m)<|Es 13 rfl (sO rfl Q8 (aE 1 _ rfl))<|E0 14 rfl (sB (v := .agg #[iv aA.Section, iv aB.End]) [(0, iv aA.Section), (1, iv aB.End)] rfl (fun _ => by kernel_rfl))<|Eo<|Da [15] (by kernel_rfl) rfl<|Rd2 lr rfl rfl (uA [iv 0, iv 0] q2W rfl) ?_ ?_
 rintro _ _ ⟨bm, rfl, rfl⟩
 refine iR<|Da [16] (by kernel_rfl) rfl<|Rd2 lr rfl rfl (uN (vs := [_, _]) 0 2 rfl rfl rfl q3R rfl (mc rfl (mc rfl mn)) rfl (by simp)) ?_ ?_
 rintro _ _ rfl
 refine ⟨.inl (by kernel_rfl), ?_⟩
 refine Dd (by kernel_rfl) ?_
 obtain ⟨rfl, rfl⟩ := V9 hm
 exact jJ ⟨bm, rfl, rfl, lr⟩
 exact Rn
 exact Rn
 rintro X _ _ ⟨k, rfl, rfl, c⟩
 have hm := H0 aT
 obtain ⟨ai, a0, a1⟩ := bS hm
 refine Cj (fun aj e' hp' => ∃ Y Z H, [(5, sv Y ai Z)] = e' ∧ (H ++ R) = hp' ∧ X.Le aj ∧ OS 62 (OT.fr J1) aj.w (sv Y ai Z) ai H) ?_ ?_
 have hm := a0
 refine Cr<|aS rfl<|Te<|Cb<|lL (z5b fun J C D g => fun aa e' hp' => ∃ p q f, [(2, pb m), (3, pb n), (5, sv p g q), (6, pb k), (7, iv J)] = e' ∧ (m, Cl 28 [sv A2 t.Stations c3, sv A5 t.Sections c6, sv A8 t.Links c9, sv ad t.Signals ae, sv af t.Gates ag]) :: (n, Cl 36 [iv j.From, iv j.To, sv U j.Steps V]) :: (k, Cl 131 [iv C, iv D]) :: (f ++ R) = hp' ∧ X.Le aa ∧ OS 62 (OT.fr J1) aa.w (sv p g q) g f) hm ⟨none, 0, [], rfl, rfl, lr, OS.nil⟩ ?_
 rintro ⟨J, C, D, g⟩ aa _ _ bB ⟨p, q, f, rfl, rfl, a, K⟩ F L
 unfold q0l at F
 have hm := z1D F
 refine Cs<|Cr<|mV rfl<|tS (q3 rfl rfl)<|Te<|cI hm rfl (fun hm => ?_) fun hm => ?_
 refine Ck<|Xn<|Cb<|Cr<|tS (sB (v := .agg #[iv 0, iv 0, iv 0]) [] rfl (fun _ => by kernel_rfl))<|tD (uA [iv 0, iv 0, iv 0] q5T rfl) ?_
 rintro _ _ ⟨E, rfl, rfl⟩
 refine tD (uA [.bool false] j0D rfl) ?_
 rintro _ _ ⟨ab, rfl, rfl⟩
 refine tD (uN (vs := [_, _, _]) 1 3 rfl rfl rfl q8T rfl (mc rfl (mc rfl (mc rfl mn))) rfl (by simp)) ?_
 rintro _ _ rfl
 refine tD (uS 0 rfl rfl z6o rfl rfl (by simp)) ?_
 rintro _ _ rfl
 refine Te ?_
 obtain ⟨⟨e, A, u, aG⟩, a2, a3⟩ := bS hm
 refine Cj (fun ak e' hp' => [(2, pb m), (3, pb n), (5, sv p g q), (6, pb k), (7, iv J), (8, pb E), (9, pb ab)] = e' ∧ (m, Cl 28 [sv A2 t.Stations c3, sv A5 t.Sections c6, sv A8 t.Links c9, sv ad t.Signals ae, sv af t.Gates ag]) :: (n, Cl 36 [iv j.From, iv j.To, sv U j.Steps V]) :: (k, Cl 131 [iv C, iv D]) :: (E, Cl 62 [iv e, iv A, iv u]) :: (ab, Cl 4 [bv aG]) :: (f ++ R) = hp' ∧ aa.Le ak) ?_ ?_
 have hm := a2
 refine Cr<|tS (sD (vs := [_, _, _, _, _]) 2 5 rfl P0 rfl rfl rfl)<|tS (sD (vs := [_, _]) 4 2 rfl q2V rfl rfl rfl) ?_
 obtain ⟨bn, aH, hm⟩ := bS hm
 have zz := c.trans a
 refine Tg _ rfl j2t rfl (z4P _ _ t (⟨C, D⟩ : v7) A2 c3 A5 c6 A8 c9 ad ae af ag (h4.le zz) (h7.le zz) (bH.le zz) (aQ.le zz) (bI.le zz) bn aH) ?_
 rintro _ bo _ O ⟨bJ, rfl, rfl, bp⟩
 refine Te<|Cb ?_
 obtain ⟨bK, a4, I⟩ := bS hm
 refine Cp 1 rfl<|Cp 4 rfl<|Cp 4 rfl<|Cp 4 rfl ?_
 refine z7e (fun x : v6 => (.agg #[iv x.Section, iv x.In, iv x.Out] : Value)) (fun _ => fun al hp' => (m, Cl 28 [sv A2 t.Stations c3, sv A5 t.Sections c6, sv A8 t.Links c9, sv ad t.Signals ae, sv af t.Gates ag]) :: (n, Cl 36 [iv j.From, iv j.To, sv U j.Steps V]) :: (k, Cl 131 [iv C, iv D]) :: (E, Cl 62 [iv 0, iv 0, iv 0]) :: (ab, Cl 4 [bv false]) :: (f ++ R) = hp' ∧ bo.Le al) rfl bp a4 (e' := [(2, pb m), (3, pb n), (5, sv p g q), (6, pb k), (7, iv J), (8, pb E), (9, pb ab)]) ⟨rfl, rfl, rfl, rfl, rfl, rfl, rfl, trivial⟩ (.refl _) rfl (fun dk hdk => ⟨rfl, k9.Le.dks hdk⟩) ?_ ?_ (fun x hx => (c.trans (a.trans O)).dk x hx)
 rintro bL bM bN _ al bO _ bC ⟨rfl, S⟩ aI G am
 unfold q2M at G
 have hm := G
 refine Cg<|tD (uA [iv 0, iv 0, iv 0] q5T rfl) ?_
 rintro _ _ ⟨bP, rfl, rfl⟩
 refine tD (uN (vs := [_, _, _]) 0 3 rfl rfl rfl q8T rfl (mc rfl (mc rfl (mc rfl mn))) rfl (by simp)) ?_
 rintro _ _ rfl
 refine Tn<|z8m 1 rfl<|Cb<|Cr<|tS (sD (vs := [_, _, _]) 1 3 rfl q6T rfl rfl rfl)<|tD (uN (vs := [_, _, _]) 5 3 rfl rfl rfl q8T rfl (mc rfl (mc rfl (mc rfl mn))) rfl (by simp)) ?_
 rintro _ _ rfl
 refine tD (uS 6 rfl rfl z6o rfl rfl (by simp)) ?_
 rintro _ _ rfl
 refine Te<|Ce<|Xi rfl<|j2T 0 rfl lr<|Ce<|Xo ?_
 have a5 := am _ (Kd hm).symm
 rw [a5] at I
 have hm := V8 I
 obtain ⟨rfl, rfl, rfl, rfl⟩ := q9F hm
 exact jJ ⟨rfl, rfl, (O.trans (S.trans aI))⟩
 rintro _ al _ ⟨rfl, S⟩ a6
 rw [a6] at I
 have hm := G0 I
 refine Xm ?_
 obtain ⟨rfl, rfl, rfl, rfl⟩ := q9F hm
 exact jJ ⟨rfl, rfl, (O.trans S)⟩
 rintro ak _ _ ⟨rfl, rfl, d⟩
 have hm := z1D a3
 refine Cs ?_
 obtain ⟨bq, a7, a8⟩ := bS hm
 refine Cj (fun aJ e' hp' => [(2, pb m), (3, pb n), (5, sv p g q), (6, pb k), (7, iv J), (8, pb E), (63, bv bq)] = e' ∧ (m, Cl 28 [sv A2 t.Stations c3, sv A5 t.Sections c6, sv A8 t.Links c9, sv ad t.Signals ae, sv af t.Gates ag]) :: (n, Cl 36 [iv j.From, iv j.To, sv U j.Steps V]) :: (k, Cl 131 [iv C, iv D]) :: (E, Cl 62 [iv e, iv A, iv u]) :: (f ++ R) = hp' ∧ ak.Le aJ) ?_ ?_
 have hm := a7
 rcases Kg aG with s | s
 rw [if_pos s] at hm
 obtain ⟨ac, T, hm⟩ := bS hm
 rcases Kg ac with z | z
 rw [if_pos z] at hm
 refine Di mixed (.refl _)<|Es 0 rfl (stB (sL 4 rfl q6p rfl rfl) s)<|E0 1 rfl (Y7 rfl)<|E0 2 rfl (sM rfl)<|Yz 3 39 rfl (sF rfl P6)<|Ey 4 39 rfl (sL 1 rfl q3A rfl rfl)<|Yz 5 39 rfl (sF rfl K5)<|Ey 6 39 rfl (sL 3 rfl Q8 rfl rfl)<|Eo<|Da [7] (by kernel_rfl) rfl<|q3j lr rfl rfl 39 rfl rfl rfl (uW _ q6E rfl (fun w ho => F7 _ [] j.Steps e U V ((bf.le (c.trans (a.trans d))).old ho) ac T) (fun _ _ _ h => h.2.symm)) ?_ ?_
 rintro _ _ ⟨⟨_, rfl, _⟩, rfl⟩
 refine iR<|q3S 44 rfl (v' := .bool true) (by rw [z])<|Ei lr (.refl _)<|E0 8 rfl (pF rfl rfl)<|E0 9 rfl (sM rfl)<|eN 10 rfl<|eN 11 rfl<|eN 12 rfl<|eN 13 rfl<|E0 14 rfl (pT rfl rfl)<|E0 15 rfl (sM rfl)<|eN 16 rfl<|eN 17 rfl<|eN 18 rfl<|eN 19 rfl<|eN 20 rfl<|eN 21 rfl<|eN 22 rfl<|eN 23 rfl<|eN 24 rfl<|eN 25 rfl<|E0 26 rfl (pT rfl rfl)<|Eo<|Dd (by kernel_rfl) ?_
 obtain rfl := o1 hm
 exact jJ ⟨rfl, rfl, lr⟩
 exact Rn
 rw [if_neg (fun hh => Bool.noConfusion (hh.symm.trans z))] at hm
 obtain ⟨an, ah, hm⟩ := bS hm
 rcases Kg an with B | B
 rw [if_pos B] at hm
 refine Di mixed (.refl _)<|Es 0 rfl (stB (sL 4 rfl q6p rfl rfl) s)<|E0 1 rfl (Y7 rfl)<|E0 2 rfl (sM rfl)<|Yz 3 39 rfl (sF rfl P6)<|Ey 4 39 rfl (sL 1 rfl q3A rfl rfl)<|Yz 5 39 rfl (sF rfl K5)<|Ey 6 39 rfl (sL 3 rfl Q8 rfl rfl)<|Eo<|Da [7] (by kernel_rfl) rfl<|q3j lr rfl rfl 39 rfl rfl rfl (uW _ q6E rfl (fun w ho => F7 _ [] j.Steps e U V ((bf.le (c.trans (a.trans d))).old ho) ac T) (fun _ _ _ h => h.2.symm)) ?_ ?_
 rintro _ _ ⟨⟨_, rfl, _⟩, rfl⟩
 refine iR<|q3S 44 rfl (v' := .bool false) (by rw [z])<|Ei lr (.refl _)<|E0 8 rfl (pF rfl rfl)<|E0 9 rfl (sM rfl)<|Yz 10 46 rfl (sM rfl)<|Yz 11 46 rfl (sF rfl K5)<|Ey 12 46 rfl (sL 3 rfl Q8 rfl rfl)<|Eo<|Da [13] (by kernel_rfl) rfl ?_
 refine q3j lr rfl rfl 46 rfl rfl rfl (uW _ q6E rfl (fun w ho => F7 _ [] g e p q (OS.now (o := (OT.fr J1)) (l := g) (hs := f) (K.le d) ho (.cons _ (.cons _ (.cons _ (.cons _ (.cons _ (Kb _ _))))))) an ah) (fun _ _ _ h => h.2.symm)) ?_ ?_
 rintro _ _ ⟨⟨_, rfl, _⟩, rfl⟩
 refine iR<|q3S 50 rfl (v' := .bool true) (by rw [B])<|Ei lr (.refl _)<|E0 14 rfl (pF rfl rfl)<|E0 15 rfl (sM rfl)<|eN 16 rfl<|eN 17 rfl<|eN 18 rfl<|eN 19 rfl<|eN 20 rfl<|eN 21 rfl<|eN 22 rfl<|eN 23 rfl<|eN 24 rfl<|eN 25 rfl<|E0 26 rfl (pT rfl rfl)<|Eo<|Dd (by kernel_rfl) ?_
 obtain rfl := o1 hm
 exact jJ ⟨rfl, rfl, lr⟩
 exact Rn
 exact Rn
 rw [if_neg (fun hh => Bool.noConfusion (hh.symm.trans B))] at hm
 obtain ⟨bQ, br, hm⟩ := bS hm
 refine Di mixed (.refl _)<|Es 0 rfl (stB (sL 4 rfl q6p rfl rfl) s)<|E0 1 rfl (Y7 rfl)<|E0 2 rfl (sM rfl)<|Yz 3 39 rfl (sF rfl P6)<|Ey 4 39 rfl (sL 1 rfl q3A rfl rfl)<|Yz 5 39 rfl (sF rfl K5)<|Ey 6 39 rfl (sL 3 rfl Q8 rfl rfl)<|Eo<|Da [7] (by kernel_rfl) rfl ?_
 have zy := c.trans (a.trans d)
 refine q3j lr rfl rfl 39 rfl rfl rfl (uW _ q6E rfl (fun w ho => F7 _ [] j.Steps e U V ((bf.le zy).old ho) ac T) (fun _ _ _ h => h.2.symm)) ?_ ?_
 rintro _ _ ⟨⟨_, rfl, _⟩, rfl⟩
 refine iR<|q3S 44 rfl (v' := .bool false) (by rw [z])<|Ei lr (.refl _)<|E0 8 rfl (pF rfl rfl)<|E0 9 rfl (sM rfl)<|Yz 10 46 rfl (sM rfl)<|Yz 11 46 rfl (sF rfl K5)<|Ey 12 46 rfl (sL 3 rfl Q8 rfl rfl)<|Eo<|Da [13] (by kernel_rfl) rfl ?_
 refine q3j lr rfl rfl 46 rfl rfl rfl (uW _ q6E rfl (fun w ho => F7 _ [] g e p q (OS.now (o := (OT.fr J1)) (l := g) (hs := f) (K.le d) ho (.cons _ (.cons _ (.cons _ (.cons _ (.cons _ (Kb _ _))))))) an ah) (fun _ _ _ h => h.2.symm)) ?_ ?_
 rintro _ _ ⟨⟨_, rfl, _⟩, rfl⟩
 refine iR<|q3S 50 rfl (v' := .bool false) (by rw [B])<|Ei lr (.refl _)<|E0 14 rfl (pF rfl rfl)<|E0 15 rfl (sM rfl)<|Yz 16 52 rfl (sF rfl K5)<|Ey 17 52 rfl (sL 3 rfl Q8 rfl rfl)<|Yz 18 52 rfl (sF rfl q3O)<|Ey 19 52 rfl (sL 0 rfl q9J rfl rfl)<|Yz 20 52 rfl (sF rfl q5L)<|Ey 21 52 rfl (sL 1 rfl Q8 rfl rfl) ?_
 obtain ⟨bs, a9, ba⟩ := iS br
 obtain ⟨bD, bb, aK, aw, aL⟩ := FZ.get (sz := 2) rfl (by decide) (aQ.le zy) ba
 obtain ⟨_, _, rfl, rfl, rfl⟩ := bb
 refine Yz 22 52 rfl (sI bs rfl rfl a9 aL aw z5d)<|Yz 23 52 rfl (sQ rfl aw q4c)<|Ey 24 52 rfl (sO rfl Q8 (aK 0 _ rfl))<|Yz 25 52 rfl (q1 rfl rfl)<|E0 26 rfl (pF rfl rfl)<|Eo<|Dd (by kernel_rfl) ?_
 obtain rfl := o1 hm
 exact jJ ⟨rfl, rfl, lr⟩
 exact Rn
 exact Rn
 rw [if_neg (fun hh => Bool.noConfusion (hh.symm.trans s))] at hm
 refine Di mixed (.refl _)<|Es 0 rfl (stB (sL 4 rfl q6p rfl rfl) s)<|E0 1 rfl (q0r rfl)<|E0 2 rfl (sM rfl)<|eN 3 rfl<|eN 4 rfl<|eN 5 rfl<|eN 6 rfl<|eN 7 rfl<|E0 8 rfl (pT rfl rfl)<|E0 9 rfl (sM rfl)<|eN 10 rfl<|eN 11 rfl<|eN 12 rfl<|eN 13 rfl<|E0 14 rfl (pT rfl rfl)<|E0 15 rfl (sM rfl)<|eN 16 rfl<|eN 17 rfl<|eN 18 rfl<|eN 19 rfl<|eN 20 rfl<|eN 21 rfl<|eN 22 rfl<|eN 23 rfl<|eN 24 rfl<|eN 25 rfl<|E0 26 rfl (pT rfl rfl)<|Eo<|Dd (by kernel_rfl) ?_
 obtain rfl := o1 hm
 exact jJ ⟨rfl, rfl, lr⟩
 rintro aJ _ _ ⟨rfl, rfl, y⟩
 have hm := a8
 refine cB hm rfl (fun hm => ?_) fun hm => ?_
 refine Ce<|Xe<|Xi rfl<|Xe<|Xo ?_
 have hm := congrArg some (L _ (Kd hm).symm)
 obtain rfl := o1 hm
 exact jJ ⟨p, q, f, rfl, rfl, (a.trans (d.trans y)), (K.le (d.trans y))⟩
 refine Ck<|Xn<|Cr<|mV rfl<|tS (sD (vs := [_, _, _]) 3 3 rfl q6T rfl rfl rfl)<|tD (V3 (el := 62) [(0, .agg #[iv e, iv A, iv u])] [iv e, iv A, iv u] rfl (fun _ => by kernel_rfl)) ?_
 rintro _ _ ⟨bR, rfl, rfl⟩
 obtain ⟨_, ao, hm⟩ := bS hm
 have ao := W9 ao
 have zx := d.trans y
 refine tD (uQ (r := J1) (l := g) [_, _, _, _, _] R [[iv e, iv A, iv u]] [(⟨e, A, u⟩ : v6)] rfl (by decide) q6f j1p rfl rfl rfl rfl (K.le zx) rfl (fun w ho => Rd.own (i := 0) ho rfl) ⟨⟨[iv e], _, rfl, rfl, ⟨[iv A], _, rfl, rfl, rfl⟩⟩, trivial⟩ ao) ?_
 rintro _ _ ⟨bc, rfl, aM⟩
 obtain ⟨bt, bu, rfl, _⟩ := aM.form
 refine aS rfl<|Te<|Cr<|mV rfl<|tS (sF rfl q0B)<|tS (sL 1 rfl q5f rfl rfl)<|tS (sF rfl K5)<|tS (sL 4 rfl Q8 rfl rfl) ?_
 obtain ⟨bT, bw, bE, bd, bG, be, aN, ax, aO, hm⟩ := bF (sz := 7) hm (h7.le (c.trans (a.trans zx)))
 obtain ⟨_, _, rfl, rfl, ⟨_, _, rfl, rfl, ⟨_, _, rfl, rfl, ⟨_, _, rfl, rfl, ⟨_, _, rfl, rfl, ⟨_, _, rfl, rfl, rfl⟩⟩⟩⟩⟩⟩ := be
 refine tS (sI bw rfl rfl bd aO ax z1y)<|tS (sQ rfl ax z6Q)<|tS (sO rfl Q8 (aN 1 _ rfl)) ?_
 obtain ⟨_, aq, hm⟩ := bS hm
 have aq := (kS aq).2
 refine tS (sa rfl rfl aq)<|aS rfl<|Te<|Cg<|tS (sF rfl K5)<|tS (sL 4 rfl Q8 rfl rfl)<|tS (sF rfl z3p)<|tS (sL 4 rfl Q8 rfl rfl)<|tS (sB (v := .agg #[iv e, iv u]) [(0, iv e), (1, iv u)] rfl (fun _ => by kernel_rfl))<|tD (uN (vs := [_, _]) 3 2 rfl rfl rfl q3R rfl (mc rfl (mc rfl mn)) rfl (by simp)) ?_
 rintro _ _ rfl
 refine Tn<|Xm ?_
 exact jM hm ⟨bt, bu, bc, rfl, rfl, ((a.trans zx)), aM⟩
 refine Ce<|Xe<|Xe<|Xo ?_
 have hm := congrArg some (L _ (Kd hm).symm)
 obtain rfl := o1 hm
 exact jJ ⟨p, q, f, rfl, rfl, a, K⟩
 rintro aj _ _ ⟨Y, Z, H, rfl, rfl, aP, bx⟩
 have hm := a1
 refine Cr<|mV rfl<|aS rfl<|Te<|Ct ?_
 obtain rfl := o1 hm
 exact rO ⟨Y, Z, H, rfl, rfl, bx⟩ (c.trans aP)
theorem q8H (b : k9) (R : Hp) (a : j3) (c : v6) (o p q r s t g h i j) (E : FZ RT.str b.w o p a.Stations) (x : FZ j4 b.w q r a.Sections) (y : FZ Q0 b.w s t a.Links) (z : FZ j6 b.w g h a.Signals) (A : FZ Q1 b.w i j a.Gates) (k) (hm : K3 a c = some k):
 v8 Tryz.prog 63 [.agg #[sv o a.Stations p, sv q a.Sections r, sv s a.Links t, sv g a.Signals h, sv i a.Gates j], .agg #[iv c.Section, iv c.In, iv c.Out]] b (R) (fun v b' hp' => iv k = v ∧ R = hp') := by
 refine fE 18 Tryz.func63 rfl Tryz.ntmps63 rfl ?_
 unfold K3 at hm
 refine Cr<|tD (uB _ rfl rfl) ?_
 rintro _ _ ⟨B, rfl, rfl⟩
 refine tD (uB _ rfl rfl) ?_
 rintro _ _ ⟨C, rfl, rfl⟩
 refine aS rfl<|Te<|Cs<|Cr<|tS (sF rfl q0B)<|tS (sL 1 rfl q5f rfl rfl)<|tS (sF rfl K5)<|tS (sL 0 rfl Q8 rfl rfl) ?_
 obtain ⟨D, n, u, l, w, m, e, d, f, hm⟩ := bF (sz := 7) hm x
 obtain ⟨_, _, rfl, rfl, ⟨_, _, rfl, rfl, ⟨_, _, rfl, rfl, ⟨_, _, rfl, rfl, ⟨_, _, rfl, rfl, ⟨_, _, rfl, rfl, rfl⟩⟩⟩⟩⟩⟩ := m
 refine tS (sI n rfl rfl l f d z1y)<|tS (sQ rfl d q3w)<|tS (sO rfl Q8 (e 0 _ rfl))<|tS (q1 rfl rfl)<|Te<|cI hm rfl (fun hm => ?_) fun hm => ?_
 refine Cr<|tS (sF rfl z9E)<|tS (sL 0 rfl Q8 rfl rfl)<|tS (sF rfl z3p)<|tS (sL 0 rfl Q8 rfl rfl)<|tS (j4C rfl rfl)<|aS rfl<|Te<|Ct<|Xr ?_
 obtain rfl := o1 hm
 exact rO ⟨rfl, rfl⟩ lr
 refine Ck<|Xn<|Cr<|aS rfl<|Te<|Ct ?_
 obtain rfl := o1 hm
 exact rO ⟨rfl, rfl⟩ lr
theorem q1N (b : k9) (R : Hp) (a : q8) (q s t u x D E y j h ab F G H I J K L O S T U V W A3 c4 c A8 c9 e z f) (an : FZ RT.str b.w G H q) (ao : FZ j4 b.w I J s) (aq : FZ Q0 b.w K L t) (ar : FZ j6 b.w O S u) (au : FZ Q1 b.w T U x) (av : FZ J1 b.w V W y) (h5 : OS 62 (OT.fr J1) b.w (sv A3 j c4) j c) (ac : OS 55 (OT.fr j7) b.w (sv A8 h c9) h e) (X : (A8 = none ↔ h = [])) (Y : OM j7 (OT.fr RT.bool) true false b.w z ab f) (m ad) (hm : Z6 a q s t u x D E y j h ab = some (m, ad)):
 v8 Tryz.prog 62 [pb F, .agg #[iv a.Kind, iv a.Place, iv a.Position, iv a.At]] b ((F, Cl 136 [sv G q H, sv I s J, sv K t L, sv O u S, sv T x U, iv D, iv E, sv V y W, sv A3 j c4, sv A8 h c9, .map (some z)]) :: (c ++ (e ++ (f ++ R)))) (fun v b' hp' => ∃ Z ae A B, .tuple #[] = v ∧ (F, Cl 136 [sv G q H, sv I s J, sv K t L, sv O u S, sv T x U, iv D, iv E, sv V y W, sv A3 j c4, sv Z m ae, .map (some z)]) :: (c ++ (A ++ (B ++ R))) = hp' ∧ OS 55 (OT.fr j7) b'.w (sv Z m ae) m A ∧ (Z = none ↔ m = []) ∧ OM j7 (OT.fr RT.bool) true false b'.w z ad B) := by
 refine fE 26 Tryz.func62 rfl Tryz.ntmps62 rfl ?_
 unfold Z6 at hm
 refine Cr<|tD (uB _ rfl rfl) ?_
 rintro _ _ ⟨aw, rfl, rfl⟩
 refine Te<|Cs ?_
 obtain ⟨C, af, hm⟩ := bS hm
 refine Di mixed (.refl _)<|E0 0 rfl (sM rfl)<|E0 1 rfl (sN rfl)<|E0 2 rfl (sF rfl z6M)<|Es 3 rfl (sL 1 rfl j2m rfl rfl)<|Es 4 rfl (sD (vs := [_, _, _, _]) 0 4 rfl P7 rfl rfl rfl) ?_
 have aa := Kd af
 obtain ⟨ag, g, ah⟩ := OM.lookF j4W (z0 := false) Y (key := .agg #[iv a.Kind, iv a.Place, iv a.Position, iv a.At]) (k := a) ⟨[iv a.Kind, iv a.Place, iv a.Position, iv a.At], rfl, ⟨[iv a.Kind], _, rfl, rfl, ⟨[iv a.Place], _, rfl, rfl, ⟨[iv a.Position], _, rfl, rfl, rfl⟩⟩⟩⟩ z9j j0D rfl
 rw [aa] at g
 obtain rfl : ag = bv C := by have g : [ag] = [bv C] := g; injection g
 refine Es 5 rfl (q6V (ok := false) rfl rfl (fun w ho => ah _ w ho (.cons _ (.cons _ (ss c (ss e (Kb _ _))))) false))<|E0 6 rfl (sn2 rfl)<|Eo<|Dd (by kernel_rfl)<|Xn<|cM hm rfl (fun hm => ?_) fun hm => ?_
 refine Cs<|Di mixed (.refl _)<|E0 0 rfl (sM rfl)<|E0 1 rfl (sN rfl)<|E0 2 rfl (sF rfl z6M)<|Es 3 rfl (sL 1 rfl j2m rfl rfl)<|Es 4 rfl (sD (vs := [_, _, _, _]) 0 4 rfl P7 rfl rfl rfl)<|Eo<|j7c c e f<|Da [5] (by kernel_rfl) rfl ?_
 refine Rd2 lr rfl rfl (z0n (k := a) j4W [_, _] [] (c ++ (e ++ R)) rfl Y z9j rfl rfl rfl (⟨[iv a.Kind, iv a.Place, iv a.Position, iv a.At], rfl, ⟨[iv a.Kind], _, rfl, rfl, ⟨[iv a.Place], _, rfl, rfl, ⟨[iv a.Position], _, rfl, rfl, rfl⟩⟩⟩⟩) ⟨rfl, rfl⟩ _ (.inl rfl)) ?_ ?_
 rintro _ _ ⟨d, rfl, ai, aj⟩
 refine ⟨.inl (by kernel_rfl), ?_⟩
 refine Dd (by kernel_rfl)<|Xn ?_
 obtain ⟨_, n, hm⟩ := bS hm
 refine Di mixed (.cons_cons _ (.cons_cons _ (sp d (sp c (ss e (.refl _))))))<|E0 0 rfl (sM rfl)<|E0 1 rfl (sM rfl)<|E0 2 rfl (sN rfl)<|E0 3 rfl (sF rfl z0e)<|Es 4 rfl (sL 1 rfl z4e rfl rfl)<|Es 5 rfl (sD (vs := [_, _, _, _]) 0 4 rfl P7 rfl rfl rfl)<|Eo<|Da [6] (by kernel_rfl) rfl ?_
 refine Rd2 lr rfl rfl (V3 (el := 55) [(0, .agg #[iv a.Kind, iv a.Place, iv a.Position, iv a.At])] [iv a.Kind, iv a.Place, iv a.Position, iv a.At] rfl (fun _ => by kernel_rfl)) ?_ ?_
 rintro _ _ ⟨am, rfl, rfl⟩
 refine iR ?_
 have n := W9 n
 refine j1I d c e<|Da [7] (by kernel_rfl) rfl<|Rd2 lr rfl rfl (uQ (r := j7) (l := h) [_, _, _] (d ++ (c ++ R)) [[iv a.Kind, iv a.Place, iv a.Position, iv a.At]] [a] rfl (by decide) q5x j1q rfl rfl rfl rfl ac rfl (fun w ho => Rd.own (i := 0) ho rfl) ⟨⟨[iv a.Kind], _, rfl, rfl, ⟨[iv a.Place], _, rfl, rfl, ⟨[iv a.Position], _, rfl, rfl, rfl⟩⟩⟩, trivial⟩ n) ?_ ?_
 rintro _ _ ⟨o, rfl, p⟩
 obtain ⟨ak, al, rfl, _⟩ := p.form
 refine iR<|Ei lr (.cons _ (.cons_cons _ (.cons_cons _ (ss o (.refl _)))))<|E0 8 rfl (sN rfl)<|E0 9 rfl (sF rfl z0e)<|Eo<|Da [10] (by kernel_rfl) rfl<|Rd2 lr rfl rfl (uS 2 rfl rfl j6L rfl rfl (by simp)) ?_ ?_
 rintro _ _ rfl
 refine ⟨.inl (by kernel_rfl), ?_⟩
 refine Dd (by kernel_rfl) ?_
 obtain ⟨rfl, rfl⟩ := V9 hm
 exact eZ ⟨ak, al, o, d, rfl, rfl, p, (OS.nz p (by simp)), aj⟩ lr
 exact Rn
 exact Rn
 exact Rn
 exact Rn
 refine Ck ?_
 obtain ⟨rfl, rfl⟩ := V9 hm
 exact eZ ⟨A8, c9, e, f, rfl, rfl, ac, X, Y⟩ lr
theorem q8J (b : k9) (R : Hp) (e : q8) (j k l m f) (hm : q0m e j k = some f):
 v8 Tryz.prog 123 [.agg #[iv e.Kind, iv e.Place, iv e.Position, iv e.At], pb l, pb m] b ((l, Cl 3 [iv j]) :: (m, Cl 3 [iv k]) :: R) (fun v b' hp' => bv f = v ∧ (l, Cl 3 [iv j]) :: (m, Cl 3 [iv k]) :: R = hp') := by
 refine fE 20 Tryz.func123 rfl Tryz.ntmps123 rfl ?_
 unfold q0m at hm
 refine Cr<|tD (uB _ rfl rfl) ?_
 rintro _ _ ⟨o, rfl, rfl⟩
 refine aS rfl<|Te ?_
 obtain ⟨n, g, h⟩ := bS hm
 refine Cj (fun i e' hp' => [(4, bv n)] = e' ∧ (l, Cl 3 [iv j]) :: (m, Cl 3 [iv k]) :: R = hp' ∧ b.Le i) ?_ ?_
 have hm := g
 refine Cg<|tS (sF rfl q0H)<|tS (sL 0 rfl Q8 rfl rfl)<|Tb rfl (q1 rfl rfl) (fun a => ?_) (fun a => ?_)
 rw [if_pos a] at hm
 refine mV rfl<|yS<|tS (sF rfl q3N)<|yS<|tS (sL 0 rfl Q8 rfl rfl)<|yS<|tS (sL 1 rfl Q8 rfl rfl)<|yS<|Tb rfl (q1 rfl rfl) (fun c => ?_) (fun c => ?_)
 rw [if_pos c] at hm
 refine tS (pT rfl rfl)<|mV rfl<|yS<|tS (sF rfl q0Z)<|yS<|tS (sL 0 rfl Q8 rfl rfl)<|yS<|tS (sL 2 rfl Q8 rfl rfl)<|yS<|tS (q1 rfl rfl)<|tS (pT rfl rfl)<|aS rfl<|Tn ?_
 obtain rfl := o1 hm
 exact jJ ⟨rfl, rfl, lr⟩
 rw [if_neg c] at hm
 refine tS (pT rfl rfl)<|mV rfl<|nO<|nO<|nO<|nO<|tS (pF rfl rfl)<|aS rfl<|Tn ?_
 obtain rfl := o1 hm
 exact jJ ⟨rfl, rfl, lr⟩
 rw [if_neg a] at hm
 refine mV rfl<|nO<|nO<|nO<|nO<|tS (pF rfl rfl)<|mV rfl<|nO<|nO<|nO<|nO<|tS (pF rfl rfl)<|aS rfl<|Tn ?_
 obtain rfl := o1 hm
 exact jJ ⟨rfl, rfl, lr⟩
 rintro i _ _ ⟨rfl, rfl, d⟩
 have hm := h
 refine Ct ?_
 obtain rfl := o1 hm
 exact rO ⟨rfl, rfl⟩ d
theorem q8E (b : k9) (R : Hp) (x y e o p F I k) (U : OS 55 (OT.fr j7) b.w (sv F e I) e k) (J : (F = none ↔ e = [])) (z) (hm : q0a x y e = some z):
 v8 Tryz.prog 74 [sv F e I, .func (.func 123) #[] #[pb o, pb p]] b ((o, Cl 3 [iv x]) :: (p, Cl 3 [iv y]) :: (k ++ R)) (fun v b' hp' => iv z = v ∧ (o, Cl 3 [iv x]) :: (p, Cl 3 [iv y]) :: (k ++ R) = hp') := by
 refine fE 19 Tryz.func74 rfl Tryz.ntmps74 rfl ?_
 unfold q0a at hm
 refine Cr<|aS rfl<|Te<|Cs<|Cr<|mV rfl<|tS (sE rfl q5x)<|mV rfl<|Te<|Cb ?_
 have V : e.length ≤ 9223372036854775807 := (OS.len U)
 refine Cp 1 rfl<|Cp 1 rfl ?_
 obtain ⟨ab, A, f⟩ := bS hm
 refine lF (fun B => fun _ => fun q e' hp' => [(0, sv F e I), (1, .func (.func 123) #[] #[pb o, pb p]), (7, iv ((e.length : Int))), (8, iv ((B : Int)))] = e' ∧ (o, Cl 3 [iv x]) :: (p, Cl 3 [iv y]) :: (k ++ R) = hp' ∧ b.Le q) A ⟨rfl, rfl, lr⟩ ?_ ?_
 rintro B _ q _ _ W G ⟨rfl, rfl, a⟩ c h
 unfold X8 at c
 have hm := c
 refine Cr<|tS (lT rfl rfl (by omega))<|Te<|Cs<|k7 rfl<|Ck<|Xn<|Cs<|Cb<|Cr<|mV rfl<|aS rfl<|Te<|Cr<|mV rfl<|mV rfl<|mV rfl ?_
 obtain ⟨d, K, hm⟩ := bS hm
 obtain ⟨L, C, D⟩ := iS K
 obtain ⟨X, O, Y, Z, S, r, l, i, m, T, H⟩ := OS.get (sz := 4) rfl (by decide) (U.le a) D
 obtain ⟨⟨_, _, rfl, rfl, ⟨_, _, rfl, rfl, ⟨_, _, rfl, rfl, rfl⟩⟩⟩, rfl⟩ := r
 refine tS (sI L rfl rfl C m i q5x)<|tS (J6 (vs := [iv d.Kind, iv d.Place, iv d.Position, iv d.At]) 4 rfl P7 i rfl (fun w ho j u hu => l w _ ho (.cons _ (.cons _ (Kb _ _))) j u hu)) ?_
 obtain ⟨E, n, hm⟩ := bS hm
 refine J3 1 rfl<|J3 1 rfl<|Tv #[] #[pb o, pb p] [.agg #[iv d.Kind, iv d.Place, iv d.Position, iv d.At]] rfl rfl j3W rfl (q8J _ _ d x y o p E n) ?_
 rintro _ aa _ g ⟨rfl, rfl⟩
 refine Te<|cB hm rfl (fun hm => ?_) fun hm => ?_
 refine Cr<|mV rfl<|aS rfl<|Te<|Ct<|Xb<|Xr<|Xr<|Xb<|Xr ?_
 have s := h _ (Kd hm).symm
 rw [s] at f
 have hm := V8 f
 obtain rfl := o1 hm
 exact rO ⟨rfl, rfl⟩ (a.trans g)
 refine Ck<|Xm<|Xn<|Cg<|tS (sa rfl rfl (by omega))<|mV rfl<|Tn ?_
 exact jM hm ⟨rfl, rfl, ((a.trans g))⟩
 rintro _ q _ _ ⟨rfl, rfl, a⟩ t
 rw [t] at f
 have hm := G0 f
 refine Cr<|tS (lF rfl rfl (by omega))<|Te<|Cs<|w9 rfl<|Ce<|Xe<|Xe<|Xo<|Xn<|Cr<|aS rfl<|Te<|Ct ?_
 obtain rfl := o1 hm
 exact rO ⟨rfl, rfl⟩ a
theorem q6P (b : k9) (R : Hp) (h i a j k l m c) (o : OS 55 (OT.fr j7) b.w (sv l a m) a c) (d : (l = none ↔ a = [])) (g) (hm : Y6 h i a = some g):
 v8 Tryz.prog 65 [sv l a m, .func (.func 123) #[] #[pb j, pb k]] b ((j, Cl 3 [iv h]) :: (k, Cl 3 [iv i]) :: (c ++ R)) (fun v b' hp' => bv g = v ∧ (j, Cl 3 [iv h]) :: (k, Cl 3 [iv i]) :: (c ++ R) = hp') := by
 refine fE 9 Tryz.func65 rfl Tryz.ntmps65 rfl ?_
 unfold Y6 at hm
 refine Cr<|aS rfl<|Te<|Cr<|mV rfl<|mV rfl ?_
 obtain ⟨n, e, hm⟩ := bS hm
 refine J3 1 rfl<|J3 1 rfl<|q3Q [_, _] [] c R rfl<|Tg _ rfl z4F rfl (q8E _ _ h i a j k l m c o d n e) ?_
 rintro _ p _ f ⟨rfl, rfl⟩
 refine q3x [_, _] [] c R rfl<|tS (q6 rfl rfl)<|aS rfl<|Te<|Ct ?_
 obtain rfl := o1 hm
 exact rO ⟨rfl, rfl⟩ f
theorem q9P (b : k9) (R : Hp) (m n g h i j k o p l f c I q r s t u w x y z A B C D O S e J L d E a) (X : FZ RT.str b.w r s g) (Y : FZ j4 b.w t u h) (Z : FZ Q0 b.w w x i) (aa : FZ j6 b.w y z j) (ab : FZ Q1 b.w A B k) (ac : FZ J1 b.w C D l) (h5 : OS 62 (OT.fr J1) b.w (sv O f S) f e) (T : OS 55 (OT.fr j7) b.w (sv J c L) c d) (F : (J = none ↔ c = [])) (ad : OM j7 (OT.fr RT.bool) true false b.w E I a) (K) (hm : X0 m n g h i j k o p l f c I = some K):
 v8 Tryz.prog 104 [pb q, iv m, iv n] b ((q, Cl 136 [sv r g s, sv t h u, sv w i x, sv y j z, sv A k B, iv o, iv p, sv C l D, sv O f S, sv J c L, .map (some E)]) :: (e ++ (d ++ (a ++ R)))) (fun v b' hp' => bv K = v ∧ (q, Cl 136 [sv r g s, sv t h u, sv w i x, sv y j z, sv A k B, iv o, iv p, sv C l D, sv O f S, sv J c L, .map (some E)]) :: (e ++ (d ++ (a ++ R))) = hp') := by
 refine fE 13 Tryz.func104 rfl Tryz.ntmps104 rfl ?_
 unfold X0 at hm
 refine Cr<|tD (uB _ rfl rfl) ?_
 rintro _ _ ⟨U, rfl, rfl⟩
 refine tD (uB _ rfl rfl) ?_
 rintro _ _ ⟨V, rfl, rfl⟩
 refine aS rfl<|Te<|Cr<|mV rfl<|tS (sN rfl)<|tS (sF rfl z0e)<|tS (sL 2 rfl z4e rfl rfl)<|tS (q2m _ _ rfl rfl) ?_
 obtain ⟨W, G, hm⟩ := bS hm
 refine J3 1 rfl<|j4x e d<|q3Q [_, _] [_] d (e ++ (a ++ R)) rfl<|Tg _ rfl z6Z rfl (q6P _ _ m n c U V J L d T F W G) ?_
 rintro _ ae _ H ⟨rfl, rfl⟩
 refine q3x [_, _] [_] d (e ++ (a ++ R)) rfl<|aS rfl<|Te<|Ct ?_
 obtain rfl := o1 hm
 exact rO ⟨rfl, rfl⟩ H
theorem q9r : ∀ (N : Nat) (b : k9) (R : Hp) (aV : v7) (al E y z A B C ac ad F D ah aW s t n x G H I J K L O S T U X Y A3 c4 g A8 c9 m V e) (aB : FZ RT.str b.w G H y) (aA : FZ j4 b.w I J z) (aC : FZ Q0 b.w K L A) (aD : FZ j6 b.w O S B) (aE : FZ Q1 b.w T U C) (aU : FZ J1 b.w X Y F) (h5 : OS 62 (OT.fr J1) b.w (sv A3 D c4) D g) (aF : OS 55 (OT.fr j7) b.w (sv A8 ah c9) ah m) (W : (A8 = none ↔ ah = [])) (aG : OM j7 (OT.fr RT.bool) true false b.w V aW e) (ar a1) (hm : Z4 N aV al E y z A B C ac ad F D ah aW = some (ar, a1)),
 v8 Tryz.prog 103 [.agg #[iv aV.section_, iv aV.end_], iv al, pb s, pb t, pb n] b ((s, Cl 132 [pb x]) :: (t, Cl 3 [iv E]) :: (n, Cl 181 [.func (.func 103) #[] #[pb s, pb t, pb n]]) :: (x, Cl 136 [sv G y H, sv I z J, sv K A L, sv O B S, sv T C U, iv ac, iv ad, sv X F Y, sv A3 D c4, sv A8 ah c9, .map (some V)]) :: (g ++ (m ++ (e ++ R)))) (fun v b' hp' => ∃ bb bX bc bY bd, .tuple #[] = v ∧ (s, Cl 132 [pb x]) :: (t, Cl 3 [iv E]) :: (n, Cl 181 [.func (.func 103) #[] #[pb s, pb t, pb n]]) :: (x, Cl 136 [sv G y H, sv I z J, sv K A L, sv O B S, sv T C U, iv ac, iv ad, sv X F Y, sv A3 D c4, sv bb ar bX, .map (some bY)]) :: (g ++ (bc ++ (bd ++ R))) = hp' ∧ OS 55 (OT.fr j7) b'.w (sv bb ar bX) ar bc ∧ (bb = none ↔ ar = []) ∧ OM j7 (OT.fr RT.bool) true false b'.w bY a1 bd) := by
  intro N
  induction N with
  | zero =>
    intro b R aV al E y z A B C ac ad F D ah aW s t n x G H I J K L O S T U X Y A3 c4 g A8 c9 m V e aB aA aC aD aE aU h5 aF W aG ar a1 hm
    unfold Z4 at hm
    cases hm
  | succ N ih =>
   intro b R aV al E y z A B C ac ad F D ah aW s t n x G H I J K L O S T U X Y A3 c4 g A8 c9 m V e aB aA aC aD aE aU h5 aF W aG ar a1 hm
   refine fE 122 Tryz.func103 rfl Tryz.ntmps103 rfl ?_
   unfold Z4 at hm
   refine Cr<|tD (uB _ rfl rfl) ?_
   rintro _ _ ⟨c8, rfl, rfl⟩
   refine Te ?_
   obtain ⟨⟨bZ, u, Z⟩, b3, b4⟩ := bS hm
   refine Cj (fun be e' hp' => ∃ aa, [(1, iv al), (2, pb s), (3, pb t), (4, pb n), (7, pb aa), (8, bv bZ)] = e' ∧ (s, Cl 132 [pb x]) :: (t, Cl 3 [iv E]) :: (n, Cl 181 [.func (.func 103) #[] #[pb s, pb t, pb n]]) :: (aa, Cl 131 [iv u, iv Z]) :: (x, Cl 136 [sv G y H, sv I z J, sv K A L, sv O B S, sv T C U, iv ac, iv ad, sv X F Y, sv A3 D c4, sv A8 ah c9, .map (some V)]) :: (g ++ (m ++ (e ++ R))) = hp' ∧ b.Le be) ?_ ?_
   have hm := b3
   obtain ⟨⟨b0, b1, b2⟩, a2, hm⟩ := bS hm
   have hm := (q6j hm)
   refine Di mixed (.refl _)<|Es 0 rfl (sL 1 rfl q5Y rfl rfl)<|E0 1 rfl (sN rfl)<|E0 2 rfl (sF rfl z0g)<|Es 3 rfl (sD (vs := [_, _, _, _, _]) 4 5 rfl P0 rfl rfl rfl)<|Es 4 rfl (sD (vs := [_, _]) 0 2 rfl q2V rfl rfl rfl)<|Eo<|Da [5, 9] (by kernel_rfl) rfl ?_
   refine Rg lr rfl rfl _ z4E rfl (q3i _ _ (⟨y, z, A, B, C⟩ : j3) aV G H I J K L O S T U aB aA aC aD aE b0 b1 b2 a2) ?_ ?_
   rintro _ cT _ p ⟨rfl, rfl⟩
   refine iR<|Ei p (.refl _)<|E0 6 rfl (sM rfl)<|E0 7 rfl (w7 rfl rfl)<|E0 8 rfl (w7 rfl rfl)<|Eo<|Da [9] (by kernel_rfl) rfl ?_
   refine Rd2 p rfl rfl (uA [iv 0, iv 0] q2W rfl) ?_ ?_
   rintro _ _ ⟨bf, rfl, rfl⟩
   refine iR<|Da [10] (by kernel_rfl) rfl ?_
   refine Rd2 p rfl rfl (uN (vs := [_, _]) 0 2 rfl rfl rfl q3R rfl (mc rfl (mc rfl mn)) rfl (by simp)) ?_ ?_
   rintro _ _ rfl
   refine ⟨.inl (by kernel_rfl), ?_⟩
   refine El p<|E0 11 rfl (sA rfl)<|Eo<|Dd (by kernel_rfl) ?_
   obtain ⟨rfl, rfl, rfl⟩ := q7e hm
   exact jJ ⟨bf, rfl, rfl, p⟩
   exact Rn
   exact Rn
   refine Rd2 lr rfl rfl (uA [iv 0, iv 0] q2W rfl) ?_ ?_
   rintro _ _ ⟨bf, rfl, rfl⟩
   refine iR<|Da [5] (by kernel_rfl) rfl ?_
   refine Rg lr rfl rfl _ z4E rfl (q3i _ _ (⟨y, z, A, B, C⟩ : j3) aV G H I J K L O S T U aB aA aC aD aE b0 b1 b2 a2) ?_ ?_
   rintro _ cT _ p ⟨rfl, rfl⟩
   refine iR<|Ei p (.cons _ (.refl _))<|E0 6 rfl (sM rfl)<|E0 7 rfl (w7 rfl rfl)<|E0 8 rfl (w7 rfl rfl)<|Eo<|Da [10] (by kernel_rfl) rfl ?_
   refine Rd2 p rfl rfl (uN (vs := [_, _]) 0 2 rfl rfl rfl q3R rfl (mc rfl (mc rfl mn)) rfl (by simp)) ?_ ?_
   rintro _ _ rfl
   refine ⟨.inl (by kernel_rfl), ?_⟩
   refine El p<|E0 11 rfl (sA rfl)<|Eo<|Dd (by kernel_rfl) ?_
   obtain ⟨rfl, rfl, rfl⟩ := q7e hm
   exact jJ ⟨bf, rfl, rfl, p⟩
   exact Rn
   exact Rn
   exact Rn
   rintro be _ _ ⟨aa, rfl, rfl, a⟩
   have hm := (q6j b4)
   refine Cs ?_
   obtain ⟨cU, b5, b6⟩ := bS hm
   refine Cj (fun a3 e' hp' => [(1, iv al), (2, pb s), (3, pb t), (4, pb n), (7, pb aa), (46, bv cU)] = e' ∧ (s, Cl 132 [pb x]) :: (t, Cl 3 [iv E]) :: (n, Cl 181 [.func (.func 103) #[] #[pb s, pb t, pb n]]) :: (aa, Cl 131 [iv u, iv Z]) :: (x, Cl 136 [sv G y H, sv I z J, sv K A L, sv O B S, sv T C U, iv ac, iv ad, sv X F Y, sv A3 D c4, sv A8 ah c9, .map (some V)]) :: (g ++ (m ++ (e ++ R))) = hp' ∧ be.Le a3) ?_ ?_
   have hm := b5
   rcases Kg bZ with ae | ae
   rw [if_pos ae] at hm
   by_cases au : al = 8
   rw [if_pos au] at hm
   refine Di mixed (.refl _)<|E0 0 rfl (stB (sM rfl) ae)<|E0 1 rfl (Y7 rfl)<|E0 2 rfl (sM rfl)<|Yz 3 24 rfl (sM rfl)<|Yz 4 24 rfl (eT rfl rfl au)<|E0 5 rfl (pF rfl rfl)<|E0 6 rfl (sM rfl)<|eN 7 rfl<|eN 8 rfl ?_
   refine eN 9 rfl<|eN 10 rfl<|eN 11 rfl<|eN 12 rfl<|eN 13 rfl<|eN 14 rfl<|E0 15 rfl (pT rfl rfl)<|E0 16 rfl (sM rfl)<|eN 17 rfl<|eN 18 rfl ?_
   refine eN 19 rfl<|eN 20 rfl<|eN 21 rfl<|eN 22 rfl<|eN 23 rfl<|E0 24 rfl (pT rfl rfl)<|Eo<|Dd (by kernel_rfl) ?_
   obtain rfl := o1 hm
   exact jJ ⟨rfl, rfl, lr⟩
   rw [if_neg au] at hm
   obtain ⟨bg, a4, hm⟩ := bS hm
   rcases Kg bg with av | av
   rw [if_pos av] at hm
   refine Di mixed (.refl _)<|E0 0 rfl (stB (sM rfl) ae)<|E0 1 rfl (Y7 rfl)<|E0 2 rfl (sM rfl)<|Yz 3 24 rfl (sM rfl)<|Yz 4 24 rfl (eF rfl rfl au)<|E0 5 rfl (pF rfl rfl)<|E0 6 rfl (sM rfl)<|Ey 7 28 rfl (sL 0 rfl q5Y rfl rfl)<|Yz 8 28 rfl (sN rfl) ?_
   refine Yz 9 28 rfl (sF rfl z0f)<|Yz 10 28 rfl (sF rfl P6)<|Ey 11 28 rfl (sL 4 rfl q3A rfl rfl)<|Yz 12 28 rfl (sF rfl q1Z)<|Ey 13 28 rfl (sL 3 rfl Q8 rfl rfl)<|Eo<|Da [14] (by kernel_rfl) rfl ?_
   refine q3j lr rfl rfl 28 rfl rfl rfl (uW _ q6E rfl (fun w ho => F7 _ [] F u X Y ((aU.le a).old ho) bg a4) (fun _ _ _ h => h.2.symm)) ?_ ?_
   rintro _ _ ⟨⟨_, rfl, _⟩, rfl⟩
   refine iR<|q3S 36 rfl (v' := .bool true) (by rw [av])<|Ei lr (.refl _)<|E0 15 rfl (pF rfl rfl)<|E0 16 rfl (sM rfl)<|eN 17 rfl<|eN 18 rfl<|eN 19 rfl<|eN 20 rfl<|eN 21 rfl ?_
   refine eN 22 rfl<|eN 23 rfl<|E0 24 rfl (pT rfl rfl)<|Eo<|Dd (by kernel_rfl) ?_
   obtain rfl := o1 hm
   exact jJ ⟨rfl, rfl, lr⟩
   exact Rn
   rw [if_neg (fun hh => Bool.noConfusion (hh.symm.trans av))] at hm
   obtain ⟨cV, bD, hm⟩ := bS hm
   refine Di mixed (.refl _)<|E0 0 rfl (stB (sM rfl) ae)<|E0 1 rfl (Y7 rfl)<|E0 2 rfl (sM rfl)<|Yz 3 24 rfl (sM rfl)<|Yz 4 24 rfl (eF rfl rfl au)<|E0 5 rfl (pF rfl rfl)<|E0 6 rfl (sM rfl)<|Ey 7 28 rfl (sL 0 rfl q5Y rfl rfl)<|Yz 8 28 rfl (sN rfl) ?_
   refine Yz 9 28 rfl (sF rfl z0f)<|Yz 10 28 rfl (sF rfl P6)<|Ey 11 28 rfl (sL 4 rfl q3A rfl rfl)<|Yz 12 28 rfl (sF rfl q1Z)<|Ey 13 28 rfl (sL 3 rfl Q8 rfl rfl)<|Eo<|Da [14] (by kernel_rfl) rfl ?_
   refine q3j lr rfl rfl 28 rfl rfl rfl (uW _ q6E rfl (fun w ho => F7 _ [] F u X Y ((aU.le a).old ho) bg a4) (fun _ _ _ h => h.2.symm)) ?_ ?_
   rintro _ _ ⟨⟨_, rfl, _⟩, rfl⟩
   refine iR<|q3S 36 rfl (v' := .bool false) (by rw [av])<|Ei lr (.refl _)<|E0 15 rfl (pF rfl rfl)<|E0 16 rfl (sM rfl)<|Ey 17 38 rfl (sL 0 rfl q5Y rfl rfl)<|Yz 18 38 rfl (sN rfl)<|Yz 19 38 rfl (sF rfl z6N)<|Ey 20 38 rfl (sL 4 rfl q3A rfl rfl)<|Yz 21 38 rfl (sF rfl q1Z) ?_
   refine Ey 22 38 rfl (sL 3 rfl Q8 rfl rfl)<|Eo<|Da [23] (by kernel_rfl) rfl ?_
   refine q3j lr rfl rfl 38 rfl rfl rfl (uW _ q6E rfl (fun w ho => F7 _ [] D u A3 c4 (OS.now (o := (OT.fr J1)) (l := D) (hs := g) (h5.le a) ho (.cons _ (.cons _ (.cons _ (.cons _ (.cons _ (Kb _ _))))))) cV bD) (fun _ _ _ h => h.2.symm)) ?_ ?_
   rintro _ _ ⟨⟨_, rfl, _⟩, rfl⟩
   refine iR<|Ei lr (.refl _)<|E0 24 rfl (pF rfl rfl)<|Eo<|Dd (by kernel_rfl) ?_
   obtain rfl := o1 hm
   exact jJ ⟨rfl, rfl, lr⟩
   exact Rn
   exact Rn
   rw [if_neg (fun hh => Bool.noConfusion (hh.symm.trans ae))] at hm
   refine Di mixed (.refl _)<|E0 0 rfl (stB (sM rfl) ae)<|E0 1 rfl (q0r rfl)<|E0 2 rfl (sM rfl)<|eN 3 rfl<|eN 4 rfl<|E0 5 rfl (pT rfl rfl)<|E0 6 rfl (sM rfl)<|eN 7 rfl<|eN 8 rfl ?_
   refine eN 9 rfl<|eN 10 rfl<|eN 11 rfl<|eN 12 rfl<|eN 13 rfl<|eN 14 rfl<|E0 15 rfl (pT rfl rfl)<|E0 16 rfl (sM rfl)<|eN 17 rfl<|eN 18 rfl ?_
   refine eN 19 rfl<|eN 20 rfl<|eN 21 rfl<|eN 22 rfl<|eN 23 rfl<|E0 24 rfl (pT rfl rfl)<|Eo<|Dd (by kernel_rfl) ?_
   obtain rfl := o1 hm
   exact jJ ⟨rfl, rfl, lr⟩
   rintro a3 _ _ ⟨rfl, rfl, c⟩
   have hm := b6
   refine cB hm rfl (fun hm => ?_) fun hm => ?_
   refine Ct<|Xr ?_
   obtain ⟨rfl, rfl⟩ := V9 hm
   have b7 := (aF.le (a.trans c))
   have b8 := (aG.le (a.trans c))
   exact rZ ⟨A8, c9, m, V, e, rfl, rfl, b7, W, b8⟩ (a.trans c)
   refine Ck<|Xn<|Cs ?_
   obtain ⟨bh, cW, hm⟩ := bS hm
   refine Di mixed (.refl _)<|Es 0 rfl (sL 0 rfl q5Y rfl rfl)<|E0 1 rfl (sN rfl)<|E0 2 rfl (sF rfl z0g)<|E0 3 rfl (sF rfl q0B)<|Es 4 rfl (sL 4 rfl q5f rfl rfl)<|E0 5 rfl (sF rfl q1Z)<|Es 6 rfl (sL 3 rfl Q8 rfl rfl) ?_
   obtain ⟨cX, b9, ca⟩ := iS cW
   obtain ⟨c2, cb, bE, bi, bG⟩ := FZ.get (sz := 7) rfl (by decide) (aA.le (a.trans c)) ca
   obtain ⟨_, _, rfl, rfl, ⟨_, _, rfl, rfl, ⟨_, _, rfl, rfl, ⟨_, _, rfl, rfl, ⟨_, _, rfl, rfl, ⟨_, _, rfl, rfl, rfl⟩⟩⟩⟩⟩⟩ := cb
   refine E0 7 rfl (sI cX rfl rfl b9 bG bi z1y)<|E0 8 rfl (sQ rfl bi q3w)<|Es 9 rfl (sO rfl Q8 (bE 0 _ rfl))<|E0 10 rfl (sA rfl)<|Eo<|Dd (by kernel_rfl)<|Xn ?_
   obtain ⟨cc, bH, ab⟩ := bS hm
   refine Cj (fun bj e' hp' => [(1, iv al), (4, pb n), (7, pb aa), (9, iv bh.Kind)] = e' ∧ (n, Cl 181 [.func (.func 103) #[] #[pb s, pb t, pb n]]) :: (aa, Cl 131 [iv u, iv Z]) :: (s, Cl 132 [pb x]) :: (t, Cl 3 [iv E]) :: (x, Cl 136 [sv G y H, sv I z J, sv K A L, sv O B S, sv T C U, iv ac, iv ad, sv X F Y, sv A3 D c4, sv A8 ah c9, .map (some V)]) :: (g ++ (m ++ (e ++ R))) = hp' ∧ a3.Le bj ∧ cc = .inl ()) ?_ ?_
   have hm := bH
   refine Cb ?_
   obtain ⟨cd, bI, bJ⟩ := bS hm
   refine Cj (fun aH e' hp' => [(1, iv al), (2, pb s), (3, pb t), (4, pb n), (7, pb aa), (9, iv bh.Kind), (57, bv cd)] = e' ∧ (s, Cl 132 [pb x]) :: (t, Cl 3 [iv E]) :: (n, Cl 181 [.func (.func 103) #[] #[pb s, pb t, pb n]]) :: (aa, Cl 131 [iv u, iv Z]) :: (x, Cl 136 [sv G y H, sv I z J, sv K A L, sv O B S, sv T C U, iv ac, iv ad, sv X F Y, sv A3 D c4, sv A8 ah c9, .map (some V)]) :: (g ++ (m ++ (e ++ R))) = hp' ∧ a3.Le aH) ?_ ?_
   have hm := bI
   refine Cg<|mV rfl ?_
   refine Tb rfl (q1 rfl rfl) (fun aI => ?_) (fun aI => ?_)
   rw [if_pos aI] at hm
   refine mV rfl<|yS<|tS (sF rfl q4N)<|yS<|tS (sL 3 rfl Q8 rfl rfl)<|yS<|tS (q5 rfl rfl)<|tS (pT rfl rfl)<|aS rfl<|Tn ?_
   obtain rfl := o1 hm
   exact jJ ⟨rfl, rfl, lr⟩
   rw [if_neg aI] at hm
   refine mV rfl<|nO<|nO<|nO<|tS (pF rfl rfl)<|aS rfl<|Tn ?_
   obtain rfl := o1 hm
   exact jJ ⟨rfl, rfl, lr⟩
   rintro aH _ _ ⟨rfl, rfl, d⟩
   have hm := bJ
   refine cB hm rfl (fun hm => ?_) fun hm => ?_
   obtain ⟨⟨aJ, ce⟩, bK, bL⟩ := bS hm
   refine Cj (fun aK e' hp' => ∃ aw aL am an, [] = e' ∧ (s, Cl 132 [pb x]) :: (t, Cl 3 [iv E]) :: (n, Cl 181 [.func (.func 103) #[] #[pb s, pb t, pb n]]) :: (x, Cl 136 [sv G y H, sv I z J, sv K A L, sv O B S, sv T C U, iv ac, iv ad, sv X F Y, sv A3 D c4, sv aw aJ aL, .map (some V)]) :: (g ++ (am ++ (an ++ R))) = hp' ∧ aH.Le aK ∧ OS 55 (OT.fr j7) aK.w (sv aw aJ aL) aJ am ∧ (aw = none ↔ aJ = []) ∧ OM j7 (OT.fr RT.bool) true false aK.w V ce an) ?_ ?_
   have hm := bK
   refine Cr<|tS (sL 0 rfl q5Y rfl rfl)<|tS (sF rfl q1Z)<|tS (sL 3 rfl Q8 rfl rfl)<|tS (sF rfl q4N)<|tS (sL 3 rfl Q8 rfl rfl) ?_
   obtain ⟨cf, bk, hm⟩ := bS hm
   refine J3 4 rfl<|q7r g m e<|q7r e g m<|q7r m e g<|z0q [_] [_, _, _, _] g m e R rfl<|Tg _ rfl j4h rfl (q9P _ _ u Z y z A B C ac ad F D ah aW x G H I J K L O S T U X Y A3 c4 g A8 c9 m V e (aB.le (a.trans (c.trans d))) (aA.le (a.trans (c.trans d))) (aC.le (a.trans (c.trans d))) (aD.le (a.trans (c.trans d))) (aE.le (a.trans (c.trans d))) (aU.le (a.trans (c.trans d))) (h5.le (a.trans (c.trans d))) (aF.le (a.trans (c.trans d))) W (aG.le (a.trans (c.trans d))) cf bk) ?_
   rintro _ c3 _ f ⟨rfl, rfl⟩
   refine z2P [_] [_, _, _, _] g m e R rfl<|tS (sn2 rfl)<|Te ?_
   refine cM hm rfl (fun hm => ?_) fun hm => ?_
   refine Cg<|tS (sL 1 rfl q5Y rfl rfl)<|tS (sF rfl q1Z)<|tS (sL 4 rfl Q8 rfl rfl)<|tS (sF rfl q4N)<|tS (sL 4 rfl Q8 rfl rfl) ?_
   obtain ⟨_, aX, hm⟩ := bS hm
   have aX := (kS aX).2
   refine tS (sb rfl rfl aX)<|tS (sL 2 rfl Q8 rfl rfl)<|tS (sB (v := .agg #[iv 3, iv u, iv (3 - Z), iv E]) [(0, iv 3), (1, iv u), (2, iv (3 - Z)), (3, iv E)] rfl (fun _ => by kernel_rfl)) ?_
   obtain ⟨⟨cg, ch⟩, bl, hm⟩ := bS hm
   have hm := (H0 hm)
   refine q7r g m e<|q7r e g m<|q7r m e g<|z0q [_] [_, _, _, _] g m e R rfl<|Tg _ rfl z4G rfl (q1N _ _ (⟨3, u, 3 - Z, E⟩ : q8) y z A B C ac ad F D ah aW x G H I J K L O S T U X Y A3 c4 g A8 c9 m V e (aB.le (a.trans (c.trans (d.trans f)))) (aA.le (a.trans (c.trans (d.trans f)))) (aC.le (a.trans (c.trans (d.trans f)))) (aD.le (a.trans (c.trans (d.trans f)))) (aE.le (a.trans (c.trans (d.trans f)))) (aU.le (a.trans (c.trans (d.trans f)))) (h5.le (a.trans (c.trans (d.trans f)))) (aF.le (a.trans (c.trans (d.trans f)))) W (aG.le (a.trans (c.trans (d.trans f)))) cg ch bl) ?_
   rintro _ c5 _ bm ⟨ci, cj, a5, a6, rfl, rfl, ck, cl, cm⟩
   refine z2P [_] [_, _, _, _] g a5 a6 R rfl<|Tn ?_
   obtain ⟨rfl, rfl⟩ := V9 hm
   exact jJ ⟨ci, cj, a5, a6, rfl, rfl, (f.trans bm), ck, cl, cm⟩
   refine Ck ?_
   obtain ⟨rfl, rfl⟩ := V9 hm
   exact jJ ⟨A8, c9, m, e, rfl, rfl, f, (aF.le (a.trans (c.trans (d.trans f)))), W, (aG.le (a.trans (c.trans (d.trans f))))⟩
   rintro aK _ _ ⟨aw, aL, am, an, rfl, rfl, bn, cn, bo, co⟩
   have hm := (H0 bL)
   refine Ct<|Xb<|Xr ?_
   have bM := (Kd hm).symm
   rw [bM] at ab
   have hm := V8 ab
   obtain ⟨rfl, rfl⟩ := V9 hm
   exact rZ ⟨aw, aL, am, V, an, rfl, rfl, cn, bo, co⟩ (a.trans (c.trans (d.trans bn)))
   refine Cr<|mV rfl<|tS (q1 rfl rfl)<|aS rfl<|Te ?_
   refine cI hm rfl (fun hm => ?_) fun hm => ?_
   refine Cs ?_
   obtain ⟨aM, bp, hm⟩ := bS hm
   refine Di mixed (.refl _)<|Es 0 rfl (sL 0 rfl q5Y rfl rfl)<|E0 1 rfl (sN rfl)<|E0 2 rfl (sF rfl z0g)<|Es 3 rfl (sD (vs := [_, _, _, _, _]) 4 5 rfl P0 rfl rfl rfl)<|Es 4 rfl (sD (vs := [_, _]) 3 2 rfl q2V rfl rfl rfl)<|Eo<|Da [5] (by kernel_rfl) rfl ?_
   refine Rd2 lr rfl rfl (uW _ z9Y rfl (fun w ho => z1o _ [] (⟨y, z, A, B, C⟩ : j3) (⟨u, Z⟩ : v7) G H I J K L O S T U ((aB.le (a.trans (c.trans d))).old ho) ((aA.le (a.trans (c.trans d))).old ho) ((aC.le (a.trans (c.trans d))).old ho) ((aD.le (a.trans (c.trans d))).old ho) ((aE.le (a.trans (c.trans d))).old ho) aM bp) (fun _ _ _ h => h.2.symm)) ?_ ?_
   rintro _ _ ⟨⟨_, rfl, _⟩, rfl⟩
   refine iR<|Ei lr (.refl _)<|E0 6 rfl (sA rfl)<|Eo<|Dd (by kernel_rfl)<|Xn<|Cr<|mV rfl<|tS (q6 rfl rfl)<|Te ?_
   refine cI hm rfl (fun hm => ?_) fun hm => ?_
   obtain ⟨⟨aN, cp⟩, bN, bO⟩ := bS hm
   refine Cj (fun aO e' hp' => ∃ ax aP ao aq, [] = e' ∧ (s, Cl 132 [pb x]) :: (t, Cl 3 [iv E]) :: (n, Cl 181 [.func (.func 103) #[] #[pb s, pb t, pb n]]) :: (x, Cl 136 [sv G y H, sv I z J, sv K A L, sv O B S, sv T C U, iv ac, iv ad, sv X F Y, sv A3 D c4, sv ax aN aP, .map (some V)]) :: (g ++ (ao ++ (aq ++ R))) = hp' ∧ aH.Le aO ∧ OS 55 (OT.fr j7) aO.w (sv ax aN aP) aN ao ∧ (ax = none ↔ aN = []) ∧ OM j7 (OT.fr RT.bool) true false aO.w V cp aq) ?_ ?_
   have hm := bN
   refine Cr<|mV rfl<|tS (sL 0 rfl q5Y rfl rfl)<|tS (sN rfl)<|tS (sF rfl z0f)<|tS (sF rfl q5L)<|tS (sL 4 rfl Q8 rfl rfl)<|tS (q2 rfl rfl)<|Te ?_
   refine cI hm rfl (fun hm => ?_) fun hm => ?_
   refine Cg<|tS (sL 0 rfl q5Y rfl rfl)<|mV rfl<|tS (sL 1 rfl Q8 rfl rfl)<|tS (sB (v := .agg #[iv 4, iv aM, iv 0, iv E]) [(0, iv 4), (1, iv aM), (3, iv E)] rfl (fun _ => by kernel_rfl)) ?_
   obtain ⟨⟨cq, cr⟩, bq, hm⟩ := bS hm
   have hm := (H0 hm)
   refine J3 4 rfl<|q7r g m e<|q7r e g m<|q7r m e g<|z0q [_] [_, _, _, _] g m e R rfl<|Tg _ rfl z4G rfl (q1N _ _ (⟨4, aM, 0, E⟩ : q8) y z A B C ac ad F D ah aW x G H I J K L O S T U X Y A3 c4 g A8 c9 m V e (aB.le (a.trans (c.trans d))) (aA.le (a.trans (c.trans d))) (aC.le (a.trans (c.trans d))) (aD.le (a.trans (c.trans d))) (aE.le (a.trans (c.trans d))) (aU.le (a.trans (c.trans d))) (h5.le (a.trans (c.trans d))) (aF.le (a.trans (c.trans d))) W (aG.le (a.trans (c.trans d))) cq cr bq) ?_
   rintro _ c6 _ br ⟨cs, ct, a7, a8, rfl, rfl, cu, cv, cw⟩
   refine z2P [_] [_, _, _, _] g a7 a8 R rfl<|Tn ?_
   obtain ⟨rfl, rfl⟩ := V9 hm
   exact jJ ⟨cs, ct, a7, a8, rfl, rfl, br, cu, cv, cw⟩
   refine Ck ?_
   obtain ⟨rfl, rfl⟩ := V9 hm
   exact jJ ⟨A8, c9, m, e, rfl, rfl, lr, (aF.le (a.trans (c.trans d))), W, (aG.le (a.trans (c.trans d)))⟩
   rintro aO _ _ ⟨ax, aP, ao, aq, rfl, rfl, bs, cx, bt, cy⟩
   have hm := (H0 bO)
   refine Ct<|Xb<|Xr ?_
   have bP := (Kd hm).symm
   rw [bP] at ab
   have hm := V8 ab
   obtain ⟨rfl, rfl⟩ := V9 hm
   exact rZ ⟨ax, aP, ao, V, aq, rfl, rfl, cx, bt, cy⟩ (a.trans (c.trans (d.trans bs)))
   refine Ck<|Xm ?_
   have hq := (Kd hm).symm
   exact jJ ⟨rfl, rfl, d, hq⟩
   exact Rn
   refine Ck<|Xm ?_
   have hq := (Kd hm).symm
   exact jJ ⟨rfl, rfl, d, hq⟩
   rintro bj _ _ ⟨rfl, rfl, j, bQ⟩
   rw [bQ] at ab
   have hm := G0 ab
   refine Cr<|mV rfl<|tS (sF rfl q4N)<|tS (sL 1 rfl Q8 rfl rfl) ?_
   obtain ⟨aQ, bu, hm⟩ := bS hm
   refine Tg _ rfl j4g rfl (z4Q _ _ bh.Kind Z aQ bu) ?_
   rintro _ cz _ k ⟨cA, cC, rfl, rfl, bw⟩
   refine tS (sE rfl q5y)<|mV rfl<|Te<|Cb ?_
   have cY : aQ.length ≤ 9223372036854775807 := (FZ.bd bw)
   refine Cp 4 rfl<|Cp 4 rfl<|Cp 4 rfl<|Cp 4 rfl<|Cp 4 rfl<|z7V g m e<|z7V e g m<|z7V m e g ?_
   obtain ⟨⟨af, aR⟩, bR, bT⟩ := bS hm
   refine lS (fun bx => q0q fun af aR => fun ay e' hp' => ∃ ag ai q aj r, [(1, iv al), (4, pb n), (7, pb aa), (107, sv cA aQ cC), (108, iv ((aQ.length : Int))), (109, iv ((bx : Int)))] = e' ∧ (n, Cl 181 [.func (.func 103) #[] #[pb s, pb t, pb n]]) :: (aa, Cl 131 [iv u, iv Z]) :: (s, Cl 132 [pb x]) :: (t, Cl 3 [iv E]) :: (x, Cl 136 [sv G y H, sv I z J, sv K A L, sv O B S, sv T C U, iv ac, iv ad, sv X F Y, sv A3 D c4, sv ag af ai, .map (some aj)]) :: (g ++ (q ++ (r ++ R))) = hp' ∧ cz.Le ay ∧ OS 55 (OT.fr j7) ay.w (sv ag af ai) af q ∧ (ag = none ↔ af = []) ∧ OM j7 (OT.fr RT.bool) true false ay.w aj aR r) bR ⟨A8, c9, m, V, e, rfl, rfl, lr, (aF.le (a.trans (c.trans (j.trans k)))), W, (aG.le (a.trans (c.trans (j.trans k))))⟩ ?_ ?_
   rintro bx ⟨af, aR⟩ ay _ _ cZ cR ⟨ag, ai, q, aj, r, rfl, rfl, i, aY, az, aZ⟩ ak
   unfold W0 at ak
   have hm := (H0 ak)
   refine Cr<|tS (lT rfl rfl (by omega))<|Te<|Cs<|k7 rfl<|Ck<|Xn<|Cs<|Cb<|Cr ?_
   obtain ⟨aT, cD, c0, bU, c1, bV, bz, bW, bA, hm⟩ := bF (sz := 1) hm (bw.le i)
   obtain rfl := bV
   refine tS (sI cD rfl rfl bU bA bW q5y)<|tS (sO rfl Q8 (bz 0 _ rfl))<|aS rfl<|Te<|Cg<|tS (sL 0 rfl j2l rfl rfl)<|tS (sF rfl q1Z)<|tS (sL 1 rfl Q8 rfl rfl)<|mV rfl<|tS (sB (v := .agg #[iv u, iv aT]) [(0, iv u), (1, iv aT)] rfl (fun _ => by kernel_rfl)) ?_
   refine mV rfl ?_
   obtain ⟨_, a0, hm⟩ := bS hm
   have a0 := (kS a0).2
   refine tS (sa rfl rfl a0) ?_
   obtain ⟨⟨cE, cG⟩, bB, hm⟩ := bS hm
   have hm := (H0 hm)
   refine J3 4 rfl<|J3 1 rfl<|J3 4 rfl<|J3 4 rfl<|q7r g q r<|q7r r g q<|q7r q r g<|z0q [_, _, _, _] [_] g q r R rfl<|Tv #[] #[pb s, pb t, pb n] [.agg #[iv u, iv aT], iv (al + 1)] rfl rfl z9X rfl (ih _ _ (⟨u, aT⟩ : v7) (al + 1) E y z A B C ac ad F D af aR s t n x G H I J K L O S T U X Y A3 c4 g ag ai q aj r (aB.le (a.trans (c.trans (j.trans (k.trans i))))) (aA.le (a.trans (c.trans (j.trans (k.trans i))))) (aC.le (a.trans (c.trans (j.trans (k.trans i))))) (aD.le (a.trans (c.trans (j.trans (k.trans i))))) (aE.le (a.trans (c.trans (j.trans (k.trans i))))) (aU.le (a.trans (c.trans (j.trans (k.trans i))))) (h5.le (a.trans (c.trans (j.trans (k.trans i))))) aY az aZ cE cG bB) ?_
   rintro _ c7 _ bC ⟨cH, cJ, a9, cK, ba, rfl, rfl, cO, cP, cQ⟩
   refine z2P [_, _, _, _] [_] g a9 ba R rfl<|Tn<|Xm<|Xn<|Cg<|tS (sa rfl rfl (by omega))<|mV rfl<|Tn ?_
   obtain rfl := o1 hm
   exact jS ⟨cH, cJ, a9, cK, ba, rfl, rfl, ((i.trans bC)), cO, cP, cQ⟩
   rintro ay _ _ ⟨ag, ai, q, aj, r, rfl, rfl, i, aY, az, aZ⟩
   have hm := (H0 bT)
   refine Cr<|tS (lF rfl rfl (by omega))<|Te<|Cs<|w9 rfl<|Ce<|Xe<|Xe<|Xo ?_
   obtain ⟨rfl, rfl⟩ := V9 hm
   exact eZ ⟨ag, ai, q, aj, r, rfl, rfl, aY, az, aZ⟩ (a.trans (c.trans (j.trans (k.trans i))))
theorem z1p (b : k9) (R : Hp) (ai D E F G H K L I B aj a0 z O S T U V W X Y Z aa ab ac A3 c4 i A8 c9 ad aA s) (bj : FZ RT.str b.w O S D) (a1 : FZ j4 b.w T U E) (bk : FZ Q0 b.w V W F) (bl : FZ j6 b.w X Y G) (bm : FZ Q1 b.w Z aa H) (a2 : FZ J1 b.w ab ac I) (h5 : OS 62 (OT.fr J1) b.w (sv A3 B c4) B i) (bn : OS 55 (OT.fr j7) b.w (sv A8 aj c9) aj ad) (aM : (A8 = none ↔ aj = [])) (bo : OM j7 (OT.fr RT.bool) true false b.w aA a0 s) (J aH) (hm : H4 ai D E F G H K L I B aj a0 = some (J, aH)):
 v8 Tryz.prog 64 [pb z, iv ai] b ((z, Cl 136 [sv O D S, sv T E U, sv V F W, sv X G Y, sv Z H aa, iv K, iv L, sv ab I ac, sv A3 B c4, sv A8 aj c9, .map (some aA)]) :: (i ++ (ad ++ (s ++ R)))) (fun v b' hp' => ∃ ak aI al aJ am, .tuple #[] = v ∧ (z, Cl 136 [sv O D S, sv T E U, sv V F W, sv X G Y, sv Z H aa, iv K, iv L, sv ab I ac, sv A3 B c4, sv ak J aI, .map (some aJ)]) :: (i ++ (al ++ (am ++ R))) = hp' ∧ OS 55 (OT.fr j7) b'.w (sv ak J aI) J al ∧ (ak = none ↔ J = []) ∧ OM j7 (OT.fr RT.bool) true false b'.w aJ aH am) := by
 refine fE 47 Tryz.func64 rfl Tryz.ntmps64 rfl ?_
 unfold H4 at hm
 refine Cr<|tD (uB _ rfl rfl) ?_
 rintro _ _ ⟨k, rfl, rfl⟩
 refine tD (uB _ rfl rfl) ?_
 rintro _ _ ⟨m, rfl, rfl⟩
 refine Te<|Cr<|tD (uA [.nilFunc] j2P rfl) ?_
 rintro _ _ ⟨g, rfl, rfl⟩
 refine Te<|Cr<|tS (q2m _ _ rfl rfl)<|tD (uS 0 rfl rfl j4I rfl rfl (by simp)) ?_
 rintro _ _ rfl
 refine Te ?_
 obtain ⟨⟨t, an, ao⟩, aN, aO⟩ := bS hm
 refine Cj (fun aq e' hp' => ∃ x, [(2, pb k), (4, pb g), (5, pb x)] = e' ∧ (k, Cl 132 [pb z]) :: (g, Cl 181 [.func (.func 103) #[] #[pb k, pb m, pb g]]) :: (x, Cl 62 [iv t, iv an, iv ao]) :: (z, Cl 136 [sv O D S, sv T E U, sv V F W, sv X G Y, sv Z H aa, iv K, iv L, sv ab I ac, sv A3 B c4, sv A8 aj c9, .map (some aA)]) :: (m, Cl 3 [iv ai]) :: (i ++ (ad ++ (s ++ R))) = hp' ∧ b.Le aq) ?_ ?_
 have hm := aN
 obtain ⟨ar, a3, hm⟩ := bS hm
 refine Di mixed (.refl _)<|Es 0 rfl (sL 2 rfl q5Y rfl rfl)<|E0 1 rfl (sN rfl)<|E0 2 rfl (sF rfl z0f)<|E0 3 rfl (sF rfl P6)<|Es 4 rfl (sL 3 rfl q3A rfl rfl)<|Es 5 rfl (sL 1 rfl Q8 rfl rfl) ?_
 obtain ⟨a4, aP, aQ⟩ := iS a3
 obtain ⟨bp, aR, aB, au, aC⟩ := FZ.get (sz := 3) rfl (by decide) a2 aQ
 obtain ⟨_, _, rfl, rfl, ⟨_, _, rfl, rfl, rfl⟩⟩ := aR
 refine E0 6 rfl (sI a4 rfl rfl aP aC au q6f)<|Es 7 rfl (sP (vs := [iv ar.Section, iv ar.In, iv ar.Out]) 3 rfl q6T au rfl (fun j u hu => aB j u hu))<|Eo<|Da [8] (by kernel_rfl) rfl<|Rd2 lr rfl rfl (uA [iv 0, iv 0, iv 0] q5T rfl) ?_ ?_
 rintro _ _ ⟨a5, rfl, rfl⟩
 refine iR<|Da [9] (by kernel_rfl) rfl<|Rd2 lr rfl rfl (uN (vs := [_, _, _]) 0 3 rfl rfl rfl q8T rfl (mc rfl (mc rfl (mc rfl mn))) rfl (by simp)) ?_ ?_
 rintro _ _ rfl
 refine ⟨.inl (by kernel_rfl), ?_⟩
 refine Dd (by kernel_rfl) ?_
 obtain ⟨rfl, rfl, rfl⟩ := q7e hm
 exact jJ ⟨a5, rfl, rfl, lr⟩
 exact Rn
 exact Rn
 rintro aq _ _ ⟨x, rfl, rfl, c⟩
 have hm := q6j aO
 refine Cs ?_
 obtain ⟨a6, a7, hm⟩ := bS hm
 obtain ⟨av, aD, hm⟩ := bS hm
 refine Di mixed (.refl _)<|Es 0 rfl (sL 0 rfl q5Y rfl rfl)<|E0 1 rfl (sN rfl)<|E0 2 rfl (sF rfl z0g)<|E0 3 rfl (sF rfl q0B)<|Es 4 rfl (sL 3 rfl q5f rfl rfl)<|E0 5 rfl (sF rfl K5)<|Es 6 rfl (sL 2 rfl Q8 rfl rfl) ?_
 obtain ⟨a8, aT, aU⟩ := iS a7
 obtain ⟨bq, aV, aE, aw, aF⟩ := FZ.get (sz := 7) rfl (by decide) (a1.le c) aU
 obtain ⟨_, _, rfl, rfl, ⟨_, _, rfl, rfl, ⟨_, _, rfl, rfl, ⟨_, _, rfl, rfl, ⟨_, _, rfl, rfl, ⟨_, _, rfl, rfl, rfl⟩⟩⟩⟩⟩⟩ := aV
 refine E0 7 rfl (sI a8 rfl rfl aT aF aw z1y)<|E0 8 rfl (sQ rfl aw q3w)<|Es 9 rfl (sO rfl Q8 (aE 0 _ rfl))<|E0 11 rfl (sM rfl)<|Eo<|Da [10] (by kernel_rfl) rfl<|Rd2 lr rfl rfl (uW _ z9N rfl (fun w ho => z1r _ [] a6.Kind av aD) (fun _ _ _ h => h.2.symm)) ?_ ?_
 rintro _ _ ⟨⟨_, rfl, _⟩, rfl⟩
 refine iR<|Dd (by kernel_rfl)<|Xn<|Cb ?_
 obtain ⟨_, aK, hm⟩ := bS hm
 have aK := (kS aK).2
 refine Cp 4 rfl<|Cp 1 rfl<|Cp 4 rfl<|Cp 4 rfl<|Cp 4 rfl<|z7V i ad s<|z7V s i ad<|z7V ad s i ?_
 obtain ⟨⟨n, af⟩, aW, aX⟩ := bS hm
 refine lS (fun o => q0q fun n af => fun A e' hp' => ∃ l p e q f, [(4, pb g), (5, pb x), (26, iv av), (27, iv ((o : Int)))] = e' ∧ (g, Cl 181 [.func (.func 103) #[] #[pb k, pb m, pb g]]) :: (x, Cl 62 [iv t, iv an, iv ao]) :: (z, Cl 136 [sv O D S, sv T E U, sv V F W, sv X G Y, sv Z H aa, iv K, iv L, sv ab I ac, sv A3 B c4, sv l n p, .map (some q)]) :: (k, Cl 132 [pb z]) :: (m, Cl 3 [iv ai]) :: (i ++ (e ++ (f ++ R))) = hp' ∧ aq.Le A ∧ OS 55 (OT.fr j7) A.w (sv l n p) n e ∧ (l = none ↔ n = []) ∧ OM j7 (OT.fr RT.bool) true false A.w q af f) aW ⟨A8, c9, ad, aA, s, rfl, rfl, lr, (bn.le c), aM, (bo.le c)⟩ ?_ ?_
 rintro o ⟨n, af⟩ A _ _ br a9 ⟨l, p, e, q, f, rfl, rfl, d, ag, r, ah⟩ y
 unfold V1 at y
 have hm := H0 y
 refine Cr<|tS (lT rfl rfl (by omega))<|Te<|Cs<|k7 rfl<|Ck<|Xn<|Cs<|Cb<|Cr<|mV rfl<|aS rfl<|Te ?_
 obtain ⟨ba, aY, aZ⟩ := bS hm
 refine Cj (fun aL e' hp' => [(4, pb g), (5, pb x), (6, iv ((o : Int))), (26, iv av), (27, iv ((o : Int))), (39, bv ba)] = e' ∧ (g, Cl 181 [.func (.func 103) #[] #[pb k, pb m, pb g]]) :: (x, Cl 62 [iv t, iv an, iv ao]) :: (z, Cl 136 [sv O D S, sv T E U, sv V F W, sv X G Y, sv Z H aa, iv K, iv L, sv ab I ac, sv A3 B c4, sv l n p, .map (some q)]) :: (k, Cl 132 [pb z]) :: (m, Cl 3 [iv ai]) :: (i ++ (e ++ (f ++ R))) = hp' ∧ A.Le aL) ?_ ?_
 have hm := aY
 refine Cg<|mV rfl<|tS (sF rfl z9E)<|tS (sL 1 rfl Q8 rfl rfl)<|Tb rfl (q2 rfl rfl) (fun ae => ?_) (fun ae => ?_)
 rw [if_pos ae] at hm
 refine mV rfl<|yS<|mV rfl<|yS<|tS (sF rfl z3p)<|yS<|tS (sL 1 rfl Q8 rfl rfl)<|yS<|tS (q2 rfl rfl)<|tS (pT rfl rfl)<|Tn ?_
 obtain rfl := o1 hm
 exact jJ ⟨rfl, rfl, lr⟩
 rw [if_neg ae] at hm
 refine mV rfl<|nO<|nO<|nO<|nO<|tS (pF rfl rfl)<|Tn ?_
 obtain rfl := o1 hm
 exact jJ ⟨rfl, rfl, lr⟩
 rintro aL _ _ ⟨rfl, rfl, a⟩
 have hm := aZ
 refine cB hm rfl (fun hm => ?_) fun hm => ?_
 refine Cg<|tS (sL 0 rfl j2l rfl rfl)<|tS (sF rfl K5)<|tS (sL 1 rfl Q8 rfl rfl)<|mV rfl<|tS (sB (v := .agg #[iv t, iv ((o : Int))]) [(0, iv t), (1, iv ((o : Int)))] rfl (fun _ => by kernel_rfl)) ?_
 obtain ⟨⟨bb, bc⟩, C, hm⟩ := bS hm
 obtain ⟨ax, C⟩ := q8g C
 have hm := H0 hm
 have zz := c.trans (d.trans a)
 refine J3 2 rfl<|J3 1 rfl<|J3 4 rfl<|J3 4 rfl<|q7r i e f<|q7r f i e<|q7r e f i<|z0q [_, _, _, _] [_] i e f R rfl<|Tv #[] #[pb k, pb m, pb g] [.agg #[iv t, iv ((o : Int))], iv 0] rfl rfl z9X rfl (q9r ax _ _ (⟨t, (o : Int)⟩ : v7) 0 ai D E F G H K L I B n af k m g z O S T U V W X Y Z aa ab ac A3 c4 i l p e q f (bj.le zz) (a1.le zz) (bk.le zz) (bl.le zz) (bm.le zz) (a2.le zz) (h5.le zz) (ag.le a) r (ah.le a) bb bc C) ?_
 rintro _ bs _ aG ⟨bd, be, ay, bf, az, rfl, rfl, bg, bh, bi⟩
 refine z2P [_, _, _, _] [_] i ay az R rfl<|Tn<|Xm<|Xn<|Cg<|tS (sa rfl rfl (by omega))<|mV rfl<|Tn ?_
 obtain rfl := o1 hm
 exact jS ⟨bd, be, ay, bf, az, rfl, rfl, ((d.trans (a.trans aG))), bg, bh, bi⟩
 refine Ck<|Xm<|Xn<|Cg<|tS (sa rfl rfl (by omega))<|mV rfl<|Tn ?_
 obtain rfl := o1 hm
 exact jS ⟨l, p, e, q, f, rfl, rfl, ((d.trans a)), (ag.le a), r, (ah.le a)⟩
 rintro A _ _ ⟨l, p, e, q, f, rfl, rfl, d, ag, r, ah⟩
 have hm := H0 aX
 refine Cr<|tS (lF rfl rfl (by omega))<|Te<|Cs<|w9 rfl<|Ce<|Xe<|Xe<|Xo ?_
 obtain ⟨rfl, rfl⟩ := V9 hm
 exact eZ ⟨l, p, e, q, f, rfl, rfl, ag, r, ah⟩ (c.trans d)
 exact Rn
theorem z2D (b : k9) (R : Hp) (g : j3) (f : z7) (A2 c3 A5 c6 A8 c9 r s t x y z) (h4 : FZ RT.str b.w A2 c3 g.Stations) (h7 : FZ j4 b.w A5 c6 g.Sections) (aq : FZ Q0 b.w A8 c9 g.Links) (ar : FZ j6 b.w r s g.Signals) (au : FZ Q1 b.w t x g.Gates) (al : FZ J1 b.w y z f.Steps) (av) (hm : Y0 g f = some av):
 v8 Tryz.prog 26 [.agg #[sv A2 g.Stations c3, sv A5 g.Sections c6, sv A8 g.Links c9, sv r g.Signals s, sv t g.Gates x], .agg #[iv f.From, iv f.To, sv y f.Steps z]] b (R) (fun v b' hp' => ∃ aF bf aG, sv aF av bf = v ∧ (aG ++ R) = hp' ∧ OS 55 (OT.fr j7) b'.w (sv aF av bf) av aG ∧ (aF = none ↔ av = [])) := by
 refine fE 74 Tryz.func26 rfl Tryz.ntmps26 rfl ?_
 unfold Y0 at hm
 refine Cr<|tD (uB _ rfl rfl) ?_
 rintro _ _ ⟨ac, rfl, rfl⟩
 refine tD (uB _ rfl rfl) ?_
 rintro _ _ ⟨I, rfl, rfl⟩
 refine aS rfl<|Te ?_
 obtain ⟨⟨A, bw⟩, bh, bi⟩ := bS hm
 refine Cj (fun aw e' hp' => ∃ B C D d F G, [(2, pb ac), (3, pb I), (5, pb B)] = e' ∧ (ac, Cl 28 [sv A2 g.Stations c3, sv A5 g.Sections c6, sv A8 g.Links c9, sv r g.Signals s, sv t g.Gates x]) :: (I, Cl 36 [iv f.From, iv f.To, sv y f.Steps z]) :: (B, Cl 136 [sv A2 g.Stations c3, sv A5 g.Sections c6, sv A8 g.Links c9, sv r g.Signals s, sv t g.Gates x, iv f.From, iv f.To, sv y f.Steps z, sv C A D, sn, .map (some F)]) :: (d ++ (G ++ R)) = hp' ∧ b.Le aw ∧ OS 62 (OT.fr J1) aw.w (sv C A D) A d ∧ OM j7 (OT.fr RT.bool) true false aw.w F bw G) ?_ ?_
 have hm := bh
 obtain ⟨ad, aA, hm⟩ := bS hm
 refine Di mixed (.refl _)<|Es 0 rfl (sD (vs := [_, _, _, _, _]) 1 5 rfl P0 rfl rfl rfl)<|Es 1 rfl (sD (vs := [_, _, _]) 0 3 rfl z3K rfl rfl rfl)<|Es 2 rfl (sD (vs := [_, _, _, _, _]) 1 5 rfl P0 rfl rfl rfl)<|Es 3 rfl (sD (vs := [_, _, _]) 0 3 rfl z3K rfl rfl rfl)<|Eo<|Da [4, 5] (by kernel_rfl) rfl<|Rg lr rfl rfl _ z9Q rfl (q6Q _ _ g f A2 c3 A5 c6 A8 c9 r s t x y z h4 h7 aq ar au al ad aA) ?_ ?_
 rintro _ bx _ o ⟨K, L, E, rfl, rfl, aH⟩
 refine iR<|q7h [] [_, _] E R rfl<|Da [5] (by kernel_rfl) rfl<|Rd2 o rfl rfl (q4E j7 (OT.fr RT.bool) true false [_, _] (E ++ R) rfl) ?_ ?_
 rintro _ _ ⟨O, H, rfl, rfl, aI⟩
 refine iR<|Da [6] (by kernel_rfl) rfl ?_
 refine Rd2 o rfl rfl (Z0.does (sB (v := .agg #[sv A2 g.Stations c3, sv A5 g.Sections c6, sv A8 g.Links c9, sv r g.Signals s, sv t g.Gates x, iv f.From, iv f.To, sv y f.Steps z, sv K ad L, sn, .map (some O)]) [(0, .agg #[sv A2 g.Stations c3, sv A5 g.Sections c6, sv A8 g.Links c9, sv r g.Signals s, sv t g.Gates x]), (1, .agg #[iv f.From, iv f.To, sv y f.Steps z]), (2, sv K ad L), (4, .map (some O))] rfl (fun _ => by kernel_rfl))) ?_ ?_
 rintro _ _ ⟨rfl, rfl⟩
 refine iR<|Da [7] (by kernel_rfl) rfl<|Rd2 o rfl rfl (uB _ rfl rfl) ?_ ?_
 rintro _ _ ⟨aJ, rfl, rfl⟩
 refine iR<|Ei o (.cons _ (.cons_cons _ (.cons_cons _ (ss H (ss E (.refl _))))))<|E0 8 rfl (sA rfl)<|Eo<|Dd (by kernel_rfl) ?_
 obtain ⟨rfl, rfl⟩ := V9 hm
 exact jJ ⟨aJ, K, L, E, O, H, rfl, rfl, o, aH, aI⟩
 exact Rn
 exact Rn
 exact Rn
 refine Rd2 lr rfl rfl (q4E j7 (OT.fr RT.bool) true false [_, _] R rfl) ?_ ?_
 rintro _ _ ⟨O, H, rfl, rfl, aI⟩
 refine iR<|Da [4] (by kernel_rfl) rfl<|Rg lr rfl rfl _ z9Q rfl (q6Q _ _ g f A2 c3 A5 c6 A8 c9 r s t x y z h4 h7 aq ar au al ad aA) ?_ ?_
 rintro _ bx _ o ⟨K, L, E, rfl, rfl, aH⟩
 refine iR<|q7h [] [_, _] E (H ++ R) rfl<|Da [6] (by kernel_rfl) rfl ?_
 refine Rd2 o rfl rfl (Z0.does (sB (v := .agg #[sv A2 g.Stations c3, sv A5 g.Sections c6, sv A8 g.Links c9, sv r g.Signals s, sv t g.Gates x, iv f.From, iv f.To, sv y f.Steps z, sv K ad L, sn, .map (some O)]) [(0, .agg #[sv A2 g.Stations c3, sv A5 g.Sections c6, sv A8 g.Links c9, sv r g.Signals s, sv t g.Gates x]), (1, .agg #[iv f.From, iv f.To, sv y f.Steps z]), (2, sv K ad L), (4, .map (some O))] rfl (fun _ => by kernel_rfl))) ?_ ?_
 rintro _ _ ⟨rfl, rfl⟩
 refine iR<|Da [7] (by kernel_rfl) rfl<|Rd2 o rfl rfl (uB _ rfl rfl) ?_ ?_
 rintro _ _ ⟨aJ, rfl, rfl⟩
 refine iR<|Ei o (.cons _ (.cons_cons _ (.cons_cons _ (ss E (ss H (.refl _))))))<|E0 8 rfl (sA rfl)<|Eo<|Dd (by kernel_rfl) ?_
 obtain ⟨rfl, rfl⟩ := V9 hm
 exact jJ ⟨aJ, K, L, E, O, H, rfl, rfl, o, aH, (aI.le o)⟩
 exact Rn
 exact Rn
 exact Rn
 exact Rn
 rintro aw _ _ ⟨B, C, D, d, F, G, rfl, rfl, c, ae, bz⟩
 have hm := H0 bi
 refine Cs<|Cr<|tS (sF rfl P6)<|tS (sL 1 rfl q3A rfl rfl)<|tS (sE rfl q6f)<|mV rfl<|Te<|Cb ?_
 have cb : f.Steps.length ≤ 9223372036854775807 := (FZ.bd (al.le c))
 refine Cp 2 rfl<|Cp 2 rfl<|Cp 2 rfl<|j5l d G<|j5l G d ?_
 obtain ⟨⟨S, aB⟩, bj, bk⟩ := bS hm
 refine lS (fun ax => q0q fun S aB => fun af e' hp' => ∃ T ag k l, [(2, pb ac), (3, pb I), (5, pb B), (20, sv y f.Steps z), (21, iv ((f.Steps.length : Int))), (22, iv ((ax : Int)))] = e' ∧ (ac, Cl 28 [sv A2 g.Stations c3, sv A5 g.Sections c6, sv A8 g.Links c9, sv r g.Signals s, sv t g.Gates x]) :: (I, Cl 36 [iv f.From, iv f.To, sv y f.Steps z]) :: (B, Cl 136 [sv A2 g.Stations c3, sv A5 g.Sections c6, sv A8 g.Links c9, sv r g.Signals s, sv t g.Gates x, iv f.From, iv f.To, sv y f.Steps z, sv C A D, sv T S ag, .map (some F)]) :: (d ++ (k ++ (l ++ R))) = hp' ∧ aw.Le af ∧ OS 55 (OT.fr j7) af.w (sv T S ag) S k ∧ (T = none ↔ S = []) ∧ OM j7 (OT.fr RT.bool) true false af.w F aB l) bj ⟨none, 0, [], G, rfl, rfl, lr, OS.nil, ⟨fun _ => rfl, fun _ => rfl⟩, bz⟩ ?_ ?_
 rintro ax ⟨S, aB⟩ af _ _ cc bA ⟨T, ag, k, l, rfl, rfl, a, aK, am, aL⟩ U
 unfold F5 at U
 have hm := H0 U
 refine Cr<|tS (lT rfl rfl (by omega))<|Te<|Cs<|k7 rfl<|Ck<|Xn<|Cs<|Cb<|Cr<|mV rfl ?_
 have zz := c.trans a
 obtain ⟨V, bB, cd, bl, ce, bm, a1, aM, a2, hm⟩ := bF (sz := 3) hm (al.le zz)
 obtain ⟨_, _, rfl, rfl, ⟨_, _, rfl, rfl, rfl⟩⟩ := bm
 refine tS (sI bB rfl rfl bl a2 aM q6f)<|tS (sP (vs := [iv V.Section, iv V.In, iv V.Out]) 3 rfl q6T aM rfl (fun j u hu => a1 j u hu))<|tD (uA [iv 0, iv 0, iv 0] q5T rfl) ?_
 rintro _ _ ⟨cn, rfl, rfl⟩
 refine aS rfl<|tD (uN (vs := [_, _, _]) 0 3 rfl rfl rfl q8T rfl (mc rfl (mc rfl (mc rfl mn))) rfl (by simp)) ?_
 rintro _ _ rfl
 refine Te ?_
 obtain ⟨aC, a3, hm⟩ := bS hm
 obtain ⟨⟨bC, bD⟩, a4, hm⟩ := bS hm
 have hm := H0 hm
 refine Di mixed (.cons_cons _ (.cons_cons _ (.cons_cons _ (.cons _ (ss d (ss k (ss l (.refl _))))))))<|E0 0 rfl (sM rfl)<|E0 1 rfl (sF rfl K5)<|Es 2 rfl (sL 0 rfl Q8 rfl rfl)<|Es 3 rfl (sD (vs := [_, _, _, _, _]) 1 5 rfl P0 rfl rfl rfl)<|Es 4 rfl (sD (vs := [_, _, _]) 0 3 rfl q6T rfl rfl rfl)<|E0 6 rfl (sM rfl)<|Eo<|Da [5] (by kernel_rfl) rfl ?_
 refine Rd2 lr rfl rfl (uW _ j2w rfl (fun w ho => q8H _ [] g V A2 c3 A5 c6 A8 c9 r s t x ((h4.le zz).old ho) ((h7.le zz).old ho) ((aq.le zz).old ho) ((ar.le zz).old ho) ((au.le zz).old ho) aC a3) (fun _ _ _ h => h.2.symm)) ?_ ?_
 rintro _ _ ⟨⟨_, rfl, _⟩, rfl⟩
 refine iR<|Ei lr (.cons_cons _ (.cons_cons _ (.cons_cons _ (.cons _ (ss d (ss k (ss l (.refl _))))))))<|E0 7 rfl (sB (v := .agg #[iv 1, iv V.Section, iv aC, iv ((ax : Int))]) [(0, iv 1), (1, iv V.Section), (2, iv aC), (3, iv ((ax : Int)))] rfl (fun _ => by kernel_rfl))<|Eo<|q1a 3 rfl<|z7S d k l<|z7S l d k<|z7S k l d<|j2r [_] [_, _, _] d k l R rfl<|Da [8] (by kernel_rfl) rfl ?_
 refine Rg lr rfl rfl _ z4G rfl (q1N _ _ (⟨1, V.Section, aC, (ax : Int)⟩ : q8) g.Stations g.Sections g.Links g.Signals g.Gates f.From f.To f.Steps A S aB B A2 c3 A5 c6 A8 c9 r s t x y z C D d T ag k F l (h4.le zz) (h7.le zz) (aq.le zz) (ar.le zz) (au.le zz) (al.le zz) (ae.le a) aK am aL bC bD a4) ?_ ?_
 rintro _ co _ a5 ⟨bE, bG, aN, aO, rfl, rfl, bH, bI, bJ⟩
 refine iR<|j5k [_] [_, _, _] d aN aO R rfl<|Dd (by kernel_rfl)<|Xm<|Xn<|Cg<|tS (sa rfl rfl (by omega))<|mV rfl<|Tn ?_
 obtain rfl := o1 hm
 exact jS ⟨bE, bG, aN, aO, rfl, rfl, ((a.trans a5)), bH, bI, bJ⟩
 exact Rn
 exact Rn
 rintro af _ _ ⟨T, ag, k, l, rfl, rfl, a, aK, am, aL⟩
 have hm := H0 bk
 refine Cr<|tS (lF rfl rfl (by omega))<|Te<|Cs<|w9 rfl<|Ce<|Xe<|Xe<|Xo<|Xn<|Cs<|Cr<|mV rfl<|tS (sN rfl)<|tS (sF rfl z6N)<|tS (sL 2 rfl q3A rfl rfl)<|tS (sE rfl q6f)<|mV rfl<|Te<|Cb ?_
 have cf : A.length ≤ 9223372036854775807 := (OS.len ae)
 refine Cp 2 rfl<|Cp 2 rfl<|Cp 2 rfl<|z3z d k l<|z3z l d k<|z3z k l d ?_
 obtain ⟨⟨W, aD⟩, bn, bo⟩ := bS hm
 refine lS (fun bg => q0q fun W aD => fun ah e' hp' => ∃ X ai m n, [(2, pb ac), (3, pb I), (5, pb B), (40, sv C A D), (41, iv ((A.length : Int))), (42, iv ((bg : Int)))] = e' ∧ (ac, Cl 28 [sv A2 g.Stations c3, sv A5 g.Sections c6, sv A8 g.Links c9, sv r g.Signals s, sv t g.Gates x]) :: (I, Cl 36 [iv f.From, iv f.To, sv y f.Steps z]) :: (B, Cl 136 [sv A2 g.Stations c3, sv A5 g.Sections c6, sv A8 g.Links c9, sv r g.Signals s, sv t g.Gates x, iv f.From, iv f.To, sv y f.Steps z, sv C A D, sv X W ai, .map (some F)]) :: (d ++ (m ++ (n ++ R))) = hp' ∧ af.Le ah ∧ OS 55 (OT.fr j7) ah.w (sv X W ai) W m ∧ (X = none ↔ W = []) ∧ OM j7 (OT.fr RT.bool) true false ah.w F aD n) bn ⟨T, ag, k, l, rfl, rfl, lr, aK, am, aL⟩ ?_ ?_
 rintro bg ⟨W, aD⟩ ah _ _ cg bK ⟨X, ai, m, n, rfl, rfl, e, aP, an, aQ⟩ Y
 unfold F4 at Y
 have hm := H0 Y
 refine Cr<|tS (lT rfl rfl (by omega))<|Te<|Cs<|k7 rfl<|Ck<|Xn<|Cs<|Cb<|Cr ?_
 obtain ⟨Z, bL, hm⟩ := bS hm
 obtain ⟨bM, bp, bq⟩ := iS bL
 have zy := a.trans e
 obtain ⟨ch, ci, cp, cq, cj, br, a6, aR, a7, ck, ca⟩ := OS.get (sz := 3) rfl (by decide) (ae.le zy) bq
 obtain ⟨⟨_, _, rfl, rfl, ⟨_, _, rfl, rfl, rfl⟩⟩, rfl⟩ := br
 refine tS (sI bM rfl rfl bp a7 aR q6f)<|tS (J6 (vs := [iv Z.Section, iv Z.In, iv Z.Out]) 3 rfl q6T aR rfl (fun w ho j u hu => a6 w _ ho (.cons _ (.cons _ (.cons _ (Kb _ _)))) j u hu))<|tD (uA [iv 0, iv 0, iv 0] q5T rfl) ?_
 rintro _ _ ⟨cr, rfl, rfl⟩
 refine tD (uN (vs := [_, _, _]) 0 3 rfl rfl rfl q8T rfl (mc rfl (mc rfl (mc rfl mn))) rfl (by simp)) ?_
 rintro _ _ rfl
 refine Te ?_
 obtain ⟨aE, a8, hm⟩ := bS hm
 obtain ⟨⟨bN, bO⟩, a9, hm⟩ := bS hm
 have hm := H0 hm
 refine Di mixed (.cons_cons _ (.cons_cons _ (.cons_cons _ (.cons _ (ss d (ss m (ss n (.refl _))))))))<|E0 0 rfl (sM rfl)<|E0 1 rfl (sF rfl K5)<|Es 2 rfl (sL 0 rfl Q8 rfl rfl)<|Es 3 rfl (sD (vs := [_, _, _, _, _]) 1 5 rfl P0 rfl rfl rfl)<|Es 4 rfl (sD (vs := [_, _, _]) 0 3 rfl q6T rfl rfl rfl)<|Eo<|Da [5] (by kernel_rfl) rfl ?_
 have zx := c.trans zy
 refine Rd2 lr rfl rfl (uW _ j2w rfl (fun w ho => q8H _ [] g Z A2 c3 A5 c6 A8 c9 r s t x ((h4.le zx).old ho) ((h7.le zx).old ho) ((aq.le zx).old ho) ((ar.le zx).old ho) ((au.le zx).old ho) aE a8) (fun _ _ _ h => h.2.symm)) ?_ ?_
 rintro _ _ ⟨⟨_, rfl, _⟩, rfl⟩
 refine iR<|Ei lr (.cons_cons _ (.cons_cons _ (.cons_cons _ (.cons _ (ss d (ss m (ss n (.refl _))))))))<|E0 6 rfl (sB (v := .agg #[iv 2, iv Z.Section, iv aE, iv ((-1))]) [(0, iv 2), (1, iv Z.Section), (2, iv aE), (3, iv ((-1)))] rfl (fun _ => by kernel_rfl))<|Eo<|q1a 3 rfl<|z7S d m n<|z7S n d m<|z7S m n d<|j2r [_] [_, _, _] d m n R rfl<|Da [7] (by kernel_rfl) rfl ?_
 refine Rg lr rfl rfl _ z4G rfl (q1N _ _ (⟨2, Z.Section, aE, (-1)⟩ : q8) g.Stations g.Sections g.Links g.Signals g.Gates f.From f.To f.Steps A W aD B A2 c3 A5 c6 A8 c9 r s t x y z C D d X ai m F n (h4.le zx) (h7.le zx) (aq.le zx) (ar.le zx) (au.le zx) (al.le zx) (ae.le zy) aP an aQ bN bO a9) ?_ ?_
 rintro _ cs _ ba ⟨bP, bQ, aT, aU, rfl, rfl, bR, bT, bU⟩
 refine iR<|j5k [_] [_, _, _] d aT aU R rfl<|Dd (by kernel_rfl)<|Xm<|Xn<|Cg<|tS (sa rfl rfl (by omega))<|mV rfl<|Tn ?_
 obtain rfl := o1 hm
 exact jS ⟨bP, bQ, aT, aU, rfl, rfl, ((e.trans ba)), bR, bT, bU⟩
 exact Rn
 exact Rn
 rintro ah _ _ ⟨X, ai, m, n, rfl, rfl, e, aP, an, aQ⟩
 have hm := H0 bo
 refine Cr<|tS (lF rfl rfl (by omega))<|Te<|Cs<|w9 rfl<|Ce<|Xe<|Xe<|Xo<|Xn<|Cs<|Cr<|tS (sF rfl P6)<|tS (sL 1 rfl q3A rfl rfl)<|tS (sE rfl q6f)<|mV rfl<|Te<|Cb ?_
 have cl : f.Steps.length ≤ 9223372036854775807 := (FZ.bd (al.le (c.trans (a.trans e))))
 refine Cp 2 rfl<|Cp 2 rfl<|z3z d m n<|z3z n d m<|z3z m n d ?_
 obtain ⟨⟨J, ay⟩, bs, bt⟩ := bS hm
 refine lS (fun aV => q0q fun J ay => fun az e' hp' => ∃ aa aj p ak q, [(3, pb I), (5, pb B), (57, iv ((f.Steps.length : Int))), (58, iv ((aV : Int)))] = e' ∧ (I, Cl 36 [iv f.From, iv f.To, sv y f.Steps z]) :: (B, Cl 136 [sv A2 g.Stations c3, sv A5 g.Sections c6, sv A8 g.Links c9, sv r g.Signals s, sv t g.Gates x, iv f.From, iv f.To, sv y f.Steps z, sv C A D, sv aa J aj, .map (some ak)]) :: (d ++ (p ++ (q ++ R))) = hp' ∧ ah.Le az ∧ OS 55 (OT.fr j7) az.w (sv aa J aj) J p ∧ (aa = none ↔ J = []) ∧ OM j7 (OT.fr RT.bool) true false az.w ak ay q) bs ⟨X, ai, m, F, n, rfl, rfl, lr, aP, an, aQ⟩ ?_ ?_
 rintro aV ⟨J, ay⟩ az _ _ cm bV ⟨aa, aj, p, ak, q, rfl, rfl, i, aW, ao, aX⟩ ab
 unfold F3 at ab
 have hm := H0 ab
 refine Cr<|tS (lT rfl rfl (by omega))<|Te<|Cs<|k7 rfl<|Ck<|Xn<|Cs<|Cb<|Cr<|mV rfl<|aS rfl<|Te<|Cg<|mV rfl<|mV rfl ?_
 obtain ⟨⟨bW, bX⟩, bb, hm⟩ := bS hm
 have hm := H0 hm
 have zw := c.trans (a.trans (e.trans i))
 refine J3 1 rfl<|z2N d p q<|z2N q d p<|z2N p q d<|z0q [_] [_] d p q R rfl<|Tg _ rfl j5C rfl (z1p _ _ (aV : Int) g.Stations g.Sections g.Links g.Signals g.Gates f.From f.To f.Steps A J ay B A2 c3 A5 c6 A8 c9 r s t x y z C D d aa aj p ak q (h4.le zw) (h7.le zw) (aq.le zw) (ar.le zw) (au.le zw) (al.le zw) (ae.le (a.trans (e.trans i))) aW ao aX bW bX bb) ?_
 rintro _ ct _ bc ⟨bY, bZ, aY, b0, aZ, rfl, rfl, b1, b2, b3⟩
 refine z2P [_] [_] d aY aZ R rfl<|Tn<|Xm<|Xn<|Cg<|tS (sa rfl rfl (by omega))<|mV rfl<|Tn ?_
 obtain rfl := o1 hm
 exact jS ⟨bY, bZ, aY, b0, aZ, rfl, rfl, ((i.trans bc)), b1, b2, b3⟩
 rintro az _ _ ⟨aa, aj, p, ak, q, rfl, rfl, i, aW, ao, aX⟩
 have hm := H0 bt
 refine Cr<|tS (lF rfl rfl (by omega))<|Te<|Cs<|w9 rfl<|Ce<|Xe<|Xe<|Xo<|Xn ?_
 refine Cr<|mV rfl<|tS (sF rfl q5L)<|tS (sL 0 rfl Q8 rfl rfl)<|tS (sB (v := .agg #[iv 5, iv f.From, iv 0, iv ((-1))]) [(0, iv 5), (1, iv f.From), (3, iv ((-1)))] rfl (fun _ => by kernel_rfl)) ?_
 obtain ⟨⟨b4, b5⟩, bd, hm⟩ := bS hm
 have hm := H0 hm
 have zv := c.trans (a.trans (e.trans i))
 refine J3 1 rfl<|z2N d p q<|z2N q d p<|z2N p q d<|z0q [_] [_] d p q R rfl<|Tg _ rfl z4G rfl (q1N _ _ (⟨5, f.From, 0, (-1)⟩ : q8) g.Stations g.Sections g.Links g.Signals g.Gates f.From f.To f.Steps A J ay B A2 c3 A5 c6 A8 c9 r s t x y z C D d aa aj p ak q (h4.le zv) (h7.le zv) (aq.le zv) (ar.le zv) (au.le zv) (al.le zv) (ae.le (a.trans (e.trans i))) aW ao aX b4 b5 bd) ?_
 rintro _ cu _ be ⟨b6, b7, a0, bu, rfl, rfl, b8, b9, cv⟩
 refine z2P [_] [_] d a0 bu R rfl<|Te<|Cr<|mV rfl<|tS (sN rfl)<|tS (sF rfl z0e)<|tS (sL 0 rfl z4e rfl rfl)<|aS rfl<|Te<|Ct ?_
 obtain rfl := o1 hm
 exact rO ⟨b6, b7, a0, rfl, rfl, b8, b9⟩ (c.trans (a.trans (e.trans (i.trans be))))
theorem j0h (b : k9) (R : Hp) (f : j3) (C m A2 c3 A5 c6 A8 c9 n o p q x y) (h4 : FZ RT.str b.w A2 c3 f.Stations) (h7 : FZ j4 b.w A5 c6 f.Sections) (aK : FZ Q0 b.w A8 c9 f.Links) (aL : FZ j6 b.w n o f.Signals) (aM : FZ Q1 b.w p q f.Gates) (ay : FZ Z3 b.w x y m) (D E F G H aa I z) (hm : q6u f C m = some (D, E, F, G, H, aa, I, z)):
 v8 Tryz.prog 42 [.agg #[sv A2 f.Stations c3, sv A5 f.Sections c6, sv A8 f.Links c9, sv n f.Signals o, sv p f.Gates q], iv C, sv x m y] b (R) (fun v b' hp' => ∃ ab ac ad ae af ag ah ai aj ak al am an ao aq J, pb ab = v ∧ (ab, Cl 154 [sv ac D ad, sv ae E af, sv ag F ah, sv ai G aj, sv ak H al, iv aa, sv am I an, sv ao z aq]) :: (J ++ R) = hp' ∧ FZ RT.str b'.w ac ad D ∧ FZ j4 b'.w ae af E ∧ FZ Q0 b'.w ag ah F ∧ FZ j6 b'.w ai aj G ∧ FZ Q1 b'.w ak al H ∧ FZ Z3 b'.w am an I ∧ OS 46 (OT.fr (RT.list j7)) b'.w (sv ao z aq) z J) := by
 refine fE 35 Tryz.func42 rfl Tryz.ntmps42 rfl ?_
 unfold q6u at hm
 refine Cr<|tD (uB _ rfl rfl) ?_
 rintro _ _ ⟨ar, rfl, rfl⟩
 refine aS rfl<|Te<|Cr<|tS (sD (vs := [_, _, _, _, _]) 0 5 rfl P0 rfl rfl rfl)<|mV rfl<|mV rfl<|tS (sB (v := .agg #[sv A2 f.Stations c3, sv A5 f.Sections c6, sv A8 f.Links c9, sv n f.Signals o, sv p f.Gates q, iv C, sv x m y, sn]) [(0, .agg #[sv A2 f.Stations c3, sv A5 f.Sections c6, sv A8 f.Links c9, sv n f.Signals o, sv p f.Gates q]), (1, iv C), (2, sv x m y)] rfl (fun _ => by kernel_rfl))<|tD (uB _ rfl rfl) ?_
 rintro _ _ ⟨K, rfl, rfl⟩
 refine aS rfl<|Te<|Cs<|Cr<|mV rfl<|tS (sE rfl z5c)<|mV rfl<|Te<|Cb ?_
 have aV : m.length ≤ 9223372036854775807 := (FZ.bd ay)
 refine Cp 1 rfl ?_
 obtain ⟨h, az, aA⟩ := bS hm
 refine lS (fun au => fun h => fun A e' hp' => ∃ s t c, [(3, pb ar), (7, pb K), (15, sv x m y), (16, iv ((m.length : Int))), (17, iv ((au : Int)))] = e' ∧ (ar, Cl 28 [sv A2 f.Stations c3, sv A5 f.Sections c6, sv A8 f.Links c9, sv n f.Signals o, sv p f.Gates q]) :: (K, Cl 154 [sv A2 f.Stations c3, sv A5 f.Sections c6, sv A8 f.Links c9, sv n f.Signals o, sv p f.Gates q, iv C, sv x m y, sv s h t]) :: (c ++ R) = hp' ∧ b.Le A ∧ OS 46 (OT.fr (RT.list j7)) A.w (sv s h t) h c) az ⟨none, 0, [], rfl, rfl, lr, OS.nil⟩ ?_ ?_
 rintro au h A _ _ aW aN ⟨s, t, c, rfl, rfl, a, L⟩ g
 unfold q3t at g
 have hm := g
 refine Cr<|tS (lT rfl rfl (by omega))<|Te<|Cs<|k7 rfl<|Ck<|Xn<|Cs<|Cb<|Cr ?_
 obtain ⟨B, aO, aX, aB, aY, aC, X, O, Y, hm⟩ := bF (sz := 3) hm (ay.le a)
 obtain ⟨_, _, rfl, rfl, ⟨_, _, rfl, rfl, ⟨av, aw, rfl, aP⟩⟩⟩ := aC
 refine tS (sI aO rfl rfl aB Y O z5c)<|tS (sP (vs := [iv B.From, iv B.To, sv av B.Steps aw]) 3 rfl z3K O rfl (fun j u hu => X j u hu))<|tD (uA [iv 0, iv 0, sn] z8j rfl) ?_
 rintro _ _ ⟨aZ, rfl, rfl⟩
 refine tD (uN (vs := [_, _, _]) 0 3 rfl rfl rfl j3n rfl (mc rfl (mc rfl (mc rfl mn))) rfl (by simp)) ?_
 rintro _ _ rfl
 refine Te ?_
 obtain ⟨k, Z, hm⟩ := bS hm
 obtain ⟨_, S, hm⟩ := bS hm
 refine Di mixed (.cons_cons _ (.cons_cons _ (.cons_cons _ (ss c (.refl _)))))<|E0 0 rfl (sM rfl)<|E0 1 rfl (sM rfl)<|E0 2 rfl (sN rfl)<|E0 3 rfl (sF rfl z0d)<|Es 4 rfl (sL 2 rfl z8W rfl rfl)<|Es 5 rfl (sD (vs := [_, _, _, _, _]) 1 5 rfl P0 rfl rfl rfl)<|Es 6 rfl (sD (vs := [_, _, _]) 0 3 rfl z3K rfl rfl rfl)<|Eo<|Da [7] (by kernel_rfl) rfl ?_
 refine Rg lr rfl rfl _ z7d rfl (z2D _ _ f B A2 c3 A5 c6 A8 c9 n o p q av aw (h4.le a) (h7.le a) (aK.le a) (aL.le a) (aM.le a) aP k Z) ?_ ?_
 rintro _ a0 _ d ⟨T, U, V, rfl, rfl, aQ, a1⟩
 refine iR<|q7h [] [_, _, _] V (c ++ R) rfl<|Da [8] (by kernel_rfl) rfl ?_
 refine Rd2 d rfl rfl (V3 (el := 46) [(0, sv T k U)] [sv T k U] rfl (fun _ => by kernel_rfl)) ?_ ?_
 rintro _ _ ⟨a2, rfl, rfl⟩
 refine iR<|j7e [_, _, _, _] V (c ++ R) rfl ?_
 intro a3 e aD
 have aR := OS.frz (l := k) aQ e.cells aD
 have S := W9 S
 refine Da [9] (by kernel_rfl) rfl ?_
 have zz := d.trans e
 refine Rd2 zz rfl rfl (uQ (r := (RT.list j7)) (l := h) [_, _, _, _] R [[sv T k U]] [k] rfl (by decide) j4G j4Z rfl rfl rfl rfl (L.le zz) rfl (fun w ho => Rd.own (i := 0) ho rfl) ⟨(RT.list_mk aR), trivial⟩ S) ?_ ?_
 rintro _ _ ⟨W, rfl, ax⟩
 obtain ⟨aT, aU, rfl, _⟩ := ax.form
 refine iR<|Ei zz (.cons _ (.cons_cons _ (.cons_cons _ (.cons_cons _ (ss W (.refl _))))))<|E0 10 rfl (sN rfl)<|E0 11 rfl (sF rfl z0d)<|Eo<|Da [12] (by kernel_rfl) rfl<|Rd2 zz rfl rfl (uS 3 rfl rfl j4H rfl rfl (by simp)) ?_ ?_
 rintro _ _ rfl
 refine ⟨.inl (by kernel_rfl), ?_⟩
 refine Dd (by kernel_rfl)<|Xm<|Xn<|Cg<|tS (sa rfl rfl (by omega))<|mV rfl<|Tn ?_
 obtain rfl := o1 hm
 exact jS ⟨aT, aU, W, rfl, rfl, ((a.trans zz)), ax⟩
 exact Rn
 exact Rn
 exact Rn
 exact Rn
 rintro A _ _ ⟨s, t, c, rfl, rfl, a, L⟩
 have hm := aA
 refine Cr<|tS (lF rfl rfl (by omega))<|Te<|Cs<|w9 rfl<|Ce<|Xe<|Xe<|Xo<|Xn<|Cr<|mV rfl<|aS rfl<|Te<|Ct ?_
 obtain ⟨rfl, rfl, rfl, rfl, rfl, rfl, rfl, rfl⟩ := j6I hm
 have aE := h4.le a
 have aF := h7.le a
 have aG := aK.le a
 have aH := aL.le a
 have aI := aM.le a
 have aJ := ay.le a
 exact rO ⟨K, A2, c3, A5, c6, A8, c9, n, o, p, q, x, y, s, t, c, rfl, rfl, aE, aF, aG, aH, aI, aJ, L⟩ a
theorem z1Y (b : k9) (R : Hp) (x9 c l m d e f g i n j a L O K o p q r s t u x y z A B S T C) (ad : FZ RT.str b.w o p d) (ae : FZ j4 b.w q r e) (af : FZ Q0 b.w s t f) (ag : FZ j6 b.w u x g) (ah : FZ Q1 b.w y z i) (U : FZ Z3 b.w A B j) (h5 : OS 46 (OT.fr (RT.list j7)) b.w (sv S a T) a C) (G) (hm : q3u x9 c l m d e f g i n j a = some G):
 v8 Tryz.prog 81 [iv x9, pb L, pb O] b ((L, Cl 101 [pb K]) :: (O, Cl 62 [iv c, iv l, iv m]) :: (K, Cl 154 [sv o d p, sv q e r, sv s f t, sv u g x, sv y i z, iv n, sv A j B, sv S a T]) :: (C ++ R)) (fun v b' hp' => bv G = v ∧ (L, Cl 101 [pb K]) :: (O, Cl 62 [iv c, iv l, iv m]) :: (K, Cl 154 [sv o d p, sv q e r, sv s f t, sv u g x, sv y i z, iv n, sv A j B, sv S a T]) :: (C ++ R) = hp') := by
 refine fE 16 Tryz.func81 rfl Tryz.ntmps81 rfl ?_
 unfold q3u at hm
 refine Cr<|aS rfl<|Te<|Cs ?_
 obtain ⟨V, W, hm⟩ := bS hm
 obtain ⟨X, D, hm⟩ := bS hm
 refine Di mixed (.refl _)<|Es 0 rfl (sL 0 rfl q5g rfl rfl)<|E0 1 rfl (sN rfl)<|E0 2 rfl (sF rfl q8j)<|Es 3 rfl (sL 2 rfl z1L rfl rfl)<|E0 4 rfl (sM rfl) ?_
 obtain ⟨Y, H, I⟩ := iS W
 obtain ⟨ac, J, E, k, F⟩ := FZ.get (sz := 3) rfl (by decide) U I
 obtain ⟨_, _, rfl, rfl, ⟨_, _, rfl, rfl, ⟨Z, aa, rfl, ab⟩⟩⟩ := J
 refine E0 5 rfl (sI Y rfl rfl H F k z5c)<|E0 6 rfl (sQ rfl k P6)<|Es 7 rfl (sO rfl q3A (E 2 _ rfl))<|E0 8 rfl (sF rfl K5)<|Es 9 rfl (sL 1 rfl Q8 rfl rfl)<|Eo<|Da [10] (by kernel_rfl) rfl<|Rd2 lr rfl rfl (uW _ q6E rfl (fun w ho => F7 _ [] V.Steps c Z aa (ab.old ho) X D) (fun _ _ _ h => h.2.symm)) ?_ ?_
 rintro _ _ ⟨⟨_, rfl, _⟩, rfl⟩
 refine iR<|Ei lr (.refl _)<|E0 11 rfl (sA rfl)<|Eo<|Dd (by kernel_rfl)<|Xn<|Ct ?_
 obtain rfl := o1 hm
 exact rO ⟨rfl, rfl⟩ lr
 exact Rn
theorem q8D (b : k9) (R : Hp) (h o p q i j k l m r n e O S T A9 U s t u w x y z A B C D E A3 c4 f) (ab : FZ rI b.w A9 U h) (ag : FZ RT.str b.w s t i) (ah : FZ j4 b.w u w j) (ai : FZ Q0 b.w x y k) (aj : FZ j6 b.w z A l) (ak : FZ Q1 b.w B C m) (al : FZ Z3 b.w D E n) (h5 : OS 46 (OT.fr (RT.list j7)) b.w (sv A3 e c4) e f) (ac) (hm : q2I h o p q i j k l m r n e = some ac):
 v8 Tryz.prog 106 [sv A9 h U, .func (.func 81) #[] #[pb O, pb S]] b ((O, Cl 101 [pb T]) :: (S, Cl 62 [iv o, iv p, iv q]) :: (T, Cl 154 [sv s i t, sv u j w, sv x k y, sv z l A, sv B m C, iv r, sv D n E, sv A3 e c4]) :: (f ++ R)) (fun v b' hp' => iv ac = v ∧ (O, Cl 101 [pb T]) :: (S, Cl 62 [iv o, iv p, iv q]) :: (T, Cl 154 [sv s i t, sv u j w, sv x k y, sv z l A, sv B m C, iv r, sv D n E, sv A3 e c4]) :: (f ++ R) = hp') := by
 refine fE 19 Tryz.func106 rfl Tryz.ntmps106 rfl ?_
 unfold q2I at hm
 refine Cr<|aS rfl<|Te<|Cs<|Cr<|mV rfl<|tS (sE rfl q5y)<|mV rfl<|Te<|Cb ?_
 have ao : h.length ≤ 9223372036854775807 := (FZ.bd ab)
 refine Cp 2 rfl<|Cp 2 rfl<|Cp 2 rfl ?_
 obtain ⟨aq, V, d⟩ := bS hm
 refine lF (fun K => fun _ => fun F e' hp' => [(0, sv A9 h U), (1, .func (.func 81) #[] #[pb O, pb S]), (7, iv ((h.length : Int))), (8, iv ((K : Int)))] = e' ∧ (O, Cl 101 [pb T]) :: (S, Cl 62 [iv o, iv p, iv q]) :: (T, Cl 154 [sv s i t, sv u j w, sv x k y, sv z l A, sv B m C, iv r, sv D n E, sv A3 e c4]) :: (f ++ R) = hp' ∧ b.Le F) V ⟨rfl, rfl, lr⟩ ?_ ?_
 rintro K _ F _ _ ar af ⟨rfl, rfl, a⟩ c G
 unfold q0Y at c
 have hm := c
 refine Cr<|tS (lT rfl rfl (by omega))<|Te<|Cs<|k7 rfl<|Ck<|Xn<|Cs<|Cb<|Cr<|mV rfl<|aS rfl<|Te<|Cr<|mV rfl<|mV rfl<|mV rfl ?_
 obtain ⟨L, ad, am, W, an, X, H, Y, I, hm⟩ := bF (sz := 1) hm (ab.le a)
 obtain rfl := X
 refine tS (sI ad rfl rfl W I Y q5y)<|tS (sO rfl Q8 (H 0 _ rfl)) ?_
 obtain ⟨ae, J, hm⟩ := bS hm
 refine J3 2 rfl<|J3 2 rfl<|J3 2 rfl<|q3Q [_, _, _] [] f R rfl<|Tv #[] #[pb O, pb S] [iv L] rfl rfl j5s rfl (z1Y _ _ L o p q i j k l m r n e O S T s t u w x y z A B C D E A3 c4 f (ag.le a) (ah.le a) (ai.le a) (aj.le a) (ak.le a) (al.le a) (h5.le a) ae J) ?_
 rintro _ au _ g ⟨rfl, rfl⟩
 refine q3x [_, _, _] [] f R rfl<|Te<|cB hm rfl (fun hm => ?_) fun hm => ?_
 refine Cr<|mV rfl<|aS rfl<|Te<|Ct<|Xb<|Xr<|Xr<|Xb<|Xr ?_
 have Z := G _ (Kd hm).symm
 rw [Z] at d
 have hm := V8 d
 obtain rfl := o1 hm
 exact rO ⟨rfl, rfl⟩ (a.trans g)
 refine Ck<|Xm<|Xn<|Cg<|tS (sa rfl rfl (by omega))<|mV rfl<|Tn ?_
 exact jM hm ⟨rfl, rfl, ((a.trans g))⟩
 rintro _ F _ _ ⟨rfl, rfl, a⟩ aa
 rw [aa] at d
 have hm := G0 d
 refine Cr<|tS (lF rfl rfl (by omega))<|Te<|Cs<|w9 rfl<|Ce<|Xe<|Xe<|Xo<|Xn<|Cr<|aS rfl<|Te<|Ct ?_
 obtain rfl := o1 hm
 exact rO ⟨rfl, rfl⟩ a
theorem q1M (b : k9) (R : Hp) (j k l m d e f g h n i a G H E K B o p q r s t u w x y z A I J c) (L : FZ rI b.w K B j) (O : FZ RT.str b.w o p d) (S : FZ j4 b.w q r e) (T : FZ Q0 b.w s t f) (U : FZ j6 b.w u w g) (V : FZ Q1 b.w x y h) (W : FZ Z3 b.w z A i) (Y : OS 46 (OT.fr (RT.list j7)) b.w (sv I a J) a c) (F) (hm : q0g j k l m d e f g h n i a = some F):
 v8 Tryz.prog 80 [sv K j B, .func (.func 81) #[] #[pb G, pb H]] b ((G, Cl 101 [pb E]) :: (H, Cl 62 [iv k, iv l, iv m]) :: (E, Cl 154 [sv o d p, sv q e r, sv s f t, sv u g w, sv x h y, iv n, sv z i A, sv I a J]) :: (c ++ R)) (fun v b' hp' => bv F = v ∧ (G, Cl 101 [pb E]) :: (H, Cl 62 [iv k, iv l, iv m]) :: (E, Cl 154 [sv o d p, sv q e r, sv s f t, sv u g w, sv x h y, iv n, sv z i A, sv I a J]) :: (c ++ R) = hp') := by
 refine fE 9 Tryz.func80 rfl Tryz.ntmps80 rfl ?_
 unfold q0g at hm
 refine Cr<|aS rfl<|Te<|Cr<|mV rfl<|mV rfl ?_
 obtain ⟨X, C, hm⟩ := bS hm
 refine J3 2 rfl<|J3 2 rfl<|J3 2 rfl<|q3Q [_, _, _] [] c R rfl<|Tg _ rfl j4f rfl (q8D _ _ j k l m d e f g h n i a G H E K B o p q r s t u w x y z A I J c L O S T U V W Y X C) ?_
 rintro _ Z _ D ⟨rfl, rfl⟩
 refine q3x [_, _, _] [] c R rfl<|tS (q6 rfl rfl)<|aS rfl<|Te<|Ct ?_
 obtain rfl := o1 hm
 exact rO ⟨rfl, rfl⟩ D
theorem q6R (b : k9) (R : Hp) (d : q8) (i) (hm : q1F d = some i):
 v8 Tryz.prog 76 [.agg #[iv d.Kind, iv d.Place, iv d.Position, iv d.At]] b (R) (fun v b' hp' => bv i = v ∧ R = hp') := by
 refine fE 11 Tryz.func76 rfl Tryz.ntmps76 rfl ?_
 unfold q1F at hm
 refine Cr<|tD (uB _ rfl rfl) ?_
 rintro _ _ ⟨j, rfl, rfl⟩
 refine aS rfl<|Te ?_
 obtain ⟨h, e, f⟩ := bS hm
 refine Cj (fun g e' hp' => [(2, bv h)] = e' ∧ R = hp' ∧ b.Le g) ?_ ?_
 have hm := e
 refine Cg<|tS (sF rfl q0H)<|tS (sL 0 rfl Q8 rfl rfl)<|Tb rfl (q1 rfl rfl) (fun a => ?_) (fun a => ?_)
 rw [if_pos a] at hm
 refine mV rfl<|nO<|nO<|nO<|tS (pT rfl rfl)<|aS rfl<|Tn ?_
 obtain rfl := o1 hm
 exact jJ ⟨rfl, rfl, lr⟩
 rw [if_neg a] at hm
 refine mV rfl<|yS<|tS (sF rfl q0H)<|yS<|tS (sL 0 rfl Q8 rfl rfl)<|yS<|tS (q1 rfl rfl)<|tS (pF rfl rfl)<|aS rfl<|Tn ?_
 obtain rfl := o1 hm
 exact jJ ⟨rfl, rfl, lr⟩
 rintro g _ _ ⟨rfl, rfl, c⟩
 have hm := f
 refine Ct ?_
 obtain rfl := o1 hm
 exact rO ⟨rfl, rfl⟩ c
theorem q4T (b : k9) (R : Hp) (i : q8) (e : q8) (o j) (hm : G5 i e = some j):
 v8 Tryz.prog 77 [.agg #[iv i.Kind, iv i.Place, iv i.Position, iv i.At], .agg #[iv e.Kind, iv e.Place, iv e.Position, iv e.At], pb o] b ((o, Cl 86 [.func (.func 76) #[] #[]]) :: R) (fun v b' hp' => bv j = v ∧ (o, Cl 86 [.func (.func 76) #[] #[]]) :: R = hp') := by
 refine fE 26 Tryz.func77 rfl Tryz.ntmps77 rfl ?_
 unfold G5 at hm
 refine Cr<|tD (uB _ rfl rfl) ?_
 rintro _ _ ⟨q, rfl, rfl⟩
 refine tD (uB _ rfl rfl) ?_
 rintro _ _ ⟨r, rfl, rfl⟩
 refine aS rfl<|Te ?_
 obtain ⟨p, k, l⟩ := bS hm
 refine Cj (fun m e' hp' => [(5, bv p)] = e' ∧ (o, Cl 86 [.func (.func 76) #[] #[]]) :: R = hp' ∧ b.Le m) ?_ ?_
 have hm := k
 refine Cg<|tS (sF rfl q0H)<|tS (sL 1 rfl Q8 rfl rfl)<|Tb rfl (q1 rfl rfl) (fun c => ?_) (fun c => ?_)
 rw [if_pos c] at hm
 refine mV rfl<|yS<|tS (sF rfl q0H)<|yS<|tS (sL 0 rfl Q8 rfl rfl)<|yS<|Tb rfl (q1 rfl rfl) (fun d => ?_) (fun d => ?_)
 rw [if_pos d] at hm
 refine yS<|mV rfl<|nO<|nO<|nO<|yS<|tS (pT rfl rfl)<|tS (pT rfl rfl)<|mV rfl<|yS<|tS (sF rfl q0Z)<|yS<|tS (sL 1 rfl Q8 rfl rfl)<|yS<|tS (sF rfl q0Z)<|yS<|tS (sL 0 rfl Q8 rfl rfl)<|yS<|tS (q2 rfl rfl)<|tS (pT rfl rfl)<|aS rfl<|Tn ?_
 obtain rfl := o1 hm
 exact jJ ⟨rfl, rfl, lr⟩
 rw [if_neg d] at hm
 refine yS<|mV rfl<|yS<|tS (sL 2 rfl j3v rfl rfl)<|yS<|tS (sD (vs := [_, _, _, _]) 0 4 rfl P7 rfl rfl rfl)<|yS ?_
 obtain ⟨n, f, hm⟩ := bS hm
 refine tD (q0K #[] #[] [.agg #[iv e.Kind, iv e.Place, iv e.Position, iv e.At]] rfl z9P rfl (fun w ho => q6R _ [] e n f) (fun _ _ _ h => h.2.symm)) ?_
 rintro _ _ ⟨⟨_, rfl, _⟩, rfl⟩
 rcases Kg n with a | a
 rw [if_pos a] at hm
 refine Tr 16 rfl (v' := .bool true) (by rw [a] <;> rfl)<|yS<|tS (pF rfl rfl)<|tS (pT rfl rfl)<|mV rfl<|yS<|tS (sF rfl q0Z)<|yS<|tS (sL 1 rfl Q8 rfl rfl)<|yS<|tS (sF rfl q0Z)<|yS<|tS (sL 0 rfl Q8 rfl rfl)<|yS<|tS (q2 rfl rfl)<|tS (pT rfl rfl)<|aS rfl<|Tn ?_
 obtain rfl := o1 hm
 exact jJ ⟨rfl, rfl, lr⟩
 rw [if_neg (fun hh => Bool.noConfusion (hh.symm.trans a))] at hm
 refine Tr 16 rfl (v' := .bool false) (by rw [a] <;> rfl)<|yS<|tS (pF rfl rfl)<|tS (pT rfl rfl)<|mV rfl<|nO<|nO<|nO<|nO<|nO<|tS (pF rfl rfl)<|aS rfl<|Tn ?_
 obtain rfl := o1 hm
 exact jJ ⟨rfl, rfl, lr⟩
 rw [if_neg c] at hm
 refine mV rfl<|nO<|nO<|nO<|nO<|nO<|nO<|nO<|nO<|tS (pF rfl rfl)<|mV rfl<|nO<|nO<|nO<|nO<|nO<|tS (pF rfl rfl)<|aS rfl<|Tn ?_
 obtain rfl := o1 hm
 exact jJ ⟨rfl, rfl, lr⟩
 rintro m _ _ ⟨rfl, rfl, g⟩
 have hm := l
 refine Ct ?_
 obtain rfl := o1 hm
 exact rO ⟨rfl, rfl⟩ g
theorem q4S (b : k9) (R : Hp) (d : q8) (e : q8) (f) (hm : G4 d e = some f):
 v8 Tryz.prog 78 [.agg #[iv d.Kind, iv d.Place, iv d.Position, iv d.At], .agg #[iv e.Kind, iv e.Place, iv e.Position, iv e.At]] b (R) (fun v b' hp' => bv f = v ∧ R = hp') := by
 refine fE 13 Tryz.func78 rfl Tryz.ntmps78 rfl ?_
 unfold G4 at hm
 refine Cr<|tD (uB _ rfl rfl) ?_
 rintro _ _ ⟨k, rfl, rfl⟩
 refine tD (uB _ rfl rfl) ?_
 rintro _ _ ⟨l, rfl, rfl⟩
 refine aS rfl<|Te ?_
 obtain ⟨j, g, h⟩ := bS hm
 refine Cj (fun i e' hp' => [(4, bv j)] = e' ∧ R = hp' ∧ b.Le i) ?_ ?_
 have hm := g
 refine Cg<|tS (sF rfl q0H)<|tS (sL 1 rfl Q8 rfl rfl)<|Tb rfl (q1 rfl rfl) (fun a => ?_) (fun a => ?_)
 rw [if_pos a] at hm
 refine mV rfl<|yS<|tS (sF rfl q0H)<|yS<|tS (sL 0 rfl Q8 rfl rfl)<|yS<|tS (q1 rfl rfl)<|tS (pT rfl rfl)<|aS rfl<|Tn ?_
 obtain rfl := o1 hm
 exact jJ ⟨rfl, rfl, lr⟩
 rw [if_neg a] at hm
 refine mV rfl<|nO<|nO<|nO<|tS (pF rfl rfl)<|aS rfl<|Tn ?_
 obtain rfl := o1 hm
 exact jJ ⟨rfl, rfl, lr⟩
 rintro i _ _ ⟨rfl, rfl, c⟩
 have hm := h
 refine Ct ?_
 obtain rfl := o1 hm
 exact rO ⟨rfl, rfl⟩ c
theorem z2E (b : k9) (R : Hp) (a : q8) (c : q8) (U) (hm : q2x a c = some U):
 v8 Tryz.prog 40 [.agg #[iv a.Kind, iv a.Place, iv a.Position, iv a.At], .agg #[iv c.Kind, iv c.Place, iv c.Position, iv c.At]] b (R) (fun v b' hp' => bv U = v ∧ R = hp') := by
 refine fE 46 Tryz.func40 rfl Tryz.ntmps40 rfl ?_
 unfold q2x at hm
 refine Cr<|tD (uB _ rfl rfl) ?_
 rintro _ _ ⟨ac, rfl, rfl⟩
 refine tD (uB _ rfl rfl) ?_
 rintro _ _ ⟨ad, rfl, rfl⟩
 refine aS rfl<|Te<|Cs<|Cr<|tS (sF rfl q3N)<|tS (sL 1 rfl Q8 rfl rfl)<|tS (sF rfl q3N)<|tS (sL 0 rfl Q8 rfl rfl)<|tS (q2 rfl rfl)<|Te<|cI hm rfl (fun hm => ?_) fun hm => ?_
 refine Cr<|aS rfl<|Te<|Ct<|Xr ?_
 obtain rfl := o1 hm
 exact rO ⟨rfl, rfl⟩ lr
 refine Ck<|Xn<|Cr<|tD (uA [.nilFunc] j4p rfl) ?_
 rintro _ _ ⟨q, rfl, rfl⟩
 refine tD (uS 0 rfl rfl j6J rfl rfl (by simp)) ?_
 rintro _ _ rfl
 refine Te<|Cr<|tS (q2m _ _ rfl rfl)<|aS rfl<|Te<|Cr<|aS rfl<|Te ?_
 obtain ⟨V, S, T⟩ := bS hm
 refine Cj (fun E e' hp' => [(4, bv V)] = e' ∧ R = hp' ∧ b.Le E) ?_ ?_
 have hm := S
 refine Cg<|tS (sL 0 rfl j3v rfl rfl)<|tS (sD (vs := [_, _, _, _]) 2 4 rfl P7 rfl rfl rfl) ?_
 obtain ⟨F, r, hm⟩ := bS hm
 refine tD (q0K #[] #[] [.agg #[iv a.Kind, iv a.Place, iv a.Position, iv a.At]] rfl z9P rfl (fun w ho => q6R _ [] a F r) (fun _ _ _ h => h.2.symm)) ?_
 rintro _ _ ⟨⟨_, rfl, _⟩, rfl⟩
 rcases Kg F with f | f
 rw [if_pos f] at hm
 refine Tr 16 rfl (v' := .bool true) (by rw [f] <;> rfl)<|mV rfl<|yS<|tS (sL 0 rfl j3v rfl rfl)<|yS<|tS (sD (vs := [_, _, _, _]) 1 4 rfl P7 rfl rfl rfl)<|yS ?_
 obtain ⟨G, s, hm⟩ := bS hm
 refine tD (q0K #[] #[] [.agg #[iv c.Kind, iv c.Place, iv c.Position, iv c.At]] rfl z9P rfl (fun w ho => q6R _ [] c G s) (fun _ _ _ h => h.2.symm)) ?_
 rintro _ _ ⟨⟨_, rfl, _⟩, rfl⟩
 rcases Kg G with g | g
 rw [if_pos g] at hm
 refine Tr 20 rfl (v' := .bool true) (by rw [g] <;> rfl)<|tS (pT rfl rfl)<|mV rfl<|nO<|nO<|nO<|nO<|tS (pT rfl rfl)<|mV rfl<|nO<|nO<|nO<|nO<|tS (pT rfl rfl)<|mV rfl<|nO<|nO<|nO<|nO<|tS (pT rfl rfl)<|mV rfl<|nO<|nO<|nO<|nO<|tS (pT rfl rfl)<|aS rfl<|Tn ?_
 obtain rfl := o1 hm
 exact jJ ⟨rfl, rfl, lr⟩
 rw [if_neg (fun hh => Bool.noConfusion (hh.symm.trans g))] at hm
 refine Tr 20 rfl (v' := .bool false) (by rw [g] <;> rfl)<|tS (pT rfl rfl)<|mV rfl<|yS<|mV rfl<|yS<|tS (sD (vs := [_, _, _, _]) 2 4 rfl P7 rfl rfl rfl)<|yS<|tS (sD (vs := [_, _, _, _]) 1 4 rfl P7 rfl rfl rfl)<|yS ?_
 obtain ⟨H, t, hm⟩ := bS hm
 refine Tv #[] #[pb q] [.agg #[iv a.Kind, iv a.Place, iv a.Position, iv a.At], .agg #[iv c.Kind, iv c.Place, iv c.Position, iv c.At]] rfl rfl z6Y rfl (q4T _ _ a c q H t) ?_
 rintro _ Y _ d ⟨rfl, rfl⟩
 rcases Kg H with i | i
 rw [if_pos i] at hm
 refine Tr 26 rfl (v' := .bool true) (by rw [i] <;> rfl)<|tS (pF rfl rfl)<|mV rfl<|nO<|nO<|nO<|nO<|tS (pT rfl rfl)<|mV rfl<|nO<|nO<|nO<|nO<|tS (pT rfl rfl)<|mV rfl<|nO<|nO<|nO<|nO<|tS (pT rfl rfl)<|aS rfl<|Tn ?_
 obtain rfl := o1 hm
 exact jJ ⟨rfl, rfl, d⟩
 rw [if_neg (fun hh => Bool.noConfusion (hh.symm.trans i))] at hm
 refine Tr 26 rfl (v' := .bool false) (by rw [i] <;> rfl)<|tS (pF rfl rfl)<|mV rfl<|yS<|mV rfl<|yS<|tS (sD (vs := [_, _, _, _]) 1 4 rfl P7 rfl rfl rfl)<|yS<|tS (sD (vs := [_, _, _, _]) 2 4 rfl P7 rfl rfl rfl)<|yS ?_
 obtain ⟨I, u, hm⟩ := bS hm
 refine Tv #[] #[pb q] [.agg #[iv c.Kind, iv c.Place, iv c.Position, iv c.At], .agg #[iv a.Kind, iv a.Place, iv a.Position, iv a.At]] rfl rfl z6Y rfl (q4T _ _ c a q I u) ?_
 rintro _ Z _ o ⟨rfl, rfl⟩
 rcases Kg I with j | j
 rw [if_pos j] at hm
 refine Tr 32 rfl (v' := .bool true) (by rw [j] <;> rfl)<|tS (pF rfl rfl)<|mV rfl<|nO<|nO<|nO<|nO<|tS (pT rfl rfl)<|mV rfl<|nO<|nO<|nO<|nO<|tS (pT rfl rfl)<|aS rfl<|Tn ?_
 obtain rfl := o1 hm
 exact jJ ⟨rfl, rfl, (d.trans o)⟩
 rw [if_neg (fun hh => Bool.noConfusion (hh.symm.trans j))] at hm
 refine Tr 32 rfl (v' := .bool false) (by rw [j] <;> rfl)<|tS (pF rfl rfl)<|mV rfl<|yS<|mV rfl<|yS<|tS (sD (vs := [_, _, _, _]) 2 4 rfl P7 rfl rfl rfl)<|yS<|tS (sD (vs := [_, _, _, _]) 1 4 rfl P7 rfl rfl rfl)<|yS ?_
 obtain ⟨J, x, hm⟩ := bS hm
 refine tD (q0K #[] #[] [.agg #[iv a.Kind, iv a.Place, iv a.Position, iv a.At], .agg #[iv c.Kind, iv c.Place, iv c.Position, iv c.At]] rfl z6X rfl (fun w ho => q4S _ [] a c J x) (fun _ _ _ h => h.2.symm)) ?_
 rintro _ _ ⟨⟨_, rfl, _⟩, rfl⟩
 rcases Kg J with k | k
 rw [if_pos k] at hm
 refine Tr 38 rfl (v' := .bool true) (by rw [k] <;> rfl)<|tS (pF rfl rfl)<|mV rfl<|nO<|nO<|nO<|nO<|tS (pT rfl rfl)<|aS rfl<|Tn ?_
 obtain rfl := o1 hm
 exact jJ ⟨rfl, rfl, (d.trans o)⟩
 rw [if_neg (fun hh => Bool.noConfusion (hh.symm.trans k))] at hm
 refine Tr 38 rfl (v' := .bool false) (by rw [k] <;> rfl)<|tS (pF rfl rfl)<|mV rfl<|yS<|mV rfl<|yS<|tS (sD (vs := [_, _, _, _]) 1 4 rfl P7 rfl rfl rfl)<|yS<|tS (sD (vs := [_, _, _, _]) 2 4 rfl P7 rfl rfl rfl)<|yS ?_
 obtain ⟨W, y, hm⟩ := bS hm
 refine tD (q0K #[] #[] [.agg #[iv c.Kind, iv c.Place, iv c.Position, iv c.At], .agg #[iv a.Kind, iv a.Place, iv a.Position, iv a.At]] rfl z6X rfl (fun w ho => q4S _ [] c a W y) (fun _ _ _ h => h.2.symm)) ?_
 rintro _ _ ⟨⟨_, rfl, _⟩, rfl⟩
 refine tS (pF rfl rfl)<|aS rfl<|Tn ?_
 obtain rfl := o1 hm
 exact jJ ⟨rfl, rfl, (d.trans o)⟩
 rw [if_neg (fun hh => Bool.noConfusion (hh.symm.trans f))] at hm
 refine Tr 16 rfl (v' := .bool false) (by rw [f] <;> rfl)<|mV rfl<|nO<|nO<|nO<|tS (pF rfl rfl)<|mV rfl<|yS<|mV rfl<|yS<|tS (sD (vs := [_, _, _, _]) 2 4 rfl P7 rfl rfl rfl)<|yS<|tS (sD (vs := [_, _, _, _]) 1 4 rfl P7 rfl rfl rfl)<|yS ?_
 obtain ⟨K, z, hm⟩ := bS hm
 refine Tv #[] #[pb q] [.agg #[iv a.Kind, iv a.Place, iv a.Position, iv a.At], .agg #[iv c.Kind, iv c.Place, iv c.Position, iv c.At]] rfl rfl z6Y rfl (q4T _ _ a c q K z) ?_
 rintro _ aa _ e ⟨rfl, rfl⟩
 rcases Kg K with l | l
 rw [if_pos l] at hm
 refine Tr 26 rfl (v' := .bool true) (by rw [l] <;> rfl)<|tS (pF rfl rfl)<|mV rfl<|nO<|nO<|nO<|nO<|tS (pT rfl rfl)<|mV rfl<|nO<|nO<|nO<|nO<|tS (pT rfl rfl)<|mV rfl<|nO<|nO<|nO<|nO<|tS (pT rfl rfl)<|aS rfl<|Tn ?_
 obtain rfl := o1 hm
 exact jJ ⟨rfl, rfl, e⟩
 rw [if_neg (fun hh => Bool.noConfusion (hh.symm.trans l))] at hm
 refine Tr 26 rfl (v' := .bool false) (by rw [l] <;> rfl)<|tS (pF rfl rfl)<|mV rfl<|yS<|mV rfl<|yS<|tS (sD (vs := [_, _, _, _]) 1 4 rfl P7 rfl rfl rfl)<|yS<|tS (sD (vs := [_, _, _, _]) 2 4 rfl P7 rfl rfl rfl)<|yS ?_
 obtain ⟨L, A, hm⟩ := bS hm
 refine Tv #[] #[pb q] [.agg #[iv c.Kind, iv c.Place, iv c.Position, iv c.At], .agg #[iv a.Kind, iv a.Place, iv a.Position, iv a.At]] rfl rfl z6Y rfl (q4T _ _ c a q L A) ?_
 rintro _ ab _ p ⟨rfl, rfl⟩
 rcases Kg L with m | m
 rw [if_pos m] at hm
 refine Tr 32 rfl (v' := .bool true) (by rw [m] <;> rfl)<|tS (pF rfl rfl)<|mV rfl<|nO<|nO<|nO<|nO<|tS (pT rfl rfl)<|mV rfl<|nO<|nO<|nO<|nO<|tS (pT rfl rfl)<|aS rfl<|Tn ?_
 obtain rfl := o1 hm
 exact jJ ⟨rfl, rfl, (e.trans p)⟩
 rw [if_neg (fun hh => Bool.noConfusion (hh.symm.trans m))] at hm
 refine Tr 32 rfl (v' := .bool false) (by rw [m] <;> rfl)<|tS (pF rfl rfl)<|mV rfl<|yS<|mV rfl<|yS<|tS (sD (vs := [_, _, _, _]) 2 4 rfl P7 rfl rfl rfl)<|yS<|tS (sD (vs := [_, _, _, _]) 1 4 rfl P7 rfl rfl rfl)<|yS ?_
 obtain ⟨O, B, hm⟩ := bS hm
 refine tD (q0K #[] #[] [.agg #[iv a.Kind, iv a.Place, iv a.Position, iv a.At], .agg #[iv c.Kind, iv c.Place, iv c.Position, iv c.At]] rfl z6X rfl (fun w ho => q4S _ [] a c O B) (fun _ _ _ h => h.2.symm)) ?_
 rintro _ _ ⟨⟨_, rfl, _⟩, rfl⟩
 rcases Kg O with n | n
 rw [if_pos n] at hm
 refine Tr 38 rfl (v' := .bool true) (by rw [n] <;> rfl)<|tS (pF rfl rfl)<|mV rfl<|nO<|nO<|nO<|nO<|tS (pT rfl rfl)<|aS rfl<|Tn ?_
 obtain rfl := o1 hm
 exact jJ ⟨rfl, rfl, (e.trans p)⟩
 rw [if_neg (fun hh => Bool.noConfusion (hh.symm.trans n))] at hm
 refine Tr 38 rfl (v' := .bool false) (by rw [n] <;> rfl)<|tS (pF rfl rfl)<|mV rfl<|yS<|mV rfl<|yS<|tS (sD (vs := [_, _, _, _]) 1 4 rfl P7 rfl rfl rfl)<|yS<|tS (sD (vs := [_, _, _, _]) 2 4 rfl P7 rfl rfl rfl)<|yS ?_
 obtain ⟨X, C, hm⟩ := bS hm
 refine tD (q0K #[] #[] [.agg #[iv c.Kind, iv c.Place, iv c.Position, iv c.At], .agg #[iv a.Kind, iv a.Place, iv a.Position, iv a.At]] rfl z6X rfl (fun w ho => q4S _ [] c a X C) (fun _ _ _ h => h.2.symm)) ?_
 rintro _ _ ⟨⟨_, rfl, _⟩, rfl⟩
 refine tS (pF rfl rfl)<|aS rfl<|Tn ?_
 obtain rfl := o1 hm
 exact jJ ⟨rfl, rfl, (e.trans p)⟩
 rintro E _ _ ⟨rfl, rfl, D⟩
 have hm := T
 refine Ct ?_
 obtain rfl := o1 hm
 exact rO ⟨rfl, rfl⟩ D
theorem z3E (b : k9) (R : Hp) (c : q8) (e f g i j d) (hm : q4a c e f g i = some d):
 v8 Tryz.prog 67 [.agg #[iv c.Kind, iv c.Place, iv c.Position, iv c.At], pb j] b ((j, Cl 55 [iv e, iv f, iv g, iv i]) :: R) (fun v b' hp' => bv d = v ∧ (j, Cl 55 [iv e, iv f, iv g, iv i]) :: R = hp') := by
 refine fE 7 Tryz.func67 rfl Tryz.ntmps67 rfl ?_
 unfold q4a at hm
 refine Cr<|tD (uB _ rfl rfl) ?_
 rintro _ _ ⟨l, rfl, rfl⟩
 refine aS rfl<|Te<|Cr<|tS (sD (vs := [_, _, _, _]) 1 4 rfl P7 rfl rfl rfl)<|tS (sD (vs := [_, _, _, _]) 0 4 rfl P7 rfl rfl rfl) ?_
 obtain ⟨k, a, hm⟩ := bS hm
 refine tD (uW _ j2C rfl (fun w ho => z2E _ [] (⟨e, f, g, i⟩ : q8) c k a) (fun _ _ _ h => h.2.symm)) ?_
 rintro _ _ ⟨⟨_, rfl, _⟩, rfl⟩
 refine aS rfl<|Te<|Ct ?_
 obtain rfl := o1 hm
 exact rO ⟨rfl, rfl⟩ lr
theorem q8B (b : k9) (R : Hp) (o p q r s i D E) (H : FZ j7 b.w D E o) (t) (hm : q1d o p q r s = some t):
 v8 Tryz.prog 74 [sv D o E, .func (.func 67) #[] #[pb i]] b ((i, Cl 55 [iv p, iv q, iv r, iv s]) :: R) (fun v b' hp' => iv t = v ∧ (i, Cl 55 [iv p, iv q, iv r, iv s]) :: R = hp') := by
 refine fE 19 Tryz.func74 rfl Tryz.ntmps74 rfl ?_
 unfold q1d at hm
 refine Cr<|aS rfl<|Te<|Cs<|Cr<|mV rfl<|tS (sE rfl q5x)<|mV rfl<|Te<|Cb ?_
 have I : o.length ≤ 9223372036854775807 := (FZ.bd H)
 obtain ⟨O, w, e⟩ := bS hm
 refine lF (fun x => fun _ => fun k e' hp' => [(0, sv D o E), (1, .func (.func 67) #[] #[pb i]), (7, iv ((o.length : Int))), (8, iv ((x : Int)))] = e' ∧ (i, Cl 55 [iv p, iv q, iv r, iv s]) :: R = hp' ∧ b.Le k) w ⟨rfl, rfl, lr⟩ ?_ ?_
 rintro x _ k _ _ J C ⟨rfl, rfl, a⟩ c f
 unfold q0W at c
 have hm := c
 refine Cr<|tS (lT rfl rfl (by omega))<|Te<|Cs<|k7 rfl<|Ck<|Xn<|Cs<|Cb<|Cr<|mV rfl<|aS rfl<|Te<|Cr<|mV rfl<|mV rfl<|mV rfl ?_
 obtain ⟨d, F, K, y, L, z, l, h, m, hm⟩ := bF (sz := 4) hm (H.le a)
 obtain ⟨_, _, rfl, rfl, ⟨_, _, rfl, rfl, ⟨_, _, rfl, rfl, rfl⟩⟩⟩ := z
 refine tS (sI F rfl rfl y m h q5x)<|tS (sP (vs := [iv d.Kind, iv d.Place, iv d.Position, iv d.At]) 4 rfl P7 h rfl (fun j u hu => l j u hu)) ?_
 obtain ⟨G, n, hm⟩ := bS hm
 refine Tv #[] #[pb i] [.agg #[iv d.Kind, iv d.Place, iv d.Position, iv d.At]] rfl rfl j5A rfl (z3E _ _ d p q r s i G n) ?_
 rintro _ S _ g ⟨rfl, rfl⟩
 refine Te<|cB hm rfl (fun hm => ?_) fun hm => ?_
 refine Cr<|mV rfl<|aS rfl<|Te<|Ct<|Xb<|Xr<|Xr<|Xb<|Xr ?_
 have A := f _ (Kd hm).symm
 rw [A] at e
 have hm := V8 e
 obtain rfl := o1 hm
 exact rO ⟨rfl, rfl⟩ (a.trans g)
 refine Ck<|Xm<|Xn<|Cg<|tS (sa rfl rfl (by omega))<|mV rfl<|Tn ?_
 exact jM hm ⟨rfl, rfl, ((a.trans g))⟩
 rintro _ k _ _ ⟨rfl, rfl, a⟩ B
 rw [B] at e
 have hm := G0 e
 refine Cr<|tS (lF rfl rfl (by omega))<|Te<|Cs<|w9 rfl<|Ce<|Xe<|Xe<|Xo<|Xn<|Cr<|aS rfl<|Te<|Ct ?_
 obtain rfl := o1 hm
 exact rO ⟨rfl, rfl⟩ a
theorem q6N (b : k9) (R : Hp) (e f g h i j k l) (n : FZ j7 b.w k l e) (d) (hm : q0e e f g h i = some d):
 v8 Tryz.prog 65 [sv k e l, .func (.func 67) #[] #[pb j]] b ((j, Cl 55 [iv f, iv g, iv h, iv i]) :: R) (fun v b' hp' => bv d = v ∧ (j, Cl 55 [iv f, iv g, iv h, iv i]) :: R = hp') := by
 refine fE 9 Tryz.func65 rfl Tryz.ntmps65 rfl ?_
 unfold q0e at hm
 refine Cr<|aS rfl<|Te<|Cr<|mV rfl<|mV rfl ?_
 obtain ⟨m, a, hm⟩ := bS hm
 refine Tg _ rfl z4F rfl (q8B _ _ e f g h i j k l n m a) ?_
 rintro _ o _ c ⟨rfl, rfl⟩
 refine tS (q6 rfl rfl)<|aS rfl<|Te<|Ct ?_
 obtain rfl := o1 hm
 exact rO ⟨rfl, rfl⟩ c
theorem z5X (b : k9) (R : Hp) (a : q8) (e i g h) (l : FZ j7 b.w g h e) (f) (hm : q4p a e = some f):
 v8 Tryz.prog 66 [.agg #[iv a.Kind, iv a.Place, iv a.Position, iv a.At], pb i] b ((i, Cl 46 [sv g e h]) :: R) (fun v b' hp' => bv f = v ∧ (i, Cl 46 [sv g e h]) :: R = hp') := by
 refine fE 7 Tryz.func66 rfl Tryz.ntmps66 rfl ?_
 unfold q4p at hm
 refine Cr<|tD (uB _ rfl rfl) ?_
 rintro _ _ ⟨j, rfl, rfl⟩
 refine aS rfl<|Te<|Cr<|tS (sL 1 rfl z4e rfl rfl)<|tS (q2m _ _ rfl rfl) ?_
 obtain ⟨k, c, hm⟩ := bS hm
 refine Tg _ rfl z6Z rfl (q6N _ _ e a.Kind a.Place a.Position a.At j g h l k c) ?_
 rintro _ m _ d ⟨rfl, rfl⟩
 refine aS rfl<|Te<|Ct ?_
 obtain rfl := o1 hm
 exact rO ⟨rfl, rfl⟩ d
theorem q8C (b : k9) (R : Hp) (o p i C D q r) (G : FZ j7 b.w C D o) (L : FZ j7 b.w q r p) (s) (hm : q1e o p = some s):
 v8 Tryz.prog 74 [sv C o D, .func (.func 66) #[] #[pb i]] b ((i, Cl 46 [sv q p r]) :: R) (fun v b' hp' => iv s = v ∧ (i, Cl 46 [sv q p r]) :: R = hp') := by
 refine fE 19 Tryz.func74 rfl Tryz.ntmps74 rfl ?_
 unfold q1e at hm
 refine Cr<|aS rfl<|Te<|Cs<|Cr<|mV rfl<|tS (sE rfl q5x)<|mV rfl<|Te<|Cb ?_
 have H : o.length ≤ 9223372036854775807 := (FZ.bd G)
 obtain ⟨O, t, e⟩ := bS hm
 refine lF (fun w => fun _ => fun k e' hp' => [(0, sv C o D), (1, .func (.func 66) #[] #[pb i]), (7, iv ((o.length : Int))), (8, iv ((w : Int)))] = e' ∧ (i, Cl 46 [sv q p r]) :: R = hp' ∧ b.Le k) t ⟨rfl, rfl, lr⟩ ?_ ?_
 rintro w _ k _ _ I B ⟨rfl, rfl, a⟩ c f
 unfold q0X at c
 have hm := c
 refine Cr<|tS (lT rfl rfl (by omega))<|Te<|Cs<|k7 rfl<|Ck<|Xn<|Cs<|Cb<|Cr<|mV rfl<|aS rfl<|Te<|Cr<|mV rfl<|mV rfl<|mV rfl ?_
 obtain ⟨d, E, J, x, K, y, l, h, m, hm⟩ := bF (sz := 4) hm (G.le a)
 obtain ⟨_, _, rfl, rfl, ⟨_, _, rfl, rfl, ⟨_, _, rfl, rfl, rfl⟩⟩⟩ := y
 refine tS (sI E rfl rfl x m h q5x)<|tS (sP (vs := [iv d.Kind, iv d.Place, iv d.Position, iv d.At]) 4 rfl P7 h rfl (fun j u hu => l j u hu)) ?_
 obtain ⟨F, n, hm⟩ := bS hm
 refine Tv #[] #[pb i] [.agg #[iv d.Kind, iv d.Place, iv d.Position, iv d.At]] rfl rfl j5B rfl (z5X _ _ d p i q r (L.le a) F n) ?_
 rintro _ S _ g ⟨rfl, rfl⟩
 refine Te<|cB hm rfl (fun hm => ?_) fun hm => ?_
 refine Cr<|mV rfl<|aS rfl<|Te<|Ct<|Xb<|Xr<|Xr<|Xb<|Xr ?_
 have z := f _ (Kd hm).symm
 rw [z] at e
 have hm := V8 e
 obtain rfl := o1 hm
 exact rO ⟨rfl, rfl⟩ (a.trans g)
 refine Ck<|Xm<|Xn<|Cg<|tS (sa rfl rfl (by omega))<|mV rfl<|Tn ?_
 exact jM hm ⟨rfl, rfl, ((a.trans g))⟩
 rintro _ k _ _ ⟨rfl, rfl, a⟩ A
 rw [A] at e
 have hm := G0 e
 refine Cr<|tS (lF rfl rfl (by omega))<|Te<|Cs<|w9 rfl<|Ce<|Xe<|Xe<|Xo<|Xn<|Cr<|aS rfl<|Te<|Ct ?_
 obtain rfl := o1 hm
 exact rO ⟨rfl, rfl⟩ a
theorem q6O (b : k9) (R : Hp) (f d g j k h i) (m : FZ j7 b.w j k f) (n : FZ j7 b.w h i d) (e) (hm : q0f f d = some e):
 v8 Tryz.prog 65 [sv j f k, .func (.func 66) #[] #[pb g]] b ((g, Cl 46 [sv h d i]) :: R) (fun v b' hp' => bv e = v ∧ (g, Cl 46 [sv h d i]) :: R = hp') := by
 refine fE 9 Tryz.func65 rfl Tryz.ntmps65 rfl ?_
 unfold q0f at hm
 refine Cr<|aS rfl<|Te<|Cr<|mV rfl<|mV rfl ?_
 obtain ⟨l, a, hm⟩ := bS hm
 refine Tg _ rfl z4F rfl (q8C _ _ f d g j k h i m n l a) ?_
 rintro _ o _ c ⟨rfl, rfl⟩
 refine tS (q6 rfl rfl)<|aS rfl<|Te<|Ct ?_
 obtain rfl := o1 hm
 exact rO ⟨rfl, rfl⟩ c
theorem j0j (b : k9) (R : Hp) (e f g h i j) (m : FZ j7 b.w g h e) (n : FZ j7 b.w i j f) (d) (hm : q6w e f = some d):
 v8 Tryz.prog 27 [sv g e h, sv i f j] b (R) (fun v b' hp' => bv d = v ∧ R = hp') := by
 refine fE 8 Tryz.func27 rfl Tryz.ntmps27 rfl ?_
 unfold q6w at hm
 refine Cr<|tD (uB _ rfl rfl) ?_
 rintro _ _ ⟨k, rfl, rfl⟩
 refine aS rfl<|Te<|Cr<|mV rfl<|tS (q2m _ _ rfl rfl) ?_
 obtain ⟨l, a, hm⟩ := bS hm
 refine Tg _ rfl z6Z rfl (q6O _ _ e f k g h i j m n l a) ?_
 rintro _ o _ c ⟨rfl, rfl⟩
 refine aS rfl<|Te<|Ct ?_
 obtain rfl := o1 hm
 exact rO ⟨rfl, rfl⟩ c
theorem z4S (b : k9) (R : Hp) (q am y z A B C D E F g6 A7 c8 G H I J K L O S T U V W A3 c4 g) (h9 : FZ rI b.w A7 c8 q) (bh : FZ RT.str b.w G H y) (bi : FZ j4 b.w I J z) (bj : FZ Q0 b.w K L A) (aK : FZ j6 b.w O S B) (bk : FZ Q1 b.w T U C) (aL : FZ Z3 b.w V W E) (h5 : OS 46 (OT.fr (RT.list j7)) b.w (sv A3 F c4) F g) (ca) (hm : q3D q am y z A B C D E F = some ca):
 v8 Tryz.prog 43 [pb g6, sv A7 q c8, iv am] b ((g6, Cl 154 [sv G y H, sv I z J, sv K A L, sv O B S, sv T C U, iv D, sv V E W, sv A3 F c4]) :: (g ++ R)) (fun v b' hp' => iv ca = v ∧ (g6, Cl 154 [sv G y H, sv I z J, sv K A L, sv O B S, sv T C U, iv D, sv V E W, sv A3 F c4]) :: (g ++ R) = hp') := by
 refine fE 138 Tryz.func43 rfl Tryz.ntmps43 rfl ?_
 unfold q3D at hm
 refine Cr<|tD (uB _ rfl rfl) ?_
 rintro _ _ ⟨k, rfl, rfl⟩
 refine aS rfl<|Te<|Cs<|Cr<|mV rfl<|tS (sL 0 rfl q5g rfl rfl)<|tS (sN rfl)<|tS (sF rfl q8j)<|tS (sL 1 rfl z1L rfl rfl)<|tS (sE rfl z5c) ?_
 obtain ⟨_, aM, hm⟩ := bS hm
 have aM := (kS aM).2
 refine tS (sb rfl rfl aM) ?_
 obtain ⟨cO, bl, hm⟩ := bS hm
 refine tD (uW _ q4R rfl (fun w ho => H8 _ [] am 0 ((E.length : Int) - 1) cO bl) (fun _ _ _ h => h.2.symm)) ?_
 rintro _ _ ⟨⟨_, rfl, _⟩, rfl⟩
 refine tS (sn2 rfl)<|Te<|cM hm rfl (fun hm => ?_) fun hm => ?_
 refine Cr<|aS rfl<|Te<|Ct<|Xr ?_
 obtain rfl := o1 hm
 exact rO ⟨rfl, rfl⟩ lr
 refine Ck<|Xn<|Cr<|tS (sL 0 rfl q5g rfl rfl)<|tS (sN rfl)<|tS (sF rfl q8j)<|tS (sL 1 rfl z1L rfl rfl)<|mV rfl ?_
 obtain ⟨e, cP, di, cb, dj, cc, bm, aN, bn, hm⟩ := bF (sz := 3) hm aL
 obtain ⟨_, _, rfl, rfl, ⟨_, _, rfl, rfl, ⟨r, s, rfl, aO⟩⟩⟩ := cc
 refine tS (sI cP rfl rfl cb bn aN z5c)<|tS (sP (vs := [iv e.From, iv e.To, sv r e.Steps s]) 3 rfl z3K aN rfl (fun j u hu => bm j u hu))<|tD (uA [iv 0, iv 0, sn] z8j rfl) ?_
 rintro _ _ ⟨n, rfl, rfl⟩
 refine tD (uN (vs := [_, _, _]) 0 3 rfl rfl rfl j3n rfl (mc rfl (mc rfl (mc rfl mn))) rfl (by simp)) ?_
 rintro _ _ rfl
 refine Te<|Cs<|Cb ?_
 obtain ⟨cd, bo, bp⟩ := bS hm
 refine Cj (fun av e' hp' => [(1, sv A7 q c8), (2, iv am), (3, pb k), (7, pb n), (30, bv cd)] = e' ∧ (k, Cl 101 [pb g6]) :: (n, Cl 36 [iv e.From, iv e.To, sv r e.Steps s]) :: (g6, Cl 154 [sv G y H, sv I z J, sv K A L, sv O B S, sv T C U, iv D, sv V E W, sv A3 F c4]) :: (g ++ R) = hp' ∧ b.Le av) ?_ ?_
 have hm := bo
 obtain ⟨ce, bq, br⟩ := bS hm
 refine Cj (fun aP e' hp' => [(1, sv A7 q c8), (2, iv am), (3, pb k), (7, pb n), (30, bv ce)] = e' ∧ (k, Cl 101 [pb g6]) :: (n, Cl 36 [iv e.From, iv e.To, sv r e.Steps s]) :: (g6, Cl 154 [sv G y H, sv I z J, sv K A L, sv O B S, sv T C U, iv D, sv V E W, sv A3 F c4]) :: (g ++ R) = hp' ∧ b.Le aP) ?_ ?_
 have hm := bq
 by_cases aa : (q.length : Int) = 0
 rw [if_pos aa] at hm
 obtain ⟨dk, cf, hm⟩ := bS hm
 refine Di mixed (.refl _)<|E0 0 rfl (sM rfl)<|E0 1 rfl (sE rfl q5y)<|E0 2 rfl (eT rfl rfl aa)<|E0 3 rfl (sM rfl)<|Ey 4 34 rfl (sL 1 rfl q5g rfl rfl)<|Yz 5 34 rfl (sN rfl)<|Yz 6 34 rfl (sF rfl z6K)<|Yz 7 34 rfl (sF rfl q3O)<|Ey 8 34 rfl (sL 2 rfl q9J rfl rfl)<|Yz 9 34 rfl (sF rfl q5L)<|Ey 10 34 rfl (sL 0 rfl Q8 rfl rfl) ?_
 obtain ⟨cg, bs, bt⟩ := iS cf
 obtain ⟨cT, bu, aQ, aF, aR⟩ := FZ.get (sz := 2) rfl (by decide) aK bt
 obtain ⟨_, _, rfl, rfl, rfl⟩ := bu
 refine Yz 11 34 rfl (sI cg rfl rfl bs aR aF z5d)<|Yz 12 34 rfl (sQ rfl aF q4c)<|Ey 13 34 rfl (sO rfl Q8 (aQ 0 _ rfl))<|Ey 14 34 rfl (sL 1 rfl q5g rfl rfl)<|Yz 15 34 rfl (sN rfl)<|Yz 16 34 rfl (sF rfl q8k)<|Ey 17 34 rfl (sL 2 rfl Q8 rfl rfl)<|Yz 18 34 rfl (q2 rfl rfl)<|E0 19 rfl (pT rfl rfl)<|E0 20 rfl (sA rfl)<|Eo<|Dd (by kernel_rfl) ?_
 obtain rfl := o1 hm
 exact jJ ⟨rfl, rfl, lr⟩
 rw [if_neg aa] at hm
 refine Di mixed (.refl _)<|E0 0 rfl (sM rfl)<|E0 1 rfl (sE rfl q5y)<|E0 2 rfl (eF rfl rfl aa)<|E0 3 rfl (sM rfl)<|eN 4 rfl<|eN 5 rfl<|eN 6 rfl<|eN 7 rfl<|eN 8 rfl<|eN 9 rfl<|eN 10 rfl<|eN 11 rfl<|eN 12 rfl<|eN 13 rfl<|eN 14 rfl<|eN 15 rfl<|eN 16 rfl<|eN 17 rfl<|eN 18 rfl<|E0 19 rfl (pF rfl rfl)<|E0 20 rfl (sA rfl)<|Eo<|Dd (by kernel_rfl) ?_
 obtain rfl := o1 hm
 exact jJ ⟨rfl, rfl, lr⟩
 rintro aP _ _ ⟨rfl, rfl, t⟩
 have hm := br
 refine cB hm rfl (fun hm => ?_) fun hm => ?_
 refine Ck ?_
 obtain rfl := o1 hm
 exact jJ ⟨rfl, rfl, t⟩
 by_cases ab : 0 < (q.length : Int)
 rw [if_pos ab] at hm
 obtain ⟨_, aw, hm⟩ := bS hm
 obtain ⟨dl, ch, hm⟩ := bS hm
 obtain ⟨dm, ci, hm⟩ := bS hm
 refine Di mixed (.refl _)<|E0 0 rfl (sM rfl)<|E0 1 rfl (sE rfl q5y)<|E0 2 rfl (q7S rfl rfl ab)<|E0 3 rfl (sM rfl)<|Yz 4 54 rfl (sF rfl q5L)<|Ey 5 54 rfl (sL 1 rfl Q8 rfl rfl)<|Ey 6 54 rfl (sL 0 rfl q5g rfl rfl)<|Yz 7 54 rfl (sN rfl)<|Yz 8 54 rfl (sF rfl q8j)<|Ey 9 54 rfl (sL 2 rfl z1L rfl rfl)<|Yz 10 54 rfl (sM rfl)<|Yz 11 54 rfl (sM rfl)<|Yz 12 54 rfl (sE rfl q5y) ?_
 have aw := (kS aw).2
 refine Yz 13 54 rfl (sb rfl rfl aw) ?_
 obtain ⟨cj, bw, bx⟩ := iS ch
 obtain ⟨cU, bz, aT, bA, aU⟩ := FZ.get (sz := 1) rfl (by decide) (h9.le t) bx
 obtain rfl := bz
 refine Yz 14 54 rfl (sI cj rfl rfl bw aU bA q5y)<|Ey 15 54 rfl (sO rfl Q8 (aT 0 _ rfl)) ?_
 obtain ⟨ck, bB, bC⟩ := iS ci
 obtain ⟨cV, bD, aV, aG, aW⟩ := FZ.get (sz := 3) rfl (by decide) (aL.le t) bC
 obtain ⟨_, _, rfl, rfl, ⟨_, _, rfl, rfl, ⟨dn, dp, rfl, dq⟩⟩⟩ := bD
 refine Yz 16 54 rfl (sI ck rfl rfl bB aW aG z5c)<|Yz 17 54 rfl (sQ rfl aG q5K)<|Ey 18 54 rfl (sO rfl Q8 (aV 1 _ rfl))<|Yz 19 54 rfl (q2 rfl rfl)<|E0 20 rfl (pT rfl rfl)<|E0 21 rfl (sA rfl)<|Eo<|Dd (by kernel_rfl) ?_
 obtain rfl := o1 hm
 exact jJ ⟨rfl, rfl, t⟩
 rw [if_neg ab] at hm
 refine Di mixed (.refl _)<|E0 0 rfl (sM rfl)<|E0 1 rfl (sE rfl q5y)<|E0 2 rfl (q9X rfl rfl ab)<|E0 3 rfl (sM rfl)<|eN 4 rfl<|eN 5 rfl<|eN 6 rfl<|eN 7 rfl<|eN 8 rfl<|eN 9 rfl<|eN 10 rfl<|eN 11 rfl<|eN 12 rfl<|eN 13 rfl<|eN 14 rfl<|eN 15 rfl<|eN 16 rfl<|eN 17 rfl<|eN 18 rfl<|eN 19 rfl<|E0 20 rfl (pF rfl rfl)<|E0 21 rfl (sA rfl)<|Eo<|Dd (by kernel_rfl) ?_
 obtain rfl := o1 hm
 exact jJ ⟨rfl, rfl, t⟩
 rintro av _ _ ⟨rfl, rfl, a⟩
 have hm := bp
 refine cB hm rfl (fun hm => ?_) fun hm => ?_
 refine Cr<|aS rfl<|Te<|Ct<|Xb<|Xr ?_
 obtain rfl := o1 hm
 exact rO ⟨rfl, rfl⟩ a
 refine Ck<|Xm<|Xn<|Cs<|Cr<|tS (sF rfl P6)<|tS (sL 1 rfl q3A rfl rfl)<|tS (sE rfl q6f)<|mV rfl<|Te<|Cb ?_
 have cW : e.Steps.length ≤ 9223372036854775807 := (FZ.bd (aO.le a))
 refine Cp 2 rfl<|Cp 2 rfl<|Cp 2 rfl ?_
 obtain ⟨dr, bE, ac⟩ := bS hm
 refine lF (fun ax => fun _ => fun ag e' hp' => [(1, sv A7 q c8), (2, iv am), (3, pb k), (7, pb n), (73, sv r e.Steps s), (74, iv ((e.Steps.length : Int))), (75, iv ((ax : Int)))] = e' ∧ (k, Cl 101 [pb g6]) :: (n, Cl 36 [iv e.From, iv e.To, sv r e.Steps s]) :: (g6, Cl 154 [sv G y H, sv I z J, sv K A L, sv O B S, sv T C U, iv D, sv V E W, sv A3 F c4]) :: (g ++ R) = hp' ∧ av.Le ag) bE ⟨rfl, rfl, lr⟩ ?_ ?_
 rintro ax _ ag _ _ cX cH ⟨rfl, rfl, c⟩ X ay
 unfold q1o at X
 have hm := X
 refine Cr<|tS (lT rfl rfl (by omega))<|Te<|Cs<|k7 rfl<|Ck<|Xn<|Cs<|Cb<|Cr ?_
 obtain ⟨i, cl, cY, bG, cZ, bH, aX, aH, aY, hm⟩ := bF (sz := 3) hm (aO.le (a.trans c))
 obtain ⟨_, _, rfl, rfl, ⟨_, _, rfl, rfl, rfl⟩⟩ := bH
 refine tS (sI cl rfl rfl bG aY aH q6f)<|tS (sP (vs := [iv i.Section, iv i.In, iv i.Out]) 3 rfl q6T aH rfl (fun j u hu => aX j u hu))<|tD (uA [iv 0, iv 0, iv 0] q5T rfl) ?_
 rintro _ _ ⟨az, rfl, rfl⟩
 refine tD (uN (vs := [_, _, _]) 0 3 rfl rfl rfl q8T rfl (mc rfl (mc rfl (mc rfl mn))) rfl (by simp)) ?_
 rintro _ _ rfl
 refine Te ?_
 obtain ⟨cm, bI, bJ⟩ := bS hm
 refine Cj (fun aZ e' hp' => [(1, sv A7 q c8), (2, iv am), (3, pb k), (7, pb n), (73, sv r e.Steps s), (74, iv ((e.Steps.length : Int))), (75, iv ((ax : Int))), (90, bv cm)] = e' ∧ (k, Cl 101 [pb g6]) :: (n, Cl 36 [iv e.From, iv e.To, sv r e.Steps s]) :: (g6, Cl 154 [sv G y H, sv I z J, sv K A L, sv O B S, sv T C U, iv D, sv V E W, sv A3 F c4]) :: (g ++ R) = hp' ∧ ag.Le aZ) ?_ ?_
 have hm := bI
 by_cases x : i.Section = D
 rw [if_pos x] at hm
 refine Di mixed (.refl _)<|E0 0 rfl (sF rfl K5)<|Es 1 rfl (sL 0 rfl Q8 rfl rfl)<|Es 2 rfl (sL 1 rfl q5g rfl rfl)<|E0 3 rfl (sN rfl)<|E0 4 rfl (sF rfl q8k)<|Es 5 rfl (sL 3 rfl Q8 rfl rfl)<|E0 6 rfl (eT rfl rfl x)<|E0 7 rfl (sM rfl)<|eN 8 rfl<|eN 9 rfl<|eN 10 rfl<|E0 11 rfl (pT rfl rfl)<|Eo<|Dd (by kernel_rfl) ?_
 obtain rfl := o1 hm
 exact jJ ⟨rfl, rfl, lr⟩
 rw [if_neg x] at hm
 obtain ⟨aA, ah, hm⟩ := bS hm
 refine Di mixed (.cons _ (.cons _ (.cons_cons _ (.cons _ (ss g (.refl _))))))<|E0 0 rfl (sF rfl K5)<|Eo<|Da [1, 2] (by kernel_rfl) rfl<|Rd2 lr rfl rfl (Z0.does (sL 0 rfl Q8 rfl rfl)) ?_ ?_
 rintro _ _ ⟨rfl, rfl⟩
 refine iR<|Da [2] (by kernel_rfl) rfl<|Rd2 lr rfl rfl (Z0.does (sL 1 rfl q5g rfl rfl)) ?_ ?_
 rintro _ _ ⟨rfl, rfl⟩
 refine iR<|Ei lr (.cons _ (.cons _ (.cons_cons _ (.cons _ (ss g (.refl _))))))<|E0 3 rfl (sN rfl)<|E0 4 rfl (sF rfl q8k)<|Eo<|Da [5] (by kernel_rfl) rfl<|Rd2 lr rfl rfl (Z0.does (sL 3 rfl Q8 rfl rfl)) ?_ ?_
 rintro _ _ ⟨rfl, rfl⟩
 refine iR<|Ei lr (.cons _ (.cons _ (.cons_cons _ (.cons _ (ss g (.refl _))))))<|E0 6 rfl (eF rfl rfl x)<|E0 7 rfl (sM rfl)<|Yz 8 86 rfl (sM rfl)<|Yz 9 86 rfl (q2m _ _ rfl rfl)<|Eo<|q1a 3 rfl<|q1a 1 rfl<|q1a 2 rfl<|z6T [_, _, _] [_] g R rfl<|Da [10] (by kernel_rfl) rfl ?_
 have zz := a.trans c
 refine q5r lr rfl rfl 86 rfl rfl rfl _ z9O rfl (q1M _ _ q i.Section i.In i.Out y z A B C D E F k az g6 A7 c8 G H I J K L O S T U V W A3 c4 g (h9.le zz) (bh.le zz) (bi.le zz) (bj.le zz) (aK.le zz) (bk.le zz) (aL.le zz) (h5.le zz) aA ah) ?_ ?_
 rintro _ a0 _ m ⟨rfl, rfl⟩
 refine iR<|q7h [_, _, _] [_] g R rfl<|Ei m (.cons _ (.cons _ (.cons _ (.cons_cons _ (ss g (.refl _))))))<|E0 11 rfl (pF rfl rfl)<|Eo<|Dd (by kernel_rfl) ?_
 obtain rfl := o1 hm
 exact jJ ⟨rfl, rfl, m⟩
 exact Rn
 exact Rn
 exact Rn
 refine Rd2 lr rfl rfl (Z0.does (sL 1 rfl q5g rfl rfl)) ?_ ?_
 rintro _ _ ⟨rfl, rfl⟩
 refine iR<|Ei lr (.cons _ (.cons _ (.cons_cons _ (.cons _ (ss g (.refl _))))))<|E0 3 rfl (sN rfl)<|E0 4 rfl (sF rfl q8k)<|Eo<|Da [1, 5] (by kernel_rfl) rfl<|Rd2 lr rfl rfl (Z0.does (sL 0 rfl Q8 rfl rfl)) ?_ ?_
 rintro _ _ ⟨rfl, rfl⟩
 refine iR<|Da [5] (by kernel_rfl) rfl<|Rd2 lr rfl rfl (Z0.does (sL 3 rfl Q8 rfl rfl)) ?_ ?_
 rintro _ _ ⟨rfl, rfl⟩
 refine iR<|Ei lr (.cons _ (.cons _ (.cons_cons _ (.cons _ (ss g (.refl _))))))<|E0 6 rfl (eF rfl rfl x)<|E0 7 rfl (sM rfl)<|Yz 8 86 rfl (sM rfl)<|Yz 9 86 rfl (q2m _ _ rfl rfl)<|Eo<|q1a 3 rfl<|q1a 1 rfl<|q1a 2 rfl<|z6T [_, _, _] [_] g R rfl<|Da [10] (by kernel_rfl) rfl ?_
 have zy := a.trans c
 refine q5r lr rfl rfl 86 rfl rfl rfl _ z9O rfl (q1M _ _ q i.Section i.In i.Out y z A B C D E F k az g6 A7 c8 G H I J K L O S T U V W A3 c4 g (h9.le zy) (bh.le zy) (bi.le zy) (bj.le zy) (aK.le zy) (bk.le zy) (aL.le zy) (h5.le zy) aA ah) ?_ ?_
 rintro _ a0 _ m ⟨rfl, rfl⟩
 refine iR<|q7h [_, _, _] [_] g R rfl<|Ei m (.cons _ (.cons _ (.cons _ (.cons_cons _ (ss g (.refl _))))))<|E0 11 rfl (pF rfl rfl)<|Eo<|Dd (by kernel_rfl) ?_
 obtain rfl := o1 hm
 exact jJ ⟨rfl, rfl, m⟩
 exact Rn
 exact Rn
 refine Rd2 lr rfl rfl (Z0.does (sL 3 rfl Q8 rfl rfl)) ?_ ?_
 rintro _ _ ⟨rfl, rfl⟩
 refine iR<|Da [1] (by kernel_rfl) rfl<|Rd2 lr rfl rfl (Z0.does (sL 0 rfl Q8 rfl rfl)) ?_ ?_
 rintro _ _ ⟨rfl, rfl⟩
 refine iR<|Ei lr (.cons _ (.cons _ (.cons_cons _ (.cons _ (ss g (.refl _))))))<|E0 6 rfl (eF rfl rfl x)<|E0 7 rfl (sM rfl)<|Yz 8 86 rfl (sM rfl)<|Yz 9 86 rfl (q2m _ _ rfl rfl)<|Eo<|q1a 3 rfl<|q1a 1 rfl<|q1a 2 rfl<|z6T [_, _, _] [_] g R rfl<|Da [10] (by kernel_rfl) rfl ?_
 have zx := a.trans c
 refine q5r lr rfl rfl 86 rfl rfl rfl _ z9O rfl (q1M _ _ q i.Section i.In i.Out y z A B C D E F k az g6 A7 c8 G H I J K L O S T U V W A3 c4 g (h9.le zx) (bh.le zx) (bi.le zx) (bj.le zx) (aK.le zx) (bk.le zx) (aL.le zx) (h5.le zx) aA ah) ?_ ?_
 rintro _ a0 _ m ⟨rfl, rfl⟩
 refine iR<|q7h [_, _, _] [_] g R rfl<|Ei m (.cons _ (.cons _ (.cons _ (.cons_cons _ (ss g (.refl _))))))<|E0 11 rfl (pF rfl rfl)<|Eo<|Dd (by kernel_rfl) ?_
 obtain rfl := o1 hm
 exact jJ ⟨rfl, rfl, m⟩
 exact Rn
 exact Rn
 exact Rn
 exact Rn
 rintro aZ _ _ ⟨rfl, rfl, ao⟩
 have hm := bJ
 refine cB hm rfl (fun hm => ?_) fun hm => ?_
 refine Cr<|aS rfl<|Te<|Ct<|Xb<|Xr<|Xr<|Xb<|Xr ?_
 have bK := ay _ (Kd hm).symm
 rw [bK] at ac
 have hm := V8 ac
 obtain rfl := o1 hm
 exact rO ⟨rfl, rfl⟩ (a.trans (c.trans ao))
 refine Ck<|Xm<|Xn<|Cg<|tS (sa rfl rfl (by omega))<|mV rfl<|Tn ?_
 exact jM hm ⟨rfl, rfl, ((c.trans ao))⟩
 rintro _ ag _ _ ⟨rfl, rfl, c⟩ bL
 rw [bL] at ac
 have hm := G0 ac
 refine Cr<|tS (lF rfl rfl (by omega))<|Te<|Cs<|w9 rfl<|Ce<|Xe<|Xe<|Xo<|Xn<|Cs<|Cr<|mV rfl<|tS (sE rfl q5y)<|mV rfl<|Te<|Cb ?_
 have c0 : q.length ≤ 9223372036854775807 := (FZ.bd (h9.le (a.trans c)))
 refine Cp 2 rfl<|Cp 2 rfl<|Cp 2 rfl ?_
 obtain ⟨ds, bM, ad⟩ := bS hm
 refine lF (fun an => fun _ => fun ai e' hp' => [(2, iv am), (3, pb k), (7, pb n), (92, sv A7 q c8), (93, iv ((q.length : Int))), (94, iv ((an : Int)))] = e' ∧ (k, Cl 101 [pb g6]) :: (n, Cl 36 [iv e.From, iv e.To, sv r e.Steps s]) :: (g6, Cl 154 [sv G y H, sv I z J, sv K A L, sv O B S, sv T C U, iv D, sv V E W, sv A3 F c4]) :: (g ++ R) = hp' ∧ ag.Le ai) bM ⟨rfl, rfl, lr⟩ ?_ ?_
 rintro an _ ai _ _ c1 cJ ⟨rfl, rfl, f⟩ Y aB
 unfold q1n at Y
 have hm := Y
 refine Cr<|tS (lT rfl rfl (by omega))<|Te<|Cs<|k7 rfl<|Ck<|Xn<|Cs<|Cb<|Cr ?_
 have zw := a.trans (c.trans f)
 obtain ⟨dt, cn, c2, bN, c3, bO, a1, bP, a2, hm⟩ := bF (sz := 1) hm (h9.le zw)
 obtain rfl := bO
 refine tS (sI cn rfl rfl bN a2 bP q5y)<|tS (sO rfl Q8 (a1 0 _ rfl))<|aS rfl<|Te<|Cr<|tS (sL 0 rfl q5g rfl rfl)<|tS (sN rfl)<|tS (sF rfl z0d)<|tS (sL 2 rfl z8W rfl rfl)<|mV rfl ?_
 obtain ⟨aj, co, hm⟩ := bS hm
 obtain ⟨cp, bQ, bR⟩ := iS co
 obtain ⟨c5, c6, du, dv, c7, bT, a3, bU, a4, c9, cQ⟩ := OS.get (sz := 1) rfl (by decide) (h5.le zw) bR
 obtain ⟨⟨a5, a6, rfl, a7⟩, rfl⟩ := bT
 refine tS (sI cp rfl rfl bQ a4 bU j4G)<|tS (Q3 rfl z4e (fun w ho => a3 w _ ho (.cons _ (.cons _ (.cons _ (Kb _ _)))) 0 _ rfl))<|tS (sE rfl q5x)<|mV rfl<|Te<|Cb ?_
 have da : aj.length ≤ 9223372036854775807 := (FZ.bd a7)
 refine Cp 2 rfl<|Cp 2 rfl<|Cp 2 rfl ?_
 obtain ⟨dw, bV, ae⟩ := bS hm
 refine lF (fun aC => fun _ => fun ak e' hp' => [(2, iv am), (3, pb k), (7, pb n), (92, sv A7 q c8), (93, iv ((q.length : Int))), (94, iv ((an : Int))), (104, sv a5 aj a6), (105, iv ((aj.length : Int))), (106, iv ((aC : Int)))] = e' ∧ (k, Cl 101 [pb g6]) :: (n, Cl 36 [iv e.From, iv e.To, sv r e.Steps s]) :: (g6, Cl 154 [sv G y H, sv I z J, sv K A L, sv O B S, sv T C U, iv D, sv V E W, sv A3 F c4]) :: (g ++ R) = hp' ∧ ai.Le ak) bV ⟨rfl, rfl, lr⟩ ?_ ?_
 rintro aC _ ak _ _ db cK ⟨rfl, rfl, p⟩ Z aD
 unfold q1m at Z
 have hm := Z
 refine Cr<|tS (lT rfl rfl (by omega))<|Te<|Cs<|k7 rfl<|Ck<|Xn<|Cs<|Cb<|Cr ?_
 obtain ⟨d, cq, dc, bW, dd, bX, a8, aI, a9, hm⟩ := bF (sz := 4) hm (a7.le p)
 obtain ⟨_, _, rfl, rfl, ⟨_, _, rfl, rfl, ⟨_, _, rfl, rfl, rfl⟩⟩⟩ := bX
 refine tS (sI cq rfl rfl bW a9 aI q5x)<|tS (sP (vs := [iv d.Kind, iv d.Place, iv d.Position, iv d.At]) 4 rfl P7 aI rfl (fun j u hu => a8 j u hu))<|tD (uA [iv 0, iv 0, iv 0, iv 0] q7I rfl) ?_
 rintro _ _ ⟨dx, rfl, rfl⟩
 refine tD (uN (vs := [_, _, _, _]) 0 4 rfl rfl rfl z1G rfl (mc rfl (mc rfl (mc rfl (mc rfl mn)))) rfl (by simp)) ?_
 rintro _ _ rfl
 refine Te ?_
 obtain ⟨cr, bY, bZ⟩ := bS hm
 refine Cj (fun ba e' hp' => [(2, iv am), (3, pb k), (7, pb n), (92, sv A7 q c8), (93, iv ((q.length : Int))), (94, iv ((an : Int))), (104, sv a5 aj a6), (105, iv ((aj.length : Int))), (106, iv ((aC : Int))), (124, bv cr)] = e' ∧ (k, Cl 101 [pb g6]) :: (n, Cl 36 [iv e.From, iv e.To, sv r e.Steps s]) :: (g6, Cl 154 [sv G y H, sv I z J, sv K A L, sv O B S, sv T C U, iv D, sv V E W, sv A3 F c4]) :: (g ++ R) = hp' ∧ ak.Le ba) ?_ ?_
 have hm := bY
 by_cases af : d.Kind ≠ 2
 rw [if_pos af] at hm
 obtain ⟨cs, ct, hm⟩ := bS hm
 obtain ⟨cu, bb, hm⟩ := bS hm
 refine Di mixed (.refl _)<|E0 0 rfl (sF rfl q0H)<|Es 1 rfl (sL 0 rfl Q8 rfl rfl)<|E0 2 rfl (z6m rfl rfl af)<|E0 3 rfl (sM rfl)<|Ey 4 113 rfl (sD (vs := [_, _, _, _]) 0 4 rfl P7 rfl rfl rfl)<|Ey 6 113 rfl (sL 1 rfl q5g rfl rfl)<|Yz 7 113 rfl (sN rfl)<|Yz 8 113 rfl (sF rfl z0d)<|Ey 9 113 rfl (sL 3 rfl z8W rfl rfl)<|Yz 10 113 rfl (sM rfl) ?_
 obtain ⟨cv, b0, b1⟩ := iS ct
 obtain ⟨de, df, dy, dz, dg, b2, bc, b3, bd, dh, cR⟩ := OS.get (sz := 1) rfl (by decide) (h5.le (a.trans (c.trans (f.trans p)))) b1
 obtain ⟨⟨cw, cx, rfl, cy⟩, rfl⟩ := b2
 refine Yz 11 113 rfl (sI cv rfl rfl b0 bd b3 j4G)<|Ey 12 113 rfl (Q3 rfl z4e (fun w ho => bc w _ ho (.cons _ (.cons _ (.cons _ (.cons _ (Kb _ _))))) 0 _ rfl))<|Eo<|Da [5] (by kernel_rfl) rfl ?_
 refine q3j lr rfl rfl 113 rfl rfl rfl (V3 (el := 55) [(0, .agg #[iv d.Kind, iv d.Place, iv d.Position, iv d.At])] [iv d.Kind, iv d.Place, iv d.Position, iv d.At] rfl (fun _ => by kernel_rfl)) ?_ ?_
 rintro _ _ ⟨al, rfl, rfl⟩
 refine iR<|j3M 0 [_, _, _, _] (g ++ R) rfl rfl ?_
 have cz : OS 55 (OT.fr j7) ak.w (.slice (some ⟨al, 0, none⟩) 1 1) [d] [(al, Cl 55 [iv d.Kind, iv d.Place, iv d.Position, iv d.At])] := OS.lit [[iv d.Kind, iv d.Place, iv d.Position, iv d.At]] rfl ⟨⟨[iv d.Kind], _, rfl, rfl, ⟨[iv d.Place], _, rfl, rfl, ⟨[iv d.Position], _, rfl, rfl, rfl⟩⟩⟩, trivial⟩ rfl (by decide)
 refine Da [13] (by kernel_rfl) rfl<|q3j lr rfl rfl 113 rfl rfl rfl (uW _ z9S rfl (fun w ho => j0j _ [] [d] cs (some ⟨al, 0, none⟩) 1 cw cx (OS.now (o := (OT.fr j7)) (l := [d]) (hs := [(al, Cl 55 [iv d.Kind, iv d.Place, iv d.Position, iv d.At])]) cz ho (.cons _ (.cons _ (.cons _ (.cons _ (Kb _ _)))))) (cy.old ho) cu bb) (fun _ _ _ h => h.2.symm)) ?_ ?_
 rintro _ _ ⟨⟨_, rfl, _⟩, rfl⟩
 refine iR<|Ei lr (.cons_cons _ (.cons_cons _ (.cons_cons _ (.cons_cons _ (ss [(al, Cl 55 [iv d.Kind, iv d.Place, iv d.Position, iv d.At])] (.refl _))))))<|E0 14 rfl (pT rfl rfl)<|Eo<|Dd (by kernel_rfl) ?_
 obtain rfl := o1 hm
 exact jJ ⟨rfl, rfl, lr⟩
 exact Rn
 exact Rn
 rw [if_neg af] at hm
 refine Di mixed (.refl _)<|E0 0 rfl (sF rfl q0H)<|Es 1 rfl (sL 0 rfl Q8 rfl rfl)<|E0 2 rfl (z6n rfl rfl af)<|E0 3 rfl (sM rfl)<|eN 4 rfl<|eN 5 rfl<|eN 6 rfl<|eN 7 rfl<|eN 8 rfl<|eN 9 rfl<|eN 10 rfl<|eN 11 rfl<|eN 12 rfl<|eN 13 rfl<|E0 14 rfl (pF rfl rfl)<|Eo<|Dd (by kernel_rfl) ?_
 obtain rfl := o1 hm
 exact jJ ⟨rfl, rfl, lr⟩
 rintro ba _ _ ⟨rfl, rfl, aq⟩
 have hm := bZ
 refine cB hm rfl (fun hm => ?_) fun hm => ?_
 refine Cr<|aS rfl<|Te<|Ct<|Xb<|Xr<|Xr<|Xb<|Xb<|Xr<|Xr<|Xb<|Xr ?_
 have b4 := aD _ (Kd hm).symm
 rw [b4] at ae
 have hm := V8 ae
 have b5 := aB _ (Kd hm).symm
 rw [b5] at ad
 have hm := V8 ad
 obtain rfl := o1 hm
 exact rO ⟨rfl, rfl⟩ (a.trans (c.trans (f.trans (p.trans aq))))
 refine Ck<|Xm<|Xn<|Cg<|tS (sa rfl rfl (by omega))<|mV rfl<|Tn ?_
 exact jM hm ⟨rfl, rfl, ((p.trans aq))⟩
 rintro _ ak _ _ ⟨rfl, rfl, p⟩ b6
 rw [b6] at ae
 have hm := G0 ae
 refine Cr<|tS (lF rfl rfl (by omega))<|Te<|Cs<|w9 rfl<|Ce<|Xe<|Xe<|Xo<|Xm<|Xn<|Cg<|tS (sa rfl rfl (by omega))<|mV rfl<|Tn ?_
 exact jM hm ⟨rfl, rfl, ((f.trans p))⟩
 rintro _ ai _ _ ⟨rfl, rfl, f⟩ b7
 rw [b7] at ad
 have hm := G0 ad
 refine Cr<|tS (lF rfl rfl (by omega))<|Te<|Cs<|w9 rfl<|Ce<|Xe<|Xe<|Xo<|Xn<|Cs ?_
 obtain ⟨cA, b8, b9⟩ := bS hm
 refine Cj (fun be e' hp' => [(137, bv cA)] = e' ∧ (g6, Cl 154 [sv G y H, sv I z J, sv K A L, sv O B S, sv T C U, iv D, sv V E W, sv A3 F c4]) :: (g ++ R) = hp' ∧ ai.Le be) ?_ ?_
 have hm := b8
 obtain ⟨aE, bf, hm⟩ := bS hm
 obtain ⟨cC, bg, hm⟩ := bS hm
 refine Di mixed (.refl _)<|Es 0 rfl (sL 0 rfl q5g rfl rfl)<|E0 1 rfl (sN rfl)<|E0 2 rfl (sF rfl z6K)<|Es 3 rfl (sD (vs := [_, _, _, _, _]) 2 5 rfl P0 rfl rfl rfl)<|Es 4 rfl (sD (vs := [_, _, _]) 1 3 rfl z3K rfl rfl rfl)<|Es 6 rfl (sL 0 rfl q5g rfl rfl)<|E0 7 rfl (sN rfl)<|E0 8 rfl (sF rfl q8k)<|Es 9 rfl (sL 2 rfl Q8 rfl rfl)<|Eo<|Da [5] (by kernel_rfl) rfl ?_
 have zv := a.trans (c.trans f)
 refine Rg lr rfl rfl _ z9Q rfl (q6Q _ _ (⟨y, z, A, B, C⟩ : j3) e G H I J K L O S T U r s (bh.le zv) (bi.le zv) (bj.le zv) (aK.le zv) (bk.le zv) (aO.le zv) aE bf) ?_ ?_
 rintro _ dA _ ar ⟨cD, cE, aJ, rfl, rfl, cG⟩
 refine iR<|q7h [] [_, _, _] aJ (g ++ R) rfl<|Da [10] (by kernel_rfl) rfl<|Rd2 ar rfl rfl (uW _ q6E rfl (fun w ho => F7 _ [] aE D cD cE (OS.now (o := (OT.fr J1)) (l := aE) (hs := aJ) cG ho (.cons _ (.cons _ (.cons _ (Kb _ _))))) cC bg) (fun _ _ _ h => h.2.symm)) ?_ ?_
 rintro _ _ ⟨⟨_, rfl, _⟩, rfl⟩
 refine iR<|Dd (by kernel_rfl) ?_
 obtain rfl := o1 hm
 exact jJ ⟨rfl, rfl, ar⟩
 exact Rn
 exact Rn
 rintro be _ _ ⟨rfl, rfl, au⟩
 have hm := b9
 refine cB hm rfl (fun hm => ?_) fun hm => ?_
 refine Cr<|aS rfl<|Te<|Ct<|Xr ?_
 obtain rfl := o1 hm
 exact rO ⟨rfl, rfl⟩ (a.trans (c.trans (f.trans au)))
 refine Ck<|Xn<|Cr<|aS rfl<|Te<|Ct ?_
 obtain rfl := o1 hm
 exact rO ⟨rfl, rfl⟩ (a.trans (c.trans (f.trans au)))
theorem z3F (b : k9) (R : Hp) (s g h i j k t l a g6 A7 c8 u w x y z A B C D E F G A3 c4 H) (h9 : FZ rI b.w A7 c8 s) (an : FZ RT.str b.w u w g) (ao : FZ j4 b.w x y h) (aq : FZ Q0 b.w z A i) (ar : FZ j6 b.w B C j) (au : FZ Q1 b.w D E k) (ad : FZ Z3 b.w F G l) (h5 : OS 46 (OT.fr (RT.list j7)) b.w (sv A3 a c4) a H) (W) (hm : q4b s g h i j k t l a = some W):
 v8 Tryz.prog 44 [pb g6, sv A7 s c8] b ((g6, Cl 154 [sv u g w, sv x h y, sv z i A, sv B j C, sv D k E, iv t, sv F l G, sv A3 a c4]) :: (H ++ R)) (fun v b' hp' => iv W = v ∧ (g6, Cl 154 [sv u g w, sv x h y, sv z i A, sv B j C, sv D k E, iv t, sv F l G, sv A3 a c4]) :: (H ++ R) = hp') := by
 refine fE 26 Tryz.func44 rfl Tryz.ntmps44 rfl ?_
 unfold q4b at hm
 refine Cr<|aS rfl<|Te<|Cs ?_
 obtain ⟨_, c, hm⟩ := bS hm
 obtain ⟨ai, X, hm⟩ := bS hm
 obtain ⟨aj, Y, hm⟩ := bS hm
 refine Di mixed (.refl _)<|E0 0 rfl (sM rfl)<|E0 1 rfl (sN rfl)<|E0 2 rfl (sF rfl q8j)<|Es 3 rfl (sL 0 rfl z1L rfl rfl)<|E0 4 rfl (sM rfl)<|E0 5 rfl (sM rfl)<|E0 6 rfl (sE rfl q5y) ?_
 have c := (kS c).2
 refine E0 7 rfl (sb rfl rfl c) ?_
 obtain ⟨Z, I, J⟩ := iS X
 obtain ⟨ae, K, m, L, n⟩ := FZ.get (sz := 1) rfl (by decide) h9 J
 obtain rfl := K
 refine E0 8 rfl (sI Z rfl rfl I n L q5y)<|Es 9 rfl (sO rfl Q8 (m 0 _ rfl)) ?_
 obtain ⟨aa, O, S⟩ := iS Y
 obtain ⟨af, T, o, d, p⟩ := FZ.get (sz := 3) rfl (by decide) ad S
 obtain ⟨_, _, rfl, rfl, ⟨_, _, rfl, rfl, ⟨ak, al, rfl, ab⟩⟩⟩ := T
 refine E0 10 rfl (sI aa rfl rfl O p d z5c)<|E0 11 rfl (sQ rfl d P6)<|Es 12 rfl (sO rfl q3A (o 2 _ rfl))<|E0 13 rfl (sA rfl)<|Eo<|Dd (by kernel_rfl)<|Xn<|Cr<|mV rfl<|mV rfl<|tS (sE rfl q6f) ?_
 obtain ⟨_, e, hm⟩ := bS hm
 have e := (kS e).2
 refine tS (sb rfl rfl e) ?_
 obtain ⟨am, ac, ag, U, ah, V, q, f, r, hm⟩ := bF (sz := 3) hm ab
 obtain ⟨_, _, rfl, rfl, ⟨_, _, rfl, rfl, rfl⟩⟩ := V
 refine tS (sI ac rfl rfl U r f q6f)<|tS (sQ rfl f K5)<|tS (sO rfl Q8 (q 0 _ rfl))<|aS rfl<|Te<|Ct ?_
 obtain rfl := o1 hm
 exact rO ⟨rfl, rfl⟩ lr
theorem z3H (b : k9) (R : Hp) (j : j3) (ai k A2 c3 A5 c6 A8 c9 n o p q G r) (h4 : FZ RT.str b.w A2 c3 j.Stations) (h7 : FZ j4 b.w A5 c6 j.Sections) (aj : FZ Q0 b.w A8 c9 j.Links) (ak : FZ j6 b.w n o j.Signals) (al : FZ Q1 b.w p q j.Gates) (I : FZ rI b.w G r k) (ax) (hm : q2N j ai k = some ax):
 v8 Tryz.prog 15 [.agg #[sv A2 j.Stations c3, sv A5 j.Sections c6, sv A8 j.Links c9, sv n j.Signals o, sv p j.Gates q], iv ai, sv G k r] b (R) (fun v b' hp' => iv ax = v ∧ R = hp') := by
 refine fE 61 Tryz.func15 rfl Tryz.ntmps15 rfl ?_
 unfold q2N at hm
 refine Cr<|tD (uB _ rfl rfl) ?_
 rintro _ _ ⟨ay, rfl, rfl⟩
 refine aS rfl<|Te<|Cr<|tS (sD (vs := [_, _, _, _, _]) 0 5 rfl P0 rfl rfl rfl) ?_
 obtain ⟨⟨aV, J⟩, am, hm⟩ := bS hm
 have hm := H0 hm
 refine Tg _ rfl j1Q rfl (q5P _ _ j A2 c3 A5 c6 A8 c9 n o p q h4 h7 aj ak al aV J am) ?_
 rintro _ bh _ c ⟨aW, aX, K, rfl, rfl, aY, bi⟩
 refine q3x [] [_] K R rfl<|mV rfl<|tS (w7 rfl rfl)<|tS (w7 rfl rfl)<|aS rfl<|aS rfl<|Te<|Cs<|Cr<|mV rfl<|tS (q2 rfl rfl)<|Te<|cI hm rfl (fun hm => ?_) fun hm => ?_
 refine Cr<|mV rfl<|aS rfl<|Te<|Ct<|Xr ?_
 obtain rfl := o1 hm
 exact rO ⟨rfl, rfl⟩ c
 refine Ck<|Xn<|Cs<|Cb<|Cr<|tS (sD (vs := [_, _, _, _, _]) 0 5 rfl P0 rfl rfl rfl)<|mV rfl ?_
 obtain ⟨aZ, an, hm⟩ := bS hm
 refine tD (uW _ j2B rfl (fun w ho => q8I _ [] j ai A2 c3 A5 c6 A8 c9 n o p q ((h4.le c).old ho) ((h7.le c).old ho) ((aj.le c).old ho) ((ak.le c).old ho) ((al.le c).old ho) aZ an) (fun _ _ _ h => h.2.symm)) ?_
 rintro _ _ ⟨⟨_, rfl, _⟩, rfl⟩
 refine tS (sn2 rfl)<|aS rfl<|Te<|cM hm rfl (fun hm => ?_) fun hm => ?_
 refine Cr<|aS rfl<|Te<|Ct<|Xb<|Xr ?_
 obtain rfl := o1 hm
 exact rO ⟨rfl, rfl⟩ c
 refine Cr<|mV rfl<|tS (sE rfl q5y)<|tS (q5 rfl rfl)<|aS rfl<|Te<|cI hm rfl (fun hm => ?_) fun hm => ?_
 refine Cr<|aS rfl<|Te<|Ct<|Xb<|Xr ?_
 obtain rfl := o1 hm
 exact rO ⟨rfl, rfl⟩ c
 refine Cr<|mV rfl<|tS (sE rfl q5y)<|tS (q1 rfl rfl)<|aS rfl<|Te<|cI hm rfl (fun hm => ?_) fun hm => ?_
 refine Cr<|aS rfl<|Te<|Ct<|Xb<|Xr ?_
 obtain rfl := o1 hm
 exact rO ⟨rfl, rfl⟩ c
 refine Ck<|Xm<|Xn<|Cr<|tS (sD (vs := [_, _, _, _, _]) 0 5 rfl P0 rfl rfl rfl)<|mV rfl<|mV rfl<|z8t [_] K R rfl ?_
 intro bj d aK
 have a0 := OS.frz (l := J) aY d.cells aK
 obtain ⟨⟨s, t, u, x, y, z, A, B⟩, ao, hm⟩ := bS hm
 have hm := j6A hm
 have zz := c.trans d
 refine Tg _ rfl j5N rfl (j0h _ _ j ai J A2 c3 A5 c6 A8 c9 n o p q aW aX (h4.le zz) (h7.le zz) (aj.le zz) (ak.le zz) (al.le zz) a0 s t u x y z A B ao) ?_
 rintro _ a1 _ e ⟨C, L, O, S, T, U, V, W, X, Y, Z, aa, ab, ac, ad, g, rfl, rfl, az, aA, aB, aC, aD, aE, aF⟩
 refine q3x [_] [_] g R rfl<|aS rfl<|Te<|Cs<|Cr<|mV rfl<|tS (sE rfl q5y)<|mV rfl<|Te<|Cb ?_
 have bc : k.length ≤ 9223372036854775807 := (FZ.bd (I.le (c.trans (d.trans e))))
 refine Cp 1 rfl ?_
 obtain ⟨bk, aL, m⟩ := bS hm
 refine lF (fun aG => fun _ => fun D e' hp' => [(2, sv G k r), (3, pb ay), (9, pb C), (38, sv G k r), (39, iv ((k.length : Int))), (40, iv ((aG : Int)))] = e' ∧ (ay, Cl 28 [sv A2 j.Stations c3, sv A5 j.Sections c6, sv A8 j.Links c9, sv n j.Signals o, sv p j.Gates q]) :: (C, Cl 154 [sv L s O, sv S t T, sv U u V, sv W x X, sv Y y Z, iv z, sv aa A ab, sv ac B ad]) :: (g ++ R) = hp' ∧ a1.Le D) aL ⟨rfl, rfl, lr⟩ ?_ ?_
 rintro aG _ D _ _ bd a2 ⟨rfl, rfl, a⟩ i H
 unfold q1p at i
 have hm := i
 refine Cr<|tS (lT rfl rfl (by omega))<|Te<|Cs<|k7 rfl<|Ck<|Xn<|Cs<|Cb<|Cr<|mV rfl ?_
 have zy := c.trans (d.trans (e.trans a))
 obtain ⟨a3, a4, be, aM, bf, aN, aq, aO, ar, hm⟩ := bF (sz := 1) hm (I.le zy)
 obtain rfl := aN
 refine tS (sI a4 rfl rfl aM ar aO q5y)<|tS (sO rfl Q8 (aq 0 _ rfl))<|aS rfl<|aS rfl<|Te<|Cr<|mV rfl<|mV rfl<|mV rfl ?_
 obtain ⟨a5, a6, hm⟩ := bS hm
 obtain ⟨ae, a7, bg, aP, af, ag, ah⟩ := q6B a6
 have aH := FZ.sub (sz := 1) rfl (I.le zy) af ag
 have a8 := (I.le zy).1.1
 rw [← ah] at aH
 refine tS (ah ▸ z0v (l := k) ae a7 rfl (.inl ⟨rfl, by omega⟩) (.inr ⟨_, _, _, rfl, rfl, aP⟩) af ag a8 q5y)<|mV rfl ?_
 obtain ⟨a9, au, hm⟩ := bS hm
 refine J3 1 rfl<|q3Q [_] [_] g R rfl<|Tg _ rfl j5M rfl (z4S _ _ a5 a3 s t u x y z A B C (z2S G r ae 1) (r - ae) L O S T U V W X Y Z aa ab ac ad g aH (az.le a) (aA.le a) (aB.le a) (aC.le a) (aD.le a) (aE.le a) (aF.le a) a9 au) ?_
 rintro _ bl _ E ⟨rfl, rfl⟩
 refine q3x [_] [_] g R rfl<|aS rfl<|Te<|Cr<|mV rfl<|tS (q2 rfl rfl)<|Te<|cI hm rfl (fun hm => ?_) fun hm => ?_
 refine Cr<|mV rfl<|aS rfl<|Te<|Ct<|Xb<|Xr<|Xr<|Xb<|Xr ?_
 have aQ := H _ (Kd hm).symm
 rw [aQ] at m
 have hm := V8 m
 obtain rfl := o1 hm
 exact rO ⟨rfl, rfl⟩ (c.trans (d.trans (e.trans (a.trans E))))
 refine Ck<|Xm<|Xn<|Cg<|tS (sa rfl rfl (by omega))<|mV rfl<|Tn ?_
 exact jM hm ⟨rfl, rfl, ((a.trans E))⟩
 rintro _ D _ _ ⟨rfl, rfl, a⟩ aR
 rw [aR] at m
 have hm := G0 m
 refine Cr<|tS (lF rfl rfl (by omega))<|Te<|Cs<|w9 rfl<|Ce<|Xe<|Xe<|Xo<|Xn<|Cs ?_
 obtain ⟨ba, aT, aU⟩ := bS hm
 refine Cj (fun aI e' hp' => [(60, bv ba)] = e' ∧ R = hp' ∧ D.Le aI) ?_ ?_
 have hm := aT
 obtain ⟨aJ, av, hm⟩ := bS hm
 obtain ⟨bb, aw, hm⟩ := bS hm
 refine Di mixed (.cons_cons _ (.cons _ (ss g (.refl _))))<|Es 0 rfl (sD (vs := [_, _, _, _, _]) 0 5 rfl P0 rfl rfl rfl)<|E0 1 rfl (sM rfl)<|E0 2 rfl (sM rfl)<|Eo<|q1a 1 rfl<|z6T [_] [_] g R rfl<|Da [3] (by kernel_rfl) rfl<|Rg lr rfl rfl _ j5L rfl (z3F _ _ k s t u x y z A B C G r L O S T U V W X Y Z aa ab ac ad g (I.le (c.trans (d.trans (e.trans a)))) (az.le a) (aA.le a) (aB.le a) (aC.le a) (aD.le a) (aE.le a) (aF.le a) aJ av) ?_ ?_
 rintro _ bm _ f ⟨rfl, rfl⟩
 refine iR<|q7h [_] [_] g R rfl<|Da [4] (by kernel_rfl) rfl ?_
 have zx := c.trans (d.trans (e.trans (a.trans f)))
 refine Rd2 f rfl rfl (uW _ j2B rfl (fun w ho => q8I _ [] j aJ A2 c3 A5 c6 A8 c9 n o p q ((h4.le zx).old ho) ((h7.le zx).old ho) ((aj.le zx).old ho) ((ak.le zx).old ho) ((al.le zx).old ho) bb aw) (fun _ _ _ h => h.2.symm)) ?_ ?_
 rintro _ _ ⟨⟨_, rfl, _⟩, rfl⟩
 refine ⟨.inl (by kernel_rfl), ?_⟩
 refine El f<|E0 5 rfl (sn2 rfl)<|Eo<|Dd (by kernel_rfl) ?_
 obtain rfl := o1 hm
 exact jJ ⟨rfl, rfl, f⟩
 exact Rn
 exact Rn
 rintro aI _ _ ⟨rfl, rfl, F⟩
 have hm := aU
 refine cB hm rfl (fun hm => ?_) fun hm => ?_
 refine Cr<|aS rfl<|Te<|Ct<|Xr ?_
 obtain rfl := o1 hm
 exact rO ⟨rfl, rfl⟩ (c.trans (d.trans (e.trans (a.trans F))))
 refine Ck<|Xn<|Cr<|aS rfl<|Te<|Ct ?_
 obtain rfl := o1 hm
 exact rO ⟨rfl, rfl⟩ (c.trans (d.trans (e.trans (a.trans F))))
theorem z1c (A : Option Addr) (n c : Nat) (xs : List Value) (w : World) (hR : Rd w A xs) (hl : xs.length = n * 1) (hn : n * 16 ≤ 140737488355328 ∧ n ≤ 9223372036854775807) :
    q5s Tryz.prog 68 [.slice A n c] w [] (fun v hp' => q9R 9 1 v n xs hp') := by
  refine q5I 8 Tryz.func68 rfl Tryz.ntmps68 rfl ?_
  refine q7i ?_
  refine z1x rfl rfl ?_
  refine q5t ?_
  refine q3F ?_
  refine q7i ?_
  refine z5l rfl rfl ?_
  refine q5W rfl (q5w rfl rfl z5o) (fun hc1 => ?_) (fun hc1 => ?_)
  ·
    refine q5t ?_
    refine k7 rfl ?_
    refine q7i ?_
    refine z1x rfl rfl ?_
    refine q5t ?_
    refine q4B ?_
    refine X9 ?_
    subst hc1
    obtain rfl := hR.none_nil
    obtain rfl : n = 0 := by simp at hl; omega
    refine q4D (hp' := []) (by repeat (first | exact List.Sublist.refl _ | exact List.nil_sublist _ | exact Kb _ _ | exact Kc _ _ | exact (Kc _ _).trans (Kc _ _) | apply List.Sublist.cons_cons | apply List.Sublist.cons)) ?_
    exact z6p (k9.Le.refl _) rfl rfl (q9R.nil)
  ·
    refine q5t ?_
    refine w9 rfl ?_
    refine q4z ?_
    refine Q9 ?_
    refine q7i ?_
    refine z2i rfl (V3 (el := 9) [] [] rfl (fun _ => by kernel_rfl)) ?_
    rintro _ _ ⟨g0, rfl, rfl⟩
    refine z5l rfl rfl ?_
    refine z2i rfl (z0p xs z5o j7y rfl (by decide) rfl rfl hl (fun w ho => hR.old ho) hn.2 hn.1) ?_
    rintro _ _ ⟨hs, rfl, hseg⟩
    refine z1x rfl rfl ?_
    refine q5t ?_
    refine q4B ?_
    refine q4D (hp' := hs) (by repeat (first | exact List.Sublist.refl _ | exact List.nil_sublist _ | exact Kb _ _ | exact Kc _ _ | exact (Kc _ _).trans (Kc _ _) | apply List.Sublist.cons_cons | apply List.Sublist.cons)) ?_
    exact z6p (k9.Le.refl _) rfl rfl hseg
theorem z1V (b : k9) (R : Hp) (d e f) (i : FZ RT.str b.w e f d) (a) (hm : q3r d = some a):
 v8 Tryz.prog 68 [sv e d f] b (R) (fun v b' hp' => ∃ g h c, sv g a h = v ∧ (c ++ R) = hp' ∧ OS 9 (OT.fr RT.str) b'.w (sv g a h) a c) := by
 unfold q3r at hm
 obtain ⟨_, hroom, hm⟩ := bS hm
 have hroom := W9 hroom
 obtain rfl := o1 hm
 exact q5N (r := RT.str) (sz := 1) (by_ := 16) rfl (by decide) z1c i hroom
theorem z1b (A : Option Addr) (n c : Nat) (xs : List Value) (w : World) (hR : Rd w A xs) (hl : xs.length = n * 7) (hn : n * 56 ≤ 140737488355328 ∧ n ≤ 9223372036854775807) :
    q5s Tryz.prog 69 [.slice A n c] w [] (fun v hp' => q9R 108 7 v n xs hp') := by
  refine q5I 8 Tryz.func69 rfl Tryz.ntmps69 rfl ?_
  refine q7i ?_
  refine z1x rfl rfl ?_
  refine q5t ?_
  refine q3F ?_
  refine q7i ?_
  refine z5l rfl rfl ?_
  refine q5W rfl (q5w rfl rfl z1y) (fun hc1 => ?_) (fun hc1 => ?_)
  ·
    refine q5t ?_
    refine k7 rfl ?_
    refine q7i ?_
    refine z1x rfl rfl ?_
    refine q5t ?_
    refine q4B ?_
    refine X9 ?_
    subst hc1
    obtain rfl := hR.none_nil
    obtain rfl : n = 0 := by simp at hl; omega
    refine q4D (hp' := []) (by repeat (first | exact List.Sublist.refl _ | exact List.nil_sublist _ | exact Kb _ _ | exact Kc _ _ | exact (Kc _ _).trans (Kc _ _) | apply List.Sublist.cons_cons | apply List.Sublist.cons)) ?_
    exact z6p (k9.Le.refl _) rfl rfl (q9R.nil)
  ·
    refine q5t ?_
    refine w9 rfl ?_
    refine q4z ?_
    refine Q9 ?_
    refine q7i ?_
    refine z2i rfl (V3 (el := 108) [] [] rfl (fun _ => by kernel_rfl)) ?_
    rintro _ _ ⟨g0, rfl, rfl⟩
    refine z5l rfl rfl ?_
    refine z2i rfl (z0p xs z1y j5d rfl (by decide) rfl rfl hl (fun w ho => hR.old ho) hn.2 hn.1) ?_
    rintro _ _ ⟨hs, rfl, hseg⟩
    refine z1x rfl rfl ?_
    refine q5t ?_
    refine q4B ?_
    refine q4D (hp' := hs) (by repeat (first | exact List.Sublist.refl _ | exact List.nil_sublist _ | exact Kb _ _ | exact Kc _ _ | exact (Kc _ _).trans (Kc _ _) | apply List.Sublist.cons_cons | apply List.Sublist.cons)) ?_
    exact z6p (k9.Le.refl _) rfl rfl hseg
theorem z1U (b : k9) (R : Hp) (d e f) (i : FZ j4 b.w e f d) (a) (hm : q3q d = some a):
 v8 Tryz.prog 69 [sv e d f] b (R) (fun v b' hp' => ∃ g h c, sv g a h = v ∧ (c ++ R) = hp' ∧ OS 108 (OT.fr j4) b'.w (sv g a h) a c) := by
 unfold q3q at hm
 obtain ⟨_, hroom, hm⟩ := bS hm
 have hroom := W9 hroom
 obtain rfl := o1 hm
 exact q5N (r := j4) (sz := 7) (by_ := 56) rfl (by decide) z1b i hroom
theorem z1a (A : Option Addr) (n c : Nat) (xs : List Value) (w : World) (hR : Rd w A xs) (hl : xs.length = n * 4) (hn : n * 32 ≤ 140737488355328 ∧ n ≤ 9223372036854775807) :
    q5s Tryz.prog 70 [.slice A n c] w [] (fun v hp' => q9R 145 4 v n xs hp') := by
  refine q5I 8 Tryz.func70 rfl Tryz.ntmps70 rfl ?_
  refine q7i ?_
  refine z1x rfl rfl ?_
  refine q5t ?_
  refine q3F ?_
  refine q7i ?_
  refine z5l rfl rfl ?_
  refine q5W rfl (q5w rfl rfl j0z) (fun hc1 => ?_) (fun hc1 => ?_)
  ·
    refine q5t ?_
    refine k7 rfl ?_
    refine q7i ?_
    refine z1x rfl rfl ?_
    refine q5t ?_
    refine q4B ?_
    refine X9 ?_
    subst hc1
    obtain rfl := hR.none_nil
    obtain rfl : n = 0 := by simp at hl; omega
    refine q4D (hp' := []) (by repeat (first | exact List.Sublist.refl _ | exact List.nil_sublist _ | exact Kb _ _ | exact Kc _ _ | exact (Kc _ _).trans (Kc _ _) | apply List.Sublist.cons_cons | apply List.Sublist.cons)) ?_
    exact z6p (k9.Le.refl _) rfl rfl (q9R.nil)
  ·
    refine q5t ?_
    refine w9 rfl ?_
    refine q4z ?_
    refine Q9 ?_
    refine q7i ?_
    refine z2i rfl (V3 (el := 145) [] [] rfl (fun _ => by kernel_rfl)) ?_
    rintro _ _ ⟨g0, rfl, rfl⟩
    refine z5l rfl rfl ?_
    refine z2i rfl (z0p xs j0z j5b rfl (by decide) rfl rfl hl (fun w ho => hR.old ho) hn.2 hn.1) ?_
    rintro _ _ ⟨hs, rfl, hseg⟩
    refine z1x rfl rfl ?_
    refine q5t ?_
    refine q4B ?_
    refine q4D (hp' := hs) (by repeat (first | exact List.Sublist.refl _ | exact List.nil_sublist _ | exact Kb _ _ | exact Kc _ _ | exact (Kc _ _).trans (Kc _ _) | apply List.Sublist.cons_cons | apply List.Sublist.cons)) ?_
    exact z6p (k9.Le.refl _) rfl rfl hseg
theorem z1T (b : k9) (R : Hp) (d e f) (i : FZ Q0 b.w e f d) (a) (hm : q3p d = some a):
 v8 Tryz.prog 70 [sv e d f] b (R) (fun v b' hp' => ∃ g h c, sv g a h = v ∧ (c ++ R) = hp' ∧ OS 145 (OT.fr Q0) b'.w (sv g a h) a c) := by
 unfold q3p at hm
 obtain ⟨_, hroom, hm⟩ := bS hm
 have hroom := W9 hroom
 obtain rfl := o1 hm
 exact q5N (r := Q0) (sz := 4) (by_ := 32) rfl (by decide) z1a i hroom
theorem z0Z (A : Option Addr) (n c : Nat) (xs : List Value) (w : World) (hR : Rd w A xs) (hl : xs.length = n * 2) (hn : n * 16 ≤ 140737488355328 ∧ n ≤ 9223372036854775807) :
    q5s Tryz.prog 71 [.slice A n c] w [] (fun v hp' => q9R 128 2 v n xs hp') := by
  refine q5I 8 Tryz.func71 rfl Tryz.ntmps71 rfl ?_
  refine q7i ?_
  refine z1x rfl rfl ?_
  refine q5t ?_
  refine q3F ?_
  refine q7i ?_
  refine z5l rfl rfl ?_
  refine q5W rfl (q5w rfl rfl z5d) (fun hc1 => ?_) (fun hc1 => ?_)
  ·
    refine q5t ?_
    refine k7 rfl ?_
    refine q7i ?_
    refine z1x rfl rfl ?_
    refine q5t ?_
    refine q4B ?_
    refine X9 ?_
    subst hc1
    obtain rfl := hR.none_nil
    obtain rfl : n = 0 := by simp at hl; omega
    refine q4D (hp' := []) (by repeat (first | exact List.Sublist.refl _ | exact List.nil_sublist _ | exact Kb _ _ | exact Kc _ _ | exact (Kc _ _).trans (Kc _ _) | apply List.Sublist.cons_cons | apply List.Sublist.cons)) ?_
    exact z6p (k9.Le.refl _) rfl rfl (q9R.nil)
  ·
    refine q5t ?_
    refine w9 rfl ?_
    refine q4z ?_
    refine Q9 ?_
    refine q7i ?_
    refine z2i rfl (V3 (el := 128) [] [] rfl (fun _ => by kernel_rfl)) ?_
    rintro _ _ ⟨g0, rfl, rfl⟩
    refine z5l rfl rfl ?_
    refine z2i rfl (z0p xs z5d j5c rfl (by decide) rfl rfl hl (fun w ho => hR.old ho) hn.2 hn.1) ?_
    rintro _ _ ⟨hs, rfl, hseg⟩
    refine z1x rfl rfl ?_
    refine q5t ?_
    refine q4B ?_
    refine q4D (hp' := hs) (by repeat (first | exact List.Sublist.refl _ | exact List.nil_sublist _ | exact Kb _ _ | exact Kc _ _ | exact (Kc _ _).trans (Kc _ _) | apply List.Sublist.cons_cons | apply List.Sublist.cons)) ?_
    exact z6p (k9.Le.refl _) rfl rfl hseg
theorem z1S (b : k9) (R : Hp) (d e f) (i : FZ j6 b.w e f d) (a) (hm : q3o d = some a):
 v8 Tryz.prog 71 [sv e d f] b (R) (fun v b' hp' => ∃ g h c, sv g a h = v ∧ (c ++ R) = hp' ∧ OS 128 (OT.fr j6) b'.w (sv g a h) a c) := by
 unfold q3o at hm
 obtain ⟨_, hroom, hm⟩ := bS hm
 have hroom := W9 hroom
 obtain rfl := o1 hm
 exact q5N (r := j6) (sz := 2) (by_ := 16) rfl (by decide) z0Z i hroom
end Go.Proofs.YtjlollifgeggdaaGreatDoor
