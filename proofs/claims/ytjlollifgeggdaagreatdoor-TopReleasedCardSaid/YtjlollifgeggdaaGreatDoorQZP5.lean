import Derived.Test.YtjlollifgeggdaaGreatDoorQZP4
set_option linter.unusedVariables false
set_option linter.unusedSimpArgs false
set_option linter.unusedSectionVars false
namespace Go.Proofs.YtjlollifgeggdaaGreatDoor
open Go.RowKit Go.Fp
set_option maxHeartbeats 4000000
set_option maxRecDepth 20000
open Go.Fp renaming q5t → Te, q7d → Tn, q5W → Tb, q8S → Tg, q7Q → Tv, z3Q → Tr, q7i → Cr, q3F → Cs, q0I → Cg, q7C → Cb, q4B → Ct, q4z → Ck, z2C → Ce, z4I → Cj, z1f → Cp, Q9 → Xn, X9 → Xr, q2i → Xe, q2j → Xb, q0R → Xm, q2X → Xo, q7K → X3, q7J → X4, j1Z → Es, z8g → E0, j6k → Yz, j2O → Ei, z6d → Eo, z8c → Da, z2J → Dd, z1w → Di, j6f → Rd2, z8b → Rn, z0y → sL, q7R → sD, q7T → sF, z2j → sN, z2l → sE, q3L → sM, q2d → sA, q6m → pT, q6n → pF, q1s → sI, q2l → sO, q3y → sP, q2t → sQ, z2m → sa, z3U → sb, q6W → lT, q6X → lF, q7k → sn2, z5k → uB, q8Q → uA, z0l → uS, q5u → uN, q7N → uW, z2M → uP, z0o → uQ, q5m → fE, q6e → bS, z5m → o1, q5G → iS, q6U → ss, z2R → sp, q8s → kS, z3x → d4, z9h → mc, z9g → mn, z0B → q1, z0w → q2, z2k → q3, z0z → q5, z0A → q6
theorem q9O : ∀ (N : Nat) (b : k9) (R : Hp) (E O S T U V W X G H I aH aI) (ads : Int → Nat) (J ac ad ae af ag ah ai aj ak al am an ao aq A3 c4 n A8 c9 j ar au e av f k) (aU : FZ RT.str b.w ac ad O) (aV : FZ j4 b.w ae af S) (aW : FZ Q0 b.w ag ah T) (aX : FZ j6 b.w ai aj U) (aY : FZ Q1 b.w ak al V) (aZ : FZ Z3 b.w am an W) (a0 : FZ (RT.list j7) b.w ao aq X) (h5 : OS 3 (OT.fr rI) b.w (sv A3 G c4) G n) (a1 : OS 80 (OT.fr Q5) b.w (sv A8 H c9) H j) (a2 : OS 94 (OT.fr Q7) b.w (sv ar I au) I e) (a3 : OM rI (OT.fr (RT.key ads)) false false b.w av aH f) (aG : OAr 90 j8 ads b.w aI k) (aJ az) (hm : Z2 N E O S T U V W X G H I aH aI = some (aJ, az)),
 v8 Tryz.prog 46 [pb J, iv E, sv A3 G c4] b ((J, Cl 78 [sv ac O ad, sv ae S af, sv ag T ah, sv ai U aj, sv ak V al, sv am W an, sv ao X aq, sv A8 H c9, sv ar I au, .map (some av)]) :: (n ++ (j ++ (e ++ (f ++ (k ++ R)))))) (fun v b' hp' => ∃ bQ bR ba, iv aJ = v ∧ (J, Cl 78 [sv ac O ad, sv ae S af, sv ag T ah, sv ai U aj, sv ak V al, sv am W an, sv ao X aq, sv A8 H c9, sv ar I au, .map (some av)]) :: (ba ++ (j ++ (e ++ (f ++ (k ++ R))))) = hp' ∧ OS 3 (OT.fr rI) b'.w (sv bQ az bR) az ba) := by
  intro N
  induction N with
  | zero =>
    intro b R E O S T U V W X G H I aH aI ads J ac ad ae af ag ah ai aj ak al am an ao aq A3 c4 n A8 c9 j ar au e av f k aU aV aW aX aY aZ a0 h5 a1 a2 a3 aG aJ az hm
    unfold Z2 at hm
    cases hm
  | succ N ih =>
   intro b R E O S T U V W X G H I aH aI ads J ac ad ae af ag ah ai aj ak al am an ao aq A3 c4 n A8 c9 j ar au e av f k aU aV aW aX aY aZ a0 h5 a1 a2 a3 aG aJ az hm
   refine fE 74 Tryz.func46 rfl Tryz.ntmps46 rfl ?_
   unfold Z2 at hm
   refine Cr<|aS rfl<|Te<|Cs<|Cr<|mV rfl<|mV rfl ?_
   obtain ⟨bT, bb, hm⟩ := bS hm
   refine tD (uW _ j6c rfl (fun w ho => q9p _ [] G E A3 c4 (OS.now (o := (OT.fr rI)) (l := G) (hs := n) h5 ho (.cons _ (Kb _ _))) bT bb) (fun _ _ _ h => h.2.symm)) ?_
   rintro _ _ ⟨⟨_, rfl, _⟩, rfl⟩
   refine Te ?_
   refine cB hm rfl (fun hm => ?_) fun hm => ?_
   refine Cr<|aS rfl<|Te<|Ct<|Xr ?_
   obtain ⟨rfl, rfl⟩ := V9 hm
   exact rO ⟨A3, c4, n, rfl, rfl, h5⟩ lr
   refine Ck<|Xn<|Cs<|Cr<|mV rfl ?_
   obtain ⟨aw, bc, hm⟩ := bS hm
   refine P4 n j e f k<|P4 k n j e f<|P4 f k n j e<|P4 e f k n j<|G7 [_] [] j e f k (n ++ R) rfl<|Tg _ rfl z7c rfl (q4d _ _ O S T U V W X H I aH aI ads J ac ad ae af ag ah ai aj ak al am an ao aq A8 c9 j ar au e av f k aU aV aW aX aY aZ a0 a1 a2 a3 aG aw bc) ?_
   rintro _ bU _ d ⟨bd, be, a, rfl, rfl, bf⟩
   refine z2O [_] [] a j e f k (n ++ R) rfl<|tS (sE rfl j0V)<|mV rfl<|Te<|Cb ?_
   have cc : aw.length ≤ 9223372036854775807 := (OS.len bf)
   refine X1 a j e f k<|X1 k a j e f<|X1 f k a j e<|X1 e f k a j<|X1 j e f k a<|j1O a j e f k n ?_
   obtain ⟨cs, br, D⟩ := bS hm
   refine lF (fun a4 => fun _ => fun aK e' hp' => [(0, pb J), (1, iv E), (2, sv A3 G c4), (13, sv bd aw be), (14, iv ((aw.length : Int))), (15, iv ((a4 : Int)))] = e' ∧ (J, Cl 78 [sv ac O ad, sv ae S af, sv ag T ah, sv ai U aj, sv ak V al, sv am W an, sv ao X aq, sv A8 H c9, sv ar I au, .map (some av)]) :: (n ++ (a ++ (j ++ (e ++ (f ++ (k ++ R)))))) = hp' ∧ bU.Le aK) br ⟨rfl, rfl, lr⟩ ?_ ?_
   rintro a4 _ aK _ _ cd b9 ⟨rfl, rfl, c⟩ ax K
   unfold Z1 at ax
   have hm := ax
   refine Cr<|tS (lT rfl rfl (by omega))<|Te<|Cs<|k7 rfl<|Ck<|Xn<|Cs<|Cb<|Cr ?_
   obtain ⟨ct, bV, hm⟩ := bS hm
   obtain ⟨bW, bs, bt⟩ := iS bV
   obtain ⟨ce, cf, cu, cv, cg, bu, bg, bw, bh, ch, ca⟩ := OS.get (sz := 1) rfl (by decide) (bf.le c) bt
   obtain ⟨rfl, rfl⟩ := bu
   refine tS (sI bW rfl rfl bs bh bw j0V)<|tS (Q3 rfl j1f (fun w ho => bg w _ ho (.cons _ (ss n (Kb _ _))) 0 _ rfl))<|aS rfl<|Te<|Cs ?_
   obtain ⟨⟨bX, bY⟩, bx, bz⟩ := bS hm
   refine Cj (fun a5 e' hp' => [(0, pb J), (1, iv E), (2, sv A3 G c4), (8, kv ads bX), (13, sv bd aw be), (14, iv ((aw.length : Int))), (15, iv ((a4 : Int))), (46, bv bY)] = e' ∧ (J, Cl 78 [sv ac O ad, sv ae S af, sv ag T ah, sv ai U aj, sv ak V al, sv am W an, sv ao X aq, sv A8 H c9, sv ar I au, .map (some av)]) :: (n ++ (a ++ (j ++ (e ++ (f ++ (k ++ R)))))) = hp' ∧ aK.Le a5) ?_ ?_
   have hm := bx
   refine Cg<|mV rfl ?_
   obtain ⟨aL, a6, hm⟩ := bS hm
   obtain ⟨cw, bZ, hm⟩ := bS hm
   refine Tr 8 rfl (v' := .pointer (some ⟨(ads aL), 0, none⟩)) (by rw [a6]; rfl)<|Tr 18 rfl (v' := .pointer (some ⟨(ads aL), 0, none⟩)) (by rw [a6]; rfl)<|Tr 19 rfl (v' := .pointer (some ⟨(ads aL), 0, none⟩)) (by rw [a6]; rfl) ?_
   obtain ⟨ci, cj, t, Y, bA, hf1850⟩ := OAr.take (aG.le (d.trans c)) bZ
   obtain ⟨cx, cy, cz, cA, cC, cD, u, cE, cG, x, rfl, cH, cJ, b0, cK, rfl⟩ := bA
   refine z8r n a j e f k<|q2B [_] k t u x (n ++ (a ++ (j ++ (e ++ (f ++ R))))) rfl Y<|tS (sN rfl)<|tS (sF rfl q2O)<|tS (sF rfl q5L)<|tS (sL 0 rfl Q8 rfl rfl)<|mV rfl ?_
   refine Tb rfl (q2 rfl rfl) (fun aM => ?_) (fun aM => ?_)
   rw [if_pos aM] at hm
   refine mV rfl<|nO<|nO<|nO<|nO<|nO<|nO<|tS (pT rfl rfl)<|mV rfl<|nO ?_
   refine nO<|nO<|nO<|nO<|tS (pT rfl rfl)<|mV rfl<|nO<|nO<|nO<|nO ?_
   refine tS (pT rfl rfl)<|Tn<|G6 u x t<|G6 t u x<|G6 x t u<|q3I [_] k t u x (n ++ (a ++ (j ++ (e ++ (f ++ R))))) rfl Y ?_
   obtain ⟨rfl, rfl⟩ := V9 hm
   exact jJ ⟨rfl, rfl, lr⟩
   rw [if_neg aM] at hm
   refine mV rfl<|yS<|mV rfl<|yS<|tS (sN rfl)<|yS<|tS (sF rfl q3d)<|yS<|tS (sL 0 rfl q5C rfl rfl)<|yS ?_
   obtain ⟨b1, b2, hm⟩ := bS hm
   obtain ⟨b3, bB, bC⟩ := iS b2
   obtain ⟨ck, cl, cO, cP, cm, bD, bi, bE, bj, cn, cb⟩ := OS.get (sz := 1) rfl (by decide) b0 bC
   obtain ⟨rfl, rfl⟩ := bD
   refine tS (sI b3 rfl rfl bB bj bE z0D)<|yS<|tS (Q3 rfl q6p (fun w ho => bi w _ ho (.cons _ (.cons _ (Kb _ _))) 0 _ rfl)) ?_
   rcases Kg b1 with Z | Z
   rw [if_pos Z] at hm
   refine Tr 32 rfl (v' := .bool true) (by rw [Z] <;> rfl)<|tS (pF rfl rfl)<|mV rfl<|nO<|nO<|nO<|nO<|nO<|tS (pT rfl rfl)<|mV rfl ?_
   refine nO<|nO<|nO<|nO<|tS (pT rfl rfl)<|Tn<|G6 u x t<|G6 t u x<|G6 x t u<|q3I [_] k t u x (n ++ (a ++ (j ++ (e ++ (f ++ R))))) rfl Y ?_
   obtain ⟨rfl, rfl⟩ := V9 hm
   exact jJ ⟨rfl, rfl, lr⟩
   rw [if_neg (fun hh => Bool.noConfusion (hh.symm.trans Z))] at hm
   refine Tr 32 rfl (v' := .bool false) (by rw [Z] <;> rfl)<|tS (pF rfl rfl)<|mV rfl<|yS<|mV rfl<|yS<|tS (sN rfl)<|yS<|tS (sF rfl q7y)<|yS ?_
   refine tS (sL 0 rfl Q8 rfl rfl)<|yS ?_
   refine Tb rfl (q5 rfl rfl) (fun aN => ?_) (fun aN => ?_)
   rw [if_pos aN] at hm
   refine tS (pF rfl rfl)<|mV rfl<|nO<|nO<|nO<|nO<|tS (pT rfl rfl)<|Tn<|G6 u x t<|G6 t u x ?_
   refine G6 x t u<|q3I [_] k t u x (n ++ (a ++ (j ++ (e ++ (f ++ R))))) rfl Y ?_
   obtain ⟨rfl, rfl⟩ := V9 hm
   exact jJ ⟨rfl, rfl, lr⟩
   rw [if_neg aN] at hm
   refine tS (pF rfl rfl)<|mV rfl<|yS<|mV rfl<|yS<|mV rfl<|yS<|z2N u x t<|z2N t u x<|z2N x t u ?_
   refine j4z [_] k t u x (n ++ (a ++ (j ++ (e ++ (f ++ R))))) rfl Y ?_
   obtain ⟨b4, bk, hm⟩ := bS hm
   refine z8r k n a j e f<|z8r f k n a j e<|z8r e f k n a j<|K6 j e f k<|G7 [_] [] k j e f (n ++ (a ++ R)) rfl<|Tg _ rfl j5r rfl (z3B _ _ (some aL) O S T U V W X aI H I aH ads J ac ad ae af ag ah ai aj ak al am an ao aq k A8 c9 j ar au e av f (aU.le (d.trans c)) (aV.le (d.trans c)) (aW.le (d.trans c)) (aX.le (d.trans c)) (aY.le (d.trans c)) (aZ.le (d.trans c)) (a0.le (d.trans c)) (aG.le (d.trans c)) (a1.le (d.trans c)) (a2.le (d.trans c)) (a3.le (d.trans c)) b4 bk) ?_
   rintro _ cQ _ bl ⟨rfl, rfl⟩
   refine q3K [_] [] k j e f (n ++ (a ++ R)) rfl<|yS<|tS (sn2 rfl)<|tS (pF rfl rfl)<|Tn ?_
   obtain ⟨rfl, rfl⟩ := V9 hm
   exact jJ ⟨rfl, rfl, bl⟩
   rintro a5 _ _ ⟨rfl, rfl, g⟩
   have hm := (H0 bz)
   refine cB hm rfl (fun hm => ?_) fun hm => ?_
   refine Ce<|Xe<|Xo<|Xn<|Cg<|tS (sa rfl rfl (by omega))<|mV rfl<|Tn ?_
   exact jM hm ⟨rfl, rfl, ((c.trans g))⟩
   refine Ck<|Xn<|Cs<|Cb<|Cr<|mV rfl ?_
   obtain ⟨bm, bn, hm⟩ := bS hm
   obtain ⟨cR, b5, hm⟩ := bS hm
   refine Tr 8 rfl (v' := .pointer (some ⟨(ads bm), 0, none⟩)) (by rw [bn]; rfl)<|Tr 48 rfl (v' := .pointer (some ⟨(ads bm), 0, none⟩)) (by rw [bn]; rfl) ?_
   obtain ⟨co, cp, A, aO, bG, hf1898⟩ := OAr.take (aG.le (d.trans (c.trans g))) b5
   obtain ⟨cT, cU, cV, cW, cX, cY, B, cZ, c0, C, rfl, c1, c2, c3, c5, rfl⟩ := bG
   refine z8r n a j e f k<|q2B [_] k A B C (n ++ (a ++ (j ++ (e ++ (f ++ R))))) rfl aO<|tS (sN rfl)<|tS (sF rfl z9C)<|tS (sL 0 rfl q6p rfl rfl)<|aS rfl<|Te ?_
   refine cB hm rfl (fun hm => ?_) fun hm => ?_
   refine Cr<|aS rfl<|Te<|Ct<|Xb<|Xr<|Xb<|Xr<|Xr<|Xb ?_
   refine Xr ?_
   have bH := K _ (Kd hm).symm
   rw [bH] at D
   have hm := V8 D
   refine G6 B C A<|G6 A B C<|G6 C A B<|q3I [_] k A B C (n ++ (a ++ (j ++ (e ++ (f ++ R))))) rfl aO ?_
   obtain ⟨rfl, rfl⟩ := V9 hm
   have bI := (h5.le (d.trans (c.trans g)))
   exact rO ⟨A3, c4, n, rfl, rfl, bI⟩ (d.trans (c.trans g))
   refine q6D B C A<|q6D A B C<|q6D C A B<|z4J [_] k A B C (n ++ (a ++ (j ++ (e ++ (f ++ R))))) rfl aO ?_
   obtain ⟨⟨b6, bo⟩, bJ, bK⟩ := bS hm
   refine Cj (fun a7 e' hp' => ∃ aP aQ aa, [(52, bv b6)] = e' ∧ (J, Cl 78 [sv ac O ad, sv ae S af, sv ag T ah, sv ai U aj, sv ak V al, sv am W an, sv ao X aq, sv A8 H c9, sv ar I au, .map (some av)]) :: (aa ++ (j ++ (e ++ (f ++ (k ++ R))))) = hp' ∧ a5.Le a7 ∧ OS 3 (OT.fr rI) a7.w (sv aP bo aQ) bo aa) ?_ ?_
   have hm := bJ
   obtain ⟨aR, b7, hm⟩ := bS hm
   obtain ⟨cq, cr, p, ab, bL, hf1987⟩ := OAr.take (aG.le (d.trans (c.trans g))) b7
   obtain ⟨c6, c7, c8, da, db, dc, q, dd, de, s, rfl, df, dg, dh, di, rfl⟩ := bL
   refine z1g [_] k p q s (n ++ (a ++ (j ++ (e ++ (f ++ R))))) rfl ab ?_
   by_cases ay : 0 ≤ aR.Route.To
   rw [if_pos ay] at hm
   obtain ⟨_, L, hm⟩ := bS hm
   obtain ⟨⟨a8, a9⟩, aA, hm⟩ := bS hm
   have hm := (H0 hm)
   refine Di mixed (.cons _ (.cons _ (ss q (ss s (ss p (ss n (sp a (ss j (ss e (ss f (.refl _)))))))))))<|E0 0 rfl (sM rfl)<|E0 1 rfl (sN rfl)<|E0 2 rfl (sF rfl q2O)<|E0 3 rfl (sF rfl q5K)<|Eo<|Da [4] (by kernel_rfl) rfl ?_
   refine Rd2 lr rfl rfl (Z0.does (sL 0 rfl Q8 rfl rfl)) ?_ ?_
   rintro _ _ ⟨rfl, rfl⟩
   refine iR<|Ei lr (.cons _ (.cons _ (ss q (ss s (ss p (ss n (sp a (ss j (ss e (ss f (.refl _)))))))))))<|E0 5 rfl (j0O rfl rfl ay)<|E0 6 rfl (sM rfl)<|Yz 7 59 rfl (sM rfl)<|Yz 8 59 rfl (sM rfl)<|Yz 9 59 rfl (sN rfl)<|Yz 10 59 rfl (sF rfl q2O)<|Yz 11 59 rfl (sF rfl q5K)<|Yz 13 59 rfl (sM rfl) ?_
   refine Yz 14 59 rfl (sM rfl)<|Eo<|Da [12, 15] (by kernel_rfl) rfl ?_
   refine q3j lr rfl rfl 59 rfl rfl rfl (Z0.does (sL 0 rfl Q8 rfl rfl)) ?_ ?_
   rintro _ _ ⟨rfl, rfl⟩
   refine iR<|Da [15] (by kernel_rfl) rfl ?_
   refine q3j lr rfl rfl 59 rfl rfl rfl (V3 (el := 3) [(0, iv E)] [iv E] rfl (fun _ => by kernel_rfl)) ?_ ?_
   rintro _ _ ⟨b8, rfl, rfl⟩
   refine iR ?_
   have L := W9 L
   refine z0U q s p n<|Da [16] (by kernel_rfl) rfl ?_
   refine q3j lr rfl rfl 59 rfl rfl rfl (uQ (r := rI) (l := G) [_, _, _] (q ++ (s ++ (p ++ (a ++ (j ++ (e ++ (f ++ R))))))) [[iv E]] [E] rfl (by decide) q5y j6Y rfl rfl rfl rfl (h5.le (d.trans (c.trans g))) rfl (fun w ho => Rd.own (i := 0) ho rfl) ⟨rfl, trivial⟩ L) ?_ ?_
   rintro _ _ ⟨m, rfl, F⟩
   obtain ⟨aB, aC, rfl, _⟩ := F.form
   refine iR<|q1a 1 rfl<|z0U m q s p<|z0U p m q s<|z0U s p m q<|j3O [_, _] k p q s (m ++ (a ++ (j ++ (e ++ (f ++ R))))) rfl ab<|q1a 1 rfl<|z1N k m a j e f<|z1N f k m a j e<|z1N e f k m a j ?_
   refine j3L j e f k m<|z9H [_] [_] m j e f k (a ++ R) rfl<|Da [17] (by kernel_rfl) rfl ?_
   refine q5r lr rfl rfl 59 rfl rfl rfl _ z7a rfl (ih _ _ aR.Route.To O S T U V W X (G ++ [E]) H I aH aI ads J ac ad ae af ag ah ai aj ak al am an ao aq aB aC m A8 c9 j ar au e av f k (aU.le (d.trans (c.trans g))) (aV.le (d.trans (c.trans g))) (aW.le (d.trans (c.trans g))) (aX.le (d.trans (c.trans g))) (aY.le (d.trans (c.trans g))) (aZ.le (d.trans (c.trans g))) (a0.le (d.trans (c.trans g))) F (a1.le (d.trans (c.trans g))) (a2.le (d.trans (c.trans g))) (a3.le (d.trans (c.trans g))) (aG.le (d.trans (c.trans g))) a8 a9 aA) ?_ ?_
   rintro _ bp _ z ⟨aD, aE, y, rfl, rfl, aF⟩
   refine iR<|j3N [_] [_] y j e f k (a ++ R) rfl<|Ei z (.cons _ (.cons _ (ss y (ss j (ss e (ss f (ss k (.refl _))))))))<|Yz 18 59 rfl (q2 rfl rfl)<|E0 19 rfl (pT rfl rfl)<|E0 20 rfl (sA rfl)<|Eo<|Dd (by kernel_rfl) ?_
   obtain ⟨rfl, rfl⟩ := V9 hm
   exact jJ ⟨aD, aE, y, rfl, rfl, z, aF⟩
   exact Rn
   exact Rn
   exact Rn
   refine q3j lr rfl rfl 59 rfl rfl rfl (V3 (el := 3) [(0, iv E)] [iv E] rfl (fun _ => by kernel_rfl)) ?_ ?_
   rintro _ _ ⟨b8, rfl, rfl⟩
   refine iR ?_
   have L := W9 L
   refine z0U q s p n<|Da [12, 16] (by kernel_rfl) rfl ?_
   refine q3j lr rfl rfl 59 rfl rfl rfl (Z0.does (sL 1 rfl Q8 rfl rfl)) ?_ ?_
   rintro _ _ ⟨rfl, rfl⟩
   refine iR<|Da [16] (by kernel_rfl) rfl ?_
   refine q3j lr rfl rfl 59 rfl rfl rfl (uQ (r := rI) (l := G) [_, _, _] (q ++ (s ++ (p ++ (a ++ (j ++ (e ++ (f ++ R))))))) [[iv E]] [E] rfl (by decide) q5y j6Y rfl rfl rfl rfl (h5.le (d.trans (c.trans g))) rfl (fun w ho => Rd.own (i := 0) ho rfl) ⟨rfl, trivial⟩ L) ?_ ?_
   rintro _ _ ⟨m, rfl, F⟩
   obtain ⟨aB, aC, rfl, _⟩ := F.form
   refine iR<|q1a 1 rfl<|z0U m q s p<|z0U p m q s<|z0U s p m q<|j3O [_, _] k p q s (m ++ (a ++ (j ++ (e ++ (f ++ R))))) rfl ab<|q1a 1 rfl<|z1N k m a j e f<|z1N f k m a j e<|z1N e f k m a j ?_
   refine j3L j e f k m<|z9H [_] [_] m j e f k (a ++ R) rfl<|Da [17] (by kernel_rfl) rfl ?_
   refine q5r lr rfl rfl 59 rfl rfl rfl _ z7a rfl (ih _ _ aR.Route.To O S T U V W X (G ++ [E]) H I aH aI ads J ac ad ae af ag ah ai aj ak al am an ao aq aB aC m A8 c9 j ar au e av f k (aU.le (d.trans (c.trans g))) (aV.le (d.trans (c.trans g))) (aW.le (d.trans (c.trans g))) (aX.le (d.trans (c.trans g))) (aY.le (d.trans (c.trans g))) (aZ.le (d.trans (c.trans g))) (a0.le (d.trans (c.trans g))) F (a1.le (d.trans (c.trans g))) (a2.le (d.trans (c.trans g))) (a3.le (d.trans (c.trans g))) (aG.le (d.trans (c.trans g))) a8 a9 aA) ?_ ?_
   rintro _ bp _ z ⟨aD, aE, y, rfl, rfl, aF⟩
   refine iR<|j3N [_] [_] y j e f k (a ++ R) rfl<|Ei z (.cons _ (.cons _ (ss y (ss j (ss e (ss f (ss k (.refl _))))))))<|Yz 18 59 rfl (q2 rfl rfl)<|E0 19 rfl (pT rfl rfl)<|E0 20 rfl (sA rfl)<|Eo<|Dd (by kernel_rfl) ?_
   obtain ⟨rfl, rfl⟩ := V9 hm
   exact jJ ⟨aD, aE, y, rfl, rfl, z, aF⟩
   exact Rn
   exact Rn
   refine q3j lr rfl rfl 59 rfl rfl rfl (uQ (r := rI) (l := G) [_, _, _] (q ++ (s ++ (p ++ (a ++ (j ++ (e ++ (f ++ R))))))) [[iv E]] [E] rfl (by decide) q5y j6Y rfl rfl rfl rfl (h5.le (d.trans (c.trans g))) rfl (fun w ho => Rd.own (i := 0) ho rfl) ⟨rfl, trivial⟩ L) ?_ ?_
   rintro _ _ ⟨m, rfl, F⟩
   obtain ⟨aB, aC, rfl, _⟩ := F.form
   refine iR<|Da [12] (by kernel_rfl) rfl ?_
   refine q3j lr rfl rfl 59 rfl rfl rfl (Z0.does (sL 1 rfl Q8 rfl rfl)) ?_ ?_
   rintro _ _ ⟨rfl, rfl⟩
   refine iR<|q1a 1 rfl<|z0U m q s p<|z0U p m q s<|z0U s p m q<|j3O [_, _] k p q s (m ++ (a ++ (j ++ (e ++ (f ++ R))))) rfl ab<|q1a 1 rfl<|z1N k m a j e f<|z1N f k m a j e<|z1N e f k m a j ?_
   refine j3L j e f k m<|z9H [_] [_] m j e f k (a ++ R) rfl<|Da [17] (by kernel_rfl) rfl ?_
   refine q5r lr rfl rfl 59 rfl rfl rfl _ z7a rfl (ih _ _ aR.Route.To O S T U V W X (G ++ [E]) H I aH aI ads J ac ad ae af ag ah ai aj ak al am an ao aq aB aC m A8 c9 j ar au e av f k (aU.le (d.trans (c.trans g))) (aV.le (d.trans (c.trans g))) (aW.le (d.trans (c.trans g))) (aX.le (d.trans (c.trans g))) (aY.le (d.trans (c.trans g))) (aZ.le (d.trans (c.trans g))) (a0.le (d.trans (c.trans g))) F (a1.le (d.trans (c.trans g))) (a2.le (d.trans (c.trans g))) (a3.le (d.trans (c.trans g))) (aG.le (d.trans (c.trans g))) a8 a9 aA) ?_ ?_
   rintro _ bp _ z ⟨aD, aE, y, rfl, rfl, aF⟩
   refine iR<|j3N [_] [_] y j e f k (a ++ R) rfl<|Ei z (.cons _ (.cons _ (ss y (ss j (ss e (ss f (ss k (.refl _))))))))<|Yz 18 59 rfl (q2 rfl rfl)<|E0 19 rfl (pT rfl rfl)<|E0 20 rfl (sA rfl)<|Eo<|Dd (by kernel_rfl) ?_
   obtain ⟨rfl, rfl⟩ := V9 hm
   exact jJ ⟨aD, aE, y, rfl, rfl, z, aF⟩
   exact Rn
   exact Rn
   exact Rn
   exact Rn
   exact Rn
   rw [if_neg ay] at hm
   refine Di mixed (.refl _)<|E0 0 rfl (sM rfl)<|E0 1 rfl (sN rfl)<|E0 2 rfl (sF rfl q2O)<|E0 3 rfl (sF rfl q5K)<|Es 4 rfl (sL 0 rfl Q8 rfl rfl)<|E0 5 rfl (j0P rfl rfl ay)<|E0 6 rfl (sM rfl)<|eN 7 rfl<|eN 8 rfl ?_
   refine eN 9 rfl<|eN 10 rfl<|eN 11 rfl<|eN 12 rfl<|eN 13 rfl<|eN 14 rfl<|eN 15 rfl<|eN 16 rfl<|eN 17 rfl<|eN 18 rfl ?_
   refine E0 19 rfl (pF rfl rfl)<|E0 20 rfl (sA rfl)<|Eo<|Dd (by kernel_rfl)<|G6 q s p<|G6 p q s<|G6 s p q<|q3I [_] k p q s (n ++ (a ++ (j ++ (e ++ (f ++ R))))) rfl ab ?_
   obtain ⟨rfl, rfl⟩ := V9 hm
   exact jJ ⟨A3, c4, n, rfl, rfl, lr, (h5.le (d.trans (c.trans g)))⟩
   rintro a7 _ _ ⟨aP, aQ, aa, rfl, rfl, aT, bq⟩
   have hm := (H0 bK)
   refine cB hm rfl (fun hm => ?_) fun hm => ?_
   refine Cr<|aS rfl<|Te<|Ct<|Xb<|Xr<|Xb<|Xr<|Xr<|Xb ?_
   refine Xr ?_
   have bM := K _ (Kd hm).symm
   rw [bM] at D
   have hm := V8 D
   obtain ⟨rfl, rfl⟩ := V9 hm
   exact rO ⟨aP, aQ, aa, rfl, rfl, bq⟩ (d.trans (c.trans (g.trans aT)))
   refine Ck<|Xm<|Xn<|Cr<|aS rfl<|Te<|Ct<|Xb<|Xr<|Xr ?_
   refine Xb<|Xr ?_
   have bN := K _ (Kd hm).symm
   rw [bN] at D
   have hm := V8 D
   obtain ⟨rfl, rfl⟩ := V9 hm
   exact rO ⟨aP, aQ, aa, rfl, rfl, bq⟩ (d.trans (c.trans (g.trans aT)))
   rintro _ aK _ _ ⟨rfl, rfl, c⟩ bO
   rw [bO] at D
   have hm := G0 D
   refine Cr<|tS (lF rfl rfl (by omega))<|Te<|Cs<|w9 rfl<|Ce<|Xe<|Xe<|Xo<|Xn ?_
   refine Cr<|aS rfl<|Te<|Ct ?_
   obtain ⟨rfl, rfl⟩ := V9 hm
   have bP := (h5.le (d.trans c))
   exact rO ⟨A3, c4, n, rfl, rfl, bP⟩ (d.trans c)
theorem z1X (b : k9) (R : Hp) (K j k l m n p q g h O S) (ads : Int → Nat) (r s t u w x y z B C D E F G H U V e W X f I c d) (ae : FZ RT.str b.w s t j) (af : FZ j4 b.w u w k) (ag : FZ Q0 b.w x y l) (ah : FZ j6 b.w z B m) (ai : FZ Q1 b.w C D n) (aj : FZ Z3 b.w E F p) (ak : FZ (RT.list j7) b.w G H q) (h5 : OS 80 (OT.fr Q5) b.w (sv U g V) g e) (al : OS 94 (OT.fr Q7) b.w (sv W h X) h f) (am : OM rI (OT.fr (RT.key ads)) false false b.w I O c) (an : OAr 90 j8 ads b.w S d) (Y Z) (hm : G3 K j k l m n p q g h O S = some (Y, Z)):
 v8 Tryz.prog 17 [pb r, iv K] b ((r, Cl 78 [sv s j t, sv u k w, sv x l y, sv z m B, sv C n D, sv E p F, sv G q H, sv U g V, sv W h X, .map (some I)]) :: (e ++ (f ++ (c ++ (d ++ R))))) (fun v b' hp' => .tuple #[iv Y, iv Z] = v ∧ (r, Cl 78 [sv s j t, sv u k w, sv x l y, sv z m B, sv C n D, sv E p F, sv G q H, sv U g V, sv W h X, .map (some I)]) :: (e ++ (f ++ (c ++ (d ++ R)))) = hp') := by
 refine fE 21 Tryz.func17 rfl Tryz.ntmps17 rfl ?_
 unfold G3 at hm
 refine Cr<|aS rfl<|aS rfl<|Te<|Cs ?_
 obtain ⟨ao, aa, ab⟩ := bS hm
 refine Cj (fun ac e' hp' => [(0, pb r), (1, iv K), (17, bv ao)] = e' ∧ (r, Cl 78 [sv s j t, sv u k w, sv x l y, sv z m B, sv C n D, sv E p F, sv G q H, sv U g V, sv W h X, .map (some I)]) :: (e ++ (f ++ (c ++ (d ++ R)))) = hp' ∧ b.Le ac) ?_ ?_
 have hm := aa
 refine Cg<|mV rfl<|Tb rfl (q3 rfl rfl) (fun J => ?_) (fun J => ?_)
 rw [if_pos J] at hm
 refine mV rfl<|nO<|nO<|nO<|nO<|nO<|nO<|nO<|nO<|tS (pT rfl rfl)<|Tn ?_
 obtain rfl := o1 hm
 exact jJ ⟨rfl, rfl, lr⟩
 rw [if_neg J] at hm
 refine mV rfl<|yS<|mV rfl<|yS<|mV rfl<|yS<|tS (sN rfl)<|yS<|tS (sF rfl z0R)<|yS<|tS (sF rfl q3O)<|yS<|tS (sL 0 rfl q9J rfl rfl)<|yS<|tS (sE rfl z5d)<|yS<|tS (q6 rfl rfl)<|tS (pF rfl rfl)<|Tn ?_
 obtain rfl := o1 hm
 exact jJ ⟨rfl, rfl, lr⟩
 rintro ac _ _ ⟨rfl, rfl, a⟩
 have hm := ab
 refine cB hm rfl (fun hm => ?_) fun hm => ?_
 refine Cr<|aS rfl<|aS rfl<|Te<|Ct<|Xr ?_
 obtain ⟨rfl, rfl⟩ := V9 hm
 exact rT ⟨rfl, rfl⟩ a
 refine Ck<|Xn<|Cr<|mV rfl<|mV rfl ?_
 obtain ⟨⟨aq, ar⟩, i, hm⟩ := bS hm
 obtain ⟨L, i⟩ := q8g i
 have hm := H0 hm
 refine q5v [_] [] e f c d R rfl<|q5v [_] d [] e f c R rfl<|q5v [_] c d [] e f R rfl<|q5v [_] f c d [] e R rfl<|q5v [_] e f c d [] R rfl<|j2f [_] [] [] e f c d R rfl<|Tg _ rfl z7a rfl (q9O L _ _ K j k l m n p q ([] : List Int) g h O S ads r s t u w x y z B C D E F G H none 0 [] U V e W X f I c d (ae.le a) (af.le a) (ag.le a) (ah.le a) (ai.le a) (aj.le a) (ak.le a) (OS.nil (el := 3) (o := (OT.fr rI)) (A := none)) (h5.le a) (al.le a) (am.le a) (an.le a) aq ar i) ?_
 rintro _ au _ T ⟨av, aw, ad, rfl, rfl, ax⟩
 refine z2O [_] [] ad e f c d R rfl<|aS rfl<|aS rfl<|Te<|Ct ?_
 obtain ⟨rfl, rfl⟩ := V9 hm
 exact rT ⟨rfl, rfl⟩ (a.trans T)
theorem q9N (b : k9) (R : Hp) (g : j9) (l m n o h) (hm : q0O g l m = some h):
 v8 Tryz.prog 85 [.agg #[iv g.A, iv g.EndA, iv g.B, iv g.EndB], pb n, pb o] b ((n, Cl 3 [iv l]) :: (o, Cl 3 [iv m]) :: R) (fun v b' hp' => bv h = v ∧ (n, Cl 3 [iv l]) :: (o, Cl 3 [iv m]) :: R = hp') := by
 refine fE 27 Tryz.func85 rfl Tryz.ntmps85 rfl ?_
 unfold q0O at hm
 refine Cr<|tD (uB _ rfl rfl) ?_
 rintro _ _ ⟨q, rfl, rfl⟩
 refine aS rfl<|Te ?_
 obtain ⟨p, i, j⟩ := bS hm
 refine Cj (fun k e' hp' => [(4, bv p)] = e' ∧ (n, Cl 3 [iv l]) :: (o, Cl 3 [iv m]) :: R = hp' ∧ b.Le k) ?_ ?_
 have hm := i
 refine Cg<|tS (sF rfl q3v)<|tS (sL 0 rfl Q8 rfl rfl)<|tS (sL 1 rfl Q8 rfl rfl)<|Tb rfl (q1 rfl rfl) (fun a => ?_) (fun a => ?_)
 rw [if_pos a] at hm
 refine mV rfl<|yS<|tS (sF rfl q4M)<|yS<|tS (sL 0 rfl Q8 rfl rfl)<|yS<|tS (sL 2 rfl Q8 rfl rfl)<|yS<|Tb rfl (q1 rfl rfl) (fun c => ?_) (fun c => ?_)
 rw [if_pos c] at hm
 refine tS (pT rfl rfl)<|mV rfl<|nO<|nO<|nO<|nO<|nO<|nO<|nO<|nO<|nO<|nO<|tS (pT rfl rfl)<|aS rfl<|Tn ?_
 obtain rfl := o1 hm
 exact jJ ⟨rfl, rfl, lr⟩
 rw [if_neg c] at hm
 refine tS (pT rfl rfl)<|mV rfl<|yS<|tS (sF rfl q3v)<|yS<|tS (sL 0 rfl Q8 rfl rfl)<|yS<|tS (sL 2 rfl Q8 rfl rfl)<|yS<|Tb rfl (q1 rfl rfl) (fun d => ?_) (fun d => ?_)
 rw [if_pos d] at hm
 refine yS<|mV rfl<|yS<|tS (sF rfl q4M)<|yS<|tS (sL 0 rfl Q8 rfl rfl)<|yS<|tS (sL 1 rfl Q8 rfl rfl)<|yS<|tS (q1 rfl rfl)<|yS<|tS (pT rfl rfl)<|tS (pF rfl rfl)<|aS rfl<|Tn ?_
 obtain rfl := o1 hm
 exact jJ ⟨rfl, rfl, lr⟩
 rw [if_neg d] at hm
 refine yS<|mV rfl<|nO<|nO<|nO<|nO<|yS<|tS (pF rfl rfl)<|tS (pF rfl rfl)<|aS rfl<|Tn ?_
 obtain rfl := o1 hm
 exact jJ ⟨rfl, rfl, lr⟩
 rw [if_neg a] at hm
 refine mV rfl<|nO<|nO<|nO<|nO<|tS (pF rfl rfl)<|mV rfl<|yS<|tS (sF rfl q3v)<|yS<|tS (sL 0 rfl Q8 rfl rfl)<|yS<|tS (sL 2 rfl Q8 rfl rfl)<|yS<|Tb rfl (q1 rfl rfl) (fun e => ?_) (fun e => ?_)
 rw [if_pos e] at hm
 refine yS<|mV rfl<|yS<|tS (sF rfl q4M)<|yS<|tS (sL 0 rfl Q8 rfl rfl)<|yS<|tS (sL 1 rfl Q8 rfl rfl)<|yS<|tS (q1 rfl rfl)<|yS<|tS (pT rfl rfl)<|tS (pF rfl rfl)<|aS rfl<|Tn ?_
 obtain rfl := o1 hm
 exact jJ ⟨rfl, rfl, lr⟩
 rw [if_neg e] at hm
 refine yS<|mV rfl<|nO<|nO<|nO<|nO<|yS<|tS (pF rfl rfl)<|tS (pF rfl rfl)<|aS rfl<|Tn ?_
 obtain rfl := o1 hm
 exact jJ ⟨rfl, rfl, lr⟩
 rintro k _ _ ⟨rfl, rfl, f⟩
 have hm := j
 refine Ct ?_
 obtain rfl := o1 hm
 exact rO ⟨rfl, rfl⟩ f
theorem q7D (b : k9) (R : Hp) (p q r i k C D) (G : FZ Q0 b.w C D p) (s) (hm : q2p p q r = some s):
 v8 Tryz.prog 113 [sv C p D, .func (.func 85) #[] #[pb i, pb k]] b ((i, Cl 3 [iv q]) :: (k, Cl 3 [iv r]) :: R) (fun v b' hp' => iv s = v ∧ (i, Cl 3 [iv q]) :: (k, Cl 3 [iv r]) :: R = hp') := by
 refine fE 19 Tryz.func113 rfl Tryz.ntmps113 rfl ?_
 unfold q2p at hm
 refine Cr<|aS rfl<|Te<|Cs<|Cr<|mV rfl<|tS (sE rfl j0z)<|mV rfl<|Te<|Cb ?_
 have H : p.length ≤ 9223372036854775807 := (FZ.bd G)
 refine Cp 1 rfl<|Cp 1 rfl ?_
 obtain ⟨L, t, e⟩ := bS hm
 refine lF (fun w => fun _ => fun l e' hp' => [(0, sv C p D), (1, .func (.func 85) #[] #[pb i, pb k]), (7, iv ((p.length : Int))), (8, iv ((w : Int)))] = e' ∧ (i, Cl 3 [iv q]) :: (k, Cl 3 [iv r]) :: R = hp' ∧ b.Le l) t ⟨rfl, rfl, lr⟩ ?_ ?_
 rintro w _ l _ _ I B ⟨rfl, rfl, a⟩ c f
 unfold q0E at c
 have hm := c
 refine Cr<|tS (lT rfl rfl (by omega))<|Te<|Cs<|k7 rfl<|Ck<|Xn<|Cs<|Cb<|Cr<|mV rfl<|aS rfl<|Te<|Cr<|mV rfl<|mV rfl<|mV rfl ?_
 obtain ⟨d, E, J, x, K, y, m, h, n, hm⟩ := bF (sz := 4) hm (G.le a)
 obtain ⟨_, _, rfl, rfl, ⟨_, _, rfl, rfl, ⟨_, _, rfl, rfl, rfl⟩⟩⟩ := y
 refine tS (sI E rfl rfl x n h j0z)<|tS (sP (vs := [iv d.A, iv d.EndA, iv d.B, iv d.EndB]) 4 rfl z7l h rfl (fun j u hu => m j u hu)) ?_
 obtain ⟨F, o, hm⟩ := bS hm
 refine J3 1 rfl<|J3 1 rfl<|Tv #[] #[pb i, pb k] [.agg #[iv d.A, iv d.EndA, iv d.B, iv d.EndB]] rfl rfl j5p rfl (q9N _ _ d q r i k F o) ?_
 rintro _ O _ g ⟨rfl, rfl⟩
 refine Te<|cB hm rfl (fun hm => ?_) fun hm => ?_
 refine Cr<|mV rfl<|aS rfl<|Te<|Ct<|Xb<|Xr<|Xr<|Xb<|Xr ?_
 have z := f _ (Kd hm).symm
 rw [z] at e
 have hm := V8 e
 obtain rfl := o1 hm
 exact rO ⟨rfl, rfl⟩ (a.trans g)
 refine Ck<|Xm<|Xn<|Cg<|tS (sa rfl rfl (by omega))<|mV rfl<|Tn ?_
 exact jM hm ⟨rfl, rfl, ((a.trans g))⟩
 rintro _ l _ _ ⟨rfl, rfl, a⟩ A
 rw [A] at e
 have hm := G0 e
 refine Cr<|tS (lF rfl rfl (by omega))<|Te<|Cs<|w9 rfl<|Ce<|Xe<|Xe<|Xo<|Xn<|Cr<|aS rfl<|Te<|Ct ?_
 obtain rfl := o1 hm
 exact rO ⟨rfl, rfl⟩ a
theorem q6J (b : k9) (R : Hp) (e f g h i j k) (m : FZ Q0 b.w j k e) (d) (hm : q0b e f g = some d):
 v8 Tryz.prog 84 [sv j e k, .func (.func 85) #[] #[pb h, pb i]] b ((h, Cl 3 [iv f]) :: (i, Cl 3 [iv g]) :: R) (fun v b' hp' => bv d = v ∧ (h, Cl 3 [iv f]) :: (i, Cl 3 [iv g]) :: R = hp') := by
 refine fE 9 Tryz.func84 rfl Tryz.ntmps84 rfl ?_
 unfold q0b at hm
 refine Cr<|aS rfl<|Te<|Cr<|mV rfl<|mV rfl ?_
 obtain ⟨l, a, hm⟩ := bS hm
 refine J3 1 rfl<|J3 1 rfl<|Tg _ rfl j4a rfl (q7D _ _ e f g h i j k m l a) ?_
 rintro _ n _ c ⟨rfl, rfl⟩
 refine tS (q6 rfl rfl)<|aS rfl<|Te<|Ct ?_
 obtain rfl := o1 hm
 exact rO ⟨rfl, rfl⟩ c
theorem z1W (b : k9) (R : Hp) (o p g h a i j k l c d J K) (ads : Int → Nat) (q r s t u m n w x y z A B C D O S E T U F G e f) (Z : FZ RT.str b.w r s g) (aa : FZ j4 b.w t u h) (V : FZ Q0 b.w m n a) (ab : FZ j6 b.w w x i) (ac : FZ Q1 b.w y z j) (ad : FZ Z3 b.w A B k) (ae : FZ (RT.list j7) b.w C D l) (h5 : OS 80 (OT.fr Q5) b.w (sv O c S) c E) (af : OS 94 (OT.fr Q7) b.w (sv T d U) d F) (ag : OM rI (OT.fr (RT.key ads)) false false b.w G J e) (ah : OAr 90 j8 ads b.w K f) (L) (hm : q2e o p g h a i j k l c d J K = some L):
 v8 Tryz.prog 47 [pb q, iv o, iv p] b ((q, Cl 78 [sv r g s, sv t h u, sv m a n, sv w i x, sv y j z, sv A k B, sv C l D, sv O c S, sv T d U, .map (some G)]) :: (E ++ (F ++ (e ++ (f ++ R))))) (fun v b' hp' => bv L = v ∧ (q, Cl 78 [sv r g s, sv t h u, sv m a n, sv w i x, sv y j z, sv A k B, sv C l D, sv O c S, sv T d U, .map (some G)]) :: (E ++ (F ++ (e ++ (f ++ R)))) = hp') := by
 refine fE 14 Tryz.func47 rfl Tryz.ntmps47 rfl ?_
 unfold q2e at hm
 refine Cr<|tD (uB _ rfl rfl) ?_
 rintro _ _ ⟨W, rfl, rfl⟩
 refine tD (uB _ rfl rfl) ?_
 rintro _ _ ⟨X, rfl, rfl⟩
 refine aS rfl<|Te<|Cr<|mV rfl<|tS (sN rfl)<|tS (sF rfl z0R)<|tS (sF rfl q9l)<|tS (sL 2 rfl z7G rfl rfl)<|tS (q2m _ _ rfl rfl) ?_
 obtain ⟨Y, H, hm⟩ := bS hm
 refine J3 1 rfl<|Tg _ rfl j5q rfl (q6J _ _ a o p W X m n V Y H) ?_
 rintro _ ai _ I ⟨rfl, rfl⟩
 refine aS rfl<|Te<|Ct ?_
 obtain rfl := o1 hm
 exact rO ⟨rfl, rfl⟩ I
theorem z4M (b : k9) (R : Hp) (S O J X Y Z aa ab ac ad T U ci cj) (ads : Int → Nat) (bd af ag ah ai aj ak al am an ao aq ar au av A3 c4 F A8 c9 g ae o l) (eq : FZ RT.str b.w af ag X) (dh : FZ j4 b.w ah ai Y) (er : FZ Q0 b.w aj ak Z) (es : FZ j6 b.w al am aa) (et : FZ Q1 b.w an ao ab) (eu : FZ Z3 b.w aq ar ac) (ev : FZ (RT.list j7) b.w au av ad) (h5 : OS 80 (OT.fr Q5) b.w (sv A3 T c4) T F) (ew : OS 94 (OT.fr Q7) b.w (sv A8 U c9) U g) (a2 : OM rI (OT.fr (RT.key ads)) false false b.w ae ci o) (a3 : OAr 90 j8 ads b.w cj l) (ck a8 cl cm) (hm : q2v S O J X Y Z aa ab ac ad T U ci cj = some (ck, a8, cl, cm)):
 v8 Tryz.prog 18 [pb bd, iv S, iv O, iv J] b ((bd, Cl 78 [sv af X ag, sv ah Y ai, sv aj Z ak, sv al aa am, sv an ab ao, sv aq ac ar, sv au ad av, sv A3 T c4, sv A8 U c9, .map (some ae)]) :: (F ++ (g ++ (o ++ (l ++ R))))) (fun v b' hp' => ∃ bR bT bU, iv ck = v ∧ (bd, Cl 78 [sv af X ag, sv ah Y ai, sv aj Z ak, sv al aa am, sv an ab ao, sv aq ac ar, sv au ad av, sv A3 a8 c4, sv A8 U c9, .map (some ae)]) :: (bR ++ (g ++ (bT ++ (bU ++ R)))) = hp' ∧ OS 80 (OT.fr Q5) b'.w (sv A3 a8 c4) a8 bR ∧ a8.length = T.length ∧ OM rI (OT.fr (RT.key ads)) false false b'.w ae cl bT ∧ OAr 90 j8 ads b'.w cm bU) := by
 refine fE 145 Tryz.func18 rfl Tryz.ntmps18 rfl ?_
 unfold q2v at hm
 refine Cr<|aS rfl<|Te<|Cs<|Cb<|Cr<|mV rfl<|mV rfl ?_
 obtain ⟨cn, co, hm⟩ := bS hm
 refine K6 F g o l<|K6 l F g o<|K6 o l F g<|K6 g o l F<|G7 [_] [] F g o l R rfl<|Tg _ rfl z7b rfl (q5O _ _ S X Y Z aa ab ac ad T U ci cj ads bd af ag ah ai aj ak al am an ao aq ar au av A3 c4 F A8 c9 g ae o l eq dh er es et eu ev h5 ew a2 a3 cn co) ?_
 rintro _ gx _ a ⟨rfl, rfl⟩
 refine q3K [_] [] F g o l R rfl ?_
 rcases Kg cn with aM | aM
 rw [if_pos aM] at hm
 refine Tr 18 rfl (v' := .bool true) (by rw [aM] <;> rfl)<|tS (Y7 rfl)<|mV rfl<|yS<|mV rfl<|yS<|mV rfl<|yS ?_
 obtain ⟨ex, cp, hm⟩ := bS hm
 refine K6 F g o l<|K6 l F g o<|K6 o l F g<|K6 g o l F<|G7 [_] [] F g o l R rfl<|Tg _ rfl z7b rfl (q5O _ _ O X Y Z aa ab ac ad T U ci cj ads bd af ag ah ai aj ak al am an ao aq ar au av A3 c4 F A8 c9 g ae o l (eq.le a) (dh.le a) (er.le a) (es.le a) (et.le a) (eu.le a) (ev.le a) (h5.le a) (ew.le a) (a2.le a) (a3.le a) ex cp) ?_
 rintro _ gy _ e ⟨rfl, rfl⟩
 refine q3K [_] [] F g o l R rfl<|yS<|tS (sn2 rfl)<|tS (pF rfl rfl)<|aS rfl<|Te<|cM hm rfl (fun hm => ?_) fun hm => ?_
 refine Cr<|aS rfl<|Te<|Ct<|Xb<|Xr ?_
 obtain ⟨rfl, rfl, rfl, rfl⟩ := q9F hm
 have zz := a.trans e
 have di := h5.le zz
 have dj := a2.le zz
 have dk := a3.le zz
 exact rO ⟨F, o, l, rfl, rfl, di, rfl, dj, dk⟩ zz
 refine Cr<|mV rfl<|mV rfl<|mV rfl ?_
 obtain ⟨ey, cq, hm⟩ := bS hm
 have zy := a.trans e
 refine K6 F g o l<|K6 l F g o<|K6 o l F g<|K6 g o l F<|G7 [_] [] F g o l R rfl<|Tg _ rfl j5K rfl (z1W _ _ S O X Y Z aa ab ac ad T U ci cj ads bd af ag ah ai aj ak al am an ao aq ar au av A3 c4 F A8 c9 g ae o l (eq.le zy) (dh.le zy) (er.le zy) (es.le zy) (et.le zy) (eu.le zy) (ev.le zy) (h5.le zy) (ew.le zy) (a2.le zy) (a3.le zy) ey cq) ?_
 rintro _ cr _ k ⟨rfl, rfl⟩
 refine q3K [_] [] F g o l R rfl<|tS (sn2 rfl)<|aS rfl<|Te<|cM hm rfl (fun hm => ?_) fun hm => ?_
 refine Cr<|aS rfl<|Te<|Ct<|Xb<|Xr ?_
 obtain ⟨rfl, rfl, rfl, rfl⟩ := q9F hm
 have zx := a.trans (e.trans k)
 have dl := h5.le zx
 have dm := a2.le zx
 have dn := a3.le zx
 exact rO ⟨F, o, l, rfl, rfl, dl, rfl, dm, dn⟩ zx
 refine Cr<|mV rfl<|Tb rfl (q3 rfl rfl) (fun be => ?_) (fun be => ?_)
 rw [if_pos be] at hm
 refine mV rfl<|nO<|nO<|tS (pT rfl rfl)<|aS rfl<|Te<|k7 rfl<|Cr<|aS rfl<|Te<|Ct<|Xb<|Xr ?_
 obtain ⟨rfl, rfl, rfl, rfl⟩ := q9F hm
 have zw := a.trans (e.trans k)
 have dp := h5.le zw
 have dq := a2.le zw
 have dr := a3.le zw
 exact rO ⟨F, o, l, rfl, rfl, dp, rfl, dq, dr⟩ zw
 rw [if_neg be] at hm
 refine mV rfl<|yS<|mV rfl<|yS<|tS (q5 rfl rfl)<|tS (pF rfl rfl)<|aS rfl<|Te<|cI hm rfl (fun hm => ?_) fun hm => ?_
 refine Cr<|aS rfl<|Te<|Ct<|Xb<|Xr ?_
 obtain ⟨rfl, rfl, rfl, rfl⟩ := q9F hm
 have zv := a.trans (e.trans k)
 have ds := h5.le zv
 have dt := a2.le zv
 have du := a3.le zv
 exact rO ⟨F, o, l, rfl, rfl, ds, rfl, dt, du⟩ zv
 refine Ck<|Xm<|Xn<|Cs ?_
 obtain ⟨f, ez, hm⟩ := bS hm
 obtain ⟨gz, eA, hm⟩ := bS hm
 refine Di mixed (.refl _)<|E0 0 rfl (sM rfl)<|E0 1 rfl (sN rfl)<|E0 2 rfl (sF rfl q0o)<|Es 3 rfl (sL 0 rfl q4V rfl rfl)<|E0 4 rfl (sM rfl) ?_
 obtain ⟨ct, bf, bg⟩ := iS ez
 have zu := a.trans (e.trans k)
 obtain ⟨fB, fC, gA, gB, fD, dv, bA, I, cu, fF, fk⟩ := OS.get (sz := 5) rfl (by decide) (h5.le zu) bg
 obtain ⟨⟨_, _, rfl, rfl, ⟨_, _, rfl, rfl, ⟨_, _, rfl, rfl, ⟨_, _, rfl, rfl, rfl⟩⟩⟩⟩, rfl⟩ := dv
 refine E0 5 rfl (sI ct rfl rfl bf cu I q7f)<|E0 6 rfl (sM rfl)<|E0 7 rfl (sN rfl)<|E0 8 rfl (sF rfl q0o)<|Es 9 rfl (sL 0 rfl q4V rfl rfl)<|E0 10 rfl (sM rfl) ?_
 obtain ⟨bB, dw, dx⟩ := iS eA
 obtain ⟨fG, fH, gC, gD, fI, dy, cv, bh, cw, fJ, fl⟩ := OS.get (sz := 5) rfl (by decide) (h5.le zu) dx
 obtain ⟨⟨_, _, rfl, rfl, ⟨_, _, rfl, rfl, ⟨_, _, rfl, rfl, ⟨_, _, rfl, rfl, rfl⟩⟩⟩⟩, rfl⟩ := dy
 refine E0 11 rfl (sI bB rfl rfl dw cw bh q7f)<|E0 12 rfl (sA rfl)<|E0 13 rfl (sA rfl)<|Eo<|Dd (by kernel_rfl)<|Xn<|Cs<|Cb<|Cr<|mV rfl<|tS (Z8 rfl bh)<|tS (sQ rfl bh q3e)<|tS (Q3 rfl Q8 (fun w ho => cv w _ ho (.cons _ (Kb _ _)) 0 _ rfl))<|mV rfl ?_
 obtain ⟨_, bC, hm⟩ := bS hm
 have bC := (kS bC).2
 refine tS (sa rfl rfl bC)<|tS (q5 rfl rfl)<|aS rfl<|Te<|cI hm rfl (fun hm => ?_) fun hm => ?_
 refine Cr<|aS rfl<|Te<|Ct<|Xb<|Xr ?_
 obtain ⟨rfl, rfl, rfl, rfl⟩ := q9F hm
 have dz := h5.le zu
 have dA := a2.le zu
 have dB := a3.le zu
 exact rO ⟨F, o, l, rfl, rfl, dz, rfl, dA, dB⟩ zu
 refine Cr<|mV rfl<|tS (Z8 rfl I)<|tS (sQ rfl I q3e)<|tS (Q3 rfl Q8 (fun w ho => bA w _ ho (.cons _ (Kb _ _)) 0 _ rfl))<|mV rfl<|tS (q6 rfl rfl)<|aS rfl<|Te<|cI hm rfl (fun hm => ?_) fun hm => ?_
 refine Cg<|mV rfl<|tS (Z8 rfl I)<|tS (sQ rfl I q3e)<|tS (Q3 rfl Q8 (fun w ho => bA w _ ho (.cons _ (Kb _ _)) 0 _ rfl))<|mV rfl ?_
 obtain ⟨_, bD, hm⟩ := bS hm
 have bD := (kS bD).2
 have zt := a.trans (e.trans k)
 refine tS (sb rfl rfl bD)<|tS (Z8 rfl I)<|tS (sQ rfl I q3e)<|tD (uP bf (sz := 5) (a' := (⟨f.axles - J, f.disturbed, f.position, f.moving, f.failed⟩ : q9)) rfl [_] (g ++ (o ++ (l ++ R))) 0 1 [iv (f.axles - J)] rfl (h5.le zt) bg rfl rfl rfl z3Y rfl (mc rfl mn) (fun cs hsj hh => by obtain ⟨⟨_, _, rfl, rfl, ⟨_, _, rfl, rfl, ⟨_, _, rfl, rfl, ⟨_, _, rfl, rfl, rfl⟩⟩⟩⟩, rfl⟩ := hh; exact ⟨by first | decide | exact Nat.le_refl _, ⟨[iv (f.axles - J)], _, rfl, rfl, ⟨[bv f.disturbed], _, rfl, rfl, ⟨[iv f.position], _, rfl, rfl, ⟨[iv f.moving], _, rfl, rfl, rfl⟩⟩⟩⟩, rfl⟩)) ?_
 rintro _ _ ⟨fK, rfl, cx⟩
 refine K9 0 rfl (o' := Cl 78 [sv af X ag, sv ah Y ai, sv aj Z ak, sv al aa am, sv an ab ao, sv aq ac ar, sv au ad av, .slice A3 (put T S (⟨f.axles - J, f.disturbed, f.position, f.moving, f.failed⟩ : q9)).length c4, sv A8 U c9, .map (some ae)]) (by simp only [sv, Q4])<|Tn<|Xm<|Xn<|Cr ?_
 obtain ⟨p, eB, hm⟩ := bS hm
 obtain ⟨eC, dC, bV⟩ := iS eB
 obtain rfl : bB = eC := by omega
 obtain ⟨fL, fM, gE, gF, fN, dD, cy, a4, fm, fO, fn⟩ := OS.get (sz := 5) rfl (by decide) cx bV
 obtain ⟨⟨_, _, rfl, rfl, ⟨_, _, rfl, rfl, ⟨_, _, rfl, rfl, ⟨_, _, rfl, rfl, rfl⟩⟩⟩⟩, rfl⟩ := dD
 refine mV rfl<|tS (Z8 rfl a4)<|tS (sQ rfl a4 q3e)<|tS (Q3 rfl Q8 (fun w ho => cy w _ ho (.cons _ (Kb _ _)) 0 _ rfl))<|mV rfl ?_
 obtain ⟨_, bE, hm⟩ := bS hm
 have bE := (kS bE).2
 refine tS (sa rfl rfl bE)<|tS (Z8 rfl a4)<|tS (sQ rfl a4 q3e)<|tD (uP dC (sz := 5) (a' := (⟨p.axles + J, p.disturbed, p.position, p.moving, p.failed⟩ : q9)) rfl [_] (g ++ (o ++ (l ++ R))) 0 1 [iv (p.axles + J)] rfl cx bV rfl rfl rfl z3Y rfl (mc rfl mn) (fun cs hsj hh => by obtain ⟨⟨_, _, rfl, rfl, ⟨_, _, rfl, rfl, ⟨_, _, rfl, rfl, ⟨_, _, rfl, rfl, rfl⟩⟩⟩⟩, rfl⟩ := hh; exact ⟨by first | decide | exact Nat.le_refl _, ⟨[iv (p.axles + J)], _, rfl, rfl, ⟨[bv p.disturbed], _, rfl, rfl, ⟨[iv p.position], _, rfl, rfl, ⟨[iv p.moving], _, rfl, rfl, rfl⟩⟩⟩⟩, rfl⟩)) ?_
 rintro _ _ ⟨h, rfl, eD⟩
 refine K9 0 rfl (o' := Cl 78 [sv af X ag, sv ah Y ai, sv aj Z ak, sv al aa am, sv an ab ao, sv aq ac ar, sv au ad av, .slice A3 (put (put T S (⟨f.axles - J, f.disturbed, f.position, f.moving, f.failed⟩ : q9)) O (⟨p.axles + J, p.disturbed, p.position, p.moving, p.failed⟩ : q9)).length c4, sv A8 U c9, .map (some ae)]) (by simp only [sv, Q4])<|Te<|Cs<|Cr<|mV rfl<|tS (sN rfl)<|tS (sF rfl q3f)<|tS (sL 0 rfl q8X rfl rfl)<|j3e h g o<|tD (z0m [_] (h ++ (g ++ (l ++ R))) rfl (a2.le zt) q5Z rfl) ?_
 rintro _ _ ⟨bi, a5, rfl, rfl, eE⟩
 refine Te<|Cb<|F9 a5 h g l<|F9 l a5 h g<|F9 g l a5 h<|F9 h g l a5 ?_
 obtain ⟨gG, dE, bW⟩ := bS hm
 refine z4H (fun cz => fun bj e' hp' => ∃ B, [(2, iv O), (103, pb bi)] = e' ∧ (bd, Cl 78 [sv af X ag, sv ah Y ai, sv aj Z ak, sv al aa am, sv an ab ao, sv aq ac ar, sv au ad av, .slice A3 (put (put T S (⟨f.axles - J, f.disturbed, f.position, f.moving, f.failed⟩ : q9)) O (⟨p.axles + J, p.disturbed, p.position, p.moving, p.failed⟩ : q9)).length c4, sv A8 U c9, .map (some ae)]) :: (h ++ (g ++ (B ++ R))) = hp' ∧ cr.Le bj ∧ OAr 90 j8 ads bj.w cz B) dE eE (e' := [(2, iv O), (103, pb bi)]) ⟨rfl, rfl, trivial⟩ [_] (h ++ (g ++ (l ++ R))) rfl (.refl _) ⟨l, rfl, rfl, lr, (a3.le zt)⟩ ?_
 rintro cz gH bj _ _ bX ⟨B, rfl, rfl, aN, bG⟩ fo cA hd2597 hall2598
 refine j0c [_] bX (h ++ (g ++ (B ++ R))) ?_ rfl
 refine Cr<|z3R [_] (h ++ (g ++ (B ++ R))) rfl rfl rfl cA (fun hnil2600 => ?_) (fun bk gI gJ gK m hperm2606 dF eG => ?_)
 obtain ⟨bY, cg, eH⟩ := MIt.done cA
 refine z0r [_] bX bY (h ++ (g ++ (B ++ R))) rfl cg ?_
 have hend2612 := hd2597 hnil2600
 refine tS (w7 rfl rfl)<|Te<|Cs<|w9 rfl<|Ce<|Xe<|Xe<|Xo ?_
 rw [hend2612] at bW
 have hm := G0 bW
 refine Xn<|Cr<|aS rfl<|Te<|Ct ?_
 obtain ⟨rfl, rfl, rfl, rfl⟩ := q9F hm
 have dH := eD.le aN
 exact rO ⟨h, bY, B, rfl, rfl, dH, ((Q4 _ _ _).trans ((Q4 _ _ _).trans rfl)), eH, bG⟩ (a.trans (e.trans (k.trans aN)))
 obtain ⟨gL, a9, fg⟩ := hall2598 _ _ hperm2606
 have aY := a9
 unfold q0h at aY
 have hm := aY
 refine tS (w7 rfl rfl)<|Te<|Cs<|k7 rfl<|Ck<|Xn<|Cb<|Cr ?_
 obtain ⟨cC, cD, bl, bm, dI⟩ := MIx.entry Tryz.prog dF
 obtain rfl : cC = iv bk.1 := by have bl : [cC] = [iv bk.1] := bl; injection bl
 obtain rfl : cD = kv ads bk.2 := by have bm : [cD] = [kv ads bk.2] := bm; injection bm
 refine tS (dI (.cons _ (Kb _ _)) rfl)<|tS (w7 rfl rfl)<|aS rfl<|Te<|Cr<|mV rfl ?_
 obtain ⟨aW, bH, hm⟩ := bS hm
 obtain ⟨bI, eI, hm⟩ := bS hm
 refine Tr 12 rfl (v' := .pointer (some ⟨(ads aW), 0, none⟩)) (by rw [bH]; rfl)<|Tr 107 rfl (v' := .pointer (some ⟨(ads aW), 0, none⟩)) (by rw [bH]; rfl)<|Tr 108 rfl (v' := .pointer (some ⟨(ads aW), 0, none⟩)) (by rw [bH]; rfl) ?_
 obtain ⟨fP, fQ, aO, bZ, dJ, hf2631⟩ := OAr.take bG eI
 obtain ⟨eJ, eK, gM, gN, gO, gP, aP, gQ, gR, aQ, rfl, cE, gS, gT, gU, rfl⟩ := dJ
 refine K6 m h g B<|q2B [_] B aO aP aQ (m ++ (h ++ (g ++ R))) rfl bZ<|tS (sN rfl)<|tS (sF rfl q2O)<|tS (sF rfl P6)<|tS (sL 0 rfl q3A rfl rfl)<|tS (sE rfl q6f)<|mV rfl<|Te<|Cb<|q6D aP aQ aO<|q6D aO aP aQ<|q6D aQ aO aP<|z4J [_] B aO aP aQ (m ++ (h ++ (g ++ R))) rfl bZ ?_
 have fR : bI.Route.Steps.length ≤ 9223372036854775807 := (FZ.bd cE)
 refine F9 B m h g<|F9 g B m h<|F9 h g B m ?_
 obtain ⟨bn, dK, dL⟩ := bS hm
 refine lS (fun K => fun bn => fun bo e' hp' => ∃ z, [(2, iv O), (12, kv ads (some aW)), (103, pb bi), (112, sv eJ bI.Route.Steps eK), (113, iv ((bI.Route.Steps.length : Int))), (114, iv ((K : Int)))] = e' ∧ (bd, Cl 78 [sv af X ag, sv ah Y ai, sv aj Z ak, sv al aa am, sv an ab ao, sv aq ac ar, sv au ad av, .slice A3 (put (put T S (⟨f.axles - J, f.disturbed, f.position, f.moving, f.failed⟩ : q9)) O (⟨p.axles + J, p.disturbed, p.position, p.moving, p.failed⟩ : q9)).length c4, sv A8 U c9, .map (some ae)]) :: (m ++ (h ++ (g ++ (z ++ R)))) = hp' ∧ bj.Le bo ∧ OAr 90 j8 ads bo.w bn z) dK ⟨B, rfl, rfl, lr, bG⟩ ?_ ?_
 rintro K bn bo _ _ fS fh ⟨z, rfl, rfl, G, ba⟩ aZ
 unfold q1f at aZ
 have hm := aZ
 refine Cr<|tS (lT rfl rfl (by omega))<|Te<|Cs<|k7 rfl<|Ck<|Xn<|Cs<|Cb<|Cr<|mV rfl ?_
 obtain ⟨bJ, eL, fT, dM, fU, dN, cG, b0, cH, hm⟩ := bF (sz := 3) hm (cE.le G)
 obtain ⟨_, _, rfl, rfl, ⟨_, _, rfl, rfl, rfl⟩⟩ := dN
 refine tS (sI eL rfl rfl dM cH b0 q6f)<|tS (sP (vs := [iv bJ.Section, iv bJ.In, iv bJ.Out]) 3 rfl q6T b0 rfl (fun j u hu => cG j u hu))<|tD (uA [iv 0, iv 0, iv 0] q5T rfl) ?_
 rintro _ _ ⟨gV, rfl, rfl⟩
 refine aS rfl<|tD (uN (vs := [_, _, _]) 0 3 rfl rfl rfl q8T rfl (mc rfl (mc rfl (mc rfl mn))) rfl (by simp)) ?_
 rintro _ _ rfl
 refine Te<|Cr<|tS (sF rfl K5)<|tS (sL 0 rfl Q8 rfl rfl)<|mV rfl<|Tb rfl (q1 rfl rfl) (fun bp => ?_) (fun bp => ?_)
 rw [if_pos bp] at hm
 refine mV rfl<|yS<|mV rfl<|yS ?_
 obtain ⟨c, eM, hm⟩ := bS hm
 obtain ⟨fV, fW, x, b1, dO, hf2824⟩ := OAr.take ba eM
 obtain ⟨aw, ax, ay, az, aA, aB, V, aC, aD, s, rfl, cJ, cK, cO, bK, rfl⟩ := dO
 refine q2k m h g z<|q2B [_, _] z x V s (m ++ (h ++ (g ++ R))) rfl b1<|tS (sN rfl)<|yS<|tS (sF rfl q9k)<|yS<|tS (sL 0 rfl q5C rfl rfl)<|yS<|mV rfl<|yS ?_
 obtain ⟨gW, eO, hm⟩ := bS hm
 obtain ⟨eP, dP, dQ⟩ := iS eO
 obtain ⟨fX, fY, gX, gY, fZ, dR, cP, dS, cQ, f0, fp⟩ := OS.get (sz := 1) rfl (by decide) bK dQ
 obtain ⟨rfl, rfl⟩ := dR
 refine tS (sI eP rfl rfl dP cQ dS z0D)<|yS<|tS (Q3 rfl q6p (fun w ho => cP w _ ho (.cons _ (.cons _ (.cons _ (ss V (Kb _ _))))) 0 _ rfl))<|yS<|tS (sn2 rfl)<|tS (pT rfl rfl)<|Te<|cM hm rfl (fun hm => ?_) fun hm => ?_
 refine Cr<|mV rfl<|tS (sN rfl)<|tS (sF rfl q3d)<|tS (sL 0 rfl q5C rfl rfl)<|mV rfl ?_
 obtain ⟨gZ, eQ, hm⟩ := bS hm
 obtain ⟨eR, b2, b3⟩ := iS eQ
 obtain ⟨f1, f2, g0, g1, f3, dT, fq, dU, cR, f4, fr⟩ := OS.get (sz := 1) rfl (by decide) cO b3
 obtain ⟨rfl, rfl⟩ := dT
 refine tS (sI eR rfl rfl b2 cR dU z0D)<|tD (uP b2 (sz := 1) (a' := true) rfl [_, _, _] (s ++ (x ++ (m ++ (h ++ (g ++ R))))) 0 1 [bv true] rfl cO b3 rfl rfl rfl z6o rfl (mc rfl mn) (fun cs hsj hh => by obtain ⟨rfl, rfl⟩ := hh; exact ⟨by first | decide | exact Nat.le_refl _, rfl, rfl⟩)) ?_
 rintro _ _ ⟨D, rfl, cT⟩
 refine K9 0 rfl (o' := Cl 90 [iv c.Route.From, iv c.Route.To, sv aw c.Route.Steps ax, sv ay c.needs az, .slice aA (put c.seen (K : Int) true).length aB, sv aC c.gone aD, bv c.laps, bv c.sight, iv c.leave, iv c.clock, iv c.number]) (by simp only [sv, Q4])<|Te<|Cr<|mV rfl<|tS (q1 rfl rfl)<|Te<|cI hm rfl (fun hm => ?_) fun hm => ?_
 refine Cg<|mV rfl<|tS (sN rfl)<|tS (sF rfl q7y)<|tD (uS 0 rfl rfl z3Y rfl rfl (by simp)) ?_
 rintro _ _ rfl
 refine Tn<|Xm<|Xn<|Cg<|tS (sa rfl rfl (by omega))<|mV rfl<|Tn<|Y9 D s x<|Y9 x D s<|Y9 s x D ?_
 have eS := hf2824 _ [iv c.Route.From, iv c.Route.To, sv aw c.Route.Steps ax, sv ay c.needs az, .slice aA (put c.seen (K : Int) true).length aB, sv aC c.gone aD, bv c.laps, bv c.sight, iv 0, iv c.clock, iv c.number] (⟨c.Route, c.needs, put c.seen (K : Int) true, c.gone, c.laps, c.sight, 0, c.clock, c.number⟩ : z6) _ lr ⟨aw, ax, ay, az, aA, aB, D, aC, aD, s, rfl, cJ, cK, cT, bK, rfl⟩
 refine z1B [_, _] x D s (m ++ (h ++ (g ++ R))) rfl ?_
 obtain rfl := o1 hm
 exact jS ⟨(x ++ (((ads aW), Cl 90 [iv c.Route.From, iv c.Route.To, sv aw c.Route.Steps ax, sv ay c.needs az, .slice aA (put c.seen (K : Int) true).length aB, sv aC c.gone aD, bv c.laps, bv c.sight, iv 0, iv c.clock, iv c.number]) :: (D ++ s))), rfl, rfl, (G), eS⟩
 refine Ck<|Xm<|Xn<|Cg<|tS (sa rfl rfl (by omega))<|mV rfl<|Tn<|Y9 D s x<|Y9 x D s<|Y9 s x D ?_
 have eU := hf2824 _ [iv c.Route.From, iv c.Route.To, sv aw c.Route.Steps ax, sv ay c.needs az, .slice aA (put c.seen (K : Int) true).length aB, sv aC c.gone aD, bv c.laps, bv c.sight, iv c.leave, iv c.clock, iv c.number] (⟨c.Route, c.needs, put c.seen (K : Int) true, c.gone, c.laps, c.sight, c.leave, c.clock, c.number⟩ : z6) _ lr ⟨aw, ax, ay, az, aA, aB, D, aC, aD, s, rfl, cJ, cK, cT, bK, rfl⟩
 refine z1B [_, _] x D s (m ++ (h ++ (g ++ R))) rfl ?_
 obtain rfl := o1 hm
 exact jS ⟨(x ++ (((ads aW), Cl 90 [iv c.Route.From, iv c.Route.To, sv aw c.Route.Steps ax, sv ay c.needs az, .slice aA (put c.seen (K : Int) true).length aB, sv aC c.gone aD, bv c.laps, bv c.sight, iv c.leave, iv c.clock, iv c.number]) :: (D ++ s))), rfl, rfl, (G), eU⟩
 refine Ck<|Xm<|Xn<|Cg<|tS (sa rfl rfl (by omega))<|mV rfl<|Tn<|Y9 V s x<|Y9 x V s<|Y9 s x V<|q3I [_, _] z x V s (m ++ (h ++ (g ++ R))) rfl b1 ?_
 obtain rfl := o1 hm
 exact jS ⟨z, rfl, rfl, (G), ba⟩
 rw [if_neg bp] at hm
 refine mV rfl<|nO<|nO<|nO<|nO<|nO<|nO<|nO<|nO<|tS (pF rfl rfl)<|Te<|w9 rfl<|Ck<|Xm<|Xn<|Cg<|tS (sa rfl rfl (by omega))<|mV rfl<|Tn ?_
 obtain rfl := o1 hm
 exact jS ⟨z, rfl, rfl, (G), ba⟩
 rintro bo _ _ ⟨z, rfl, rfl, G, ba⟩
 have hm := dL
 refine Cr<|tS (lF rfl rfl (by omega))<|Te<|Cs<|w9 rfl<|Ce<|Xe<|Xe<|Xo<|Xm<|q8O m h g z<|q8O z m h g<|q8O g z m h<|q8O h g z m ?_
 have cU := aN.trans G
 exact z2d (s' := bn) [_] (h ++ (g ++ (z ++ R))) rfl hperm2606 (a9.trans (Kd hm ▸ rfl)) cU (eG.le G) (e' := [(2, iv O), (103, pb bi)]) ⟨rfl, rfl, trivial⟩ (.refl _) ⟨z, rfl, rfl, ((aN.trans G)), ba⟩
 refine Cr<|mV rfl<|tS (sN rfl)<|tS (sF rfl z0R)<|tS (sF rfl q0B)<|tS (sL 0 rfl q5f rfl rfl)<|mV rfl ?_
 have zs := a.trans (e.trans k)
 obtain ⟨g2, eV, f5, dV, f6, dW, cV, b4, cW, hm⟩ := bF (sz := 7) hm (dh.le zs)
 obtain ⟨_, _, rfl, rfl, ⟨_, _, rfl, rfl, ⟨_, _, rfl, rfl, ⟨_, _, rfl, rfl, ⟨_, _, rfl, rfl, ⟨_, _, rfl, rfl, rfl⟩⟩⟩⟩⟩⟩ := dW
 refine tS (sI eV rfl rfl dV cW b4 z1y)<|tS (sQ rfl b4 j1v)<|tS (sO rfl q6p (cV 6 _ rfl))<|tS (sn2 rfl)<|aS rfl<|Te<|cM hm rfl (fun hm => ?_) fun hm => ?_
 refine Cr<|aS rfl<|Te<|Ct<|Xb<|Xr ?_
 obtain ⟨rfl, rfl, rfl, rfl⟩ := q9F hm
 have dX := h5.le zs
 have dY := a2.le zs
 have dZ := a3.le zs
 exact rO ⟨F, o, l, rfl, rfl, dX, rfl, dY, dZ⟩ zs
 have zr := a.trans (e.trans k)
 refine Cg<|mV rfl<|mV rfl<|tS (Z8 rfl I)<|tS (sQ rfl I q3e)<|tD (uP bf (sz := 5) (a' := (⟨0, f.disturbed, f.position, f.moving, f.failed⟩ : q9)) rfl [_] (g ++ (o ++ (l ++ R))) 0 1 [iv 0] rfl (h5.le zr) bg rfl rfl rfl z3Y rfl (mc rfl mn) (fun cs hsj hh => by obtain ⟨⟨_, _, rfl, rfl, ⟨_, _, rfl, rfl, ⟨_, _, rfl, rfl, ⟨_, _, rfl, rfl, rfl⟩⟩⟩⟩, rfl⟩ := hh; exact ⟨by first | decide | exact Nat.le_refl _, ⟨[iv 0], _, rfl, rfl, ⟨[bv f.disturbed], _, rfl, rfl, ⟨[iv f.position], _, rfl, rfl, ⟨[iv f.moving], _, rfl, rfl, rfl⟩⟩⟩⟩, rfl⟩)) ?_
 rintro _ _ ⟨f7, rfl, cX⟩
 refine K9 0 rfl (o' := Cl 78 [sv af X ag, sv ah Y ai, sv aj Z ak, sv al aa am, sv an ab ao, sv aq ac ar, sv au ad av, .slice A3 (put T S (⟨0, f.disturbed, f.position, f.moving, f.failed⟩ : q9)).length c4, sv A8 U c9, .map (some ae)]) (by simp only [sv, Q4]) ?_
 obtain ⟨r, eW, hm⟩ := bS hm
 obtain ⟨eX, d0, b5⟩ := iS eW
 obtain rfl : ct = eX := by omega
 obtain ⟨f8, f9, g3, g4, ga, d1, fs, b6, ft, gb, fu⟩ := OS.get (sz := 5) rfl (by decide) cX b5
 obtain ⟨⟨_, _, rfl, rfl, ⟨_, _, rfl, rfl, ⟨_, _, rfl, rfl, ⟨_, _, rfl, rfl, rfl⟩⟩⟩⟩, rfl⟩ := d1
 refine tS (Z8 rfl b6)<|tS (sQ rfl b6 z9D)<|tD (uP d0 (sz := 5) (a' := (⟨r.axles, true, r.position, r.moving, r.failed⟩ : q9)) rfl [_] (g ++ (o ++ (l ++ R))) 1 1 [bv true] rfl cX b5 rfl rfl rfl z6o rfl (mc rfl mn) (fun cs hsj hh => by obtain ⟨⟨_, _, rfl, rfl, ⟨_, _, rfl, rfl, ⟨_, _, rfl, rfl, ⟨_, _, rfl, rfl, rfl⟩⟩⟩⟩, rfl⟩ := hh; exact ⟨by first | decide | exact Nat.le_refl _, ⟨[iv r.axles], _, rfl, rfl, ⟨[bv true], _, rfl, rfl, ⟨[iv r.position], _, rfl, rfl, ⟨[iv r.moving], _, rfl, rfl, rfl⟩⟩⟩⟩, rfl⟩)) ?_
 rintro _ _ ⟨gc, rfl, cY⟩
 refine K9 0 rfl (o' := Cl 78 [sv af X ag, sv ah Y ai, sv aj Z ak, sv al aa am, sv an ab ao, sv aq ac ar, sv au ad av, .slice A3 (put (put T S (⟨0, f.disturbed, f.position, f.moving, f.failed⟩ : q9)) S (⟨r.axles, true, r.position, r.moving, r.failed⟩ : q9)).length c4, sv A8 U c9, .map (some ae)]) (by simp only [sv, Q4])<|Tn<|Xm<|Xn<|Cr ?_
 obtain ⟨q, eY, hm⟩ := bS hm
 obtain ⟨e0, d5, b7⟩ := iS eY
 obtain rfl : bB = e0 := by omega
 obtain ⟨gd, ge, g5, g6, gf, d6, cZ, a6, fv, gg, fw⟩ := OS.get (sz := 5) rfl (by decide) cY b7
 obtain ⟨⟨_, _, rfl, rfl, ⟨_, _, rfl, rfl, ⟨_, _, rfl, rfl, ⟨_, _, rfl, rfl, rfl⟩⟩⟩⟩, rfl⟩ := d6
 refine mV rfl<|tS (Z8 rfl a6)<|tS (sQ rfl a6 q3e)<|tS (Q3 rfl Q8 (fun w ho => cZ w _ ho (.cons _ (Kb _ _)) 0 _ rfl))<|mV rfl ?_
 obtain ⟨_, bL, hm⟩ := bS hm
 have bL := (kS bL).2
 refine tS (sa rfl rfl bL)<|tS (Z8 rfl a6)<|tS (sQ rfl a6 q3e)<|tD (uP d5 (sz := 5) (a' := (⟨q.axles + J, q.disturbed, q.position, q.moving, q.failed⟩ : q9)) rfl [_] (g ++ (o ++ (l ++ R))) 0 1 [iv (q.axles + J)] rfl cY b7 rfl rfl rfl z3Y rfl (mc rfl mn) (fun cs hsj hh => by obtain ⟨⟨_, _, rfl, rfl, ⟨_, _, rfl, rfl, ⟨_, _, rfl, rfl, ⟨_, _, rfl, rfl, rfl⟩⟩⟩⟩, rfl⟩ := hh; exact ⟨by first | decide | exact Nat.le_refl _, ⟨[iv (q.axles + J)], _, rfl, rfl, ⟨[bv q.disturbed], _, rfl, rfl, ⟨[iv q.position], _, rfl, rfl, ⟨[iv q.moving], _, rfl, rfl, rfl⟩⟩⟩⟩, rfl⟩)) ?_
 rintro _ _ ⟨i, rfl, e1⟩
 refine K9 0 rfl (o' := Cl 78 [sv af X ag, sv ah Y ai, sv aj Z ak, sv al aa am, sv an ab ao, sv aq ac ar, sv au ad av, .slice A3 (put (put (put T S (⟨0, f.disturbed, f.position, f.moving, f.failed⟩ : q9)) S (⟨r.axles, true, r.position, r.moving, r.failed⟩ : q9)) O (⟨q.axles + J, q.disturbed, q.position, q.moving, q.failed⟩ : q9)).length c4, sv A8 U c9, .map (some ae)]) (by simp only [sv, Q4])<|Te<|Cs<|Cr<|mV rfl<|tS (sN rfl)<|tS (sF rfl q3f)<|tS (sL 0 rfl q8X rfl rfl)<|j3e i g o<|tD (z0m [_] (i ++ (g ++ (l ++ R))) rfl (a2.le zr) q5Z rfl) ?_
 rintro _ _ ⟨bq, a7, rfl, rfl, e2⟩
 refine Te<|Cb<|F9 a7 i g l<|F9 l a7 i g<|F9 g l a7 i<|F9 i g l a7 ?_
 obtain ⟨g7, d7, b8⟩ := bS hm
 refine z4H (fun c0 => fun br e' hp' => ∃ C, [(2, iv O), (103, pb bq)] = e' ∧ (bd, Cl 78 [sv af X ag, sv ah Y ai, sv aj Z ak, sv al aa am, sv an ab ao, sv aq ac ar, sv au ad av, .slice A3 (put (put (put T S (⟨0, f.disturbed, f.position, f.moving, f.failed⟩ : q9)) S (⟨r.axles, true, r.position, r.moving, r.failed⟩ : q9)) O (⟨q.axles + J, q.disturbed, q.position, q.moving, q.failed⟩ : q9)).length c4, sv A8 U c9, .map (some ae)]) :: (i ++ (g ++ (C ++ R))) = hp' ∧ cr.Le br ∧ OAr 90 j8 ads br.w c0 C) d7 e2 (e' := [(2, iv O), (103, pb bq)]) ⟨rfl, rfl, trivial⟩ [_] (i ++ (g ++ (l ++ R))) rfl (.refl _) ⟨l, rfl, rfl, lr, (a3.le zr)⟩ ?_
 rintro c0 g8 br _ _ b9 ⟨C, rfl, rfl, aR, bM⟩ fx c1 hd3495 hall3496
 refine j0c [_] b9 (i ++ (g ++ (C ++ R))) ?_ rfl
 refine Cr<|z3R [_] (i ++ (g ++ (C ++ R))) rfl rfl rfl c1 (fun hnil3498 => ?_) (fun bs g9 ha hb n hperm3504 d8 e3 => ?_)
 obtain ⟨ca, ch, e4⟩ := MIt.done c1
 refine z0r [_] b9 ca (i ++ (g ++ (C ++ R))) rfl ch ?_
 have hend3510 := hd3495 hnil3498
 refine tS (w7 rfl rfl)<|Te<|Cs<|w9 rfl<|Ce<|Xe<|Xe<|Xo ?_
 rw [hend3510] at b8
 have hm := G0 b8
 refine Xn<|Cr<|aS rfl<|Te<|Ct ?_
 obtain ⟨rfl, rfl, rfl, rfl⟩ := q9F hm
 have d9 := e1.le aR
 exact rO ⟨i, ca, C, rfl, rfl, d9, ((Q4 _ _ _).trans ((Q4 _ _ _).trans ((Q4 _ _ _).trans rfl))), e4, bM⟩ (a.trans (e.trans (k.trans aR)))
 obtain ⟨hc, bb, fi⟩ := hall3496 _ _ hperm3504
 have a0 := bb
 unfold q4J at a0
 have hm := a0
 refine tS (w7 rfl rfl)<|Te<|Cs<|k7 rfl<|Ck<|Xn<|Cb<|Cr ?_
 obtain ⟨c2, c3, bt, bu, ea⟩ := MIx.entry Tryz.prog d8
 obtain rfl : c2 = iv bs.1 := by have bt : [c2] = [iv bs.1] := bt; injection bt
 obtain rfl : c3 = kv ads bs.2 := by have bu : [c3] = [kv ads bs.2] := bu; injection bu
 refine tS (ea (.cons _ (Kb _ _)) rfl)<|tS (w7 rfl rfl)<|aS rfl<|Te<|Cr<|mV rfl ?_
 obtain ⟨aX, bN, hm⟩ := bS hm
 obtain ⟨bO, e5, hm⟩ := bS hm
 refine Tr 12 rfl (v' := .pointer (some ⟨(ads aX), 0, none⟩)) (by rw [bN]; rfl)<|Tr 107 rfl (v' := .pointer (some ⟨(ads aX), 0, none⟩)) (by rw [bN]; rfl)<|Tr 108 rfl (v' := .pointer (some ⟨(ads aX), 0, none⟩)) (by rw [bN]; rfl) ?_
 obtain ⟨gh, gi, aT, cb, eb, hf3529⟩ := OAr.take bM e5
 obtain ⟨e6, e7, hd, he, hf, hg, aU, hi, hj, aV, rfl, c5, hk, hl, hn, rfl⟩ := eb
 refine K6 n i g C<|q2B [_] C aT aU aV (n ++ (i ++ (g ++ R))) rfl cb<|tS (sN rfl)<|tS (sF rfl q2O)<|tS (sF rfl P6)<|tS (sL 0 rfl q3A rfl rfl)<|tS (sE rfl q6f)<|mV rfl<|Te<|Cb<|q6D aU aV aT<|q6D aT aU aV<|q6D aV aT aU<|z4J [_] C aT aU aV (n ++ (i ++ (g ++ R))) rfl cb ?_
 have gj : bO.Route.Steps.length ≤ 9223372036854775807 := (FZ.bd c5)
 refine F9 C n i g<|F9 g C n i<|F9 i g C n ?_
 obtain ⟨bw, ec, ed⟩ := bS hm
 refine lS (fun L => fun bw => fun bx e' hp' => ∃ A, [(2, iv O), (12, kv ads (some aX)), (103, pb bq), (112, sv e6 bO.Route.Steps e7), (113, iv ((bO.Route.Steps.length : Int))), (114, iv ((L : Int)))] = e' ∧ (bd, Cl 78 [sv af X ag, sv ah Y ai, sv aj Z ak, sv al aa am, sv an ab ao, sv aq ac ar, sv au ad av, .slice A3 (put (put (put T S (⟨0, f.disturbed, f.position, f.moving, f.failed⟩ : q9)) S (⟨r.axles, true, r.position, r.moving, r.failed⟩ : q9)) O (⟨q.axles + J, q.disturbed, q.position, q.moving, q.failed⟩ : q9)).length c4, sv A8 U c9, .map (some ae)]) :: (n ++ (i ++ (g ++ (A ++ R)))) = hp' ∧ br.Le bx ∧ OAr 90 j8 ads bx.w bw A) ec ⟨C, rfl, rfl, lr, bM⟩ ?_ ?_
 rintro L bw bx _ _ gk fj ⟨A, rfl, rfl, H, bc⟩ a1
 unfold q4I at a1
 have hm := a1
 refine Cr<|tS (lT rfl rfl (by omega))<|Te<|Cs<|k7 rfl<|Ck<|Xn<|Cs<|Cb<|Cr<|mV rfl ?_
 obtain ⟨bP, e8, gl, ee, gm, ef, c6, cc, c7, hm⟩ := bF (sz := 3) hm (c5.le H)
 obtain ⟨_, _, rfl, rfl, ⟨_, _, rfl, rfl, rfl⟩⟩ := ef
 refine tS (sI e8 rfl rfl ee c7 cc q6f)<|tS (sP (vs := [iv bP.Section, iv bP.In, iv bP.Out]) 3 rfl q6T cc rfl (fun j u hu => c6 j u hu))<|tD (uA [iv 0, iv 0, iv 0] q5T rfl) ?_
 rintro _ _ ⟨hq, rfl, rfl⟩
 refine aS rfl<|tD (uN (vs := [_, _, _]) 0 3 rfl rfl rfl q8T rfl (mc rfl (mc rfl (mc rfl mn))) rfl (by simp)) ?_
 rintro _ _ rfl
 refine Te<|Cr<|tS (sF rfl K5)<|tS (sL 0 rfl Q8 rfl rfl)<|mV rfl<|Tb rfl (q1 rfl rfl) (fun bz => ?_) (fun bz => ?_)
 rw [if_pos bz] at hm
 refine mV rfl<|yS<|mV rfl<|yS ?_
 obtain ⟨d, e9, hm⟩ := bS hm
 obtain ⟨gn, go, y, cd, eg, hf3722⟩ := OAr.take bc e9
 obtain ⟨aE, aF, aG, aH, aI, aJ, W, aK, aL, t, rfl, c8, da, db, bQ, rfl⟩ := eg
 refine q2k n i g A<|q2B [_, _] A y W t (n ++ (i ++ (g ++ R))) rfl cd<|tS (sN rfl)<|yS<|tS (sF rfl q9k)<|yS<|tS (sL 0 rfl q5C rfl rfl)<|yS<|mV rfl<|yS ?_
 obtain ⟨hr, fa, hm⟩ := bS hm
 obtain ⟨fb, eh, ei⟩ := iS fa
 obtain ⟨gp, gq, hs, ht, gr, ej, dc, ek, dd, gs, fy⟩ := OS.get (sz := 1) rfl (by decide) bQ ei
 obtain ⟨rfl, rfl⟩ := ej
 refine tS (sI fb rfl rfl eh dd ek z0D)<|yS<|tS (Q3 rfl q6p (fun w ho => dc w _ ho (.cons _ (.cons _ (.cons _ (ss W (Kb _ _))))) 0 _ rfl))<|yS<|tS (sn2 rfl)<|tS (pT rfl rfl)<|Te<|cM hm rfl (fun hm => ?_) fun hm => ?_
 refine Cr<|mV rfl<|tS (sN rfl)<|tS (sF rfl q3d)<|tS (sL 0 rfl q5C rfl rfl)<|mV rfl ?_
 obtain ⟨hv, fc, hm⟩ := bS hm
 obtain ⟨fd, ce, cf⟩ := iS fc
 obtain ⟨gt, gu, hw, hx, gv, el, fz, em, de, gw, fA⟩ := OS.get (sz := 1) rfl (by decide) db cf
 obtain ⟨rfl, rfl⟩ := el
 refine tS (sI fd rfl rfl ce de em z0D)<|tD (uP ce (sz := 1) (a' := true) rfl [_, _, _] (t ++ (y ++ (n ++ (i ++ (g ++ R))))) 0 1 [bv true] rfl db cf rfl rfl rfl z6o rfl (mc rfl mn) (fun cs hsj hh => by obtain ⟨rfl, rfl⟩ := hh; exact ⟨by first | decide | exact Nat.le_refl _, rfl, rfl⟩)) ?_
 rintro _ _ ⟨E, rfl, df⟩
 refine K9 0 rfl (o' := Cl 90 [iv d.Route.From, iv d.Route.To, sv aE d.Route.Steps aF, sv aG d.needs aH, .slice aI (put d.seen (L : Int) true).length aJ, sv aK d.gone aL, bv d.laps, bv d.sight, iv d.leave, iv d.clock, iv d.number]) (by simp only [sv, Q4])<|Te<|Cr<|mV rfl<|tS (q1 rfl rfl)<|Te<|cI hm rfl (fun hm => ?_) fun hm => ?_
 refine Cg<|mV rfl<|tS (sN rfl)<|tS (sF rfl q7y)<|tD (uS 0 rfl rfl z3Y rfl rfl (by simp)) ?_
 rintro _ _ rfl
 refine Tn<|Xm<|Xn<|Cg<|tS (sa rfl rfl (by omega))<|mV rfl<|Tn<|Y9 E t y<|Y9 y E t<|Y9 t y E ?_
 have fe := hf3722 _ [iv d.Route.From, iv d.Route.To, sv aE d.Route.Steps aF, sv aG d.needs aH, .slice aI (put d.seen (L : Int) true).length aJ, sv aK d.gone aL, bv d.laps, bv d.sight, iv 0, iv d.clock, iv d.number] (⟨d.Route, d.needs, put d.seen (L : Int) true, d.gone, d.laps, d.sight, 0, d.clock, d.number⟩ : z6) _ lr ⟨aE, aF, aG, aH, aI, aJ, E, aK, aL, t, rfl, c8, da, df, bQ, rfl⟩
 refine z1B [_, _] y E t (n ++ (i ++ (g ++ R))) rfl ?_
 obtain rfl := o1 hm
 exact jS ⟨(y ++ (((ads aX), Cl 90 [iv d.Route.From, iv d.Route.To, sv aE d.Route.Steps aF, sv aG d.needs aH, .slice aI (put d.seen (L : Int) true).length aJ, sv aK d.gone aL, bv d.laps, bv d.sight, iv 0, iv d.clock, iv d.number]) :: (E ++ t))), rfl, rfl, (H), fe⟩
 refine Ck<|Xm<|Xn<|Cg<|tS (sa rfl rfl (by omega))<|mV rfl<|Tn<|Y9 E t y<|Y9 y E t<|Y9 t y E ?_
 have ff := hf3722 _ [iv d.Route.From, iv d.Route.To, sv aE d.Route.Steps aF, sv aG d.needs aH, .slice aI (put d.seen (L : Int) true).length aJ, sv aK d.gone aL, bv d.laps, bv d.sight, iv d.leave, iv d.clock, iv d.number] (⟨d.Route, d.needs, put d.seen (L : Int) true, d.gone, d.laps, d.sight, d.leave, d.clock, d.number⟩ : z6) _ lr ⟨aE, aF, aG, aH, aI, aJ, E, aK, aL, t, rfl, c8, da, df, bQ, rfl⟩
 refine z1B [_, _] y E t (n ++ (i ++ (g ++ R))) rfl ?_
 obtain rfl := o1 hm
 exact jS ⟨(y ++ (((ads aX), Cl 90 [iv d.Route.From, iv d.Route.To, sv aE d.Route.Steps aF, sv aG d.needs aH, .slice aI (put d.seen (L : Int) true).length aJ, sv aK d.gone aL, bv d.laps, bv d.sight, iv d.leave, iv d.clock, iv d.number]) :: (E ++ t))), rfl, rfl, (H), ff⟩
 refine Ck<|Xm<|Xn<|Cg<|tS (sa rfl rfl (by omega))<|mV rfl<|Tn<|Y9 W t y<|Y9 y W t<|Y9 t y W<|q3I [_, _] A y W t (n ++ (i ++ (g ++ R))) rfl cd ?_
 obtain rfl := o1 hm
 exact jS ⟨A, rfl, rfl, (H), bc⟩
 rw [if_neg bz] at hm
 refine mV rfl<|nO<|nO<|nO<|nO<|nO<|nO<|nO<|nO<|tS (pF rfl rfl)<|Te<|w9 rfl<|Ck<|Xm<|Xn<|Cg<|tS (sa rfl rfl (by omega))<|mV rfl<|Tn ?_
 obtain rfl := o1 hm
 exact jS ⟨A, rfl, rfl, (H), bc⟩
 rintro bx _ _ ⟨A, rfl, rfl, H, bc⟩
 have hm := ed
 refine Cr<|tS (lF rfl rfl (by omega))<|Te<|Cs<|w9 rfl<|Ce<|Xe<|Xe<|Xo<|Xm<|q8O n i g A<|q8O A n i g<|q8O g A n i<|q8O i g A n ?_
 have dg := aR.trans H
 exact z2d (s' := bw) [_] (i ++ (g ++ (A ++ R))) rfl hperm3504 (bb.trans (Kd hm ▸ rfl)) dg (e3.le H) (e' := [(2, iv O), (103, pb bq)]) ⟨rfl, rfl, trivial⟩ (.refl _) ⟨A, rfl, rfl, ((aR.trans H)), bc⟩
 rw [if_neg (fun hh => Bool.noConfusion (hh.symm.trans aM))] at hm
 refine Tr 18 rfl (v' := .bool false) (by rw [aM] <;> rfl)<|tS (q0r rfl)<|mV rfl<|nO<|nO<|nO<|nO<|tS (pT rfl rfl)<|aS rfl<|Te<|k7 rfl<|Cr<|aS rfl<|Te<|Ct<|Xb<|Xr ?_
 obtain ⟨rfl, rfl, rfl, rfl⟩ := q9F hm
 have en := h5.le a
 have eo := a2.le a
 have ep := a3.le a
 exact rO ⟨F, o, l, rfl, rfl, en, rfl, eo, ep⟩ a
theorem z1m (b : k9) (R : Hp) (G i j k l m n o g h H I) (ads : Int → Nat) (q r s t u w x y z A B C D E F U V e W X f p d c) (Y : FZ RT.str b.w r s i) (Z : FZ j4 b.w t u j) (aa : FZ Q0 b.w w x k) (ab : FZ j6 b.w y z l) (ac : FZ Q1 b.w A B m) (ad : FZ Z3 b.w C D n) (ae : FZ (RT.list j7) b.w E F o) (h5 : OS 80 (OT.fr Q5) b.w (sv U g V) g e) (af : OS 94 (OT.fr Q7) b.w (sv W h X) h f) (L : OM rI (OT.fr (RT.key ads)) false false b.w p H d) (ag : OAr 90 j8 ads b.w I c) (ah ai aj) (hm : q1C G i j k l m n o g h H I = some (ah, ai, aj)):
 v8 Tryz.prog 19 [pb q, iv G] b ((q, Cl 78 [sv r i s, sv t j u, sv w k x, sv y l z, sv A m B, sv C n D, sv E o F, sv U g V, sv W h X, .map (some p)]) :: (e ++ (f ++ (d ++ (c ++ R))))) (fun v b' hp' => ∃ J, .tuple #[iv ah, iv ai] = v ∧ (q, Cl 78 [sv r i s, sv t j u, sv w k x, sv y l z, sv A m B, sv C n D, sv E o F, sv U g V, sv W h X, .map (some p)]) :: (e ++ (f ++ (J ++ (c ++ R)))) = hp' ∧ OM rI (OT.fr (RT.key ads)) false false b'.w p aj J) := by
 refine fE 13 Tryz.func19 rfl Tryz.ntmps19 rfl ?_
 unfold q1C at hm
 refine Cr<|aS rfl<|aS rfl<|Te<|Cs<|Cr<|mV rfl<|mV rfl ?_
 obtain ⟨al, O, hm⟩ := bS hm
 refine K6 e f d c<|K6 c e f d<|K6 d c e f<|K6 f d c e<|G7 [_] [] e f d c R rfl<|Tg _ rfl z7b rfl (q5O _ _ G i j k l m n o g h H I ads q r s t u w x y z A B C D E F U V e W X f p d c Y Z aa ab ac ad ae h5 af L ag al O) ?_
 rintro _ aq _ a ⟨rfl, rfl⟩
 refine q3K [_] [] e f d c R rfl<|tS (sn2 rfl)<|Te<|cM hm rfl (fun hm => ?_) fun hm => ?_
 refine Cr<|aS rfl<|aS rfl<|Te<|Ct<|Xr ?_
 obtain ⟨rfl, rfl, rfl⟩ := q7e hm
 have ak := L.le a
 exact rT ⟨d, rfl, rfl, ak⟩ a
 refine Ck<|Xn<|Cr<|mV rfl<|mV rfl ?_
 obtain ⟨⟨am, an⟩, S, hm⟩ := bS hm
 have hm := H0 hm
 refine K6 e f d c<|K6 c e f d<|K6 d c e f<|K6 f d c e<|G7 [_] [] e f d c R rfl<|Tg _ rfl j2A rfl (q8F _ _ G i j k l m n o g h H I ads q r s t u w x y z A B C D E F U V e W X f p d c (Y.le a) (Z.le a) (aa.le a) (ab.le a) (ac.le a) (ad.le a) (ae.le a) (h5.le a) (af.le a) (L.le a) (ag.le a) am an S) ?_
 rintro _ ar _ T ⟨K, rfl, rfl, ao⟩
 refine q3K [_] [] e f K c R rfl<|aS rfl<|aS rfl<|Te<|Ct ?_
 obtain ⟨rfl, rfl, rfl⟩ := q7e hm
 exact rT ⟨K, rfl, rfl, ao⟩ (a.trans T)
theorem q7o (b : k9) (R : Hp) (j k l m n o p g h q r) (ads : Int → Nat) (w x y z A B C D E F G H I J K X Y d Z c9 e i a c) (af : FZ RT.str b.w x y j) (ag : FZ j4 b.w z A k) (ah : FZ Q0 b.w B C l) (ai : FZ j6 b.w D E m) (aj : FZ Q1 b.w F G n) (ak : FZ Z3 b.w H I o) (al : FZ (RT.list j7) b.w J K p) (h5 : OS 80 (OT.fr Q5) b.w (sv X g Y) g d) (am : OS 94 (OT.fr Q7) b.w (sv Z h c9) h e) (T : OM rI (OT.fr (RT.key ads)) false false b.w i q a) (U : OAr 90 j8 ads b.w r c) (s) (hm : q0T j k l m n o p g h q r = some s):
 v8 Tryz.prog 21 [pb w] b ((w, Cl 78 [sv x j y, sv z k A, sv B l C, sv D m E, sv F n G, sv H o I, sv J p K, sv X g Y, sv Z h c9, .map (some i)]) :: (d ++ (e ++ (a ++ (c ++ R))))) (fun v b' hp' => ∃ V W t, sv V s W = v ∧ (w, Cl 78 [sv x j y, sv z k A, sv B l C, sv D m E, sv F n G, sv H o I, sv J p K, sv X g Y, sv Z h c9, .map (some i)]) :: (t ++ (d ++ (e ++ (a ++ (c ++ R))))) = hp' ∧ OS 3 (OT.fr rI) b'.w (sv V s W) s t) := by
 refine fE 9 Tryz.func21 rfl Tryz.ntmps21 rfl ?_
 unfold q0T at hm
 refine Cr<|aS rfl<|Te<|Cr<|mV rfl<|tS (sN rfl)<|tS (sF rfl q3f)<|tS (sL 0 rfl q8X rfl rfl) ?_
 obtain ⟨_, L, hm⟩ := bS hm
 refine K6 d e a c<|K6 c d e a<|z6i [] [_] a c (d ++ (e ++ R)) rfl<|Tg _ rfl j2y rfl (z4L _ _ q r ads i a c T U L) ?_
 rintro _ an _ f ⟨aa, rfl, rfl⟩
 refine z8s [_] [_] a c (d ++ (e ++ R)) rfl ?_
 obtain ⟨ab, O, hm⟩ := bS hm
 refine z1E a c<|z1E c a<|z6i [_] [_] a c (d ++ (e ++ R)) rfl<|Tg _ rfl j2z rfl (q8w _ _ q r ads aa i a c (T.le f) (U.le f) ab O) ?_
 rintro _ ao _ S ⟨ac, ad, u, rfl, rfl, ae⟩
 refine z2P [_] [_] u a c (d ++ (e ++ R)) rfl<|aS rfl<|Te<|Ct ?_
 obtain rfl := o1 hm
 exact rO ⟨ac, ad, u, rfl, rfl, ae⟩ (f.trans S)
theorem q9y (b : k9) (R : Hp) (y E F G H I) (S : FZ rI b.w F G y) (W : FZ rI b.w H I E) (k) (hm : q2u y E = some k):
 v8 Tryz.prog 20 [sv F y G, sv H E I] b (R) (fun v b' hp' => bv k = v ∧ R = hp') := by
 refine fE 26 Tryz.func20 rfl Tryz.ntmps20 rfl ?_
 unfold q2u at hm
 refine Cr<|aS rfl<|Te<|Cs<|Cr<|mV rfl<|tS (sE rfl q5y)<|mV rfl<|tS (sE rfl q5y)<|tS (q2 rfl rfl)<|Te<|cI hm rfl (fun hm => ?_) fun hm => ?_
 refine Cr<|aS rfl<|Te<|Ct<|Xr ?_
 obtain rfl := o1 hm
 exact rO ⟨rfl, rfl⟩ lr
 refine Ck<|Xn<|Cs<|Cr<|mV rfl<|tS (sE rfl q5y)<|mV rfl<|Te<|Cb ?_
 have J : y.length ≤ 9223372036854775807 := (FZ.bd S)
 obtain ⟨T, m, d⟩ := bS hm
 refine lF (fun l => fun _ => fun f e' hp' => [(0, sv F y G), (1, sv H E I), (12, iv ((y.length : Int))), (13, iv ((l : Int)))] = e' ∧ R = hp' ∧ b.Le f) m ⟨rfl, rfl, lr⟩ ?_ ?_
 rintro l _ f _ _ K z ⟨rfl, rfl, a⟩ c e
 unfold q3b at c
 have hm := c
 refine Cr<|tS (lT rfl rfl (by omega))<|Te<|Cs<|k7 rfl<|Ck<|Xn<|Cs<|Cb<|Cr<|mV rfl<|aS rfl<|Te<|Cs ?_
 obtain ⟨U, A, hm⟩ := bS hm
 obtain ⟨V, B, hm⟩ := bS hm
 refine Di mixed (.refl _)<|E0 0 rfl (sM rfl)<|E0 1 rfl (sM rfl) ?_
 obtain ⟨C, n, o⟩ := iS A
 obtain ⟨L, p, g, q, h⟩ := FZ.get (sz := 1) rfl (by decide) (S.le a) o
 obtain rfl := p
 refine E0 2 rfl (sI C rfl rfl n h q q5y)<|Es 3 rfl (sO rfl Q8 (g 0 _ rfl))<|E0 4 rfl (sM rfl)<|E0 5 rfl (sM rfl) ?_
 obtain ⟨D, r, s⟩ := iS B
 obtain ⟨O, t, i, u, j⟩ := FZ.get (sz := 1) rfl (by decide) (W.le a) s
 obtain rfl := t
 refine E0 6 rfl (sI D rfl rfl r j u q5y)<|Es 7 rfl (sO rfl Q8 (i 0 _ rfl))<|E0 8 rfl (q2 rfl rfl)<|Eo<|Dd (by kernel_rfl)<|Xn<|cI hm rfl (fun hm => ?_) fun hm => ?_
 refine Cr<|aS rfl<|Te<|Ct<|Xb<|Xr<|Xr<|Xb<|Xr ?_
 have w := e _ (Kd hm).symm
 rw [w] at d
 have hm := V8 d
 obtain rfl := o1 hm
 exact rO ⟨rfl, rfl⟩ a
 refine Ck<|Xm<|Xn<|Cg<|tS (sa rfl rfl (by omega))<|mV rfl<|Tn ?_
 exact jM hm ⟨rfl, rfl, (a)⟩
 rintro _ f _ _ ⟨rfl, rfl, a⟩ x
 rw [x] at d
 have hm := G0 d
 refine Cr<|tS (lF rfl rfl (by omega))<|Te<|Cs<|w9 rfl<|Ce<|Xe<|Xe<|Xo<|Xn<|Cr<|aS rfl<|Te<|Ct ?_
 obtain rfl := o1 hm
 exact rO ⟨rfl, rfl⟩ a
theorem z4O (b : k9) (R : Hp) (j l m n o p q r h i T s) (ads : Int → Nat) (t u x y z A B C D E F G H I J A3 c4 d A8 c9 e K c a) (ag : FZ RT.str b.w u x l) (ah : FZ j4 b.w y z m) (ai : FZ Q0 b.w A B n) (aj : FZ j6 b.w C D o) (ak : FZ Q1 b.w E F p) (al : FZ Z3 b.w G H q) (am : FZ (RT.list j7) b.w I J r) (h5 : OS 80 (OT.fr Q5) b.w (sv A3 h c4) h d) (an : OS 94 (OT.fr Q7) b.w (sv A8 i c9) i e) (Y : OM rI (OT.fr (RT.key ads)) false false b.w K T c) (Z : OAr 90 j8 ads b.w s a) (aa L) (hm : q3C j l m n o p q r h i T s = some (aa, L)):
 v8 Tryz.prog 22 [pb t, iv j] b ((t, Cl 78 [sv u l x, sv y m z, sv A n B, sv C o D, sv E p F, sv G q H, sv I r J, sv A3 h c4, sv A8 i c9, .map (some K)]) :: (d ++ (e ++ (c ++ (a ++ R))))) (fun v b' hp' => ∃ ab ac O, .tuple #[sv ab L ac, iv aa] = v ∧ (t, Cl 78 [sv u l x, sv y m z, sv A n B, sv C o D, sv E p F, sv G q H, sv I r J, sv A3 h c4, sv A8 i c9, .map (some K)]) :: (O ++ (d ++ (e ++ (c ++ (a ++ R))))) = hp' ∧ OS 55 (OT.fr j7) b'.w (sv ab L ac) L O) := by
 refine fE 21 Tryz.func22 rfl Tryz.ntmps22 rfl ?_
 unfold q3C at hm
 refine Cr<|aS rfl<|aS rfl<|Te<|Cs<|Cr<|mV rfl<|mV rfl ?_
 obtain ⟨ao, U, hm⟩ := bS hm
 refine K6 d e c a<|K6 a d e c<|K6 c a d e<|K6 e c a d<|G7 [_] [] d e c a R rfl<|Tg _ rfl j2F rfl (q6a _ _ j l m n o p q r h i T s ads t u x y z A B C D E F G H I J A3 c4 d A8 c9 e K c a ag ah ai aj ak al am h5 an Y Z ao U) ?_
 rintro _ ax _ f ⟨rfl, rfl⟩
 refine q3K [_] [] d e c a R rfl<|tS (sn2 rfl)<|Te<|cM hm rfl (fun hm => ?_) fun hm => ?_
 refine Cr<|aS rfl<|aS rfl<|Te<|Ct<|Xr ?_
 obtain ⟨rfl, rfl⟩ := V9 hm
 exact rT ⟨none, 0, [], rfl, rfl, OS.nil⟩ f
 refine Ck<|Xn<|Cs<|Cr<|mV rfl<|tS (sN rfl)<|tS (sF rfl q3f)<|tS (sL 0 rfl q8X rfl rfl)<|mV rfl ?_
 obtain ⟨V, aq, hm⟩ := bS hm
 have ad := Kd aq
 obtain ⟨ae, g, af⟩ := OM.lookF j3E (z0 := none) (Y.le f) (key := iv j) (k := j) rfl q5Z z8i rfl
 rw [ad] at g
 obtain rfl : ae = kv ads V := by have g : [ae] = [kv ads V] := g; injection g
 refine tS (q6V (ok := false) rfl rfl (fun w ho => af _ w ho (.cons _ (ss d (ss e (Kb _ _)))) false))<|aS rfl<|Te<|Cr<|mV rfl<|tS (z6l rfl rfl j4K)<|Te<|cM hm rfl (fun hm => ?_) fun hm => ?_
 refine Cr<|mV rfl ?_
 obtain ⟨ar, W, hm⟩ := bS hm
 refine K6 d e c a<|q3Q [] [_] a (d ++ (e ++ (c ++ R))) rfl<|Tg _ rfl z9R rfl (q4A _ _ V s ads a (Z.le f) ar W) ?_
 rintro _ ay _ X ⟨au, av, S, rfl, rfl, aw⟩
 refine z8s [] [_] S a (d ++ (e ++ (c ++ R))) rfl<|aS rfl<|aS rfl<|Te<|Ct<|Xr ?_
 obtain ⟨rfl, rfl⟩ := V9 hm
 exact rT ⟨au, av, S, rfl, rfl, aw⟩ (f.trans X)
 refine Ck<|Xn<|Cr<|aS rfl<|aS rfl<|Te<|Ct ?_
 obtain ⟨rfl, rfl⟩ := V9 hm
 exact rT ⟨none, 0, [], rfl, rfl, OS.nil⟩ f
theorem q7F (b : k9) (R : Hp) (s1 : j3) (db aG bN A2 c3 A5 c6 A8 c9 dc dd de df bo bp) (h4 : FZ RT.str b.w A2 c3 s1.Stations) (h7 : FZ j4 b.w A5 c6 s1.Sections) (fc : FZ Q0 b.w A8 c9 s1.Links) (fd : FZ j6 b.w dc dd s1.Signals) (fe : FZ Q1 b.w de df s1.Gates) (eo : FZ rI b.w bo bp aG) (dg) (hm : V7 s1 db aG bN = some dg):
 v8 Tryz.prog 4 [.agg #[sv A2 s1.Stations c3, sv A5 s1.Sections c6, sv A8 s1.Links c9, sv dc s1.Signals dd, sv de s1.Gates df], iv db, sv bo aG bp, iv bN] b (R) (fun v b' hp' => bv dg = v ∧ R = hp') := by
 refine fE 180 Tryz.func4 rfl Tryz.ntmps4 rfl ?_
 unfold V7 at hm
 refine Cr<|tD (uB _ rfl rfl) ?_
 rintro _ _ ⟨dh, rfl, rfl⟩
 refine aS rfl<|Te<|Cs<|Cr ?_
 obtain ⟨ff, di, hm⟩ := bS hm
 refine tD (uW _ j7j rfl (fun w ho => q9v _ [] ff di) (fun _ _ _ h => h.2.symm)) ?_
 rintro _ _ ⟨⟨_, rfl, _⟩, rfl⟩
 refine tS (sn2 rfl)<|Te<|cM hm rfl (fun hm => ?_) fun hm => ?_
 refine Cr<|aS rfl<|Te<|Ct<|Xr ?_
 obtain rfl := o1 hm
 exact rO ⟨rfl, rfl⟩ lr
 refine Ck<|Xn<|Cr<|tS (sD (vs := [_, _, _, _, _]) 0 5 rfl P0 rfl rfl rfl) ?_
 obtain ⟨⟨fg, bg⟩, dj, hm⟩ := bS hm
 have hm := H0 hm
 refine Tg _ rfl j1Q rfl (q5P _ _ s1 A2 c3 A5 c6 A8 c9 dc dd de df h4 h7 fc fd fe fg bg dj) ?_
 rintro _ fh _ s ⟨bq, br, d, rfl, rfl, dk, ha⟩
 refine q3x [] [_] d R rfl<|mV rfl<|tS (w7 rfl rfl)<|tS (w7 rfl rfl)<|aS rfl<|aS rfl<|Te<|Cs ?_
 obtain ⟨fi, ep, eq⟩ := bS hm
 refine Cj (fun dl e' hp' => [(1, iv db), (2, sv bo aG bp), (3, iv bN), (4, pb dh), (9, sv bq bg br), (46, bv fi)] = e' ∧ (dh, Cl 28 [sv A2 s1.Stations c3, sv A5 s1.Sections c6, sv A8 s1.Links c9, sv dc s1.Signals dd, sv de s1.Gates df]) :: (d ++ R) = hp' ∧ fh.Le dl) ?_ ?_
 have hm := ep
 refine Cg<|mV rfl<|Tb rfl (q2 rfl rfl) (fun b0 => ?_) (fun b0 => ?_)
 rw [if_pos b0] at hm
 refine mV rfl<|nO<|nO<|nO<|nO<|nO<|tS (pT rfl rfl)<|mV rfl<|nO<|nO<|tS (pT rfl rfl)<|mV rfl<|nO<|nO<|tS (pT rfl rfl)<|Tn ?_
 obtain rfl := o1 hm
 exact jJ ⟨rfl, rfl, lr⟩
 rw [if_neg b0] at hm
 refine mV rfl<|yS<|tS (sD (vs := [_, _, _, _, _]) 0 5 rfl P0 rfl rfl rfl)<|yS<|mV rfl<|yS<|mV rfl<|yS ?_
 obtain ⟨fj, dm, hm⟩ := bS hm
 refine tD (uW _ j6b rfl (fun w ho => z3H _ [] s1 db aG A2 c3 A5 c6 A8 c9 dc dd de df bo bp ((h4.le s).old ho) ((h7.le s).old ho) ((fc.le s).old ho) ((fd.le s).old ho) ((fe.le s).old ho) ((eo.le s).old ho) fj dm) (fun _ _ _ h => h.2.symm)) ?_
 rintro _ _ ⟨⟨_, rfl, _⟩, rfl⟩
 refine yS<|Tb rfl (q2 rfl rfl) (fun b1 => ?_) (fun b1 => ?_)
 rw [if_pos b1] at hm
 refine tS (pF rfl rfl)<|mV rfl<|nO<|nO<|tS (pT rfl rfl)<|mV rfl<|nO<|nO<|tS (pT rfl rfl)<|Tn ?_
 obtain rfl := o1 hm
 exact jJ ⟨rfl, rfl, lr⟩
 rw [if_neg b1] at hm
 refine tS (pF rfl rfl)<|mV rfl<|yS<|mV rfl<|yS<|Tb rfl (q3 rfl rfl) (fun b2 => ?_) (fun b2 => ?_)
 rw [if_pos b2] at hm
 refine tS (pF rfl rfl)<|mV rfl<|nO<|nO<|tS (pT rfl rfl)<|Tn ?_
 obtain rfl := o1 hm
 exact jJ ⟨rfl, rfl, lr⟩
 rw [if_neg b2] at hm
 refine tS (pF rfl rfl)<|mV rfl<|yS<|mV rfl<|yS<|tS (q5 rfl rfl)<|tS (pF rfl rfl)<|Tn ?_
 obtain rfl := o1 hm
 exact jJ ⟨rfl, rfl, lr⟩
 rintro dl _ _ ⟨rfl, rfl, ac⟩
 have hm := eq
 refine cB hm rfl (fun hm => ?_) fun hm => ?_
 refine Cr<|aS rfl<|Te<|Ct<|Xr ?_
 obtain rfl := o1 hm
 exact rO ⟨rfl, rfl⟩ (s.trans ac)
 refine Ck<|Xn<|Cr<|tS (sD (vs := [_, _, _, _, _]) 0 5 rfl P0 rfl rfl rfl) ?_
 obtain ⟨⟨C, D, E, F, G, H, I, dn, b3, dp, dq⟩, dr, hm⟩ := bS hm
 have hm := j4u hm
 have zz := s.trans ac
 refine Tg _ rfl j7i rfl (j1R _ _ s1 A2 c3 A5 c6 A8 c9 dc dd de df (h4.le zz) (h7.le zz) (fc.le zz) (fd.le zz) (fe.le zz) C D E F G H I dn b3 dp dq dr) ?_
 rintro _ fk _ aq ⟨ads, ae, J, K, L, O, S, T, U, V, W, X, Y, Z, aa, ab, b4, b5, aU, b6, b7, ai, x, aj, ak, rfl, rfl, aH, aI, aJ, aK, aL, aM, aN, ds, dt, du, dv⟩
 refine q3K [_] [_] aU ai aj ak (d ++ R) rfl<|mV rfl<|tS (w7 rfl rfl)<|tS (w7 rfl rfl)<|aS rfl<|aS rfl<|Te<|Cs ?_
 obtain ⟨⟨fl, cw⟩, er, es⟩ := bS hm
 refine Cj (fun b8 e' hp' => ∃ b9 ca aF, [(1, iv db), (2, sv bo aG bp), (3, iv bN), (9, sv bq bg br), (11, pb ae), (60, bv fl)] = e' ∧ (ae, Cl 78 [sv J C K, sv L D O, sv S E T, sv U F V, sv W G X, sv Y H Z, sv aa I ab, sv b9 cw ca, sv b6 b3 b7, .map (some x)]) :: (d ++ (aF ++ (ai ++ (aj ++ (ak ++ R))))) = hp' ∧ fk.Le b8 ∧ OS 80 (OT.fr Q5) b8.w (sv b9 cw ca) cw aF) ?_ ?_
 have hm := er
 refine Cg<|mV rfl<|Tb rfl (q2 rfl rfl) (fun cb => ?_) (fun cb => ?_)
 rw [if_pos cb] at hm
 refine mV rfl<|nO<|nO<|nO<|nO<|nO<|tS (pT rfl rfl)<|Tn ?_
 obtain ⟨rfl, rfl⟩ := V9 hm
 exact jJ ⟨b4, b5, aU, rfl, rfl, lr, ds⟩
 rw [if_neg cb] at hm
 refine mV rfl<|yS<|mV rfl<|yS<|mV rfl<|yS<|mV rfl<|yS ?_
 obtain ⟨⟨fm, dw⟩, dx, hm⟩ := bS hm
 have hm := H0 hm
 refine q2k aU ai aj ak<|q2k ak aU ai aj<|q2k aj ak aU ai<|q2k ai aj ak aU<|G7 [_] [_] aU ai aj ak (d ++ R) rfl<|Tg _ rfl j6a rfl (z5W _ _ db bN C D E F G H I dn b3 dp dq ads ae J K L O S T U V W X Y Z aa ab b4 b5 aU b6 b7 ai x aj ak aH aI aJ aK aL aM aN ds dt du dv fm dw dx) ?_
 rintro _ hb _ dy ⟨cU, rfl, rfl, fn, fo⟩
 refine q3K [_] [_] cU ai aj ak (d ++ R) rfl<|K9 0 rfl (o' := Cl 78 [sv J C K, sv L D O, sv S E T, sv U F V, sv W G X, sv Y H Z, sv aa I ab, sv b4 dw b5, sv b6 b3 b7, .map (some x)]) (by simp only [sv, fo])<|yS<|tS (q2 rfl rfl)<|tS (pF rfl rfl)<|Tn ?_
 obtain ⟨rfl, rfl⟩ := V9 hm
 exact jJ ⟨b4, b5, cU, rfl, rfl, dy, fn⟩
 rintro b8 _ _ ⟨b9, ca, aF, rfl, rfl, a, fp⟩
 have hm := H0 es
 refine cB hm rfl (fun hm => ?_) fun hm => ?_
 refine Cr<|aS rfl<|Te<|Ct<|Xr ?_
 obtain rfl := o1 hm
 exact rO ⟨rfl, rfl⟩ (s.trans (ac.trans (aq.trans a)))
 refine Ck<|Xn<|Cr<|mV rfl<|aS rfl<|Te<|Cs<|Cr<|mV rfl<|tS (sE rfl q5y)<|mV rfl<|Te<|Cb ?_
 have gI : aG.length ≤ 9223372036854775807 := (FZ.bd (eo.le (s.trans (ac.trans (aq.trans a)))))
 refine X1 d aF ai aj ak<|X1 ak d aF ai aj<|X1 aj ak d aF ai<|X1 ai aj ak d aF<|X1 aF ai aj ak d ?_
 obtain ⟨hc, et, au⟩ := bS hm
 refine lF (fun bC => z8e fun bD bE bG cc cd => fun bh e' hp' => ∃ (ads : Int → Nat), ∃ a3 a4 al a5 a6 am an ao, [(2, sv bo aG bp), (3, iv bN), (9, sv bq bg br), (11, pb ae), (12, iv bD), (62, sv bo aG bp), (63, iv ((aG.length : Int))), (64, iv ((bC : Int)))] = e' ∧ (ae, Cl 78 [sv J C K, sv L D O, sv S E T, sv U F V, sv W G X, sv Y H Z, sv aa I ab, sv a3 bE a4, sv a5 bG a6, .map (some x)]) :: (d ++ (al ++ (am ++ (an ++ (ao ++ R))))) = hp' ∧ b8.Le bh ∧ OS 80 (OT.fr Q5) bh.w (sv a3 bE a4) bE al ∧ OS 94 (OT.fr Q7) bh.w (sv a5 bG a6) bG am ∧ OM rI (OT.fr (RT.key ads)) false false bh.w x cc an ∧ OAr 90 j8 ads bh.w cd ao) et ⟨ads, b9, ca, aF, b6, b7, ai, aj, ak, rfl, rfl, lr, fp, (dt.le a), (du.le a), (dv.le a)⟩ ?_ ?_
 rintro bC ⟨bD, bE, bG, cc, cd⟩ bh _ _ gJ gA ⟨ads, a3, a4, al, a5, a6, am, an, ao, rfl, rfl, c, cx, cy, cz, cA⟩ bJ aO
 unfold K2 at bJ
 have hm := z3P bJ
 refine Cr<|tS (lT rfl rfl (by omega))<|Te<|Cs<|k7 rfl<|Ck<|Xn<|Cs<|Cb<|Cr ?_
 obtain ⟨av, fq, gK, eu, gL, ev, dz, ew, dA, hm⟩ := bF (sz := 1) hm (eo.le (s.trans (ac.trans (aq.trans (a.trans c)))))
 obtain rfl := ev
 refine tS (sI fq rfl rfl eu dA ew q5y)<|tS (sO rfl Q8 (dz 0 _ rfl))<|aS rfl<|Te<|Cs<|Cr<|mV rfl<|mV rfl ?_
 obtain ⟨⟨fr, cC, cD, fs, ft⟩, dB, hm⟩ := bS hm
 have hm := z3P hm
 have zy := a.trans c
 refine P4 d al am an ao<|P4 ao d al am an<|P4 an ao d al am<|P4 am an ao d al<|G7 [_] [] al am an ao (d ++ R) rfl<|Tg _ rfl j7h rfl (z4N _ _ av false C D E F G H I bE bG cc cd ads ae J K L O S T U V W X Y Z aa ab a3 a4 al a5 a6 am x an ao (aH.le zy) (aI.le zy) (aJ.le zy) (aK.le zy) (aL.le zy) (aM.le zy) (aN.le zy) cx cy cz cA fr cC cD fs ft dB) ?_
 rintro _ fu _ f ⟨ads, a7, a8, a9, ba, rfl, rfl, fv, fw, fx, fy, fz, fA⟩
 refine q3K [_] [] a7 a8 a9 ba (d ++ R) rfl<|K9 0 rfl (o' := Cl 78 [sv J C K, sv L D O, sv S E T, sv U F V, sv W G X, sv Y H Z, sv aa I ab, sv a3 cC a4, sv a5 cD a6, .map (some x)]) (by simp only [sv, fw])<|K9 0 rfl (o' := Cl 78 [sv J C K, sv L D O, sv S E T, sv U F V, sv W G X, sv Y H Z, sv aa I ab, sv a3 cC a4, sv a5 cD a6, .map (some x)]) (by simp only [sv, fy])<|tS (q2 rfl rfl)<|Te<|cI hm rfl (fun hm => ?_) fun hm => ?_
 refine Cr<|aS rfl<|Te<|Ct<|Xr<|Xb<|Xr<|Xr<|Xb<|Xr ?_
 have ex := aO _ (Kd hm).symm
 rw [ex] at au
 have hm := V8 au
 obtain rfl := o1 hm
 exact rO ⟨rfl, rfl⟩ (s.trans (ac.trans (aq.trans (a.trans (c.trans f)))))
 refine Ck<|Xn<|Cs<|Cr<|mV rfl<|Te<|Cb<|F9 a7 a8 a9 ba<|F9 ba a7 a8 a9<|F9 a9 ba a7 a8<|F9 a8 a9 ba a7<|X1 a7 a8 a9 ba d ?_
 obtain ⟨⟨bi, bj, bO, bP⟩, ey, ez⟩ := bS hm
 refine lS (fun dC => z5b fun bi bj bO bP => fun bs e' hp' => ∃ aP aQ y aR aT z A B, [(2, sv bo aG bp), (3, iv bN), (9, sv bq bg br), (11, pb ae), (12, iv bD), (14, iv av), (62, sv bo aG bp), (63, iv ((aG.length : Int))), (64, iv ((bC : Int))), (72, iv ((dC : Int)))] = e' ∧ (ae, Cl 78 [sv J C K, sv L D O, sv S E T, sv U F V, sv W G X, sv Y H Z, sv aa I ab, sv aP bi aQ, sv aR bj aT, .map (some x)]) :: (d ++ (y ++ (z ++ (A ++ (B ++ R))))) = hp' ∧ fu.Le bs ∧ OS 80 (OT.fr Q5) bs.w (sv aP bi aQ) bi y ∧ OS 94 (OT.fr Q7) bs.w (sv aR bj aT) bj z ∧ OM rI (OT.fr (RT.key ads)) false false bs.w x bO A ∧ OAr 90 j8 ads bs.w bP B) ey ⟨a3, a4, a7, a5, a6, a8, a9, ba, rfl, rfl, lr, fv, fx, fz, fA⟩ ?_ ?_
 rintro dC ⟨bi, bj, bO, bP⟩ bs _ _ gM gB ⟨aP, aQ, y, aR, aT, z, A, B, rfl, rfl, e, ce, cf, cg, ch⟩ bK
 unfold K1 at bK
 have hm := z1D bK
 refine Cr<|tS (lT rfl rfl (by omega))<|Te<|Cs<|k7 rfl<|Ck<|Xn<|Cs<|Cb<|Cg<|mV rfl ?_
 obtain ⟨⟨cE, cG, fB, fC⟩, dD, hm⟩ := bS hm
 have hm := z1D hm
 have zx := a.trans (c.trans (f.trans e))
 refine P4 d y z A B<|P4 B d y z A<|P4 A B d y z<|P4 z A B d y<|G7 [_] [] y z A B (d ++ R) rfl<|Tg _ rfl j0b rfl (q4Z _ _ C D E F G H I bi bj bO bP ads ae J K L O S T U V W X Y Z aa ab aP aQ y aR aT z x A B (aH.le zx) (aI.le zx) (aJ.le zx) (aK.le zx) (aL.le zx) (aM.le zx) (aN.le zx) ce cf cg ch cE cG fB fC dD) ?_
 rintro _ hd _ dE ⟨cV, cW, cX, cY, rfl, rfl, fD, fF, fG, fH, fI, fJ⟩
 refine q3K [_] [] cV cW cX cY (d ++ R) rfl<|K9 0 rfl (o' := Cl 78 [sv J C K, sv L D O, sv S E T, sv U F V, sv W G X, sv Y H Z, sv aa I ab, sv aP cE aQ, sv aR cG aT, .map (some x)]) (by simp only [sv, fF])<|K9 0 rfl (o' := Cl 78 [sv J C K, sv L D O, sv S E T, sv U F V, sv W G X, sv Y H Z, sv aa I ab, sv aP cE aQ, sv aR cG aT, .map (some x)]) (by simp only [sv, fH])<|Tn<|Xm<|Xn<|Cg<|tS (sa rfl rfl (by omega))<|mV rfl<|Tn ?_
 obtain rfl := o1 hm
 exact jS ⟨aP, aQ, cV, aR, aT, cW, cX, cY, rfl, rfl, ((e.trans dE)), fD, fG, fI, fJ⟩
 rintro bs _ _ ⟨aP, aQ, y, aR, aT, z, A, B, rfl, rfl, e, ce, cf, cg, ch⟩
 have hm := z1D ez
 refine Cr<|tS (lF rfl rfl (by omega))<|Te<|Cs<|w9 rfl<|Ce<|Xe<|Xe<|Xo<|Xn<|Cs<|Cr<|mV rfl<|mV rfl<|mV rfl ?_
 obtain ⟨fK, fL, hm⟩ := bS hm
 obtain ⟨fM, eA, eB⟩ := iS fL
 obtain ⟨gN, gO, he, hf, gP, eC, dF, cZ, dH, gQ, gE⟩ := OS.get (sz := 3) rfl (by decide) (dk.le (ac.trans (aq.trans (a.trans (c.trans (f.trans e)))))) eB
 obtain ⟨⟨_, _, rfl, rfl, ⟨_, _, rfl, rfl, ⟨hg, hi, rfl, hj⟩⟩⟩, rfl⟩ := eC
 refine tS (sI fM rfl rfl eA dH cZ z5c)<|tS (sQ rfl cZ q5L)<|tS (Q3 rfl Q8 (fun w ho => dF w _ ho (.cons _ (Kb _ _)) 0 _ rfl)) ?_
 obtain ⟨⟨fN, fO⟩, dI, hm⟩ := bS hm
 have hm := H0 hm
 have zw := a.trans (c.trans (f.trans e))
 refine P4 d y z A B<|P4 B d y z A<|P4 A B d y z<|P4 z A B d y<|G7 [_] [] y z A B (d ++ R) rfl<|Tg _ rfl j5Z rfl (z1X _ _ fK.From C D E F G H I bi bj bO bP ads ae J K L O S T U V W X Y Z aa ab aP aQ y aR aT z x A B (aH.le zw) (aI.le zw) (aJ.le zw) (aK.le zw) (aL.le zw) (aM.le zw) (aN.le zw) ce cf cg ch fN fO dI) ?_
 rintro _ fP _ g ⟨rfl, rfl⟩
 refine q3K [_] [] y z A B (d ++ R) rfl<|mV rfl<|tS (w7 rfl rfl)<|tS (w7 rfl rfl)<|aS rfl<|aS rfl<|Te ?_
 obtain ⟨fQ, eD, eE⟩ := bS hm
 refine Cj (fun cH e' hp' => [(2, sv bo aG bp), (3, iv bN), (9, sv bq bg br), (11, pb ae), (12, iv bD), (14, iv av), (62, sv bo aG bp), (63, iv ((aG.length : Int))), (64, iv ((bC : Int))), (92, bv fQ)] = e' ∧ (ae, Cl 78 [sv J C K, sv L D O, sv S E T, sv U F V, sv W G X, sv Y H Z, sv aa I ab, sv aP bi aQ, sv aR bj aT, .map (some x)]) :: (d ++ (y ++ (z ++ (A ++ (B ++ R))))) = hp' ∧ fP.Le cH) ?_ ?_
 have hm := eD
 refine Cg<|mV rfl<|Tb rfl (q2 rfl rfl) (fun ci => ?_) (fun ci => ?_)
 rw [if_pos ci] at hm
 refine mV rfl<|nO<|nO<|tS (pT rfl rfl)<|Tn ?_
 obtain rfl := o1 hm
 exact jJ ⟨rfl, rfl, lr⟩
 rw [if_neg ci] at hm
 refine mV rfl<|yS<|mV rfl<|yS<|tS (q1 rfl rfl)<|tS (pF rfl rfl)<|Tn ?_
 obtain rfl := o1 hm
 exact jJ ⟨rfl, rfl, lr⟩
 rintro cH _ _ ⟨rfl, rfl, i⟩
 have hm := eE
 refine cB hm rfl (fun hm => ?_) fun hm => ?_
 refine Cr<|aS rfl<|Te<|Ct<|Xr<|Xb<|Xr<|Xr<|Xb<|Xr ?_
 have eG := aO _ (Kd hm).symm
 rw [eG] at au
 have hm := V8 au
 obtain rfl := o1 hm
 exact rO ⟨rfl, rfl⟩ (s.trans (ac.trans (aq.trans (a.trans (c.trans (f.trans (e.trans (g.trans i))))))))
 refine Ck<|Xn<|Cs<|Cr<|mV rfl<|mV rfl ?_
 obtain ⟨bQ, fR, hm⟩ := bS hm
 obtain ⟨fS, eH, eI⟩ := iS fR
 obtain ⟨gR, gS, hk, hl, gT, eJ, dJ, c0, dK, gU, gF⟩ := OS.get (sz := 3) rfl (by decide) (dk.le (ac.trans (aq.trans (a.trans (c.trans (f.trans (e.trans (g.trans i)))))))) eI
 obtain ⟨⟨_, _, rfl, rfl, ⟨_, _, rfl, rfl, ⟨dL, dM, rfl, dN⟩⟩⟩, rfl⟩ := eJ
 refine tS (sI fS rfl rfl eH dK c0 z5c)<|tS (sQ rfl c0 P6)<|tS (Q3 rfl q3A (fun w ho => dJ w _ ho (.cons _ (Kb _ _)) 2 _ rfl))<|tS (sE rfl q6f)<|mV rfl<|Te<|Cb ?_
 have gV : bQ.Steps.length ≤ 9223372036854775807 := (FZ.bd dN)
 refine X1 d y z A B<|X1 B d y z A<|X1 A B d y z<|X1 z A B d y<|X1 y z A B d ?_
 obtain ⟨hn, eK, bn⟩ := bS hm
 have zv := g.trans i
 refine lF (fun cJ => z8e fun bR bt bb bT bU => fun bu e' hp' => ∃ aw ax af ay az t ag ah, [(2, sv bo aG bp), (3, iv bN), (9, sv bq bg br), (11, pb ae), (12, iv bR), (14, iv av), (62, sv bo aG bp), (63, iv ((aG.length : Int))), (64, iv ((bC : Int))), (97, sv dL bQ.Steps dM), (98, iv ((bQ.Steps.length : Int))), (99, iv ((cJ : Int)))] = e' ∧ (ae, Cl 78 [sv J C K, sv L D O, sv S E T, sv U F V, sv W G X, sv Y H Z, sv aa I ab, sv aw bt ax, sv ay bb az, .map (some x)]) :: (d ++ (af ++ (t ++ (ag ++ (ah ++ R))))) = hp' ∧ cH.Le bu ∧ OS 80 (OT.fr Q5) bu.w (sv aw bt ax) bt af ∧ OS 94 (OT.fr Q7) bu.w (sv ay bb az) bb t ∧ OM rI (OT.fr (RT.key ads)) false false bu.w x bT ag ∧ OAr 90 j8 ads bu.w bU ah) eK ⟨aP, aQ, y, aR, aT, z, A, B, rfl, rfl, lr, (ce.le zv), (cf.le zv), (cg.le zv), (ch.le zv)⟩ ?_ ?_
 rintro cJ ⟨bR, bt, bb, bT, bU⟩ bu _ _ gW gC ⟨aw, ax, af, ay, az, t, ag, ah, rfl, rfl, k, cj, bV, ck, cl⟩ bL bW
 unfold J9 at bL
 have hm := z3P bL
 refine Cr<|tS (lT rfl rfl (by omega))<|Te<|Cs<|k7 rfl<|Ck<|Xn<|Cs<|Cb<|Cr ?_
 obtain ⟨bw, fT, gX, eL, gY, eM, dO, c1, dP, hm⟩ := bF (sz := 3) hm (dN.le k)
 obtain ⟨_, _, rfl, rfl, ⟨_, _, rfl, rfl, rfl⟩⟩ := eM
 refine tS (sI fT rfl rfl eL dP c1 q6f)<|tS (sP (vs := [iv bw.Section, iv bw.In, iv bw.Out]) 3 rfl q6T c1 rfl (fun j u hu => dO j u hu))<|tD (uA [iv 0, iv 0, iv 0] q5T rfl) ?_
 rintro _ _ ⟨dQ, rfl, rfl⟩
 refine tD (uN (vs := [_, _, _]) 0 3 rfl rfl rfl q8T rfl (mc rfl (mc rfl (mc rfl mn))) rfl (by simp)) ?_
 rintro _ _ rfl
 refine Te<|Cs<|Cr<|mV rfl<|mV rfl<|tS (sF rfl K5)<|tS (sL 0 rfl Q8 rfl rfl)<|mV rfl ?_
 obtain ⟨⟨fU, cK, dR, dS⟩, dT, hm⟩ := bS hm
 have hm := z1D hm
 have zu := a.trans (c.trans (f.trans (e.trans (g.trans (i.trans k)))))
 refine J3 1 rfl<|j0L d af t ag ah<|j0L ah d af t ag<|j0L ag ah d af t<|j0L t ag ah d af<|G7 [_] [_] af t ag ah (d ++ R) rfl<|Tg _ rfl j5Y rfl (z4M _ _ bR bw.Section bN C D E F G H I bt bb bT bU ads ae J K L O S T U V W X Y Z aa ab aw ax af ay az t x ag ah (aH.le zu) (aI.le zu) (aJ.le zu) (aK.le zu) (aL.le zu) (aM.le zu) (aN.le zu) cj bV ck cl fU cK dR dS dT) ?_
 rintro _ hq _ ad ⟨bc, bd, be, rfl, rfl, fV, fW, fX, fY⟩
 refine q3K [_] [_] bc t bd be (d ++ R) rfl<|K9 0 rfl (o' := Cl 78 [sv J C K, sv L D O, sv S E T, sv U F V, sv W G X, sv Y H Z, sv aa I ab, sv aw cK ax, sv ay bb az, .map (some x)]) (by simp only [sv, fW])<|tS (q2 rfl rfl)<|Te<|cI hm rfl (fun hm => ?_) fun hm => ?_
 refine Cr<|aS rfl<|Te<|Ct<|Xr<|Xb<|Xr<|Xr<|Xb<|Xr<|Xb<|Xr<|Xr<|Xb<|Xr ?_
 have eO := bW _ (Kd hm).symm
 rw [eO] at bn
 have hm := V8 bn
 have eP := aO _ (Kd hm).symm
 rw [eP] at au
 have hm := V8 au
 obtain rfl := o1 hm
 exact rO ⟨rfl, rfl⟩ (s.trans (ac.trans (aq.trans (a.trans (c.trans (f.trans (e.trans (g.trans (i.trans (k.trans ad))))))))))
 refine Ck<|Xn<|Cr<|mV rfl ?_
 obtain ⟨⟨bX, bY, dU, dV⟩, dW, hm⟩ := bS hm
 have hm := z1D hm
 have zt := a.trans (c.trans (f.trans (e.trans (g.trans (i.trans (k.trans ad))))))
 refine q2k bc t bd be<|q2k be bc t bd<|q2k bd be bc t<|q2k t bd be bc<|G7 [_] [_] bc t bd be (d ++ R) rfl<|Tg _ rfl j0b rfl (q4Z _ _ C D E F G H I cK bb dR dS ads ae J K L O S T U V W X Y Z aa ab aw ax bc ay az t x bd be (aH.le zt) (aI.le zt) (aJ.le zt) (aK.le zt) (aL.le zt) (aM.le zt) (aN.le zt) fV (bV.le ad) fX fY bX bY dU dV dW) ?_
 rintro _ hr _ aA ⟨aB, aC, bf, aD, rfl, rfl, dX, fZ, dY, f0, f1, dZ⟩
 refine q3K [_] [_] aB aC bf aD (d ++ R) rfl<|K9 0 rfl (o' := Cl 78 [sv J C K, sv L D O, sv S E T, sv U F V, sv W G X, sv Y H Z, sv aa I ab, sv aw bX ax, sv ay bY az, .map (some x)]) (by simp only [sv, fZ])<|K9 0 rfl (o' := Cl 78 [sv J C K, sv L D O, sv S E T, sv U F V, sv W G X, sv Y H Z, sv aa I ab, sv aw bX ax, sv ay bY az, .map (some x)]) (by simp only [sv, f0])<|Te<|Cs<|Cr<|mV rfl<|mV rfl ?_
 obtain ⟨⟨f2, f3, f4⟩, d0, hm⟩ := bS hm
 have hm := q6j hm
 have zs := a.trans (c.trans (f.trans (e.trans (g.trans (i.trans (k.trans (ad.trans aA)))))))
 refine q2k aB aC bf aD<|q2k aD aB aC bf<|q2k bf aD aB aC<|q2k aC bf aD aB<|G7 [_] [_] aB aC bf aD (d ++ R) rfl<|Tg _ rfl j5X rfl (z1m _ _ bR C D E F G H I bX bY dU dV ads ae J K L O S T U V W X Y Z aa ab aw ax aB ay az aC x bf aD (aH.le zs) (aI.le zs) (aJ.le zs) (aK.le zs) (aL.le zs) (aM.le zs) (aN.le zs) dX dY f1 dZ f2 f3 f4 d0) ?_
 rintro _ f5 _ bk ⟨cm, rfl, rfl, f6⟩
 refine q3K [_] [_] aB aC cm aD (d ++ R) rfl<|mV rfl<|tS (w7 rfl rfl)<|tS (w7 rfl rfl)<|aS rfl<|aS rfl<|Te ?_
 obtain ⟨f7, eQ, eR⟩ := bS hm
 refine Cj (fun d1 e' hp' => [(2, sv bo aG bp), (3, iv bN), (9, sv bq bg br), (11, pb ae), (14, iv av), (18, pb dQ), (62, sv bo aG bp), (63, iv ((aG.length : Int))), (64, iv ((bC : Int))), (97, sv dL bQ.Steps dM), (98, iv ((bQ.Steps.length : Int))), (99, iv ((cJ : Int))), (123, bv f7)] = e' ∧ (ae, Cl 78 [sv J C K, sv L D O, sv S E T, sv U F V, sv W G X, sv Y H Z, sv aa I ab, sv aw bX ax, sv ay bY az, .map (some x)]) :: (dQ, Cl 62 [iv bw.Section, iv bw.In, iv bw.Out]) :: (d ++ (aB ++ (aC ++ (cm ++ (aD ++ R))))) = hp' ∧ f5.Le d1) ?_ ?_
 have hm := eQ
 refine Cg<|mV rfl<|Tb rfl (q2 rfl rfl) (fun cn => ?_) (fun cn => ?_)
 rw [if_pos cn] at hm
 refine mV rfl<|nO<|nO<|tS (pT rfl rfl)<|Tn ?_
 obtain rfl := o1 hm
 exact jJ ⟨rfl, rfl, lr⟩
 rw [if_neg cn] at hm
 refine mV rfl<|yS<|mV rfl<|yS<|tS (q6 rfl rfl)<|tS (pF rfl rfl)<|Tn ?_
 obtain rfl := o1 hm
 exact jJ ⟨rfl, rfl, lr⟩
 rintro d1 _ _ ⟨rfl, rfl, a0⟩
 have hm := eR
 refine cB hm rfl (fun hm => ?_) fun hm => ?_
 refine Cr<|aS rfl<|Te<|Ct<|Xr<|Xb<|Xr<|Xr<|Xb<|Xr<|Xb<|Xr<|Xr<|Xb<|Xr ?_
 have eS := bW _ (Kd hm).symm
 rw [eS] at bn
 have hm := V8 bn
 have eU := aO _ (Kd hm).symm
 rw [eU] at au
 have hm := V8 au
 obtain rfl := o1 hm
 exact rO ⟨rfl, rfl⟩ (s.trans (ac.trans (aq.trans (a.trans (c.trans (f.trans (e.trans (g.trans (i.trans (k.trans (ad.trans (aA.trans (bk.trans a0)))))))))))))
 refine Ck<|Xn<|Cg<|tS (sF rfl K5)<|tS (sL 1 rfl Q8 rfl rfl)<|aS rfl<|Tn<|Xm<|Xn<|Cg<|tS (sa rfl rfl (by omega))<|mV rfl<|Tn ?_
 have zr := bk.trans a0
 exact jM hm ⟨aw, ax, aB, ay, az, aC, cm, aD, rfl, rfl, ((k.trans (ad.trans (aA.trans zr)))), (dX.le zr), (dY.le zr), (f6.le a0), (dZ.le zr)⟩
 rintro ⟨bR, bt, bb, bT, bU⟩ bu _ _ ⟨aw, ax, af, ay, az, t, ag, ah, rfl, rfl, k, cj, bV, ck, cl⟩ eV
 rw [eV] at bn
 have hm := G0 bn
 have hm := z3P hm
 refine Cr<|tS (lF rfl rfl (by omega))<|Te<|Cs<|w9 rfl<|Ce<|Xe<|Xe<|Xo<|Xn<|Cr<|mV rfl ?_
 obtain ⟨cO, d5, hm⟩ := bS hm
 have zq := a.trans (c.trans (f.trans (e.trans (g.trans (i.trans k)))))
 refine P4 d af t ag ah<|P4 ah d af t ag<|P4 ag ah d af t<|P4 t ag ah d af<|G7 [_] [] af t ag ah (d ++ R) rfl<|Tg _ rfl j2G rfl (q7o _ _ C D E F G H I bt bb bT bU ads ae J K L O S T U V W X Y Z aa ab aw ax af ay az t x ag ah (aH.le zq) (aI.le zq) (aJ.le zq) (aK.le zq) (aL.le zq) (aM.le zq) (aN.le zq) cj bV ck cl cO d5) ?_
 rintro _ f8 _ a1 ⟨f9, ga, co, rfl, rfl, gb⟩
 refine z2O [_] [] co af t ag ah (d ++ R) rfl<|mV rfl<|tD (V3 (el := 3) [(0, iv av)] [iv av] rfl (fun _ => by kernel_rfl)) ?_
 rintro _ _ ⟨bZ, rfl, rfl⟩
 refine j3g 0 [_] (co ++ (af ++ (t ++ (ag ++ (ah ++ (d ++ R)))))) rfl rfl ?_
 have gc : OS 3 (OT.fr rI) f8.w (.slice (some ⟨bZ, 0, none⟩) 1 1) [av] [(bZ, Cl 3 [iv av])] := OS.lit [[iv av]] rfl ⟨rfl, trivial⟩ rfl (by decide)
 obtain ⟨gd, d6, hm⟩ := bS hm
 refine tD (uW _ j2H rfl (fun w ho => q9y _ [] cO [av] f9 ga (some ⟨bZ, 0, none⟩) 1 (OS.now (o := (OT.fr rI)) (l := cO) (hs := co) gb ho (.cons _ (ss [(bZ, Cl 3 [iv av])] (Kb _ _)))) (OS.now (o := (OT.fr rI)) (l := [av]) (hs := [(bZ, Cl 3 [iv av])]) gc ho (.cons _ (Kb _ _))) gd d6) (fun _ _ _ h => h.2.symm)) ?_
 rintro _ _ ⟨⟨_, rfl, _⟩, rfl⟩
 refine tS (sn2 rfl)<|Te<|cM hm rfl (fun hm => ?_) fun hm => ?_
 refine Cr<|aS rfl<|Te<|Ct<|Xb<|Xr<|Xr<|Xb<|Xr ?_
 have eW := aO _ (Kd hm).symm
 rw [eW] at au
 have hm := V8 au
 obtain rfl := o1 hm
 exact rO ⟨rfl, rfl⟩ (s.trans (ac.trans (aq.trans (a.trans (c.trans (f.trans (e.trans (g.trans (i.trans (k.trans a1))))))))))
 refine Ck<|Xm<|Xn<|Cg<|tS (sa rfl rfl (by omega))<|mV rfl<|Tn ?_
 exact jM hm ⟨ads, aw, ax, af, ay, az, t, ag, ah, rfl, rfl, ((c.trans (f.trans (e.trans (g.trans (i.trans (k.trans a1))))))), (cj.le a1), (bV.le a1), (ck.le a1), (cl.le a1)⟩
 rintro ⟨bD, bE, bG, cc, cd⟩ bh _ _ ⟨ads, a3, a4, al, a5, a6, am, an, ao, rfl, rfl, c, cx, cy, cz, cA⟩ eX
 rw [eX] at au
 have hm := G0 au
 have hm := z3P hm
 refine Cr<|tS (lF rfl rfl (by omega))<|Te<|Cs<|w9 rfl<|Ce<|Xe<|Xe<|Xo<|Xn<|Cs<|Cr<|mV rfl<|Te<|Cb<|X1 d al am an ao<|X1 ao d al am an<|X1 an ao d al am<|X1 am an ao d al ?_
 obtain ⟨⟨bl, bm, bH, bI⟩, eY, e0⟩ := bS hm
 refine lS (fun d7 => z5b fun bl bm bH bI => fun bx e' hp' => ∃ aW aX p aY aZ q r n, [(2, sv bo aG bp), (11, pb ae), (12, iv bD), (134, iv ((d7 : Int)))] = e' ∧ (ae, Cl 78 [sv J C K, sv L D O, sv S E T, sv U F V, sv W G X, sv Y H Z, sv aa I ab, sv aW bl aX, sv aY bm aZ, .map (some x)]) :: (p ++ (q ++ (r ++ (n ++ R)))) = hp' ∧ bh.Le bx ∧ OS 80 (OT.fr Q5) bx.w (sv aW bl aX) bl p ∧ OS 94 (OT.fr Q7) bx.w (sv aY bm aZ) bm q ∧ OM rI (OT.fr (RT.key ads)) false false bx.w x bH r ∧ OAr 90 j8 ads bx.w bI n) eY ⟨a3, a4, al, a5, a6, am, an, ao, rfl, rfl, lr, cx, cy, cz, cA⟩ ?_ ?_
 rintro d7 ⟨bl, bm, bH, bI⟩ bx _ _ gZ gD ⟨aW, aX, p, aY, aZ, q, r, n, rfl, rfl, m, cp, cq, cr, cs⟩ bM
 unfold K0 at bM
 have hm := z1D bM
 refine Cr<|tS (lT rfl rfl (by omega))<|Te<|Cs<|k7 rfl<|Ck<|Xn<|Cs<|Cb<|Cg<|mV rfl ?_
 obtain ⟨⟨cP, cQ, ge, gf⟩, d8, hm⟩ := bS hm
 have hm := z1D hm
 have zp := a.trans (c.trans m)
 refine K6 p q r n<|K6 n p q r<|K6 r n p q<|K6 q r n p<|G7 [_] [] p q r n R rfl<|Tg _ rfl j0b rfl (q4Z _ _ C D E F G H I bl bm bH bI ads ae J K L O S T U V W X Y Z aa ab aW aX p aY aZ q x r n (aH.le zp) (aI.le zp) (aJ.le zp) (aK.le zp) (aL.le zp) (aM.le zp) (aN.le zp) cp cq cr cs cP cQ ge gf d8) ?_
 rintro _ ht _ d9 ⟨c2, c4, c5, c7, rfl, rfl, gg, gh, gi, gj, gk, gl⟩
 refine q3K [_] [] c2 c4 c5 c7 R rfl<|K9 0 rfl (o' := Cl 78 [sv J C K, sv L D O, sv S E T, sv U F V, sv W G X, sv Y H Z, sv aa I ab, sv aW cP aX, sv aY cQ aZ, .map (some x)]) (by simp only [sv, gh])<|K9 0 rfl (o' := Cl 78 [sv J C K, sv L D O, sv S E T, sv U F V, sv W G X, sv Y H Z, sv aa I ab, sv aW cP aX, sv aY cQ aZ, .map (some x)]) (by simp only [sv, gj])<|Tn<|Xm<|Xn<|Cg<|tS (sa rfl rfl (by omega))<|mV rfl<|Tn ?_
 obtain rfl := o1 hm
 exact jS ⟨aW, aX, c2, aY, aZ, c4, c5, c7, rfl, rfl, ((m.trans d9)), gg, gi, gk, gl⟩
 rintro bx _ _ ⟨aW, aX, p, aY, aZ, q, r, n, rfl, rfl, m, cp, cq, cr, cs⟩
 have hm := z1D e0
 refine Cr<|tS (lF rfl rfl (by omega))<|Te<|Cs<|w9 rfl<|Ce<|Xe<|Xe<|Xo<|Xn<|Cr<|mV rfl<|mV rfl<|tS (sE rfl q5y) ?_
 obtain ⟨_, cR, hm⟩ := bS hm
 have cR := (kS cR).2
 refine tS (sb rfl rfl cR) ?_
 obtain ⟨aE, gm, g0, e1, g1, e2, ea, e3, eb, hm⟩ := bF (sz := 1) hm (eo.le (s.trans (ac.trans (aq.trans (a.trans (c.trans m))))))
 obtain rfl := e2
 refine tS (sI gm rfl rfl e1 eb e3 q5y)<|tS (sO rfl Q8 (ea 0 _ rfl))<|aS rfl<|Te<|Cr<|mV rfl<|mV rfl ?_
 obtain ⟨⟨gn, go⟩, ec, hm⟩ := bS hm
 have hm := H0 hm
 have zo := a.trans (c.trans m)
 refine K6 p q r n<|K6 n p q r<|K6 r n p q<|K6 q r n p<|G7 [_] [] p q r n R rfl<|Tg _ rfl j5W rfl (z4O _ _ aE C D E F G H I bl bm bH bI ads ae J K L O S T U V W X Y Z aa ab aW aX p aY aZ q x r n (aH.le zo) (aI.le zo) (aJ.le zo) (aK.le zo) (aL.le zo) (aM.le zo) (aN.le zo) cp cq cr cs gn go ec) ?_
 rintro _ gp _ ar ⟨hv, hw, aV, rfl, rfl, ed⟩
 refine z2O [_] [] aV p q r n R rfl<|mV rfl<|tS (w7 rfl rfl)<|tS (w7 rfl rfl)<|aS rfl<|aS rfl<|Te ?_
 obtain ⟨gq, e4, e5⟩ := bS hm
 refine Cj (fun ee e' hp' => [(8, bv gq)] = e' ∧ (n ++ R) = hp' ∧ gp.Le ee) ?_ ?_
 have hm := e4
 refine Cg<|mV rfl<|Tb rfl (q1 rfl rfl) (fun ct => ?_) (fun ct => ?_)
 rw [if_pos ct] at hm
 refine mV rfl<|yS<|mV rfl<|yS ?_
 obtain ⟨cT, ef, hm⟩ := bS hm
 have zn := a.trans (c.trans (m.trans ar))
 refine P4 aV p q r n<|P4 n aV p q r<|P4 r n aV p q<|P4 q r n aV p<|G7 [_] [] p q r n (aV ++ R) rfl<|Tg _ rfl j2G rfl (q7o _ _ C D E F G H I bl bm bH bI ads ae J K L O S T U V W X Y Z aa ab aW aX p aY aZ q x r n (aH.le zn) (aI.le zn) (aJ.le zn) (aK.le zn) (aL.le zn) (aM.le zn) (aN.le zn) (cp.le ar) (cq.le ar) (cr.le ar) (cs.le ar) cT ef) ?_
 rintro _ gr _ a2 ⟨gs, gt, bA, rfl, rfl, gu⟩
 refine z2O [_] [] bA p q r n (aV ++ R) rfl<|yS<|mV rfl<|yS<|tD (V3 (el := 3) [(0, iv aE)] [iv aE] rfl (fun _ => by kernel_rfl)) ?_
 rintro _ _ ⟨bz, rfl, rfl⟩
 refine yS<|j3g 0 [_] (bA ++ (p ++ (q ++ (r ++ (n ++ (aV ++ R)))))) rfl rfl ?_
 have gv : OS 3 (OT.fr rI) gr.w (.slice (some ⟨bz, 0, none⟩) 1 1) [aE] [(bz, Cl 3 [iv aE])] := OS.lit [[iv aE]] rfl ⟨rfl, trivial⟩ rfl (by decide)
 obtain ⟨eg, eh, hm⟩ := bS hm
 refine tD (uW _ j2H rfl (fun w ho => q9y _ [] cT [aE] gs gt (some ⟨bz, 0, none⟩) 1 (OS.now (o := (OT.fr rI)) (l := cT) (hs := bA) gu ho (.cons _ (ss [(bz, Cl 3 [iv aE])] (Kb _ _)))) (OS.now (o := (OT.fr rI)) (l := [aE]) (hs := [(bz, Cl 3 [iv aE])]) gv ho (.cons _ (Kb _ _))) eg eh) (fun _ _ _ h => h.2.symm)) ?_
 rintro _ _ ⟨⟨_, rfl, _⟩, rfl⟩
 rcases Kg eg with bB | bB
 rw [if_pos bB] at hm
 refine Tr 158 rfl (v' := .bool true) (by rw [bB] <;> rfl)<|tS (pT rfl rfl)<|mV rfl<|yS<|mV rfl<|yS<|tS (sE rfl q5x)<|yS<|Tb rfl (q1 rfl rfl) (fun cu => ?_) (fun cu => ?_)
 rw [if_pos cu] at hm
 refine tS (pT rfl rfl)<|mV rfl<|yS<|mV rfl<|yS ?_
 obtain ⟨hx, gw, hm⟩ := bS hm
 obtain ⟨gx, e6, e7⟩ := iS gw
 obtain ⟨g2, g3, hy, hz, g4, e8, ei, c8, ej, g5, gG⟩ := OS.get (sz := 4) rfl (by decide) (ed.le a2) e7
 obtain ⟨⟨_, _, rfl, rfl, ⟨_, _, rfl, rfl, ⟨_, _, rfl, rfl, rfl⟩⟩⟩, rfl⟩ := e8
 refine tS (sI gx rfl rfl e6 ej c8 q5x)<|yS<|tS (sQ rfl c8 q0H)<|yS<|tS (Q3 rfl Q8 (fun w ho => ei w _ ho (.cons _ (ss [(bz, Cl 3 [iv aE])] (ss bA (ss p (ss q (ss r (ss n (Kb _ _)))))))) 0 _ rfl))<|yS<|Tb rfl (q1 rfl rfl) (fun cv => ?_) (fun cv => ?_)
 rw [if_pos cv] at hm
 refine tS (pT rfl rfl)<|mV rfl<|yS<|mV rfl<|yS ?_
 obtain ⟨hA, gy, hm⟩ := bS hm
 obtain ⟨gz, e9, fa⟩ := iS gy
 obtain ⟨g6, g7, hB, hC, g8, fb, ek, da, em, g9, gH⟩ := OS.get (sz := 4) rfl (by decide) (ed.le a2) fa
 obtain ⟨⟨_, _, rfl, rfl, ⟨_, _, rfl, rfl, ⟨_, _, rfl, rfl, rfl⟩⟩⟩, rfl⟩ := fb
 refine tS (sI gz rfl rfl e9 em da q5x)<|yS<|tS (sQ rfl da q3N)<|yS<|tS (Q3 rfl Q8 (fun w ho => ek w _ ho (.cons _ (ss [(bz, Cl 3 [iv aE])] (ss bA (ss p (ss q (ss r (ss n (Kb _ _)))))))) 1 _ rfl))<|yS<|mV rfl<|yS<|tS (q1 rfl rfl)<|tS (pT rfl rfl)<|aS rfl<|Tn ?_
 obtain rfl := o1 hm
 exact jJ ⟨rfl, rfl, a2⟩
 rw [if_neg cv] at hm
 refine tS (pT rfl rfl)<|mV rfl<|nO<|nO<|nO<|nO<|nO<|nO<|tS (pF rfl rfl)<|aS rfl<|Tn ?_
 obtain rfl := o1 hm
 exact jJ ⟨rfl, rfl, a2⟩
 rw [if_neg cu] at hm
 refine tS (pT rfl rfl)<|mV rfl<|nO<|nO<|nO<|nO<|nO<|tS (pF rfl rfl)<|mV rfl<|nO<|nO<|nO<|nO<|nO<|nO<|tS (pF rfl rfl)<|aS rfl<|Tn ?_
 obtain rfl := o1 hm
 exact jJ ⟨rfl, rfl, a2⟩
 rw [if_neg (fun hh => Bool.noConfusion (hh.symm.trans bB))] at hm
 refine Tr 158 rfl (v' := .bool false) (by rw [bB] <;> rfl)<|tS (pT rfl rfl)<|mV rfl<|nO<|nO<|nO<|tS (pF rfl rfl)<|mV rfl<|nO<|nO<|nO<|nO<|nO<|tS (pF rfl rfl)<|mV rfl<|nO<|nO<|nO<|nO<|nO<|nO<|tS (pF rfl rfl)<|aS rfl<|Tn ?_
 obtain rfl := o1 hm
 exact jJ ⟨rfl, rfl, a2⟩
 rw [if_neg ct] at hm
 refine mV rfl<|nO<|nO<|nO<|nO<|nO<|tS (pF rfl rfl)<|mV rfl<|nO<|nO<|nO<|tS (pF rfl rfl)<|mV rfl<|nO<|nO<|nO<|nO<|nO<|tS (pF rfl rfl)<|mV rfl<|nO<|nO<|nO<|nO<|nO<|nO<|tS (pF rfl rfl)<|aS rfl<|Tn ?_
 obtain rfl := o1 hm
 exact jJ ⟨rfl, rfl, lr⟩
 rintro ee _ _ ⟨rfl, rfl, en⟩
 have hm := e5
 refine Ct ?_
 obtain rfl := o1 hm
 exact rO ⟨rfl, rfl⟩ (s.trans (ac.trans (aq.trans (a.trans (c.trans (m.trans (ar.trans en)))))))
end Go.Proofs.YtjlollifgeggdaaGreatDoor
