import Derived.Test.YtdbehipjelcmbaaGreatDoorQZP5
set_option linter.unusedVariables false
set_option linter.unusedSimpArgs false
set_option linter.unusedSectionVars false
namespace Go.Proofs.YtdbehipjelcmbaaGreatDoor
open Go.RowKit Go.Fp
set_option maxHeartbeats 4000000
set_option maxRecDepth 20000
open Go.Fp renaming q4t → Te, q6p → Tn, q4S → Tb, q6q → Tg, z3Z → Tr, q5Y → Cr, q2V → Cs, q0w → Cg, q6K → Cb, q3M → Ct, q3d → Ck, z1j → Ce, z2z → Cj, q9m → Cp, Q4 → Xn, V5 → Xr, q1q → Xe, q1r → Xb, q0k → Xm, q2m → Xo, q8R → sL, q5N → sD, q6Z → sF, z0C → sE, q5s → pT, q5t → pF, q0B → sI, q2v → sP, z0G → sa, q5L → lT, q5M → lF, q6d → sn2, z2L → uB, q7v → uA, q4Q → uN, q5I → uW, q3L → fE, q7L → bS, z2V → o1, q4Y → iS, q5K → ss, z7w → mc, z7v → mn, q7Y → q2
theorem z1w (b : k8) (R : Hp) (I : v6) (af ag ah ai aj ak al an ao aq ar T U V K L cE aI O S cG a5) (adt : Int → Nat) (ads : Int → Nat) (aa ab bX bY bZ b0 b1 b2 b3 b4 b5 b6 au av aw ax ay az aA aB aC aD aE aF aG aH aJ aK aL aM aN aO aP aQ aR aT W X Y Z A3 c4 p A8 c9 q ac aU g aV aW i aX aY j ad aZ k) (e6 : FZ RT.str b.w bX bY I.Stations) (er : FZ j3 b.w bZ b0 I.Sections) (e7 : FZ w6 b.w b1 b2 I.Links) (es : FZ j6 b.w b3 b4 I.Signals) (et : FZ w7 b.w b5 b6 I.Gates) (bn : FZ RT.str b.w au av af) (bo : FZ j3 b.w aw ax ag) (bp : FZ w6 b.w ay az ah) (bq : FZ j6 b.w aA aB ai) (br : FZ w7 b.w aC aD aj) (bs : FZ Q3 b.w aE aF ak) (bt : FZ (RT.list j8) b.w aG aH al) (bC : FZ RT.str b.w aJ aK an) (bD : FZ j3 b.w aL aM ao) (bE : FZ w6 b.w aN aO aq) (bG : FZ j6 b.w aP aQ ar) (bH : FZ w7 b.w aR aT T) (a8 : FZ Q3 b.w W X U) (a9 : FZ (RT.list j8) b.w Y Z V) (h5 : OS 59 (OT.fr j9) b.w (sv A3 K c4) K p) (bu : OS 127 (OT.fr v8) b.w (sv A8 L c9) L q) (eu : OM rI (OT.fr (RT.key ads)) false false b.w ac cE aU) (bw : OAr 85 z8 ads b.w aI g) (bI : OS 59 (OT.fr j9) b.w (sv aV O aW) O i) (bJ : OS 127 (OT.fr v8) b.w (sv aX S aY) S j) (ev : OM rI (OT.fr (RT.key adt)) false false b.w ad cG aZ) (bK : OAr 85 z8 adt b.w a5 k) (cH cJ cK) (hm : q1E I af ag ah ai aj ak al an ao aq ar T U V K L cE aI O S cG a5 = some (cH, cJ, cK)):
 w8 Tryz.prog 13 [.agg #[sv bX I.Stations bY, sv bZ I.Sections b0, sv b1 I.Links b2, sv b3 I.Signals b4, sv b5 I.Gates b6], pb aa, pb ab] b ((aa, Cl 57 [sv au af av, sv aw ag ax, sv ay ah az, sv aA ai aB, sv aC aj aD, sv aE ak aF, sv aG al aH, sv A3 K c4, sv A8 L c9, .map (some ac)]) :: (ab, Cl 57 [sv aJ an aK, sv aL ao aM, sv aN aq aO, sv aP ar aQ, sv aR T aT, sv W U X, sv Y V Z, sv aV O aW, sv aX S aY, .map (some ad)]) :: (p ++ (q ++ (aU ++ (g ++ (i ++ (j ++ (aZ ++ (k ++ R))))))))) (fun v b' hp' => ∃ cO b7 cP b8, bv cH = v ∧ (aa, Cl 57 [sv au af av, sv aw ag ax, sv ay ah az, sv aA ai aB, sv aC aj aD, sv aE ak aF, sv aG al aH, sv A3 K c4, sv A8 L c9, .map (some cO)]) :: (ab, Cl 57 [sv aJ an aK, sv aL ao aM, sv aN aq aO, sv aP ar aQ, sv aR T aT, sv W U X, sv Y V Z, sv aV O aW, sv aX S aY, .map (some cP)]) :: (p ++ (q ++ (b7 ++ (g ++ (i ++ (j ++ (b8 ++ (k ++ R)))))))) = hp' ∧ OM rI (OT.fr (RT.key ads)) false false b'.w cO cJ b7 ∧ OM rI (OT.fr (RT.key adt)) false false b'.w cP cK b8) := by
 refine fE 195 Tryz.func13 rfl Tryz.ntmps13 rfl ?_
 unfold q1E at hm
 refine Cr<|tD (uB _ rfl rfl) ?_
 rintro _ _ ⟨bk, rfl, rfl⟩
 refine aS rfl<|Te<|Cs<|Cr<|tS (sF rfl q0m)<|tS (sL 0 rfl q5n rfl rfl)<|tS (sE rfl z0I)<|mV rfl<|Te<|Cb ?_
 have ew : I.Sections.length ≤ 9223372036854775807 := (FZ.bd er)
 refine Cp 2 rfl<|Cp 2 rfl<|q4m p q aU g i j aZ k<|q4m k p q aU g i j aZ<|q4m aZ k p q aU g i j<|q4m j aZ k p q aU g i<|q4m i j aZ k p q aU g<|q4m g i j aZ k p q aU<|q4m aU g i j aZ k p q<|q4m q aU g i j aZ k p ?_
 obtain ⟨eJ, c1, bx⟩ := bS hm
 refine lF (fun a7 => K5 fun a0 a6 => fun bl e' hp' => ∃ f e, [(1, pb aa), (2, pb ab), (3, pb bk), (44, iv ((I.Sections.length : Int))), (45, iv ((a7 : Int)))] = e' ∧ (aa, Cl 57 [sv au af av, sv aw ag ax, sv ay ah az, sv aA ai aB, sv aC aj aD, sv aE ak aF, sv aG al aH, sv A3 K c4, sv A8 L c9, .map (some ac)]) :: (ab, Cl 57 [sv aJ an aK, sv aL ao aM, sv aN aq aO, sv aP ar aQ, sv aR T aT, sv W U X, sv Y V Z, sv aV O aW, sv aX S aY, .map (some ad)]) :: (bk, Cl 28 [sv bX I.Stations bY, sv bZ I.Sections b0, sv b1 I.Links b2, sv b3 I.Signals b4, sv b5 I.Gates b6]) :: (p ++ (q ++ (f ++ (g ++ (i ++ (j ++ (e ++ (k ++ R)))))))) = hp' ∧ b.Le bl ∧ OM rI (OT.fr (RT.key ads)) false false bl.w ac a0 f ∧ OM rI (OT.fr (RT.key adt)) false false bl.w ad a6 e) c1 ⟨aU, aZ, rfl, rfl, lr, eu, ev⟩ ?_ ?_
 rintro a7 ⟨a0, a6⟩ bl _ _ ex dy ⟨f, e, rfl, rfl, a, ae, am⟩ be bT
 unfold Y7 at be
 have hm := J4 be
 refine Cr<|tS (lT rfl rfl (by omega))<|Te<|Cs<|k9 rfl<|Ck<|Xn<|Cs<|Cb<|Cr<|mV rfl<|aS rfl<|Te<|Cr<|mV rfl<|mV rfl ?_
 obtain ⟨⟨cQ, dz⟩, ci, hm⟩ := bS hm
 have hm := J4 hm
 refine q9K p q f g<|q9K g p q f<|q9K f g p q<|q9K q f g p<|Z7 [_] [_, _] p q f g (i ++ (j ++ (e ++ (k ++ R)))) rfl<|Tg _ rfl j2l rfl (q8G _ _ (a7 : Int) af ag ah ai aj ak al K L a0 aI ads aa au av aw ax ay az aA aB aC aD aE aF aG aH A3 c4 p A8 c9 q ac f g (bn.le a) (bo.le a) (bp.le a) (bq.le a) (br.le a) (bs.le a) (bt.le a) (h5.le a) (bu.le a) ae (bw.le a) cQ dz ci) ?_
 rintro _ eK _ r ⟨rfl, rfl⟩
 refine K6 [_] [_, _] p q f g (i ++ (j ++ (e ++ (k ++ R)))) rfl<|mV rfl<|tS (j5 rfl rfl)<|tS (j5 rfl rfl)<|aS rfl<|aS rfl<|Te<|Cr<|mV rfl<|mV rfl ?_
 obtain ⟨⟨cR, dA⟩, cj, hm⟩ := bS hm
 have hm := J4 hm
 have zz := a.trans r
 refine Q9 1 rfl<|q3Q p q f g i j e k<|q3Q k p q f g i j e<|q3Q e k p q f g i j<|q3Q j e k p q f g i<|Z7 [_] [_, _] i j e k (p ++ (q ++ (f ++ (g ++ R)))) rfl<|Tg _ rfl j2l rfl (q8G _ _ (a7 : Int) an ao aq ar T U V O S a6 a5 adt ab aJ aK aL aM aN aO aP aQ aR aT W X Y Z aV aW i aX aY j ad e k (bC.le zz) (bD.le zz) (bE.le zz) (bG.le zz) (bH.le zz) (a8.le zz) (a9.le zz) (bI.le zz) (bJ.le zz) (am.le r) (bK.le zz) cR dA cj) ?_
 rintro _ eL _ s ⟨rfl, rfl⟩
 refine K6 [_] [_, _] i j e k (p ++ (q ++ (f ++ (g ++ R)))) rfl<|mV rfl<|tS (j5 rfl rfl)<|tS (j5 rfl rfl)<|aS rfl<|aS rfl<|Te<|Cr<|mV rfl<|mV rfl ?_
 obtain ⟨⟨dB, dC, cT⟩, ck, hm⟩ := bS hm
 have hm := q4s hm
 have zy := a.trans (r.trans s)
 refine Q9 1 rfl<|q3Q i j e k p q f g<|q3Q g i j e k p q f<|q3Q f g i j e k p q<|q3Q q f g i j e k p<|Z7 [_] [_, _] p q f g (i ++ (j ++ (e ++ (k ++ R)))) rfl<|Tg _ rfl j2k rfl (q6V _ _ (a7 : Int) af ag ah ai aj ak al K L a0 aI ads aa au av aw ax ay az aA aB aC aD aE aF aG aH A3 c4 p A8 c9 q ac f g (bn.le zy) (bo.le zy) (bp.le zy) (bq.le zy) (br.le zy) (bs.le zy) (bt.le zy) (h5.le zy) (bu.le zy) (ae.le (r.trans s)) (bw.le zy) dB dC cT ck) ?_
 rintro _ eM _ x ⟨A, rfl, rfl, b9⟩
 refine K6 [_] [_, _] p q A g (i ++ (j ++ (e ++ (k ++ R)))) rfl<|mV rfl<|tS (j5 rfl rfl)<|tS (j5 rfl rfl)<|aS rfl<|aS rfl<|Te<|Cr<|mV rfl<|mV rfl ?_
 obtain ⟨⟨dD, dE, cU⟩, cl, hm⟩ := bS hm
 have hm := q4s hm
 have zx := a.trans (r.trans (s.trans x))
 refine Q9 1 rfl<|q3Q p q A g i j e k<|q3Q k p q A g i j e<|q3Q e k p q A g i j<|q3Q j e k p q A g i<|Z7 [_] [_, _] i j e k (p ++ (q ++ (A ++ (g ++ R)))) rfl<|Tg _ rfl j2k rfl (q6V _ _ (a7 : Int) an ao aq ar T U V O S a6 a5 adt ab aJ aK aL aM aN aO aP aQ aR aT W X Y Z aV aW i aX aY j ad e k (bC.le zx) (bD.le zx) (bE.le zx) (bG.le zx) (bH.le zx) (a8.le zx) (a9.le zx) (bI.le zx) (bJ.le zx) (am.le (r.trans (s.trans x))) (bK.le zx) dD dE cU cl) ?_
 rintro _ eO _ z ⟨H, rfl, rfl, ca⟩
 refine K6 [_] [_, _] i j H k (p ++ (q ++ (A ++ (g ++ R)))) rfl<|mV rfl<|tS (j5 rfl rfl)<|tS (j5 rfl rfl)<|aS rfl<|aS rfl<|Te<|Cr<|mV rfl<|mV rfl ?_
 obtain ⟨⟨dF, dH, dI⟩, cm, hm⟩ := bS hm
 have hm := q4s hm
 have zw := a.trans (r.trans (s.trans (x.trans z)))
 refine Q9 1 rfl<|q3Q i j H k p q A g<|q3Q g i j H k p q A<|q3Q A g i j H k p q<|q3Q q A g i j H k p<|Z7 [_] [_, _] p q A g (i ++ (j ++ (H ++ (k ++ R)))) rfl<|Tg _ rfl j2j rfl (q6i _ _ (a7 : Int) af ag ah ai aj ak al K L cT aI ads aa au av aw ax ay az aA aB aC aD aE aF aG aH A3 c4 p A8 c9 q ac A g (bn.le zw) (bo.le zw) (bp.le zw) (bq.le zw) (br.le zw) (bs.le zw) (bt.le zw) (h5.le zw) (bu.le zw) (b9.le z) (bw.le zw) dF dH dI cm) ?_
 rintro _ eP _ B ⟨rfl, rfl⟩
 refine K6 [_] [_, _] p q A g (i ++ (j ++ (H ++ (k ++ R)))) rfl<|mV rfl<|tS (j5 rfl rfl)<|tS (j5 rfl rfl)<|tS (j5 rfl rfl)<|aS rfl<|aS rfl<|aS rfl<|Te<|Cr<|mV rfl<|mV rfl ?_
 obtain ⟨⟨dJ, dK, dL⟩, cn, hm⟩ := bS hm
 have hm := q4s hm
 have zv := a.trans (r.trans (s.trans (x.trans (z.trans B))))
 refine Q9 1 rfl<|q3Q p q A g i j H k<|q3Q k p q A g i j H<|q3Q H k p q A g i j<|q3Q j H k p q A g i<|Z7 [_] [_, _] i j H k (p ++ (q ++ (A ++ (g ++ R)))) rfl<|Tg _ rfl j2j rfl (q6i _ _ (a7 : Int) an ao aq ar T U V O S cU a5 adt ab aJ aK aL aM aN aO aP aQ aR aT W X Y Z aV aW i aX aY j ad H k (bC.le zv) (bD.le zv) (bE.le zv) (bG.le zv) (bH.le zv) (a8.le zv) (a9.le zv) (bI.le zv) (bJ.le zv) (ca.le B) (bK.le zv) dJ dK dL cn) ?_
 rintro _ dM _ a2 ⟨rfl, rfl⟩
 refine K6 [_] [_, _] i j H k (p ++ (q ++ (A ++ (g ++ R)))) rfl<|mV rfl<|tS (j5 rfl rfl)<|tS (j5 rfl rfl)<|tS (j5 rfl rfl)<|aS rfl<|aS rfl<|aS rfl<|Te ?_
 obtain ⟨dN, c2, c3⟩ := bS hm
 refine Cj (fun cV e' hp' => [(1, pb aa), (2, pb ab), (3, pb bk), (44, iv ((I.Sections.length : Int))), (45, iv ((a7 : Int))), (103, bv dN)] = e' ∧ (aa, Cl 57 [sv au af av, sv aw ag ax, sv ay ah az, sv aA ai aB, sv aC aj aD, sv aE ak aF, sv aG al aH, sv A3 K c4, sv A8 L c9, .map (some ac)]) :: (ab, Cl 57 [sv aJ an aK, sv aL ao aM, sv aN aq aO, sv aP ar aQ, sv aR T aT, sv W U X, sv Y V Z, sv aV O aW, sv aX S aY, .map (some ad)]) :: (bk, Cl 28 [sv bX I.Stations bY, sv bZ I.Sections b0, sv b1 I.Links b2, sv b3 I.Signals b4, sv b5 I.Gates b6]) :: (p ++ (q ++ (A ++ (g ++ (i ++ (j ++ (H ++ (k ++ R)))))))) = hp' ∧ dM.Le cV) ?_ ?_
 have hm := c2
 refine Cg<|mV rfl<|mV rfl<|tS (z2S rfl rfl j6o) ?_
 rcases Kg (decide (cQ ≠ cR)) with bf | bf
 rw [if_pos bf] at hm
 refine Tr 88 rfl (v' := .bool true) (by rw [bf] <;> rfl)<|mV rfl<|nO<|nO<|nO<|tS (pT rfl rfl)<|mV rfl<|nO<|nO<|nO<|tS (pT rfl rfl)<|mV rfl<|nO<|nO<|nO<|tS (pT rfl rfl)<|Tn ?_
 obtain rfl := o1 hm
 exact jJ ⟨rfl, rfl, lr⟩
 rw [if_neg (fun hh => Bool.noConfusion (hh.symm.trans bf))] at hm
 refine Tr 88 rfl (v' := .bool false) (by rw [bf] <;> rfl)<|mV rfl<|yS<|mV rfl<|yS<|mV rfl<|yS<|Tb rfl (q2 rfl rfl) (fun bL => ?_) (fun bL => ?_)
 rw [if_pos bL] at hm
 refine tS (pF rfl rfl)<|mV rfl<|nO<|nO<|nO<|tS (pT rfl rfl)<|mV rfl<|nO<|nO<|nO<|tS (pT rfl rfl)<|Tn ?_
 obtain rfl := o1 hm
 exact jJ ⟨rfl, rfl, lr⟩
 rw [if_neg bL] at hm
 refine tS (pF rfl rfl)<|mV rfl<|yS<|mV rfl<|yS<|mV rfl<|yS<|Tb rfl (q2 rfl rfl) (fun bM => ?_) (fun bM => ?_)
 rw [if_pos bM] at hm
 refine tS (pF rfl rfl)<|mV rfl<|nO<|nO<|nO<|tS (pT rfl rfl)<|Tn ?_
 obtain rfl := o1 hm
 exact jJ ⟨rfl, rfl, lr⟩
 rw [if_neg bM] at hm
 refine tS (pF rfl rfl)<|mV rfl<|yS<|mV rfl<|yS<|mV rfl<|yS<|tS (z2S rfl rfl j6o)<|tS (pF rfl rfl)<|Tn ?_
 obtain rfl := o1 hm
 exact jJ ⟨rfl, rfl, lr⟩
 rintro cV _ _ ⟨rfl, rfl, a3⟩
 have hm := c3
 refine cB hm rfl (fun hm => ?_) fun hm => ?_
 refine Cr<|aS rfl<|Te<|Ct<|Xb<|Xr<|Xr<|Xb<|Xr ?_
 have c5 := bT _ (Kd hm).symm
 rw [c5] at bx
 have hm := J9 bx
 obtain ⟨rfl, rfl, rfl⟩ := q2o hm
 have zu := z.trans (B.trans (a2.trans a3))
 have c6 := b9.le zu
 have c7 := (ca.le (B.trans (a2.trans a3)))
 exact rO ⟨ac, A, ad, H, rfl, rfl, c6, c7⟩ (a.trans (r.trans (s.trans (x.trans zu))))
 refine Ck<|Xm<|Xn<|Cg<|tS (sa rfl rfl (by omega))<|mV rfl<|Tn ?_
 have zt := z.trans (B.trans (a2.trans a3))
 exact jM hm ⟨A, H, rfl, rfl, ((a.trans (r.trans (s.trans (x.trans zt))))), (b9.le zt), (ca.le (B.trans (a2.trans a3)))⟩
 rintro ⟨a0, a6⟩ bl _ _ ⟨f, e, rfl, rfl, a, ae, am⟩ c8
 rw [c8] at bx
 have hm := H4 bx
 have hm := J4 hm
 refine Cr<|tS (lF rfl rfl (by omega))<|Te<|Cs<|k7 rfl<|Ce<|Xe<|Xe<|Xo<|Xn<|Cs<|Cr<|tS (sF rfl q3k)<|tS (sL 2 rfl q8X rfl rfl)<|tS (sE rfl z4e)<|mV rfl<|Te<|Cb ?_
 have ey : I.Signals.length ≤ 9223372036854775807 := (FZ.bd (es.le a))
 refine Cp 2 rfl<|Cp 2 rfl<|Cp 2 rfl<|q4m p q f g i j e k<|q4m k p q f g i j e<|q4m e k p q f g i j<|q4m j e k p q f g i<|q4m i j e k p q f g<|q4m g i j e k p q f<|q4m f g i j e k p q<|q4m q f g i j e k p ?_
 obtain ⟨eQ, da, bz⟩ := bS hm
 refine lF (fun bO => fun _ => fun bP e' hp' => [(1, pb aa), (2, pb ab), (3, pb bk), (107, iv ((I.Signals.length : Int))), (108, iv ((bO : Int)))] = e' ∧ (aa, Cl 57 [sv au af av, sv aw ag ax, sv ay ah az, sv aA ai aB, sv aC aj aD, sv aE ak aF, sv aG al aH, sv A3 K c4, sv A8 L c9, .map (some ac)]) :: (ab, Cl 57 [sv aJ an aK, sv aL ao aM, sv aN aq aO, sv aP ar aQ, sv aR T aT, sv W U X, sv Y V Z, sv aV O aW, sv aX S aY, .map (some ad)]) :: (bk, Cl 28 [sv bX I.Stations bY, sv bZ I.Sections b0, sv b1 I.Links b2, sv b3 I.Signals b4, sv b5 I.Gates b6]) :: (p ++ (q ++ (f ++ (g ++ (i ++ (j ++ (e ++ (k ++ R)))))))) = hp' ∧ bl.Le bP) da ⟨rfl, rfl, lr⟩ ?_ ?_
 rintro bO _ bP _ _ ez dO ⟨rfl, rfl, c⟩ bg bU
 unfold q0v at bg
 have hm := bg
 refine Cr<|tS (lT rfl rfl (by omega))<|Te<|Cs<|k9 rfl<|Ck<|Xn<|Cs<|Cb<|Cr<|mV rfl<|aS rfl<|Te<|Cr<|mV rfl<|mV rfl ?_
 obtain ⟨⟨dP, dQ⟩, co, hm⟩ := bS hm
 have hm := J4 hm
 have zs := a.trans c
 refine q9K p q f g<|q9K g p q f<|q9K f g p q<|q9K q f g p<|Z7 [_] [_, _] p q f g (i ++ (j ++ (e ++ (k ++ R)))) rfl<|Tg _ rfl j2o rfl (q7t _ _ (bO : Int) af ag ah ai aj ak al K L a0 aI ads aa au av aw ax ay az aA aB aC aD aE aF aG aH A3 c4 p A8 c9 q ac f g (bn.le zs) (bo.le zs) (bp.le zs) (bq.le zs) (br.le zs) (bs.le zs) (bt.le zs) (h5.le zs) (bu.le zs) (ae.le c) (bw.le zs) dP dQ co) ?_
 rintro _ eR _ E ⟨rfl, rfl⟩
 refine K6 [_] [_, _] p q f g (i ++ (j ++ (e ++ (k ++ R)))) rfl<|mV rfl<|tS (j5 rfl rfl)<|tS (j5 rfl rfl)<|aS rfl<|aS rfl<|Te<|Cr<|mV rfl<|mV rfl ?_
 obtain ⟨⟨dR, dS⟩, cp, hm⟩ := bS hm
 have hm := J4 hm
 have zr := a.trans (c.trans E)
 refine Q9 1 rfl<|q3Q p q f g i j e k<|q3Q k p q f g i j e<|q3Q e k p q f g i j<|q3Q j e k p q f g i<|Z7 [_] [_, _] i j e k (p ++ (q ++ (f ++ (g ++ R)))) rfl<|Tg _ rfl j2o rfl (q7t _ _ (bO : Int) an ao aq ar T U V O S a6 a5 adt ab aJ aK aL aM aN aO aP aQ aR aT W X Y Z aV aW i aX aY j ad e k (bC.le zr) (bD.le zr) (bE.le zr) (bG.le zr) (bH.le zr) (a8.le zr) (a9.le zr) (bI.le zr) (bJ.le zr) (am.le (c.trans E)) (bK.le zr) dR dS cp) ?_
 rintro _ eS _ ba ⟨rfl, rfl⟩
 refine K6 [_] [_, _] i j e k (p ++ (q ++ (f ++ (g ++ R)))) rfl<|mV rfl<|tS (j5 rfl rfl)<|tS (j5 rfl rfl)<|aS rfl<|aS rfl<|Te<|Cr<|mV rfl<|mV rfl<|tS (q2 rfl rfl)<|Te<|cI hm rfl (fun hm => ?_) fun hm => ?_
 refine Cr<|aS rfl<|Te<|Ct<|Xb<|Xr<|Xr<|Xb<|Xr ?_
 have db := bU _ (Kd hm).symm
 rw [db] at bz
 have hm := J9 bz
 obtain ⟨rfl, rfl, rfl⟩ := q2o hm
 have zq := c.trans (E.trans ba)
 have dc := ae.le zq
 have dd := am.le zq
 exact rO ⟨ac, f, ad, e, rfl, rfl, dc, dd⟩ (a.trans zq)
 refine Ck<|Xm<|Xn<|Cg<|tS (sa rfl rfl (by omega))<|mV rfl<|Tn ?_
 exact jM hm ⟨rfl, rfl, ((c.trans (E.trans ba)))⟩
 rintro _ bP _ _ ⟨rfl, rfl, c⟩ de
 rw [de] at bz
 have hm := H4 bz
 refine Cr<|tS (lF rfl rfl (by omega))<|Te<|Cs<|k7 rfl<|Ce<|Xe<|Xe<|Xo<|Xn<|Cs<|Cr<|tS (sF rfl q5V)<|tS (sL 2 rfl z3h rfl rfl)<|tS (sE rfl z7b)<|mV rfl<|Te<|Cb ?_
 have eA : I.Gates.length ≤ 9223372036854775807 := (FZ.bd (et.le (a.trans c)))
 refine Cp 1 rfl<|Cp 1 rfl<|q4m p q f g i j e k<|q4m k p q f g i j e<|q4m e k p q f g i j<|q4m j e k p q f g i<|q4m i j e k p q f g<|q4m g i j e k p q f<|q4m f g i j e k p q<|q4m q f g i j e k p ?_
 obtain ⟨eU, df, bA⟩ := bS hm
 refine lF (fun bQ => fun _ => fun cb e' hp' => [(1, pb aa), (2, pb ab), (129, iv ((I.Gates.length : Int))), (130, iv ((bQ : Int)))] = e' ∧ (aa, Cl 57 [sv au af av, sv aw ag ax, sv ay ah az, sv aA ai aB, sv aC aj aD, sv aE ak aF, sv aG al aH, sv A3 K c4, sv A8 L c9, .map (some ac)]) :: (ab, Cl 57 [sv aJ an aK, sv aL ao aM, sv aN aq aO, sv aP ar aQ, sv aR T aT, sv W U X, sv Y V Z, sv aV O aW, sv aX S aY, .map (some ad)]) :: (p ++ (q ++ (f ++ (g ++ (i ++ (j ++ (e ++ (k ++ R)))))))) = hp' ∧ bP.Le cb) df ⟨rfl, rfl, lr⟩ ?_ ?_
 rintro bQ _ cb _ _ eB dT ⟨rfl, rfl, d⟩ bh bV
 unfold q0u at bh
 have hm := bh
 refine Cr<|tS (lT rfl rfl (by omega))<|Te<|Cs<|k9 rfl<|Ck<|Xn<|Cs<|Cb<|Cr<|mV rfl<|aS rfl<|Te<|Cr<|mV rfl<|mV rfl ?_
 obtain ⟨⟨dU, dV⟩, cq, hm⟩ := bS hm
 have hm := J4 hm
 have zp := a.trans (c.trans d)
 refine J8 p q f g<|J8 g p q f<|J8 f g p q<|J8 q f g p<|Z7 [_] [_] p q f g (i ++ (j ++ (e ++ (k ++ R)))) rfl<|Tg _ rfl j2i rfl (q7s _ _ (bQ : Int) af ag ah ai aj ak al K L a0 aI ads aa au av aw ax ay az aA aB aC aD aE aF aG aH A3 c4 p A8 c9 q ac f g (bn.le zp) (bo.le zp) (bp.le zp) (bq.le zp) (br.le zp) (bs.le zp) (bt.le zp) (h5.le zp) (bu.le zp) (ae.le (c.trans d)) (bw.le zp) dU dV cq) ?_
 rintro _ eV _ F ⟨rfl, rfl⟩
 refine K6 [_] [_] p q f g (i ++ (j ++ (e ++ (k ++ R)))) rfl<|mV rfl<|tS (j5 rfl rfl)<|tS (j5 rfl rfl)<|aS rfl<|aS rfl<|Te<|Cr<|mV rfl<|mV rfl ?_
 obtain ⟨⟨dW, dX⟩, cr, hm⟩ := bS hm
 have hm := J4 hm
 have zo := a.trans (c.trans (d.trans F))
 refine Q9 1 rfl<|j0s p q f g i j e k<|j0s k p q f g i j e<|j0s e k p q f g i j<|j0s j e k p q f g i<|Z7 [_] [_] i j e k (p ++ (q ++ (f ++ (g ++ R)))) rfl<|Tg _ rfl j2i rfl (q7s _ _ (bQ : Int) an ao aq ar T U V O S a6 a5 adt ab aJ aK aL aM aN aO aP aQ aR aT W X Y Z aV aW i aX aY j ad e k (bC.le zo) (bD.le zo) (bE.le zo) (bG.le zo) (bH.le zo) (a8.le zo) (a9.le zo) (bI.le zo) (bJ.le zo) (am.le (c.trans (d.trans F))) (bK.le zo) dW dX cr) ?_
 rintro _ eW _ bb ⟨rfl, rfl⟩
 refine K6 [_] [_] i j e k (p ++ (q ++ (f ++ (g ++ R)))) rfl<|mV rfl<|tS (j5 rfl rfl)<|tS (j5 rfl rfl)<|aS rfl<|aS rfl<|Te<|Cr<|mV rfl<|mV rfl<|tS (z2S rfl rfl j6o)<|Te<|cB hm rfl (fun hm => ?_) fun hm => ?_
 refine Cr<|aS rfl<|Te<|Ct<|Xb<|Xr<|Xr<|Xb<|Xr ?_
 have dg := bV _ (Kd hm).symm
 rw [dg] at bA
 have hm := J9 bA
 obtain ⟨rfl, rfl, rfl⟩ := q2o hm
 have zn := c.trans (d.trans (F.trans bb))
 have dh := ae.le zn
 have di := am.le zn
 exact rO ⟨ac, f, ad, e, rfl, rfl, dh, di⟩ (a.trans zn)
 refine Ck<|Xm<|Xn<|Cg<|tS (sa rfl rfl (by omega))<|mV rfl<|Tn ?_
 exact jM hm ⟨rfl, rfl, ((d.trans (F.trans bb)))⟩
 rintro _ cb _ _ ⟨rfl, rfl, d⟩ dj
 rw [dj] at bA
 have hm := H4 bA
 refine Cr<|tS (lF rfl rfl (by omega))<|Te<|Cs<|k7 rfl<|Ce<|Xe<|Xe<|Xo<|Xn<|Cs<|Cr<|mV rfl ?_
 obtain ⟨bm, cs, hm⟩ := bS hm
 have zm := a.trans (c.trans d)
 refine J8 p q f g<|J8 g p q f<|J8 f g p q<|J8 q f g p<|Z7 [_] [_] p q f g (i ++ (j ++ (e ++ (k ++ R)))) rfl<|Tg _ rfl z9x rfl (q5r _ _ af ag ah ai aj ak al K L a0 aI ads aa au av aw ax ay az aA aB aC aD aE aF aG aH A3 c4 p A8 c9 q ac f g (bn.le zm) (bo.le zm) (bp.le zm) (bq.le zm) (br.le zm) (bs.le zm) (bt.le zm) (h5.le zm) (bu.le zm) (ae.le (c.trans d)) (bw.le zm) bm cs) ?_
 rintro _ dY _ n ⟨cW, cX, t, rfl, rfl, cY⟩
 refine z0w [_] [_] t p q f g (i ++ (j ++ (e ++ (k ++ R)))) rfl<|tS (sE rfl z2n)<|mV rfl<|Te<|Cb ?_
 have eC : bm.length ≤ 9223372036854775807 := (OS.len cY)
 refine Cp 1 rfl<|Cp 1 rfl<|z3D t p q f g i j e k<|z3D k t p q f g i j e<|z3D e k t p q f g i j<|z3D j e k t p q f g i<|z3D i j e k t p q f g<|z3D g i j e k t p q f<|z3D f g i j e k t p q<|z3D q f g i j e k t p<|z3D p q f g i j e k t ?_
 obtain ⟨eX, dk, bB⟩ := bS hm
 refine lF (fun cc => fun _ => fun cd e' hp' => [(1, pb aa), (2, pb ab), (150, sv cW bm cX), (151, iv ((bm.length : Int))), (152, iv ((cc : Int)))] = e' ∧ (aa, Cl 57 [sv au af av, sv aw ag ax, sv ay ah az, sv aA ai aB, sv aC aj aD, sv aE ak aF, sv aG al aH, sv A3 K c4, sv A8 L c9, .map (some ac)]) :: (ab, Cl 57 [sv aJ an aK, sv aL ao aM, sv aN aq aO, sv aP ar aQ, sv aR T aT, sv W U X, sv Y V Z, sv aV O aW, sv aX S aY, .map (some ad)]) :: (t ++ (p ++ (q ++ (f ++ (g ++ (i ++ (j ++ (e ++ (k ++ R))))))))) = hp' ∧ dY.Le cd) dk ⟨rfl, rfl, lr⟩ ?_ ?_
 rintro cc _ cd _ _ eD dZ ⟨rfl, rfl, m⟩ bi bW
 unfold q0t at bi
 have hm := bi
 refine Cr<|tS (lT rfl rfl (by omega))<|Te<|Cs<|k9 rfl<|Ck<|Xn<|Cs<|Cb<|Cr ?_
 obtain ⟨bR, d0, hm⟩ := bS hm
 obtain ⟨d1, dl, dm⟩ := iS d0
 obtain ⟨eE, eG, eY, e0, eH, dn, ct, dp, cu, eI, eq⟩ := OS.get (sz := 1) rfl (by decide) (cY.le m) dm
 obtain ⟨rfl, rfl⟩ := dn
 refine tS (sI d1 rfl rfl dl cu dp z2n)<|tS (w9 rfl Q5 (fun w ho => ct w _ ho (.cons _ (.cons _ (Kb _ _))) 0 _ rfl))<|aS rfl<|Te<|Cr<|mV rfl<|mV rfl ?_
 obtain ⟨⟨d5, ce⟩, cv, hm⟩ := bS hm
 have hm := J4 hm
 have zl := a.trans (c.trans (d.trans (n.trans m)))
 refine z2M t p q f g<|z2M g t p q f<|z2M f g t p q<|z2M q f g t p<|Z7 [_] [_] p q f g (t ++ (i ++ (j ++ (e ++ (k ++ R))))) rfl<|Tg _ rfl j2p rfl (q9G _ _ bR af ag ah ai aj ak al K L a0 aI ads aa au av aw ax ay az aA aB aC aD aE aF aG aH A3 c4 p A8 c9 q ac f g (bn.le zl) (bo.le zl) (bp.le zl) (bq.le zl) (br.le zl) (bs.le zl) (bt.le zl) (h5.le zl) (bu.le zl) (ae.le (c.trans (d.trans (n.trans m)))) (bw.le zl) d5 ce cv) ?_
 rintro _ e1 _ u ⟨d6, d7, D, rfl, rfl, d8⟩
 refine z0w [_] [_] D p q f g (t ++ (i ++ (j ++ (e ++ (k ++ R))))) rfl<|mV rfl<|tS (j5 rfl rfl)<|tS (j5 rfl rfl)<|aS rfl<|aS rfl<|Te<|Cr<|mV rfl<|mV rfl ?_
 obtain ⟨⟨d9, cf⟩, cw, hm⟩ := bS hm
 have hm := J4 hm
 have zk := a.trans (c.trans (d.trans (n.trans (m.trans u))))
 refine Q9 1 rfl<|q6c D p q f g t i j e k<|q6c k D p q f g t i j e<|q6c e k D p q f g t i j<|q6c j e k D p q f g t i<|Z7 [_] [_] i j e k (D ++ (p ++ (q ++ (f ++ (g ++ (t ++ R)))))) rfl<|Tg _ rfl j2p rfl (q9G _ _ bR an ao aq ar T U V O S a6 a5 adt ab aJ aK aL aM aN aO aP aQ aR aT W X Y Z aV aW i aX aY j ad e k (bC.le zk) (bD.le zk) (bE.le zk) (bG.le zk) (bH.le zk) (a8.le zk) (a9.le zk) (bI.le zk) (bJ.le zk) (am.le (c.trans (d.trans (n.trans (m.trans u))))) (bK.le zk) d9 cf cw) ?_
 rintro _ e2 _ y ⟨ea, eb, J, rfl, rfl, ec⟩
 refine z0w [_] [_] J i j e k (D ++ (p ++ (q ++ (f ++ (g ++ (t ++ R)))))) rfl<|mV rfl<|tS (j5 rfl rfl)<|tS (j5 rfl rfl)<|aS rfl<|aS rfl<|Te<|Cr<|mV rfl<|mV rfl ?_
 obtain ⟨⟨ed, ee⟩, cx, hm⟩ := bS hm
 have hm := J4 hm
 have zj := a.trans (c.trans (d.trans (n.trans (m.trans (u.trans y)))))
 refine Q9 1 rfl<|q6c J i j e k D p q f g<|q6c g J i j e k D p q f<|q6c f g J i j e k D p q<|q6c q f g J i j e k D p<|Z7 [_] [_] p q f g (J ++ (i ++ (j ++ (e ++ (k ++ (D ++ (t ++ R))))))) rfl<|Tg _ rfl j2n rfl (q9F _ _ bR af ag ah ai aj ak al K L a0 aI ads aa au av aw ax ay az aA aB aC aD aE aF aG aH A3 c4 p A8 c9 q ac f g (bn.le zj) (bo.le zj) (bp.le zj) (bq.le zj) (br.le zj) (bs.le zj) (bt.le zj) (h5.le zj) (bu.le zj) (ae.le (c.trans (d.trans (n.trans (m.trans (u.trans y)))))) (bw.le zj) ed ee cx) ?_
 rintro _ e3 _ C ⟨rfl, rfl⟩
 refine K6 [_] [_] p q f g (J ++ (i ++ (j ++ (e ++ (k ++ (D ++ (t ++ R))))))) rfl<|mV rfl<|tS (j5 rfl rfl)<|tS (j5 rfl rfl)<|aS rfl<|aS rfl<|Te<|Cr<|mV rfl<|mV rfl ?_
 obtain ⟨⟨ef, eg⟩, cy, hm⟩ := bS hm
 have hm := J4 hm
 have zi := a.trans (c.trans (d.trans (n.trans (m.trans (u.trans (y.trans C))))))
 refine Q9 1 rfl<|j0q p q f g J i j e k<|j0q k p q f g J i j e<|j0q e k p q f g J i j<|j0q j e k p q f g J i<|Z7 [_] [_] i j e k (p ++ (q ++ (f ++ (g ++ (J ++ (D ++ (t ++ R))))))) rfl<|Tg _ rfl j2n rfl (q9F _ _ bR an ao aq ar T U V O S a6 a5 adt ab aJ aK aL aM aN aO aP aQ aR aT W X Y Z aV aW i aX aY j ad e k (bC.le zi) (bD.le zi) (bE.le zi) (bG.le zi) (bH.le zi) (a8.le zi) (a9.le zi) (bI.le zi) (bJ.le zi) (am.le (c.trans (d.trans (n.trans (m.trans (u.trans (y.trans C))))))) (bK.le zi) ef eg cy) ?_
 rintro _ eh _ a4 ⟨rfl, rfl⟩
 refine K6 [_] [_] i j e k (p ++ (q ++ (f ++ (g ++ (J ++ (D ++ (t ++ R))))))) rfl<|mV rfl<|tS (j5 rfl rfl)<|tS (j5 rfl rfl)<|aS rfl<|aS rfl<|Te ?_
 obtain ⟨ei, dq, dr⟩ := bS hm
 refine Cj (fun cZ e' hp' => [(1, pb aa), (2, pb ab), (150, sv cW bm cX), (151, iv ((bm.length : Int))), (152, iv ((cc : Int))), (188, bv ei)] = e' ∧ (aa, Cl 57 [sv au af av, sv aw ag ax, sv ay ah az, sv aA ai aB, sv aC aj aD, sv aE ak aF, sv aG al aH, sv A3 K c4, sv A8 L c9, .map (some ac)]) :: (ab, Cl 57 [sv aJ an aK, sv aL ao aM, sv aN aq aO, sv aP ar aQ, sv aR T aT, sv W U X, sv Y V Z, sv aV O aW, sv aX S aY, .map (some ad)]) :: (t ++ (p ++ (q ++ (f ++ (g ++ (i ++ (j ++ (e ++ (k ++ R))))))))) = hp' ∧ eh.Le cZ) ?_ ?_
 have hm := dq
 refine Cg<|mV rfl<|mV rfl ?_
 obtain ⟨c0, cz, hm⟩ := bS hm
 refine tD (uW _ j5K rfl (fun w ho => z4M _ [] ce cf d6 d7 ea eb (OS.now (o := (OT.fr j8)) (l := ce) (hs := D) (d8.le (y.trans (C.trans a4))) ho (.cons _ (.cons _ (ss i (ss j (ss e (ss k (ss p (ss q (ss f (ss g (ss J (Kb _ _))))))))))))) (OS.now (o := (OT.fr j8)) (l := cf) (hs := J) (ec.le (C.trans a4)) ho (.cons _ (.cons _ (ss i (ss j (ss e (ss k (ss p (ss q (ss f (ss g (Kb _ _)))))))))))) c0 cz) (fun _ _ _ h => h.2.symm)) ?_
 rintro _ _ ⟨⟨_, rfl, _⟩, rfl⟩
 rcases Kg c0 with bj | bj
 rw [if_pos bj] at hm
 refine Tr 182 rfl (v' := .bool true) (by rw [bj] <;> rfl)<|tS (K7 rfl)<|mV rfl<|yS<|mV rfl<|yS<|mV rfl<|yS<|tS (z2S rfl rfl j6o)<|tS (pF rfl rfl)<|Tn ?_
 obtain rfl := o1 hm
 exact jJ ⟨rfl, rfl, lr⟩
 rw [if_neg (fun hh => Bool.noConfusion (hh.symm.trans bj))] at hm
 refine Tr 182 rfl (v' := .bool false) (by rw [bj] <;> rfl)<|tS (P7 rfl)<|mV rfl<|nO<|nO<|nO<|tS (pT rfl rfl)<|Tn ?_
 obtain rfl := o1 hm
 exact jJ ⟨rfl, rfl, lr⟩
 rintro cZ _ _ ⟨rfl, rfl, bc⟩
 have hm := dr
 refine cB hm rfl (fun hm => ?_) fun hm => ?_
 refine Cr<|aS rfl<|Te<|Ct<|Xb<|Xr<|Xr<|Xb<|Xr ?_
 have ds := bW _ (Kd hm).symm
 rw [ds] at bB
 have hm := J9 bB
 obtain ⟨rfl, rfl, rfl⟩ := q2o hm
 have zh := c.trans (d.trans (n.trans (m.trans (u.trans (y.trans (C.trans (a4.trans bc)))))))
 have dt := ae.le zh
 have du := am.le zh
 exact rO ⟨ac, f, ad, e, rfl, rfl, dt, du⟩ (a.trans zh)
 refine Ck<|Xm<|Xn<|Cg<|tS (sa rfl rfl (by omega))<|mV rfl<|Tn ?_
 exact jM hm ⟨rfl, rfl, ((m.trans (u.trans (y.trans (C.trans (a4.trans bc))))))⟩
 rintro _ cd _ _ ⟨rfl, rfl, m⟩ dv
 rw [dv] at bB
 have hm := H4 bB
 refine Cr<|tS (lF rfl rfl (by omega))<|Te<|Cs<|k7 rfl<|Ce<|Xe<|Xe<|Xo<|Xn<|Cr<|mV rfl ?_
 obtain ⟨cg, cA, hm⟩ := bS hm
 have zg := a.trans (c.trans (d.trans (n.trans m)))
 refine z2M t p q f g<|z2M g t p q f<|z2M f g t p q<|z2M q f g t p<|Z7 [_] [_] p q f g (t ++ (i ++ (j ++ (e ++ (k ++ R))))) rfl<|Tg _ rfl z9x rfl (q5r _ _ af ag ah ai aj ak al K L a0 aI ads aa au av aw ax ay az aA aB aC aD aE aF aG aH A3 c4 p A8 c9 q ac f g (bn.le zg) (bo.le zg) (bp.le zg) (bq.le zg) (br.le zg) (bs.le zg) (bt.le zg) (h5.le zg) (bu.le zg) (ae.le (c.trans (d.trans (n.trans m)))) (bw.le zg) cg cA) ?_
 rintro _ e4 _ G ⟨ej, ek, a1, rfl, rfl, el⟩
 refine z0w [_] [_] a1 p q f g (t ++ (i ++ (j ++ (e ++ (k ++ R))))) rfl<|mV rfl ?_
 obtain ⟨ch, cC, hm⟩ := bS hm
 have zf := a.trans (c.trans (d.trans (n.trans (m.trans G))))
 refine Q9 1 rfl<|q6c a1 p q f g t i j e k<|q6c k a1 p q f g t i j e<|q6c e k a1 p q f g t i j<|q6c j e k a1 p q f g t i<|Z7 [_] [_] i j e k (a1 ++ (p ++ (q ++ (f ++ (g ++ (t ++ R)))))) rfl<|Tg _ rfl z9x rfl (q5r _ _ an ao aq ar T U V O S a6 a5 adt ab aJ aK aL aM aN aO aP aQ aR aT W X Y Z aV aW i aX aY j ad e k (bC.le zf) (bD.le zf) (bE.le zf) (bG.le zf) (bH.le zf) (a8.le zf) (a9.le zf) (bI.le zf) (bJ.le zf) (am.le (c.trans (d.trans (n.trans (m.trans G))))) (bK.le zf) ch cC) ?_
 rintro _ e5 _ bd ⟨em, en, bN, rfl, rfl, eo⟩
 refine z0w [_] [_] bN i j e k (a1 ++ (p ++ (q ++ (f ++ (g ++ (t ++ R)))))) rfl ?_
 obtain ⟨ep, cD, hm⟩ := bS hm
 refine tD (uW _ j5J rfl (fun w ho => z1U _ [] cg ch ej ek em en (OS.now (o := (OT.fr rI)) (l := cg) (hs := a1) (el.le bd) ho (.cons _ (.cons _ (ss bN (ss i (ss j (ss e (ss k (Kb _ _))))))))) (OS.now (o := (OT.fr rI)) (l := ch) (hs := bN) eo ho (.cons _ (.cons _ (Kb _ _)))) ep cD) (fun _ _ _ h => h.2.symm)) ?_
 rintro _ _ ⟨⟨_, rfl, _⟩, rfl⟩
 refine aS rfl<|Te<|Ct ?_
 obtain ⟨rfl, rfl, rfl⟩ := q2o hm
 have ze := c.trans (d.trans (n.trans (m.trans (G.trans bd))))
 have dw := ae.le ze
 have dx := am.le ze
 exact rO ⟨ac, f, ad, e, rfl, rfl, dw, dx⟩ (a.trans ze)
theorem cFishkeep1LockRefuses (b : k8) (R : Hp) (s1 : v6) (bB A2 c3 A5 c6 A8 c9 aW aX aY aZ bC a0) (h4 : FZ RT.str b.w A2 c3 s1.Stations) (h7 : FZ j3 b.w A5 c6 s1.Sections) (cG : FZ w6 b.w A8 c9 s1.Links) (cH : FZ j6 b.w aW aX s1.Signals) (cJ : FZ w7 b.w aY aZ s1.Gates) (cK : FZ q0U b.w bC a0 bB) (bO) (hm : mFishkeep1LockRefuses s1 bB = some bO):
 w8 Tryz.prog 4 [.agg #[sv A2 s1.Stations c3, sv A5 s1.Sections c6, sv A8 s1.Links c9, sv aW s1.Signals aX, sv aY s1.Gates aZ], sv bC bB a0] b (R) (fun v b' hp' => bv bO = v ∧ R = hp') := by
 refine fE 43 Tryz.func4 rfl Tryz.ntmps4 rfl ?_
 unfold mFishkeep1LockRefuses at hm
 refine Cr<|tD (uB _ rfl rfl) ?_
 rintro _ _ ⟨aT, rfl, rfl⟩
 refine aS rfl<|Te<|Cs<|Cr ?_
 obtain ⟨cO, bD, hm⟩ := bS hm
 refine tD (uW _ j5E rfl (fun w ho => q4G _ [] cO bD) (fun _ _ _ h => h.2.symm)) ?_
 rintro _ _ ⟨⟨_, rfl, _⟩, rfl⟩
 refine tS (sn2 rfl)<|Te<|cM hm rfl (fun hm => ?_) fun hm => ?_
 refine Cr<|aS rfl<|Te<|Ct<|Xr ?_
 obtain rfl := o1 hm
 exact rO ⟨rfl, rfl⟩ lr
 refine Ck<|Xn<|Cr<|tS (sD (vs := [_, _, _, _, _]) 0 5 rfl q0o rfl rfl rfl) ?_
 obtain ⟨⟨L, O, S, T, U, V, W, cP, cQ, cR, cT⟩, bE, hm⟩ := bS hm
 have hm := j4n hm
 refine Tg _ rfl j5t rfl (z3I _ _ s1 A2 c3 A5 c6 A8 c9 aW aX aY aZ h4 h7 cG cH cJ L O S T U V W cP cQ cR cT bE) ?_
 rintro _ cU _ s ⟨ads, ac, ad, ae, af, ag, ah, ai, aj, ak, al, am, an, ao, aq, ar, cV, cW, G, cX, cY, H, cZ, I, J, rfl, rfl, a2, a3, a4, a5, a6, a7, a8, c0, c1, c2, c4⟩
 refine K6 [_] [_] G H I J R rfl<|mV rfl<|tS (j5 rfl rfl)<|tS (j5 rfl rfl)<|aS rfl<|aS rfl<|Te<|Cs<|Cr<|mV rfl<|tS (q2 rfl rfl)<|Te<|cI hm rfl (fun hm => ?_) fun hm => ?_
 refine Cr<|aS rfl<|Te<|Ct<|Xr ?_
 obtain rfl := o1 hm
 exact rO ⟨rfl, rfl⟩ s
 refine Ck<|Xn<|Cs<|Cr<|mV rfl<|mV rfl<|tS (sE rfl j6k)<|tS (j1K rfl rfl) ?_
 obtain ⟨aH, c5, hm⟩ := bS hm
 obtain ⟨aI, c7, dd, bP, a9, ba, bb⟩ := q6G c5
 have bc := FZ.sub (sz := 4) rfl (cK.le s) a9 ba
 have c8 := (cK.le s).1.1
 rw [← bb] at bc
 refine tS (bb ▸ z0A (l := bB) aI c7 rfl (.inl ⟨rfl, by omega⟩) (.inr ⟨_, _, _, rfl, rfl, bP⟩) a9 ba c8 j6k)<|tS (sE rfl j6k)<|mV rfl<|Te<|Cb ?_
 have de : aH.length ≤ 9223372036854775807 := (FZ.bd bc)
 refine Cp 1 rfl<|z3E G H I J<|z3E J G H I<|z3E I J G H<|z3E H I J G ?_
 obtain ⟨df, bG, X⟩ := bS hm
 refine lF (fun aK => z6c fun D E ay au => fun av e' hp' => ∃ (ads : Int → Nat), ∃ A B p C x q y t i, [(2, pb aT), (5, pb ac), (23, .slice (z2k bC a0 aI 4) (aH).length (a0 - aI)), (24, iv ((aH.length : Int))), (25, iv ((aK : Int)))] = e' ∧ (aT, Cl 28 [sv A2 s1.Stations c3, sv A5 s1.Sections c6, sv A8 s1.Links c9, sv aW s1.Signals aX, sv aY s1.Gates aZ]) :: (ac, Cl 57 [sv ad L ae, sv af O ag, sv ah S ai, sv aj T ak, sv al U am, sv an V ao, sv aq W ar, sv A D B, sv C E x, .map (some y)]) :: (p ++ (q ++ (t ++ (i ++ R)))) = hp' ∧ cU.Le av ∧ OS 59 (OT.fr j9) av.w (sv A D B) D p ∧ OS 127 (OT.fr v8) av.w (sv C E x) E q ∧ OM rI (OT.fr (RT.key ads)) false false av.w y ay t ∧ OAr 85 z8 ads av.w au i) bG ⟨ads, cV, cW, G, cX, cY, H, cZ, I, J, rfl, rfl, lr, c0, c1, c2, c4⟩ ?_ ?_
 rintro aK ⟨D, E, ay, au⟩ av _ _ dg da ⟨ads, A, B, p, C, x, q, y, t, i, rfl, rfl, a, bd, aL, be, aM⟩ aw a1
 unfold V3 at aw
 have hm := z2K aw
 refine Cr<|tS (lT rfl rfl (by omega))<|Te<|Cs<|k9 rfl<|Ck<|Xn<|Cs<|Cb<|Cr ?_
 obtain ⟨ax, bQ, db, bH, dc, bI, bf, aU, bg, hm⟩ := bF (sz := 4) hm (bc.le a)
 obtain ⟨_, _, rfl, rfl, ⟨_, _, rfl, rfl, ⟨_, _, rfl, rfl, rfl⟩⟩⟩ := bI
 refine tS (sI bQ rfl rfl bH bg aU j6k)<|tS (sP (vs := [iv ax.Kind, iv ax.A, iv ax.B, iv ax.C]) 4 rfl j6e aU rfl (fun j u hu => bf j u hu))<|tD (uA [iv 0, iv 0, iv 0, iv 0] j4i rfl) ?_
 rintro _ _ ⟨dh, rfl, rfl⟩
 refine tD (uN (vs := [_, _, _, _]) 0 4 rfl rfl rfl j6L rfl (mc rfl (mc rfl (mc rfl (mc rfl mn)))) rfl (by simp)) ?_
 rintro _ _ rfl
 refine Te<|Cr<|mV rfl ?_
 obtain ⟨⟨bh, bi, bj, bk, bl, bm, bn, bo, bp, bq, br, bs⟩, bt, hm⟩ := bS hm
 have hm := j4m hm
 refine Q9 2 rfl<|q9K p q t i<|q9K i p q t<|q9K t i p q<|q9K q t i p<|Z7 [_] [_, _] p q t i R rfl<|Tg _ rfl j6b rfl (z4T _ _ L O S T U V W D E ay au ads ac ad ae af ag ah ai aj ak al am an ao aq ar A B p C x q y t i (a2.le a) (a3.le a) (a4.le a) (a5.le a) (a6.le a) (a7.le a) (a8.le a) bd aL be aM bh bi bj bk bl bm bn bo bp bq br bs bt) ?_
 rintro _ bR _ d ⟨adt, bT, bU, bV, bW, bX, bY, bZ, b0, b1, b2, b3, b4, b5, b6, b7, z, b8, b9, e, ca, cb, f, cc, k, g, rfl, rfl, cd, ce, cf, cg, ch, ci, cj, ck, cl, cm, cn, co⟩
 refine j4s [_, _] [_, _] p q z i e f k g R rfl<|aS rfl<|Te ?_
 obtain ⟨⟨cp, aN, aO, cq, cr⟩, bJ, bK⟩ := bS hm
 refine Cj (fun K e' hp' => ∃ (ads : Int → Nat), ∃ az aA Y aB aC Z aD aa ab, [(2, pb aT), (5, pb ac), (23, .slice (z2k bC a0 aI 4) (aH).length (a0 - aI)), (24, iv ((aH.length : Int))), (25, iv ((aK : Int))), (41, bv cp)] = e' ∧ (aT, Cl 28 [sv A2 s1.Stations c3, sv A5 s1.Sections c6, sv A8 s1.Links c9, sv aW s1.Signals aX, sv aY s1.Gates aZ]) :: (ac, Cl 57 [sv ad L ae, sv af O ag, sv ah S ai, sv aj T ak, sv al U am, sv an V ao, sv aq W ar, sv az aN aA, sv aB aO aC, .map (some aD)]) :: (Y ++ (Z ++ (aa ++ (ab ++ R)))) = hp' ∧ bR.Le K ∧ OS 59 (OT.fr j9) K.w (sv az aN aA) aN Y ∧ OS 127 (OT.fr v8) K.w (sv aB aO aC) aO Z ∧ OM rI (OT.fr (RT.key ads)) false false K.w aD cq aa ∧ OAr 85 z8 ads K.w cr ab) ?_ ?_
 have hm := bJ
 refine Cg<|mV rfl<|tS (sD (vs := [_, _, _, _]) 2 4 rfl j6e rfl rfl rfl) ?_
 obtain ⟨⟨cs, aE, aF, bu, bw⟩, bx, hm⟩ := bS hm
 have hm := z6Y hm
 have zz := a.trans d
 refine Q9 1 rfl<|z3Y p q z i<|z3Y i p q z<|z3Y z i p q<|z3Y q z i p<|Z7 [_] [_, _, _] p q z i (e ++ (f ++ (k ++ (g ++ R)))) rfl<|Tg _ rfl j7j rfl (z4X _ _ ax L O S T U V W D E bo au ads ac ad ae af ag ah ai aj ak al am an ao aq ar A B p C x q y z i (a2.le zz) (a3.le zz) (a4.le zz) (a5.le zz) (a6.le zz) (a7.le zz) (a8.le zz) (bd.le d) (aL.le d) ck (aM.le d) cs aE aF bu bw bx) ?_
 rintro _ di _ c ⟨ads, m, n, r, o, rfl, rfl, aP, ct, aQ, cu, bz, aR⟩
 refine K6 [_] [_, _, _] m n r o (e ++ (f ++ (k ++ (g ++ R)))) rfl<|Z9 0 rfl (o' := Cl 57 [sv ad L ae, sv af O ag, sv ah S ai, sv aj T ak, sv al U am, sv an V ao, sv aq W ar, sv A aE B, sv C aF x, .map (some y)]) (by simp only [sv, ct])<|Z9 0 rfl (o' := Cl 57 [sv ad L ae, sv af O ag, sv ah S ai, sv aj T ak, sv al U am, sv an V ao, sv aq W ar, sv A aE B, sv C aF x, .map (some y)]) (by simp only [sv, cu])<|Tb rfl (q2 rfl rfl) (fun aG => ?_) (fun aG => ?_)
 rw [if_pos aG] at hm
 refine mV rfl<|yS<|tS (sD (vs := [_, _, _, _, _]) 3 5 rfl q0o rfl rfl rfl)<|yS<|mV rfl<|yS<|mV rfl<|yS ?_
 obtain ⟨⟨cv, cw, cx⟩, bA, hm⟩ := bS hm
 have hm := q4s hm
 refine Q9 1 rfl<|z3Y m n r o<|z3Y o m n r<|z3Y r o m n<|z3Y n r o m<|j0r m n r o e f k g<|j0r g m n r o e f k<|j0r k g m n r o e f<|j0r f k g m n r o e<|j4r [_, _] [_, _] e f k g m n r o R rfl ?_
 have zy := s.trans (a.trans (d.trans c))
 have zx := a.trans (d.trans c)
 refine Tg _ rfl j6a rfl (z1w _ _ s1 bh bi bj bk bl bm bn L O S T U V W bp bq br bs aE aF bu bw ads adt bT ac A2 c3 A5 c6 A8 c9 aW aX aY aZ bU bV bW bX bY bZ b0 b1 b2 b3 b4 b5 b6 b7 ad ae af ag ah ai aj ak al am an ao aq ar b8 b9 e ca cb f cc k g A B m C x n y r o (h4.le zy) (h7.le zy) (cG.le zy) (cH.le zy) (cJ.le zy) (cd.le c) (ce.le c) (cf.le c) (cg.le c) (ch.le c) (ci.le c) (cj.le c) (a2.le zx) (a3.le zx) (a4.le zx) (a5.le zx) (a6.le zx) (a7.le zx) (a8.le zx) (cl.le c) (cm.le c) (cn.le c) (co.le c) aP aQ bz aR cv cw cx bA) ?_
 rintro _ dj _ F ⟨dk, bL, cy, aV, rfl, rfl, dl, cz⟩
 refine j4s [_, _] [_, _] e f bL g m n aV o R rfl<|yS<|tS (sn2 rfl)<|tS (pT rfl rfl)<|Tn ?_
 obtain ⟨rfl, rfl, rfl, rfl, rfl⟩ := q4e hm
 exact jJ ⟨ads, A, B, m, C, x, n, cy, aV, o, rfl, rfl, (c.trans F), (aP.le F), (aQ.le F), cz, (aR.le F)⟩
 rw [if_neg aG] at hm
 refine mV rfl<|nO<|nO<|nO<|nO<|nO<|tS (pF rfl rfl)<|Tn ?_
 obtain ⟨rfl, rfl, rfl, rfl, rfl⟩ := q4e hm
 exact jJ ⟨ads, A, B, m, C, x, n, y, r, o, rfl, rfl, c, aP, aQ, bz, aR⟩
 rintro K _ _ ⟨ads, az, aA, Y, aB, aC, Z, aD, aa, ab, rfl, rfl, aJ, cA, cC, cD, cE⟩
 have hm := z6Y bK
 refine cB hm rfl (fun hm => ?_) fun hm => ?_
 refine Cr<|aS rfl<|Te<|Ct<|Xb<|Xr<|Xr<|Xb<|Xr ?_
 have bM := a1 _ (Kd hm).symm
 rw [bM] at X
 have hm := J9 X
 obtain rfl := o1 hm
 exact rO ⟨rfl, rfl⟩ (s.trans (a.trans (d.trans aJ)))
 refine Ck<|Xm<|Xn<|Cg<|tS (sa rfl rfl (by omega))<|mV rfl<|Tn ?_
 exact jM hm ⟨ads, az, aA, Y, aB, aC, Z, aD, aa, ab, rfl, rfl, ((a.trans (d.trans aJ))), cA, cC, cD, cE⟩
 rintro ⟨D, E, ay, au⟩ av _ _ ⟨ads, A, B, p, C, x, q, y, t, i, rfl, rfl, a, bd, aL, be, aM⟩ bN
 rw [bN] at X
 have hm := H4 X
 have hm := z2K hm
 refine Cr<|tS (lF rfl rfl (by omega))<|Te<|Cs<|k7 rfl<|Ce<|Xe<|Xe<|Xo<|Xn<|Cr<|aS rfl<|Te<|Ct ?_
 obtain rfl := o1 hm
 exact rO ⟨rfl, rfl⟩ (s.trans a)
end Go.Proofs.YtdbehipjelcmbaaGreatDoor
