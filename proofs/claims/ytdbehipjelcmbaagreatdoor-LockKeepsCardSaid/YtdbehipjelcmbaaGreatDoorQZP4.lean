import Derived.Test.YtdbehipjelcmbaaGreatDoorQZP3
set_option linter.unusedVariables false
set_option linter.unusedSimpArgs false
set_option linter.unusedSectionVars false
namespace Go.Proofs.YtdbehipjelcmbaaGreatDoor
open Go.RowKit Go.Fp
set_option maxRecDepth 20000
set_option maxHeartbeats 4000000
open Go.Fp renaming q4H → Te, q6u → Tn, q5r → Tb, q6F → Tg, z4Z → Tr, q6s → Cr, q2J → Cs, q0k → Cg, q6P → Cb, q3X → Ct, q3q → Ck, z1A → Ce, z3y → Cj, z2z → Cp, j5 → Xn, J3 → Xr, q1M → Xe, q1N → Xb, q0w → Xm, q2A → Xo, q7O → Xi, z3Y → Xp, q8U → X2, q6U → X3, q6T → X4, q8T → X5, j0n → Es, z6J → E0, z8N → Ey, j4C → Yz, j2t → Ei, z4S → Eo, z8O → Da, z1G → Dd, z0w → Di, j4L → Rd2, z8L → Rn, q9z → sL, q6l → sD, q6Y → sF, z1k → sN, z1m → sE, q3h → sM, q1z → sA, q5C → pT, q5D → pF, q0O → sI, q1O → sO, q2U → sP, q1V → sQ, z1n → sa, z5c → sb, q6j → lT, q6k → lF, z1T → eT, z1U → eF, q5E → sn2, q9b → sB, z2Q → uB, q7Q → uA, z1L → uS, q4V → uN, q6h → uW, q9q → uP, q9s → uQ, q3Q → fE, q8S → bS, z2S → o1, q5c → iS, q6i → ss, q7t → kS, z5z → d2, q7r → d3, z2w → d4, z7A → mc, z7z → mn, q9C → q1, q8t → q2, q9A → q5, q9B → q6
theorem q6e (b : Base) (R : Hp) (z A B C o D E q ag aM aA) (ads : Int → Nat) (ah H I J K L O S T F G U V W X A3 c4 f A8 c9 ad r s c) (a1 : FZ RT.str b.w H I z) (a2 : FZ rApiSection b.w J K A) (a3 : FZ rApiLink b.w L O B) (a4 : FZ rApiSignal b.w S T C) (aB : FZ rApiGate b.w F G o) (a5 : FZ j3 b.w U V D) (a6 : FZ (RT.list z4) b.w W X E) (h5 : OS 59 (OT.fr z7) b.w (sv A3 q c4) q f) (a7 : OS 127 (OT.fr z8) b.w (sv A8 ag c9) ag ad) (a8 : OM rI (OT.fr (RT.key ads)) false false b.w r aM s) (a9 : OAr 85 q9 ads b.w aA c) (aa ax) (hm : P9 z A B C o D E q ag aM aA = some (aa, ax)):
 CallsG Tryz.prog 71 [pb ah] b ((ah, Cl 57 [sv H z I, sv J A K, sv L B O, sv S C T, sv F o G, sv U D V, sv W E X, sv A3 q c4, sv A8 ag c9, .map (some r)]) :: (f ++ (ad ++ (s ++ (c ++ R))))) (fun v b' hp' => ∃ ai aj, .tuple #[] = v ∧ (ah, Cl 57 [sv H z I, sv J A K, sv L B O, sv S C T, sv F o G, sv U D V, sv W E X, sv A3 q c4, sv A8 aa c9, .map (some r)]) :: (f ++ (ai ++ (aj ++ (c ++ R)))) = hp' ∧ OS 127 (OT.fr z8) b'.w (sv A8 aa c9) aa ai ∧ aa.length = ag.length ∧ OM rI (OT.fr (RT.key ads)) false false b'.w r ax aj) := by
 refine fE 46 Tryz.func71 rfl Tryz.ntmps71 rfl ?_
 unfold P9 at hm
 refine Cr<|mV rfl<|tS (sN rfl)<|tS (sF rfl q5g)<|tS (sF rfl q5h)<|tS (sL 0 rfl z2e rfl rfl)<|tS (sE rfl z5d)<|mV rfl<|Te<|Cb ?_
 have ba : o.length ≤ 9223372036854775807 := (FZ.bd aB)
 refine H6 f ad s c<|H6 c f ad s<|H6 s c f ad<|H6 ad s c f ?_
 obtain ⟨⟨m, af⟩, aC, aD⟩ := bS hm
 refine lS (fun t => K1 fun m af => fun ab e' hp' => ∃ d g, [(0, pb ah), (10, sv F o G), (11, iv ((o.length : Int))), (12, iv ((t : Int)))] = e' ∧ (ah, Cl 57 [sv H z I, sv J A K, sv L B O, sv S C T, sv F o G, sv U D V, sv W E X, sv A3 q c4, sv A8 m c9, .map (some r)]) :: (f ++ (d ++ (g ++ (c ++ R)))) = hp' ∧ b.Le ab ∧ OS 127 (OT.fr z8) ab.w (sv A8 m c9) m d ∧ m.length = ag.length ∧ OM rI (OT.fr (RT.key ads)) false false ab.w r af g) aC ⟨ad, s, rfl, rfl, lr, a7, rfl, a8⟩ ?_ ?_
 rintro t ⟨m, af⟩ ab _ _ bb aN ⟨d, g, rfl, rfl, a, x, n, ak⟩ y
 unfold q1n at y
 have hm := Q3 y
 refine Cr<|tS (lT rfl rfl (by omega))<|Te<|Cs<|j1 rfl<|Ck<|Xn<|Cs<|Cb<|Cr<|mV rfl ?_
 obtain ⟨p, aO, bc, aE, bd, aF, aq, al, ar, hm⟩ := bF (sz := 2) hm (aB.le a)
 obtain ⟨_, _, rfl, rfl, rfl⟩ := aF
 refine tS (sI aO rfl rfl aE ar al z5d)<|tS (sP (vs := [iv p.Section, iv p.Close]) 2 rfl z5P al rfl (fun j u hu => aq j u hu))<|tD (uA [iv 0, iv 0] z1H rfl) ?_
 rintro _ _ ⟨bn, rfl, rfl⟩
 refine aS rfl<|tD (uN (vs := [_, _]) 0 2 rfl rfl rfl z5e rfl (mc rfl (mc rfl mn)) rfl (by simp)) ?_
 rintro _ _ rfl
 refine Te<|Cr<|mV rfl<|tS (sN rfl)<|tS (sF rfl q3l)<|tS (sL 1 rfl q8H rfl rfl)<|mV rfl ?_
 obtain ⟨e, aP, hm⟩ := bS hm
 obtain ⟨ay, Y, Z⟩ := iS aP
 obtain ⟨be, bf, bo, bp, bg, aG, au, k, av, bh, aX⟩ := OS.get (sz := 3) rfl (by decide) x Z
 obtain ⟨⟨_, _, rfl, rfl, ⟨_, _, rfl, rfl, rfl⟩⟩, rfl⟩ := aG
 refine tS (sI ay rfl rfl Y av k q9E)<|aS rfl<|Te<|Cr<|mV rfl<|tS (sF rfl q5j)<|tS (sL 0 rfl j4 rfl rfl) ?_
 obtain ⟨⟨i, aQ⟩, aw, hm⟩ := bS hm
 have hm := Q3 hm
 refine v8 1 rfl<|Q4 f d g c<|Q4 c f d g<|Q4 g c f d<|Q4 d g c f<|w9 [_] [_] f d g c R rfl<|Tg _ rfl j0I rfl (q7F _ _ p.Section z A B C o D E q m af aA ads ah H I J K L O S T F G U V W X A3 c4 f A8 c9 d r g c (a1.le a) (a2.le a) (a3.le a) (a4.le a) (aB.le a) (a5.le a) (a6.le a) (h5.le a) x ak (a9.le a) i aQ aw) ?_
 rintro _ bq _ l ⟨h, rfl, rfl, am⟩
 refine K9 [_] [_] f d h c R rfl<|tS (q6 rfl rfl)<|aS rfl<|Te<|Cs<|Cr<|Tb rfl (sM rfl) (fun ae => ?_) (fun ae => ?_)
 rw [if_pos ae] at hm
 refine mV rfl<|yS<|mV rfl<|yS<|tS (j6 rfl k)<|yS<|tS (sQ rfl k q5i)<|yS<|tS (z9 rfl q4b (fun w ho => au w _ (l.back _ _ ho) (.cons _ (.cons _ (ss f (List.sublist_append_left _ _)))) 1 _ rfl))<|yS<|tS (sn2 rfl)<|tS (pT rfl rfl)<|Te<|cM hm rfl (fun hm => ?_) fun hm => ?_
 refine Cg<|mV rfl<|tS (sF rfl z2q)<|tS (sL 1 rfl j4 rfl rfl)<|tS (j6 rfl k)<|tS (sQ rfl k q6p)<|z0B f d<|tD (uP Y (sz := 3) (a' := (⟨p.Close, e.wanted, e.failed⟩ : LockGate)) rfl [_, _] (f ++ (h ++ (c ++ R))) 0 1 [iv p.Close] rfl (x.le l) Z rfl rfl rfl z0D rfl (mc rfl mn) (fun cs hsj hh => by obtain ⟨⟨_, _, rfl, rfl, ⟨_, _, rfl, rfl, rfl⟩⟩, rfl⟩ := hh; exact ⟨by first | decide | exact Nat.le_refl _, ⟨[iv p.Close], _, rfl, rfl, ⟨[bv e.wanted], _, rfl, rfl, rfl⟩⟩, rfl⟩)) ?_
 rintro _ _ ⟨bi, rfl, az⟩
 refine w5 0 rfl (o' := Cl 57 [sv H z I, sv J A K, sv L B O, sv S C T, sv F o G, sv U D V, sv W E X, sv A3 q c4, .slice A8 (put m (t : Int) (⟨p.Close, e.wanted, e.failed⟩ : LockGate)).length c9, .map (some r)]) (by simp only [sv, z6])<|Te<|Cg ?_
 obtain ⟨ac, aR, hm⟩ := bS hm
 obtain ⟨aT, aH, an⟩ := iS aR
 obtain rfl : ay = aT := by omega
 obtain ⟨bj, bk, br, bs, bl, aI, aY, ao, aZ, bm, a0⟩ := OS.get (sz := 3) rfl (by decide) az an
 obtain ⟨⟨_, _, rfl, rfl, ⟨_, _, rfl, rfl, rfl⟩⟩, rfl⟩ := aI
 refine mV rfl<|mV rfl<|tS (j6 rfl ao)<|tS (sQ rfl ao q5i)<|tD (uP aH (sz := 3) (a' := (⟨ac.left, decide (0 ≤ i), ac.failed⟩ : LockGate)) rfl [_, _] (f ++ (h ++ (c ++ R))) 1 1 [.bool (decide (0 ≤ i))] rfl az an rfl rfl rfl z1o rfl (mc rfl mn) (fun cs hsj hh => by obtain ⟨⟨_, _, rfl, rfl, ⟨_, _, rfl, rfl, rfl⟩⟩, rfl⟩ := hh; exact ⟨by first | decide | exact Nat.le_refl _, ⟨[iv ac.left], _, rfl, rfl, ⟨[.bool (decide (0 ≤ i))], _, rfl, rfl, rfl⟩⟩, rfl⟩)) ?_
 rintro _ _ ⟨aJ, rfl, aU⟩
 refine w5 0 rfl (o' := Cl 57 [sv H z I, sv J A K, sv L B O, sv S C T, sv F o G, sv U D V, sv W E X, sv A3 q c4, .slice A8 (put (put m (t : Int) (⟨p.Close, e.wanted, e.failed⟩ : LockGate)) (t : Int) (⟨ac.left, decide (0 ≤ i), ac.failed⟩ : LockGate)).length c9, .map (some r)]) (by simp only [sv, z6])<|Tn<|Xm<|Xn<|Cg<|tS (sa rfl rfl (by omega))<|mV rfl<|Tn ?_
 obtain rfl := o1 hm
 exact jS ⟨aJ, h, rfl, rfl, ((a.trans l)), aU, ((z6 _ _ _).trans ((z6 _ _ _).trans n)), am⟩
 refine Ck<|Xn<|Cg<|mV rfl<|mV rfl<|tS (j6 rfl k)<|tS (sQ rfl k q5i)<|z0B f d<|tD (uP Y (sz := 3) (a' := (⟨e.left, decide (0 ≤ i), e.failed⟩ : LockGate)) rfl [_, _] (f ++ (h ++ (c ++ R))) 1 1 [.bool (decide (0 ≤ i))] rfl (x.le l) Z rfl rfl rfl z1o rfl (mc rfl mn) (fun cs hsj hh => by obtain ⟨⟨_, _, rfl, rfl, ⟨_, _, rfl, rfl, rfl⟩⟩, rfl⟩ := hh; exact ⟨by first | decide | exact Nat.le_refl _, ⟨[iv e.left], _, rfl, rfl, ⟨[.bool (decide (0 ≤ i))], _, rfl, rfl, rfl⟩⟩, rfl⟩)) ?_
 rintro _ _ ⟨aK, rfl, aV⟩
 refine w5 0 rfl (o' := Cl 57 [sv H z I, sv J A K, sv L B O, sv S C T, sv F o G, sv U D V, sv W E X, sv A3 q c4, .slice A8 (put m (t : Int) (⟨e.left, decide (0 ≤ i), e.failed⟩ : LockGate)).length c9, .map (some r)]) (by simp only [sv, z6])<|Tn<|Xm<|Xn<|Cg<|tS (sa rfl rfl (by omega))<|mV rfl<|Tn ?_
 obtain rfl := o1 hm
 exact jS ⟨aK, h, rfl, rfl, ((a.trans l)), aV, ((z6 _ _ _).trans n), am⟩
 rw [if_neg ae] at hm
 refine mV rfl<|nO<|nO<|nO<|nO<|nO<|tS (pF rfl rfl)<|Te<|j0 rfl<|Ck ?_
 refine Xn<|Cg<|mV rfl<|mV rfl<|tS (j6 rfl k)<|tS (sQ rfl k q5i)<|z0B f d<|tD (uP Y (sz := 3) (a' := (⟨e.left, decide (0 ≤ i), e.failed⟩ : LockGate)) rfl [_, _] (f ++ (h ++ (c ++ R))) 1 1 [.bool (decide (0 ≤ i))] rfl (x.le l) Z rfl rfl rfl z1o rfl (mc rfl mn) (fun cs hsj hh => by obtain ⟨⟨_, _, rfl, rfl, ⟨_, _, rfl, rfl, rfl⟩⟩, rfl⟩ := hh; exact ⟨by first | decide | exact Nat.le_refl _, ⟨[iv e.left], _, rfl, rfl, ⟨[.bool (decide (0 ≤ i))], _, rfl, rfl, rfl⟩⟩, rfl⟩)) ?_
 rintro _ _ ⟨aL, rfl, aW⟩
 refine w5 0 rfl (o' := Cl 57 [sv H z I, sv J A K, sv L B O, sv S C T, sv F o G, sv U D V, sv W E X, sv A3 q c4, .slice A8 (put m (t : Int) (⟨e.left, decide (0 ≤ i), e.failed⟩ : LockGate)).length c9, .map (some r)]) (by simp only [sv, z6])<|Tn<|Xm<|Xn<|Cg<|tS (sa rfl rfl (by omega))<|mV rfl<|Tn ?_
 obtain rfl := o1 hm
 exact jS ⟨aL, h, rfl, rfl, ((a.trans l)), aW, ((z6 _ _ _).trans n), am⟩
 rintro ab _ _ ⟨d, g, rfl, rfl, a, x, n, ak⟩
 have hm := Q3 aD
 refine Cr<|tS (lF rfl rfl (by omega))<|Te<|Cs<|j0 rfl<|Ce<|Xe<|Xe<|Xo ?_
 obtain ⟨rfl, rfl⟩ := j9 hm
 exact eZ ⟨d, g, rfl, rfl, x, n, ak⟩ a
theorem z3G (b : Base) (R : Hp) (I H an ao aq ar au av aw aR ax d7 d8) (ads : Int → Nat) (W ay az aA aB aC aD aE aF aG aH aI aJ aK aL A3 c4 n A8 c9 i ak Z s) (fH : FZ RT.str b.w ay az an) (fI : FZ rApiSection b.w aA aB ao) (fJ : FZ rApiLink b.w aC aD aq) (fK : FZ rApiSignal b.w aE aF ar) (fL : FZ rApiGate b.w aG aH au) (d9 : FZ j3 b.w aI aJ av) (ea : FZ (RT.list z4) b.w aK aL aw) (h5 : OS 59 (OT.fr z7) b.w (sv A3 aR c4) aR n) (bU : OS 127 (OT.fr z8) b.w (sv A8 ax c9) ax i) (cU : OM rI (OT.fr (RT.key ads)) false false b.w ak d7 Z) (bV : OAr 85 q9 ads b.w d8 s) (cV bD bE cW cX) (hm : q2Z I H an ao aq ar au av aw aR ax d7 d8 = some (cV, bD, bE, cW, cX)):
 CallsG Tryz.prog 28 [pb W, iv I, bv H] b ((W, Cl 57 [sv ay an az, sv aA ao aB, sv aC aq aD, sv aE ar aF, sv aG au aH, sv aI av aJ, sv aK aw aL, sv A3 aR c4, sv A8 ax c9, .map (some ak)]) :: (n ++ (i ++ (Z ++ (s ++ R))))) (fun v b' hp' => ∃ (ads : Int → Nat), ∃ co cp cq cr, iv cV = v ∧ (W, Cl 57 [sv ay an az, sv aA ao aB, sv aC aq aD, sv aE ar aF, sv aG au aH, sv aI av aJ, sv aK aw aL, sv A3 bD c4, sv A8 bE c9, .map (some ak)]) :: (co ++ (cp ++ (cq ++ (cr ++ R)))) = hp' ∧ OS 59 (OT.fr z7) b'.w (sv A3 bD c4) bD co ∧ bD.length = aR.length ∧ OS 127 (OT.fr z8) b'.w (sv A8 bE c9) bE cp ∧ bE.length = ax.length ∧ OM rI (OT.fr (RT.key ads)) false false b'.w ak cW cq ∧ OAr 85 q9 ads b'.w cX cr) := by
 refine fE 228 Tryz.func28 rfl Tryz.ntmps28 rfl ?_
 unfold q2Z at hm
 refine Cr<|aS rfl<|Te<|Cs<|Cb<|Cr<|mV rfl<|mV rfl ?_
 obtain ⟨fM, cY, hm⟩ := bS hm
 refine v5 n i Z s<|v5 s n i Z<|v5 Z s n i<|v5 i Z s n<|w9 [_] [] n i Z s R rfl<|Tg _ rfl z5G rfl (q1L _ _ I an ao aq ar au av aw aR ax d7 d8 ads W ay az aA aB aC aD aE aF aG aH aI aJ aK aL A3 c4 n A8 c9 i ak Z s fH fI fJ fK fL d9 ea h5 bU cU bV fM cY) ?_
 rintro _ hJ _ d ⟨rfl, rfl⟩
 refine K9 [_] [] n i Z s R rfl<|tS (sn2 rfl)<|aS rfl<|Te<|cM hm rfl (fun hm => ?_) fun hm => ?_
 refine Cr<|aS rfl<|Te<|Ct<|Xb<|Xr ?_
 obtain ⟨rfl, rfl, rfl, rfl, rfl⟩ := q4d hm
 have eb := h5.le d
 have ec := bU.le d
 have ed := cU.le d
 have ee := bV.le d
 exact rO ⟨ads, n, i, Z, s, rfl, rfl, eb, rfl, ec, rfl, ed, ee⟩ d
 refine Cr<|mV rfl<|tS (sN rfl)<|tS (sF rfl q1h)<|tS (sL 0 rfl q5F rfl rfl)<|mV rfl ?_
 obtain ⟨cZ, fN, hm⟩ := bS hm
 have ef := Option.some.inj fN
 obtain ⟨c0, bt, eg⟩ := OM.lookF z8S (z0 := none) (cU.le d) (key := iv I) (k := I) rfl q3o z2N rfl
 rw [ef] at bt
 obtain rfl : c0 = kv ads cZ := by have bt : [c0] = [kv ads cZ] := bt; injection bt
 refine tS (q4k (ok := false) rfl rfl (fun w ho => eg _ w ho (.cons _ (ss n (ss i (List.sublist_append_left _ _)))) false))<|tS (z1R rfl rfl z9w)<|aS rfl<|Te<|cM hm rfl (fun hm => ?_) fun hm => ?_
 refine Cr<|aS rfl<|Te<|Ct<|Xb<|Xr ?_
 obtain ⟨rfl, rfl, rfl, rfl, rfl⟩ := q4d hm
 have eh := h5.le d
 have ei := bU.le d
 have ej := cU.le d
 have ek := bV.le d
 exact rO ⟨ads, n, i, Z, s, rfl, rfl, eh, rfl, ei, rfl, ej, ek⟩ d
 refine Ck<|Xm<|Xn<|Cr<|mV rfl<|tS (sN rfl)<|tS (sF rfl z4A)<|tS (sL 0 rfl j2W rfl rfl)<|mV rfl ?_
 obtain ⟨fO, fP, gS, el, gT, em, c1, en, c2, hm⟩ := bF (sz := 1) hm (ea.le d)
 obtain ⟨fQ, fR, rfl, fS⟩ := em
 refine tS (sI fP rfl rfl el c2 en z8Q)<|tS (sO rfl z2X (c1 0 _ rfl)) ?_
 obtain ⟨c3, c5, hm⟩ := bS hm
 refine Tg _ rfl j3F rfl (z0Q _ _ fO fQ fR fS c3 c5) ?_
 rintro _ fT _ e ⟨c6, c7, bu, rfl, rfl, c8⟩
 refine q4c [] [_] bu (n ++ (i ++ (Z ++ (s ++ R)))) rfl<|aS rfl<|Te ?_
 obtain ⟨p, eo, ep⟩ := bS hm
 refine Cj (fun ca e' hp' => ∃ t y a, [(0, pb W), (1, iv I), (2, bv H), (7, sv t p y)] = e' ∧ (W, Cl 57 [sv ay an az, sv aA ao aB, sv aC aq aD, sv aE ar aF, sv aG au aH, sv aI av aJ, sv aK aw aL, sv A3 aR c4, sv A8 ax c9, .map (some ak)]) :: (a ++ (n ++ (i ++ (Z ++ (s ++ R))))) = hp' ∧ fT.Le ca ∧ OS 72 (OT.fr z4) ca.w (sv t p y) p a) ?_ ?_
 have hm := eo
 refine Cr<|mV rfl<|Te<|cB hm rfl (fun hm => ?_) fun hm => ?_
 refine Cg<|mV rfl ?_
 obtain ⟨fU, da, hm⟩ := bS hm
 refine q4j [] [_] bu (n ++ (i ++ (Z ++ (s ++ R)))) rfl<|Tg _ rfl j3E rfl (q8n _ _ c3 c6 c7 bu c8 fU da) ?_
 rintro _ hK _ db ⟨fV, fW, ct, rfl, rfl, fX⟩
 refine q4c [] [_] ct (n ++ (i ++ (Z ++ (s ++ R)))) rfl<|aS rfl<|Tn ?_
 obtain rfl := o1 hm
 exact jJ ⟨fV, fW, ct, rfl, rfl, db, fX⟩
 refine Ck ?_
 obtain rfl := o1 hm
 exact jJ ⟨c6, c7, bu, rfl, rfl, lr, c8⟩
 rintro ca _ _ ⟨t, y, a, rfl, rfl, f, aV⟩
 have hm := ep
 refine Cs<|Cr<|mV rfl<|mV rfl<|mV rfl ?_
 obtain ⟨⟨fY, fZ⟩, dc, hm⟩ := bS hm
 have hm := Q3 hm
 have zz := d.trans (e.trans f)
 refine q1Z a n i Z s<|q1Z s a n i Z<|q1Z Z s a n i<|q1Z i Z s a n<|q1Z n i Z s a<|j0r [_] [] a n i Z s R rfl<|Tg _ rfl j3D rfl (z0l _ _ I an ao aq ar au av aw p aR ax d7 d8 ads W ay az aA aB aC aD aE aF aG aH aI aJ aK aL t y a A3 c4 n A8 c9 i ak Z s (fH.le zz) (fI.le zz) (fJ.le zz) (fK.le zz) (fL.le zz) (d9.le zz) (ea.le zz) aV (h5.le zz) (bU.le zz) (cU.le zz) (bV.le zz) fY fZ dc) ?_
 rintro _ f0 _ m ⟨A, rfl, rfl, bG⟩
 refine z0C [_] [] a n i A s R rfl<|Te<|cB hm rfl (fun hm => ?_) fun hm => ?_
 refine Cr<|aS rfl<|Te<|Ct<|Xr ?_
 obtain ⟨rfl, rfl, rfl, rfl, rfl⟩ := q4d hm
 have zy := d.trans (e.trans (f.trans m))
 have eq := h5.le zy
 have er := bU.le zy
 have es := bV.le zy
 exact rO ⟨ads, n, i, A, s, rfl, rfl, eq, rfl, er, rfl, bG, es⟩ zy
 refine Ck<|Xn<|Cs<|Cr<|mV rfl<|tS (sE rfl q4J)<|mV rfl<|Te<|Cb ?_
 have gU : p.length ≤ 9223372036854775807 := (OS.len aV)
 refine K0 a n i A s<|K0 s a n i A<|K0 A s a n i<|K0 i A s a n<|K0 n i A s a ?_
 obtain ⟨hL, et, bw⟩ := bS hm
 refine lF (fun cb => fun _ => fun bH e' hp' => [(0, pb W), (1, iv I), (2, bv H), (7, sv t p y), (49, sv t p y), (50, iv ((p.length : Int))), (51, iv ((cb : Int)))] = e' ∧ (W, Cl 57 [sv ay an az, sv aA ao aB, sv aC aq aD, sv aE ar aF, sv aG au aH, sv aI av aJ, sv aK aw aL, sv A3 aR c4, sv A8 ax c9, .map (some ak)]) :: (a ++ (n ++ (i ++ (A ++ (s ++ R))))) = hp' ∧ f0.Le bH) et ⟨rfl, rfl, lr⟩ ?_ ?_
 rintro cb _ bH _ _ gV gE ⟨rfl, rfl, g⟩ bo cc
 unfold G4 at bo
 have hm := bo
 refine Cr<|tS (lT rfl rfl (by omega))<|Te<|Cs<|j1 rfl<|Ck<|Xn<|Cs<|Cb<|Cr ?_
 obtain ⟨bI, f1, hm⟩ := bS hm
 obtain ⟨f2, eu, ev⟩ := iS f1
 obtain ⟨gW, gX, hM, hN, gY, ew, dd, cu, de, gZ, gJ⟩ := OS.get (sz := 4) rfl (by decide) (aV.le (m.trans g)) ev
 obtain ⟨⟨_, _, rfl, rfl, ⟨_, _, rfl, rfl, ⟨_, _, rfl, rfl, rfl⟩⟩⟩, rfl⟩ := ew
 refine tS (sI f2 rfl rfl eu de cu q4J)<|tS (j8 (vs := [iv bI.Kind, iv bI.Place, iv bI.Position, iv bI.At]) 4 rfl Y1 cu rfl (fun w ho j u hu => dd w _ ho (.cons _ (List.sublist_append_left _ _)) j u hu))<|tD (uA [iv 0, iv 0, iv 0, iv 0] q4F rfl) ?_
 rintro _ _ ⟨hO, rfl, rfl⟩
 refine tD (uN (vs := [_, _, _, _]) 0 4 rfl rfl rfl q6Z rfl (mc rfl (mc rfl (mc rfl (mc rfl mn)))) rfl (by simp)) ?_
 rintro _ _ rfl
 refine Te ?_
 obtain ⟨f3, ex, ey⟩ := bS hm
 refine Cj (fun df e' hp' => [(0, pb W), (1, iv I), (2, bv H), (7, sv t p y), (49, sv t p y), (50, iv ((p.length : Int))), (51, iv ((cb : Int))), (68, bv f3)] = e' ∧ (W, Cl 57 [sv ay an az, sv aA ao aB, sv aC aq aD, sv aE ar aF, sv aG au aH, sv aI av aJ, sv aK aw aL, sv A3 aR c4, sv A8 ax c9, .map (some ak)]) :: (a ++ (n ++ (i ++ (A ++ (s ++ R))))) = hp' ∧ bH.Le df) ?_ ?_
 have hm := ex
 by_cases bx : 0 < bI.Position
 rw [if_pos bx] at hm
 obtain ⟨hP, f4, hm⟩ := bS hm
 refine Di Q5 (.refl _)<|E0 0 rfl (sF rfl P5)<|Es 1 rfl (sL 0 rfl j4 rfl rfl)<|E0 2 rfl (q9a rfl rfl bx)<|E0 3 rfl (sM rfl)<|Yz 4 58 rfl (sM rfl)<|Yz 5 58 rfl (sN rfl)<|Yz 6 58 rfl (sF rfl Q6)<|Ey 7 58 rfl (sL 1 rfl q1v rfl rfl)<|Yz 8 58 rfl (sF rfl q2r)<|Ey 9 58 rfl (sL 0 rfl j4 rfl rfl) ?_
 obtain ⟨f5, ez, eA⟩ := iS f4
 obtain ⟨g0, g1, hQ, hR, g2, eB, dg, cv, dh, g3, gK⟩ := OS.get (sz := 5) rfl (by decide) (h5.le (d.trans (e.trans (f.trans (m.trans g))))) eA
 obtain ⟨⟨_, _, rfl, rfl, ⟨_, _, rfl, rfl, ⟨_, _, rfl, rfl, ⟨_, _, rfl, rfl, rfl⟩⟩⟩⟩, rfl⟩ := eB
 refine Yz 10 58 rfl (sI f5 rfl rfl ez dh cv q4e)<|Yz 11 58 rfl (sQ rfl cv q5O)<|Ey 12 58 rfl (z9 rfl q4b (fun w ho => dg w _ ho (.cons _ (.cons _ (ss a (List.sublist_append_left _ _)))) 4 _ rfl))<|E0 13 rfl (pT rfl rfl)<|Eo<|Dd (by kernel_rfl) ?_
 obtain rfl := o1 hm
 exact jJ ⟨rfl, rfl, lr⟩
 rw [if_neg bx] at hm
 refine Di Q5 (.refl _)<|E0 0 rfl (sF rfl P5)<|Es 1 rfl (sL 0 rfl j4 rfl rfl)<|E0 2 rfl (z1S rfl rfl bx)<|E0 3 rfl (sM rfl)<|eN 4 rfl<|eN 5 rfl<|eN 6 rfl<|eN 7 rfl<|eN 8 rfl<|eN 9 rfl<|eN 10 rfl<|eN 11 rfl<|eN 12 rfl<|E0 13 rfl (pF rfl rfl)<|Eo<|Dd (by kernel_rfl) ?_
 obtain rfl := o1 hm
 exact jJ ⟨rfl, rfl, lr⟩
 rintro df _ _ ⟨rfl, rfl, aN⟩
 have hm := ey
 refine cB hm rfl (fun hm => ?_) fun hm => ?_
 refine Cr<|aS rfl<|Te<|Ct<|Xb<|Xr<|Xr<|Xb<|Xr ?_
 have eC := cc _ (Option.some.inj hm).symm
 rw [eC] at bw
 have hm := k8 bw
 obtain ⟨rfl, rfl, rfl, rfl, rfl⟩ := q4d hm
 have zx := d.trans (e.trans (f.trans (m.trans (g.trans aN))))
 have eD := h5.le zx
 have eE := bU.le zx
 have eG := (bG.le (g.trans aN))
 have eH := bV.le zx
 exact rO ⟨ads, n, i, A, s, rfl, rfl, eD, rfl, eE, rfl, eG, eH⟩ zx
 refine Ck<|Xm<|Xn<|Cg<|tS (sa rfl rfl (by omega))<|mV rfl<|Tn ?_
 exact jM hm ⟨rfl, rfl, ((g.trans aN))⟩
 rintro _ bH _ _ ⟨rfl, rfl, g⟩ eI
 rw [eI] at bw
 have hm := J5 bw
 refine Cr<|tS (lF rfl rfl (by omega))<|Te<|Cs<|j0 rfl<|Ce<|Xe<|Xe<|Xo<|Xn<|Cs<|Cr<|mV rfl<|tS (sE rfl q4J)<|mV rfl<|Te<|Cb ?_
 have g4 : p.length ≤ 9223372036854775807 := (OS.len aV)
 refine K0 a n i A s<|K0 s a n i A<|K0 A s a n i<|K0 i A s a n<|K0 n i A s a ?_
 obtain ⟨hS, eJ, bz⟩ := bS hm
 refine lF (fun bW => fun _ => fun bJ e' hp' => [(0, pb W), (1, iv I), (2, bv H), (7, sv t p y), (70, sv t p y), (71, iv ((p.length : Int))), (72, iv ((bW : Int)))] = e' ∧ (W, Cl 57 [sv ay an az, sv aA ao aB, sv aC aq aD, sv aE ar aF, sv aG au aH, sv aI av aJ, sv aK aw aL, sv A3 aR c4, sv A8 ax c9, .map (some ak)]) :: (a ++ (n ++ (i ++ (A ++ (s ++ R))))) = hp' ∧ bH.Le bJ) eJ ⟨rfl, rfl, lr⟩ ?_ ?_
 rintro bW _ bJ _ _ g5 gF ⟨rfl, rfl, o⟩ bp cd
 unfold G3 at bp
 have hm := bp
 refine Cr<|tS (lT rfl rfl (by omega))<|Te<|Cs<|j1 rfl<|Ck<|Xn<|Cs<|Cb<|Cr ?_
 obtain ⟨aW, f6, hm⟩ := bS hm
 obtain ⟨f7, eK, eL⟩ := iS f6
 obtain ⟨g6, g7, hT, hU, g8, eM, di, cw, dj, g9, gL⟩ := OS.get (sz := 4) rfl (by decide) (aV.le (m.trans (g.trans o))) eL
 obtain ⟨⟨_, _, rfl, rfl, ⟨_, _, rfl, rfl, ⟨_, _, rfl, rfl, rfl⟩⟩⟩, rfl⟩ := eM
 refine tS (sI f7 rfl rfl eK dj cw q4J)<|tS (j8 (vs := [iv aW.Kind, iv aW.Place, iv aW.Position, iv aW.At]) 4 rfl Y1 cw rfl (fun w ho j u hu => di w _ ho (.cons _ (List.sublist_append_left _ _)) j u hu))<|tD (uA [iv 0, iv 0, iv 0, iv 0] q4F rfl) ?_
 rintro _ _ ⟨dk, rfl, rfl⟩
 refine tD (uN (vs := [_, _, _, _]) 0 4 rfl rfl rfl q6Z rfl (mc rfl (mc rfl (mc rfl (mc rfl mn)))) rfl (by simp)) ?_
 rintro _ _ rfl
 refine Te<|Cs<|Cr<|tS (sF rfl P5)<|tS (sL 0 rfl j4 rfl rfl)<|tS (q1 rfl rfl)<|Te<|cI hm rfl (fun hm => ?_) fun hm => ?_
 refine Ce<|Xe<|Xo<|Xn<|Cg<|tS (sa rfl rfl (by omega))<|mV rfl<|Tn ?_
 exact jM hm ⟨rfl, rfl, (o)⟩
 refine Ck<|Xn ?_
 obtain ⟨⟨dl, dm, dn, dp, dq⟩, eO, eP⟩ := bS hm
 refine Cj (fun ce e' hp' => ∃ cf, [(0, pb W), (1, iv I), (2, bv H), (7, sv t p y), (11, pb dk), (12, pb cf), (70, sv t p y), (71, iv ((p.length : Int))), (72, iv ((bW : Int)))] = e' ∧ (W, Cl 57 [sv ay an az, sv aA ao aB, sv aC aq aD, sv aE ar aF, sv aG au aH, sv aI av aJ, sv aK aw aL, sv A3 aR c4, sv A8 ax c9, .map (some ak)]) :: (dk, Cl 72 [iv aW.Kind, iv aW.Place, iv aW.Position, iv aW.At]) :: (cf, Cl 59 [iv dl, bv dm, iv dn, iv dp, bv dq]) :: (a ++ (n ++ (i ++ (A ++ (s ++ R))))) = hp' ∧ bJ.Le ce) ?_ ?_
 have hm := eO
 obtain ⟨bK, f8, hm⟩ := bS hm
 refine Di Q5 (.refl _)<|E0 0 rfl (sM rfl)<|E0 1 rfl (sN rfl)<|E0 2 rfl (sF rfl Q6)<|Es 3 rfl (sL 1 rfl q1v rfl rfl)<|E0 4 rfl (sF rfl q2r)<|Es 5 rfl (sL 0 rfl j4 rfl rfl) ?_
 obtain ⟨f9, eQ, eR⟩ := iS f8
 obtain ⟨ha, hb, hV, hW, hc, eS, dr, cx, ds, hd, gM⟩ := OS.get (sz := 5) rfl (by decide) (h5.le (d.trans (e.trans (f.trans (m.trans (g.trans o)))))) eR
 obtain ⟨⟨_, _, rfl, rfl, ⟨_, _, rfl, rfl, ⟨_, _, rfl, rfl, ⟨_, _, rfl, rfl, rfl⟩⟩⟩⟩, rfl⟩ := eS
 refine E0 6 rfl (sI f9 rfl rfl eQ ds cx q4e)<|Es 7 rfl (j8 (vs := [iv bK.axles, bv bK.disturbed, iv bK.position, iv bK.moving, bv bK.failed]) 5 rfl q6S cx rfl (fun w ho j u hu => dr w _ ho (.cons _ (.cons _ (ss a (List.sublist_append_left _ _)))) j u hu))<|Eo<|Da [8] (by kernel_rfl) rfl<|Rd2 lr rfl rfl (uA [iv 0, .bool false, iv 0, iv 0, .bool false] j0q rfl) ?_ ?_
 rintro _ _ ⟨ga, rfl, rfl⟩
 refine iR<|Da [9] (by kernel_rfl) rfl<|Rd2 lr rfl rfl (uN (vs := [_, _, _, _, _]) 0 5 rfl rfl rfl j2P rfl (mc rfl (mc rfl (mc rfl (mc rfl (mc rfl mn))))) rfl (by simp)) ?_ ?_
 rintro _ _ rfl
 refine ⟨.inl (by kernel_rfl), ?_⟩
 refine Dd (by kernel_rfl) ?_
 obtain ⟨rfl, rfl, rfl, rfl, rfl⟩ := q4d hm
 exact jJ ⟨ga, rfl, rfl, lr⟩
 exact Rn
 exact Rn
 rintro ce _ _ ⟨cf, rfl, rfl, aO⟩
 have hm := z6P eP
 obtain ⟨gb, eU, eV⟩ := bS hm
 refine Cj (fun dt e' hp' => [(0, pb W), (1, iv I), (2, bv H), (7, sv t p y), (70, sv t p y), (71, iv ((p.length : Int))), (72, iv ((bW : Int))), (112, bv gb)] = e' ∧ (W, Cl 57 [sv ay an az, sv aA ao aB, sv aC aq aD, sv aE ar aF, sv aG au aH, sv aI av aJ, sv aK aw aL, sv A3 aR c4, sv A8 ax c9, .map (some ak)]) :: (a ++ (n ++ (i ++ (A ++ (s ++ R))))) = hp' ∧ ce.Le dt) ?_ ?_
 have hm := eU
 refine Cg<|tS (sD (vs := [_, _, _, _, _]) 2 5 rfl q6S rfl rfl rfl) ?_
 obtain ⟨du, dv, hm⟩ := bS hm
 refine tD (uW _ q6A rfl (fun w ho => Z6 _ [] (⟨dl, dm, dn, dp, dq⟩ : LockBody) du dv) (fun _ _ _ h => h.2.symm)) ?_
 rintro _ _ ⟨⟨_, rfl, _⟩, rfl⟩
 rcases Bool.eq_false_or_eq_true du with bd | bd
 rw [if_pos bd] at hm
 refine Tr 88 rfl (v' := .bool true) (by rw [bd] <;> rfl)<|mV rfl<|yS<|tS (sF rfl q3S)<|yS<|tS (sL 2 rfl j4 rfl rfl)<|yS<|tS (sF rfl P5)<|yS<|tS (sL 1 rfl j4 rfl rfl)<|yS<|Tb rfl (q2 rfl rfl) (fun bX => ?_) (fun bX => ?_)
 rw [if_pos bX] at hm
 refine yS<|mV rfl<|nO<|nO<|nO<|yS<|tS (pT rfl rfl)<|tS (pT rfl rfl)<|mV rfl<|nO<|nO<|nO<|nO<|nO<|nO<|nO<|nO<|nO<|nO<|tS (pT rfl rfl)<|Tn ?_
 obtain rfl := o1 hm
 exact jJ ⟨rfl, rfl, lr⟩
 rw [if_neg bX] at hm
 refine yS<|mV rfl<|yS<|tS (sF rfl q3k)<|yS<|tS (sL 2 rfl j4 rfl rfl)<|yS<|Tb rfl (q5 rfl rfl) (fun bY => ?_) (fun bY => ?_)
 rw [if_pos bY] at hm
 refine yS<|tS (pF rfl rfl)<|tS (pT rfl rfl)<|mV rfl<|nO<|nO<|nO<|nO<|nO<|nO<|nO<|nO<|nO<|nO<|tS (pT rfl rfl)<|Tn ?_
 obtain rfl := o1 hm
 exact jJ ⟨rfl, rfl, lr⟩
 rw [if_neg bY] at hm
 refine yS<|tS (pF rfl rfl)<|tS (pT rfl rfl)<|mV rfl<|yS<|tS (sF rfl q3k)<|yS<|tS (sL 2 rfl j4 rfl rfl)<|yS<|Tb rfl (q5 rfl rfl) (fun bZ => ?_) (fun bZ => ?_)
 rw [if_pos bZ] at hm
 refine yS<|mV rfl<|yS<|tS (sF rfl q3S)<|yS<|tS (sL 2 rfl j4 rfl rfl)<|yS<|tS (sF rfl P5)<|yS<|tS (sL 1 rfl j4 rfl rfl)<|yS<|tS (q1 rfl rfl)<|yS<|tS (pT rfl rfl)<|tS (pF rfl rfl)<|Tn ?_
 obtain rfl := o1 hm
 exact jJ ⟨rfl, rfl, lr⟩
 rw [if_neg bZ] at hm
 refine yS<|mV rfl<|nO<|nO<|nO<|nO<|nO<|yS<|tS (pF rfl rfl)<|tS (pF rfl rfl)<|Tn ?_
 obtain rfl := o1 hm
 exact jJ ⟨rfl, rfl, lr⟩
 rw [if_neg (fun hh => Bool.noConfusion (hh.symm.trans bd))] at hm
 refine Tr 88 rfl (v' := .bool false) (by rw [bd] <;> rfl)<|mV rfl<|nO<|nO<|nO<|nO<|nO<|nO<|nO<|nO<|nO<|nO<|tS (pF rfl rfl)<|mV rfl<|yS<|tS (sF rfl q3k)<|yS<|tS (sL 2 rfl j4 rfl rfl)<|yS<|Tb rfl (q5 rfl rfl) (fun b0 => ?_) (fun b0 => ?_)
 rw [if_pos b0] at hm
 refine yS<|mV rfl<|yS<|tS (sF rfl q3S)<|yS<|tS (sL 2 rfl j4 rfl rfl)<|yS<|tS (sF rfl P5)<|yS<|tS (sL 1 rfl j4 rfl rfl)<|yS<|tS (q1 rfl rfl)<|yS<|tS (pT rfl rfl)<|tS (pF rfl rfl)<|Tn ?_
 obtain rfl := o1 hm
 exact jJ ⟨rfl, rfl, lr⟩
 rw [if_neg b0] at hm
 refine yS<|mV rfl<|nO<|nO<|nO<|nO<|nO<|yS<|tS (pF rfl rfl)<|tS (pF rfl rfl)<|Tn ?_
 obtain rfl := o1 hm
 exact jJ ⟨rfl, rfl, lr⟩
 rintro dt _ _ ⟨rfl, rfl, aP⟩
 have hm := eV
 refine cB hm rfl (fun hm => ?_) fun hm => ?_
 refine Cr<|aS rfl<|Te<|Ct<|Xb<|Xr<|Xr<|Xb<|Xr ?_
 have eW := cd _ (Option.some.inj hm).symm
 rw [eW] at bz
 have hm := k8 bz
 obtain ⟨rfl, rfl, rfl, rfl, rfl⟩ := q4d hm
 have zw := d.trans (e.trans (f.trans (m.trans (g.trans (o.trans (aO.trans aP))))))
 have eX := h5.le zw
 have eY := bU.le zw
 have e0 := (bG.le (g.trans (o.trans (aO.trans aP))))
 have e1 := bV.le zw
 exact rO ⟨ads, n, i, A, s, rfl, rfl, eX, rfl, eY, rfl, e0, e1⟩ zw
 refine Ck<|Xm<|Xn<|Cg<|tS (sa rfl rfl (by omega))<|mV rfl<|Tn ?_
 exact jM hm ⟨rfl, rfl, ((o.trans (aO.trans aP)))⟩
 rintro _ bJ _ _ ⟨rfl, rfl, o⟩ e2
 rw [e2] at bz
 have hm := J5 bz
 refine Cr<|tS (lF rfl rfl (by omega))<|Te<|Cs<|j0 rfl<|Ce<|Xe<|Xe<|Xo<|Xn<|Cs<|Cr<|mV rfl<|tS (sE rfl q4J)<|mV rfl<|Te<|Cb ?_
 have he : p.length ≤ 9223372036854775807 := (OS.len aV)
 refine K0 a n i A s<|K0 s a n i A<|K0 A s a n i<|K0 i A s a n<|K0 n i A s a ?_
 obtain ⟨hX, e3, bA⟩ := bS hm
 refine lF (fun cg => fun _ => fun bh e' hp' => [(0, pb W), (1, iv I), (2, bv H), (7, sv t p y), (114, sv t p y), (115, iv ((p.length : Int))), (116, iv ((cg : Int)))] = e' ∧ (W, Cl 57 [sv ay an az, sv aA ao aB, sv aC aq aD, sv aE ar aF, sv aG au aH, sv aI av aJ, sv aK aw aL, sv A3 aR c4, sv A8 ax c9, .map (some ak)]) :: (a ++ (n ++ (i ++ (A ++ (s ++ R))))) = hp' ∧ bJ.Le bh) e3 ⟨rfl, rfl, lr⟩ ?_ ?_
 rintro cg _ bh _ _ hf gG ⟨rfl, rfl, z⟩ bq ch
 unfold G2 at bq
 have hm := bq
 refine Cr<|tS (lT rfl rfl (by omega))<|Te<|Cs<|j1 rfl<|Ck<|Xn<|Cs<|Cb<|Cr ?_
 obtain ⟨bi, gc, hm⟩ := bS hm
 obtain ⟨gd, e4, e5⟩ := iS gc
 obtain ⟨hg, hi, hY, hZ, hj, e6, dw, cy, dx, hk, gN⟩ := OS.get (sz := 4) rfl (by decide) (aV.le (m.trans (g.trans (o.trans z)))) e5
 obtain ⟨⟨_, _, rfl, rfl, ⟨_, _, rfl, rfl, ⟨_, _, rfl, rfl, rfl⟩⟩⟩, rfl⟩ := e6
 refine tS (sI gd rfl rfl e4 dx cy q4J)<|tS (j8 (vs := [iv bi.Kind, iv bi.Place, iv bi.Position, iv bi.At]) 4 rfl Y1 cy rfl (fun w ho j u hu => dw w _ ho (.cons _ (List.sublist_append_left _ _)) j u hu))<|tD (uA [iv 0, iv 0, iv 0, iv 0] q4F rfl) ?_
 rintro _ _ ⟨h0, rfl, rfl⟩
 refine tD (uN (vs := [_, _, _, _]) 0 4 rfl rfl rfl q6Z rfl (mc rfl (mc rfl (mc rfl (mc rfl mn)))) rfl (by simp)) ?_
 rintro _ _ rfl
 refine Te ?_
 obtain ⟨ge, e7, e8⟩ := bS hm
 refine Cj (fun dy e' hp' => [(0, pb W), (1, iv I), (2, bv H), (7, sv t p y), (114, sv t p y), (115, iv ((p.length : Int))), (116, iv ((cg : Int))), (142, bv ge)] = e' ∧ (W, Cl 57 [sv ay an az, sv aA ao aB, sv aC aq aD, sv aE ar aF, sv aG au aH, sv aI av aJ, sv aK aw aL, sv A3 aR c4, sv A8 ax c9, .map (some ak)]) :: (a ++ (n ++ (i ++ (A ++ (s ++ R))))) = hp' ∧ bh.Le dy) ?_ ?_
 have hm := e7
 rcases Bool.eq_false_or_eq_true H with aT | aT
 rw [if_pos aT] at hm
 refine Di Q5 (.refl _)<|E0 0 rfl (stB (sM rfl) aT)<|E0 1 rfl (Z4 rfl)<|E0 2 rfl (sM rfl)<|eN 3 rfl<|eN 4 rfl<|eN 5 rfl<|eN 6 rfl<|eN 7 rfl<|eN 8 rfl<|eN 9 rfl<|eN 10 rfl<|E0 11 rfl (pF rfl rfl)<|E0 12 rfl (sM rfl)<|eN 13 rfl<|eN 14 rfl<|eN 15 rfl<|eN 16 rfl<|eN 17 rfl<|eN 18 rfl<|eN 19 rfl<|eN 20 rfl<|eN 21 rfl<|E0 22 rfl (pF rfl rfl)<|Eo<|Dd (by kernel_rfl) ?_
 obtain rfl := o1 hm
 exact jJ ⟨rfl, rfl, lr⟩
 rw [if_neg (fun hh => Bool.noConfusion (hh.symm.trans aT))] at hm
 by_cases be : bi.Kind = 1
 rw [if_pos be] at hm
 obtain ⟨bj, gf, hm⟩ := bS hm
 obtain ⟨gg, dz, hm⟩ := bS hm
 refine Di Q5 (.refl _)<|E0 0 rfl (stB (sM rfl) aT)<|E0 1 rfl (V2 rfl)<|E0 2 rfl (sM rfl)<|Yz 3 122 rfl (sF rfl P6)<|Ey 4 122 rfl (sL 0 rfl j4 rfl rfl)<|Yz 5 122 rfl (eT rfl rfl be)<|Yz 6 122 rfl (sM rfl)<|eN 7 rfl<|eN 8 rfl ?_
 refine eN 9 rfl<|Yz 10 122 rfl (pT rfl rfl)<|E0 11 rfl (pT rfl rfl)<|E0 12 rfl (sM rfl)<|Yz 13 132 rfl (sM rfl)<|Yz 14 132 rfl (sN rfl)<|Yz 15 132 rfl (sF rfl Q6)<|Ey 16 132 rfl (sL 1 rfl q1v rfl rfl)<|Yz 17 132 rfl (sF rfl q2r)<|Ey 18 132 rfl (sL 0 rfl j4 rfl rfl) ?_
 obtain ⟨gh, e9, fa⟩ := iS gf
 obtain ⟨hl, hn, h1, h2, hq, fb, dA, cz, dB, hr, gO⟩ := OS.get (sz := 5) rfl (by decide) (h5.le (d.trans (e.trans (f.trans (m.trans (g.trans (o.trans z))))))) fa
 obtain ⟨⟨_, _, rfl, rfl, ⟨_, _, rfl, rfl, ⟨_, _, rfl, rfl, ⟨_, _, rfl, rfl, rfl⟩⟩⟩⟩, rfl⟩ := fb
 refine Yz 19 132 rfl (sI gh rfl rfl e9 dB cz q4e)<|Ey 20 132 rfl (j8 (vs := [iv bj.axles, bv bj.disturbed, iv bj.position, iv bj.moving, bv bj.failed]) 5 rfl q6S cz rfl (fun w ho j u hu => dA w _ ho (.cons _ (.cons _ (ss a (List.sublist_append_left _ _)))) j u hu))<|Eo<|Da [21] (by kernel_rfl) rfl<|q3m lr rfl rfl 132 rfl rfl rfl (uW _ q6A rfl (fun w ho => Z6 _ [] bj gg dz) (fun _ _ _ h => h.2.symm)) ?_ ?_
 rintro _ _ ⟨⟨_, rfl, _⟩, rfl⟩
 refine iR<|Ei lr (.refl _)<|E0 22 rfl (pT rfl rfl)<|Eo<|Dd (by kernel_rfl) ?_
 obtain rfl := o1 hm
 exact jJ ⟨rfl, rfl, lr⟩
 exact Rn
 rw [if_neg be] at hm
 by_cases bB : bi.Kind = 2
 rw [if_pos bB] at hm
 obtain ⟨bk, gi, hm⟩ := bS hm
 obtain ⟨gj, dC, hm⟩ := bS hm
 refine Di Q5 (.refl _)<|E0 0 rfl (stB (sM rfl) aT)<|E0 1 rfl (V2 rfl)<|E0 2 rfl (sM rfl)<|Yz 3 122 rfl (sF rfl P6)<|Ey 4 122 rfl (sL 0 rfl j4 rfl rfl)<|Yz 5 122 rfl (eF rfl rfl be)<|Yz 6 122 rfl (sM rfl)<|Yz 7 126 rfl (sF rfl P6)<|Ey 8 126 rfl (sL 0 rfl j4 rfl rfl) ?_
 refine Yz 9 126 rfl (eT rfl rfl bB)<|Yz 10 122 rfl (pF rfl rfl)<|E0 11 rfl (pT rfl rfl)<|E0 12 rfl (sM rfl)<|Yz 13 132 rfl (sM rfl)<|Yz 14 132 rfl (sN rfl)<|Yz 15 132 rfl (sF rfl Q6)<|Ey 16 132 rfl (sL 1 rfl q1v rfl rfl)<|Yz 17 132 rfl (sF rfl q2r)<|Ey 18 132 rfl (sL 0 rfl j4 rfl rfl) ?_
 obtain ⟨gk, fc, fd⟩ := iS gi
 obtain ⟨hs, ht, h3, h4, hv, fe, dD, cA, dE, hw, gP⟩ := OS.get (sz := 5) rfl (by decide) (h5.le (d.trans (e.trans (f.trans (m.trans (g.trans (o.trans z))))))) fd
 obtain ⟨⟨_, _, rfl, rfl, ⟨_, _, rfl, rfl, ⟨_, _, rfl, rfl, ⟨_, _, rfl, rfl, rfl⟩⟩⟩⟩, rfl⟩ := fe
 refine Yz 19 132 rfl (sI gk rfl rfl fc dE cA q4e)<|Ey 20 132 rfl (j8 (vs := [iv bk.axles, bv bk.disturbed, iv bk.position, iv bk.moving, bv bk.failed]) 5 rfl q6S cA rfl (fun w ho j u hu => dD w _ ho (.cons _ (.cons _ (ss a (List.sublist_append_left _ _)))) j u hu))<|Eo<|Da [21] (by kernel_rfl) rfl<|q3m lr rfl rfl 132 rfl rfl rfl (uW _ q6A rfl (fun w ho => Z6 _ [] bk gj dC) (fun _ _ _ h => h.2.symm)) ?_ ?_
 rintro _ _ ⟨⟨_, rfl, _⟩, rfl⟩
 refine iR<|Ei lr (.refl _)<|E0 22 rfl (pT rfl rfl)<|Eo<|Dd (by kernel_rfl) ?_
 obtain rfl := o1 hm
 exact jJ ⟨rfl, rfl, lr⟩
 exact Rn
 rw [if_neg bB] at hm
 refine Di Q5 (.refl _)<|E0 0 rfl (stB (sM rfl) aT)<|E0 1 rfl (V2 rfl)<|E0 2 rfl (sM rfl)<|Yz 3 122 rfl (sF rfl P6)<|Ey 4 122 rfl (sL 0 rfl j4 rfl rfl)<|Yz 5 122 rfl (eF rfl rfl be)<|Yz 6 122 rfl (sM rfl)<|Yz 7 126 rfl (sF rfl P6)<|Ey 8 126 rfl (sL 0 rfl j4 rfl rfl)<|Yz 9 126 rfl (eF rfl rfl bB)<|Yz 10 122 rfl (pF rfl rfl)<|E0 11 rfl (pT rfl rfl)<|E0 12 rfl (sM rfl)<|eN 13 rfl<|eN 14 rfl<|eN 15 rfl<|eN 16 rfl<|eN 17 rfl<|eN 18 rfl ?_
 refine eN 19 rfl<|eN 20 rfl<|eN 21 rfl<|E0 22 rfl (pF rfl rfl)<|Eo<|Dd (by kernel_rfl) ?_
 obtain rfl := o1 hm
 exact jJ ⟨rfl, rfl, lr⟩
 rintro dy _ _ ⟨rfl, rfl, aQ⟩
 have hm := e8
 refine cB hm rfl (fun hm => ?_) fun hm => ?_
 refine Cr<|aS rfl<|Te<|Ct<|Xb<|Xr<|Xr<|Xb<|Xr ?_
 have ff := ch _ (Option.some.inj hm).symm
 rw [ff] at bA
 have hm := k8 bA
 obtain ⟨rfl, rfl, rfl, rfl, rfl⟩ := q4d hm
 have zv := d.trans (e.trans (f.trans (m.trans (g.trans (o.trans (z.trans aQ))))))
 have fg := h5.le zv
 have fh := bU.le zv
 have fi := (bG.le (g.trans (o.trans (z.trans aQ))))
 have fj := bV.le zv
 exact rO ⟨ads, n, i, A, s, rfl, rfl, fg, rfl, fh, rfl, fi, fj⟩ zv
 refine Ck<|Xm<|Xn<|Cg<|tS (sa rfl rfl (by omega))<|mV rfl<|Tn ?_
 exact jM hm ⟨rfl, rfl, ((z.trans aQ))⟩
 rintro _ bh _ _ ⟨rfl, rfl, z⟩ fk
 rw [fk] at bA
 have hm := J5 bA
 refine Cr<|tS (lF rfl rfl (by omega))<|Te<|Cs<|j0 rfl<|Ce<|Xe<|Xe<|Xo<|Xn<|Cr<|mV rfl<|tS (sN rfl)<|tS (sF rfl z4B)<|tS (sL 0 rfl z7s rfl rfl)<|mV rfl ?_
 have zu := d.trans (e.trans (f.trans (m.trans (g.trans (o.trans z)))))
 obtain ⟨q, gl, hx, fl, hy, fm, dF, cC, dH, hm⟩ := bF (sz := 3) hm (d9.le zu)
 obtain ⟨_, _, rfl, rfl, ⟨_, _, rfl, rfl, ⟨X, Y, rfl, dI⟩⟩⟩ := fm
 refine tS (sI gl rfl rfl fl dH cC z6Y)<|tS (sP (vs := [iv q.From, iv q.To, sv X q.Steps Y]) 3 rfl z6G cC rfl (fun j u hu => dF j u hu))<|tD (uA [iv 0, iv 0, sn] j2x rfl) ?_
 rintro _ _ ⟨a9, rfl, rfl⟩
 refine tD (uN (vs := [_, _, _]) 0 3 rfl rfl rfl j5a rfl (mc rfl (mc rfl (mc rfl mn))) rfl (by simp)) ?_
 rintro _ _ rfl
 refine Te ?_
 obtain ⟨⟨gm, gn⟩, fn, fo⟩ := bS hm
 refine Cj (fun bL e' hp' => ∃ C J, [(0, pb W), (1, iv I), (2, bv H), (7, sv t p y), (15, pb a9)] = e' ∧ (W, Cl 57 [sv ay an az, sv aA ao aB, sv aC aq aD, sv aE ar aF, sv aG au aH, sv aI av aJ, sv aK aw aL, sv A3 aR c4, sv A8 ax c9, .map (some ak)]) :: (a9, Cl 80 [iv q.From, iv q.To, sv X q.Steps Y]) :: (a ++ (n ++ (i ++ (C ++ (J ++ R))))) = hp' ∧ bh.Le bL ∧ OM rI (OT.fr (RT.key ads)) false false bL.w ak gm C ∧ OAr 85 q9 ads bL.w gn J) ?_ ?_
 have hm := fn
 refine Cr<|mV rfl<|tS (sN rfl)<|tS (sF rfl q1h)<|tS (sL 1 rfl q5F rfl rfl)<|Q4 a n i A<|tD (q7P [_, _] (a ++ (n ++ (i ++ (s ++ R)))) rfl (bG.le (g.trans (o.trans z))) q3o rfl) ?_
 rintro _ _ ⟨b1, bf, rfl, rfl, go⟩
 refine Te<|Cb<|q0v bf a n i s<|q0v s bf a n i<|q0v i s bf a n<|q0v n i s bf a<|Cp 1 rfl<|q0v a n i s bf ?_
 obtain ⟨h6, fp, cD⟩ := bS hm
 refine z1z (fun b2 => fun ci e' hp' => ∃ K, [(0, pb W), (1, iv I), (2, bv H), (7, sv t p y), (15, pb a9), (155, pb b1)] = e' ∧ (W, Cl 57 [sv ay an az, sv aA ao aB, sv aC aq aD, sv aE ar aF, sv aG au aH, sv aI av aJ, sv aK aw aL, sv A3 aR c4, sv A8 ax c9, .map (some ak)]) :: (a9, Cl 80 [iv q.From, iv q.To, sv X q.Steps Y]) :: (a ++ (n ++ (i ++ (K ++ R)))) = hp' ∧ bh.Le ci ∧ OAr 85 q9 ads ci.w b2 K) fp go (e' := [(0, pb W), (1, iv I), (2, bv H), (7, sv t p y), (15, pb a9), (155, pb b1)]) ⟨rfl, rfl, rfl, rfl, rfl, rfl, trivial⟩ [_, _] (a ++ (n ++ (i ++ (s ++ R)))) rfl (.refl _) ⟨s, rfl, rfl, lr, (bV.le zu)⟩ ?_
 rintro b2 h7 ci _ _ cE ⟨K, rfl, rfl, aX, cj⟩ gQ dJ hd2790 hall2791
 refine z6C [_, _] cE (a ++ (n ++ (i ++ (K ++ R)))) ?_ rfl
 refine Cr<|z1i [_, _] (a ++ (n ++ (i ++ (K ++ R)))) rfl rfl rfl dJ (fun hnil2793 => ?_) (fun b3 h8 h9 ia D hperm2799 fq dK => ?_)
 obtain ⟨cG, cR, gp⟩ := MIt.done dJ
 refine q8s [_, _] cE cG (a ++ (n ++ (i ++ (K ++ R)))) rfl cR ?_
 have hend2805 := hd2790 hnil2793
 refine tS (z5 rfl rfl)<|Te<|Cs<|j0 rfl<|Ce<|Xe<|Xe<|Xo ?_
 rw [hend2805] at cD
 have hm := J5 cD
 obtain ⟨rfl, rfl⟩ := j9 hm
 exact jJ ⟨cG, K, rfl, rfl, aX, gp, cj⟩
 obtain ⟨ib, ba, gH⟩ := hall2791 _ _ hperm2799
 have br := ba
 unfold q0I at br
 have hm := br
 refine tS (z5 rfl rfl)<|Te<|Cs<|j1 rfl<|Ck<|Xn<|Cb<|Cr ?_
 obtain ⟨dL, dM, b4, b5, fr⟩ := MIx.entry Tryz.prog fq
 obtain rfl : dL = iv b3.1 := by have b4 : [dL] = [iv b3.1] := b4; injection b4
 obtain rfl : dM = kv ads b3.2 := by have b5 : [dM] = [kv ads b3.2] := b5; injection b5
 refine tS (fr (.cons _ (.cons _ (List.sublist_append_left _ _))) rfl)<|tS (z5 rfl rfl)<|aS rfl<|Te<|Cs ?_
 obtain ⟨aU, dN, hm⟩ := bS hm
 obtain ⟨c, gq, hm⟩ := bS hm
 refine z0e 17 rfl (v' := .pointer (some ⟨(ads aU), 0, none⟩)) (by rw [dN]; rfl)<|z0e 159 rfl (v' := .pointer (some ⟨(ads aU), 0, none⟩)) (by rw [dN]; rfl) ?_
 obtain ⟨hz, hA, U, cH, fs, hf2823⟩ := OAr.take cj gq
 obtain ⟨aY, aZ, a0, a1, a2, a3, L, a4, a5, O, rfl, gr, gs, gt, gu, rfl⟩ := fs
 refine q0v D a n i K<|q8x [_, _] K U L O (D ++ (a ++ (n ++ (i ++ R)))) rfl cH<|Di Q5 (.refl _)<|E0 0 rfl (sM rfl)<|E0 1 rfl (sN rfl)<|E0 2 rfl (sF rfl q1U)<|E0 3 rfl (sF rfl q5M)<|Es 4 rfl (sL 0 rfl j4 rfl rfl)<|E0 5 rfl (sF rfl q5N)<|Es 6 rfl (sL 2 rfl j4 rfl rfl)<|E0 7 rfl (q1 rfl rfl)<|Eo<|Dd (by kernel_rfl)<|Xn<|cI hm rfl (fun hm => ?_) fun hm => ?_
 refine Cg<|mV rfl<|tS (sN rfl)<|tS (sF rfl z2n)<|tD (uS 0 rfl rfl z1o rfl rfl (by simp)) ?_
 rintro _ _ rfl
 refine Tn<|Xm<|V8 L O U<|V8 U L O<|V8 O U L ?_
 have gv := hf2823 _ [iv c.Route.From, iv c.Route.To, sv aY c.Route.Steps aZ, sv a0 c.needs a1, sv a2 c.seen a3, sv a4 c.gone a5, bv false, bv c.sight, iv c.leave, iv c.clock, iv c.number] (⟨c.Route, c.needs, c.seen, c.gone, false, c.sight, c.leave, c.clock, c.number⟩ : LockLocked) _ lr ⟨aY, aZ, a0, a1, a2, a3, L, a4, a5, O, rfl, gr, gs, gt, gu, rfl⟩
 refine q9p [_, _] U L O (D ++ (a ++ (n ++ (i ++ R)))) rfl<|Xp 1 rfl<|Xp 1 rfl<|X5 [_, _] (U ++ (((ads aU), Cl 85 [iv c.Route.From, iv c.Route.To, sv aY c.Route.Steps aZ, sv a0 c.needs a1, sv a2 c.seen a3, sv a4 c.gone a5, bv false, bv c.sight, iv c.leave, iv c.clock, iv c.number]) :: (L ++ O))) D a n i R rfl<|X5 [_, _] i (U ++ (((ads aU), Cl 85 [iv c.Route.From, iv c.Route.To, sv aY c.Route.Steps aZ, sv a0 c.needs a1, sv a2 c.seen a3, sv a4 c.gone a5, bv false, bv c.sight, iv c.leave, iv c.clock, iv c.number]) :: (L ++ O))) D a n R rfl<|X5 [_, _] n i (U ++ (((ads aU), Cl 85 [iv c.Route.From, iv c.Route.To, sv aY c.Route.Steps aZ, sv a0 c.needs a1, sv a2 c.seen a3, sv a4 c.gone a5, bv false, bv c.sight, iv c.leave, iv c.clock, iv c.number]) :: (L ++ O))) D a R rfl<|X5 [_, _] a n i (U ++ (((ads aU), Cl 85 [iv c.Route.From, iv c.Route.To, sv aY c.Route.Steps aZ, sv a0 c.needs a1, sv a2 c.seen a3, sv a4 c.gone a5, bv false, bv c.sight, iv c.leave, iv c.clock, iv c.number]) :: (L ++ O))) D R rfl ?_
 have dO := aX
 exact q9o (s' := F2 b2 aU (⟨c.Route, c.needs, c.seen, c.gone, false, c.sight, c.leave, c.clock, c.number⟩ : LockLocked)) [_, _] (a ++ (n ++ (i ++ ((U ++ (((ads aU), Cl 85 [iv c.Route.From, iv c.Route.To, sv aY c.Route.Steps aZ, sv a0 c.needs a1, sv a2 c.seen a3, sv a4 c.gone a5, bv false, bv c.sight, iv c.leave, iv c.clock, iv c.number]) :: (L ++ O))) ++ R)))) rfl hperm2799 (ba.trans (Option.some.inj hm ▸ rfl)) dO dK (e' := [(0, pb W), (1, iv I), (2, bv H), (7, sv t p y), (15, pb a9), (155, pb b1)]) ⟨rfl, rfl, rfl, rfl, rfl, rfl, trivial⟩ (.refl _) ⟨(U ++ (((ads aU), Cl 85 [iv c.Route.From, iv c.Route.To, sv aY c.Route.Steps aZ, sv a0 c.needs a1, sv a2 c.seen a3, sv a4 c.gone a5, bv false, bv c.sight, iv c.leave, iv c.clock, iv c.number]) :: (L ++ O))), rfl, rfl, (aX), gv⟩
 refine Ck<|Xm<|V8 L O U<|V8 U L O<|V8 O U L<|q1X [_, _] K U L O (D ++ (a ++ (n ++ (i ++ R)))) rfl cH<|Xp 1 rfl<|Xp 1 rfl<|z8W K D a n i<|z8W i K D a n<|z8W n i K D a<|z8W a n i K D ?_
 have dP := aX
 exact q9o (s' := b2) [_, _] (a ++ (n ++ (i ++ (K ++ R)))) rfl hperm2799 (ba.trans (Option.some.inj hm ▸ rfl)) dP dK (e' := [(0, pb W), (1, iv I), (2, bv H), (7, sv t p y), (15, pb a9), (155, pb b1)]) ⟨rfl, rfl, rfl, rfl, rfl, rfl, trivial⟩ (.refl _) ⟨K, rfl, rfl, (aX), cj⟩
 rintro bL _ _ ⟨C, J, rfl, rfl, T, dQ, dR⟩
 have hm := Q3 fo
 obtain ⟨⟨bb, dS, dT⟩, ft, fu⟩ := bS hm
 refine Cj (fun bl e' hp' => ∃ (ads : Int → Nat), ∃ bM bN S E, [(0, pb W), (7, sv bM bb bN)] = e' ∧ (W, Cl 57 [sv ay an az, sv aA ao aB, sv aC aq aD, sv aE ar aF, sv aG au aH, sv aI av aJ, sv aK aw aL, sv A3 aR c4, sv A8 ax c9, .map (some ak)]) :: (n ++ (i ++ (S ++ (E ++ R)))) = hp' ∧ bL.Le bl ∧ FZ z4 bl.w bM bN bb ∧ OM rI (OT.fr (RT.key ads)) false false bl.w ak dS S ∧ OAr 85 q9 ads bl.w dT E) ?_ ?_
 have hm := ft
 refine j4v [_, _] a (n ++ (i ++ (C ++ (J ++ R)))) rfl ?_
 intro ic ai fv
 have b6 := OS.frz (l := p) (aV.le (m.trans (g.trans (o.trans (z.trans T))))) ai.cells fv
 obtain ⟨aa, a6, hm⟩ := bS hm
 obtain ⟨ab, a7, hm⟩ := bS hm
 obtain ⟨_, bm, hm⟩ := bS hm
 refine Di Q5 (.refl _)<|E0 0 rfl (sM rfl)<|E0 1 rfl (sN rfl)<|E0 2 rfl (sF rfl q1h)<|Es 3 rfl (sL 0 rfl q5F rfl rfl)<|E0 4 rfl (sM rfl)<|Es 5 rfl (sD (vs := [_, _, _]) 1 3 rfl z6G rfl rfl rfl)<|E0 6 rfl (sM rfl)<|E0 7 rfl (sF rfl q0j)<|Es 8 rfl (sL 1 rfl q3J rfl rfl)<|E0 9 rfl (sE rfl q6w)<|E0 11 rfl (sF rfl q0j)<|Es 12 rfl (sL 1 rfl q3J rfl rfl)<|E0 13 rfl (sE rfl q6w)<|E0 15 rfl (sM rfl)<|E0 16 rfl (sn2 rfl)<|E0 17 rfl (sM rfl)<|E0 18 rfl (sM rfl)<|Eo ?_
 have a6 := q1W a6
 have a7 := q1W a7
 refine Da [10, 14] (by kernel_rfl) rfl<|Rd2 lr rfl rfl (F0 (r := RT.bool) [_, _] (n ++ (i ++ (C ++ (J ++ R)))) [bv false] false aa rfl a6.1 rfl rfl q8E j4H rfl rfl rfl (by decide) rfl a6.2.1 a6.2.2) ?_ ?_
 rintro _ _ ⟨F, rfl, bO⟩
 obtain ⟨ad, ae, rfl, _⟩ := bO.form
 refine iR<|Da [14] (by kernel_rfl) rfl<|Rd2 lr rfl rfl (F0 (r := RT.bool) [_, _] (F ++ (n ++ (i ++ (C ++ (J ++ R))))) [bv false] false ab rfl a7.1 rfl rfl q8E j4H rfl rfl rfl (by decide) rfl a7.2.1 a7.2.2) ?_ ?_
 rintro _ _ ⟨G, rfl, bP⟩
 obtain ⟨af, ag, rfl, _⟩ := bP.form
 refine iR<|Da [19] (by kernel_rfl) rfl ?_
 refine Rd2 lr rfl rfl (Stable.does (sB (v := .agg #[iv q.From, iv q.To, sv X q.Steps Y, sv t p y, .slice ad (List.replicate aa (false : Bool)).length ae, .slice af (List.replicate ab (false : Bool)).length ag, .bool (!H), bv H, iv 0, iv 0, iv I]) [(0, .agg #[iv q.From, iv q.To, sv X q.Steps Y]), (1, sv t p y), (2, .slice ad (List.replicate aa (false : Bool)).length ae), (3, .slice af (List.replicate ab (false : Bool)).length ag), (4, .bool (!H)), (5, bv H), (8, iv I)] rfl (fun _ => by kernel_rfl))) ?_ ?_
 rintro _ _ ⟨rfl, rfl⟩
 refine iR<|Da [20] (by kernel_rfl) rfl<|Rd2 lr rfl rfl (uB _ rfl rfl) ?_ ?_
 rintro _ _ ⟨ah, rfl, rfl⟩
 refine iR ?_
 have bm := q9G bm
 refine j3r G F n i C J<|j5s J G<|j0a G J F ?_
 obtain ⟨b7, al, b8, ck⟩ := OAr.add (dR.le ai) I ah (cs := [iv q.From, iv q.To, sv X q.Steps Y, sv t p y, .slice ad (List.replicate aa (false : Bool)).length ae, .slice af (List.replicate ab (false : Bool)).length ag, .bool (!H), bv H, iv 0, iv 0, iv I]) (x := (⟨q, p, List.replicate aa (false : Bool), List.replicate ab (false : Bool), !H, H, 0, 0, I⟩ : LockLocked)) ⟨X, Y, t, y, ad, ae, F, af, ag, G, rfl, (dI.le (T.trans ai)), b6, bO, bP, rfl⟩
 have cl := OM.upd (dQ.le ai) I ah bm
 refine j0C [_, _] J b7 al F G (n ++ (i ++ (C ++ R))) rfl b8<|q3p 191 rfl (v' := kv (z3T ads I ah) (some I)) (by show _ = Value.pointer (some ⟨z3T ads _ _ _, 0, none⟩); rw [q6W]) ?_
 generalize z3T ads I ah = ads at *
 refine d4 [_, _] (al ++ ((ah, Cl 85 [iv q.From, iv q.To, sv X q.Steps Y, sv t p y, .slice ad (List.replicate aa (false : Bool)).length ae, .slice af (List.replicate ab (false : Bool)).length ag, .bool (!H), bv H, iv 0, iv 0, iv I]) :: (F ++ G))) n i C R rfl<|Da [21] (by kernel_rfl) rfl ?_
 refine Rd2 lr rfl rfl (q9r z8S [_, _] [] ((al ++ ((ah, Cl 85 [iv q.From, iv q.To, sv X q.Steps Y, sv t p y, .slice ad (List.replicate aa (false : Bool)).length ae, .slice af (List.replicate ab (false : Bool)).length ag, .bool (!H), bv H, iv 0, iv 0, iv I]) :: (F ++ G))) ++ (n ++ (i ++ R))) rfl cl q3o rfl rfl rfl rfl ⟨rfl, rfl⟩ _ (.inl rfl)) ?_ ?_
 rintro _ _ ⟨b9, rfl, cT, cm⟩
 refine ⟨.inl (by kernel_rfl), ?_⟩
 refine Dd (by kernel_rfl) ?_
 obtain ⟨rfl, rfl, rfl⟩ := q3i hm
 exact jJ ⟨ads, t, y, b9, (al ++ ((ah, Cl 85 [iv q.From, iv q.To, sv X q.Steps Y, sv t p y, .slice ad (List.replicate aa (false : Bool)).length ae, .slice af (List.replicate ab (false : Bool)).length ag, .bool (!H), bv H, iv 0, iv 0, iv I]) :: (F ++ G))), rfl, rfl, ai, b6, cm, ck⟩
 exact Rn
 exact Rn
 exact Rn
 exact Rn
 refine Rd2 lr rfl rfl (F0 (r := RT.bool) [_, _] (n ++ (i ++ (C ++ (J ++ R)))) [bv false] false ab rfl a7.1 rfl rfl q8E j4H rfl rfl rfl (by decide) rfl a7.2.1 a7.2.2) ?_ ?_
 rintro _ _ ⟨G, rfl, bP⟩
 obtain ⟨af, ag, rfl, _⟩ := bP.form
 refine iR<|Da [10] (by kernel_rfl) rfl<|Rd2 lr rfl rfl (F0 (r := RT.bool) [_, _] (G ++ (n ++ (i ++ (C ++ (J ++ R))))) [bv false] false aa rfl a6.1 rfl rfl q8E j4H rfl rfl rfl (by decide) rfl a6.2.1 a6.2.2) ?_ ?_
 rintro _ _ ⟨F, rfl, bO⟩
 obtain ⟨ad, ae, rfl, _⟩ := bO.form
 refine iR<|Da [19] (by kernel_rfl) rfl ?_
 refine Rd2 lr rfl rfl (Stable.does (sB (v := .agg #[iv q.From, iv q.To, sv X q.Steps Y, sv t p y, .slice ad (List.replicate aa (false : Bool)).length ae, .slice af (List.replicate ab (false : Bool)).length ag, .bool (!H), bv H, iv 0, iv 0, iv I]) [(0, .agg #[iv q.From, iv q.To, sv X q.Steps Y]), (1, sv t p y), (2, .slice ad (List.replicate aa (false : Bool)).length ae), (3, .slice af (List.replicate ab (false : Bool)).length ag), (4, .bool (!H)), (5, bv H), (8, iv I)] rfl (fun _ => by kernel_rfl))) ?_ ?_
 rintro _ _ ⟨rfl, rfl⟩
 refine iR<|Da [20] (by kernel_rfl) rfl<|Rd2 lr rfl rfl (uB _ rfl rfl) ?_ ?_
 rintro _ _ ⟨ah, rfl, rfl⟩
 refine iR ?_
 have bm := q9G bm
 refine j3r F G n i C J<|j0a J F G<|j0a G J F ?_
 obtain ⟨b7, al, b8, ck⟩ := OAr.add (dR.le ai) I ah (cs := [iv q.From, iv q.To, sv X q.Steps Y, sv t p y, .slice ad (List.replicate aa (false : Bool)).length ae, .slice af (List.replicate ab (false : Bool)).length ag, .bool (!H), bv H, iv 0, iv 0, iv I]) (x := (⟨q, p, List.replicate aa (false : Bool), List.replicate ab (false : Bool), !H, H, 0, 0, I⟩ : LockLocked)) ⟨X, Y, t, y, ad, ae, F, af, ag, G, rfl, (dI.le (T.trans ai)), b6, bO, bP, rfl⟩
 have cl := OM.upd (dQ.le ai) I ah bm
 refine j0C [_, _] J b7 al F G (n ++ (i ++ (C ++ R))) rfl b8<|q3p 191 rfl (v' := kv (z3T ads I ah) (some I)) (by show _ = Value.pointer (some ⟨z3T ads _ _ _, 0, none⟩); rw [q6W]) ?_
 generalize z3T ads I ah = ads at *
 refine d4 [_, _] (al ++ ((ah, Cl 85 [iv q.From, iv q.To, sv X q.Steps Y, sv t p y, .slice ad (List.replicate aa (false : Bool)).length ae, .slice af (List.replicate ab (false : Bool)).length ag, .bool (!H), bv H, iv 0, iv 0, iv I]) :: (F ++ G))) n i C R rfl<|Da [21] (by kernel_rfl) rfl ?_
 refine Rd2 lr rfl rfl (q9r z8S [_, _] [] ((al ++ ((ah, Cl 85 [iv q.From, iv q.To, sv X q.Steps Y, sv t p y, .slice ad (List.replicate aa (false : Bool)).length ae, .slice af (List.replicate ab (false : Bool)).length ag, .bool (!H), bv H, iv 0, iv 0, iv I]) :: (F ++ G))) ++ (n ++ (i ++ R))) rfl cl q3o rfl rfl rfl rfl ⟨rfl, rfl⟩ _ (.inl rfl)) ?_ ?_
 rintro _ _ ⟨b9, rfl, cT, cm⟩
 refine ⟨.inl (by kernel_rfl), ?_⟩
 refine Dd (by kernel_rfl) ?_
 obtain ⟨rfl, rfl, rfl⟩ := q3i hm
 exact jJ ⟨ads, t, y, b9, (al ++ ((ah, Cl 85 [iv q.From, iv q.To, sv X q.Steps Y, sv t p y, .slice ad (List.replicate aa (false : Bool)).length ae, .slice af (List.replicate ab (false : Bool)).length ag, .bool (!H), bv H, iv 0, iv 0, iv I]) :: (F ++ G))), rfl, rfl, ai, b6, cm, ck⟩
 exact Rn
 exact Rn
 exact Rn
 exact Rn
 exact Rn
 rintro bl _ _ ⟨ads, bM, bN, S, E, rfl, rfl, ac, dU, gw, dV⟩
 have hm := q4U fu
 refine Cs<|Cr<|mV rfl<|tS (sE rfl q4J)<|mV rfl<|Te<|Cb ?_
 have hB : bb.length ≤ 9223372036854775807 := (FZ.bd dU)
 refine H6 n i S E<|H6 E n i S<|H6 S E n i<|H6 i S E n ?_
 obtain ⟨aM, fw, fx⟩ := bS hm
 refine lS (fun cn => fun aM => fun bQ e' hp' => ∃ V, [(0, pb W), (192, sv bM bb bN), (193, iv ((bb.length : Int))), (194, iv ((cn : Int)))] = e' ∧ (W, Cl 57 [sv ay an az, sv aA ao aB, sv aC aq aD, sv aE ar aF, sv aG au aH, sv aI av aJ, sv aK aw aL, sv A3 aM c4, sv A8 ax c9, .map (some ak)]) :: (V ++ (i ++ (S ++ (E ++ R)))) = hp' ∧ bl.Le bQ ∧ OS 59 (OT.fr z7) bQ.w (sv A3 aM c4) aM V ∧ aM.length = aR.length) fw ⟨n, rfl, rfl, lr, (h5.le (d.trans (e.trans (f.trans (m.trans (g.trans (o.trans (z.trans (T.trans ac))))))))), rfl⟩ ?_ ?_
 rintro cn aM bQ _ _ hC gI ⟨V, rfl, rfl, B, bc, a8⟩ bs
 unfold G1 at bs
 have hm := bs
 refine Cr<|tS (lT rfl rfl (by omega))<|Te<|Cs<|j1 rfl<|Ck<|Xn<|Cs<|Cb<|Cr ?_
 obtain ⟨bn, gx, hD, fy, hE, fz, dW, cJ, dX, hm⟩ := bF (sz := 4) hm (dU.le B)
 obtain ⟨_, _, rfl, rfl, ⟨_, _, rfl, rfl, ⟨_, _, rfl, rfl, rfl⟩⟩⟩ := fz
 refine tS (sI gx rfl rfl fy dX cJ q4J)<|tS (sP (vs := [iv bn.Kind, iv bn.Place, iv bn.Position, iv bn.At]) 4 rfl Y1 cJ rfl (fun j u hu => dW j u hu))<|tD (uA [iv 0, iv 0, iv 0, iv 0] q4F rfl) ?_
 rintro _ _ ⟨id, rfl, rfl⟩
 refine tD (uN (vs := [_, _, _, _]) 0 4 rfl rfl rfl q6Z rfl (mc rfl (mc rfl (mc rfl (mc rfl mn)))) rfl (by simp)) ?_
 rintro _ _ rfl
 refine Te<|Cs<|Cr<|tS (sF rfl P5)<|tS (sL 0 rfl j4 rfl rfl)<|tS (q1 rfl rfl)<|Te<|cI hm rfl (fun hm => ?_) fun hm => ?_
 refine Ce<|Xe<|Xo<|Xn<|Cg<|tS (sa rfl rfl (by omega))<|mV rfl<|Tn ?_
 obtain rfl := o1 hm
 exact jS ⟨V, rfl, rfl, (B), bc, a8⟩
 refine Ck<|Xn<|Cs ?_
 obtain ⟨aj, gy, hm⟩ := bS hm
 refine Di Q5 (.refl _)<|E0 0 rfl (sM rfl)<|E0 1 rfl (sN rfl)<|E0 2 rfl (sF rfl Q6)<|Es 3 rfl (sL 1 rfl q1v rfl rfl)<|E0 4 rfl (sF rfl q2r)<|Es 5 rfl (sL 0 rfl j4 rfl rfl) ?_
 obtain ⟨dY, cK, cO⟩ := iS gy
 obtain ⟨hF, hG, ie, ig, hH, fA, bR, am, dZ, hI, gR⟩ := OS.get (sz := 5) rfl (by decide) bc cO
 obtain ⟨⟨_, _, rfl, rfl, ⟨_, _, rfl, rfl, ⟨_, _, rfl, rfl, ⟨_, _, rfl, rfl, rfl⟩⟩⟩⟩, rfl⟩ := fA
 refine E0 6 rfl (sI dY rfl rfl cK dZ am q4e)<|E0 7 rfl (sA rfl)<|Eo<|Dd (by kernel_rfl)<|Xn ?_
 obtain ⟨gz, fB, fC⟩ := bS hm
 refine Cj (fun d0 e' hp' => [(0, pb W), (20, .pointer (Option.map (fun (x : Addr) => x.add (dY * 5)) A3)), (192, sv bM bb bN), (193, iv ((bb.length : Int))), (194, iv ((cn : Int))), (221, bv gz)] = e' ∧ (W, Cl 57 [sv ay an az, sv aA ao aB, sv aC aq aD, sv aE ar aF, sv aG au aH, sv aI av aJ, sv aK aw aL, sv A3 aM c4, sv A8 ax c9, .map (some ak)]) :: (V ++ (i ++ (S ++ (E ++ R)))) = hp' ∧ bQ.Le d0) ?_ ?_
 have hm := fB
 by_cases bC : aj.position ≠ bn.Position
 rw [if_pos bC] at hm
 refine Di Q5 (.refl _)<|E0 0 rfl (sM rfl)<|E0 1 rfl (j6 rfl am)<|E0 2 rfl (sQ rfl am q3S)<|Es 3 rfl (z9 rfl j4 (fun w ho => bR w _ ho (.cons _ (.cons _ (List.sublist_append_left _ _))) 2 _ rfl))<|E0 4 rfl (sF rfl P5)<|Es 5 rfl (sL 0 rfl j4 rfl rfl)<|E0 6 rfl (z9h rfl rfl bC)<|E0 7 rfl (sM rfl)<|Yz 8 215 rfl (sM rfl) ?_
 refine Yz 9 215 rfl (j6 rfl am)<|Yz 10 215 rfl (sQ rfl am q3k)<|Ey 11 215 rfl (z9 rfl j4 (fun w ho => bR w _ ho (.cons _ (.cons _ (List.sublist_append_left _ _))) 3 _ rfl))<|Yz 12 215 rfl (q1 rfl rfl)<|E0 13 rfl (pT rfl rfl)<|Eo<|Dd (by kernel_rfl) ?_
 obtain rfl := o1 hm
 exact jJ ⟨rfl, rfl, lr⟩
 rw [if_neg bC] at hm
 refine Di Q5 (.refl _)<|E0 0 rfl (sM rfl)<|E0 1 rfl (j6 rfl am)<|E0 2 rfl (sQ rfl am q3S)<|Es 3 rfl (z9 rfl j4 (fun w ho => bR w _ ho (.cons _ (.cons _ (List.sublist_append_left _ _))) 2 _ rfl))<|E0 4 rfl (sF rfl P5)<|Es 5 rfl (sL 0 rfl j4 rfl rfl)<|E0 6 rfl (z9i rfl rfl bC)<|E0 7 rfl (sM rfl)<|eN 8 rfl<|eN 9 rfl<|eN 10 rfl<|eN 11 rfl<|eN 12 rfl<|E0 13 rfl (pF rfl rfl)<|Eo<|Dd (by kernel_rfl) ?_
 obtain rfl := o1 hm
 exact jJ ⟨rfl, rfl, lr⟩
 rintro d0 _ _ ⟨rfl, rfl, bg⟩
 have hm := fC
 refine cB hm rfl (fun hm => ?_) fun hm => ?_
 refine Cg<|mV rfl<|tS (j6 rfl am)<|tS (sQ rfl am q3k)<|tD (uP cK (sz := 5) (a' := (⟨aj.axles, aj.disturbed, aj.position, 5, aj.failed⟩ : LockBody)) rfl [_] (i ++ (S ++ (E ++ R))) 3 1 [iv 5] rfl (bc.le bg) cO rfl rfl rfl z0D rfl (mc rfl mn) (fun cs hsj hh => by obtain ⟨⟨_, _, rfl, rfl, ⟨_, _, rfl, rfl, ⟨_, _, rfl, rfl, ⟨_, _, rfl, rfl, rfl⟩⟩⟩⟩, rfl⟩ := hh; exact ⟨by first | decide | exact Nat.le_refl _, ⟨[iv aj.axles], _, rfl, rfl, ⟨[bv aj.disturbed], _, rfl, rfl, ⟨[iv aj.position], _, rfl, rfl, ⟨[iv 5], _, rfl, rfl, rfl⟩⟩⟩⟩, rfl⟩)) ?_
 rintro _ _ ⟨fD, rfl, gA⟩
 refine w5 0 rfl (o' := Cl 57 [sv ay an az, sv aA ao aB, sv aC aq aD, sv aE ar aF, sv aG au aH, sv aI av aJ, sv aK aw aL, .slice A3 (put aM bn.Place (⟨aj.axles, aj.disturbed, aj.position, 5, aj.failed⟩ : LockBody)).length c4, sv A8 ax c9, .map (some ak)]) (by simp only [sv, z6])<|Tn<|Xm<|Xn<|Cg<|tS (sa rfl rfl (by omega))<|mV rfl<|Tn ?_
 obtain rfl := o1 hm
 exact jS ⟨fD, rfl, rfl, ((B.trans bg)), gA, ((z6 _ _ _).trans a8)⟩
 refine Ck<|Xm<|Xn<|Cg<|tS (sa rfl rfl (by omega))<|mV rfl<|Tn ?_
 obtain rfl := o1 hm
 exact jS ⟨V, rfl, rfl, ((B.trans bg)), (bc.le bg), a8⟩
 rintro bQ _ _ ⟨V, rfl, rfl, B, bc, a8⟩
 have hm := fx
 refine Cr<|tS (lF rfl rfl (by omega))<|Te<|Cs<|j0 rfl<|Ce<|Xe<|Xe<|Xo<|Xn<|Cr<|mV rfl ?_
 obtain ⟨⟨d1, gB⟩, d5, hm⟩ := bS hm
 have hm := Q3 hm
 have zt := d.trans (e.trans (f.trans (m.trans (g.trans (o.trans (z.trans (T.trans (ac.trans B))))))))
 refine v5 V i S E<|v5 E V i S<|v5 S E V i<|v5 i S E V<|w9 [_] [] V i S E R rfl<|Tg _ rfl z8l rfl (q6e _ _ an ao aq ar au av aw aM ax dS dT ads W ay az aA aB aC aD aE aF aG aH aI aJ aK aL A3 c4 V A8 c9 i ak S E (fH.le zt) (fI.le zt) (fJ.le zt) (fK.le zt) (fL.le zt) (d9.le zt) (ea.le zt) bc (bU.le zt) (gw.le B) (dV.le B) d1 gB d5) ?_
 rintro _ ii _ bT ⟨cP, cQ, rfl, rfl, gC, d6, gD⟩
 refine K9 [_] [] V cP cQ E R rfl<|w5 0 rfl (o' := Cl 57 [sv ay an az, sv aA ao aB, sv aC aq aD, sv aE ar aF, sv aG au aH, sv aI av aJ, sv aK aw aL, sv A3 aM c4, sv A8 d1 c9, .map (some ak)]) (by simp only [sv, d6])<|Te<|Cr<|aS rfl<|Te<|Ct ?_
 obtain ⟨rfl, rfl, rfl, rfl, rfl⟩ := q4d hm
 have fF := bc.le bT
 have fG := (dV.le (B.trans bT))
 exact rO ⟨ads, V, cP, cQ, E, rfl, rfl, fF, a8, gC, (d6.trans rfl), gD, fG⟩ (d.trans (e.trans (f.trans (m.trans (g.trans (o.trans (z.trans (T.trans (ac.trans (B.trans bT))))))))))
theorem z0Z (b : Base) (R : Hp) (ah D E F G H I J A K a5 a6) (ads : Int → Nat) (L S T U V W X Y Z aa ab ac ad ae af A3 c4 f A8 c9 g B d i) (bz : FZ RT.str b.w S T D) (bA : FZ rApiSection b.w U V E) (bB : FZ rApiLink b.w W X F) (a7 : FZ rApiSignal b.w Y Z G) (bC : FZ rApiGate b.w aa ab H) (bD : FZ j3 b.w ac ad I) (bE : FZ (RT.list z4) b.w ae af J) (h5 : OS 59 (OT.fr z7) b.w (sv A3 A c4) A f) (aK : OS 127 (OT.fr z8) b.w (sv A8 K c9) K g) (an : OM rI (OT.fr (RT.key ads)) false false b.w B a5 d) (ao : OAr 85 q9 ads b.w a6 i) (aV ag aW aX) (hm : q1E ah D E F G H I J A K a5 a6 = some (aV, ag, aW, aX)):
 CallsG Tryz.prog 29 [pb L, iv ah] b ((L, Cl 57 [sv S D T, sv U E V, sv W F X, sv Y G Z, sv aa H ab, sv ac I ad, sv ae J af, sv A3 A c4, sv A8 K c9, .map (some B)]) :: (f ++ (g ++ (d ++ (i ++ R))))) (fun v b' hp' => ∃ aq ar au, iv aV = v ∧ (L, Cl 57 [sv S D T, sv U E V, sv W F X, sv Y G Z, sv aa H ab, sv ac I ad, sv ae J af, sv A3 A c4, sv A8 ag c9, .map (some B)]) :: (f ++ (aq ++ (ar ++ (au ++ R)))) = hp' ∧ OS 127 (OT.fr z8) b'.w (sv A8 ag c9) ag aq ∧ ag.length = K.length ∧ OM rI (OT.fr (RT.key ads)) false false b'.w B aW ar ∧ OAr 85 q9 ads b'.w aX au) := by
 refine fE 63 Tryz.func29 rfl Tryz.ntmps29 rfl ?_
 unfold q1E at hm
 refine Cr<|aS rfl<|Te<|Cs<|Cr<|mV rfl<|mV rfl ?_
 obtain ⟨bG, aL, hm⟩ := bS hm
 refine v5 f g d i<|v5 i f g d<|v5 d i f g<|v5 g d i f<|w9 [_] [] f g d i R rfl<|Tg _ rfl z5G rfl (q1L _ _ ah D E F G H I J A K a5 a6 ads L S T U V W X Y Z aa ab ac ad ae af A3 c4 f A8 c9 g B d i bz bA bB a7 bC bD bE h5 aK an ao bG aL) ?_
 rintro _ bH _ a ⟨rfl, rfl⟩
 refine K9 [_] [] f g d i R rfl<|tS (sn2 rfl)<|Te<|cM hm rfl (fun hm => ?_) fun hm => ?_
 refine Cr<|aS rfl<|Te<|Ct<|Xr ?_
 obtain ⟨rfl, rfl, rfl, rfl⟩ := q6G hm
 have a8 := aK.le a
 have a9 := an.le a
 have ba := ao.le a
 exact rO ⟨g, d, i, rfl, rfl, a8, rfl, a9, ba⟩ a
 refine Ck<|Xn<|Cr<|mV rfl<|tS (sN rfl)<|tS (sF rfl q1h)<|tS (sL 0 rfl q5F rfl rfl)<|mV rfl ?_
 obtain ⟨av, bI, hm⟩ := bS hm
 have bb := Option.some.inj bI
 obtain ⟨aY, O, bc⟩ := OM.lookF z8S (z0 := none) (an.le a) (key := iv ah) (k := ah) rfl q3o z2N rfl
 rw [bb] at O
 obtain rfl : aY = kv ads av := by have O : [aY] = [kv ads av] := O; injection O
 refine tS (q4k (ok := false) rfl rfl (fun w ho => bc _ w ho (.cons _ (ss f (ss g (List.sublist_append_left _ _)))) false))<|aS rfl<|Te<|Cs ?_
 obtain ⟨⟨bJ, bK⟩, bd, be⟩ := bS hm
 refine Cj (fun aw e' hp' => [(0, pb L), (1, iv ah), (5, kv ads bJ), (32, bv bK)] = e' ∧ (L, Cl 57 [sv S D T, sv U E V, sv W F X, sv Y G Z, sv aa H ab, sv ac I ad, sv ae J af, sv A3 A c4, sv A8 K c9, .map (some B)]) :: (f ++ (g ++ (d ++ (i ++ R)))) = hp' ∧ bH.Le aw) ?_ ?_
 have hm := bd
 refine Cg<|mV rfl<|tS (z9m rfl rfl z9w) ?_
 rcases Bool.eq_false_or_eq_true av.isNone with x | x
 rw [if_pos x] at hm
 refine Tr 17 rfl (v' := .bool true) (by rw [x] <;> rfl)<|mV rfl<|nO<|nO<|nO<|nO<|nO<|nO<|tS (pT rfl rfl)<|mV rfl<|nO<|nO<|nO<|nO<|nO<|tS (pT rfl rfl)<|Tn ?_
 obtain ⟨rfl, rfl⟩ := j9 hm
 exact jJ ⟨rfl, rfl, lr⟩
 rw [if_neg (fun hh => Bool.noConfusion (hh.symm.trans x))] at hm
 refine Tr 17 rfl (v' := .bool false) (by rw [x] <;> rfl)<|mV rfl<|yS<|mV rfl<|yS ?_
 obtain ⟨aj, ak, hm⟩ := bS hm
 obtain ⟨cn, bL, hm⟩ := bS hm
 refine Tr 5 rfl (v' := .pointer (some ⟨(ads aj), 0, none⟩)) (by rw [ak]; rfl)<|Tr 15 rfl (v' := .pointer (some ⟨(ads aj), 0, none⟩)) (by rw [ak]; rfl)<|Tr 16 rfl (v' := .pointer (some ⟨(ads aj), 0, none⟩)) (by rw [ak]; rfl)<|Tr 19 rfl (v' := .pointer (some ⟨(ads aj), 0, none⟩)) (by rw [ak]; rfl) ?_
 obtain ⟨ca, cb, q, ai, bf, hf427⟩ := OAr.take (ao.le a) bL
 obtain ⟨co, cp, cq, cr, cs, ct, r, cu, cv, s, rfl, cw, cx, bM, cy, rfl⟩ := bf
 refine v5 f g d i<|q1y [_] i q r s (f ++ (g ++ (d ++ R))) rfl ai<|tS (sN rfl)<|yS<|tS (sF rfl q1T)<|yS<|tS (sL 0 rfl q4C rfl rfl)<|yS ?_
 obtain ⟨bN, bO, hm⟩ := bS hm
 obtain ⟨bP, bg, bh⟩ := iS bO
 obtain ⟨cc, cd, cz, cA, ce, bi, aM, bj, aN, cf, b8⟩ := OS.get (sz := 1) rfl (by decide) bM bh
 obtain ⟨rfl, rfl⟩ := bi
 refine tS (sI bP rfl rfl bg aN bj q8E)<|yS<|tS (z9 rfl q4b (fun w ho => aM w _ ho (.cons _ (.cons _ (List.sublist_append_left _ _))) 0 _ rfl)) ?_
 rcases Bool.eq_false_or_eq_true bN with y | y
 rw [if_pos y] at hm
 refine Tr 24 rfl (v' := .bool true) (by rw [y] <;> rfl)<|tS (pF rfl rfl)<|mV rfl<|nO<|nO<|nO<|nO<|nO<|tS (pT rfl rfl)<|Tn<|Z7 r s q<|Z7 q r s<|Z7 s q r<|q1X [_] i q r s (f ++ (g ++ (d ++ R))) rfl ai ?_
 obtain ⟨rfl, rfl⟩ := j9 hm
 exact jJ ⟨rfl, rfl, lr⟩
 rw [if_neg (fun hh => Bool.noConfusion (hh.symm.trans y))] at hm
 refine Tr 24 rfl (v' := .bool false) (by rw [y] <;> rfl)<|tS (pF rfl rfl)<|mV rfl<|yS<|mV rfl<|yS<|tS (sN rfl)<|yS<|tS (sF rfl q5f)<|yS<|tS (sL 0 rfl j4 rfl rfl)<|yS<|tS (q5 rfl rfl)<|tS (pF rfl rfl)<|Tn<|Z7 r s q<|Z7 q r s<|Z7 s q r<|q1X [_] i q r s (f ++ (g ++ (d ++ R))) rfl ai ?_
 obtain ⟨rfl, rfl⟩ := j9 hm
 exact jJ ⟨rfl, rfl, lr⟩
 rintro aw _ _ ⟨rfl, rfl, c⟩
 have hm := Q3 be
 refine cB hm rfl (fun hm => ?_) fun hm => ?_
 refine Cr<|aS rfl<|Te<|Ct<|Xr ?_
 obtain ⟨rfl, rfl, rfl, rfl⟩ := q6G hm
 have zz := a.trans c
 have bk := aK.le zz
 have bl := an.le zz
 have bm := ao.le zz
 exact rO ⟨g, d, i, rfl, rfl, bk, rfl, bl, bm⟩ zz
 refine Ck<|Xn ?_
 obtain ⟨⟨aZ, a0⟩, bn, bo⟩ := bS hm
 refine Cj (fun al e' hp' => ∃ t p, [(0, pb L)] = e' ∧ (L, Cl 57 [sv S D T, sv U E V, sv W F X, sv Y G Z, sv aa H ab, sv ac I ad, sv ae J af, sv A3 A c4, sv A8 K c9, .map (some B)]) :: (f ++ (g ++ (t ++ (p ++ R)))) = hp' ∧ aw.Le al ∧ OM rI (OT.fr (RT.key ads)) false false al.w B aZ t ∧ OAr 85 q9 ads al.w a0 p) ?_ ?_
 have hm := bn
 refine Cs ?_
 obtain ⟨a1, bQ, hm⟩ := bS hm
 obtain ⟨e, bR, hm⟩ := bS hm
 refine z0e 5 rfl (v' := .pointer (some ⟨(ads a1), 0, none⟩)) (by rw [bQ]; rfl) ?_
 have zy := a.trans c
 obtain ⟨cg, ch, n, ax, bp, hf567⟩ := OAr.take (ao.le zy) bR
 obtain ⟨ay, az, aA, aB, aC, aD, l, aE, aF, m, rfl, bT, bU, bV, bW, rfl⟩ := bp
 refine H6 f g d i<|q8x [_] i n l m (f ++ (g ++ (d ++ R))) rfl ax ?_
 obtain ⟨cC, bX, hm⟩ := bS hm
 obtain ⟨C, bY, hm⟩ := bS hm
 obtain ⟨bZ, aO, hm⟩ := bS hm
 refine Di Q5 (.refl _)<|E0 0 rfl (sM rfl)<|E0 1 rfl (sN rfl)<|E0 2 rfl (sF rfl Q6)<|Es 3 rfl (sL 1 rfl q1v rfl rfl)<|E0 4 rfl (sM rfl)<|E0 5 rfl (sN rfl)<|E0 6 rfl (sF rfl q5g)<|E0 7 rfl (sF rfl q2F)<|Es 8 rfl (sL 1 rfl q7X rfl rfl)<|E0 9 rfl (sM rfl)<|E0 10 rfl (sN rfl)<|E0 11 rfl (sF rfl q1U)<|E0 12 rfl (sF rfl q5N)<|Es 13 rfl (sL 0 rfl j4 rfl rfl) ?_
 obtain ⟨b0, bq, br⟩ := iS bX
 obtain ⟨ci, bs, aP, aG, aQ⟩ := FZ.get (sz := 2) rfl (by decide) (a7.le zy) br
 obtain ⟨_, _, rfl, rfl, rfl⟩ := bs
 refine E0 14 rfl (sI b0 rfl rfl bq aQ aG z2T)<|E0 15 rfl (sQ rfl aG q3z)<|Es 16 rfl (sO rfl j4 (aP 0 _ rfl)) ?_
 obtain ⟨b1, bt, bu⟩ := iS bY
 obtain ⟨cj, ck, cD, cE, cl, bw, aR, aH, aT, cm, b9⟩ := OS.get (sz := 5) rfl (by decide) (h5.le zy) bu
 obtain ⟨⟨_, _, rfl, rfl, ⟨_, _, rfl, rfl, ⟨_, _, rfl, rfl, ⟨_, _, rfl, rfl, rfl⟩⟩⟩⟩, rfl⟩ := bw
 refine E0 17 rfl (sI b1 rfl rfl bt aT aH q4e)<|Es 18 rfl (j8 (vs := [iv C.axles, bv C.disturbed, iv C.position, iv C.moving, bv C.failed]) 5 rfl q6S aH rfl (fun w ho j u hu => aR w _ ho (.cons _ (.cons _ (ss l (ss m (ss n (List.sublist_append_left _ _)))))) j u hu))<|Eo<|Da [19] (by kernel_rfl) rfl<|Rd2 lr rfl rfl (uW _ q6A rfl (fun w ho => Z6 _ [] C bZ aO) (fun _ _ _ h => h.2.symm)) ?_ ?_
 rintro _ _ ⟨⟨_, rfl, _⟩, rfl⟩
 refine iR<|Dd (by kernel_rfl)<|Xn<|cB hm rfl (fun hm => ?_) fun hm => ?_
 refine Cg<|mV rfl<|tS (sN rfl)<|tS (sF rfl q5f)<|tD (uS 0 rfl rfl z0D rfl rfl (by simp)) ?_
 rintro _ _ rfl
 refine Tn<|Z7 l m n<|Z7 n l m<|Z7 m n l ?_
 have b2 := hf567 _ [iv e.Route.From, iv e.Route.To, sv ay e.Route.Steps az, sv aA e.needs aB, sv aC e.seen aD, sv aE e.gone aF, bv e.laps, bv e.sight, iv 90, iv e.clock, iv e.number] (⟨e.Route, e.needs, e.seen, e.gone, e.laps, e.sight, 90, e.clock, e.number⟩ : LockLocked) _ lr ⟨ay, az, aA, aB, aC, aD, l, aE, aF, m, rfl, bT, bU, bV, bW, rfl⟩
 refine q9p [_] n l m (f ++ (g ++ (d ++ R))) rfl ?_
 obtain ⟨rfl, rfl⟩ := j9 hm
 exact jJ ⟨d, (n ++ (((ads a1), Cl 85 [iv e.Route.From, iv e.Route.To, sv ay e.Route.Steps az, sv aA e.needs aB, sv aC e.seen aD, sv aE e.gone aF, bv e.laps, bv e.sight, iv 90, iv e.clock, iv e.number]) :: (l ++ m))), rfl, rfl, lr, (an.le zy), b2⟩
 refine Cg<|mV rfl<|tS (sN rfl)<|tS (sF rfl q1h)<|tS (sL 1 rfl q5F rfl rfl)<|mV rfl<|q9u l m n f g d<|tD (z6R (k := ah) z8S [_, _] (l ++ (m ++ (n ++ (f ++ (g ++ R))))) rfl (an.le (a.trans c)) q3o rfl rfl rfl) ?_
 rintro _ _ ⟨z, rfl, rfl, b3⟩
 refine Tn<|q7N z l m n<|q7N n z l m<|q7N m n z l<|q1X [_] i n l m (z ++ (f ++ (g ++ R))) rfl ax ?_
 obtain ⟨rfl, rfl⟩ := j9 hm
 exact jJ ⟨z, i, rfl, rfl, lr, b3, (ao.le (a.trans c))⟩
 exact Rn
 rintro al _ _ ⟨t, p, rfl, rfl, o, b4, a2⟩
 have hm := Q3 bo
 refine Cr<|mV rfl ?_
 obtain ⟨⟨a3, b5⟩, aU, hm⟩ := bS hm
 have hm := Q3 hm
 have zx := a.trans (c.trans o)
 refine v5 f g t p<|v5 p f g t<|v5 t p f g<|v5 g t p f<|w9 [_] [] f g t p R rfl<|Tg _ rfl z8l rfl (q6e _ _ D E F G H I J A K aZ a0 ads L S T U V W X Y Z aa ab ac ad ae af A3 c4 f A8 c9 g B t p (bz.le zx) (bA.le zx) (bB.le zx) (a7.le zx) (bC.le zx) (bD.le zx) (bE.le zx) (h5.le zx) (aK.le zx) b4 a2 a3 b5 aU) ?_
 rintro _ cG _ am ⟨aI, aJ, rfl, rfl, b6, a4, b7⟩
 refine K9 [_] [] f aI aJ p R rfl<|w5 0 rfl (o' := Cl 57 [sv S D T, sv U E V, sv W F X, sv Y G Z, sv aa H ab, sv ac I ad, sv ae J af, sv A3 A c4, sv A8 a3 c9, .map (some B)]) (by simp only [sv, a4])<|Te<|Cr<|aS rfl<|Te<|Ct ?_
 obtain ⟨rfl, rfl, rfl, rfl⟩ := q6G hm
 have bx := a2.le am
 exact rO ⟨aI, aJ, p, rfl, rfl, b6, (a4.trans rfl), b7, bx⟩ (a.trans (c.trans (o.trans am)))
theorem z3B (b : Base) (R : Hp) (g h) (ads : Int → Nat) (e a c) (i : OM rI (OT.fr (RT.key ads)) false false b.w e g a) (j : OAr 85 q9 ads b.w h c) (hm : q3M g h = some ()):
 CallsG Tryz.prog 75 [.map (some e)] b ((a ++ (c ++ R))) (fun v b' hp' => ∃ d, .func (.func 112) #[] #[pb d] = v ∧ (d, Cl 55 [.map (some e)]) :: (a ++ (c ++ R)) = hp') := by
 refine fE 4 Tryz.func75 rfl Tryz.ntmps75 rfl ?_
 unfold q3M at hm
 refine Cr<|tD (uB _ rfl rfl) ?_
 rintro _ _ ⟨f, rfl, rfl⟩
 refine aS rfl<|Te<|Cr<|tS (q4A _ _ rfl rfl)<|aS rfl<|Te<|Ct ?_
 clear hm
 exact rO ⟨f, rfl, rfl⟩ lr
theorem q7y (b : Base) (R : Hp) (k f) (ads : Int → Nat) (i j d e) (l : OM rI (OT.fr (RT.key ads)) false false b.w j k d) (m : OAr 85 q9 ads b.w f e) (a) (hm : q0b k f = some a):
 CallsG Tryz.prog 74 [.func (.func 112) #[] #[pb i]] b ((i, Cl 55 [.map (some j)]) :: (d ++ (e ++ R))) (fun v b' hp' => ∃ g h c, sv g a h = v ∧ (i, Cl 55 [.map (some j)]) :: (c ++ (d ++ (e ++ R))) = hp' ∧ OS 3 (OT.fr rI) b'.w (sv g a h) a c) := by
 unfold q0b at hm
 exact z9p hm l
theorem q3B (b : Base) (R : Hp) (C D E F G H I z A S T) (ads : Int → Nat) (J U V W X Y Z aa ab ac ad ae af ag ah A3 c4 d A8 c9 e B a c) (a3 : FZ RT.str b.w U V C) (a4 : FZ rApiSection b.w W X D) (a5 : FZ rApiLink b.w Y Z E) (a6 : FZ rApiSignal b.w aa ab F) (a7 : FZ rApiGate b.w ac ad G) (a8 : FZ j3 b.w ae af H) (a9 : FZ (RT.list z4) b.w ag ah I) (h5 : OS 59 (OT.fr z7) b.w (sv A3 z c4) z d) (ba : OS 127 (OT.fr z8) b.w (sv A8 A c9) A e) (aw : OM rI (OT.fr (RT.key ads)) false false b.w B S a) (aG : OAr 85 q9 ads b.w T c) (t) (hm : G0 C D E F G H I z A S T = some t):
 CallsG Tryz.prog 72 [pb J] b ((J, Cl 57 [sv U C V, sv W D X, sv Y E Z, sv aa F ab, sv ac G ad, sv ae H af, sv ag I ah, sv A3 z c4, sv A8 A c9, .map (some B)]) :: (d ++ (e ++ (a ++ (c ++ R))))) (fun v b' hp' => ∃ am an K, sv am t an = v ∧ (J, Cl 57 [sv U C V, sv W D X, sv Y E Z, sv aa F ab, sv ac G ad, sv ae H af, sv ag I ah, sv A3 z c4, sv A8 A c9, .map (some B)]) :: (K ++ (d ++ (e ++ (a ++ (c ++ R))))) = hp' ∧ OS 82 (OT.fr (RT.key ads)) b'.w (sv am t an) t K) := by
 refine fE 28 Tryz.func72 rfl Tryz.ntmps72 rfl ?_
 unfold G0 at hm
 refine Cr<|aS rfl<|Te<|Cr<|aS rfl<|Te<|Cs<|Cr<|mV rfl<|tS (sN rfl)<|tS (sF rfl q1h)<|tS (sL 0 rfl q5F rfl rfl) ?_
 obtain ⟨_, ai, hm⟩ := bS hm
 refine v5 d e a c<|v5 c d e a<|z5a [] [_] a c (d ++ (e ++ R)) rfl<|Tg _ rfl j0K rfl (z3B _ _ S T ads B a c aw aG ai) ?_
 rintro _ aZ _ j ⟨aH, rfl, rfl⟩
 refine z5V [_] [_] a c (d ++ (e ++ R)) rfl ?_
 obtain ⟨u, aj, hm⟩ := bS hm
 refine z0B a c<|z0B c a<|z5a [_] [_] a c (d ++ (e ++ R)) rfl<|Tg _ rfl j0L rfl (q7y _ _ S T ads aH B a c (aw.le j) (aG.le j) u aj) ?_
 rintro _ aI _ x ⟨aJ, aK, f, rfl, rfl, ao⟩
 refine z1O [_] [_] f a c (d ++ (e ++ R)) rfl<|tS (sE rfl z4a)<|mV rfl<|Te<|Cb ?_
 have aT : u.length ≤ 9223372036854775807 := (OS.len ao)
 refine Cp 1 rfl<|q5T f a c<|q5T c f a<|q0v a c f d e<|q0v e a c f d<|q0v d e a c f ?_
 obtain ⟨o, ax, ay⟩ := bS hm
 refine lS (fun aq => fun o => fun y e' hp' => ∃ q s g, [(0, pb J), (3, sv q o s), (11, sv aJ u aK), (12, iv ((u.length : Int))), (13, iv ((aq : Int)))] = e' ∧ (J, Cl 57 [sv U C V, sv W D X, sv Y E Z, sv aa F ab, sv ac G ad, sv ae H af, sv ag I ah, sv A3 z c4, sv A8 A c9, .map (some B)]) :: (g ++ (f ++ (d ++ (e ++ (a ++ (c ++ R)))))) = hp' ∧ aI.Le y ∧ OS 82 (OT.fr (RT.key ads)) y.w (sv q o s) o g) ax ⟨none, 0, [], rfl, rfl, lr, OS.nil⟩ ?_ ?_
 rintro aq o y _ _ aU aL ⟨q, s, g, rfl, rfl, h, L⟩ m
 unfold q0H at m
 have hm := m
 refine Cr<|tS (lT rfl rfl (by omega))<|Te<|Cs<|j1 rfl<|Ck<|Xn<|Cs<|Cb<|Cr ?_
 obtain ⟨ar, aM, hm⟩ := bS hm
 obtain ⟨aN, az, aA⟩ := iS aM
 obtain ⟨aV, aW, a0, a1, aX, aB, ak, aC, al, aY, aR⟩ := OS.get (sz := 1) rfl (by decide) (ao.le h) aA
 obtain ⟨rfl, rfl⟩ := aB
 refine tS (sI aN rfl rfl az al aC z4a)<|tS (z9 rfl j4 (fun w ho => ak w _ ho (.cons _ (ss g (List.sublist_append_left _ _))) 0 _ rfl))<|aS rfl<|Te<|Cg<|mV rfl<|mV rfl<|tS (sN rfl)<|tS (sF rfl q1h)<|tS (sL 0 rfl q5F rfl rfl)<|mV rfl ?_
 obtain ⟨n, aO, hm⟩ := bS hm
 have aD := Option.some.inj aO
 obtain ⟨au, p, aE⟩ := OM.lookF z8S (z0 := none) (aw.le (j.trans (x.trans h))) (key := iv ar) (k := ar) rfl q3o z2N rfl
 rw [aD] at p
 obtain rfl : au = kv ads n := by have p : [au] = [kv ads n] := p; injection p
 refine tS (q4k (ok := false) rfl rfl (fun w ho => aE _ w ho (.cons _ (ss g (ss f (ss d (ss e (List.sublist_append_left _ _)))))) false))<|tD (Z3 (el := 82) [(0, kv ads n)] [kv ads n] rfl (fun _ => by cases n <;> kernel_rfl)) ?_
 rintro _ _ ⟨a2, rfl, rfl⟩
 obtain ⟨_, O, hm⟩ := bS hm
 have O := Q9 O
 refine tD (uQ (r := (RT.key ads)) (l := o) [_, _] (f ++ (d ++ (e ++ (a ++ (c ++ R))))) [[kv ads n]] [n] rfl (Nat.succ_pos _) z1X j5l rfl rfl rfl rfl L rfl (fun w ho => Rd.own (i := 0) ho rfl) ⟨rfl, trivial⟩ O) ?_
 rintro _ _ ⟨aF, rfl, av⟩
 obtain ⟨aP, aQ, rfl, _⟩ := av.form
 refine aS rfl<|Tn<|Xm<|Xn<|Cg<|tS (sa rfl rfl (by omega))<|mV rfl<|Tn ?_
 obtain rfl := o1 hm
 exact jS ⟨aP, aQ, aF, rfl, rfl, (h), av⟩
 rintro y _ _ ⟨q, s, g, rfl, rfl, h, L⟩
 have hm := ay
 refine Cr<|tS (lF rfl rfl (by omega))<|Te<|Cs<|j0 rfl<|Ce<|Xe<|Xe<|Xo<|Xn<|Cr<|mV rfl<|aS rfl<|Te<|Ct ?_
 obtain rfl := o1 hm
 exact rO ⟨q, s, g, rfl, rfl, L⟩ (j.trans (x.trans h))
theorem z0g (b : Base) (R : Hp) (cC : (Option Int)) (a4 a5 a6 a7 a8 a9 ba cD aH aI cE) (ads : Int → Nat) (aJ bc bd be bf bg bh bi bj bk bl bm bn bo bp an A6 c7 e bq br c bb d) (ef : FZ RT.str b.w bc bd a4) (eg : FZ rApiSection b.w be bf a5) (eh : FZ rApiLink b.w bg bh a6) (ei : FZ rApiSignal b.w bi bj a7) (ej : FZ rApiGate b.w bk bl a8) (ek : FZ j3 b.w bm bn a9) (el : FZ (RT.list z4) b.w bo bp ba) (h3 : OAr 85 q9 ads b.w cD an) (h8 : OS 59 (OT.fr z7) b.w (sv A6 aH c7) aH e) (em : OS 127 (OT.fr z8) b.w (sv bq aI br) aI c) (cG : OM rI (OT.fr (RT.key ads)) false false b.w bb cE d) (bs bt) (hm : q0U cC a4 a5 a6 a7 a8 a9 ba cD aH aI cE = some (bs, bt)):
 CallsG Tryz.prog 73 [pb aJ, kv ads cC] b ((aJ, Cl 57 [sv bc a4 bd, sv be a5 bf, sv bg a6 bh, sv bi a7 bj, sv bk a8 bl, sv bm a9 bn, sv bo ba bp, sv A6 aH c7, sv bq aI br, .map (some bb)]) :: (an ++ (e ++ (c ++ (d ++ R))))) (fun v b' hp' => ∃ aR aT, .tuple #[] = v ∧ (aJ, Cl 57 [sv bc a4 bd, sv be a5 bf, sv bg a6 bh, sv bi a7 bj, sv bk a8 bl, sv bm a9 bn, sv bo ba bp, sv A6 aH c7, sv bq aI br, .map (some bb)]) :: (aR ++ (e ++ (c ++ (aT ++ R)))) = hp' ∧ OAr 85 q9 ads b'.w bs aR ∧ OM rI (OT.fr (RT.key ads)) false false b'.w bb bt aT) := by
 refine fE 82 Tryz.func73 rfl Tryz.ntmps73 rfl ?_
 unfold q0U at hm
 refine Cs<|Cr<|mV rfl ?_
 obtain ⟨ag, bu, hm⟩ := bS hm
 obtain ⟨ah, cc, hm⟩ := bS hm
 refine Tr 1 rfl (v' := .pointer (some ⟨(ads ag), 0, none⟩)) (by rw [bu]; rfl)<|Tr 6 rfl (v' := .pointer (some ⟨(ads ag), 0, none⟩)) (by rw [bu]; rfl) ?_
 obtain ⟨cP, cQ, U, aU, bM, hf1217⟩ := OAr.take h3 cc
 obtain ⟨bw, bx, dh, di, dj, dk, V, dl, dm, W, rfl, bz, dn, dp, dq, rfl⟩ := bM
 refine q1y [_] an U V W (e ++ (c ++ (d ++ R))) rfl aU<|tS (sN rfl)<|tS (sF rfl q1U)<|tS (sF rfl q0j)<|tS (sL 0 rfl q3J rfl rfl)<|tS (sE rfl q6w)<|mV rfl<|Te<|Cb<|q5T V W U<|q5T U V W<|q5T W U V<|z3z [_] an U V W (e ++ (c ++ (d ++ R))) rfl aU ?_
 have cR : ah.Route.Steps.length ≤ 9223372036854775807 := (FZ.bd bz)
 refine H6 an e c d<|H6 d an e c<|H6 c d an e<|H6 e c d an ?_
 obtain ⟨dr, bN, ae⟩ := bS hm
 refine lF (fun z => fun aK => fun ai e' hp' => ∃ l, [(0, pb aJ), (1, kv ads (some ag)), (10, sv bw ah.Route.Steps bx), (11, iv ((ah.Route.Steps.length : Int))), (12, iv ((z : Int)))] = e' ∧ (aJ, Cl 57 [sv bc a4 bd, sv be a5 bf, sv bg a6 bh, sv bi a7 bj, sv bk a8 bl, sv bm a9 bn, sv bo ba bp, sv A6 aH c7, sv bq aI br, .map (some bb)]) :: (l ++ (e ++ (c ++ (d ++ R)))) = hp' ∧ b.Le ai ∧ OAr 85 q9 ads ai.w aK l) bN ⟨an, rfl, rfl, lr, h3⟩ ?_ ?_
 rintro z aK ai _ _ cT cA ⟨l, rfl, rfl, n, I⟩ ad aL
 unfold Y9 at ad
 have hm := ad
 refine Cr<|tS (lT rfl rfl (by omega))<|Te<|Cs<|j1 rfl<|Ck<|Xn<|Cs<|Cb<|Cr<|mV rfl ?_
 obtain ⟨aM, cd, cU, bO, cV, bP, bA, aV, bB, hm⟩ := bF (sz := 3) hm (bz.le n)
 obtain ⟨_, _, rfl, rfl, ⟨_, _, rfl, rfl, rfl⟩⟩ := bP
 refine tS (sI cd rfl rfl bO bB aV q6w)<|tS (sP (vs := [iv aM.Section, iv aM.In, iv aM.Out]) 3 rfl q3r aV rfl (fun j u hu => bA j u hu))<|tD (uA [iv 0, iv 0, iv 0] q3G rfl) ?_
 rintro _ _ ⟨ds, rfl, rfl⟩
 refine aS rfl<|tD (uN (vs := [_, _, _]) 0 3 rfl rfl rfl q5t rfl (mc rfl (mc rfl (mc rfl mn))) rfl (by simp)) ?_
 rintro _ _ rfl
 refine Te<|Cs<|Cb<|Cr<|mV rfl ?_
 obtain ⟨dt, ce, hm⟩ := bS hm
 obtain ⟨cW, cX, p, ao, bQ, hf1986⟩ := OAr.take I ce
 obtain ⟨du, dv, dw, dx, dy, dz, o, dA, dB, q, rfl, dC, dD, dE, cf, rfl⟩ := bQ
 refine q1y [_, _] l p o q (e ++ (c ++ (d ++ R))) rfl ao<|tS (sN rfl)<|tS (sF rfl q8i)<|tS (sL 0 rfl q4C rfl rfl)<|mV rfl ?_
 obtain ⟨dF, cg, hm⟩ := bS hm
 obtain ⟨ch, bR, bT⟩ := iS cg
 obtain ⟨cY, cZ, dH, dI, c0, bU, bC, bV, bD, c1, cH⟩ := OS.get (sz := 1) rfl (by decide) cf bT
 obtain ⟨rfl, rfl⟩ := bU
 refine tS (sI ch rfl rfl bR bD bV q8E)<|tS (z9 rfl q4b (fun w ho => bC w _ ho (.cons _ (.cons _ (.cons _ (ss o (List.sublist_append_left _ _))))) 0 _ rfl))<|aS rfl<|Te<|cB hm rfl (fun hm => ?_) fun hm => ?_
 refine Ce<|Xi rfl<|Xe<|Xo<|Xn<|Cg<|tS (sa rfl rfl (by omega))<|mV rfl<|Tn<|V8 o q p<|V8 p o q<|V8 q p o<|q1X [_, _] l p o q (e ++ (c ++ (d ++ R))) rfl ao ?_
 exact jM hm ⟨l, rfl, rfl, (n), I⟩
 refine z2y o q p<|z2y p o q<|z2y q p o<|z3z [_, _] l p o q (e ++ (c ++ (d ++ R))) rfl ao ?_
 obtain ⟨ci, bW, bX⟩ := bS hm
 refine Cj (fun bE e' hp' => [(0, pb aJ), (1, kv ads (some ag)), (4, iv ((z : Int))), (10, sv bw ah.Route.Steps bx), (11, iv ((ah.Route.Steps.length : Int))), (12, iv ((z : Int))), (25, bv ci)] = e' ∧ (aJ, Cl 57 [sv bc a4 bd, sv be a5 bf, sv bg a6 bh, sv bi a7 bj, sv bk a8 bl, sv bm a9 bn, sv bo ba bp, sv A6 aH c7, sv bq aI br, .map (some bb)]) :: (l ++ (e ++ (c ++ (d ++ R)))) = hp' ∧ ai.Le bE) ?_ ?_
 have hm := bW
 obtain ⟨cj, ck, hm⟩ := bS hm
 obtain ⟨c2, c3, f, X, bY, hf2161⟩ := OAr.take I ck
 obtain ⟨dJ, dK, dL, dM, dN, dO, g, dP, dQ, i, rfl, dR, dS, aj, dT, rfl⟩ := bY
 refine q8x [_, _] l f g i (e ++ (c ++ (d ++ R))) rfl X ?_
 obtain ⟨cl, aq, hm⟩ := bS hm
 rcases Bool.eq_false_or_eq_true cl with A | A
 rw [if_pos A] at hm
 obtain ⟨m, aN, hm⟩ := bS hm
 obtain ⟨ar, ak, hm⟩ := bS hm
 rcases Bool.eq_false_or_eq_true ar with O | O
 rw [if_pos O] at hm
 refine Di Q5 (.refl _)<|E0 0 rfl (sM rfl)<|E0 1 rfl (sN rfl)<|E0 2 rfl (sF rfl q1T)<|Es 3 rfl (sL 0 rfl q4C rfl rfl)<|E0 4 rfl (sM rfl) ?_
 obtain ⟨T, B, C⟩ := iS aq
 obtain ⟨au, av, aO, aP, aw, D, s, E, t, ax, al⟩ := OS.get (sz := 1) rfl (by decide) aj C
 obtain ⟨rfl, rfl⟩ := D
 refine E0 5 rfl (sI T rfl rfl B t E q8E)<|Es 6 rfl (stB (z9 rfl q4b (fun w ho => s w _ ho (.cons _ (.cons _ (.cons _ (List.sublist_append_left _ _)))) 0 _ rfl)) A)<|E0 7 rfl (Z4 rfl)<|E0 8 rfl (sM rfl)<|Yz 9 34 rfl (sM rfl)<|Yz 10 34 rfl (sN rfl)<|Yz 11 34 rfl (sF rfl Q6)<|Ey 12 34 rfl (sL 2 rfl q1v rfl rfl)<|Yz 13 34 rfl (sF rfl Q2)<|Ey 14 34 rfl (sL 1 rfl j4 rfl rfl) ?_
 obtain ⟨am, Y, Z⟩ := iS aN
 obtain ⟨aW, aX, bG, bH, aY, aa, J, x, K, aZ, aG⟩ := OS.get (sz := 5) rfl (by decide) (h8.le n) Z
 obtain ⟨⟨_, _, rfl, rfl, ⟨_, _, rfl, rfl, ⟨_, _, rfl, rfl, ⟨_, _, rfl, rfl, rfl⟩⟩⟩⟩, rfl⟩ := aa
 refine Yz 15 34 rfl (sI am rfl rfl Y K x q4e)<|Ey 16 34 rfl (j8 (vs := [iv m.axles, bv m.disturbed, iv m.position, iv m.moving, bv m.failed]) 5 rfl q6S x rfl (fun w ho j u hu => J w _ ho (.cons _ (.cons _ (.cons _ (ss g (ss i (ss f (List.sublist_append_left _ _))))))) j u hu))<|Eo<|Da [17] (by kernel_rfl) rfl<|q3m lr rfl rfl 34 rfl rfl rfl (uW _ q6A rfl (fun w ho => Z6 _ [] m ar ak) (fun _ _ _ h => h.2.symm)) ?_ ?_
 rintro _ _ ⟨⟨_, rfl, _⟩, rfl⟩
 refine iR<|q3p 43 rfl (v' := .bool true) (by rw [O])<|Ei lr (.refl _)<|E0 18 rfl (pF rfl rfl)<|E0 19 rfl (sM rfl)<|eN 20 rfl<|eN 21 rfl<|eN 22 rfl<|eN 23 rfl<|eN 24 rfl<|eN 25 rfl<|eN 26 rfl<|eN 27 rfl<|eN 28 rfl<|eN 29 rfl<|eN 30 rfl<|eN 31 rfl<|eN 32 rfl<|eN 33 rfl<|eN 34 rfl<|eN 35 rfl<|eN 36 rfl<|eN 37 rfl<|eN 38 rfl<|eN 39 rfl<|E0 40 rfl (pT rfl rfl)<|E0 41 rfl (sA rfl)<|Eo<|Dd (by kernel_rfl)<|V8 g i f ?_
 refine V8 f g i<|V8 i f g<|q1X [_, _] l f g i (e ++ (c ++ (d ++ R))) rfl X ?_
 obtain rfl := o1 hm
 exact jJ ⟨rfl, rfl, lr⟩
 exact Rn
 rw [if_neg (fun hh => Bool.noConfusion (hh.symm.trans O))] at hm
 obtain ⟨_, ac, hm⟩ := bS hm
 by_cases af : ((z : Int) + 1) < (cj.Route.Steps.length : Int)
 rw [if_pos af] at hm
 obtain ⟨_, aQ, hm⟩ := bS hm
 obtain ⟨dU, cm, hm⟩ := bS hm
 refine Di Q5 (.refl _)<|E0 0 rfl (sM rfl)<|E0 1 rfl (sN rfl)<|E0 2 rfl (sF rfl q1T)<|Es 3 rfl (sL 0 rfl q4C rfl rfl)<|E0 4 rfl (sM rfl) ?_
 obtain ⟨T, B, C⟩ := iS aq
 obtain ⟨au, av, aO, aP, aw, D, s, E, t, ax, al⟩ := OS.get (sz := 1) rfl (by decide) aj C
 obtain ⟨rfl, rfl⟩ := D
 refine E0 5 rfl (sI T rfl rfl B t E q8E)<|Es 6 rfl (stB (z9 rfl q4b (fun w ho => s w _ ho (.cons _ (.cons _ (.cons _ (List.sublist_append_left _ _)))) 0 _ rfl)) A)<|E0 7 rfl (Z4 rfl)<|E0 8 rfl (sM rfl)<|Yz 9 34 rfl (sM rfl)<|Yz 10 34 rfl (sN rfl)<|Yz 11 34 rfl (sF rfl Q6)<|Ey 12 34 rfl (sL 2 rfl q1v rfl rfl)<|Yz 13 34 rfl (sF rfl Q2)<|Ey 14 34 rfl (sL 1 rfl j4 rfl rfl) ?_
 obtain ⟨am, Y, Z⟩ := iS aN
 obtain ⟨aW, aX, bG, bH, aY, aa, J, x, K, aZ, aG⟩ := OS.get (sz := 5) rfl (by decide) (h8.le n) Z
 obtain ⟨⟨_, _, rfl, rfl, ⟨_, _, rfl, rfl, ⟨_, _, rfl, rfl, ⟨_, _, rfl, rfl, rfl⟩⟩⟩⟩, rfl⟩ := aa
 refine Yz 15 34 rfl (sI am rfl rfl Y K x q4e)<|Ey 16 34 rfl (j8 (vs := [iv m.axles, bv m.disturbed, iv m.position, iv m.moving, bv m.failed]) 5 rfl q6S x rfl (fun w ho j u hu => J w _ ho (.cons _ (.cons _ (.cons _ (ss g (ss i (ss f (List.sublist_append_left _ _))))))) j u hu))<|Eo<|Da [17] (by kernel_rfl) rfl<|q3m lr rfl rfl 34 rfl rfl rfl (uW _ q6A rfl (fun w ho => Z6 _ [] m ar ak) (fun _ _ _ h => h.2.symm)) ?_ ?_
 rintro _ _ ⟨⟨_, rfl, _⟩, rfl⟩
 refine iR<|q3p 43 rfl (v' := .bool false) (by rw [O])<|Ei lr (.refl _)<|E0 18 rfl (pF rfl rfl)<|E0 19 rfl (sM rfl)<|Yz 20 45 rfl (sM rfl) ?_
 have ac := (kS ac).2
 refine Yz 21 45 rfl (sa rfl rfl ac)<|Yz 22 45 rfl (sM rfl)<|Yz 23 45 rfl (sN rfl)<|Yz 24 45 rfl (sF rfl q1U)<|Yz 25 45 rfl (sF rfl q0j)<|Ey 26 45 rfl (sL 0 rfl q3J rfl rfl)<|Yz 27 45 rfl (sE rfl q6w)<|Yz 28 45 rfl (lT rfl rfl af)<|Yz 29 45 rfl (sM rfl)<|Yz 30 55 rfl (sM rfl)<|Yz 31 55 rfl (sN rfl)<|Yz 32 55 rfl (sF rfl q1T)<|Ey 33 55 rfl (sL 0 rfl q4C rfl rfl)<|Yz 34 55 rfl (sM rfl) ?_
 have aQ := (kS aQ).2
 refine Yz 35 55 rfl (sa rfl rfl aQ) ?_
 obtain ⟨cn, bZ, b0⟩ := iS cm
 obtain ⟨c4, c5, dV, dW, c6, b1, bI, b2, bJ, c8, cJ⟩ := OS.get (sz := 1) rfl (by decide) aj b0
 obtain ⟨rfl, rfl⟩ := b1
 refine Yz 36 55 rfl (sI cn rfl rfl bZ bJ b2 q8E)<|Ey 37 55 rfl (z9 rfl q4b (fun w ho => bI w _ ho (.cons _ (.cons _ (.cons _ (List.sublist_append_left _ _)))) 0 _ rfl))<|Yz 38 55 rfl (sn2 rfl)<|Yz 39 45 rfl (pT rfl rfl)<|E0 40 rfl (pF rfl rfl)<|E0 41 rfl (sA rfl)<|Eo<|Dd (by kernel_rfl)<|V8 g i f<|V8 f g i<|V8 i f g<|q1X [_, _] l f g i (e ++ (c ++ (d ++ R))) rfl X ?_
 obtain rfl := o1 hm
 exact jJ ⟨rfl, rfl, lr⟩
 exact Rn
 rw [if_neg af] at hm
 refine Di Q5 (.refl _)<|E0 0 rfl (sM rfl)<|E0 1 rfl (sN rfl)<|E0 2 rfl (sF rfl q1T)<|Es 3 rfl (sL 0 rfl q4C rfl rfl)<|E0 4 rfl (sM rfl) ?_
 obtain ⟨T, B, C⟩ := iS aq
 obtain ⟨au, av, aO, aP, aw, D, s, E, t, ax, al⟩ := OS.get (sz := 1) rfl (by decide) aj C
 obtain ⟨rfl, rfl⟩ := D
 refine E0 5 rfl (sI T rfl rfl B t E q8E)<|Es 6 rfl (stB (z9 rfl q4b (fun w ho => s w _ ho (.cons _ (.cons _ (.cons _ (List.sublist_append_left _ _)))) 0 _ rfl)) A)<|E0 7 rfl (Z4 rfl)<|E0 8 rfl (sM rfl)<|Yz 9 34 rfl (sM rfl)<|Yz 10 34 rfl (sN rfl)<|Yz 11 34 rfl (sF rfl Q6)<|Ey 12 34 rfl (sL 2 rfl q1v rfl rfl)<|Yz 13 34 rfl (sF rfl Q2)<|Ey 14 34 rfl (sL 1 rfl j4 rfl rfl) ?_
 obtain ⟨am, Y, Z⟩ := iS aN
 obtain ⟨aW, aX, bG, bH, aY, aa, J, x, K, aZ, aG⟩ := OS.get (sz := 5) rfl (by decide) (h8.le n) Z
 obtain ⟨⟨_, _, rfl, rfl, ⟨_, _, rfl, rfl, ⟨_, _, rfl, rfl, ⟨_, _, rfl, rfl, rfl⟩⟩⟩⟩, rfl⟩ := aa
 refine Yz 15 34 rfl (sI am rfl rfl Y K x q4e)<|Ey 16 34 rfl (j8 (vs := [iv m.axles, bv m.disturbed, iv m.position, iv m.moving, bv m.failed]) 5 rfl q6S x rfl (fun w ho j u hu => J w _ ho (.cons _ (.cons _ (.cons _ (ss g (ss i (ss f (List.sublist_append_left _ _))))))) j u hu))<|Eo<|Da [17] (by kernel_rfl) rfl<|q3m lr rfl rfl 34 rfl rfl rfl (uW _ q6A rfl (fun w ho => Z6 _ [] m ar ak) (fun _ _ _ h => h.2.symm)) ?_ ?_
 rintro _ _ ⟨⟨_, rfl, _⟩, rfl⟩
 refine iR<|q3p 43 rfl (v' := .bool false) (by rw [O])<|Ei lr (.refl _)<|E0 18 rfl (pF rfl rfl)<|E0 19 rfl (sM rfl)<|Yz 20 45 rfl (sM rfl) ?_
 have ac := (kS ac).2
 refine Yz 21 45 rfl (sa rfl rfl ac)<|Yz 22 45 rfl (sM rfl)<|Yz 23 45 rfl (sN rfl)<|Yz 24 45 rfl (sF rfl q1U)<|Yz 25 45 rfl (sF rfl q0j)<|Ey 26 45 rfl (sL 0 rfl q3J rfl rfl)<|Yz 27 45 rfl (sE rfl q6w)<|Yz 28 45 rfl (lF rfl rfl af)<|Yz 29 45 rfl (sM rfl)<|eN 30 rfl<|eN 31 rfl<|eN 32 rfl<|eN 33 rfl<|eN 34 rfl<|eN 35 rfl<|eN 36 rfl<|eN 37 rfl<|eN 38 rfl<|Yz 39 45 rfl (pF rfl rfl)<|E0 40 rfl (pF rfl rfl) ?_
 refine E0 41 rfl (sA rfl)<|Eo<|Dd (by kernel_rfl)<|V8 g i f<|V8 f g i<|V8 i f g<|q1X [_, _] l f g i (e ++ (c ++ (d ++ R))) rfl X ?_
 obtain rfl := o1 hm
 exact jJ ⟨rfl, rfl, lr⟩
 exact Rn
 rw [if_neg (fun hh => Bool.noConfusion (hh.symm.trans A))] at hm
 refine Di Q5 (.refl _)<|E0 0 rfl (sM rfl)<|E0 1 rfl (sN rfl)<|E0 2 rfl (sF rfl q1T)<|Es 3 rfl (sL 0 rfl q4C rfl rfl)<|E0 4 rfl (sM rfl) ?_
 obtain ⟨T, B, C⟩ := iS aq
 obtain ⟨au, av, aO, aP, aw, D, s, E, t, ax, al⟩ := OS.get (sz := 1) rfl (by decide) aj C
 obtain ⟨rfl, rfl⟩ := D
 refine E0 5 rfl (sI T rfl rfl B t E q8E)<|Es 6 rfl (stB (z9 rfl q4b (fun w ho => s w _ ho (.cons _ (.cons _ (.cons _ (List.sublist_append_left _ _)))) 0 _ rfl)) A)<|E0 7 rfl (V2 rfl)<|E0 8 rfl (sM rfl)<|eN 9 rfl<|eN 10 rfl<|eN 11 rfl<|eN 12 rfl<|eN 13 rfl<|eN 14 rfl<|eN 15 rfl<|eN 16 rfl<|eN 17 rfl<|E0 18 rfl (pT rfl rfl)<|E0 19 rfl (sM rfl)<|eN 20 rfl<|eN 21 rfl<|eN 22 rfl<|eN 23 rfl<|eN 24 rfl ?_
 refine eN 25 rfl<|eN 26 rfl<|eN 27 rfl<|eN 28 rfl<|eN 29 rfl<|eN 30 rfl<|eN 31 rfl<|eN 32 rfl<|eN 33 rfl<|eN 34 rfl<|eN 35 rfl<|eN 36 rfl<|eN 37 rfl<|eN 38 rfl<|eN 39 rfl<|E0 40 rfl (pT rfl rfl)<|E0 41 rfl (sA rfl)<|Eo<|Dd (by kernel_rfl)<|V8 g i f<|V8 f g i<|V8 i f g<|q1X [_, _] l f g i (e ++ (c ++ (d ++ R))) rfl X ?_
 obtain rfl := o1 hm
 exact jJ ⟨rfl, rfl, lr⟩
 rintro bE _ _ ⟨rfl, rfl, L⟩
 have hm := bX
 refine cB hm rfl (fun hm => ?_) fun hm => ?_
 refine Ct<|Xb<|Xr<|Xb<|Xr<|Xr<|Xb<|Xr ?_
 have b3 := aL _ (Option.some.inj hm).symm
 rw [b3] at ae
 have hm := k8 ae
 obtain ⟨rfl, rfl⟩ := j9 hm
 have b4 := I.le L
 have b5 := (cG.le (n.trans L))
 exact rZ ⟨l, d, rfl, rfl, b4, b5⟩ (n.trans L)
 refine Ck<|Xm<|Xn<|Cg<|mV rfl ?_
 obtain ⟨a, co, hm⟩ := bS hm
 obtain ⟨c9, da, y, b6, b7, hf2297⟩ := OAr.take (I.le L) co
 obtain ⟨ay, az, aA, aB, aC, aD, r, aE, aF, a0, rfl, cp, cq, cr, bK, rfl⟩ := b7
 refine q1y [_] l y r a0 (e ++ (c ++ (d ++ R))) rfl b6<|tS (sN rfl)<|tS (sF rfl q8i)<|tS (sL 0 rfl q4C rfl rfl)<|mV rfl ?_
 obtain ⟨dX, ct, hm⟩ := bS hm
 obtain ⟨cu, a1, a2⟩ := iS ct
 obtain ⟨db, dc, dY, dZ, dd, b8, cK, b9, bL, de, cO⟩ := OS.get (sz := 1) rfl (by decide) bK a2
 obtain ⟨rfl, rfl⟩ := b8
 refine tS (sI cu rfl rfl a1 bL b9 q8E)<|z0B r a0<|tD (uP a1 (sz := 1) (a' := true) rfl [_, _] (r ++ (y ++ (e ++ (c ++ (d ++ R))))) 0 1 [bv true] rfl bK a2 rfl rfl rfl z1o rfl (mc rfl mn) (fun cs hsj hh => by obtain ⟨rfl, rfl⟩ := hh; exact ⟨by first | decide | exact Nat.le_refl _, rfl, rfl⟩)) ?_
 rintro _ _ ⟨S, rfl, cv⟩
 refine w5 0 rfl (o' := Cl 85 [iv a.Route.From, iv a.Route.To, sv ay a.Route.Steps az, sv aA a.needs aB, sv aC a.seen aD, .slice aE (put a.gone (z : Int) true).length aF, bv a.laps, bv a.sight, iv a.leave, iv a.clock, iv a.number]) (by simp only [sv, z6])<|Tn<|Xm<|Xn<|Cg<|tS (sa rfl rfl (by omega))<|mV rfl<|Tn<|Z7 S r y<|j2z y S<|Z7 S y r ?_
 have cw := hf2297 _ [iv a.Route.From, iv a.Route.To, sv ay a.Route.Steps az, sv aA a.needs aB, sv aC a.seen aD, .slice aE (put a.gone (z : Int) true).length aF, bv a.laps, bv a.sight, iv a.leave, iv a.clock, iv a.number] (⟨a.Route, a.needs, a.seen, put a.gone (z : Int) true, a.laps, a.sight, a.leave, a.clock, a.number⟩ : LockLocked) _ lr ⟨ay, az, aA, aB, aC, aD, r, aE, aF, S, rfl, cp, cq, cr, cv, rfl⟩
 refine q9p [_] y r S (e ++ (c ++ (d ++ R))) rfl ?_
 exact jM hm ⟨(y ++ (((ads ag), Cl 85 [iv a.Route.From, iv a.Route.To, sv ay a.Route.Steps az, sv aA a.needs aB, sv aC a.seen aD, .slice aE (put a.gone (z : Int) true).length aF, bv a.laps, bv a.sight, iv a.leave, iv a.clock, iv a.number]) :: (r ++ S))), rfl, rfl, ((n.trans L)), cw⟩
 rintro aK ai _ _ ⟨l, rfl, rfl, n, I⟩ ca
 rw [ca] at ae
 have hm := J5 ae
 refine Cr<|tS (lF rfl rfl (by omega))<|Te<|Cs<|j0 rfl<|Ce<|Xe<|Xe<|Xo<|Xn ?_
 obtain ⟨cx, cy, hm⟩ := bS hm
 obtain ⟨df, dg, F, a3, cb, hf2339⟩ := OAr.take I cy
 obtain ⟨d0, d1, d5, d6, d7, d8, G, d9, ea, H, rfl, eb, ec, ed, ee, rfl⟩ := cb
 refine q8x [_] l F G H (e ++ (c ++ (d ++ R))) rfl a3<|Di Q5 (.refl _)<|E0 0 rfl (sM rfl)<|E0 1 rfl (sN rfl)<|E0 2 rfl (sF rfl q1h)<|Es 3 rfl (sL 1 rfl q5F rfl rfl)<|E0 4 rfl (sM rfl)<|E0 5 rfl (sN rfl)<|E0 6 rfl (sF rfl z4y)<|Es 7 rfl (sL 0 rfl j4 rfl rfl)<|Eo<|z0M G H F e c d<|Da [8] (by kernel_rfl) rfl<|Rd2 lr rfl rfl (z6R (k := cx.number) z8S [_, _] (G ++ (H ++ (F ++ (e ++ (c ++ R))))) rfl (cG.le n) q3o rfl rfl rfl) ?_ ?_
 rintro _ _ ⟨ab, rfl, rfl, cz⟩
 refine ⟨.inl (by kernel_rfl), ?_⟩
 refine Dd (by kernel_rfl)<|q7N ab G H F<|q7N F ab G H<|q7N H F ab G<|q1X [_] l F G H (ab ++ (e ++ (c ++ R))) rfl a3 ?_
 obtain ⟨rfl, rfl⟩ := j9 hm
 exact eZ ⟨l, ab, rfl, rfl, I, cz⟩ n
 exact Rn
theorem z0W (b : Base) (R : Hp) (X Y Z aa ab ac ad br aK dU dV) (ads : Int → Nat) (O ag ah ai aj ak al am an ao aq ar au av aw A3 c4 bK A8 c9 aD W A B) (cb : FZ RT.str b.w ag ah X) (cc : FZ rApiSection b.w ai aj Y) (cd : FZ rApiLink b.w ak al Z) (ce : FZ rApiSignal b.w am an aa) (cf : FZ rApiGate b.w ao aq ab) (cg : FZ j3 b.w ar au ac) (ch : FZ (RT.list z4) b.w av aw ad) (h5 : OS 59 (OT.fr z7) b.w (sv A3 br c4) br bK) (eL : OS 127 (OT.fr z8) b.w (sv A8 aK c9) aK aD) (eM : OM rI (OT.fr (RT.key ads)) false false b.w W dU A) (eO : OAr 85 q9 ads b.w dV B) (bc bd ci cj) (hm : q1A X Y Z aa ab ac ad br aK dU dV = some (bc, bd, ci, cj)):
 CallsG Tryz.prog 30 [pb O] b ((O, Cl 57 [sv ag X ah, sv ai Y aj, sv ak Z al, sv am aa an, sv ao ab aq, sv ar ac au, sv av ad aw, sv A3 br c4, sv A8 aK c9, .map (some W)]) :: (bK ++ (aD ++ (A ++ (B ++ R))))) (fun v b' hp' => ∃ bX bY bZ b0, .tuple #[] = v ∧ (O, Cl 57 [sv ag X ah, sv ai Y aj, sv ak Z al, sv am aa an, sv ao ab aq, sv ar ac au, sv av ad aw, sv A3 bc c4, sv A8 bd c9, .map (some W)]) :: (bX ++ (bY ++ (bZ ++ (b0 ++ R)))) = hp' ∧ OS 59 (OT.fr z7) b'.w (sv A3 bc c4) bc bX ∧ bc.length = br.length ∧ OS 127 (OT.fr z8) b'.w (sv A8 bd c9) bd bY ∧ bd.length = aK.length ∧ OM rI (OT.fr (RT.key ads)) false false b'.w W ci bZ ∧ OAr 85 q9 ads b'.w cj b0) := by
 refine fE 185 Tryz.func30 rfl Tryz.ntmps30 rfl ?_
 unfold q1A at hm
 refine Cs<|Cr<|mV rfl<|tS (sN rfl)<|tS (sF rfl Q6)<|tS (sL 0 rfl q1v rfl rfl)<|tS (sE rfl q4e)<|mV rfl<|Te<|Cb ?_
 have eX : br.length ≤ 9223372036854775807 := (OS.len h5)
 refine H6 bK aD A B<|H6 B bK aD A<|H6 A B bK aD<|H6 aD A B bK ?_
 obtain ⟨C, c8, da⟩ := bS hm
 refine lS (fun aL => fun C => fun aM e' hp' => ∃ a, [(0, pb O), (16, iv ((br.length : Int))), (17, iv ((aL : Int)))] = e' ∧ (O, Cl 57 [sv ag X ah, sv ai Y aj, sv ak Z al, sv am aa an, sv ao ab aq, sv ar ac au, sv av ad aw, sv A3 C c4, sv A8 aK c9, .map (some W)]) :: (a ++ (aD ++ (A ++ (B ++ R)))) = hp' ∧ b.Le aM ∧ OS 59 (OT.fr z7) aM.w (sv A3 C c4) C a ∧ C.length = br.length) c8 ⟨bK, rfl, rfl, lr, h5, rfl⟩ ?_ ?_
 rintro aL C aM _ _ eY eG ⟨a, rfl, rfl, f, ae, az⟩ a7
 unfold W8 at a7
 have hm := a7
 refine Cr<|tS (lT rfl rfl (by omega))<|Te<|Cs<|j1 rfl<|Ck<|Xn<|Cs<|Cb<|Cr<|mV rfl<|aS rfl<|Te<|Cr<|mV rfl<|tS (sN rfl)<|tS (sF rfl Q6)<|tS (sL 0 rfl q1v rfl rfl)<|mV rfl ?_
 obtain ⟨F, dW, hm⟩ := bS hm
 obtain ⟨bL, b1, b2⟩ := iS dW
 obtain ⟨e0, e1, fC, fD, e2, db, be, S, ck, e3, eP⟩ := OS.get (sz := 5) rfl (by decide) ae b2
 obtain ⟨⟨_, _, rfl, rfl, ⟨_, _, rfl, rfl, ⟨_, _, rfl, rfl, ⟨_, _, rfl, rfl, rfl⟩⟩⟩⟩, rfl⟩ := db
 refine tS (sI bL rfl rfl b1 ck S q4e)<|aS rfl<|Te<|Cs ?_
 obtain ⟨dX, dc, dd⟩ := bS hm
 refine Cj (fun cl e' hp' => [(0, pb O), (3, .pointer (Option.map (fun (x : Addr) => x.add (bL * 5)) A3)), (16, iv ((br.length : Int))), (17, iv ((aL : Int))), (36, bv dX)] = e' ∧ (O, Cl 57 [sv ag X ah, sv ai Y aj, sv ak Z al, sv am aa an, sv ao ab aq, sv ar ac au, sv av ad aw, sv A3 C c4, sv A8 aK c9, .map (some W)]) :: (a ++ (aD ++ (A ++ (B ++ R)))) = hp' ∧ aM.Le cl) ?_ ?_
 have hm := dc
 refine Cg<|mV rfl<|tS (j6 rfl S)<|tS (sQ rfl S q3k)<|tS (z9 rfl j4 (fun w ho => be w _ ho (.cons _ (List.sublist_append_left _ _)) 3 _ rfl))<|Tb rfl (q1 rfl rfl) (fun bs => ?_) (fun bs => ?_)
 rw [if_pos bs] at hm
 refine mV rfl<|nO<|nO<|nO<|nO<|tS (pT rfl rfl)<|Tn ?_
 obtain rfl := o1 hm
 exact jJ ⟨rfl, rfl, lr⟩
 rw [if_neg bs] at hm
 refine mV rfl<|yS<|mV rfl<|yS<|tS (j6 rfl S)<|yS<|tS (sQ rfl S q5O)<|yS<|tS (z9 rfl q4b (fun w ho => be w _ ho (.cons _ (List.sublist_append_left _ _)) 4 _ rfl))<|tS (pF rfl rfl)<|Tn ?_
 obtain rfl := o1 hm
 exact jJ ⟨rfl, rfl, lr⟩
 rintro cl _ _ ⟨rfl, rfl, ax⟩
 have hm := dd
 refine cB hm rfl (fun hm => ?_) fun hm => ?_
 refine Ce<|Xe<|Xo<|Xn<|Cg<|tS (sa rfl rfl (by omega))<|mV rfl<|Tn ?_
 obtain rfl := o1 hm
 exact jS ⟨a, rfl, rfl, ((f.trans ax)), (ae.le ax), az⟩
 refine Ck<|Xn<|Cr<|mV rfl<|tS (j6 rfl S)<|tS (sQ rfl S q3k)<|tS (z9 rfl j4 (fun w ho => be w _ (ax.back _ _ ho) (.cons _ (List.sublist_append_left _ _)) 3 _ rfl)) ?_
 obtain ⟨_, bM, hm⟩ := bS hm
 have bM := (kS bM).2
 refine tS (sb rfl rfl bM)<|tS (j6 rfl S)<|tS (sQ rfl S q3k)<|tD (uP b1 (sz := 5) (a' := (⟨F.axles, F.disturbed, F.position, F.moving - 1, F.failed⟩ : LockBody)) rfl [_] (aD ++ (A ++ (B ++ R))) 3 1 [iv (F.moving - 1)] rfl (ae.le ax) b2 rfl rfl rfl z0D rfl (mc rfl mn) (fun cs hsj hh => by obtain ⟨⟨_, _, rfl, rfl, ⟨_, _, rfl, rfl, ⟨_, _, rfl, rfl, ⟨_, _, rfl, rfl, rfl⟩⟩⟩⟩, rfl⟩ := hh; exact ⟨by first | decide | exact Nat.le_refl _, ⟨[iv F.axles], _, rfl, rfl, ⟨[bv F.disturbed], _, rfl, rfl, ⟨[iv F.position], _, rfl, rfl, ⟨[iv (F.moving - 1)], _, rfl, rfl, rfl⟩⟩⟩⟩, rfl⟩)) ?_
 rintro _ _ ⟨de, rfl, bN⟩
 refine w5 0 rfl (o' := Cl 57 [sv ag X ah, sv ai Y aj, sv ak Z al, sv am aa an, sv ao ab aq, sv ar ac au, sv av ad aw, .slice A3 (put C (aL : Int) (⟨F.axles, F.disturbed, F.position, F.moving - 1, F.failed⟩ : LockBody)).length c4, sv A8 aK c9, .map (some W)]) (by simp only [sv, z6])<|Te<|Cr ?_
 obtain ⟨J, dY, hm⟩ := bS hm
 obtain ⟨dZ, df, b3⟩ := iS dY
 obtain rfl : bL = dZ := by omega
 obtain ⟨e4, e5, fF, fG, e6, dg, bJ, aC, eQ, e7, eR⟩ := OS.get (sz := 5) rfl (by decide) bN b3
 obtain ⟨⟨_, _, rfl, rfl, ⟨_, _, rfl, rfl, ⟨_, _, rfl, rfl, ⟨_, _, rfl, rfl, rfl⟩⟩⟩⟩, rfl⟩ := dg
 refine mV rfl<|tS (j6 rfl aC)<|tS (sQ rfl aC q3k)<|tS (z9 rfl j4 (fun w ho => bJ w _ ho (.cons _ (List.sublist_append_left _ _)) 3 _ rfl))<|tS (q1 rfl rfl)<|Te<|cI hm rfl (fun hm => ?_) fun hm => ?_
 refine Cg<|mV rfl<|mV rfl<|tS (j6 rfl aC)<|tS (sQ rfl aC q3S)<|tS (z9 rfl j4 (fun w ho => bJ w _ ho (.cons _ (List.sublist_append_left _ _)) 2 _ rfl)) ?_
 obtain ⟨_, bO, hm⟩ := bS hm
 have bO := (kS bO).2
 refine tS (sb rfl rfl bO)<|tS (j6 rfl aC)<|tS (sQ rfl aC q3S)<|tD (uP df (sz := 5) (a' := (⟨J.axles, J.disturbed, 3 - J.position, J.moving, J.failed⟩ : LockBody)) rfl [_] (aD ++ (A ++ (B ++ R))) 2 1 [iv (3 - J.position)] rfl bN b3 rfl rfl rfl z0D rfl (mc rfl mn) (fun cs hsj hh => by obtain ⟨⟨_, _, rfl, rfl, ⟨_, _, rfl, rfl, ⟨_, _, rfl, rfl, ⟨_, _, rfl, rfl, rfl⟩⟩⟩⟩, rfl⟩ := hh; exact ⟨by first | decide | exact Nat.le_refl _, ⟨[iv J.axles], _, rfl, rfl, ⟨[bv J.disturbed], _, rfl, rfl, ⟨[iv (3 - J.position)], _, rfl, rfl, ⟨[iv J.moving], _, rfl, rfl, rfl⟩⟩⟩⟩, rfl⟩)) ?_
 rintro _ _ ⟨dh, rfl, d0⟩
 refine w5 0 rfl (o' := Cl 57 [sv ag X ah, sv ai Y aj, sv ak Z al, sv am aa an, sv ao ab aq, sv ar ac au, sv av ad aw, .slice A3 (put (put C (aL : Int) (⟨F.axles, F.disturbed, F.position, F.moving - 1, F.failed⟩ : LockBody)) (aL : Int) (⟨J.axles, J.disturbed, 3 - J.position, J.moving, J.failed⟩ : LockBody)).length c4, sv A8 aK c9, .map (some W)]) (by simp only [sv, z6])<|Tn<|Xm<|Xn<|Cg<|tS (sa rfl rfl (by omega))<|mV rfl<|Tn ?_
 obtain rfl := o1 hm
 exact jS ⟨dh, rfl, rfl, ((f.trans ax)), d0, ((z6 _ _ _).trans ((z6 _ _ _).trans az))⟩
 refine Ck<|Xm<|Xn<|Cg<|tS (sa rfl rfl (by omega))<|mV rfl<|Tn ?_
 obtain rfl := o1 hm
 exact jS ⟨de, rfl, rfl, ((f.trans ax)), bN, ((z6 _ _ _).trans az)⟩
 rintro aM _ _ ⟨a, rfl, rfl, f, ae, az⟩
 have hm := da
 refine Cr<|tS (lF rfl rfl (by omega))<|Te<|Cs<|j0 rfl<|Ce<|Xe<|Xe<|Xo<|Xn<|Cs<|Cr<|mV rfl<|tS (sN rfl)<|tS (sF rfl q3l)<|tS (sL 0 rfl q8H rfl rfl)<|tS (sE rfl q9E)<|mV rfl<|Te<|Cb ?_
 have e8 : aK.length ≤ 9223372036854775807 := (OS.len eL)
 refine H6 a aD A B<|H6 B a aD A<|H6 A B a aD<|H6 aD A B a ?_
 obtain ⟨G, di, dj⟩ := bS hm
 refine lS (fun bt => fun G => fun bf e' hp' => ∃ c, [(0, pb O), (62, iv ((aK.length : Int))), (63, iv ((bt : Int)))] = e' ∧ (O, Cl 57 [sv ag X ah, sv ai Y aj, sv ak Z al, sv am aa an, sv ao ab aq, sv ar ac au, sv av ad aw, sv A3 C c4, sv A8 G c9, .map (some W)]) :: (a ++ (c ++ (A ++ (B ++ R)))) = hp' ∧ aM.Le bf ∧ OS 127 (OT.fr z8) bf.w (sv A8 G c9) G c ∧ G.length = aK.length) di ⟨aD, rfl, rfl, lr, (eL.le f), rfl⟩ ?_ ?_
 rintro bt G bf _ _ e9 eH ⟨c, rfl, rfl, e, ay, aF⟩ a8
 unfold W7 at a8
 have hm := a8
 refine Cr<|tS (lT rfl rfl (by omega))<|Te<|Cs<|j1 rfl<|Ck<|Xn<|Cs<|Cb<|Cr<|mV rfl<|aS rfl<|Te<|Cr<|mV rfl<|tS (sN rfl)<|tS (sF rfl q3l)<|tS (sL 0 rfl q8H rfl rfl)<|mV rfl ?_
 obtain ⟨af, d1, hm⟩ := bS hm
 obtain ⟨cm, b4, b5⟩ := iS d1
 obtain ⟨fa, fb, fH, fI, fc, dk, aG, K, cn, fd, eS⟩ := OS.get (sz := 3) rfl (by decide) ay b5
 obtain ⟨⟨_, _, rfl, rfl, ⟨_, _, rfl, rfl, rfl⟩⟩, rfl⟩ := dk
 refine tS (sI cm rfl rfl b4 cn K q9E)<|aS rfl<|Te ?_
 obtain ⟨d5, dl, dm⟩ := bS hm
 refine Cj (fun co e' hp' => [(0, pb O), (5, .pointer (Option.map (fun (x : Addr) => x.add (cm * 3)) A8)), (62, iv ((aK.length : Int))), (63, iv ((bt : Int))), (89, bv d5)] = e' ∧ (O, Cl 57 [sv ag X ah, sv ai Y aj, sv ak Z al, sv am aa an, sv ao ab aq, sv ar ac au, sv av ad aw, sv A3 C c4, sv A8 G c9, .map (some W)]) :: (c ++ (a ++ (A ++ (B ++ R)))) = hp' ∧ bf.Le co) ?_ ?_
 have hm := dl
 refine Cg<|mV rfl<|tS (j6 rfl K)<|tS (sQ rfl K q5i)<|tS (z9 rfl q4b (fun w ho => aG w _ ho (.cons _ (ss a (List.sublist_append_left _ _))) 1 _ rfl)) ?_
 rcases Bool.eq_false_or_eq_true af.wanted with aH | aH
 rw [if_pos aH] at hm
 refine Tr 75 rfl (v' := .bool true) (by rw [aH] <;> rfl)<|mV rfl<|yS<|mV rfl<|yS<|tS (j6 rfl K)<|yS<|tS (sQ rfl K q6p)<|yS<|tS (z9 rfl j4 (fun w ho => aG w _ ho (.cons _ (ss a (List.sublist_append_left _ _))) 0 _ rfl))<|yS<|Tb rfl (q5 rfl rfl) (fun bu => ?_) (fun bu => ?_)
 rw [if_pos bu] at hm
 refine tS (pT rfl rfl)<|mV rfl<|yS<|mV rfl<|yS<|tS (j6 rfl K)<|yS<|tS (sQ rfl K q6o)<|yS<|tS (z9 rfl q4b (fun w ho => aG w _ ho (.cons _ (ss a (List.sublist_append_left _ _))) 2 _ rfl))<|yS<|tS (sn2 rfl)<|tS (pT rfl rfl)<|Tn ?_
 obtain rfl := o1 hm
 exact jJ ⟨rfl, rfl, lr⟩
 rw [if_neg bu] at hm
 refine tS (pT rfl rfl)<|mV rfl<|nO<|nO<|nO<|nO<|nO<|tS (pF rfl rfl)<|Tn ?_
 obtain rfl := o1 hm
 exact jJ ⟨rfl, rfl, lr⟩
 rw [if_neg (fun hh => Bool.noConfusion (hh.symm.trans aH))] at hm
 refine Tr 75 rfl (v' := .bool false) (by rw [aH] <;> rfl)<|mV rfl<|nO<|nO<|nO<|nO<|nO<|tS (pF rfl rfl)<|mV rfl<|nO<|nO<|nO<|nO<|nO<|tS (pF rfl rfl)<|Tn ?_
 obtain rfl := o1 hm
 exact jJ ⟨rfl, rfl, lr⟩
 rintro co _ _ ⟨rfl, rfl, aA⟩
 have hm := dm
 refine cB hm rfl (fun hm => ?_) fun hm => ?_
 refine Cg<|mV rfl<|tS (j6 rfl K)<|tS (sQ rfl K q6p)<|tS (z9 rfl j4 (fun w ho => aG w _ (aA.back _ _ ho) (.cons _ (List.sublist_append_left _ _)) 0 _ rfl)) ?_
 obtain ⟨_, bP, hm⟩ := bS hm
 have bP := (kS bP).2
 refine tS (sb rfl rfl bP)<|tS (j6 rfl K)<|tS (sQ rfl K q6p)<|tD (uP b4 (sz := 3) (a' := (⟨af.left - 1, af.wanted, af.failed⟩ : LockGate)) rfl [_] (a ++ (A ++ (B ++ R))) 0 1 [iv (af.left - 1)] rfl (ay.le aA) b5 rfl rfl rfl z0D rfl (mc rfl mn) (fun cs hsj hh => by obtain ⟨⟨_, _, rfl, rfl, ⟨_, _, rfl, rfl, rfl⟩⟩, rfl⟩ := hh; exact ⟨by first | decide | exact Nat.le_refl _, ⟨[iv (af.left - 1)], _, rfl, rfl, ⟨[bv af.wanted], _, rfl, rfl, rfl⟩⟩, rfl⟩)) ?_
 rintro _ _ ⟨dn, rfl, d6⟩
 refine w5 0 rfl (o' := Cl 57 [sv ag X ah, sv ai Y aj, sv ak Z al, sv am aa an, sv ao ab aq, sv ar ac au, sv av ad aw, sv A3 C c4, .slice A8 (put G (bt : Int) (⟨af.left - 1, af.wanted, af.failed⟩ : LockGate)).length c9, .map (some W)]) (by simp only [sv, z6])<|Tn<|Xm<|Xn<|Cg<|tS (sa rfl rfl (by omega))<|mV rfl<|Tn ?_
 obtain rfl := o1 hm
 exact jS ⟨dn, rfl, rfl, ((e.trans aA)), d6, ((z6 _ _ _).trans aF)⟩
 refine Ck<|Xm<|Xn<|Cg<|tS (sa rfl rfl (by omega))<|mV rfl<|Tn ?_
 obtain rfl := o1 hm
 exact jS ⟨c, rfl, rfl, ((e.trans aA)), (ay.le aA), aF⟩
 rintro bf _ _ ⟨c, rfl, rfl, e, ay, aF⟩
 have hm := dj
 refine Cr<|tS (lF rfl rfl (by omega))<|Te<|Cs<|j0 rfl<|Ce<|Xe<|Xe<|Xo<|Xn<|Cs<|Cr<|mV rfl ?_
 obtain ⟨bw, cp, hm⟩ := bS hm
 have zz := f.trans e
 refine v5 a c A B<|v5 B a c A<|v5 A B a c<|v5 c A B a<|w9 [_] [] a c A B R rfl<|Tg _ rfl z5F rfl (q3B _ _ X Y Z aa ab ac ad C G dU dV ads O ag ah ai aj ak al am an ao aq ar au av aw A3 c4 a A8 c9 c W A B (cb.le zz) (cc.le zz) (cd.le zz) (ce.le zz) (cf.le zz) (cg.le zz) (ch.le zz) (ae.le e) ay (eM.le zz) (eO.le zz) bw cp) ?_
 rintro _ d7 _ i ⟨d8, d9, o, rfl, rfl, cq⟩
 refine z0C [_] [] o a c A B R rfl<|tS (sE rfl z1X)<|mV rfl<|Te<|Cb ?_
 have fe : bw.length ≤ 9223372036854775807 := (OS.len cq)
 refine K0 o a c A B<|K0 B o a c A<|K0 A B o a c<|K0 c A B o a<|K0 a c A B o ?_
 obtain ⟨⟨bg, bx⟩, dp, dq⟩ := bS hm
 refine lS (fun cr => K1 fun bg bx => fun bh e' hp' => ∃ d s, [(0, pb O), (99, sv d8 bw d9), (100, iv ((bw.length : Int))), (101, iv ((cr : Int)))] = e' ∧ (O, Cl 57 [sv ag X ah, sv ai Y aj, sv ak Z al, sv am aa an, sv ao ab aq, sv ar ac au, sv av ad aw, sv A3 C c4, sv A8 G c9, .map (some W)]) :: (o ++ (a ++ (c ++ (d ++ (s ++ R))))) = hp' ∧ d7.Le bh ∧ OM rI (OT.fr (RT.key ads)) false false bh.w W bg d ∧ OAr 85 q9 ads bh.w bx s) dp ⟨A, B, rfl, rfl, lr, (eM.le (f.trans (e.trans i))), (eO.le (f.trans (e.trans i)))⟩ ?_ ?_
 rintro cr ⟨bg, bx⟩ bh _ _ ff eI ⟨d, s, rfl, rfl, g, aE, bi⟩ a9
 unfold W6 at a9
 have hm := Q3 a9
 refine Cr<|tS (lT rfl rfl (by omega))<|Te<|Cs<|j1 rfl<|Ck<|Xn<|Cs<|Cb<|Cr ?_
 obtain ⟨fJ, ea, hm⟩ := bS hm
 obtain ⟨eb, dr, ds⟩ := iS ea
 obtain ⟨fg, fh, fK, fL, fi, dt, ct, du, cu, fj, eU⟩ := OS.get (sz := 1) rfl (by decide) (cq.le g) ds
 obtain ⟨rfl, rfl⟩ := dt
 refine tS (sI eb rfl rfl dr cu du z1X)<|tS (z9 rfl z9C (fun w ho => ct w _ ho (.cons _ (List.sublist_append_left _ _)) 0 _ rfl))<|aS rfl<|Te<|Cs<|Cr<|mV rfl ?_
 obtain ⟨bj, bQ, hm⟩ := bS hm
 obtain ⟨h, ec, hm⟩ := bS hm
 refine Tr 7 rfl (v' := .pointer (some ⟨(ads bj), 0, none⟩)) (by rw [bQ]; rfl)<|Tr 104 rfl (v' := .pointer (some ⟨(ads bj), 0, none⟩)) (by rw [bQ]; rfl)<|Tr 105 rfl (v' := .pointer (some ⟨(ads bj), 0, none⟩)) (by rw [bQ]; rfl) ?_
 obtain ⟨fk, fl, D, b6, dv, hf1562⟩ := OAr.take bi ec
 obtain ⟨aN, aO, aP, aQ, aR, aT, t, aU, aV, u, rfl, cv, cw, cx, cy, rfl⟩ := dv
 refine q1Z o a c d s<|q1y [_] s D t u (o ++ (a ++ (c ++ (d ++ R)))) rfl b6<|tS (sN rfl)<|tS (sF rfl q5f)<|tS (sL 0 rfl j4 rfl rfl)<|tS (q1 rfl rfl)<|Te<|cI hm rfl (fun hm => ?_) fun hm => ?_
 refine Ce<|Xe<|Xo<|Xn<|Cg<|tS (sa rfl rfl (by omega))<|mV rfl<|Tn<|Z7 t u D<|Z7 D t u<|Z7 u D t<|q1X [_] s D t u (o ++ (a ++ (c ++ (d ++ R)))) rfl b6 ?_
 obtain rfl := o1 hm
 exact jS ⟨d, s, rfl, rfl, (g), aE, bi⟩
 refine Ck<|Xn<|Cr<|mV rfl<|tS (sN rfl)<|tS (sF rfl q5f)<|tS (sL 0 rfl j4 rfl rfl) ?_
 obtain ⟨_, bR, hm⟩ := bS hm
 have bR := (kS bR).2
 refine tS (sb rfl rfl bR)<|tS (sN rfl)<|tS (sF rfl q5f)<|tD (uS 0 rfl rfl z0D rfl rfl (by simp)) ?_
 rintro _ _ rfl
 refine Te<|Cr<|mV rfl<|tS (sN rfl)<|tS (sF rfl q5f)<|tS (sL 0 rfl j4 rfl rfl)<|tS (q1 rfl rfl)<|Te<|cI hm rfl (fun hm => ?_) fun hm => ?_
 refine Di Q5 (.refl _)<|E0 0 rfl (sM rfl)<|E0 1 rfl (sN rfl)<|E0 2 rfl (sF rfl q1h)<|Es 3 rfl (sL 1 rfl q5F rfl rfl)<|E0 4 rfl (sM rfl)<|E0 5 rfl (sN rfl)<|E0 6 rfl (sF rfl z4y)<|Es 7 rfl (sL 0 rfl j4 rfl rfl)<|Eo<|z7Z t u D o a c d<|Da [8] (by kernel_rfl) rfl<|Rd2 lr rfl rfl (z6R (k := h.number) z8S [_, _] (t ++ (u ++ (D ++ (o ++ (a ++ (c ++ R)))))) rfl aE q3o rfl rfl rfl) ?_ ?_
 rintro _ _ ⟨aI, rfl, rfl, ed⟩
 refine ⟨.inl (by kernel_rfl), ?_⟩
 refine Dd (by kernel_rfl)<|Xm<|Xn<|Cg<|tS (sa rfl rfl (by omega))<|mV rfl<|Tn<|q7N aI t u D<|q7N D aI t u<|q7N u D aI t ?_
 have ee := hf1562 _ [iv h.Route.From, iv h.Route.To, sv aN h.Route.Steps aO, sv aP h.needs aQ, sv aR h.seen aT, sv aU h.gone aV, bv h.laps, bv h.sight, iv (h.leave - 1), iv h.clock, iv h.number] (⟨h.Route, h.needs, h.seen, h.gone, h.laps, h.sight, h.leave - 1, h.clock, h.number⟩ : LockLocked) _ lr ⟨aN, aO, aP, aQ, aR, aT, t, aU, aV, u, rfl, cv, cw, cx, cy, rfl⟩
 refine q9p [_] D t u (aI ++ (o ++ (a ++ (c ++ R)))) rfl ?_
 obtain rfl := o1 hm
 exact jS ⟨aI, (D ++ (((ads bj), Cl 85 [iv h.Route.From, iv h.Route.To, sv aN h.Route.Steps aO, sv aP h.needs aQ, sv aR h.seen aT, sv aU h.gone aV, bv h.laps, bv h.sight, iv (h.leave - 1), iv h.clock, iv h.number]) :: (t ++ u))), rfl, rfl, (g), ed, ee⟩
 exact Rn
 refine Ck<|Xm<|Xn<|Cg<|tS (sa rfl rfl (by omega))<|mV rfl<|Tn<|Z7 t u D<|Z7 D t u<|Z7 u D t ?_
 have ef := hf1562 _ [iv h.Route.From, iv h.Route.To, sv aN h.Route.Steps aO, sv aP h.needs aQ, sv aR h.seen aT, sv aU h.gone aV, bv h.laps, bv h.sight, iv (h.leave - 1), iv h.clock, iv h.number] (⟨h.Route, h.needs, h.seen, h.gone, h.laps, h.sight, h.leave - 1, h.clock, h.number⟩ : LockLocked) _ lr ⟨aN, aO, aP, aQ, aR, aT, t, aU, aV, u, rfl, cv, cw, cx, cy, rfl⟩
 refine q9p [_] D t u (o ++ (a ++ (c ++ (d ++ R)))) rfl ?_
 obtain rfl := o1 hm
 exact jS ⟨d, (D ++ (((ads bj), Cl 85 [iv h.Route.From, iv h.Route.To, sv aN h.Route.Steps aO, sv aP h.needs aQ, sv aR h.seen aT, sv aU h.gone aV, bv h.laps, bv h.sight, iv (h.leave - 1), iv h.clock, iv h.number]) :: (t ++ u))), rfl, rfl, (g), aE, ef⟩
 rintro bh _ _ ⟨d, s, rfl, rfl, g, aE, bi⟩
 have hm := Q3 dq
 refine Cr<|tS (lF rfl rfl (by omega))<|Te<|Cs<|j0 rfl<|Ce<|Xe<|Xe<|Xo<|Xn<|Cs<|Cr<|mV rfl ?_
 obtain ⟨aW, cz, hm⟩ := bS hm
 have zy := f.trans (e.trans (i.trans g))
 refine q1Z o a c d s<|q1Z s o a c d<|q1Z d s o a c<|q1Z c d s o a<|w9 [_] [] a c d s (o ++ R) rfl<|Tg _ rfl z5F rfl (q3B _ _ X Y Z aa ab ac ad C G bg bx ads O ag ah ai aj ak al am an ao aq ar au av aw A3 c4 a A8 c9 c W d s (cb.le zy) (cc.le zy) (cd.le zy) (ce.le zy) (cf.le zy) (cg.le zy) (ch.le zy) (ae.le (e.trans (i.trans g))) (ay.le (i.trans g)) aE bi aW cz) ?_
 rintro _ eg _ n ⟨cA, cC, m, rfl, rfl, cD⟩
 refine z0C [_] [] m a c d s (o ++ R) rfl<|tS (sE rfl z1X)<|mV rfl<|Te<|Cb ?_
 have fm : aW.length ≤ 9223372036854775807 := (OS.len cD)
 refine K0 m a c d s<|K0 s m a c d<|K0 d s m a c<|K0 c d s m a<|K0 a c d s m ?_
 obtain ⟨bz, dw, dx⟩ := bS hm
 refine lS (fun bT => fun bz => fun bk e' hp' => ∃ r, [(0, pb O), (132, sv cA aW cC), (133, iv ((aW.length : Int))), (134, iv ((bT : Int)))] = e' ∧ (O, Cl 57 [sv ag X ah, sv ai Y aj, sv ak Z al, sv am aa an, sv ao ab aq, sv ar ac au, sv av ad aw, sv A3 C c4, sv A8 G c9, .map (some W)]) :: (m ++ (a ++ (c ++ (d ++ (r ++ R))))) = hp' ∧ eg.Le bk ∧ OAr 85 q9 ads bk.w bz r) dw ⟨s, rfl, rfl, lr, (bi.le n)⟩ ?_ ?_
 rintro bT bz bk _ _ fn eJ ⟨r, rfl, rfl, l, aX⟩ ba
 unfold W5 at ba
 have hm := ba
 refine Cr<|tS (lT rfl rfl (by omega))<|Te<|Cs<|j1 rfl<|Ck<|Xn<|Cs<|Cb<|Cr ?_
 obtain ⟨fM, eh, hm⟩ := bS hm
 obtain ⟨ei, dy, dz⟩ := iS eh
 obtain ⟨fo, fp, fN, fO, fq, dA, cE, dB, cG, fr, eV⟩ := OS.get (sz := 1) rfl (by decide) (cD.le l) dz
 obtain ⟨rfl, rfl⟩ := dA
 refine tS (sI ei rfl rfl dy cG dB z1X)<|tS (z9 rfl z9C (fun w ho => cE w _ ho (.cons _ (List.sublist_append_left _ _)) 0 _ rfl))<|aS rfl<|Te ?_
 obtain ⟨⟨ej, ek⟩, dC, dD⟩ := bS hm
 refine Cj (fun cH e' hp' => [(0, pb O), (9, kv ads ej), (132, sv cA aW cC), (133, iv ((aW.length : Int))), (134, iv ((bT : Int))), (155, bv ek)] = e' ∧ (O, Cl 57 [sv ag X ah, sv ai Y aj, sv ak Z al, sv am aa an, sv ao ab aq, sv ar ac au, sv av ad aw, sv A3 C c4, sv A8 G c9, .map (some W)]) :: (m ++ (a ++ (c ++ (d ++ (r ++ R))))) = hp' ∧ bk.Le cH) ?_ ?_
 have hm := dC
 obtain ⟨cJ, cK, hm⟩ := bS hm
 obtain ⟨fP, el, hm⟩ := bS hm
 refine z0e 9 rfl (v' := .pointer (some ⟨(ads cJ), 0, none⟩)) (by rw [cK]; rfl)<|z0e 137 rfl (v' := .pointer (some ⟨(ads cJ), 0, none⟩)) (by rw [cK]; rfl) ?_
 obtain ⟨fs, ft, T, bA, dE, hf2039⟩ := OAr.take aX el
 obtain ⟨fQ, fR, fS, fT, fU, fV, U, fW, fX, V, rfl, fY, fZ, cO, f0, rfl⟩ := dE
 refine K0 m a c d r<|q8x [_] r T U V (m ++ (a ++ (c ++ (d ++ R)))) rfl bA ?_
 obtain ⟨_, aY, hm⟩ := bS hm
 obtain ⟨em, cP, hm⟩ := bS hm
 rcases Bool.eq_false_or_eq_true em with aJ | aJ
 rw [if_pos aJ] at hm
 refine Di Q5 (.refl _)<|E0 0 rfl (sM rfl)<|E0 1 rfl (sN rfl)<|E0 2 rfl (sF rfl q1T)<|Es 3 rfl (sL 0 rfl q4C rfl rfl)<|E0 4 rfl (sM rfl)<|E0 5 rfl (sN rfl)<|E0 6 rfl (sF rfl q1T)<|Es 7 rfl (sL 0 rfl q4C rfl rfl)<|E0 8 rfl (sE rfl q8E) ?_
 have aY := (kS aY).2
 refine E0 9 rfl (sb rfl rfl aY) ?_
 obtain ⟨bU, bB, bC⟩ := iS cP
 obtain ⟨dF, dH, en, eo, dI, bD, bl, bE, bm, dJ, cQ⟩ := OS.get (sz := 1) rfl (by decide) cO bC
 obtain ⟨rfl, rfl⟩ := bD
 refine E0 10 rfl (sI bU rfl rfl bB bm bE q8E)<|Es 11 rfl (stB (z9 rfl q4b (fun w ho => bl w _ ho (.cons _ (.cons _ (List.sublist_append_left _ _))) 0 _ rfl)) aJ)<|E0 12 rfl (sM rfl)<|Yz 13 150 rfl (sM rfl)<|Yz 14 150 rfl (sN rfl)<|Yz 15 150 rfl (sF rfl z2n)<|Ey 16 150 rfl (sL 0 rfl q4b rfl rfl)<|E0 17 rfl (pT rfl rfl)<|Eo<|Dd (by kernel_rfl)<|Z7 U V T<|Z7 T U V<|Z7 V T U<|q1X [_] r T U V (m ++ (a ++ (c ++ (d ++ R)))) rfl bA ?_
 obtain ⟨rfl, rfl⟩ := j9 hm
 exact jJ ⟨rfl, rfl, lr⟩
 rw [if_neg (fun hh => Bool.noConfusion (hh.symm.trans aJ))] at hm
 refine Di Q5 (.refl _)<|E0 0 rfl (sM rfl)<|E0 1 rfl (sN rfl)<|E0 2 rfl (sF rfl q1T)<|Es 3 rfl (sL 0 rfl q4C rfl rfl)<|E0 4 rfl (sM rfl)<|E0 5 rfl (sN rfl)<|E0 6 rfl (sF rfl q1T)<|Es 7 rfl (sL 0 rfl q4C rfl rfl)<|E0 8 rfl (sE rfl q8E) ?_
 have aY := (kS aY).2
 refine E0 9 rfl (sb rfl rfl aY) ?_
 obtain ⟨bU, bB, bC⟩ := iS cP
 obtain ⟨dF, dH, en, eo, dI, bD, bl, bE, bm, dJ, cQ⟩ := OS.get (sz := 1) rfl (by decide) cO bC
 obtain ⟨rfl, rfl⟩ := bD
 refine E0 10 rfl (sI bU rfl rfl bB bm bE q8E)<|Es 11 rfl (stB (z9 rfl q4b (fun w ho => bl w _ ho (.cons _ (.cons _ (List.sublist_append_left _ _))) 0 _ rfl)) aJ)<|E0 12 rfl (sM rfl)<|eN 13 rfl<|eN 14 rfl<|eN 15 rfl<|eN 16 rfl<|E0 17 rfl (pF rfl rfl)<|Eo<|Dd (by kernel_rfl)<|Z7 U V T<|Z7 T U V<|Z7 V T U<|q1X [_] r T U V (m ++ (a ++ (c ++ (d ++ R)))) rfl bA ?_
 obtain ⟨rfl, rfl⟩ := j9 hm
 exact jJ ⟨rfl, rfl, lr⟩
 rintro cH _ _ ⟨rfl, rfl, aB⟩
 have hm := Q3 dD
 refine cB hm rfl (fun hm => ?_) fun hm => ?_
 refine Cr<|mV rfl ?_
 obtain ⟨bG, cR, hm⟩ := bS hm
 obtain ⟨j, ep, hm⟩ := bS hm
 refine Tr 9 rfl (v' := .pointer (some ⟨(ads bG), 0, none⟩)) (by rw [cR]; rfl)<|Tr 156 rfl (v' := .pointer (some ⟨(ads bG), 0, none⟩)) (by rw [cR]; rfl) ?_
 obtain ⟨fu, fv, L, dK, dL, hf2100⟩ := OAr.take (aX.le aB) ep
 obtain ⟨aZ, a0, a1, a2, a3, a4, H, a5, a6, I, rfl, cT, cU, cV, cW, rfl⟩ := dL
 refine q1Z m a c d r<|q1y [_] r L H I (m ++ (a ++ (c ++ (d ++ R)))) rfl dK<|tS (sN rfl)<|tS (sF rfl z4z)<|tS (sL 0 rfl j4 rfl rfl) ?_
 obtain ⟨_, bV, hm⟩ := bS hm
 have bV := (kS bV).2
 refine tS (sa rfl rfl bV)<|tS (sN rfl)<|tS (sF rfl z4z)<|tD (uS 0 rfl rfl z0D rfl rfl (by simp)) ?_
 rintro _ _ rfl
 refine Te<|Cr<|mV rfl<|tS (sN rfl)<|tS (sF rfl z4z)<|tS (sL 0 rfl j4 rfl rfl)<|tS (q1 rfl rfl)<|Te<|cI hm rfl (fun hm => ?_) fun hm => ?_
 refine Cg<|mV rfl<|tS (sN rfl)<|tS (sF rfl z2n)<|tD (uS 0 rfl rfl z1o rfl rfl (by simp)) ?_
 rintro _ _ rfl
 refine Tn<|Xm<|Xn<|Cg<|tS (sa rfl rfl (by omega))<|mV rfl<|Tn<|Z7 H I L<|Z7 L H I<|Z7 I L H ?_
 have eq := hf2100 _ [iv j.Route.From, iv j.Route.To, sv aZ j.Route.Steps a0, sv a1 j.needs a2, sv a3 j.seen a4, sv a5 j.gone a6, bv false, bv j.sight, iv j.leave, iv (j.clock + 1), iv j.number] (⟨j.Route, j.needs, j.seen, j.gone, false, j.sight, j.leave, j.clock + 1, j.number⟩ : LockLocked) _ lr ⟨aZ, a0, a1, a2, a3, a4, H, a5, a6, I, rfl, cT, cU, cV, cW, rfl⟩
 refine q9p [_] L H I (m ++ (a ++ (c ++ (d ++ R)))) rfl ?_
 obtain rfl := o1 hm
 exact jS ⟨(L ++ (((ads bG), Cl 85 [iv j.Route.From, iv j.Route.To, sv aZ j.Route.Steps a0, sv a1 j.needs a2, sv a3 j.seen a4, sv a5 j.gone a6, bv false, bv j.sight, iv j.leave, iv (j.clock + 1), iv j.number]) :: (H ++ I))), rfl, rfl, ((l.trans aB)), eq⟩
 refine Ck<|Xm<|Xn<|Cg<|tS (sa rfl rfl (by omega))<|mV rfl<|Tn<|Z7 H I L<|Z7 L H I<|Z7 I L H ?_
 have er := hf2100 _ [iv j.Route.From, iv j.Route.To, sv aZ j.Route.Steps a0, sv a1 j.needs a2, sv a3 j.seen a4, sv a5 j.gone a6, bv j.laps, bv j.sight, iv j.leave, iv (j.clock + 1), iv j.number] (⟨j.Route, j.needs, j.seen, j.gone, j.laps, j.sight, j.leave, j.clock + 1, j.number⟩ : LockLocked) _ lr ⟨aZ, a0, a1, a2, a3, a4, H, a5, a6, I, rfl, cT, cU, cV, cW, rfl⟩
 refine q9p [_] L H I (m ++ (a ++ (c ++ (d ++ R)))) rfl ?_
 obtain rfl := o1 hm
 exact jS ⟨(L ++ (((ads bG), Cl 85 [iv j.Route.From, iv j.Route.To, sv aZ j.Route.Steps a0, sv a1 j.needs a2, sv a3 j.seen a4, sv a5 j.gone a6, bv j.laps, bv j.sight, iv j.leave, iv (j.clock + 1), iv j.number]) :: (H ++ I))), rfl, rfl, ((l.trans aB)), er⟩
 refine Ck<|Xm<|Xn<|Cg<|tS (sa rfl rfl (by omega))<|mV rfl<|Tn ?_
 obtain rfl := o1 hm
 exact jS ⟨r, rfl, rfl, ((l.trans aB)), (aX.le aB)⟩
 rintro bk _ _ ⟨r, rfl, rfl, l, aX⟩
 have hm := dx
 refine Cr<|tS (lF rfl rfl (by omega))<|Te<|Cs<|j0 rfl<|Ce<|Xe<|Xe<|Xo<|Xn<|Cs<|Cr<|mV rfl ?_
 obtain ⟨bH, cX, hm⟩ := bS hm
 have zx := f.trans (e.trans (i.trans (g.trans (n.trans l))))
 have zw := i.trans (g.trans (n.trans l))
 refine q1Z m a c d r<|q1Z r m a c d<|q1Z d r m a c<|q1Z c d r m a<|w9 [_] [] a c d r (m ++ R) rfl<|Tg _ rfl z5F rfl (q3B _ _ X Y Z aa ab ac ad C G bg bz ads O ag ah ai aj ak al am an ao aq ar au av aw A3 c4 a A8 c9 c W d r (cb.le zx) (cc.le zx) (cd.le zx) (ce.le zx) (cf.le zx) (cg.le zx) (ch.le zx) (ae.le (e.trans zw)) (ay.le zw) (aE.le (n.trans l)) aX bH cX) ?_
 rintro _ es _ q ⟨et, eu, y, rfl, rfl, cY⟩
 refine z0C [_] [] y a c d r (m ++ R) rfl<|tS (sE rfl z1X)<|mV rfl<|Te<|Cb ?_
 have fw : bH.length ≤ 9223372036854775807 := (OS.len cY)
 refine K0 y a c d r<|K0 r y a c d<|K0 d r y a c<|K0 c d r y a<|K0 a c d r y ?_
 obtain ⟨⟨bn, bo⟩, dM, dN⟩ := bS hm
 refine lS (fun cZ => K1 fun bn bo => fun bp e' hp' => ∃ E z, [(0, pb O), (173, sv et bH eu), (174, iv ((bH.length : Int))), (175, iv ((cZ : Int)))] = e' ∧ (O, Cl 57 [sv ag X ah, sv ai Y aj, sv ak Z al, sv am aa an, sv ao ab aq, sv ar ac au, sv av ad aw, sv A3 C c4, sv A8 G c9, .map (some W)]) :: (y ++ (a ++ (c ++ (E ++ (z ++ R))))) = hp' ∧ es.Le bp ∧ OM rI (OT.fr (RT.key ads)) false false bp.w W bn E ∧ OAr 85 q9 ads bp.w bo z) dM ⟨d, r, rfl, rfl, lr, (aE.le (n.trans (l.trans q))), (aX.le q)⟩ ?_ ?_
 rintro cZ ⟨bn, bo⟩ bp _ _ fx eK ⟨E, z, rfl, rfl, p, bW, bI⟩ bb
 unfold W4 at bb
 have hm := Q3 bb
 refine Cr<|tS (lT rfl rfl (by omega))<|Te<|Cs<|j1 rfl<|Ck<|Xn<|Cs<|Cb<|Cr ?_
 obtain ⟨ev, ew, hm⟩ := bS hm
 obtain ⟨ex, dO, dP⟩ := iS ew
 obtain ⟨fy, fz, f1, f2, fA, dQ, c0, dR, c1, fB, eW⟩ := OS.get (sz := 1) rfl (by decide) (cY.le p) dP
 obtain ⟨rfl, rfl⟩ := dQ
 refine tS (sI ex rfl rfl dO c1 dR z1X)<|tS (z9 rfl z9C (fun w ho => c0 w _ ho (.cons _ (List.sublist_append_left _ _)) 0 _ rfl))<|aS rfl<|Te<|Cg<|mV rfl<|mV rfl ?_
 obtain ⟨⟨ey, ez⟩, c2, hm⟩ := bS hm
 have hm := Q3 hm
 have zv := f.trans (e.trans (i.trans (g.trans (n.trans (l.trans (q.trans p))))))
 have zu := i.trans (g.trans (n.trans (l.trans (q.trans p))))
 refine v5 y a c E<|v5 E y a c<|v5 c E y a<|q1Z a c E y z<|w9 [_] [] z a c E (y ++ R) rfl<|Tg _ rfl j3C rfl (z0g _ _ ev X Y Z aa ab ac ad bo C G bn ads O ag ah ai aj ak al am an ao aq ar au av aw z A3 c4 a A8 c9 c W E (cb.le zv) (cc.le zv) (cd.le zv) (ce.le zv) (cf.le zv) (cg.le zv) (ch.le zv) bI (ae.le (e.trans zu)) (ay.le zu) bW ey ez c2) ?_
 rintro _ f3 _ c3 ⟨b7, b8, rfl, rfl, eA, eB⟩
 refine K9 [_] [] b7 a c b8 (y ++ R) rfl<|Tn<|Xm<|Xn<|Cg<|tS (sa rfl rfl (by omega))<|mV rfl<|Tn ?_
 obtain rfl := o1 hm
 exact jS ⟨b8, b7, rfl, rfl, ((p.trans c3)), eB, eA⟩
 rintro bp _ _ ⟨E, z, rfl, rfl, p, bW, bI⟩
 have hm := Q3 dN
 refine Cr<|tS (lF rfl rfl (by omega))<|Te<|Cs<|j0 rfl<|Ce<|Xe<|Xe<|Xo<|Xn<|Cg<|mV rfl ?_
 obtain ⟨⟨c5, eC⟩, c6, hm⟩ := bS hm
 have hm := Q3 hm
 have zt := f.trans (e.trans (i.trans (g.trans (n.trans (l.trans (q.trans p))))))
 have zs := i.trans (g.trans (n.trans (l.trans (q.trans p))))
 refine q1Z y a c E z<|q1Z z y a c E<|q1Z E z y a c<|q1Z c E z y a<|w9 [_] [] a c E z (y ++ R) rfl<|Tg _ rfl z8l rfl (q6e _ _ X Y Z aa ab ac ad C G bn bo ads O ag ah ai aj ak al am an ao aq ar au av aw A3 c4 a A8 c9 c W E z (cb.le zt) (cc.le zt) (cd.le zt) (ce.le zt) (cf.le zt) (cg.le zt) (ch.le zt) (ae.le (e.trans zs)) (ay.le zs) bW bI c5 eC c6) ?_
 rintro _ f4 _ bq ⟨b9, ca, rfl, rfl, eD, c7, eE⟩
 refine K9 [_] [] a b9 ca z (y ++ R) rfl<|w5 0 rfl (o' := Cl 57 [sv ag X ah, sv ai Y aj, sv ak Z al, sv am aa an, sv ao ab aq, sv ar ac au, sv av ad aw, sv A3 C c4, sv A8 c5 c9, .map (some W)]) (by simp only [sv, c7])<|Tn ?_
 obtain ⟨rfl, rfl, rfl, rfl⟩ := q6G hm
 have zr := e.trans (i.trans (g.trans (n.trans (l.trans (q.trans (p.trans bq))))))
 have dS := ae.le zr
 have dT := bI.le bq
 exact eZ ⟨a, b9, ca, z, rfl, rfl, dS, az, eD, (c7.trans aF), eE, dT⟩ (f.trans zr)
theorem z3M (b : Base) (R : Hp) (F : Fishkeep1Call) (i j k l m n o G E U V) (ads : Int → Nat) (K p q r s t u w x y z A B C D L O f S T e h c a) (W : FZ RT.str b.w p q i) (X : FZ rApiSection b.w r s j) (Y : FZ rApiLink b.w t u k) (Z : FZ rApiSignal b.w w x l) (aa : FZ rApiGate b.w y z m) (ab : FZ j3 b.w A B n) (ac : FZ (RT.list z4) b.w C D o) (h5 : OS 59 (OT.fr z7) b.w (sv L G O) G f) (I : OS 127 (OT.fr z8) b.w (sv S E T) E e) (J : OM rI (OT.fr (RT.key ads)) false false b.w h U c) (H : OAr 85 q9 ads b.w V a) (bo av aw bp bq) (hm : q3d F i j k l m n o G E U V = some (bo, av, aw, bp, bq)):
 CallsG Tryz.prog 8 [pb K, .agg #[iv F.Kind, iv F.A, iv F.B, iv F.C]] b ((K, Cl 57 [sv p i q, sv r j s, sv t k u, sv w l x, sv y m z, sv A n B, sv C o D, sv L G O, sv S E T, .map (some h)]) :: (f ++ (e ++ (c ++ (a ++ R))))) (fun v b' hp' => ∃ (ads : Int → Nat), ∃ aB aC aD aE, iv bo = v ∧ (K, Cl 57 [sv p i q, sv r j s, sv t k u, sv w l x, sv y m z, sv A n B, sv C o D, sv L av O, sv S aw T, .map (some h)]) :: (aB ++ (aC ++ (aD ++ (aE ++ R)))) = hp' ∧ OS 59 (OT.fr z7) b'.w (sv L av O) av aB ∧ av.length = G.length ∧ OS 127 (OT.fr z8) b'.w (sv S aw T) aw aC ∧ aw.length = E.length ∧ OM rI (OT.fr (RT.key ads)) false false b'.w h bp aD ∧ OAr 85 q9 ads b'.w bq aE) := by
 refine fE 89 Tryz.func8 rfl Tryz.ntmps8 rfl ?_
 unfold q3d at hm
 refine Cr<|tD (uB _ rfl rfl) ?_
 rintro _ _ ⟨br, rfl, rfl⟩
 refine aS rfl<|Te ?_
 obtain ⟨cC, bX, g⟩ := bS hm
 refine Cj (fun ak e' hp' => ∃ (al : (List LockBody)), ∃ (am : (List LockGate)), ∃ (aF : (List (Int × (Option Int)))), ∃ (aG : (List (Int × LockLocked))), ∃ an ao aq ar, [] = e' ∧ (K, Cl 57 [sv p i q, sv r j s, sv t k u, sv w l x, sv y m z, sv A n B, sv C o D, sv L al O, sv S am T, .map (some h)]) :: (an ++ (ao ++ (aq ++ (ar ++ R)))) = hp' ∧ b.Le ak ∧ OS 59 (OT.fr z7) ak.w (sv L al O) al an ∧ al.length = G.length ∧ OS 127 (OT.fr z8) ak.w (sv S am T) am ao ∧ am.length = E.length ∧ OM rI (OT.fr (RT.key ads)) false false ak.w h aF aq ∧ OAr 85 q9 ads ak.w aG ar ∧ cC = .inl (al, am, aF, aG)) ?_ ?_
 have hm := bX
 refine Cr<|tS (sF rfl z7X)<|tS (sL 0 rfl j4 rfl rfl)<|Te<|Cb<|Cr<|tS (q1 rfl rfl)<|aS rfl<|Te<|cI hm rfl (fun hm => ?_) fun hm => ?_
 refine Cr<|mV rfl<|tS (sF rfl q3T)<|tS (sL 0 rfl j4 rfl rfl)<|tS (sF rfl z4C)<|tS (sL 0 rfl j4 rfl rfl) ?_
 obtain ⟨⟨cD, bs⟩, a7, hm⟩ := bS hm
 have hm := Q3 hm
 refine v8 1 rfl<|Q4 f e c a<|Q4 a f e c<|Q4 c a f e<|Q4 e c a f<|w9 [_] [_] f e c a R rfl<|Tg _ rfl j4p rfl (z4L _ _ F.A F.B i j k l m n o G E U V ads K p q r s t u w x y z A B C D L O f S T e h c a W X Y Z aa ab ac h5 I J H cD bs a7) ?_
 rintro _ dw _ ad ⟨aH, rfl, rfl, cE, bt⟩
 refine K9 [_] [_] aH e c a R rfl<|w5 0 rfl (o' := Cl 57 [sv p i q, sv r j s, sv t k u, sv w l x, sv y m z, sv A n B, sv C o D, sv L bs O, sv S E T, .map (some h)]) (by simp only [sv, bt])<|aS rfl<|Te<|Ct<|Xb<|Xr ?_
 have bY := (Option.some.inj hm).symm
 rw [bY] at g
 have hm := k8 g
 obtain ⟨rfl, rfl, rfl, rfl, rfl⟩ := q4d hm
 have bZ := I.le ad
 have b0 := J.le ad
 have b1 := H.le ad
 exact rO ⟨ads, aH, e, c, a, rfl, rfl, cE, (bt.trans rfl), bZ, rfl, b0, b1⟩ ad
 refine Cr<|tS (q1 rfl rfl)<|aS rfl<|Te<|cI hm rfl (fun hm => ?_) fun hm => ?_
 refine Cr<|mV rfl<|tS (sF rfl q3T)<|tS (sL 0 rfl j4 rfl rfl)<|tS (sF rfl z4C)<|tS (sL 0 rfl j4 rfl rfl)<|tS (sF rfl j1M)<|tS (sL 0 rfl j4 rfl rfl) ?_
 obtain ⟨⟨cG, bu, cH, cJ⟩, a8, hm⟩ := bS hm
 have hm := z2P hm
 refine v8 1 rfl<|Q4 f e c a<|Q4 a f e c<|Q4 c a f e<|Q4 e c a f<|w9 [_] [_] f e c a R rfl<|Tg _ rfl j4o rfl (z3E _ _ F.A F.B F.C i j k l m n o G E U V ads K p q r s t u w x y z A B C D L O f S T e h c a W X Y Z aa ab ac h5 I J H cG bu cH cJ a8) ?_
 rintro _ dx _ ax ⟨aI, aJ, aK, rfl, rfl, cK, bw, cO, cP⟩
 refine K9 [_] [_] aI e aJ aK R rfl<|w5 0 rfl (o' := Cl 57 [sv p i q, sv r j s, sv t k u, sv w l x, sv y m z, sv A n B, sv C o D, sv L bu O, sv S E T, .map (some h)]) (by simp only [sv, bw])<|aS rfl<|Te<|Ct<|Xb<|Xr ?_
 have b2 := (Option.some.inj hm).symm
 rw [b2] at g
 have hm := k8 g
 obtain ⟨rfl, rfl, rfl, rfl, rfl⟩ := q4d hm
 have b3 := I.le ax
 exact rO ⟨ads, aI, e, aJ, aK, rfl, rfl, cK, (bw.trans rfl), b3, rfl, cO, cP⟩ ax
 refine Cr<|tS (q1 rfl rfl)<|aS rfl<|Te<|cI hm rfl (fun hm => ?_) fun hm => ?_
 refine Cr<|mV rfl<|tS (sF rfl q3T)<|tS (sL 0 rfl j4 rfl rfl) ?_
 obtain ⟨⟨cQ, bx⟩, a9, hm⟩ := bS hm
 have hm := Q3 hm
 refine v8 1 rfl<|Q4 f e c a<|Q4 a f e c<|Q4 c a f e<|Q4 e c a f<|w9 [_] [_] f e c a R rfl<|Tg _ rfl j4n rfl (z0k _ _ F.A i j k l m n o G E U V ads K p q r s t u w x y z A B C D L O f S T e h c a W X Y Z aa ab ac h5 I J H cQ bx a9) ?_
 rintro _ dy _ ae ⟨aL, rfl, rfl, cR, bz⟩
 refine K9 [_] [_] aL e c a R rfl<|w5 0 rfl (o' := Cl 57 [sv p i q, sv r j s, sv t k u, sv w l x, sv y m z, sv A n B, sv C o D, sv L bx O, sv S E T, .map (some h)]) (by simp only [sv, bz])<|aS rfl<|Te<|Ct<|Xb<|Xr ?_
 have b4 := (Option.some.inj hm).symm
 rw [b4] at g
 have hm := k8 g
 obtain ⟨rfl, rfl, rfl, rfl, rfl⟩ := q4d hm
 have b5 := I.le ae
 have b6 := J.le ae
 have b7 := H.le ae
 exact rO ⟨ads, aL, e, c, a, rfl, rfl, cR, (bz.trans rfl), b5, rfl, b6, b7⟩ ae
 refine Cr<|tS (q1 rfl rfl)<|aS rfl<|Te<|cI hm rfl (fun hm => ?_) fun hm => ?_
 refine Cr<|mV rfl<|tS (sF rfl q3T)<|tS (sL 0 rfl j4 rfl rfl) ?_
 obtain ⟨⟨cT, bA⟩, ba, hm⟩ := bS hm
 have hm := Q3 hm
 refine v8 1 rfl<|Q4 f e c a<|Q4 a f e c<|Q4 c a f e<|Q4 e c a f<|w9 [_] [_] f e c a R rfl<|Tg _ rfl j4m rfl (z2E _ _ F.A i j k l m n o G E U V ads K p q r s t u w x y z A B C D L O f S T e h c a W X Y Z aa ab ac h5 I J H cT bA ba) ?_
 rintro _ dz _ af ⟨aM, rfl, rfl, cU, bB⟩
 refine K9 [_] [_] aM e c a R rfl<|w5 0 rfl (o' := Cl 57 [sv p i q, sv r j s, sv t k u, sv w l x, sv y m z, sv A n B, sv C o D, sv L bA O, sv S E T, .map (some h)]) (by simp only [sv, bB])<|aS rfl<|Te<|Ct<|Xb<|Xr ?_
 have b8 := (Option.some.inj hm).symm
 rw [b8] at g
 have hm := k8 g
 obtain ⟨rfl, rfl, rfl, rfl, rfl⟩ := q4d hm
 have b9 := I.le af
 have ca := J.le af
 have cb := H.le af
 exact rO ⟨ads, aM, e, c, a, rfl, rfl, cU, (bB.trans rfl), b9, rfl, ca, cb⟩ af
 refine Cr<|tS (q1 rfl rfl)<|aS rfl<|Te<|cI hm rfl (fun hm => ?_) fun hm => ?_
 refine Cr<|mV rfl<|tS (sF rfl q3T)<|tS (sL 0 rfl j4 rfl rfl)<|tS (sF rfl z4C)<|tS (sL 0 rfl j4 rfl rfl) ?_
 obtain ⟨⟨cV, bC, cW⟩, bb, hm⟩ := bS hm
 have hm := q4U hm
 refine v8 1 rfl<|Q4 f e c a<|Q4 a f e c<|Q4 c a f e<|Q4 e c a f<|w9 [_] [_] f e c a R rfl<|Tg _ rfl j4l rfl (z3D _ _ F.A F.B i j k l m n o G E U V ads K p q r s t u w x y z A B C D L O f S T e h c a W X Y Z aa ab ac h5 I J H cV bC cW bb) ?_
 rintro _ dA _ au ⟨aN, aO, rfl, rfl, cX, bD, cY⟩
 refine K9 [_] [_] aN e aO a R rfl<|w5 0 rfl (o' := Cl 57 [sv p i q, sv r j s, sv t k u, sv w l x, sv y m z, sv A n B, sv C o D, sv L bC O, sv S E T, .map (some h)]) (by simp only [sv, bD])<|aS rfl<|Te<|Ct<|Xb<|Xr ?_
 have cc := (Option.some.inj hm).symm
 rw [cc] at g
 have hm := k8 g
 obtain ⟨rfl, rfl, rfl, rfl, rfl⟩ := q4d hm
 have cd := I.le au
 have ce := H.le au
 exact rO ⟨ads, aN, e, aO, a, rfl, rfl, cX, (bD.trans rfl), cd, rfl, cY, ce⟩ au
 refine Cr<|tS (q1 rfl rfl)<|aS rfl<|Te<|cI hm rfl (fun hm => ?_) fun hm => ?_
 refine Cr<|mV rfl<|tS (sF rfl q3T)<|tS (sL 0 rfl j4 rfl rfl) ?_
 obtain ⟨⟨cZ, bE⟩, bc, hm⟩ := bS hm
 have hm := Q3 hm
 refine v8 1 rfl<|Q4 f e c a<|Q4 a f e c<|Q4 c a f e<|Q4 e c a f<|w9 [_] [_] f e c a R rfl<|Tg _ rfl j4k rfl (z3I _ _ F.A i j k l m n o G E U V ads K p q r s t u w x y z A B C D L O f S T e h c a W X Y Z aa ab ac h5 I J H cZ bE bc) ?_
 rintro _ dB _ ag ⟨aP, rfl, rfl, c0, bG⟩
 refine K9 [_] [_] aP e c a R rfl<|w5 0 rfl (o' := Cl 57 [sv p i q, sv r j s, sv t k u, sv w l x, sv y m z, sv A n B, sv C o D, sv L bE O, sv S E T, .map (some h)]) (by simp only [sv, bG])<|aS rfl<|Te<|Ct<|Xb<|Xr ?_
 have cf := (Option.some.inj hm).symm
 rw [cf] at g
 have hm := k8 g
 obtain ⟨rfl, rfl, rfl, rfl, rfl⟩ := q4d hm
 have cg := I.le ag
 have ch := J.le ag
 have ci := H.le ag
 exact rO ⟨ads, aP, e, c, a, rfl, rfl, c0, (bG.trans rfl), cg, rfl, ch, ci⟩ ag
 refine Cr<|tS (q1 rfl rfl)<|aS rfl<|Te<|cI hm rfl (fun hm => ?_) fun hm => ?_
 refine Cr<|mV rfl<|tS (sF rfl q3T)<|tS (sL 0 rfl j4 rfl rfl) ?_
 obtain ⟨⟨c1, bH⟩, bd, hm⟩ := bS hm
 have hm := Q3 hm
 refine v8 1 rfl<|Q4 f e c a<|Q4 a f e c<|Q4 c a f e<|Q4 e c a f<|w9 [_] [_] f e c a R rfl<|Tg _ rfl j4j rfl (z3F _ _ F.A i j k l m n o G E U V ads K p q r s t u w x y z A B C D L O f S T e h c a W X Y Z aa ab ac h5 I J H c1 bH bd) ?_
 rintro _ dC _ ah ⟨aQ, rfl, rfl, c2, bI⟩
 refine K9 [_] [_] aQ e c a R rfl<|w5 0 rfl (o' := Cl 57 [sv p i q, sv r j s, sv t k u, sv w l x, sv y m z, sv A n B, sv C o D, sv L bH O, sv S E T, .map (some h)]) (by simp only [sv, bI])<|aS rfl<|Te<|Ct<|Xb<|Xr ?_
 have cj := (Option.some.inj hm).symm
 rw [cj] at g
 have hm := k8 g
 obtain ⟨rfl, rfl, rfl, rfl, rfl⟩ := q4d hm
 have ck := I.le ah
 have cl := J.le ah
 have cm := H.le ah
 exact rO ⟨ads, aQ, e, c, a, rfl, rfl, c2, (bI.trans rfl), ck, rfl, cl, cm⟩ ah
 refine Cr<|tS (q1 rfl rfl)<|aS rfl<|Te<|cI hm rfl (fun hm => ?_) fun hm => ?_
 refine Cr<|mV rfl<|tS (sF rfl q3T)<|tS (sL 0 rfl j4 rfl rfl) ?_
 obtain ⟨⟨c3, bJ⟩, be, hm⟩ := bS hm
 have hm := Q3 hm
 refine v8 1 rfl<|Q4 f e c a<|Q4 a f e c<|Q4 c a f e<|Q4 e c a f<|w9 [_] [_] f e c a R rfl<|Tg _ rfl z8n rfl (q8P _ _ F.A i j k l m n o G E U V ads K p q r s t u w x y z A B C D L O f S T e h c a W X Y Z aa ab ac h5 I J H c3 bJ be) ?_
 rintro _ dD _ ai ⟨aR, rfl, rfl, c5, bK⟩
 refine K9 [_] [_] f aR c a R rfl<|w5 0 rfl (o' := Cl 57 [sv p i q, sv r j s, sv t k u, sv w l x, sv y m z, sv A n B, sv C o D, sv L G O, sv S bJ T, .map (some h)]) (by simp only [sv, bK])<|aS rfl<|Te<|Ct<|Xb<|Xr ?_
 have cn := (Option.some.inj hm).symm
 rw [cn] at g
 have hm := k8 g
 obtain ⟨rfl, rfl, rfl, rfl, rfl⟩ := q4d hm
 have co := h5.le ai
 have cp := J.le ai
 have cq := H.le ai
 exact rO ⟨ads, f, aR, c, a, rfl, rfl, co, rfl, c5, (bK.trans rfl), cp, cq⟩ ai
 refine Cr<|tS (q1 rfl rfl)<|aS rfl<|Te<|cI hm rfl (fun hm => ?_) fun hm => ?_
 refine Cr<|mV rfl<|tS (sF rfl q3T)<|tS (sL 0 rfl j4 rfl rfl) ?_
 obtain ⟨⟨c6, bL⟩, bf, hm⟩ := bS hm
 have hm := Q3 hm
 refine v8 1 rfl<|Q4 f e c a<|Q4 a f e c<|Q4 c a f e<|Q4 e c a f<|w9 [_] [_] f e c a R rfl<|Tg _ rfl z8m rfl (q8N _ _ F.A i j k l m n o G E U V ads K p q r s t u w x y z A B C D L O f S T e h c a W X Y Z aa ab ac h5 I J H c6 bL bf) ?_
 rintro _ dE _ aj ⟨aT, rfl, rfl, c7, bM⟩
 refine K9 [_] [_] f aT c a R rfl<|w5 0 rfl (o' := Cl 57 [sv p i q, sv r j s, sv t k u, sv w l x, sv y m z, sv A n B, sv C o D, sv L G O, sv S bL T, .map (some h)]) (by simp only [sv, bM])<|aS rfl<|Te<|Ct<|Xb<|Xr ?_
 have cr := (Option.some.inj hm).symm
 rw [cr] at g
 have hm := k8 g
 obtain ⟨rfl, rfl, rfl, rfl, rfl⟩ := q4d hm
 have cs := h5.le aj
 have ct := J.le aj
 have cu := H.le aj
 exact rO ⟨ads, f, aT, c, a, rfl, rfl, cs, rfl, c7, (bM.trans rfl), ct, cu⟩ aj
 obtain ⟨c8, cv, cw⟩ := bS hm
 refine Cj (fun bN e' hp' => [(0, pb K), (3, pb br), (6, iv F.Kind), (69, bv c8)] = e' ∧ (K, Cl 57 [sv p i q, sv r j s, sv t k u, sv w l x, sv y m z, sv A n B, sv C o D, sv L G O, sv S E T, .map (some h)]) :: (br, Cl 39 [iv F.Kind, iv F.A, iv F.B, iv F.C]) :: (f ++ (e ++ (c ++ (a ++ R)))) = hp' ∧ b.Le bN) ?_ ?_
 have hm := cv
 refine Cr<|tS (q1 rfl rfl)<|aS rfl<|Te<|cI hm rfl (fun hm => ?_) fun hm => ?_
 refine Ck ?_
 obtain rfl := o1 hm
 exact jJ ⟨rfl, rfl, lr⟩
 refine Cg<|tS (q1 rfl rfl)<|aS rfl<|Tn ?_
 obtain rfl := o1 hm
 exact jJ ⟨rfl, rfl, lr⟩
 rintro bN _ _ ⟨rfl, rfl, d⟩
 have hm := cw
 refine cB hm rfl (fun hm => ?_) fun hm => ?_
 refine Cr<|mV rfl<|tS (sF rfl q3T)<|tS (sL 1 rfl j4 rfl rfl)<|tS (sF rfl z7X)<|tS (sL 1 rfl j4 rfl rfl)<|tS (q1 rfl rfl) ?_
 obtain ⟨⟨da, aU, aV, db, dc⟩, bg, hm⟩ := bS hm
 have hm := z6P hm
 refine Q4 f e c a<|Q4 a f e c<|Q4 c a f e<|Q4 e c a f<|w9 [_] [_] f e c a R rfl<|Tg _ rfl j4i rfl (z3G _ _ F.A (decide (F.Kind = 10)) i j k l m n o G E U V ads K p q r s t u w x y z A B C D L O f S T e h c a (W.le d) (X.le d) (Y.le d) (Z.le d) (aa.le d) (ab.le d) (ac.le d) (h5.le d) (I.le d) (J.le d) (H.le d) da aU aV db dc bg) ?_
 rintro _ dF _ bh ⟨ads, aW, aX, aY, aZ, rfl, rfl, dd, bO, de, bP, df, dg⟩
 refine K9 [_] [_] aW aX aY aZ R rfl<|w5 0 rfl (o' := Cl 57 [sv p i q, sv r j s, sv t k u, sv w l x, sv y m z, sv A n B, sv C o D, sv L aU O, sv S aV T, .map (some h)]) (by simp only [sv, bO])<|w5 0 rfl (o' := Cl 57 [sv p i q, sv r j s, sv t k u, sv w l x, sv y m z, sv A n B, sv C o D, sv L aU O, sv S aV T, .map (some h)]) (by simp only [sv, bP])<|aS rfl<|Te<|Ct<|Xb<|Xr ?_
 have cx := (Option.some.inj hm).symm
 rw [cx] at g
 have hm := k8 g
 obtain ⟨rfl, rfl, rfl, rfl, rfl⟩ := q4d hm
 exact rO ⟨ads, aW, aX, aY, aZ, rfl, rfl, dd, (bO.trans rfl), de, (bP.trans rfl), df, dg⟩ (d.trans bh)
 refine Cr<|tS (q1 rfl rfl)<|aS rfl<|Te<|cI hm rfl (fun hm => ?_) fun hm => ?_
 refine Cr<|mV rfl<|tS (sF rfl q3T)<|tS (sL 1 rfl j4 rfl rfl) ?_
 obtain ⟨⟨dh, bQ, di, dj⟩, bi, hm⟩ := bS hm
 have hm := z2P hm
 refine Q4 f e c a<|Q4 a f e c<|Q4 c a f e<|Q4 e c a f<|w9 [_] [_] f e c a R rfl<|Tg _ rfl j4h rfl (z0Z _ _ F.A i j k l m n o G E U V ads K p q r s t u w x y z A B C D L O f S T e h c a (W.le d) (X.le d) (Y.le d) (Z.le d) (aa.le d) (ab.le d) (ac.le d) (h5.le d) (I.le d) (J.le d) (H.le d) dh bQ di dj bi) ?_
 rintro _ dH _ ay ⟨a0, a1, a2, rfl, rfl, dk, bR, dl, dm⟩
 refine K9 [_] [_] f a0 a1 a2 R rfl<|w5 0 rfl (o' := Cl 57 [sv p i q, sv r j s, sv t k u, sv w l x, sv y m z, sv A n B, sv C o D, sv L G O, sv S bQ T, .map (some h)]) (by simp only [sv, bR])<|aS rfl<|Te<|Ct<|Xb<|Xr ?_
 have cy := (Option.some.inj hm).symm
 rw [cy] at g
 have hm := k8 g
 obtain ⟨rfl, rfl, rfl, rfl, rfl⟩ := q4d hm
 have cz := (h5.le (d.trans ay))
 exact rO ⟨ads, f, a0, a1, a2, rfl, rfl, cz, rfl, dk, (bR.trans rfl), dl, dm⟩ (d.trans ay)
 refine Cr<|tS (q1 rfl rfl)<|aS rfl<|Te<|cI hm rfl (fun hm => ?_) fun hm => ?_
 refine Cg<|mV rfl ?_
 obtain ⟨⟨az, aA, bT, bU⟩, bj, hm⟩ := bS hm
 have hm := z2P hm
 refine Q4 f e c a<|Q4 a f e c<|Q4 c a f e<|Q4 e c a f<|w9 [_] [_] f e c a R rfl<|Tg _ rfl j4g rfl (z0W _ _ i j k l m n o G E U V ads K p q r s t u w x y z A B C D L O f S T e h c a (W.le d) (X.le d) (Y.le d) (Z.le d) (aa.le d) (ab.le d) (ac.le d) (h5.le d) (I.le d) (J.le d) (H.le d) az aA bT bU bj) ?_
 rintro _ dI _ bk ⟨a3, a4, a5, a6, rfl, rfl, dn, bV, dp, bW, dq, dr⟩
 refine K9 [_] [_] a3 a4 a5 a6 R rfl<|w5 0 rfl (o' := Cl 57 [sv p i q, sv r j s, sv t k u, sv w l x, sv y m z, sv A n B, sv C o D, sv L az O, sv S aA T, .map (some h)]) (by simp only [sv, bV])<|w5 0 rfl (o' := Cl 57 [sv p i q, sv r j s, sv t k u, sv w l x, sv y m z, sv A n B, sv C o D, sv L az O, sv S aA T, .map (some h)]) (by simp only [sv, bW])<|Tn<|Xm ?_
 have hq := (Option.some.inj hm).symm
 exact jJ ⟨az, aA, bT, bU, a3, a4, a5, a6, rfl, rfl, (d.trans bk), dn, (bV.trans rfl), dp, (bW.trans rfl), dq, dr, hq⟩
 refine Ck<|Xm ?_
 have hq := (Option.some.inj hm).symm
 exact jJ ⟨G, E, U, V, f, e, c, a, rfl, rfl, d, (h5.le d), rfl, (I.le d), rfl, (J.le d), (H.le d), hq⟩
 rintro ak _ _ ⟨al, am, aF, aG, an, ao, aq, ar, rfl, rfl, bl, ds, bm, dt, bn, du, dv, cA⟩
 rw [cA] at g
 have hm := J5 g
 have hm := z2P hm
 refine Cr<|aS rfl<|Te<|Ct ?_
 obtain ⟨rfl, rfl, rfl, rfl, rfl⟩ := q4d hm
 exact rO ⟨ads, an, ao, aq, ar, rfl, rfl, ds, bm, dt, bn, du, dv⟩ bl
theorem q6B (b : Base) (R : Hp) (j k l m n o p g h q r) (ads : Int → Nat) (w x y z A B C D E F G H I J K X Y d Z c9 e i a c) (af : FZ RT.str b.w x y j) (ag : FZ rApiSection b.w z A k) (ah : FZ rApiLink b.w B C l) (ai : FZ rApiSignal b.w D E m) (aj : FZ rApiGate b.w F G n) (ak : FZ j3 b.w H I o) (al : FZ (RT.list z4) b.w J K p) (h5 : OS 59 (OT.fr z7) b.w (sv X g Y) g d) (am : OS 127 (OT.fr z8) b.w (sv Z h c9) h e) (T : OM rI (OT.fr (RT.key ads)) false false b.w i q a) (U : OAr 85 q9 ads b.w r c) (s) (hm : q0y j k l m n o p g h q r = some s):
 CallsG Tryz.prog 31 [pb w] b ((w, Cl 57 [sv x j y, sv z k A, sv B l C, sv D m E, sv F n G, sv H o I, sv J p K, sv X g Y, sv Z h c9, .map (some i)]) :: (d ++ (e ++ (a ++ (c ++ R))))) (fun v b' hp' => ∃ V W t, sv V s W = v ∧ (w, Cl 57 [sv x j y, sv z k A, sv B l C, sv D m E, sv F n G, sv H o I, sv J p K, sv X g Y, sv Z h c9, .map (some i)]) :: (t ++ (d ++ (e ++ (a ++ (c ++ R))))) = hp' ∧ OS 3 (OT.fr rI) b'.w (sv V s W) s t) := by
 refine fE 9 Tryz.func31 rfl Tryz.ntmps31 rfl ?_
 unfold q0y at hm
 refine Cr<|aS rfl<|Te<|Cr<|mV rfl<|tS (sN rfl)<|tS (sF rfl q1h)<|tS (sL 0 rfl q5F rfl rfl) ?_
 obtain ⟨_, L, hm⟩ := bS hm
 refine v5 d e a c<|v5 c d e a<|z5a [] [_] a c (d ++ (e ++ R)) rfl<|Tg _ rfl j0K rfl (z3B _ _ q r ads i a c T U L) ?_
 rintro _ an _ f ⟨aa, rfl, rfl⟩
 refine z5V [_] [_] a c (d ++ (e ++ R)) rfl ?_
 obtain ⟨ab, O, hm⟩ := bS hm
 refine z0B a c<|z0B c a<|z5a [_] [_] a c (d ++ (e ++ R)) rfl<|Tg _ rfl j0L rfl (q7y _ _ q r ads aa i a c (T.le f) (U.le f) ab O) ?_
 rintro _ ao _ S ⟨ac, ad, u, rfl, rfl, ae⟩
 refine z1O [_] [_] u a c (d ++ (e ++ R)) rfl<|aS rfl<|Te<|Ct ?_
 obtain rfl := o1 hm
 exact rO ⟨ac, ad, u, rfl, rfl, ae⟩ (f.trans S)
theorem z3H (b : Base) (R : Hp) (j l m n o p q r h i T s) (ads : Int → Nat) (t u x y z A B C D E F G H I J A3 c4 d A8 c9 e K c a) (ag : FZ RT.str b.w u x l) (ah : FZ rApiSection b.w y z m) (ai : FZ rApiLink b.w A B n) (aj : FZ rApiSignal b.w C D o) (ak : FZ rApiGate b.w E F p) (al : FZ j3 b.w G H q) (am : FZ (RT.list z4) b.w I J r) (h5 : OS 59 (OT.fr z7) b.w (sv A3 h c4) h d) (an : OS 127 (OT.fr z8) b.w (sv A8 i c9) i e) (Y : OM rI (OT.fr (RT.key ads)) false false b.w K T c) (Z : OAr 85 q9 ads b.w s a) (aa L) (hm : q3a j l m n o p q r h i T s = some (aa, L)):
 CallsG Tryz.prog 32 [pb t, iv j] b ((t, Cl 57 [sv u l x, sv y m z, sv A n B, sv C o D, sv E p F, sv G q H, sv I r J, sv A3 h c4, sv A8 i c9, .map (some K)]) :: (d ++ (e ++ (c ++ (a ++ R))))) (fun v b' hp' => ∃ ab ac O, .tuple #[sv ab L ac, iv aa] = v ∧ (t, Cl 57 [sv u l x, sv y m z, sv A n B, sv C o D, sv E p F, sv G q H, sv I r J, sv A3 h c4, sv A8 i c9, .map (some K)]) :: (O ++ (d ++ (e ++ (c ++ (a ++ R))))) = hp' ∧ OS 72 (OT.fr z4) b'.w (sv ab L ac) L O) := by
 refine fE 21 Tryz.func32 rfl Tryz.ntmps32 rfl ?_
 unfold q3a at hm
 refine Cr<|aS rfl<|aS rfl<|Te<|Cs<|Cr<|mV rfl<|mV rfl ?_
 obtain ⟨ao, U, hm⟩ := bS hm
 refine v5 d e c a<|v5 a d e c<|v5 c a d e<|v5 e c a d<|w9 [_] [] d e c a R rfl<|Tg _ rfl z5G rfl (q1L _ _ j l m n o p q r h i T s ads t u x y z A B C D E F G H I J A3 c4 d A8 c9 e K c a ag ah ai aj ak al am h5 an Y Z ao U) ?_
 rintro _ ax _ f ⟨rfl, rfl⟩
 refine K9 [_] [] d e c a R rfl<|tS (sn2 rfl)<|Te<|cM hm rfl (fun hm => ?_) fun hm => ?_
 refine Cr<|aS rfl<|aS rfl<|Te<|Ct<|Xr ?_
 obtain ⟨rfl, rfl⟩ := j9 hm
 exact rT ⟨none, 0, [], rfl, rfl, OS.nil⟩ f
 refine Ck<|Xn<|Cs<|Cr<|mV rfl<|tS (sN rfl)<|tS (sF rfl q1h)<|tS (sL 0 rfl q5F rfl rfl)<|mV rfl ?_
 obtain ⟨V, aq, hm⟩ := bS hm
 have ad := Option.some.inj aq
 obtain ⟨ae, g, af⟩ := OM.lookF z8S (z0 := none) (Y.le f) (key := iv j) (k := j) rfl q3o z2N rfl
 rw [ad] at g
 obtain rfl : ae = kv ads V := by have g : [ae] = [kv ads V] := g; injection g
 refine tS (q4k (ok := false) rfl rfl (fun w ho => af _ w ho (.cons _ (ss d (ss e (List.sublist_append_left _ _)))) false))<|aS rfl<|Te<|Cr<|mV rfl<|tS (z1R rfl rfl z9w)<|Te<|cM hm rfl (fun hm => ?_) fun hm => ?_
 refine Cr<|mV rfl ?_
 obtain ⟨ar, W, hm⟩ := bS hm
 refine v5 d e c a<|q4j [] [_] a (d ++ (e ++ (c ++ R))) rfl<|Tg _ rfl z5E rfl (q2u _ _ V s ads a (Z.le f) ar W) ?_
 rintro _ ay _ X ⟨au, av, S, rfl, rfl, aw⟩
 refine z5V [] [_] S a (d ++ (e ++ (c ++ R))) rfl<|aS rfl<|aS rfl<|Te<|Ct<|Xr ?_
 obtain ⟨rfl, rfl⟩ := j9 hm
 exact rT ⟨au, av, S, rfl, rfl, aw⟩ (f.trans X)
 refine Ck<|Xn<|Cr<|aS rfl<|aS rfl<|Te<|Ct ?_
 obtain ⟨rfl, rfl⟩ := j9 hm
 exact rT ⟨none, 0, [], rfl, rfl, OS.nil⟩ f
theorem z0O (b : Base) (R : Hp) (i s t u) (x : FZ rI b.w t u i) (j) (hm : q4D i s = some j):
 CallsG Tryz.prog 77 [sv t i u, iv s] b (R) (fun v b' hp' => iv j = v ∧ R = hp') := by
 refine fE 19 Tryz.func77 rfl Tryz.ntmps77 rfl ?_
 unfold q4D at hm
 refine Cr<|aS rfl<|Te<|Cs<|Cr<|mV rfl<|tS (sE rfl z4a)<|mV rfl<|Te<|Cb ?_
 have y : i.length ≤ 9223372036854775807 := (FZ.bd x)
 obtain ⟨C, k, d⟩ := bS hm
 refine lF (fun l => fun _ => fun f e' hp' => [(0, sv t i u), (1, iv s), (7, iv ((i.length : Int))), (8, iv ((l : Int)))] = e' ∧ R = hp' ∧ b.Le f) k ⟨rfl, rfl, lr⟩ ?_ ?_
 rintro l _ f _ _ z r ⟨rfl, rfl, a⟩ c e
 unfold q2b at c
 have hm := c
 refine Cr<|tS (lT rfl rfl (by omega))<|Te<|Cs<|j1 rfl<|Ck<|Xn<|Cs<|Cb<|Cr<|mV rfl<|aS rfl<|Te<|Cr<|mV rfl<|mV rfl<|mV rfl ?_
 obtain ⟨D, w, A, m, B, n, g, o, h, hm⟩ := bF (sz := 1) hm (x.le a)
 obtain rfl := n
 refine tS (sI w rfl rfl m h o z4a)<|tS (sO rfl j4 (g 0 _ rfl))<|tS (q1 rfl rfl)<|Te<|cI hm rfl (fun hm => ?_) fun hm => ?_
 refine Cr<|mV rfl<|aS rfl<|Te<|Ct<|Xb<|Xr<|Xr<|Xb<|Xr ?_
 have p := e _ (Option.some.inj hm).symm
 rw [p] at d
 have hm := k8 d
 obtain rfl := o1 hm
 exact rO ⟨rfl, rfl⟩ a
 refine Ck<|Xm<|Xn<|Cg<|tS (sa rfl rfl (by omega))<|mV rfl<|Tn ?_
 exact jM hm ⟨rfl, rfl, (a)⟩
 rintro _ f _ _ ⟨rfl, rfl, a⟩ q
 rw [q] at d
 have hm := J5 d
 refine Cr<|tS (lF rfl rfl (by omega))<|Te<|Cs<|j0 rfl<|Ce<|Xe<|Xe<|Xo<|Xn<|Cr<|aS rfl<|Te<|Ct ?_
 obtain rfl := o1 hm
 exact rO ⟨rfl, rfl⟩ a
end Go.Proofs.YtdbehipjelcmbaaGreatDoor
