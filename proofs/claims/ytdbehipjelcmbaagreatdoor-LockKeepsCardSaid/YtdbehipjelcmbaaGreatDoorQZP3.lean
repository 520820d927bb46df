import Derived.Test.YtdbehipjelcmbaaGreatDoorQZP2
set_option linter.unusedVariables false
set_option linter.unusedSimpArgs false
set_option linter.unusedSectionVars false
namespace Go.Proofs.YtdbehipjelcmbaaGreatDoor
open Go.RowKit Go.Fp
set_option maxHeartbeats 4000000
set_option maxRecDepth 20000
open Go.Fp renaming q4H → Te, q6u → Tn, q5r → Tb, q6F → Tg, q8X → Tv, z4Z → Tr, q6s → Cr, q2J → Cs, q0k → Cg, q6P → Cb, q3X → Ct, q3q → Ck, z1A → Ce, z3y → Cj, j5 → Xn, J3 → Xr, q1M → Xe, q1N → Xb, q0w → Xm, q2A → Xo, q8U → X2, q6U → X3, q6T → X4, q8T → X5, z4W → X6, j0n → Es, z6J → E0, z8N → Ey, j4C → Yz, z4S → Eo, z1G → Dd, z0w → Di, q9z → sL, q6l → sD, q6Y → sF, z1k → sN, z1m → sE, q3h → sM, q1z → sA, q5C → pT, q5D → pF, q0O → sI, q1O → sO, q2U → sP, q1V → sQ, z1n → sa, z5c → sb, q6j → lT, q6k → lF, z1T → eT, z1U → eF, q5E → sn2, z2Q → uB, q7Q → uA, z1L → uS, q4V → uN, q6h → uW, q9q → uP, q9s → uQ, q3Q → fE, q8S → bS, z2S → o1, q5c → iS, q6i → ss, z1Q → sp, q7t → kS, z7A → mc, z7z → mn, q9C → q1, q8t → q2, z1l → q3, j0t → q4, q9A → q5, q9B → q6
theorem z3E (b : Base) (R : Hp) (S O J X Y Z aa ab ac ad T U ci cj) (ads : Int → Nat) (bd af ag ah ai aj ak al am an ao aq ar au av A3 c4 F A8 c9 g ae o l) (eq : FZ RT.str b.w af ag X) (dh : FZ rApiSection b.w ah ai Y) (er : FZ rApiLink b.w aj ak Z) (es : FZ rApiSignal b.w al am aa) (et : FZ rApiGate b.w an ao ab) (eu : FZ j3 b.w aq ar ac) (ev : FZ (RT.list z4) b.w au av ad) (h5 : OS 59 (OT.fr z7) b.w (sv A3 T c4) T F) (ew : OS 127 (OT.fr z8) b.w (sv A8 U c9) U g) (a2 : OM rI (OT.fr (RT.key ads)) false false b.w ae ci o) (a3 : OAr 85 q9 ads b.w cj l) (ck a8 cl cm) (hm : q2X S O J X Y Z aa ab ac ad T U ci cj = some (ck, a8, cl, cm)):
 CallsG Tryz.prog 20 [pb bd, iv S, iv O, iv J] b ((bd, Cl 57 [sv af X ag, sv ah Y ai, sv aj Z ak, sv al aa am, sv an ab ao, sv aq ac ar, sv au ad av, sv A3 T c4, sv A8 U c9, .map (some ae)]) :: (F ++ (g ++ (o ++ (l ++ R))))) (fun v b' hp' => ∃ bR bT bU, iv ck = v ∧ (bd, Cl 57 [sv af X ag, sv ah Y ai, sv aj Z ak, sv al aa am, sv an ab ao, sv aq ac ar, sv au ad av, sv A3 a8 c4, sv A8 U c9, .map (some ae)]) :: (bR ++ (g ++ (bT ++ (bU ++ R)))) = hp' ∧ OS 59 (OT.fr z7) b'.w (sv A3 a8 c4) a8 bR ∧ a8.length = T.length ∧ OM rI (OT.fr (RT.key ads)) false false b'.w ae cl bT ∧ OAr 85 q9 ads b'.w cm bU) := by
 refine fE 145 Tryz.func20 rfl Tryz.ntmps20 rfl ?_
 unfold q2X at hm
 refine Cr<|aS rfl<|Te<|Cs<|Cb<|Cr<|mV rfl<|mV rfl ?_
 obtain ⟨cn, co, hm⟩ := bS hm
 refine v5 F g o l<|v5 l F g o<|v5 o l F g<|v5 g o l F<|w9 [_] [] F g o l R rfl<|Tg _ rfl q8w rfl (q1i _ _ S X Y Z aa ab ac ad T U ci cj ads bd af ag ah ai aj ak al am an ao aq ar au av A3 c4 F A8 c9 g ae o l eq dh er es et eu ev h5 ew a2 a3 cn co) ?_
 rintro _ gx _ a ⟨rfl, rfl⟩
 refine K9 [_] [] F g o l R rfl ?_
 rcases Bool.eq_false_or_eq_true cn with aM | aM
 rw [if_pos aM] at hm
 refine Tr 18 rfl (v' := .bool true) (by rw [aM] <;> rfl)<|tS (Z4 rfl)<|mV rfl<|yS<|mV rfl<|yS<|mV rfl<|yS ?_
 obtain ⟨ex, cp, hm⟩ := bS hm
 refine v5 F g o l<|v5 l F g o<|v5 o l F g<|v5 g o l F<|w9 [_] [] F g o l R rfl<|Tg _ rfl q8w rfl (q1i _ _ O X Y Z aa ab ac ad T U ci cj ads bd af ag ah ai aj ak al am an ao aq ar au av A3 c4 F A8 c9 g ae o l (eq.le a) (dh.le a) (er.le a) (es.le a) (et.le a) (eu.le a) (ev.le a) (h5.le a) (ew.le a) (a2.le a) (a3.le a) ex cp) ?_
 rintro _ gy _ e ⟨rfl, rfl⟩
 refine K9 [_] [] F g o l R rfl<|yS<|tS (sn2 rfl)<|tS (pF rfl rfl)<|aS rfl<|Te<|cM hm rfl (fun hm => ?_) fun hm => ?_
 refine Cr<|aS rfl<|Te<|Ct<|Xb<|Xr ?_
 obtain ⟨rfl, rfl, rfl, rfl⟩ := q6G hm
 have zz := a.trans e
 have di := h5.le zz
 have dj := a2.le zz
 have dk := a3.le zz
 exact rO ⟨F, o, l, rfl, rfl, di, rfl, dj, dk⟩ zz
 refine Cr<|mV rfl<|mV rfl<|mV rfl ?_
 obtain ⟨ey, cq, hm⟩ := bS hm
 have zy := a.trans e
 refine v5 F g o l<|v5 l F g o<|v5 o l F g<|v5 g o l F<|w9 [_] [] F g o l R rfl<|Tg _ rfl j3H rfl (z0X _ _ S O X Y Z aa ab ac ad T U ci cj ads bd af ag ah ai aj ak al am an ao aq ar au av A3 c4 F A8 c9 g ae o l (eq.le zy) (dh.le zy) (er.le zy) (es.le zy) (et.le zy) (eu.le zy) (ev.le zy) (h5.le zy) (ew.le zy) (a2.le zy) (a3.le zy) ey cq) ?_
 rintro _ cr _ k ⟨rfl, rfl⟩
 refine K9 [_] [] F g o l R rfl<|tS (sn2 rfl)<|aS rfl<|Te<|cM hm rfl (fun hm => ?_) fun hm => ?_
 refine Cr<|aS rfl<|Te<|Ct<|Xb<|Xr ?_
 obtain ⟨rfl, rfl, rfl, rfl⟩ := q6G hm
 have zx := a.trans (e.trans k)
 have dl := h5.le zx
 have dm := a2.le zx
 have dn := a3.le zx
 exact rO ⟨F, o, l, rfl, rfl, dl, rfl, dm, dn⟩ zx
 refine Cr<|mV rfl<|Tb rfl (q3 rfl rfl) (fun be => ?_) (fun be => ?_)
 rw [if_pos be] at hm
 refine mV rfl<|nO<|nO<|tS (pT rfl rfl)<|aS rfl<|Te<|j1 rfl<|Cr<|aS rfl<|Te<|Ct<|Xb<|Xr ?_
 obtain ⟨rfl, rfl, rfl, rfl⟩ := q6G hm
 have zw := a.trans (e.trans k)
 have dp := h5.le zw
 have dq := a2.le zw
 have dr := a3.le zw
 exact rO ⟨F, o, l, rfl, rfl, dp, rfl, dq, dr⟩ zw
 rw [if_neg be] at hm
 refine mV rfl<|yS<|mV rfl<|yS<|tS (q5 rfl rfl)<|tS (pF rfl rfl)<|aS rfl<|Te<|cI hm rfl (fun hm => ?_) fun hm => ?_
 refine Cr<|aS rfl<|Te<|Ct<|Xb<|Xr ?_
 obtain ⟨rfl, rfl, rfl, rfl⟩ := q6G hm
 have zv := a.trans (e.trans k)
 have ds := h5.le zv
 have dt := a2.le zv
 have du := a3.le zv
 exact rO ⟨F, o, l, rfl, rfl, ds, rfl, dt, du⟩ zv
 refine Ck<|Xm<|Xn<|Cs ?_
 obtain ⟨f, ez, hm⟩ := bS hm
 obtain ⟨gz, eA, hm⟩ := bS hm
 refine Di Q5 (.refl _)<|E0 0 rfl (sM rfl)<|E0 1 rfl (sN rfl)<|E0 2 rfl (sF rfl Q6)<|Es 3 rfl (sL 0 rfl q1v rfl rfl)<|E0 4 rfl (sM rfl) ?_
 obtain ⟨ct, bf, bg⟩ := iS ez
 have zu := a.trans (e.trans k)
 obtain ⟨fB, fC, gA, gB, fD, dv, bA, I, cu, fF, fk⟩ := OS.get (sz := 5) rfl (by decide) (h5.le zu) bg
 obtain ⟨⟨_, _, rfl, rfl, ⟨_, _, rfl, rfl, ⟨_, _, rfl, rfl, ⟨_, _, rfl, rfl, rfl⟩⟩⟩⟩, rfl⟩ := dv
 refine E0 5 rfl (sI ct rfl rfl bf cu I q4e)<|E0 6 rfl (sM rfl)<|E0 7 rfl (sN rfl)<|E0 8 rfl (sF rfl Q6)<|Es 9 rfl (sL 0 rfl q1v rfl rfl)<|E0 10 rfl (sM rfl) ?_
 obtain ⟨bB, dw, dx⟩ := iS eA
 obtain ⟨fG, fH, gC, gD, fI, dy, cv, bh, cw, fJ, fl⟩ := OS.get (sz := 5) rfl (by decide) (h5.le zu) dx
 obtain ⟨⟨_, _, rfl, rfl, ⟨_, _, rfl, rfl, ⟨_, _, rfl, rfl, ⟨_, _, rfl, rfl, rfl⟩⟩⟩⟩, rfl⟩ := dy
 refine E0 11 rfl (sI bB rfl rfl dw cw bh q4e)<|E0 12 rfl (sA rfl)<|E0 13 rfl (sA rfl)<|Eo<|Dd (by kernel_rfl)<|Xn<|Cs<|Cb<|Cr<|mV rfl<|tS (j6 rfl bh)<|tS (sQ rfl bh q2s)<|tS (z9 rfl j4 (fun w ho => cv w _ ho (.cons _ (List.sublist_append_left _ _)) 0 _ rfl))<|mV rfl ?_
 obtain ⟨_, bC, hm⟩ := bS hm
 have bC := (kS bC).2
 refine tS (sa rfl rfl bC)<|tS (q5 rfl rfl)<|aS rfl<|Te<|cI hm rfl (fun hm => ?_) fun hm => ?_
 refine Cr<|aS rfl<|Te<|Ct<|Xb<|Xr ?_
 obtain ⟨rfl, rfl, rfl, rfl⟩ := q6G hm
 have dz := h5.le zu
 have dA := a2.le zu
 have dB := a3.le zu
 exact rO ⟨F, o, l, rfl, rfl, dz, rfl, dA, dB⟩ zu
 refine Cr<|mV rfl<|tS (j6 rfl I)<|tS (sQ rfl I q2s)<|tS (z9 rfl j4 (fun w ho => bA w _ ho (.cons _ (List.sublist_append_left _ _)) 0 _ rfl))<|mV rfl<|tS (q6 rfl rfl)<|aS rfl<|Te<|cI hm rfl (fun hm => ?_) fun hm => ?_
 refine Cg<|mV rfl<|tS (j6 rfl I)<|tS (sQ rfl I q2s)<|tS (z9 rfl j4 (fun w ho => bA w _ ho (.cons _ (List.sublist_append_left _ _)) 0 _ rfl))<|mV rfl ?_
 obtain ⟨_, bD, hm⟩ := bS hm
 have bD := (kS bD).2
 have zt := a.trans (e.trans k)
 refine tS (sb rfl rfl bD)<|tS (j6 rfl I)<|tS (sQ rfl I q2s)<|tD (uP bf (sz := 5) (a' := (⟨f.axles - J, f.disturbed, f.position, f.moving, f.failed⟩ : LockBody)) rfl [_] (g ++ (o ++ (l ++ R))) 0 1 [iv (f.axles - J)] rfl (h5.le zt) bg rfl rfl rfl z0D rfl (mc rfl mn) (fun cs hsj hh => by obtain ⟨⟨_, _, rfl, rfl, ⟨_, _, rfl, rfl, ⟨_, _, rfl, rfl, ⟨_, _, rfl, rfl, rfl⟩⟩⟩⟩, rfl⟩ := hh; exact ⟨by first | decide | exact Nat.le_refl _, ⟨[iv (f.axles - J)], _, rfl, rfl, ⟨[bv f.disturbed], _, rfl, rfl, ⟨[iv f.position], _, rfl, rfl, ⟨[iv f.moving], _, rfl, rfl, rfl⟩⟩⟩⟩, rfl⟩)) ?_
 rintro _ _ ⟨fK, rfl, cx⟩
 refine w5 0 rfl (o' := Cl 57 [sv af X ag, sv ah Y ai, sv aj Z ak, sv al aa am, sv an ab ao, sv aq ac ar, sv au ad av, .slice A3 (put T S (⟨f.axles - J, f.disturbed, f.position, f.moving, f.failed⟩ : LockBody)).length c4, sv A8 U c9, .map (some ae)]) (by simp only [sv, z6])<|Tn<|Xm<|Xn<|Cr ?_
 obtain ⟨p, eB, hm⟩ := bS hm
 obtain ⟨eC, dC, bV⟩ := iS eB
 obtain rfl : bB = eC := by omega
 obtain ⟨fL, fM, gE, gF, fN, dD, cy, a4, fm, fO, fn⟩ := OS.get (sz := 5) rfl (by decide) cx bV
 obtain ⟨⟨_, _, rfl, rfl, ⟨_, _, rfl, rfl, ⟨_, _, rfl, rfl, ⟨_, _, rfl, rfl, rfl⟩⟩⟩⟩, rfl⟩ := dD
 refine mV rfl<|tS (j6 rfl a4)<|tS (sQ rfl a4 q2s)<|tS (z9 rfl j4 (fun w ho => cy w _ ho (.cons _ (List.sublist_append_left _ _)) 0 _ rfl))<|mV rfl ?_
 obtain ⟨_, bE, hm⟩ := bS hm
 have bE := (kS bE).2
 refine tS (sa rfl rfl bE)<|tS (j6 rfl a4)<|tS (sQ rfl a4 q2s)<|tD (uP dC (sz := 5) (a' := (⟨p.axles + J, p.disturbed, p.position, p.moving, p.failed⟩ : LockBody)) rfl [_] (g ++ (o ++ (l ++ R))) 0 1 [iv (p.axles + J)] rfl cx bV rfl rfl rfl z0D rfl (mc rfl mn) (fun cs hsj hh => by obtain ⟨⟨_, _, rfl, rfl, ⟨_, _, rfl, rfl, ⟨_, _, rfl, rfl, ⟨_, _, rfl, rfl, rfl⟩⟩⟩⟩, rfl⟩ := hh; exact ⟨by first | decide | exact Nat.le_refl _, ⟨[iv (p.axles + J)], _, rfl, rfl, ⟨[bv p.disturbed], _, rfl, rfl, ⟨[iv p.position], _, rfl, rfl, ⟨[iv p.moving], _, rfl, rfl, rfl⟩⟩⟩⟩, rfl⟩)) ?_
 rintro _ _ ⟨h, rfl, eD⟩
 refine w5 0 rfl (o' := Cl 57 [sv af X ag, sv ah Y ai, sv aj Z ak, sv al aa am, sv an ab ao, sv aq ac ar, sv au ad av, .slice A3 (put (put T S (⟨f.axles - J, f.disturbed, f.position, f.moving, f.failed⟩ : LockBody)) O (⟨p.axles + J, p.disturbed, p.position, p.moving, p.failed⟩ : LockBody)).length c4, sv A8 U c9, .map (some ae)]) (by simp only [sv, z6])<|Te<|Cs<|Cr<|mV rfl<|tS (sN rfl)<|tS (sF rfl q1h)<|tS (sL 0 rfl q5F rfl rfl)<|z6S h g o<|tD (q7P [_] (h ++ (g ++ (l ++ R))) rfl (a2.le zt) q3o rfl) ?_
 rintro _ _ ⟨bi, a5, rfl, rfl, eE⟩
 refine Te<|Cb<|H6 a5 h g l<|H6 l a5 h g<|H6 g l a5 h<|H6 h g l a5 ?_
 obtain ⟨gG, dE, bW⟩ := bS hm
 refine z1z (fun cz => fun bj e' hp' => ∃ B, [(2, iv O), (103, pb bi)] = e' ∧ (bd, Cl 57 [sv af X ag, sv ah Y ai, sv aj Z ak, sv al aa am, sv an ab ao, sv aq ac ar, sv au ad av, .slice A3 (put (put T S (⟨f.axles - J, f.disturbed, f.position, f.moving, f.failed⟩ : LockBody)) O (⟨p.axles + J, p.disturbed, p.position, p.moving, p.failed⟩ : LockBody)).length c4, sv A8 U c9, .map (some ae)]) :: (h ++ (g ++ (B ++ R))) = hp' ∧ cr.Le bj ∧ OAr 85 q9 ads bj.w cz B) dE eE (e' := [(2, iv O), (103, pb bi)]) ⟨rfl, rfl, trivial⟩ [_] (h ++ (g ++ (l ++ R))) rfl (.refl _) ⟨l, rfl, rfl, lr, (a3.le zt)⟩ ?_
 rintro cz gH bj _ _ bX ⟨B, rfl, rfl, aN, bG⟩ fo cA hd2597 hall2598
 refine z6C [_] bX (h ++ (g ++ (B ++ R))) ?_ rfl
 refine Cr<|z1i [_] (h ++ (g ++ (B ++ R))) rfl rfl rfl cA (fun hnil2600 => ?_) (fun bk gI gJ gK m hperm2606 dF eG => ?_)
 obtain ⟨bY, cg, eH⟩ := MIt.done cA
 refine q8s [_] bX bY (h ++ (g ++ (B ++ R))) rfl cg ?_
 have hend2612 := hd2597 hnil2600
 refine tS (z5 rfl rfl)<|Te<|Cs<|j0 rfl<|Ce<|Xe<|Xe<|Xo ?_
 rw [hend2612] at bW
 have hm := J5 bW
 refine Xn<|Cr<|aS rfl<|Te<|Ct ?_
 obtain ⟨rfl, rfl, rfl, rfl⟩ := q6G hm
 have dH := eD.le aN
 exact rO ⟨h, bY, B, rfl, rfl, dH, ((z6 _ _ _).trans ((z6 _ _ _).trans rfl)), eH, bG⟩ (a.trans (e.trans (k.trans aN)))
 obtain ⟨gL, a9, fg⟩ := hall2598 _ _ hperm2606
 have aY := a9
 unfold V4 at aY
 have hm := aY
 refine tS (z5 rfl rfl)<|Te<|Cs<|j1 rfl<|Ck<|Xn<|Cb<|Cr ?_
 obtain ⟨cC, cD, bl, bm, dI⟩ := MIx.entry Tryz.prog dF
 obtain rfl : cC = iv bk.1 := by have bl : [cC] = [iv bk.1] := bl; injection bl
 obtain rfl : cD = kv ads bk.2 := by have bm : [cD] = [kv ads bk.2] := bm; injection bm
 refine tS (dI (.cons _ (List.sublist_append_left _ _)) rfl)<|tS (z5 rfl rfl)<|aS rfl<|Te<|Cr<|mV rfl ?_
 obtain ⟨aW, bH, hm⟩ := bS hm
 obtain ⟨bI, eI, hm⟩ := bS hm
 refine Tr 12 rfl (v' := .pointer (some ⟨(ads aW), 0, none⟩)) (by rw [bH]; rfl)<|Tr 107 rfl (v' := .pointer (some ⟨(ads aW), 0, none⟩)) (by rw [bH]; rfl)<|Tr 108 rfl (v' := .pointer (some ⟨(ads aW), 0, none⟩)) (by rw [bH]; rfl) ?_
 obtain ⟨fP, fQ, aO, bZ, dJ, hf2631⟩ := OAr.take bG eI
 obtain ⟨eJ, eK, gM, gN, gO, gP, aP, gQ, gR, aQ, rfl, cE, gS, gT, gU, rfl⟩ := dJ
 refine v5 m h g B<|q1y [_] B aO aP aQ (m ++ (h ++ (g ++ R))) rfl bZ<|tS (sN rfl)<|tS (sF rfl q1U)<|tS (sF rfl q0j)<|tS (sL 0 rfl q3J rfl rfl)<|tS (sE rfl q6w)<|mV rfl<|Te<|Cb<|q5T aP aQ aO<|q5T aO aP aQ<|q5T aQ aO aP<|z3z [_] B aO aP aQ (m ++ (h ++ (g ++ R))) rfl bZ ?_
 have fR : bI.Route.Steps.length ≤ 9223372036854775807 := (FZ.bd cE)
 refine H6 B m h g<|H6 g B m h<|H6 h g B m ?_
 obtain ⟨bn, dK, dL⟩ := bS hm
 refine lS (fun K => fun bn => fun bo e' hp' => ∃ z, [(2, iv O), (12, kv ads (some aW)), (103, pb bi), (112, sv eJ bI.Route.Steps eK), (113, iv ((bI.Route.Steps.length : Int))), (114, iv ((K : Int)))] = e' ∧ (bd, Cl 57 [sv af X ag, sv ah Y ai, sv aj Z ak, sv al aa am, sv an ab ao, sv aq ac ar, sv au ad av, .slice A3 (put (put T S (⟨f.axles - J, f.disturbed, f.position, f.moving, f.failed⟩ : LockBody)) O (⟨p.axles + J, p.disturbed, p.position, p.moving, p.failed⟩ : LockBody)).length c4, sv A8 U c9, .map (some ae)]) :: (m ++ (h ++ (g ++ (z ++ R)))) = hp' ∧ bj.Le bo ∧ OAr 85 q9 ads bo.w bn z) dK ⟨B, rfl, rfl, lr, bG⟩ ?_ ?_
 rintro K bn bo _ _ fS fh ⟨z, rfl, rfl, G, ba⟩ aZ
 unfold q0G at aZ
 have hm := aZ
 refine Cr<|tS (lT rfl rfl (by omega))<|Te<|Cs<|j1 rfl<|Ck<|Xn<|Cs<|Cb<|Cr<|mV rfl ?_
 obtain ⟨bJ, eL, fT, dM, fU, dN, cG, b0, cH, hm⟩ := bF (sz := 3) hm (cE.le G)
 obtain ⟨_, _, rfl, rfl, ⟨_, _, rfl, rfl, rfl⟩⟩ := dN
 refine tS (sI eL rfl rfl dM cH b0 q6w)<|tS (sP (vs := [iv bJ.Section, iv bJ.In, iv bJ.Out]) 3 rfl q3r b0 rfl (fun j u hu => cG j u hu))<|tD (uA [iv 0, iv 0, iv 0] q3G rfl) ?_
 rintro _ _ ⟨gV, rfl, rfl⟩
 refine aS rfl<|tD (uN (vs := [_, _, _]) 0 3 rfl rfl rfl q5t rfl (mc rfl (mc rfl (mc rfl mn))) rfl (by simp)) ?_
 rintro _ _ rfl
 refine Te<|Cr<|tS (sF rfl Q2)<|tS (sL 0 rfl j4 rfl rfl)<|mV rfl<|Tb rfl (q1 rfl rfl) (fun bp => ?_) (fun bp => ?_)
 rw [if_pos bp] at hm
 refine mV rfl<|yS<|mV rfl<|yS ?_
 obtain ⟨c, eM, hm⟩ := bS hm
 obtain ⟨fV, fW, x, b1, dO, hf2824⟩ := OAr.take ba eM
 obtain ⟨aw, ax, ay, az, aA, aB, V, aC, aD, s, rfl, cJ, cK, cO, bK, rfl⟩ := dO
 refine Q4 m h g z<|q1y [_, _] z x V s (m ++ (h ++ (g ++ R))) rfl b1<|tS (sN rfl)<|yS<|tS (sF rfl q8i)<|yS<|tS (sL 0 rfl q4C rfl rfl)<|yS<|mV rfl<|yS ?_
 obtain ⟨gW, eO, hm⟩ := bS hm
 obtain ⟨eP, dP, dQ⟩ := iS eO
 obtain ⟨fX, fY, gX, gY, fZ, dR, cP, dS, cQ, f0, fp⟩ := OS.get (sz := 1) rfl (by decide) bK dQ
 obtain ⟨rfl, rfl⟩ := dR
 refine tS (sI eP rfl rfl dP cQ dS q8E)<|yS<|tS (z9 rfl q4b (fun w ho => cP w _ ho (.cons _ (.cons _ (.cons _ (ss V (List.sublist_append_left _ _))))) 0 _ rfl))<|yS<|tS (sn2 rfl)<|tS (pT rfl rfl)<|Te<|cM hm rfl (fun hm => ?_) fun hm => ?_
 refine Cr<|mV rfl<|tS (sN rfl)<|tS (sF rfl q1T)<|tS (sL 0 rfl q4C rfl rfl)<|mV rfl ?_
 obtain ⟨gZ, eQ, hm⟩ := bS hm
 obtain ⟨eR, b2, b3⟩ := iS eQ
 obtain ⟨f1, f2, g0, g1, f3, dT, fq, dU, cR, f4, fr⟩ := OS.get (sz := 1) rfl (by decide) cO b3
 obtain ⟨rfl, rfl⟩ := dT
 refine tS (sI eR rfl rfl b2 cR dU q8E)<|tD (uP b2 (sz := 1) (a' := true) rfl [_, _, _] (s ++ (x ++ (m ++ (h ++ (g ++ R))))) 0 1 [bv true] rfl cO b3 rfl rfl rfl z1o rfl (mc rfl mn) (fun cs hsj hh => by obtain ⟨rfl, rfl⟩ := hh; exact ⟨by first | decide | exact Nat.le_refl _, rfl, rfl⟩)) ?_
 rintro _ _ ⟨D, rfl, cT⟩
 refine w5 0 rfl (o' := Cl 85 [iv c.Route.From, iv c.Route.To, sv aw c.Route.Steps ax, sv ay c.needs az, .slice aA (put c.seen (K : Int) true).length aB, sv aC c.gone aD, bv c.laps, bv c.sight, iv c.leave, iv c.clock, iv c.number]) (by simp only [sv, z6])<|Te<|Cr<|mV rfl<|tS (q1 rfl rfl)<|Te<|cI hm rfl (fun hm => ?_) fun hm => ?_
 refine Cg<|mV rfl<|tS (sN rfl)<|tS (sF rfl q5f)<|tD (uS 0 rfl rfl z0D rfl rfl (by simp)) ?_
 rintro _ _ rfl
 refine Tn<|Xm<|Xn<|Cg<|tS (sa rfl rfl (by omega))<|mV rfl<|Tn<|V8 D s x<|V8 x D s<|V8 s x D ?_
 have eS := hf2824 _ [iv c.Route.From, iv c.Route.To, sv aw c.Route.Steps ax, sv ay c.needs az, .slice aA (put c.seen (K : Int) true).length aB, sv aC c.gone aD, bv c.laps, bv c.sight, iv 0, iv c.clock, iv c.number] (⟨c.Route, c.needs, put c.seen (K : Int) true, c.gone, c.laps, c.sight, 0, c.clock, c.number⟩ : LockLocked) _ lr ⟨aw, ax, ay, az, aA, aB, D, aC, aD, s, rfl, cJ, cK, cT, bK, rfl⟩
 refine q9p [_, _] x D s (m ++ (h ++ (g ++ R))) rfl ?_
 obtain rfl := o1 hm
 exact jS ⟨(x ++ (((ads aW), Cl 85 [iv c.Route.From, iv c.Route.To, sv aw c.Route.Steps ax, sv ay c.needs az, .slice aA (put c.seen (K : Int) true).length aB, sv aC c.gone aD, bv c.laps, bv c.sight, iv 0, iv c.clock, iv c.number]) :: (D ++ s))), rfl, rfl, (G), eS⟩
 refine Ck<|Xm<|Xn<|Cg<|tS (sa rfl rfl (by omega))<|mV rfl<|Tn<|V8 D s x<|V8 x D s<|V8 s x D ?_
 have eU := hf2824 _ [iv c.Route.From, iv c.Route.To, sv aw c.Route.Steps ax, sv ay c.needs az, .slice aA (put c.seen (K : Int) true).length aB, sv aC c.gone aD, bv c.laps, bv c.sight, iv c.leave, iv c.clock, iv c.number] (⟨c.Route, c.needs, put c.seen (K : Int) true, c.gone, c.laps, c.sight, c.leave, c.clock, c.number⟩ : LockLocked) _ lr ⟨aw, ax, ay, az, aA, aB, D, aC, aD, s, rfl, cJ, cK, cT, bK, rfl⟩
 refine q9p [_, _] x D s (m ++ (h ++ (g ++ R))) rfl ?_
 obtain rfl := o1 hm
 exact jS ⟨(x ++ (((ads aW), Cl 85 [iv c.Route.From, iv c.Route.To, sv aw c.Route.Steps ax, sv ay c.needs az, .slice aA (put c.seen (K : Int) true).length aB, sv aC c.gone aD, bv c.laps, bv c.sight, iv c.leave, iv c.clock, iv c.number]) :: (D ++ s))), rfl, rfl, (G), eU⟩
 refine Ck<|Xm<|Xn<|Cg<|tS (sa rfl rfl (by omega))<|mV rfl<|Tn<|V8 V s x<|V8 x V s<|V8 s x V<|q1X [_, _] z x V s (m ++ (h ++ (g ++ R))) rfl b1 ?_
 obtain rfl := o1 hm
 exact jS ⟨z, rfl, rfl, (G), ba⟩
 rw [if_neg bp] at hm
 refine mV rfl<|nO<|nO<|nO<|nO<|nO<|nO<|nO<|nO<|tS (pF rfl rfl)<|Te<|j0 rfl<|Ck<|Xm<|Xn<|Cg<|tS (sa rfl rfl (by omega))<|mV rfl<|Tn ?_
 obtain rfl := o1 hm
 exact jS ⟨z, rfl, rfl, (G), ba⟩
 rintro bo _ _ ⟨z, rfl, rfl, G, ba⟩
 have hm := dL
 refine Cr<|tS (lF rfl rfl (by omega))<|Te<|Cs<|j0 rfl<|Ce<|Xe<|Xe<|Xo<|Xm<|q5y m h g z<|q5y z m h g<|q5y g z m h<|q5y h g z m ?_
 have cU := aN.trans G
 exact q9o (s' := bn) [_] (h ++ (g ++ (z ++ R))) rfl hperm2606 (a9.trans (Option.some.inj hm ▸ rfl)) cU (eG.le G) (e' := [(2, iv O), (103, pb bi)]) ⟨rfl, rfl, trivial⟩ (.refl _) ⟨z, rfl, rfl, ((aN.trans G)), ba⟩
 refine Cr<|mV rfl<|tS (sN rfl)<|tS (sF rfl q5g)<|tS (sF rfl P7)<|tS (sL 0 rfl q4K rfl rfl)<|mV rfl ?_
 have zs := a.trans (e.trans k)
 obtain ⟨g2, eV, f5, dV, f6, dW, cV, b4, cW, hm⟩ := bF (sz := 7) hm (dh.le zs)
 obtain ⟨_, _, rfl, rfl, ⟨_, _, rfl, rfl, ⟨_, _, rfl, rfl, ⟨_, _, rfl, rfl, ⟨_, _, rfl, rfl, ⟨_, _, rfl, rfl, rfl⟩⟩⟩⟩⟩⟩ := dW
 refine tS (sI eV rfl rfl dV cW b4 z0y)<|tS (sQ rfl b4 z7R)<|tS (sO rfl q4b (cV 6 _ rfl))<|tS (sn2 rfl)<|aS rfl<|Te<|cM hm rfl (fun hm => ?_) fun hm => ?_
 refine Cr<|aS rfl<|Te<|Ct<|Xb<|Xr ?_
 obtain ⟨rfl, rfl, rfl, rfl⟩ := q6G hm
 have dX := h5.le zs
 have dY := a2.le zs
 have dZ := a3.le zs
 exact rO ⟨F, o, l, rfl, rfl, dX, rfl, dY, dZ⟩ zs
 have zr := a.trans (e.trans k)
 refine Cg<|mV rfl<|mV rfl<|tS (j6 rfl I)<|tS (sQ rfl I q2s)<|tD (uP bf (sz := 5) (a' := (⟨0, f.disturbed, f.position, f.moving, f.failed⟩ : LockBody)) rfl [_] (g ++ (o ++ (l ++ R))) 0 1 [iv 0] rfl (h5.le zr) bg rfl rfl rfl z0D rfl (mc rfl mn) (fun cs hsj hh => by obtain ⟨⟨_, _, rfl, rfl, ⟨_, _, rfl, rfl, ⟨_, _, rfl, rfl, ⟨_, _, rfl, rfl, rfl⟩⟩⟩⟩, rfl⟩ := hh; exact ⟨by first | decide | exact Nat.le_refl _, ⟨[iv 0], _, rfl, rfl, ⟨[bv f.disturbed], _, rfl, rfl, ⟨[iv f.position], _, rfl, rfl, ⟨[iv f.moving], _, rfl, rfl, rfl⟩⟩⟩⟩, rfl⟩)) ?_
 rintro _ _ ⟨f7, rfl, cX⟩
 refine w5 0 rfl (o' := Cl 57 [sv af X ag, sv ah Y ai, sv aj Z ak, sv al aa am, sv an ab ao, sv aq ac ar, sv au ad av, .slice A3 (put T S (⟨0, f.disturbed, f.position, f.moving, f.failed⟩ : LockBody)).length c4, sv A8 U c9, .map (some ae)]) (by simp only [sv, z6]) ?_
 obtain ⟨r, eW, hm⟩ := bS hm
 obtain ⟨eX, d0, b5⟩ := iS eW
 obtain rfl : ct = eX := by omega
 obtain ⟨f8, f9, g3, g4, ga, d1, fs, b6, ft, gb, fu⟩ := OS.get (sz := 5) rfl (by decide) cX b5
 obtain ⟨⟨_, _, rfl, rfl, ⟨_, _, rfl, rfl, ⟨_, _, rfl, rfl, ⟨_, _, rfl, rfl, rfl⟩⟩⟩⟩, rfl⟩ := d1
 refine tS (j6 rfl b6)<|tS (sQ rfl b6 q8j)<|tD (uP d0 (sz := 5) (a' := (⟨r.axles, true, r.position, r.moving, r.failed⟩ : LockBody)) rfl [_] (g ++ (o ++ (l ++ R))) 1 1 [bv true] rfl cX b5 rfl rfl rfl z1o rfl (mc rfl mn) (fun cs hsj hh => by obtain ⟨⟨_, _, rfl, rfl, ⟨_, _, rfl, rfl, ⟨_, _, rfl, rfl, ⟨_, _, rfl, rfl, rfl⟩⟩⟩⟩, rfl⟩ := hh; exact ⟨by first | decide | exact Nat.le_refl _, ⟨[iv r.axles], _, rfl, rfl, ⟨[bv true], _, rfl, rfl, ⟨[iv r.position], _, rfl, rfl, ⟨[iv r.moving], _, rfl, rfl, rfl⟩⟩⟩⟩, rfl⟩)) ?_
 rintro _ _ ⟨gc, rfl, cY⟩
 refine w5 0 rfl (o' := Cl 57 [sv af X ag, sv ah Y ai, sv aj Z ak, sv al aa am, sv an ab ao, sv aq ac ar, sv au ad av, .slice A3 (put (put T S (⟨0, f.disturbed, f.position, f.moving, f.failed⟩ : LockBody)) S (⟨r.axles, true, r.position, r.moving, r.failed⟩ : LockBody)).length c4, sv A8 U c9, .map (some ae)]) (by simp only [sv, z6])<|Tn<|Xm<|Xn<|Cr ?_
 obtain ⟨q, eY, hm⟩ := bS hm
 obtain ⟨e0, d5, b7⟩ := iS eY
 obtain rfl : bB = e0 := by omega
 obtain ⟨gd, ge, g5, g6, gf, d6, cZ, a6, fv, gg, fw⟩ := OS.get (sz := 5) rfl (by decide) cY b7
 obtain ⟨⟨_, _, rfl, rfl, ⟨_, _, rfl, rfl, ⟨_, _, rfl, rfl, ⟨_, _, rfl, rfl, rfl⟩⟩⟩⟩, rfl⟩ := d6
 refine mV rfl<|tS (j6 rfl a6)<|tS (sQ rfl a6 q2s)<|tS (z9 rfl j4 (fun w ho => cZ w _ ho (.cons _ (List.sublist_append_left _ _)) 0 _ rfl))<|mV rfl ?_
 obtain ⟨_, bL, hm⟩ := bS hm
 have bL := (kS bL).2
 refine tS (sa rfl rfl bL)<|tS (j6 rfl a6)<|tS (sQ rfl a6 q2s)<|tD (uP d5 (sz := 5) (a' := (⟨q.axles + J, q.disturbed, q.position, q.moving, q.failed⟩ : LockBody)) rfl [_] (g ++ (o ++ (l ++ R))) 0 1 [iv (q.axles + J)] rfl cY b7 rfl rfl rfl z0D rfl (mc rfl mn) (fun cs hsj hh => by obtain ⟨⟨_, _, rfl, rfl, ⟨_, _, rfl, rfl, ⟨_, _, rfl, rfl, ⟨_, _, rfl, rfl, rfl⟩⟩⟩⟩, rfl⟩ := hh; exact ⟨by first | decide | exact Nat.le_refl _, ⟨[iv (q.axles + J)], _, rfl, rfl, ⟨[bv q.disturbed], _, rfl, rfl, ⟨[iv q.position], _, rfl, rfl, ⟨[iv q.moving], _, rfl, rfl, rfl⟩⟩⟩⟩, rfl⟩)) ?_
 rintro _ _ ⟨i, rfl, e1⟩
 refine w5 0 rfl (o' := Cl 57 [sv af X ag, sv ah Y ai, sv aj Z ak, sv al aa am, sv an ab ao, sv aq ac ar, sv au ad av, .slice A3 (put (put (put T S (⟨0, f.disturbed, f.position, f.moving, f.failed⟩ : LockBody)) S (⟨r.axles, true, r.position, r.moving, r.failed⟩ : LockBody)) O (⟨q.axles + J, q.disturbed, q.position, q.moving, q.failed⟩ : LockBody)).length c4, sv A8 U c9, .map (some ae)]) (by simp only [sv, z6])<|Te<|Cs<|Cr<|mV rfl<|tS (sN rfl)<|tS (sF rfl q1h)<|tS (sL 0 rfl q5F rfl rfl)<|z6S i g o<|tD (q7P [_] (i ++ (g ++ (l ++ R))) rfl (a2.le zr) q3o rfl) ?_
 rintro _ _ ⟨bq, a7, rfl, rfl, e2⟩
 refine Te<|Cb<|H6 a7 i g l<|H6 l a7 i g<|H6 g l a7 i<|H6 i g l a7 ?_
 obtain ⟨g7, d7, b8⟩ := bS hm
 refine z1z (fun c0 => fun br e' hp' => ∃ C, [(2, iv O), (103, pb bq)] = e' ∧ (bd, Cl 57 [sv af X ag, sv ah Y ai, sv aj Z ak, sv al aa am, sv an ab ao, sv aq ac ar, sv au ad av, .slice A3 (put (put (put T S (⟨0, f.disturbed, f.position, f.moving, f.failed⟩ : LockBody)) S (⟨r.axles, true, r.position, r.moving, r.failed⟩ : LockBody)) O (⟨q.axles + J, q.disturbed, q.position, q.moving, q.failed⟩ : LockBody)).length c4, sv A8 U c9, .map (some ae)]) :: (i ++ (g ++ (C ++ R))) = hp' ∧ cr.Le br ∧ OAr 85 q9 ads br.w c0 C) d7 e2 (e' := [(2, iv O), (103, pb bq)]) ⟨rfl, rfl, trivial⟩ [_] (i ++ (g ++ (l ++ R))) rfl (.refl _) ⟨l, rfl, rfl, lr, (a3.le zr)⟩ ?_
 rintro c0 g8 br _ _ b9 ⟨C, rfl, rfl, aR, bM⟩ fx c1 hd3495 hall3496
 refine z6C [_] b9 (i ++ (g ++ (C ++ R))) ?_ rfl
 refine Cr<|z1i [_] (i ++ (g ++ (C ++ R))) rfl rfl rfl c1 (fun hnil3498 => ?_) (fun bs g9 ha hb n hperm3504 d8 e3 => ?_)
 obtain ⟨ca, ch, e4⟩ := MIt.done c1
 refine q8s [_] b9 ca (i ++ (g ++ (C ++ R))) rfl ch ?_
 have hend3510 := hd3495 hnil3498
 refine tS (z5 rfl rfl)<|Te<|Cs<|j0 rfl<|Ce<|Xe<|Xe<|Xo ?_
 rw [hend3510] at b8
 have hm := J5 b8
 refine Xn<|Cr<|aS rfl<|Te<|Ct ?_
 obtain ⟨rfl, rfl, rfl, rfl⟩ := q6G hm
 have d9 := e1.le aR
 exact rO ⟨i, ca, C, rfl, rfl, d9, ((z6 _ _ _).trans ((z6 _ _ _).trans ((z6 _ _ _).trans rfl))), e4, bM⟩ (a.trans (e.trans (k.trans aR)))
 obtain ⟨hc, bb, fi⟩ := hall3496 _ _ hperm3504
 have a0 := bb
 unfold q2l at a0
 have hm := a0
 refine tS (z5 rfl rfl)<|Te<|Cs<|j1 rfl<|Ck<|Xn<|Cb<|Cr ?_
 obtain ⟨c2, c3, bt, bu, ea⟩ := MIx.entry Tryz.prog d8
 obtain rfl : c2 = iv bs.1 := by have bt : [c2] = [iv bs.1] := bt; injection bt
 obtain rfl : c3 = kv ads bs.2 := by have bu : [c3] = [kv ads bs.2] := bu; injection bu
 refine tS (ea (.cons _ (List.sublist_append_left _ _)) rfl)<|tS (z5 rfl rfl)<|aS rfl<|Te<|Cr<|mV rfl ?_
 obtain ⟨aX, bN, hm⟩ := bS hm
 obtain ⟨bO, e5, hm⟩ := bS hm
 refine Tr 12 rfl (v' := .pointer (some ⟨(ads aX), 0, none⟩)) (by rw [bN]; rfl)<|Tr 107 rfl (v' := .pointer (some ⟨(ads aX), 0, none⟩)) (by rw [bN]; rfl)<|Tr 108 rfl (v' := .pointer (some ⟨(ads aX), 0, none⟩)) (by rw [bN]; rfl) ?_
 obtain ⟨gh, gi, aT, cb, eb, hf3529⟩ := OAr.take bM e5
 obtain ⟨e6, e7, hd, he, hf, hg, aU, hi, hj, aV, rfl, c5, hk, hl, hn, rfl⟩ := eb
 refine v5 n i g C<|q1y [_] C aT aU aV (n ++ (i ++ (g ++ R))) rfl cb<|tS (sN rfl)<|tS (sF rfl q1U)<|tS (sF rfl q0j)<|tS (sL 0 rfl q3J rfl rfl)<|tS (sE rfl q6w)<|mV rfl<|Te<|Cb<|q5T aU aV aT<|q5T aT aU aV<|q5T aV aT aU<|z3z [_] C aT aU aV (n ++ (i ++ (g ++ R))) rfl cb ?_
 have gj : bO.Route.Steps.length ≤ 9223372036854775807 := (FZ.bd c5)
 refine H6 C n i g<|H6 g C n i<|H6 i g C n ?_
 obtain ⟨bw, ec, ed⟩ := bS hm
 refine lS (fun L => fun bw => fun bx e' hp' => ∃ A, [(2, iv O), (12, kv ads (some aX)), (103, pb bq), (112, sv e6 bO.Route.Steps e7), (113, iv ((bO.Route.Steps.length : Int))), (114, iv ((L : Int)))] = e' ∧ (bd, Cl 57 [sv af X ag, sv ah Y ai, sv aj Z ak, sv al aa am, sv an ab ao, sv aq ac ar, sv au ad av, .slice A3 (put (put (put T S (⟨0, f.disturbed, f.position, f.moving, f.failed⟩ : LockBody)) S (⟨r.axles, true, r.position, r.moving, r.failed⟩ : LockBody)) O (⟨q.axles + J, q.disturbed, q.position, q.moving, q.failed⟩ : LockBody)).length c4, sv A8 U c9, .map (some ae)]) :: (n ++ (i ++ (g ++ (A ++ R)))) = hp' ∧ br.Le bx ∧ OAr 85 q9 ads bx.w bw A) ec ⟨C, rfl, rfl, lr, bM⟩ ?_ ?_
 rintro L bw bx _ _ gk fj ⟨A, rfl, rfl, H, bc⟩ a1
 unfold q4p at a1
 have hm := a1
 refine Cr<|tS (lT rfl rfl (by omega))<|Te<|Cs<|j1 rfl<|Ck<|Xn<|Cs<|Cb<|Cr<|mV rfl ?_
 obtain ⟨bP, e8, gl, ee, gm, ef, c6, cc, c7, hm⟩ := bF (sz := 3) hm (c5.le H)
 obtain ⟨_, _, rfl, rfl, ⟨_, _, rfl, rfl, rfl⟩⟩ := ef
 refine tS (sI e8 rfl rfl ee c7 cc q6w)<|tS (sP (vs := [iv bP.Section, iv bP.In, iv bP.Out]) 3 rfl q3r cc rfl (fun j u hu => c6 j u hu))<|tD (uA [iv 0, iv 0, iv 0] q3G rfl) ?_
 rintro _ _ ⟨hq, rfl, rfl⟩
 refine aS rfl<|tD (uN (vs := [_, _, _]) 0 3 rfl rfl rfl q5t rfl (mc rfl (mc rfl (mc rfl mn))) rfl (by simp)) ?_
 rintro _ _ rfl
 refine Te<|Cr<|tS (sF rfl Q2)<|tS (sL 0 rfl j4 rfl rfl)<|mV rfl<|Tb rfl (q1 rfl rfl) (fun bz => ?_) (fun bz => ?_)
 rw [if_pos bz] at hm
 refine mV rfl<|yS<|mV rfl<|yS ?_
 obtain ⟨d, e9, hm⟩ := bS hm
 obtain ⟨gn, go, y, cd, eg, hf3722⟩ := OAr.take bc e9
 obtain ⟨aE, aF, aG, aH, aI, aJ, W, aK, aL, t, rfl, c8, da, db, bQ, rfl⟩ := eg
 refine Q4 n i g A<|q1y [_, _] A y W t (n ++ (i ++ (g ++ R))) rfl cd<|tS (sN rfl)<|yS<|tS (sF rfl q8i)<|yS<|tS (sL 0 rfl q4C rfl rfl)<|yS<|mV rfl<|yS ?_
 obtain ⟨hr, fa, hm⟩ := bS hm
 obtain ⟨fb, eh, ei⟩ := iS fa
 obtain ⟨gp, gq, hs, ht, gr, ej, dc, ek, dd, gs, fy⟩ := OS.get (sz := 1) rfl (by decide) bQ ei
 obtain ⟨rfl, rfl⟩ := ej
 refine tS (sI fb rfl rfl eh dd ek q8E)<|yS<|tS (z9 rfl q4b (fun w ho => dc w _ ho (.cons _ (.cons _ (.cons _ (ss W (List.sublist_append_left _ _))))) 0 _ rfl))<|yS<|tS (sn2 rfl)<|tS (pT rfl rfl)<|Te<|cM hm rfl (fun hm => ?_) fun hm => ?_
 refine Cr<|mV rfl<|tS (sN rfl)<|tS (sF rfl q1T)<|tS (sL 0 rfl q4C rfl rfl)<|mV rfl ?_
 obtain ⟨hv, fc, hm⟩ := bS hm
 obtain ⟨fd, ce, cf⟩ := iS fc
 obtain ⟨gt, gu, hw, hx, gv, el, fz, em, de, gw, fA⟩ := OS.get (sz := 1) rfl (by decide) db cf
 obtain ⟨rfl, rfl⟩ := el
 refine tS (sI fd rfl rfl ce de em q8E)<|tD (uP ce (sz := 1) (a' := true) rfl [_, _, _] (t ++ (y ++ (n ++ (i ++ (g ++ R))))) 0 1 [bv true] rfl db cf rfl rfl rfl z1o rfl (mc rfl mn) (fun cs hsj hh => by obtain ⟨rfl, rfl⟩ := hh; exact ⟨by first | decide | exact Nat.le_refl _, rfl, rfl⟩)) ?_
 rintro _ _ ⟨E, rfl, df⟩
 refine w5 0 rfl (o' := Cl 85 [iv d.Route.From, iv d.Route.To, sv aE d.Route.Steps aF, sv aG d.needs aH, .slice aI (put d.seen (L : Int) true).length aJ, sv aK d.gone aL, bv d.laps, bv d.sight, iv d.leave, iv d.clock, iv d.number]) (by simp only [sv, z6])<|Te<|Cr<|mV rfl<|tS (q1 rfl rfl)<|Te<|cI hm rfl (fun hm => ?_) fun hm => ?_
 refine Cg<|mV rfl<|tS (sN rfl)<|tS (sF rfl q5f)<|tD (uS 0 rfl rfl z0D rfl rfl (by simp)) ?_
 rintro _ _ rfl
 refine Tn<|Xm<|Xn<|Cg<|tS (sa rfl rfl (by omega))<|mV rfl<|Tn<|V8 E t y<|V8 y E t<|V8 t y E ?_
 have fe := hf3722 _ [iv d.Route.From, iv d.Route.To, sv aE d.Route.Steps aF, sv aG d.needs aH, .slice aI (put d.seen (L : Int) true).length aJ, sv aK d.gone aL, bv d.laps, bv d.sight, iv 0, iv d.clock, iv d.number] (⟨d.Route, d.needs, put d.seen (L : Int) true, d.gone, d.laps, d.sight, 0, d.clock, d.number⟩ : LockLocked) _ lr ⟨aE, aF, aG, aH, aI, aJ, E, aK, aL, t, rfl, c8, da, df, bQ, rfl⟩
 refine q9p [_, _] y E t (n ++ (i ++ (g ++ R))) rfl ?_
 obtain rfl := o1 hm
 exact jS ⟨(y ++ (((ads aX), Cl 85 [iv d.Route.From, iv d.Route.To, sv aE d.Route.Steps aF, sv aG d.needs aH, .slice aI (put d.seen (L : Int) true).length aJ, sv aK d.gone aL, bv d.laps, bv d.sight, iv 0, iv d.clock, iv d.number]) :: (E ++ t))), rfl, rfl, (H), fe⟩
 refine Ck<|Xm<|Xn<|Cg<|tS (sa rfl rfl (by omega))<|mV rfl<|Tn<|V8 E t y<|V8 y E t<|V8 t y E ?_
 have ff := hf3722 _ [iv d.Route.From, iv d.Route.To, sv aE d.Route.Steps aF, sv aG d.needs aH, .slice aI (put d.seen (L : Int) true).length aJ, sv aK d.gone aL, bv d.laps, bv d.sight, iv d.leave, iv d.clock, iv d.number] (⟨d.Route, d.needs, put d.seen (L : Int) true, d.gone, d.laps, d.sight, d.leave, d.clock, d.number⟩ : LockLocked) _ lr ⟨aE, aF, aG, aH, aI, aJ, E, aK, aL, t, rfl, c8, da, df, bQ, rfl⟩
 refine q9p [_, _] y E t (n ++ (i ++ (g ++ R))) rfl ?_
 obtain rfl := o1 hm
 exact jS ⟨(y ++ (((ads aX), Cl 85 [iv d.Route.From, iv d.Route.To, sv aE d.Route.Steps aF, sv aG d.needs aH, .slice aI (put d.seen (L : Int) true).length aJ, sv aK d.gone aL, bv d.laps, bv d.sight, iv d.leave, iv d.clock, iv d.number]) :: (E ++ t))), rfl, rfl, (H), ff⟩
 refine Ck<|Xm<|Xn<|Cg<|tS (sa rfl rfl (by omega))<|mV rfl<|Tn<|V8 W t y<|V8 y W t<|V8 t y W<|q1X [_, _] A y W t (n ++ (i ++ (g ++ R))) rfl cd ?_
 obtain rfl := o1 hm
 exact jS ⟨A, rfl, rfl, (H), bc⟩
 rw [if_neg bz] at hm
 refine mV rfl<|nO<|nO<|nO<|nO<|nO<|nO<|nO<|nO<|tS (pF rfl rfl)<|Te<|j0 rfl<|Ck<|Xm<|Xn<|Cg<|tS (sa rfl rfl (by omega))<|mV rfl<|Tn ?_
 obtain rfl := o1 hm
 exact jS ⟨A, rfl, rfl, (H), bc⟩
 rintro bx _ _ ⟨A, rfl, rfl, H, bc⟩
 have hm := ed
 refine Cr<|tS (lF rfl rfl (by omega))<|Te<|Cs<|j0 rfl<|Ce<|Xe<|Xe<|Xo<|Xm<|q5y n i g A<|q5y A n i g<|q5y g A n i<|q5y i g A n ?_
 have dg := aR.trans H
 exact q9o (s' := bw) [_] (i ++ (g ++ (A ++ R))) rfl hperm3504 (bb.trans (Option.some.inj hm ▸ rfl)) dg (e3.le H) (e' := [(2, iv O), (103, pb bq)]) ⟨rfl, rfl, trivial⟩ (.refl _) ⟨A, rfl, rfl, ((aR.trans H)), bc⟩
 rw [if_neg (fun hh => Bool.noConfusion (hh.symm.trans aM))] at hm
 refine Tr 18 rfl (v' := .bool false) (by rw [aM] <;> rfl)<|tS (V2 rfl)<|mV rfl<|nO<|nO<|nO<|nO<|tS (pT rfl rfl)<|aS rfl<|Te<|j1 rfl<|Cr<|aS rfl<|Te<|Ct<|Xb<|Xr ?_
 obtain ⟨rfl, rfl, rfl, rfl⟩ := q6G hm
 have en := h5.le a
 have eo := a2.le a
 have ep := a3.le a
 exact rO ⟨F, o, l, rfl, rfl, en, rfl, eo, ep⟩ a
theorem z0k (b : Base) (R : Hp) (O j k l m n o p h i X Y) (ads : Int → Nat) (S q r s t u x y z A B C D E F A3 c4 f A8 c9 g G c d) (ar : FZ RT.str b.w q r j) (au : FZ rApiSection b.w s t k) (av : FZ rApiLink b.w u x l) (aw : FZ rApiSignal b.w y z m) (ax : FZ rApiGate b.w A B n) (ay : FZ j3 b.w C D o) (az : FZ (RT.list z4) b.w E F p) (h5 : OS 59 (OT.fr z7) b.w (sv A3 h c4) h f) (aA : OS 127 (OT.fr z8) b.w (sv A8 i c9) i g) (aB : OM rI (OT.fr (RT.key ads)) false false b.w G X c) (aC : OAr 85 q9 ads b.w Y d) (ah H) (hm : q0W O j k l m n o p h i X Y = some (ah, H)):
 CallsG Tryz.prog 21 [pb S, iv O] b ((S, Cl 57 [sv q j r, sv s k t, sv u l x, sv y m z, sv A n B, sv C o D, sv E p F, sv A3 h c4, sv A8 i c9, .map (some G)]) :: (f ++ (g ++ (c ++ (d ++ R))))) (fun v b' hp' => ∃ W, iv ah = v ∧ (S, Cl 57 [sv q j r, sv s k t, sv u l x, sv y m z, sv A n B, sv C o D, sv E p F, sv A3 H c4, sv A8 i c9, .map (some G)]) :: (W ++ (g ++ (c ++ (d ++ R)))) = hp' ∧ OS 59 (OT.fr z7) b'.w (sv A3 H c4) H W ∧ H.length = h.length) := by
 refine fE 26 Tryz.func21 rfl Tryz.ntmps21 rfl ?_
 unfold q0W at hm
 refine Cr<|aS rfl<|Te<|Cs<|Cb<|Cr<|mV rfl<|mV rfl ?_
 obtain ⟨aD, Z, hm⟩ := bS hm
 refine v5 f g c d<|v5 d f g c<|v5 c d f g<|v5 g c d f<|w9 [_] [] f g c d R rfl<|Tg _ rfl q8w rfl (q1i _ _ O j k l m n o p h i X Y ads S q r s t u x y z A B C D E F A3 c4 f A8 c9 g G c d ar au av aw ax ay az h5 aA aB aC aD Z) ?_
 rintro _ aM _ a ⟨rfl, rfl⟩
 refine K9 [_] [] f g c d R rfl<|tS (sn2 rfl)<|aS rfl<|Te<|cM hm rfl (fun hm => ?_) fun hm => ?_
 refine Cr<|aS rfl<|Te<|Ct<|Xb<|Xr ?_
 obtain ⟨rfl, rfl⟩ := j9 hm
 have aa := h5.le a
 exact rO ⟨f, rfl, rfl, aa, rfl⟩ a
 refine Cr<|mV rfl<|tS (sN rfl)<|tS (sF rfl Q6)<|tS (sL 0 rfl q1v rfl rfl)<|mV rfl ?_
 obtain ⟨aN, ai, hm⟩ := bS hm
 obtain ⟨aj, ab, ac⟩ := iS ai
 obtain ⟨aE, aF, aO, aP, aG, ad, T, I, U, aH, an⟩ := OS.get (sz := 5) rfl (by decide) (h5.le a) ac
 obtain ⟨⟨_, _, rfl, rfl, ⟨_, _, rfl, rfl, ⟨_, _, rfl, rfl, ⟨_, _, rfl, rfl, rfl⟩⟩⟩⟩, rfl⟩ := ad
 refine tS (sI aj rfl rfl ab U I q4e)<|tS (sQ rfl I q8j)<|tS (z9 rfl q4b (fun w ho => T w _ ho (.cons _ (List.sublist_append_left _ _)) 1 _ rfl))<|aS rfl<|Te<|cB hm rfl (fun hm => ?_) fun hm => ?_
 refine Cr<|aS rfl<|Te<|Ct<|Xb<|Xr ?_
 obtain ⟨rfl, rfl⟩ := j9 hm
 have ae := h5.le a
 exact rO ⟨f, rfl, rfl, ae, rfl⟩ a
 refine Ck<|Xm<|Xn<|Cr<|mV rfl<|tS (sN rfl)<|tS (sF rfl Q6)<|tS (sL 0 rfl q1v rfl rfl)<|mV rfl ?_
 obtain ⟨e, ak, hm⟩ := bS hm
 obtain ⟨al, J, K⟩ := iS ak
 obtain ⟨aI, aJ, aQ, aR, aK, af, ao, L, V, aL, aq⟩ := OS.get (sz := 5) rfl (by decide) (h5.le a) K
 obtain ⟨⟨_, _, rfl, rfl, ⟨_, _, rfl, rfl, ⟨_, _, rfl, rfl, ⟨_, _, rfl, rfl, rfl⟩⟩⟩⟩, rfl⟩ := af
 refine tS (sI al rfl rfl J V L q4e)<|tS (sQ rfl L q8j)<|tD (uP J (sz := 5) (a' := (⟨e.axles, true, e.position, e.moving, e.failed⟩ : LockBody)) rfl [_] (g ++ (c ++ (d ++ R))) 1 1 [bv true] rfl (h5.le a) K rfl rfl rfl z1o rfl (mc rfl mn) (fun cs hsj hh => by obtain ⟨⟨_, _, rfl, rfl, ⟨_, _, rfl, rfl, ⟨_, _, rfl, rfl, ⟨_, _, rfl, rfl, rfl⟩⟩⟩⟩, rfl⟩ := hh; exact ⟨by first | decide | exact Nat.le_refl _, ⟨[iv e.axles], _, rfl, rfl, ⟨[bv true], _, rfl, rfl, ⟨[iv e.position], _, rfl, rfl, ⟨[iv e.moving], _, rfl, rfl, rfl⟩⟩⟩⟩, rfl⟩)) ?_
 rintro _ _ ⟨ag, rfl, am⟩
 refine w5 0 rfl (o' := Cl 57 [sv q j r, sv s k t, sv u l x, sv y m z, sv A n B, sv C o D, sv E p F, .slice A3 (put h O (⟨e.axles, true, e.position, e.moving, e.failed⟩ : LockBody)).length c4, sv A8 i c9, .map (some G)]) (by simp only [sv, z6])<|Te<|Cr<|aS rfl<|Te<|Ct ?_
 obtain ⟨rfl, rfl⟩ := j9 hm
 exact rO ⟨ag, rfl, rfl, am, ((z6 _ _ _).trans rfl)⟩ a
theorem z2E (b : Base) (R : Hp) (O l m n o p q r i j am an) (ads : Int → Nat) (S t u x y z A B C D E F G H I A3 c4 h A8 c9 g J d e) (aX : FZ RT.str b.w t u l) (aF : FZ rApiSection b.w x y m) (aY : FZ rApiLink b.w z A n) (aZ : FZ rApiSignal b.w B C o) (a0 : FZ rApiGate b.w D E p) (a1 : FZ j3 b.w F G q) (a2 : FZ (RT.list z4) b.w H I r) (h5 : OS 59 (OT.fr z7) b.w (sv A3 i c4) i h) (a3 : OS 127 (OT.fr z8) b.w (sv A8 j c9) j g) (a4 : OM rI (OT.fr (RT.key ads)) false false b.w J am d) (a5 : OAr 85 q9 ads b.w an e) (ak s) (hm : q2h O l m n o p q r i j am an = some (ak, s)):
 CallsG Tryz.prog 22 [pb S, iv O] b ((S, Cl 57 [sv t l u, sv x m y, sv z n A, sv B o C, sv D p E, sv F q G, sv H r I, sv A3 i c4, sv A8 j c9, .map (some J)]) :: (h ++ (g ++ (d ++ (e ++ R))))) (fun v b' hp' => ∃ T, iv ak = v ∧ (S, Cl 57 [sv t l u, sv x m y, sv z n A, sv B o C, sv D p E, sv F q G, sv H r I, sv A3 s c4, sv A8 j c9, .map (some J)]) :: (T ++ (g ++ (d ++ (e ++ R)))) = hp' ∧ OS 59 (OT.fr z7) b'.w (sv A3 s c4) s T ∧ s.length = i.length) := by
 refine fE 42 Tryz.func22 rfl Tryz.ntmps22 rfl ?_
 unfold q2h at hm
 refine Cr<|aS rfl<|Te<|Cs<|Cb<|Cr<|mV rfl<|mV rfl ?_
 obtain ⟨aG, ac, hm⟩ := bS hm
 refine v5 h g d e<|v5 e h g d<|v5 d e h g<|v5 g d e h<|w9 [_] [] h g d e R rfl<|Tg _ rfl q8w rfl (q1i _ _ O l m n o p q r i j am an ads S t u x y z A B C D E F G H I A3 c4 h A8 c9 g J d e aX aF aY aZ a0 a1 a2 h5 a3 a4 a5 aG ac) ?_
 rintro _ aH _ a ⟨rfl, rfl⟩
 refine K9 [_] [] h g d e R rfl<|tS (sn2 rfl)<|aS rfl<|Te<|cM hm rfl (fun hm => ?_) fun hm => ?_
 refine Cr<|aS rfl<|Te<|Ct<|Xb<|Xr ?_
 obtain ⟨rfl, rfl⟩ := j9 hm
 have ao := h5.le a
 exact rO ⟨h, rfl, rfl, ao, rfl⟩ a
 refine Cr<|mV rfl<|tS (sN rfl)<|tS (sF rfl Q6)<|tS (sL 0 rfl q1v rfl rfl)<|mV rfl ?_
 obtain ⟨bk, aI, hm⟩ := bS hm
 obtain ⟨aJ, aq, ar⟩ := iS aI
 obtain ⟨a6, a7, bl, bm, a8, au, ad, U, ae, a9, aQ⟩ := OS.get (sz := 5) rfl (by decide) (h5.le a) ar
 obtain ⟨⟨_, _, rfl, rfl, ⟨_, _, rfl, rfl, ⟨_, _, rfl, rfl, ⟨_, _, rfl, rfl, rfl⟩⟩⟩⟩, rfl⟩ := au
 refine tS (sI aJ rfl rfl aq ae U q4e)<|tS (sQ rfl U q8j)<|tS (z9 rfl q4b (fun w ho => ad w _ ho (.cons _ (List.sublist_append_left _ _)) 1 _ rfl))<|tS (sn2 rfl)<|aS rfl<|Te<|cM hm rfl (fun hm => ?_) fun hm => ?_
 refine Cr<|aS rfl<|Te<|Ct<|Xb<|Xr ?_
 obtain ⟨rfl, rfl⟩ := j9 hm
 have av := h5.le a
 exact rO ⟨h, rfl, rfl, av, rfl⟩ a
 refine Ck<|Xm<|Xn<|Cr<|mV rfl<|tS (sN rfl)<|tS (sF rfl Q6)<|tS (sL 0 rfl q1v rfl rfl)<|mV rfl ?_
 obtain ⟨c, aK, hm⟩ := bS hm
 obtain ⟨al, V, W⟩ := iS aK
 obtain ⟨ba, bb, bn, bo, bc, aw, aR, K, af, bd, aT⟩ := OS.get (sz := 5) rfl (by decide) (h5.le a) W
 obtain ⟨⟨_, _, rfl, rfl, ⟨_, _, rfl, rfl, ⟨_, _, rfl, rfl, ⟨_, _, rfl, rfl, rfl⟩⟩⟩⟩, rfl⟩ := aw
 refine tS (sI al rfl rfl V af K q4e)<|aS rfl<|Te<|Cr<|mV rfl<|tS (j6 rfl K)<|tS (sQ rfl K q8j)<|tD (uP V (sz := 5) (a' := (⟨c.axles, false, c.position, c.moving, c.failed⟩ : LockBody)) rfl [_] (g ++ (d ++ (e ++ R))) 1 1 [bv false] rfl (h5.le a) W rfl rfl rfl z1o rfl (mc rfl mn) (fun cs hsj hh => by obtain ⟨⟨_, _, rfl, rfl, ⟨_, _, rfl, rfl, ⟨_, _, rfl, rfl, ⟨_, _, rfl, rfl, rfl⟩⟩⟩⟩, rfl⟩ := hh; exact ⟨by first | decide | exact Nat.le_refl _, ⟨[iv c.axles], _, rfl, rfl, ⟨[bv false], _, rfl, rfl, ⟨[iv c.position], _, rfl, rfl, ⟨[iv c.moving], _, rfl, rfl, rfl⟩⟩⟩⟩, rfl⟩)) ?_
 rintro _ _ ⟨ax, rfl, X⟩
 refine w5 0 rfl (o' := Cl 57 [sv t l u, sv x m y, sv z n A, sv B o C, sv D p E, sv F q G, sv H r I, .slice A3 (put i O (⟨c.axles, false, c.position, c.moving, c.failed⟩ : LockBody)).length c4, sv A8 j c9, .map (some J)]) (by simp only [sv, z6])<|Te ?_
 obtain ⟨L, ay, az⟩ := bS hm
 refine Cj (fun Y e' hp' => ∃ k, [] = e' ∧ (S, Cl 57 [sv t l u, sv x m y, sv z n A, sv B o C, sv D p E, sv F q G, sv H r I, sv A3 L c4, sv A8 j c9, .map (some J)]) :: (k ++ (g ++ (d ++ (e ++ R)))) = hp' ∧ aH.Le Y ∧ OS 59 (OT.fr z7) Y.w (sv A3 L c4) L k ∧ L.length = i.length) ?_ ?_
 have hm := ay
 refine Cr<|mV rfl<|tS (sN rfl)<|tS (sF rfl q5g)<|tS (sF rfl P7)<|tS (sL 0 rfl q4K rfl rfl)<|mV rfl ?_
 obtain ⟨bp, aL, be, aA, bf, aB, ag, Z, ah, hm⟩ := bF (sz := 7) hm (aF.le a)
 obtain ⟨_, _, rfl, rfl, ⟨_, _, rfl, rfl, ⟨_, _, rfl, rfl, ⟨_, _, rfl, rfl, ⟨_, _, rfl, rfl, ⟨_, _, rfl, rfl, rfl⟩⟩⟩⟩⟩⟩ := aB
 refine tS (sI aL rfl rfl aA ah Z z0y)<|tS (sQ rfl Z z7R)<|tS (sO rfl q4b (ag 6 _ rfl))<|Te<|cB hm rfl (fun hm => ?_) fun hm => ?_
 refine Cg ?_
 obtain ⟨f, aM, hm⟩ := bS hm
 obtain ⟨aN, aC, aa⟩ := iS aM
 obtain rfl : al = aN := by omega
 obtain ⟨bg, bh, bq, br, bi, aD, aU, ab, aV, bj, aW⟩ := OS.get (sz := 5) rfl (by decide) X aa
 obtain ⟨⟨_, _, rfl, rfl, ⟨_, _, rfl, rfl, ⟨_, _, rfl, rfl, ⟨_, _, rfl, rfl, rfl⟩⟩⟩⟩, rfl⟩ := aD
 refine mV rfl<|tS (j6 rfl ab)<|tS (sQ rfl ab q2s)<|tD (uP aC (sz := 5) (a' := (⟨0, f.disturbed, f.position, f.moving, f.failed⟩ : LockBody)) rfl [_] (g ++ (d ++ (e ++ R))) 0 1 [iv 0] rfl X aa rfl rfl rfl z0D rfl (mc rfl mn) (fun cs hsj hh => by obtain ⟨⟨_, _, rfl, rfl, ⟨_, _, rfl, rfl, ⟨_, _, rfl, rfl, ⟨_, _, rfl, rfl, rfl⟩⟩⟩⟩, rfl⟩ := hh; exact ⟨by first | decide | exact Nat.le_refl _, ⟨[iv 0], _, rfl, rfl, ⟨[bv f.disturbed], _, rfl, rfl, ⟨[iv f.position], _, rfl, rfl, ⟨[iv f.moving], _, rfl, rfl, rfl⟩⟩⟩⟩, rfl⟩)) ?_
 rintro _ _ ⟨aE, rfl, aO⟩
 refine w5 0 rfl (o' := Cl 57 [sv t l u, sv x m y, sv z n A, sv B o C, sv D p E, sv F q G, sv H r I, .slice A3 (put (put i O (⟨c.axles, false, c.position, c.moving, c.failed⟩ : LockBody)) O (⟨0, f.disturbed, f.position, f.moving, f.failed⟩ : LockBody)).length c4, sv A8 j c9, .map (some J)]) (by simp only [sv, z6])<|Tn ?_
 obtain rfl := o1 hm
 exact jJ ⟨aE, rfl, rfl, lr, aO, ((z6 _ _ _).trans ((z6 _ _ _).trans rfl))⟩
 refine Ck ?_
 obtain rfl := o1 hm
 exact jJ ⟨ax, rfl, rfl, lr, X, ((z6 _ _ _).trans rfl)⟩
 rintro Y _ _ ⟨k, rfl, rfl, ai, aP, aj⟩
 have hm := az
 refine Cr<|aS rfl<|Te<|Ct ?_
 obtain ⟨rfl, rfl⟩ := j9 hm
 exact rO ⟨k, rfl, rfl, aP, aj⟩ (a.trans ai)
theorem q2T (b : Base) (R : Hp) (T j k l m n o p h i U V) (ads : Int → Nat) (q r s t u w x y z A B C D E F A3 c4 d A8 c9 e G a c) (ae : FZ RT.str b.w r s j) (aa : FZ rApiSection b.w t u k) (af : FZ rApiLink b.w w x l) (ag : FZ rApiSignal b.w y z m) (ah : FZ rApiGate b.w A B n) (ai : FZ j3 b.w C D o) (aj : FZ (RT.list z4) b.w E F p) (h5 : OS 59 (OT.fr z7) b.w (sv A3 h c4) h d) (ak : OS 127 (OT.fr z8) b.w (sv A8 i c9) i e) (al : OM rI (OT.fr (RT.key ads)) false false b.w G U a) (am : OAr 85 q9 ads b.w V c) (ab) (hm : K5 T j k l m n o p h i U V = some ab):
 CallsG Tryz.prog 63 [pb q, iv T] b ((q, Cl 57 [sv r j s, sv t k u, sv w l x, sv y m z, sv A n B, sv C o D, sv E p F, sv A3 h c4, sv A8 i c9, .map (some G)]) :: (d ++ (e ++ (a ++ (c ++ R))))) (fun v b' hp' => bv ab = v ∧ (q, Cl 57 [sv r j s, sv t k u, sv w l x, sv y m z, sv A n B, sv C o D, sv E p F, sv A3 h c4, sv A8 i c9, .map (some G)]) :: (d ++ (e ++ (a ++ (c ++ R)))) = hp') := by
 refine fE 20 Tryz.func63 rfl Tryz.ntmps63 rfl ?_
 unfold K5 at hm
 refine Cr<|aS rfl<|Te ?_
 obtain ⟨ac, W, X⟩ := bS hm
 refine Cj (fun O e' hp' => [(4, bv ac)] = e' ∧ (q, Cl 57 [sv r j s, sv t k u, sv w l x, sv y m z, sv A n B, sv C o D, sv E p F, sv A3 h c4, sv A8 i c9, .map (some G)]) :: (d ++ (e ++ (a ++ (c ++ R)))) = hp' ∧ b.Le O) ?_ ?_
 have hm := W
 refine Cg<|mV rfl<|mV rfl ?_
 obtain ⟨S, I, hm⟩ := bS hm
 refine v5 d e a c<|v5 c d e a<|v5 a c d e<|v5 e a c d<|w9 [_] [] d e a c R rfl<|Tg _ rfl q8w rfl (q1i _ _ T j k l m n o p h i U V ads q r s t u w x y z A B C D E F A3 c4 d A8 c9 e G a c ae aa af ag ah ai aj h5 ak al am S I) ?_
 rintro _ aq _ g ⟨rfl, rfl⟩
 refine K9 [_] [] d e a c R rfl ?_
 rcases Bool.eq_false_or_eq_true S with f | f
 rw [if_pos f] at hm
 refine Tr 7 rfl (v' := .bool true) (by rw [f] <;> rfl)<|mV rfl<|yS<|mV rfl<|yS<|tS (sN rfl)<|yS<|tS (sF rfl q5g)<|yS<|tS (sF rfl P7)<|yS<|tS (sL 0 rfl q4K rfl rfl)<|yS<|mV rfl<|yS ?_
 obtain ⟨ar, ad, an, Y, ao, Z, J, H, K, hm⟩ := bF (sz := 7) hm (aa.le g)
 obtain ⟨_, _, rfl, rfl, ⟨_, _, rfl, rfl, ⟨_, _, rfl, rfl, ⟨_, _, rfl, rfl, ⟨_, _, rfl, rfl, ⟨_, _, rfl, rfl, rfl⟩⟩⟩⟩⟩⟩ := Z
 refine tS (sI ad rfl rfl Y K H z0y)<|yS<|tS (sQ rfl H q3R)<|yS<|tS (sO rfl j4 (J 0 _ rfl))<|yS<|tS (q1 rfl rfl)<|tS (pT rfl rfl)<|aS rfl<|Tn ?_
 obtain rfl := o1 hm
 exact jJ ⟨rfl, rfl, g⟩
 rw [if_neg (fun hh => Bool.noConfusion (hh.symm.trans f))] at hm
 refine Tr 7 rfl (v' := .bool false) (by rw [f] <;> rfl)<|mV rfl<|nO<|nO<|nO<|nO<|nO<|nO<|nO<|nO<|nO<|nO<|tS (pF rfl rfl)<|aS rfl<|Tn ?_
 obtain rfl := o1 hm
 exact jJ ⟨rfl, rfl, g⟩
 rintro O _ _ ⟨rfl, rfl, L⟩
 have hm := X
 refine Ct ?_
 obtain rfl := o1 hm
 exact rO ⟨rfl, rfl⟩ L
theorem Z6 (b : Base) (R : Hp) (d : LockBody) (i) (hm : k9 d = some i):
 CallsG Tryz.prog 64 [.agg #[iv d.axles, bv d.disturbed, iv d.position, iv d.moving, bv d.failed]] b (R) (fun v b' hp' => bv i = v ∧ R = hp') := by
 refine fE 10 Tryz.func64 rfl Tryz.ntmps64 rfl ?_
 unfold k9 at hm
 refine Cr<|tD (uB _ rfl rfl) ?_
 rintro _ _ ⟨j, rfl, rfl⟩
 refine aS rfl<|Te ?_
 obtain ⟨h, e, f⟩ := bS hm
 refine Cj (fun g e' hp' => [(2, bv h)] = e' ∧ R = hp' ∧ b.Le g) ?_ ?_
 have hm := e
 refine Cg<|tS (sF rfl q2s)<|tS (sL 0 rfl j4 rfl rfl)<|Tb rfl (q5 rfl rfl) (fun a => ?_) (fun a => ?_)
 rw [if_pos a] at hm
 refine mV rfl<|nO<|nO<|tS (pT rfl rfl)<|aS rfl<|Tn ?_
 obtain rfl := o1 hm
 exact jJ ⟨rfl, rfl, lr⟩
 rw [if_neg a] at hm
 refine mV rfl<|yS<|tS (sF rfl q8j)<|yS<|tS (sL 0 rfl q4b rfl rfl)<|tS (pF rfl rfl)<|aS rfl<|Tn ?_
 obtain rfl := o1 hm
 exact jJ ⟨rfl, rfl, lr⟩
 rintro g _ _ ⟨rfl, rfl, c⟩
 have hm := f
 refine Ct ?_
 obtain rfl := o1 hm
 exact rO ⟨rfl, rfl⟩ c
theorem q8L (b : Base) (R : Hp) (q4 : (Option Int)) (K : ApiNeed) (l6) (ads : Int → Nat) (k) (h3 : OAr 85 q9 ads b.w l6 k) (s) (hm : q0o q4 K l6 = some s):
 CallsG Tryz.prog 113 [kv ads q4, .agg #[iv K.Kind, iv K.Place, iv K.Position, iv K.At]] b ((k ++ R)) (fun v b' hp' => bv s = v ∧ (k ++ R) = hp') := by
 refine fE 31 Tryz.func113 rfl Tryz.ntmps113 rfl ?_
 unfold q0o at hm
 refine Cr<|tD (uB _ rfl rfl) ?_
 rintro _ _ ⟨au, rfl, rfl⟩
 refine aS rfl<|Te<|Cs<|Cr<|tS (sF rfl P6)<|tS (sL 0 rfl j4 rfl rfl)<|Te<|Cb<|Cr<|tS (q1 rfl rfl)<|aS rfl<|Te<|cI hm rfl (fun hm => ?_) fun hm => ?_
 refine Cr<|mV rfl ?_
 obtain ⟨t, u, hm⟩ := bS hm
 obtain ⟨av, L, hm⟩ := bS hm
 refine Tr 0 rfl (v' := .pointer (some ⟨(ads t), 0, none⟩)) (by rw [u]; rfl)<|Tr 9 rfl (v' := .pointer (some ⟨(ads t), 0, none⟩)) (by rw [u]; rfl) ?_
 obtain ⟨ad, ae, c, l, z, hf142⟩ := OAr.take h3 L
 obtain ⟨aw, ax, ay, az, aA, aB, d, aC, aD, e, rfl, aE, aF, aG, aH, rfl⟩ := z
 refine q1y [_] k c d e R rfl l<|tS (sN rfl)<|tS (sF rfl z2n)<|tS (sL 0 rfl q4b rfl rfl)<|aS rfl<|Te<|Ct<|Xb<|Xr<|Z7 d e c<|Z7 c d e<|Z7 e c d<|q1X [_] k c d e R rfl l ?_
 obtain rfl := o1 hm
 exact rO ⟨rfl, rfl⟩ lr
 refine Cr<|tS (q1 rfl rfl)<|aS rfl<|Te<|cI hm rfl (fun hm => ?_) fun hm => ?_
 refine Cr<|mV rfl ?_
 obtain ⟨x, y, hm⟩ := bS hm
 obtain ⟨aI, O, hm⟩ := bS hm
 refine Tr 0 rfl (v' := .pointer (some ⟨(ads x), 0, none⟩)) (by rw [y]; rfl)<|Tr 15 rfl (v' := .pointer (some ⟨(ads x), 0, none⟩)) (by rw [y]; rfl) ?_
 obtain ⟨af, ag, f, m, A, hf167⟩ := OAr.take h3 O
 obtain ⟨aJ, aK, aL, aM, aN, aO, g, aP, aQ, h, rfl, aR, aT, S, aU, rfl⟩ := A
 refine q1y [_] k f g h R rfl m<|tS (sN rfl)<|tS (sF rfl q1T)<|tS (sL 0 rfl q4C rfl rfl) ?_
 obtain ⟨aV, T, hm⟩ := bS hm
 obtain ⟨U, B, C⟩ := iS T
 obtain ⟨ah, ai, aW, aX, aj, D, o, E, p, ak, ab⟩ := OS.get (sz := 1) rfl (by decide) S C
 obtain ⟨rfl, rfl⟩ := D
 refine tS (sI U rfl rfl B p E q8E)<|tS (z9 rfl q4b (fun w ho => o w _ ho (.cons _ (.cons _ (List.sublist_append_left _ _))) 0 _ rfl))<|tS (sn2 rfl)<|aS rfl<|Te<|Ct<|Xb<|Xr<|Z7 g h f<|Z7 f g h<|Z7 h f g<|q1X [_] k f g h R rfl m ?_
 obtain rfl := o1 hm
 exact rO ⟨rfl, rfl⟩ lr
 refine Ck<|Xm<|Xn<|Cs ?_
 obtain ⟨V, W, hm⟩ := bS hm
 obtain ⟨aY, X, hm⟩ := bS hm
 refine z0e 0 rfl (v' := .pointer (some ⟨(ads V), 0, none⟩)) (by rw [W]; rfl) ?_
 obtain ⟨al, am, i, n, F, hf207⟩ := OAr.take h3 X
 obtain ⟨aZ, a0, a1, a2, a3, a4, a, a5, a6, j, rfl, a7, a8, a9, Y, rfl⟩ := F
 refine q8x [_] k i a j R rfl n ?_
 obtain ⟨ba, Z, hm⟩ := bS hm
 refine Di Q5 (.refl _)<|E0 0 rfl (sM rfl)<|E0 1 rfl (sN rfl)<|E0 2 rfl (sF rfl q8i)<|Es 3 rfl (sL 0 rfl q4C rfl rfl)<|E0 4 rfl (sF rfl z7W)<|Es 5 rfl (sL 1 rfl j4 rfl rfl) ?_
 obtain ⟨aa, G, H⟩ := iS Z
 obtain ⟨an, ao, bb, bc, aq, I, q, J, r, ar, ac⟩ := OS.get (sz := 1) rfl (by decide) Y H
 obtain ⟨rfl, rfl⟩ := I
 refine E0 6 rfl (sI aa rfl rfl G r J q8E)<|Es 7 rfl (z9 rfl q4b (fun w ho => q w _ ho (.cons _ (.cons _ (ss a (List.sublist_append_left _ _)))) 0 _ rfl))<|E0 8 rfl (sn2 rfl)<|E0 9 rfl (sA rfl)<|Eo<|Dd (by kernel_rfl)<|Xn<|Ct<|Z7 a j i<|Z7 i a j<|Z7 j i a<|q1X [_] k i a j R rfl n ?_
 obtain rfl := o1 hm
 exact rO ⟨rfl, rfl⟩ lr
theorem q2u (b : Base) (R : Hp) (q4 : (Option Int)) (l5) (ads : Int → Nat) (e) (h3 : OAr 85 q9 ads b.w l5 e) (q) (hm : V0 q4 l5 = some q):
 CallsG Tryz.prog 76 [kv ads q4] b ((e ++ R)) (fun v b' hp' => ∃ G H y, sv G q H = v ∧ (y ++ (e ++ R)) = hp' ∧ OS 72 (OT.fr z4) b'.w (sv G q H) q y) := by
 refine fE 24 Tryz.func76 rfl Tryz.ntmps76 rfl ?_
 unfold V0 at hm
 refine Cr<|aS rfl<|Te<|Cr<|aS rfl<|Te<|Cs<|Cr<|mV rfl ?_
 obtain ⟨s, I, hm⟩ := bS hm
 obtain ⟨z, X, hm⟩ := bS hm
 refine Tr 0 rfl (v' := .pointer (some ⟨(ads s), 0, none⟩)) (by rw [I]; rfl)<|Tr 6 rfl (v' := .pointer (some ⟨(ads s), 0, none⟩)) (by rw [I]; rfl) ?_
 obtain ⟨af, ag, g, A, O, hf131⟩ := OAr.take h3 X
 obtain ⟨al, am, Y, Z, an, ao, h, aq, ar, k, rfl, au, J, av, aw, rfl⟩ := O
 refine q1y [] e g h k R rfl A<|tS (sN rfl)<|tS (sF rfl j1L)<|tS (sL 0 rfl z2X rfl rfl)<|tS (sE rfl q4J)<|mV rfl<|Te<|Cb<|j1U h k g<|j1U g h k<|j1U k g h<|z3z [] e g h k R rfl A ?_
 have ah : z.needs.length ≤ 9223372036854775807 := (FZ.bd J)
 obtain ⟨n, S, T⟩ := bS hm
 refine lS (fun K => fun n => fun t e' hp' => ∃ o p c, [(0, kv ads (some s)), (3, sv o n p), (9, sv Y z.needs Z), (10, iv ((z.needs.length : Int))), (11, iv ((K : Int)))] = e' ∧ (c ++ (e ++ R)) = hp' ∧ b.Le t ∧ OS 72 (OT.fr z4) t.w (sv o n p) n c) S ⟨none, 0, [], rfl, rfl, lr, OS.nil⟩ ?_ ?_
 rintro K n t _ _ ai aa ⟨o, p, c, rfl, rfl, d, x⟩ m
 unfold F4 at m
 have hm := m
 refine Cr<|tS (lT rfl rfl (by omega))<|Te<|Cs<|j1 rfl<|Ck<|Xn<|Cs<|Cb<|Cr ?_
 obtain ⟨a, ab, aj, U, ak, V, D, B, E, hm⟩ := bF (sz := 4) hm (J.le d)
 obtain ⟨_, _, rfl, rfl, ⟨_, _, rfl, rfl, ⟨_, _, rfl, rfl, rfl⟩⟩⟩ := V
 refine tS (sI ab rfl rfl U E B q4J)<|tS (sP (vs := [iv a.Kind, iv a.Place, iv a.Position, iv a.At]) 4 rfl Y1 B rfl (fun j u hu => D j u hu))<|tD (uA [iv 0, iv 0, iv 0, iv 0] q4F rfl) ?_
 rintro _ _ ⟨ax, rfl, rfl⟩
 refine tD (uN (vs := [_, _, _, _]) 0 4 rfl rfl rfl q6Z rfl (mc rfl (mc rfl (mc rfl (mc rfl mn)))) rfl (by simp)) ?_
 rintro _ _ rfl
 refine Te<|Cr<|mV rfl<|tS (sD (vs := [_, _, _, _]) 0 4 rfl Y1 rfl rfl rfl) ?_
 obtain ⟨ac, F, hm⟩ := bS hm
 refine j1k c e<|q4j [] [_] e (c ++ R) rfl<|Tg _ rfl j2l rfl (q8L _ _ (some s) a l5 ads e (h3.le d) ac F) ?_
 rintro _ ay _ f ⟨rfl, rfl⟩
 refine q4c [] [_] e (c ++ R) rfl<|Te<|cB hm rfl (fun hm => ?_) fun hm => ?_
 refine Cg<|mV rfl<|tS (sD (vs := [_, _, _, _]) 0 4 rfl Y1 rfl rfl rfl)<|tD (Z3 (el := 72) [(0, .agg #[iv a.Kind, iv a.Place, iv a.Position, iv a.At])] [iv a.Kind, iv a.Place, iv a.Position, iv a.At] rfl (fun _ => by kernel_rfl)) ?_
 rintro _ _ ⟨az, rfl, rfl⟩
 obtain ⟨_, C, hm⟩ := bS hm
 have C := Q9 C
 refine z0B e c<|tD (uQ (r := z4) (l := n) [_, _] (e ++ R) [[iv a.Kind, iv a.Place, iv a.Position, iv a.At]] [a] rfl (by decide) q4J z9H rfl rfl rfl rfl (x.le f) rfl (fun w ho => Rd.own (i := 0) ho rfl) ⟨⟨[iv a.Kind], _, rfl, rfl, ⟨[iv a.Place], _, rfl, rfl, ⟨[iv a.Position], _, rfl, rfl, rfl⟩⟩⟩, trivial⟩ C) ?_
 rintro _ _ ⟨W, rfl, L⟩
 obtain ⟨ad, ae, rfl, _⟩ := L.form
 refine aS rfl<|Tn<|Xm<|Xn<|Cg<|tS (sa rfl rfl (by omega))<|mV rfl<|Tn ?_
 obtain rfl := o1 hm
 exact jS ⟨ad, ae, W, rfl, rfl, ((d.trans f)), L⟩
 refine Ck<|Xm<|Xn<|Cg<|tS (sa rfl rfl (by omega))<|mV rfl<|Tn ?_
 obtain rfl := o1 hm
 exact jS ⟨o, p, c, rfl, rfl, ((d.trans f)), (x.le f)⟩
 rintro t _ _ ⟨o, p, c, rfl, rfl, d, x⟩
 have hm := T
 refine Cr<|tS (lF rfl rfl (by omega))<|Te<|Cs<|j0 rfl<|Ce<|Xe<|Xe<|Xo<|Xn<|Cr<|mV rfl<|aS rfl<|Te<|Ct ?_
 obtain rfl := o1 hm
 exact rO ⟨o, p, c, rfl, rfl, x⟩ d
theorem q7G (b : Base) (R : Hp) (J A B C D E F G o p aR aT) (ads : Int → Nat) (K L O S T U V W X Y Z aa ab ac ad A3 c4 d A8 c9 e q am a) (bG : FZ RT.str b.w L O A) (bH : FZ rApiSection b.w S T B) (bI : FZ rApiLink b.w U V C) (bJ : FZ rApiSignal b.w W X D) (bK : FZ rApiGate b.w Y Z E) (bL : FZ j3 b.w aa ab F) (bM : FZ (RT.list z4) b.w ac ad G) (h5 : OS 59 (OT.fr z7) b.w (sv A3 o c4) o d) (bN : OS 127 (OT.fr z8) b.w (sv A8 p c9) p e) (bl : OM rI (OT.fr (RT.key ads)) false false b.w q aR am) (bm : OAr 85 q9 ads b.w aT a) (aG aH) (hm : V5 J A B C D E F G o p aR aT = some (aG, aH)):
 CallsG Tryz.prog 65 [pb K, iv J] b ((K, Cl 57 [sv L A O, sv S B T, sv U C V, sv W D X, sv Y E Z, sv aa F ab, sv ac G ad, sv A3 o c4, sv A8 p c9, .map (some q)]) :: (d ++ (e ++ (am ++ (a ++ R))))) (fun v b' hp' => ∃ an, bv aG = v ∧ (K, Cl 57 [sv L A O, sv S B T, sv U C V, sv W D X, sv Y E Z, sv aa F ab, sv ac G ad, sv A3 o c4, sv A8 p c9, .map (some q)]) :: (d ++ (e ++ (an ++ (a ++ R)))) = hp' ∧ OM rI (OT.fr (RT.key ads)) false false b'.w q aH an) := by
 refine fE 45 Tryz.func65 rfl Tryz.ntmps65 rfl ?_
 unfold V5 at hm
 refine Cr<|aS rfl<|Te ?_
 obtain ⟨a9, aU, r⟩ := bS hm
 refine Cj (fun ao e' hp' => ∃ (aq : (List (Int × (Option Int)))), ∃ s, [] = e' ∧ (K, Cl 57 [sv L A O, sv S B T, sv U C V, sv W D X, sv Y E Z, sv aa F ab, sv ac G ad, sv A3 o c4, sv A8 p c9, .map (some q)]) :: (d ++ (e ++ (s ++ (a ++ R)))) = hp' ∧ b.Le ao ∧ OM rI (OT.fr (RT.key ads)) false false ao.w q aq s ∧ a9 = .inl aq) ?_ ?_
 have hm := aU
 refine Cr<|mV rfl<|tS (sN rfl)<|tS (sF rfl q1h)<|tS (sL 0 rfl q5F rfl rfl)<|z6S d e am<|tD (q7P [_] (d ++ (e ++ (a ++ R))) rfl bl q3o rfl) ?_
 rintro _ _ ⟨H, t, rfl, rfl, ba⟩
 refine Te<|Cb<|H6 t d e a<|H6 a t d e<|H6 e a t d<|H6 d e a t ?_
 obtain ⟨bt, aV, x⟩ := bS hm
 refine z1z (fun _ => fun aI e' hp' => [(1, iv J), (13, pb H)] = e' ∧ (K, Cl 57 [sv L A O, sv S B T, sv U C V, sv W D X, sv Y E Z, sv aa F ab, sv ac G ad, sv A3 o c4, sv A8 p c9, .map (some q)]) :: (d ++ (e ++ (a ++ R))) = hp' ∧ b.Le aI) aV ba (e' := [(1, iv J), (13, pb H)]) ⟨rfl, rfl, trivial⟩ [_] (d ++ (e ++ (a ++ R))) rfl (.refl _) ⟨rfl, rfl, lr⟩ ?_
 rintro _ bu aI _ _ ar ⟨rfl, rfl, h⟩ bj aJ hd783 hall784
 refine z6C [_] ar (d ++ (e ++ (a ++ R))) ?_ rfl
 refine Cr<|z1i [_] (d ++ (e ++ (a ++ R))) rfl rfl rfl aJ (fun hnil786 => ?_) (fun I bw bx bz c hperm792 aW aK => ?_)
 obtain ⟨au, av, bb⟩ := MIt.done aJ
 refine q8s [_] ar au (d ++ (e ++ (a ++ R))) rfl av ?_
 have hend798 := hd783 hnil786
 refine tS (z5 rfl rfl)<|Te<|Cs<|j0 rfl<|Ce<|Xe<|Xe<|Xo ?_
 rw [hend798] at x
 have hm := J5 x
 have hq := (Option.some.inj hm).symm
 exact jJ ⟨aR, au, rfl, rfl, h, bb, hq⟩
 obtain ⟨bA, m, aw⟩ := hall784 _ _ hperm792
 have k := m
 unfold K2 at k
 have hm := k
 refine tS (z5 rfl rfl)<|Te<|Cs<|j1 rfl<|Ck<|Xn<|Cb<|Cr ?_
 obtain ⟨aL, aM, ae, af, aX⟩ := MIx.entry Tryz.prog aW
 obtain rfl : aL = iv I.1 := by have ae : [aL] = [iv I.1] := ae; injection ae
 obtain rfl : aM = kv ads I.2 := by have af : [aM] = [kv ads I.2] := af; injection af
 refine tS (aX (.cons _ (List.sublist_append_left _ _)) rfl)<|tS (z5 rfl rfl)<|aS rfl<|Te<|Cr<|mV rfl ?_
 obtain ⟨n, aB, hm⟩ := bS hm
 refine v5 c d e a<|q4j [] [_] a (c ++ (d ++ (e ++ R))) rfl<|Tg _ rfl z5E rfl (q2u _ _ I.2 aT ads a (bm.le h) n aB) ?_
 rintro _ bc _ i ⟨aN, aO, f, rfl, rfl, aP⟩
 refine z5V [] [_] f a (c ++ (d ++ (e ++ R))) rfl<|tS (sE rfl q4J)<|mV rfl<|Te<|Cb ?_
 have bn : n.length ≤ 9223372036854775807 := (OS.len aP)
 refine j3x f a<|K0 a f c d e<|K0 e a f c d<|H6 d e a f<|K0 f d e a c ?_
 obtain ⟨bB, aY, y⟩ := bS hm
 refine lF (fun ax => fun _ => fun aj e' hp' => [(1, iv J), (13, pb H), (19, sv aN n aO), (20, iv ((n.length : Int))), (21, iv ((ax : Int)))] = e' ∧ (K, Cl 57 [sv L A O, sv S B T, sv U C V, sv W D X, sv Y E Z, sv aa F ab, sv ac G ad, sv A3 o c4, sv A8 p c9, .map (some q)]) :: (c ++ (f ++ (d ++ (e ++ (a ++ R))))) = hp' ∧ bc.Le aj) aY ⟨rfl, rfl, lr⟩ ?_ ?_
 rintro ax _ aj _ _ bo bd ⟨rfl, rfl, g⟩ l al
 unfold q0e at l
 have hm := l
 refine Cr<|tS (lT rfl rfl (by omega))<|Te<|Cs<|j1 rfl<|Ck<|Xn<|Cs<|Cb<|Cr ?_
 obtain ⟨ak, be, hm⟩ := bS hm
 obtain ⟨bf, aZ, a0⟩ := iS be
 obtain ⟨bp, bq, bC, bD, br, a1, aC, ay, aD, bs, bk⟩ := OS.get (sz := 4) rfl (by decide) (aP.le g) a0
 obtain ⟨⟨_, _, rfl, rfl, ⟨_, _, rfl, rfl, ⟨_, _, rfl, rfl, rfl⟩⟩⟩, rfl⟩ := a1
 refine tS (sI bf rfl rfl aZ aD ay q4J)<|tS (j8 (vs := [iv ak.Kind, iv ak.Place, iv ak.Position, iv ak.At]) 4 rfl Y1 ay rfl (fun w ho j u hu => aC w _ ho (.cons _ (ss c (List.sublist_append_left _ _))) j u hu))<|tD (uA [iv 0, iv 0, iv 0, iv 0] q4F rfl) ?_
 rintro _ _ ⟨bE, rfl, rfl⟩
 refine tD (uN (vs := [_, _, _, _]) 0 4 rfl rfl rfl q6Z rfl (mc rfl (mc rfl (mc rfl (mc rfl mn)))) rfl (by simp)) ?_
 rintro _ _ rfl
 refine Te ?_
 obtain ⟨bg, a2, a3⟩ := bS hm
 refine Cj (fun aQ e' hp' => [(1, iv J), (13, pb H), (19, sv aN n aO), (20, iv ((n.length : Int))), (21, iv ((ax : Int))), (43, bv bg)] = e' ∧ (K, Cl 57 [sv L A O, sv S B T, sv U C V, sv W D X, sv Y E Z, sv aa F ab, sv ac G ad, sv A3 o c4, sv A8 p c9, .map (some q)]) :: (c ++ (f ++ (d ++ (e ++ (a ++ R))))) = hp' ∧ aj.Le aQ) ?_ ?_
 have hm := a2
 refine Cg<|tS (sF rfl q2r)<|tS (sL 0 rfl j4 rfl rfl)<|mV rfl<|Tb rfl (q1 rfl rfl) (fun ag => ?_) (fun ag => ?_)
 rw [if_pos ag] at hm
 refine mV rfl<|yS<|tS (sF rfl P6)<|yS<|tS (sL 0 rfl j4 rfl rfl)<|yS<|Tb rfl (q1 rfl rfl) (fun ah => ?_) (fun ah => ?_)
 rw [if_pos ah] at hm
 refine yS<|mV rfl<|nO<|nO<|nO<|yS<|tS (pT rfl rfl)<|yS<|mV rfl<|nO<|nO<|nO<|yS<|tS (pT rfl rfl)<|tS (pT rfl rfl)<|Tn ?_
 obtain rfl := o1 hm
 exact jJ ⟨rfl, rfl, lr⟩
 rw [if_neg ah] at hm
 refine yS<|mV rfl<|yS<|tS (sF rfl P6)<|yS<|tS (sL 0 rfl j4 rfl rfl)<|yS<|Tb rfl (q1 rfl rfl) (fun ai => ?_) (fun ai => ?_)
 rw [if_pos ai] at hm
 refine yS<|tS (pF rfl rfl)<|yS<|mV rfl<|nO<|nO<|nO<|yS<|tS (pT rfl rfl)<|tS (pT rfl rfl)<|Tn ?_
 obtain rfl := o1 hm
 exact jJ ⟨rfl, rfl, lr⟩
 rw [if_neg ai] at hm
 refine yS<|tS (pF rfl rfl)<|yS<|mV rfl<|yS<|tS (sF rfl P6)<|yS<|tS (sL 0 rfl j4 rfl rfl)<|yS<|tS (q1 rfl rfl)<|yS<|tS (pF rfl rfl)<|tS (pT rfl rfl)<|Tn ?_
 obtain rfl := o1 hm
 exact jJ ⟨rfl, rfl, lr⟩
 rw [if_neg ag] at hm
 refine mV rfl<|nO<|nO<|nO<|nO<|nO<|nO<|nO<|nO<|nO<|nO<|nO<|nO<|nO<|tS (pF rfl rfl)<|Tn ?_
 obtain rfl := o1 hm
 exact jJ ⟨rfl, rfl, lr⟩
 rintro aQ _ _ ⟨rfl, rfl, z⟩
 have hm := a3
 refine cB hm rfl (fun hm => ?_) fun hm => ?_
 refine Cr<|aS rfl<|Te<|Ct<|Xb<|Xr<|Xr<|Xb<|Xb<|Xr<|Xb<|Xr ?_
 have a4 := al _ (Option.some.inj hm).symm
 rw [a4] at y
 have hm := k8 y
 have a5 := aw _ (Option.some.inj hm).symm
 rw [a5] at x
 have hm := k8 x
 have a6 := (Option.some.inj hm).symm
 rw [a6] at r
 have hm := k8 r
 have zz := i.trans (g.trans z)
 obtain ⟨az, aA, bh⟩ := MIt.done (aK.le zz)
 refine z6M [_] c az (f ++ (d ++ (e ++ (a ++ R)))) rfl aA ?_
 obtain ⟨rfl, rfl⟩ := j9 hm
 exact rO ⟨az, rfl, rfl, bh⟩ (h.trans zz)
 refine Ck<|Xm<|Xn<|Cg<|tS (sa rfl rfl (by omega))<|mV rfl<|Tn ?_
 exact jM hm ⟨rfl, rfl, ((g.trans z))⟩
 rintro _ aj _ _ ⟨rfl, rfl, g⟩ a7
 rw [a7] at y
 have hm := J5 y
 refine Cr<|tS (lF rfl rfl (by omega))<|Te<|Cs<|j0 rfl<|Ce<|Xe<|Xe<|Xo<|Xm<|z8X c f d e a<|z8X a c f d e<|z8X e a c f d<|q5y d e a c ?_
 have zy := h.trans (i.trans g)
 have aE := zy
 exact q9o (s' := ()) [_] (d ++ (e ++ (a ++ (f ++ R)))) rfl hperm792 (m.trans (Option.some.inj hm ▸ rfl)) aE (aK.le (i.trans g)) (e' := [(1, iv J), (13, pb H)]) ⟨rfl, rfl, trivial⟩ (.cons_cons _ (sp d (sp e (sp a (ss f (.refl _)))))) ⟨rfl, rfl, (zy)⟩
 rintro ao _ _ ⟨aq, s, rfl, rfl, aF, bi, a8⟩
 rw [a8] at r
 have hm := J5 r
 refine Cr<|aS rfl<|Te<|Ct ?_
 obtain ⟨rfl, rfl⟩ := j9 hm
 exact rO ⟨s, rfl, rfl, bi⟩ aF
theorem z3D (b : Base) (R : Hp) (aa ax s t y z A B C p q aj ak) (ads : Int → Nat) (D E F G H I J K L O S T U V W A3 c4 g A8 c9 k r d e) (aP : FZ RT.str b.w E F s) (aQ : FZ rApiSection b.w G H t) (aR : FZ rApiLink b.w I J y) (aT : FZ rApiSignal b.w K L z) (aU : FZ rApiGate b.w O S A) (aV : FZ j3 b.w T U B) (aW : FZ (RT.list z4) b.w V W C) (h5 : OS 59 (OT.fr z7) b.w (sv A3 p c4) p g) (aX : OS 127 (OT.fr z8) b.w (sv A8 q c9) q k) (X : OM rI (OT.fr (RT.key ads)) false false b.w r aj d) (aY : OAr 85 q9 ads b.w ak e) (ar Y au) (hm : q2W aa ax s t y z A B C p q aj ak = some (ar, Y, au)):
 CallsG Tryz.prog 23 [pb D, iv aa, iv ax] b ((D, Cl 57 [sv E s F, sv G t H, sv I y J, sv K z L, sv O A S, sv T B U, sv V C W, sv A3 p c4, sv A8 q c9, .map (some r)]) :: (g ++ (k ++ (d ++ (e ++ R))))) (fun v b' hp' => ∃ ab ac, iv ar = v ∧ (D, Cl 57 [sv E s F, sv G t H, sv I y J, sv K z L, sv O A S, sv T B U, sv V C W, sv A3 Y c4, sv A8 q c9, .map (some r)]) :: (ab ++ (k ++ (ac ++ (e ++ R)))) = hp' ∧ OS 59 (OT.fr z7) b'.w (sv A3 Y c4) Y ab ∧ Y.length = p.length ∧ OM rI (OT.fr (RT.key ads)) false false b'.w r au ac) := by
 refine fE 56 Tryz.func23 rfl Tryz.ntmps23 rfl ?_
 unfold q2W at hm
 refine Cr<|aS rfl<|Te<|Cs<|Cr<|mV rfl<|mV rfl ?_
 obtain ⟨aZ, al, hm⟩ := bS hm
 refine v5 g k d e<|v5 e g k d<|v5 d e g k<|v5 k d e g<|w9 [_] [] g k d e R rfl<|Tg _ rfl z5H rfl (q2T _ _ aa s t y z A B C p q aj ak ads D E F G H I J K L O S T U V W A3 c4 g A8 c9 k r d e aP aQ aR aT aU aV aW h5 aX X aY aZ al) ?_
 rintro _ a0 _ a ⟨rfl, rfl⟩
 refine K9 [_] [] g k d e R rfl<|tS (sn2 rfl)<|Te<|cM hm rfl (fun hm => ?_) fun hm => ?_
 refine Cr<|aS rfl<|Te<|Ct<|Xr ?_
 obtain ⟨rfl, rfl, rfl⟩ := q3i hm
 have ay := h5.le a
 have az := X.le a
 exact rO ⟨g, d, rfl, rfl, ay, rfl, az⟩ a
 refine Ck<|Xn<|Cr<|mV rfl<|tS (sN rfl)<|tS (sF rfl Q6)<|tS (sL 0 rfl q1v rfl rfl)<|mV rfl ?_
 obtain ⟨f, a1, hm⟩ := bS hm
 obtain ⟨ad, ae, af⟩ := iS a1
 obtain ⟨ba, bb, be, bf, bc, aA, m, i, am, bd, a9⟩ := OS.get (sz := 5) rfl (by decide) (h5.le a) af
 obtain ⟨⟨_, _, rfl, rfl, ⟨_, _, rfl, rfl, ⟨_, _, rfl, rfl, ⟨_, _, rfl, rfl, rfl⟩⟩⟩⟩, rfl⟩ := aA
 refine tS (sI ad rfl rfl ae am i q4e)<|aS rfl<|Te<|Cs<|Cb ?_
 obtain ⟨a2, aB, aC⟩ := bS hm
 refine Cj (fun ag e' hp' => [(0, pb D), (1, iv aa), (2, iv ax), (7, .pointer (Option.map (fun (x : Addr) => x.add (ad * 5)) A3)), (18, bv a2)] = e' ∧ (D, Cl 57 [sv E s F, sv G t H, sv I y J, sv K z L, sv O A S, sv T B U, sv V C W, sv A3 p c4, sv A8 q c9, .map (some r)]) :: (g ++ (k ++ (d ++ (e ++ R)))) = hp' ∧ a0.Le ag) ?_ ?_
 have hm := aB
 refine Cg<|mV rfl<|Tb rfl (q2 rfl rfl) (fun Z => ?_) (fun Z => ?_)
 rw [if_pos Z] at hm
 refine mV rfl<|yS<|mV rfl<|yS<|tS (q2 rfl rfl)<|tS (pT rfl rfl)<|aS rfl<|Tn ?_
 obtain rfl := o1 hm
 exact jJ ⟨rfl, rfl, lr⟩
 rw [if_neg Z] at hm
 refine mV rfl<|nO<|nO<|tS (pF rfl rfl)<|aS rfl<|Tn ?_
 obtain rfl := o1 hm
 exact jJ ⟨rfl, rfl, lr⟩
 rintro ag _ _ ⟨rfl, rfl, c⟩
 have hm := aC
 refine cB hm rfl (fun hm => ?_) fun hm => ?_
 refine Cr<|aS rfl<|Te<|Ct<|Xb<|Xr ?_
 obtain ⟨rfl, rfl, rfl⟩ := q3i hm
 have zz := a.trans c
 have aD := h5.le zz
 have aE := X.le zz
 exact rO ⟨g, d, rfl, rfl, aD, rfl, aE⟩ zz
 refine Cr<|mV rfl<|tS (j6 rfl i)<|tS (sQ rfl i q5O)<|tS (z9 rfl q4b (fun w ho => m w _ (c.back _ _ ho) (.cons _ (List.sublist_append_left _ _)) 4 _ rfl))<|aS rfl<|Te<|cB hm rfl (fun hm => ?_) fun hm => ?_
 refine Cr<|aS rfl<|Te<|Ct<|Xb<|Xr ?_
 obtain ⟨rfl, rfl, rfl⟩ := q3i hm
 have zy := a.trans c
 have aF := h5.le zy
 have aG := X.le zy
 exact rO ⟨g, d, rfl, rfl, aF, rfl, aG⟩ zy
 refine Cr<|mV rfl<|tS (j6 rfl i)<|tS (sQ rfl i q3k)<|tS (z9 rfl j4 (fun w ho => m w _ (c.back _ _ ho) (.cons _ (List.sublist_append_left _ _)) 3 _ rfl))<|tS (q5 rfl rfl)<|aS rfl<|Te<|cI hm rfl (fun hm => ?_) fun hm => ?_
 refine Cr<|aS rfl<|Te<|Ct<|Xb<|Xr ?_
 obtain ⟨rfl, rfl, rfl⟩ := q3i hm
 have zx := a.trans c
 have aH := h5.le zx
 have aI := X.le zx
 exact rO ⟨g, d, rfl, rfl, aH, rfl, aI⟩ zx
 refine Cr<|mV rfl<|tS (j6 rfl i)<|tS (sQ rfl i q3S)<|tS (z9 rfl j4 (fun w ho => m w _ (c.back _ _ ho) (.cons _ (List.sublist_append_left _ _)) 2 _ rfl))<|mV rfl<|tS (q1 rfl rfl)<|aS rfl<|Te<|cI hm rfl (fun hm => ?_) fun hm => ?_
 refine Cr<|aS rfl<|Te<|Ct<|Xb<|Xr ?_
 obtain ⟨rfl, rfl, rfl⟩ := q3i hm
 have zw := a.trans c
 have aJ := h5.le zw
 have aK := X.le zw
 exact rO ⟨g, d, rfl, rfl, aJ, rfl, aK⟩ zw
 obtain ⟨⟨a3, a4⟩, aL, aM⟩ := bS hm
 refine Cj (fun ah e' hp' => ∃ l, [(7, .pointer (Option.map (fun (x : Addr) => x.add (ad * 5)) A3)), (43, bv a3)] = e' ∧ (D, Cl 57 [sv E s F, sv G t H, sv I y J, sv K z L, sv O A S, sv T B U, sv V C W, sv A3 p c4, sv A8 q c9, .map (some r)]) :: (g ++ (k ++ (l ++ (e ++ R)))) = hp' ∧ ag.Le ah ∧ OM rI (OT.fr (RT.key ads)) false false ah.w r a4 l) ?_ ?_
 have hm := aL
 refine Cg<|mV rfl<|tS (j6 rfl i)<|tS (j8 (vs := [iv f.axles, bv f.disturbed, iv f.position, iv f.moving, bv f.failed]) 5 rfl q6S i rfl (fun w ho j u hu => m w _ (c.back _ _ ho) (.cons _ (List.sublist_append_left _ _)) j u hu)) ?_
 obtain ⟨av, an, hm⟩ := bS hm
 refine tD (uW _ q6A rfl (fun w ho => Z6 _ [] f av an) (fun _ _ _ h => h.2.symm)) ?_
 rintro _ _ ⟨⟨_, rfl, _⟩, rfl⟩
 rcases Bool.eq_false_or_eq_true av with o | o
 rw [if_pos o] at hm
 refine Tr 47 rfl (v' := .bool true) (by rw [o] <;> rfl)<|mV rfl<|nO<|nO<|nO<|tS (pT rfl rfl)<|aS rfl<|Tn ?_
 obtain ⟨rfl, rfl⟩ := j9 hm
 exact jJ ⟨d, rfl, rfl, lr, (X.le (a.trans c))⟩
 rw [if_neg (fun hh => Bool.noConfusion (hh.symm.trans o))] at hm
 refine Tr 47 rfl (v' := .bool false) (by rw [o] <;> rfl)<|mV rfl<|yS<|mV rfl<|yS<|mV rfl<|yS ?_
 obtain ⟨⟨a5, a6⟩, ao, hm⟩ := bS hm
 have hm := Q3 hm
 have zv := a.trans c
 refine v5 g k d e<|v5 e g k d<|v5 d e g k<|v5 k d e g<|w9 [_] [] g k d e R rfl<|Tg _ rfl j3G rfl (q7G _ _ aa s t y z A B C p q aj ak ads D E F G H I J K L O S T U V W A3 c4 g A8 c9 k r d e (aP.le zv) (aQ.le zv) (aR.le zv) (aT.le zv) (aU.le zv) (aV.le zv) (aW.le zv) (h5.le zv) (aX.le zv) (X.le zv) (aY.le zv) a5 a6 ao) ?_
 rintro _ bg _ aq ⟨ai, rfl, rfl, a7⟩
 refine K9 [_] [] g k ai e R rfl<|tS (pF rfl rfl)<|aS rfl<|Tn ?_
 obtain ⟨rfl, rfl⟩ := j9 hm
 exact jJ ⟨ai, rfl, rfl, aq, a7⟩
 rintro ah _ _ ⟨l, rfl, rfl, n, aw⟩
 have hm := Q3 aM
 refine cB hm rfl (fun hm => ?_) fun hm => ?_
 refine Cr<|aS rfl<|Te<|Ct<|Xb<|Xr ?_
 obtain ⟨rfl, rfl, rfl⟩ := q3i hm
 have zu := a.trans (c.trans n)
 have aN := h5.le zu
 exact rO ⟨g, l, rfl, rfl, aN, rfl, aw⟩ zu
 have zt := a.trans (c.trans n)
 refine Ck<|Xm<|Xn<|Cr<|mV rfl<|tS (j6 rfl i)<|tS (sQ rfl i q3k)<|tD (uP ae (sz := 5) (a' := (⟨f.axles, f.disturbed, f.position, 5, f.failed⟩ : LockBody)) rfl [_] (k ++ (l ++ (e ++ R))) 3 1 [iv 5] rfl (h5.le zt) af rfl rfl rfl z0D rfl (mc rfl mn) (fun cs hsj hh => by obtain ⟨⟨_, _, rfl, rfl, ⟨_, _, rfl, rfl, ⟨_, _, rfl, rfl, ⟨_, _, rfl, rfl, rfl⟩⟩⟩⟩, rfl⟩ := hh; exact ⟨by first | decide | exact Nat.le_refl _, ⟨[iv f.axles], _, rfl, rfl, ⟨[bv f.disturbed], _, rfl, rfl, ⟨[iv f.position], _, rfl, rfl, ⟨[iv 5], _, rfl, rfl, rfl⟩⟩⟩⟩, rfl⟩)) ?_
 rintro _ _ ⟨aO, rfl, a8⟩
 refine w5 0 rfl (o' := Cl 57 [sv E s F, sv G t H, sv I y J, sv K z L, sv O A S, sv T B U, sv V C W, .slice A3 (put p aa (⟨f.axles, f.disturbed, f.position, 5, f.failed⟩ : LockBody)).length c4, sv A8 q c9, .map (some r)]) (by simp only [sv, z6])<|Te<|Cr<|aS rfl<|Te<|Ct ?_
 obtain ⟨rfl, rfl, rfl⟩ := q3i hm
 exact rO ⟨aO, l, rfl, rfl, a8, ((z6 _ _ _).trans rfl), aw⟩ zt
theorem z3I (b : Base) (R : Hp) (O j k l m n o p h i X Y) (ads : Int → Nat) (S q r s t u x y z A B C D E F A3 c4 f A8 c9 g G d e) (ar : FZ RT.str b.w q r j) (au : FZ rApiSection b.w s t k) (av : FZ rApiLink b.w u x l) (aw : FZ rApiSignal b.w y z m) (ax : FZ rApiGate b.w A B n) (ay : FZ j3 b.w C D o) (az : FZ (RT.list z4) b.w E F p) (h5 : OS 59 (OT.fr z7) b.w (sv A3 h c4) h f) (aA : OS 127 (OT.fr z8) b.w (sv A8 i c9) i g) (aB : OM rI (OT.fr (RT.key ads)) false false b.w G X d) (aC : OAr 85 q9 ads b.w Y e) (ah H) (hm : q3b O j k l m n o p h i X Y = some (ah, H)):
 CallsG Tryz.prog 24 [pb S, iv O] b ((S, Cl 57 [sv q j r, sv s k t, sv u l x, sv y m z, sv A n B, sv C o D, sv E p F, sv A3 h c4, sv A8 i c9, .map (some G)]) :: (f ++ (g ++ (d ++ (e ++ R))))) (fun v b' hp' => ∃ W, iv ah = v ∧ (S, Cl 57 [sv q j r, sv s k t, sv u l x, sv y m z, sv A n B, sv C o D, sv E p F, sv A3 H c4, sv A8 i c9, .map (some G)]) :: (W ++ (g ++ (d ++ (e ++ R)))) = hp' ∧ OS 59 (OT.fr z7) b'.w (sv A3 H c4) H W ∧ H.length = h.length) := by
 refine fE 26 Tryz.func24 rfl Tryz.ntmps24 rfl ?_
 unfold q3b at hm
 refine Cr<|aS rfl<|Te<|Cs<|Cb<|Cr<|mV rfl<|mV rfl ?_
 obtain ⟨aD, Z, hm⟩ := bS hm
 refine v5 f g d e<|v5 e f g d<|v5 d e f g<|v5 g d e f<|w9 [_] [] f g d e R rfl<|Tg _ rfl z5H rfl (q2T _ _ O j k l m n o p h i X Y ads S q r s t u x y z A B C D E F A3 c4 f A8 c9 g G d e ar au av aw ax ay az h5 aA aB aC aD Z) ?_
 rintro _ aM _ a ⟨rfl, rfl⟩
 refine K9 [_] [] f g d e R rfl<|tS (sn2 rfl)<|aS rfl<|Te<|cM hm rfl (fun hm => ?_) fun hm => ?_
 refine Cr<|aS rfl<|Te<|Ct<|Xb<|Xr ?_
 obtain ⟨rfl, rfl⟩ := j9 hm
 have aa := h5.le a
 exact rO ⟨f, rfl, rfl, aa, rfl⟩ a
 refine Cr<|mV rfl<|tS (sN rfl)<|tS (sF rfl Q6)<|tS (sL 0 rfl q1v rfl rfl)<|mV rfl ?_
 obtain ⟨aN, ai, hm⟩ := bS hm
 obtain ⟨aj, ab, ac⟩ := iS ai
 obtain ⟨aE, aF, aO, aP, aG, ad, T, I, U, aH, an⟩ := OS.get (sz := 5) rfl (by decide) (h5.le a) ac
 obtain ⟨⟨_, _, rfl, rfl, ⟨_, _, rfl, rfl, ⟨_, _, rfl, rfl, ⟨_, _, rfl, rfl, rfl⟩⟩⟩⟩, rfl⟩ := ad
 refine tS (sI aj rfl rfl ab U I q4e)<|tS (sQ rfl I q5O)<|tS (z9 rfl q4b (fun w ho => T w _ ho (.cons _ (List.sublist_append_left _ _)) 4 _ rfl))<|aS rfl<|Te<|cB hm rfl (fun hm => ?_) fun hm => ?_
 refine Cr<|aS rfl<|Te<|Ct<|Xb<|Xr ?_
 obtain ⟨rfl, rfl⟩ := j9 hm
 have ae := h5.le a
 exact rO ⟨f, rfl, rfl, ae, rfl⟩ a
 refine Ck<|Xm<|Xn<|Cr<|mV rfl<|tS (sN rfl)<|tS (sF rfl Q6)<|tS (sL 0 rfl q1v rfl rfl)<|mV rfl ?_
 obtain ⟨c, ak, hm⟩ := bS hm
 obtain ⟨al, J, K⟩ := iS ak
 obtain ⟨aI, aJ, aQ, aR, aK, af, ao, L, V, aL, aq⟩ := OS.get (sz := 5) rfl (by decide) (h5.le a) K
 obtain ⟨⟨_, _, rfl, rfl, ⟨_, _, rfl, rfl, ⟨_, _, rfl, rfl, ⟨_, _, rfl, rfl, rfl⟩⟩⟩⟩, rfl⟩ := af
 refine tS (sI al rfl rfl J V L q4e)<|tS (sQ rfl L q5O)<|tD (uP J (sz := 5) (a' := (⟨c.axles, c.disturbed, c.position, c.moving, true⟩ : LockBody)) rfl [_] (g ++ (d ++ (e ++ R))) 4 1 [bv true] rfl (h5.le a) K rfl rfl rfl z1o rfl (mc rfl mn) (fun cs hsj hh => by obtain ⟨⟨_, _, rfl, rfl, ⟨_, _, rfl, rfl, ⟨_, _, rfl, rfl, ⟨_, _, rfl, rfl, rfl⟩⟩⟩⟩, rfl⟩ := hh; exact ⟨by first | decide | exact Nat.le_refl _, ⟨[iv c.axles], _, rfl, rfl, ⟨[bv c.disturbed], _, rfl, rfl, ⟨[iv c.position], _, rfl, rfl, ⟨[iv c.moving], _, rfl, rfl, rfl⟩⟩⟩⟩, rfl⟩)) ?_
 rintro _ _ ⟨ag, rfl, am⟩
 refine w5 0 rfl (o' := Cl 57 [sv q j r, sv s k t, sv u l x, sv y m z, sv A n B, sv C o D, sv E p F, .slice A3 (put h O (⟨c.axles, c.disturbed, c.position, c.moving, true⟩ : LockBody)).length c4, sv A8 i c9, .map (some G)]) (by simp only [sv, z6])<|Te<|Cr<|aS rfl<|Te<|Ct ?_
 obtain ⟨rfl, rfl⟩ := j9 hm
 exact rO ⟨ag, rfl, rfl, am, ((z6 _ _ _).trans rfl)⟩ a
theorem z3F (b : Base) (R : Hp) (O j k l m n o p h i X Y) (ads : Int → Nat) (S q r s t u x y z A B C D E F A3 c4 f A8 c9 g G d e) (ar : FZ RT.str b.w q r j) (au : FZ rApiSection b.w s t k) (av : FZ rApiLink b.w u x l) (aw : FZ rApiSignal b.w y z m) (ax : FZ rApiGate b.w A B n) (ay : FZ j3 b.w C D o) (az : FZ (RT.list z4) b.w E F p) (h5 : OS 59 (OT.fr z7) b.w (sv A3 h c4) h f) (aA : OS 127 (OT.fr z8) b.w (sv A8 i c9) i g) (aB : OM rI (OT.fr (RT.key ads)) false false b.w G X d) (aC : OAr 85 q9 ads b.w Y e) (ah H) (hm : q2Y O j k l m n o p h i X Y = some (ah, H)):
 CallsG Tryz.prog 25 [pb S, iv O] b ((S, Cl 57 [sv q j r, sv s k t, sv u l x, sv y m z, sv A n B, sv C o D, sv E p F, sv A3 h c4, sv A8 i c9, .map (some G)]) :: (f ++ (g ++ (d ++ (e ++ R))))) (fun v b' hp' => ∃ W, iv ah = v ∧ (S, Cl 57 [sv q j r, sv s k t, sv u l x, sv y m z, sv A n B, sv C o D, sv E p F, sv A3 H c4, sv A8 i c9, .map (some G)]) :: (W ++ (g ++ (d ++ (e ++ R)))) = hp' ∧ OS 59 (OT.fr z7) b'.w (sv A3 H c4) H W ∧ H.length = h.length) := by
 refine fE 27 Tryz.func25 rfl Tryz.ntmps25 rfl ?_
 unfold q2Y at hm
 refine Cr<|aS rfl<|Te<|Cs<|Cb<|Cr<|mV rfl<|mV rfl ?_
 obtain ⟨aD, Z, hm⟩ := bS hm
 refine v5 f g d e<|v5 e f g d<|v5 d e f g<|v5 g d e f<|w9 [_] [] f g d e R rfl<|Tg _ rfl z5H rfl (q2T _ _ O j k l m n o p h i X Y ads S q r s t u x y z A B C D E F A3 c4 f A8 c9 g G d e ar au av aw ax ay az h5 aA aB aC aD Z) ?_
 rintro _ aM _ a ⟨rfl, rfl⟩
 refine K9 [_] [] f g d e R rfl<|tS (sn2 rfl)<|aS rfl<|Te<|cM hm rfl (fun hm => ?_) fun hm => ?_
 refine Cr<|aS rfl<|Te<|Ct<|Xb<|Xr ?_
 obtain ⟨rfl, rfl⟩ := j9 hm
 have aa := h5.le a
 exact rO ⟨f, rfl, rfl, aa, rfl⟩ a
 refine Cr<|mV rfl<|tS (sN rfl)<|tS (sF rfl Q6)<|tS (sL 0 rfl q1v rfl rfl)<|mV rfl ?_
 obtain ⟨aN, ai, hm⟩ := bS hm
 obtain ⟨aj, ab, ac⟩ := iS ai
 obtain ⟨aE, aF, aO, aP, aG, ad, T, I, U, aH, an⟩ := OS.get (sz := 5) rfl (by decide) (h5.le a) ac
 obtain ⟨⟨_, _, rfl, rfl, ⟨_, _, rfl, rfl, ⟨_, _, rfl, rfl, ⟨_, _, rfl, rfl, rfl⟩⟩⟩⟩, rfl⟩ := ad
 refine tS (sI aj rfl rfl ab U I q4e)<|tS (sQ rfl I q5O)<|tS (z9 rfl q4b (fun w ho => T w _ ho (.cons _ (List.sublist_append_left _ _)) 4 _ rfl))<|tS (sn2 rfl)<|aS rfl<|Te<|cM hm rfl (fun hm => ?_) fun hm => ?_
 refine Cr<|aS rfl<|Te<|Ct<|Xb<|Xr ?_
 obtain ⟨rfl, rfl⟩ := j9 hm
 have ae := h5.le a
 exact rO ⟨f, rfl, rfl, ae, rfl⟩ a
 refine Ck<|Xm<|Xn<|Cr<|mV rfl<|tS (sN rfl)<|tS (sF rfl Q6)<|tS (sL 0 rfl q1v rfl rfl)<|mV rfl ?_
 obtain ⟨c, ak, hm⟩ := bS hm
 obtain ⟨al, J, K⟩ := iS ak
 obtain ⟨aI, aJ, aQ, aR, aK, af, ao, L, V, aL, aq⟩ := OS.get (sz := 5) rfl (by decide) (h5.le a) K
 obtain ⟨⟨_, _, rfl, rfl, ⟨_, _, rfl, rfl, ⟨_, _, rfl, rfl, ⟨_, _, rfl, rfl, rfl⟩⟩⟩⟩, rfl⟩ := af
 refine tS (sI al rfl rfl J V L q4e)<|tS (sQ rfl L q5O)<|tD (uP J (sz := 5) (a' := (⟨c.axles, c.disturbed, c.position, c.moving, false⟩ : LockBody)) rfl [_] (g ++ (d ++ (e ++ R))) 4 1 [bv false] rfl (h5.le a) K rfl rfl rfl z1o rfl (mc rfl mn) (fun cs hsj hh => by obtain ⟨⟨_, _, rfl, rfl, ⟨_, _, rfl, rfl, ⟨_, _, rfl, rfl, ⟨_, _, rfl, rfl, rfl⟩⟩⟩⟩, rfl⟩ := hh; exact ⟨by first | decide | exact Nat.le_refl _, ⟨[iv c.axles], _, rfl, rfl, ⟨[bv c.disturbed], _, rfl, rfl, ⟨[iv c.position], _, rfl, rfl, ⟨[iv c.moving], _, rfl, rfl, rfl⟩⟩⟩⟩, rfl⟩)) ?_
 rintro _ _ ⟨ag, rfl, am⟩
 refine w5 0 rfl (o' := Cl 57 [sv q j r, sv s k t, sv u l x, sv y m z, sv A n B, sv C o D, sv E p F, .slice A3 (put h O (⟨c.axles, c.disturbed, c.position, c.moving, false⟩ : LockBody)).length c4, sv A8 i c9, .map (some G)]) (by simp only [sv, z6])<|Te<|Cr<|aS rfl<|Te<|Ct ?_
 obtain ⟨rfl, rfl⟩ := j9 hm
 exact rO ⟨ag, rfl, rfl, am, ((z6 _ _ _).trans rfl)⟩ a
theorem q8P (b : Base) (R : Hp) (U j k l m n o p f g aj ak) (ads : Int → Nat) (r s t u x y z A B C D E F G H A3 c4 h A8 c9 q I c d) (aL : FZ RT.str b.w s t j) (aM : FZ rApiSection b.w u x k) (aN : FZ rApiLink b.w y z l) (aO : FZ rApiSignal b.w A B m) (aP : FZ rApiGate b.w C D n) (aQ : FZ j3 b.w E F o) (aR : FZ (RT.list z4) b.w G H p) (h5 : OS 59 (OT.fr z7) b.w (sv A3 f c4) f h) (J : OS 127 (OT.fr z8) b.w (sv A8 g c9) g q) (aT : OM rI (OT.fr (RT.key ads)) false false b.w I aj c) (aU : OAr 85 q9 ads b.w ak d) (al K) (hm : q0s U j k l m n o p f g aj ak = some (al, K)):
 CallsG Tryz.prog 26 [pb r, iv U] b ((r, Cl 57 [sv s j t, sv u k x, sv y l z, sv A m B, sv C n D, sv E o F, sv G p H, sv A3 f c4, sv A8 g c9, .map (some I)]) :: (h ++ (q ++ (c ++ (d ++ R))))) (fun v b' hp' => ∃ Y, iv al = v ∧ (r, Cl 57 [sv s j t, sv u k x, sv y l z, sv A m B, sv C n D, sv E o F, sv G p H, sv A3 f c4, sv A8 K c9, .map (some I)]) :: (h ++ (Y ++ (c ++ (d ++ R)))) = hp' ∧ OS 127 (OT.fr z8) b'.w (sv A8 K c9) K Y ∧ K.length = g.length) := by
 refine fE 33 Tryz.func26 rfl Tryz.ntmps26 rfl ?_
 unfold q0s at hm
 refine Cr<|aS rfl<|Te<|Cs<|Cb ?_
 obtain ⟨am, aa, ab⟩ := bS hm
 refine Cj (fun Z e' hp' => [(0, pb r), (1, iv U), (5, bv am)] = e' ∧ (r, Cl 57 [sv s j t, sv u k x, sv y l z, sv A m B, sv C n D, sv E o F, sv G p H, sv A3 f c4, sv A8 g c9, .map (some I)]) :: (h ++ (q ++ (c ++ (d ++ R)))) = hp' ∧ b.Le Z) ?_ ?_
 have hm := aa
 refine Cg<|mV rfl<|Tb rfl (q3 rfl rfl) (fun i => ?_) (fun i => ?_)
 rw [if_pos i] at hm
 refine mV rfl<|nO<|nO<|nO<|nO<|nO<|nO<|nO<|tS (pT rfl rfl)<|aS rfl<|Tn ?_
 obtain rfl := o1 hm
 exact jJ ⟨rfl, rfl, lr⟩
 rw [if_neg i] at hm
 refine mV rfl<|yS<|mV rfl<|yS<|mV rfl<|yS<|tS (sN rfl)<|yS<|tS (sF rfl q3l)<|yS<|tS (sL 0 rfl q8H rfl rfl)<|yS<|tS (sE rfl q9E)<|yS<|tS (q6 rfl rfl)<|tS (pF rfl rfl)<|aS rfl<|Tn ?_
 obtain rfl := o1 hm
 exact jJ ⟨rfl, rfl, lr⟩
 rintro Z _ _ ⟨rfl, rfl, a⟩
 have hm := ab
 refine cB hm rfl (fun hm => ?_) fun hm => ?_
 refine Cr<|aS rfl<|Te<|Ct<|Xb<|Xr ?_
 obtain ⟨rfl, rfl⟩ := j9 hm
 have ac := J.le a
 exact rO ⟨q, rfl, rfl, ac, rfl⟩ a
 refine Cr<|mV rfl<|tS (sN rfl)<|tS (sF rfl q3l)<|tS (sL 0 rfl q8H rfl rfl)<|mV rfl ?_
 obtain ⟨aG, an, hm⟩ := bS hm
 obtain ⟨ao, ad, ae⟩ := iS an
 obtain ⟨ay, az, aH, aI, aA, af, V, L, W, aB, av⟩ := OS.get (sz := 3) rfl (by decide) (J.le a) ae
 obtain ⟨⟨_, _, rfl, rfl, ⟨_, _, rfl, rfl, rfl⟩⟩, rfl⟩ := af
 refine tS (sI ao rfl rfl ad W L q9E)<|tS (sQ rfl L q6o)<|tS (z9 rfl q4b (fun w ho => V w _ ho (.cons _ (ss h (List.sublist_append_left _ _))) 2 _ rfl))<|aS rfl<|Te<|cB hm rfl (fun hm => ?_) fun hm => ?_
 refine Cr<|aS rfl<|Te<|Ct<|Xb<|Xr ?_
 obtain ⟨rfl, rfl⟩ := j9 hm
 have ag := J.le a
 exact rO ⟨q, rfl, rfl, ag, rfl⟩ a
 refine Ck<|Xm<|Xn<|Cr<|mV rfl<|tS (sN rfl)<|tS (sF rfl q3l)<|tS (sL 0 rfl q8H rfl rfl)<|mV rfl ?_
 obtain ⟨e, aq, hm⟩ := bS hm
 obtain ⟨ar, O, S⟩ := iS aq
 obtain ⟨aC, aD, aJ, aK, aE, ah, aw, T, X, aF, ax⟩ := OS.get (sz := 3) rfl (by decide) (J.le a) S
 obtain ⟨⟨_, _, rfl, rfl, ⟨_, _, rfl, rfl, rfl⟩⟩, rfl⟩ := ah
 refine tS (sI ar rfl rfl O X T q9E)<|tS (sQ rfl T q6o)<|j1k h q<|tD (uP O (sz := 3) (a' := (⟨e.left, e.wanted, true⟩ : LockGate)) rfl [_] (h ++ (c ++ (d ++ R))) 2 1 [bv true] rfl (J.le a) S rfl rfl rfl z1o rfl (mc rfl mn) (fun cs hsj hh => by obtain ⟨⟨_, _, rfl, rfl, ⟨_, _, rfl, rfl, rfl⟩⟩, rfl⟩ := hh; exact ⟨by first | decide | exact Nat.le_refl _, ⟨[iv e.left], _, rfl, rfl, ⟨[bv e.wanted], _, rfl, rfl, rfl⟩⟩, rfl⟩)) ?_
 rintro _ _ ⟨ai, rfl, au⟩
 refine w5 0 rfl (o' := Cl 57 [sv s j t, sv u k x, sv y l z, sv A m B, sv C n D, sv E o F, sv G p H, sv A3 f c4, .slice A8 (put g U (⟨e.left, e.wanted, true⟩ : LockGate)).length c9, .map (some I)]) (by simp only [sv, z6])<|Te<|Cr<|aS rfl<|Te<|Ct ?_
 obtain ⟨rfl, rfl⟩ := j9 hm
 exact rO ⟨ai, rfl, rfl, au, ((z6 _ _ _).trans rfl)⟩ a
theorem q8N (b : Base) (R : Hp) (T k l m n o p q f g aJ aK) (ads : Int → Nat) (U t u x y z A B C D E F G H I A3 c4 h A8 c9 V J c d) (bm : FZ RT.str b.w t u k) (bn : FZ rApiSection b.w x y l) (bo : FZ rApiLink b.w z A m) (bp : FZ rApiSignal b.w B C n) (a0 : FZ rApiGate b.w D E o) (bq : FZ j3 b.w F G p) (br : FZ (RT.list z4) b.w H I q) (h5 : OS 59 (OT.fr z7) b.w (sv A3 f c4) f h) (W : OS 127 (OT.fr z8) b.w (sv A8 g c9) g V) (bs : OM rI (OT.fr (RT.key ads)) false false b.w J aJ c) (bt : OAr 85 q9 ads b.w aK d) (ao r) (hm : q0q T k l m n o p q f g aJ aK = some (ao, r)):
 CallsG Tryz.prog 27 [pb U, iv T] b ((U, Cl 57 [sv t k u, sv x l y, sv z m A, sv B n C, sv D o E, sv F p G, sv H q I, sv A3 f c4, sv A8 g c9, .map (some J)]) :: (h ++ (V ++ (c ++ (d ++ R))))) (fun v b' hp' => ∃ X, iv ao = v ∧ (U, Cl 57 [sv t k u, sv x l y, sv z m A, sv B n C, sv D o E, sv F p G, sv H q I, sv A3 f c4, sv A8 r c9, .map (some J)]) :: (h ++ (X ++ (c ++ (d ++ R)))) = hp' ∧ OS 127 (OT.fr z8) b'.w (sv A8 r c9) r X ∧ r.length = g.length) := by
 refine fE 53 Tryz.func27 rfl Tryz.ntmps27 rfl ?_
 unfold q0q at hm
 refine Cr<|aS rfl<|Te<|Cs<|Cb ?_
 obtain ⟨aL, ar, au⟩ := bS hm
 refine Cj (fun Y e' hp' => [(0, pb U), (1, iv T), (6, bv aL)] = e' ∧ (U, Cl 57 [sv t k u, sv x l y, sv z m A, sv B n C, sv D o E, sv F p G, sv H q I, sv A3 f c4, sv A8 g c9, .map (some J)]) :: (h ++ (V ++ (c ++ (d ++ R)))) = hp' ∧ b.Le Y) ?_ ?_
 have hm := ar
 refine Cg<|mV rfl<|Tb rfl (q3 rfl rfl) (fun K => ?_) (fun K => ?_)
 rw [if_pos K] at hm
 refine mV rfl<|nO<|nO<|nO<|nO<|nO<|nO<|nO<|tS (pT rfl rfl)<|aS rfl<|Tn ?_
 obtain rfl := o1 hm
 exact jJ ⟨rfl, rfl, lr⟩
 rw [if_neg K] at hm
 refine mV rfl<|yS<|mV rfl<|yS<|mV rfl<|yS<|tS (sN rfl)<|yS<|tS (sF rfl q3l)<|yS<|tS (sL 0 rfl q8H rfl rfl)<|yS<|tS (sE rfl q9E)<|yS<|tS (q6 rfl rfl)<|tS (pF rfl rfl)<|aS rfl<|Tn ?_
 obtain rfl := o1 hm
 exact jJ ⟨rfl, rfl, lr⟩
 rintro Y _ _ ⟨rfl, rfl, a⟩
 have hm := au
 refine cB hm rfl (fun hm => ?_) fun hm => ?_
 refine Cr<|aS rfl<|Te<|Ct<|Xb<|Xr ?_
 obtain ⟨rfl, rfl⟩ := j9 hm
 have av := W.le a
 exact rO ⟨V, rfl, rfl, av, rfl⟩ a
 refine Cr<|mV rfl<|tS (sN rfl)<|tS (sF rfl q3l)<|tS (sL 0 rfl q8H rfl rfl)<|mV rfl ?_
 obtain ⟨bf, aM, hm⟩ := bS hm
 obtain ⟨aN, aw, ax⟩ := iS aM
 obtain ⟨a1, a2, bg, bh, a3, ay, ag, Z, ah, a4, aV⟩ := OS.get (sz := 3) rfl (by decide) (W.le a) ax
 obtain ⟨⟨_, _, rfl, rfl, ⟨_, _, rfl, rfl, rfl⟩⟩, rfl⟩ := ay
 refine tS (sI aN rfl rfl aw ah Z q9E)<|tS (sQ rfl Z q6o)<|tS (z9 rfl q4b (fun w ho => ag w _ ho (.cons _ (ss h (List.sublist_append_left _ _))) 2 _ rfl))<|tS (sn2 rfl)<|aS rfl<|Te<|cM hm rfl (fun hm => ?_) fun hm => ?_
 refine Cr<|aS rfl<|Te<|Ct<|Xb<|Xr ?_
 obtain ⟨rfl, rfl⟩ := j9 hm
 have az := W.le a
 exact rO ⟨V, rfl, rfl, az, rfl⟩ a
 refine Ck<|Xm<|Xn<|Cr<|mV rfl<|tS (sN rfl)<|tS (sF rfl q3l)<|tS (sL 0 rfl q8H rfl rfl)<|mV rfl ?_
 obtain ⟨e, aO, hm⟩ := bS hm
 obtain ⟨aq, aa, ab⟩ := iS aO
 obtain ⟨a5, a6, bi, bj, a7, aA, aW, L, ai, a8, aX⟩ := OS.get (sz := 3) rfl (by decide) (W.le a) ab
 obtain ⟨⟨_, _, rfl, rfl, ⟨_, _, rfl, rfl, rfl⟩⟩, rfl⟩ := aA
 refine tS (sI aq rfl rfl aa ai L q9E)<|aS rfl<|Te<|Cr<|mV rfl<|tS (j6 rfl L)<|tS (sQ rfl L q6o)<|j1k h V<|tD (uP aa (sz := 3) (a' := (⟨e.left, e.wanted, false⟩ : LockGate)) rfl [_] (h ++ (c ++ (d ++ R))) 2 1 [bv false] rfl (W.le a) ab rfl rfl rfl z1o rfl (mc rfl mn) (fun cs hsj hh => by obtain ⟨⟨_, _, rfl, rfl, ⟨_, _, rfl, rfl, rfl⟩⟩, rfl⟩ := hh; exact ⟨by first | decide | exact Nat.le_refl _, ⟨[iv e.left], _, rfl, rfl, ⟨[bv e.wanted], _, rfl, rfl, rfl⟩⟩, rfl⟩)) ?_
 rintro _ _ ⟨aB, rfl, ac⟩
 refine w5 0 rfl (o' := Cl 57 [sv t k u, sv x l y, sv z m A, sv B n C, sv D o E, sv F p G, sv H q I, sv A3 f c4, .slice A8 (put g T (⟨e.left, e.wanted, false⟩ : LockGate)).length c9, .map (some J)]) (by simp only [sv, z6])<|Te ?_
 obtain ⟨O, aC, aD⟩ := bS hm
 refine Cj (fun ad e' hp' => ∃ i, [] = e' ∧ (U, Cl 57 [sv t k u, sv x l y, sv z m A, sv B n C, sv D o E, sv F p G, sv H q I, sv A3 f c4, sv A8 O c9, .map (some J)]) :: (h ++ (i ++ (c ++ (d ++ R)))) = hp' ∧ Y.Le ad ∧ OS 127 (OT.fr z8) ad.w (sv A8 O c9) O i ∧ O.length = g.length) ?_ ?_
 have hm := aC
 refine Cr ?_
 obtain ⟨s, aP, hm⟩ := bS hm
 obtain ⟨aQ, aE, ae⟩ := iS aP
 obtain rfl : aq = aQ := by omega
 obtain ⟨a9, ba, bk, bl, bb, aF, aj, j, aY, bc, aZ⟩ := OS.get (sz := 3) rfl (by decide) ac ae
 obtain ⟨⟨_, _, rfl, rfl, ⟨_, _, rfl, rfl, rfl⟩⟩, rfl⟩ := aF
 refine mV rfl<|tS (j6 rfl j)<|tS (sQ rfl j q5i)<|tS (z9 rfl q4b (fun w ho => aj w _ ho (.cons _ (List.sublist_append_left _ _)) 1 _ rfl))<|Te<|cB hm rfl (fun hm => ?_) fun hm => ?_
 refine Cg<|mV rfl<|mV rfl<|tS (sN rfl)<|tS (sF rfl q5g)<|tS (sF rfl q5h)<|tS (sL 0 rfl z2e rfl rfl)<|mV rfl ?_
 obtain ⟨S, aR, bd, aG, be, aH, ak, af, al, hm⟩ := bF (sz := 2) hm (a0.le a)
 obtain ⟨_, _, rfl, rfl, rfl⟩ := aH
 refine tS (sI aR rfl rfl aG al af z5d)<|tS (sQ rfl af z2q)<|tS (sO rfl j4 (ak 1 _ rfl))<|tS (j6 rfl j)<|tS (sQ rfl j q6p)<|tD (uP aE (sz := 3) (a' := (⟨S.Close, s.wanted, s.failed⟩ : LockGate)) rfl [_] (h ++ (c ++ (d ++ R))) 0 1 [iv S.Close] rfl ac ae rfl rfl rfl z0D rfl (mc rfl mn) (fun cs hsj hh => by obtain ⟨⟨_, _, rfl, rfl, ⟨_, _, rfl, rfl, rfl⟩⟩, rfl⟩ := hh; exact ⟨by first | decide | exact Nat.le_refl _, ⟨[iv S.Close], _, rfl, rfl, ⟨[bv s.wanted], _, rfl, rfl, rfl⟩⟩, rfl⟩)) ?_
 rintro _ _ ⟨aI, rfl, aT⟩
 refine w5 0 rfl (o' := Cl 57 [sv t k u, sv x l y, sv z m A, sv B n C, sv D o E, sv F p G, sv H q I, sv A3 f c4, .slice A8 (put (put g T (⟨e.left, e.wanted, false⟩ : LockGate)) T (⟨S.Close, s.wanted, s.failed⟩ : LockGate)).length c9, .map (some J)]) (by simp only [sv, z6])<|Tn ?_
 obtain rfl := o1 hm
 exact jJ ⟨aI, rfl, rfl, lr, aT, ((z6 _ _ _).trans ((z6 _ _ _).trans rfl))⟩
 refine Ck ?_
 obtain rfl := o1 hm
 exact jJ ⟨aB, rfl, rfl, lr, ac, ((z6 _ _ _).trans rfl)⟩
 rintro ad _ _ ⟨i, rfl, rfl, am, aU, an⟩
 have hm := aD
 refine Cr<|aS rfl<|Te<|Ct ?_
 obtain ⟨rfl, rfl⟩ := j9 hm
 exact rO ⟨i, rfl, rfl, aU, an⟩ (a.trans am)
theorem q1L (b : Base) (R : Hp) (H f g h i j k l d e I J) (ads : Int → Nat) (n o p q r s t u w x y z A B C T U D V W E F a c) (Y : FZ RT.str b.w o p f) (Z : FZ rApiSection b.w q r g) (aa : FZ rApiLink b.w s t h) (ab : FZ rApiSignal b.w u w i) (ac : FZ rApiGate b.w x y j) (ad : FZ j3 b.w z A k) (ae : FZ (RT.list z4) b.w B C l) (h5 : OS 59 (OT.fr z7) b.w (sv T d U) d D) (af : OS 127 (OT.fr z8) b.w (sv V e W) e E) (ag : OM rI (OT.fr (RT.key ads)) false false b.w F I a) (ah : OAr 85 q9 ads b.w J c) (K) (hm : J4 H f g h i j k l d e I J = some K):
 CallsG Tryz.prog 66 [pb n, iv H] b ((n, Cl 57 [sv o f p, sv q g r, sv s h t, sv u i w, sv x j y, sv z k A, sv B l C, sv T d U, sv V e W, .map (some F)]) :: (D ++ (E ++ (a ++ (c ++ R))))) (fun v b' hp' => bv K = v ∧ (n, Cl 57 [sv o f p, sv q g r, sv s h t, sv u i w, sv x j y, sv z k A, sv B l C, sv T d U, sv V e W, .map (some F)]) :: (D ++ (E ++ (a ++ (c ++ R)))) = hp') := by
 refine fE 16 Tryz.func66 rfl Tryz.ntmps66 rfl ?_
 unfold J4 at hm
 refine Cr<|aS rfl<|Te ?_
 obtain ⟨X, L, O⟩ := bS hm
 refine Cj (fun S e' hp' => [(4, bv X)] = e' ∧ (n, Cl 57 [sv o f p, sv q g r, sv s h t, sv u i w, sv x j y, sv z k A, sv B l C, sv T d U, sv V e W, .map (some F)]) :: (D ++ (E ++ (a ++ (c ++ R)))) = hp' ∧ b.Le S) ?_ ?_
 have hm := L
 refine Cg<|mV rfl<|Tb rfl (q6 rfl rfl) (fun m => ?_) (fun m => ?_)
 rw [if_pos m] at hm
 refine mV rfl<|yS<|mV rfl<|yS<|mV rfl<|yS<|tS (sN rfl)<|yS<|tS (sF rfl z4B)<|yS<|tS (sL 0 rfl z7s rfl rfl)<|yS<|tS (sE rfl z6Y)<|yS<|tS (q3 rfl rfl)<|tS (pT rfl rfl)<|aS rfl<|Tn ?_
 obtain rfl := o1 hm
 exact jJ ⟨rfl, rfl, lr⟩
 rw [if_neg m] at hm
 refine mV rfl<|nO<|nO<|nO<|nO<|nO<|nO<|nO<|tS (pF rfl rfl)<|aS rfl<|Tn ?_
 obtain rfl := o1 hm
 exact jJ ⟨rfl, rfl, lr⟩
 rintro S _ _ ⟨rfl, rfl, G⟩
 have hm := O
 refine Ct ?_
 obtain rfl := o1 hm
 exact rO ⟨rfl, rfl⟩ G
theorem q9Y (A : Option Addr) (n c : Nat) (xs : List Value) (w : World) (hR : Rd w A xs) (hl : xs.length = n * 4) (hn : n * 32 ≤ 140737488355328 ∧ n ≤ 9223372036854775807) :
    CallsH Tryz.prog 67 [.slice A n c] w [] (fun v hp' => Seg0 72 4 v n xs hp') := by
  refine q5e 8 Tryz.func67 rfl Tryz.ntmps67 rfl ?_
  refine q6s ?_
  refine z0x rfl rfl ?_
  refine q4H ?_
  refine q2J ?_
  refine q6s ?_
  refine z3Z rfl rfl ?_
  refine q5r rfl (q4X rfl rfl q4J) (fun hc1 => ?_) (fun hc1 => ?_)
  ·
    refine q4H ?_
    refine j1 rfl ?_
    refine q6s ?_
    refine z0x rfl rfl ?_
    refine q4H ?_
    refine q3X ?_
    refine J3 ?_
    subst hc1
    obtain rfl := hR.none_nil
    obtain rfl : n = 0 := by simp at hl; omega
    refine q4h (hp' := []) (by repeat (first | exact List.Sublist.refl _ | exact List.nil_sublist _ | exact List.sublist_append_left _ _ | exact List.sublist_append_right _ _ | exact (List.sublist_append_right _ _).trans (List.sublist_append_right _ _) | apply List.Sublist.cons_cons | apply List.Sublist.cons)) ?_
    exact z5g (Base.Le.refl _) rfl rfl (Seg0.nil)
  ·
    refine q4H ?_
    refine j0 rfl ?_
    refine q3q ?_
    refine j5 ?_
    refine q6s ?_
    refine z1j rfl (Z3 (el := 72) [] [] rfl (fun _ => by kernel_rfl)) ?_
    rintro _ _ ⟨g0, rfl, rfl⟩
    refine z3Z rfl rfl ?_
    refine z1j rfl (q9t xs q4J z9H rfl (by decide) rfl rfl hl (fun w ho => hR.old ho) hn.2 hn.1) ?_
    rintro _ _ ⟨hs, rfl, hseg⟩
    refine z0x rfl rfl ?_
    refine q4H ?_
    refine q3X ?_
    refine q4h (hp' := hs) (by repeat (first | exact List.Sublist.refl _ | exact List.nil_sublist _ | exact List.sublist_append_left _ _ | exact List.sublist_append_right _ _ | exact (List.sublist_append_right _ _).trans (List.sublist_append_right _ _) | apply List.Sublist.cons_cons | apply List.Sublist.cons)) ?_
    exact z5g (Base.Le.refl _) rfl rfl hseg
theorem z0Q (b : Base) (R : Hp) (d e f) (i : FZ z4 b.w e f d) (a) (hm : q2M d = some a):
 CallsG Tryz.prog 67 [sv e d f] b (R) (fun v b' hp' => ∃ g h c, sv g a h = v ∧ (c ++ R) = hp' ∧ OS 72 (OT.fr z4) b'.w (sv g a h) a c) := by
 unfold q2M at hm
 obtain ⟨_, hroom, hm⟩ := bS hm
 have hroom := Q9 hroom
 obtain rfl := o1 hm
 exact q5k (r := z4) (sz := 4) (by_ := 32) rfl (by decide) q9Y i hroom
theorem q6C (b : Base) (R : Hp) (a : ApiNeed) (c) (hm : q1B a = some c):
 CallsG Tryz.prog 69 [.agg #[iv a.Kind, iv a.Place, iv a.Position, iv a.At]] b (R) (fun v b' hp' => bv c = v ∧ R = hp') := by
 refine fE 6 Tryz.func69 rfl Tryz.ntmps69 rfl ?_
 unfold q1B at hm
 refine Cr<|tD (uB _ rfl rfl) ?_
 rintro _ _ ⟨d, rfl, rfl⟩
 refine aS rfl<|Te<|Cr<|tS (sF rfl P6)<|tS (sL 0 rfl j4 rfl rfl)<|tS (q1 rfl rfl)<|aS rfl<|Te<|Ct ?_
 obtain rfl := o1 hm
 exact rO ⟨rfl, rfl⟩ lr
theorem q7C (b : Base) (R : Hp) (n z A) (D : FZ z4 b.w z A n) (o) (hm : V3 n = some o):
 CallsG Tryz.prog 107 [sv z n A, .func (.func 69) #[] #[]] b (R) (fun v b' hp' => iv o = v ∧ R = hp') := by
 refine fE 19 Tryz.func107 rfl Tryz.ntmps107 rfl ?_
 unfold V3 at hm
 refine Cr<|aS rfl<|Te<|Cs<|Cr<|mV rfl<|tS (sE rfl q4J)<|mV rfl<|Te<|Cb ?_
 have E : n.length ≤ 9223372036854775807 := (FZ.bd D)
 obtain ⟨I, p, e⟩ := bS hm
 refine lF (fun q => fun _ => fun i e' hp' => [(0, sv z n A), (1, .func (.func 69) #[] #[]), (7, iv ((n.length : Int))), (8, iv ((q : Int)))] = e' ∧ R = hp' ∧ b.Le i) p ⟨rfl, rfl, lr⟩ ?_ ?_
 rintro q _ i _ _ F y ⟨rfl, rfl, a⟩ c f
 unfold X1 at c
 have hm := c
 refine Cr<|tS (lT rfl rfl (by omega))<|Te<|Cs<|j1 rfl<|Ck<|Xn<|Cs<|Cb<|Cr<|mV rfl<|aS rfl<|Te<|Cr<|mV rfl<|mV rfl<|mV rfl ?_
 obtain ⟨d, B, G, r, H, s, k, g, l, hm⟩ := bF (sz := 4) hm (D.le a)
 obtain ⟨_, _, rfl, rfl, ⟨_, _, rfl, rfl, ⟨_, _, rfl, rfl, rfl⟩⟩⟩ := s
 refine tS (sI B rfl rfl r l g q4J)<|tS (sP (vs := [iv d.Kind, iv d.Place, iv d.Position, iv d.At]) 4 rfl Y1 g rfl (fun j u hu => k j u hu)) ?_
 obtain ⟨C, m, hm⟩ := bS hm
 refine tD (q0m #[] #[] [.agg #[iv d.Kind, iv d.Place, iv d.Position, iv d.At]] rfl j0M rfl (fun w ho => q6C _ [] d C m) (fun _ _ _ h => h.2.symm)) ?_
 rintro _ _ ⟨⟨_, rfl, _⟩, rfl⟩
 refine Te<|cB hm rfl (fun hm => ?_) fun hm => ?_
 refine Cr<|mV rfl<|aS rfl<|Te<|Ct<|Xb<|Xr<|Xr<|Xb<|Xr ?_
 have t := f _ (Option.some.inj hm).symm
 rw [t] at e
 have hm := k8 e
 obtain rfl := o1 hm
 exact rO ⟨rfl, rfl⟩ a
 refine Ck<|Xm<|Xn<|Cg<|tS (sa rfl rfl (by omega))<|mV rfl<|Tn ?_
 exact jM hm ⟨rfl, rfl, (a)⟩
 rintro _ i _ _ ⟨rfl, rfl, a⟩ x
 rw [x] at e
 have hm := J5 e
 refine Cr<|tS (lF rfl rfl (by omega))<|Te<|Cs<|j0 rfl<|Ce<|Xe<|Xe<|Xo<|Xn<|Cr<|aS rfl<|Te<|Ct ?_
 obtain rfl := o1 hm
 exact rO ⟨rfl, rfl⟩ a
theorem q8n (b : Base) (R : Hp) (l6 W D Y) (h5 : OS 72 (OT.fr z4) b.w (sv W l6 D) l6 Y) (E) (hm : H1 l6 = some E):
 CallsG Tryz.prog 68 [sv W l6 D, .func (.func 69) #[] #[]] b ((Y ++ R)) (fun v b' hp' => ∃ aB aC Z, sv aB E aC = v ∧ (Z ++ R) = hp' ∧ OS 72 (OT.fr z4) b'.w (sv aB E aC) E Z) := by
 refine fE 42 Tryz.func68 rfl Tryz.ntmps68 rfl ?_
 unfold H1 at hm
 refine Cr<|aS rfl<|Te<|Cr<|mV rfl<|mV rfl ?_
 obtain ⟨aW, ak, hm⟩ := bS hm
 refine tD (uW _ z4K rfl (fun w ho => q7C _ [] l6 W D (OS.now (o := (OT.fr z4)) (l := l6) (hs := Y) h5 ho (List.sublist_append_left _ _)) aW ak) (fun _ _ _ h => h.2.symm)) ?_
 rintro _ _ ⟨⟨_, rfl, _⟩, rfl⟩
 refine aS rfl<|Te<|Cs<|Cr<|mV rfl<|tS (q1 rfl rfl)<|Te<|cI hm rfl (fun hm => ?_) fun hm => ?_
 refine Cr<|mV rfl<|aS rfl<|Te<|Ct<|Xr ?_
 obtain rfl := o1 hm
 exact rO ⟨W, D, Y, rfl, rfl, h5⟩ lr
 refine Ck<|Xn ?_
 obtain ⟨⟨F, e⟩, aE, aF⟩ := bS hm
 refine Cj (fun aa e' hp' => ∃ s, [(0, sv W e D), (5, iv F)] = e' ∧ (s ++ R) = hp' ∧ b.Le aa ∧ OS 72 (OT.fr z4) aa.w (sv W e D) e s ∧ e.length = l6.length) ?_ ?_
 have hm := aE
 refine Cr<|mV rfl ?_
 obtain ⟨_, ab, hm⟩ := bS hm
 have ab := (kS ab).2
 refine tS (sa rfl rfl ab)<|aS rfl<|Te<|Cb<|lL (q4G fun t x d => fun n e' hp' => ∃ c, [(0, sv W d D), (1, .func (.func 69) #[] #[]), (5, iv t), (6, iv x)] = e' ∧ (c ++ R) = hp' ∧ b.Le n ∧ OS 72 (OT.fr z4) n.w (sv W d D) d c ∧ d.length = l6.length) hm ⟨Y, rfl, rfl, lr, h5, rfl⟩ ?_
 rintro ⟨t, x, d⟩ n _ _ bb ⟨c, rfl, rfl, q, g, k⟩ m X
 unfold X8 at m
 have hm := q4U m
 refine Cs<|Cr<|mV rfl<|mV rfl<|tS (sE rfl q4J)<|tS (q3 rfl rfl)<|Te<|cI hm rfl (fun hm => ?_) fun hm => ?_
 refine Ck<|Xn ?_
 obtain ⟨⟨aG, p⟩, al, am⟩ := bS hm
 refine Cj (fun y e' hp' => ∃ f, [(0, sv W p D), (1, .func (.func 69) #[] #[]), (5, iv aG), (6, iv x)] = e' ∧ (f ++ R) = hp' ∧ n.Le y ∧ OS 72 (OT.fr z4) y.w (sv W p D) p f ∧ p.length = l6.length) ?_ ?_
 have hm := al
 refine Cb<|Cr<|mV rfl<|mV rfl ?_
 obtain ⟨a, aH, hm⟩ := bS hm
 obtain ⟨aI, an, ao⟩ := iS aH
 obtain ⟨a0, a1, bc, bd, a2, aq, ac, G, ad, a3, aX⟩ := OS.get (sz := 4) rfl (by decide) g ao
 obtain ⟨⟨_, _, rfl, rfl, ⟨_, _, rfl, rfl, ⟨_, _, rfl, rfl, rfl⟩⟩⟩, rfl⟩ := aq
 refine tS (sI aI rfl rfl an ad G q4J)<|tS (j8 (vs := [iv a.Kind, iv a.Place, iv a.Position, iv a.At]) 4 rfl Y1 G rfl (fun w ho j u hu => ac w _ ho (List.sublist_append_left _ _) j u hu))<|tD (uA [iv 0, iv 0, iv 0, iv 0] q4F rfl) ?_
 rintro _ _ ⟨be, rfl, rfl⟩
 refine tD (uN (vs := [_, _, _, _]) 0 4 rfl rfl rfl q6Z rfl (mc rfl (mc rfl (mc rfl (mc rfl mn)))) rfl (by simp)) ?_
 rintro _ _ rfl
 refine Te<|Cr<|mV rfl<|tS (sD (vs := [_, _, _, _]) 0 4 rfl Y1 rfl rfl rfl) ?_
 obtain ⟨aJ, ae, hm⟩ := bS hm
 refine tD (q0m #[] #[] [.agg #[iv a.Kind, iv a.Place, iv a.Position, iv a.At]] rfl j0M rfl (fun w ho => q6C _ [] a aJ ae) (fun _ _ _ h => h.2.symm)) ?_
 rintro _ _ ⟨⟨_, rfl, _⟩, rfl⟩
 refine tS (sn2 rfl)<|Te<|cM hm rfl (fun hm => ?_) fun hm => ?_
 refine Cr<|mV rfl<|mV rfl<|tS (sD (vs := [_, _, _, _]) 0 4 rfl Y1 rfl rfl rfl) ?_
 obtain ⟨bf, aK, hm⟩ := bS hm
 obtain ⟨aL, H, I⟩ := iS aK
 obtain ⟨a4, a5, bg, bh, a6, ar, aY, au, af, a7, aZ⟩ := OS.get (sz := 4) rfl (by decide) g I
 obtain ⟨⟨_, _, rfl, rfl, ⟨_, _, rfl, rfl, ⟨_, _, rfl, rfl, rfl⟩⟩⟩, rfl⟩ := ar
 refine tS (sI aL rfl rfl H af au q4J)<|tD (uP H (sz := 4) (a' := a) rfl [_] R 0 4 [iv a.Kind, iv a.Place, iv a.Position, iv a.At] rfl g I rfl rfl rfl q6Z rfl (mc rfl (mc rfl (mc rfl (mc rfl mn)))) (fun cs hsj hh => by obtain ⟨⟨_, _, rfl, rfl, ⟨_, _, rfl, rfl, ⟨_, _, rfl, rfl, rfl⟩⟩⟩, rfl⟩ := hh; exact ⟨by first | decide | exact Nat.le_refl _, ⟨[iv a.Kind], _, rfl, rfl, ⟨[iv a.Place], _, rfl, rfl, ⟨[iv a.Position], _, rfl, rfl, rfl⟩⟩⟩, rfl⟩)) ?_
 rintro _ _ ⟨av, rfl, aM⟩
 refine Tr 0 rfl (v' := .slice W (put d t a).length D) (by simp only [z6])<|Te<|Cg<|mV rfl ?_
 obtain ⟨_, z, hm⟩ := bS hm
 have z := (kS z).2
 refine tS (sa rfl rfl z)<|aS rfl<|Tn<|Xm ?_
 obtain ⟨rfl, rfl⟩ := j9 hm
 exact jJ ⟨av, rfl, rfl, lr, aM, ((z6 _ _ _).trans k)⟩
 refine Ck<|Xm ?_
 obtain ⟨rfl, rfl⟩ := j9 hm
 exact jJ ⟨c, rfl, rfl, lr, g, k⟩
 rintro y _ _ ⟨f, rfl, rfl, ag, aN, ah⟩
 have hm := Q3 am
 refine Cg<|mV rfl ?_
 obtain ⟨_, A, hm⟩ := bS hm
 have A := (kS A).2
 refine tS (sa rfl rfl A)<|aS rfl<|Tn ?_
 exact jM hm ⟨f, rfl, rfl, ((q.trans ag)), aN, ah⟩
 refine Ce<|Xe<|Xe<|Xo ?_
 have hm := congrArg some (X _ (Option.some.inj hm).symm)
 obtain ⟨rfl, rfl⟩ := j9 hm
 exact jJ ⟨c, rfl, rfl, q, g, k⟩
 rintro aa _ _ ⟨s, rfl, rfl, aw, aD, a8⟩
 have hm := Q3 aF
 refine Cr<|mV rfl<|mV rfl ?_
 obtain ⟨aO, aP, hm⟩ := bS hm
 obtain ⟨B, aQ, J, a9, K, L, O⟩ := q4Q aP
 have aR := OS.lc aD
 refine tS (O ▸ q7R (l := e) B aQ rfl (.inr ⟨_, _, _, rfl, rfl, J⟩) (.inl ⟨rfl, by omega⟩) K L aR q4J) ?_
 have ax : (aO).length = e.length - B := by rw [O]; simp only [List.length_drop, List.length_take]; omega
 refine tD (j4S (r := z4) (i := F) [] R [iv 0, iv 0, iv 0, iv 0] ((⟨0, 0, 0, 0⟩ : ApiNeed) : ApiNeed) B rfl aD J (Nat.le_trans K L) ax rfl q4J z9H rfl rfl rfl ⟨[iv 0], _, rfl, rfl, ⟨[iv 0], _, rfl, rfl, ⟨[iv 0], _, rfl, rfl, rfl⟩⟩⟩) ?_
 rintro _ _ ⟨ay, rfl, rfl, ai⟩
 refine Tr 0 rfl (v' := .slice W (j0d e F ((⟨0, 0, 0, 0⟩ : ApiNeed) : ApiNeed)).length D) (by simp only [q9X])<|Te<|Cr<|mV rfl<|mV rfl ?_
 obtain ⟨bi, aT, hm⟩ := bS hm
 obtain ⟨C, aU, ba, az, S, T, U⟩ := q4Q aT
 have aV := OS.lc ai
 refine tS (U ▸ q7R (l := j0d e F ((⟨0, 0, 0, 0⟩ : ApiNeed) : ApiNeed)) C aU rfl (.inl ⟨rfl, by omega⟩) (.inr ⟨_, _, _, rfl, rfl, az⟩) S T aV q4J) ?_
 obtain ⟨V, aA, aj⟩ := OS.sub (sz := 4) rfl ai S T
 rw [← U] at aj
 refine q8s [] ay V R rfl aA<|aS rfl<|Te<|Ct ?_
 obtain rfl := o1 hm
 exact rO ⟨(q8Y W D C 4), (D - C), V, rfl, rfl, aj⟩ aw
theorem q6f (b : Base) (R : Hp) (d : ApiNeed) (i) (hm : q0Y d = some i):
 CallsG Tryz.prog 78 [.agg #[iv d.Kind, iv d.Place, iv d.Position, iv d.At]] b (R) (fun v b' hp' => bv i = v ∧ R = hp') := by
 refine fE 11 Tryz.func78 rfl Tryz.ntmps78 rfl ?_
 unfold q0Y at hm
 refine Cr<|tD (uB _ rfl rfl) ?_
 rintro _ _ ⟨j, rfl, rfl⟩
 refine aS rfl<|Te ?_
 obtain ⟨h, e, f⟩ := bS hm
 refine Cj (fun g e' hp' => [(2, bv h)] = e' ∧ R = hp' ∧ b.Le g) ?_ ?_
 have hm := e
 refine Cg<|tS (sF rfl P6)<|tS (sL 0 rfl j4 rfl rfl)<|Tb rfl (q1 rfl rfl) (fun a => ?_) (fun a => ?_)
 rw [if_pos a] at hm
 refine mV rfl<|nO<|nO<|nO<|tS (pT rfl rfl)<|aS rfl<|Tn ?_
 obtain rfl := o1 hm
 exact jJ ⟨rfl, rfl, lr⟩
 rw [if_neg a] at hm
 refine mV rfl<|yS<|tS (sF rfl P6)<|yS<|tS (sL 0 rfl j4 rfl rfl)<|yS<|tS (q1 rfl rfl)<|tS (pF rfl rfl)<|aS rfl<|Tn ?_
 obtain rfl := o1 hm
 exact jJ ⟨rfl, rfl, lr⟩
 rintro g _ _ ⟨rfl, rfl, c⟩
 have hm := f
 refine Ct ?_
 obtain rfl := o1 hm
 exact rO ⟨rfl, rfl⟩ c
theorem q4y (b : Base) (R : Hp) (i : ApiNeed) (e : ApiNeed) (o j) (hm : K8 i e = some j):
 CallsG Tryz.prog 79 [.agg #[iv i.Kind, iv i.Place, iv i.Position, iv i.At], .agg #[iv e.Kind, iv e.Place, iv e.Position, iv e.At], pb o] b ((o, Cl 131 [.func (.func 78) #[] #[]]) :: R) (fun v b' hp' => bv j = v ∧ (o, Cl 131 [.func (.func 78) #[] #[]]) :: R = hp') := by
 refine fE 26 Tryz.func79 rfl Tryz.ntmps79 rfl ?_
 unfold K8 at hm
 refine Cr<|tD (uB _ rfl rfl) ?_
 rintro _ _ ⟨q, rfl, rfl⟩
 refine tD (uB _ rfl rfl) ?_
 rintro _ _ ⟨r, rfl, rfl⟩
 refine aS rfl<|Te ?_
 obtain ⟨p, k, l⟩ := bS hm
 refine Cj (fun m e' hp' => [(5, bv p)] = e' ∧ (o, Cl 131 [.func (.func 78) #[] #[]]) :: R = hp' ∧ b.Le m) ?_ ?_
 have hm := k
 refine Cg<|tS (sF rfl P6)<|tS (sL 1 rfl j4 rfl rfl)<|Tb rfl (q1 rfl rfl) (fun c => ?_) (fun c => ?_)
 rw [if_pos c] at hm
 refine mV rfl<|yS<|tS (sF rfl P6)<|yS<|tS (sL 0 rfl j4 rfl rfl)<|yS<|Tb rfl (q1 rfl rfl) (fun d => ?_) (fun d => ?_)
 rw [if_pos d] at hm
 refine yS<|mV rfl<|nO<|nO<|nO<|yS<|tS (pT rfl rfl)<|tS (pT rfl rfl)<|mV rfl<|yS<|tS (sF rfl P5)<|yS<|tS (sL 1 rfl j4 rfl rfl)<|yS<|tS (sF rfl P5)<|yS<|tS (sL 0 rfl j4 rfl rfl)<|yS<|tS (q2 rfl rfl)<|tS (pT rfl rfl)<|aS rfl<|Tn ?_
 obtain rfl := o1 hm
 exact jJ ⟨rfl, rfl, lr⟩
 rw [if_neg d] at hm
 refine yS<|mV rfl<|yS<|tS (sL 2 rfl z7t rfl rfl)<|yS<|tS (sD (vs := [_, _, _, _]) 0 4 rfl Y1 rfl rfl rfl)<|yS ?_
 obtain ⟨n, f, hm⟩ := bS hm
 refine tD (q0m #[] #[] [.agg #[iv e.Kind, iv e.Place, iv e.Position, iv e.At]] rfl z8k rfl (fun w ho => q6f _ [] e n f) (fun _ _ _ h => h.2.symm)) ?_
 rintro _ _ ⟨⟨_, rfl, _⟩, rfl⟩
 rcases Bool.eq_false_or_eq_true n with a | a
 rw [if_pos a] at hm
 refine Tr 16 rfl (v' := .bool true) (by rw [a] <;> rfl)<|yS<|tS (pF rfl rfl)<|tS (pT rfl rfl)<|mV rfl<|yS<|tS (sF rfl P5)<|yS<|tS (sL 1 rfl j4 rfl rfl)<|yS<|tS (sF rfl P5)<|yS<|tS (sL 0 rfl j4 rfl rfl)<|yS<|tS (q2 rfl rfl)<|tS (pT rfl rfl)<|aS rfl<|Tn ?_
 obtain rfl := o1 hm
 exact jJ ⟨rfl, rfl, lr⟩
 rw [if_neg (fun hh => Bool.noConfusion (hh.symm.trans a))] at hm
 refine Tr 16 rfl (v' := .bool false) (by rw [a] <;> rfl)<|yS<|tS (pF rfl rfl)<|tS (pT rfl rfl)<|mV rfl<|nO<|nO<|nO<|nO<|nO<|tS (pF rfl rfl)<|aS rfl<|Tn ?_
 obtain rfl := o1 hm
 exact jJ ⟨rfl, rfl, lr⟩
 rw [if_neg c] at hm
 refine mV rfl<|nO<|nO<|nO<|nO<|nO<|nO<|nO<|nO<|tS (pF rfl rfl)<|mV rfl<|nO<|nO<|nO<|nO<|nO<|tS (pF rfl rfl)<|aS rfl<|Tn ?_
 obtain rfl := o1 hm
 exact jJ ⟨rfl, rfl, lr⟩
 rintro m _ _ ⟨rfl, rfl, g⟩
 have hm := l
 refine Ct ?_
 obtain rfl := o1 hm
 exact rO ⟨rfl, rfl⟩ g
theorem q4x (b : Base) (R : Hp) (d : ApiNeed) (e : ApiNeed) (f) (hm : K7 d e = some f):
 CallsG Tryz.prog 80 [.agg #[iv d.Kind, iv d.Place, iv d.Position, iv d.At], .agg #[iv e.Kind, iv e.Place, iv e.Position, iv e.At]] b (R) (fun v b' hp' => bv f = v ∧ R = hp') := by
 refine fE 13 Tryz.func80 rfl Tryz.ntmps80 rfl ?_
 unfold K7 at hm
 refine Cr<|tD (uB _ rfl rfl) ?_
 rintro _ _ ⟨k, rfl, rfl⟩
 refine tD (uB _ rfl rfl) ?_
 rintro _ _ ⟨l, rfl, rfl⟩
 refine aS rfl<|Te ?_
 obtain ⟨j, g, h⟩ := bS hm
 refine Cj (fun i e' hp' => [(4, bv j)] = e' ∧ R = hp' ∧ b.Le i) ?_ ?_
 have hm := g
 refine Cg<|tS (sF rfl P6)<|tS (sL 1 rfl j4 rfl rfl)<|Tb rfl (q1 rfl rfl) (fun a => ?_) (fun a => ?_)
 rw [if_pos a] at hm
 refine mV rfl<|yS<|tS (sF rfl P6)<|yS<|tS (sL 0 rfl j4 rfl rfl)<|yS<|tS (q1 rfl rfl)<|tS (pT rfl rfl)<|aS rfl<|Tn ?_
 obtain rfl := o1 hm
 exact jJ ⟨rfl, rfl, lr⟩
 rw [if_neg a] at hm
 refine mV rfl<|nO<|nO<|nO<|tS (pF rfl rfl)<|aS rfl<|Tn ?_
 obtain rfl := o1 hm
 exact jJ ⟨rfl, rfl, lr⟩
 rintro i _ _ ⟨rfl, rfl, c⟩
 have hm := h
 refine Ct ?_
 obtain rfl := o1 hm
 exact rO ⟨rfl, rfl⟩ c
theorem z1B (b : Base) (R : Hp) (a : ApiNeed) (c : ApiNeed) (U) (hm : q2D a c = some U):
 CallsG Tryz.prog 34 [.agg #[iv a.Kind, iv a.Place, iv a.Position, iv a.At], .agg #[iv c.Kind, iv c.Place, iv c.Position, iv c.At]] b (R) (fun v b' hp' => bv U = v ∧ R = hp') := by
 refine fE 46 Tryz.func34 rfl Tryz.ntmps34 rfl ?_
 unfold q2D at hm
 refine Cr<|tD (uB _ rfl rfl) ?_
 rintro _ _ ⟨ac, rfl, rfl⟩
 refine tD (uB _ rfl rfl) ?_
 rintro _ _ ⟨ad, rfl, rfl⟩
 refine aS rfl<|Te<|Cs<|Cr<|tS (sF rfl q2r)<|tS (sL 1 rfl j4 rfl rfl)<|tS (sF rfl q2r)<|tS (sL 0 rfl j4 rfl rfl)<|tS (q2 rfl rfl)<|Te<|cI hm rfl (fun hm => ?_) fun hm => ?_
 refine Cr<|aS rfl<|Te<|Ct<|Xr ?_
 obtain rfl := o1 hm
 exact rO ⟨rfl, rfl⟩ lr
 refine Ck<|Xn<|Cr<|tD (uA [.nilFunc] j0X rfl) ?_
 rintro _ _ ⟨q, rfl, rfl⟩
 refine tD (uS 0 rfl rfl j2R rfl rfl (by simp)) ?_
 rintro _ _ rfl
 refine Te<|Cr<|tS (q4A _ _ rfl rfl)<|aS rfl<|Te<|Cr<|aS rfl<|Te ?_
 obtain ⟨V, S, T⟩ := bS hm
 refine Cj (fun E e' hp' => [(4, bv V)] = e' ∧ R = hp' ∧ b.Le E) ?_ ?_
 have hm := S
 refine Cg<|tS (sL 0 rfl z7t rfl rfl)<|tS (sD (vs := [_, _, _, _]) 2 4 rfl Y1 rfl rfl rfl) ?_
 obtain ⟨F, r, hm⟩ := bS hm
 refine tD (q0m #[] #[] [.agg #[iv a.Kind, iv a.Place, iv a.Position, iv a.At]] rfl z8k rfl (fun w ho => q6f _ [] a F r) (fun _ _ _ h => h.2.symm)) ?_
 rintro _ _ ⟨⟨_, rfl, _⟩, rfl⟩
 rcases Bool.eq_false_or_eq_true F with f | f
 rw [if_pos f] at hm
 refine Tr 16 rfl (v' := .bool true) (by rw [f] <;> rfl)<|mV rfl<|yS<|tS (sL 0 rfl z7t rfl rfl)<|yS<|tS (sD (vs := [_, _, _, _]) 1 4 rfl Y1 rfl rfl rfl)<|yS ?_
 obtain ⟨G, s, hm⟩ := bS hm
 refine tD (q0m #[] #[] [.agg #[iv c.Kind, iv c.Place, iv c.Position, iv c.At]] rfl z8k rfl (fun w ho => q6f _ [] c G s) (fun _ _ _ h => h.2.symm)) ?_
 rintro _ _ ⟨⟨_, rfl, _⟩, rfl⟩
 rcases Bool.eq_false_or_eq_true G with g | g
 rw [if_pos g] at hm
 refine Tr 20 rfl (v' := .bool true) (by rw [g] <;> rfl)<|tS (pT rfl rfl)<|mV rfl<|nO<|nO<|nO<|nO<|tS (pT rfl rfl)<|mV rfl<|nO<|nO<|nO<|nO<|tS (pT rfl rfl)<|mV rfl<|nO<|nO<|nO<|nO<|tS (pT rfl rfl)<|mV rfl<|nO<|nO<|nO<|nO<|tS (pT rfl rfl)<|aS rfl<|Tn ?_
 obtain rfl := o1 hm
 exact jJ ⟨rfl, rfl, lr⟩
 rw [if_neg (fun hh => Bool.noConfusion (hh.symm.trans g))] at hm
 refine Tr 20 rfl (v' := .bool false) (by rw [g] <;> rfl)<|tS (pT rfl rfl)<|mV rfl<|yS<|mV rfl<|yS<|tS (sD (vs := [_, _, _, _]) 2 4 rfl Y1 rfl rfl rfl)<|yS<|tS (sD (vs := [_, _, _, _]) 1 4 rfl Y1 rfl rfl rfl)<|yS ?_
 obtain ⟨H, t, hm⟩ := bS hm
 refine Tv #[] #[pb q] [.agg #[iv a.Kind, iv a.Place, iv a.Position, iv a.At], .agg #[iv c.Kind, iv c.Place, iv c.Position, iv c.At]] rfl rfl z5D rfl (q4y _ _ a c q H t) ?_
 rintro _ Y _ d ⟨rfl, rfl⟩
 rcases Bool.eq_false_or_eq_true H with i | i
 rw [if_pos i] at hm
 refine Tr 26 rfl (v' := .bool true) (by rw [i] <;> rfl)<|tS (pF rfl rfl)<|mV rfl<|nO<|nO<|nO<|nO<|tS (pT rfl rfl)<|mV rfl<|nO<|nO<|nO<|nO<|tS (pT rfl rfl)<|mV rfl<|nO<|nO<|nO<|nO<|tS (pT rfl rfl)<|aS rfl<|Tn ?_
 obtain rfl := o1 hm
 exact jJ ⟨rfl, rfl, d⟩
 rw [if_neg (fun hh => Bool.noConfusion (hh.symm.trans i))] at hm
 refine Tr 26 rfl (v' := .bool false) (by rw [i] <;> rfl)<|tS (pF rfl rfl)<|mV rfl<|yS<|mV rfl<|yS<|tS (sD (vs := [_, _, _, _]) 1 4 rfl Y1 rfl rfl rfl)<|yS<|tS (sD (vs := [_, _, _, _]) 2 4 rfl Y1 rfl rfl rfl)<|yS ?_
 obtain ⟨I, u, hm⟩ := bS hm
 refine Tv #[] #[pb q] [.agg #[iv c.Kind, iv c.Place, iv c.Position, iv c.At], .agg #[iv a.Kind, iv a.Place, iv a.Position, iv a.At]] rfl rfl z5D rfl (q4y _ _ c a q I u) ?_
 rintro _ Z _ o ⟨rfl, rfl⟩
 rcases Bool.eq_false_or_eq_true I with j | j
 rw [if_pos j] at hm
 refine Tr 32 rfl (v' := .bool true) (by rw [j] <;> rfl)<|tS (pF rfl rfl)<|mV rfl<|nO<|nO<|nO<|nO<|tS (pT rfl rfl)<|mV rfl<|nO<|nO<|nO<|nO<|tS (pT rfl rfl)<|aS rfl<|Tn ?_
 obtain rfl := o1 hm
 exact jJ ⟨rfl, rfl, (d.trans o)⟩
 rw [if_neg (fun hh => Bool.noConfusion (hh.symm.trans j))] at hm
 refine Tr 32 rfl (v' := .bool false) (by rw [j] <;> rfl)<|tS (pF rfl rfl)<|mV rfl<|yS<|mV rfl<|yS<|tS (sD (vs := [_, _, _, _]) 2 4 rfl Y1 rfl rfl rfl)<|yS<|tS (sD (vs := [_, _, _, _]) 1 4 rfl Y1 rfl rfl rfl)<|yS ?_
 obtain ⟨J, x, hm⟩ := bS hm
 refine tD (q0m #[] #[] [.agg #[iv a.Kind, iv a.Place, iv a.Position, iv a.At], .agg #[iv c.Kind, iv c.Place, iv c.Position, iv c.At]] rfl z5C rfl (fun w ho => q4x _ [] a c J x) (fun _ _ _ h => h.2.symm)) ?_
 rintro _ _ ⟨⟨_, rfl, _⟩, rfl⟩
 rcases Bool.eq_false_or_eq_true J with k | k
 rw [if_pos k] at hm
 refine Tr 38 rfl (v' := .bool true) (by rw [k] <;> rfl)<|tS (pF rfl rfl)<|mV rfl<|nO<|nO<|nO<|nO<|tS (pT rfl rfl)<|aS rfl<|Tn ?_
 obtain rfl := o1 hm
 exact jJ ⟨rfl, rfl, (d.trans o)⟩
 rw [if_neg (fun hh => Bool.noConfusion (hh.symm.trans k))] at hm
 refine Tr 38 rfl (v' := .bool false) (by rw [k] <;> rfl)<|tS (pF rfl rfl)<|mV rfl<|yS<|mV rfl<|yS<|tS (sD (vs := [_, _, _, _]) 1 4 rfl Y1 rfl rfl rfl)<|yS<|tS (sD (vs := [_, _, _, _]) 2 4 rfl Y1 rfl rfl rfl)<|yS ?_
 obtain ⟨W, y, hm⟩ := bS hm
 refine tD (q0m #[] #[] [.agg #[iv c.Kind, iv c.Place, iv c.Position, iv c.At], .agg #[iv a.Kind, iv a.Place, iv a.Position, iv a.At]] rfl z5C rfl (fun w ho => q4x _ [] c a W y) (fun _ _ _ h => h.2.symm)) ?_
 rintro _ _ ⟨⟨_, rfl, _⟩, rfl⟩
 refine tS (pF rfl rfl)<|aS rfl<|Tn ?_
 obtain rfl := o1 hm
 exact jJ ⟨rfl, rfl, (d.trans o)⟩
 rw [if_neg (fun hh => Bool.noConfusion (hh.symm.trans f))] at hm
 refine Tr 16 rfl (v' := .bool false) (by rw [f] <;> rfl)<|mV rfl<|nO<|nO<|nO<|tS (pF rfl rfl)<|mV rfl<|yS<|mV rfl<|yS<|tS (sD (vs := [_, _, _, _]) 2 4 rfl Y1 rfl rfl rfl)<|yS<|tS (sD (vs := [_, _, _, _]) 1 4 rfl Y1 rfl rfl rfl)<|yS ?_
 obtain ⟨K, z, hm⟩ := bS hm
 refine Tv #[] #[pb q] [.agg #[iv a.Kind, iv a.Place, iv a.Position, iv a.At], .agg #[iv c.Kind, iv c.Place, iv c.Position, iv c.At]] rfl rfl z5D rfl (q4y _ _ a c q K z) ?_
 rintro _ aa _ e ⟨rfl, rfl⟩
 rcases Bool.eq_false_or_eq_true K with l | l
 rw [if_pos l] at hm
 refine Tr 26 rfl (v' := .bool true) (by rw [l] <;> rfl)<|tS (pF rfl rfl)<|mV rfl<|nO<|nO<|nO<|nO<|tS (pT rfl rfl)<|mV rfl<|nO<|nO<|nO<|nO<|tS (pT rfl rfl)<|mV rfl<|nO<|nO<|nO<|nO<|tS (pT rfl rfl)<|aS rfl<|Tn ?_
 obtain rfl := o1 hm
 exact jJ ⟨rfl, rfl, e⟩
 rw [if_neg (fun hh => Bool.noConfusion (hh.symm.trans l))] at hm
 refine Tr 26 rfl (v' := .bool false) (by rw [l] <;> rfl)<|tS (pF rfl rfl)<|mV rfl<|yS<|mV rfl<|yS<|tS (sD (vs := [_, _, _, _]) 1 4 rfl Y1 rfl rfl rfl)<|yS<|tS (sD (vs := [_, _, _, _]) 2 4 rfl Y1 rfl rfl rfl)<|yS ?_
 obtain ⟨L, A, hm⟩ := bS hm
 refine Tv #[] #[pb q] [.agg #[iv c.Kind, iv c.Place, iv c.Position, iv c.At], .agg #[iv a.Kind, iv a.Place, iv a.Position, iv a.At]] rfl rfl z5D rfl (q4y _ _ c a q L A) ?_
 rintro _ ab _ p ⟨rfl, rfl⟩
 rcases Bool.eq_false_or_eq_true L with m | m
 rw [if_pos m] at hm
 refine Tr 32 rfl (v' := .bool true) (by rw [m] <;> rfl)<|tS (pF rfl rfl)<|mV rfl<|nO<|nO<|nO<|nO<|tS (pT rfl rfl)<|mV rfl<|nO<|nO<|nO<|nO<|tS (pT rfl rfl)<|aS rfl<|Tn ?_
 obtain rfl := o1 hm
 exact jJ ⟨rfl, rfl, (e.trans p)⟩
 rw [if_neg (fun hh => Bool.noConfusion (hh.symm.trans m))] at hm
 refine Tr 32 rfl (v' := .bool false) (by rw [m] <;> rfl)<|tS (pF rfl rfl)<|mV rfl<|yS<|mV rfl<|yS<|tS (sD (vs := [_, _, _, _]) 2 4 rfl Y1 rfl rfl rfl)<|yS<|tS (sD (vs := [_, _, _, _]) 1 4 rfl Y1 rfl rfl rfl)<|yS ?_
 obtain ⟨O, B, hm⟩ := bS hm
 refine tD (q0m #[] #[] [.agg #[iv a.Kind, iv a.Place, iv a.Position, iv a.At], .agg #[iv c.Kind, iv c.Place, iv c.Position, iv c.At]] rfl z5C rfl (fun w ho => q4x _ [] a c O B) (fun _ _ _ h => h.2.symm)) ?_
 rintro _ _ ⟨⟨_, rfl, _⟩, rfl⟩
 rcases Bool.eq_false_or_eq_true O with n | n
 rw [if_pos n] at hm
 refine Tr 38 rfl (v' := .bool true) (by rw [n] <;> rfl)<|tS (pF rfl rfl)<|mV rfl<|nO<|nO<|nO<|nO<|tS (pT rfl rfl)<|aS rfl<|Tn ?_
 obtain rfl := o1 hm
 exact jJ ⟨rfl, rfl, (e.trans p)⟩
 rw [if_neg (fun hh => Bool.noConfusion (hh.symm.trans n))] at hm
 refine Tr 38 rfl (v' := .bool false) (by rw [n] <;> rfl)<|tS (pF rfl rfl)<|mV rfl<|yS<|mV rfl<|yS<|tS (sD (vs := [_, _, _, _]) 1 4 rfl Y1 rfl rfl rfl)<|yS<|tS (sD (vs := [_, _, _, _]) 2 4 rfl Y1 rfl rfl rfl)<|yS ?_
 obtain ⟨X, C, hm⟩ := bS hm
 refine tD (q0m #[] #[] [.agg #[iv c.Kind, iv c.Place, iv c.Position, iv c.At], .agg #[iv a.Kind, iv a.Place, iv a.Position, iv a.At]] rfl z5C rfl (fun w ho => q4x _ [] c a X C) (fun _ _ _ h => h.2.symm)) ?_
 rintro _ _ ⟨⟨_, rfl, _⟩, rfl⟩
 refine tS (pF rfl rfl)<|aS rfl<|Tn ?_
 obtain rfl := o1 hm
 exact jJ ⟨rfl, rfl, (e.trans p)⟩
 rintro E _ _ ⟨rfl, rfl, D⟩
 have hm := T
 refine Ct ?_
 obtain rfl := o1 hm
 exact rO ⟨rfl, rfl⟩ D
theorem q8o (b : Base) (R : Hp) (c : ApiNeed) (e f g i j d) (hm : q1p c e f g i = some d):
 CallsG Tryz.prog 109 [.agg #[iv c.Kind, iv c.Place, iv c.Position, iv c.At], pb j] b ((j, Cl 72 [iv e, iv f, iv g, iv i]) :: R) (fun v b' hp' => bv d = v ∧ (j, Cl 72 [iv e, iv f, iv g, iv i]) :: R = hp') := by
 refine fE 7 Tryz.func109 rfl Tryz.ntmps109 rfl ?_
 unfold q1p at hm
 refine Cr<|tD (uB _ rfl rfl) ?_
 rintro _ _ ⟨l, rfl, rfl⟩
 refine aS rfl<|Te<|Cr<|tS (sD (vs := [_, _, _, _]) 0 4 rfl Y1 rfl rfl rfl)<|tS (sD (vs := [_, _, _, _]) 1 4 rfl Y1 rfl rfl rfl) ?_
 obtain ⟨k, a, hm⟩ := bS hm
 refine tD (uW _ j0O rfl (fun w ho => z1B _ [] c (⟨e, f, g, i⟩ : ApiNeed) k a) (fun _ _ _ h => h.2.symm)) ?_
 rintro _ _ ⟨⟨_, rfl, _⟩, rfl⟩
 refine aS rfl<|Te<|Ct ?_
 obtain rfl := o1 hm
 exact rO ⟨rfl, rfl⟩ lr
theorem q7B (b : Base) (R : Hp) (x y z h e p I J l) (U : OS 72 (OT.fr z4) b.w (sv I e J) e l) (A) (hm : q2e x y z h e = some A):
 CallsG Tryz.prog 107 [sv I e J, .func (.func 109) #[] #[pb p]] b ((p, Cl 72 [iv x, iv y, iv z, iv h]) :: (l ++ R)) (fun v b' hp' => iv A = v ∧ (p, Cl 72 [iv x, iv y, iv z, iv h]) :: (l ++ R) = hp') := by
 refine fE 19 Tryz.func107 rfl Tryz.ntmps107 rfl ?_
 unfold q2e at hm
 refine Cr<|aS rfl<|Te<|Cs<|Cr<|mV rfl<|tS (sE rfl q4J)<|mV rfl<|Te<|Cb ?_
 have V : e.length ≤ 9223372036854775807 := (OS.len U)
 obtain ⟨ab, B, f⟩ := bS hm
 refine lF (fun C => fun _ => fun q e' hp' => [(0, sv I e J), (1, .func (.func 109) #[] #[pb p]), (7, iv ((e.length : Int))), (8, iv ((C : Int)))] = e' ∧ (p, Cl 72 [iv x, iv y, iv z, iv h]) :: (l ++ R) = hp' ∧ b.Le q) B ⟨rfl, rfl, lr⟩ ?_ ?_
 rintro C _ q _ _ W G ⟨rfl, rfl, a⟩ c i
 unfold q0B at c
 have hm := c
 refine Cr<|tS (lT rfl rfl (by omega))<|Te<|Cs<|j1 rfl<|Ck<|Xn<|Cs<|Cb<|Cr<|mV rfl<|aS rfl<|Te<|Cr<|mV rfl<|mV rfl<|mV rfl ?_
 obtain ⟨d, K, hm⟩ := bS hm
 obtain ⟨L, D, E⟩ := iS K
 obtain ⟨X, O, Y, Z, S, r, m, k, n, T, H⟩ := OS.get (sz := 4) rfl (by decide) (U.le a) E
 obtain ⟨⟨_, _, rfl, rfl, ⟨_, _, rfl, rfl, ⟨_, _, rfl, rfl, rfl⟩⟩⟩, rfl⟩ := r
 refine tS (sI L rfl rfl D n k q4J)<|tS (j8 (vs := [iv d.Kind, iv d.Place, iv d.Position, iv d.At]) 4 rfl Y1 k rfl (fun w ho j u hu => m w _ ho (.cons _ (List.sublist_append_left _ _)) j u hu)) ?_
 obtain ⟨F, o, hm⟩ := bS hm
 refine Tv #[] #[pb p] [.agg #[iv d.Kind, iv d.Place, iv d.Position, iv d.At]] rfl rfl j2m rfl (q8o _ _ d x y z h p F o) ?_
 rintro _ aa _ g ⟨rfl, rfl⟩
 refine Te<|cB hm rfl (fun hm => ?_) fun hm => ?_
 refine Cr<|mV rfl<|aS rfl<|Te<|Ct<|Xb<|Xr<|Xr<|Xb<|Xr ?_
 have s := i _ (Option.some.inj hm).symm
 rw [s] at f
 have hm := k8 f
 obtain rfl := o1 hm
 exact rO ⟨rfl, rfl⟩ (a.trans g)
 refine Ck<|Xm<|Xn<|Cg<|tS (sa rfl rfl (by omega))<|mV rfl<|Tn ?_
 exact jM hm ⟨rfl, rfl, ((a.trans g))⟩
 rintro _ q _ _ ⟨rfl, rfl, a⟩ t
 rw [t] at f
 have hm := J5 f
 refine Cr<|tS (lF rfl rfl (by omega))<|Te<|Cs<|j0 rfl<|Ce<|Xe<|Xe<|Xo<|Xn<|Cr<|aS rfl<|Te<|Ct ?_
 obtain rfl := o1 hm
 exact rO ⟨rfl, rfl⟩ a
theorem q6a (b : Base) (R : Hp) (h i j d c k l m a) (o : OS 72 (OT.fr z4) b.w (sv l c m) c a) (g) (hm : Y6 h i j d c = some g):
 CallsG Tryz.prog 108 [sv l c m, .func (.func 109) #[] #[pb k]] b ((k, Cl 72 [iv h, iv i, iv j, iv d]) :: (a ++ R)) (fun v b' hp' => bv g = v ∧ (k, Cl 72 [iv h, iv i, iv j, iv d]) :: (a ++ R) = hp') := by
 refine fE 9 Tryz.func108 rfl Tryz.ntmps108 rfl ?_
 unfold Y6 at hm
 refine Cr<|aS rfl<|Te<|Cr<|mV rfl<|mV rfl ?_
 obtain ⟨n, e, hm⟩ := bS hm
 refine q4j [_] [] a R rfl<|Tg _ rfl z4K rfl (q7B _ _ h i j d c k l m a o n e) ?_
 rintro _ p _ f ⟨rfl, rfl⟩
 refine q4c [_] [] a R rfl<|tS (q6 rfl rfl)<|aS rfl<|Te<|Ct ?_
 obtain rfl := o1 hm
 exact rO ⟨rfl, rfl⟩ f
theorem z0l (b : Base) (R : Hp) (ab U V W X Y Z aa H I J bo bp) (ads : Int → Nat) (x ac ad ae af ag ah ai aj ak al am an ao aq A3 c4 f A8 c9 g ar au d K aK e) (cq : FZ RT.str b.w ac ad U) (cr : FZ rApiSection b.w ae af V) (cs : FZ rApiLink b.w ag ah W) (ct : FZ rApiSignal b.w ai aj X) (cu : FZ rApiGate b.w ak al Y) (bX : FZ j3 b.w am an Z) (cv : FZ (RT.list z4) b.w ao aq aa) (h5 : OS 72 (OT.fr z4) b.w (sv A3 H c4) H f) (cw : OS 59 (OT.fr z7) b.w (sv A8 I c9) I g) (cx : OS 127 (OT.fr z8) b.w (sv ar J au) J d) (bY : OM rI (OT.fr (RT.key ads)) false false b.w K bo aK) (bK : OAr 85 q9 ads b.w bp e) (aL aM) (hm : q0X ab U V W X Y Z aa H I J bo bp = some (aL, aM)):
 CallsG Tryz.prog 70 [pb x, iv ab, sv A3 H c4] b ((x, Cl 57 [sv ac U ad, sv ae V af, sv ag W ah, sv ai X aj, sv ak Y al, sv am Z an, sv ao aa aq, sv A8 I c9, sv ar J au, .map (some K)]) :: (f ++ (g ++ (d ++ (aK ++ (e ++ R)))))) (fun v b' hp' => ∃ aB, bv aL = v ∧ (x, Cl 57 [sv ac U ad, sv ae V af, sv ag W ah, sv ai X aj, sv ak Y al, sv am Z an, sv ao aa aq, sv A8 I c9, sv ar J au, .map (some K)]) :: (f ++ (g ++ (d ++ (aB ++ (e ++ R))))) = hp' ∧ OM rI (OT.fr (RT.key ads)) false false b'.w K aM aB) := by
 refine fE 50 Tryz.func70 rfl Tryz.ntmps70 rfl ?_
 unfold q0X at hm
 refine Cr<|aS rfl<|Te ?_
 obtain ⟨bq, a5, y⟩ := bS hm
 refine Cj (fun av e' hp' => ∃ (aw : (List (Int × (Option Int)))), ∃ z, [] = e' ∧ (x, Cl 57 [sv ac U ad, sv ae V af, sv ag W ah, sv ai X aj, sv ak Y al, sv am Z an, sv ao aa aq, sv A8 I c9, sv ar J au, .map (some K)]) :: (f ++ (g ++ (d ++ (z ++ (e ++ R))))) = hp' ∧ b.Le av ∧ OM rI (OT.fr (RT.key ads)) false false av.w K aw z ∧ bq = .inl aw) ?_ ?_
 have hm := a5
 refine Cr<|mV rfl<|tS (sN rfl)<|tS (sF rfl q1h)<|tS (sL 0 rfl q5F rfl rfl)<|v5 f g d aK<|tD (q7P [_] (f ++ (g ++ (d ++ (e ++ R)))) rfl bY q3o rfl) ?_
 rintro _ _ ⟨D, q, rfl, rfl, br⟩
 refine Te<|Cb<|K0 q f g d e<|K0 e q f g d<|K0 d e q f g<|K0 g d e q f<|K0 f g d e q ?_
 obtain ⟨bZ, a6, A⟩ := bS hm
 refine z1z (fun _ => fun aN e' hp' => [(0, pb x), (1, iv ab), (2, sv A3 H c4), (15, pb D)] = e' ∧ (x, Cl 57 [sv ac U ad, sv ae V af, sv ag W ah, sv ai X aj, sv ak Y al, sv am Z an, sv ao aa aq, sv A8 I c9, sv ar J au, .map (some K)]) :: (f ++ (g ++ (d ++ (e ++ R)))) = hp' ∧ b.Le aN) a6 br (e' := [(0, pb x), (1, iv ab), (2, sv A3 H c4), (15, pb D)]) ⟨rfl, rfl, rfl, rfl, trivial⟩ [_] (f ++ (g ++ (d ++ (e ++ R)))) rfl (.refl _) ⟨rfl, rfl, lr⟩ ?_
 rintro _ b0 aN _ _ aC ⟨rfl, rfl, k⟩ bL aO hd3183 hall3184
 refine z6C [_] aC (f ++ (g ++ (d ++ (e ++ R)))) ?_ rfl
 refine Cr<|z1i [_] (f ++ (g ++ (d ++ (e ++ R)))) rfl rfl rfl aO (fun hnil3186 => ?_) (fun E b1 b2 b3 a hperm3192 a7 aP => ?_)
 obtain ⟨aD, aH, bs⟩ := MIt.done aO
 refine q8s [_] aC aD (f ++ (g ++ (d ++ (e ++ R)))) rfl aH ?_
 have hend3198 := hd3183 hnil3186
 refine tS (z5 rfl rfl)<|Te<|Cs<|j0 rfl<|Ce<|Xe<|Xe<|Xo ?_
 rw [hend3198] at A
 have hm := J5 A
 have hq := (Option.some.inj hm).symm
 exact jJ ⟨bo, aD, rfl, rfl, k, bs, hq⟩
 obtain ⟨b4, F, aI⟩ := hall3184 _ _ hperm3192
 have s := F
 unfold G5 at s
 have hm := s
 refine tS (z5 rfl rfl)<|Te<|Cs<|j1 rfl<|Ck<|Xn<|Cb<|Cr ?_
 obtain ⟨aQ, aR, L, O, a8⟩ := MIx.entry Tryz.prog a7
 obtain rfl : aQ = iv E.1 := by have L : [aQ] = [iv E.1] := L; injection L
 obtain rfl : aR = kv ads E.2 := by have O : [aR] = [kv ads E.2] := O; injection O
 refine tS (a8 (.cons _ (List.sublist_append_left _ _)) rfl)<|tS (z5 rfl rfl)<|aS rfl<|Te<|Cr<|mV rfl ?_
 obtain ⟨r, aT, hm⟩ := bS hm
 refine q1Z a f g d e<|q4j [] [_] e (a ++ (f ++ (g ++ (d ++ R)))) rfl<|Tg _ rfl z5E rfl (q2u _ _ E.2 bp ads e (bK.le k) r aT) ?_
 rintro _ bt _ l ⟨aU, aV, c, rfl, rfl, aW⟩
 refine z5V [] [_] c e (a ++ (f ++ (g ++ (d ++ R)))) rfl<|tS (sE rfl q4J)<|mV rfl<|Te<|Cb ?_
 have bN : r.length ≤ 9223372036854775807 := (OS.len aW)
 refine j3x c e<|z8e e c a f g d<|z8e d e c a f g<|H6 g d e c<|K0 c g d e a<|z8e a c g d e f ?_
 obtain ⟨b5, a9, B⟩ := bS hm
 refine lF (fun ax => fun ay => fun S e' hp' => [(0, pb x), (1, iv ab), (2, sv A3 H c4), (8, kv ads ay), (15, pb D), (21, sv aU r aV), (22, iv ((r.length : Int))), (23, iv ((ax : Int)))] = e' ∧ (x, Cl 57 [sv ac U ad, sv ae V af, sv ag W ah, sv ai X aj, sv ak Y al, sv am Z an, sv ao aa aq, sv A8 I c9, sv ar J au, .map (some K)]) :: (f ++ (a ++ (c ++ (g ++ (d ++ (e ++ R)))))) = hp' ∧ bt.Le S) a9 ⟨rfl, rfl, lr⟩ ?_ ?_
 rintro ax ay S _ _ bO bJ ⟨rfl, rfl, h⟩ t az
 unfold Z1 at t
 have hm := t
 refine Cr<|tS (lT rfl rfl (by omega))<|Te<|Cs<|j1 rfl<|Ck<|Xn<|Cs<|Cb<|Cr ?_
 obtain ⟨i, bu, hm⟩ := bS hm
 obtain ⟨bw, ba, bb⟩ := iS bu
 obtain ⟨bP, bQ, b6, b7, bR, bc, aX, aE, aY, bT, bM⟩ := OS.get (sz := 4) rfl (by decide) (aW.le h) bb
 obtain ⟨⟨_, _, rfl, rfl, ⟨_, _, rfl, rfl, ⟨_, _, rfl, rfl, rfl⟩⟩⟩, rfl⟩ := bc
 refine tS (sI bw rfl rfl ba aY aE q4J)<|tS (j8 (vs := [iv i.Kind, iv i.Place, iv i.Position, iv i.At]) 4 rfl Y1 aE rfl (fun w ho j u hu => aX w _ ho (.cons _ (ss f (ss a (List.sublist_append_left _ _)))) j u hu))<|tD (uA [iv 0, iv 0, iv 0, iv 0] q4F rfl) ?_
 rintro _ _ ⟨aA, rfl, rfl⟩
 refine tD (uN (vs := [_, _, _, _]) 0 4 rfl rfl rfl q6Z rfl (mc rfl (mc rfl (mc rfl (mc rfl mn)))) rfl (by simp)) ?_
 rintro _ _ rfl
 refine Te<|Cs ?_
 obtain ⟨⟨bx, bz⟩, bd, be⟩ := bS hm
 refine Cj (fun aZ e' hp' => [(0, pb x), (1, iv ab), (2, sv A3 H c4), (8, kv ads bx), (10, pb aA), (15, pb D), (21, sv aU r aV), (22, iv ((r.length : Int))), (23, iv ((ax : Int))), (45, bv bz)] = e' ∧ (x, Cl 57 [sv ac U ad, sv ae V af, sv ag W ah, sv ai X aj, sv ak Y al, sv am Z an, sv ao aa aq, sv A8 I c9, sv ar J au, .map (some K)]) :: (aA, Cl 72 [iv i.Kind, iv i.Place, iv i.Position, iv i.At]) :: (f ++ (a ++ (c ++ (g ++ (d ++ (e ++ R)))))) = hp' ∧ S.Le aZ) ?_ ?_
 have hm := bd
 obtain ⟨bA, bB, hm⟩ := bS hm
 obtain ⟨b8, bC, hm⟩ := bS hm
 refine z0e 8 rfl (v' := .pointer (some ⟨(ads bA), 0, none⟩)) (by rw [bB]; rfl) ?_
 have zz := k.trans (l.trans h)
 obtain ⟨bU, bV, m, T, bf, hf3572⟩ := OAr.take (bK.le zz) bC
 obtain ⟨b9, ca, cb, cc, cd, ce, n, cf, cg, o, rfl, ch, ci, cj, ck, rfl⟩ := bf
 refine z4H f a c g d e<|q8x [_, _] e m n o (f ++ (a ++ (c ++ (g ++ (d ++ R))))) rfl T ?_
 by_cases C : i.Kind = 2
 rw [if_pos C] at hm
 obtain ⟨cl, bD, hm⟩ := bS hm
 refine Di Q5 (.refl _)<|E0 0 rfl (sF rfl P6)<|Es 1 rfl (sL 1 rfl j4 rfl rfl)<|E0 2 rfl (eT rfl rfl C)<|E0 3 rfl (sM rfl)<|Yz 4 30 rfl (sM rfl)<|Yz 5 30 rfl (sN rfl)<|Yz 6 30 rfl (sF rfl q1U)<|Yz 7 30 rfl (sF rfl q5M)<|Ey 8 30 rfl (sL 0 rfl j4 rfl rfl)<|Yz 9 30 rfl (sM rfl)<|Yz 10 30 rfl (sN rfl)<|Yz 11 30 rfl (sF rfl z4B)<|Ey 12 30 rfl (sL 2 rfl z7s rfl rfl)<|Yz 13 30 rfl (sM rfl) ?_
 obtain ⟨bE, bg, bh⟩ := iS bD
 obtain ⟨bW, bi, a0, aF, a1⟩ := FZ.get (sz := 3) rfl (by decide) (bX.le zz) bh
 obtain ⟨_, _, rfl, rfl, ⟨_, _, rfl, rfl, ⟨cm, cn, rfl, co⟩⟩⟩ := bi
 refine Yz 14 30 rfl (sI bE rfl rfl bg a1 aF z6Y)<|Yz 15 30 rfl (sQ rfl aF q5N)<|Ey 16 30 rfl (sO rfl j4 (a0 0 _ rfl))<|Yz 17 30 rfl (q1 rfl rfl)<|E0 18 rfl (pT rfl rfl)<|Eo<|Dd (by kernel_rfl)<|V8 n o m<|V8 m n o<|V8 o m n<|q1X [_, _] e m n o (f ++ (a ++ (c ++ (g ++ (d ++ R))))) rfl T ?_
 obtain ⟨rfl, rfl⟩ := j9 hm
 exact jJ ⟨rfl, rfl, lr⟩
 rw [if_neg C] at hm
 refine Di Q5 (.refl _)<|E0 0 rfl (sF rfl P6)<|Es 1 rfl (sL 1 rfl j4 rfl rfl)<|E0 2 rfl (eF rfl rfl C)<|E0 3 rfl (sM rfl)<|eN 4 rfl<|eN 5 rfl<|eN 6 rfl<|eN 7 rfl<|eN 8 rfl<|eN 9 rfl<|eN 10 rfl<|eN 11 rfl<|eN 12 rfl<|eN 13 rfl<|eN 14 rfl<|eN 15 rfl<|eN 16 rfl<|eN 17 rfl<|E0 18 rfl (pF rfl rfl)<|Eo<|Dd (by kernel_rfl)<|V8 n o m<|V8 m n o<|V8 o m n<|q1X [_, _] e m n o (f ++ (a ++ (c ++ (g ++ (d ++ R))))) rfl T ?_
 obtain ⟨rfl, rfl⟩ := j9 hm
 exact jJ ⟨rfl, rfl, lr⟩
 rintro aZ _ _ ⟨rfl, rfl, p⟩
 have hm := Q3 be
 refine cB hm rfl (fun hm => ?_) fun hm => ?_
 refine Ce<|Xe<|Xo<|Xn<|Cg<|tS (sa rfl rfl (by omega))<|mV rfl<|Tn ?_
 exact jM hm ⟨rfl, rfl, ((h.trans p))⟩
 refine Ck<|Xn<|Cr<|mV rfl<|tS (q4A _ _ rfl rfl) ?_
 obtain ⟨bG, a2, hm⟩ := bS hm
 refine v8 1 rfl<|q4j [_] [_] f (a ++ (c ++ (g ++ (d ++ (e ++ R))))) rfl<|Tg _ rfl z8r rfl (q6a _ _ i.Kind i.Place i.Position i.At H aA A3 c4 f (h5.le (k.trans (l.trans (h.trans p)))) bG a2) ?_
 rintro _ cp _ G ⟨rfl, rfl⟩
 refine q4c [_] [_] f (a ++ (c ++ (g ++ (d ++ (e ++ R))))) rfl<|Te<|cB hm rfl (fun hm => ?_) fun hm => ?_
 refine Cr<|aS rfl<|Te<|Ct<|Xb<|Xr<|Xr<|Xb<|Xb<|Xr<|Xb<|Xr ?_
 have bj := az _ (Option.some.inj hm).symm
 rw [bj] at B
 have hm := k8 B
 have bk := aI _ (Option.some.inj hm).symm
 rw [bk] at A
 have hm := k8 A
 have bl := (Option.some.inj hm).symm
 rw [bl] at y
 have hm := k8 y
 refine j2z f a ?_
 have zy := l.trans (h.trans (p.trans G))
 obtain ⟨aG, aJ, bH⟩ := MIt.done (aP.le zy)
 refine z6M [_, _] a aG (f ++ (c ++ (g ++ (d ++ (e ++ R))))) rfl aJ ?_
 obtain ⟨rfl, rfl⟩ := j9 hm
 exact rO ⟨aG, rfl, rfl, bH⟩ (k.trans zy)
 refine Ck<|Xm<|Xn<|Cg<|tS (sa rfl rfl (by omega))<|mV rfl<|Tn ?_
 exact jM hm ⟨rfl, rfl, ((h.trans (p.trans G)))⟩
 rintro ay S _ _ ⟨rfl, rfl, h⟩ bm
 rw [bm] at B
 have hm := J5 B
 refine Cr<|tS (lF rfl rfl (by omega))<|Te<|Cs<|j0 rfl<|Ce<|Xe<|Xe<|Xo<|Xm<|j0Y f a c g d e<|j0Y e f a c g d<|j0Y d e f a c g<|q5y g d e f<|z8X f g d e a ?_
 have zx := k.trans (l.trans h)
 have a3 := zx
 exact q9o (s' := ()) [_] (f ++ (g ++ (d ++ (e ++ (c ++ R))))) rfl hperm3192 (F.trans (Option.some.inj hm ▸ rfl)) a3 (aP.le (l.trans h)) (e' := [(0, pb x), (1, iv ab), (2, sv A3 H c4), (15, pb D)]) ⟨rfl, rfl, rfl, rfl, trivial⟩ (.cons_cons _ (sp f (sp g (sp d (sp e (ss c (.refl _))))))) ⟨rfl, rfl, (zx)⟩
 rintro av _ _ ⟨aw, z, rfl, rfl, a4, bI, bn⟩
 rw [bn] at y
 have hm := J5 y
 refine Cr<|aS rfl<|Te<|Ct ?_
 obtain ⟨rfl, rfl⟩ := j9 hm
 exact rO ⟨z, rfl, rfl, bI⟩ a4
theorem q7F (b : Base) (R : Hp) (aa T U V W X Y Z G H bo bH) (ads : Int → Nat) (ab ac ad ae af ag ah ai aj ak al am an ao aq A3 c4 d A8 c9 e I aL c) (cP : FZ RT.str b.w ac ad T) (cQ : FZ rApiSection b.w ae af U) (cR : FZ rApiLink b.w ag ah V) (cT : FZ rApiSignal b.w ai aj W) (cU : FZ rApiGate b.w ak al X) (cV : FZ j3 b.w am an Y) (cW : FZ (RT.list z4) b.w ao aq Z) (h5 : OS 59 (OT.fr z7) b.w (sv A3 G c4) G d) (cX : OS 127 (OT.fr z8) b.w (sv A8 H c9) H e) (bZ : OM rI (OT.fr (RT.key ads)) false false b.w I bo aL) (bp : OAr 85 q9 ads b.w bH c) (aM aN) (hm : q1o aa T U V W X Y Z G H bo bH = some (aM, aN)):
 CallsG Tryz.prog 83 [pb ab, iv aa] b ((ab, Cl 57 [sv ac T ad, sv ae U af, sv ag V ah, sv ai W aj, sv ak X al, sv am Y an, sv ao Z aq, sv A3 G c4, sv A8 H c9, .map (some I)]) :: (d ++ (e ++ (aL ++ (c ++ R))))) (fun v b' hp' => ∃ aA, iv aM = v ∧ (ab, Cl 57 [sv ac T ad, sv ae U af, sv ag V ah, sv ai W aj, sv ak X al, sv am Y an, sv ao Z aq, sv A3 G c4, sv A8 H c9, .map (some I)]) :: (d ++ (e ++ (aA ++ (c ++ R)))) = hp' ∧ OM rI (OT.fr (RT.key ads)) false false b'.w I aN aA) := by
 refine fE 48 Tryz.func83 rfl Tryz.ntmps83 rfl ?_
 unfold q1o at hm
 refine Cr<|aS rfl<|Te ?_
 obtain ⟨bq, a3, x⟩ := bS hm
 refine Cj (fun ar e' hp' => ∃ (au : (List (Int × (Option Int)))), ∃ y, [] = e' ∧ (ab, Cl 57 [sv ac T ad, sv ae U af, sv ag V ah, sv ai W aj, sv ak X al, sv am Y an, sv ao Z aq, sv A3 G c4, sv A8 H c9, .map (some I)]) :: (d ++ (e ++ (y ++ (c ++ R)))) = hp' ∧ b.Le ar ∧ OM rI (OT.fr (RT.key ads)) false false ar.w I au y ∧ bq = .inl au) ?_ ?_
 have hm := a3
 refine Cr<|mV rfl<|tS (sN rfl)<|tS (sF rfl q1h)<|tS (sL 0 rfl q5F rfl rfl)<|z6S d e aL<|tD (q7P [_] (d ++ (e ++ (c ++ R))) rfl bZ q3o rfl) ?_
 rintro _ _ ⟨C, z, rfl, rfl, br⟩
 refine Te<|Cb<|H6 z d e c<|H6 c z d e<|H6 e c z d<|H6 d e c z ?_
 obtain ⟨b0, a4, A⟩ := bS hm
 refine z1z (fun _ => fun av e' hp' => [(1, iv aa), (13, pb C)] = e' ∧ (ab, Cl 57 [sv ac T ad, sv ae U af, sv ag V ah, sv ai W aj, sv ak X al, sv am Y an, sv ao Z aq, sv A3 G c4, sv A8 H c9, .map (some I)]) :: (d ++ (e ++ (c ++ R))) = hp' ∧ b.Le av) a4 br (e' := [(1, iv aa), (13, pb C)]) ⟨rfl, rfl, trivial⟩ [_] (d ++ (e ++ (c ++ R))) rfl (.refl _) ⟨rfl, rfl, lr⟩ ?_
 rintro _ b1 av _ _ aB ⟨rfl, rfl, g⟩ bI aO hd2127 hall2128
 refine z6C [_] aB (d ++ (e ++ (c ++ R))) ?_ rfl
 refine Cr<|z1i [_] (d ++ (e ++ (c ++ R))) rfl rfl rfl aO (fun hnil2130 => ?_) (fun J b2 b3 b4 a hperm2136 a5 aP => ?_)
 obtain ⟨aC, aI, bs⟩ := MIt.done aO
 refine q8s [_] aB aC (d ++ (e ++ (c ++ R))) rfl aI ?_
 have hend2142 := hd2127 hnil2130
 refine tS (z5 rfl rfl)<|Te<|Cs<|j0 rfl<|Ce<|Xe<|Xe<|Xo ?_
 rw [hend2142] at A
 have hm := J5 A
 have hq := (Option.some.inj hm).symm
 exact jJ ⟨bo, aC, rfl, rfl, g, bs, hq⟩
 obtain ⟨b5, D, aJ⟩ := hall2128 _ _ hperm2136
 have s := D
 unfold H7 at s
 have hm := s
 refine tS (z5 rfl rfl)<|Te<|Cs<|j1 rfl<|Ck<|Xn<|Cb<|Cr ?_
 obtain ⟨aQ, aR, K, L, a6⟩ := MIx.entry Tryz.prog a5
 obtain rfl : aQ = iv J.1 := by have K : [aQ] = [iv J.1] := K; injection K
 obtain rfl : aR = kv ads J.2 := by have L : [aR] = [kv ads J.2] := L; injection L
 refine tS (a6 (.cons _ (List.sublist_append_left _ _)) rfl)<|tS (z5 rfl rfl)<|aS rfl<|Te<|Cr<|mV rfl ?_
 obtain ⟨E, aw, hm⟩ := bS hm
 obtain ⟨F, bt, hm⟩ := bS hm
 refine Tr 6 rfl (v' := .pointer (some ⟨(ads E), 0, none⟩)) (by rw [aw]; rfl)<|Tr 17 rfl (v' := .pointer (some ⟨(ads E), 0, none⟩)) (by rw [aw]; rfl)<|Tr 18 rfl (v' := .pointer (some ⟨(ads E), 0, none⟩)) (by rw [aw]; rfl) ?_
 obtain ⟨bK, bL, i, aD, a7, hf2160⟩ := OAr.take (bp.le g) bt
 obtain ⟨aT, aU, b6, b7, b8, b9, k, ca, cb, l, rfl, aV, cc, cd, ce, rfl⟩ := a7
 refine v5 a d e c<|q1y [_] c i k l (a ++ (d ++ (e ++ R))) rfl aD<|tS (sN rfl)<|tS (sF rfl q1U)<|tS (sF rfl q0j)<|tS (sL 0 rfl q3J rfl rfl)<|tS (sE rfl q6w)<|mV rfl<|Te<|Cb<|q5T k l i<|q5T i k l<|q5T l i k<|z3z [_] c i k l (a ++ (d ++ (e ++ R))) rfl aD ?_
 have bM : F.Route.Steps.length ≤ 9223372036854775807 := (FZ.bd aV)
 refine H6 c a d e<|H6 e c a d<|H6 d e c a ?_
 obtain ⟨cf, a8, B⟩ := bS hm
 refine lF (fun ax => fun _ => fun O e' hp' => [(1, iv aa), (6, kv ads (some E)), (13, pb C), (22, sv aT F.Route.Steps aU), (23, iv ((F.Route.Steps.length : Int))), (24, iv ((ax : Int)))] = e' ∧ (ab, Cl 57 [sv ac T ad, sv ae U af, sv ag V ah, sv ai W aj, sv ak X al, sv am Y an, sv ao Z aq, sv A3 G c4, sv A8 H c9, .map (some I)]) :: (a ++ (d ++ (e ++ (c ++ R)))) = hp' ∧ av.Le O) a8 ⟨rfl, rfl, lr⟩ ?_ ?_
 rintro ax _ O _ _ bN bG ⟨rfl, rfl, f⟩ t ay
 unfold q1Q at t
 have hm := t
 refine Cr<|tS (lT rfl rfl (by omega))<|Te<|Cs<|j1 rfl<|Ck<|Xn<|Cs<|Cb<|Cr<|mV rfl ?_
 obtain ⟨az, bu, bO, a9, bP, ba, aW, aE, aX, hm⟩ := bF (sz := 3) hm (aV.le f)
 obtain ⟨_, _, rfl, rfl, ⟨_, _, rfl, rfl, rfl⟩⟩ := ba
 refine tS (sI bu rfl rfl a9 aX aE q6w)<|tS (sP (vs := [iv az.Section, iv az.In, iv az.Out]) 3 rfl q3r aE rfl (fun j u hu => aW j u hu))<|tD (uA [iv 0, iv 0, iv 0] q3G rfl) ?_
 rintro _ _ ⟨cg, rfl, rfl⟩
 refine aS rfl<|tD (uN (vs := [_, _, _]) 0 3 rfl rfl rfl q5t rfl (mc rfl (mc rfl (mc rfl mn))) rfl (by simp)) ?_
 rintro _ _ rfl
 refine Te ?_
 obtain ⟨bw, bb, bc⟩ := bS hm
 refine Cj (fun aY e' hp' => [(1, iv aa), (6, kv ads (some E)), (13, pb C), (22, sv aT F.Route.Steps aU), (23, iv ((F.Route.Steps.length : Int))), (24, iv ((ax : Int))), (42, bv bw)] = e' ∧ (ab, Cl 57 [sv ac T ad, sv ae U af, sv ag V ah, sv ai W aj, sv ak X al, sv am Y an, sv ao Z aq, sv A3 G c4, sv A8 H c9, .map (some I)]) :: (a ++ (d ++ (e ++ (c ++ R)))) = hp' ∧ O.Le aY) ?_ ?_
 have hm := bb
 refine Cg<|tS (sF rfl Q2)<|tS (sL 0 rfl j4 rfl rfl)<|mV rfl<|Tb rfl (q1 rfl rfl) (fun S => ?_) (fun S => ?_)
 rw [if_pos S] at hm
 refine mV rfl<|yS<|mV rfl<|yS ?_
 obtain ⟨ch, bx, hm⟩ := bS hm
 obtain ⟨bQ, bR, m, aF, bd, hf2361⟩ := OAr.take (bp.le (g.trans f)) bx
 obtain ⟨ci, cj, ck, cl, cm, cn, h, co, cp, n, rfl, cq, cr, cs, bz, rfl⟩ := bd
 refine Q4 a d e c<|q1y [_, _] c m h n (a ++ (d ++ (e ++ R))) rfl aF<|tS (sN rfl)<|yS<|tS (sF rfl q8i)<|yS<|tS (sL 0 rfl q4C rfl rfl)<|yS<|mV rfl<|yS ?_
 obtain ⟨ct, bA, hm⟩ := bS hm
 obtain ⟨bB, be, bf⟩ := iS bA
 obtain ⟨bT, bU, cu, cv, bV, bg, aZ, bh, a0, bW, bJ⟩ := OS.get (sz := 1) rfl (by decide) bz bf
 obtain ⟨rfl, rfl⟩ := bg
 refine tS (sI bB rfl rfl be a0 bh q8E)<|yS<|tS (z9 rfl q4b (fun w ho => aZ w _ ho (.cons _ (.cons _ (.cons _ (ss h (List.sublist_append_left _ _))))) 0 _ rfl))<|yS<|tS (sn2 rfl)<|tS (pT rfl rfl)<|Tn<|V8 h n m<|V8 m h n<|V8 n m h<|q1X [_, _] c m h n (a ++ (d ++ (e ++ R))) rfl aF ?_
 obtain rfl := o1 hm
 exact jJ ⟨rfl, rfl, lr⟩
 rw [if_neg S] at hm
 refine mV rfl<|nO<|nO<|nO<|nO<|nO<|nO<|nO<|nO<|tS (pF rfl rfl)<|Tn ?_
 obtain rfl := o1 hm
 exact jJ ⟨rfl, rfl, lr⟩
 rintro aY _ _ ⟨rfl, rfl, o⟩
 have hm := bc
 refine cB hm rfl (fun hm => ?_) fun hm => ?_
 refine Cr<|mV rfl ?_
 obtain ⟨cw, bC, hm⟩ := bS hm
 have zz := g.trans (f.trans o)
 obtain ⟨bX, bY, p, aG, bi, hf2400⟩ := OAr.take (bp.le zz) bC
 obtain ⟨cx, cy, cz, cA, cC, cD, q, cE, cG, r, rfl, cH, cJ, cK, cO, rfl⟩ := bi
 refine v5 a d e c<|q1y [_] c p q r (a ++ (d ++ (e ++ R))) rfl aG<|tS (sN rfl)<|tS (sF rfl z4y)<|tS (sL 0 rfl j4 rfl rfl)<|aS rfl<|Te<|Ct<|Xb<|Xr<|Xr<|Xb<|Xb<|Xr<|Xb<|Xr ?_
 have bj := ay _ (Option.some.inj hm).symm
 rw [bj] at B
 have hm := k8 B
 have bk := aJ _ (Option.some.inj hm).symm
 rw [bk] at A
 have hm := k8 A
 have bl := (Option.some.inj hm).symm
 rw [bl] at x
 have hm := k8 x
 refine Z7 q r p<|Z7 p q r<|Z7 r p q<|q1X [_] c p q r (a ++ (d ++ (e ++ R))) rfl aG<|j4O c a ?_
 obtain ⟨aH, aK, bD⟩ := MIt.done (aP.le (f.trans o))
 refine z6M [_] a aH (c ++ (d ++ (e ++ R))) rfl aK ?_
 obtain ⟨rfl, rfl⟩ := j9 hm
 exact rO ⟨aH, rfl, rfl, bD⟩ zz
 refine Ck<|Xm<|Xn<|Cg<|tS (sa rfl rfl (by omega))<|mV rfl<|Tn ?_
 exact jM hm ⟨rfl, rfl, ((f.trans o))⟩
 rintro _ O _ _ ⟨rfl, rfl, f⟩ bm
 rw [bm] at B
 have hm := J5 B
 refine Cr<|tS (lF rfl rfl (by omega))<|Te<|Cs<|j0 rfl<|Ce<|Xe<|Xe<|Xo<|Xm<|q5y a d e c<|q5y c a d e<|q5y e c a d<|q5y d e c a ?_
 have a1 := g.trans f
 exact q9o (s' := ()) [_] (d ++ (e ++ (c ++ R))) rfl hperm2136 (D.trans (Option.some.inj hm ▸ rfl)) a1 (aP.le f) (e' := [(1, iv aa), (13, pb C)]) ⟨rfl, rfl, trivial⟩ (.refl _) ⟨rfl, rfl, ((g.trans f))⟩
 rintro ar _ _ ⟨au, y, rfl, rfl, a2, bE, bn⟩
 rw [bn] at x
 have hm := J5 x
 refine Cr<|aS rfl<|Te<|Ct ?_
 obtain ⟨rfl, rfl⟩ := j9 hm
 exact rO ⟨y, rfl, rfl, bE⟩ a2
end Go.Proofs.YtdbehipjelcmbaaGreatDoor
