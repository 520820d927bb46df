import Derived.Test.YtjlollifgeggdaaGreatDoorQZP2
set_option linter.unusedVariables false
set_option linter.unusedSimpArgs false
set_option linter.unusedSectionVars false
namespace Go.Proofs.YtjlollifgeggdaaGreatDoor
open Go.RowKit Go.Fp
set_option maxRecDepth 20000
set_option maxHeartbeats 4000000
open Go.Fp renaming q5t → Te, q7d → Tn, q5W → Tb, q8S → Tg, q7Q → Tv, z3Q → Tr, q7i → Cr, q3F → Cs, q0I → Cg, q7C → Cb, q4B → Ct, q4z → Ck, z2C → Ce, z4I → Cj, z1f → Cp, Q9 → Xn, X9 → Xr, q2i → Xe, q2j → Xb, q0R → Xm, q2X → Xo, q9U → X2, q7K → X3, q7J → X4, q9T → X5, z6g → X6, j1Z → Es, z8g → E0, j1Y → Ey, j6k → Yz, j2O → Ei, j7o → El, z6d → Eo, z8c → Da, z2J → Dd, z1w → Di, j6f → Rd2, z8b → Rn, z0j → Rg, z0y → sL, q7R → sD, q7T → sF, z2j → sN, z2l → sE, q3L → sM, q2d → sA, q6m → pT, q6n → pF, q1s → sI, q2l → sO, q3y → sP, q2t → sQ, z2m → sa, z3U → sb, q6W → lT, q6X → lF, z2T → eT, z2U → eF, q7k → sn2, q7U → sB, z5k → uB, q8Q → uA, z0l → uS, q5u → uN, q7N → uW, z2M → uP, z0o → uQ, q5m → fE, q6e → bS, z5m → o1, q5G → iS, q6U → ss, z2R → sp, q8s → kS, z9h → mc, z9g → mn, z0B → q1, z0w → q2, z2k → q3, j2g → q4, z0z → q5, z0A → q6
theorem z0Y (A : Option Addr) (n c : Nat) (xs : List Value) (w : World) (hR : Rd w A xs) (hl : xs.length = n * 2) (hn : n * 16 ≤ 140737488355328 ∧ n ≤ 9223372036854775807) :
    q5s Tryz.prog 72 [.slice A n c] w [] (fun v hp' => q9R 149 2 v n xs hp') := by
  refine q5I 8 Tryz.func72 rfl Tryz.ntmps72 rfl ?_
  refine q7i ?_
  refine z1x rfl rfl ?_
  refine q5t ?_
  refine q3F ?_
  refine q7i ?_
  refine z5l rfl rfl ?_
  refine q5W rfl (q5w rfl rfl z8z) (fun hc1 => ?_) (fun hc1 => ?_)
  ·
    refine q5t ?_
    refine k7 rfl ?_
    refine q7i ?_
    refine z1x rfl rfl ?_
    refine q5t ?_
    refine q4B ?_
    refine X9 ?_
    subst hc1
    obtain rfl := hR.none_nil
    obtain rfl : n = 0 := by simp at hl; omega
    refine q4D (hp' := []) (by repeat (first | exact List.Sublist.refl _ | exact List.nil_sublist _ | exact Kb _ _ | exact Kc _ _ | exact (Kc _ _).trans (Kc _ _) | apply List.Sublist.cons_cons | apply List.Sublist.cons)) ?_
    exact z6p (k9.Le.refl _) rfl rfl (q9R.nil)
  ·
    refine q5t ?_
    refine w9 rfl ?_
    refine q4z ?_
    refine Q9 ?_
    refine q7i ?_
    refine z2i rfl (V3 (el := 149) [] [] rfl (fun _ => by kernel_rfl)) ?_
    rintro _ _ ⟨g0, rfl, rfl⟩
    refine z5l rfl rfl ?_
    refine z2i rfl (z0p xs z8z j5a rfl (by decide) rfl rfl hl (fun w ho => hR.old ho) hn.2 hn.1) ?_
    rintro _ _ ⟨hs, rfl, hseg⟩
    refine z1x rfl rfl ?_
    refine q5t ?_
    refine q4B ?_
    refine q4D (hp' := hs) (by repeat (first | exact List.Sublist.refl _ | exact List.nil_sublist _ | exact Kb _ _ | exact Kc _ _ | exact (Kc _ _).trans (Kc _ _) | apply List.Sublist.cons_cons | apply List.Sublist.cons)) ?_
    exact z6p (k9.Le.refl _) rfl rfl hseg
theorem z1R (b : k9) (R : Hp) (d e f) (i : FZ Q1 b.w e f d) (a) (hm : q3n d = some a):
 v8 Tryz.prog 72 [sv e d f] b (R) (fun v b' hp' => ∃ g h c, sv g a h = v ∧ (c ++ R) = hp' ∧ OS 149 (OT.fr Q1) b'.w (sv g a h) a c) := by
 unfold q3n at hm
 obtain ⟨_, hroom, hm⟩ := bS hm
 have hroom := W9 hroom
 obtain rfl := o1 hm
 exact q5N (r := Q1) (sz := 2) (by_ := 16) rfl (by decide) z0Y i hroom
theorem q2P (b : k9) (R : Hp) (O : j3) (A2 c3 A5 c6 A8 c9 aI aJ aK aL) (h4 : FZ RT.str b.w A2 c3 O.Stations) (h7 : FZ j4 b.w A5 c6 O.Sections) (bd : FZ Q0 b.w A8 c9 O.Links) (be : FZ j6 b.w aI aJ O.Signals) (bf : FZ Q1 b.w aK aL O.Gates) (T U V W X) (hm : q8c O = some (T, U, V, W, X)):
 v8 Tryz.prog 28 [.agg #[sv A2 O.Stations c3, sv A5 O.Sections c6, sv A8 O.Links c9, sv aI O.Signals aJ, sv aK O.Gates aL]] b (R) (fun v b' hp' => ∃ ax ay az aA aB aC aD aE aF aG, .agg #[sv ax T ay, sv az U aA, sv aB V aC, sv aD W aE, sv aF X aG] = v ∧ R = hp' ∧ FZ RT.str b'.w ax ay T ∧ FZ j4 b'.w az aA U ∧ FZ Q0 b'.w aB aC V ∧ FZ j6 b'.w aD aE W ∧ FZ Q1 b'.w aF aG X) := by
 refine fE 19 Tryz.func28 rfl Tryz.ntmps28 rfl ?_
 unfold q8c at hm
 refine Cr<|tD (uB _ rfl rfl) ?_
 rintro _ _ ⟨bg, rfl, rfl⟩
 refine tD (uA [sn, sn, sn, sn, sn] z6f rfl) ?_
 rintro _ _ ⟨aH, rfl, rfl⟩
 refine Te ?_
 obtain ⟨⟨x, y, z, A, B⟩, aM, aN⟩ := bS hm
 refine Cj (fun q e' hp' => ∃ C D t E F r G H o I J n K L g, [(2, pb aH)] = e' ∧ (aH, Cl 28 [sv C x D, sv E y F, sv G z H, sv I A J, sv K B L]) :: (t ++ (r ++ (o ++ (n ++ (g ++ R))))) = hp' ∧ b.Le q ∧ OS 9 (OT.fr RT.str) q.w (sv C x D) x t ∧ OS 108 (OT.fr j4) q.w (sv E y F) y r ∧ OS 145 (OT.fr Q0) q.w (sv G z H) z o ∧ OS 128 (OT.fr j6) q.w (sv I A J) A n ∧ OS 149 (OT.fr Q1) q.w (sv K B L) B g) ?_ ?_
 have hm := aM
 obtain ⟨Y, ao, hm⟩ := bS hm
 obtain ⟨Z, aq, hm⟩ := bS hm
 obtain ⟨aa, ar, hm⟩ := bS hm
 obtain ⟨ab, au, hm⟩ := bS hm
 obtain ⟨ac, av, hm⟩ := bS hm
 refine Di mixed (.refl _)<|E0 0 rfl (sF rfl z0S)<|Es 1 rfl (sL 1 rfl z7H rfl rfl)<|E0 3 rfl (sF rfl q0B)<|Es 4 rfl (sL 1 rfl q5f rfl rfl)<|E0 6 rfl (sF rfl q9l)<|Es 7 rfl (sL 1 rfl z7G rfl rfl)<|E0 9 rfl (sF rfl q3O)<|Es 10 rfl (sL 1 rfl q9J rfl rfl)<|E0 12 rfl (sF rfl q7z)<|Es 13 rfl (sL 1 rfl z5x rfl rfl)<|Eo<|Da [2] (by kernel_rfl) rfl<|Rg lr rfl rfl _ j5z rfl (z1V _ _ O.Stations A2 c3 h4 Y ao) ?_ ?_
 rintro _ bh _ a ⟨ad, ae, p, rfl, rfl, aY⟩
 refine iR<|q7h [] [_, _] p R rfl<|Da [5] (by kernel_rfl) rfl<|Rg a rfl rfl _ j5y rfl (z1U _ _ O.Sections A5 c6 (h7.le a) Z aq) ?_ ?_
 rintro _ bi _ c ⟨af, ag, s, rfl, rfl, aZ⟩
 refine iR<|q7h [] [_, _] s (p ++ R) rfl<|Da [8] (by kernel_rfl) rfl<|Rg (a.trans c) rfl rfl _ j5x rfl (z1T _ _ O.Links A8 c9 (bd.le (a.trans c)) aa ar) ?_ ?_
 rintro _ bj _ d ⟨ah, ai, u, rfl, rfl, a0⟩
 refine iR<|q7h [] [_, _] u (s ++ (p ++ R)) rfl<|Da [11] (by kernel_rfl) rfl ?_
 have zz := a.trans (c.trans d)
 refine Rg zz rfl rfl _ j5w rfl (z1S _ _ O.Signals aI aJ (be.le zz) ab au) ?_ ?_
 rintro _ bk _ e ⟨aj, ak, S, rfl, rfl, a1⟩
 refine iR<|q7h [] [_, _] S (u ++ (s ++ (p ++ R))) rfl<|Da [14] (by kernel_rfl) rfl ?_
 have zy := a.trans (c.trans (d.trans e))
 refine Rg zy rfl rfl _ j5v rfl (z1R _ _ O.Gates aK aL (bf.le zy) ac av) ?_ ?_
 rintro _ bl _ f ⟨al, am, an, rfl, rfl, a2⟩
 refine iR<|q7h [] [_, _] an (S ++ (u ++ (s ++ (p ++ R)))) rfl<|Da [15] (by kernel_rfl) rfl ?_
 have zx := a.trans (c.trans (d.trans (e.trans f)))
 refine Rd2 zx rfl rfl (Z0.does (sB (v := .agg #[sv ad Y ae, sv af Z ag, sv ah aa ai, sv aj ab ak, sv al ac am]) [(0, sv ad Y ae), (1, sv af Z ag), (2, sv ah aa ai), (3, sv aj ab ak), (4, sv al ac am)] rfl (fun _ => by kernel_rfl))) ?_ ?_
 rintro _ _ ⟨rfl, rfl⟩
 refine iR<|Da [16] (by kernel_rfl) rfl<|Rd2 zx rfl rfl (uN (vs := [_, _, _, _, _]) 0 5 rfl rfl rfl z7t rfl (mc rfl (mc rfl (mc rfl (mc rfl (mc rfl mn))))) rfl (by simp)) ?_ ?_
 rintro _ _ rfl
 refine ⟨.inl (by kernel_rfl), ?_⟩
 refine Dd (by kernel_rfl) ?_
 obtain ⟨rfl, rfl, rfl, rfl, rfl⟩ := z1F hm
 have zw := d.trans (e.trans f)
 exact jJ ⟨ad, ae, p, af, ag, s, ah, ai, u, aj, ak, S, al, am, an, rfl, rfl, zx, (aY.le (c.trans zw)), (aZ.le zw), (a0.le (e.trans f)), (a1.le f), a2⟩
 exact Rn
 exact Rn
 exact Rn
 exact Rn
 exact Rn
 exact Rn
 exact Rn
 rintro q _ _ ⟨C, D, t, E, F, r, G, H, o, I, J, n, K, L, g, rfl, rfl, aw, a3, a4, a5, a6, a7⟩
 have hm := z3P aN
 refine Ct<|z1C [_] t (r ++ (o ++ (n ++ (g ++ R)))) rfl ?_
 intro bm h aO
 have a8 := OS.frz (l := x) a3 h.cells aO
 refine z1C [_] r (o ++ (n ++ (g ++ R))) rfl ?_
 intro bn i aP
 have a9 := OS.frz (l := y) (a4.le h) i.cells aP
 refine z1C [_] o (n ++ (g ++ R)) rfl ?_
 intro bo j aQ
 have ba := OS.frz (l := z) (a5.le (h.trans i)) j.cells aQ
 refine z1C [_] n (g ++ R) rfl ?_
 intro bp k aR
 have bb := OS.frz (l := A) (a6.le (h.trans (i.trans j))) k.cells aR
 refine z1C [_] g R rfl ?_
 intro bq m aT
 have bc := OS.frz (l := B) (a7.le (h.trans (i.trans (j.trans k)))) m.cells aT
 obtain ⟨rfl, rfl, rfl, rfl, rfl⟩ := z1F hm
 have zv := i.trans (j.trans (k.trans m))
 have aU := a8.le zv
 have aV := (a9.le (j.trans (k.trans m)))
 have aW := (ba.le (k.trans m))
 have aX := bb.le m
 exact rM (rs := [.cell 2 28]) (vs := [.agg #[sv C x D, sv E y F, sv G z H, sv I A J, sv K B L]]) ⟨⟨_, rfl, fun w ho => q4Q (vs := [_, _, _, _, _]) 0 5 P0 rfl rfl rfl w ho⟩, trivial⟩ ⟨C, D, E, F, G, H, I, J, K, L, rfl, rfl, aU, aV, aW, aX, bc⟩ (.cons _ (.refl _)) (aw.trans (h.trans zv))
theorem j0f (b : k9) (R : Hp) (g : j3) (f Y Z A5 c6 A8 c9 s t u x y z) (h4 : FZ RT.str b.w Y Z g.Stations) (h7 : FZ j4 b.w A5 c6 g.Sections) (aa : FZ Q0 b.w A8 c9 g.Links) (ab : FZ j6 b.w s t g.Signals) (ac : FZ Q1 b.w u x g.Gates) (K : FZ rI b.w y z f) (L i) (hm : q6t g f = some (L, i)):
 v8 Tryz.prog 73 [.agg #[sv Y g.Stations Z, sv A5 g.Sections c6, sv A8 g.Links c9, sv s g.Signals t, sv u g.Gates x], sv y f z] b (R) (fun v b' hp' => ∃ A O q, .tuple #[sv A i O, iv L] = v ∧ (q ++ R) = hp' ∧ OS 36 (OT.fr Z3) b'.w (sv A i O) i q ∧ (A = none ↔ i = [])) := by
 refine fE 32 Tryz.func73 rfl Tryz.ntmps73 rfl ?_
 unfold q6t at hm
 refine Cr<|tD (uB _ rfl rfl) ?_
 rintro _ _ ⟨am, rfl, rfl⟩
 refine aS rfl<|aS rfl<|Te<|Cr<|tS (sD (vs := [_, _, _, _, _]) 0 5 rfl P0 rfl rfl rfl) ?_
 obtain ⟨⟨ad, B⟩, C, hm⟩ := bS hm
 have hm := H0 hm
 refine Tg _ rfl j1Q rfl (q5P _ _ g Y Z A5 c6 A8 c9 s t u x h4 h7 aa ab ac ad B C) ?_
 rintro _ ae _ c ⟨S, T, j, rfl, rfl, af, ag⟩
 refine q3x [] [_] j R rfl<|mV rfl<|tS (w7 rfl rfl)<|tS (w7 rfl rfl)<|aS rfl<|aS rfl<|Te<|Cs<|Cr<|mV rfl<|tS (q2 rfl rfl)<|Te<|cI hm rfl (fun hm => ?_) fun hm => ?_
 refine Cr<|mV rfl<|aS rfl<|aS rfl<|Te<|Ct<|Xr ?_
 obtain ⟨rfl, rfl⟩ := V9 hm
 exact rT ⟨none, 0, [], rfl, rfl, OS.nil, ⟨fun _ => rfl, fun _ => rfl⟩⟩ c
 refine Ck<|Xn<|Cs<|Cr<|mV rfl<|tS (sE rfl q5y)<|mV rfl<|Te<|Cb ?_
 have aj : f.length ≤ 9223372036854775807 := (FZ.bd (K.le c))
 obtain ⟨ak, D, e⟩ := bS hm
 refine lF (fun r => fun _ => fun k e' hp' => [(6, sv S B T), (18, sv y f z), (19, iv ((f.length : Int))), (20, iv ((r : Int)))] = e' ∧ (j ++ R) = hp' ∧ ae.Le k) D ⟨rfl, rfl, lr⟩ ?_ ?_
 rintro r _ k _ _ al X ⟨rfl, rfl, a⟩ d l
 unfold q5E at d
 have hm := d
 refine Cr<|tS (lT rfl rfl (by omega))<|Te<|Cs<|k7 rfl<|Ck<|Xn<|Cs<|Cb<|Cr ?_
 obtain ⟨U, V, ah, E, ai, F, n, G, o, hm⟩ := bF (sz := 1) hm (K.le (c.trans a))
 obtain rfl := F
 refine tS (sI V rfl rfl E o G q5y)<|tS (sO rfl Q8 (n 0 _ rfl))<|aS rfl<|Te<|Cr<|mV rfl<|mV rfl<|tS (sE rfl z5c) ?_
 obtain ⟨_, m, hm⟩ := bS hm
 have m := (kS m).2
 refine tS (sb rfl rfl m) ?_
 obtain ⟨W, p, hm⟩ := bS hm
 refine tD (uW _ q4R rfl (fun w ho => H8 _ [] U 0 ((B.length : Int) - 1) W p) (fun _ _ _ h => h.2.symm)) ?_
 rintro _ _ ⟨⟨_, rfl, _⟩, rfl⟩
 refine tS (sn2 rfl)<|Te<|cM hm rfl (fun hm => ?_) fun hm => ?_
 refine Cr<|aS rfl<|aS rfl<|Te<|Ct<|Xb<|Xr<|Xr<|Xb<|Xr ?_
 have H := l _ (Kd hm).symm
 rw [H] at e
 have hm := V8 e
 obtain ⟨rfl, rfl⟩ := V9 hm
 exact rT ⟨none, 0, [], rfl, rfl, OS.nil, ⟨fun _ => rfl, fun _ => rfl⟩⟩ (c.trans a)
 refine Ck<|Xm<|Xn<|Cg<|tS (sa rfl rfl (by omega))<|mV rfl<|Tn ?_
 exact jM hm ⟨rfl, rfl, (a)⟩
 rintro _ k _ _ ⟨rfl, rfl, a⟩ I
 rw [I] at e
 have hm := G0 e
 refine Cr<|tS (lF rfl rfl (by omega))<|Te<|Cs<|w9 rfl<|Ce<|Xe<|Xe<|Xo<|Xn<|Cr<|mV rfl<|aS rfl<|aS rfl<|Te<|Ct ?_
 obtain ⟨rfl, rfl⟩ := V9 hm
 have J := af.le a
 exact rT ⟨S, T, j, rfl, rfl, J, ag⟩ (c.trans a)
theorem z4R (b : k9) (R : Hp) (i : j3) (d A2 c3 A5 c6 A8 c9 o p q r) (h4 : FZ RT.str b.w A2 c3 i.Stations) (h7 : FZ j4 b.w A5 c6 i.Sections) (H : FZ Q0 b.w A8 c9 i.Links) (I : FZ j6 b.w o p i.Signals) (J : FZ Q1 b.w q r i.Gates) (K e) (hm : q4K i d = some (K, e)):
 v8 Tryz.prog 29 [.agg #[sv A2 i.Stations c3, sv A5 i.Sections c6, sv A8 i.Links c9, sv o i.Signals p, sv q i.Gates r], iv d] b (R) (fun v b' hp' => ∃ C L z, .tuple #[sv C e L, iv K] = v ∧ (z ++ R) = hp' ∧ OS 55 (OT.fr j7) b'.w (sv C e L) e z ∧ (C = none ↔ e = [])) := by
 refine fE 24 Tryz.func29 rfl Tryz.ntmps29 rfl ?_
 unfold q4K at hm
 refine Cr<|tD (uB _ rfl rfl) ?_
 rintro _ _ ⟨ak, rfl, rfl⟩
 refine aS rfl<|aS rfl<|Te<|Cr<|tS (sD (vs := [_, _, _, _, _]) 0 5 rfl P0 rfl rfl rfl)<|mV rfl<|tD (V3 (el := 3) [(0, iv d)] [iv d] rfl (fun _ => by kernel_rfl)) ?_
 rintro _ _ ⟨f, rfl, rfl⟩
 refine j3g 0 [_] R rfl rfl ?_
 have O : OS 3 (OT.fr rI) b.w (.slice (some ⟨f, 0, none⟩) 1 1) [d] [(f, Cl 3 [iv d])] := OS.lit [[iv d]] rfl ⟨rfl, trivial⟩ rfl (by decide)
 have ae : (((some ⟨f, 0, none⟩) : OA) = none ↔ [d] = []) := ⟨nofun, nofun⟩
 refine z8t [_] [(f, Cl 3 [iv d])] R rfl ?_
 intro al a D
 have S := OS.frz (l := [d]) O a.cells D
 obtain ⟨⟨T, U⟩, s, hm⟩ := bS hm
 have hm := H0 hm
 refine Tg _ rfl j5u rfl (j0f _ _ i [d] A2 c3 A5 c6 A8 c9 o p q r (some ⟨f, 0, none⟩) 1 (h4.le a) (h7.le a) (H.le a) (I.le a) (J.le a) S T U s) ?_
 rintro _ am _ c ⟨an, ao, k, rfl, rfl, V, aq⟩
 refine q3x [] [_] k R rfl<|mV rfl<|tS (w7 rfl rfl)<|tS (w7 rfl rfl)<|aS rfl<|aS rfl<|Te<|Cs<|Cr<|mV rfl<|tS (q2 rfl rfl)<|Te<|cI hm rfl (fun hm => ?_) fun hm => ?_
 refine Cr<|mV rfl<|aS rfl<|aS rfl<|Te<|Ct<|Xr ?_
 obtain ⟨rfl, rfl⟩ := V9 hm
 exact rT ⟨none, 0, [], rfl, rfl, OS.nil, ⟨fun _ => rfl, fun _ => rfl⟩⟩ (a.trans c)
 refine Ck<|Xn<|Cs ?_
 obtain ⟨g, W, hm⟩ := bS hm
 obtain ⟨X, t, hm⟩ := bS hm
 refine Di mixed (.refl _)<|Es 0 rfl (sD (vs := [_, _, _, _, _]) 0 5 rfl P0 rfl rfl rfl)<|E0 1 rfl (sM rfl)<|E0 2 rfl (sM rfl) ?_
 obtain ⟨Y, E, F⟩ := iS W
 obtain ⟨ag, ah, ar, au, ai, G, x, m, y, aj, af⟩ := OS.get (sz := 3) rfl (by decide) V F
 obtain ⟨⟨_, _, rfl, rfl, ⟨_, _, rfl, rfl, ⟨A, B, rfl, Z⟩⟩⟩, rfl⟩ := G
 refine E0 3 rfl (sI Y rfl rfl E y m z5c)<|Es 4 rfl (J6 (vs := [iv g.From, iv g.To, sv A g.Steps B]) 3 rfl z3K m rfl (fun w ho j u hu => x w _ ho (.cons _ (Kb _ _)) j u hu))<|Eo<|Da [5] (by kernel_rfl) rfl ?_
 have zz := a.trans c
 refine Rg lr rfl rfl _ z7d rfl (z2D _ _ i g A2 c3 A5 c6 A8 c9 o p q r A B (h4.le zz) (h7.le zz) (H.le zz) (I.le zz) (J.le zz) Z X t) ?_ ?_
 rintro _ av _ h ⟨aa, ab, n, rfl, rfl, ac, ad⟩
 refine ⟨.inl (by kernel_rfl), ?_⟩
 refine q7h [] [_] n (k ++ R) rfl<|El h<|E0 6 rfl (sA rfl)<|E0 7 rfl (sA rfl)<|Eo<|Dd (by kernel_rfl)<|Xn<|Ct ?_
 obtain ⟨rfl, rfl⟩ := V9 hm
 exact rT ⟨aa, ab, n, rfl, rfl, ac, ad⟩ (a.trans (c.trans h))
 exact Rn
theorem j1R (b : k9) (R : Hp) (Y : j3) (A2 c3 A5 c6 A8 c9 an ao aq ar) (h4 : FZ RT.str b.w A2 c3 Y.Stations) (h7 : FZ j4 b.w A5 c6 Y.Sections) (aD : FZ Q0 b.w A8 c9 Y.Links) (aE : FZ j6 b.w an ao Y.Signals) (aF : FZ Q1 b.w aq ar Y.Gates) (bt bu bw bx bz bA bB bj bk bW bX) (hm : q8d Y = some (bt, bu, bw, bx, bz, bA, bB, bj, bk, bW, bX)):
 v8 Tryz.prog 8 [.agg #[sv A2 Y.Stations c3, sv A5 Y.Sections c6, sv A8 Y.Links c9, sv an Y.Signals ao, sv aq Y.Gates ar]] b (R) (fun v b' hp' => ∃ (ads : Int → Nat), ∃ bY bZ b0 b1 b2 b3 b4 b5 b6 b7 b8 b9 ca cb cc cd ce bC cf cg bD ch bE bG, .tuple #[pb bY, iv 0] = v ∧ (bY, Cl 78 [sv bZ bt b0, sv b1 bu b2, sv b3 bw b4, sv b5 bx b6, sv b7 bz b8, sv b9 bA ca, sv cb bB cc, sv cd bj ce, sv cf bk cg, .map (some ch)]) :: (bC ++ (bD ++ (bE ++ (bG ++ R)))) = hp' ∧ FZ RT.str b'.w bZ b0 bt ∧ FZ j4 b'.w b1 b2 bu ∧ FZ Q0 b'.w b3 b4 bw ∧ FZ j6 b'.w b5 b6 bx ∧ FZ Q1 b'.w b7 b8 bz ∧ FZ Z3 b'.w b9 ca bA ∧ FZ (RT.list j7) b'.w cb cc bB ∧ OS 80 (OT.fr Q5) b'.w (sv cd bj ce) bj bC ∧ OS 94 (OT.fr Q7) b'.w (sv cf bk cg) bk bD ∧ OM rI (OT.fr (RT.key ads)) false false b'.w ch bW bE ∧ OAr 90 j8 ads b'.w bX bG) := by
 refine fE 78 Tryz.func8 rfl Tryz.ntmps8 rfl ?_
 unfold q8d at hm
 refine Cr<|tD (uB _ rfl rfl) ?_
 rintro _ _ ⟨au, rfl, rfl⟩
 refine aS rfl<|aS rfl<|Te<|Cs<|Cr<|tS (sD (vs := [_, _, _, _, _]) 0 5 rfl P0 rfl rfl rfl) ?_
 obtain ⟨cO, bR, hm⟩ := bS hm
 refine tD (uW _ z9T rfl (fun w ho => q9u _ [] Y A2 c3 A5 c6 A8 c9 an ao aq ar (h4.old ho) (h7.old ho) (aD.old ho) (aE.old ho) (aF.old ho) cO bR) (fun _ _ _ h => h.2.symm)) ?_
 rintro _ _ ⟨⟨_, rfl, _⟩, rfl⟩
 refine aS rfl<|Te<|Cr<|mV rfl<|tS (q2 rfl rfl)<|Te<|cI hm rfl (fun hm => ?_) fun hm => ?_
 refine Cr<|mV rfl<|aS rfl<|aS rfl<|Te<|Ct<|Xr ?_
 cases hm
 refine Ck<|Xn<|Cr<|tS (sD (vs := [_, _, _, _, _]) 0 5 rfl P0 rfl rfl rfl) ?_
 obtain ⟨⟨cP, ac⟩, bT, hm⟩ := bS hm
 have hm := H0 hm
 refine Tg _ rfl j1Q rfl (q5P _ _ Y A2 c3 A5 c6 A8 c9 an ao aq ar h4 h7 aD aE aF cP ac bT) ?_
 rintro _ a5 _ d ⟨ak, al, j, rfl, rfl, ci, d6⟩
 refine q3x [] [_] j R rfl<|mV rfl<|tS (w7 rfl rfl)<|tS (w7 rfl rfl)<|aS rfl<|aS rfl<|Te<|Cs<|Cr<|mV rfl<|tS (q2 rfl rfl)<|Te<|cI hm rfl (fun hm => ?_) fun hm => ?_
 refine Cr<|mV rfl<|aS rfl<|aS rfl<|Te<|Ct<|Xr ?_
 cases hm
 refine Ck<|Xn ?_
 obtain ⟨⟨a9, ba, bb, bc, bd, be, a6, cQ, cR⟩, cl, cm⟩ := bS hm
 refine Cj (fun aA e' hp' => ∃ (ads : Int → Nat), ∃ aJ aN aO aP aQ aR aT aU aV aW aX bl bm aw aY aZ I a0 J K, [(1, pb au), (5, sv ak ac al), (7, pb aJ)] = e' ∧ (au, Cl 28 [sv A2 Y.Stations c3, sv A5 Y.Sections c6, sv A8 Y.Links c9, sv an Y.Signals ao, sv aq Y.Gates ar]) :: (aJ, Cl 78 [sv aN a9 aO, sv aP ba aQ, sv aR bb aT, sv aU bc aV, sv aW bd aX, sv ak ac al, sn, sv bl be bm, sv aY a6 aZ, .map (some a0)]) :: (j ++ (aw ++ (I ++ (J ++ (K ++ R))))) = hp' ∧ a5.Le aA ∧ FZ RT.str aA.w aN aO a9 ∧ FZ j4 aA.w aP aQ ba ∧ FZ Q0 aA.w aR aT bb ∧ FZ j6 aA.w aU aV bc ∧ FZ Q1 aA.w aW aX bd ∧ OS 80 (OT.fr Q5) aA.w (sv bl be bm) be aw ∧ OS 94 (OT.fr Q7) aA.w (sv aY a6 aZ) a6 I ∧ OM rI (OT.fr (RT.key ads)) false false aA.w a0 cQ J ∧ OAr 90 j8 ads aA.w cR K) ?_ ?_
 have hm := cl
 obtain ⟨⟨ad, ae, af, ag, ah⟩, am, hm⟩ := bS hm
 have hm := z3P hm
 obtain ⟨Z, G, hm⟩ := bS hm
 obtain ⟨aa, H, hm⟩ := bS hm
 refine z6e ((au, Cl 28 [sv A2 Y.Stations c3, sv A5 Y.Sections c6, sv A8 Y.Links c9, sv an Y.Signals ao, sv aq Y.Gates ar]) :: (j ++ R)) mixed ?_
 refine z4Y (fun aC e' hp' => ∃ (ads : Int → Nat), ∃ e k f m n g o p q s t u x y z A B C, [(1, pb au), (5, sv ak ac al), (26, .agg #[sv q ad s, sv t ae u, sv x af y, sv z ag A, sv B ah C]), (27, sv ak ac al), (31, .slice o (List.replicate Z ((⟨0, false, 0, 0, false⟩ : q9) : q9)).length p), (35, .slice m (List.replicate aa ((⟨0, false, false⟩ : z8) : z8)).length n), (36, .map (some k))] = e' ∧ (au, Cl 28 [sv A2 Y.Stations c3, sv A5 Y.Sections c6, sv A8 Y.Links c9, sv an Y.Signals ao, sv aq Y.Gates ar]) :: (e ++ (f ++ (g ++ (j ++ ([] ++ R))))) = hp' ∧ OM rI (OT.fr (RT.key ads)) false false aC.w k ([] : (List (Int × (Option Int)))) e ∧ OS 94 (OT.fr Q7) aC.w (.slice m (List.replicate aa ((⟨0, false, false⟩ : z8) : z8)).length n) (List.replicate aa ((⟨0, false, false⟩ : z8) : z8)) f ∧ OS 80 (OT.fr Q5) aC.w (.slice o (List.replicate Z ((⟨0, false, 0, 0, false⟩ : q9) : q9)).length p) (List.replicate Z ((⟨0, false, 0, 0, false⟩ : q9) : q9)) g ∧ OAr 90 j8 ads aC.w ([] : List (Int × z6)) [] ∧ FZ RT.str aC.w q s ad ∧ FZ j4 aC.w t u ae ∧ FZ Q0 aC.w x y af ∧ FZ j6 aC.w z A ag ∧ FZ Q1 aC.w B C ah) 3 #[true, true, true, true, true, true, true, true, true, true, true, true, false, false, false] ?_ (fun tl687 => ?_)
 rintro aC _ _ aM ⟨ads, e, k, f, m, n, g, o, p, q, s, t, u, x, y, z, A, B, C, rfl, rfl, cT, cU, cV, cW, cX, cY, cZ, c0, c1⟩
 refine Da [12] (by kernel_rfl) rfl ?_
 refine Rd2 aM rfl rfl (Z0.does (sB (v := .agg #[sv q ad s, sv t ae u, sv x af y, sv z ag A, sv B ah C, sv ak ac al, sn, .slice o (List.replicate Z ((⟨0, false, 0, 0, false⟩ : q9) : q9)).length p, .slice m (List.replicate aa ((⟨0, false, false⟩ : z8) : z8)).length n, .map (some k)]) [(0, .agg #[sv q ad s, sv t ae u, sv x af y, sv z ag A, sv B ah C]), (1, sv ak ac al), (3, .slice o (List.replicate Z ((⟨0, false, 0, 0, false⟩ : q9) : q9)).length p), (4, .slice m (List.replicate aa ((⟨0, false, false⟩ : z8) : z8)).length n), (5, .map (some k))] rfl (fun _ => by kernel_rfl))) ?_ ?_
 rintro _ _ ⟨rfl, rfl⟩
 refine iR<|Da [13] (by kernel_rfl) rfl<|Rd2 aM rfl rfl (uB _ rfl rfl) ?_ ?_
 rintro _ _ ⟨c2, rfl, rfl⟩
 refine iR<|Ei aM (.cons _ (.cons_cons _ (ss e (ss f (ss g (sp j (ss [] (.refl _))))))))<|E0 14 rfl (sA rfl)<|Eo<|Dd (by kernel_rfl) ?_
 obtain ⟨rfl, rfl, rfl, rfl, rfl, rfl, rfl, rfl, rfl⟩ := j6H hm
 exact jJ ⟨ads, c2, q, s, t, u, x, y, z, A, B, C, o, p, g, m, n, f, k, e, [], rfl, rfl, aM, cX, cY, cZ, c0, c1, cV, cU, cT, cW⟩
 exact Rn
 exact Rn
 refine z4Y (fun aG e' hp' => ∃ f m n g o p q s t u x y z A B C, [(1, pb au), (5, sv ak ac al), (26, .agg #[sv q ad s, sv t ae u, sv x af y, sv z ag A, sv B ah C]), (27, sv ak ac al), (31, .slice o (List.replicate Z ((⟨0, false, 0, 0, false⟩ : q9) : q9)).length p), (35, .slice m (List.replicate aa ((⟨0, false, false⟩ : z8) : z8)).length n)] = e' ∧ (au, Cl 28 [sv A2 Y.Stations c3, sv A5 Y.Sections c6, sv A8 Y.Links c9, sv an Y.Signals ao, sv aq Y.Gates ar]) :: (f ++ (g ++ (j ++ R))) = hp' ∧ OS 94 (OT.fr Q7) aG.w (.slice m (List.replicate aa ((⟨0, false, false⟩ : z8) : z8)).length n) (List.replicate aa ((⟨0, false, false⟩ : z8) : z8)) f ∧ OS 80 (OT.fr Q5) aG.w (.slice o (List.replicate Z ((⟨0, false, 0, 0, false⟩ : q9) : q9)).length p) (List.replicate Z ((⟨0, false, 0, 0, false⟩ : q9) : q9)) g ∧ FZ RT.str aG.w q s ad ∧ FZ j4 aG.w t u ae ∧ FZ Q0 aG.w x y af ∧ FZ j6 aG.w z A ag ∧ FZ Q1 aG.w B C ah) 4 #[true, true, true, true, true, true, true, true, true, true, true, false, false, false, false] ?_ (fun tl697 => ?_)
 rintro aG _ _ bn ⟨f, m, n, g, o, p, q, s, t, u, x, y, z, A, B, C, rfl, rfl, c4, c5, c7, c8, da, db, dc⟩
 obtain ⟨ads, _⟩ : ∃ a : Int → Nat, a = fun _ => 0 := ⟨_, rfl⟩
 refine Da [11] (by kernel_rfl) rfl<|Rd2 bn rfl rfl (q4E rI (OT.fr (RT.key ads)) false false [_] (f ++ (g ++ (j ++ R))) rfl) ?_ ?_
 rintro _ _ ⟨k, e, rfl, rfl, O⟩
 have F : OAr 90 j8 ads aG.w [] [] := OAr.nil J8
 refine iR ?_
 exact dG tl687 ⟨ads, e, k, f, m, n, g, o, p, q, s, t, u, x, y, z, A, B, C, rfl, rfl, O, c4, c5, F, c7, c8, da, db, dc⟩ bn
 exact Rn
 refine z4Y (fun aH e' hp' => ∃ (ads : Int → Nat), ∃ e k g o p q s t u x y z A B C, [(1, pb au), (5, sv ak ac al), (26, .agg #[sv q ad s, sv t ae u, sv x af y, sv z ag A, sv B ah C]), (27, sv ak ac al), (31, .slice o (List.replicate Z ((⟨0, false, 0, 0, false⟩ : q9) : q9)).length p), (34, iv ((Y.Gates.length : Int))), (36, .map (some k))] = e' ∧ (au, Cl 28 [sv A2 Y.Stations c3, sv A5 Y.Sections c6, sv A8 Y.Links c9, sv an Y.Signals ao, sv aq Y.Gates ar]) :: (e ++ (g ++ (j ++ ([] ++ R)))) = hp' ∧ OM rI (OT.fr (RT.key ads)) false false aH.w k ([] : (List (Int × (Option Int)))) e ∧ OS 80 (OT.fr Q5) aH.w (.slice o (List.replicate Z ((⟨0, false, 0, 0, false⟩ : q9) : q9)).length p) (List.replicate Z ((⟨0, false, 0, 0, false⟩ : q9) : q9)) g ∧ OAr 90 j8 ads aH.w ([] : List (Int × z6)) [] ∧ FZ RT.str aH.w q s ad ∧ FZ j4 aH.w t u ae ∧ FZ Q0 aH.w x y af ∧ FZ j6 aH.w z A ag ∧ FZ Q1 aH.w B C ah) 4 #[true, true, true, true, true, true, true, true, true, true, false, true, false, false, false] ?_ (fun tl708 => ?_)
 rintro aH _ _ bo ⟨ads, e, k, g, o, p, q, s, t, u, x, y, z, A, B, C, rfl, rfl, dd, de, df, dg, dh, di, dj, dk⟩
 have H := q2Y H
 refine Da [10] (by kernel_rfl) rfl<|Rd2 bo rfl rfl (q0w (r := Q7) [_] (e ++ (g ++ (j ++ ([] ++ R)))) [iv 0, bv false, bv false] (⟨0, false, false⟩ : z8) aa rfl H.1 rfl rfl z5n z0K rfl rfl rfl (by decide) ⟨[iv 0], _, rfl, rfl, ⟨[bv false], _, rfl, rfl, rfl⟩⟩ H.2.1 H.2.2) ?_ ?_
 rintro _ _ ⟨f, rfl, D⟩
 obtain ⟨m, n, rfl, _⟩ := D.form
 refine iR ?_
 exact dG tl687 ⟨ads, e, k, f, m, n, g, o, p, q, s, t, u, x, y, z, A, B, C, rfl, rfl, dd, D, de, df, dg, dh, di, dj, dk⟩ bo
 exact Rn
 refine z4Y (fun aI e' hp' => ∃ (ads : Int → Nat), ∃ e k f m n q s t u x y z A B C, [(1, pb au), (5, sv ak ac al), (26, .agg #[sv q ad s, sv t ae u, sv x af y, sv z ag A, sv B ah C]), (27, sv ak ac al), (30, iv ((Y.Sections.length : Int))), (35, .slice m (List.replicate aa ((⟨0, false, false⟩ : z8) : z8)).length n), (36, .map (some k))] = e' ∧ (au, Cl 28 [sv A2 Y.Stations c3, sv A5 Y.Sections c6, sv A8 Y.Links c9, sv an Y.Signals ao, sv aq Y.Gates ar]) :: (e ++ (f ++ (j ++ ([] ++ R)))) = hp' ∧ OM rI (OT.fr (RT.key ads)) false false aI.w k ([] : (List (Int × (Option Int)))) e ∧ OS 94 (OT.fr Q7) aI.w (.slice m (List.replicate aa ((⟨0, false, false⟩ : z8) : z8)).length n) (List.replicate aa ((⟨0, false, false⟩ : z8) : z8)) f ∧ OAr 90 j8 ads aI.w ([] : List (Int × z6)) [] ∧ FZ RT.str aI.w q s ad ∧ FZ j4 aI.w t u ae ∧ FZ Q0 aI.w x y af ∧ FZ j6 aI.w z A ag ∧ FZ Q1 aI.w B C ah) 4 #[true, true, true, true, true, true, false, true, true, true, true, true, false, false, false] ?_ (fun tl719 => ?_)
 rintro aI _ _ bp ⟨ads, e, k, f, m, n, q, s, t, u, x, y, z, A, B, C, rfl, rfl, dl, dm, dn, dp, dq, dr, ds, dt⟩
 have G := q2Y G
 refine Da [6] (by kernel_rfl) rfl<|Rd2 bp rfl rfl (q0w (r := Q5) [_] (e ++ (f ++ (j ++ ([] ++ R)))) [iv 0, bv false, iv 0, iv 0, bv false] (⟨0, false, 0, 0, false⟩ : q9) Z rfl G.1 rfl rfl q7f z0L rfl rfl rfl (by decide) ⟨[iv 0], _, rfl, rfl, ⟨[bv false], _, rfl, rfl, ⟨[iv 0], _, rfl, rfl, ⟨[iv 0], _, rfl, rfl, rfl⟩⟩⟩⟩ G.2.1 G.2.2) ?_ ?_
 rintro _ _ ⟨g, rfl, E⟩
 obtain ⟨o, p, rfl, _⟩ := E.form
 refine iR ?_
 exact dG tl687 ⟨ads, e, k, f, m, n, g, o, p, q, s, t, u, x, y, z, A, B, C, rfl, rfl, dl, dm, E, dn, dp, dq, dr, ds, dt⟩ bp
 exact Rn
 refine z4Y (fun bf e' hp' => ∃ (ads : Int → Nat), ∃ e k f m n g o p, [(1, pb au), (5, sv ak ac al), (25, .agg #[sv A2 Y.Stations c3, sv A5 Y.Sections c6, sv A8 Y.Links c9, sv an Y.Signals ao, sv aq Y.Gates ar]), (27, sv ak ac al), (31, .slice o (List.replicate Z ((⟨0, false, 0, 0, false⟩ : q9) : q9)).length p), (35, .slice m (List.replicate aa ((⟨0, false, false⟩ : z8) : z8)).length n), (36, .map (some k))] = e' ∧ (au, Cl 28 [sv A2 Y.Stations c3, sv A5 Y.Sections c6, sv A8 Y.Links c9, sv an Y.Signals ao, sv aq Y.Gates ar]) :: (e ++ (f ++ (g ++ (j ++ ([] ++ R))))) = hp' ∧ OM rI (OT.fr (RT.key ads)) false false bf.w k ([] : (List (Int × (Option Int)))) e ∧ OS 94 (OT.fr Q7) bf.w (.slice m (List.replicate aa ((⟨0, false, false⟩ : z8) : z8)).length n) (List.replicate aa ((⟨0, false, false⟩ : z8) : z8)) f ∧ OS 80 (OT.fr Q5) bf.w (.slice o (List.replicate Z ((⟨0, false, 0, 0, false⟩ : q9) : q9)).length p) (List.replicate Z ((⟨0, false, 0, 0, false⟩ : q9) : q9)) g ∧ OAr 90 j8 ads bf.w ([] : List (Int × z6)) []) 4 #[true, false, true, true, true, true, true, true, true, true, true, true, false, false, false] ?_ (fun tl726 => ?_)
 rintro bf _ _ ax ⟨ads, e, k, f, m, n, g, o, p, rfl, rfl, du, dv, dw, dx⟩
 refine Da [1] (by kernel_rfl) rfl ?_
 have zz := d.trans ax
 refine Rg ax rfl rfl _ q6F rfl (q2P _ _ Y A2 c3 A5 c6 A8 c9 an ao aq ar (h4.le zz) (h7.le zz) (aD.le zz) (aE.le zz) (aF.le zz) ad ae af ag ah am) ?_ ?_
 rintro _ av _ c ⟨q, s, t, u, x, y, z, A, B, C, rfl, rfl, S, T, U, V, W⟩
 refine iR ?_
 exact dG tl687 ⟨ads, e, k, f, m, n, g, o, p, q, s, t, u, x, y, z, A, B, C, rfl, rfl, (du.le c), (dv.le c), (dw.le c), (dx.le c), S, T, U, V, W⟩ (ax.trans c)
 exact Rn
 refine Ei lr (.refl _)<|Es 0 rfl (sD (vs := [_, _, _, _, _]) 0 5 rfl P0 rfl rfl rfl)<|E0 2 rfl (sM rfl)<|E0 3 rfl (sF rfl q0B)<|Es 4 rfl (sL 0 rfl q5f rfl rfl)<|E0 5 rfl (sE rfl z1y)<|E0 7 rfl (sF rfl q7z)<|Es 8 rfl (sL 0 rfl z5x rfl rfl)<|E0 9 rfl (sE rfl z8z)<|Eo ?_
 have G := q2Y G
 have H := q2Y H
 obtain ⟨ads, _⟩ : ∃ a : Int → Nat, a = fun _ => 0 := ⟨_, rfl⟩
 refine Da [1, 6, 10, 11] (by kernel_rfl) rfl<|Rg lr rfl rfl _ q6F rfl (q2P _ _ Y A2 c3 A5 c6 A8 c9 an ao aq ar (h4.le d) (h7.le d) (aD.le d) (aE.le d) (aF.le d) ad ae af ag ah am) ?_ ?_
 rintro _ av _ c ⟨q, s, t, u, x, y, z, A, B, C, rfl, rfl, S, T, U, V, W⟩
 refine iR<|Da [6, 10, 11] (by kernel_rfl) rfl<|Rd2 c rfl rfl (q0w (r := Q5) [_] (j ++ R) [iv 0, bv false, iv 0, iv 0, bv false] (⟨0, false, 0, 0, false⟩ : q9) Z rfl G.1 rfl rfl q7f z0L rfl rfl rfl (by decide) ⟨[iv 0], _, rfl, rfl, ⟨[bv false], _, rfl, rfl, ⟨[iv 0], _, rfl, rfl, ⟨[iv 0], _, rfl, rfl, rfl⟩⟩⟩⟩ G.2.1 G.2.2) ?_ ?_
 rintro _ _ ⟨g, rfl, E⟩
 obtain ⟨o, p, rfl, _⟩ := E.form
 refine iR<|Da [10, 11] (by kernel_rfl) rfl<|Rd2 c rfl rfl (q0w (r := Q7) [_] (g ++ (j ++ R)) [iv 0, bv false, bv false] (⟨0, false, false⟩ : z8) aa rfl H.1 rfl rfl z5n z0K rfl rfl rfl (by decide) ⟨[iv 0], _, rfl, rfl, ⟨[bv false], _, rfl, rfl, rfl⟩⟩ H.2.1 H.2.2) ?_ ?_
 rintro _ _ ⟨f, rfl, D⟩
 obtain ⟨m, n, rfl, _⟩ := D.form
 refine iR ?_
 exact dG tl697 ⟨f, m, n, g, o, p, q, s, t, u, x, y, z, A, B, C, rfl, rfl, D, E, S, T, U, V, W⟩ c
 refine Rd2 c rfl rfl (q4E rI (OT.fr (RT.key ads)) false false [_] (g ++ (j ++ R)) rfl) ?_ ?_
 rintro _ _ ⟨k, e, rfl, rfl, O⟩
 have F : OAr 90 j8 ads av.w [] [] := OAr.nil J8
 refine iR ?_
 exact dG tl708 ⟨ads, e, k, g, o, p, q, s, t, u, x, y, z, A, B, C, rfl, rfl, O, E, F, S, T, U, V, W⟩ c
 exact Rn
 refine Rd2 c rfl rfl (q0w (r := Q7) [_] (j ++ R) [iv 0, bv false, bv false] (⟨0, false, false⟩ : z8) aa rfl H.1 rfl rfl z5n z0K rfl rfl rfl (by decide) ⟨[iv 0], _, rfl, rfl, ⟨[bv false], _, rfl, rfl, rfl⟩⟩ H.2.1 H.2.2) ?_ ?_
 rintro _ _ ⟨f, rfl, D⟩
 obtain ⟨m, n, rfl, _⟩ := D.form
 refine iR<|Da [6, 11] (by kernel_rfl) rfl<|Rd2 c rfl rfl (q0w (r := Q5) [_] (f ++ (j ++ R)) [iv 0, bv false, iv 0, iv 0, bv false] (⟨0, false, 0, 0, false⟩ : q9) Z rfl G.1 rfl rfl q7f z0L rfl rfl rfl (by decide) ⟨[iv 0], _, rfl, rfl, ⟨[bv false], _, rfl, rfl, ⟨[iv 0], _, rfl, rfl, ⟨[iv 0], _, rfl, rfl, rfl⟩⟩⟩⟩ G.2.1 G.2.2) ?_ ?_
 rintro _ _ ⟨g, rfl, E⟩
 obtain ⟨o, p, rfl, _⟩ := E.form
 refine iR ?_
 exact dG tl697 ⟨f, m, n, g, o, p, q, s, t, u, x, y, z, A, B, C, rfl, rfl, D, E, S, T, U, V, W⟩ c
 refine Rd2 c rfl rfl (q4E rI (OT.fr (RT.key ads)) false false [_] (f ++ (j ++ R)) rfl) ?_ ?_
 rintro _ _ ⟨k, e, rfl, rfl, O⟩
 have F : OAr 90 j8 ads av.w [] [] := OAr.nil J8
 refine iR ?_
 exact dG tl719 ⟨ads, e, k, f, m, n, q, s, t, u, x, y, z, A, B, C, rfl, rfl, O, D, F, S, T, U, V, W⟩ c
 exact Rn
 refine Rd2 c rfl rfl (q4E rI (OT.fr (RT.key ads)) false false [_] (j ++ R) rfl) ?_ ?_
 rintro _ _ ⟨k, e, rfl, rfl, O⟩
 have F : OAr 90 j8 ads av.w [] [] := OAr.nil J8
 refine iR<|Da [6, 10] (by kernel_rfl) rfl<|Rd2 c rfl rfl (q0w (r := Q5) [_] (e ++ (j ++ ([] ++ R))) [iv 0, bv false, iv 0, iv 0, bv false] (⟨0, false, 0, 0, false⟩ : q9) Z rfl G.1 rfl rfl q7f z0L rfl rfl rfl (by decide) ⟨[iv 0], _, rfl, rfl, ⟨[bv false], _, rfl, rfl, ⟨[iv 0], _, rfl, rfl, ⟨[iv 0], _, rfl, rfl, rfl⟩⟩⟩⟩ G.2.1 G.2.2) ?_ ?_
 rintro _ _ ⟨g, rfl, E⟩
 obtain ⟨o, p, rfl, _⟩ := E.form
 refine iR ?_
 exact dG tl708 ⟨ads, e, k, g, o, p, q, s, t, u, x, y, z, A, B, C, rfl, rfl, O, E, F, S, T, U, V, W⟩ c
 refine Rd2 c rfl rfl (q0w (r := Q7) [_] (e ++ (j ++ ([] ++ R))) [iv 0, bv false, bv false] (⟨0, false, false⟩ : z8) aa rfl H.1 rfl rfl z5n z0K rfl rfl rfl (by decide) ⟨[iv 0], _, rfl, rfl, ⟨[bv false], _, rfl, rfl, rfl⟩⟩ H.2.1 H.2.2) ?_ ?_
 rintro _ _ ⟨f, rfl, D⟩
 obtain ⟨m, n, rfl, _⟩ := D.form
 refine iR ?_
 exact dG tl719 ⟨ads, e, k, f, m, n, q, s, t, u, x, y, z, A, B, C, rfl, rfl, O, D, F, S, T, U, V, W⟩ c
 exact Rn
 exact Rn
 refine Rd2 lr rfl rfl (q0w (r := Q5) [_] (j ++ R) [iv 0, bv false, iv 0, iv 0, bv false] (⟨0, false, 0, 0, false⟩ : q9) Z rfl G.1 rfl rfl q7f z0L rfl rfl rfl (by decide) ⟨[iv 0], _, rfl, rfl, ⟨[bv false], _, rfl, rfl, ⟨[iv 0], _, rfl, rfl, ⟨[iv 0], _, rfl, rfl, rfl⟩⟩⟩⟩ G.2.1 G.2.2) ?_ ?_
 rintro _ _ ⟨g, rfl, E⟩
 obtain ⟨o, p, rfl, _⟩ := E.form
 refine iR<|Da [1, 10, 11] (by kernel_rfl) rfl<|Rg lr rfl rfl _ q6F rfl (q2P _ _ Y A2 c3 A5 c6 A8 c9 an ao aq ar (h4.le d) (h7.le d) (aD.le d) (aE.le d) (aF.le d) ad ae af ag ah am) ?_ ?_
 rintro _ av _ c ⟨q, s, t, u, x, y, z, A, B, C, rfl, rfl, S, T, U, V, W⟩
 refine iR<|Da [10, 11] (by kernel_rfl) rfl<|Rd2 c rfl rfl (q0w (r := Q7) [_] (g ++ (j ++ R)) [iv 0, bv false, bv false] (⟨0, false, false⟩ : z8) aa rfl H.1 rfl rfl z5n z0K rfl rfl rfl (by decide) ⟨[iv 0], _, rfl, rfl, ⟨[bv false], _, rfl, rfl, rfl⟩⟩ H.2.1 H.2.2) ?_ ?_
 rintro _ _ ⟨f, rfl, D⟩
 obtain ⟨m, n, rfl, _⟩ := D.form
 refine iR ?_
 exact dG tl697 ⟨f, m, n, g, o, p, q, s, t, u, x, y, z, A, B, C, rfl, rfl, D, (E.le c), S, T, U, V, W⟩ c
 refine Rd2 c rfl rfl (q4E rI (OT.fr (RT.key ads)) false false [_] (g ++ (j ++ R)) rfl) ?_ ?_
 rintro _ _ ⟨k, e, rfl, rfl, O⟩
 have F : OAr 90 j8 ads av.w [] [] := OAr.nil J8
 refine iR ?_
 exact dG tl708 ⟨ads, e, k, g, o, p, q, s, t, u, x, y, z, A, B, C, rfl, rfl, O, (E.le c), F, S, T, U, V, W⟩ c
 exact Rn
 refine Rd2 lr rfl rfl (q0w (r := Q7) [_] (g ++ (j ++ R)) [iv 0, bv false, bv false] (⟨0, false, false⟩ : z8) aa rfl H.1 rfl rfl z5n z0K rfl rfl rfl (by decide) ⟨[iv 0], _, rfl, rfl, ⟨[bv false], _, rfl, rfl, rfl⟩⟩ H.2.1 H.2.2) ?_ ?_
 rintro _ _ ⟨f, rfl, D⟩
 obtain ⟨m, n, rfl, _⟩ := D.form
 refine iR<|Da [1, 11] (by kernel_rfl) rfl<|Rg lr rfl rfl _ q6F rfl (q2P _ _ Y A2 c3 A5 c6 A8 c9 an ao aq ar (h4.le d) (h7.le d) (aD.le d) (aE.le d) (aF.le d) ad ae af ag ah am) ?_ ?_
 rintro _ av _ c ⟨q, s, t, u, x, y, z, A, B, C, rfl, rfl, S, T, U, V, W⟩
 refine iR ?_
 exact dG tl697 ⟨f, m, n, g, o, p, q, s, t, u, x, y, z, A, B, C, rfl, rfl, (D.le c), (E.le c), S, T, U, V, W⟩ c
 refine Rd2 lr rfl rfl (q4E rI (OT.fr (RT.key ads)) false false [_] (f ++ (g ++ (j ++ R))) rfl) ?_ ?_
 rintro _ _ ⟨k, e, rfl, rfl, O⟩
 have F : OAr 90 j8 ads a5.w [] [] := OAr.nil J8
 refine iR ?_
 exact dG tl726 ⟨ads, e, k, f, m, n, g, o, p, rfl, rfl, O, D, E, F⟩ lr
 exact Rn
 refine Rd2 lr rfl rfl (q4E rI (OT.fr (RT.key ads)) false false [_] (g ++ (j ++ R)) rfl) ?_ ?_
 rintro _ _ ⟨k, e, rfl, rfl, O⟩
 have F : OAr 90 j8 ads a5.w [] [] := OAr.nil J8
 refine iR<|Da [1, 10] (by kernel_rfl) rfl<|Rg lr rfl rfl _ q6F rfl (q2P _ _ Y A2 c3 A5 c6 A8 c9 an ao aq ar (h4.le d) (h7.le d) (aD.le d) (aE.le d) (aF.le d) ad ae af ag ah am) ?_ ?_
 rintro _ av _ c ⟨q, s, t, u, x, y, z, A, B, C, rfl, rfl, S, T, U, V, W⟩
 refine iR ?_
 exact dG tl708 ⟨ads, e, k, g, o, p, q, s, t, u, x, y, z, A, B, C, rfl, rfl, (O.le c), (E.le c), (F.le c), S, T, U, V, W⟩ c
 refine Rd2 lr rfl rfl (q0w (r := Q7) [_] (e ++ (g ++ (j ++ ([] ++ R)))) [iv 0, bv false, bv false] (⟨0, false, false⟩ : z8) aa rfl H.1 rfl rfl z5n z0K rfl rfl rfl (by decide) ⟨[iv 0], _, rfl, rfl, ⟨[bv false], _, rfl, rfl, rfl⟩⟩ H.2.1 H.2.2) ?_ ?_
 rintro _ _ ⟨f, rfl, D⟩
 obtain ⟨m, n, rfl, _⟩ := D.form
 refine iR ?_
 exact dG tl726 ⟨ads, e, k, f, m, n, g, o, p, rfl, rfl, O, D, E, F⟩ lr
 exact Rn
 exact Rn
 refine Rd2 lr rfl rfl (q0w (r := Q7) [_] (j ++ R) [iv 0, bv false, bv false] (⟨0, false, false⟩ : z8) aa rfl H.1 rfl rfl z5n z0K rfl rfl rfl (by decide) ⟨[iv 0], _, rfl, rfl, ⟨[bv false], _, rfl, rfl, rfl⟩⟩ H.2.1 H.2.2) ?_ ?_
 rintro _ _ ⟨f, rfl, D⟩
 obtain ⟨m, n, rfl, _⟩ := D.form
 refine iR<|Da [1, 6, 11] (by kernel_rfl) rfl<|Rg lr rfl rfl _ q6F rfl (q2P _ _ Y A2 c3 A5 c6 A8 c9 an ao aq ar (h4.le d) (h7.le d) (aD.le d) (aE.le d) (aF.le d) ad ae af ag ah am) ?_ ?_
 rintro _ av _ c ⟨q, s, t, u, x, y, z, A, B, C, rfl, rfl, S, T, U, V, W⟩
 refine iR<|Da [6, 11] (by kernel_rfl) rfl<|Rd2 c rfl rfl (q0w (r := Q5) [_] (f ++ (j ++ R)) [iv 0, bv false, iv 0, iv 0, bv false] (⟨0, false, 0, 0, false⟩ : q9) Z rfl G.1 rfl rfl q7f z0L rfl rfl rfl (by decide) ⟨[iv 0], _, rfl, rfl, ⟨[bv false], _, rfl, rfl, ⟨[iv 0], _, rfl, rfl, ⟨[iv 0], _, rfl, rfl, rfl⟩⟩⟩⟩ G.2.1 G.2.2) ?_ ?_
 rintro _ _ ⟨g, rfl, E⟩
 obtain ⟨o, p, rfl, _⟩ := E.form
 refine iR ?_
 exact dG tl697 ⟨f, m, n, g, o, p, q, s, t, u, x, y, z, A, B, C, rfl, rfl, (D.le c), E, S, T, U, V, W⟩ c
 refine Rd2 c rfl rfl (q4E rI (OT.fr (RT.key ads)) false false [_] (f ++ (j ++ R)) rfl) ?_ ?_
 rintro _ _ ⟨k, e, rfl, rfl, O⟩
 have F : OAr 90 j8 ads av.w [] [] := OAr.nil J8
 refine iR ?_
 exact dG tl719 ⟨ads, e, k, f, m, n, q, s, t, u, x, y, z, A, B, C, rfl, rfl, O, (D.le c), F, S, T, U, V, W⟩ c
 exact Rn
 refine Rd2 lr rfl rfl (q0w (r := Q5) [_] (f ++ (j ++ R)) [iv 0, bv false, iv 0, iv 0, bv false] (⟨0, false, 0, 0, false⟩ : q9) Z rfl G.1 rfl rfl q7f z0L rfl rfl rfl (by decide) ⟨[iv 0], _, rfl, rfl, ⟨[bv false], _, rfl, rfl, ⟨[iv 0], _, rfl, rfl, ⟨[iv 0], _, rfl, rfl, rfl⟩⟩⟩⟩ G.2.1 G.2.2) ?_ ?_
 rintro _ _ ⟨g, rfl, E⟩
 obtain ⟨o, p, rfl, _⟩ := E.form
 refine iR<|Da [1, 11] (by kernel_rfl) rfl<|Rg lr rfl rfl _ q6F rfl (q2P _ _ Y A2 c3 A5 c6 A8 c9 an ao aq ar (h4.le d) (h7.le d) (aD.le d) (aE.le d) (aF.le d) ad ae af ag ah am) ?_ ?_
 rintro _ av _ c ⟨q, s, t, u, x, y, z, A, B, C, rfl, rfl, S, T, U, V, W⟩
 refine iR ?_
 exact dG tl697 ⟨f, m, n, g, o, p, q, s, t, u, x, y, z, A, B, C, rfl, rfl, (D.le c), (E.le c), S, T, U, V, W⟩ c
 refine Rd2 lr rfl rfl (q4E rI (OT.fr (RT.key ads)) false false [_] (g ++ (f ++ (j ++ R))) rfl) ?_ ?_
 rintro _ _ ⟨k, e, rfl, rfl, O⟩
 have F : OAr 90 j8 ads a5.w [] [] := OAr.nil J8
 refine iR ?_
 exact dG tl726 ⟨ads, e, k, f, m, n, g, o, p, rfl, rfl, O, D, E, F⟩ lr
 exact Rn
 refine Rd2 lr rfl rfl (q4E rI (OT.fr (RT.key ads)) false false [_] (f ++ (j ++ R)) rfl) ?_ ?_
 rintro _ _ ⟨k, e, rfl, rfl, O⟩
 have F : OAr 90 j8 ads a5.w [] [] := OAr.nil J8
 refine iR<|Da [1, 6] (by kernel_rfl) rfl<|Rg lr rfl rfl _ q6F rfl (q2P _ _ Y A2 c3 A5 c6 A8 c9 an ao aq ar (h4.le d) (h7.le d) (aD.le d) (aE.le d) (aF.le d) ad ae af ag ah am) ?_ ?_
 rintro _ av _ c ⟨q, s, t, u, x, y, z, A, B, C, rfl, rfl, S, T, U, V, W⟩
 refine iR ?_
 exact dG tl719 ⟨ads, e, k, f, m, n, q, s, t, u, x, y, z, A, B, C, rfl, rfl, (O.le c), (D.le c), (F.le c), S, T, U, V, W⟩ c
 refine Rd2 lr rfl rfl (q0w (r := Q5) [_] (e ++ (f ++ (j ++ ([] ++ R)))) [iv 0, bv false, iv 0, iv 0, bv false] (⟨0, false, 0, 0, false⟩ : q9) Z rfl G.1 rfl rfl q7f z0L rfl rfl rfl (by decide) ⟨[iv 0], _, rfl, rfl, ⟨[bv false], _, rfl, rfl, ⟨[iv 0], _, rfl, rfl, ⟨[iv 0], _, rfl, rfl, rfl⟩⟩⟩⟩ G.2.1 G.2.2) ?_ ?_
 rintro _ _ ⟨g, rfl, E⟩
 obtain ⟨o, p, rfl, _⟩ := E.form
 refine iR ?_
 exact dG tl726 ⟨ads, e, k, f, m, n, g, o, p, rfl, rfl, O, D, E, F⟩ lr
 exact Rn
 exact Rn
 refine Rd2 lr rfl rfl (q4E rI (OT.fr (RT.key ads)) false false [_] (j ++ R) rfl) ?_ ?_
 rintro _ _ ⟨k, e, rfl, rfl, O⟩
 have F : OAr 90 j8 ads a5.w [] [] := OAr.nil J8
 refine iR<|Da [1, 6, 10] (by kernel_rfl) rfl<|Rg lr rfl rfl _ q6F rfl (q2P _ _ Y A2 c3 A5 c6 A8 c9 an ao aq ar (h4.le d) (h7.le d) (aD.le d) (aE.le d) (aF.le d) ad ae af ag ah am) ?_ ?_
 rintro _ av _ c ⟨q, s, t, u, x, y, z, A, B, C, rfl, rfl, S, T, U, V, W⟩
 refine iR<|Da [6, 10] (by kernel_rfl) rfl<|Rd2 c rfl rfl (q0w (r := Q5) [_] (e ++ (j ++ ([] ++ R))) [iv 0, bv false, iv 0, iv 0, bv false] (⟨0, false, 0, 0, false⟩ : q9) Z rfl G.1 rfl rfl q7f z0L rfl rfl rfl (by decide) ⟨[iv 0], _, rfl, rfl, ⟨[bv false], _, rfl, rfl, ⟨[iv 0], _, rfl, rfl, ⟨[iv 0], _, rfl, rfl, rfl⟩⟩⟩⟩ G.2.1 G.2.2) ?_ ?_
 rintro _ _ ⟨g, rfl, E⟩
 obtain ⟨o, p, rfl, _⟩ := E.form
 refine iR ?_
 exact dG tl708 ⟨ads, e, k, g, o, p, q, s, t, u, x, y, z, A, B, C, rfl, rfl, (O.le c), E, (F.le c), S, T, U, V, W⟩ c
 refine Rd2 c rfl rfl (q0w (r := Q7) [_] (e ++ (j ++ ([] ++ R))) [iv 0, bv false, bv false] (⟨0, false, false⟩ : z8) aa rfl H.1 rfl rfl z5n z0K rfl rfl rfl (by decide) ⟨[iv 0], _, rfl, rfl, ⟨[bv false], _, rfl, rfl, rfl⟩⟩ H.2.1 H.2.2) ?_ ?_
 rintro _ _ ⟨f, rfl, D⟩
 obtain ⟨m, n, rfl, _⟩ := D.form
 refine iR ?_
 exact dG tl719 ⟨ads, e, k, f, m, n, q, s, t, u, x, y, z, A, B, C, rfl, rfl, (O.le c), D, (F.le c), S, T, U, V, W⟩ c
 exact Rn
 refine Rd2 lr rfl rfl (q0w (r := Q5) [_] (e ++ (j ++ ([] ++ R))) [iv 0, bv false, iv 0, iv 0, bv false] (⟨0, false, 0, 0, false⟩ : q9) Z rfl G.1 rfl rfl q7f z0L rfl rfl rfl (by decide) ⟨[iv 0], _, rfl, rfl, ⟨[bv false], _, rfl, rfl, ⟨[iv 0], _, rfl, rfl, ⟨[iv 0], _, rfl, rfl, rfl⟩⟩⟩⟩ G.2.1 G.2.2) ?_ ?_
 rintro _ _ ⟨g, rfl, E⟩
 obtain ⟨o, p, rfl, _⟩ := E.form
 refine iR<|Da [1, 10] (by kernel_rfl) rfl<|Rg lr rfl rfl _ q6F rfl (q2P _ _ Y A2 c3 A5 c6 A8 c9 an ao aq ar (h4.le d) (h7.le d) (aD.le d) (aE.le d) (aF.le d) ad ae af ag ah am) ?_ ?_
 rintro _ av _ c ⟨q, s, t, u, x, y, z, A, B, C, rfl, rfl, S, T, U, V, W⟩
 refine iR ?_
 exact dG tl708 ⟨ads, e, k, g, o, p, q, s, t, u, x, y, z, A, B, C, rfl, rfl, (O.le c), (E.le c), (F.le c), S, T, U, V, W⟩ c
 refine Rd2 lr rfl rfl (q0w (r := Q7) [_] (g ++ (e ++ (j ++ ([] ++ R)))) [iv 0, bv false, bv false] (⟨0, false, false⟩ : z8) aa rfl H.1 rfl rfl z5n z0K rfl rfl rfl (by decide) ⟨[iv 0], _, rfl, rfl, ⟨[bv false], _, rfl, rfl, rfl⟩⟩ H.2.1 H.2.2) ?_ ?_
 rintro _ _ ⟨f, rfl, D⟩
 obtain ⟨m, n, rfl, _⟩ := D.form
 refine iR ?_
 exact dG tl726 ⟨ads, e, k, f, m, n, g, o, p, rfl, rfl, O, D, E, F⟩ lr
 exact Rn
 refine Rd2 lr rfl rfl (q0w (r := Q7) [_] (e ++ (j ++ ([] ++ R))) [iv 0, bv false, bv false] (⟨0, false, false⟩ : z8) aa rfl H.1 rfl rfl z5n z0K rfl rfl rfl (by decide) ⟨[iv 0], _, rfl, rfl, ⟨[bv false], _, rfl, rfl, rfl⟩⟩ H.2.1 H.2.2) ?_ ?_
 rintro _ _ ⟨f, rfl, D⟩
 obtain ⟨m, n, rfl, _⟩ := D.form
 refine iR<|Da [1, 6] (by kernel_rfl) rfl<|Rg lr rfl rfl _ q6F rfl (q2P _ _ Y A2 c3 A5 c6 A8 c9 an ao aq ar (h4.le d) (h7.le d) (aD.le d) (aE.le d) (aF.le d) ad ae af ag ah am) ?_ ?_
 rintro _ av _ c ⟨q, s, t, u, x, y, z, A, B, C, rfl, rfl, S, T, U, V, W⟩
 refine iR ?_
 exact dG tl719 ⟨ads, e, k, f, m, n, q, s, t, u, x, y, z, A, B, C, rfl, rfl, (O.le c), (D.le c), (F.le c), S, T, U, V, W⟩ c
 refine Rd2 lr rfl rfl (q0w (r := Q5) [_] (f ++ (e ++ (j ++ ([] ++ R)))) [iv 0, bv false, iv 0, iv 0, bv false] (⟨0, false, 0, 0, false⟩ : q9) Z rfl G.1 rfl rfl q7f z0L rfl rfl rfl (by decide) ⟨[iv 0], _, rfl, rfl, ⟨[bv false], _, rfl, rfl, ⟨[iv 0], _, rfl, rfl, ⟨[iv 0], _, rfl, rfl, rfl⟩⟩⟩⟩ G.2.1 G.2.2) ?_ ?_
 rintro _ _ ⟨g, rfl, E⟩
 obtain ⟨o, p, rfl, _⟩ := E.form
 refine iR ?_
 exact dG tl726 ⟨ads, e, k, f, m, n, g, o, p, rfl, rfl, O, D, E, F⟩ lr
 exact Rn
 exact Rn
 exact Rn
 rintro aA _ _ ⟨ads, aJ, aN, aO, aP, aQ, aR, aT, aU, aV, aW, aX, bl, bm, aw, aY, aZ, I, a0, J, K, rfl, rfl, ay, dy, dz, dA, dB, dC, cj, dD, dE, dF⟩
 have hm := j6y cm
 refine Cs<|Cr<|mV rfl<|tS (sN rfl)<|tS (sF rfl q0o)<|tS (sL 1 rfl q4V rfl rfl)<|tS (sE rfl q7f)<|mV rfl<|Te<|Cb ?_
 have dV : be.length ≤ 9223372036854775807 := (OS.len cj)
 refine Cp 1 rfl<|Cp 1 rfl<|q2R j aw I J K<|q2R K j aw I J<|q2R J K j aw I<|q2R I J K j aw<|q2R aw I J K j ?_
 obtain ⟨a1, cn, co⟩ := bS hm
 refine lS (fun bH => fun a1 => fun bg e' hp' => ∃ aK aL ab, [(1, pb au), (5, sv ak ac al), (7, pb aJ), (43, iv ((be.length : Int))), (44, iv ((bH : Int)))] = e' ∧ (au, Cl 28 [sv A2 Y.Stations c3, sv A5 Y.Sections c6, sv A8 Y.Links c9, sv an Y.Signals ao, sv aq Y.Gates ar]) :: (aJ, Cl 78 [sv aN a9 aO, sv aP ba aQ, sv aR bb aT, sv aU bc aV, sv aW bd aX, sv ak ac al, sn, sv aK a1 aL, sv aY a6 aZ, .map (some a0)]) :: (j ++ (ab ++ (I ++ (J ++ (K ++ R))))) = hp' ∧ aA.Le bg ∧ OS 80 (OT.fr Q5) bg.w (sv aK a1 aL) a1 ab) cn ⟨bl, bm, aw, rfl, rfl, lr, cj⟩ ?_ ?_
 rintro bH a1 bg _ _ dW dH ⟨aK, aL, ab, rfl, rfl, X, bq⟩ a2
 unfold q3X at a2
 have hm := a2
 refine Cr<|tS (lT rfl rfl (by omega))<|Te<|Cs<|k7 rfl<|Ck<|Xn<|Cs<|Cb<|Cr<|mV rfl<|aS rfl<|Te<|Cg<|mV rfl<|tS (sN rfl)<|tS (sF rfl q0o)<|tS (sL 1 rfl q4V rfl rfl)<|mV rfl ?_
 obtain ⟨aB, dI, hm⟩ := bS hm
 obtain ⟨dJ, bI, bJ⟩ := iS dI
 obtain ⟨dX, dY, d7, d8, dZ, cp, dT, bK, bU, d0, dU⟩ := OS.get (sz := 5) rfl (by decide) bq bJ
 obtain ⟨⟨_, _, rfl, rfl, ⟨_, _, rfl, rfl, ⟨_, _, rfl, rfl, ⟨_, _, rfl, rfl, rfl⟩⟩⟩⟩, rfl⟩ := cp
 refine tS (sI dJ rfl rfl bI bU bK q7f)<|tS (sQ rfl bK q5J)<|z1E j ab<|tD (uP bI (sz := 5) (a' := (⟨aB.axles, aB.disturbed, 1, aB.moving, aB.failed⟩ : q9)) rfl [_, _] (j ++ (I ++ (J ++ (K ++ R)))) 2 1 [iv 1] rfl bq bJ rfl rfl rfl z3Y rfl (mc rfl mn) (fun cs hsj hh => by obtain ⟨⟨_, _, rfl, rfl, ⟨_, _, rfl, rfl, ⟨_, _, rfl, rfl, ⟨_, _, rfl, rfl, rfl⟩⟩⟩⟩, rfl⟩ := hh; exact ⟨by first | decide | exact Nat.le_refl _, ⟨[iv aB.axles], _, rfl, rfl, ⟨[bv aB.disturbed], _, rfl, rfl, ⟨[iv 1], _, rfl, rfl, ⟨[iv aB.moving], _, rfl, rfl, rfl⟩⟩⟩⟩, rfl⟩)) ?_
 rintro _ _ ⟨cq, rfl, dK⟩
 refine K9 1 rfl (o' := Cl 78 [sv aN a9 aO, sv aP ba aQ, sv aR bb aT, sv aU bc aV, sv aW bd aX, sv ak ac al, sn, .slice aK (put a1 (bH : Int) (⟨aB.axles, aB.disturbed, 1, aB.moving, aB.failed⟩ : q9)).length aL, sv aY a6 aZ, .map (some a0)]) (by simp only [sv, Q4])<|Tn<|Xm<|Xn<|Cg<|tS (sa rfl rfl (by omega))<|mV rfl<|Tn ?_
 obtain rfl := o1 hm
 exact jS ⟨aK, aL, cq, rfl, rfl, (X), dK⟩
 rintro bg _ _ ⟨aK, aL, ab, rfl, rfl, X, bq⟩
 have hm := co
 refine Cr<|tS (lF rfl rfl (by omega))<|Te<|Cs<|w9 rfl<|Ce<|Xe<|Xe<|Xo<|Xn<|Cs<|Cr<|mV rfl<|tS (sE rfl z5c)<|mV rfl<|Te<|Cb ?_
 have d1 : ac.length ≤ 9223372036854775807 := (OS.len ci)
 refine Cp 1 rfl<|Cp 1 rfl<|q2R j ab I J K<|q2R K j ab I J<|q2R J K j ab I<|q2R I J K j ab<|q2R ab I J K j ?_
 obtain ⟨a3, cr, ct⟩ := bS hm
 refine lS (fun bL => fun a3 => fun br e' hp' => ∃ bh bi az, [(1, pb au), (7, pb aJ), (56, iv ((ac.length : Int))), (57, iv ((bL : Int)))] = e' ∧ (au, Cl 28 [sv A2 Y.Stations c3, sv A5 Y.Sections c6, sv A8 Y.Links c9, sv an Y.Signals ao, sv aq Y.Gates ar]) :: (aJ, Cl 78 [sv aN a9 aO, sv aP ba aQ, sv aR bb aT, sv aU bc aV, sv aW bd aX, sv ak ac al, sv bh a3 bi, sv aK a1 aL, sv aY a6 aZ, .map (some a0)]) :: (j ++ (az ++ (ab ++ (I ++ (J ++ (K ++ R)))))) = hp' ∧ bg.Le br ∧ OS 46 (OT.fr (RT.list j7)) br.w (sv bh a3 bi) a3 az) cr ⟨none, 0, [], rfl, rfl, lr, OS.nil⟩ ?_ ?_
 rintro bL a3 br _ _ d5 dL ⟨bh, bi, az, rfl, rfl, L, bM⟩ a4
 unfold q3W at a4
 have hm := a4
 refine Cr<|tS (lT rfl rfl (by omega))<|Te<|Cs<|k7 rfl<|Ck<|Xn<|Cs<|Cb<|Cr<|mV rfl<|aS rfl<|Te<|Cr<|tS (sD (vs := [_, _, _, _, _]) 0 5 rfl P0 rfl rfl rfl)<|mV rfl ?_
 obtain ⟨⟨dM, a7⟩, bV, hm⟩ := bS hm
 have hm := H0 hm
 have zy := d.trans (ay.trans (X.trans L))
 refine Tg _ rfl j5T rfl (z4R _ _ Y (bL : Int) A2 c3 A5 c6 A8 c9 an ao aq ar (h4.le zy) (h7.le zy) (aD.le zy) (aE.le zy) (aF.le zy) dM a7 bV) ?_
 rintro _ d9 _ bs ⟨bN, bO, bP, rfl, rfl, dN, ea⟩
 refine q3x [] [_, _] bP (j ++ (az ++ (ab ++ (I ++ (J ++ (K ++ R)))))) rfl<|mV rfl<|tS (w7 rfl rfl)<|tS (w7 rfl rfl)<|aS rfl<|aS rfl<|Te<|Cg<|mV rfl<|mV rfl ?_
 refine tS (sN rfl)<|tS (sF rfl z5P)<|tS (sL 1 rfl z8W rfl rfl)<|mV rfl<|tD (V3 (el := 46) [(0, sv bN a7 bO)] [sv bN a7 bO] rfl (fun _ => by kernel_rfl)) ?_
 rintro _ _ ⟨eb, rfl, rfl⟩
 refine z8t [_, _, _] bP (j ++ (az ++ (ab ++ (I ++ (J ++ (K ++ R)))))) rfl ?_
 intro ec a8 cu
 have dO := OS.frz (l := a7) dN a8.cells cu
 obtain ⟨_, bQ, hm⟩ := bS hm
 have bQ := W9 bQ
 refine j4x j az<|tD (uQ (r := (RT.list j7)) (l := a3) [_, _, _] (j ++ (ab ++ (I ++ (J ++ (K ++ R))))) [[sv bN a7 bO]] [a7] rfl (by decide) j4G j4Z rfl rfl rfl rfl (bM.le (bs.trans a8)) rfl (fun w ho => Rd.own (i := 0) ho rfl) ⟨(RT.list_mk dO), trivial⟩ bQ) ?_
 rintro _ _ ⟨cv, rfl, ck⟩
 obtain ⟨dP, dQ, rfl, _⟩ := ck.form
 refine tS (sN rfl)<|tS (sF rfl z5P)<|tD (uS 2 rfl rfl j4H rfl rfl (by simp)) ?_
 rintro _ _ rfl
 refine Tn<|Xm<|Xn<|Cg<|tS (sa rfl rfl (by omega))<|mV rfl<|Tn ?_
 obtain rfl := o1 hm
 exact jS ⟨dP, dQ, cv, rfl, rfl, ((L.trans (bs.trans a8))), ck⟩
 rintro br _ _ ⟨bh, bi, az, rfl, rfl, L, bM⟩
 have hm := ct
 refine Cr<|tS (lF rfl rfl (by omega))<|Te<|Cs<|w9 rfl<|Ce<|Xe<|Xe<|Xo<|Xn<|Cr<|mV rfl<|aS rfl<|aS rfl<|Te<|Ct<|z1C [_, _] j (az ++ (ab ++ (I ++ (J ++ (K ++ R))))) rfl ?_
 intro ed ai cw
 have dR := OS.frz (l := ac) (ci.le (ay.trans (X.trans L))) ai.cells cw
 refine z1C [_, _] az (ab ++ (I ++ (J ++ (K ++ R)))) rfl ?_
 intro ee aj cx
 have dS := OS.frz (l := a3) (bM.le ai) aj.cells cx
 obtain ⟨rfl, rfl, rfl, rfl, rfl, rfl, rfl, rfl, rfl, rfl, rfl⟩ := j4F hm
 have zx := X.trans (L.trans (ai.trans aj))
 have cy := dy.le zx
 have cz := dz.le zx
 have cA := dA.le zx
 have cC := dB.le zx
 have cD := dC.le zx
 have cE := dR.le aj
 have cG := (bq.le (L.trans (ai.trans aj)))
 have cH := dD.le zx
 have cJ := dE.le zx
 have cK := dF.le zx
 exact rT ⟨ads, aJ, aN, aO, aP, aQ, aR, aT, aU, aV, aW, aX, ak, al, bh, bi, aK, aL, ab, aY, aZ, I, a0, J, K, rfl, rfl, cy, cz, cA, cC, cD, cE, dS, cG, cH, cJ, cK⟩ (d.trans (ay.trans zx))
theorem q5O (b : k9) (R : Hp) (H f g h i j k l d e I J) (ads : Int → Nat) (n o p q r s t u w x y z A B C T U D V W E F a c) (Y : FZ RT.str b.w o p f) (Z : FZ j4 b.w q r g) (aa : FZ Q0 b.w s t h) (ab : FZ j6 b.w u w i) (ac : FZ Q1 b.w x y j) (ad : FZ Z3 b.w z A k) (ae : FZ (RT.list j7) b.w B C l) (h5 : OS 80 (OT.fr Q5) b.w (sv T d U) d D) (af : OS 94 (OT.fr Q7) b.w (sv V e W) e E) (ag : OM rI (OT.fr (RT.key ads)) false false b.w F I a) (ah : OAr 90 j8 ads b.w J c) (K) (hm : q1D H f g h i j k l d e I J = some K):
 v8 Tryz.prog 45 [pb n, iv H] b ((n, Cl 78 [sv o f p, sv q g r, sv s h t, sv u i w, sv x j y, sv z k A, sv B l C, sv T d U, sv V e W, .map (some F)]) :: (D ++ (E ++ (a ++ (c ++ R))))) (fun v b' hp' => bv K = v ∧ (n, Cl 78 [sv o f p, sv q g r, sv s h t, sv u i w, sv x j y, sv z k A, sv B l C, sv T d U, sv V e W, .map (some F)]) :: (D ++ (E ++ (a ++ (c ++ R)))) = hp') := by
 refine fE 16 Tryz.func45 rfl Tryz.ntmps45 rfl ?_
 unfold q1D at hm
 refine Cr<|aS rfl<|Te ?_
 obtain ⟨X, L, O⟩ := bS hm
 refine Cj (fun S e' hp' => [(4, bv X)] = e' ∧ (n, Cl 78 [sv o f p, sv q g r, sv s h t, sv u i w, sv x j y, sv z k A, sv B l C, sv T d U, sv V e W, .map (some F)]) :: (D ++ (E ++ (a ++ (c ++ R)))) = hp' ∧ b.Le S) ?_ ?_
 have hm := L
 refine Cg<|mV rfl<|Tb rfl (q6 rfl rfl) (fun m => ?_) (fun m => ?_)
 rw [if_pos m] at hm
 refine mV rfl<|yS<|mV rfl<|yS<|mV rfl<|yS<|tS (sN rfl)<|yS<|tS (sF rfl q0o)<|yS<|tS (sL 0 rfl q4V rfl rfl)<|yS<|tS (sE rfl q7f)<|yS<|tS (q3 rfl rfl)<|tS (pT rfl rfl)<|aS rfl<|Tn ?_
 obtain rfl := o1 hm
 exact jJ ⟨rfl, rfl, lr⟩
 rw [if_neg m] at hm
 refine mV rfl<|nO<|nO<|nO<|nO<|nO<|nO<|nO<|tS (pF rfl rfl)<|aS rfl<|Tn ?_
 obtain rfl := o1 hm
 exact jJ ⟨rfl, rfl, lr⟩
 rintro S _ _ ⟨rfl, rfl, G⟩
 have hm := O
 refine Ct ?_
 obtain rfl := o1 hm
 exact rO ⟨rfl, rfl⟩ G
theorem z5W (b : k9) (R : Hp) (S l m n o p q r s i j aj ak) (ads : Int → Nat) (x y z A B C D E F G H I J K L A3 c4 g A8 c9 h O d e) (aP : FZ RT.str b.w y z m) (aQ : FZ j4 b.w A B n) (aR : FZ Q0 b.w C D o) (aT : FZ j6 b.w E F p) (aU : FZ Q1 b.w G H q) (aV : FZ Z3 b.w I J r) (aW : FZ (RT.list j7) b.w K L s) (h5 : OS 80 (OT.fr Q5) b.w (sv A3 i c4) i g) (aX : OS 94 (OT.fr Q7) b.w (sv A8 j c9) j h) (aY : OM rI (OT.fr (RT.key ads)) false false b.w O aj d) (aZ : OAr 90 j8 ads b.w ak e) (ah k) (hm : q4o S l m n o p q r s i j aj ak = some (ah, k)):
 v8 Tryz.prog 16 [pb x, iv S, iv l] b ((x, Cl 78 [sv y m z, sv A n B, sv C o D, sv E p F, sv G q H, sv I r J, sv K s L, sv A3 i c4, sv A8 j c9, .map (some O)]) :: (g ++ (h ++ (d ++ (e ++ R))))) (fun v b' hp' => ∃ T, iv ah = v ∧ (x, Cl 78 [sv y m z, sv A n B, sv C o D, sv E p F, sv G q H, sv I r J, sv K s L, sv A3 k c4, sv A8 j c9, .map (some O)]) :: (T ++ (h ++ (d ++ (e ++ R)))) = hp' ∧ OS 80 (OT.fr Q5) b'.w (sv A3 k c4) k T ∧ k.length = i.length) := by
 refine fE 43 Tryz.func16 rfl Tryz.ntmps16 rfl ?_
 unfold q4o at hm
 refine Cr<|aS rfl<|Te<|Cs<|Cb<|Cr<|mV rfl<|mV rfl ?_
 obtain ⟨aB, ab, hm⟩ := bS hm
 refine K6 g h d e<|K6 e g h d<|K6 d e g h<|K6 h d e g<|G7 [_] [] g h d e R rfl<|Tg _ rfl z7b rfl (q5O _ _ S m n o p q r s i j aj ak ads x y z A B C D E F G H I J K L A3 c4 g A8 c9 h O d e aP aQ aR aT aU aV aW h5 aX aY aZ aB ab) ?_
 rintro _ aC _ a ⟨rfl, rfl⟩
 refine q3K [_] [] g h d e R rfl<|tS (sn2 rfl)<|aS rfl<|Te<|cM hm rfl (fun hm => ?_) fun hm => ?_
 refine Cr<|aS rfl<|Te<|Ct<|Xb<|Xr ?_
 obtain ⟨rfl, rfl⟩ := V9 hm
 have al := h5.le a
 exact rO ⟨g, rfl, rfl, al, rfl⟩ a
 obtain ⟨aD, am, an⟩ := bS hm
 refine Cj (fun ai e' hp' => [(0, pb x), (1, iv S), (2, iv l), (12, bv aD)] = e' ∧ (x, Cl 78 [sv y m z, sv A n B, sv C o D, sv E p F, sv G q H, sv I r J, sv K s L, sv A3 i c4, sv A8 j c9, .map (some O)]) :: (g ++ (h ++ (d ++ (e ++ R)))) = hp' ∧ aC.Le ai) ?_ ?_
 have hm := am
 refine Cg<|mV rfl<|Tb rfl (q3 rfl rfl) (fun t => ?_) (fun t => ?_)
 rw [if_pos t] at hm
 refine mV rfl<|nO<|nO<|tS (pT rfl rfl)<|aS rfl<|Tn ?_
 obtain rfl := o1 hm
 exact jJ ⟨rfl, rfl, lr⟩
 rw [if_neg t] at hm
 refine mV rfl<|yS<|mV rfl<|yS<|tS (q5 rfl rfl)<|tS (pF rfl rfl)<|aS rfl<|Tn ?_
 obtain rfl := o1 hm
 exact jJ ⟨rfl, rfl, lr⟩
 rintro ai _ _ ⟨rfl, rfl, c⟩
 have hm := an
 refine cB hm rfl (fun hm => ?_) fun hm => ?_
 refine Cr<|aS rfl<|Te<|Ct<|Xb<|Xr ?_
 obtain ⟨rfl, rfl⟩ := V9 hm
 have ao := (h5.le (a.trans c))
 exact rO ⟨g, rfl, rfl, ao, rfl⟩ (a.trans c)
 refine Cr<|mV rfl<|tS (sN rfl)<|tS (sF rfl q0o)<|tS (sL 0 rfl q4V rfl rfl)<|mV rfl ?_
 obtain ⟨bc, aE, hm⟩ := bS hm
 obtain ⟨aF, aq, ar⟩ := iS aE
 have zz := a.trans c
 obtain ⟨a0, a1, bd, be, a2, au, ac, U, ad, a3, aL⟩ := OS.get (sz := 5) rfl (by decide) (h5.le zz) ar
 obtain ⟨⟨_, _, rfl, rfl, ⟨_, _, rfl, rfl, ⟨_, _, rfl, rfl, ⟨_, _, rfl, rfl, rfl⟩⟩⟩⟩, rfl⟩ := au
 refine tS (sI aF rfl rfl aq ad U q7f)<|tS (sQ rfl U q3e)<|tS (Q3 rfl Q8 (fun w ho => ac w _ ho (.cons _ (Kb _ _)) 0 _ rfl))<|mV rfl ?_
 obtain ⟨_, V, hm⟩ := bS hm
 have V := (kS V).2
 refine tS (sa rfl rfl V)<|tS (q5 rfl rfl)<|aS rfl<|Te<|cI hm rfl (fun hm => ?_) fun hm => ?_
 refine Cr<|aS rfl<|Te<|Ct<|Xb<|Xr ?_
 obtain ⟨rfl, rfl⟩ := V9 hm
 have av := h5.le zz
 exact rO ⟨g, rfl, rfl, av, rfl⟩ zz
 refine Ck<|Xm<|Xn<|Cr<|mV rfl<|tS (sN rfl)<|tS (sF rfl q0o)<|tS (sL 0 rfl q4V rfl rfl)<|mV rfl ?_
 obtain ⟨u, aG, hm⟩ := bS hm
 obtain ⟨aH, aw, ax⟩ := iS aG
 have zy := a.trans c
 obtain ⟨a4, a5, bf, bg, a6, ay, ae, W, af, a7, aM⟩ := OS.get (sz := 5) rfl (by decide) (h5.le zy) ax
 obtain ⟨⟨_, _, rfl, rfl, ⟨_, _, rfl, rfl, ⟨_, _, rfl, rfl, ⟨_, _, rfl, rfl, rfl⟩⟩⟩⟩, rfl⟩ := ay
 refine tS (sI aH rfl rfl aw af W q7f)<|tS (sQ rfl W q3e)<|tS (Q3 rfl Q8 (fun w ho => ae w _ ho (.cons _ (Kb _ _)) 0 _ rfl))<|mV rfl ?_
 obtain ⟨_, X, hm⟩ := bS hm
 have X := (kS X).2
 refine tS (sa rfl rfl X) ?_
 obtain ⟨f, aI, hm⟩ := bS hm
 obtain ⟨aJ, Y, Z⟩ := iS aI
 obtain ⟨a8, a9, bh, bi, ba, az, aN, aa, ag, bb, aO⟩ := OS.get (sz := 5) rfl (by decide) (h5.le zy) Z
 obtain ⟨⟨_, _, rfl, rfl, ⟨_, _, rfl, rfl, ⟨_, _, rfl, rfl, ⟨_, _, rfl, rfl, rfl⟩⟩⟩⟩, rfl⟩ := az
 refine tS (sI aJ rfl rfl Y ag aa q7f)<|tS (sQ rfl aa q3e)<|tD (uP Y (sz := 5) (a' := (⟨u.axles + l, f.disturbed, f.position, f.moving, f.failed⟩ : q9)) rfl [_] (h ++ (d ++ (e ++ R))) 0 1 [iv (u.axles + l)] rfl (h5.le zy) Z rfl rfl rfl z3Y rfl (mc rfl mn) (fun cs hsj hh => by obtain ⟨⟨_, _, rfl, rfl, ⟨_, _, rfl, rfl, ⟨_, _, rfl, rfl, ⟨_, _, rfl, rfl, rfl⟩⟩⟩⟩, rfl⟩ := hh; exact ⟨by first | decide | exact Nat.le_refl _, ⟨[iv (u.axles + l)], _, rfl, rfl, ⟨[bv f.disturbed], _, rfl, rfl, ⟨[iv f.position], _, rfl, rfl, ⟨[iv f.moving], _, rfl, rfl, rfl⟩⟩⟩⟩, rfl⟩)) ?_
 rintro _ _ ⟨aA, rfl, aK⟩
 refine K9 0 rfl (o' := Cl 78 [sv y m z, sv A n B, sv C o D, sv E p F, sv G q H, sv I r J, sv K s L, .slice A3 (put i S (⟨u.axles + l, f.disturbed, f.position, f.moving, f.failed⟩ : q9)).length c4, sv A8 j c9, .map (some O)]) (by simp only [sv, Q4])<|Te<|Cr<|aS rfl<|Te<|Ct ?_
 obtain ⟨rfl, rfl⟩ := V9 hm
 exact rO ⟨aA, rfl, rfl, aK, ((Q4 _ _ _).trans rfl)⟩ zy
theorem q6a (b : k9) (R : Hp) (H f g h i j k l d e I J) (ads : Int → Nat) (n o p q r s t u w x y z A B C T U D V W E F a c) (Y : FZ RT.str b.w o p f) (Z : FZ j4 b.w q r g) (aa : FZ Q0 b.w s t h) (ab : FZ j6 b.w u w i) (ac : FZ Q1 b.w x y j) (ad : FZ Z3 b.w z A k) (ae : FZ (RT.list j7) b.w B C l) (h5 : OS 80 (OT.fr Q5) b.w (sv T d U) d D) (af : OS 94 (OT.fr Q7) b.w (sv V e W) e E) (ag : OM rI (OT.fr (RT.key ads)) false false b.w F I a) (ah : OAr 90 j8 ads b.w J c) (K) (hm : P8 H f g h i j k l d e I J = some K):
 v8 Tryz.prog 30 [pb n, iv H] b ((n, Cl 78 [sv o f p, sv q g r, sv s h t, sv u i w, sv x j y, sv z k A, sv B l C, sv T d U, sv V e W, .map (some F)]) :: (D ++ (E ++ (a ++ (c ++ R))))) (fun v b' hp' => bv K = v ∧ (n, Cl 78 [sv o f p, sv q g r, sv s h t, sv u i w, sv x j y, sv z k A, sv B l C, sv T d U, sv V e W, .map (some F)]) :: (D ++ (E ++ (a ++ (c ++ R)))) = hp') := by
 refine fE 16 Tryz.func30 rfl Tryz.ntmps30 rfl ?_
 unfold P8 at hm
 refine Cr<|aS rfl<|Te ?_
 obtain ⟨X, L, O⟩ := bS hm
 refine Cj (fun S e' hp' => [(4, bv X)] = e' ∧ (n, Cl 78 [sv o f p, sv q g r, sv s h t, sv u i w, sv x j y, sv z k A, sv B l C, sv T d U, sv V e W, .map (some F)]) :: (D ++ (E ++ (a ++ (c ++ R)))) = hp' ∧ b.Le S) ?_ ?_
 have hm := L
 refine Cg<|mV rfl<|Tb rfl (q6 rfl rfl) (fun m => ?_) (fun m => ?_)
 rw [if_pos m] at hm
 refine mV rfl<|yS<|mV rfl<|yS<|mV rfl<|yS<|tS (sN rfl)<|yS<|tS (sF rfl z5Q)<|yS<|tS (sL 0 rfl z1L rfl rfl)<|yS<|tS (sE rfl z5c)<|yS<|tS (q3 rfl rfl)<|tS (pT rfl rfl)<|aS rfl<|Tn ?_
 obtain rfl := o1 hm
 exact jJ ⟨rfl, rfl, lr⟩
 rw [if_neg m] at hm
 refine mV rfl<|nO<|nO<|nO<|nO<|nO<|nO<|nO<|tS (pF rfl rfl)<|aS rfl<|Tn ?_
 obtain rfl := o1 hm
 exact jJ ⟨rfl, rfl, lr⟩
 rintro S _ _ ⟨rfl, rfl, G⟩
 have hm := O
 refine Ct ?_
 obtain rfl := o1 hm
 exact rO ⟨rfl, rfl⟩ G
theorem z0X (A : Option Addr) (n c : Nat) (xs : List Value) (w : World) (hR : Rd w A xs) (hl : xs.length = n * 4) (hn : n * 32 ≤ 140737488355328 ∧ n ≤ 9223372036854775807) :
    q5s Tryz.prog 31 [.slice A n c] w [] (fun v hp' => q9R 55 4 v n xs hp') := by
  refine q5I 8 Tryz.func31 rfl Tryz.ntmps31 rfl ?_
  refine q7i ?_
  refine z1x rfl rfl ?_
  refine q5t ?_
  refine q3F ?_
  refine q7i ?_
  refine z5l rfl rfl ?_
  refine q5W rfl (q5w rfl rfl q5x) (fun hc1 => ?_) (fun hc1 => ?_)
  ·
    refine q5t ?_
    refine k7 rfl ?_
    refine q7i ?_
    refine z1x rfl rfl ?_
    refine q5t ?_
    refine q4B ?_
    refine X9 ?_
    subst hc1
    obtain rfl := hR.none_nil
    obtain rfl : n = 0 := by simp at hl; omega
    refine q4D (hp' := []) (by repeat (first | exact List.Sublist.refl _ | exact List.nil_sublist _ | exact Kb _ _ | exact Kc _ _ | exact (Kc _ _).trans (Kc _ _) | apply List.Sublist.cons_cons | apply List.Sublist.cons)) ?_
    exact z6p (k9.Le.refl _) rfl rfl (q9R.nil)
  ·
    refine q5t ?_
    refine w9 rfl ?_
    refine q4z ?_
    refine Q9 ?_
    refine q7i ?_
    refine z2i rfl (V3 (el := 55) [] [] rfl (fun _ => by kernel_rfl)) ?_
    rintro _ _ ⟨g0, rfl, rfl⟩
    refine z5l rfl rfl ?_
    refine z2i rfl (z0p xs q5x j1q rfl (by decide) rfl rfl hl (fun w ho => hR.old ho) hn.2 hn.1) ?_
    rintro _ _ ⟨hs, rfl, hseg⟩
    refine z1x rfl rfl ?_
    refine q5t ?_
    refine q4B ?_
    refine q4D (hp' := hs) (by repeat (first | exact List.Sublist.refl _ | exact List.nil_sublist _ | exact Kb _ _ | exact Kc _ _ | exact (Kc _ _).trans (Kc _ _) | apply List.Sublist.cons_cons | apply List.Sublist.cons)) ?_
    exact z6p (k9.Le.refl _) rfl rfl hseg
theorem z1Q (b : k9) (R : Hp) (d e f) (i : FZ j7 b.w e f d) (a) (hm : q3m d = some a):
 v8 Tryz.prog 31 [sv e d f] b (R) (fun v b' hp' => ∃ g h c, sv g a h = v ∧ (c ++ R) = hp' ∧ OS 55 (OT.fr j7) b'.w (sv g a h) a c) := by
 unfold q3m at hm
 obtain ⟨_, hroom, hm⟩ := bS hm
 have hroom := W9 hroom
 obtain rfl := o1 hm
 exact q5N (r := j7) (sz := 4) (by_ := 32) rfl (by decide) z0X i hroom
theorem q7p (b : k9) (R : Hp) (a : q8) (c) (hm : q3s a = some c):
 v8 Tryz.prog 33 [.agg #[iv a.Kind, iv a.Place, iv a.Position, iv a.At]] b (R) (fun v b' hp' => bv c = v ∧ R = hp') := by
 refine fE 6 Tryz.func33 rfl Tryz.ntmps33 rfl ?_
 unfold q3s at hm
 refine Cr<|tD (uB _ rfl rfl) ?_
 rintro _ _ ⟨d, rfl, rfl⟩
 refine aS rfl<|Te<|Cr<|tS (sF rfl q0H)<|tS (sL 0 rfl Q8 rfl rfl)<|tS (q1 rfl rfl)<|aS rfl<|Te<|Ct ?_
 obtain rfl := o1 hm
 exact rO ⟨rfl, rfl⟩ lr
theorem q8A (b : k9) (R : Hp) (n z A) (D : FZ j7 b.w z A n) (o) (hm : q2H n = some o):
 v8 Tryz.prog 74 [sv z n A, .func (.func 33) #[] #[]] b (R) (fun v b' hp' => iv o = v ∧ R = hp') := by
 refine fE 19 Tryz.func74 rfl Tryz.ntmps74 rfl ?_
 unfold q2H at hm
 refine Cr<|aS rfl<|Te<|Cs<|Cr<|mV rfl<|tS (sE rfl q5x)<|mV rfl<|Te<|Cb ?_
 have E : n.length ≤ 9223372036854775807 := (FZ.bd D)
 obtain ⟨I, p, e⟩ := bS hm
 refine lF (fun q => fun _ => fun i e' hp' => [(0, sv z n A), (1, .func (.func 33) #[] #[]), (7, iv ((n.length : Int))), (8, iv ((q : Int)))] = e' ∧ R = hp' ∧ b.Le i) p ⟨rfl, rfl, lr⟩ ?_ ?_
 rintro q _ i _ _ F y ⟨rfl, rfl, a⟩ c f
 unfold q2S at c
 have hm := c
 refine Cr<|tS (lT rfl rfl (by omega))<|Te<|Cs<|k7 rfl<|Ck<|Xn<|Cs<|Cb<|Cr<|mV rfl<|aS rfl<|Te<|Cr<|mV rfl<|mV rfl<|mV rfl ?_
 obtain ⟨d, B, G, r, H, s, k, g, l, hm⟩ := bF (sz := 4) hm (D.le a)
 obtain ⟨_, _, rfl, rfl, ⟨_, _, rfl, rfl, ⟨_, _, rfl, rfl, rfl⟩⟩⟩ := s
 refine tS (sI B rfl rfl r l g q5x)<|tS (sP (vs := [iv d.Kind, iv d.Place, iv d.Position, iv d.At]) 4 rfl P7 g rfl (fun j u hu => k j u hu)) ?_
 obtain ⟨C, m, hm⟩ := bS hm
 refine tD (q0K #[] #[] [.agg #[iv d.Kind, iv d.Place, iv d.Position, iv d.At]] rfl j2E rfl (fun w ho => q7p _ [] d C m) (fun _ _ _ h => h.2.symm)) ?_
 rintro _ _ ⟨⟨_, rfl, _⟩, rfl⟩
 refine Te<|cB hm rfl (fun hm => ?_) fun hm => ?_
 refine Cr<|mV rfl<|aS rfl<|Te<|Ct<|Xb<|Xr<|Xr<|Xb<|Xr ?_
 have t := f _ (Kd hm).symm
 rw [t] at e
 have hm := V8 e
 obtain rfl := o1 hm
 exact rO ⟨rfl, rfl⟩ a
 refine Ck<|Xm<|Xn<|Cg<|tS (sa rfl rfl (by omega))<|mV rfl<|Tn ?_
 exact jM hm ⟨rfl, rfl, (a)⟩
 rintro _ i _ _ ⟨rfl, rfl, a⟩ x
 rw [x] at e
 have hm := G0 e
 refine Cr<|tS (lF rfl rfl (by omega))<|Te<|Cs<|w9 rfl<|Ce<|Xe<|Xe<|Xo<|Xn<|Cr<|aS rfl<|Te<|Ct ?_
 obtain rfl := o1 hm
 exact rO ⟨rfl, rfl⟩ a
theorem q9o (b : k9) (R : Hp) (l6 W D Y) (h5 : OS 55 (OT.fr j7) b.w (sv W l6 D) l6 Y) (E) (hm : q3c l6 = some E):
 v8 Tryz.prog 32 [sv W l6 D, .func (.func 33) #[] #[]] b ((Y ++ R)) (fun v b' hp' => ∃ aB aC Z, sv aB E aC = v ∧ (Z ++ R) = hp' ∧ OS 55 (OT.fr j7) b'.w (sv aB E aC) E Z) := by
 refine fE 42 Tryz.func32 rfl Tryz.ntmps32 rfl ?_
 unfold q3c at hm
 refine Cr<|aS rfl<|Te<|Cr<|mV rfl<|mV rfl ?_
 obtain ⟨aW, ak, hm⟩ := bS hm
 refine tD (uW _ z4F rfl (fun w ho => q8A _ [] l6 W D (OS.now (o := (OT.fr j7)) (l := l6) (hs := Y) h5 ho (Kb _ _)) aW ak) (fun _ _ _ h => h.2.symm)) ?_
 rintro _ _ ⟨⟨_, rfl, _⟩, rfl⟩
 refine aS rfl<|Te<|Cs<|Cr<|mV rfl<|tS (q1 rfl rfl)<|Te<|cI hm rfl (fun hm => ?_) fun hm => ?_
 refine Cr<|mV rfl<|aS rfl<|Te<|Ct<|Xr ?_
 obtain rfl := o1 hm
 exact rO ⟨W, D, Y, rfl, rfl, h5⟩ lr
 refine Ck<|Xn ?_
 obtain ⟨⟨F, e⟩, aE, aF⟩ := bS hm
 refine Cj (fun aa e' hp' => ∃ s, [(0, sv W e D), (5, iv F)] = e' ∧ (s ++ R) = hp' ∧ b.Le aa ∧ OS 55 (OT.fr j7) aa.w (sv W e D) e s ∧ e.length = l6.length) ?_ ?_
 have hm := aE
 refine Cr<|mV rfl ?_
 obtain ⟨_, ab, hm⟩ := bS hm
 have ab := (kS ab).2
 refine tS (sa rfl rfl ab)<|aS rfl<|Te<|Cb<|lL (q5U fun t x d => fun n e' hp' => ∃ c, [(0, sv W d D), (1, .func (.func 33) #[] #[]), (5, iv t), (6, iv x)] = e' ∧ (c ++ R) = hp' ∧ b.Le n ∧ OS 55 (OT.fr j7) n.w (sv W d D) d c ∧ d.length = l6.length) hm ⟨Y, rfl, rfl, lr, h5, rfl⟩ ?_
 rintro ⟨t, x, d⟩ n _ _ bb ⟨c, rfl, rfl, q, g, k⟩ m X
 unfold q2T at m
 have hm := q6j m
 refine Cs<|Cr<|mV rfl<|mV rfl<|tS (sE rfl q5x)<|tS (q3 rfl rfl)<|Te<|cI hm rfl (fun hm => ?_) fun hm => ?_
 refine Ck<|Xn ?_
 obtain ⟨⟨aG, p⟩, al, am⟩ := bS hm
 refine Cj (fun y e' hp' => ∃ f, [(0, sv W p D), (1, .func (.func 33) #[] #[]), (5, iv aG), (6, iv x)] = e' ∧ (f ++ R) = hp' ∧ n.Le y ∧ OS 55 (OT.fr j7) y.w (sv W p D) p f ∧ p.length = l6.length) ?_ ?_
 have hm := al
 refine Cb<|Cr<|mV rfl<|mV rfl ?_
 obtain ⟨a, aH, hm⟩ := bS hm
 obtain ⟨aI, an, ao⟩ := iS aH
 obtain ⟨a0, a1, bc, bd, a2, aq, ac, G, ad, a3, aX⟩ := OS.get (sz := 4) rfl (by decide) g ao
 obtain ⟨⟨_, _, rfl, rfl, ⟨_, _, rfl, rfl, ⟨_, _, rfl, rfl, rfl⟩⟩⟩, rfl⟩ := aq
 refine tS (sI aI rfl rfl an ad G q5x)<|tS (J6 (vs := [iv a.Kind, iv a.Place, iv a.Position, iv a.At]) 4 rfl P7 G rfl (fun w ho j u hu => ac w _ ho (Kb _ _) j u hu))<|tD (uA [iv 0, iv 0, iv 0, iv 0] q7I rfl) ?_
 rintro _ _ ⟨be, rfl, rfl⟩
 refine tD (uN (vs := [_, _, _, _]) 0 4 rfl rfl rfl z1G rfl (mc rfl (mc rfl (mc rfl (mc rfl mn)))) rfl (by simp)) ?_
 rintro _ _ rfl
 refine Te<|Cr<|mV rfl<|tS (sD (vs := [_, _, _, _]) 0 4 rfl P7 rfl rfl rfl) ?_
 obtain ⟨aJ, ae, hm⟩ := bS hm
 refine tD (q0K #[] #[] [.agg #[iv a.Kind, iv a.Place, iv a.Position, iv a.At]] rfl j2E rfl (fun w ho => q7p _ [] a aJ ae) (fun _ _ _ h => h.2.symm)) ?_
 rintro _ _ ⟨⟨_, rfl, _⟩, rfl⟩
 refine tS (sn2 rfl)<|Te<|cM hm rfl (fun hm => ?_) fun hm => ?_
 refine Cr<|mV rfl<|mV rfl<|tS (sD (vs := [_, _, _, _]) 0 4 rfl P7 rfl rfl rfl) ?_
 obtain ⟨bf, aK, hm⟩ := bS hm
 obtain ⟨aL, H, I⟩ := iS aK
 obtain ⟨a4, a5, bg, bh, a6, ar, aY, au, af, a7, aZ⟩ := OS.get (sz := 4) rfl (by decide) g I
 obtain ⟨⟨_, _, rfl, rfl, ⟨_, _, rfl, rfl, ⟨_, _, rfl, rfl, rfl⟩⟩⟩, rfl⟩ := ar
 refine tS (sI aL rfl rfl H af au q5x)<|tD (uP H (sz := 4) (a' := a) rfl [_] R 0 4 [iv a.Kind, iv a.Place, iv a.Position, iv a.At] rfl g I rfl rfl rfl z1G rfl (mc rfl (mc rfl (mc rfl (mc rfl mn)))) (fun cs hsj hh => by obtain ⟨⟨_, _, rfl, rfl, ⟨_, _, rfl, rfl, ⟨_, _, rfl, rfl, rfl⟩⟩⟩, rfl⟩ := hh; exact ⟨by first | decide | exact Nat.le_refl _, ⟨[iv a.Kind], _, rfl, rfl, ⟨[iv a.Place], _, rfl, rfl, ⟨[iv a.Position], _, rfl, rfl, rfl⟩⟩⟩, rfl⟩)) ?_
 rintro _ _ ⟨av, rfl, aM⟩
 refine Tr 0 rfl (v' := .slice W (put d t a).length D) (by simp only [Q4])<|Te<|Cg<|mV rfl ?_
 obtain ⟨_, z, hm⟩ := bS hm
 have z := (kS z).2
 refine tS (sa rfl rfl z)<|aS rfl<|Tn<|Xm ?_
 obtain ⟨rfl, rfl⟩ := V9 hm
 exact jJ ⟨av, rfl, rfl, lr, aM, ((Q4 _ _ _).trans k)⟩
 refine Ck<|Xm ?_
 obtain ⟨rfl, rfl⟩ := V9 hm
 exact jJ ⟨c, rfl, rfl, lr, g, k⟩
 rintro y _ _ ⟨f, rfl, rfl, ag, aN, ah⟩
 have hm := H0 am
 refine Cg<|mV rfl ?_
 obtain ⟨_, A, hm⟩ := bS hm
 have A := (kS A).2
 refine tS (sa rfl rfl A)<|aS rfl<|Tn ?_
 exact jM hm ⟨f, rfl, rfl, ((q.trans ag)), aN, ah⟩
 refine Ce<|Xe<|Xe<|Xo ?_
 have hm := congrArg some (X _ (Kd hm).symm)
 obtain ⟨rfl, rfl⟩ := V9 hm
 exact jJ ⟨c, rfl, rfl, q, g, k⟩
 rintro aa _ _ ⟨s, rfl, rfl, aw, aD, a8⟩
 have hm := H0 aF
 refine Cr<|mV rfl<|mV rfl ?_
 obtain ⟨aO, aP, hm⟩ := bS hm
 obtain ⟨B, aQ, J, a9, K, L, O⟩ := q6B aP
 have aR := OS.lc aD
 refine tS (O ▸ z0v (l := e) B aQ rfl (.inr ⟨_, _, _, rfl, rfl, J⟩) (.inl ⟨rfl, by omega⟩) K L aR q5x) ?_
 have ax : (aO).length = e.length - B := by rw [O]; simp only [List.length_drop, List.length_take]; omega
 refine tD (j6D (r := j7) (i := F) [] R [iv 0, iv 0, iv 0, iv 0] ((⟨0, 0, 0, 0⟩ : q8) : q8) B rfl aD J (Nat.le_trans K L) ax rfl q5x j1q rfl rfl rfl ⟨[iv 0], _, rfl, rfl, ⟨[iv 0], _, rfl, rfl, ⟨[iv 0], _, rfl, rfl, rfl⟩⟩⟩) ?_
 rintro _ _ ⟨ay, rfl, rfl, ai⟩
 refine Tr 0 rfl (v' := .slice W (j3P e F ((⟨0, 0, 0, 0⟩ : q8) : q8)).length D) (by simp only [z5S])<|Te<|Cr<|mV rfl<|mV rfl ?_
 obtain ⟨bi, aT, hm⟩ := bS hm
 obtain ⟨C, aU, ba, az, S, T, U⟩ := q6B aT
 have aV := OS.lc ai
 refine tS (U ▸ z0v (l := j3P e F ((⟨0, 0, 0, 0⟩ : q8) : q8)) C aU rfl (.inl ⟨rfl, by omega⟩) (.inr ⟨_, _, _, rfl, rfl, az⟩) S T aV q5x) ?_
 obtain ⟨V, aA, aj⟩ := OS.sub (sz := 4) rfl ai S T
 rw [← U] at aj
 refine z0r [] ay V R rfl aA<|aS rfl<|Te<|Ct ?_
 obtain rfl := o1 hm
 exact rO ⟨(z2S W D C 4), (D - C), V, rfl, rfl, aj⟩ aw
theorem q9M (b : k9) (R : Hp) (q4 : (Option Int)) (K : q8) (l6) (ads : Int → Nat) (k) (h3 : OAr 90 j8 ads b.w l6 k) (s) (hm : q0N q4 K l6 = some s):
 v8 Tryz.prog 89 [kv ads q4, .agg #[iv K.Kind, iv K.Place, iv K.Position, iv K.At]] b ((k ++ R)) (fun v b' hp' => bv s = v ∧ (k ++ R) = hp') := by
 refine fE 31 Tryz.func89 rfl Tryz.ntmps89 rfl ?_
 unfold q0N at hm
 refine Cr<|tD (uB _ rfl rfl) ?_
 rintro _ _ ⟨au, rfl, rfl⟩
 refine aS rfl<|Te<|Cs<|Cr<|tS (sF rfl q0H)<|tS (sL 0 rfl Q8 rfl rfl)<|Te<|Cb<|Cr<|tS (q1 rfl rfl)<|aS rfl<|Te<|cI hm rfl (fun hm => ?_) fun hm => ?_
 refine Cr<|mV rfl ?_
 obtain ⟨t, u, hm⟩ := bS hm
 obtain ⟨av, L, hm⟩ := bS hm
 refine Tr 0 rfl (v' := .pointer (some ⟨(ads t), 0, none⟩)) (by rw [u]; rfl)<|Tr 9 rfl (v' := .pointer (some ⟨(ads t), 0, none⟩)) (by rw [u]; rfl) ?_
 obtain ⟨ad, ae, c, l, z, hf142⟩ := OAr.take h3 L
 obtain ⟨aw, ax, ay, az, aA, aB, d, aC, aD, e, rfl, aE, aF, aG, aH, rfl⟩ := z
 refine q2B [_] k c d e R rfl l<|tS (sN rfl)<|tS (sF rfl z3n)<|tS (sL 0 rfl q6p rfl rfl)<|aS rfl<|Te<|Ct<|Xb<|Xr<|G6 d e c<|G6 c d e<|G6 e c d<|q3I [_] k c d e R rfl l ?_
 obtain rfl := o1 hm
 exact rO ⟨rfl, rfl⟩ lr
 refine Cr<|tS (q1 rfl rfl)<|aS rfl<|Te<|cI hm rfl (fun hm => ?_) fun hm => ?_
 refine Cr<|mV rfl ?_
 obtain ⟨x, y, hm⟩ := bS hm
 obtain ⟨aI, O, hm⟩ := bS hm
 refine Tr 0 rfl (v' := .pointer (some ⟨(ads x), 0, none⟩)) (by rw [y]; rfl)<|Tr 15 rfl (v' := .pointer (some ⟨(ads x), 0, none⟩)) (by rw [y]; rfl) ?_
 obtain ⟨af, ag, f, m, A, hf167⟩ := OAr.take h3 O
 obtain ⟨aJ, aK, aL, aM, aN, aO, g, aP, aQ, h, rfl, aR, aT, S, aU, rfl⟩ := A
 refine q2B [_] k f g h R rfl m<|tS (sN rfl)<|tS (sF rfl q3d)<|tS (sL 0 rfl q5C rfl rfl) ?_
 obtain ⟨aV, T, hm⟩ := bS hm
 obtain ⟨U, B, C⟩ := iS T
 obtain ⟨ah, ai, aW, aX, aj, D, o, E, p, ak, ab⟩ := OS.get (sz := 1) rfl (by decide) S C
 obtain ⟨rfl, rfl⟩ := D
 refine tS (sI U rfl rfl B p E z0D)<|tS (Q3 rfl q6p (fun w ho => o w _ ho (.cons _ (.cons _ (Kb _ _))) 0 _ rfl))<|tS (sn2 rfl)<|aS rfl<|Te<|Ct<|Xb<|Xr<|G6 g h f<|G6 f g h<|G6 h f g<|q3I [_] k f g h R rfl m ?_
 obtain rfl := o1 hm
 exact rO ⟨rfl, rfl⟩ lr
 refine Ck<|Xm<|Xn<|Cs ?_
 obtain ⟨V, W, hm⟩ := bS hm
 obtain ⟨aY, X, hm⟩ := bS hm
 refine z2B 0 rfl (v' := .pointer (some ⟨(ads V), 0, none⟩)) (by rw [W]; rfl) ?_
 obtain ⟨al, am, i, n, F, hf207⟩ := OAr.take h3 X
 obtain ⟨aZ, a0, a1, a2, a3, a4, a, a5, a6, j, rfl, a7, a8, a9, Y, rfl⟩ := F
 refine z1g [_] k i a j R rfl n ?_
 obtain ⟨ba, Z, hm⟩ := bS hm
 refine Di mixed (.refl _)<|E0 0 rfl (sM rfl)<|E0 1 rfl (sN rfl)<|E0 2 rfl (sF rfl q9k)<|Es 3 rfl (sL 0 rfl q5C rfl rfl)<|E0 4 rfl (sF rfl j3J)<|Es 5 rfl (sL 1 rfl Q8 rfl rfl) ?_
 obtain ⟨aa, G, H⟩ := iS Z
 obtain ⟨an, ao, bb, bc, aq, I, q, J, r, ar, ac⟩ := OS.get (sz := 1) rfl (by decide) Y H
 obtain ⟨rfl, rfl⟩ := I
 refine E0 6 rfl (sI aa rfl rfl G r J z0D)<|Es 7 rfl (Q3 rfl q6p (fun w ho => q w _ ho (.cons _ (.cons _ (ss a (Kb _ _)))) 0 _ rfl))<|E0 8 rfl (sn2 rfl)<|E0 9 rfl (sA rfl)<|Eo<|Dd (by kernel_rfl)<|Xn<|Ct<|G6 a j i<|G6 i a j<|G6 j i a<|q3I [_] k i a j R rfl n ?_
 obtain rfl := o1 hm
 exact rO ⟨rfl, rfl⟩ lr
theorem q4A (b : k9) (R : Hp) (q4 : (Option Int)) (l5) (ads : Int → Nat) (e) (h3 : OAr 90 j8 ads b.w l5 e) (q) (hm : G8 q4 l5 = some q):
 v8 Tryz.prog 51 [kv ads q4] b ((e ++ R)) (fun v b' hp' => ∃ G H y, sv G q H = v ∧ (y ++ (e ++ R)) = hp' ∧ OS 55 (OT.fr j7) b'.w (sv G q H) q y) := by
 refine fE 24 Tryz.func51 rfl Tryz.ntmps51 rfl ?_
 unfold G8 at hm
 refine Cr<|aS rfl<|Te<|Cr<|aS rfl<|Te<|Cs<|Cr<|mV rfl ?_
 obtain ⟨s, I, hm⟩ := bS hm
 obtain ⟨z, X, hm⟩ := bS hm
 refine Tr 0 rfl (v' := .pointer (some ⟨(ads s), 0, none⟩)) (by rw [I]; rfl)<|Tr 6 rfl (v' := .pointer (some ⟨(ads s), 0, none⟩)) (by rw [I]; rfl) ?_
 obtain ⟨af, ag, g, A, O, hf131⟩ := OAr.take h3 X
 obtain ⟨al, am, Y, Z, an, ao, h, aq, ar, k, rfl, au, J, av, aw, rfl⟩ := O
 refine q2B [] e g h k R rfl A<|tS (sN rfl)<|tS (sF rfl j3I)<|tS (sL 0 rfl z4e rfl rfl)<|tS (sE rfl q5x)<|mV rfl<|Te<|Cb<|j3R h k g<|j3R g h k<|j3R k g h<|z4J [] e g h k R rfl A ?_
 have ah : z.needs.length ≤ 9223372036854775807 := (FZ.bd J)
 obtain ⟨n, S, T⟩ := bS hm
 refine lS (fun K => fun n => fun t e' hp' => ∃ o p c, [(0, kv ads (some s)), (3, sv o n p), (9, sv Y z.needs Z), (10, iv ((z.needs.length : Int))), (11, iv ((K : Int)))] = e' ∧ (c ++ (e ++ R)) = hp' ∧ b.Le t ∧ OS 55 (OT.fr j7) t.w (sv o n p) n c) S ⟨none, 0, [], rfl, rfl, lr, OS.nil⟩ ?_ ?_
 rintro K n t _ _ ai aa ⟨o, p, c, rfl, rfl, d, x⟩ m
 unfold q0t at m
 have hm := m
 refine Cr<|tS (lT rfl rfl (by omega))<|Te<|Cs<|k7 rfl<|Ck<|Xn<|Cs<|Cb<|Cr ?_
 obtain ⟨a, ab, aj, U, ak, V, D, B, E, hm⟩ := bF (sz := 4) hm (J.le d)
 obtain ⟨_, _, rfl, rfl, ⟨_, _, rfl, rfl, ⟨_, _, rfl, rfl, rfl⟩⟩⟩ := V
 refine tS (sI ab rfl rfl U E B q5x)<|tS (sP (vs := [iv a.Kind, iv a.Place, iv a.Position, iv a.At]) 4 rfl P7 B rfl (fun j u hu => D j u hu))<|tD (uA [iv 0, iv 0, iv 0, iv 0] q7I rfl) ?_
 rintro _ _ ⟨ax, rfl, rfl⟩
 refine tD (uN (vs := [_, _, _, _]) 0 4 rfl rfl rfl z1G rfl (mc rfl (mc rfl (mc rfl (mc rfl mn)))) rfl (by simp)) ?_
 rintro _ _ rfl
 refine Te<|Cr<|mV rfl<|tS (sD (vs := [_, _, _, _]) 0 4 rfl P7 rfl rfl rfl) ?_
 obtain ⟨ac, F, hm⟩ := bS hm
 refine j6F c e<|q3Q [] [_] e (c ++ R) rfl<|Tg _ rfl j5o rfl (q9M _ _ (some s) a l5 ads e (h3.le d) ac F) ?_
 rintro _ ay _ f ⟨rfl, rfl⟩
 refine q3x [] [_] e (c ++ R) rfl<|Te<|cB hm rfl (fun hm => ?_) fun hm => ?_
 refine Cg<|mV rfl<|tS (sD (vs := [_, _, _, _]) 0 4 rfl P7 rfl rfl rfl)<|tD (V3 (el := 55) [(0, .agg #[iv a.Kind, iv a.Place, iv a.Position, iv a.At])] [iv a.Kind, iv a.Place, iv a.Position, iv a.At] rfl (fun _ => by kernel_rfl)) ?_
 rintro _ _ ⟨az, rfl, rfl⟩
 obtain ⟨_, C, hm⟩ := bS hm
 have C := W9 C
 refine z1E e c<|tD (uQ (r := j7) (l := n) [_, _] (e ++ R) [[iv a.Kind, iv a.Place, iv a.Position, iv a.At]] [a] rfl (by decide) q5x j1q rfl rfl rfl rfl (x.le f) rfl (fun w ho => Rd.own (i := 0) ho rfl) ⟨⟨[iv a.Kind], _, rfl, rfl, ⟨[iv a.Place], _, rfl, rfl, ⟨[iv a.Position], _, rfl, rfl, rfl⟩⟩⟩, trivial⟩ C) ?_
 rintro _ _ ⟨W, rfl, L⟩
 obtain ⟨ad, ae, rfl, _⟩ := L.form
 refine aS rfl<|Tn<|Xm<|Xn<|Cg<|tS (sa rfl rfl (by omega))<|mV rfl<|Tn ?_
 obtain rfl := o1 hm
 exact jS ⟨ad, ae, W, rfl, rfl, ((d.trans f)), L⟩
 refine Ck<|Xm<|Xn<|Cg<|tS (sa rfl rfl (by omega))<|mV rfl<|Tn ?_
 obtain rfl := o1 hm
 exact jS ⟨o, p, c, rfl, rfl, ((d.trans f)), (x.le f)⟩
 rintro t _ _ ⟨o, p, c, rfl, rfl, d, x⟩
 have hm := T
 refine Cr<|tS (lF rfl rfl (by omega))<|Te<|Cs<|w9 rfl<|Ce<|Xe<|Xe<|Xo<|Xn<|Cr<|mV rfl<|aS rfl<|Te<|Ct ?_
 obtain rfl := o1 hm
 exact rO ⟨o, p, c, rfl, rfl, x⟩ d
theorem q9q (b : k9) (R : Hp) (c : q8) (e f g i j d) (hm : q1W c e f g i = some d):
 v8 Tryz.prog 75 [.agg #[iv c.Kind, iv c.Place, iv c.Position, iv c.At], pb j] b ((j, Cl 55 [iv e, iv f, iv g, iv i]) :: R) (fun v b' hp' => bv d = v ∧ (j, Cl 55 [iv e, iv f, iv g, iv i]) :: R = hp') := by
 refine fE 7 Tryz.func75 rfl Tryz.ntmps75 rfl ?_
 unfold q1W at hm
 refine Cr<|tD (uB _ rfl rfl) ?_
 rintro _ _ ⟨l, rfl, rfl⟩
 refine aS rfl<|Te<|Cr<|tS (sD (vs := [_, _, _, _]) 0 4 rfl P7 rfl rfl rfl)<|tS (sD (vs := [_, _, _, _]) 1 4 rfl P7 rfl rfl rfl) ?_
 obtain ⟨k, a, hm⟩ := bS hm
 refine tD (uW _ j2C rfl (fun w ho => z2E _ [] c (⟨e, f, g, i⟩ : q8) k a) (fun _ _ _ h => h.2.symm)) ?_
 rintro _ _ ⟨⟨_, rfl, _⟩, rfl⟩
 refine aS rfl<|Te<|Ct ?_
 obtain rfl := o1 hm
 exact rO ⟨rfl, rfl⟩ lr
theorem q8z (b : k9) (R : Hp) (x y z h e p I J l) (U : OS 55 (OT.fr j7) b.w (sv I e J) e l) (A) (hm : q2G x y z h e = some A):
 v8 Tryz.prog 74 [sv I e J, .func (.func 75) #[] #[pb p]] b ((p, Cl 55 [iv x, iv y, iv z, iv h]) :: (l ++ R)) (fun v b' hp' => iv A = v ∧ (p, Cl 55 [iv x, iv y, iv z, iv h]) :: (l ++ R) = hp') := by
 refine fE 19 Tryz.func74 rfl Tryz.ntmps74 rfl ?_
 unfold q2G at hm
 refine Cr<|aS rfl<|Te<|Cs<|Cr<|mV rfl<|tS (sE rfl q5x)<|mV rfl<|Te<|Cb ?_
 have V : e.length ≤ 9223372036854775807 := (OS.len U)
 obtain ⟨ab, B, f⟩ := bS hm
 refine lF (fun C => fun _ => fun q e' hp' => [(0, sv I e J), (1, .func (.func 75) #[] #[pb p]), (7, iv ((e.length : Int))), (8, iv ((C : Int)))] = e' ∧ (p, Cl 55 [iv x, iv y, iv z, iv h]) :: (l ++ R) = hp' ∧ b.Le q) B ⟨rfl, rfl, lr⟩ ?_ ?_
 rintro C _ q _ _ W G ⟨rfl, rfl, a⟩ c i
 unfold q0V at c
 have hm := c
 refine Cr<|tS (lT rfl rfl (by omega))<|Te<|Cs<|k7 rfl<|Ck<|Xn<|Cs<|Cb<|Cr<|mV rfl<|aS rfl<|Te<|Cr<|mV rfl<|mV rfl<|mV rfl ?_
 obtain ⟨d, K, hm⟩ := bS hm
 obtain ⟨L, D, E⟩ := iS K
 obtain ⟨X, O, Y, Z, S, r, m, k, n, T, H⟩ := OS.get (sz := 4) rfl (by decide) (U.le a) E
 obtain ⟨⟨_, _, rfl, rfl, ⟨_, _, rfl, rfl, ⟨_, _, rfl, rfl, rfl⟩⟩⟩, rfl⟩ := r
 refine tS (sI L rfl rfl D n k q5x)<|tS (J6 (vs := [iv d.Kind, iv d.Place, iv d.Position, iv d.At]) 4 rfl P7 k rfl (fun w ho j u hu => m w _ ho (.cons _ (Kb _ _)) j u hu)) ?_
 obtain ⟨F, o, hm⟩ := bS hm
 refine Tv #[] #[pb p] [.agg #[iv d.Kind, iv d.Place, iv d.Position, iv d.At]] rfl rfl j5t rfl (q9q _ _ d x y z h p F o) ?_
 rintro _ aa _ g ⟨rfl, rfl⟩
 refine Te<|cB hm rfl (fun hm => ?_) fun hm => ?_
 refine Cr<|mV rfl<|aS rfl<|Te<|Ct<|Xb<|Xr<|Xr<|Xb<|Xr ?_
 have s := i _ (Kd hm).symm
 rw [s] at f
 have hm := V8 f
 obtain rfl := o1 hm
 exact rO ⟨rfl, rfl⟩ (a.trans g)
 refine Ck<|Xm<|Xn<|Cg<|tS (sa rfl rfl (by omega))<|mV rfl<|Tn ?_
 exact jM hm ⟨rfl, rfl, ((a.trans g))⟩
 rintro _ q _ _ ⟨rfl, rfl, a⟩ t
 rw [t] at f
 have hm := G0 f
 refine Cr<|tS (lF rfl rfl (by omega))<|Te<|Cs<|w9 rfl<|Ce<|Xe<|Xe<|Xo<|Xn<|Cr<|aS rfl<|Te<|Ct ?_
 obtain rfl := o1 hm
 exact rO ⟨rfl, rfl⟩ a
theorem q6M (b : k9) (R : Hp) (h i j d c k l m a) (o : OS 55 (OT.fr j7) b.w (sv l c m) c a) (g) (hm : q0d h i j d c = some g):
 v8 Tryz.prog 65 [sv l c m, .func (.func 75) #[] #[pb k]] b ((k, Cl 55 [iv h, iv i, iv j, iv d]) :: (a ++ R)) (fun v b' hp' => bv g = v ∧ (k, Cl 55 [iv h, iv i, iv j, iv d]) :: (a ++ R) = hp') := by
 refine fE 9 Tryz.func65 rfl Tryz.ntmps65 rfl ?_
 unfold q0d at hm
 refine Cr<|aS rfl<|Te<|Cr<|mV rfl<|mV rfl ?_
 obtain ⟨n, e, hm⟩ := bS hm
 refine q3Q [_] [] a R rfl<|Tg _ rfl z4F rfl (q8z _ _ h i j d c k l m a o n e) ?_
 rintro _ p _ f ⟨rfl, rfl⟩
 refine q3x [_] [] a R rfl<|tS (q6 rfl rfl)<|aS rfl<|Te<|Ct ?_
 obtain rfl := o1 hm
 exact rO ⟨rfl, rfl⟩ f
theorem z1n (b : k9) (R : Hp) (ab U V W X Y Z aa H I J bo bp) (ads : Int → Nat) (x ac ad ae af ag ah ai aj ak al am an ao aq A3 c4 f A8 c9 g ar au d K aK e) (cq : FZ RT.str b.w ac ad U) (cr : FZ j4 b.w ae af V) (cs : FZ Q0 b.w ag ah W) (ct : FZ j6 b.w ai aj X) (cu : FZ Q1 b.w ak al Y) (bX : FZ Z3 b.w am an Z) (cv : FZ (RT.list j7) b.w ao aq aa) (h5 : OS 55 (OT.fr j7) b.w (sv A3 H c4) H f) (cw : OS 80 (OT.fr Q5) b.w (sv A8 I c9) I g) (cx : OS 94 (OT.fr Q7) b.w (sv ar J au) J d) (bY : OM rI (OT.fr (RT.key ads)) false false b.w K bo aK) (bK : OAr 90 j8 ads b.w bp e) (aL aM) (hm : q1E ab U V W X Y Z aa H I J bo bp = some (aL, aM)):
 v8 Tryz.prog 34 [pb x, iv ab, sv A3 H c4] b ((x, Cl 78 [sv ac U ad, sv ae V af, sv ag W ah, sv ai X aj, sv ak Y al, sv am Z an, sv ao aa aq, sv A8 I c9, sv ar J au, .map (some K)]) :: (f ++ (g ++ (d ++ (aK ++ (e ++ R)))))) (fun v b' hp' => ∃ aB, bv aL = v ∧ (x, Cl 78 [sv ac U ad, sv ae V af, sv ag W ah, sv ai X aj, sv ak Y al, sv am Z an, sv ao aa aq, sv A8 I c9, sv ar J au, .map (some K)]) :: (f ++ (g ++ (d ++ (aB ++ (e ++ R))))) = hp' ∧ OM rI (OT.fr (RT.key ads)) false false b'.w K aM aB) := by
 refine fE 50 Tryz.func34 rfl Tryz.ntmps34 rfl ?_
 unfold q1E at hm
 refine Cr<|aS rfl<|Te ?_
 obtain ⟨bq, a5, y⟩ := bS hm
 refine Cj (fun av e' hp' => ∃ (aw : (List (Int × (Option Int)))), ∃ z, [] = e' ∧ (x, Cl 78 [sv ac U ad, sv ae V af, sv ag W ah, sv ai X aj, sv ak Y al, sv am Z an, sv ao aa aq, sv A8 I c9, sv ar J au, .map (some K)]) :: (f ++ (g ++ (d ++ (z ++ (e ++ R))))) = hp' ∧ b.Le av ∧ OM rI (OT.fr (RT.key ads)) false false av.w K aw z ∧ bq = .inl aw) ?_ ?_
 have hm := a5
 refine Cr<|mV rfl<|tS (sN rfl)<|tS (sF rfl q3f)<|tS (sL 0 rfl q8X rfl rfl)<|K6 f g d aK<|tD (z0m [_] (f ++ (g ++ (d ++ (e ++ R)))) rfl bY q5Z rfl) ?_
 rintro _ _ ⟨D, q, rfl, rfl, br⟩
 refine Te<|Cb<|X1 q f g d e<|X1 e q f g d<|X1 d e q f g<|X1 g d e q f<|X1 f g d e q ?_
 obtain ⟨bZ, a6, A⟩ := bS hm
 refine z4H (fun _ => fun aN e' hp' => [(0, pb x), (1, iv ab), (2, sv A3 H c4), (15, pb D)] = e' ∧ (x, Cl 78 [sv ac U ad, sv ae V af, sv ag W ah, sv ai X aj, sv ak Y al, sv am Z an, sv ao aa aq, sv A8 I c9, sv ar J au, .map (some K)]) :: (f ++ (g ++ (d ++ (e ++ R)))) = hp' ∧ b.Le aN) a6 br (e' := [(0, pb x), (1, iv ab), (2, sv A3 H c4), (15, pb D)]) ⟨rfl, rfl, rfl, rfl, trivial⟩ [_] (f ++ (g ++ (d ++ (e ++ R)))) rfl (.refl _) ⟨rfl, rfl, lr⟩ ?_
 rintro _ b0 aN _ _ aC ⟨rfl, rfl, k⟩ bL aO hd3183 hall3184
 refine j0c [_] aC (f ++ (g ++ (d ++ (e ++ R)))) ?_ rfl
 refine Cr<|z3R [_] (f ++ (g ++ (d ++ (e ++ R)))) rfl rfl rfl aO (fun hnil3186 => ?_) (fun E b1 b2 b3 a hperm3192 a7 aP => ?_)
 obtain ⟨aD, aH, bs⟩ := MIt.done aO
 refine z0r [_] aC aD (f ++ (g ++ (d ++ (e ++ R)))) rfl aH ?_
 have hend3198 := hd3183 hnil3186
 refine tS (w7 rfl rfl)<|Te<|Cs<|w9 rfl<|Ce<|Xe<|Xe<|Xo ?_
 rw [hend3198] at A
 have hm := G0 A
 have hq := (Kd hm).symm
 exact jJ ⟨bo, aD, rfl, rfl, k, bs, hq⟩
 obtain ⟨b4, F, aI⟩ := hall3184 _ _ hperm3192
 have s := F
 unfold q0k at s
 have hm := s
 refine tS (w7 rfl rfl)<|Te<|Cs<|k7 rfl<|Ck<|Xn<|Cb<|Cr ?_
 obtain ⟨aQ, aR, L, O, a8⟩ := MIx.entry Tryz.prog a7
 obtain rfl : aQ = iv E.1 := by have L : [aQ] = [iv E.1] := L; injection L
 obtain rfl : aR = kv ads E.2 := by have O : [aR] = [kv ads E.2] := O; injection O
 refine tS (a8 (.cons _ (Kb _ _)) rfl)<|tS (w7 rfl rfl)<|aS rfl<|Te<|Cr<|mV rfl ?_
 obtain ⟨r, aT, hm⟩ := bS hm
 refine P4 a f g d e<|q3Q [] [_] e (a ++ (f ++ (g ++ (d ++ R)))) rfl<|Tg _ rfl z9R rfl (q4A _ _ E.2 bp ads e (bK.le k) r aT) ?_
 rintro _ bt _ l ⟨aU, aV, c, rfl, rfl, aW⟩
 refine z8s [] [_] c e (a ++ (f ++ (g ++ (d ++ R)))) rfl<|tS (sE rfl q5x)<|mV rfl<|Te<|Cb ?_
 have bN : r.length ≤ 9223372036854775807 := (OS.len aW)
 refine j7g c e<|j1O e c a f g d<|j1O d e c a f g<|F9 g d e c<|X1 c g d e a<|j1O a c g d e f ?_
 obtain ⟨b5, a9, B⟩ := bS hm
 refine lF (fun ax => fun ay => fun S e' hp' => [(0, pb x), (1, iv ab), (2, sv A3 H c4), (8, kv ads ay), (15, pb D), (21, sv aU r aV), (22, iv ((r.length : Int))), (23, iv ((ax : Int)))] = e' ∧ (x, Cl 78 [sv ac U ad, sv ae V af, sv ag W ah, sv ai X aj, sv ak Y al, sv am Z an, sv ao aa aq, sv A8 I c9, sv ar J au, .map (some K)]) :: (f ++ (a ++ (c ++ (g ++ (d ++ (e ++ R)))))) = hp' ∧ bt.Le S) a9 ⟨rfl, rfl, lr⟩ ?_ ?_
 rintro ax ay S _ _ bO bJ ⟨rfl, rfl, h⟩ t az
 unfold K8 at t
 have hm := t
 refine Cr<|tS (lT rfl rfl (by omega))<|Te<|Cs<|k7 rfl<|Ck<|Xn<|Cs<|Cb<|Cr ?_
 obtain ⟨i, bu, hm⟩ := bS hm
 obtain ⟨bw, ba, bb⟩ := iS bu
 obtain ⟨bP, bQ, b6, b7, bR, bc, aX, aE, aY, bT, bM⟩ := OS.get (sz := 4) rfl (by decide) (aW.le h) bb
 obtain ⟨⟨_, _, rfl, rfl, ⟨_, _, rfl, rfl, ⟨_, _, rfl, rfl, rfl⟩⟩⟩, rfl⟩ := bc
 refine tS (sI bw rfl rfl ba aY aE q5x)<|tS (J6 (vs := [iv i.Kind, iv i.Place, iv i.Position, iv i.At]) 4 rfl P7 aE rfl (fun w ho j u hu => aX w _ ho (.cons _ (ss f (ss a (Kb _ _)))) j u hu))<|tD (uA [iv 0, iv 0, iv 0, iv 0] q7I rfl) ?_
 rintro _ _ ⟨aA, rfl, rfl⟩
 refine tD (uN (vs := [_, _, _, _]) 0 4 rfl rfl rfl z1G rfl (mc rfl (mc rfl (mc rfl (mc rfl mn)))) rfl (by simp)) ?_
 rintro _ _ rfl
 refine Te<|Cs ?_
 obtain ⟨⟨bx, bz⟩, bd, be⟩ := bS hm
 refine Cj (fun aZ e' hp' => [(0, pb x), (1, iv ab), (2, sv A3 H c4), (8, kv ads bx), (10, pb aA), (15, pb D), (21, sv aU r aV), (22, iv ((r.length : Int))), (23, iv ((ax : Int))), (45, bv bz)] = e' ∧ (x, Cl 78 [sv ac U ad, sv ae V af, sv ag W ah, sv ai X aj, sv ak Y al, sv am Z an, sv ao aa aq, sv A8 I c9, sv ar J au, .map (some K)]) :: (aA, Cl 55 [iv i.Kind, iv i.Place, iv i.Position, iv i.At]) :: (f ++ (a ++ (c ++ (g ++ (d ++ (e ++ R)))))) = hp' ∧ S.Le aZ) ?_ ?_
 have hm := bd
 obtain ⟨bA, bB, hm⟩ := bS hm
 obtain ⟨b8, bC, hm⟩ := bS hm
 refine z2B 8 rfl (v' := .pointer (some ⟨(ads bA), 0, none⟩)) (by rw [bB]; rfl) ?_
 have zz := k.trans (l.trans h)
 obtain ⟨bU, bV, m, T, bf, hf3572⟩ := OAr.take (bK.le zz) bC
 obtain ⟨b9, ca, cb, cc, cd, ce, n, cf, cg, o, rfl, ch, ci, cj, ck, rfl⟩ := bf
 refine j7f f a c g d e<|z1g [_, _] e m n o (f ++ (a ++ (c ++ (g ++ (d ++ R))))) rfl T ?_
 by_cases C : i.Kind = 2
 rw [if_pos C] at hm
 obtain ⟨cl, bD, hm⟩ := bS hm
 refine Di mixed (.refl _)<|E0 0 rfl (sF rfl q0H)<|Es 1 rfl (sL 1 rfl Q8 rfl rfl)<|E0 2 rfl (eT rfl rfl C)<|E0 3 rfl (sM rfl)<|Yz 4 30 rfl (sM rfl)<|Yz 5 30 rfl (sN rfl)<|Yz 6 30 rfl (sF rfl q2O)<|Yz 7 30 rfl (sF rfl q5K)<|Ey 8 30 rfl (sL 0 rfl Q8 rfl rfl)<|Yz 9 30 rfl (sM rfl)<|Yz 10 30 rfl (sN rfl)<|Yz 11 30 rfl (sF rfl z5Q)<|Ey 12 30 rfl (sL 2 rfl z1L rfl rfl)<|Yz 13 30 rfl (sM rfl) ?_
 obtain ⟨bE, bg, bh⟩ := iS bD
 obtain ⟨bW, bi, a0, aF, a1⟩ := FZ.get (sz := 3) rfl (by decide) (bX.le zz) bh
 obtain ⟨_, _, rfl, rfl, ⟨_, _, rfl, rfl, ⟨cm, cn, rfl, co⟩⟩⟩ := bi
 refine Yz 14 30 rfl (sI bE rfl rfl bg a1 aF z5c)<|Yz 15 30 rfl (sQ rfl aF q5L)<|Ey 16 30 rfl (sO rfl Q8 (a0 0 _ rfl))<|Yz 17 30 rfl (q1 rfl rfl)<|E0 18 rfl (pT rfl rfl)<|Eo<|Dd (by kernel_rfl)<|Y9 n o m<|Y9 m n o<|Y9 o m n<|q3I [_, _] e m n o (f ++ (a ++ (c ++ (g ++ (d ++ R))))) rfl T ?_
 obtain ⟨rfl, rfl⟩ := V9 hm
 exact jJ ⟨rfl, rfl, lr⟩
 rw [if_neg C] at hm
 refine Di mixed (.refl _)<|E0 0 rfl (sF rfl q0H)<|Es 1 rfl (sL 1 rfl Q8 rfl rfl)<|E0 2 rfl (eF rfl rfl C)<|E0 3 rfl (sM rfl)<|eN 4 rfl<|eN 5 rfl<|eN 6 rfl<|eN 7 rfl<|eN 8 rfl<|eN 9 rfl<|eN 10 rfl<|eN 11 rfl<|eN 12 rfl<|eN 13 rfl<|eN 14 rfl<|eN 15 rfl<|eN 16 rfl<|eN 17 rfl<|E0 18 rfl (pF rfl rfl)<|Eo<|Dd (by kernel_rfl)<|Y9 n o m<|Y9 m n o<|Y9 o m n<|q3I [_, _] e m n o (f ++ (a ++ (c ++ (g ++ (d ++ R))))) rfl T ?_
 obtain ⟨rfl, rfl⟩ := V9 hm
 exact jJ ⟨rfl, rfl, lr⟩
 rintro aZ _ _ ⟨rfl, rfl, p⟩
 have hm := H0 be
 refine cB hm rfl (fun hm => ?_) fun hm => ?_
 refine Ce<|Xe<|Xo<|Xn<|Cg<|tS (sa rfl rfl (by omega))<|mV rfl<|Tn ?_
 exact jM hm ⟨rfl, rfl, ((h.trans p))⟩
 refine Ck<|Xn<|Cr<|mV rfl<|tS (q2m _ _ rfl rfl) ?_
 obtain ⟨bG, a2, hm⟩ := bS hm
 refine J3 1 rfl<|q3Q [_] [_] f (a ++ (c ++ (g ++ (d ++ (e ++ R))))) rfl<|Tg _ rfl z6Z rfl (q6M _ _ i.Kind i.Place i.Position i.At H aA A3 c4 f (h5.le (k.trans (l.trans (h.trans p)))) bG a2) ?_
 rintro _ cp _ G ⟨rfl, rfl⟩
 refine q3x [_] [_] f (a ++ (c ++ (g ++ (d ++ (e ++ R))))) rfl<|Te<|cB hm rfl (fun hm => ?_) fun hm => ?_
 refine Cr<|aS rfl<|Te<|Ct<|Xb<|Xr<|Xr<|Xb<|Xb<|Xr<|Xb<|Xr ?_
 have bj := az _ (Kd hm).symm
 rw [bj] at B
 have hm := V8 B
 have bk := aI _ (Kd hm).symm
 rw [bk] at A
 have hm := V8 A
 have bl := (Kd hm).symm
 rw [bl] at y
 have hm := V8 y
 refine j4r f a ?_
 have zy := l.trans (h.trans (p.trans G))
 obtain ⟨aG, aJ, bH⟩ := MIt.done (aP.le zy)
 refine j2c [_, _] a aG (f ++ (c ++ (g ++ (d ++ (e ++ R))))) rfl aJ ?_
 obtain ⟨rfl, rfl⟩ := V9 hm
 exact rO ⟨aG, rfl, rfl, bH⟩ (k.trans zy)
 refine Ck<|Xm<|Xn<|Cg<|tS (sa rfl rfl (by omega))<|mV rfl<|Tn ?_
 exact jM hm ⟨rfl, rfl, ((h.trans (p.trans G)))⟩
 rintro ay S _ _ ⟨rfl, rfl, h⟩ bm
 rw [bm] at B
 have hm := G0 B
 refine Cr<|tS (lF rfl rfl (by omega))<|Te<|Cs<|w9 rfl<|Ce<|Xe<|Xe<|Xo<|Xm<|j2R f a c g d e<|j2R e f a c g d<|j2R d e f a c g<|q8O g d e f<|j6v f g d e a ?_
 have zx := k.trans (l.trans h)
 have a3 := zx
 exact z2d (s' := ()) [_] (f ++ (g ++ (d ++ (e ++ (c ++ R))))) rfl hperm3192 (F.trans (Kd hm ▸ rfl)) a3 (aP.le (l.trans h)) (e' := [(0, pb x), (1, iv ab), (2, sv A3 H c4), (15, pb D)]) ⟨rfl, rfl, rfl, rfl, trivial⟩ (.cons_cons _ (sp f (sp g (sp d (sp e (ss c (.refl _))))))) ⟨rfl, rfl, (zx)⟩
 rintro av _ _ ⟨aw, z, rfl, rfl, a4, bI, bn⟩
 rw [bn] at y
 have hm := G0 y
 refine Cr<|aS rfl<|Te<|Ct ?_
 obtain ⟨rfl, rfl⟩ := V9 hm
 exact rO ⟨z, rfl, rfl, bI⟩ a4
theorem q0p (b : k9) (R : Hp) (d : q9) (i) (hm : H1 d = some i):
 v8 Tryz.prog 35 [.agg #[iv d.axles, bv d.disturbed, iv d.position, iv d.moving, bv d.failed]] b (R) (fun v b' hp' => bv i = v ∧ R = hp') := by
 refine fE 10 Tryz.func35 rfl Tryz.ntmps35 rfl ?_
 unfold H1 at hm
 refine Cr<|tD (uB _ rfl rfl) ?_
 rintro _ _ ⟨j, rfl, rfl⟩
 refine aS rfl<|Te ?_
 obtain ⟨h, e, f⟩ := bS hm
 refine Cj (fun g e' hp' => [(2, bv h)] = e' ∧ R = hp' ∧ b.Le g) ?_ ?_
 have hm := e
 refine Cg<|tS (sF rfl q3e)<|tS (sL 0 rfl Q8 rfl rfl)<|Tb rfl (q5 rfl rfl) (fun a => ?_) (fun a => ?_)
 rw [if_pos a] at hm
 refine mV rfl<|nO<|nO<|tS (pT rfl rfl)<|aS rfl<|Tn ?_
 obtain rfl := o1 hm
 exact jJ ⟨rfl, rfl, lr⟩
 rw [if_neg a] at hm
 refine mV rfl<|yS<|tS (sF rfl z9D)<|yS<|tS (sL 0 rfl q6p rfl rfl)<|tS (pF rfl rfl)<|aS rfl<|Tn ?_
 obtain rfl := o1 hm
 exact jJ ⟨rfl, rfl, lr⟩
 rintro g _ _ ⟨rfl, rfl, c⟩
 have hm := f
 refine Ct ?_
 obtain rfl := o1 hm
 exact rO ⟨rfl, rfl⟩ c
theorem q8F (b : k9) (R : Hp) (aa T U V W X Y Z G H bo bH) (ads : Int → Nat) (ab ac ad ae af ag ah ai aj ak al am an ao aq A3 c4 d A8 c9 e I aL c) (cP : FZ RT.str b.w ac ad T) (cQ : FZ j4 b.w ae af U) (cR : FZ Q0 b.w ag ah V) (cT : FZ j6 b.w ai aj W) (cU : FZ Q1 b.w ak al X) (cV : FZ Z3 b.w am an Y) (cW : FZ (RT.list j7) b.w ao aq Z) (h5 : OS 80 (OT.fr Q5) b.w (sv A3 G c4) G d) (cX : OS 94 (OT.fr Q7) b.w (sv A8 H c9) H e) (bZ : OM rI (OT.fr (RT.key ads)) false false b.w I bo aL) (bp : OAr 90 j8 ads b.w bH c) (aM aN) (hm : q1V aa T U V W X Y Z G H bo bH = some (aM, aN)):
 v8 Tryz.prog 48 [pb ab, iv aa] b ((ab, Cl 78 [sv ac T ad, sv ae U af, sv ag V ah, sv ai W aj, sv ak X al, sv am Y an, sv ao Z aq, sv A3 G c4, sv A8 H c9, .map (some I)]) :: (d ++ (e ++ (aL ++ (c ++ R))))) (fun v b' hp' => ∃ aA, iv aM = v ∧ (ab, Cl 78 [sv ac T ad, sv ae U af, sv ag V ah, sv ai W aj, sv ak X al, sv am Y an, sv ao Z aq, sv A3 G c4, sv A8 H c9, .map (some I)]) :: (d ++ (e ++ (aA ++ (c ++ R)))) = hp' ∧ OM rI (OT.fr (RT.key ads)) false false b'.w I aN aA) := by
 refine fE 48 Tryz.func48 rfl Tryz.ntmps48 rfl ?_
 unfold q1V at hm
 refine Cr<|aS rfl<|Te ?_
 obtain ⟨bq, a3, x⟩ := bS hm
 refine Cj (fun ar e' hp' => ∃ (au : (List (Int × (Option Int)))), ∃ y, [] = e' ∧ (ab, Cl 78 [sv ac T ad, sv ae U af, sv ag V ah, sv ai W aj, sv ak X al, sv am Y an, sv ao Z aq, sv A3 G c4, sv A8 H c9, .map (some I)]) :: (d ++ (e ++ (y ++ (c ++ R)))) = hp' ∧ b.Le ar ∧ OM rI (OT.fr (RT.key ads)) false false ar.w I au y ∧ bq = .inl au) ?_ ?_
 have hm := a3
 refine Cr<|mV rfl<|tS (sN rfl)<|tS (sF rfl q3f)<|tS (sL 0 rfl q8X rfl rfl)<|j3e d e aL<|tD (z0m [_] (d ++ (e ++ (c ++ R))) rfl bZ q5Z rfl) ?_
 rintro _ _ ⟨C, z, rfl, rfl, br⟩
 refine Te<|Cb<|F9 z d e c<|F9 c z d e<|F9 e c z d<|F9 d e c z ?_
 obtain ⟨b0, a4, A⟩ := bS hm
 refine z4H (fun _ => fun av e' hp' => [(1, iv aa), (13, pb C)] = e' ∧ (ab, Cl 78 [sv ac T ad, sv ae U af, sv ag V ah, sv ai W aj, sv ak X al, sv am Y an, sv ao Z aq, sv A3 G c4, sv A8 H c9, .map (some I)]) :: (d ++ (e ++ (c ++ R))) = hp' ∧ b.Le av) a4 br (e' := [(1, iv aa), (13, pb C)]) ⟨rfl, rfl, trivial⟩ [_] (d ++ (e ++ (c ++ R))) rfl (.refl _) ⟨rfl, rfl, lr⟩ ?_
 rintro _ b1 av _ _ aB ⟨rfl, rfl, g⟩ bI aO hd2127 hall2128
 refine j0c [_] aB (d ++ (e ++ (c ++ R))) ?_ rfl
 refine Cr<|z3R [_] (d ++ (e ++ (c ++ R))) rfl rfl rfl aO (fun hnil2130 => ?_) (fun J b2 b3 b4 a hperm2136 a5 aP => ?_)
 obtain ⟨aC, aI, bs⟩ := MIt.done aO
 refine z0r [_] aB aC (d ++ (e ++ (c ++ R))) rfl aI ?_
 have hend2142 := hd2127 hnil2130
 refine tS (w7 rfl rfl)<|Te<|Cs<|w9 rfl<|Ce<|Xe<|Xe<|Xo ?_
 rw [hend2142] at A
 have hm := G0 A
 have hq := (Kd hm).symm
 exact jJ ⟨bo, aC, rfl, rfl, g, bs, hq⟩
 obtain ⟨b5, D, aJ⟩ := hall2128 _ _ hperm2136
 have s := D
 unfold F0 at s
 have hm := s
 refine tS (w7 rfl rfl)<|Te<|Cs<|k7 rfl<|Ck<|Xn<|Cb<|Cr ?_
 obtain ⟨aQ, aR, K, L, a6⟩ := MIx.entry Tryz.prog a5
 obtain rfl : aQ = iv J.1 := by have K : [aQ] = [iv J.1] := K; injection K
 obtain rfl : aR = kv ads J.2 := by have L : [aR] = [kv ads J.2] := L; injection L
 refine tS (a6 (.cons _ (Kb _ _)) rfl)<|tS (w7 rfl rfl)<|aS rfl<|Te<|Cr<|mV rfl ?_
 obtain ⟨E, aw, hm⟩ := bS hm
 obtain ⟨F, bt, hm⟩ := bS hm
 refine Tr 6 rfl (v' := .pointer (some ⟨(ads E), 0, none⟩)) (by rw [aw]; rfl)<|Tr 17 rfl (v' := .pointer (some ⟨(ads E), 0, none⟩)) (by rw [aw]; rfl)<|Tr 18 rfl (v' := .pointer (some ⟨(ads E), 0, none⟩)) (by rw [aw]; rfl) ?_
 obtain ⟨bK, bL, i, aD, a7, hf2160⟩ := OAr.take (bp.le g) bt
 obtain ⟨aT, aU, b6, b7, b8, b9, k, ca, cb, l, rfl, aV, cc, cd, ce, rfl⟩ := a7
 refine K6 a d e c<|q2B [_] c i k l (a ++ (d ++ (e ++ R))) rfl aD<|tS (sN rfl)<|tS (sF rfl q2O)<|tS (sF rfl P6)<|tS (sL 0 rfl q3A rfl rfl)<|tS (sE rfl q6f)<|mV rfl<|Te<|Cb<|q6D k l i<|q6D i k l<|q6D l i k<|z4J [_] c i k l (a ++ (d ++ (e ++ R))) rfl aD ?_
 have bM : F.Route.Steps.length ≤ 9223372036854775807 := (FZ.bd aV)
 refine F9 c a d e<|F9 e c a d<|F9 d e c a ?_
 obtain ⟨cf, a8, B⟩ := bS hm
 refine lF (fun ax => fun _ => fun O e' hp' => [(1, iv aa), (6, kv ads (some E)), (13, pb C), (22, sv aT F.Route.Steps aU), (23, iv ((F.Route.Steps.length : Int))), (24, iv ((ax : Int)))] = e' ∧ (ab, Cl 78 [sv ac T ad, sv ae U af, sv ag V ah, sv ai W aj, sv ak X al, sv am Y an, sv ao Z aq, sv A3 G c4, sv A8 H c9, .map (some I)]) :: (a ++ (d ++ (e ++ (c ++ R)))) = hp' ∧ av.Le O) a8 ⟨rfl, rfl, lr⟩ ?_ ?_
 rintro ax _ O _ _ bN bG ⟨rfl, rfl, f⟩ t ay
 unfold q2q at t
 have hm := t
 refine Cr<|tS (lT rfl rfl (by omega))<|Te<|Cs<|k7 rfl<|Ck<|Xn<|Cs<|Cb<|Cr<|mV rfl ?_
 obtain ⟨az, bu, bO, a9, bP, ba, aW, aE, aX, hm⟩ := bF (sz := 3) hm (aV.le f)
 obtain ⟨_, _, rfl, rfl, ⟨_, _, rfl, rfl, rfl⟩⟩ := ba
 refine tS (sI bu rfl rfl a9 aX aE q6f)<|tS (sP (vs := [iv az.Section, iv az.In, iv az.Out]) 3 rfl q6T aE rfl (fun j u hu => aW j u hu))<|tD (uA [iv 0, iv 0, iv 0] q5T rfl) ?_
 rintro _ _ ⟨cg, rfl, rfl⟩
 refine aS rfl<|tD (uN (vs := [_, _, _]) 0 3 rfl rfl rfl q8T rfl (mc rfl (mc rfl (mc rfl mn))) rfl (by simp)) ?_
 rintro _ _ rfl
 refine Te ?_
 obtain ⟨bw, bb, bc⟩ := bS hm
 refine Cj (fun aY e' hp' => [(1, iv aa), (6, kv ads (some E)), (13, pb C), (22, sv aT F.Route.Steps aU), (23, iv ((F.Route.Steps.length : Int))), (24, iv ((ax : Int))), (42, bv bw)] = e' ∧ (ab, Cl 78 [sv ac T ad, sv ae U af, sv ag V ah, sv ai W aj, sv ak X al, sv am Y an, sv ao Z aq, sv A3 G c4, sv A8 H c9, .map (some I)]) :: (a ++ (d ++ (e ++ (c ++ R)))) = hp' ∧ O.Le aY) ?_ ?_
 have hm := bb
 refine Cg<|tS (sF rfl K5)<|tS (sL 0 rfl Q8 rfl rfl)<|mV rfl<|Tb rfl (q1 rfl rfl) (fun S => ?_) (fun S => ?_)
 rw [if_pos S] at hm
 refine mV rfl<|yS<|mV rfl<|yS ?_
 obtain ⟨ch, bx, hm⟩ := bS hm
 obtain ⟨bQ, bR, m, aF, bd, hf2361⟩ := OAr.take (bp.le (g.trans f)) bx
 obtain ⟨ci, cj, ck, cl, cm, cn, h, co, cp, n, rfl, cq, cr, cs, bz, rfl⟩ := bd
 refine q2k a d e c<|q2B [_, _] c m h n (a ++ (d ++ (e ++ R))) rfl aF<|tS (sN rfl)<|yS<|tS (sF rfl q9k)<|yS<|tS (sL 0 rfl q5C rfl rfl)<|yS<|mV rfl<|yS ?_
 obtain ⟨ct, bA, hm⟩ := bS hm
 obtain ⟨bB, be, bf⟩ := iS bA
 obtain ⟨bT, bU, cu, cv, bV, bg, aZ, bh, a0, bW, bJ⟩ := OS.get (sz := 1) rfl (by decide) bz bf
 obtain ⟨rfl, rfl⟩ := bg
 refine tS (sI bB rfl rfl be a0 bh z0D)<|yS<|tS (Q3 rfl q6p (fun w ho => aZ w _ ho (.cons _ (.cons _ (.cons _ (ss h (Kb _ _))))) 0 _ rfl))<|yS<|tS (sn2 rfl)<|tS (pT rfl rfl)<|Tn<|Y9 h n m<|Y9 m h n<|Y9 n m h<|q3I [_, _] c m h n (a ++ (d ++ (e ++ R))) rfl aF ?_
 obtain rfl := o1 hm
 exact jJ ⟨rfl, rfl, lr⟩
 rw [if_neg S] at hm
 refine mV rfl<|nO<|nO<|nO<|nO<|nO<|nO<|nO<|nO<|tS (pF rfl rfl)<|Tn ?_
 obtain rfl := o1 hm
 exact jJ ⟨rfl, rfl, lr⟩
 rintro aY _ _ ⟨rfl, rfl, o⟩
 have hm := bc
 refine cB hm rfl (fun hm => ?_) fun hm => ?_
 refine Cr<|mV rfl ?_
 obtain ⟨cw, bC, hm⟩ := bS hm
 have zz := g.trans (f.trans o)
 obtain ⟨bX, bY, p, aG, bi, hf2400⟩ := OAr.take (bp.le zz) bC
 obtain ⟨cx, cy, cz, cA, cC, cD, q, cE, cG, r, rfl, cH, cJ, cK, cO, rfl⟩ := bi
 refine K6 a d e c<|q2B [_] c p q r (a ++ (d ++ (e ++ R))) rfl aG<|tS (sN rfl)<|tS (sF rfl z5M)<|tS (sL 0 rfl Q8 rfl rfl)<|aS rfl<|Te<|Ct<|Xb<|Xr<|Xr<|Xb<|Xb<|Xr<|Xb<|Xr ?_
 have bj := ay _ (Kd hm).symm
 rw [bj] at B
 have hm := V8 B
 have bk := aJ _ (Kd hm).symm
 rw [bk] at A
 have hm := V8 A
 have bl := (Kd hm).symm
 rw [bl] at x
 have hm := V8 x
 refine G6 q r p<|G6 p q r<|G6 r p q<|q3I [_] c p q r (a ++ (d ++ (e ++ R))) rfl aG<|j6w c a ?_
 obtain ⟨aH, aK, bD⟩ := MIt.done (aP.le (f.trans o))
 refine j2c [_] a aH (c ++ (d ++ (e ++ R))) rfl aK ?_
 obtain ⟨rfl, rfl⟩ := V9 hm
 exact rO ⟨aH, rfl, rfl, bD⟩ zz
 refine Ck<|Xm<|Xn<|Cg<|tS (sa rfl rfl (by omega))<|mV rfl<|Tn ?_
 exact jM hm ⟨rfl, rfl, ((f.trans o))⟩
 rintro _ O _ _ ⟨rfl, rfl, f⟩ bm
 rw [bm] at B
 have hm := G0 B
 refine Cr<|tS (lF rfl rfl (by omega))<|Te<|Cs<|w9 rfl<|Ce<|Xe<|Xe<|Xo<|Xm<|q8O a d e c<|q8O c a d e<|q8O e c a d<|q8O d e c a ?_
 have a1 := g.trans f
 exact z2d (s' := ()) [_] (d ++ (e ++ (c ++ R))) rfl hperm2136 (D.trans (Kd hm ▸ rfl)) a1 (aP.le f) (e' := [(1, iv aa), (13, pb C)]) ⟨rfl, rfl, trivial⟩ (.refl _) ⟨rfl, rfl, ((g.trans f))⟩
 rintro ar _ _ ⟨au, y, rfl, rfl, a2, bE, bn⟩
 rw [bn] at x
 have hm := G0 x
 refine Cr<|aS rfl<|Te<|Ct ?_
 obtain ⟨rfl, rfl⟩ := V9 hm
 exact rO ⟨y, rfl, rfl, bE⟩ a2
theorem q9A (b : k9) (R : Hp) (z A B C o D E q ag aM aA) (ads : Int → Nat) (ah H I J K L O S T F G U V W X A3 c4 f A8 c9 ad r s c) (a1 : FZ RT.str b.w H I z) (a2 : FZ j4 b.w J K A) (a3 : FZ Q0 b.w L O B) (a4 : FZ j6 b.w S T C) (aB : FZ Q1 b.w F G o) (a5 : FZ Z3 b.w U V D) (a6 : FZ (RT.list j7) b.w W X E) (h5 : OS 80 (OT.fr Q5) b.w (sv A3 q c4) q f) (a7 : OS 94 (OT.fr Q7) b.w (sv A8 ag c9) ag ad) (a8 : OM rI (OT.fr (RT.key ads)) false false b.w r aM s) (a9 : OAr 90 j8 ads b.w aA c) (aa ax) (hm : q1A z A B C o D E q ag aM aA = some (aa, ax)):
 v8 Tryz.prog 36 [pb ah] b ((ah, Cl 78 [sv H z I, sv J A K, sv L B O, sv S C T, sv F o G, sv U D V, sv W E X, sv A3 q c4, sv A8 ag c9, .map (some r)]) :: (f ++ (ad ++ (s ++ (c ++ R))))) (fun v b' hp' => ∃ ai aj, .tuple #[] = v ∧ (ah, Cl 78 [sv H z I, sv J A K, sv L B O, sv S C T, sv F o G, sv U D V, sv W E X, sv A3 q c4, sv A8 aa c9, .map (some r)]) :: (f ++ (ai ++ (aj ++ (c ++ R)))) = hp' ∧ OS 94 (OT.fr Q7) b'.w (sv A8 aa c9) aa ai ∧ aa.length = ag.length ∧ OM rI (OT.fr (RT.key ads)) false false b'.w r ax aj) := by
 refine fE 46 Tryz.func36 rfl Tryz.ntmps36 rfl ?_
 unfold q1A at hm
 refine Cr<|mV rfl<|tS (sN rfl)<|tS (sF rfl z0R)<|tS (sF rfl q7z)<|tS (sL 0 rfl z5x rfl rfl)<|tS (sE rfl z8z)<|mV rfl<|Te<|Cb ?_
 have ba : o.length ≤ 9223372036854775807 := (FZ.bd aB)
 refine F9 f ad s c<|F9 c f ad s<|F9 s c f ad<|F9 ad s c f ?_
 obtain ⟨⟨m, af⟩, aC, aD⟩ := bS hm
 refine lS (fun t => q0q fun m af => fun ab e' hp' => ∃ d g, [(0, pb ah), (10, sv F o G), (11, iv ((o.length : Int))), (12, iv ((t : Int)))] = e' ∧ (ah, Cl 78 [sv H z I, sv J A K, sv L B O, sv S C T, sv F o G, sv U D V, sv W E X, sv A3 q c4, sv A8 m c9, .map (some r)]) :: (f ++ (d ++ (g ++ (c ++ R)))) = hp' ∧ b.Le ab ∧ OS 94 (OT.fr Q7) ab.w (sv A8 m c9) m d ∧ m.length = ag.length ∧ OM rI (OT.fr (RT.key ads)) false false ab.w r af g) aC ⟨ad, s, rfl, rfl, lr, a7, rfl, a8⟩ ?_ ?_
 rintro t ⟨m, af⟩ ab _ _ bb aN ⟨d, g, rfl, rfl, a, x, n, ak⟩ y
 unfold q1U at y
 have hm := H0 y
 refine Cr<|tS (lT rfl rfl (by omega))<|Te<|Cs<|k7 rfl<|Ck<|Xn<|Cs<|Cb<|Cr<|mV rfl ?_
 obtain ⟨p, aO, bc, aE, bd, aF, aq, al, ar, hm⟩ := bF (sz := 2) hm (aB.le a)
 obtain ⟨_, _, rfl, rfl, rfl⟩ := aF
 refine tS (sI aO rfl rfl aE ar al z8z)<|tS (sP (vs := [iv p.Section, iv p.Close]) 2 rfl j0u al rfl (fun j u hu => aq j u hu))<|tD (uA [iv 0, iv 0] z5g rfl) ?_
 rintro _ _ ⟨bn, rfl, rfl⟩
 refine aS rfl<|tD (uN (vs := [_, _]) 0 2 rfl rfl rfl z8A rfl (mc rfl (mc rfl mn)) rfl (by simp)) ?_
 rintro _ _ rfl
 refine Te<|Cr<|mV rfl<|tS (sN rfl)<|tS (sF rfl z3o)<|tS (sL 1 rfl j1g rfl rfl)<|mV rfl ?_
 obtain ⟨e, aP, hm⟩ := bS hm
 obtain ⟨ay, Y, Z⟩ := iS aP
 obtain ⟨be, bf, bo, bp, bg, aG, au, k, av, bh, aX⟩ := OS.get (sz := 3) rfl (by decide) x Z
 obtain ⟨⟨_, _, rfl, rfl, ⟨_, _, rfl, rfl, rfl⟩⟩, rfl⟩ := aG
 refine tS (sI ay rfl rfl Y av k z5n)<|aS rfl<|Te<|Cr<|mV rfl<|tS (sF rfl q7a)<|tS (sL 0 rfl Q8 rfl rfl) ?_
 obtain ⟨⟨i, aQ⟩, aw, hm⟩ := bS hm
 have hm := H0 hm
 refine J3 1 rfl<|q2k f d g c<|q2k c f d g<|q2k g c f d<|q2k d g c f<|G7 [_] [_] f d g c R rfl<|Tg _ rfl j2A rfl (q8F _ _ p.Section z A B C o D E q m af aA ads ah H I J K L O S T F G U V W X A3 c4 f A8 c9 d r g c (a1.le a) (a2.le a) (a3.le a) (a4.le a) (aB.le a) (a5.le a) (a6.le a) (h5.le a) x ak (a9.le a) i aQ aw) ?_
 rintro _ bq _ l ⟨h, rfl, rfl, am⟩
 refine q3K [_] [_] f d h c R rfl<|tS (q6 rfl rfl)<|aS rfl<|Te<|Cs<|Cr<|Tb rfl (sM rfl) (fun ae => ?_) (fun ae => ?_)
 rw [if_pos ae] at hm
 refine mV rfl<|yS<|mV rfl<|yS<|tS (Z8 rfl k)<|yS<|tS (sQ rfl k q9j)<|yS<|tS (Q3 rfl q6p (fun w ho => au w _ (l.back _ _ ho) (.cons _ (.cons _ (ss f (Kb _ _)))) 1 _ rfl))<|yS<|tS (sn2 rfl)<|tS (pT rfl rfl)<|Te<|cM hm rfl (fun hm => ?_) fun hm => ?_
 refine Cg<|mV rfl<|tS (sF rfl z6L)<|tS (sL 1 rfl Q8 rfl rfl)<|tS (Z8 rfl k)<|tS (sQ rfl k z0Q)<|z1E f d<|tD (uP Y (sz := 3) (a' := (⟨p.Close, e.wanted, e.failed⟩ : z8)) rfl [_, _] (f ++ (h ++ (c ++ R))) 0 1 [iv p.Close] rfl (x.le l) Z rfl rfl rfl z3Y rfl (mc rfl mn) (fun cs hsj hh => by obtain ⟨⟨_, _, rfl, rfl, ⟨_, _, rfl, rfl, rfl⟩⟩, rfl⟩ := hh; exact ⟨by first | decide | exact Nat.le_refl _, ⟨[iv p.Close], _, rfl, rfl, ⟨[bv e.wanted], _, rfl, rfl, rfl⟩⟩, rfl⟩)) ?_
 rintro _ _ ⟨bi, rfl, az⟩
 refine K9 0 rfl (o' := Cl 78 [sv H z I, sv J A K, sv L B O, sv S C T, sv F o G, sv U D V, sv W E X, sv A3 q c4, .slice A8 (put m (t : Int) (⟨p.Close, e.wanted, e.failed⟩ : z8)).length c9, .map (some r)]) (by simp only [sv, Q4])<|Te<|Cg ?_
 obtain ⟨ac, aR, hm⟩ := bS hm
 obtain ⟨aT, aH, an⟩ := iS aR
 obtain rfl : ay = aT := by omega
 obtain ⟨bj, bk, br, bs, bl, aI, aY, ao, aZ, bm, a0⟩ := OS.get (sz := 3) rfl (by decide) az an
 obtain ⟨⟨_, _, rfl, rfl, ⟨_, _, rfl, rfl, rfl⟩⟩, rfl⟩ := aI
 refine mV rfl<|mV rfl<|tS (Z8 rfl ao)<|tS (sQ rfl ao q9j)<|tD (uP aH (sz := 3) (a' := (⟨ac.left, decide (0 ≤ i), ac.failed⟩ : z8)) rfl [_, _] (f ++ (h ++ (c ++ R))) 1 1 [.bool (decide (0 ≤ i))] rfl az an rfl rfl rfl z6o rfl (mc rfl mn) (fun cs hsj hh => by obtain ⟨⟨_, _, rfl, rfl, ⟨_, _, rfl, rfl, rfl⟩⟩, rfl⟩ := hh; exact ⟨by first | decide | exact Nat.le_refl _, ⟨[iv ac.left], _, rfl, rfl, ⟨[.bool (decide (0 ≤ i))], _, rfl, rfl, rfl⟩⟩, rfl⟩)) ?_
 rintro _ _ ⟨aJ, rfl, aU⟩
 refine K9 0 rfl (o' := Cl 78 [sv H z I, sv J A K, sv L B O, sv S C T, sv F o G, sv U D V, sv W E X, sv A3 q c4, .slice A8 (put (put m (t : Int) (⟨p.Close, e.wanted, e.failed⟩ : z8)) (t : Int) (⟨ac.left, decide (0 ≤ i), ac.failed⟩ : z8)).length c9, .map (some r)]) (by simp only [sv, Q4])<|Tn<|Xm<|Xn<|Cg<|tS (sa rfl rfl (by omega))<|mV rfl<|Tn ?_
 obtain rfl := o1 hm
 exact jS ⟨aJ, h, rfl, rfl, ((a.trans l)), aU, ((Q4 _ _ _).trans ((Q4 _ _ _).trans n)), am⟩
 refine Ck<|Xn<|Cg<|mV rfl<|mV rfl<|tS (Z8 rfl k)<|tS (sQ rfl k q9j)<|z1E f d<|tD (uP Y (sz := 3) (a' := (⟨e.left, decide (0 ≤ i), e.failed⟩ : z8)) rfl [_, _] (f ++ (h ++ (c ++ R))) 1 1 [.bool (decide (0 ≤ i))] rfl (x.le l) Z rfl rfl rfl z6o rfl (mc rfl mn) (fun cs hsj hh => by obtain ⟨⟨_, _, rfl, rfl, ⟨_, _, rfl, rfl, rfl⟩⟩, rfl⟩ := hh; exact ⟨by first | decide | exact Nat.le_refl _, ⟨[iv e.left], _, rfl, rfl, ⟨[.bool (decide (0 ≤ i))], _, rfl, rfl, rfl⟩⟩, rfl⟩)) ?_
 rintro _ _ ⟨aK, rfl, aV⟩
 refine K9 0 rfl (o' := Cl 78 [sv H z I, sv J A K, sv L B O, sv S C T, sv F o G, sv U D V, sv W E X, sv A3 q c4, .slice A8 (put m (t : Int) (⟨e.left, decide (0 ≤ i), e.failed⟩ : z8)).length c9, .map (some r)]) (by simp only [sv, Q4])<|Tn<|Xm<|Xn<|Cg<|tS (sa rfl rfl (by omega))<|mV rfl<|Tn ?_
 obtain rfl := o1 hm
 exact jS ⟨aK, h, rfl, rfl, ((a.trans l)), aV, ((Q4 _ _ _).trans n), am⟩
 rw [if_neg ae] at hm
 refine mV rfl<|nO<|nO<|nO<|nO<|nO<|tS (pF rfl rfl)<|Te<|w9 rfl<|Ck ?_
 refine Xn<|Cg<|mV rfl<|mV rfl<|tS (Z8 rfl k)<|tS (sQ rfl k q9j)<|z1E f d<|tD (uP Y (sz := 3) (a' := (⟨e.left, decide (0 ≤ i), e.failed⟩ : z8)) rfl [_, _] (f ++ (h ++ (c ++ R))) 1 1 [.bool (decide (0 ≤ i))] rfl (x.le l) Z rfl rfl rfl z6o rfl (mc rfl mn) (fun cs hsj hh => by obtain ⟨⟨_, _, rfl, rfl, ⟨_, _, rfl, rfl, rfl⟩⟩, rfl⟩ := hh; exact ⟨by first | decide | exact Nat.le_refl _, ⟨[iv e.left], _, rfl, rfl, ⟨[.bool (decide (0 ≤ i))], _, rfl, rfl, rfl⟩⟩, rfl⟩)) ?_
 rintro _ _ ⟨aL, rfl, aW⟩
 refine K9 0 rfl (o' := Cl 78 [sv H z I, sv J A K, sv L B O, sv S C T, sv F o G, sv U D V, sv W E X, sv A3 q c4, .slice A8 (put m (t : Int) (⟨e.left, decide (0 ≤ i), e.failed⟩ : z8)).length c9, .map (some r)]) (by simp only [sv, Q4])<|Tn<|Xm<|Xn<|Cg<|tS (sa rfl rfl (by omega))<|mV rfl<|Tn ?_
 obtain rfl := o1 hm
 exact jS ⟨aL, h, rfl, rfl, ((a.trans l)), aW, ((Q4 _ _ _).trans n), am⟩
 rintro ab _ _ ⟨d, g, rfl, rfl, a, x, n, ak⟩
 have hm := H0 aD
 refine Cr<|tS (lF rfl rfl (by omega))<|Te<|Cs<|w9 rfl<|Ce<|Xe<|Xe<|Xo ?_
 obtain ⟨rfl, rfl⟩ := V9 hm
 exact eZ ⟨d, g, rfl, rfl, x, n, ak⟩ a
end Go.Proofs.YtjlollifgeggdaaGreatDoor
