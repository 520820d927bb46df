import Derived.Test.YtdbehipjelcmbaaGreatDoorQZP4
set_option linter.unusedVariables false
set_option linter.unusedSimpArgs false
set_option linter.unusedSectionVars false
namespace Go.Proofs.YtdbehipjelcmbaaGreatDoor
open Go.RowKit Go.Fp
set_option maxRecDepth 20000
set_option maxHeartbeats 4000000
open Go.Fp renaming q4H → Te, q6u → Tn, q5r → Tb, q6F → Tg, q8X → Tv, z4Z → Tr, q6s → Cr, q2J → Cs, q0k → Cg, q6P → Cb, q3X → Ct, q3q → Ck, z1A → Ce, z3y → Cj, z2z → Cp, j5 → Xn, J3 → Xr, q1M → Xe, q1N → Xb, q0w → Xm, q2A → Xo, z3Y → Xp, q6U → X3, q6T → X4, j0n → Es, z6J → E0, z8N → Ey, j4C → Yz, j2t → Ei, j5z → El, z4S → Eo, z8O → Da, z1G → Dd, z0w → Di, j4L → Rd2, z8L → Rn, q9m → Rg, q9z → sL, q6l → sD, q6Y → sF, z1k → sN, z1m → sE, q3h → sM, q1z → sA, q5C → pT, q5D → pF, q0O → sI, q1O → sO, q2U → sP, q1V → sQ, z1n → sa, q6j → lT, q6k → lF, q5E → sn2, z2Q → uB, q7Q → uA, q4V → uN, q6h → uW, q9q → uP, q9s → uQ, q3Q → fE, q8S → bS, z2S → o1, q5c → iS, q6i → ss, z1Q → sp, q7t → kS, j5M → nt, j5N → nf, z2w → d4, z7A → mc, z7z → mn, q9C → q1, q8t → q2, z1l → q3, q9A → q5, q9B → q6
theorem q4R (b : Base) (R : Hp) (c d e f) (i : FZ rI b.w e f c) (g) (hm : H2 c d = some g):
 CallsG Tryz.prog 33 [sv e c f, iv d] b (R) (fun v b' hp' => bv g = v ∧ R = hp') := by
 refine fE 9 Tryz.func33 rfl Tryz.ntmps33 rfl ?_
 unfold H2 at hm
 refine Cr<|aS rfl<|Te<|Cr<|mV rfl<|mV rfl ?_
 obtain ⟨j, a, hm⟩ := bS hm
 refine tD (uW _ j3B rfl (fun w ho => z0O _ [] c d e f (i.old ho) j a) (fun _ _ _ h => h.2.symm)) ?_
 rintro _ _ ⟨⟨_, rfl, _⟩, rfl⟩
 refine tS (q6 rfl rfl)<|aS rfl<|Te<|Ct ?_
 obtain rfl := o1 hm
 exact rO ⟨rfl, rfl⟩ lr
theorem z1c (b : Base) (R : Hp) (aw C D E F G H I x y ax ay) (ads : Int → Nat) (z S T U V W X Y Z aa ab ac ad ae af A3 c4 i A8 c9 j ag a c) (aW : FZ RT.str b.w S T C) (aX : FZ rApiSection b.w U V D) (aY : FZ rApiLink b.w W X E) (aZ : FZ rApiSignal b.w Y Z F) (a0 : FZ rApiGate b.w aa ab G) (a1 : FZ j3 b.w ac ad H) (a2 : FZ (RT.list z4) b.w ae af I) (h5 : OS 59 (OT.fr z7) b.w (sv A3 x c4) x i) (a3 : OS 127 (OT.fr z8) b.w (sv A8 y c9) y j) (a4 : OM rI (OT.fr (RT.key ads)) false false b.w ag ax a) (a5 : OAr 85 q9 ads b.w ay c) (aD aj) (hm : q1I aw C D E F G H I x y ax ay = some (aD, aj)):
 CallsG Tryz.prog 9 [pb z, iv aw] b ((z, Cl 57 [sv S C T, sv U D V, sv W E X, sv Y F Z, sv aa G ab, sv ac H ad, sv ae I af, sv A3 x c4, sv A8 y c9, .map (some ag)]) :: (i ++ (j ++ (a ++ (c ++ R))))) (fun v b' hp' => ∃ aE aF ao, .tuple #[sv aE aj aF, bv aD] = v ∧ (z, Cl 57 [sv S C T, sv U D V, sv W E X, sv Y F Z, sv aa G ab, sv ac H ad, sv ae I af, sv A3 x c4, sv A8 y c9, .map (some ag)]) :: (ao ++ (i ++ (j ++ (a ++ (c ++ R))))) = hp' ∧ OS 60 (OT.fr (RT.list z4)) b'.w (sv aE aj aF) aj ao) := by
 refine fE 44 Tryz.func9 rfl Tryz.ntmps9 rfl ?_
 unfold q1I at hm
 refine Cr<|aS rfl<|aS rfl<|Te<|Cr<|mV rfl ?_
 obtain ⟨aG, J, hm⟩ := bS hm
 have J := q1W J
 refine tD (F0 (r := (RT.list z4)) [_] (i ++ (j ++ (a ++ (c ++ R)))) [sn] ([] : List ApiNeed) aG rfl J.1 rfl rfl z8Q j3i rfl rfl rfl (by decide) (RT.list_mk FZ.nil) J.2.1 J.2.2) ?_
 rintro _ _ ⟨k, rfl, aH⟩
 obtain ⟨K, L, rfl, _⟩ := aH.form
 refine aS rfl<|Te<|Cr<|mV rfl ?_
 obtain ⟨O, az, hm⟩ := bS hm
 refine q1Z k i j a c<|q1Z c k i j a<|q1Z a c k i j<|q1Z j a c k i<|w9 [_] [] i j a c (k ++ R) rfl<|Tg _ rfl j0Q rfl (q6B _ _ C D E F G H I x y ax ay ads z S T U V W X Y Z aa ab ac ad ae af A3 c4 i A8 c9 j ag a c aW aX aY aZ a0 a1 a2 h5 a3 a4 a5 O az) ?_
 rintro _ a6 _ f ⟨aq, ar, e, rfl, rfl, a7⟩
 refine z0C [_] [] e i j a c (k ++ R) rfl<|aS rfl<|Te<|Cs<|Cr<|mV rfl<|mV rfl<|Te<|Cb ?_
 obtain ⟨_, aI, hm⟩ := bS hm
 have aI := (kS aI).2
 refine K0 e i j a c<|K0 c e i j a<|K0 a c e i j<|K0 j a c e i<|K0 i j a c e<|z8e e i j a c k ?_
 obtain ⟨bp, aM, A⟩ := bS hm
 refine lF (fun q => fun p => fun ak e' hp' => ∃ g, [(0, pb z), (6, sv K p L), (7, sv aq O ar), (15, iv aw), (16, iv ((q : Int)))] = e' ∧ (z, Cl 57 [sv S C T, sv U D V, sv W E X, sv Y F Z, sv aa G ab, sv ac H ad, sv ae I af, sv A3 x c4, sv A8 y c9, .map (some ag)]) :: (g ++ (e ++ (i ++ (j ++ (a ++ (c ++ R)))))) = hp' ∧ a6.Le ak ∧ OS 60 (OT.fr (RT.list z4)) ak.w (sv K p L) p g ∧ p.length = aG) aM ⟨k, rfl, rfl, lr, (aH.le f), List.length_replicate⟩ ?_ ?_
 rintro q p ak _ _ bk a8 ⟨g, rfl, rfl, d, al, am⟩ s an
 unfold q0i at s
 have hm := s
 refine Cr<|tS (lT rfl rfl (by omega))<|Te<|Cs<|j1 rfl<|Ck<|Xn<|Cs<|Cb<|Cr<|mV rfl<|aS rfl<|Te<|Cr<|mV rfl<|mV rfl ?_
 obtain ⟨⟨a9, u⟩, aA, hm⟩ := bS hm
 have hm := Q3 hm
 have zz := f.trans d
 refine z1M g e i j a c<|z1M c g e i j a<|z1M a c g e i j<|z1M j a c g e i<|w9 [_] [] i j a c (g ++ (e ++ R)) rfl<|Tg _ rfl j4f rfl (z3H _ _ (q : Int) C D E F G H I x y ax ay ads z S T U V W X Y Z aa ab ac ad ae af A3 c4 i A8 c9 j ag a c (aW.le zz) (aX.le zz) (aY.le zz) (aZ.le zz) (a0.le zz) (a1.le zz) (a2.le zz) (h5.le zz) (a3.le zz) (a4.le zz) (a5.le zz) a9 u aA) ?_
 rintro _ ba _ m ⟨aJ, aK, t, rfl, rfl, bb⟩
 refine z0C [_] [] t i j a c (g ++ (e ++ R)) rfl<|mV rfl<|tS (z5 rfl rfl)<|tS (z5 rfl rfl)<|aS rfl<|aS rfl<|Te<|Cs ?_
 obtain ⟨bc, aN, aO⟩ := bS hm
 refine Cj (fun aL e' hp' => [(0, pb z), (6, sv K p L), (7, sv aq O ar), (8, iv ((q : Int))), (9, sv aJ u aK), (15, iv aw), (16, iv ((q : Int))), (37, bv bc)] = e' ∧ (z, Cl 57 [sv S C T, sv U D V, sv W E X, sv Y F Z, sv aa G ab, sv ac H ad, sv ae I af, sv A3 x c4, sv A8 y c9, .map (some ag)]) :: (g ++ (e ++ (t ++ (i ++ (j ++ (a ++ (c ++ R))))))) = hp' ∧ ba.Le aL) ?_ ?_
 have hm := aN
 refine Cg<|mV rfl<|Tb rfl (q2 rfl rfl) (fun ah => ?_) (fun ah => ?_)
 rw [if_pos ah] at hm
 refine mV rfl<|nO<|nO<|nO<|nO<|nO<|nO<|nO<|nO<|nO<|tS (pT rfl rfl)<|Tn ?_
 obtain rfl := o1 hm
 exact jJ ⟨rfl, rfl, lr⟩
 rw [if_neg ah] at hm
 refine mV rfl<|yS<|mV rfl<|yS<|tS (sE rfl q4J)<|yS<|Tb rfl (q5 rfl rfl) (fun ai => ?_) (fun ai => ?_)
 rw [if_pos ai] at hm
 refine yS<|mV rfl<|yS<|mV rfl<|yS<|mV rfl<|yS ?_
 obtain ⟨bd, aB, hm⟩ := bS hm
 refine tD (uW _ j0P rfl (fun w ho => q4R _ [] O (q : Int) aq ar (OS.now (o := (OT.fr rI)) (l := O) (hs := e) (a7.le (d.trans m)) ho (.cons _ (ss t (ss i (ss j (ss a (ss c (ss g (List.sublist_append_left _ _))))))))) bd aB) (fun _ _ _ h => h.2.symm)) ?_
 rintro _ _ ⟨⟨_, rfl, _⟩, rfl⟩
 refine yS<|tS (sn2 rfl)<|yS<|tS (pT rfl rfl)<|tS (pF rfl rfl)<|Tn ?_
 obtain rfl := o1 hm
 exact jJ ⟨rfl, rfl, lr⟩
 rw [if_neg ai] at hm
 refine yS<|mV rfl<|nO<|nO<|nO<|nO<|yS<|tS (pF rfl rfl)<|tS (pF rfl rfl)<|Tn ?_
 obtain rfl := o1 hm
 exact jJ ⟨rfl, rfl, lr⟩
 rintro aL _ _ ⟨rfl, rfl, n⟩
 have hm := aO
 refine cB hm rfl (fun hm => ?_) fun hm => ?_
 refine Cr<|aS rfl<|aS rfl<|Te<|Ct<|Xr<|Xb<|Xr<|Xr<|Xb<|Xr ?_
 have aP := an _ (Option.some.inj hm).symm
 rw [aP] at A
 have hm := k8 A
 obtain ⟨rfl, rfl⟩ := j9 hm
 exact rT ⟨none, 0, [], rfl, rfl, OS.nil⟩ (f.trans (d.trans (m.trans n)))
 refine Ck<|Xn<|Cg<|mV rfl<|mV rfl<|mV rfl ?_
 obtain ⟨bq, be, hm⟩ := bS hm
 obtain ⟨bf, au, av⟩ := iS be
 obtain ⟨bl, bm, br, bs, bn, aQ, bi, aR, aC, bo, bj⟩ := OS.get (sz := 1) rfl (by decide) (al.le (m.trans n)) av
 obtain ⟨⟨bt, bu, rfl, bw⟩, rfl⟩ := aQ
 refine tS (sI bf rfl rfl au aC aR z8Q)<|z6S g e t<|z6T [_] t (g ++ (e ++ (i ++ (j ++ (a ++ (c ++ R)))))) rfl ?_
 intro bx B aT
 have bg := OS.frz (l := u) (bb.le n) B.cells aT
 have zy := m.trans (n.trans B)
 refine tD (uP au (sz := 1) (a' := u) rfl [_] (e ++ (i ++ (j ++ (a ++ (c ++ R))))) 0 1 [sv aJ u aK] rfl (al.le zy) av rfl rfl rfl j2O rfl (mc rfl mn) (fun cs hsj hh => by obtain ⟨⟨bz, bA, rfl, bB⟩, rfl⟩ := hh; exact ⟨by first | decide | exact Nat.le_refl _, (RT.list_mk bg), rfl⟩)) ?_
 rintro _ _ ⟨aU, rfl, bh⟩
 refine Tr 6 rfl (v' := .slice K (put p (q : Int) u).length L) (by simp only [z6])<|Tn<|Xm<|Xn<|Cg<|tS (sa rfl rfl (by omega))<|mV rfl<|Tn ?_
 exact jM hm ⟨aU, rfl, rfl, ((d.trans zy)), bh, ((z6 _ _ _).trans am)⟩
 rintro p ak _ _ ⟨g, rfl, rfl, d, al, am⟩ aV
 rw [aV] at A
 have hm := J5 A
 refine Cr<|tS (lF rfl rfl (by omega))<|Te<|Cs<|j0 rfl<|Ce<|Xe<|Xe<|Xo<|Xn<|Cr<|mV rfl<|aS rfl<|aS rfl<|Te<|Ct ?_
 obtain ⟨rfl, rfl⟩ := j9 hm
 exact rT ⟨K, L, g, rfl, rfl, al⟩ (f.trans d)
theorem z0s (b : Base) (R : Hp) (A V E) (h3 : FZ (RT.list z4) b.w V E A) (aI) (hm : q1e A = some aI):
 CallsG Tryz.prog 10 [sv V A E] b (R) (fun v b' hp' => bv aI = v ∧ R = hp') := by
 refine fE 45 Tryz.func10 rfl Tryz.ntmps10 rfl ?_
 unfold q1e at hm
 refine Cr<|aS rfl<|Te<|Cs<|Cr<|mV rfl<|tS (sE rfl z8Q)<|mV rfl<|Te<|Cb ?_
 have bd : A.length ≤ 9223372036854775807 := (FZ.bd h3)
 obtain ⟨bn, aK, x⟩ := bS hm
 refine lF (fun B => fun _ => fun L e' hp' => [(0, sv V A E), (11, sv V A E), (12, iv ((A.length : Int))), (13, iv ((B : Int)))] = e' ∧ R = hp' ∧ b.Le L) aK ⟨rfl, rfl, lr⟩ ?_ ?_
 rintro B _ L _ _ be aX ⟨rfl, rfl, c⟩ o W
 unfold q1x at o
 have hm := o
 refine Cr<|tS (lT rfl rfl (by omega))<|Te<|Cs<|j1 rfl<|Ck<|Xn<|Cs<|Cb<|Cr<|mV rfl ?_
 obtain ⟨g, aY, bf, aL, bg, aM, am, aN, an, hm⟩ := bF (sz := 1) hm (h3.le c)
 obtain ⟨C, D, rfl, aJ⟩ := aM
 refine tS (sI aY rfl rfl aL an aN z8Q)<|tS (sO rfl z2X (am 0 _ rfl))<|aS rfl<|aS rfl<|Te<|Cr<|mV rfl<|mV rfl ?_
 obtain ⟨p, aZ, hm⟩ := bS hm
 obtain ⟨q, a0, bh, aO, Y, Z, aa⟩ := q4Q aZ
 have ab := FZ.sub (sz := 1) rfl (h3.le c) Y Z
 have a1 := (h3.le c).1.1
 rw [← aa] at ab
 refine tS (aa ▸ q7R (l := A) q a0 rfl (.inl ⟨rfl, by omega⟩) (.inr ⟨_, _, _, rfl, rfl, aO⟩) Y Z a1 z8Q)<|tS (sE rfl z8Q)<|mV rfl<|Te<|Cb ?_
 have bi : p.length ≤ 9223372036854775807 := (FZ.bd ab)
 obtain ⟨bo, aP, y⟩ := bS hm
 refine lF (fun O => fun _ => fun S e' hp' => [(0, sv V A E), (4, sv C g D), (11, sv V A E), (12, iv ((A.length : Int))), (13, iv ((B : Int))), (20, .slice (q8Y V E q 1) (p).length (E - q)), (21, iv ((p.length : Int))), (22, iv ((O : Int)))] = e' ∧ R = hp' ∧ L.Le S) aP ⟨rfl, rfl, lr⟩ ?_ ?_
 rintro O _ S _ _ bj a2 ⟨rfl, rfl, d⟩ r X
 unfold q1w at r
 have hm := r
 refine Cr<|tS (lT rfl rfl (by omega))<|Te<|Cs<|j1 rfl<|Ck<|Xn<|Cs<|Cb<|Cr ?_
 obtain ⟨s, aQ, a3, ao, a4, aq, ac, ar, ad, hm⟩ := bF (sz := 1) hm (ab.le d)
 obtain ⟨F, G, rfl, ae⟩ := aq
 refine tS (sI aQ rfl rfl ao ad ar z8Q)<|tS (sO rfl z2X (ac 0 _ rfl))<|aS rfl<|Te<|Cr<|mV rfl<|tS (sE rfl q4J)<|mV rfl<|Te<|Cb ?_
 have a5 : g.length ≤ 9223372036854775807 := (FZ.bd (aJ.le d))
 obtain ⟨bk, au, m⟩ := bS hm
 refine lF (fun H => fun _ => fun z e' hp' => [(0, sv V A E), (4, sv C g D), (6, sv F s G), (11, sv V A E), (12, iv ((A.length : Int))), (13, iv ((B : Int))), (20, .slice (q8Y V E q 1) (p).length (E - q)), (21, iv ((p.length : Int))), (22, iv ((O : Int))), (26, sv C g D), (27, iv ((g.length : Int))), (28, iv ((H : Int)))] = e' ∧ R = hp' ∧ S.Le z) au ⟨rfl, rfl, lr⟩ ?_ ?_
 rintro H _ z _ _ a6 aV ⟨rfl, rfl, a⟩ i I
 unfold q1d at i
 have hm := i
 refine Cr<|tS (lT rfl rfl (by omega))<|Te<|Cs<|j1 rfl<|Ck<|Xn<|Cs<|Cb<|Cr ?_
 obtain ⟨e, aR, a7, av, a8, aw, af, T, ag, hm⟩ := bF (sz := 4) hm (aJ.le (d.trans a))
 obtain ⟨_, _, rfl, rfl, ⟨_, _, rfl, rfl, ⟨_, _, rfl, rfl, rfl⟩⟩⟩ := aw
 refine tS (sI aR rfl rfl av ag T q4J)<|tS (sP (vs := [iv e.Kind, iv e.Place, iv e.Position, iv e.At]) 4 rfl Y1 T rfl (fun j u hu => af j u hu))<|tD (uA [iv 0, iv 0, iv 0, iv 0] q4F rfl) ?_
 rintro _ _ ⟨ah, rfl, rfl⟩
 refine tD (uN (vs := [_, _, _, _]) 0 4 rfl rfl rfl q6Z rfl (mc rfl (mc rfl (mc rfl (mc rfl mn)))) rfl (by simp)) ?_
 rintro _ _ rfl
 refine Te<|Cr<|mV rfl<|tS (sE rfl q4J)<|mV rfl<|Te<|Cb ?_
 have a9 : s.length ≤ 9223372036854775807 := (FZ.bd (ae.le a))
 obtain ⟨bl, ax, n⟩ := bS hm
 refine lF (fun ai => fun _ => fun J e' hp' => [(0, sv V A E), (4, sv C g D), (6, sv F s G), (8, pb ah), (11, sv V A E), (12, iv ((A.length : Int))), (13, iv ((B : Int))), (20, .slice (q8Y V E q 1) (p).length (E - q)), (21, iv ((p.length : Int))), (22, iv ((O : Int))), (26, sv C g D), (27, iv ((g.length : Int))), (28, iv ((H : Int))), (32, sv F s G), (33, iv ((s.length : Int))), (34, iv ((ai : Int)))] = e' ∧ (ah, Cl 72 [iv e.Kind, iv e.Place, iv e.Position, iv e.At]) :: R = hp' ∧ z.Le J) ax ⟨rfl, rfl, lr⟩ ?_ ?_
 rintro ai _ J _ _ ba aW ⟨rfl, rfl, f⟩ k K
 unfold q1c at k
 have hm := k
 refine Cr<|tS (lT rfl rfl (by omega))<|Te<|Cs<|j1 rfl<|Ck<|Xn<|Cs<|Cb<|Cr ?_
 obtain ⟨t, aT, bb, ay, bc, az, aj, U, ak, hm⟩ := bF (sz := 4) hm (ae.le (a.trans f))
 obtain ⟨_, _, rfl, rfl, ⟨_, _, rfl, rfl, ⟨_, _, rfl, rfl, rfl⟩⟩⟩ := az
 refine tS (sI aT rfl rfl ay ak U q4J)<|tS (sP (vs := [iv t.Kind, iv t.Place, iv t.Position, iv t.At]) 4 rfl Y1 U rfl (fun j u hu => aj j u hu))<|tD (uA [iv 0, iv 0, iv 0, iv 0] q4F rfl) ?_
 rintro _ _ ⟨bm, rfl, rfl⟩
 refine tD (uN (vs := [_, _, _, _]) 0 4 rfl rfl rfl q6Z rfl (mc rfl (mc rfl (mc rfl (mc rfl mn)))) rfl (by simp)) ?_
 rintro _ _ rfl
 refine Te<|Cr<|tS (sD (vs := [_, _, _, _]) 1 4 rfl Y1 rfl rfl rfl)<|tS (sD (vs := [_, _, _, _]) 0 4 rfl Y1 rfl rfl rfl) ?_
 obtain ⟨aU, al, hm⟩ := bS hm
 refine tD (uW _ j0O rfl (fun w ho => z1B _ [] e t aU al) (fun _ _ _ h => h.2.symm)) ?_
 rintro _ _ ⟨⟨_, rfl, _⟩, rfl⟩
 refine Te<|cB hm rfl (fun hm => ?_) fun hm => ?_
 refine Cr<|aS rfl<|Te<|Ct<|Xb<|Xr<|Xr<|Xb<|Xb<|Xr<|Xr<|Xb<|Xb<|Xr<|Xr<|Xb<|Xb<|Xr<|Xr<|Xb<|Xr ?_
 have aA := K _ (Option.some.inj hm).symm
 rw [aA] at n
 have hm := k8 n
 have aB := I _ (Option.some.inj hm).symm
 rw [aB] at m
 have hm := k8 m
 have aC := X _ (Option.some.inj hm).symm
 rw [aC] at y
 have hm := k8 y
 have aD := W _ (Option.some.inj hm).symm
 rw [aD] at x
 have hm := k8 x
 obtain rfl := o1 hm
 exact rO ⟨rfl, rfl⟩ (c.trans (d.trans (a.trans f)))
 refine Ck<|Xm<|Xn<|Cg<|tS (sa rfl rfl (by omega))<|mV rfl<|Tn ?_
 exact jM hm ⟨rfl, rfl, (f)⟩
 rintro _ J _ _ ⟨rfl, rfl, f⟩ aE
 rw [aE] at n
 have hm := J5 n
 refine Cr<|tS (lF rfl rfl (by omega))<|Te<|Cs<|j0 rfl<|Ce<|Xe<|Xe<|Xo<|Xm<|Xn<|Cg<|tS (sa rfl rfl (by omega))<|mV rfl<|Tn ?_
 exact jM hm ⟨rfl, rfl, ((a.trans f))⟩
 rintro _ z _ _ ⟨rfl, rfl, a⟩ aF
 rw [aF] at m
 have hm := J5 m
 refine Cr<|tS (lF rfl rfl (by omega))<|Te<|Cs<|j0 rfl<|Ce<|Xe<|Xe<|Xo<|Xm<|Xn<|Cg<|tS (sa rfl rfl (by omega))<|mV rfl<|Tn ?_
 exact jM hm ⟨rfl, rfl, ((d.trans a))⟩
 rintro _ S _ _ ⟨rfl, rfl, d⟩ aG
 rw [aG] at y
 have hm := J5 y
 refine Cr<|tS (lF rfl rfl (by omega))<|Te<|Cs<|j0 rfl<|Ce<|Xe<|Xe<|Xo<|Xm<|Xn<|Cg<|tS (sa rfl rfl (by omega))<|mV rfl<|Tn ?_
 exact jM hm ⟨rfl, rfl, ((c.trans d))⟩
 rintro _ L _ _ ⟨rfl, rfl, c⟩ aH
 rw [aH] at x
 have hm := J5 x
 refine Cr<|tS (lF rfl rfl (by omega))<|Te<|Cs<|j0 rfl<|Ce<|Xe<|Xe<|Xo<|Xn<|Cr<|aS rfl<|Te<|Ct ?_
 obtain rfl := o1 hm
 exact rO ⟨rfl, rfl⟩ c
theorem q5m (b : Base) (R : Hp) (d : LockBody) (i) (hm : q1q d = some i):
 CallsG Tryz.prog 84 [.agg #[iv d.axles, bv d.disturbed, iv d.position, iv d.moving, bv d.failed]] b (R) (fun v b' hp' => bv i = v ∧ R = hp') := by
 refine fE 11 Tryz.func84 rfl Tryz.ntmps84 rfl ?_
 unfold q1q at hm
 refine Cr<|tD (uB _ rfl rfl) ?_
 rintro _ _ ⟨j, rfl, rfl⟩
 refine aS rfl<|Te ?_
 obtain ⟨h, e, f⟩ := bS hm
 refine Cj (fun g e' hp' => [(2, bv h)] = e' ∧ R = hp' ∧ b.Le g) ?_ ?_
 have hm := e
 refine Cg<|tS (sF rfl q3k)<|tS (sL 0 rfl j4 rfl rfl)<|Tb rfl (q1 rfl rfl) (fun a => ?_) (fun a => ?_)
 rw [if_pos a] at hm
 refine mV rfl<|yS<|tS (sF rfl q5O)<|yS<|tS (sL 0 rfl q4b rfl rfl)<|yS<|tS (sn2 rfl)<|tS (pT rfl rfl)<|aS rfl<|Tn ?_
 obtain rfl := o1 hm
 exact jJ ⟨rfl, rfl, lr⟩
 rw [if_neg a] at hm
 refine mV rfl<|nO<|nO<|nO<|tS (pF rfl rfl)<|aS rfl<|Tn ?_
 obtain rfl := o1 hm
 exact jJ ⟨rfl, rfl, lr⟩
 rintro g _ _ ⟨rfl, rfl, c⟩
 have hm := f
 refine Ct ?_
 obtain rfl := o1 hm
 exact rO ⟨rfl, rfl⟩ c
theorem z0i (b : Base) (R : Hp) (a : ApiStep) (c d e f) (hm : q2j a c d = some f):
 CallsG Tryz.prog 130 [.agg #[iv a.Section, iv a.In, iv a.Out], pb e] b ((e, Cl 112 [iv c, iv d]) :: R) (fun v b' hp' => bv f = v ∧ (e, Cl 112 [iv c, iv d]) :: R = hp') := by
 refine fE 9 Tryz.func130 rfl Tryz.ntmps130 rfl ?_
 unfold q2j at hm
 refine Cr<|tD (uB _ rfl rfl) ?_
 rintro _ _ ⟨g, rfl, rfl⟩
 refine aS rfl<|Te<|Cr<|tS (sF rfl Q2)<|tS (sL 0 rfl j4 rfl rfl)<|tS (sF rfl q5j)<|tS (sL 1 rfl j4 rfl rfl)<|tS (q1 rfl rfl)<|aS rfl<|Te<|Ct ?_
 obtain rfl := o1 hm
 exact rO ⟨rfl, rfl⟩ lr
theorem q7A (b : Base) (R : Hp) (o p q i B C) (F : FZ w6 b.w B C o) (r) (hm : q2d o p q = some r):
 CallsG Tryz.prog 140 [sv B o C, .func (.func 130) #[] #[pb i]] b ((i, Cl 112 [iv p, iv q]) :: R) (fun v b' hp' => iv r = v ∧ (i, Cl 112 [iv p, iv q]) :: R = hp') := by
 refine fE 19 Tryz.func140 rfl Tryz.ntmps140 rfl ?_
 unfold q2d at hm
 refine Cr<|aS rfl<|Te<|Cs<|Cr<|mV rfl<|tS (sE rfl q6w)<|mV rfl<|Te<|Cb ?_
 have G : o.length ≤ 9223372036854775807 := (FZ.bd F)
 obtain ⟨K, s, e⟩ := bS hm
 refine lF (fun t => fun _ => fun k e' hp' => [(0, sv B o C), (1, .func (.func 130) #[] #[pb i]), (7, iv ((o.length : Int))), (8, iv ((t : Int)))] = e' ∧ (i, Cl 112 [iv p, iv q]) :: R = hp' ∧ b.Le k) s ⟨rfl, rfl, lr⟩ ?_ ?_
 rintro t _ k _ _ H A ⟨rfl, rfl, a⟩ c f
 unfold q0A at c
 have hm := c
 refine Cr<|tS (lT rfl rfl (by omega))<|Te<|Cs<|j1 rfl<|Ck<|Xn<|Cs<|Cb<|Cr<|mV rfl<|aS rfl<|Te<|Cr<|mV rfl<|mV rfl<|mV rfl ?_
 obtain ⟨d, D, I, w, J, x, l, h, m, hm⟩ := bF (sz := 3) hm (F.le a)
 obtain ⟨_, _, rfl, rfl, ⟨_, _, rfl, rfl, rfl⟩⟩ := x
 refine tS (sI D rfl rfl w m h q6w)<|tS (sP (vs := [iv d.Section, iv d.In, iv d.Out]) 3 rfl q3r h rfl (fun j u hu => l j u hu)) ?_
 obtain ⟨E, n, hm⟩ := bS hm
 refine Tv #[] #[pb i] [.agg #[iv d.Section, iv d.In, iv d.Out]] rfl rfl j2c rfl (z0i _ _ d p q i E n) ?_
 rintro _ L _ g ⟨rfl, rfl⟩
 refine Te<|cB hm rfl (fun hm => ?_) fun hm => ?_
 refine Cr<|mV rfl<|aS rfl<|Te<|Ct<|Xb<|Xr<|Xr<|Xb<|Xr ?_
 have y := f _ (Option.some.inj hm).symm
 rw [y] at e
 have hm := k8 e
 obtain rfl := o1 hm
 exact rO ⟨rfl, rfl⟩ (a.trans g)
 refine Ck<|Xm<|Xn<|Cg<|tS (sa rfl rfl (by omega))<|mV rfl<|Tn ?_
 exact jM hm ⟨rfl, rfl, ((a.trans g))⟩
 rintro _ k _ _ ⟨rfl, rfl, a⟩ z
 rw [z] at e
 have hm := J5 e
 refine Cr<|tS (lF rfl rfl (by omega))<|Te<|Cs<|j0 rfl<|Ce<|Xe<|Xe<|Xo<|Xn<|Cr<|aS rfl<|Te<|Ct ?_
 obtain rfl := o1 hm
 exact rO ⟨rfl, rfl⟩ a
theorem q5Z (b : Base) (R : Hp) (e f g h i j) (l : FZ w6 b.w i j e) (d) (hm : Y5 e f g = some d):
 CallsG Tryz.prog 123 [sv i e j, .func (.func 130) #[] #[pb h]] b ((h, Cl 112 [iv f, iv g]) :: R) (fun v b' hp' => bv d = v ∧ (h, Cl 112 [iv f, iv g]) :: R = hp') := by
 refine fE 9 Tryz.func123 rfl Tryz.ntmps123 rfl ?_
 unfold Y5 at hm
 refine Cr<|aS rfl<|Te<|Cr<|mV rfl<|mV rfl ?_
 obtain ⟨k, a, hm⟩ := bS hm
 refine Tg _ rfl z4I rfl (q7A _ _ e f g h i j l k a) ?_
 rintro _ m _ c ⟨rfl, rfl⟩
 refine tS (q6 rfl rfl)<|aS rfl<|Te<|Ct ?_
 obtain rfl := o1 hm
 exact rO ⟨rfl, rfl⟩ c
theorem q6d (b : Base) (R : Hp) (e : LockGate) (f) (hm : F9 e = some f):
 CallsG Tryz.prog 85 [.agg #[iv e.left, bv e.wanted, bv e.failed]] b (R) (fun v b' hp' => bv f = v ∧ R = hp') := by
 refine fE 15 Tryz.func85 rfl Tryz.ntmps85 rfl ?_
 unfold F9 at hm
 refine Cr<|tD (uB _ rfl rfl) ?_
 rintro _ _ ⟨k, rfl, rfl⟩
 refine aS rfl<|Te ?_
 obtain ⟨j, g, h⟩ := bS hm
 refine Cj (fun i e' hp' => [(2, bv j)] = e' ∧ R = hp' ∧ b.Le i) ?_ ?_
 have hm := g
 refine Cg<|tS (sF rfl q5i)<|tS (sL 0 rfl q4b rfl rfl) ?_
 rcases Bool.eq_false_or_eq_true e.wanted with a | a
 rw [if_pos a] at hm
 refine Tr 4 rfl (v' := .bool true) (by rw [a] <;> rfl)<|mV rfl<|yS<|tS (sF rfl q6p)<|yS<|tS (sL 0 rfl j4 rfl rfl)<|yS<|Tb rfl (q1 rfl rfl) (fun c => ?_) (fun c => ?_)
 rw [if_pos c] at hm
 refine tS (pT rfl rfl)<|mV rfl<|yS<|tS (sF rfl q6o)<|yS<|tS (sL 0 rfl q4b rfl rfl)<|yS<|tS (sn2 rfl)<|tS (pT rfl rfl)<|aS rfl<|Tn ?_
 obtain rfl := o1 hm
 exact jJ ⟨rfl, rfl, lr⟩
 rw [if_neg c] at hm
 refine tS (pT rfl rfl)<|mV rfl<|nO<|nO<|nO<|tS (pF rfl rfl)<|aS rfl<|Tn ?_
 obtain rfl := o1 hm
 exact jJ ⟨rfl, rfl, lr⟩
 rw [if_neg (fun hh => Bool.noConfusion (hh.symm.trans a))] at hm
 refine Tr 4 rfl (v' := .bool false) (by rw [a] <;> rfl)<|mV rfl<|nO<|nO<|nO<|tS (pF rfl rfl)<|mV rfl<|nO<|nO<|nO<|tS (pF rfl rfl)<|aS rfl<|Tn ?_
 obtain rfl := o1 hm
 exact jJ ⟨rfl, rfl, lr⟩
 rintro i _ _ ⟨rfl, rfl, d⟩
 have hm := h
 refine Ct ?_
 obtain rfl := o1 hm
 exact rO ⟨rfl, rfl⟩ d
theorem z0h (b : Base) (R : Hp) (i : ApiStep) (k l m n o p q c d Y Z) (ads : Int → Nat) (y r z A B C D E F G H I J K L O A3 c4 S A8 c9 T U e f) (al : FZ RT.str b.w z A k) (am : FZ rApiSection b.w B C l) (an : FZ rApiLink b.w D E m) (ao : FZ rApiSignal b.w F G n) (aq : FZ rApiGate b.w H I o) (ar : FZ j3 b.w J K p) (au : FZ (RT.list z4) b.w L O q) (h5 : OS 59 (OT.fr z7) b.w (sv A3 c c4) c S) (av : OS 127 (OT.fr z8) b.w (sv A8 d c9) d T) (aw : OM rI (OT.fr (RT.key ads)) false false b.w U Y e) (ax : OAr 85 q9 ads b.w Z f) (aa) (hm : q2i i k l m n o p q c d Y Z = some aa):
 CallsG Tryz.prog 131 [.agg #[iv i.Section, iv i.In, iv i.Out], pb y] b ((y, Cl 31 [pb r]) :: (r, Cl 57 [sv z k A, sv B l C, sv D m E, sv F n G, sv H o I, sv J p K, sv L q O, sv A3 c c4, sv A8 d c9, .map (some U)]) :: (S ++ (T ++ (e ++ (f ++ R))))) (fun v b' hp' => bv aa = v ∧ (y, Cl 31 [pb r]) :: (r, Cl 57 [sv z k A, sv B l C, sv D m E, sv F n G, sv H o I, sv J p K, sv L q O, sv A3 c c4, sv A8 d c9, .map (some U)]) :: (S ++ (T ++ (e ++ (f ++ R)))) = hp') := by
 refine fE 13 Tryz.func131 rfl Tryz.ntmps131 rfl ?_
 unfold q2i at hm
 refine Cr<|tD (uB _ rfl rfl) ?_
 rintro _ _ ⟨ay, rfl, rfl⟩
 refine aS rfl<|Te<|Cs ?_
 obtain ⟨a, ab, hm⟩ := bS hm
 obtain ⟨ac, s, hm⟩ := bS hm
 refine Di Q5 (.refl _)<|Es 0 rfl (sL 1 rfl z6g rfl rfl)<|E0 1 rfl (sN rfl)<|E0 2 rfl (sF rfl Q6)<|Es 3 rfl (sL 2 rfl q1v rfl rfl)<|E0 4 rfl (sF rfl Q2)<|Es 5 rfl (sL 0 rfl j4 rfl rfl) ?_
 obtain ⟨ad, V, W⟩ := iS ab
 obtain ⟨af, ag, aj, ak, ah, X, t, g, x, ai, ae⟩ := OS.get (sz := 5) rfl (by decide) h5 W
 obtain ⟨⟨_, _, rfl, rfl, ⟨_, _, rfl, rfl, ⟨_, _, rfl, rfl, ⟨_, _, rfl, rfl, rfl⟩⟩⟩⟩, rfl⟩ := X
 refine E0 6 rfl (sI ad rfl rfl V x g q4e)<|Es 7 rfl (j8 (vs := [iv a.axles, bv a.disturbed, iv a.position, iv a.moving, bv a.failed]) 5 rfl q6S g rfl (fun w ho j u hu => t w _ ho (.cons _ (.cons _ (.cons _ (List.sublist_append_left _ _)))) j u hu))<|Eo<|Da [8] (by kernel_rfl) rfl<|Rd2 lr rfl rfl (uW _ q6A rfl (fun w ho => Z6 _ [] a ac s) (fun _ _ _ h => h.2.symm)) ?_ ?_
 rintro _ _ ⟨⟨_, rfl, _⟩, rfl⟩
 refine iR<|Ei lr (.refl _)<|E0 9 rfl (sA rfl)<|Eo<|Dd (by kernel_rfl)<|Xn<|Ct ?_
 obtain rfl := o1 hm
 exact rO ⟨rfl, rfl⟩ lr
 exact Rn
theorem q7z (b : Base) (R : Hp) (p q r s t w x y k l aa ab) (ads : Int → Nat) (m n ac ad z A B C D E F G H I J K L O A3 c4 e A8 c9 f S c d) (aj : FZ w6 b.w ac ad p) (ao : FZ RT.str b.w z A q) (aq : FZ rApiSection b.w B C r) (ar : FZ rApiLink b.w D E s) (au : FZ rApiSignal b.w F G t) (av : FZ rApiGate b.w H I w) (aw : FZ j3 b.w J K x) (ax : FZ (RT.list z4) b.w L O y) (h5 : OS 59 (OT.fr z7) b.w (sv A3 k c4) k e) (ay : OS 127 (OT.fr z8) b.w (sv A8 l c9) l f) (az : OM rI (OT.fr (RT.key ads)) false false b.w S aa c) (aA : OAr 85 q9 ads b.w ab d) (ak) (hm : q2c p q r s t w x y k l aa ab = some ak):
 CallsG Tryz.prog 140 [sv ac p ad, .func (.func 131) #[] #[pb m]] b ((m, Cl 31 [pb n]) :: (n, Cl 57 [sv z q A, sv B r C, sv D s E, sv F t G, sv H w I, sv J x K, sv L y O, sv A3 k c4, sv A8 l c9, .map (some S)]) :: (e ++ (f ++ (c ++ (d ++ R))))) (fun v b' hp' => iv ak = v ∧ (m, Cl 31 [pb n]) :: (n, Cl 57 [sv z q A, sv B r C, sv D s E, sv F t G, sv H w I, sv J x K, sv L y O, sv A3 k c4, sv A8 l c9, .map (some S)]) :: (e ++ (f ++ (c ++ (d ++ R)))) = hp') := by
 refine fE 19 Tryz.func140 rfl Tryz.ntmps140 rfl ?_
 unfold q2c at hm
 refine Cr<|aS rfl<|Te<|Cs<|Cr<|mV rfl<|tS (sE rfl q6w)<|mV rfl<|Te<|Cb ?_
 have aD : p.length ≤ 9223372036854775807 := (FZ.bd aj)
 refine Cp 1 rfl<|Cp 1 rfl<|z3v e f c d<|z3v d e f c<|z3v c d e f<|z3v f c d e ?_
 obtain ⟨aE, ae, i⟩ := bS hm
 refine lF (fun Z => fun _ => fun T e' hp' => [(0, sv ac p ad), (1, .func (.func 131) #[] #[pb m]), (7, iv ((p.length : Int))), (8, iv ((Z : Int)))] = e' ∧ (m, Cl 31 [pb n]) :: (n, Cl 57 [sv z q A, sv B r C, sv D s E, sv F t G, sv H w I, sv J x K, sv L y O, sv A3 k c4, sv A8 l c9, .map (some S)]) :: (e ++ (f ++ (c ++ (d ++ R)))) = hp' ∧ b.Le T) ae ⟨rfl, rfl, lr⟩ ?_ ?_
 rintro Z _ T _ _ aF an ⟨rfl, rfl, a⟩ h U
 unfold q0z at h
 have hm := h
 refine Cr<|tS (lT rfl rfl (by omega))<|Te<|Cs<|j1 rfl<|Ck<|Xn<|Cs<|Cb<|Cr<|mV rfl<|aS rfl<|Te<|Cr<|mV rfl<|mV rfl<|mV rfl ?_
 obtain ⟨g, al, aB, af, aC, ag, W, V, X, hm⟩ := bF (sz := 3) hm (aj.le a)
 obtain ⟨_, _, rfl, rfl, ⟨_, _, rfl, rfl, rfl⟩⟩ := ag
 refine tS (sI al rfl rfl af X V q6w)<|tS (sP (vs := [iv g.Section, iv g.In, iv g.Out]) 3 rfl q3r V rfl (fun j u hu => W j u hu)) ?_
 obtain ⟨am, Y, hm⟩ := bS hm
 refine v8 1 rfl<|v8 1 rfl<|Q4 e f c d<|Q4 d e f c<|Q4 c d e f<|Q4 f c d e<|w9 [_, _] [] e f c d R rfl<|Tv #[] #[pb m] [.agg #[iv g.Section, iv g.In, iv g.Out]] rfl rfl j2b rfl (z0h _ _ g q r s t w x y k l aa ab ads m n z A B C D E F G H I J K L O A3 c4 e A8 c9 f S c d (ao.le a) (aq.le a) (ar.le a) (au.le a) (av.le a) (aw.le a) (ax.le a) (h5.le a) (ay.le a) (az.le a) (aA.le a) am Y) ?_
 rintro _ aG _ o ⟨rfl, rfl⟩
 refine K9 [_, _] [] e f c d R rfl<|Te<|cB hm rfl (fun hm => ?_) fun hm => ?_
 refine Cr<|mV rfl<|aS rfl<|Te<|Ct<|Xb<|Xr<|Xr<|Xb<|Xr ?_
 have ah := U _ (Option.some.inj hm).symm
 rw [ah] at i
 have hm := k8 i
 obtain rfl := o1 hm
 exact rO ⟨rfl, rfl⟩ (a.trans o)
 refine Ck<|Xm<|Xn<|Cg<|tS (sa rfl rfl (by omega))<|mV rfl<|Tn ?_
 exact jM hm ⟨rfl, rfl, ((a.trans o))⟩
 rintro _ T _ _ ⟨rfl, rfl, a⟩ ai
 rw [ai] at i
 have hm := J5 i
 refine Cr<|tS (lF rfl rfl (by omega))<|Te<|Cs<|j0 rfl<|Ce<|Xe<|Xe<|Xo<|Xn<|Cr<|aS rfl<|Te<|Ct ?_
 obtain rfl := o1 hm
 exact rO ⟨rfl, rfl⟩ a
theorem q5Y (b : Base) (R : Hp) (p h i j k l m n f g H I) (ads : Int → Nat) (q o J K r s t u w x y z A B C D E F T U d V W e G a c) (X : FZ w6 b.w J K p) (Y : FZ RT.str b.w r s h) (Z : FZ rApiSection b.w t u i) (aa : FZ rApiLink b.w w x j) (ab : FZ rApiSignal b.w y z k) (ac : FZ rApiGate b.w A B l) (ad : FZ j3 b.w C D m) (ae : FZ (RT.list z4) b.w E F n) (h5 : OS 59 (OT.fr z7) b.w (sv T f U) f d) (af : OS 127 (OT.fr z8) b.w (sv V g W) g e) (ag : OM rI (OT.fr (RT.key ads)) false false b.w G H a) (ah : OAr 85 q9 ads b.w I c) (S) (hm : J9 p h i j k l m n f g H I = some S):
 CallsG Tryz.prog 123 [sv J p K, .func (.func 131) #[] #[pb q]] b ((q, Cl 31 [pb o]) :: (o, Cl 57 [sv r h s, sv t i u, sv w j x, sv y k z, sv A l B, sv C m D, sv E n F, sv T f U, sv V g W, .map (some G)]) :: (d ++ (e ++ (a ++ (c ++ R))))) (fun v b' hp' => bv S = v ∧ (q, Cl 31 [pb o]) :: (o, Cl 57 [sv r h s, sv t i u, sv w j x, sv y k z, sv A l B, sv C m D, sv E n F, sv T f U, sv V g W, .map (some G)]) :: (d ++ (e ++ (a ++ (c ++ R)))) = hp') := by
 refine fE 9 Tryz.func123 rfl Tryz.ntmps123 rfl ?_
 unfold J9 at hm
 refine Cr<|aS rfl<|Te<|Cr<|mV rfl<|mV rfl ?_
 obtain ⟨ai, L, hm⟩ := bS hm
 refine v8 1 rfl<|v8 1 rfl<|Q4 d e a c<|Q4 c d e a<|Q4 a c d e<|Q4 e a c d<|w9 [_, _] [] d e a c R rfl<|Tg _ rfl z4I rfl (q7z _ _ p h i j k l m n f g H I ads q o J K r s t u w x y z A B C D E F T U d V W e G a c X Y Z aa ab ac ad ae h5 af ag ah ai L) ?_
 rintro _ aj _ O ⟨rfl, rfl⟩
 refine K9 [_, _] [] d e a c R rfl<|tS (q6 rfl rfl)<|aS rfl<|Te<|Ct ?_
 obtain rfl := o1 hm
 exact rO ⟨rfl, rfl⟩ O
theorem z2F (b : Base) (R : Hp) (aP : (Option Int)) (S T U V p W X bd F G bM) (ads : Int → Nat) (C Z aa ab ac ad ae af ag H I ah ai aj ak i A6 c7 g al am c an d) (cK : FZ RT.str b.w Z aa S) (cO : FZ rApiSection b.w ab ac T) (cP : FZ rApiLink b.w ad ae U) (cQ : FZ rApiSignal b.w af ag V) (bN : FZ rApiGate b.w H I p) (cR : FZ j3 b.w ah ai W) (cT : FZ (RT.list z4) b.w aj ak X) (h3 : OAr 85 q9 ads b.w bd i) (h8 : OS 59 (OT.fr z7) b.w (sv A6 F c7) F g) (ci : OS 127 (OT.fr z8) b.w (sv al G am) G c) (cU : OM rI (OT.fr (RT.key ads)) false false b.w an bM d) (bH) (hm : q2k aP S T U V p W X bd F G bM = some bH):
 CallsG Tryz.prog 114 [pb C, kv ads aP] b ((C, Cl 57 [sv Z S aa, sv ab T ac, sv ad U ae, sv af V ag, sv H p I, sv ah W ai, sv aj X ak, sv A6 F c7, sv al G am, .map (some an)]) :: (i ++ (g ++ (c ++ (d ++ R))))) (fun v b' hp' => bv bH = v ∧ (C, Cl 57 [sv Z S aa, sv ab T ac, sv ad U ae, sv af V ag, sv H p I, sv ah W ai, sv aj X ak, sv A6 F c7, sv al G am, .map (some an)]) :: (i ++ (g ++ (c ++ (d ++ R)))) = hp') := by
 refine fE 92 Tryz.func114 rfl Tryz.ntmps114 rfl ?_
 unfold q2k at hm
 refine Cr<|tD (uB _ rfl rfl) ?_
 rintro _ _ ⟨q, rfl, rfl⟩
 refine aS rfl<|Te<|Cs<|Cr<|mV rfl ?_
 obtain ⟨Y, be, hm⟩ := bS hm
 refine q4j [] [_, _] i (g ++ (c ++ (d ++ R))) rfl<|Tg _ rfl z5E rfl (q2u _ _ aP bd ads i h3 Y be) ?_
 rintro _ cj _ f ⟨bI, bJ, k, rfl, rfl, bK⟩
 refine z5V [] [_, _] k i (g ++ (c ++ (d ++ R))) rfl<|tS (sE rfl q4J)<|mV rfl<|Te<|Cb ?_
 have cV : Y.length ≤ 9223372036854775807 := (OS.len bK)
 refine Cp 1 rfl<|Cp 1 rfl<|q0v k i g c d<|q0v d k i g c<|q0v c d k i g<|q0v g c d k i<|q0v i g c d k ?_
 obtain ⟨ds, bO, ao⟩ := bS hm
 refine lF (fun aQ => fun _ => fun az e' hp' => [(1, kv ads aP), (2, pb q), (11, sv bI Y bJ), (12, iv ((Y.length : Int))), (13, iv ((aQ : Int)))] = e' ∧ (q, Cl 31 [pb C]) :: (C, Cl 57 [sv Z S aa, sv ab T ac, sv ad U ae, sv af V ag, sv H p I, sv ah W ai, sv aj X ak, sv A6 F c7, sv al G am, .map (some an)]) :: (k ++ (i ++ (g ++ (c ++ (d ++ R))))) = hp' ∧ cj.Le az) bO ⟨rfl, rfl, lr⟩ ?_ ?_
 rintro aQ _ az _ _ cW ck ⟨rfl, rfl, a⟩ J aO
 unfold q0F at J
 have hm := J
 refine Cr<|tS (lT rfl rfl (by omega))<|Te<|Cs<|j1 rfl<|Ck<|Xn<|Cs<|Cb<|Cr ?_
 obtain ⟨aA, cl, hm⟩ := bS hm
 obtain ⟨cm, bP, bQ⟩ := iS cl
 obtain ⟨cX, cY, dt, du, cZ, bR, bf, aR, bg, c0, cq⟩ := OS.get (sz := 4) rfl (by decide) (bK.le a) bQ
 obtain ⟨⟨_, _, rfl, rfl, ⟨_, _, rfl, rfl, ⟨_, _, rfl, rfl, rfl⟩⟩⟩, rfl⟩ := bR
 refine tS (sI cm rfl rfl bP bg aR q4J)<|tS (j8 (vs := [iv aA.Kind, iv aA.Place, iv aA.Position, iv aA.At]) 4 rfl Y1 aR rfl (fun w ho j u hu => bf w _ ho (.cons _ (.cons _ (List.sublist_append_left _ _))) j u hu))<|tD (uA [iv 0, iv 0, iv 0, iv 0] q4F rfl) ?_
 rintro _ _ ⟨dv, rfl, rfl⟩
 refine tD (uN (vs := [_, _, _, _]) 0 4 rfl rfl rfl q6Z rfl (mc rfl (mc rfl (mc rfl (mc rfl mn)))) rfl (by simp)) ?_
 rintro _ _ rfl
 refine Te ?_
 obtain ⟨cn, bT, bU⟩ := bS hm
 refine Cj (fun bL e' hp' => [(1, kv ads aP), (2, pb q), (11, sv bI Y bJ), (12, iv ((Y.length : Int))), (13, iv ((aQ : Int))), (45, bv cn)] = e' ∧ (q, Cl 31 [pb C]) :: (C, Cl 57 [sv Z S aa, sv ab T ac, sv ad U ae, sv af V ag, sv H p I, sv ah W ai, sv aj X ak, sv A6 F c7, sv al G am, .map (some an)]) :: (k ++ (i ++ (g ++ (c ++ (d ++ R))))) = hp' ∧ az.Le bL) ?_ ?_
 have hm := bT
 by_cases r : 0 < aA.Position
 rw [if_pos r] at hm
 obtain ⟨l, aT, hm⟩ := bS hm
 obtain ⟨aD, aB, hm⟩ := bS hm
 rcases Bool.eq_false_or_eq_true aD with s | s
 rw [if_pos s] at hm
 obtain ⟨c1, bV, hm⟩ := bS hm
 refine Di Q5 (.refl _)<|E0 0 rfl (sF rfl P5)<|Es 1 rfl (sL 0 rfl j4 rfl rfl)<|E0 2 rfl (q9a rfl rfl r)<|E0 3 rfl (sM rfl)<|Ey 4 20 rfl (sL 1 rfl z6g rfl rfl)<|Yz 5 20 rfl (sN rfl)<|Yz 6 20 rfl (sF rfl Q6)<|Ey 7 20 rfl (sL 2 rfl q1v rfl rfl)<|Yz 8 20 rfl (sF rfl q2r)<|Ey 9 20 rfl (sL 0 rfl j4 rfl rfl) ?_
 obtain ⟨aE, aq, ar⟩ := iS aT
 obtain ⟨bh, bi, bW, bX, bj, au, K, t, L, bk, aU⟩ := OS.get (sz := 5) rfl (by decide) (h8.le (f.trans a)) ar
 obtain ⟨⟨_, _, rfl, rfl, ⟨_, _, rfl, rfl, ⟨_, _, rfl, rfl, ⟨_, _, rfl, rfl, rfl⟩⟩⟩⟩, rfl⟩ := au
 refine Yz 10 20 rfl (sI aE rfl rfl aq L t q4e)<|Ey 11 20 rfl (j8 (vs := [iv l.axles, bv l.disturbed, iv l.position, iv l.moving, bv l.failed]) 5 rfl q6S t rfl (fun w ho j u hu => K w _ ho (.cons _ (.cons _ (.cons _ (ss k (ss i (List.sublist_append_left _ _)))))) j u hu))<|Eo<|Da [12] (by kernel_rfl) rfl<|q3m lr rfl rfl 20 rfl rfl rfl (uW _ z8j rfl (fun w ho => q5m _ [] l aD aB) (fun _ _ _ h => h.2.symm)) ?_ ?_
 rintro _ _ ⟨⟨_, rfl, _⟩, rfl⟩
 refine iR<|q3p 29 rfl (v' := .bool true) (by rw [s])<|Ei lr (.refl _)<|Yz 13 20 rfl (Z4 rfl)<|Yz 14 20 rfl (sM rfl)<|Ey 15 31 rfl (sL 1 rfl z6g rfl rfl)<|Yz 16 31 rfl (sN rfl)<|Yz 17 31 rfl (sF rfl Q6)<|Ey 18 31 rfl (sL 2 rfl q1v rfl rfl)<|Yz 19 31 rfl (sF rfl q2r)<|Ey 20 31 rfl (sL 0 rfl j4 rfl rfl) ?_
 obtain ⟨bY, bl, bm⟩ := iS bV
 obtain ⟨cr, cs, c2, c3, ct, bn, aV, aJ, aW, cu, co⟩ := OS.get (sz := 5) rfl (by decide) (h8.le (f.trans a)) bm
 obtain ⟨⟨_, _, rfl, rfl, ⟨_, _, rfl, rfl, ⟨_, _, rfl, rfl, ⟨_, _, rfl, rfl, rfl⟩⟩⟩⟩, rfl⟩ := bn
 refine Yz 21 31 rfl (sI bY rfl rfl bl aW aJ q4e)<|Yz 22 31 rfl (sQ rfl aJ q3S)<|Ey 23 31 rfl (z9 rfl j4 (fun w ho => aV w _ ho (.cons _ (.cons _ (.cons _ (ss k (ss i (List.sublist_append_left _ _)))))) 2 _ rfl))<|Yz 24 31 rfl (sF rfl P5)<|Ey 25 31 rfl (sL 0 rfl j4 rfl rfl)<|Yz 26 31 rfl (q2 rfl rfl)<|Yz 27 20 rfl (pF rfl rfl)<|E0 28 rfl (pT rfl rfl)<|Eo<|Dd (by kernel_rfl) ?_
 obtain rfl := o1 hm
 exact jJ ⟨rfl, rfl, lr⟩
 exact Rn
 rw [if_neg (fun hh => Bool.noConfusion (hh.symm.trans s))] at hm
 refine Di Q5 (.refl _)<|E0 0 rfl (sF rfl P5)<|Es 1 rfl (sL 0 rfl j4 rfl rfl)<|E0 2 rfl (q9a rfl rfl r)<|E0 3 rfl (sM rfl)<|Ey 4 20 rfl (sL 1 rfl z6g rfl rfl)<|Yz 5 20 rfl (sN rfl)<|Yz 6 20 rfl (sF rfl Q6)<|Ey 7 20 rfl (sL 2 rfl q1v rfl rfl)<|Yz 8 20 rfl (sF rfl q2r)<|Ey 9 20 rfl (sL 0 rfl j4 rfl rfl) ?_
 obtain ⟨aE, aq, ar⟩ := iS aT
 obtain ⟨bh, bi, bW, bX, bj, au, K, t, L, bk, aU⟩ := OS.get (sz := 5) rfl (by decide) (h8.le (f.trans a)) ar
 obtain ⟨⟨_, _, rfl, rfl, ⟨_, _, rfl, rfl, ⟨_, _, rfl, rfl, ⟨_, _, rfl, rfl, rfl⟩⟩⟩⟩, rfl⟩ := au
 refine Yz 10 20 rfl (sI aE rfl rfl aq L t q4e)<|Ey 11 20 rfl (j8 (vs := [iv l.axles, bv l.disturbed, iv l.position, iv l.moving, bv l.failed]) 5 rfl q6S t rfl (fun w ho j u hu => K w _ ho (.cons _ (.cons _ (.cons _ (ss k (ss i (List.sublist_append_left _ _)))))) j u hu))<|Eo<|Da [12] (by kernel_rfl) rfl<|q3m lr rfl rfl 20 rfl rfl rfl (uW _ z8j rfl (fun w ho => q5m _ [] l aD aB) (fun _ _ _ h => h.2.symm)) ?_ ?_
 rintro _ _ ⟨⟨_, rfl, _⟩, rfl⟩
 refine iR<|q3p 29 rfl (v' := .bool false) (by rw [s])<|Ei lr (.refl _)<|Yz 13 20 rfl (V2 rfl)<|Yz 14 20 rfl (sM rfl)<|eN 15 rfl<|eN 16 rfl<|eN 17 rfl<|eN 18 rfl<|eN 19 rfl<|eN 20 rfl<|eN 21 rfl<|eN 22 rfl<|eN 23 rfl<|eN 24 rfl<|eN 25 rfl<|eN 26 rfl<|Yz 27 20 rfl (pT rfl rfl)<|E0 28 rfl (pT rfl rfl)<|Eo<|Dd (by kernel_rfl) ?_
 obtain rfl := o1 hm
 exact jJ ⟨rfl, rfl, lr⟩
 exact Rn
 rw [if_neg r] at hm
 refine Di Q5 (.refl _)<|E0 0 rfl (sF rfl P5)<|Es 1 rfl (sL 0 rfl j4 rfl rfl)<|E0 2 rfl (z1S rfl rfl r)<|E0 3 rfl (sM rfl)<|eN 4 rfl<|eN 5 rfl<|eN 6 rfl<|eN 7 rfl<|eN 8 rfl<|eN 9 rfl<|eN 10 rfl<|eN 11 rfl<|eN 12 rfl<|eN 13 rfl<|eN 14 rfl<|eN 15 rfl<|eN 16 rfl<|eN 17 rfl<|eN 18 rfl<|eN 19 rfl<|eN 20 rfl<|eN 21 rfl<|eN 22 rfl<|eN 23 rfl<|eN 24 rfl<|eN 25 rfl<|eN 26 rfl<|eN 27 rfl<|E0 28 rfl (pF rfl rfl)<|Eo<|Dd (by kernel_rfl) ?_
 obtain rfl := o1 hm
 exact jJ ⟨rfl, rfl, lr⟩
 rintro bL _ _ ⟨rfl, rfl, aK⟩
 have hm := bU
 refine cB hm rfl (fun hm => ?_) fun hm => ?_
 refine Cr<|aS rfl<|Te<|Ct<|Xb<|Xr<|Xr<|Xb<|Xr ?_
 have bo := aO _ (Option.some.inj hm).symm
 rw [bo] at ao
 have hm := k8 ao
 obtain rfl := o1 hm
 exact rO ⟨rfl, rfl⟩ (f.trans (a.trans aK))
 refine Ck<|Xm<|Xn<|Cg<|tS (sa rfl rfl (by omega))<|mV rfl<|Tn ?_
 exact jM hm ⟨rfl, rfl, ((a.trans aK))⟩
 rintro _ az _ _ ⟨rfl, rfl, a⟩ bp
 rw [bp] at ao
 have hm := J5 ao
 refine Cr<|tS (lF rfl rfl (by omega))<|Te<|Cs<|j0 rfl<|Ce<|Xe<|Xe<|Xo<|Xn<|Cs<|Cr<|tS (sL 0 rfl z6g rfl rfl)<|tS (sN rfl)<|tS (sF rfl q5g)<|tS (sF rfl q5h)<|tS (sL 1 rfl z2e rfl rfl)<|tS (sE rfl z5d)<|mV rfl<|Te<|Cb ?_
 have cv : p.length ≤ 9223372036854775807 := (FZ.bd (bN.le (f.trans a)))
 refine Cp 1 rfl<|Cp 1 rfl<|q0v k i g c d<|q0v d k i g c<|q0v c d k i g<|q0v g c d k i ?_
 obtain ⟨c4, bq, E⟩ := bS hm
 refine lF (fun aF => fun aG => fun av e' hp' => [(1, kv ads aG), (2, pb q), (51, sv H p I), (52, iv ((p.length : Int))), (53, iv ((aF : Int)))] = e' ∧ (q, Cl 31 [pb C]) :: (C, Cl 57 [sv Z S aa, sv ab T ac, sv ad U ae, sv af V ag, sv H p I, sv ah W ai, sv aj X ak, sv A6 F c7, sv al G am, .map (some an)]) :: (i ++ (g ++ (c ++ (d ++ R)))) = hp' ∧ az.Le av) bq ⟨rfl, rfl, lr⟩ ?_ ?_
 rintro aF aG av _ _ cw ch ⟨rfl, rfl, e⟩ D aH
 unfold q0d at D
 have hm := D
 refine Cr<|tS (lT rfl rfl (by omega))<|Te<|Cs<|j1 rfl<|Ck<|Xn<|Cs<|Cb<|Cr<|mV rfl ?_
 have zz := f.trans (a.trans e)
 obtain ⟨aw, bZ, cx, br, cy, bs, aX, aL, aY, hm⟩ := bF (sz := 2) hm (bN.le zz)
 obtain ⟨_, _, rfl, rfl, rfl⟩ := bs
 refine tS (sI bZ rfl rfl br aY aL z5d)<|tS (sP (vs := [iv aw.Section, iv aw.Close]) 2 rfl z5P aL rfl (fun j u hu => aX j u hu))<|tD (uA [iv 0, iv 0] z1H rfl) ?_
 rintro _ _ ⟨b0, rfl, rfl⟩
 refine aS rfl<|tD (uN (vs := [_, _]) 0 2 rfl rfl rfl z5e rfl (mc rfl (mc rfl mn)) rfl (by simp)) ?_
 rintro _ _ rfl
 refine Te<|Cr<|mV rfl ?_
 obtain ⟨aI, aZ, hm⟩ := bS hm
 obtain ⟨b1, b2, hm⟩ := bS hm
 refine Tr 1 rfl (v' := .pointer (some ⟨(ads aI), 0, none⟩)) (by rw [aZ]; rfl)<|Tr 58 rfl (v' := .pointer (some ⟨(ads aI), 0, none⟩)) (by rw [aZ]; rfl) ?_
 obtain ⟨cz, cA, x, aM, bt, hf1269⟩ := OAr.take (h3.le zz) b2
 obtain ⟨b3, b4, c5, c6, c8, c9, y, da, db, z, rfl, b5, dc, dd, de, rfl⟩ := bt
 refine q1y [_, _, _] i x y z (g ++ (c ++ (d ++ R))) rfl aM<|tS (sN rfl)<|tS (sF rfl q1U)<|tS (sF rfl q0j)<|tS (sL 0 rfl q3J rfl rfl)<|tS (q4A _ _ rfl rfl) ?_
 obtain ⟨a0, a1, hm⟩ := bS hm
 refine v8 1 rfl<|Tg _ rfl z4J rfl (q5Z _ _ b1.Route.Steps aw.Section aw.Close b0 b3 b4 b5 a0 a1) ?_
 rintro _ b6 _ O ⟨rfl, rfl⟩
 refine aS rfl<|Te<|Cp 1 rfl<|j1T y z x<|j1T x y z<|j1T z x y<|z3z [_, _, _] i x y z (g ++ (c ++ (d ++ R))) rfl aM ?_
 obtain ⟨b7, bu, bw⟩ := bS hm
 refine Cj (fun a2 e' hp' => [(1, kv ads (some aI)), (2, pb q), (51, sv H p I), (52, iv ((p.length : Int))), (53, iv ((aF : Int))), (76, bv b7)] = e' ∧ (q, Cl 31 [pb C]) :: (C, Cl 57 [sv Z S aa, sv ab T ac, sv ad U ae, sv af V ag, sv H p I, sv ah W ai, sv aj X ak, sv A6 F c7, sv al G am, .map (some an)]) :: (i ++ (g ++ (c ++ (d ++ R)))) = hp' ∧ b6.Le a2) ?_ ?_
 have hm := bu
 refine Cg<|mV rfl ?_
 rcases Bool.eq_false_or_eq_true a0 with A | A
 rw [if_pos A] at hm
 refine Tr 65 rfl (v' := .bool true) (by rw [A] <;> rfl)<|mV rfl<|yS<|tS (sL 1 rfl z6g rfl rfl)<|yS<|tS (sN rfl)<|yS<|tS (sF rfl q3l)<|yS<|tS (sL 2 rfl q8H rfl rfl)<|yS<|mV rfl<|yS ?_
 obtain ⟨ax, b8, hm⟩ := bS hm
 obtain ⟨b9, bx, bz⟩ := iS b8
 obtain ⟨cC, cD, df, dg, cE, bA, a3, aN, a4, cG, cp⟩ := OS.get (sz := 3) rfl (by decide) (ci.le (f.trans (a.trans (e.trans O)))) bz
 obtain ⟨⟨_, _, rfl, rfl, ⟨_, _, rfl, rfl, rfl⟩⟩, rfl⟩ := bA
 refine tS (sI b9 rfl rfl bx a4 aN q9E)<|yS<|tS (j8 (vs := [iv ax.left, bv ax.wanted, bv ax.failed]) 3 rfl j0T aN rfl (fun w ho j u hu => a3 w _ ho (.cons _ (.cons _ (.cons _ (ss i (ss g (List.sublist_append_left _ _)))))) j u hu))<|yS ?_
 obtain ⟨ca, a5, hm⟩ := bS hm
 refine tD (uW _ j0H rfl (fun w ho => q6d _ [] ax ca a5) (fun _ _ _ h => h.2.symm)) ?_
 rintro _ _ ⟨⟨_, rfl, _⟩, rfl⟩
 refine yS<|tS (sn2 rfl)<|tS (pT rfl rfl)<|Tn ?_
 obtain rfl := o1 hm
 exact jJ ⟨rfl, rfl, lr⟩
 rw [if_neg (fun hh => Bool.noConfusion (hh.symm.trans A))] at hm
 refine Tr 65 rfl (v' := .bool false) (by rw [A] <;> rfl)<|mV rfl<|nO<|nO<|nO<|nO<|nO<|nO<|nO<|nO<|nO<|tS (pF rfl rfl)<|Tn ?_
 obtain rfl := o1 hm
 exact jJ ⟨rfl, rfl, lr⟩
 rintro a2 _ _ ⟨rfl, rfl, aC⟩
 have hm := bw
 refine cB hm rfl (fun hm => ?_) fun hm => ?_
 refine Cr<|aS rfl<|Te<|Ct<|Xb<|Xr<|Xr<|Xb<|Xr ?_
 have bB := aH _ (Option.some.inj hm).symm
 rw [bB] at E
 have hm := k8 E
 obtain rfl := o1 hm
 exact rO ⟨rfl, rfl⟩ (f.trans (a.trans (e.trans (O.trans aC))))
 refine Ck<|Xm<|Xn<|Cg<|tS (sa rfl rfl (by omega))<|mV rfl<|Tn ?_
 exact jM hm ⟨rfl, rfl, ((e.trans (O.trans aC)))⟩
 rintro aG av _ _ ⟨rfl, rfl, e⟩ bC
 rw [bC] at E
 have hm := J5 E
 refine Cr<|tS (lF rfl rfl (by omega))<|Te<|Cs<|j0 rfl<|Ce<|Xe<|Xe<|Xo<|Xn ?_
 obtain ⟨cb, bD, bE⟩ := bS hm
 refine Cj (fun a6 e' hp' => [(4, bv cb)] = e' ∧ (C, Cl 57 [sv Z S aa, sv ab T ac, sv ad U ae, sv af V ag, sv H p I, sv ah W ai, sv aj X ak, sv A6 F c7, sv al G am, .map (some an)]) :: (i ++ (g ++ (c ++ (d ++ R)))) = hp' ∧ av.Le a6) ?_ ?_
 have hm := bD
 refine Cg<|mV rfl ?_
 obtain ⟨a7, a8, hm⟩ := bS hm
 obtain ⟨a9, cc, hm⟩ := bS hm
 refine Tr 1 rfl (v' := .pointer (some ⟨(ads a7), 0, none⟩)) (by rw [a8]; rfl)<|Tr 78 rfl (v' := .pointer (some ⟨(ads a7), 0, none⟩)) (by rw [a8]; rfl) ?_
 obtain ⟨cH, cJ, m, ay, bG, hf1375⟩ := OAr.take (h3.le (f.trans (a.trans e))) cc
 obtain ⟨cd, ce, dh, di, dj, dk, n, dl, dm, o, rfl, cf, dn, dp, dq, rfl⟩ := bG
 refine q1y [_, _] i m n o (g ++ (c ++ (d ++ R))) rfl ay<|tS (sN rfl)<|tS (sF rfl z7V)<|tS (sL 0 rfl q4b rfl rfl) ?_
 rcases Bool.eq_false_or_eq_true a9.sight with B | B
 rw [if_pos B] at hm
 refine Tr 81 rfl (v' := .bool true) (by rw [B] <;> rfl)<|mV rfl<|nO<|nO<|nO<|nO<|nO<|nO<|nO<|nO<|tS (pT rfl rfl)<|aS rfl<|Tn<|V8 n o m<|V8 m n o<|V8 o m n<|q1X [_, _] i m n o (g ++ (c ++ (d ++ R))) rfl ay ?_
 obtain rfl := o1 hm
 exact jJ ⟨rfl, rfl, lr⟩
 rw [if_neg (fun hh => Bool.noConfusion (hh.symm.trans B))] at hm
 refine Tr 81 rfl (v' := .bool false) (by rw [B] <;> rfl)<|mV rfl<|yS<|mV rfl<|yS<|tS (sN rfl)<|yS<|tS (sF rfl q1U)<|yS<|tS (sF rfl q0j)<|yS<|tS (sL 0 rfl q3J rfl rfl)<|yS<|tS (q4A _ _ rfl rfl)<|yS<|j1j n o m<|j1j m n o<|j1j o m n<|j2J [_, _] i m n o (g ++ (c ++ (d ++ R))) rfl ay ?_
 obtain ⟨cg, ba, hm⟩ := bS hm
 have zy := f.trans (a.trans e)
 refine v8 1 rfl<|v8 1 rfl<|Q4 i g c d<|Q4 d i g c<|Q4 c d i g<|w9 [_, _] [] g c d i R rfl<|Tg _ rfl z4J rfl (q5Y _ _ a9.Route.Steps S T U V p W X F G bM bd ads q C cd ce Z aa ab ac ad ae af ag H I ah ai aj ak A6 c7 g al am c an d i cf (cK.le zy) (cO.le zy) (cP.le zy) (cQ.le zy) (bN.le zy) (cR.le zy) (cT.le zy) (h8.le zy) (ci.le zy) (cU.le zy) (h3.le zy) cg ba) ?_
 rintro _ dr _ bb ⟨rfl, rfl⟩
 refine K9 [_, _] [] g c d i R rfl<|yS<|tS (sn2 rfl)<|tS (pF rfl rfl)<|aS rfl<|Tn ?_
 obtain rfl := o1 hm
 exact jJ ⟨rfl, rfl, bb⟩
 rintro a6 _ _ ⟨rfl, rfl, bc⟩
 have hm := bE
 refine Ct ?_
 obtain rfl := o1 hm
 exact rO ⟨rfl, rfl⟩ (f.trans (a.trans (e.trans bc)))
theorem q8Q : ∀ (N : Nat) (b : Base) (R : Hp) (E O S T U V W X G H I aH aI) (ads : Int → Nat) (J ac ad ae af ag ah ai aj ak al am an ao aq A3 c4 n A8 c9 j ar au e av f k) (aU : FZ RT.str b.w ac ad O) (aV : FZ rApiSection b.w ae af S) (aW : FZ rApiLink b.w ag ah T) (aX : FZ rApiSignal b.w ai aj U) (aY : FZ rApiGate b.w ak al V) (aZ : FZ j3 b.w am an W) (a0 : FZ (RT.list z4) b.w ao aq X) (h5 : OS 3 (OT.fr rI) b.w (sv A3 G c4) G n) (a1 : OS 59 (OT.fr z7) b.w (sv A8 H c9) H j) (a2 : OS 127 (OT.fr z8) b.w (sv ar I au) I e) (a3 : OM rI (OT.fr (RT.key ads)) false false b.w av aH f) (aG : OAr 85 q9 ads b.w aI k) (aJ az) (hm : v4 N E O S T U V W X G H I aH aI = some (aJ, az)),
 CallsG Tryz.prog 81 [pb J, iv E, sv A3 G c4] b ((J, Cl 57 [sv ac O ad, sv ae S af, sv ag T ah, sv ai U aj, sv ak V al, sv am W an, sv ao X aq, sv A8 H c9, sv ar I au, .map (some av)]) :: (n ++ (j ++ (e ++ (f ++ (k ++ R)))))) (fun v b' hp' => ∃ bQ bR ba, iv aJ = v ∧ (J, Cl 57 [sv ac O ad, sv ae S af, sv ag T ah, sv ai U aj, sv ak V al, sv am W an, sv ao X aq, sv A8 H c9, sv ar I au, .map (some av)]) :: (ba ++ (j ++ (e ++ (f ++ (k ++ R))))) = hp' ∧ OS 3 (OT.fr rI) b'.w (sv bQ az bR) az ba) := by
  intro N
  induction N with
  | zero =>
    intro b R E O S T U V W X G H I aH aI ads J ac ad ae af ag ah ai aj ak al am an ao aq A3 c4 n A8 c9 j ar au e av f k aU aV aW aX aY aZ a0 h5 a1 a2 a3 aG aJ az hm
    unfold v4 at hm
    cases hm
  | succ N ih =>
   intro b R E O S T U V W X G H I aH aI ads J ac ad ae af ag ah ai aj ak al am an ao aq A3 c4 n A8 c9 j ar au e av f k aU aV aW aX aY aZ a0 h5 a1 a2 a3 aG aJ az hm
   refine fE 74 Tryz.func81 rfl Tryz.ntmps81 rfl ?_
   unfold v4 at hm
   refine Cr<|aS rfl<|Te<|Cs<|Cr<|mV rfl<|mV rfl ?_
   obtain ⟨bT, bb, hm⟩ := bS hm
   refine tD (uW _ j0P rfl (fun w ho => q4R _ [] G E A3 c4 (OS.now (o := (OT.fr rI)) (l := G) (hs := n) h5 ho (.cons _ (List.sublist_append_left _ _))) bT bb) (fun _ _ _ h => h.2.symm)) ?_
   rintro _ _ ⟨⟨_, rfl, _⟩, rfl⟩
   refine Te ?_
   refine cB hm rfl (fun hm => ?_) fun hm => ?_
   refine Cr<|aS rfl<|Te<|Ct<|Xr ?_
   obtain ⟨rfl, rfl⟩ := j9 hm
   exact rO ⟨A3, c4, n, rfl, rfl, h5⟩ lr
   refine Ck<|Xn<|Cs<|Cr<|mV rfl ?_
   obtain ⟨aw, bc, hm⟩ := bS hm
   refine q1Z n j e f k<|q1Z k n j e f<|q1Z f k n j e<|q1Z e f k n j<|w9 [_] [] j e f k (n ++ R) rfl<|Tg _ rfl z5F rfl (q3B _ _ O S T U V W X H I aH aI ads J ac ad ae af ag ah ai aj ak al am an ao aq A8 c9 j ar au e av f k aU aV aW aX aY aZ a0 a1 a2 a3 aG aw bc) ?_
   rintro _ bU _ d ⟨bd, be, a, rfl, rfl, bf⟩
   refine z0C [_] [] a j e f k (n ++ R) rfl<|tS (sE rfl z1X)<|mV rfl<|Te<|Cb ?_
   have cc : aw.length ≤ 9223372036854775807 := (OS.len bf)
   refine K0 a j e f k<|K0 k a j e f<|K0 f k a j e<|K0 e f k a j<|K0 j e f k a<|z8e a j e f k n ?_
   obtain ⟨cs, br, D⟩ := bS hm
   refine lF (fun a4 => fun _ => fun aK e' hp' => [(0, pb J), (1, iv E), (2, sv A3 G c4), (13, sv bd aw be), (14, iv ((aw.length : Int))), (15, iv ((a4 : Int)))] = e' ∧ (J, Cl 57 [sv ac O ad, sv ae S af, sv ag T ah, sv ai U aj, sv ak V al, sv am W an, sv ao X aq, sv A8 H c9, sv ar I au, .map (some av)]) :: (n ++ (a ++ (j ++ (e ++ (f ++ (k ++ R)))))) = hp' ∧ bU.Le aK) br ⟨rfl, rfl, lr⟩ ?_ ?_
   rintro a4 _ aK _ _ cd b9 ⟨rfl, rfl, c⟩ ax K
   unfold v7 at ax
   have hm := ax
   refine Cr<|tS (lT rfl rfl (by omega))<|Te<|Cs<|j1 rfl<|Ck<|Xn<|Cs<|Cb<|Cr ?_
   obtain ⟨ct, bV, hm⟩ := bS hm
   obtain ⟨bW, bs, bt⟩ := iS bV
   obtain ⟨ce, cf, cu, cv, cg, bu, bg, bw, bh, ch, ca⟩ := OS.get (sz := 1) rfl (by decide) (bf.le c) bt
   obtain ⟨rfl, rfl⟩ := bu
   refine tS (sI bW rfl rfl bs bh bw z1X)<|tS (z9 rfl z9C (fun w ho => bg w _ ho (.cons _ (ss n (List.sublist_append_left _ _))) 0 _ rfl))<|aS rfl<|Te<|Cs ?_
   obtain ⟨⟨bX, bY⟩, bx, bz⟩ := bS hm
   refine Cj (fun a5 e' hp' => [(0, pb J), (1, iv E), (2, sv A3 G c4), (8, kv ads bX), (13, sv bd aw be), (14, iv ((aw.length : Int))), (15, iv ((a4 : Int))), (46, bv bY)] = e' ∧ (J, Cl 57 [sv ac O ad, sv ae S af, sv ag T ah, sv ai U aj, sv ak V al, sv am W an, sv ao X aq, sv A8 H c9, sv ar I au, .map (some av)]) :: (n ++ (a ++ (j ++ (e ++ (f ++ (k ++ R)))))) = hp' ∧ aK.Le a5) ?_ ?_
   have hm := bx
   refine Cg<|mV rfl ?_
   obtain ⟨aL, a6, hm⟩ := bS hm
   obtain ⟨cw, bZ, hm⟩ := bS hm
   refine Tr 8 rfl (v' := .pointer (some ⟨(ads aL), 0, none⟩)) (by rw [a6]; rfl)<|Tr 18 rfl (v' := .pointer (some ⟨(ads aL), 0, none⟩)) (by rw [a6]; rfl)<|Tr 19 rfl (v' := .pointer (some ⟨(ads aL), 0, none⟩)) (by rw [a6]; rfl) ?_
   obtain ⟨ci, cj, t, Y, bA, hf1850⟩ := OAr.take (aG.le (d.trans c)) bZ
   obtain ⟨cx, cy, cz, cA, cC, cD, u, cE, cG, x, rfl, cH, cJ, b0, cK, rfl⟩ := bA
   refine z1M n a j e f k<|q1y [_] k t u x (n ++ (a ++ (j ++ (e ++ (f ++ R))))) rfl Y<|tS (sN rfl)<|tS (sF rfl q1U)<|tS (sF rfl q5N)<|tS (sL 0 rfl j4 rfl rfl)<|mV rfl ?_
   refine Tb rfl (q2 rfl rfl) (fun aM => ?_) (fun aM => ?_)
   rw [if_pos aM] at hm
   refine mV rfl<|nO<|nO<|nO<|nO<|nO<|nO<|tS (pT rfl rfl)<|mV rfl<|nO ?_
   refine nO<|nO<|nO<|nO<|tS (pT rfl rfl)<|mV rfl<|nO<|nO<|nO<|nO ?_
   refine tS (pT rfl rfl)<|Tn<|Z7 u x t<|Z7 t u x<|Z7 x t u<|q1X [_] k t u x (n ++ (a ++ (j ++ (e ++ (f ++ R))))) rfl Y ?_
   obtain ⟨rfl, rfl⟩ := j9 hm
   exact jJ ⟨rfl, rfl, lr⟩
   rw [if_neg aM] at hm
   refine mV rfl<|yS<|mV rfl<|yS<|tS (sN rfl)<|yS<|tS (sF rfl q1T)<|yS<|tS (sL 0 rfl q4C rfl rfl)<|yS ?_
   obtain ⟨b1, b2, hm⟩ := bS hm
   obtain ⟨b3, bB, bC⟩ := iS b2
   obtain ⟨ck, cl, cO, cP, cm, bD, bi, bE, bj, cn, cb⟩ := OS.get (sz := 1) rfl (by decide) b0 bC
   obtain ⟨rfl, rfl⟩ := bD
   refine tS (sI b3 rfl rfl bB bj bE q8E)<|yS<|tS (z9 rfl q4b (fun w ho => bi w _ ho (.cons _ (.cons _ (List.sublist_append_left _ _))) 0 _ rfl)) ?_
   rcases Bool.eq_false_or_eq_true b1 with Z | Z
   rw [if_pos Z] at hm
   refine Tr 32 rfl (v' := .bool true) (by rw [Z] <;> rfl)<|tS (pF rfl rfl)<|mV rfl<|nO<|nO<|nO<|nO<|nO<|tS (pT rfl rfl)<|mV rfl ?_
   refine nO<|nO<|nO<|nO<|tS (pT rfl rfl)<|Tn<|Z7 u x t<|Z7 t u x<|Z7 x t u<|q1X [_] k t u x (n ++ (a ++ (j ++ (e ++ (f ++ R))))) rfl Y ?_
   obtain ⟨rfl, rfl⟩ := j9 hm
   exact jJ ⟨rfl, rfl, lr⟩
   rw [if_neg (fun hh => Bool.noConfusion (hh.symm.trans Z))] at hm
   refine Tr 32 rfl (v' := .bool false) (by rw [Z] <;> rfl)<|tS (pF rfl rfl)<|mV rfl<|yS<|mV rfl<|yS<|tS (sN rfl)<|yS<|tS (sF rfl q5f)<|yS ?_
   refine tS (sL 0 rfl j4 rfl rfl)<|yS ?_
   refine Tb rfl (q5 rfl rfl) (fun aN => ?_) (fun aN => ?_)
   rw [if_pos aN] at hm
   refine tS (pF rfl rfl)<|mV rfl<|nO<|nO<|nO<|nO<|tS (pT rfl rfl)<|Tn<|Z7 u x t<|Z7 t u x ?_
   refine Z7 x t u<|q1X [_] k t u x (n ++ (a ++ (j ++ (e ++ (f ++ R))))) rfl Y ?_
   obtain ⟨rfl, rfl⟩ := j9 hm
   exact jJ ⟨rfl, rfl, lr⟩
   rw [if_neg aN] at hm
   refine tS (pF rfl rfl)<|mV rfl<|yS<|mV rfl<|yS<|mV rfl<|yS<|z1N u x t<|z1N t u x<|z1N x t u ?_
   refine j2J [_] k t u x (n ++ (a ++ (j ++ (e ++ (f ++ R))))) rfl Y ?_
   obtain ⟨b4, bk, hm⟩ := bS hm
   refine z1M k n a j e f<|z1M f k n a j e<|z1M e f k n a j<|v5 j e f k<|w9 [_] [] k j e f (n ++ (a ++ R)) rfl<|Tg _ rfl j2k rfl (z2F _ _ (some aL) O S T U V W X aI H I aH ads J ac ad ae af ag ah ai aj ak al am an ao aq k A8 c9 j ar au e av f (aU.le (d.trans c)) (aV.le (d.trans c)) (aW.le (d.trans c)) (aX.le (d.trans c)) (aY.le (d.trans c)) (aZ.le (d.trans c)) (a0.le (d.trans c)) (aG.le (d.trans c)) (a1.le (d.trans c)) (a2.le (d.trans c)) (a3.le (d.trans c)) b4 bk) ?_
   rintro _ cQ _ bl ⟨rfl, rfl⟩
   refine K9 [_] [] k j e f (n ++ (a ++ R)) rfl<|yS<|tS (sn2 rfl)<|tS (pF rfl rfl)<|Tn ?_
   obtain ⟨rfl, rfl⟩ := j9 hm
   exact jJ ⟨rfl, rfl, bl⟩
   rintro a5 _ _ ⟨rfl, rfl, g⟩
   have hm := (Q3 bz)
   refine cB hm rfl (fun hm => ?_) fun hm => ?_
   refine Ce<|Xe<|Xo<|Xn<|Cg<|tS (sa rfl rfl (by omega))<|mV rfl<|Tn ?_
   exact jM hm ⟨rfl, rfl, ((c.trans g))⟩
   refine Ck<|Xn<|Cs<|Cb<|Cr<|mV rfl ?_
   obtain ⟨bm, bn, hm⟩ := bS hm
   obtain ⟨cR, b5, hm⟩ := bS hm
   refine Tr 8 rfl (v' := .pointer (some ⟨(ads bm), 0, none⟩)) (by rw [bn]; rfl)<|Tr 48 rfl (v' := .pointer (some ⟨(ads bm), 0, none⟩)) (by rw [bn]; rfl) ?_
   obtain ⟨co, cp, A, aO, bG, hf1898⟩ := OAr.take (aG.le (d.trans (c.trans g))) b5
   obtain ⟨cT, cU, cV, cW, cX, cY, B, cZ, c0, C, rfl, c1, c2, c3, c5, rfl⟩ := bG
   refine z1M n a j e f k<|q1y [_] k A B C (n ++ (a ++ (j ++ (e ++ (f ++ R))))) rfl aO<|tS (sN rfl)<|tS (sF rfl z7V)<|tS (sL 0 rfl q4b rfl rfl)<|aS rfl<|Te ?_
   refine cB hm rfl (fun hm => ?_) fun hm => ?_
   refine Cr<|aS rfl<|Te<|Ct<|Xb<|Xr<|Xb<|Xr<|Xr<|Xb ?_
   refine Xr ?_
   have bH := K _ (Option.some.inj hm).symm
   rw [bH] at D
   have hm := k8 D
   refine Z7 B C A<|Z7 A B C<|Z7 C A B<|q1X [_] k A B C (n ++ (a ++ (j ++ (e ++ (f ++ R))))) rfl aO ?_
   obtain ⟨rfl, rfl⟩ := j9 hm
   have bI := (h5.le (d.trans (c.trans g)))
   exact rO ⟨A3, c4, n, rfl, rfl, bI⟩ (d.trans (c.trans g))
   refine q5T B C A<|q5T A B C<|q5T C A B<|z3z [_] k A B C (n ++ (a ++ (j ++ (e ++ (f ++ R))))) rfl aO ?_
   obtain ⟨⟨b6, bo⟩, bJ, bK⟩ := bS hm
   refine Cj (fun a7 e' hp' => ∃ aP aQ aa, [(52, bv b6)] = e' ∧ (J, Cl 57 [sv ac O ad, sv ae S af, sv ag T ah, sv ai U aj, sv ak V al, sv am W an, sv ao X aq, sv A8 H c9, sv ar I au, .map (some av)]) :: (aa ++ (j ++ (e ++ (f ++ (k ++ R))))) = hp' ∧ a5.Le a7 ∧ OS 3 (OT.fr rI) a7.w (sv aP bo aQ) bo aa) ?_ ?_
   have hm := bJ
   obtain ⟨aR, b7, hm⟩ := bS hm
   obtain ⟨cq, cr, p, ab, bL, hf1987⟩ := OAr.take (aG.le (d.trans (c.trans g))) b7
   obtain ⟨c6, c7, c8, da, db, dc, q, dd, de, s, rfl, df, dg, dh, di, rfl⟩ := bL
   refine q8x [_] k p q s (n ++ (a ++ (j ++ (e ++ (f ++ R))))) rfl ab ?_
   by_cases ay : 0 ≤ aR.Route.To
   rw [if_pos ay] at hm
   obtain ⟨_, L, hm⟩ := bS hm
   obtain ⟨⟨a8, a9⟩, aA, hm⟩ := bS hm
   have hm := (Q3 hm)
   refine Di Q5 (.cons _ (.cons _ (ss q (ss s (ss p (ss n (sp a (ss j (ss e (ss f (.refl _)))))))))))<|E0 0 rfl (sM rfl)<|E0 1 rfl (sN rfl)<|E0 2 rfl (sF rfl q1U)<|E0 3 rfl (sF rfl q5M)<|Eo<|Da [4] (by kernel_rfl) rfl ?_
   refine Rd2 lr rfl rfl (Stable.does (sL 0 rfl j4 rfl rfl)) ?_ ?_
   rintro _ _ ⟨rfl, rfl⟩
   refine iR<|Ei lr (.cons _ (.cons _ (ss q (ss s (ss p (ss n (sp a (ss j (ss e (ss f (.refl _)))))))))))<|E0 5 rfl (z9k rfl rfl ay)<|E0 6 rfl (sM rfl)<|Yz 7 59 rfl (sM rfl)<|Yz 8 59 rfl (sM rfl)<|Yz 9 59 rfl (sN rfl)<|Yz 10 59 rfl (sF rfl q1U)<|Yz 11 59 rfl (sF rfl q5M)<|Yz 13 59 rfl (sM rfl) ?_
   refine Yz 14 59 rfl (sM rfl)<|Eo<|Da [12, 15] (by kernel_rfl) rfl ?_
   refine q3m lr rfl rfl 59 rfl rfl rfl (Stable.does (sL 0 rfl j4 rfl rfl)) ?_ ?_
   rintro _ _ ⟨rfl, rfl⟩
   refine iR<|Da [15] (by kernel_rfl) rfl ?_
   refine q3m lr rfl rfl 59 rfl rfl rfl (Z3 (el := 3) [(0, iv E)] [iv E] rfl (fun _ => by kernel_rfl)) ?_ ?_
   rintro _ _ ⟨b8, rfl, rfl⟩
   refine iR ?_
   have L := Q9 L
   refine q9T q s p n<|Da [16] (by kernel_rfl) rfl ?_
   refine q3m lr rfl rfl 59 rfl rfl rfl (uQ (r := rI) (l := G) [_, _, _] (q ++ (s ++ (p ++ (a ++ (j ++ (e ++ (f ++ R))))))) [[iv E]] [E] rfl (by decide) z4a j5n rfl rfl rfl rfl (h5.le (d.trans (c.trans g))) rfl (fun w ho => Rd.own (i := 0) ho rfl) ⟨rfl, trivial⟩ L) ?_ ?_
   rintro _ _ ⟨m, rfl, F⟩
   obtain ⟨aB, aC, rfl, _⟩ := F.form
   refine iR<|q5R 1 rfl<|q9T m q s p<|q9T p m q s<|q9T s p m q<|j1S [_, _] k p q s (m ++ (a ++ (j ++ (e ++ (f ++ R))))) rfl ab<|q5R 1 rfl<|z0M k m a j e f<|z0M f k m a j e<|z0M e f k m a j ?_
   refine j1Q j e f k m<|z8b [_] [_] m j e f k (a ++ R) rfl<|Da [17] (by kernel_rfl) rfl ?_
   refine z0u lr rfl rfl 59 rfl rfl rfl _ z5B rfl (ih _ _ aR.Route.To O S T U V W X (G ++ [E]) H I aH aI ads J ac ad ae af ag ah ai aj ak al am an ao aq aB aC m A8 c9 j ar au e av f k (aU.le (d.trans (c.trans g))) (aV.le (d.trans (c.trans g))) (aW.le (d.trans (c.trans g))) (aX.le (d.trans (c.trans g))) (aY.le (d.trans (c.trans g))) (aZ.le (d.trans (c.trans g))) (a0.le (d.trans (c.trans g))) F (a1.le (d.trans (c.trans g))) (a2.le (d.trans (c.trans g))) (a3.le (d.trans (c.trans g))) (aG.le (d.trans (c.trans g))) a8 a9 aA) ?_ ?_
   rintro _ bp _ z ⟨aD, aE, y, rfl, rfl, aF⟩
   refine iR<|j1R [_] [_] y j e f k (a ++ R) rfl<|Ei z (.cons _ (.cons _ (ss y (ss j (ss e (ss f (ss k (.refl _))))))))<|Yz 18 59 rfl (q2 rfl rfl)<|E0 19 rfl (pT rfl rfl)<|E0 20 rfl (sA rfl)<|Eo<|Dd (by kernel_rfl) ?_
   obtain ⟨rfl, rfl⟩ := j9 hm
   exact jJ ⟨aD, aE, y, rfl, rfl, z, aF⟩
   exact Rn
   exact Rn
   exact Rn
   refine q3m lr rfl rfl 59 rfl rfl rfl (Z3 (el := 3) [(0, iv E)] [iv E] rfl (fun _ => by kernel_rfl)) ?_ ?_
   rintro _ _ ⟨b8, rfl, rfl⟩
   refine iR ?_
   have L := Q9 L
   refine q9T q s p n<|Da [12, 16] (by kernel_rfl) rfl ?_
   refine q3m lr rfl rfl 59 rfl rfl rfl (Stable.does (sL 1 rfl j4 rfl rfl)) ?_ ?_
   rintro _ _ ⟨rfl, rfl⟩
   refine iR<|Da [16] (by kernel_rfl) rfl ?_
   refine q3m lr rfl rfl 59 rfl rfl rfl (uQ (r := rI) (l := G) [_, _, _] (q ++ (s ++ (p ++ (a ++ (j ++ (e ++ (f ++ R))))))) [[iv E]] [E] rfl (by decide) z4a j5n rfl rfl rfl rfl (h5.le (d.trans (c.trans g))) rfl (fun w ho => Rd.own (i := 0) ho rfl) ⟨rfl, trivial⟩ L) ?_ ?_
   rintro _ _ ⟨m, rfl, F⟩
   obtain ⟨aB, aC, rfl, _⟩ := F.form
   refine iR<|q5R 1 rfl<|q9T m q s p<|q9T p m q s<|q9T s p m q<|j1S [_, _] k p q s (m ++ (a ++ (j ++ (e ++ (f ++ R))))) rfl ab<|q5R 1 rfl<|z0M k m a j e f<|z0M f k m a j e<|z0M e f k m a j ?_
   refine j1Q j e f k m<|z8b [_] [_] m j e f k (a ++ R) rfl<|Da [17] (by kernel_rfl) rfl ?_
   refine z0u lr rfl rfl 59 rfl rfl rfl _ z5B rfl (ih _ _ aR.Route.To O S T U V W X (G ++ [E]) H I aH aI ads J ac ad ae af ag ah ai aj ak al am an ao aq aB aC m A8 c9 j ar au e av f k (aU.le (d.trans (c.trans g))) (aV.le (d.trans (c.trans g))) (aW.le (d.trans (c.trans g))) (aX.le (d.trans (c.trans g))) (aY.le (d.trans (c.trans g))) (aZ.le (d.trans (c.trans g))) (a0.le (d.trans (c.trans g))) F (a1.le (d.trans (c.trans g))) (a2.le (d.trans (c.trans g))) (a3.le (d.trans (c.trans g))) (aG.le (d.trans (c.trans g))) a8 a9 aA) ?_ ?_
   rintro _ bp _ z ⟨aD, aE, y, rfl, rfl, aF⟩
   refine iR<|j1R [_] [_] y j e f k (a ++ R) rfl<|Ei z (.cons _ (.cons _ (ss y (ss j (ss e (ss f (ss k (.refl _))))))))<|Yz 18 59 rfl (q2 rfl rfl)<|E0 19 rfl (pT rfl rfl)<|E0 20 rfl (sA rfl)<|Eo<|Dd (by kernel_rfl) ?_
   obtain ⟨rfl, rfl⟩ := j9 hm
   exact jJ ⟨aD, aE, y, rfl, rfl, z, aF⟩
   exact Rn
   exact Rn
   refine q3m lr rfl rfl 59 rfl rfl rfl (uQ (r := rI) (l := G) [_, _, _] (q ++ (s ++ (p ++ (a ++ (j ++ (e ++ (f ++ R))))))) [[iv E]] [E] rfl (by decide) z4a j5n rfl rfl rfl rfl (h5.le (d.trans (c.trans g))) rfl (fun w ho => Rd.own (i := 0) ho rfl) ⟨rfl, trivial⟩ L) ?_ ?_
   rintro _ _ ⟨m, rfl, F⟩
   obtain ⟨aB, aC, rfl, _⟩ := F.form
   refine iR<|Da [12] (by kernel_rfl) rfl ?_
   refine q3m lr rfl rfl 59 rfl rfl rfl (Stable.does (sL 1 rfl j4 rfl rfl)) ?_ ?_
   rintro _ _ ⟨rfl, rfl⟩
   refine iR<|q5R 1 rfl<|q9T m q s p<|q9T p m q s<|q9T s p m q<|j1S [_, _] k p q s (m ++ (a ++ (j ++ (e ++ (f ++ R))))) rfl ab<|q5R 1 rfl<|z0M k m a j e f<|z0M f k m a j e<|z0M e f k m a j ?_
   refine j1Q j e f k m<|z8b [_] [_] m j e f k (a ++ R) rfl<|Da [17] (by kernel_rfl) rfl ?_
   refine z0u lr rfl rfl 59 rfl rfl rfl _ z5B rfl (ih _ _ aR.Route.To O S T U V W X (G ++ [E]) H I aH aI ads J ac ad ae af ag ah ai aj ak al am an ao aq aB aC m A8 c9 j ar au e av f k (aU.le (d.trans (c.trans g))) (aV.le (d.trans (c.trans g))) (aW.le (d.trans (c.trans g))) (aX.le (d.trans (c.trans g))) (aY.le (d.trans (c.trans g))) (aZ.le (d.trans (c.trans g))) (a0.le (d.trans (c.trans g))) F (a1.le (d.trans (c.trans g))) (a2.le (d.trans (c.trans g))) (a3.le (d.trans (c.trans g))) (aG.le (d.trans (c.trans g))) a8 a9 aA) ?_ ?_
   rintro _ bp _ z ⟨aD, aE, y, rfl, rfl, aF⟩
   refine iR<|j1R [_] [_] y j e f k (a ++ R) rfl<|Ei z (.cons _ (.cons _ (ss y (ss j (ss e (ss f (ss k (.refl _))))))))<|Yz 18 59 rfl (q2 rfl rfl)<|E0 19 rfl (pT rfl rfl)<|E0 20 rfl (sA rfl)<|Eo<|Dd (by kernel_rfl) ?_
   obtain ⟨rfl, rfl⟩ := j9 hm
   exact jJ ⟨aD, aE, y, rfl, rfl, z, aF⟩
   exact Rn
   exact Rn
   exact Rn
   exact Rn
   exact Rn
   rw [if_neg ay] at hm
   refine Di Q5 (.refl _)<|E0 0 rfl (sM rfl)<|E0 1 rfl (sN rfl)<|E0 2 rfl (sF rfl q1U)<|E0 3 rfl (sF rfl q5M)<|Es 4 rfl (sL 0 rfl j4 rfl rfl)<|E0 5 rfl (z9l rfl rfl ay)<|E0 6 rfl (sM rfl)<|eN 7 rfl<|eN 8 rfl ?_
   refine eN 9 rfl<|eN 10 rfl<|eN 11 rfl<|eN 12 rfl<|eN 13 rfl<|eN 14 rfl<|eN 15 rfl<|eN 16 rfl<|eN 17 rfl<|eN 18 rfl ?_
   refine E0 19 rfl (pF rfl rfl)<|E0 20 rfl (sA rfl)<|Eo<|Dd (by kernel_rfl)<|Z7 q s p<|Z7 p q s<|Z7 s p q<|q1X [_] k p q s (n ++ (a ++ (j ++ (e ++ (f ++ R))))) rfl ab ?_
   obtain ⟨rfl, rfl⟩ := j9 hm
   exact jJ ⟨A3, c4, n, rfl, rfl, lr, (h5.le (d.trans (c.trans g)))⟩
   rintro a7 _ _ ⟨aP, aQ, aa, rfl, rfl, aT, bq⟩
   have hm := (Q3 bK)
   refine cB hm rfl (fun hm => ?_) fun hm => ?_
   refine Cr<|aS rfl<|Te<|Ct<|Xb<|Xr<|Xb<|Xr<|Xr<|Xb ?_
   refine Xr ?_
   have bM := K _ (Option.some.inj hm).symm
   rw [bM] at D
   have hm := k8 D
   obtain ⟨rfl, rfl⟩ := j9 hm
   exact rO ⟨aP, aQ, aa, rfl, rfl, bq⟩ (d.trans (c.trans (g.trans aT)))
   refine Ck<|Xm<|Xn<|Cr<|aS rfl<|Te<|Ct<|Xb<|Xr<|Xr ?_
   refine Xb<|Xr ?_
   have bN := K _ (Option.some.inj hm).symm
   rw [bN] at D
   have hm := k8 D
   obtain ⟨rfl, rfl⟩ := j9 hm
   exact rO ⟨aP, aQ, aa, rfl, rfl, bq⟩ (d.trans (c.trans (g.trans aT)))
   rintro _ aK _ _ ⟨rfl, rfl, c⟩ bO
   rw [bO] at D
   have hm := J5 D
   refine Cr<|tS (lF rfl rfl (by omega))<|Te<|Cs<|j0 rfl<|Ce<|Xe<|Xe<|Xo<|Xn ?_
   refine Cr<|aS rfl<|Te<|Ct ?_
   obtain ⟨rfl, rfl⟩ := j9 hm
   have bP := (h5.le (d.trans c))
   exact rO ⟨A3, c4, n, rfl, rfl, bP⟩ (d.trans c)
theorem z1a (b : Base) (R : Hp) (K j k l m n p q g h O S) (ads : Int → Nat) (r s t u w x y z B C D E F G H U V e W X f I c d) (ae : FZ RT.str b.w s t j) (af : FZ rApiSection b.w u w k) (ag : FZ rApiLink b.w x y l) (ah : FZ rApiSignal b.w z B m) (ai : FZ rApiGate b.w C D n) (aj : FZ j3 b.w E F p) (ak : FZ (RT.list z4) b.w G H q) (h5 : OS 59 (OT.fr z7) b.w (sv U g V) g e) (al : OS 127 (OT.fr z8) b.w (sv W h X) h f) (am : OM rI (OT.fr (RT.key ads)) false false b.w I O c) (an : OAr 85 q9 ads b.w S d) (Y Z) (hm : q1F K j k l m n p q g h O S = some (Y, Z)):
 CallsG Tryz.prog 35 [pb r, iv K] b ((r, Cl 57 [sv s j t, sv u k w, sv x l y, sv z m B, sv C n D, sv E p F, sv G q H, sv U g V, sv W h X, .map (some I)]) :: (e ++ (f ++ (c ++ (d ++ R))))) (fun v b' hp' => .tuple #[iv Y, iv Z] = v ∧ (r, Cl 57 [sv s j t, sv u k w, sv x l y, sv z m B, sv C n D, sv E p F, sv G q H, sv U g V, sv W h X, .map (some I)]) :: (e ++ (f ++ (c ++ (d ++ R)))) = hp') := by
 refine fE 21 Tryz.func35 rfl Tryz.ntmps35 rfl ?_
 unfold q1F at hm
 refine Cr<|aS rfl<|aS rfl<|Te<|Cs ?_
 obtain ⟨ao, aa, ab⟩ := bS hm
 refine Cj (fun ac e' hp' => [(0, pb r), (1, iv K), (17, bv ao)] = e' ∧ (r, Cl 57 [sv s j t, sv u k w, sv x l y, sv z m B, sv C n D, sv E p F, sv G q H, sv U g V, sv W h X, .map (some I)]) :: (e ++ (f ++ (c ++ (d ++ R)))) = hp' ∧ b.Le ac) ?_ ?_
 have hm := aa
 refine Cg<|mV rfl<|Tb rfl (q3 rfl rfl) (fun J => ?_) (fun J => ?_)
 rw [if_pos J] at hm
 refine mV rfl<|nO<|nO<|nO<|nO<|nO<|nO<|nO<|nO<|tS (pT rfl rfl)<|Tn ?_
 obtain rfl := o1 hm
 exact jJ ⟨rfl, rfl, lr⟩
 rw [if_neg J] at hm
 refine mV rfl<|yS<|mV rfl<|yS<|mV rfl<|yS<|tS (sN rfl)<|yS<|tS (sF rfl q5g)<|yS<|tS (sF rfl q2F)<|yS<|tS (sL 0 rfl q7X rfl rfl)<|yS<|tS (sE rfl z2T)<|yS<|tS (q6 rfl rfl)<|tS (pF rfl rfl)<|Tn ?_
 obtain rfl := o1 hm
 exact jJ ⟨rfl, rfl, lr⟩
 rintro ac _ _ ⟨rfl, rfl, a⟩
 have hm := ab
 refine cB hm rfl (fun hm => ?_) fun hm => ?_
 refine Cr<|aS rfl<|aS rfl<|Te<|Ct<|Xr ?_
 obtain ⟨rfl, rfl⟩ := j9 hm
 exact rT ⟨rfl, rfl⟩ a
 refine Ck<|Xn<|Cr<|mV rfl<|mV rfl ?_
 obtain ⟨⟨aq, ar⟩, i, hm⟩ := bS hm
 obtain ⟨L, i⟩ := q7j i
 have hm := Q3 hm
 refine q4W [_] [] e f c d R rfl<|q4W [_] d [] e f c R rfl<|q4W [_] c d [] e f R rfl<|q4W [_] f c d [] e R rfl<|q4W [_] e f c d [] R rfl<|j0r [_] [] [] e f c d R rfl<|Tg _ rfl z5B rfl (q8Q L _ _ K j k l m n p q ([] : List Int) g h O S ads r s t u w x y z B C D E F G H none 0 [] U V e W X f I c d (ae.le a) (af.le a) (ag.le a) (ah.le a) (ai.le a) (aj.le a) (ak.le a) (OS.nil (el := 3) (o := (OT.fr rI)) (A := none)) (h5.le a) (al.le a) (am.le a) (an.le a) aq ar i) ?_
 rintro _ au _ T ⟨av, aw, ad, rfl, rfl, ax⟩
 refine z0C [_] [] ad e f c d R rfl<|aS rfl<|aS rfl<|Te<|Ct ?_
 obtain ⟨rfl, rfl⟩ := j9 hm
 exact rT ⟨rfl, rfl⟩ (a.trans T)
theorem z3C (b : Base) (R : Hp) (z q r s t u x y m n af ag) (ads : Int → Nat) (A B C D E F G H I J K L O S T A3 c4 d A8 c9 e U a c) (aE : FZ RT.str b.w B C q) (aF : FZ rApiSection b.w D E r) (aG : FZ rApiLink b.w F G s) (aH : FZ rApiSignal b.w H I t) (aI : FZ rApiGate b.w J K u) (aJ : FZ j3 b.w L O x) (aK : FZ (RT.list z4) b.w S T y) (h5 : OS 59 (OT.fr z7) b.w (sv A3 m c4) m d) (aL : OS 127 (OT.fr z8) b.w (sv A8 n c9) n e) (ar : OM rI (OT.fr (RT.key ads)) false false b.w U af a) (au : OAr 85 q9 ads b.w ag c) (ab ac) (hm : q4o z q r s t u x y m n af ag = some (ab, ac)):
 CallsG Tryz.prog 36 [pb A, iv z] b ((A, Cl 57 [sv B q C, sv D r E, sv F s G, sv H t I, sv J u K, sv L x O, sv S y T, sv A3 m c4, sv A8 n c9, .map (some U)]) :: (d ++ (e ++ (a ++ (c ++ R))))) (fun v b' hp' => .tuple #[bv ab, iv ac] = v ∧ (A, Cl 57 [sv B q C, sv D r E, sv F s G, sv H t I, sv J u K, sv L x O, sv S y T, sv A3 m c4, sv A8 n c9, .map (some U)]) :: (d ++ (e ++ (a ++ (c ++ R)))) = hp') := by
 refine fE 27 Tryz.func36 rfl Tryz.ntmps36 rfl ?_
 unfold q4o at hm
 refine Cr<|aS rfl<|aS rfl<|Te<|Cs<|Cr<|mV rfl<|mV rfl ?_
 obtain ⟨av, X, hm⟩ := bS hm
 refine v5 d e a c<|v5 c d e a<|v5 a c d e<|v5 e a c d<|w9 [_] [] d e a c R rfl<|Tg _ rfl z5G rfl (q1L _ _ z q r s t u x y m n af ag ads A B C D E F G H I J K L O S T A3 c4 d A8 c9 e U a c aE aF aG aH aI aJ aK h5 aL ar au av X) ?_
 rintro _ aw _ f ⟨rfl, rfl⟩
 refine K9 [_] [] d e a c R rfl<|tS (sn2 rfl)<|Te<|cM hm rfl (fun hm => ?_) fun hm => ?_
 refine Cr<|aS rfl<|aS rfl<|Te<|Ct<|Xr ?_
 obtain ⟨rfl, rfl⟩ := j9 hm
 exact rT ⟨rfl, rfl⟩ f
 refine Ck<|Xn<|Cr<|mV rfl<|tS (sN rfl)<|tS (sF rfl q1h)<|tS (sL 0 rfl q5F rfl rfl)<|mV rfl ?_
 obtain ⟨V, ax, hm⟩ := bS hm
 have ah := Option.some.inj ax
 obtain ⟨ad, l, ai⟩ := OM.lookF z8S (z0 := none) (ar.le f) (key := iv z) (k := z) rfl q3o z2N rfl
 rw [ah] at l
 obtain rfl : ad = kv ads V := by have l : [ad] = [kv ads V] := l; injection l
 refine tS (q4k (ok := false) rfl rfl (fun w ho => ai _ w ho (.cons _ (ss d (ss e (List.sublist_append_left _ _)))) false))<|aS rfl<|Te ?_
 obtain ⟨ay, aj, ak⟩ := bS hm
 refine Cj (fun ae e' hp' => [(4, bv ay), (5, iv 0)] = e' ∧ (A, Cl 57 [sv B q C, sv D r E, sv F s G, sv H t I, sv J u K, sv L x O, sv S y T, sv A3 m c4, sv A8 n c9, .map (some U)]) :: (d ++ (e ++ (a ++ (c ++ R)))) = hp' ∧ aw.Le ae) ?_ ?_
 have hm := aj
 refine Cg<|mV rfl<|tS (z1R rfl rfl z9w) ?_
 rcases Bool.eq_false_or_eq_true (!V.isNone) with g | g
 rw [if_neg (fun hh => Bool.noConfusion (hh.symm.trans (nt g)))] at hm
 refine Tr 18 rfl (v' := .bool true) (by rw [g] <;> rfl)<|mV rfl<|yS<|mV rfl<|yS ?_
 obtain ⟨o, p, hm⟩ := bS hm
 obtain ⟨aT, az, hm⟩ := bS hm
 refine Tr 6 rfl (v' := .pointer (some ⟨(ads o), 0, none⟩)) (by rw [p]; rfl)<|Tr 16 rfl (v' := .pointer (some ⟨(ads o), 0, none⟩)) (by rw [p]; rfl)<|Tr 17 rfl (v' := .pointer (some ⟨(ads o), 0, none⟩)) (by rw [p]; rfl)<|Tr 20 rfl (v' := .pointer (some ⟨(ads o), 0, none⟩)) (by rw [p]; rfl) ?_
 obtain ⟨aM, aN, h, W, al, hf217⟩ := OAr.take (au.le f) az
 obtain ⟨aU, aV, aW, aX, aY, aZ, i, a0, a1, j, rfl, a2, a3, aA, a4, rfl⟩ := al
 refine v5 d e a c<|q1y [_] c h i j (d ++ (e ++ (a ++ R))) rfl W<|tS (sN rfl)<|yS<|tS (sF rfl q1T)<|yS<|tS (sL 0 rfl q4C rfl rfl)<|yS ?_
 obtain ⟨a5, aB, hm⟩ := bS hm
 obtain ⟨aC, am, an⟩ := iS aB
 obtain ⟨aO, aP, a6, a7, aQ, ao, Y, aq, Z, aR, aD⟩ := OS.get (sz := 1) rfl (by decide) aA an
 obtain ⟨rfl, rfl⟩ := ao
 refine tS (sI aC rfl rfl am Z aq q8E)<|yS<|tS (z9 rfl q4b (fun w ho => Y w _ ho (.cons _ (.cons _ (List.sublist_append_left _ _))) 0 _ rfl))<|tS (pT rfl rfl)<|aS rfl<|aS rfl<|Tn<|Z7 i j h<|Z7 h i j<|Z7 j h i<|q1X [_] c h i j (d ++ (e ++ (a ++ R))) rfl W ?_
 obtain rfl := o1 hm
 exact jJ ⟨rfl, rfl, lr⟩
 rw [if_pos (nf g)] at hm
 refine Tr 18 rfl (v' := .bool false) (by rw [g] <;> rfl)<|mV rfl<|nO<|nO<|nO<|nO<|nO<|nO<|tS (pF rfl rfl)<|aS rfl<|aS rfl<|Tn ?_
 obtain rfl := o1 hm
 exact jJ ⟨rfl, rfl, lr⟩
 rintro ae _ _ ⟨rfl, rfl, aa⟩
 have hm := ak
 refine Ct ?_
 obtain ⟨rfl, rfl⟩ := j9 hm
 exact rT ⟨rfl, rfl⟩ (f.trans aa)
theorem z0j (b : Base) (R : Hp) (G i j k l m n o g h H I) (ads : Int → Nat) (q r s t u w x y z A B C D E F U V e W X f p d c) (Y : FZ RT.str b.w r s i) (Z : FZ rApiSection b.w t u j) (aa : FZ rApiLink b.w w x k) (ab : FZ rApiSignal b.w y z l) (ac : FZ rApiGate b.w A B m) (ad : FZ j3 b.w C D n) (ae : FZ (RT.list z4) b.w E F o) (h5 : OS 59 (OT.fr z7) b.w (sv U g V) g e) (af : OS 127 (OT.fr z8) b.w (sv W h X) h f) (L : OM rI (OT.fr (RT.key ads)) false false b.w p H d) (ag : OAr 85 q9 ads b.w I c) (ah ai aj) (hm : q0V G i j k l m n o g h H I = some (ah, ai, aj)):
 CallsG Tryz.prog 40 [pb q, iv G] b ((q, Cl 57 [sv r i s, sv t j u, sv w k x, sv y l z, sv A m B, sv C n D, sv E o F, sv U g V, sv W h X, .map (some p)]) :: (e ++ (f ++ (d ++ (c ++ R))))) (fun v b' hp' => ∃ J, .tuple #[iv ah, iv ai] = v ∧ (q, Cl 57 [sv r i s, sv t j u, sv w k x, sv y l z, sv A m B, sv C n D, sv E o F, sv U g V, sv W h X, .map (some p)]) :: (e ++ (f ++ (J ++ (c ++ R)))) = hp' ∧ OM rI (OT.fr (RT.key ads)) false false b'.w p aj J) := by
 refine fE 13 Tryz.func40 rfl Tryz.ntmps40 rfl ?_
 unfold q0V at hm
 refine Cr<|aS rfl<|aS rfl<|Te<|Cs<|Cr<|mV rfl<|mV rfl ?_
 obtain ⟨al, O, hm⟩ := bS hm
 refine v5 e f d c<|v5 c e f d<|v5 d c e f<|v5 f d c e<|w9 [_] [] e f d c R rfl<|Tg _ rfl q8w rfl (q1i _ _ G i j k l m n o g h H I ads q r s t u w x y z A B C D E F U V e W X f p d c Y Z aa ab ac ad ae h5 af L ag al O) ?_
 rintro _ aq _ a ⟨rfl, rfl⟩
 refine K9 [_] [] e f d c R rfl<|tS (sn2 rfl)<|Te<|cM hm rfl (fun hm => ?_) fun hm => ?_
 refine Cr<|aS rfl<|aS rfl<|Te<|Ct<|Xr ?_
 obtain ⟨rfl, rfl, rfl⟩ := q3i hm
 have ak := L.le a
 exact rT ⟨d, rfl, rfl, ak⟩ a
 refine Ck<|Xn<|Cr<|mV rfl<|mV rfl ?_
 obtain ⟨⟨am, an⟩, S, hm⟩ := bS hm
 have hm := Q3 hm
 refine v5 e f d c<|v5 c e f d<|v5 d c e f<|v5 f d c e<|w9 [_] [] e f d c R rfl<|Tg _ rfl j0I rfl (q7F _ _ G i j k l m n o g h H I ads q r s t u w x y z A B C D E F U V e W X f p d c (Y.le a) (Z.le a) (aa.le a) (ab.le a) (ac.le a) (ad.le a) (ae.le a) (h5.le a) (af.le a) (L.le a) (ag.le a) am an S) ?_
 rintro _ ar _ T ⟨K, rfl, rfl, ao⟩
 refine K9 [_] [] e f K c R rfl<|aS rfl<|aS rfl<|Te<|Ct ?_
 obtain ⟨rfl, rfl, rfl⟩ := q3i hm
 exact rT ⟨K, rfl, rfl, ao⟩ (a.trans T)
theorem z2D (b : Base) (R : Hp) (O l m n o p q r g i S T) (ads : Int → Nat) (s t x y z A B C D E F G H I J A3 c4 d A8 c9 e K a c) (ad : FZ RT.str b.w t x l) (ae : FZ rApiSection b.w y z m) (af : FZ rApiLink b.w A B n) (ag : FZ rApiSignal b.w C D o) (ah : FZ rApiGate b.w E F p) (ai : FZ j3 b.w G H q) (aj : FZ (RT.list z4) b.w I J r) (h5 : OS 59 (OT.fr z7) b.w (sv A3 g c4) g d) (ak : OS 127 (OT.fr z8) b.w (sv A8 i c9) i e) (al : OM rI (OT.fr (RT.key ads)) false false b.w K S a) (am : OAr 85 q9 ads b.w T c) (Y Z) (hm : q2g O l m n o p q r g i S T = some (Y, Z)):
 CallsG Tryz.prog 39 [pb s, iv O] b ((s, Cl 57 [sv t l x, sv y m z, sv A n B, sv C o D, sv E p F, sv G q H, sv I r J, sv A3 g c4, sv A8 i c9, .map (some K)]) :: (d ++ (e ++ (a ++ (c ++ R))))) (fun v b' hp' => .tuple #[bv Y, iv Z] = v ∧ (s, Cl 57 [sv t l x, sv y m z, sv A n B, sv C o D, sv E p F, sv G q H, sv I r J, sv A3 g c4, sv A8 i c9, .map (some K)]) :: (d ++ (e ++ (a ++ (c ++ R)))) = hp') := by
 refine fE 18 Tryz.func39 rfl Tryz.ntmps39 rfl ?_
 unfold q2g at hm
 refine Cr<|aS rfl<|aS rfl<|Te<|Cs<|Cr<|mV rfl<|mV rfl ?_
 obtain ⟨an, U, hm⟩ := bS hm
 refine v5 d e a c<|v5 c d e a<|v5 a c d e<|v5 e a c d<|w9 [_] [] d e a c R rfl<|Tg _ rfl q8w rfl (q1i _ _ O l m n o p q r g i S T ads s t x y z A B C D E F G H I J A3 c4 d A8 c9 e K a c ad ae af ag ah ai aj h5 ak al am an U) ?_
 rintro _ az _ f ⟨rfl, rfl⟩
 refine K9 [_] [] d e a c R rfl<|tS (sn2 rfl)<|Te<|cM hm rfl (fun hm => ?_) fun hm => ?_
 refine Cr<|aS rfl<|aS rfl<|Te<|Ct<|Xr ?_
 obtain ⟨rfl, rfl⟩ := j9 hm
 exact rT ⟨rfl, rfl⟩ f
 refine Ck<|Xn<|Cr<|mV rfl<|tS (sN rfl)<|tS (sF rfl Q6)<|tS (sL 0 rfl q1v rfl rfl)<|mV rfl ?_
 obtain ⟨k, ao, hm⟩ := bS hm
 obtain ⟨aq, aa, ab⟩ := iS ao
 obtain ⟨av, aw, aA, aB, ax, ac, V, L, W, ay, ar⟩ := OS.get (sz := 5) rfl (by decide) (h5.le f) ab
 obtain ⟨⟨_, _, rfl, rfl, ⟨_, _, rfl, rfl, ⟨_, _, rfl, rfl, ⟨_, _, rfl, rfl, rfl⟩⟩⟩⟩, rfl⟩ := ac
 refine tS (sI aq rfl rfl aa W L q4e)<|tS (j8 (vs := [iv k.axles, bv k.disturbed, iv k.position, iv k.moving, bv k.failed]) 5 rfl q6S L rfl (fun w ho j u hu => V w _ ho (.cons _ (List.sublist_append_left _ _)) j u hu)) ?_
 obtain ⟨au, X, hm⟩ := bS hm
 refine tD (uW _ q6A rfl (fun w ho => Z6 _ [] k au X) (fun _ _ _ h => h.2.symm)) ?_
 rintro _ _ ⟨⟨_, rfl, _⟩, rfl⟩
 refine aS rfl<|aS rfl<|Te<|Ct ?_
 obtain ⟨rfl, rfl⟩ := j9 hm
 exact rT ⟨rfl, rfl⟩ f
theorem q3Y (b : Base) (R : Hp) (l C D E F) (I : FZ z4 b.w E F l) (w) (hm : J6 l C D = some w):
 CallsG Tryz.prog 82 [sv E l F, iv C, iv D] b (R) (fun v b' hp' => bv w = v ∧ R = hp') := by
 refine fE 31 Tryz.func82 rfl Tryz.ntmps82 rfl ?_
 unfold J6 at hm
 refine Cr<|aS rfl<|Te<|Cs<|Cr<|mV rfl<|tS (sE rfl q4J)<|mV rfl<|Te<|Cb ?_
 have J : l.length ≤ 9223372036854775807 := (FZ.bd I)
 obtain ⟨S, x, f⟩ := bS hm
 refine lF (fun n => fun _ => fun i e' hp' => [(1, iv C), (2, iv D), (9, sv E l F), (10, iv ((l.length : Int))), (11, iv ((n : Int)))] = e' ∧ R = hp' ∧ b.Le i) x ⟨rfl, rfl, lr⟩ ?_ ?_
 rintro n _ i _ _ K G ⟨rfl, rfl, a⟩ c h
 unfold q0h at c
 have hm := c
 refine Cr<|tS (lT rfl rfl (by omega))<|Te<|Cs<|j1 rfl<|Ck<|Xn<|Cs<|Cb<|Cr ?_
 obtain ⟨k, H, L, y, O, z, o, m, p, hm⟩ := bF (sz := 4) hm (I.le a)
 obtain ⟨_, _, rfl, rfl, ⟨_, _, rfl, rfl, ⟨_, _, rfl, rfl, rfl⟩⟩⟩ := z
 refine tS (sI H rfl rfl y p m q4J)<|tS (sP (vs := [iv k.Kind, iv k.Place, iv k.Position, iv k.At]) 4 rfl Y1 m rfl (fun j u hu => o j u hu))<|tD (uA [iv 0, iv 0, iv 0, iv 0] q4F rfl) ?_
 rintro _ _ ⟨T, rfl, rfl⟩
 refine tD (uN (vs := [_, _, _, _]) 0 4 rfl rfl rfl q6Z rfl (mc rfl (mc rfl (mc rfl (mc rfl mn)))) rfl (by simp)) ?_
 rintro _ _ rfl
 refine Te ?_
 obtain ⟨A, q, r⟩ := bS hm
 refine Cj (fun B e' hp' => [(1, iv C), (2, iv D), (9, sv E l F), (10, iv ((l.length : Int))), (11, iv ((n : Int))), (29, bv A)] = e' ∧ R = hp' ∧ i.Le B) ?_ ?_
 have hm := q
 refine Cg<|tS (sF rfl P6)<|tS (sL 0 rfl j4 rfl rfl)<|Tb rfl (q1 rfl rfl) (fun d => ?_) (fun d => ?_)
 rw [if_pos d] at hm
 refine mV rfl<|yS<|tS (sF rfl q2r)<|yS<|tS (sL 0 rfl j4 rfl rfl)<|yS<|mV rfl<|yS<|Tb rfl (q1 rfl rfl) (fun e => ?_) (fun e => ?_)
 rw [if_pos e] at hm
 refine tS (pT rfl rfl)<|mV rfl<|yS<|tS (sF rfl z7W)<|yS<|tS (sL 0 rfl j4 rfl rfl)<|yS<|mV rfl<|yS<|tS (q1 rfl rfl)<|tS (pT rfl rfl)<|Tn ?_
 obtain rfl := o1 hm
 exact jJ ⟨rfl, rfl, lr⟩
 rw [if_neg e] at hm
 refine tS (pT rfl rfl)<|mV rfl<|nO<|nO<|nO<|nO<|tS (pF rfl rfl)<|Tn ?_
 obtain rfl := o1 hm
 exact jJ ⟨rfl, rfl, lr⟩
 rw [if_neg d] at hm
 refine mV rfl<|nO<|nO<|nO<|nO<|tS (pF rfl rfl)<|mV rfl<|nO<|nO<|nO<|nO<|tS (pF rfl rfl)<|Tn ?_
 obtain rfl := o1 hm
 exact jJ ⟨rfl, rfl, lr⟩
 rintro B _ _ ⟨rfl, rfl, g⟩
 have hm := r
 refine cB hm rfl (fun hm => ?_) fun hm => ?_
 refine Cr<|aS rfl<|Te<|Ct<|Xb<|Xr<|Xr<|Xb<|Xr ?_
 have s := h _ (Option.some.inj hm).symm
 rw [s] at f
 have hm := k8 f
 obtain rfl := o1 hm
 exact rO ⟨rfl, rfl⟩ (a.trans g)
 refine Ck<|Xm<|Xn<|Cg<|tS (sa rfl rfl (by omega))<|mV rfl<|Tn ?_
 exact jM hm ⟨rfl, rfl, ((a.trans g))⟩
 rintro _ i _ _ ⟨rfl, rfl, a⟩ t
 rw [t] at f
 have hm := J5 f
 refine Cr<|tS (lF rfl rfl (by omega))<|Te<|Cs<|j0 rfl<|Ce<|Xe<|Xe<|Xo<|Xn<|Cr<|aS rfl<|Te<|Ct ?_
 obtain rfl := o1 hm
 exact rO ⟨rfl, rfl⟩ a
theorem z0Y (b : Base) (R : Hp) (T g i k l m n o e f W X) (ads : Int → Nat) (p s t x y z A B C D E F G H I A3 c4 q A8 c9 J K c d) (ar : FZ RT.str b.w s t g) (au : FZ rApiSection b.w x y i) (av : FZ rApiLink b.w z A k) (aw : FZ rApiSignal b.w B C l) (ax : FZ rApiGate b.w D E m) (ay : FZ j3 b.w F G n) (az : FZ (RT.list z4) b.w H I o) (h5 : OS 59 (OT.fr z7) b.w (sv A3 e c4) e q) (ai : OS 127 (OT.fr z8) b.w (sv A8 f c9) f J) (aA : OM rI (OT.fr (RT.key ads)) false false b.w K W c) (aB : OAr 85 q9 ads b.w X d) (Y Z) (hm : q1D T g i k l m n o e f W X = some (Y, Z)):
 CallsG Tryz.prog 42 [pb p, iv T] b ((p, Cl 57 [sv s g t, sv x i y, sv z k A, sv B l C, sv D m E, sv F n G, sv H o I, sv A3 e c4, sv A8 f c9, .map (some K)]) :: (q ++ (J ++ (c ++ (d ++ R))))) (fun v b' hp' => .tuple #[bv Y, iv Z] = v ∧ (p, Cl 57 [sv s g t, sv x i y, sv z k A, sv B l C, sv D m E, sv F n G, sv H o I, sv A3 e c4, sv A8 f c9, .map (some K)]) :: (q ++ (J ++ (c ++ (d ++ R)))) = hp') := by
 refine fE 25 Tryz.func42 rfl Tryz.ntmps42 rfl ?_
 unfold q1D at hm
 refine Cr<|aS rfl<|aS rfl<|Te<|Cs ?_
 obtain ⟨aj, aa, ab⟩ := bS hm
 refine Cj (fun ac e' hp' => [(0, pb p), (1, iv T), (16, bv aj)] = e' ∧ (p, Cl 57 [sv s g t, sv x i y, sv z k A, sv B l C, sv D m E, sv F n G, sv H o I, sv A3 e c4, sv A8 f c9, .map (some K)]) :: (q ++ (J ++ (c ++ (d ++ R)))) = hp' ∧ b.Le ac) ?_ ?_
 have hm := aa
 refine Cg<|mV rfl<|Tb rfl (q3 rfl rfl) (fun r => ?_) (fun r => ?_)
 rw [if_pos r] at hm
 refine mV rfl<|nO<|nO<|nO<|nO<|nO<|nO<|nO<|tS (pT rfl rfl)<|Tn ?_
 obtain rfl := o1 hm
 exact jJ ⟨rfl, rfl, lr⟩
 rw [if_neg r] at hm
 refine mV rfl<|yS<|mV rfl<|yS<|mV rfl<|yS<|tS (sN rfl)<|yS<|tS (sF rfl q3l)<|yS<|tS (sL 0 rfl q8H rfl rfl)<|yS<|tS (sE rfl q9E)<|yS<|tS (q6 rfl rfl)<|tS (pF rfl rfl)<|Tn ?_
 obtain rfl := o1 hm
 exact jJ ⟨rfl, rfl, lr⟩
 rintro ac _ _ ⟨rfl, rfl, a⟩
 have hm := ab
 refine cB hm rfl (fun hm => ?_) fun hm => ?_
 refine Cr<|aS rfl<|aS rfl<|Te<|Ct<|Xr ?_
 obtain ⟨rfl, rfl⟩ := j9 hm
 exact rT ⟨rfl, rfl⟩ a
 refine Ck<|Xn<|Cr<|mV rfl<|tS (sN rfl)<|tS (sF rfl q3l)<|tS (sL 0 rfl q8H rfl rfl)<|mV rfl ?_
 obtain ⟨L, ak, hm⟩ := bS hm
 obtain ⟨al, ad, ae⟩ := iS ak
 obtain ⟨an, ao, aC, aD, aq, af, U, S, V, am, ah⟩ := OS.get (sz := 3) rfl (by decide) (ai.le a) ae
 obtain ⟨⟨_, _, rfl, rfl, ⟨_, _, rfl, rfl, rfl⟩⟩, rfl⟩ := af
 refine tS (sI al rfl rfl ad V S q9E)<|tS (j8 (vs := [iv L.left, bv L.wanted, bv L.failed]) 3 rfl j0T S rfl (fun w ho j u hu => U w _ ho (.cons _ (ss q (List.sublist_append_left _ _))) j u hu)) ?_
 obtain ⟨ag, O, hm⟩ := bS hm
 refine tD (uW _ j0H rfl (fun w ho => q6d _ [] L ag O) (fun _ _ _ h => h.2.symm)) ?_
 rintro _ _ ⟨⟨_, rfl, _⟩, rfl⟩
 refine aS rfl<|aS rfl<|Te<|Ct ?_
 obtain ⟨rfl, rfl⟩ := j9 hm
 exact rT ⟨rfl, rfl⟩ a
theorem q8M (b : Base) (R : Hp) (T l m n o p q r i k U V) (ads : Int → Nat) (s t x y z A B C D E F G H I J A3 c4 d A8 c9 e K a c) (ag : FZ RT.str b.w t x l) (ah : FZ rApiSection b.w y z m) (ai : FZ rApiLink b.w A B n) (aj : FZ rApiSignal b.w C D o) (ak : FZ rApiGate b.w E F p) (al : FZ j3 b.w G H q) (am : FZ (RT.list z4) b.w I J r) (h5 : OS 59 (OT.fr z7) b.w (sv A3 i c4) i d) (an : OS 127 (OT.fr z8) b.w (sv A8 k c9) k e) (ao : OM rI (OT.fr (RT.key ads)) false false b.w K U a) (aq : OAr 85 q9 ads b.w V c) (Z aa ab) (hm : q0p T l m n o p q r i k U V = some (Z, aa, ab)):
 CallsG Tryz.prog 41 [pb s, iv T] b ((s, Cl 57 [sv t l x, sv y m z, sv A n B, sv C o D, sv E p F, sv G q H, sv I r J, sv A3 i c4, sv A8 k c9, .map (some K)]) :: (d ++ (e ++ (a ++ (c ++ R))))) (fun v b' hp' => .tuple #[iv Z, bv aa, iv ab] = v ∧ (s, Cl 57 [sv t l x, sv y m z, sv A n B, sv C o D, sv E p F, sv G q H, sv I r J, sv A3 i c4, sv A8 k c9, .map (some K)]) :: (d ++ (e ++ (a ++ (c ++ R)))) = hp') := by
 refine fE 23 Tryz.func41 rfl Tryz.ntmps41 rfl ?_
 unfold q0p at hm
 refine Cr<|aS rfl<|aS rfl<|aS rfl<|Te<|Cs<|Cr<|mV rfl<|mV rfl ?_
 obtain ⟨ar, W, hm⟩ := bS hm
 refine v5 d e a c<|v5 c d e a<|v5 a c d e<|v5 e a c d<|w9 [_] [] d e a c R rfl<|Tg _ rfl z5H rfl (q2T _ _ T l m n o p q r i k U V ads s t x y z A B C D E F G H I J A3 c4 d A8 c9 e K a c ag ah ai aj ak al am h5 an ao aq ar W) ?_
 rintro _ aB _ f ⟨rfl, rfl⟩
 refine K9 [_] [] d e a c R rfl<|tS (sn2 rfl)<|Te<|cM hm rfl (fun hm => ?_) fun hm => ?_
 refine Cr<|aS rfl<|aS rfl<|aS rfl<|Te<|Ct<|Xr ?_
 obtain ⟨rfl, rfl, rfl⟩ := q3i hm
 refine q5y d e a c<|q5y c d e a<|q5y a c d e<|q5y e a c d ?_
 exact rM (rs := [.tmp 4, .tmp 5, .tmp 6]) (vs := [iv 0, bv false, iv 3]) ⟨rfl, ⟨rfl, ⟨rfl, trivial⟩⟩⟩ ⟨rfl, rfl⟩ (.refl _) f
 refine Ck<|Xn<|Cr<|mV rfl<|tS (sN rfl)<|tS (sF rfl Q6)<|tS (sL 0 rfl q1v rfl rfl)<|mV rfl ?_
 obtain ⟨g, au, hm⟩ := bS hm
 obtain ⟨av, ac, ad⟩ := iS au
 obtain ⟨ax, ay, aC, aD, az, ae, X, O, Y, aw, af⟩ := OS.get (sz := 5) rfl (by decide) (h5.le f) ad
 obtain ⟨⟨_, _, rfl, rfl, ⟨_, _, rfl, rfl, ⟨_, _, rfl, rfl, ⟨_, _, rfl, rfl, rfl⟩⟩⟩⟩, rfl⟩ := ae
 refine tS (sI av rfl rfl ac Y O q4e)<|tS (j8 (vs := [iv g.axles, bv g.disturbed, iv g.position, iv g.moving, bv g.failed]) 5 rfl q6S O rfl (fun w ho j u hu => X w _ ho (.cons _ (List.sublist_append_left _ _)) j u hu))<|tD (uA [iv 0, .bool false, iv 0, iv 0, .bool false] j0q rfl) ?_
 rintro _ _ ⟨aA, rfl, rfl⟩
 refine tD (uN (vs := [_, _, _, _, _]) 0 5 rfl rfl rfl j2P rfl (mc rfl (mc rfl (mc rfl (mc rfl (mc rfl mn))))) rfl (by simp)) ?_
 rintro _ _ rfl
 refine Te<|Cs ?_
 obtain ⟨S, L, hm⟩ := bS hm
 refine Di Q5 (.refl _)<|E0 0 rfl (sF rfl q3S)<|Es 1 rfl (sL 0 rfl j4 rfl rfl)<|Es 2 rfl (sD (vs := [_, _, _, _, _]) 0 5 rfl q6S rfl rfl rfl)<|Eo<|Da [3] (by kernel_rfl) rfl<|Rd2 lr rfl rfl (uW _ z8j rfl (fun w ho => q5m _ [] g S L) (fun _ _ _ h => h.2.symm)) ?_ ?_
 rintro _ _ ⟨⟨_, rfl, _⟩, rfl⟩
 refine iR<|Ei lr (.refl _)<|E0 4 rfl (sA rfl)<|E0 5 rfl (sA rfl)<|E0 6 rfl (sA rfl)<|Eo<|Dd (by kernel_rfl)<|Xn<|Ct ?_
 obtain ⟨rfl, rfl, rfl⟩ := q3i hm
 refine Xp 1 rfl<|q7N d e a c<|q7N c d e a<|q7N a c d e<|q7N e a c d ?_
 exact rM (rs := [.tmp 4, .tmp 5, .tmp 6]) (vs := [iv g.position, bv S, iv 0]) ⟨rfl, ⟨rfl, ⟨rfl, trivial⟩⟩⟩ ⟨rfl, rfl⟩ (.cons_cons _ (.cons _ (.refl _))) f
 exact Rn
theorem q7J (b : Base) (R : Hp) (o : ApiNet) (x : ApiRoute) (y aL aD z A B C D E F r s b6 aM) (ads : Int → Nat) (q aN aO aP aQ aR aT aU aV aw ax aW aX aj ak G H I J K L O S T U V W X Y A3 c4 i A8 c9 k t ab c) (cV : FZ RT.str b.w aN aO o.Stations) (cW : FZ rApiSection b.w aP aQ o.Sections) (cX : FZ rApiLink b.w aR aT o.Links) (cY : FZ rApiSignal b.w aU aV o.Signals) (b7 : FZ rApiGate b.w aw ax o.Gates) (b8 : FZ w6 b.w aW aX x.Steps) (a9 : FZ z4 b.w aj ak y) (ba : FZ RT.str b.w G H z) (bb : FZ rApiSection b.w I J A) (bc : FZ rApiLink b.w K L B) (bd : FZ rApiSignal b.w O S C) (be : FZ rApiGate b.w T U D) (bf : FZ j3 b.w V W E) (bg : FZ (RT.list z4) b.w X Y F) (h5 : OS 59 (OT.fr z7) b.w (sv A3 r c4) r i) (bh : OS 127 (OT.fr z8) b.w (sv A8 s c9) s k) (cu : OM rI (OT.fr (RT.key ads)) false false b.w t b6 ab) (bi : OAr 85 q9 ads b.w aM c) (bw bx) (hm : G7 o x y aL aD z A B C D E F r s b6 aM = some (bw, bx)):
 CallsG Tryz.prog 37 [.agg #[sv aN o.Stations aO, sv aP o.Sections aQ, sv aR o.Links aT, sv aU o.Signals aV, sv aw o.Gates ax], pb q, .agg #[iv x.From, iv x.To, sv aW x.Steps aX], sv aj y ak, iv aL, bv aD] b ((q, Cl 57 [sv G z H, sv I A J, sv K B L, sv O C S, sv T D U, sv V E W, sv X F Y, sv A3 r c4, sv A8 s c9, .map (some t)]) :: (i ++ (k ++ (ab ++ (c ++ R))))) (fun v b' hp' => ∃ a0, bv bw = v ∧ (q, Cl 57 [sv G z H, sv I A J, sv K B L, sv O C S, sv T D U, sv V E W, sv X F Y, sv A3 r c4, sv A8 s c9, .map (some t)]) :: (i ++ (k ++ (a0 ++ (c ++ R)))) = hp' ∧ OM rI (OT.fr (RT.key ads)) false false b'.w t bx a0) := by
 refine fE 135 Tryz.func37 rfl Tryz.ntmps37 rfl ?_
 unfold G7 at hm
 refine Cr<|tD (uB _ rfl rfl) ?_
 rintro _ _ ⟨aa, rfl, rfl⟩
 refine tD (uB _ rfl rfl) ?_
 rintro _ _ ⟨cK, rfl, rfl⟩
 refine aS rfl<|Te<|Cs<|Cr<|tS (sF rfl q0j)<|tS (sL 0 rfl q3J rfl rfl)<|tS (sE rfl q6w)<|mV rfl<|Te<|Cb ?_
 have cv : x.Steps.length ≤ 9223372036854775807 := (FZ.bd b8)
 refine Cp 1 rfl<|Cp 2 rfl<|z3u i k ab c<|z3u c i k ab<|z3u ab c i k<|z3u k ab c i ?_
 obtain ⟨cO, bE, Z⟩ := bS hm
 refine lF (fun ac => fun ay => fun az e' hp' => ∃ f, [(1, pb q), (3, sv aj y ak), (4, iv aL), (5, bv aD), (6, pb aa), (29, sv aW x.Steps aX), (30, iv ((x.Steps.length : Int))), (31, iv ((ac : Int)))] = e' ∧ (q, Cl 57 [sv G z H, sv I A J, sv K B L, sv O C S, sv T D U, sv V E W, sv X F Y, sv A3 r c4, sv A8 s c9, .map (some t)]) :: (aa, Cl 28 [sv aN o.Stations aO, sv aP o.Sections aQ, sv aR o.Links aT, sv aU o.Signals aV, sv aw o.Gates ax]) :: (i ++ (k ++ (f ++ (c ++ R)))) = hp' ∧ b.Le az ∧ OM rI (OT.fr (RT.key ads)) false false az.w t ay f) bE ⟨ab, rfl, rfl, lr, cu⟩ ?_ ?_
 rintro ac ay az _ _ cw b9 ⟨f, rfl, rfl, a, aA⟩ ad al
 unfold K3 at ad
 have hm := ad
 refine Cr<|tS (lT rfl rfl (by omega))<|Te<|Cs<|j1 rfl<|Ck<|Xn<|Cs<|Cb<|Cr<|mV rfl ?_
 obtain ⟨p, ca, cx, bG, cy, bH, bj, a1, bk, hm⟩ := bF (sz := 3) hm (b8.le a)
 obtain ⟨_, _, rfl, rfl, ⟨_, _, rfl, rfl, rfl⟩⟩ := bH
 refine tS (sI ca rfl rfl bG bk a1 q6w)<|tS (sP (vs := [iv p.Section, iv p.In, iv p.Out]) 3 rfl q3r a1 rfl (fun j u hu => bj j u hu))<|tD (uA [iv 0, iv 0, iv 0] q3G rfl) ?_
 rintro _ _ ⟨am, rfl, rfl⟩
 refine aS rfl<|tD (uN (vs := [_, _, _]) 0 3 rfl rfl rfl q5t rfl (mc rfl (mc rfl (mc rfl mn))) rfl (by simp)) ?_
 rintro _ _ rfl
 refine Te<|Cr<|mV rfl<|tS (sF rfl Q2)<|tS (sL 0 rfl j4 rfl rfl) ?_
 obtain ⟨⟨cb, cc, a2⟩, bl, hm⟩ := bS hm
 have hm := q4U hm
 refine v8 1 rfl<|q8D i k f c<|q8D c i k f<|q8D f c i k<|q8D k f c i<|w9 [_] [_, _] i k f c R rfl<|Tg _ rfl j4a rfl (z0j _ _ p.Section z A B C D E F r s ay aM ads q G H I J K L O S T U V W X Y A3 c4 i A8 c9 k t f c (ba.le a) (bb.le a) (bc.le a) (bd.le a) (be.le a) (bf.le a) (bg.le a) (h5.le a) (bh.le a) aA (bi.le a) cb cc a2 bl) ?_
 rintro _ cP _ d ⟨g, rfl, rfl, aB⟩
 refine K9 [_] [_, _] i k g c R rfl<|mV rfl<|tS (z5 rfl rfl)<|tS (z5 rfl rfl)<|aS rfl<|aS rfl<|Te<|Cr<|mV rfl<|tS (sF rfl Q2)<|tS (sL 1 rfl j4 rfl rfl) ?_
 obtain ⟨⟨bz, cd⟩, bm, hm⟩ := bS hm
 have hm := Q3 hm
 have zz := a.trans d
 refine q8D i k g c<|q8D c i k g<|q8D g c i k<|q8D k g c i<|w9 [_] [_, _] i k g c R rfl<|Tg _ rfl j4b rfl (z2D _ _ p.Section z A B C D E F r s a2 aM ads q G H I J K L O S T U V W X Y A3 c4 i A8 c9 k t g c (ba.le zz) (bb.le zz) (bc.le zz) (bd.le zz) (be.le zz) (bf.le zz) (bg.le zz) (h5.le zz) (bh.le zz) aB (bi.le zz) bz cd bm) ?_
 rintro _ ce _ e ⟨rfl, rfl⟩
 refine K9 [_] [_, _] i k g c R rfl<|mV rfl<|tS (z5 rfl rfl)<|tS (z5 rfl rfl)<|aS rfl<|aS rfl<|Te<|Cs ?_
 obtain ⟨cf, bI, bJ⟩ := bS hm
 refine Cj (fun a3 e' hp' => [(1, pb q), (3, sv aj y ak), (4, iv aL), (5, bv aD), (6, pb aa), (14, pb am), (29, sv aW x.Steps aX), (30, iv ((x.Steps.length : Int))), (31, iv ((ac : Int))), (75, bv cf)] = e' ∧ (q, Cl 57 [sv G z H, sv I A J, sv K B L, sv O C S, sv T D U, sv V E W, sv X F Y, sv A3 r c4, sv A8 s c9, .map (some t)]) :: (aa, Cl 28 [sv aN o.Stations aO, sv aP o.Sections aQ, sv aR o.Links aT, sv aU o.Signals aV, sv aw o.Gates ax]) :: (am, Cl 125 [iv p.Section, iv p.In, iv p.Out]) :: (i ++ (k ++ (g ++ (c ++ R)))) = hp' ∧ ce.Le a3) ?_ ?_
 have hm := bI
 refine Cg<|mV rfl<|Tb rfl (q2 rfl rfl) (fun aE => ?_) (fun aE => ?_)
 rw [if_pos aE] at hm
 refine mV rfl<|nO<|nO<|tS (pT rfl rfl)<|mV rfl<|nO<|nO<|nO<|tS (pT rfl rfl)<|mV rfl<|nO<|nO<|nO<|nO<|nO<|tS (pT rfl rfl)<|mV rfl<|nO<|nO<|nO<|nO<|nO<|nO<|tS (pT rfl rfl)<|Tn ?_
 obtain rfl := o1 hm
 exact jJ ⟨rfl, rfl, lr⟩
 rw [if_neg aE] at hm
 refine mV rfl<|yS<|mV rfl<|yS<|Tb rfl (q2 rfl rfl) (fun aF => ?_) (fun aF => ?_)
 rw [if_pos aF] at hm
 refine tS (pF rfl rfl)<|mV rfl<|nO<|nO<|nO<|tS (pT rfl rfl)<|mV rfl<|nO<|nO<|nO<|nO<|nO<|tS (pT rfl rfl)<|mV rfl<|nO<|nO<|nO<|nO<|nO<|nO<|tS (pT rfl rfl)<|Tn ?_
 obtain rfl := o1 hm
 exact jJ ⟨rfl, rfl, lr⟩
 rw [if_neg aF] at hm
 refine tS (pF rfl rfl)<|mV rfl<|yS<|mV rfl<|yS<|mV rfl<|yS<|Tb rfl (q2 rfl rfl) (fun aG => ?_) (fun aG => ?_)
 rw [if_pos aG] at hm
 refine tS (pF rfl rfl)<|mV rfl<|nO<|nO<|nO<|nO<|nO<|tS (pT rfl rfl)<|mV rfl<|nO<|nO<|nO<|nO<|nO<|nO<|tS (pT rfl rfl)<|Tn ?_
 obtain rfl := o1 hm
 exact jJ ⟨rfl, rfl, lr⟩
 rw [if_neg aG] at hm
 refine tS (pF rfl rfl)<|mV rfl<|yS<|mV rfl ?_
 rcases Bool.eq_false_or_eq_true bz with ae | ae
 rw [if_pos ae] at hm
 refine Tr 62 rfl (v' := .bool true) (by rw [ae] <;> rfl)<|yS<|mV rfl<|yS<|mV rfl ?_
 rcases Bool.eq_false_or_eq_true aD with af | af
 rw [if_pos af] at hm
 refine Tr 64 rfl (v' := .bool true) (by rw [af] <;> rfl)<|yS<|tS (Z4 rfl)<|yS<|tS (pT rfl rfl)<|tS (pF rfl rfl)<|mV rfl<|yS<|mV rfl<|yS<|tS (sF rfl Q2)<|yS<|tS (sL 1 rfl j4 rfl rfl)<|yS<|mV rfl<|yS ?_
 obtain ⟨cg, bn, hm⟩ := bS hm
 refine tD (uW _ j0J rfl (fun w ho => q3Y _ [] y p.Section (ac : Int) aj ak ((a9.le (a.trans (d.trans e))).old ho) cg bn) (fun _ _ _ h => h.2.symm)) ?_
 rintro _ _ ⟨⟨_, rfl, _⟩, rfl⟩
 refine yS<|tS (sn2 rfl)<|tS (pF rfl rfl)<|Tn ?_
 obtain rfl := o1 hm
 exact jJ ⟨rfl, rfl, lr⟩
 rw [if_neg (fun hh => Bool.noConfusion (hh.symm.trans af))] at hm
 refine Tr 64 rfl (v' := .bool false) (by rw [af] <;> rfl)<|yS<|tS (V2 rfl)<|yS<|tS (pT rfl rfl)<|tS (pF rfl rfl)<|mV rfl<|nO<|nO<|nO<|nO<|nO<|nO<|tS (pT rfl rfl)<|Tn ?_
 obtain rfl := o1 hm
 exact jJ ⟨rfl, rfl, lr⟩
 rw [if_neg (fun hh => Bool.noConfusion (hh.symm.trans ae))] at hm
 refine Tr 62 rfl (v' := .bool false) (by rw [ae] <;> rfl)<|yS<|mV rfl<|nO<|nO<|yS<|tS (pF rfl rfl)<|tS (pF rfl rfl)<|mV rfl<|yS<|mV rfl<|yS<|tS (sF rfl Q2)<|yS<|tS (sL 1 rfl j4 rfl rfl)<|yS<|mV rfl<|yS ?_
 obtain ⟨ch, bo, hm⟩ := bS hm
 refine tD (uW _ j0J rfl (fun w ho => q3Y _ [] y p.Section (ac : Int) aj ak ((a9.le (a.trans (d.trans e))).old ho) ch bo) (fun _ _ _ h => h.2.symm)) ?_
 rintro _ _ ⟨⟨_, rfl, _⟩, rfl⟩
 refine yS<|tS (sn2 rfl)<|tS (pF rfl rfl)<|Tn ?_
 obtain rfl := o1 hm
 exact jJ ⟨rfl, rfl, lr⟩
 rintro a3 _ _ ⟨rfl, rfl, l⟩
 have hm := bJ
 refine cB hm rfl (fun hm => ?_) fun hm => ?_
 refine Cr<|aS rfl<|Te<|Ct<|Xr<|Xb<|Xr<|Xr<|Xb<|Xr ?_
 have bK := al _ (Option.some.inj hm).symm
 rw [bK] at Z
 have hm := k8 Z
 obtain ⟨rfl, rfl⟩ := j9 hm
 have bL := (aB.le (e.trans l))
 exact rO ⟨g, rfl, rfl, bL⟩ (a.trans (d.trans (e.trans l)))
 refine Ck<|Xn<|Cr<|tS (sF rfl q5h)<|tS (sL 1 rfl z2e rfl rfl)<|tS (sE rfl z5d)<|mV rfl<|Te<|Cb ?_
 have cz : o.Gates.length ≤ 9223372036854775807 := (FZ.bd (b7.le (a.trans (d.trans (e.trans l)))))
 refine Cp 2 rfl<|Cp 2 rfl<|Cp 2 rfl<|z3u i k g c<|z3u c i k g<|z3u g c i k<|z3u k g c i ?_
 obtain ⟨cQ, bM, an⟩ := bS hm
 refine lF (fun aK => fun _ => fun a4 e' hp' => [(1, pb q), (3, sv aj y ak), (4, iv aL), (5, bv aD), (6, pb aa), (14, pb am), (29, sv aW x.Steps aX), (30, iv ((x.Steps.length : Int))), (31, iv ((ac : Int))), (77, sv aw o.Gates ax), (78, iv ((o.Gates.length : Int))), (79, iv ((aK : Int)))] = e' ∧ (q, Cl 57 [sv G z H, sv I A J, sv K B L, sv O C S, sv T D U, sv V E W, sv X F Y, sv A3 r c4, sv A8 s c9, .map (some t)]) :: (aa, Cl 28 [sv aN o.Stations aO, sv aP o.Sections aQ, sv aR o.Links aT, sv aU o.Signals aV, sv aw o.Gates ax]) :: (am, Cl 125 [iv p.Section, iv p.In, iv p.Out]) :: (i ++ (k ++ (g ++ (c ++ R)))) = hp' ∧ a3.Le a4) bM ⟨rfl, rfl, lr⟩ ?_ ?_
 rintro aK _ a4 _ _ cA ci ⟨rfl, rfl, n⟩ ag aY
 unfold q0g at ag
 have hm := ag
 refine Cr<|tS (lT rfl rfl (by omega))<|Te<|Cs<|j1 rfl<|Ck<|Xn<|Cs<|Cb<|Cr<|mV rfl ?_
 have zy := a.trans (d.trans (e.trans (l.trans n)))
 obtain ⟨bA, cj, cC, bN, cD, bO, bp, a5, bq, hm⟩ := bF (sz := 2) hm (b7.le zy)
 obtain ⟨_, _, rfl, rfl, rfl⟩ := bO
 refine tS (sI cj rfl rfl bN bq a5 z5d)<|tS (sP (vs := [iv bA.Section, iv bA.Close]) 2 rfl z5P a5 rfl (fun j u hu => bp j u hu))<|tD (uA [iv 0, iv 0] z1H rfl) ?_
 rintro _ _ ⟨cR, rfl, rfl⟩
 refine aS rfl<|tD (uN (vs := [_, _]) 0 2 rfl rfl rfl z5e rfl (mc rfl (mc rfl mn)) rfl (by simp)) ?_
 rintro _ _ rfl
 refine Te<|Cr<|mV rfl<|mV rfl ?_
 obtain ⟨⟨bB, ck⟩, br, hm⟩ := bS hm
 have hm := Q3 hm
 refine v8 1 rfl<|z9e i k g c<|z9e c i k g<|z9e g c i k<|z9e k g c i<|w9 [_] [_, _, _] i k g c R rfl<|Tg _ rfl j3Y rfl (z0Y _ _ (aK : Int) z A B C D E F r s a2 aM ads q G H I J K L O S T U V W X Y A3 c4 i A8 c9 k t g c (ba.le zy) (bb.le zy) (bc.le zy) (bd.le zy) (be.le zy) (bf.le zy) (bg.le zy) (h5.le zy) (bh.le zy) (aB.le (e.trans (l.trans n))) (bi.le zy) bB ck br) ?_
 rintro _ cl _ ao ⟨rfl, rfl⟩
 refine K9 [_] [_, _, _] i k g c R rfl<|mV rfl<|tS (z5 rfl rfl)<|tS (z5 rfl rfl)<|aS rfl<|aS rfl<|Te ?_
 obtain ⟨cm, bP, bQ⟩ := bS hm
 refine Cj (fun bC e' hp' => [(1, pb q), (3, sv aj y ak), (4, iv aL), (5, bv aD), (6, pb aa), (14, pb am), (29, sv aW x.Steps aX), (30, iv ((x.Steps.length : Int))), (31, iv ((ac : Int))), (77, sv aw o.Gates ax), (78, iv ((o.Gates.length : Int))), (79, iv ((aK : Int))), (102, bv cm)] = e' ∧ (q, Cl 57 [sv G z H, sv I A J, sv K B L, sv O C S, sv T D U, sv V E W, sv X F Y, sv A3 r c4, sv A8 s c9, .map (some t)]) :: (aa, Cl 28 [sv aN o.Stations aO, sv aP o.Sections aQ, sv aR o.Links aT, sv aU o.Signals aV, sv aw o.Gates ax]) :: (am, Cl 125 [iv p.Section, iv p.In, iv p.Out]) :: (i ++ (k ++ (g ++ (c ++ R)))) = hp' ∧ cl.Le bC) ?_ ?_
 have hm := bP
 refine Cg<|tS (sF rfl q5j)<|tS (sL 1 rfl j4 rfl rfl)<|tS (sF rfl Q2)<|tS (sL 3 rfl j4 rfl rfl)<|Tb rfl (q1 rfl rfl) (fun aH => ?_) (fun aH => ?_)
 rw [if_pos aH] at hm
 refine mV rfl<|yS<|mV rfl ?_
 rcases Bool.eq_false_or_eq_true bB with ah | ah
 rw [if_pos ah] at hm
 refine Tr 96 rfl (v' := .bool true) (by rw [ah] <;> rfl)<|yS<|tS (Z4 rfl)<|yS<|mV rfl<|yS<|mV rfl<|yS<|tS (q2 rfl rfl)<|yS<|tS (pF rfl rfl)<|tS (pT rfl rfl)<|Tn ?_
 obtain rfl := o1 hm
 exact jJ ⟨rfl, rfl, lr⟩
 rw [if_neg (fun hh => Bool.noConfusion (hh.symm.trans ah))] at hm
 refine Tr 96 rfl (v' := .bool false) (by rw [ah] <;> rfl)<|yS<|tS (V2 rfl)<|yS<|mV rfl<|nO<|nO<|yS<|tS (pT rfl rfl)<|tS (pT rfl rfl)<|Tn ?_
 obtain rfl := o1 hm
 exact jJ ⟨rfl, rfl, lr⟩
 rw [if_neg aH] at hm
 refine mV rfl<|nO<|nO<|nO<|nO<|nO<|nO<|tS (pF rfl rfl)<|Tn ?_
 obtain rfl := o1 hm
 exact jJ ⟨rfl, rfl, lr⟩
 rintro bC _ _ ⟨rfl, rfl, aq⟩
 have hm := bQ
 refine cB hm rfl (fun hm => ?_) fun hm => ?_
 refine Cr<|aS rfl<|Te<|Ct<|Xb<|Xr<|Xr<|Xb<|Xb<|Xr<|Xr<|Xb<|Xr ?_
 have bR := aY _ (Option.some.inj hm).symm
 rw [bR] at an
 have hm := k8 an
 have bT := al _ (Option.some.inj hm).symm
 rw [bT] at Z
 have hm := k8 Z
 obtain ⟨rfl, rfl⟩ := j9 hm
 have zx := e.trans (l.trans (n.trans (ao.trans aq)))
 have bU := aB.le zx
 exact rO ⟨g, rfl, rfl, bU⟩ (a.trans (d.trans zx))
 refine Ck<|Xm<|Xn<|Cg<|tS (sa rfl rfl (by omega))<|mV rfl<|Tn ?_
 exact jM hm ⟨rfl, rfl, ((n.trans (ao.trans aq)))⟩
 rintro _ a4 _ _ ⟨rfl, rfl, n⟩ bV
 rw [bV] at an
 have hm := J5 an
 refine Cr<|tS (lF rfl rfl (by omega))<|Te<|Cs<|j0 rfl<|Ce<|Xe<|Xe<|Xo<|Xm<|Xn<|Cg<|tS (sa rfl rfl (by omega))<|mV rfl<|Tn ?_
 have zw := e.trans (l.trans n)
 exact jM hm ⟨g, rfl, rfl, ((a.trans (d.trans zw))), (aB.le zw)⟩
 rintro ay az _ _ ⟨f, rfl, rfl, a, aA⟩ bW
 rw [bW] at Z
 have hm := J5 Z
 refine Cr<|tS (lF rfl rfl (by omega))<|Te<|Cs<|j0 rfl<|Ce<|Xe<|Xe<|Xo<|Xn<|Cs<|Cr<|mV rfl<|tS (sE rfl q4J)<|mV rfl<|Te<|Cb ?_
 have cE : y.length ≤ 9223372036854775807 := (FZ.bd (a9.le a))
 refine z3v i k f c<|z3v c i k f<|z3v f c i k<|z3v k f c i ?_
 obtain ⟨cT, bX, ar⟩ := bS hm
 refine lF (fun a6 => fun _ => fun a7 e' hp' => [(1, pb q), (105, sv aj y ak), (106, iv ((y.length : Int))), (107, iv ((a6 : Int)))] = e' ∧ (q, Cl 57 [sv G z H, sv I A J, sv K B L, sv O C S, sv T D U, sv V E W, sv X F Y, sv A3 r c4, sv A8 s c9, .map (some t)]) :: (i ++ (k ++ (f ++ (c ++ R)))) = hp' ∧ az.Le a7) bX ⟨rfl, rfl, lr⟩ ?_ ?_
 rintro a6 _ a7 _ _ cG cn ⟨rfl, rfl, m⟩ ai aZ
 unfold q0f at ai
 have hm := ai
 refine Cr<|tS (lT rfl rfl (by omega))<|Te<|Cs<|j1 rfl<|Ck<|Xn<|Cs<|Cb<|Cr ?_
 obtain ⟨aC, co, cH, bY, cJ, bZ, bs, a8, bt, hm⟩ := bF (sz := 4) hm (a9.le (a.trans m))
 obtain ⟨_, _, rfl, rfl, ⟨_, _, rfl, rfl, ⟨_, _, rfl, rfl, rfl⟩⟩⟩ := bZ
 refine tS (sI co rfl rfl bY bt a8 q4J)<|tS (sP (vs := [iv aC.Kind, iv aC.Place, iv aC.Position, iv aC.At]) 4 rfl Y1 a8 rfl (fun j u hu => bs j u hu))<|tD (uA [iv 0, iv 0, iv 0, iv 0] q4F rfl) ?_
 rintro _ _ ⟨cU, rfl, rfl⟩
 refine tD (uN (vs := [_, _, _, _]) 0 4 rfl rfl rfl q6Z rfl (mc rfl (mc rfl (mc rfl (mc rfl mn)))) rfl (by simp)) ?_
 rintro _ _ rfl
 refine Te<|Cs<|Cr<|tS (sF rfl P5)<|tS (sL 0 rfl j4 rfl rfl)<|tS (q1 rfl rfl)<|Te<|cI hm rfl (fun hm => ?_) fun hm => ?_
 refine Ce<|Xe<|Xo<|Xn<|Cg<|tS (sa rfl rfl (by omega))<|mV rfl<|Tn ?_
 exact jM hm ⟨rfl, rfl, (m)⟩
 refine Ck<|Xn<|Cr<|mV rfl<|tS (sF rfl q2r)<|tS (sL 0 rfl j4 rfl rfl) ?_
 obtain ⟨⟨cp, cq, cr⟩, bu, hm⟩ := bS hm
 have hm := q4U hm
 have zv := a.trans m
 refine v8 1 rfl<|Q4 i k f c<|Q4 c i k f<|Q4 f c i k<|Q4 k f c i<|w9 [_] [_] i k f c R rfl<|Tg _ rfl j3Z rfl (q8M _ _ aC.Place z A B C D E F r s ay aM ads q G H I J K L O S T U V W X Y A3 c4 i A8 c9 k t f c (ba.le zv) (bb.le zv) (bc.le zv) (bd.le zv) (be.le zv) (bf.le zv) (bg.le zv) (h5.le zv) (bh.le zv) (aA.le m) (bi.le zv) cp cq cr bu) ?_
 rintro _ cs _ au ⟨rfl, rfl⟩
 refine K9 [_] [_] i k f c R rfl<|mV rfl<|tS (z5 rfl rfl)<|tS (z5 rfl rfl)<|tS (z5 rfl rfl)<|aS rfl<|aS rfl<|aS rfl<|Te ?_
 obtain ⟨ct, b0, b1⟩ := bS hm
 refine Cj (fun bD e' hp' => [(1, pb q), (105, sv aj y ak), (106, iv ((y.length : Int))), (107, iv ((a6 : Int))), (133, bv ct)] = e' ∧ (q, Cl 57 [sv G z H, sv I A J, sv K B L, sv O C S, sv T D U, sv V E W, sv X F Y, sv A3 r c4, sv A8 s c9, .map (some t)]) :: (i ++ (k ++ (f ++ (c ++ R)))) = hp' ∧ cs.Le bD) ?_ ?_
 have hm := b0
 refine Cg<|mV rfl<|Tb rfl (q2 rfl rfl) (fun aI => ?_) (fun aI => ?_)
 rw [if_pos aI] at hm
 refine mV rfl<|nO<|nO<|nO<|nO<|tS (pT rfl rfl)<|mV rfl<|nO<|nO<|tS (pT rfl rfl)<|Tn ?_
 obtain rfl := o1 hm
 exact jJ ⟨rfl, rfl, lr⟩
 rw [if_neg aI] at hm
 refine mV rfl<|yS<|mV rfl<|yS<|tS (sF rfl P5)<|yS<|tS (sL 1 rfl j4 rfl rfl)<|yS<|Tb rfl (q2 rfl rfl) (fun aJ => ?_) (fun aJ => ?_)
 rw [if_pos aJ] at hm
 refine tS (pF rfl rfl)<|mV rfl<|nO<|nO<|tS (pT rfl rfl)<|Tn ?_
 obtain rfl := o1 hm
 exact jJ ⟨rfl, rfl, lr⟩
 rw [if_neg aJ] at hm
 refine tS (pF rfl rfl)<|mV rfl<|yS<|mV rfl<|yS<|tS (sn2 rfl)<|tS (pF rfl rfl)<|Tn ?_
 obtain rfl := o1 hm
 exact jJ ⟨rfl, rfl, lr⟩
 rintro bD _ _ ⟨rfl, rfl, av⟩
 have hm := b1
 refine cB hm rfl (fun hm => ?_) fun hm => ?_
 refine Cr<|aS rfl<|Te<|Ct<|Xb<|Xr<|Xr<|Xb<|Xr ?_
 have b2 := aZ _ (Option.some.inj hm).symm
 rw [b2] at ar
 have hm := k8 ar
 obtain ⟨rfl, rfl⟩ := j9 hm
 have zu := m.trans (au.trans av)
 have b3 := aA.le zu
 exact rO ⟨f, rfl, rfl, b3⟩ (a.trans zu)
 refine Ck<|Xm<|Xn<|Cg<|tS (sa rfl rfl (by omega))<|mV rfl<|Tn ?_
 exact jM hm ⟨rfl, rfl, ((m.trans (au.trans av)))⟩
 rintro _ a7 _ _ ⟨rfl, rfl, m⟩ b4
 rw [b4] at ar
 have hm := J5 ar
 refine Cr<|tS (lF rfl rfl (by omega))<|Te<|Cs<|j0 rfl<|Ce<|Xe<|Xe<|Xo<|Xn<|Cr<|aS rfl<|Te<|Ct ?_
 obtain ⟨rfl, rfl⟩ := j9 hm
 have b5 := aA.le m
 exact rO ⟨f, rfl, rfl, b5⟩ (a.trans m)
theorem z1b (b : Base) (R : Hp) (o : ApiNet) (au x y z A B C D ae an p q ao aq) (ads : Int → Nat) (r av aw ax ay az aA aB aC aD aE G H I J K L O S T U V W X Y A3 c4 m A8 c9 n Z aa f ab ac g E e h) (b8 : FZ RT.str b.w av aw o.Stations) (b9 : FZ rApiSection b.w ax ay o.Sections) (ca : FZ rApiLink b.w az aA o.Links) (cb : FZ rApiSignal b.w aB aC o.Signals) (cc : FZ rApiGate b.w aD aE o.Gates) (aM : FZ RT.str b.w G H x) (aN : FZ rApiSection b.w I J y) (aO : FZ rApiLink b.w K L z) (aP : FZ rApiSignal b.w O S A) (aQ : FZ rApiGate b.w T U B) (aR : FZ j3 b.w V W C) (aT : FZ (RT.list z4) b.w X Y D) (h5 : OS 80 (OT.fr j3) b.w (sv A3 ae c4) ae m) (cd : (A3 = none ↔ ae = [])) (ce : OS 60 (OT.fr (RT.list z4)) b.w (sv A8 an c9) an n) (aU : OS 59 (OT.fr z7) b.w (sv Z p aa) p f) (aV : OS 127 (OT.fr z8) b.w (sv ab q ac) q g) (af : OM rI (OT.fr (RT.key ads)) false false b.w E ao e) (aW : OAr 85 q9 ads b.w aq h) (a9 ba) (hm : q1H o au x y z A B C D ae an p q ao aq = some (a9, ba)):
 CallsG Tryz.prog 11 [.agg #[sv av o.Stations aw, sv ax o.Sections ay, sv az o.Links aA, sv aB o.Signals aC, sv aD o.Gates aE], pb r, sv A3 ae c4, sv A8 an c9, iv au] b ((r, Cl 57 [sv G x H, sv I y J, sv K z L, sv O A S, sv T B U, sv V C W, sv X D Y, sv Z p aa, sv ab q ac, .map (some E)]) :: (m ++ (n ++ (f ++ (g ++ (e ++ (h ++ R))))))) (fun v b' hp' => ∃ aF, bv a9 = v ∧ (r, Cl 57 [sv G x H, sv I y J, sv K z L, sv O A S, sv T B U, sv V C W, sv X D Y, sv Z p aa, sv ab q ac, .map (some E)]) :: (m ++ (n ++ (f ++ (g ++ (aF ++ (h ++ R)))))) = hp' ∧ OM rI (OT.fr (RT.key ads)) false false b'.w E ba aF) := by
 refine fE 80 Tryz.func11 rfl Tryz.ntmps11 rfl ?_
 unfold q1H at hm
 refine Cr<|tD (uB _ rfl rfl) ?_
 rintro _ _ ⟨aj, rfl, rfl⟩
 refine aS rfl<|Te<|Cr<|mV rfl<|mV rfl ?_
 obtain ⟨⟨ak, bH⟩, aX, hm⟩ := bS hm
 have hm := Q3 hm
 refine v8 1 rfl<|q9u m n f g e h<|q9u h m n f g e<|q9u e h m n f g<|q9u g e h m n f<|w9 [_] [_] f g e h (m ++ (n ++ R)) rfl<|Tg _ rfl j4e rfl (z1a _ _ au x y z A B C D p q ao aq ads r G H I J K L O S T U V W X Y Z aa f ab ac g E e h aM aN aO aP aQ aR aT aU aV af aW ak bH aX) ?_
 rintro _ cx _ a ⟨rfl, rfl⟩
 refine K9 [_] [_] f g e h (m ++ (n ++ R)) rfl<|mV rfl<|tS (z5 rfl rfl)<|tS (z5 rfl rfl)<|aS rfl<|aS rfl<|Te<|Cs<|Cr<|mV rfl<|tS (q2 rfl rfl)<|Te<|cI hm rfl (fun hm => ?_) fun hm => ?_
 refine Cr<|aS rfl<|Te<|Ct<|Xr ?_
 obtain ⟨rfl, rfl⟩ := j9 hm
 have bi := af.le a
 exact rO ⟨e, rfl, rfl, bi⟩ a
 refine Ck<|Xn<|Cs<|Cr<|mV rfl<|tS (q1 rfl rfl)<|Te<|cI hm rfl (fun hm => ?_) fun hm => ?_
 refine Cr<|aS rfl<|Te<|Ct<|Xr ?_
 obtain ⟨rfl, rfl⟩ := j9 hm
 have bj := af.le a
 exact rO ⟨e, rfl, rfl, bj⟩ a
 refine Ck<|Xn<|Cs<|Cr<|mV rfl ?_
 obtain ⟨F, aY, hm⟩ := bS hm
 refine Q4 f g e h<|Q4 h f g e<|Q4 e h f g<|Q4 g e h f<|w9 [_] [_] f g e h (m ++ (n ++ R)) rfl<|Tg _ rfl j0Q rfl (q6B _ _ x y z A B C D p q ao aq ads r G H I J K L O S T U V W X Y Z aa f ab ac g E e h (aM.le a) (aN.le a) (aO.le a) (aP.le a) (aQ.le a) (aR.le a) (aT.le a) (aU.le a) (aV.le a) (af.le a) (aW.le a) F aY) ?_
 rintro _ bI _ d ⟨bb, bc, l, rfl, rfl, bd⟩
 refine z0C [_] [_] l f g e h (m ++ (n ++ R)) rfl<|tS (sE rfl z4a)<|mV rfl<|Te<|Cb ?_
 have cf : F.length ≤ 9223372036854775807 := (OS.len bd)
 refine Cp 1 rfl<|Cp 1 rfl<|q0v l f g e h<|q0v h l f g e<|q0v e h l f g<|q0v g e h l f<|q0v f g e h l<|j3v l f g e h m n<|j3v n l f g e h m ?_
 obtain ⟨cy, bk, ad⟩ := bS hm
 refine lF (fun aG => fun _ => fun aH e' hp' => [(1, pb r), (2, sv A3 ae c4), (3, sv A8 an c9), (4, iv au), (5, pb aj), (11, iv ak), (28, sv bb F bc), (29, iv ((F.length : Int))), (30, iv ((aG : Int)))] = e' ∧ (r, Cl 57 [sv G x H, sv I y J, sv K z L, sv O A S, sv T B U, sv V C W, sv X D Y, sv Z p aa, sv ab q ac, .map (some E)]) :: (aj, Cl 28 [sv av o.Stations aw, sv ax o.Sections ay, sv az o.Links aA, sv aB o.Signals aC, sv aD o.Gates aE]) :: (m ++ (n ++ (l ++ (f ++ (g ++ (e ++ (h ++ R))))))) = hp' ∧ bI.Le aH) bk ⟨rfl, rfl, lr⟩ ?_ ?_
 rintro aG _ aH _ _ cg bJ ⟨rfl, rfl, c⟩ s ar
 unfold q1R at s
 have hm := s
 refine Cr<|tS (lT rfl rfl (by omega))<|Te<|Cs<|j1 rfl<|Ck<|Xn<|Cs<|Cb<|Cr ?_
 obtain ⟨aI, bK, hm⟩ := bS hm
 obtain ⟨bL, bl, bm⟩ := iS bK
 obtain ⟨ch, ci, cz, cA, cj, bn, aZ, bo, a0, ck, b4⟩ := OS.get (sz := 1) rfl (by decide) (bd.le c) bm
 obtain ⟨rfl, rfl⟩ := bn
 refine tS (sI bL rfl rfl bl a0 bo z4a)<|tS (z9 rfl j4 (fun w ho => aZ w _ ho (.cons _ (.cons _ (ss m (ss n (List.sublist_append_left _ _))))) 0 _ rfl))<|aS rfl<|Te<|Cr<|mV rfl<|mV rfl ?_
 obtain ⟨⟨be, bM⟩, a1, hm⟩ := bS hm
 have hm := Q3 hm
 have zz := a.trans (d.trans c)
 refine z9c m n l f g e h<|z9c h m n l f g e<|z9c e h m n l f g<|z9c g e h m n l f<|w9 [_] [_] f g e h (m ++ (n ++ (l ++ R))) rfl<|Tg _ rfl j4d rfl (z3C _ _ aI x y z A B C D p q ao aq ads r G H I J K L O S T U V W X Y Z aa f ab ac g E e h (aM.le zz) (aN.le zz) (aO.le zz) (aP.le zz) (aQ.le zz) (aR.le zz) (aT.le zz) (aU.le zz) (aV.le zz) (af.le zz) (aW.le zz) be bM a1) ?_
 rintro _ bN _ i ⟨rfl, rfl⟩
 refine K9 [_] [_] f g e h (m ++ (n ++ (l ++ R))) rfl<|mV rfl<|tS (z5 rfl rfl)<|tS (z5 rfl rfl)<|aS rfl<|aS rfl<|Te ?_
 obtain ⟨bO, bp, bq⟩ := bS hm
 refine Cj (fun bf e' hp' => [(1, pb r), (2, sv A3 ae c4), (3, sv A8 an c9), (4, iv au), (5, pb aj), (11, iv ak), (14, iv aI), (28, sv bb F bc), (29, iv ((F.length : Int))), (30, iv ((aG : Int))), (64, bv bO)] = e' ∧ (r, Cl 57 [sv G x H, sv I y J, sv K z L, sv O A S, sv T B U, sv V C W, sv X D Y, sv Z p aa, sv ab q ac, .map (some E)]) :: (aj, Cl 28 [sv av o.Stations aw, sv ax o.Sections ay, sv az o.Links aA, sv aB o.Signals aC, sv aD o.Gates aE]) :: (m ++ (n ++ (l ++ (f ++ (g ++ (e ++ (h ++ R))))))) = hp' ∧ bN.Le bf) ?_ ?_
 have hm := bp
 refine Cg<|mV rfl<|Tb rfl (q1 rfl rfl) (fun ag => ?_) (fun ag => ?_)
 rw [if_pos ag] at hm
 refine mV rfl<|yS<|mV rfl ?_
 rcases Bool.eq_false_or_eq_true be with t | t
 rw [if_pos t] at hm
 refine Tr 43 rfl (v' := .bool true) (by rw [t] <;> rfl)<|yS<|tS (Z4 rfl)<|tS (pT rfl rfl)<|mV rfl<|nO<|nO<|tS (pF rfl rfl)<|mV rfl<|nO<|nO<|nO<|nO<|tS (pF rfl rfl)<|mV rfl<|nO<|nO<|nO<|nO<|nO<|nO<|nO<|tS (pF rfl rfl)<|Tn ?_
 obtain rfl := o1 hm
 exact jJ ⟨rfl, rfl, lr⟩
 rw [if_neg (fun hh => Bool.noConfusion (hh.symm.trans t))] at hm
 refine Tr 43 rfl (v' := .bool false) (by rw [t] <;> rfl)<|yS<|tS (V2 rfl)<|tS (pT rfl rfl)<|mV rfl<|yS<|mV rfl<|yS<|Tb rfl (q6 rfl rfl) (fun ah => ?_) (fun ah => ?_)
 rw [if_pos ah] at hm
 refine tS (pT rfl rfl)<|mV rfl<|yS<|mV rfl<|yS<|mV rfl<|yS<|tS (sE rfl z6Y)<|yS<|Tb rfl (q3 rfl rfl) (fun ai => ?_) (fun ai => ?_)
 rw [if_pos ai] at hm
 refine tS (pT rfl rfl)<|mV rfl<|yS<|mV rfl<|yS<|mV rfl<|yS ?_
 obtain ⟨cC, bP, hm⟩ := bS hm
 obtain ⟨bQ, br, bs⟩ := iS bP
 obtain ⟨cl, cm, cD, cE, cn, bt, a2, aJ, a3, co, b5⟩ := OS.get (sz := 3) rfl (by decide) (h5.le (a.trans (d.trans (c.trans i)))) bs
 obtain ⟨⟨_, _, rfl, rfl, ⟨_, _, rfl, rfl, ⟨cG, cH, rfl, cJ⟩⟩⟩, rfl⟩ := bt
 refine tS (sI bQ rfl rfl br a3 aJ z6Y)<|yS<|tS (sQ rfl aJ q5N)<|yS<|tS (z9 rfl j4 (fun w ho => a2 w _ ho (.cons _ (.cons _ (ss f (ss g (ss e (ss h (List.sublist_append_left _ _))))))) 0 _ rfl))<|yS<|mV rfl<|yS<|tS (q1 rfl rfl)<|tS (pT rfl rfl)<|Tn ?_
 obtain rfl := o1 hm
 exact jJ ⟨rfl, rfl, lr⟩
 rw [if_neg ai] at hm
 refine tS (pT rfl rfl)<|mV rfl<|nO<|nO<|nO<|nO<|nO<|nO<|nO<|tS (pF rfl rfl)<|Tn ?_
 obtain rfl := o1 hm
 exact jJ ⟨rfl, rfl, lr⟩
 rw [if_neg ah] at hm
 refine tS (pT rfl rfl)<|mV rfl<|nO<|nO<|nO<|nO<|tS (pF rfl rfl)<|mV rfl<|nO<|nO<|nO<|nO<|nO<|nO<|nO<|tS (pF rfl rfl)<|Tn ?_
 obtain rfl := o1 hm
 exact jJ ⟨rfl, rfl, lr⟩
 rw [if_neg ag] at hm
 refine mV rfl<|nO<|nO<|tS (pF rfl rfl)<|mV rfl<|nO<|nO<|tS (pF rfl rfl)<|mV rfl<|nO<|nO<|nO<|nO<|tS (pF rfl rfl)<|mV rfl<|nO<|nO<|nO<|nO<|nO<|nO<|nO<|tS (pF rfl rfl)<|Tn ?_
 obtain rfl := o1 hm
 exact jJ ⟨rfl, rfl, lr⟩
 rintro bf _ _ ⟨rfl, rfl, k⟩
 have hm := bq
 refine cB hm rfl (fun hm => ?_) fun hm => ?_
 refine Cs ?_
 obtain ⟨al, bR, hm⟩ := bS hm
 obtain ⟨bT, bU, hm⟩ := bS hm
 obtain ⟨⟨bV, bW⟩, a4, hm⟩ := bS hm
 have hm := Q3 hm
 refine Di Q5 (.refl _)<|Es 0 rfl (sD (vs := [_, _, _, _, _]) 1 5 rfl G9 rfl rfl rfl)<|E0 1 rfl (sM rfl)<|E0 2 rfl (sM rfl)<|E0 3 rfl (sM rfl) ?_
 obtain ⟨bX, bu, bw⟩ := iS bR
 have zy := a.trans (d.trans (c.trans (i.trans k)))
 obtain ⟨cp, cq, cK, cO, cr, bx, a5, aK, a6, cs, b6⟩ := OS.get (sz := 3) rfl (by decide) (h5.le zy) bw
 obtain ⟨⟨_, _, rfl, rfl, ⟨_, _, rfl, rfl, ⟨bg, bh, rfl, bY⟩⟩⟩, rfl⟩ := bx
 refine E0 4 rfl (sI bX rfl rfl bu a6 aK z6Y)<|Es 5 rfl (j8 (vs := [iv al.From, iv al.To, sv bg al.Steps bh]) 3 rfl z6G aK rfl (fun w ho j u hu => a5 w _ ho (.cons _ (.cons _ (List.sublist_append_left _ _))) j u hu))<|E0 6 rfl (sM rfl)<|E0 7 rfl (sM rfl) ?_
 obtain ⟨bZ, bz, bA⟩ := iS bU
 obtain ⟨ct, cu, cP, cQ, cv, bB, a7, bC, a8, cw, b7⟩ := OS.get (sz := 1) rfl (by decide) (ce.le zy) bA
 obtain ⟨⟨b0, b1, rfl, b2⟩, rfl⟩ := bB
 refine E0 8 rfl (sI bZ rfl rfl bz a8 bC z8Q)<|Es 9 rfl (z9 rfl z2X (fun w ho => a7 w _ ho (.cons _ (.cons _ (ss m (List.sublist_append_left _ _)))) 0 _ rfl))<|E0 10 rfl (sM rfl)<|E0 11 rfl (sM rfl)<|E0 12 rfl (q1 rfl rfl)<|Eo<|z7Z m n l f g e h<|z7Z h m n l f g e<|z7Z e h m n l f g<|z7Z g e h m n l f<|j3t [_] [_] f g e h (m ++ (n ++ (l ++ R))) rfl<|Da [13] (by kernel_rfl) rfl ?_
 refine Rg lr rfl rfl _ j4c rfl (q7J _ _ o al bT aI (decide (ak = 1)) x y z A B C D p q ao aq ads r av aw ax ay az aA aB aC aD aE bg bh b0 b1 G H I J K L O S T U V W X Y Z aa f ab ac g E e h (b8.le zy) (b9.le zy) (ca.le zy) (cb.le zy) (cc.le zy) bY b2 (aM.le zy) (aN.le zy) (aO.le zy) (aP.le zy) (aQ.le zy) (aR.le zy) (aT.le zy) (aU.le zy) (aV.le zy) (af.le zy) (aW.le zy) bV bW a4) ?_ ?_
 rintro _ cR _ am ⟨aL, rfl, rfl, b3⟩
 refine ⟨.inl (by kernel_rfl), ?_⟩
 refine j5t [_] [_] f g aL h (m ++ (n ++ (l ++ R))) rfl<|El am<|E0 14 rfl (sA rfl)<|Eo<|Dd (by kernel_rfl)<|Xn<|Ct<|Xb<|Xr<|Xr<|Xb<|Xr ?_
 have bD := ar _ (Option.some.inj hm).symm
 rw [bD] at ad
 have hm := k8 ad
 obtain ⟨rfl, rfl⟩ := j9 hm
 exact rO ⟨aL, rfl, rfl, b3⟩ (a.trans (d.trans (c.trans (i.trans (k.trans am)))))
 exact Rn
 refine Ck<|Xm<|Xn<|Cg<|tS (sa rfl rfl (by omega))<|mV rfl<|Tn ?_
 exact jM hm ⟨rfl, rfl, ((c.trans (i.trans k)))⟩
 rintro _ aH _ _ ⟨rfl, rfl, c⟩ bE
 rw [bE] at ad
 have hm := J5 ad
 refine Cr<|tS (lF rfl rfl (by omega))<|Te<|Cs<|j0 rfl<|Ce<|Xe<|Xe<|Xo<|Xn<|Cr<|aS rfl<|Te<|Ct ?_
 obtain ⟨rfl, rfl⟩ := j9 hm
 have zx := a.trans (d.trans c)
 have bG := af.le zx
 exact rO ⟨e, rfl, rfl, bG⟩ zx
theorem cFishkeep1LockKeeps (b : Base) (R : Hp) (J : ApiNet) (bh A2 c3 A5 c6 A8 c9 aE aF aG aH aW aI) (h4 : FZ RT.str b.w A2 c3 J.Stations) (h7 : FZ rApiSection b.w A5 c6 J.Sections) (bD : FZ rApiLink b.w A8 c9 J.Links) (bi : FZ rApiSignal b.w aE aF J.Signals) (bE : FZ rApiGate b.w aG aH J.Gates) (bT : FZ rFishkeep1Call b.w aW aI bh) (bs) (hm : mFishkeep1LockKeeps J bh = some bs):
 CallsG Tryz.prog 3 [.agg #[sv A2 J.Stations c3, sv A5 J.Sections c6, sv A8 J.Links c9, sv aE J.Signals aF, sv aG J.Gates aH], sv aW bh aI] b (R) (fun v b' hp' => bv bs = v ∧ R = hp') := by
 refine fE 73 Tryz.func3 rfl Tryz.ntmps3 rfl ?_
 unfold mFishkeep1LockKeeps at hm
 refine Cr<|tD (uB _ rfl rfl) ?_
 rintro _ _ ⟨ax, rfl, rfl⟩
 refine aS rfl<|Te<|Cs<|Cr ?_
 obtain ⟨bU, bj, hm⟩ := bS hm
 refine tD (uW _ j3T rfl (fun w ho => q3Z _ [] bU bj) (fun _ _ _ h => h.2.symm)) ?_
 rintro _ _ ⟨⟨_, rfl, _⟩, rfl⟩
 refine tS (sn2 rfl)<|Te<|cM hm rfl (fun hm => ?_) fun hm => ?_
 refine Cr<|aS rfl<|Te<|Ct<|Xr ?_
 obtain rfl := o1 hm
 exact rO ⟨rfl, rfl⟩ lr
 refine Ck<|Xn<|Cr<|tS (sD (vs := [_, _, _, _, _]) 0 5 rfl G9 rfl rfl rfl) ?_
 obtain ⟨⟨K, L, O, S, T, U, V, bV, bW, bX, bY⟩, bk, hm⟩ := bS hm
 have hm := j2C hm
 refine Tg _ rfl j3I rfl (z2C _ _ J A2 c3 A5 c6 A8 c9 aE aF aG aH h4 h7 bD bi bE K L O S T U V bV bW bX bY bk) ?_
 rintro _ cx _ p ⟨ads, W, Y, Z, aa, ab, ac, ad, ae, af, ag, ah, ai, aj, ak, al, bZ, b0, E, b1, b2, F, I, G, H, rfl, rfl, aX, aY, aZ, a0, a1, a2, a3, b3, b4, b5, b6⟩
 refine K9 [_] [_] E F G H R rfl<|mV rfl<|tS (z5 rfl rfl)<|tS (z5 rfl rfl)<|aS rfl<|aS rfl<|Te<|Cs<|Cr<|mV rfl<|tS (q2 rfl rfl)<|Te<|cI hm rfl (fun hm => ?_) fun hm => ?_
 refine Cr<|mV rfl<|tS (z6X rfl rfl rfl j2T)<|aS rfl<|Te<|Ct<|Xr ?_
 obtain rfl := o1 hm
 exact rO ⟨rfl, rfl⟩ p
 refine Ck<|Xn<|Cr<|tS (sD (vs := [_, _, _, _, _]) 1 5 rfl G9 rfl rfl rfl) ?_
 obtain ⟨⟨b7, ay⟩, bl, hm⟩ := bS hm
 have hm := Q3 hm
 refine Tg _ rfl j0g rfl (q5n _ _ J A2 c3 A5 c6 A8 c9 aE aF aG aH (h4.le p) (h7.le p) (bD.le p) (bi.le p) (bE.le p) b7 ay bl) ?_
 rintro _ b8 _ a ⟨aK, aL, d, rfl, rfl, b9, ca⟩
 refine q4c [] [_, _] d (E ++ (F ++ (G ++ (H ++ R)))) rfl<|mV rfl<|tS (z5 rfl rfl)<|tS (z5 rfl rfl)<|aS rfl<|aS rfl<|Te<|Cs<|Cr<|mV rfl<|tS (q2 rfl rfl)<|Te<|cI hm rfl (fun hm => ?_) fun hm => ?_
 refine Cr<|aS rfl<|Te<|Ct<|Xr ?_
 obtain rfl := o1 hm
 exact rO ⟨rfl, rfl⟩ (p.trans a)
 refine Ck<|Xn<|Cs<|Cr<|mV rfl<|mV rfl<|tS (sE rfl j4D)<|tS (j0s rfl rfl) ?_
 obtain ⟨am, cb, hm⟩ := bS hm
 obtain ⟨an, cc, cq, bG, a4, a5, a6⟩ := q4Q cb
 have a7 := FZ.sub (sz := 4) rfl (bT.le (p.trans a)) a4 a5
 have cd := (bT.le (p.trans a)).1.1
 rw [← a6] at a7
 refine tS (a6 ▸ q7R (l := bh) an cc rfl (.inl ⟨rfl, by omega⟩) (.inr ⟨_, _, _, rfl, rfl, bG⟩) a4 a5 cd j4D)<|tS (sE rfl j4D)<|mV rfl<|Te<|Cb ?_
 have cr : am.length ≤ 9223372036854775807 := (FZ.bd a7)
 refine Cp 1 rfl<|q0v d E F G H<|q0v H d E F G<|q0v G H d E F<|q0v F G H d E<|q0v E F G H d ?_
 obtain ⟨cy, bH, X⟩ := bS hm
 refine lF (fun aM => z4Y fun az aA aN aO => fun ao e' hp' => ∃ (ads : Int → Nat), ∃ A B t C D x y z, [(2, pb ax), (5, pb W), (7, sv aK ay aL), (35, .slice (q8Y aW aI an 4) (am).length (aI - an)), (36, iv ((am.length : Int))), (37, iv ((aM : Int)))] = e' ∧ (ax, Cl 28 [sv A2 J.Stations c3, sv A5 J.Sections c6, sv A8 J.Links c9, sv aE J.Signals aF, sv aG J.Gates aH]) :: (W, Cl 57 [sv Y K Z, sv aa L ab, sv ac O ad, sv ae S af, sv ag T ah, sv ai U aj, sv ak V al, sv A az B, sv C aA D, .map (some I)]) :: (d ++ (t ++ (x ++ (y ++ (z ++ R))))) = hp' ∧ b8.Le ao ∧ OS 59 (OT.fr z7) ao.w (sv A az B) az t ∧ OS 127 (OT.fr z8) ao.w (sv C aA D) aA x ∧ OM rI (OT.fr (RT.key ads)) false false ao.w I aN y ∧ OAr 85 q9 ads ao.w aO z) bH ⟨ads, bZ, b0, E, b1, b2, F, G, H, rfl, rfl, lr, (b3.le a), (b4.le a), (b5.le a), (b6.le a)⟩ ?_ ?_
 rintro aM ⟨az, aA, aN, aO⟩ ao _ _ cs ce ⟨ads, A, B, t, C, D, x, y, z, rfl, rfl, c, bt, bu, bw, bx⟩ aq aB
 unfold Z2 at aq
 have hm := z2P aq
 refine Cr<|tS (lT rfl rfl (by omega))<|Te<|Cs<|j1 rfl<|Ck<|Xn<|Cs<|Cb<|Cr ?_
 obtain ⟨aJ, cf, ct, bI, cu, bJ, bm, a8, bn, hm⟩ := bF (sz := 4) hm (a7.le c)
 obtain ⟨_, _, rfl, rfl, ⟨_, _, rfl, rfl, ⟨_, _, rfl, rfl, rfl⟩⟩⟩ := bJ
 refine tS (sI cf rfl rfl bI bn a8 j4D)<|tS (sP (vs := [iv aJ.Kind, iv aJ.A, iv aJ.B, iv aJ.C]) 4 rfl j4x a8 rfl (fun j u hu => bm j u hu))<|tD (uA [iv 0, iv 0, iv 0, iv 0] j2y rfl) ?_
 rintro _ _ ⟨cz, rfl, rfl⟩
 refine tD (uN (vs := [_, _, _, _]) 0 4 rfl rfl rfl j5c rfl (mc rfl (mc rfl (mc rfl (mc rfl mn)))) rfl (by simp)) ?_
 rintro _ _ rfl
 refine Te<|Cr<|mV rfl<|tS (sD (vs := [_, _, _, _]) 0 4 rfl j4x rfl rfl rfl) ?_
 obtain ⟨⟨cg, ar, au, bz, a9⟩, bo, hm⟩ := bS hm
 have hm := z6P hm
 have zz := a.trans c
 refine v8 2 rfl<|z9d d t x y z<|z9d z d t x y<|z9d y z d t x<|z9d x y z d t<|w9 [_] [_, _] t x y z (d ++ R) rfl<|Tg _ rfl j5v rfl (z3M _ _ aJ K L O S T U V az aA aN aO ads W Y Z aa ab ac ad ae af ag ah ai aj ak al A B t C D x I y z (aX.le zz) (aY.le zz) (aZ.le zz) (a0.le zz) (a1.le zz) (a2.le zz) (a3.le zz) bt bu bw bx cg ar au bz a9 bo) ?_
 rintro _ cA _ f ⟨ads, k, m, r, n, rfl, rfl, ba, ch, bb, ci, bA, bc⟩
 refine K9 [_] [_, _] k m r n (d ++ R) rfl<|w5 0 rfl (o' := Cl 57 [sv Y K Z, sv aa L ab, sv ac O ad, sv ae S af, sv ag T ah, sv ai U aj, sv ak V al, sv A ar B, sv C au D, .map (some I)]) (by simp only [sv, ch])<|w5 0 rfl (o' := Cl 57 [sv Y K Z, sv aa L ab, sv ac O ad, sv ae S af, sv ag T ah, sv ai U aj, sv ak V al, sv A ar B, sv C au D, .map (some I)]) (by simp only [sv, ci])<|Te<|Cr<|mV rfl<|mV rfl<|tS (sE rfl z6Y) ?_
 obtain ⟨⟨bB, aC⟩, bp, hm⟩ := bS hm
 have hm := Q3 hm
 have zy := a.trans (c.trans f)
 refine q8D k m r n<|q8D n k m r<|q8D r n k m<|q8D m r n k<|w9 [_] [_, _] k m r n (d ++ R) rfl<|Tg _ rfl j5u rfl (z1c _ _ (ay.length : Int) K L O S T U V ar au bz a9 ads W Y Z aa ab ac ad ae af ag ah ai aj ak al A B k C D m I r n (aX.le zy) (aY.le zy) (aZ.le zy) (a0.le zy) (a1.le zy) (a2.le zy) (a3.le zy) ba bb bA bc bB aC bp) ?_
 rintro _ cj _ g ⟨aP, aQ, q, rfl, rfl, bC⟩
 refine z0C [_] [_, _] q k m r n (d ++ R) rfl<|mV rfl<|tS (z5 rfl rfl)<|tS (z5 rfl rfl)<|aS rfl<|aS rfl<|Te<|Cs ?_
 obtain ⟨ck, bK, bL⟩ := bS hm
 refine Cj (fun bd e' hp' => [(2, pb ax), (5, pb W), (7, sv aK ay aL), (10, sv aP aC aQ), (35, .slice (q8Y aW aI an 4) (am).length (aI - an)), (36, iv ((am.length : Int))), (37, iv ((aM : Int))), (57, bv ck)] = e' ∧ (ax, Cl 28 [sv A2 J.Stations c3, sv A5 J.Sections c6, sv A8 J.Links c9, sv aE J.Signals aF, sv aG J.Gates aH]) :: (W, Cl 57 [sv Y K Z, sv aa L ab, sv ac O ad, sv ae S af, sv ag T ah, sv ai U aj, sv ak V al, sv A ar B, sv C au D, .map (some I)]) :: (d ++ (q ++ (k ++ (m ++ (r ++ (n ++ R)))))) = hp' ∧ cj.Le bd) ?_ ?_
 have hm := bK
 refine Cg<|mV rfl ?_
 rcases Bool.eq_false_or_eq_true bB with av | av
 rw [if_pos av] at hm
 refine Tr 51 rfl (v' := .bool true) (by rw [av] <;> rfl)<|tS (Z4 rfl)<|mV rfl<|yS<|mV rfl<|yS ?_
 obtain ⟨cl, bq, hm⟩ := bS hm
 refine tD (uW _ j4u rfl (fun w ho => z0s _ [] aC aP aQ (OS.now (o := (OT.fr (RT.list z4))) (l := aC) (hs := q) bC ho (.cons _ (.cons _ (.cons _ (List.sublist_append_left _ _))))) cl bq) (fun _ _ _ h => h.2.symm)) ?_
 rintro _ _ ⟨⟨_, rfl, _⟩, rfl⟩
 refine yS<|tS (sn2 rfl)<|tS (pF rfl rfl)<|Tn ?_
 obtain rfl := o1 hm
 exact jJ ⟨rfl, rfl, lr⟩
 rw [if_neg (fun hh => Bool.noConfusion (hh.symm.trans av))] at hm
 refine Tr 51 rfl (v' := .bool false) (by rw [av] <;> rfl)<|tS (V2 rfl)<|mV rfl<|nO<|nO<|nO<|tS (pT rfl rfl)<|Tn ?_
 obtain rfl := o1 hm
 exact jJ ⟨rfl, rfl, lr⟩
 rintro bd _ _ ⟨rfl, rfl, e⟩
 have hm := bL
 refine cB hm rfl (fun hm => ?_) fun hm => ?_
 refine Cr<|aS rfl<|Te<|Ct<|Xr<|Xb<|Xr<|Xr<|Xb<|Xr ?_
 have bM := aB _ (Option.some.inj hm).symm
 rw [bM] at X
 have hm := k8 X
 obtain rfl := o1 hm
 exact rO ⟨rfl, rfl⟩ (p.trans (a.trans (c.trans (f.trans (g.trans e)))))
 refine Ck<|Xn<|Cr<|tS (sF rfl q2F)<|tS (sL 0 rfl q7X rfl rfl)<|tS (sE rfl z2T)<|mV rfl<|Te<|Cb ?_
 have cv : J.Signals.length ≤ 9223372036854775807 := (FZ.bd (bi.le (p.trans (a.trans (c.trans (f.trans (g.trans e)))))))
 refine Cp 1 rfl<|Cp 1 rfl<|z4H d q k m r n<|z4H n d q k m r<|z4H r n d q k m<|z4H m r n d q k<|z4H k m r n d q<|z4H q k m r n d ?_
 obtain ⟨cC, bN, aD⟩ := bS hm
 refine lF (fun be => fun aR => fun aT e' hp' => ∃ s, [(2, pb ax), (5, pb W), (7, sv aK ay aL), (10, sv aP aC aQ), (35, .slice (q8Y aW aI an 4) (am).length (aI - an)), (36, iv ((am.length : Int))), (37, iv ((aM : Int))), (60, iv ((J.Signals.length : Int))), (61, iv ((be : Int)))] = e' ∧ (ax, Cl 28 [sv A2 J.Stations c3, sv A5 J.Sections c6, sv A8 J.Links c9, sv aE J.Signals aF, sv aG J.Gates aH]) :: (W, Cl 57 [sv Y K Z, sv aa L ab, sv ac O ad, sv ae S af, sv ag T ah, sv ai U aj, sv ak V al, sv A ar B, sv C au D, .map (some I)]) :: (d ++ (q ++ (k ++ (m ++ (s ++ (n ++ R)))))) = hp' ∧ bd.Le aT ∧ OM rI (OT.fr (RT.key ads)) false false aT.w I aR s) bN ⟨r, rfl, rfl, lr, (bA.le (g.trans e))⟩ ?_ ?_
 rintro be aR aT _ _ cw cm ⟨s, rfl, rfl, i, bf⟩ aw aV
 unfold V6 at aw
 have hm := aw
 refine Cr<|tS (lT rfl rfl (by omega))<|Te<|Cs<|j1 rfl<|Ck<|Xn<|Cs<|Cb<|Cr<|mV rfl<|aS rfl<|Te<|Cr<|tS (sD (vs := [_, _, _, _, _]) 0 5 rfl G9 rfl rfl rfl)<|mV rfl<|mV rfl<|mV rfl<|mV rfl ?_
 obtain ⟨⟨cn, co⟩, br, hm⟩ := bS hm
 have hm := Q3 hm
 have zx := p.trans (a.trans (c.trans (f.trans (g.trans (e.trans i)))))
 have zw := a.trans (c.trans (f.trans (g.trans (e.trans i))))
 have zv := e.trans i
 refine v8 1 rfl<|q9u d q k m s n<|q9u n d q k m s<|q9u s n d q k m<|q9u m s n d q k<|q9u k m s n d q<|q9u q k m s n d<|j2H [_] [_] d q k m s n R rfl<|Tg _ rfl j4t rfl (z1b _ _ J (be : Int) K L O S T U V ay aC ar au aR a9 ads W A2 c3 A5 c6 A8 c9 aE aF aG aH Y Z aa ab ac ad ae af ag ah ai aj ak al aK aL d aP aQ q A B k C D m I s n (h4.le zx) (h7.le zx) (bD.le zx) (bi.le zx) (bE.le zx) (aX.le zw) (aY.le zw) (aZ.le zw) (a0.le zw) (a1.le zw) (a2.le zw) (a3.le zw) (b9.le (c.trans (f.trans (g.trans zv)))) ca (bC.le zv) (ba.le (g.trans zv)) (bb.le (g.trans zv)) bf (bc.le (g.trans zv)) cn co br) ?_
 rintro _ cD _ aU ⟨bg, rfl, rfl, cp⟩
 refine j4W [_] [_] d q k m bg n R rfl<|tS (sn2 rfl)<|Te<|cM hm rfl (fun hm => ?_) fun hm => ?_
 refine Cr<|aS rfl<|Te<|Ct<|Xb<|Xr<|Xr<|Xb<|Xb<|Xr<|Xr<|Xb<|Xr ?_
 have bO := aV _ (Option.some.inj hm).symm
 rw [bO] at aD
 have hm := k8 aD
 have bP := aB _ (Option.some.inj hm).symm
 rw [bP] at X
 have hm := k8 X
 obtain rfl := o1 hm
 exact rO ⟨rfl, rfl⟩ (p.trans (a.trans (c.trans (f.trans (g.trans (e.trans (i.trans aU)))))))
 refine Ck<|Xm<|Xn<|Cg<|tS (sa rfl rfl (by omega))<|mV rfl<|Tn ?_
 exact jM hm ⟨bg, rfl, rfl, ((i.trans aU)), cp⟩
 rintro aR aT _ _ ⟨s, rfl, rfl, i, bf⟩ bQ
 rw [bQ] at aD
 have hm := J5 aD
 refine Cr<|tS (lF rfl rfl (by omega))<|Te<|Cs<|j0 rfl<|Ce<|Xe<|Xe<|Xo<|Xm<|Xn<|Cg<|tS (sa rfl rfl (by omega))<|mV rfl<|Tn ?_
 have zu := g.trans (e.trans i)
 exact jM hm ⟨ads, A, B, k, C, D, m, s, n, rfl, rfl, ((c.trans (f.trans zu))), (ba.le zu), (bb.le zu), bf, (bc.le zu)⟩
 rintro ⟨az, aA, aN, aO⟩ ao _ _ ⟨ads, A, B, t, C, D, x, y, z, rfl, rfl, c, bt, bu, bw, bx⟩ bR
 rw [bR] at X
 have hm := J5 X
 have hm := z2P hm
 refine Cr<|tS (lF rfl rfl (by omega))<|Te<|Cs<|j0 rfl<|Ce<|Xe<|Xe<|Xo<|Xn<|Cr<|aS rfl<|Te<|Ct ?_
 obtain rfl := o1 hm
 exact rO ⟨rfl, rfl⟩ (p.trans (a.trans c))
end Go.Proofs.YtdbehipjelcmbaaGreatDoor
