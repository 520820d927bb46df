import Derived.Test.YtdbehipjelcmbaaGreatDoorQZP1
set_option linter.unusedVariables false
set_option linter.unusedSimpArgs false
set_option linter.unusedSectionVars false
namespace Go.Proofs.YtdbehipjelcmbaaGreatDoor
open Go.RowKit Go.Fp
set_option maxRecDepth 20000
set_option maxHeartbeats 4000000
open Go.Fp renaming q4t → Te, q6p → Tn, q4S → Tb, q6q → Tg, q7X → Tv, q5Y → Cr, q2V → Cs, q0w → Cg, q6K → Cb, q3M → Ct, q3d → Ck, z1j → Ce, z2z → Cj, q9m → Cp, Q4 → Xn, V5 → Xr, q1q → Xe, q1r → Xb, q0k → Xm, q2m → Xo, q8P → Xi, j1C → Es, z7Y → E0, j1B → Ey, j6t → Yz, j2v → Ei, j7n → El, z5X → Eo, z7U → Da, z2F → Dd, z1B → Di, j6g → Rd2, z7T → Rn, z3R → Rg, q8R → sL, q5N → sD, q6Z → sF, z2l → sN, z0C → sE, q3S → sM, q1Z → sA, q5s → pT, q5t → pF, q0B → sI, q2n → sO, q2v → sP, q2w → sQ, z0G → sa, z6g → sb, q5L → lT, q5M → lF, z6h → eT, z6i → eF, q6d → sn2, q7Z → sB, z2L → uB, q7v → uA, z0r → uS, q4Q → uN, q5I → uW, z0s → uP, z0t → uQ, q3L → fE, q7L → bS, z2V → o1, q4Y → iS, q5K → ss, z0x → sp, q8t → kS, q8r → d3, z7w → mc, z7v → mn, z0F → q1, q7Y → q2, z2m → q3, z0D → q5, z0E → q6
theorem z1d (A : Option Addr) (n c : Nat) (xs : List Value) (w : World) (hR : Rd w A xs) (hl : xs.length = n * 4) (hn : n * 32 ≤ 140737488355328 ∧ n ≤ 9223372036854775807) :
    q5i Tryz.prog 55 [.slice A n c] w [] (fun v hp' => q9x 106 4 v n xs hp') := by
  refine q4Z 8 Tryz.func55 rfl Tryz.ntmps55 rfl ?_
  refine q5Y ?_
  refine q9L rfl rfl ?_
  refine q4t ?_
  refine q2V ?_
  refine q5Y ?_
  refine z4a rfl rfl ?_
  refine q4S rfl (q4U rfl rfl j0d) (fun hc1 => ?_) (fun hc1 => ?_)
  ·
    refine q4t ?_
    refine k9 rfl ?_
    refine q5Y ?_
    refine q9L rfl rfl ?_
    refine q4t ?_
    refine q3M ?_
    refine V5 ?_
    subst hc1
    obtain rfl := hR.none_nil
    obtain rfl : n = 0 := by simp at hl; omega
    refine q3Y (hp' := []) (by repeat (first | exact List.Sublist.refl _ | exact List.nil_sublist _ | exact Kb _ _ | exact Kc _ _ | exact (Kc _ _).trans (Kc _ _) | apply List.Sublist.cons_cons | apply List.Sublist.cons)) ?_
    exact z5d (k8.Le.refl _) rfl rfl (q9x.nil)
  ·
    refine q4t ?_
    refine k7 rfl ?_
    refine q3d ?_
    refine Q4 ?_
    refine q5Y ?_
    refine z1C rfl (V7 (el := 106) [] [] rfl (fun _ => by kernel_rfl)) ?_
    rintro _ _ ⟨g0, rfl, rfl⟩
    refine z4a rfl rfl ?_
    refine z1C rfl (q9z xs j0d j4Y rfl (by decide) rfl rfl hl (fun w ho => hR.old ho) hn.2 hn.1) ?_
    rintro _ _ ⟨hs, rfl, hseg⟩
    refine q9L rfl rfl ?_
    refine q4t ?_
    refine q3M ?_
    refine q3Y (hp' := hs) (by repeat (first | exact List.Sublist.refl _ | exact List.nil_sublist _ | exact Kb _ _ | exact Kc _ _ | exact (Kc _ _).trans (Kc _ _) | apply List.Sublist.cons_cons | apply List.Sublist.cons)) ?_
    exact z5d (k8.Le.refl _) rfl rfl hseg
theorem z1Y (b : k8) (R : Hp) (d e f) (i : FZ w6 b.w e f d) (a) (hm : q3t d = some a):
 w8 Tryz.prog 55 [sv e d f] b (R) (fun v b' hp' => ∃ g h c, sv g a h = v ∧ (c ++ R) = hp' ∧ OS 106 (OT.fr w6) b'.w (sv g a h) a c) := by
 unfold q3t at hm
 obtain ⟨_, hroom, hm⟩ := bS hm
 have hroom := V6 hroom
 obtain rfl := o1 hm
 exact q5d (r := w6) (sz := 4) (by_ := 32) rfl (by decide) z1d i hroom
theorem z1c (A : Option Addr) (n c : Nat) (xs : List Value) (w : World) (hR : Rd w A xs) (hl : xs.length = n * 2) (hn : n * 16 ≤ 140737488355328 ∧ n ≤ 9223372036854775807) :
    q5i Tryz.prog 56 [.slice A n c] w [] (fun v hp' => q9x 109 2 v n xs hp') := by
  refine q4Z 8 Tryz.func56 rfl Tryz.ntmps56 rfl ?_
  refine q5Y ?_
  refine q9L rfl rfl ?_
  refine q4t ?_
  refine q2V ?_
  refine q5Y ?_
  refine z4a rfl rfl ?_
  refine q4S rfl (q4U rfl rfl z4e) (fun hc1 => ?_) (fun hc1 => ?_)
  ·
    refine q4t ?_
    refine k9 rfl ?_
    refine q5Y ?_
    refine q9L rfl rfl ?_
    refine q4t ?_
    refine q3M ?_
    refine V5 ?_
    subst hc1
    obtain rfl := hR.none_nil
    obtain rfl : n = 0 := by simp at hl; omega
    refine q3Y (hp' := []) (by repeat (first | exact List.Sublist.refl _ | exact List.nil_sublist _ | exact Kb _ _ | exact Kc _ _ | exact (Kc _ _).trans (Kc _ _) | apply List.Sublist.cons_cons | apply List.Sublist.cons)) ?_
    exact z5d (k8.Le.refl _) rfl rfl (q9x.nil)
  ·
    refine q4t ?_
    refine k7 rfl ?_
    refine q3d ?_
    refine Q4 ?_
    refine q5Y ?_
    refine z1C rfl (V7 (el := 109) [] [] rfl (fun _ => by kernel_rfl)) ?_
    rintro _ _ ⟨g0, rfl, rfl⟩
    refine z4a rfl rfl ?_
    refine z1C rfl (q9z xs z4e j4X rfl (by decide) rfl rfl hl (fun w ho => hR.old ho) hn.2 hn.1) ?_
    rintro _ _ ⟨hs, rfl, hseg⟩
    refine q9L rfl rfl ?_
    refine q4t ?_
    refine q3M ?_
    refine q3Y (hp' := hs) (by repeat (first | exact List.Sublist.refl _ | exact List.nil_sublist _ | exact Kb _ _ | exact Kc _ _ | exact (Kc _ _).trans (Kc _ _) | apply List.Sublist.cons_cons | apply List.Sublist.cons)) ?_
    exact z5d (k8.Le.refl _) rfl rfl hseg
theorem z1X (b : k8) (R : Hp) (d e f) (i : FZ j6 b.w e f d) (a) (hm : q3s d = some a):
 w8 Tryz.prog 56 [sv e d f] b (R) (fun v b' hp' => ∃ g h c, sv g a h = v ∧ (c ++ R) = hp' ∧ OS 109 (OT.fr j6) b'.w (sv g a h) a c) := by
 unfold q3s at hm
 obtain ⟨_, hroom, hm⟩ := bS hm
 have hroom := V6 hroom
 obtain rfl := o1 hm
 exact q5d (r := j6) (sz := 2) (by_ := 16) rfl (by decide) z1c i hroom
theorem z1b (A : Option Addr) (n c : Nat) (xs : List Value) (w : World) (hR : Rd w A xs) (hl : xs.length = n * 2) (hn : n * 16 ≤ 140737488355328 ∧ n ≤ 9223372036854775807) :
    q5i Tryz.prog 57 [.slice A n c] w [] (fun v hp' => q9x 112 2 v n xs hp') := by
  refine q4Z 8 Tryz.func57 rfl Tryz.ntmps57 rfl ?_
  refine q5Y ?_
  refine q9L rfl rfl ?_
  refine q4t ?_
  refine q2V ?_
  refine q5Y ?_
  refine z4a rfl rfl ?_
  refine q4S rfl (q4U rfl rfl z7b) (fun hc1 => ?_) (fun hc1 => ?_)
  ·
    refine q4t ?_
    refine k9 rfl ?_
    refine q5Y ?_
    refine q9L rfl rfl ?_
    refine q4t ?_
    refine q3M ?_
    refine V5 ?_
    subst hc1
    obtain rfl := hR.none_nil
    obtain rfl : n = 0 := by simp at hl; omega
    refine q3Y (hp' := []) (by repeat (first | exact List.Sublist.refl _ | exact List.nil_sublist _ | exact Kb _ _ | exact Kc _ _ | exact (Kc _ _).trans (Kc _ _) | apply List.Sublist.cons_cons | apply List.Sublist.cons)) ?_
    exact z5d (k8.Le.refl _) rfl rfl (q9x.nil)
  ·
    refine q4t ?_
    refine k7 rfl ?_
    refine q3d ?_
    refine Q4 ?_
    refine q5Y ?_
    refine z1C rfl (V7 (el := 112) [] [] rfl (fun _ => by kernel_rfl)) ?_
    rintro _ _ ⟨g0, rfl, rfl⟩
    refine z4a rfl rfl ?_
    refine z1C rfl (q9z xs z7b j4W rfl (by decide) rfl rfl hl (fun w ho => hR.old ho) hn.2 hn.1) ?_
    rintro _ _ ⟨hs, rfl, hseg⟩
    refine q9L rfl rfl ?_
    refine q4t ?_
    refine q3M ?_
    refine q3Y (hp' := hs) (by repeat (first | exact List.Sublist.refl _ | exact List.nil_sublist _ | exact Kb _ _ | exact Kc _ _ | exact (Kc _ _).trans (Kc _ _) | apply List.Sublist.cons_cons | apply List.Sublist.cons)) ?_
    exact z5d (k8.Le.refl _) rfl rfl hseg
theorem z1W (b : k8) (R : Hp) (d e f) (i : FZ w7 b.w e f d) (a) (hm : q3r d = some a):
 w8 Tryz.prog 57 [sv e d f] b (R) (fun v b' hp' => ∃ g h c, sv g a h = v ∧ (c ++ R) = hp' ∧ OS 112 (OT.fr w7) b'.w (sv g a h) a c) := by
 unfold q3r at hm
 obtain ⟨_, hroom, hm⟩ := bS hm
 have hroom := V6 hroom
 obtain rfl := o1 hm
 exact q5d (r := w7) (sz := 2) (by_ := 16) rfl (by decide) z1b i hroom
theorem q2W (b : k8) (R : Hp) (O : v6) (A2 c3 A5 c6 A8 c9 aI aJ aK aL) (h4 : FZ RT.str b.w A2 c3 O.Stations) (h7 : FZ j3 b.w A5 c6 O.Sections) (bd : FZ w6 b.w A8 c9 O.Links) (be : FZ j6 b.w aI aJ O.Signals) (bf : FZ w7 b.w aK aL O.Gates) (T U V W X) (hm : q8f O = some (T, U, V, W, X)):
 w8 Tryz.prog 16 [.agg #[sv A2 O.Stations c3, sv A5 O.Sections c6, sv A8 O.Links c9, sv aI O.Signals aJ, sv aK O.Gates aL]] b (R) (fun v b' hp' => ∃ ax ay az aA aB aC aD aE aF aG, .agg #[sv ax T ay, sv az U aA, sv aB V aC, sv aD W aE, sv aF X aG] = v ∧ R = hp' ∧ FZ RT.str b'.w ax ay T ∧ FZ j3 b'.w az aA U ∧ FZ w6 b'.w aB aC V ∧ FZ j6 b'.w aD aE W ∧ FZ w7 b'.w aF aG X) := by
 refine fE 19 Tryz.func16 rfl Tryz.ntmps16 rfl ?_
 unfold q8f at hm
 refine Cr<|tD (uB _ rfl rfl) ?_
 rintro _ _ ⟨bg, rfl, rfl⟩
 refine tD (uA [sn, sn, sn, sn, sn] z5Y rfl) ?_
 rintro _ _ ⟨aH, rfl, rfl⟩
 refine Te ?_
 obtain ⟨⟨x, y, z, A, B⟩, aM, aN⟩ := bS hm
 refine Cj (fun q e' hp' => ∃ C D t E F r G H o I J n K L g, [(2, pb aH)] = e' ∧ (aH, Cl 28 [sv C x D, sv E y F, sv G z H, sv I A J, sv K B L]) :: (t ++ (r ++ (o ++ (n ++ (g ++ R))))) = hp' ∧ b.Le q ∧ OS 9 (OT.fr RT.str) q.w (sv C x D) x t ∧ OS 99 (OT.fr j3) q.w (sv E y F) y r ∧ OS 106 (OT.fr w6) q.w (sv G z H) z o ∧ OS 109 (OT.fr j6) q.w (sv I A J) A n ∧ OS 112 (OT.fr w7) q.w (sv K B L) B g) ?_ ?_
 have hm := aM
 obtain ⟨Y, ao, hm⟩ := bS hm
 obtain ⟨Z, aq, hm⟩ := bS hm
 obtain ⟨aa, ar, hm⟩ := bS hm
 obtain ⟨ab, au, hm⟩ := bS hm
 obtain ⟨ac, av, hm⟩ := bS hm
 refine Di mixed (.refl _)<|E0 0 rfl (sF rfl z0U)<|Es 1 rfl (sL 1 rfl z7s rfl rfl)<|E0 3 rfl (sF rfl q0m)<|Es 4 rfl (sL 1 rfl q5n rfl rfl)<|E0 6 rfl (sF rfl q9l)<|Es 7 rfl (sL 1 rfl z7r rfl rfl)<|E0 9 rfl (sF rfl q3k)<|Es 10 rfl (sL 1 rfl q8X rfl rfl)<|E0 12 rfl (sF rfl q5V)<|Es 13 rfl (sL 1 rfl z3h rfl rfl)<|Eo<|Da [2] (by kernel_rfl) rfl<|Rg lr rfl rfl _ j5A rfl (z2a _ _ O.Stations A2 c3 h4 Y ao) ?_ ?_
 rintro _ bh _ a ⟨ad, ae, p, rfl, rfl, aY⟩
 refine iR<|z1Q [] [_, _] p R rfl<|Da [5] (by kernel_rfl) rfl<|Rg a rfl rfl _ j5z rfl (z1Z _ _ O.Sections A5 c6 (h7.le a) Z aq) ?_ ?_
 rintro _ bi _ c ⟨af, ag, s, rfl, rfl, aZ⟩
 refine iR<|z1Q [] [_, _] s (p ++ R) rfl<|Da [8] (by kernel_rfl) rfl<|Rg (a.trans c) rfl rfl _ j5y rfl (z1Y _ _ O.Links A8 c9 (bd.le (a.trans c)) aa ar) ?_ ?_
 rintro _ bj _ d ⟨ah, ai, u, rfl, rfl, a0⟩
 refine iR<|z1Q [] [_, _] u (s ++ (p ++ R)) rfl<|Da [11] (by kernel_rfl) rfl ?_
 have zz := a.trans (c.trans d)
 refine Rg zz rfl rfl _ j5x rfl (z1X _ _ O.Signals aI aJ (be.le zz) ab au) ?_ ?_
 rintro _ bk _ e ⟨aj, ak, S, rfl, rfl, a1⟩
 refine iR<|z1Q [] [_, _] S (u ++ (s ++ (p ++ R))) rfl<|Da [14] (by kernel_rfl) rfl ?_
 have zy := a.trans (c.trans (d.trans e))
 refine Rg zy rfl rfl _ j5w rfl (z1W _ _ O.Gates aK aL (bf.le zy) ac av) ?_ ?_
 rintro _ bl _ f ⟨al, am, an, rfl, rfl, a2⟩
 refine iR<|z1Q [] [_, _] an (S ++ (u ++ (s ++ (p ++ R)))) rfl<|Da [15] (by kernel_rfl) rfl ?_
 have zx := a.trans (c.trans (d.trans (e.trans f)))
 refine Rd2 zx rfl rfl (Q7.does (sB (v := .agg #[sv ad Y ae, sv af Z ag, sv ah aa ai, sv aj ab ak, sv al ac am]) [(0, sv ad Y ae), (1, sv af Z ag), (2, sv ah aa ai), (3, sv aj ab ak), (4, sv al ac am)] rfl (fun _ => by kernel_rfl))) ?_ ?_
 rintro _ _ ⟨rfl, rfl⟩
 refine iR<|Da [16] (by kernel_rfl) rfl<|Rd2 zx rfl rfl (uN (vs := [_, _, _, _, _]) 0 5 rfl rfl rfl z7d rfl (mc rfl (mc rfl (mc rfl (mc rfl (mc rfl mn))))) rfl (by simp)) ?_ ?_
 rintro _ _ rfl
 refine ⟨.inl (by kernel_rfl), ?_⟩
 refine Dd (by kernel_rfl) ?_
 obtain ⟨rfl, rfl, rfl, rfl, rfl⟩ := q4e hm
 have zw := d.trans (e.trans f)
 exact jJ ⟨ad, ae, p, af, ag, s, ah, ai, u, aj, ak, S, al, am, an, rfl, rfl, zx, (aY.le (c.trans zw)), (aZ.le zw), (a0.le (e.trans f)), (a1.le f), a2⟩
 exact Rn
 exact Rn
 exact Rn
 exact Rn
 exact Rn
 exact Rn
 exact Rn
 rintro q _ _ ⟨C, D, t, E, F, r, G, H, o, I, J, n, K, L, g, rfl, rfl, aw, a3, a4, a5, a6, a7⟩
 have hm := z6Y aN
 refine Ct<|z1F [_] t (r ++ (o ++ (n ++ (g ++ R)))) rfl ?_
 intro bm h aO
 have a8 := OS.frz (l := x) a3 h.cells aO
 refine z1F [_] r (o ++ (n ++ (g ++ R))) rfl ?_
 intro bn i aP
 have a9 := OS.frz (l := y) (a4.le h) i.cells aP
 refine z1F [_] o (n ++ (g ++ R)) rfl ?_
 intro bo j aQ
 have ba := OS.frz (l := z) (a5.le (h.trans i)) j.cells aQ
 refine z1F [_] n (g ++ R) rfl ?_
 intro bp k aR
 have bb := OS.frz (l := A) (a6.le (h.trans (i.trans j))) k.cells aR
 refine z1F [_] g R rfl ?_
 intro bq m aT
 have bc := OS.frz (l := B) (a7.le (h.trans (i.trans (j.trans k)))) m.cells aT
 obtain ⟨rfl, rfl, rfl, rfl, rfl⟩ := q4e hm
 have zv := i.trans (j.trans (k.trans m))
 have aU := a8.le zv
 have aV := (a9.le (j.trans (k.trans m)))
 have aW := (ba.le (k.trans m))
 have aX := bb.le m
 exact rM (rs := [.cell 2 28]) (vs := [.agg #[sv C x D, sv E y F, sv G z H, sv I A J, sv K B L]]) ⟨⟨_, rfl, fun w ho => q5e (vs := [_, _, _, _, _]) 0 5 q0o rfl rfl rfl w ho⟩, trivial⟩ ⟨C, D, E, F, G, H, I, J, K, L, rfl, rfl, aU, aV, aW, aX, bc⟩ (.cons _ (.refl _)) (aw.trans (h.trans zv))
theorem z9K (b : k8) (R : Hp) (g : v6) (f Y Z A5 c6 A8 c9 s t u x y z) (h4 : FZ RT.str b.w Y Z g.Stations) (h7 : FZ j3 b.w A5 c6 g.Sections) (aa : FZ w6 b.w A8 c9 g.Links) (ab : FZ j6 b.w s t g.Signals) (ac : FZ w7 b.w u x g.Gates) (K : FZ rI b.w y z f) (L i) (hm : q6v g f = some (L, i)):
 w8 Tryz.prog 58 [.agg #[sv Y g.Stations Z, sv A5 g.Sections c6, sv A8 g.Links c9, sv s g.Signals t, sv u g.Gates x], sv y f z] b (R) (fun v b' hp' => ∃ A O q, .tuple #[sv A i O, iv L] = v ∧ (q ++ R) = hp' ∧ OS 80 (OT.fr Q3) b'.w (sv A i O) i q ∧ (A = none ↔ i = [])) := by
 refine fE 32 Tryz.func58 rfl Tryz.ntmps58 rfl ?_
 unfold q6v at hm
 refine Cr<|tD (uB _ rfl rfl) ?_
 rintro _ _ ⟨am, rfl, rfl⟩
 refine aS rfl<|aS rfl<|Te<|Cr<|tS (sD (vs := [_, _, _, _, _]) 0 5 rfl q0o rfl rfl rfl) ?_
 obtain ⟨⟨ad, B⟩, C, hm⟩ := bS hm
 have hm := J4 hm
 refine Tg _ rfl j3E rfl (q7K _ _ g Y Z A5 c6 A8 c9 s t u x h4 h7 aa ab ac ad B C) ?_
 rintro _ ae _ c ⟨S, T, j, rfl, rfl, af, ag⟩
 refine q5k [] [_] j R rfl<|mV rfl<|tS (j5 rfl rfl)<|tS (j5 rfl rfl)<|aS rfl<|aS rfl<|Te<|Cs<|Cr<|mV rfl<|tS (q2 rfl rfl)<|Te<|cI hm rfl (fun hm => ?_) fun hm => ?_
 refine Cr<|mV rfl<|aS rfl<|aS rfl<|Te<|Ct<|Xr ?_
 obtain ⟨rfl, rfl⟩ := Z6 hm
 exact rT ⟨none, 0, [], rfl, rfl, OS.nil, ⟨fun _ => rfl, fun _ => rfl⟩⟩ c
 refine Ck<|Xn<|Cs<|Cr<|mV rfl<|tS (sE rfl z2n)<|mV rfl<|Te<|Cb ?_
 have aj : f.length ≤ 9223372036854775807 := (FZ.bd (K.le c))
 obtain ⟨ak, D, e⟩ := bS hm
 refine lF (fun r => fun _ => fun k e' hp' => [(6, sv S B T), (18, sv y f z), (19, iv ((f.length : Int))), (20, iv ((r : Int)))] = e' ∧ (j ++ R) = hp' ∧ ae.Le k) D ⟨rfl, rfl, lr⟩ ?_ ?_
 rintro r _ k _ _ al X ⟨rfl, rfl, a⟩ d l
 unfold q5Q at d
 have hm := d
 refine Cr<|tS (lT rfl rfl (by omega))<|Te<|Cs<|k9 rfl<|Ck<|Xn<|Cs<|Cb<|Cr ?_
 obtain ⟨U, V, ah, E, ai, F, n, G, o, hm⟩ := bF (sz := 1) hm (K.le (c.trans a))
 obtain rfl := F
 refine tS (sI V rfl rfl E o G z2n)<|tS (sO rfl Q5 (n 0 _ rfl))<|aS rfl<|Te<|Cr<|mV rfl<|mV rfl<|tS (sE rfl j2U) ?_
 obtain ⟨_, m, hm⟩ := bS hm
 have m := (kS m).2
 refine tS (sb rfl rfl m) ?_
 obtain ⟨W, p, hm⟩ := bS hm
 refine tD (uW _ q6h rfl (fun w ho => X9 _ [] U 0 ((B.length : Int) - 1) W p) (fun _ _ _ h => h.2.symm)) ?_
 rintro _ _ ⟨⟨_, rfl, _⟩, rfl⟩
 refine tS (sn2 rfl)<|Te<|cM hm rfl (fun hm => ?_) fun hm => ?_
 refine Cr<|aS rfl<|aS rfl<|Te<|Ct<|Xb<|Xr<|Xr<|Xb<|Xr ?_
 have H := l _ (Kd hm).symm
 rw [H] at e
 have hm := J9 e
 obtain ⟨rfl, rfl⟩ := Z6 hm
 exact rT ⟨none, 0, [], rfl, rfl, OS.nil, ⟨fun _ => rfl, fun _ => rfl⟩⟩ (c.trans a)
 refine Ck<|Xm<|Xn<|Cg<|tS (sa rfl rfl (by omega))<|mV rfl<|Tn ?_
 exact jM hm ⟨rfl, rfl, (a)⟩
 rintro _ k _ _ ⟨rfl, rfl, a⟩ I
 rw [I] at e
 have hm := H4 e
 refine Cr<|tS (lF rfl rfl (by omega))<|Te<|Cs<|k7 rfl<|Ce<|Xe<|Xe<|Xo<|Xn<|Cr<|mV rfl<|aS rfl<|aS rfl<|Te<|Ct ?_
 obtain ⟨rfl, rfl⟩ := Z6 hm
 have J := af.le a
 exact rT ⟨S, T, j, rfl, rfl, J, ag⟩ (c.trans a)
theorem q9H (b : k8) (R : Hp) (t : v6) (j : j1) (A2 c3 A5 c6 A8 c9 ad ae af ag U V) (h4 : FZ RT.str b.w A2 c3 t.Stations) (h7 : FZ j3 b.w A5 c6 t.Sections) (bH : FZ w6 b.w A8 c9 t.Links) (aQ : FZ j6 b.w ad ae t.Signals) (bI : FZ w7 b.w af ag t.Gates) (bf : FZ J2 b.w U V j.Steps) (W) (hm : q3J t j = some W):
 w8 Tryz.prog 96 [.agg #[sv A2 t.Stations c3, sv A5 t.Sections c6, sv A8 t.Links c9, sv ad t.Signals ae, sv af t.Gates ag], .agg #[iv j.From, iv j.To, sv U j.Steps V]] b (R) (fun v b' hp' => ∃ ay az ar, sv ay W az = v ∧ (ar ++ R) = hp' ∧ OS 125 (OT.fr J2) b'.w (sv ay W az) W ar) := by
 refine fE 83 Tryz.func96 rfl Tryz.ntmps96 rfl ?_
 unfold q3J at hm
 refine Cr<|tD (uB _ rfl rfl) ?_
 rintro _ _ ⟨m, rfl, rfl⟩
 refine tD (uB _ rfl rfl) ?_
 rintro _ _ ⟨n, rfl, rfl⟩
 refine aS rfl<|Te<|Cs<|Cr<|tS (sF rfl q6B)<|tS (sL 0 rfl Q5 rfl rfl)<|tS (q3 rfl rfl)<|Te<|cI hm rfl (fun hm => ?_) fun hm => ?_
 refine Cr<|aS rfl<|Te<|Ct<|Xr ?_
 obtain rfl := o1 hm
 exact rO ⟨none, 0, [], rfl, rfl, OS.nil⟩ lr
 refine Ck<|Xn<|Cr<|aS rfl<|Te ?_
 obtain ⟨⟨bg, bh⟩, aR, aT⟩ := bS hm
 refine Cj (fun X e' hp' => ∃ k, [(2, pb m), (3, pb n), (5, sn), (6, pb k)] = e' ∧ (m, Cl 28 [sv A2 t.Stations c3, sv A5 t.Sections c6, sv A8 t.Links c9, sv ad t.Signals ae, sv af t.Gates ag]) :: (n, Cl 80 [iv j.From, iv j.To, sv U j.Steps V]) :: (k, Cl 120 [iv bg, iv bh]) :: R = hp' ∧ b.Le X) ?_ ?_
 have hm := aR
 obtain ⟨aA, bi, hm⟩ := bS hm
 obtain ⟨aB, bj, hm⟩ := bS hm
 refine Di mixed (.refl _)<|E0 0 rfl (sF rfl q3k)<|Es 1 rfl (sL 1 rfl q8X rfl rfl)<|E0 2 rfl (sF rfl q6B)<|Es 3 rfl (sL 0 rfl Q5 rfl rfl) ?_
 obtain ⟨bk, aU, aV⟩ := iS bi
 obtain ⟨bz, aW, aC, au, aD⟩ := FZ.get (sz := 2) rfl (by decide) aQ aV
 obtain ⟨_, _, rfl, rfl, rfl⟩ := aW
 refine E0 4 rfl (sI bk rfl rfl aU aD au z4e)<|E0 5 rfl (sQ rfl au q4l)<|Es 6 rfl (sO rfl Q5 (aC 0 _ rfl))<|E0 7 rfl (sF rfl q3k)<|Es 8 rfl (sL 1 rfl q8X rfl rfl)<|E0 9 rfl (sF rfl q6B)<|Es 10 rfl (sL 0 rfl Q5 rfl rfl) ?_
 obtain ⟨bl, aX, aY⟩ := iS bj
 obtain ⟨bA, aZ, aE, av, aF⟩ := FZ.get (sz := 2) rfl (by decide) aQ aY
 obtain ⟨_, _, rfl, rfl, rfl⟩ := aZ
 refine E0 11 rfl (sI bl rfl rfl aX aF av z4e)<|E0 12 rfl (sQ rfl av q8o)<|Es 13 rfl (sO rfl Q5 (aE 1 _ rfl))<|E0 14 rfl (sB (v := .agg #[iv aA.Section, iv aB.End]) [(0, iv aA.Section), (1, iv aB.End)] rfl (fun _ => by kernel_rfl))<|Eo<|Da [15] (by kernel_rfl) rfl<|Rd2 lr rfl rfl (uA [iv 0, iv 0] q3f rfl) ?_ ?_
 rintro _ _ ⟨bm, rfl, rfl⟩
 refine iR<|Da [16] (by kernel_rfl) rfl<|Rd2 lr rfl rfl (uN (vs := [_, _]) 0 2 rfl rfl rfl q3Z rfl (mc rfl (mc rfl mn)) rfl (by simp)) ?_ ?_
 rintro _ _ rfl
 refine ⟨.inl (by kernel_rfl), ?_⟩
 refine Dd (by kernel_rfl) ?_
 obtain ⟨rfl, rfl⟩ := Z6 hm
 exact jJ ⟨bm, rfl, rfl, lr⟩
 exact Rn
 exact Rn
 rintro X _ _ ⟨k, rfl, rfl, c⟩
 have hm := J4 aT
 obtain ⟨ai, a0, a1⟩ := bS hm
 refine Cj (fun aj e' hp' => ∃ Y Z H, [(5, sv Y ai Z)] = e' ∧ (H ++ R) = hp' ∧ X.Le aj ∧ OS 125 (OT.fr J2) aj.w (sv Y ai Z) ai H) ?_ ?_
 have hm := a0
 refine Cr<|aS rfl<|Te<|Cb<|lL (z6c fun J C D g => fun aa e' hp' => ∃ p q f, [(2, pb m), (3, pb n), (5, sv p g q), (6, pb k), (7, iv J)] = e' ∧ (m, Cl 28 [sv A2 t.Stations c3, sv A5 t.Sections c6, sv A8 t.Links c9, sv ad t.Signals ae, sv af t.Gates ag]) :: (n, Cl 80 [iv j.From, iv j.To, sv U j.Steps V]) :: (k, Cl 120 [iv C, iv D]) :: (f ++ R) = hp' ∧ X.Le aa ∧ OS 125 (OT.fr J2) aa.w (sv p g q) g f) hm ⟨none, 0, [], rfl, rfl, lr, OS.nil⟩ ?_
 rintro ⟨J, C, D, g⟩ aa _ _ bB ⟨p, q, f, rfl, rfl, a, K⟩ F L
 unfold q1l at F
 have hm := z2K F
 refine Cs<|Cr<|mV rfl<|tS (q3 rfl rfl)<|Te<|cI hm rfl (fun hm => ?_) fun hm => ?_
 refine Ck<|Xn<|Cb<|Cr<|tS (sB (v := .agg #[iv 0, iv 0, iv 0]) [] rfl (fun _ => by kernel_rfl))<|tD (uA [iv 0, iv 0, iv 0] q5j rfl) ?_
 rintro _ _ ⟨E, rfl, rfl⟩
 refine tD (uA [.bool false] j0h rfl) ?_
 rintro _ _ ⟨ab, rfl, rfl⟩
 refine tD (uN (vs := [_, _, _]) 1 3 rfl rfl rfl q6s rfl (mc rfl (mc rfl (mc rfl mn))) rfl (by simp)) ?_
 rintro _ _ rfl
 refine tD (uS 0 rfl rfl z2o rfl rfl (by simp)) ?_
 rintro _ _ rfl
 refine Te ?_
 obtain ⟨⟨e, A, u, aG⟩, a2, a3⟩ := bS hm
 refine Cj (fun ak e' hp' => [(2, pb m), (3, pb n), (5, sv p g q), (6, pb k), (7, iv J), (8, pb E), (9, pb ab)] = e' ∧ (m, Cl 28 [sv A2 t.Stations c3, sv A5 t.Sections c6, sv A8 t.Links c9, sv ad t.Signals ae, sv af t.Gates ag]) :: (n, Cl 80 [iv j.From, iv j.To, sv U j.Steps V]) :: (k, Cl 120 [iv C, iv D]) :: (E, Cl 125 [iv e, iv A, iv u]) :: (ab, Cl 4 [bv aG]) :: (f ++ R) = hp' ∧ aa.Le ak) ?_ ?_
 have hm := a2
 refine Cr<|tS (sD (vs := [_, _, _, _, _]) 2 5 rfl q0o rfl rfl rfl)<|tS (sD (vs := [_, _]) 4 2 rfl q3e rfl rfl rfl) ?_
 obtain ⟨bn, aH, hm⟩ := bS hm
 have zz := c.trans a
 refine Tg _ rfl z9H rfl (z4U _ _ t (⟨C, D⟩ : Q0) A2 c3 A5 c6 A8 c9 ad ae af ag (h4.le zz) (h7.le zz) (bH.le zz) (aQ.le zz) (bI.le zz) bn aH) ?_
 rintro _ bo _ O ⟨bJ, rfl, rfl, bp⟩
 refine Te<|Cb ?_
 obtain ⟨bK, a4, I⟩ := bS hm
 refine Cp 1 rfl<|Cp 4 rfl<|Cp 4 rfl<|Cp 4 rfl ?_
 refine z6L (fun x : Q2 => (.agg #[iv x.Section, iv x.In, iv x.Out] : Value)) (fun _ => fun al hp' => (m, Cl 28 [sv A2 t.Stations c3, sv A5 t.Sections c6, sv A8 t.Links c9, sv ad t.Signals ae, sv af t.Gates ag]) :: (n, Cl 80 [iv j.From, iv j.To, sv U j.Steps V]) :: (k, Cl 120 [iv C, iv D]) :: (E, Cl 125 [iv 0, iv 0, iv 0]) :: (ab, Cl 4 [bv false]) :: (f ++ R) = hp' ∧ bo.Le al) rfl bp a4 (e' := [(2, pb m), (3, pb n), (5, sv p g q), (6, pb k), (7, iv J), (8, pb E), (9, pb ab)]) ⟨rfl, rfl, rfl, rfl, rfl, rfl, rfl, trivial⟩ (.refl _) rfl (fun dk hdk => ⟨rfl, k8.Le.dks hdk⟩) ?_ ?_ (fun x hx => (c.trans (a.trans O)).dk x hx)
 rintro bL bM bN _ al bO _ bC ⟨rfl, S⟩ aI G am
 unfold q2P at G
 have hm := G
 refine Cg<|tD (uA [iv 0, iv 0, iv 0] q5j rfl) ?_
 rintro _ _ ⟨bP, rfl, rfl⟩
 refine tD (uN (vs := [_, _, _]) 0 3 rfl rfl rfl q6s rfl (mc rfl (mc rfl (mc rfl mn))) rfl (by simp)) ?_
 rintro _ _ rfl
 refine Tn<|z8c 1 rfl<|Cb<|Cr<|tS (sD (vs := [_, _, _]) 1 3 rfl q4H rfl rfl rfl)<|tD (uN (vs := [_, _, _]) 5 3 rfl rfl rfl q6s rfl (mc rfl (mc rfl (mc rfl mn))) rfl (by simp)) ?_
 rintro _ _ rfl
 refine tD (uS 6 rfl rfl z2o rfl rfl (by simp)) ?_
 rintro _ _ rfl
 refine Te<|Ce<|Xi rfl<|j2B 0 rfl lr<|Ce<|Xo ?_
 have a5 := am _ (Kd hm).symm
 rw [a5] at I
 have hm := J9 I
 obtain ⟨rfl, rfl, rfl, rfl⟩ := q7j hm
 exact jJ ⟨rfl, rfl, (O.trans (S.trans aI))⟩
 rintro _ al _ ⟨rfl, S⟩ a6
 rw [a6] at I
 have hm := H4 I
 refine Xm ?_
 obtain ⟨rfl, rfl, rfl, rfl⟩ := q7j hm
 exact jJ ⟨rfl, rfl, (O.trans S)⟩
 rintro ak _ _ ⟨rfl, rfl, d⟩
 have hm := z2K a3
 refine Cs ?_
 obtain ⟨bq, a7, a8⟩ := bS hm
 refine Cj (fun aJ e' hp' => [(2, pb m), (3, pb n), (5, sv p g q), (6, pb k), (7, iv J), (8, pb E), (63, bv bq)] = e' ∧ (m, Cl 28 [sv A2 t.Stations c3, sv A5 t.Sections c6, sv A8 t.Links c9, sv ad t.Signals ae, sv af t.Gates ag]) :: (n, Cl 80 [iv j.From, iv j.To, sv U j.Steps V]) :: (k, Cl 120 [iv C, iv D]) :: (E, Cl 125 [iv e, iv A, iv u]) :: (f ++ R) = hp' ∧ ak.Le aJ) ?_ ?_
 have hm := a7
 rcases Kg aG with s | s
 rw [if_pos s] at hm
 obtain ⟨ac, T, hm⟩ := bS hm
 rcases Kg ac with z | z
 rw [if_pos z] at hm
 refine Di mixed (.refl _)<|Es 0 rfl (stB (sL 4 rfl q4J rfl rfl) s)<|E0 1 rfl (K7 rfl)<|E0 2 rfl (sM rfl)<|Yz 3 39 rfl (sF rfl q1b)<|Ey 4 39 rfl (sL 1 rfl q4M rfl rfl)<|Yz 5 39 rfl (sF rfl V8)<|Ey 6 39 rfl (sL 3 rfl Q5 rfl rfl)<|Eo<|Da [7] (by kernel_rfl) rfl<|q3X lr rfl rfl 39 rfl rfl rfl (uW _ q5X rfl (fun w ho => q0K _ [] j.Steps e U V ((bf.le (c.trans (a.trans d))).old ho) ac T) (fun _ _ _ h => h.2.symm)) ?_ ?_
 rintro _ _ ⟨⟨_, rfl, _⟩, rfl⟩
 refine iR<|q4c 44 rfl (v' := .bool true) (by rw [z])<|Ei lr (.refl _)<|E0 8 rfl (pF rfl rfl)<|E0 9 rfl (sM rfl)<|eN 10 rfl<|eN 11 rfl<|eN 12 rfl<|eN 13 rfl<|E0 14 rfl (pT rfl rfl)<|E0 15 rfl (sM rfl)<|eN 16 rfl<|eN 17 rfl<|eN 18 rfl<|eN 19 rfl<|eN 20 rfl<|eN 21 rfl<|eN 22 rfl<|eN 23 rfl<|eN 24 rfl<|eN 25 rfl<|E0 26 rfl (pT rfl rfl)<|Eo<|Dd (by kernel_rfl) ?_
 obtain rfl := o1 hm
 exact jJ ⟨rfl, rfl, lr⟩
 exact Rn
 rw [if_neg (fun hh => Bool.noConfusion (hh.symm.trans z))] at hm
 obtain ⟨an, ah, hm⟩ := bS hm
 rcases Kg an with B | B
 rw [if_pos B] at hm
 refine Di mixed (.refl _)<|Es 0 rfl (stB (sL 4 rfl q4J rfl rfl) s)<|E0 1 rfl (K7 rfl)<|E0 2 rfl (sM rfl)<|Yz 3 39 rfl (sF rfl q1b)<|Ey 4 39 rfl (sL 1 rfl q4M rfl rfl)<|Yz 5 39 rfl (sF rfl V8)<|Ey 6 39 rfl (sL 3 rfl Q5 rfl rfl)<|Eo<|Da [7] (by kernel_rfl) rfl<|q3X lr rfl rfl 39 rfl rfl rfl (uW _ q5X rfl (fun w ho => q0K _ [] j.Steps e U V ((bf.le (c.trans (a.trans d))).old ho) ac T) (fun _ _ _ h => h.2.symm)) ?_ ?_
 rintro _ _ ⟨⟨_, rfl, _⟩, rfl⟩
 refine iR<|q4c 44 rfl (v' := .bool false) (by rw [z])<|Ei lr (.refl _)<|E0 8 rfl (pF rfl rfl)<|E0 9 rfl (sM rfl)<|Yz 10 46 rfl (sM rfl)<|Yz 11 46 rfl (sF rfl V8)<|Ey 12 46 rfl (sL 3 rfl Q5 rfl rfl)<|Eo<|Da [13] (by kernel_rfl) rfl ?_
 refine q3X lr rfl rfl 46 rfl rfl rfl (uW _ q5X rfl (fun w ho => q0K _ [] g e p q (OS.now (o := (OT.fr J2)) (l := g) (hs := f) (K.le d) ho (.cons _ (.cons _ (.cons _ (.cons _ (.cons _ (Kb _ _))))))) an ah) (fun _ _ _ h => h.2.symm)) ?_ ?_
 rintro _ _ ⟨⟨_, rfl, _⟩, rfl⟩
 refine iR<|q4c 50 rfl (v' := .bool true) (by rw [B])<|Ei lr (.refl _)<|E0 14 rfl (pF rfl rfl)<|E0 15 rfl (sM rfl)<|eN 16 rfl<|eN 17 rfl<|eN 18 rfl<|eN 19 rfl<|eN 20 rfl<|eN 21 rfl<|eN 22 rfl<|eN 23 rfl<|eN 24 rfl<|eN 25 rfl<|E0 26 rfl (pT rfl rfl)<|Eo<|Dd (by kernel_rfl) ?_
 obtain rfl := o1 hm
 exact jJ ⟨rfl, rfl, lr⟩
 exact Rn
 exact Rn
 rw [if_neg (fun hh => Bool.noConfusion (hh.symm.trans B))] at hm
 obtain ⟨bQ, br, hm⟩ := bS hm
 refine Di mixed (.refl _)<|Es 0 rfl (stB (sL 4 rfl q4J rfl rfl) s)<|E0 1 rfl (K7 rfl)<|E0 2 rfl (sM rfl)<|Yz 3 39 rfl (sF rfl q1b)<|Ey 4 39 rfl (sL 1 rfl q4M rfl rfl)<|Yz 5 39 rfl (sF rfl V8)<|Ey 6 39 rfl (sL 3 rfl Q5 rfl rfl)<|Eo<|Da [7] (by kernel_rfl) rfl ?_
 have zy := c.trans (a.trans d)
 refine q3X lr rfl rfl 39 rfl rfl rfl (uW _ q5X rfl (fun w ho => q0K _ [] j.Steps e U V ((bf.le zy).old ho) ac T) (fun _ _ _ h => h.2.symm)) ?_ ?_
 rintro _ _ ⟨⟨_, rfl, _⟩, rfl⟩
 refine iR<|q4c 44 rfl (v' := .bool false) (by rw [z])<|Ei lr (.refl _)<|E0 8 rfl (pF rfl rfl)<|E0 9 rfl (sM rfl)<|Yz 10 46 rfl (sM rfl)<|Yz 11 46 rfl (sF rfl V8)<|Ey 12 46 rfl (sL 3 rfl Q5 rfl rfl)<|Eo<|Da [13] (by kernel_rfl) rfl ?_
 refine q3X lr rfl rfl 46 rfl rfl rfl (uW _ q5X rfl (fun w ho => q0K _ [] g e p q (OS.now (o := (OT.fr J2)) (l := g) (hs := f) (K.le d) ho (.cons _ (.cons _ (.cons _ (.cons _ (.cons _ (Kb _ _))))))) an ah) (fun _ _ _ h => h.2.symm)) ?_ ?_
 rintro _ _ ⟨⟨_, rfl, _⟩, rfl⟩
 refine iR<|q4c 50 rfl (v' := .bool false) (by rw [B])<|Ei lr (.refl _)<|E0 14 rfl (pF rfl rfl)<|E0 15 rfl (sM rfl)<|Yz 16 52 rfl (sF rfl V8)<|Ey 17 52 rfl (sL 3 rfl Q5 rfl rfl)<|Yz 18 52 rfl (sF rfl q3k)<|Ey 19 52 rfl (sL 0 rfl q8X rfl rfl)<|Yz 20 52 rfl (sF rfl q7F)<|Ey 21 52 rfl (sL 1 rfl Q5 rfl rfl) ?_
 obtain ⟨bs, a9, ba⟩ := iS br
 obtain ⟨bD, bb, aK, aw, aL⟩ := FZ.get (sz := 2) rfl (by decide) (aQ.le zy) ba
 obtain ⟨_, _, rfl, rfl, rfl⟩ := bb
 refine Yz 22 52 rfl (sI bs rfl rfl a9 aL aw z4e)<|Yz 23 52 rfl (sQ rfl aw q4l)<|Ey 24 52 rfl (sO rfl Q5 (aK 0 _ rfl))<|Yz 25 52 rfl (q1 rfl rfl)<|E0 26 rfl (pF rfl rfl)<|Eo<|Dd (by kernel_rfl) ?_
 obtain rfl := o1 hm
 exact jJ ⟨rfl, rfl, lr⟩
 exact Rn
 exact Rn
 rw [if_neg (fun hh => Bool.noConfusion (hh.symm.trans s))] at hm
 refine Di mixed (.refl _)<|Es 0 rfl (stB (sL 4 rfl q4J rfl rfl) s)<|E0 1 rfl (P7 rfl)<|E0 2 rfl (sM rfl)<|eN 3 rfl<|eN 4 rfl<|eN 5 rfl<|eN 6 rfl<|eN 7 rfl<|E0 8 rfl (pT rfl rfl)<|E0 9 rfl (sM rfl)<|eN 10 rfl<|eN 11 rfl<|eN 12 rfl<|eN 13 rfl<|E0 14 rfl (pT rfl rfl)<|E0 15 rfl (sM rfl)<|eN 16 rfl<|eN 17 rfl<|eN 18 rfl<|eN 19 rfl<|eN 20 rfl<|eN 21 rfl<|eN 22 rfl<|eN 23 rfl<|eN 24 rfl<|eN 25 rfl<|E0 26 rfl (pT rfl rfl)<|Eo<|Dd (by kernel_rfl) ?_
 obtain rfl := o1 hm
 exact jJ ⟨rfl, rfl, lr⟩
 rintro aJ _ _ ⟨rfl, rfl, y⟩
 have hm := a8
 refine cB hm rfl (fun hm => ?_) fun hm => ?_
 refine Ce<|Xe<|Xi rfl<|Xe<|Xo ?_
 have hm := congrArg some (L _ (Kd hm).symm)
 obtain rfl := o1 hm
 exact jJ ⟨p, q, f, rfl, rfl, (a.trans (d.trans y)), (K.le (d.trans y))⟩
 refine Ck<|Xn<|Cr<|mV rfl<|tS (sD (vs := [_, _, _]) 3 3 rfl q4H rfl rfl rfl)<|tD (V7 (el := 125) [(0, .agg #[iv e, iv A, iv u])] [iv e, iv A, iv u] rfl (fun _ => by kernel_rfl)) ?_
 rintro _ _ ⟨bR, rfl, rfl⟩
 obtain ⟨_, ao, hm⟩ := bS hm
 have ao := V6 ao
 have zx := d.trans y
 refine tD (uQ (r := J2) (l := g) [_, _, _, _, _] R [[iv e, iv A, iv u]] [(⟨e, A, u⟩ : Q2)] rfl (by decide) q7O z6r rfl rfl rfl rfl (K.le zx) rfl (fun w ho => Rd.own (i := 0) ho rfl) ⟨⟨[iv e], _, rfl, rfl, ⟨[iv A], _, rfl, rfl, rfl⟩⟩, trivial⟩ ao) ?_
 rintro _ _ ⟨bc, rfl, aM⟩
 obtain ⟨bt, bu, rfl, _⟩ := aM.form
 refine aS rfl<|Te<|Cr<|mV rfl<|tS (sF rfl q0m)<|tS (sL 1 rfl q5n rfl rfl)<|tS (sF rfl V8)<|tS (sL 4 rfl Q5 rfl rfl) ?_
 obtain ⟨bT, bw, bE, bd, bG, be, aN, ax, aO, hm⟩ := bF (sz := 7) hm (h7.le (c.trans (a.trans zx)))
 obtain ⟨_, _, rfl, rfl, ⟨_, _, rfl, rfl, ⟨_, _, rfl, rfl, ⟨_, _, rfl, rfl, ⟨_, _, rfl, rfl, ⟨_, _, rfl, rfl, rfl⟩⟩⟩⟩⟩⟩ := be
 refine tS (sI bw rfl rfl bd aO ax z0I)<|tS (sQ rfl ax z9g)<|tS (sO rfl Q5 (aN 1 _ rfl)) ?_
 obtain ⟨_, aq, hm⟩ := bS hm
 have aq := (kS aq).2
 refine tS (sa rfl rfl aq)<|aS rfl<|Te<|Cg<|tS (sF rfl V8)<|tS (sL 4 rfl Q5 rfl rfl)<|tS (sF rfl z0n)<|tS (sL 4 rfl Q5 rfl rfl)<|tS (sB (v := .agg #[iv e, iv u]) [(0, iv e), (1, iv u)] rfl (fun _ => by kernel_rfl))<|tD (uN (vs := [_, _]) 3 2 rfl rfl rfl q3Z rfl (mc rfl (mc rfl mn)) rfl (by simp)) ?_
 rintro _ _ rfl
 refine Tn<|Xm ?_
 exact jM hm ⟨bt, bu, bc, rfl, rfl, ((a.trans zx)), aM⟩
 refine Ce<|Xe<|Xe<|Xo ?_
 have hm := congrArg some (L _ (Kd hm).symm)
 obtain rfl := o1 hm
 exact jJ ⟨p, q, f, rfl, rfl, a, K⟩
 rintro aj _ _ ⟨Y, Z, H, rfl, rfl, aP, bx⟩
 have hm := a1
 refine Cr<|mV rfl<|aS rfl<|Te<|Ct ?_
 obtain rfl := o1 hm
 exact rO ⟨Y, Z, H, rfl, rfl, bx⟩ (c.trans aP)
theorem q8J (b : k8) (R : Hp) (a : v6) (c : Q2) (o p q r s t g h i j) (E : FZ RT.str b.w o p a.Stations) (x : FZ j3 b.w q r a.Sections) (y : FZ w6 b.w s t a.Links) (z : FZ j6 b.w g h a.Signals) (A : FZ w7 b.w i j a.Gates) (k) (hm : q0j a c = some k):
 w8 Tryz.prog 98 [.agg #[sv o a.Stations p, sv q a.Sections r, sv s a.Links t, sv g a.Signals h, sv i a.Gates j], .agg #[iv c.Section, iv c.In, iv c.Out]] b (R) (fun v b' hp' => iv k = v ∧ R = hp') := by
 refine fE 18 Tryz.func98 rfl Tryz.ntmps98 rfl ?_
 unfold q0j at hm
 refine Cr<|tD (uB _ rfl rfl) ?_
 rintro _ _ ⟨B, rfl, rfl⟩
 refine tD (uB _ rfl rfl) ?_
 rintro _ _ ⟨C, rfl, rfl⟩
 refine aS rfl<|Te<|Cs<|Cr<|tS (sF rfl q0m)<|tS (sL 1 rfl q5n rfl rfl)<|tS (sF rfl V8)<|tS (sL 0 rfl Q5 rfl rfl) ?_
 obtain ⟨D, n, u, l, w, m, e, d, f, hm⟩ := bF (sz := 7) hm x
 obtain ⟨_, _, rfl, rfl, ⟨_, _, rfl, rfl, ⟨_, _, rfl, rfl, ⟨_, _, rfl, rfl, ⟨_, _, rfl, rfl, ⟨_, _, rfl, rfl, rfl⟩⟩⟩⟩⟩⟩ := m
 refine tS (sI n rfl rfl l f d z0I)<|tS (sQ rfl d q4B)<|tS (sO rfl Q5 (e 0 _ rfl))<|tS (q1 rfl rfl)<|Te<|cI hm rfl (fun hm => ?_) fun hm => ?_
 refine Cr<|tS (sF rfl z6y)<|tS (sL 0 rfl Q5 rfl rfl)<|tS (sF rfl z0n)<|tS (sL 0 rfl Q5 rfl rfl)<|tS (j4x rfl rfl)<|aS rfl<|Te<|Ct<|Xr ?_
 obtain rfl := o1 hm
 exact rO ⟨rfl, rfl⟩ lr
 refine Ck<|Xn<|Cr<|aS rfl<|Te<|Ct ?_
 obtain rfl := o1 hm
 exact rO ⟨rfl, rfl⟩ lr
theorem q1J (b : k8) (R : Hp) (a : q9) (q s t u x D E y j h ab F G H I J K L O S T U V W A3 c4 c A8 c9 e z f) (an : FZ RT.str b.w G H q) (ao : FZ j3 b.w I J s) (aq : FZ w6 b.w K L t) (ar : FZ j6 b.w O S u) (au : FZ w7 b.w T U x) (av : FZ J2 b.w V W y) (h5 : OS 125 (OT.fr J2) b.w (sv A3 j c4) j c) (ac : OS 72 (OT.fr j8) b.w (sv A8 h c9) h e) (X : (A8 = none ↔ h = [])) (Y : OM j8 (OT.fr RT.bool) true false b.w z ab f) (m ad) (hm : Z8 a q s t u x D E y j h ab = some (m, ad)):
 w8 Tryz.prog 97 [pb F, .agg #[iv a.Kind, iv a.Place, iv a.Position, iv a.At]] b ((F, Cl 165 [sv G q H, sv I s J, sv K t L, sv O u S, sv T x U, iv D, iv E, sv V y W, sv A3 j c4, sv A8 h c9, .map (some z)]) :: (c ++ (e ++ (f ++ R)))) (fun v b' hp' => ∃ Z ae A B, .tuple #[] = v ∧ (F, Cl 165 [sv G q H, sv I s J, sv K t L, sv O u S, sv T x U, iv D, iv E, sv V y W, sv A3 j c4, sv Z m ae, .map (some z)]) :: (c ++ (A ++ (B ++ R))) = hp' ∧ OS 72 (OT.fr j8) b'.w (sv Z m ae) m A ∧ (Z = none ↔ m = []) ∧ OM j8 (OT.fr RT.bool) true false b'.w z ad B) := by
 refine fE 26 Tryz.func97 rfl Tryz.ntmps97 rfl ?_
 unfold Z8 at hm
 refine Cr<|tD (uB _ rfl rfl) ?_
 rintro _ _ ⟨aw, rfl, rfl⟩
 refine Te<|Cs ?_
 obtain ⟨C, af, hm⟩ := bS hm
 refine Di mixed (.refl _)<|E0 0 rfl (sM rfl)<|E0 1 rfl (sN rfl)<|E0 2 rfl (sF rfl z6w)<|Es 3 rfl (sL 1 rfl j1S rfl rfl)<|Es 4 rfl (sD (vs := [_, _, _, _]) 0 4 rfl q0n rfl rfl rfl) ?_
 have aa := Kd af
 obtain ⟨ag, g, ah⟩ := OM.lookF j4S (z0 := false) Y (key := .agg #[iv a.Kind, iv a.Place, iv a.Position, iv a.At]) (k := a) ⟨[iv a.Kind, iv a.Place, iv a.Position, iv a.At], rfl, ⟨[iv a.Kind], _, rfl, rfl, ⟨[iv a.Place], _, rfl, rfl, ⟨[iv a.Position], _, rfl, rfl, rfl⟩⟩⟩⟩ z8M j0h rfl
 rw [aa] at g
 obtain rfl : ag = bv C := by have g : [ag] = [bv C] := g; injection g
 refine Es 5 rfl (q4T (ok := false) rfl rfl (fun w ho => ah _ w ho (.cons _ (.cons _ (ss c (ss e (Kb _ _))))) false))<|E0 6 rfl (sn2 rfl)<|Eo<|Dd (by kernel_rfl)<|Xn<|cM hm rfl (fun hm => ?_) fun hm => ?_
 refine Cs<|Di mixed (.refl _)<|E0 0 rfl (sM rfl)<|E0 1 rfl (sN rfl)<|E0 2 rfl (sF rfl z6w)<|Es 3 rfl (sL 1 rfl j1S rfl rfl)<|Es 4 rfl (sD (vs := [_, _, _, _]) 0 4 rfl q0n rfl rfl rfl)<|Eo<|j7h c e f<|Da [5] (by kernel_rfl) rfl ?_
 refine Rd2 lr rfl rfl (q8Q (k := a) j4S [_, _] [] (c ++ (e ++ R)) rfl Y z8M rfl rfl rfl (⟨[iv a.Kind, iv a.Place, iv a.Position, iv a.At], rfl, ⟨[iv a.Kind], _, rfl, rfl, ⟨[iv a.Place], _, rfl, rfl, ⟨[iv a.Position], _, rfl, rfl, rfl⟩⟩⟩⟩) ⟨rfl, rfl⟩ _ (.inl rfl)) ?_ ?_
 rintro _ _ ⟨d, rfl, ai, aj⟩
 refine ⟨.inl (by kernel_rfl), ?_⟩
 refine Dd (by kernel_rfl)<|Xn ?_
 obtain ⟨_, n, hm⟩ := bS hm
 refine Di mixed (.cons_cons _ (.cons_cons _ (sp d (sp c (ss e (.refl _))))))<|E0 0 rfl (sM rfl)<|E0 1 rfl (sM rfl)<|E0 2 rfl (sN rfl)<|E0 3 rfl (sF rfl z0k)<|Es 4 rfl (sL 1 rfl z8D rfl rfl)<|Es 5 rfl (sD (vs := [_, _, _, _]) 0 4 rfl q0n rfl rfl rfl)<|Eo<|Da [6] (by kernel_rfl) rfl ?_
 refine Rd2 lr rfl rfl (V7 (el := 72) [(0, .agg #[iv a.Kind, iv a.Place, iv a.Position, iv a.At])] [iv a.Kind, iv a.Place, iv a.Position, iv a.At] rfl (fun _ => by kernel_rfl)) ?_ ?_
 rintro _ _ ⟨am, rfl, rfl⟩
 refine iR ?_
 have n := V6 n
 refine j1o d c e<|Da [7] (by kernel_rfl) rfl<|Rd2 lr rfl rfl (uQ (r := j8) (l := h) [_, _, _] (d ++ (c ++ R)) [[iv a.Kind, iv a.Place, iv a.Position, iv a.At]] [a] rfl (by decide) q6l j0X rfl rfl rfl rfl ac rfl (fun w ho => Rd.own (i := 0) ho rfl) ⟨⟨[iv a.Kind], _, rfl, rfl, ⟨[iv a.Place], _, rfl, rfl, ⟨[iv a.Position], _, rfl, rfl, rfl⟩⟩⟩, trivial⟩ n) ?_ ?_
 rintro _ _ ⟨o, rfl, p⟩
 obtain ⟨ak, al, rfl, _⟩ := p.form
 refine iR<|Ei lr (.cons _ (.cons_cons _ (.cons_cons _ (ss o (.refl _)))))<|E0 8 rfl (sN rfl)<|E0 9 rfl (sF rfl z0k)<|Eo<|Da [10] (by kernel_rfl) rfl<|Rd2 lr rfl rfl (uS 2 rfl rfl j6J rfl rfl (by simp)) ?_ ?_
 rintro _ _ rfl
 refine ⟨.inl (by kernel_rfl), ?_⟩
 refine Dd (by kernel_rfl) ?_
 obtain ⟨rfl, rfl⟩ := Z6 hm
 exact eZ ⟨ak, al, o, d, rfl, rfl, p, (OS.nz p (by simp)), aj⟩ lr
 exact Rn
 exact Rn
 exact Rn
 exact Rn
 refine Ck ?_
 obtain ⟨rfl, rfl⟩ := Z6 hm
 exact eZ ⟨A8, c9, e, f, rfl, rfl, ac, X, Y⟩ lr
theorem q8K (b : k8) (R : Hp) (e : q9) (j k l m f) (hm : q1m e j k = some f):
 w8 Tryz.prog 139 [.agg #[iv e.Kind, iv e.Place, iv e.Position, iv e.At], pb l, pb m] b ((l, Cl 3 [iv j]) :: (m, Cl 3 [iv k]) :: R) (fun v b' hp' => bv f = v ∧ (l, Cl 3 [iv j]) :: (m, Cl 3 [iv k]) :: R = hp') := by
 refine fE 20 Tryz.func139 rfl Tryz.ntmps139 rfl ?_
 unfold q1m at hm
 refine Cr<|tD (uB _ rfl rfl) ?_
 rintro _ _ ⟨o, rfl, rfl⟩
 refine aS rfl<|Te ?_
 obtain ⟨n, g, h⟩ := bS hm
 refine Cj (fun i e' hp' => [(4, bv n)] = e' ∧ (l, Cl 3 [iv j]) :: (m, Cl 3 [iv k]) :: R = hp' ∧ b.Le i) ?_ ?_
 have hm := g
 refine Cg<|tS (sF rfl q0I)<|tS (sL 0 rfl Q5 rfl rfl)<|Tb rfl (q1 rfl rfl) (fun a => ?_) (fun a => ?_)
 rw [if_pos a] at hm
 refine mV rfl<|yS<|tS (sF rfl q3T)<|yS<|tS (sL 0 rfl Q5 rfl rfl)<|yS<|tS (sL 1 rfl Q5 rfl rfl)<|yS<|Tb rfl (q1 rfl rfl) (fun c => ?_) (fun c => ?_)
 rw [if_pos c] at hm
 refine tS (pT rfl rfl)<|mV rfl<|yS<|tS (sF rfl q1c)<|yS<|tS (sL 0 rfl Q5 rfl rfl)<|yS<|tS (sL 2 rfl Q5 rfl rfl)<|yS<|tS (q1 rfl rfl)<|tS (pT rfl rfl)<|aS rfl<|Tn ?_
 obtain rfl := o1 hm
 exact jJ ⟨rfl, rfl, lr⟩
 rw [if_neg c] at hm
 refine tS (pT rfl rfl)<|mV rfl<|nO<|nO<|nO<|nO<|tS (pF rfl rfl)<|aS rfl<|Tn ?_
 obtain rfl := o1 hm
 exact jJ ⟨rfl, rfl, lr⟩
 rw [if_neg a] at hm
 refine mV rfl<|nO<|nO<|nO<|nO<|tS (pF rfl rfl)<|mV rfl<|nO<|nO<|nO<|nO<|tS (pF rfl rfl)<|aS rfl<|Tn ?_
 obtain rfl := o1 hm
 exact jJ ⟨rfl, rfl, lr⟩
 rintro i _ _ ⟨rfl, rfl, d⟩
 have hm := h
 refine Ct ?_
 obtain rfl := o1 hm
 exact rO ⟨rfl, rfl⟩ d
theorem q8F (b : k8) (R : Hp) (x y e o p F I k) (U : OS 72 (OT.fr j8) b.w (sv F e I) e k) (J : (F = none ↔ e = [])) (z) (hm : q1f x y e = some z):
 w8 Tryz.prog 107 [sv F e I, .func (.func 139) #[] #[pb o, pb p]] b ((o, Cl 3 [iv x]) :: (p, Cl 3 [iv y]) :: (k ++ R)) (fun v b' hp' => iv z = v ∧ (o, Cl 3 [iv x]) :: (p, Cl 3 [iv y]) :: (k ++ R) = hp') := by
 refine fE 19 Tryz.func107 rfl Tryz.ntmps107 rfl ?_
 unfold q1f at hm
 refine Cr<|aS rfl<|Te<|Cs<|Cr<|mV rfl<|tS (sE rfl q6l)<|mV rfl<|Te<|Cb ?_
 have V : e.length ≤ 9223372036854775807 := (OS.len U)
 refine Cp 1 rfl<|Cp 1 rfl ?_
 obtain ⟨ab, A, f⟩ := bS hm
 refine lF (fun B => fun _ => fun q e' hp' => [(0, sv F e I), (1, .func (.func 139) #[] #[pb o, pb p]), (7, iv ((e.length : Int))), (8, iv ((B : Int)))] = e' ∧ (o, Cl 3 [iv x]) :: (p, Cl 3 [iv y]) :: (k ++ R) = hp' ∧ b.Le q) A ⟨rfl, rfl, lr⟩ ?_ ?_
 rintro B _ q _ _ W G ⟨rfl, rfl, a⟩ c h
 unfold F6 at c
 have hm := c
 refine Cr<|tS (lT rfl rfl (by omega))<|Te<|Cs<|k9 rfl<|Ck<|Xn<|Cs<|Cb<|Cr<|mV rfl<|aS rfl<|Te<|Cr<|mV rfl<|mV rfl<|mV rfl ?_
 obtain ⟨d, K, hm⟩ := bS hm
 obtain ⟨L, C, D⟩ := iS K
 obtain ⟨X, O, Y, Z, S, r, l, i, m, T, H⟩ := OS.get (sz := 4) rfl (by decide) (U.le a) D
 obtain ⟨⟨_, _, rfl, rfl, ⟨_, _, rfl, rfl, ⟨_, _, rfl, rfl, rfl⟩⟩⟩, rfl⟩ := r
 refine tS (sI L rfl rfl C m i q6l)<|tS (Z2 (vs := [iv d.Kind, iv d.Place, iv d.Position, iv d.At]) 4 rfl q0n i rfl (fun w ho j u hu => l w _ ho (.cons _ (.cons _ (Kb _ _))) j u hu)) ?_
 obtain ⟨E, n, hm⟩ := bS hm
 refine Q9 1 rfl<|Q9 1 rfl<|Tv #[] #[pb o, pb p] [.agg #[iv d.Kind, iv d.Place, iv d.Position, iv d.At]] rfl rfl j3H rfl (q8K _ _ d x y o p E n) ?_
 rintro _ aa _ g ⟨rfl, rfl⟩
 refine Te<|cB hm rfl (fun hm => ?_) fun hm => ?_
 refine Cr<|mV rfl<|aS rfl<|Te<|Ct<|Xb<|Xr<|Xr<|Xb<|Xr ?_
 have s := h _ (Kd hm).symm
 rw [s] at f
 have hm := J9 f
 obtain rfl := o1 hm
 exact rO ⟨rfl, rfl⟩ (a.trans g)
 refine Ck<|Xm<|Xn<|Cg<|tS (sa rfl rfl (by omega))<|mV rfl<|Tn ?_
 exact jM hm ⟨rfl, rfl, ((a.trans g))⟩
 rintro _ q _ _ ⟨rfl, rfl, a⟩ t
 rw [t] at f
 have hm := H4 f
 refine Cr<|tS (lF rfl rfl (by omega))<|Te<|Cs<|k7 rfl<|Ce<|Xe<|Xe<|Xo<|Xn<|Cr<|aS rfl<|Te<|Ct ?_
 obtain rfl := o1 hm
 exact rO ⟨rfl, rfl⟩ a
theorem q6S (b : k8) (R : Hp) (h i a j k l m c) (o : OS 72 (OT.fr j8) b.w (sv l a m) a c) (d : (l = none ↔ a = [])) (g) (hm : q0b h i a = some g):
 w8 Tryz.prog 108 [sv l a m, .func (.func 139) #[] #[pb j, pb k]] b ((j, Cl 3 [iv h]) :: (k, Cl 3 [iv i]) :: (c ++ R)) (fun v b' hp' => bv g = v ∧ (j, Cl 3 [iv h]) :: (k, Cl 3 [iv i]) :: (c ++ R) = hp') := by
 refine fE 9 Tryz.func108 rfl Tryz.ntmps108 rfl ?_
 unfold q0b at hm
 refine Cr<|aS rfl<|Te<|Cr<|mV rfl<|mV rfl ?_
 obtain ⟨n, e, hm⟩ := bS hm
 refine Q9 1 rfl<|Q9 1 rfl<|q4R [_, _] [] c R rfl<|Tg _ rfl z5Q rfl (q8F _ _ h i a j k l m c o d n e) ?_
 rintro _ p _ f ⟨rfl, rfl⟩
 refine q5k [_, _] [] c R rfl<|tS (q6 rfl rfl)<|aS rfl<|Te<|Ct ?_
 obtain rfl := o1 hm
 exact rO ⟨rfl, rfl⟩ f
theorem q9Y (b : k8) (R : Hp) (m n g h i j k o p l f c I q r s t u w x y z A B C D O S e J L d E a) (X : FZ RT.str b.w r s g) (Y : FZ j3 b.w t u h) (Z : FZ w6 b.w w x i) (aa : FZ j6 b.w y z j) (ab : FZ w7 b.w A B k) (ac : FZ J2 b.w C D l) (h5 : OS 125 (OT.fr J2) b.w (sv O f S) f e) (T : OS 72 (OT.fr j8) b.w (sv J c L) c d) (F : (J = none ↔ c = [])) (ad : OM j8 (OT.fr RT.bool) true false b.w E I a) (K) (hm : P4 m n g h i j k o p l f c I = some K):
 w8 Tryz.prog 120 [pb q, iv m, iv n] b ((q, Cl 165 [sv r g s, sv t h u, sv w i x, sv y j z, sv A k B, iv o, iv p, sv C l D, sv O f S, sv J c L, .map (some E)]) :: (e ++ (d ++ (a ++ R)))) (fun v b' hp' => bv K = v ∧ (q, Cl 165 [sv r g s, sv t h u, sv w i x, sv y j z, sv A k B, iv o, iv p, sv C l D, sv O f S, sv J c L, .map (some E)]) :: (e ++ (d ++ (a ++ R))) = hp') := by
 refine fE 13 Tryz.func120 rfl Tryz.ntmps120 rfl ?_
 unfold P4 at hm
 refine Cr<|tD (uB _ rfl rfl) ?_
 rintro _ _ ⟨U, rfl, rfl⟩
 refine tD (uB _ rfl rfl) ?_
 rintro _ _ ⟨V, rfl, rfl⟩
 refine aS rfl<|Te<|Cr<|mV rfl<|tS (sN rfl)<|tS (sF rfl z0k)<|tS (sL 2 rfl z8D rfl rfl)<|tS (q5l _ _ rfl rfl) ?_
 obtain ⟨W, G, hm⟩ := bS hm
 refine Q9 1 rfl<|j4q e d<|q4R [_, _] [_] d (e ++ (a ++ R)) rfl<|Tg _ rfl z9D rfl (q6S _ _ m n c U V J L d T F W G) ?_
 rintro _ ae _ H ⟨rfl, rfl⟩
 refine q5k [_, _] [_] d (e ++ (a ++ R)) rfl<|aS rfl<|Te<|Ct ?_
 obtain rfl := o1 hm
 exact rO ⟨rfl, rfl⟩ H
theorem q9s : ∀ (N : Nat) (b : k8) (R : Hp) (aV : Q0) (al E y z A B C ac ad F D ah aW s t n x G H I J K L O S T U X Y A3 c4 g A8 c9 m V e) (aB : FZ RT.str b.w G H y) (aA : FZ j3 b.w I J z) (aC : FZ w6 b.w K L A) (aD : FZ j6 b.w O S B) (aE : FZ w7 b.w T U C) (aU : FZ J2 b.w X Y F) (h5 : OS 125 (OT.fr J2) b.w (sv A3 D c4) D g) (aF : OS 72 (OT.fr j8) b.w (sv A8 ah c9) ah m) (W : (A8 = none ↔ ah = [])) (aG : OM j8 (OT.fr RT.bool) true false b.w V aW e) (ar a1) (hm : Z5 N aV al E y z A B C ac ad F D ah aW = some (ar, a1)),
 w8 Tryz.prog 119 [.agg #[iv aV.section_, iv aV.end_], iv al, pb s, pb t, pb n] b ((s, Cl 161 [pb x]) :: (t, Cl 3 [iv E]) :: (n, Cl 183 [.func (.func 119) #[] #[pb s, pb t, pb n]]) :: (x, Cl 165 [sv G y H, sv I z J, sv K A L, sv O B S, sv T C U, iv ac, iv ad, sv X F Y, sv A3 D c4, sv A8 ah c9, .map (some V)]) :: (g ++ (m ++ (e ++ R)))) (fun v b' hp' => ∃ bb bX bc bY bd, .tuple #[] = v ∧ (s, Cl 161 [pb x]) :: (t, Cl 3 [iv E]) :: (n, Cl 183 [.func (.func 119) #[] #[pb s, pb t, pb n]]) :: (x, Cl 165 [sv G y H, sv I z J, sv K A L, sv O B S, sv T C U, iv ac, iv ad, sv X F Y, sv A3 D c4, sv bb ar bX, .map (some bY)]) :: (g ++ (bc ++ (bd ++ R))) = hp' ∧ OS 72 (OT.fr j8) b'.w (sv bb ar bX) ar bc ∧ (bb = none ↔ ar = []) ∧ OM j8 (OT.fr RT.bool) true false b'.w bY a1 bd) := by
  intro N
  induction N with
  | zero =>
    intro b R aV al E y z A B C ac ad F D ah aW s t n x G H I J K L O S T U X Y A3 c4 g A8 c9 m V e aB aA aC aD aE aU h5 aF W aG ar a1 hm
    unfold Z5 at hm
    cases hm
  | succ N ih =>
   intro b R aV al E y z A B C ac ad F D ah aW s t n x G H I J K L O S T U X Y A3 c4 g A8 c9 m V e aB aA aC aD aE aU h5 aF W aG ar a1 hm
   refine fE 122 Tryz.func119 rfl Tryz.ntmps119 rfl ?_
   unfold Z5 at hm
   refine Cr<|tD (uB _ rfl rfl) ?_
   rintro _ _ ⟨c8, rfl, rfl⟩
   refine Te ?_
   obtain ⟨⟨bZ, u, Z⟩, b3, b4⟩ := bS hm
   refine Cj (fun be e' hp' => ∃ aa, [(1, iv al), (2, pb s), (3, pb t), (4, pb n), (7, pb aa), (8, bv bZ)] = e' ∧ (s, Cl 161 [pb x]) :: (t, Cl 3 [iv E]) :: (n, Cl 183 [.func (.func 119) #[] #[pb s, pb t, pb n]]) :: (aa, Cl 120 [iv u, iv Z]) :: (x, Cl 165 [sv G y H, sv I z J, sv K A L, sv O B S, sv T C U, iv ac, iv ad, sv X F Y, sv A3 D c4, sv A8 ah c9, .map (some V)]) :: (g ++ (m ++ (e ++ R))) = hp' ∧ b.Le be) ?_ ?_
   have hm := b3
   obtain ⟨⟨b0, b1, b2⟩, a2, hm⟩ := bS hm
   have hm := (q4s hm)
   refine Di mixed (.refl _)<|Es 0 rfl (sL 1 rfl q6f rfl rfl)<|E0 1 rfl (sN rfl)<|E0 2 rfl (sF rfl z0m)<|Es 3 rfl (sD (vs := [_, _, _, _, _]) 4 5 rfl q0o rfl rfl rfl)<|Es 4 rfl (sD (vs := [_, _]) 0 2 rfl q3e rfl rfl rfl)<|Eo<|Da [5, 9] (by kernel_rfl) rfl ?_
   refine Rg lr rfl rfl _ z4J rfl (q3n _ _ (⟨y, z, A, B, C⟩ : v6) aV G H I J K L O S T U aB aA aC aD aE b0 b1 b2 a2) ?_ ?_
   rintro _ cT _ p ⟨rfl, rfl⟩
   refine iR<|Ei p (.refl _)<|E0 6 rfl (sM rfl)<|E0 7 rfl (j5 rfl rfl)<|E0 8 rfl (j5 rfl rfl)<|Eo<|Da [9] (by kernel_rfl) rfl ?_
   refine Rd2 p rfl rfl (uA [iv 0, iv 0] q3f rfl) ?_ ?_
   rintro _ _ ⟨bf, rfl, rfl⟩
   refine iR<|Da [10] (by kernel_rfl) rfl ?_
   refine Rd2 p rfl rfl (uN (vs := [_, _]) 0 2 rfl rfl rfl q3Z rfl (mc rfl (mc rfl mn)) rfl (by simp)) ?_ ?_
   rintro _ _ rfl
   refine ⟨.inl (by kernel_rfl), ?_⟩
   refine El p<|E0 11 rfl (sA rfl)<|Eo<|Dd (by kernel_rfl) ?_
   obtain ⟨rfl, rfl, rfl⟩ := q2o hm
   exact jJ ⟨bf, rfl, rfl, p⟩
   exact Rn
   exact Rn
   refine Rd2 lr rfl rfl (uA [iv 0, iv 0] q3f rfl) ?_ ?_
   rintro _ _ ⟨bf, rfl, rfl⟩
   refine iR<|Da [5] (by kernel_rfl) rfl ?_
   refine Rg lr rfl rfl _ z4J rfl (q3n _ _ (⟨y, z, A, B, C⟩ : v6) aV G H I J K L O S T U aB aA aC aD aE b0 b1 b2 a2) ?_ ?_
   rintro _ cT _ p ⟨rfl, rfl⟩
   refine iR<|Ei p (.cons _ (.refl _))<|E0 6 rfl (sM rfl)<|E0 7 rfl (j5 rfl rfl)<|E0 8 rfl (j5 rfl rfl)<|Eo<|Da [10] (by kernel_rfl) rfl ?_
   refine Rd2 p rfl rfl (uN (vs := [_, _]) 0 2 rfl rfl rfl q3Z rfl (mc rfl (mc rfl mn)) rfl (by simp)) ?_ ?_
   rintro _ _ rfl
   refine ⟨.inl (by kernel_rfl), ?_⟩
   refine El p<|E0 11 rfl (sA rfl)<|Eo<|Dd (by kernel_rfl) ?_
   obtain ⟨rfl, rfl, rfl⟩ := q2o hm
   exact jJ ⟨bf, rfl, rfl, p⟩
   exact Rn
   exact Rn
   exact Rn
   rintro be _ _ ⟨aa, rfl, rfl, a⟩
   have hm := (q4s b4)
   refine Cs ?_
   obtain ⟨cU, b5, b6⟩ := bS hm
   refine Cj (fun a3 e' hp' => [(1, iv al), (2, pb s), (3, pb t), (4, pb n), (7, pb aa), (46, bv cU)] = e' ∧ (s, Cl 161 [pb x]) :: (t, Cl 3 [iv E]) :: (n, Cl 183 [.func (.func 119) #[] #[pb s, pb t, pb n]]) :: (aa, Cl 120 [iv u, iv Z]) :: (x, Cl 165 [sv G y H, sv I z J, sv K A L, sv O B S, sv T C U, iv ac, iv ad, sv X F Y, sv A3 D c4, sv A8 ah c9, .map (some V)]) :: (g ++ (m ++ (e ++ R))) = hp' ∧ be.Le a3) ?_ ?_
   have hm := b5
   rcases Kg bZ with ae | ae
   rw [if_pos ae] at hm
   by_cases au : al = 8
   rw [if_pos au] at hm
   refine Di mixed (.refl _)<|E0 0 rfl (stB (sM rfl) ae)<|E0 1 rfl (K7 rfl)<|E0 2 rfl (sM rfl)<|Yz 3 24 rfl (sM rfl)<|Yz 4 24 rfl (eT rfl rfl au)<|E0 5 rfl (pF rfl rfl)<|E0 6 rfl (sM rfl)<|eN 7 rfl<|eN 8 rfl ?_
   refine eN 9 rfl<|eN 10 rfl<|eN 11 rfl<|eN 12 rfl<|eN 13 rfl<|eN 14 rfl<|E0 15 rfl (pT rfl rfl)<|E0 16 rfl (sM rfl)<|eN 17 rfl<|eN 18 rfl ?_
   refine eN 19 rfl<|eN 20 rfl<|eN 21 rfl<|eN 22 rfl<|eN 23 rfl<|E0 24 rfl (pT rfl rfl)<|Eo<|Dd (by kernel_rfl) ?_
   obtain rfl := o1 hm
   exact jJ ⟨rfl, rfl, lr⟩
   rw [if_neg au] at hm
   obtain ⟨bg, a4, hm⟩ := bS hm
   rcases Kg bg with av | av
   rw [if_pos av] at hm
   refine Di mixed (.refl _)<|E0 0 rfl (stB (sM rfl) ae)<|E0 1 rfl (K7 rfl)<|E0 2 rfl (sM rfl)<|Yz 3 24 rfl (sM rfl)<|Yz 4 24 rfl (eF rfl rfl au)<|E0 5 rfl (pF rfl rfl)<|E0 6 rfl (sM rfl)<|Ey 7 28 rfl (sL 0 rfl q6f rfl rfl)<|Yz 8 28 rfl (sN rfl) ?_
   refine Yz 9 28 rfl (sF rfl z0l)<|Yz 10 28 rfl (sF rfl q1b)<|Ey 11 28 rfl (sL 4 rfl q4M rfl rfl)<|Yz 12 28 rfl (sF rfl q1V)<|Ey 13 28 rfl (sL 3 rfl Q5 rfl rfl)<|Eo<|Da [14] (by kernel_rfl) rfl ?_
   refine q3X lr rfl rfl 28 rfl rfl rfl (uW _ q5X rfl (fun w ho => q0K _ [] F u X Y ((aU.le a).old ho) bg a4) (fun _ _ _ h => h.2.symm)) ?_ ?_
   rintro _ _ ⟨⟨_, rfl, _⟩, rfl⟩
   refine iR<|q4c 36 rfl (v' := .bool true) (by rw [av])<|Ei lr (.refl _)<|E0 15 rfl (pF rfl rfl)<|E0 16 rfl (sM rfl)<|eN 17 rfl<|eN 18 rfl<|eN 19 rfl<|eN 20 rfl<|eN 21 rfl ?_
   refine eN 22 rfl<|eN 23 rfl<|E0 24 rfl (pT rfl rfl)<|Eo<|Dd (by kernel_rfl) ?_
   obtain rfl := o1 hm
   exact jJ ⟨rfl, rfl, lr⟩
   exact Rn
   rw [if_neg (fun hh => Bool.noConfusion (hh.symm.trans av))] at hm
   obtain ⟨cV, bD, hm⟩ := bS hm
   refine Di mixed (.refl _)<|E0 0 rfl (stB (sM rfl) ae)<|E0 1 rfl (K7 rfl)<|E0 2 rfl (sM rfl)<|Yz 3 24 rfl (sM rfl)<|Yz 4 24 rfl (eF rfl rfl au)<|E0 5 rfl (pF rfl rfl)<|E0 6 rfl (sM rfl)<|Ey 7 28 rfl (sL 0 rfl q6f rfl rfl)<|Yz 8 28 rfl (sN rfl) ?_
   refine Yz 9 28 rfl (sF rfl z0l)<|Yz 10 28 rfl (sF rfl q1b)<|Ey 11 28 rfl (sL 4 rfl q4M rfl rfl)<|Yz 12 28 rfl (sF rfl q1V)<|Ey 13 28 rfl (sL 3 rfl Q5 rfl rfl)<|Eo<|Da [14] (by kernel_rfl) rfl ?_
   refine q3X lr rfl rfl 28 rfl rfl rfl (uW _ q5X rfl (fun w ho => q0K _ [] F u X Y ((aU.le a).old ho) bg a4) (fun _ _ _ h => h.2.symm)) ?_ ?_
   rintro _ _ ⟨⟨_, rfl, _⟩, rfl⟩
   refine iR<|q4c 36 rfl (v' := .bool false) (by rw [av])<|Ei lr (.refl _)<|E0 15 rfl (pF rfl rfl)<|E0 16 rfl (sM rfl)<|Ey 17 38 rfl (sL 0 rfl q6f rfl rfl)<|Yz 18 38 rfl (sN rfl)<|Yz 19 38 rfl (sF rfl z6x)<|Ey 20 38 rfl (sL 4 rfl q4M rfl rfl)<|Yz 21 38 rfl (sF rfl q1V) ?_
   refine Ey 22 38 rfl (sL 3 rfl Q5 rfl rfl)<|Eo<|Da [23] (by kernel_rfl) rfl ?_
   refine q3X lr rfl rfl 38 rfl rfl rfl (uW _ q5X rfl (fun w ho => q0K _ [] D u A3 c4 (OS.now (o := (OT.fr J2)) (l := D) (hs := g) (h5.le a) ho (.cons _ (.cons _ (.cons _ (.cons _ (.cons _ (Kb _ _))))))) cV bD) (fun _ _ _ h => h.2.symm)) ?_ ?_
   rintro _ _ ⟨⟨_, rfl, _⟩, rfl⟩
   refine iR<|Ei lr (.refl _)<|E0 24 rfl (pF rfl rfl)<|Eo<|Dd (by kernel_rfl) ?_
   obtain rfl := o1 hm
   exact jJ ⟨rfl, rfl, lr⟩
   exact Rn
   exact Rn
   rw [if_neg (fun hh => Bool.noConfusion (hh.symm.trans ae))] at hm
   refine Di mixed (.refl _)<|E0 0 rfl (stB (sM rfl) ae)<|E0 1 rfl (P7 rfl)<|E0 2 rfl (sM rfl)<|eN 3 rfl<|eN 4 rfl<|E0 5 rfl (pT rfl rfl)<|E0 6 rfl (sM rfl)<|eN 7 rfl<|eN 8 rfl ?_
   refine eN 9 rfl<|eN 10 rfl<|eN 11 rfl<|eN 12 rfl<|eN 13 rfl<|eN 14 rfl<|E0 15 rfl (pT rfl rfl)<|E0 16 rfl (sM rfl)<|eN 17 rfl<|eN 18 rfl ?_
   refine eN 19 rfl<|eN 20 rfl<|eN 21 rfl<|eN 22 rfl<|eN 23 rfl<|E0 24 rfl (pT rfl rfl)<|Eo<|Dd (by kernel_rfl) ?_
   obtain rfl := o1 hm
   exact jJ ⟨rfl, rfl, lr⟩
   rintro a3 _ _ ⟨rfl, rfl, c⟩
   have hm := b6
   refine cB hm rfl (fun hm => ?_) fun hm => ?_
   refine Ct<|Xr ?_
   obtain ⟨rfl, rfl⟩ := Z6 hm
   have b7 := (aF.le (a.trans c))
   have b8 := (aG.le (a.trans c))
   exact rZ ⟨A8, c9, m, V, e, rfl, rfl, b7, W, b8⟩ (a.trans c)
   refine Ck<|Xn<|Cs ?_
   obtain ⟨bh, cW, hm⟩ := bS hm
   refine Di mixed (.refl _)<|Es 0 rfl (sL 0 rfl q6f rfl rfl)<|E0 1 rfl (sN rfl)<|E0 2 rfl (sF rfl z0m)<|E0 3 rfl (sF rfl q0m)<|Es 4 rfl (sL 4 rfl q5n rfl rfl)<|E0 5 rfl (sF rfl q1V)<|Es 6 rfl (sL 3 rfl Q5 rfl rfl) ?_
   obtain ⟨cX, b9, ca⟩ := iS cW
   obtain ⟨c2, cb, bE, bi, bG⟩ := FZ.get (sz := 7) rfl (by decide) (aA.le (a.trans c)) ca
   obtain ⟨_, _, rfl, rfl, ⟨_, _, rfl, rfl, ⟨_, _, rfl, rfl, ⟨_, _, rfl, rfl, ⟨_, _, rfl, rfl, ⟨_, _, rfl, rfl, rfl⟩⟩⟩⟩⟩⟩ := cb
   refine E0 7 rfl (sI cX rfl rfl b9 bG bi z0I)<|E0 8 rfl (sQ rfl bi q4B)<|Es 9 rfl (sO rfl Q5 (bE 0 _ rfl))<|E0 10 rfl (sA rfl)<|Eo<|Dd (by kernel_rfl)<|Xn ?_
   obtain ⟨cc, bH, ab⟩ := bS hm
   refine Cj (fun bj e' hp' => [(1, iv al), (4, pb n), (7, pb aa), (9, iv bh.Kind)] = e' ∧ (n, Cl 183 [.func (.func 119) #[] #[pb s, pb t, pb n]]) :: (aa, Cl 120 [iv u, iv Z]) :: (s, Cl 161 [pb x]) :: (t, Cl 3 [iv E]) :: (x, Cl 165 [sv G y H, sv I z J, sv K A L, sv O B S, sv T C U, iv ac, iv ad, sv X F Y, sv A3 D c4, sv A8 ah c9, .map (some V)]) :: (g ++ (m ++ (e ++ R))) = hp' ∧ a3.Le bj ∧ cc = .inl ()) ?_ ?_
   have hm := bH
   refine Cb ?_
   obtain ⟨cd, bI, bJ⟩ := bS hm
   refine Cj (fun aH e' hp' => [(1, iv al), (2, pb s), (3, pb t), (4, pb n), (7, pb aa), (9, iv bh.Kind), (57, bv cd)] = e' ∧ (s, Cl 161 [pb x]) :: (t, Cl 3 [iv E]) :: (n, Cl 183 [.func (.func 119) #[] #[pb s, pb t, pb n]]) :: (aa, Cl 120 [iv u, iv Z]) :: (x, Cl 165 [sv G y H, sv I z J, sv K A L, sv O B S, sv T C U, iv ac, iv ad, sv X F Y, sv A3 D c4, sv A8 ah c9, .map (some V)]) :: (g ++ (m ++ (e ++ R))) = hp' ∧ a3.Le aH) ?_ ?_
   have hm := bI
   refine Cg<|mV rfl ?_
   refine Tb rfl (q1 rfl rfl) (fun aI => ?_) (fun aI => ?_)
   rw [if_pos aI] at hm
   refine mV rfl<|yS<|tS (sF rfl q5a)<|yS<|tS (sL 3 rfl Q5 rfl rfl)<|yS<|tS (q5 rfl rfl)<|tS (pT rfl rfl)<|aS rfl<|Tn ?_
   obtain rfl := o1 hm
   exact jJ ⟨rfl, rfl, lr⟩
   rw [if_neg aI] at hm
   refine mV rfl<|nO<|nO<|nO<|tS (pF rfl rfl)<|aS rfl<|Tn ?_
   obtain rfl := o1 hm
   exact jJ ⟨rfl, rfl, lr⟩
   rintro aH _ _ ⟨rfl, rfl, d⟩
   have hm := bJ
   refine cB hm rfl (fun hm => ?_) fun hm => ?_
   obtain ⟨⟨aJ, ce⟩, bK, bL⟩ := bS hm
   refine Cj (fun aK e' hp' => ∃ aw aL am an, [] = e' ∧ (s, Cl 161 [pb x]) :: (t, Cl 3 [iv E]) :: (n, Cl 183 [.func (.func 119) #[] #[pb s, pb t, pb n]]) :: (x, Cl 165 [sv G y H, sv I z J, sv K A L, sv O B S, sv T C U, iv ac, iv ad, sv X F Y, sv A3 D c4, sv aw aJ aL, .map (some V)]) :: (g ++ (am ++ (an ++ R))) = hp' ∧ aH.Le aK ∧ OS 72 (OT.fr j8) aK.w (sv aw aJ aL) aJ am ∧ (aw = none ↔ aJ = []) ∧ OM j8 (OT.fr RT.bool) true false aK.w V ce an) ?_ ?_
   have hm := bK
   refine Cr<|tS (sL 0 rfl q6f rfl rfl)<|tS (sF rfl q1V)<|tS (sL 3 rfl Q5 rfl rfl)<|tS (sF rfl q5a)<|tS (sL 3 rfl Q5 rfl rfl) ?_
   obtain ⟨cf, bk, hm⟩ := bS hm
   refine Q9 4 rfl<|q7w g m e<|q7w e g m<|q7w m e g<|z0u [_] [_, _, _, _] g m e R rfl<|Tg _ rfl j3Q rfl (q9Y _ _ u Z y z A B C ac ad F D ah aW x G H I J K L O S T U X Y A3 c4 g A8 c9 m V e (aB.le (a.trans (c.trans d))) (aA.le (a.trans (c.trans d))) (aC.le (a.trans (c.trans d))) (aD.le (a.trans (c.trans d))) (aE.le (a.trans (c.trans d))) (aU.le (a.trans (c.trans d))) (h5.le (a.trans (c.trans d))) (aF.le (a.trans (c.trans d))) W (aG.le (a.trans (c.trans d))) cf bk) ?_
   rintro _ c3 _ f ⟨rfl, rfl⟩
   refine z2O [_] [_, _, _, _] g m e R rfl<|tS (sn2 rfl)<|Te ?_
   refine cM hm rfl (fun hm => ?_) fun hm => ?_
   refine Cg<|tS (sL 1 rfl q6f rfl rfl)<|tS (sF rfl q1V)<|tS (sL 4 rfl Q5 rfl rfl)<|tS (sF rfl q5a)<|tS (sL 4 rfl Q5 rfl rfl) ?_
   obtain ⟨_, aX, hm⟩ := bS hm
   have aX := (kS aX).2
   refine tS (sb rfl rfl aX)<|tS (sL 2 rfl Q5 rfl rfl)<|tS (sB (v := .agg #[iv 3, iv u, iv (3 - Z), iv E]) [(0, iv 3), (1, iv u), (2, iv (3 - Z)), (3, iv E)] rfl (fun _ => by kernel_rfl)) ?_
   obtain ⟨⟨cg, ch⟩, bl, hm⟩ := bS hm
   have hm := (J4 hm)
   refine q7w g m e<|q7w e g m<|q7w m e g<|z0u [_] [_, _, _, _] g m e R rfl<|Tg _ rfl z4I rfl (q1J _ _ (⟨3, u, 3 - Z, E⟩ : q9) y z A B C ac ad F D ah aW x G H I J K L O S T U X Y A3 c4 g A8 c9 m V e (aB.le (a.trans (c.trans (d.trans f)))) (aA.le (a.trans (c.trans (d.trans f)))) (aC.le (a.trans (c.trans (d.trans f)))) (aD.le (a.trans (c.trans (d.trans f)))) (aE.le (a.trans (c.trans (d.trans f)))) (aU.le (a.trans (c.trans (d.trans f)))) (h5.le (a.trans (c.trans (d.trans f)))) (aF.le (a.trans (c.trans (d.trans f)))) W (aG.le (a.trans (c.trans (d.trans f)))) cg ch bl) ?_
   rintro _ c5 _ bm ⟨ci, cj, a5, a6, rfl, rfl, ck, cl, cm⟩
   refine z2O [_] [_, _, _, _] g a5 a6 R rfl<|Tn ?_
   obtain ⟨rfl, rfl⟩ := Z6 hm
   exact jJ ⟨ci, cj, a5, a6, rfl, rfl, (f.trans bm), ck, cl, cm⟩
   refine Ck ?_
   obtain ⟨rfl, rfl⟩ := Z6 hm
   exact jJ ⟨A8, c9, m, e, rfl, rfl, f, (aF.le (a.trans (c.trans (d.trans f)))), W, (aG.le (a.trans (c.trans (d.trans f))))⟩
   rintro aK _ _ ⟨aw, aL, am, an, rfl, rfl, bn, cn, bo, co⟩
   have hm := (J4 bL)
   refine Ct<|Xb<|Xr ?_
   have bM := (Kd hm).symm
   rw [bM] at ab
   have hm := J9 ab
   obtain ⟨rfl, rfl⟩ := Z6 hm
   exact rZ ⟨aw, aL, am, V, an, rfl, rfl, cn, bo, co⟩ (a.trans (c.trans (d.trans bn)))
   refine Cr<|mV rfl<|tS (q1 rfl rfl)<|aS rfl<|Te ?_
   refine cI hm rfl (fun hm => ?_) fun hm => ?_
   refine Cs ?_
   obtain ⟨aM, bp, hm⟩ := bS hm
   refine Di mixed (.refl _)<|Es 0 rfl (sL 0 rfl q6f rfl rfl)<|E0 1 rfl (sN rfl)<|E0 2 rfl (sF rfl z0m)<|Es 3 rfl (sD (vs := [_, _, _, _, _]) 4 5 rfl q0o rfl rfl rfl)<|Es 4 rfl (sD (vs := [_, _]) 3 2 rfl q3e rfl rfl rfl)<|Eo<|Da [5] (by kernel_rfl) rfl ?_
   refine Rd2 lr rfl rfl (uW _ z9E rfl (fun w ho => z1q _ [] (⟨y, z, A, B, C⟩ : v6) (⟨u, Z⟩ : Q0) G H I J K L O S T U ((aB.le (a.trans (c.trans d))).old ho) ((aA.le (a.trans (c.trans d))).old ho) ((aC.le (a.trans (c.trans d))).old ho) ((aD.le (a.trans (c.trans d))).old ho) ((aE.le (a.trans (c.trans d))).old ho) aM bp) (fun _ _ _ h => h.2.symm)) ?_ ?_
   rintro _ _ ⟨⟨_, rfl, _⟩, rfl⟩
   refine iR<|Ei lr (.refl _)<|E0 6 rfl (sA rfl)<|Eo<|Dd (by kernel_rfl)<|Xn<|Cr<|mV rfl<|tS (q6 rfl rfl)<|Te ?_
   refine cI hm rfl (fun hm => ?_) fun hm => ?_
   obtain ⟨⟨aN, cp⟩, bN, bO⟩ := bS hm
   refine Cj (fun aO e' hp' => ∃ ax aP ao aq, [] = e' ∧ (s, Cl 161 [pb x]) :: (t, Cl 3 [iv E]) :: (n, Cl 183 [.func (.func 119) #[] #[pb s, pb t, pb n]]) :: (x, Cl 165 [sv G y H, sv I z J, sv K A L, sv O B S, sv T C U, iv ac, iv ad, sv X F Y, sv A3 D c4, sv ax aN aP, .map (some V)]) :: (g ++ (ao ++ (aq ++ R))) = hp' ∧ aH.Le aO ∧ OS 72 (OT.fr j8) aO.w (sv ax aN aP) aN ao ∧ (ax = none ↔ aN = []) ∧ OM j8 (OT.fr RT.bool) true false aO.w V cp aq) ?_ ?_
   have hm := bN
   refine Cr<|mV rfl<|tS (sL 0 rfl q6f rfl rfl)<|tS (sN rfl)<|tS (sF rfl z0l)<|tS (sF rfl q7F)<|tS (sL 4 rfl Q5 rfl rfl)<|tS (q2 rfl rfl)<|Te ?_
   refine cI hm rfl (fun hm => ?_) fun hm => ?_
   refine Cg<|tS (sL 0 rfl q6f rfl rfl)<|mV rfl<|tS (sL 1 rfl Q5 rfl rfl)<|tS (sB (v := .agg #[iv 4, iv aM, iv 0, iv E]) [(0, iv 4), (1, iv aM), (3, iv E)] rfl (fun _ => by kernel_rfl)) ?_
   obtain ⟨⟨cq, cr⟩, bq, hm⟩ := bS hm
   have hm := (J4 hm)
   refine Q9 4 rfl<|q7w g m e<|q7w e g m<|q7w m e g<|z0u [_] [_, _, _, _] g m e R rfl<|Tg _ rfl z4I rfl (q1J _ _ (⟨4, aM, 0, E⟩ : q9) y z A B C ac ad F D ah aW x G H I J K L O S T U X Y A3 c4 g A8 c9 m V e (aB.le (a.trans (c.trans d))) (aA.le (a.trans (c.trans d))) (aC.le (a.trans (c.trans d))) (aD.le (a.trans (c.trans d))) (aE.le (a.trans (c.trans d))) (aU.le (a.trans (c.trans d))) (h5.le (a.trans (c.trans d))) (aF.le (a.trans (c.trans d))) W (aG.le (a.trans (c.trans d))) cq cr bq) ?_
   rintro _ c6 _ br ⟨cs, ct, a7, a8, rfl, rfl, cu, cv, cw⟩
   refine z2O [_] [_, _, _, _] g a7 a8 R rfl<|Tn ?_
   obtain ⟨rfl, rfl⟩ := Z6 hm
   exact jJ ⟨cs, ct, a7, a8, rfl, rfl, br, cu, cv, cw⟩
   refine Ck ?_
   obtain ⟨rfl, rfl⟩ := Z6 hm
   exact jJ ⟨A8, c9, m, e, rfl, rfl, lr, (aF.le (a.trans (c.trans d))), W, (aG.le (a.trans (c.trans d)))⟩
   rintro aO _ _ ⟨ax, aP, ao, aq, rfl, rfl, bs, cx, bt, cy⟩
   have hm := (J4 bO)
   refine Ct<|Xb<|Xr ?_
   have bP := (Kd hm).symm
   rw [bP] at ab
   have hm := J9 ab
   obtain ⟨rfl, rfl⟩ := Z6 hm
   exact rZ ⟨ax, aP, ao, V, aq, rfl, rfl, cx, bt, cy⟩ (a.trans (c.trans (d.trans bs)))
   refine Ck<|Xm ?_
   have hq := (Kd hm).symm
   exact jJ ⟨rfl, rfl, d, hq⟩
   exact Rn
   refine Ck<|Xm ?_
   have hq := (Kd hm).symm
   exact jJ ⟨rfl, rfl, d, hq⟩
   rintro bj _ _ ⟨rfl, rfl, j, bQ⟩
   rw [bQ] at ab
   have hm := H4 ab
   refine Cr<|mV rfl<|tS (sF rfl q5a)<|tS (sL 1 rfl Q5 rfl rfl) ?_
   obtain ⟨aQ, bu, hm⟩ := bS hm
   refine Tg _ rfl j3P rfl (z4V _ _ bh.Kind Z aQ bu) ?_
   rintro _ cz _ k ⟨cA, cC, rfl, rfl, bw⟩
   refine tS (sE rfl z2n)<|mV rfl<|Te<|Cb ?_
   have cY : aQ.length ≤ 9223372036854775807 := (FZ.bd bw)
   refine Cp 4 rfl<|Cp 4 rfl<|Cp 4 rfl<|Cp 4 rfl<|Cp 4 rfl<|z7L g m e<|z7L e g m<|z7L m e g ?_
   obtain ⟨⟨af, aR⟩, bR, bT⟩ := bS hm
   refine lS (fun bx => K5 fun af aR => fun ay e' hp' => ∃ ag ai q aj r, [(1, iv al), (4, pb n), (7, pb aa), (107, sv cA aQ cC), (108, iv ((aQ.length : Int))), (109, iv ((bx : Int)))] = e' ∧ (n, Cl 183 [.func (.func 119) #[] #[pb s, pb t, pb n]]) :: (aa, Cl 120 [iv u, iv Z]) :: (s, Cl 161 [pb x]) :: (t, Cl 3 [iv E]) :: (x, Cl 165 [sv G y H, sv I z J, sv K A L, sv O B S, sv T C U, iv ac, iv ad, sv X F Y, sv A3 D c4, sv ag af ai, .map (some aj)]) :: (g ++ (q ++ (r ++ R))) = hp' ∧ cz.Le ay ∧ OS 72 (OT.fr j8) ay.w (sv ag af ai) af q ∧ (ag = none ↔ af = []) ∧ OM j8 (OT.fr RT.bool) true false ay.w aj aR r) bR ⟨A8, c9, m, V, e, rfl, rfl, lr, (aF.le (a.trans (c.trans (j.trans k)))), W, (aG.le (a.trans (c.trans (j.trans k))))⟩ ?_ ?_
   rintro bx ⟨af, aR⟩ ay _ _ cZ cR ⟨ag, ai, q, aj, r, rfl, rfl, i, aY, az, aZ⟩ ak
   unfold W9 at ak
   have hm := (J4 ak)
   refine Cr<|tS (lT rfl rfl (by omega))<|Te<|Cs<|k9 rfl<|Ck<|Xn<|Cs<|Cb<|Cr ?_
   obtain ⟨aT, cD, c0, bU, c1, bV, bz, bW, bA, hm⟩ := bF (sz := 1) hm (bw.le i)
   obtain rfl := bV
   refine tS (sI cD rfl rfl bU bA bW z2n)<|tS (sO rfl Q5 (bz 0 _ rfl))<|aS rfl<|Te<|Cg<|tS (sL 0 rfl j1R rfl rfl)<|tS (sF rfl q1V)<|tS (sL 1 rfl Q5 rfl rfl)<|mV rfl<|tS (sB (v := .agg #[iv u, iv aT]) [(0, iv u), (1, iv aT)] rfl (fun _ => by kernel_rfl)) ?_
   refine mV rfl ?_
   obtain ⟨_, a0, hm⟩ := bS hm
   have a0 := (kS a0).2
   refine tS (sa rfl rfl a0) ?_
   obtain ⟨⟨cE, cG⟩, bB, hm⟩ := bS hm
   have hm := (J4 hm)
   refine Q9 4 rfl<|Q9 1 rfl<|Q9 4 rfl<|Q9 4 rfl<|q7w g q r<|q7w r g q<|q7w q r g<|z0u [_, _, _, _] [_] g q r R rfl<|Tv #[] #[pb s, pb t, pb n] [.agg #[iv u, iv aT], iv (al + 1)] rfl rfl z9B rfl (ih _ _ (⟨u, aT⟩ : Q0) (al + 1) E y z A B C ac ad F D af aR s t n x G H I J K L O S T U X Y A3 c4 g ag ai q aj r (aB.le (a.trans (c.trans (j.trans (k.trans i))))) (aA.le (a.trans (c.trans (j.trans (k.trans i))))) (aC.le (a.trans (c.trans (j.trans (k.trans i))))) (aD.le (a.trans (c.trans (j.trans (k.trans i))))) (aE.le (a.trans (c.trans (j.trans (k.trans i))))) (aU.le (a.trans (c.trans (j.trans (k.trans i))))) (h5.le (a.trans (c.trans (j.trans (k.trans i))))) aY az aZ cE cG bB) ?_
   rintro _ c7 _ bC ⟨cH, cJ, a9, cK, ba, rfl, rfl, cO, cP, cQ⟩
   refine z2O [_, _, _, _] [_] g a9 ba R rfl<|Tn<|Xm<|Xn<|Cg<|tS (sa rfl rfl (by omega))<|mV rfl<|Tn ?_
   obtain rfl := o1 hm
   exact jS ⟨cH, cJ, a9, cK, ba, rfl, rfl, ((i.trans bC)), cO, cP, cQ⟩
   rintro ay _ _ ⟨ag, ai, q, aj, r, rfl, rfl, i, aY, az, aZ⟩
   have hm := (J4 bT)
   refine Cr<|tS (lF rfl rfl (by omega))<|Te<|Cs<|k7 rfl<|Ce<|Xe<|Xe<|Xo ?_
   obtain ⟨rfl, rfl⟩ := Z6 hm
   exact eZ ⟨ag, ai, q, aj, r, rfl, rfl, aY, az, aZ⟩ (a.trans (c.trans (j.trans (k.trans i))))
theorem z1r (b : k8) (R : Hp) (ai D E F G H K L I B aj a0 z O S T U V W X Y Z aa ab ac A3 c4 i A8 c9 ad aA s) (bj : FZ RT.str b.w O S D) (a1 : FZ j3 b.w T U E) (bk : FZ w6 b.w V W F) (bl : FZ j6 b.w X Y G) (bm : FZ w7 b.w Z aa H) (a2 : FZ J2 b.w ab ac I) (h5 : OS 125 (OT.fr J2) b.w (sv A3 B c4) B i) (bn : OS 72 (OT.fr j8) b.w (sv A8 aj c9) aj ad) (aM : (A8 = none ↔ aj = [])) (bo : OM j8 (OT.fr RT.bool) true false b.w aA a0 s) (J aH) (hm : F4 ai D E F G H K L I B aj a0 = some (J, aH)):
 w8 Tryz.prog 99 [pb z, iv ai] b ((z, Cl 165 [sv O D S, sv T E U, sv V F W, sv X G Y, sv Z H aa, iv K, iv L, sv ab I ac, sv A3 B c4, sv A8 aj c9, .map (some aA)]) :: (i ++ (ad ++ (s ++ R)))) (fun v b' hp' => ∃ ak aI al aJ am, .tuple #[] = v ∧ (z, Cl 165 [sv O D S, sv T E U, sv V F W, sv X G Y, sv Z H aa, iv K, iv L, sv ab I ac, sv A3 B c4, sv ak J aI, .map (some aJ)]) :: (i ++ (al ++ (am ++ R))) = hp' ∧ OS 72 (OT.fr j8) b'.w (sv ak J aI) J al ∧ (ak = none ↔ J = []) ∧ OM j8 (OT.fr RT.bool) true false b'.w aJ aH am) := by
 refine fE 47 Tryz.func99 rfl Tryz.ntmps99 rfl ?_
 unfold F4 at hm
 refine Cr<|tD (uB _ rfl rfl) ?_
 rintro _ _ ⟨k, rfl, rfl⟩
 refine tD (uB _ rfl rfl) ?_
 rintro _ _ ⟨m, rfl, rfl⟩
 refine Te<|Cr<|tD (uA [.nilFunc] j2w rfl) ?_
 rintro _ _ ⟨g, rfl, rfl⟩
 refine Te<|Cr<|tS (q5l _ _ rfl rfl)<|tD (uS 0 rfl rfl j4E rfl rfl (by simp)) ?_
 rintro _ _ rfl
 refine Te ?_
 obtain ⟨⟨t, an, ao⟩, aN, aO⟩ := bS hm
 refine Cj (fun aq e' hp' => ∃ x, [(2, pb k), (4, pb g), (5, pb x)] = e' ∧ (k, Cl 161 [pb z]) :: (g, Cl 183 [.func (.func 119) #[] #[pb k, pb m, pb g]]) :: (x, Cl 125 [iv t, iv an, iv ao]) :: (z, Cl 165 [sv O D S, sv T E U, sv V F W, sv X G Y, sv Z H aa, iv K, iv L, sv ab I ac, sv A3 B c4, sv A8 aj c9, .map (some aA)]) :: (m, Cl 3 [iv ai]) :: (i ++ (ad ++ (s ++ R))) = hp' ∧ b.Le aq) ?_ ?_
 have hm := aN
 obtain ⟨ar, a3, hm⟩ := bS hm
 refine Di mixed (.refl _)<|Es 0 rfl (sL 2 rfl q6f rfl rfl)<|E0 1 rfl (sN rfl)<|E0 2 rfl (sF rfl z0l)<|E0 3 rfl (sF rfl q1b)<|Es 4 rfl (sL 3 rfl q4M rfl rfl)<|Es 5 rfl (sL 1 rfl Q5 rfl rfl) ?_
 obtain ⟨a4, aP, aQ⟩ := iS a3
 obtain ⟨bp, aR, aB, au, aC⟩ := FZ.get (sz := 3) rfl (by decide) a2 aQ
 obtain ⟨_, _, rfl, rfl, ⟨_, _, rfl, rfl, rfl⟩⟩ := aR
 refine E0 6 rfl (sI a4 rfl rfl aP aC au q7O)<|Es 7 rfl (sP (vs := [iv ar.Section, iv ar.In, iv ar.Out]) 3 rfl q4H au rfl (fun j u hu => aB j u hu))<|Eo<|Da [8] (by kernel_rfl) rfl<|Rd2 lr rfl rfl (uA [iv 0, iv 0, iv 0] q5j rfl) ?_ ?_
 rintro _ _ ⟨a5, rfl, rfl⟩
 refine iR<|Da [9] (by kernel_rfl) rfl<|Rd2 lr rfl rfl (uN (vs := [_, _, _]) 0 3 rfl rfl rfl q6s rfl (mc rfl (mc rfl (mc rfl mn))) rfl (by simp)) ?_ ?_
 rintro _ _ rfl
 refine ⟨.inl (by kernel_rfl), ?_⟩
 refine Dd (by kernel_rfl) ?_
 obtain ⟨rfl, rfl, rfl⟩ := q2o hm
 exact jJ ⟨a5, rfl, rfl, lr⟩
 exact Rn
 exact Rn
 rintro aq _ _ ⟨x, rfl, rfl, c⟩
 have hm := q4s aO
 refine Cs ?_
 obtain ⟨a6, a7, hm⟩ := bS hm
 obtain ⟨av, aD, hm⟩ := bS hm
 refine Di mixed (.refl _)<|Es 0 rfl (sL 0 rfl q6f rfl rfl)<|E0 1 rfl (sN rfl)<|E0 2 rfl (sF rfl z0m)<|E0 3 rfl (sF rfl q0m)<|Es 4 rfl (sL 3 rfl q5n rfl rfl)<|E0 5 rfl (sF rfl V8)<|Es 6 rfl (sL 2 rfl Q5 rfl rfl) ?_
 obtain ⟨a8, aT, aU⟩ := iS a7
 obtain ⟨bq, aV, aE, aw, aF⟩ := FZ.get (sz := 7) rfl (by decide) (a1.le c) aU
 obtain ⟨_, _, rfl, rfl, ⟨_, _, rfl, rfl, ⟨_, _, rfl, rfl, ⟨_, _, rfl, rfl, ⟨_, _, rfl, rfl, ⟨_, _, rfl, rfl, rfl⟩⟩⟩⟩⟩⟩ := aV
 refine E0 7 rfl (sI a8 rfl rfl aT aF aw z0I)<|E0 8 rfl (sQ rfl aw q4B)<|Es 9 rfl (sO rfl Q5 (aE 0 _ rfl))<|E0 11 rfl (sM rfl)<|Eo<|Da [10] (by kernel_rfl) rfl<|Rd2 lr rfl rfl (uW _ z9t rfl (fun w ho => z1t _ [] a6.Kind av aD) (fun _ _ _ h => h.2.symm)) ?_ ?_
 rintro _ _ ⟨⟨_, rfl, _⟩, rfl⟩
 refine iR<|Dd (by kernel_rfl)<|Xn<|Cb ?_
 obtain ⟨_, aK, hm⟩ := bS hm
 have aK := (kS aK).2
 refine Cp 4 rfl<|Cp 1 rfl<|Cp 4 rfl<|Cp 4 rfl<|Cp 4 rfl<|z7L i ad s<|z7L s i ad<|z7L ad s i ?_
 obtain ⟨⟨n, af⟩, aW, aX⟩ := bS hm
 refine lS (fun o => K5 fun n af => fun A e' hp' => ∃ l p e q f, [(4, pb g), (5, pb x), (26, iv av), (27, iv ((o : Int)))] = e' ∧ (g, Cl 183 [.func (.func 119) #[] #[pb k, pb m, pb g]]) :: (x, Cl 125 [iv t, iv an, iv ao]) :: (z, Cl 165 [sv O D S, sv T E U, sv V F W, sv X G Y, sv Z H aa, iv K, iv L, sv ab I ac, sv A3 B c4, sv l n p, .map (some q)]) :: (k, Cl 161 [pb z]) :: (m, Cl 3 [iv ai]) :: (i ++ (e ++ (f ++ R))) = hp' ∧ aq.Le A ∧ OS 72 (OT.fr j8) A.w (sv l n p) n e ∧ (l = none ↔ n = []) ∧ OM j8 (OT.fr RT.bool) true false A.w q af f) aW ⟨A8, c9, ad, aA, s, rfl, rfl, lr, (bn.le c), aM, (bo.le c)⟩ ?_ ?_
 rintro o ⟨n, af⟩ A _ _ br a9 ⟨l, p, e, q, f, rfl, rfl, d, ag, r, ah⟩ y
 unfold Y6 at y
 have hm := J4 y
 refine Cr<|tS (lT rfl rfl (by omega))<|Te<|Cs<|k9 rfl<|Ck<|Xn<|Cs<|Cb<|Cr<|mV rfl<|aS rfl<|Te ?_
 obtain ⟨ba, aY, aZ⟩ := bS hm
 refine Cj (fun aL e' hp' => [(4, pb g), (5, pb x), (6, iv ((o : Int))), (26, iv av), (27, iv ((o : Int))), (39, bv ba)] = e' ∧ (g, Cl 183 [.func (.func 119) #[] #[pb k, pb m, pb g]]) :: (x, Cl 125 [iv t, iv an, iv ao]) :: (z, Cl 165 [sv O D S, sv T E U, sv V F W, sv X G Y, sv Z H aa, iv K, iv L, sv ab I ac, sv A3 B c4, sv l n p, .map (some q)]) :: (k, Cl 161 [pb z]) :: (m, Cl 3 [iv ai]) :: (i ++ (e ++ (f ++ R))) = hp' ∧ A.Le aL) ?_ ?_
 have hm := aY
 refine Cg<|mV rfl<|tS (sF rfl z6y)<|tS (sL 1 rfl Q5 rfl rfl)<|Tb rfl (q2 rfl rfl) (fun ae => ?_) (fun ae => ?_)
 rw [if_pos ae] at hm
 refine mV rfl<|yS<|mV rfl<|yS<|tS (sF rfl z0n)<|yS<|tS (sL 1 rfl Q5 rfl rfl)<|yS<|tS (q2 rfl rfl)<|tS (pT rfl rfl)<|Tn ?_
 obtain rfl := o1 hm
 exact jJ ⟨rfl, rfl, lr⟩
 rw [if_neg ae] at hm
 refine mV rfl<|nO<|nO<|nO<|nO<|tS (pF rfl rfl)<|Tn ?_
 obtain rfl := o1 hm
 exact jJ ⟨rfl, rfl, lr⟩
 rintro aL _ _ ⟨rfl, rfl, a⟩
 have hm := aZ
 refine cB hm rfl (fun hm => ?_) fun hm => ?_
 refine Cg<|tS (sL 0 rfl j1R rfl rfl)<|tS (sF rfl V8)<|tS (sL 1 rfl Q5 rfl rfl)<|mV rfl<|tS (sB (v := .agg #[iv t, iv ((o : Int))]) [(0, iv t), (1, iv ((o : Int)))] rfl (fun _ => by kernel_rfl)) ?_
 obtain ⟨⟨bb, bc⟩, C, hm⟩ := bS hm
 obtain ⟨ax, C⟩ := q8k C
 have hm := J4 hm
 have zz := c.trans (d.trans a)
 refine Q9 2 rfl<|Q9 1 rfl<|Q9 4 rfl<|Q9 4 rfl<|q7w i e f<|q7w f i e<|q7w e f i<|z0u [_, _, _, _] [_] i e f R rfl<|Tv #[] #[pb k, pb m, pb g] [.agg #[iv t, iv ((o : Int))], iv 0] rfl rfl z9B rfl (q9s ax _ _ (⟨t, (o : Int)⟩ : Q0) 0 ai D E F G H K L I B n af k m g z O S T U V W X Y Z aa ab ac A3 c4 i l p e q f (bj.le zz) (a1.le zz) (bk.le zz) (bl.le zz) (bm.le zz) (a2.le zz) (h5.le zz) (ag.le a) r (ah.le a) bb bc C) ?_
 rintro _ bs _ aG ⟨bd, be, ay, bf, az, rfl, rfl, bg, bh, bi⟩
 refine z2O [_, _, _, _] [_] i ay az R rfl<|Tn<|Xm<|Xn<|Cg<|tS (sa rfl rfl (by omega))<|mV rfl<|Tn ?_
 obtain rfl := o1 hm
 exact jS ⟨bd, be, ay, bf, az, rfl, rfl, ((d.trans (a.trans aG))), bg, bh, bi⟩
 refine Ck<|Xm<|Xn<|Cg<|tS (sa rfl rfl (by omega))<|mV rfl<|Tn ?_
 obtain rfl := o1 hm
 exact jS ⟨l, p, e, q, f, rfl, rfl, ((d.trans a)), (ag.le a), r, (ah.le a)⟩
 rintro A _ _ ⟨l, p, e, q, f, rfl, rfl, d, ag, r, ah⟩
 have hm := J4 aX
 refine Cr<|tS (lF rfl rfl (by omega))<|Te<|Cs<|k7 rfl<|Ce<|Xe<|Xe<|Xo ?_
 obtain ⟨rfl, rfl⟩ := Z6 hm
 exact eZ ⟨l, p, e, q, f, rfl, rfl, ag, r, ah⟩ (c.trans d)
 exact Rn
theorem z4W (b : k8) (R : Hp) (g : v6) (f : j1) (A2 c3 A5 c6 A8 c9 r s t x y z) (h4 : FZ RT.str b.w A2 c3 g.Stations) (h7 : FZ j3 b.w A5 c6 g.Sections) (aq : FZ w6 b.w A8 c9 g.Links) (ar : FZ j6 b.w r s g.Signals) (au : FZ w7 b.w t x g.Gates) (al : FZ J2 b.w y z f.Steps) (av) (hm : G3 g f = some av):
 w8 Tryz.prog 59 [.agg #[sv A2 g.Stations c3, sv A5 g.Sections c6, sv A8 g.Links c9, sv r g.Signals s, sv t g.Gates x], .agg #[iv f.From, iv f.To, sv y f.Steps z]] b (R) (fun v b' hp' => ∃ aF bf aG, sv aF av bf = v ∧ (aG ++ R) = hp' ∧ OS 72 (OT.fr j8) b'.w (sv aF av bf) av aG ∧ (aF = none ↔ av = [])) := by
 refine fE 74 Tryz.func59 rfl Tryz.ntmps59 rfl ?_
 unfold G3 at hm
 refine Cr<|tD (uB _ rfl rfl) ?_
 rintro _ _ ⟨ac, rfl, rfl⟩
 refine tD (uB _ rfl rfl) ?_
 rintro _ _ ⟨I, rfl, rfl⟩
 refine aS rfl<|Te ?_
 obtain ⟨⟨A, bw⟩, bh, bi⟩ := bS hm
 refine Cj (fun aw e' hp' => ∃ B C D d F G, [(2, pb ac), (3, pb I), (5, pb B)] = e' ∧ (ac, Cl 28 [sv A2 g.Stations c3, sv A5 g.Sections c6, sv A8 g.Links c9, sv r g.Signals s, sv t g.Gates x]) :: (I, Cl 80 [iv f.From, iv f.To, sv y f.Steps z]) :: (B, Cl 165 [sv A2 g.Stations c3, sv A5 g.Sections c6, sv A8 g.Links c9, sv r g.Signals s, sv t g.Gates x, iv f.From, iv f.To, sv y f.Steps z, sv C A D, sn, .map (some F)]) :: (d ++ (G ++ R)) = hp' ∧ b.Le aw ∧ OS 125 (OT.fr J2) aw.w (sv C A D) A d ∧ OM j8 (OT.fr RT.bool) true false aw.w F bw G) ?_ ?_
 have hm := bh
 obtain ⟨ad, aA, hm⟩ := bS hm
 refine Di mixed (.refl _)<|Es 0 rfl (sD (vs := [_, _, _, _, _]) 1 5 rfl q0o rfl rfl rfl)<|Es 1 rfl (sD (vs := [_, _, _]) 0 3 rfl z9Y rfl rfl rfl)<|Es 2 rfl (sD (vs := [_, _, _, _, _]) 1 5 rfl q0o rfl rfl rfl)<|Es 3 rfl (sD (vs := [_, _, _]) 0 3 rfl z9Y rfl rfl rfl)<|Eo<|Da [4, 5] (by kernel_rfl) rfl<|Rg lr rfl rfl _ j1Z rfl (q9H _ _ g f A2 c3 A5 c6 A8 c9 r s t x y z h4 h7 aq ar au al ad aA) ?_ ?_
 rintro _ bx _ o ⟨K, L, E, rfl, rfl, aH⟩
 refine iR<|z1Q [] [_, _] E R rfl<|Da [5] (by kernel_rfl) rfl<|Rd2 o rfl rfl (q2D j8 (OT.fr RT.bool) true false [_, _] (E ++ R) rfl) ?_ ?_
 rintro _ _ ⟨O, H, rfl, rfl, aI⟩
 refine iR<|Da [6] (by kernel_rfl) rfl ?_
 refine Rd2 o rfl rfl (Q7.does (sB (v := .agg #[sv A2 g.Stations c3, sv A5 g.Sections c6, sv A8 g.Links c9, sv r g.Signals s, sv t g.Gates x, iv f.From, iv f.To, sv y f.Steps z, sv K ad L, sn, .map (some O)]) [(0, .agg #[sv A2 g.Stations c3, sv A5 g.Sections c6, sv A8 g.Links c9, sv r g.Signals s, sv t g.Gates x]), (1, .agg #[iv f.From, iv f.To, sv y f.Steps z]), (2, sv K ad L), (4, .map (some O))] rfl (fun _ => by kernel_rfl))) ?_ ?_
 rintro _ _ ⟨rfl, rfl⟩
 refine iR<|Da [7] (by kernel_rfl) rfl<|Rd2 o rfl rfl (uB _ rfl rfl) ?_ ?_
 rintro _ _ ⟨aJ, rfl, rfl⟩
 refine iR<|Ei o (.cons _ (.cons_cons _ (.cons_cons _ (ss H (ss E (.refl _))))))<|E0 8 rfl (sA rfl)<|Eo<|Dd (by kernel_rfl) ?_
 obtain ⟨rfl, rfl⟩ := Z6 hm
 exact jJ ⟨aJ, K, L, E, O, H, rfl, rfl, o, aH, aI⟩
 exact Rn
 exact Rn
 exact Rn
 refine Rd2 lr rfl rfl (q2D j8 (OT.fr RT.bool) true false [_, _] R rfl) ?_ ?_
 rintro _ _ ⟨O, H, rfl, rfl, aI⟩
 refine iR<|Da [4] (by kernel_rfl) rfl<|Rg lr rfl rfl _ j1Z rfl (q9H _ _ g f A2 c3 A5 c6 A8 c9 r s t x y z h4 h7 aq ar au al ad aA) ?_ ?_
 rintro _ bx _ o ⟨K, L, E, rfl, rfl, aH⟩
 refine iR<|z1Q [] [_, _] E (H ++ R) rfl<|Da [6] (by kernel_rfl) rfl ?_
 refine Rd2 o rfl rfl (Q7.does (sB (v := .agg #[sv A2 g.Stations c3, sv A5 g.Sections c6, sv A8 g.Links c9, sv r g.Signals s, sv t g.Gates x, iv f.From, iv f.To, sv y f.Steps z, sv K ad L, sn, .map (some O)]) [(0, .agg #[sv A2 g.Stations c3, sv A5 g.Sections c6, sv A8 g.Links c9, sv r g.Signals s, sv t g.Gates x]), (1, .agg #[iv f.From, iv f.To, sv y f.Steps z]), (2, sv K ad L), (4, .map (some O))] rfl (fun _ => by kernel_rfl))) ?_ ?_
 rintro _ _ ⟨rfl, rfl⟩
 refine iR<|Da [7] (by kernel_rfl) rfl<|Rd2 o rfl rfl (uB _ rfl rfl) ?_ ?_
 rintro _ _ ⟨aJ, rfl, rfl⟩
 refine iR<|Ei o (.cons _ (.cons_cons _ (.cons_cons _ (ss E (ss H (.refl _))))))<|E0 8 rfl (sA rfl)<|Eo<|Dd (by kernel_rfl) ?_
 obtain ⟨rfl, rfl⟩ := Z6 hm
 exact jJ ⟨aJ, K, L, E, O, H, rfl, rfl, o, aH, (aI.le o)⟩
 exact Rn
 exact Rn
 exact Rn
 exact Rn
 rintro aw _ _ ⟨B, C, D, d, F, G, rfl, rfl, c, ae, bz⟩
 have hm := J4 bi
 refine Cs<|Cr<|tS (sF rfl q1b)<|tS (sL 1 rfl q4M rfl rfl)<|tS (sE rfl q7O)<|mV rfl<|Te<|Cb ?_
 have cb : f.Steps.length ≤ 9223372036854775807 := (FZ.bd (al.le c))
 refine Cp 2 rfl<|Cp 2 rfl<|Cp 2 rfl<|j5h d G<|j5h G d ?_
 obtain ⟨⟨S, aB⟩, bj, bk⟩ := bS hm
 refine lS (fun ax => K5 fun S aB => fun af e' hp' => ∃ T ag k l, [(2, pb ac), (3, pb I), (5, pb B), (20, sv y f.Steps z), (21, iv ((f.Steps.length : Int))), (22, iv ((ax : Int)))] = e' ∧ (ac, Cl 28 [sv A2 g.Stations c3, sv A5 g.Sections c6, sv A8 g.Links c9, sv r g.Signals s, sv t g.Gates x]) :: (I, Cl 80 [iv f.From, iv f.To, sv y f.Steps z]) :: (B, Cl 165 [sv A2 g.Stations c3, sv A5 g.Sections c6, sv A8 g.Links c9, sv r g.Signals s, sv t g.Gates x, iv f.From, iv f.To, sv y f.Steps z, sv C A D, sv T S ag, .map (some F)]) :: (d ++ (k ++ (l ++ R))) = hp' ∧ aw.Le af ∧ OS 72 (OT.fr j8) af.w (sv T S ag) S k ∧ (T = none ↔ S = []) ∧ OM j8 (OT.fr RT.bool) true false af.w F aB l) bj ⟨none, 0, [], G, rfl, rfl, lr, OS.nil, ⟨fun _ => rfl, fun _ => rfl⟩, bz⟩ ?_ ?_
 rintro ax ⟨S, aB⟩ af _ _ cc bA ⟨T, ag, k, l, rfl, rfl, a, aK, am, aL⟩ U
 unfold G9 at U
 have hm := J4 U
 refine Cr<|tS (lT rfl rfl (by omega))<|Te<|Cs<|k9 rfl<|Ck<|Xn<|Cs<|Cb<|Cr<|mV rfl ?_
 have zz := c.trans a
 obtain ⟨V, bB, cd, bl, ce, bm, a1, aM, a2, hm⟩ := bF (sz := 3) hm (al.le zz)
 obtain ⟨_, _, rfl, rfl, ⟨_, _, rfl, rfl, rfl⟩⟩ := bm
 refine tS (sI bB rfl rfl bl a2 aM q7O)<|tS (sP (vs := [iv V.Section, iv V.In, iv V.Out]) 3 rfl q4H aM rfl (fun j u hu => a1 j u hu))<|tD (uA [iv 0, iv 0, iv 0] q5j rfl) ?_
 rintro _ _ ⟨cn, rfl, rfl⟩
 refine aS rfl<|tD (uN (vs := [_, _, _]) 0 3 rfl rfl rfl q6s rfl (mc rfl (mc rfl (mc rfl mn))) rfl (by simp)) ?_
 rintro _ _ rfl
 refine Te ?_
 obtain ⟨aC, a3, hm⟩ := bS hm
 obtain ⟨⟨bC, bD⟩, a4, hm⟩ := bS hm
 have hm := J4 hm
 refine Di mixed (.cons_cons _ (.cons_cons _ (.cons_cons _ (.cons _ (ss d (ss k (ss l (.refl _))))))))<|E0 0 rfl (sM rfl)<|E0 1 rfl (sF rfl V8)<|Es 2 rfl (sL 0 rfl Q5 rfl rfl)<|Es 3 rfl (sD (vs := [_, _, _, _, _]) 1 5 rfl q0o rfl rfl rfl)<|Es 4 rfl (sD (vs := [_, _, _]) 0 3 rfl q4H rfl rfl rfl)<|E0 6 rfl (sM rfl)<|Eo<|Da [5] (by kernel_rfl) rfl ?_
 refine Rd2 lr rfl rfl (uW _ j1Y rfl (fun w ho => q8J _ [] g V A2 c3 A5 c6 A8 c9 r s t x ((h4.le zz).old ho) ((h7.le zz).old ho) ((aq.le zz).old ho) ((ar.le zz).old ho) ((au.le zz).old ho) aC a3) (fun _ _ _ h => h.2.symm)) ?_ ?_
 rintro _ _ ⟨⟨_, rfl, _⟩, rfl⟩
 refine iR<|Ei lr (.cons_cons _ (.cons_cons _ (.cons_cons _ (.cons _ (ss d (ss k (ss l (.refl _))))))))<|E0 7 rfl (sB (v := .agg #[iv 1, iv V.Section, iv aC, iv ((ax : Int))]) [(0, iv 1), (1, iv V.Section), (2, iv aC), (3, iv ((ax : Int)))] rfl (fun _ => by kernel_rfl))<|Eo<|q6F 3 rfl<|z7H d k l<|z7H l d k<|z7H k l d<|j1W [_] [_, _, _] d k l R rfl<|Da [8] (by kernel_rfl) rfl ?_
 refine Rg lr rfl rfl _ z4I rfl (q1J _ _ (⟨1, V.Section, aC, (ax : Int)⟩ : q9) g.Stations g.Sections g.Links g.Signals g.Gates f.From f.To f.Steps A S aB B A2 c3 A5 c6 A8 c9 r s t x y z C D d T ag k F l (h4.le zz) (h7.le zz) (aq.le zz) (ar.le zz) (au.le zz) (al.le zz) (ae.le a) aK am aL bC bD a4) ?_ ?_
 rintro _ co _ a5 ⟨bE, bG, aN, aO, rfl, rfl, bH, bI, bJ⟩
 refine iR<|j5f [_] [_, _, _] d aN aO R rfl<|Dd (by kernel_rfl)<|Xm<|Xn<|Cg<|tS (sa rfl rfl (by omega))<|mV rfl<|Tn ?_
 obtain rfl := o1 hm
 exact jS ⟨bE, bG, aN, aO, rfl, rfl, ((a.trans a5)), bH, bI, bJ⟩
 exact Rn
 exact Rn
 rintro af _ _ ⟨T, ag, k, l, rfl, rfl, a, aK, am, aL⟩
 have hm := J4 bk
 refine Cr<|tS (lF rfl rfl (by omega))<|Te<|Cs<|k7 rfl<|Ce<|Xe<|Xe<|Xo<|Xn<|Cs<|Cr<|mV rfl<|tS (sN rfl)<|tS (sF rfl z6x)<|tS (sL 2 rfl q4M rfl rfl)<|tS (sE rfl q7O)<|mV rfl<|Te<|Cb ?_
 have cf : A.length ≤ 9223372036854775807 := (OS.len ae)
 refine Cp 2 rfl<|Cp 2 rfl<|Cp 2 rfl<|z3F d k l<|z3F l d k<|z3F k l d ?_
 obtain ⟨⟨W, aD⟩, bn, bo⟩ := bS hm
 refine lS (fun bg => K5 fun W aD => fun ah e' hp' => ∃ X ai m n, [(2, pb ac), (3, pb I), (5, pb B), (40, sv C A D), (41, iv ((A.length : Int))), (42, iv ((bg : Int)))] = e' ∧ (ac, Cl 28 [sv A2 g.Stations c3, sv A5 g.Sections c6, sv A8 g.Links c9, sv r g.Signals s, sv t g.Gates x]) :: (I, Cl 80 [iv f.From, iv f.To, sv y f.Steps z]) :: (B, Cl 165 [sv A2 g.Stations c3, sv A5 g.Sections c6, sv A8 g.Links c9, sv r g.Signals s, sv t g.Gates x, iv f.From, iv f.To, sv y f.Steps z, sv C A D, sv X W ai, .map (some F)]) :: (d ++ (m ++ (n ++ R))) = hp' ∧ af.Le ah ∧ OS 72 (OT.fr j8) ah.w (sv X W ai) W m ∧ (X = none ↔ W = []) ∧ OM j8 (OT.fr RT.bool) true false ah.w F aD n) bn ⟨T, ag, k, l, rfl, rfl, lr, aK, am, aL⟩ ?_ ?_
 rintro bg ⟨W, aD⟩ ah _ _ cg bK ⟨X, ai, m, n, rfl, rfl, e, aP, an, aQ⟩ Y
 unfold G8 at Y
 have hm := J4 Y
 refine Cr<|tS (lT rfl rfl (by omega))<|Te<|Cs<|k9 rfl<|Ck<|Xn<|Cs<|Cb<|Cr ?_
 obtain ⟨Z, bL, hm⟩ := bS hm
 obtain ⟨bM, bp, bq⟩ := iS bL
 have zy := a.trans e
 obtain ⟨ch, ci, cp, cq, cj, br, a6, aR, a7, ck, ca⟩ := OS.get (sz := 3) rfl (by decide) (ae.le zy) bq
 obtain ⟨⟨_, _, rfl, rfl, ⟨_, _, rfl, rfl, rfl⟩⟩, rfl⟩ := br
 refine tS (sI bM rfl rfl bp a7 aR q7O)<|tS (Z2 (vs := [iv Z.Section, iv Z.In, iv Z.Out]) 3 rfl q4H aR rfl (fun w ho j u hu => a6 w _ ho (.cons _ (.cons _ (.cons _ (Kb _ _)))) j u hu))<|tD (uA [iv 0, iv 0, iv 0] q5j rfl) ?_
 rintro _ _ ⟨cr, rfl, rfl⟩
 refine tD (uN (vs := [_, _, _]) 0 3 rfl rfl rfl q6s rfl (mc rfl (mc rfl (mc rfl mn))) rfl (by simp)) ?_
 rintro _ _ rfl
 refine Te ?_
 obtain ⟨aE, a8, hm⟩ := bS hm
 obtain ⟨⟨bN, bO⟩, a9, hm⟩ := bS hm
 have hm := J4 hm
 refine Di mixed (.cons_cons _ (.cons_cons _ (.cons_cons _ (.cons _ (ss d (ss m (ss n (.refl _))))))))<|E0 0 rfl (sM rfl)<|E0 1 rfl (sF rfl V8)<|Es 2 rfl (sL 0 rfl Q5 rfl rfl)<|Es 3 rfl (sD (vs := [_, _, _, _, _]) 1 5 rfl q0o rfl rfl rfl)<|Es 4 rfl (sD (vs := [_, _, _]) 0 3 rfl q4H rfl rfl rfl)<|Eo<|Da [5] (by kernel_rfl) rfl ?_
 have zx := c.trans zy
 refine Rd2 lr rfl rfl (uW _ j1Y rfl (fun w ho => q8J _ [] g Z A2 c3 A5 c6 A8 c9 r s t x ((h4.le zx).old ho) ((h7.le zx).old ho) ((aq.le zx).old ho) ((ar.le zx).old ho) ((au.le zx).old ho) aE a8) (fun _ _ _ h => h.2.symm)) ?_ ?_
 rintro _ _ ⟨⟨_, rfl, _⟩, rfl⟩
 refine iR<|Ei lr (.cons_cons _ (.cons_cons _ (.cons_cons _ (.cons _ (ss d (ss m (ss n (.refl _))))))))<|E0 6 rfl (sB (v := .agg #[iv 2, iv Z.Section, iv aE, iv ((-1))]) [(0, iv 2), (1, iv Z.Section), (2, iv aE), (3, iv ((-1)))] rfl (fun _ => by kernel_rfl))<|Eo<|q6F 3 rfl<|z7H d m n<|z7H n d m<|z7H m n d<|j1W [_] [_, _, _] d m n R rfl<|Da [7] (by kernel_rfl) rfl ?_
 refine Rg lr rfl rfl _ z4I rfl (q1J _ _ (⟨2, Z.Section, aE, (-1)⟩ : q9) g.Stations g.Sections g.Links g.Signals g.Gates f.From f.To f.Steps A W aD B A2 c3 A5 c6 A8 c9 r s t x y z C D d X ai m F n (h4.le zx) (h7.le zx) (aq.le zx) (ar.le zx) (au.le zx) (al.le zx) (ae.le zy) aP an aQ bN bO a9) ?_ ?_
 rintro _ cs _ ba ⟨bP, bQ, aT, aU, rfl, rfl, bR, bT, bU⟩
 refine iR<|j5f [_] [_, _, _] d aT aU R rfl<|Dd (by kernel_rfl)<|Xm<|Xn<|Cg<|tS (sa rfl rfl (by omega))<|mV rfl<|Tn ?_
 obtain rfl := o1 hm
 exact jS ⟨bP, bQ, aT, aU, rfl, rfl, ((e.trans ba)), bR, bT, bU⟩
 exact Rn
 exact Rn
 rintro ah _ _ ⟨X, ai, m, n, rfl, rfl, e, aP, an, aQ⟩
 have hm := J4 bo
 refine Cr<|tS (lF rfl rfl (by omega))<|Te<|Cs<|k7 rfl<|Ce<|Xe<|Xe<|Xo<|Xn<|Cs<|Cr<|tS (sF rfl q1b)<|tS (sL 1 rfl q4M rfl rfl)<|tS (sE rfl q7O)<|mV rfl<|Te<|Cb ?_
 have cl : f.Steps.length ≤ 9223372036854775807 := (FZ.bd (al.le (c.trans (a.trans e))))
 refine Cp 2 rfl<|Cp 2 rfl<|z3F d m n<|z3F n d m<|z3F m n d ?_
 obtain ⟨⟨J, ay⟩, bs, bt⟩ := bS hm
 refine lS (fun aV => K5 fun J ay => fun az e' hp' => ∃ aa aj p ak q, [(3, pb I), (5, pb B), (57, iv ((f.Steps.length : Int))), (58, iv ((aV : Int)))] = e' ∧ (I, Cl 80 [iv f.From, iv f.To, sv y f.Steps z]) :: (B, Cl 165 [sv A2 g.Stations c3, sv A5 g.Sections c6, sv A8 g.Links c9, sv r g.Signals s, sv t g.Gates x, iv f.From, iv f.To, sv y f.Steps z, sv C A D, sv aa J aj, .map (some ak)]) :: (d ++ (p ++ (q ++ R))) = hp' ∧ ah.Le az ∧ OS 72 (OT.fr j8) az.w (sv aa J aj) J p ∧ (aa = none ↔ J = []) ∧ OM j8 (OT.fr RT.bool) true false az.w ak ay q) bs ⟨X, ai, m, F, n, rfl, rfl, lr, aP, an, aQ⟩ ?_ ?_
 rintro aV ⟨J, ay⟩ az _ _ cm bV ⟨aa, aj, p, ak, q, rfl, rfl, i, aW, ao, aX⟩ ab
 unfold G7 at ab
 have hm := J4 ab
 refine Cr<|tS (lT rfl rfl (by omega))<|Te<|Cs<|k9 rfl<|Ck<|Xn<|Cs<|Cb<|Cr<|mV rfl<|aS rfl<|Te<|Cg<|mV rfl<|mV rfl ?_
 obtain ⟨⟨bW, bX⟩, bb, hm⟩ := bS hm
 have hm := J4 hm
 have zw := c.trans (a.trans (e.trans i))
 refine Q9 1 rfl<|z2N d p q<|z2N q d p<|z2N p q d<|z0u [_] [_] d p q R rfl<|Tg _ rfl j5j rfl (z1r _ _ (aV : Int) g.Stations g.Sections g.Links g.Signals g.Gates f.From f.To f.Steps A J ay B A2 c3 A5 c6 A8 c9 r s t x y z C D d aa aj p ak q (h4.le zw) (h7.le zw) (aq.le zw) (ar.le zw) (au.le zw) (al.le zw) (ae.le (a.trans (e.trans i))) aW ao aX bW bX bb) ?_
 rintro _ ct _ bc ⟨bY, bZ, aY, b0, aZ, rfl, rfl, b1, b2, b3⟩
 refine z2O [_] [_] d aY aZ R rfl<|Tn<|Xm<|Xn<|Cg<|tS (sa rfl rfl (by omega))<|mV rfl<|Tn ?_
 obtain rfl := o1 hm
 exact jS ⟨bY, bZ, aY, b0, aZ, rfl, rfl, ((i.trans bc)), b1, b2, b3⟩
 rintro az _ _ ⟨aa, aj, p, ak, q, rfl, rfl, i, aW, ao, aX⟩
 have hm := J4 bt
 refine Cr<|tS (lF rfl rfl (by omega))<|Te<|Cs<|k7 rfl<|Ce<|Xe<|Xe<|Xo<|Xn ?_
 refine Cr<|mV rfl<|tS (sF rfl q7F)<|tS (sL 0 rfl Q5 rfl rfl)<|tS (sB (v := .agg #[iv 5, iv f.From, iv 0, iv ((-1))]) [(0, iv 5), (1, iv f.From), (3, iv ((-1)))] rfl (fun _ => by kernel_rfl)) ?_
 obtain ⟨⟨b4, b5⟩, bd, hm⟩ := bS hm
 have hm := J4 hm
 have zv := c.trans (a.trans (e.trans i))
 refine Q9 1 rfl<|z2N d p q<|z2N q d p<|z2N p q d<|z0u [_] [_] d p q R rfl<|Tg _ rfl z4I rfl (q1J _ _ (⟨5, f.From, 0, (-1)⟩ : q9) g.Stations g.Sections g.Links g.Signals g.Gates f.From f.To f.Steps A J ay B A2 c3 A5 c6 A8 c9 r s t x y z C D d aa aj p ak q (h4.le zv) (h7.le zv) (aq.le zv) (ar.le zv) (au.le zv) (al.le zv) (ae.le (a.trans (e.trans i))) aW ao aX b4 b5 bd) ?_
 rintro _ cu _ be ⟨b6, b7, a0, bu, rfl, rfl, b8, b9, cv⟩
 refine z2O [_] [_] d a0 bu R rfl<|Te<|Cr<|mV rfl<|tS (sN rfl)<|tS (sF rfl z0k)<|tS (sL 0 rfl z8D rfl rfl)<|aS rfl<|Te<|Ct ?_
 obtain rfl := o1 hm
 exact rO ⟨b6, b7, a0, rfl, rfl, b8, b9⟩ (c.trans (a.trans (e.trans (i.trans be))))
theorem z7P (b : k8) (R : Hp) (i : v6) (d A2 c3 A5 c6 A8 c9 o p q r) (h4 : FZ RT.str b.w A2 c3 i.Stations) (h7 : FZ j3 b.w A5 c6 i.Sections) (H : FZ w6 b.w A8 c9 i.Links) (I : FZ j6 b.w o p i.Signals) (J : FZ w7 b.w q r i.Gates) (K e) (hm : q7b i d = some (K, e)):
 w8 Tryz.prog 17 [.agg #[sv A2 i.Stations c3, sv A5 i.Sections c6, sv A8 i.Links c9, sv o i.Signals p, sv q i.Gates r], iv d] b (R) (fun v b' hp' => ∃ C L z, .tuple #[sv C e L, iv K] = v ∧ (z ++ R) = hp' ∧ OS 72 (OT.fr j8) b'.w (sv C e L) e z ∧ (C = none ↔ e = [])) := by
 refine fE 24 Tryz.func17 rfl Tryz.ntmps17 rfl ?_
 unfold q7b at hm
 refine Cr<|tD (uB _ rfl rfl) ?_
 rintro _ _ ⟨ak, rfl, rfl⟩
 refine aS rfl<|aS rfl<|Te<|Cr<|tS (sD (vs := [_, _, _, _, _]) 0 5 rfl q0o rfl rfl rfl)<|mV rfl<|tD (V7 (el := 3) [(0, iv d)] [iv d] rfl (fun _ => by kernel_rfl)) ?_
 rintro _ _ ⟨f, rfl, rfl⟩
 refine j6D 0 [_] R rfl rfl ?_
 have O : OS 3 (OT.fr rI) b.w (.slice (some ⟨f, 0, none⟩) 1 1) [d] [(f, Cl 3 [iv d])] := OS.lit [[iv d]] rfl ⟨rfl, trivial⟩ rfl (by decide)
 have ae : (((some ⟨f, 0, none⟩) : OA) = none ↔ [d] = []) := ⟨nofun, nofun⟩
 refine j0v [_] [(f, Cl 3 [iv d])] R rfl ?_
 intro al a D
 have S := OS.frz (l := [d]) O a.cells D
 obtain ⟨⟨T, U⟩, s, hm⟩ := bS hm
 have hm := J4 hm
 refine Tg _ rfl j5v rfl (z9K _ _ i [d] A2 c3 A5 c6 A8 c9 o p q r (some ⟨f, 0, none⟩) 1 (h4.le a) (h7.le a) (H.le a) (I.le a) (J.le a) S T U s) ?_
 rintro _ am _ c ⟨an, ao, k, rfl, rfl, V, aq⟩
 refine q5k [] [_] k R rfl<|mV rfl<|tS (j5 rfl rfl)<|tS (j5 rfl rfl)<|aS rfl<|aS rfl<|Te<|Cs<|Cr<|mV rfl<|tS (q2 rfl rfl)<|Te<|cI hm rfl (fun hm => ?_) fun hm => ?_
 refine Cr<|mV rfl<|aS rfl<|aS rfl<|Te<|Ct<|Xr ?_
 obtain ⟨rfl, rfl⟩ := Z6 hm
 exact rT ⟨none, 0, [], rfl, rfl, OS.nil, ⟨fun _ => rfl, fun _ => rfl⟩⟩ (a.trans c)
 refine Ck<|Xn<|Cs ?_
 obtain ⟨g, W, hm⟩ := bS hm
 obtain ⟨X, t, hm⟩ := bS hm
 refine Di mixed (.refl _)<|Es 0 rfl (sD (vs := [_, _, _, _, _]) 0 5 rfl q0o rfl rfl rfl)<|E0 1 rfl (sM rfl)<|E0 2 rfl (sM rfl) ?_
 obtain ⟨Y, E, F⟩ := iS W
 obtain ⟨ag, ah, ar, au, ai, G, x, m, y, aj, af⟩ := OS.get (sz := 3) rfl (by decide) V F
 obtain ⟨⟨_, _, rfl, rfl, ⟨_, _, rfl, rfl, ⟨A, B, rfl, Z⟩⟩⟩, rfl⟩ := G
 refine E0 3 rfl (sI Y rfl rfl E y m j2U)<|Es 4 rfl (Z2 (vs := [iv g.From, iv g.To, sv A g.Steps B]) 3 rfl z9Y m rfl (fun w ho j u hu => x w _ ho (.cons _ (Kb _ _)) j u hu))<|Eo<|Da [5] (by kernel_rfl) rfl ?_
 have zz := a.trans c
 refine Rg lr rfl rfl _ j5u rfl (z4W _ _ i g A2 c3 A5 c6 A8 c9 o p q r A B (h4.le zz) (h7.le zz) (H.le zz) (I.le zz) (J.le zz) Z X t) ?_ ?_
 rintro _ av _ h ⟨aa, ab, n, rfl, rfl, ac, ad⟩
 refine ⟨.inl (by kernel_rfl), ?_⟩
 refine z1Q [] [_] n (k ++ R) rfl<|El h<|E0 6 rfl (sA rfl)<|E0 7 rfl (sA rfl)<|Eo<|Dd (by kernel_rfl)<|Xn<|Ct ?_
 obtain ⟨rfl, rfl⟩ := Z6 hm
 exact rT ⟨aa, ab, n, rfl, rfl, ac, ad⟩ (a.trans (c.trans h))
 exact Rn
theorem z3I (b : k8) (R : Hp) (Y : v6) (A2 c3 A5 c6 A8 c9 an ao aq ar) (h4 : FZ RT.str b.w A2 c3 Y.Stations) (h7 : FZ j3 b.w A5 c6 Y.Sections) (aD : FZ w6 b.w A8 c9 Y.Links) (aE : FZ j6 b.w an ao Y.Signals) (aF : FZ w7 b.w aq ar Y.Gates) (bt bu bw bx bz bA bB bj bk bW bX) (hm : mLockNew Y = some (bt, bu, bw, bx, bz, bA, bB, bj, bk, bW, bX)):
 w8 Tryz.prog 6 [.agg #[sv A2 Y.Stations c3, sv A5 Y.Sections c6, sv A8 Y.Links c9, sv an Y.Signals ao, sv aq Y.Gates ar]] b (R) (fun v b' hp' => ∃ (ads : Int → Nat), ∃ bY bZ b0 b1 b2 b3 b4 b5 b6 b7 b8 b9 ca cb cc cd ce bC cf cg bD ch bE bG, .tuple #[pb bY, iv 0] = v ∧ (bY, Cl 57 [sv bZ bt b0, sv b1 bu b2, sv b3 bw b4, sv b5 bx b6, sv b7 bz b8, sv b9 bA ca, sv cb bB cc, sv cd bj ce, sv cf bk cg, .map (some ch)]) :: (bC ++ (bD ++ (bE ++ (bG ++ R)))) = hp' ∧ FZ RT.str b'.w bZ b0 bt ∧ FZ j3 b'.w b1 b2 bu ∧ FZ w6 b'.w b3 b4 bw ∧ FZ j6 b'.w b5 b6 bx ∧ FZ w7 b'.w b7 b8 bz ∧ FZ Q3 b'.w b9 ca bA ∧ FZ (RT.list j8) b'.w cb cc bB ∧ OS 59 (OT.fr j9) b'.w (sv cd bj ce) bj bC ∧ OS 127 (OT.fr v8) b'.w (sv cf bk cg) bk bD ∧ OM rI (OT.fr (RT.key ads)) false false b'.w ch bW bE ∧ OAr 85 z8 ads b'.w bX bG) := by
 refine fE 78 Tryz.func6 rfl Tryz.ntmps6 rfl ?_
 unfold mLockNew at hm
 refine Cr<|tD (uB _ rfl rfl) ?_
 rintro _ _ ⟨au, rfl, rfl⟩
 refine aS rfl<|aS rfl<|Te<|Cs<|Cr<|tS (sD (vs := [_, _, _, _, _]) 0 5 rfl q0o rfl rfl rfl) ?_
 obtain ⟨cO, bR, hm⟩ := bS hm
 refine tD (uW _ z6K rfl (fun w ho => q7i _ [] Y A2 c3 A5 c6 A8 c9 an ao aq ar (h4.old ho) (h7.old ho) (aD.old ho) (aE.old ho) (aF.old ho) cO bR) (fun _ _ _ h => h.2.symm)) ?_
 rintro _ _ ⟨⟨_, rfl, _⟩, rfl⟩
 refine aS rfl<|Te<|Cr<|mV rfl<|tS (q2 rfl rfl)<|Te<|cI hm rfl (fun hm => ?_) fun hm => ?_
 refine Cr<|mV rfl<|aS rfl<|aS rfl<|Te<|Ct<|Xr ?_
 cases hm
 refine Ck<|Xn<|Cr<|tS (sD (vs := [_, _, _, _, _]) 0 5 rfl q0o rfl rfl rfl) ?_
 obtain ⟨⟨cP, ac⟩, bT, hm⟩ := bS hm
 have hm := J4 hm
 refine Tg _ rfl j3E rfl (q7K _ _ Y A2 c3 A5 c6 A8 c9 an ao aq ar h4 h7 aD aE aF cP ac bT) ?_
 rintro _ a5 _ d ⟨ak, al, j, rfl, rfl, ci, d6⟩
 refine q5k [] [_] j R rfl<|mV rfl<|tS (j5 rfl rfl)<|tS (j5 rfl rfl)<|aS rfl<|aS rfl<|Te<|Cs<|Cr<|mV rfl<|tS (q2 rfl rfl)<|Te<|cI hm rfl (fun hm => ?_) fun hm => ?_
 refine Cr<|mV rfl<|aS rfl<|aS rfl<|Te<|Ct<|Xr ?_
 cases hm
 refine Ck<|Xn ?_
 obtain ⟨⟨a9, ba, bb, bc, bd, be, a6, cQ, cR⟩, cl, cm⟩ := bS hm
 refine Cj (fun aA e' hp' => ∃ (ads : Int → Nat), ∃ aJ aN aO aP aQ aR aT aU aV aW aX bl bm aw aY aZ I a0 J K, [(1, pb au), (5, sv ak ac al), (7, pb aJ)] = e' ∧ (au, Cl 28 [sv A2 Y.Stations c3, sv A5 Y.Sections c6, sv A8 Y.Links c9, sv an Y.Signals ao, sv aq Y.Gates ar]) :: (aJ, Cl 57 [sv aN a9 aO, sv aP ba aQ, sv aR bb aT, sv aU bc aV, sv aW bd aX, sv ak ac al, sn, sv bl be bm, sv aY a6 aZ, .map (some a0)]) :: (j ++ (aw ++ (I ++ (J ++ (K ++ R))))) = hp' ∧ a5.Le aA ∧ FZ RT.str aA.w aN aO a9 ∧ FZ j3 aA.w aP aQ ba ∧ FZ w6 aA.w aR aT bb ∧ FZ j6 aA.w aU aV bc ∧ FZ w7 aA.w aW aX bd ∧ OS 59 (OT.fr j9) aA.w (sv bl be bm) be aw ∧ OS 127 (OT.fr v8) aA.w (sv aY a6 aZ) a6 I ∧ OM rI (OT.fr (RT.key ads)) false false aA.w a0 cQ J ∧ OAr 85 z8 ads aA.w cR K) ?_ ?_
 have hm := cl
 obtain ⟨⟨ad, ae, af, ag, ah⟩, am, hm⟩ := bS hm
 have hm := z6Y hm
 obtain ⟨Z, G, hm⟩ := bS hm
 obtain ⟨aa, H, hm⟩ := bS hm
 refine z3T ((au, Cl 28 [sv A2 Y.Stations c3, sv A5 Y.Sections c6, sv A8 Y.Links c9, sv an Y.Signals ao, sv aq Y.Gates ar]) :: (j ++ R)) mixed ?_
 refine z2E (fun aC e' hp' => ∃ (ads : Int → Nat), ∃ e k f m n g o p q s t u x y z A B C, [(1, pb au), (5, sv ak ac al), (26, .agg #[sv q ad s, sv t ae u, sv x af y, sv z ag A, sv B ah C]), (27, sv ak ac al), (31, .slice o (List.replicate Z ((⟨0, false, 0, 0, false⟩ : q8) : q8)).length p), (35, .slice m (List.replicate aa ((⟨0, false, false⟩ : z6) : z6)).length n), (36, .map (some k))] = e' ∧ (au, Cl 28 [sv A2 Y.Stations c3, sv A5 Y.Sections c6, sv A8 Y.Links c9, sv an Y.Signals ao, sv aq Y.Gates ar]) :: (e ++ (f ++ (g ++ (j ++ ([] ++ R))))) = hp' ∧ OM rI (OT.fr (RT.key ads)) false false aC.w k ([] : (List (Int × (Option Int)))) e ∧ OS 127 (OT.fr v8) aC.w (.slice m (List.replicate aa ((⟨0, false, false⟩ : z6) : z6)).length n) (List.replicate aa ((⟨0, false, false⟩ : z6) : z6)) f ∧ OS 59 (OT.fr j9) aC.w (.slice o (List.replicate Z ((⟨0, false, 0, 0, false⟩ : q8) : q8)).length p) (List.replicate Z ((⟨0, false, 0, 0, false⟩ : q8) : q8)) g ∧ OAr 85 z8 ads aC.w ([] : List (Int × j0)) [] ∧ FZ RT.str aC.w q s ad ∧ FZ j3 aC.w t u ae ∧ FZ w6 aC.w x y af ∧ FZ j6 aC.w z A ag ∧ FZ w7 aC.w B C ah) 3 #[true, true, true, true, true, true, true, true, true, true, true, true, false, false, false] ?_ (fun tl687 => ?_)
 rintro aC _ _ aM ⟨ads, e, k, f, m, n, g, o, p, q, s, t, u, x, y, z, A, B, C, rfl, rfl, cT, cU, cV, cW, cX, cY, cZ, c0, c1⟩
 refine Da [12] (by kernel_rfl) rfl ?_
 refine Rd2 aM rfl rfl (Q7.does (sB (v := .agg #[sv q ad s, sv t ae u, sv x af y, sv z ag A, sv B ah C, sv ak ac al, sn, .slice o (List.replicate Z ((⟨0, false, 0, 0, false⟩ : q8) : q8)).length p, .slice m (List.replicate aa ((⟨0, false, false⟩ : z6) : z6)).length n, .map (some k)]) [(0, .agg #[sv q ad s, sv t ae u, sv x af y, sv z ag A, sv B ah C]), (1, sv ak ac al), (3, .slice o (List.replicate Z ((⟨0, false, 0, 0, false⟩ : q8) : q8)).length p), (4, .slice m (List.replicate aa ((⟨0, false, false⟩ : z6) : z6)).length n), (5, .map (some k))] rfl (fun _ => by kernel_rfl))) ?_ ?_
 rintro _ _ ⟨rfl, rfl⟩
 refine iR<|Da [13] (by kernel_rfl) rfl<|Rd2 aM rfl rfl (uB _ rfl rfl) ?_ ?_
 rintro _ _ ⟨c2, rfl, rfl⟩
 refine iR<|Ei aM (.cons _ (.cons_cons _ (ss e (ss f (ss g (sp j (ss [] (.refl _))))))))<|E0 14 rfl (sA rfl)<|Eo<|Dd (by kernel_rfl) ?_
 obtain ⟨rfl, rfl, rfl, rfl, rfl, rfl, rfl, rfl, rfl⟩ := j6E hm
 exact jJ ⟨ads, c2, q, s, t, u, x, y, z, A, B, C, o, p, g, m, n, f, k, e, [], rfl, rfl, aM, cX, cY, cZ, c0, c1, cV, cU, cT, cW⟩
 exact Rn
 exact Rn
 refine z2E (fun aG e' hp' => ∃ f m n g o p q s t u x y z A B C, [(1, pb au), (5, sv ak ac al), (26, .agg #[sv q ad s, sv t ae u, sv x af y, sv z ag A, sv B ah C]), (27, sv ak ac al), (31, .slice o (List.replicate Z ((⟨0, false, 0, 0, false⟩ : q8) : q8)).length p), (35, .slice m (List.replicate aa ((⟨0, false, false⟩ : z6) : z6)).length n)] = e' ∧ (au, Cl 28 [sv A2 Y.Stations c3, sv A5 Y.Sections c6, sv A8 Y.Links c9, sv an Y.Signals ao, sv aq Y.Gates ar]) :: (f ++ (g ++ (j ++ R))) = hp' ∧ OS 127 (OT.fr v8) aG.w (.slice m (List.replicate aa ((⟨0, false, false⟩ : z6) : z6)).length n) (List.replicate aa ((⟨0, false, false⟩ : z6) : z6)) f ∧ OS 59 (OT.fr j9) aG.w (.slice o (List.replicate Z ((⟨0, false, 0, 0, false⟩ : q8) : q8)).length p) (List.replicate Z ((⟨0, false, 0, 0, false⟩ : q8) : q8)) g ∧ FZ RT.str aG.w q s ad ∧ FZ j3 aG.w t u ae ∧ FZ w6 aG.w x y af ∧ FZ j6 aG.w z A ag ∧ FZ w7 aG.w B C ah) 4 #[true, true, true, true, true, true, true, true, true, true, true, false, false, false, false] ?_ (fun tl697 => ?_)
 rintro aG _ _ bn ⟨f, m, n, g, o, p, q, s, t, u, x, y, z, A, B, C, rfl, rfl, c4, c5, c7, c8, da, db, dc⟩
 obtain ⟨ads, _⟩ : ∃ a : Int → Nat, a = fun _ => 0 := ⟨_, rfl⟩
 refine Da [11] (by kernel_rfl) rfl<|Rd2 bn rfl rfl (q2D rI (OT.fr (RT.key ads)) false false [_] (f ++ (g ++ (j ++ R))) rfl) ?_ ?_
 rintro _ _ ⟨k, e, rfl, rfl, O⟩
 have F : OAr 85 z8 ads aG.w [] [] := OAr.nil Z1
 refine iR ?_
 exact dG tl687 ⟨ads, e, k, f, m, n, g, o, p, q, s, t, u, x, y, z, A, B, C, rfl, rfl, O, c4, c5, F, c7, c8, da, db, dc⟩ bn
 exact Rn
 refine z2E (fun aH e' hp' => ∃ (ads : Int → Nat), ∃ e k g o p q s t u x y z A B C, [(1, pb au), (5, sv ak ac al), (26, .agg #[sv q ad s, sv t ae u, sv x af y, sv z ag A, sv B ah C]), (27, sv ak ac al), (31, .slice o (List.replicate Z ((⟨0, false, 0, 0, false⟩ : q8) : q8)).length p), (34, iv ((Y.Gates.length : Int))), (36, .map (some k))] = e' ∧ (au, Cl 28 [sv A2 Y.Stations c3, sv A5 Y.Sections c6, sv A8 Y.Links c9, sv an Y.Signals ao, sv aq Y.Gates ar]) :: (e ++ (g ++ (j ++ ([] ++ R)))) = hp' ∧ OM rI (OT.fr (RT.key ads)) false false aH.w k ([] : (List (Int × (Option Int)))) e ∧ OS 59 (OT.fr j9) aH.w (.slice o (List.replicate Z ((⟨0, false, 0, 0, false⟩ : q8) : q8)).length p) (List.replicate Z ((⟨0, false, 0, 0, false⟩ : q8) : q8)) g ∧ OAr 85 z8 ads aH.w ([] : List (Int × j0)) [] ∧ FZ RT.str aH.w q s ad ∧ FZ j3 aH.w t u ae ∧ FZ w6 aH.w x y af ∧ FZ j6 aH.w z A ag ∧ FZ w7 aH.w B C ah) 4 #[true, true, true, true, true, true, true, true, true, true, false, true, false, false, false] ?_ (fun tl708 => ?_)
 rintro aH _ _ bo ⟨ads, e, k, g, o, p, q, s, t, u, x, y, z, A, B, C, rfl, rfl, dd, de, df, dg, dh, di, dj, dk⟩
 have H := q1N H
 refine Da [10] (by kernel_rfl) rfl<|Rd2 bo rfl rfl (K2 (r := v8) [_] (e ++ (g ++ (j ++ ([] ++ R)))) [iv 0, bv false, bv false] (⟨0, false, false⟩ : z6) aa rfl H.1 rfl rfl q7P q4a rfl rfl rfl (by decide) ⟨[iv 0], _, rfl, rfl, ⟨[bv false], _, rfl, rfl, rfl⟩⟩ H.2.1 H.2.2) ?_ ?_
 rintro _ _ ⟨f, rfl, D⟩
 obtain ⟨m, n, rfl, _⟩ := D.form
 refine iR ?_
 exact dG tl687 ⟨ads, e, k, f, m, n, g, o, p, q, s, t, u, x, y, z, A, B, C, rfl, rfl, dd, D, de, df, dg, dh, di, dj, dk⟩ bo
 exact Rn
 refine z2E (fun aI e' hp' => ∃ (ads : Int → Nat), ∃ e k f m n q s t u x y z A B C, [(1, pb au), (5, sv ak ac al), (26, .agg #[sv q ad s, sv t ae u, sv x af y, sv z ag A, sv B ah C]), (27, sv ak ac al), (30, iv ((Y.Sections.length : Int))), (35, .slice m (List.replicate aa ((⟨0, false, false⟩ : z6) : z6)).length n), (36, .map (some k))] = e' ∧ (au, Cl 28 [sv A2 Y.Stations c3, sv A5 Y.Sections c6, sv A8 Y.Links c9, sv an Y.Signals ao, sv aq Y.Gates ar]) :: (e ++ (f ++ (j ++ ([] ++ R)))) = hp' ∧ OM rI (OT.fr (RT.key ads)) false false aI.w k ([] : (List (Int × (Option Int)))) e ∧ OS 127 (OT.fr v8) aI.w (.slice m (List.replicate aa ((⟨0, false, false⟩ : z6) : z6)).length n) (List.replicate aa ((⟨0, false, false⟩ : z6) : z6)) f ∧ OAr 85 z8 ads aI.w ([] : List (Int × j0)) [] ∧ FZ RT.str aI.w q s ad ∧ FZ j3 aI.w t u ae ∧ FZ w6 aI.w x y af ∧ FZ j6 aI.w z A ag ∧ FZ w7 aI.w B C ah) 4 #[true, true, true, true, true, true, false, true, true, true, true, true, false, false, false] ?_ (fun tl719 => ?_)
 rintro aI _ _ bp ⟨ads, e, k, f, m, n, q, s, t, u, x, y, z, A, B, C, rfl, rfl, dl, dm, dn, dp, dq, dr, ds, dt⟩
 have G := q1N G
 refine Da [6] (by kernel_rfl) rfl<|Rd2 bp rfl rfl (K2 (r := j9) [_] (e ++ (f ++ (j ++ ([] ++ R)))) [iv 0, bv false, iv 0, iv 0, bv false] (⟨0, false, 0, 0, false⟩ : q8) Z rfl G.1 rfl rfl q3O q7k rfl rfl rfl (by decide) ⟨[iv 0], _, rfl, rfl, ⟨[bv false], _, rfl, rfl, ⟨[iv 0], _, rfl, rfl, ⟨[iv 0], _, rfl, rfl, rfl⟩⟩⟩⟩ G.2.1 G.2.2) ?_ ?_
 rintro _ _ ⟨g, rfl, E⟩
 obtain ⟨o, p, rfl, _⟩ := E.form
 refine iR ?_
 exact dG tl687 ⟨ads, e, k, f, m, n, g, o, p, q, s, t, u, x, y, z, A, B, C, rfl, rfl, dl, dm, E, dn, dp, dq, dr, ds, dt⟩ bp
 exact Rn
 refine z2E (fun bf e' hp' => ∃ (ads : Int → Nat), ∃ e k f m n g o p, [(1, pb au), (5, sv ak ac al), (25, .agg #[sv A2 Y.Stations c3, sv A5 Y.Sections c6, sv A8 Y.Links c9, sv an Y.Signals ao, sv aq Y.Gates ar]), (27, sv ak ac al), (31, .slice o (List.replicate Z ((⟨0, false, 0, 0, false⟩ : q8) : q8)).length p), (35, .slice m (List.replicate aa ((⟨0, false, false⟩ : z6) : z6)).length n), (36, .map (some k))] = e' ∧ (au, Cl 28 [sv A2 Y.Stations c3, sv A5 Y.Sections c6, sv A8 Y.Links c9, sv an Y.Signals ao, sv aq Y.Gates ar]) :: (e ++ (f ++ (g ++ (j ++ ([] ++ R))))) = hp' ∧ OM rI (OT.fr (RT.key ads)) false false bf.w k ([] : (List (Int × (Option Int)))) e ∧ OS 127 (OT.fr v8) bf.w (.slice m (List.replicate aa ((⟨0, false, false⟩ : z6) : z6)).length n) (List.replicate aa ((⟨0, false, false⟩ : z6) : z6)) f ∧ OS 59 (OT.fr j9) bf.w (.slice o (List.replicate Z ((⟨0, false, 0, 0, false⟩ : q8) : q8)).length p) (List.replicate Z ((⟨0, false, 0, 0, false⟩ : q8) : q8)) g ∧ OAr 85 z8 ads bf.w ([] : List (Int × j0)) []) 4 #[true, false, true, true, true, true, true, true, true, true, true, true, false, false, false] ?_ (fun tl726 => ?_)
 rintro bf _ _ ax ⟨ads, e, k, f, m, n, g, o, p, rfl, rfl, du, dv, dw, dx⟩
 refine Da [1] (by kernel_rfl) rfl ?_
 have zz := d.trans ax
 refine Rg ax rfl rfl _ q6J rfl (q2W _ _ Y A2 c3 A5 c6 A8 c9 an ao aq ar (h4.le zz) (h7.le zz) (aD.le zz) (aE.le zz) (aF.le zz) ad ae af ag ah am) ?_ ?_
 rintro _ av _ c ⟨q, s, t, u, x, y, z, A, B, C, rfl, rfl, S, T, U, V, W⟩
 refine iR ?_
 exact dG tl687 ⟨ads, e, k, f, m, n, g, o, p, q, s, t, u, x, y, z, A, B, C, rfl, rfl, (du.le c), (dv.le c), (dw.le c), (dx.le c), S, T, U, V, W⟩ (ax.trans c)
 exact Rn
 refine Ei lr (.refl _)<|Es 0 rfl (sD (vs := [_, _, _, _, _]) 0 5 rfl q0o rfl rfl rfl)<|E0 2 rfl (sM rfl)<|E0 3 rfl (sF rfl q0m)<|Es 4 rfl (sL 0 rfl q5n rfl rfl)<|E0 5 rfl (sE rfl z0I)<|E0 7 rfl (sF rfl q5V)<|Es 8 rfl (sL 0 rfl z3h rfl rfl)<|E0 9 rfl (sE rfl z7b)<|Eo ?_
 have G := q1N G
 have H := q1N H
 obtain ⟨ads, _⟩ : ∃ a : Int → Nat, a = fun _ => 0 := ⟨_, rfl⟩
 refine Da [1, 6, 10, 11] (by kernel_rfl) rfl<|Rg lr rfl rfl _ q6J rfl (q2W _ _ Y A2 c3 A5 c6 A8 c9 an ao aq ar (h4.le d) (h7.le d) (aD.le d) (aE.le d) (aF.le d) ad ae af ag ah am) ?_ ?_
 rintro _ av _ c ⟨q, s, t, u, x, y, z, A, B, C, rfl, rfl, S, T, U, V, W⟩
 refine iR<|Da [6, 10, 11] (by kernel_rfl) rfl<|Rd2 c rfl rfl (K2 (r := j9) [_] (j ++ R) [iv 0, bv false, iv 0, iv 0, bv false] (⟨0, false, 0, 0, false⟩ : q8) Z rfl G.1 rfl rfl q3O q7k rfl rfl rfl (by decide) ⟨[iv 0], _, rfl, rfl, ⟨[bv false], _, rfl, rfl, ⟨[iv 0], _, rfl, rfl, ⟨[iv 0], _, rfl, rfl, rfl⟩⟩⟩⟩ G.2.1 G.2.2) ?_ ?_
 rintro _ _ ⟨g, rfl, E⟩
 obtain ⟨o, p, rfl, _⟩ := E.form
 refine iR<|Da [10, 11] (by kernel_rfl) rfl<|Rd2 c rfl rfl (K2 (r := v8) [_] (g ++ (j ++ R)) [iv 0, bv false, bv false] (⟨0, false, false⟩ : z6) aa rfl H.1 rfl rfl q7P q4a rfl rfl rfl (by decide) ⟨[iv 0], _, rfl, rfl, ⟨[bv false], _, rfl, rfl, rfl⟩⟩ H.2.1 H.2.2) ?_ ?_
 rintro _ _ ⟨f, rfl, D⟩
 obtain ⟨m, n, rfl, _⟩ := D.form
 refine iR ?_
 exact dG tl697 ⟨f, m, n, g, o, p, q, s, t, u, x, y, z, A, B, C, rfl, rfl, D, E, S, T, U, V, W⟩ c
 refine Rd2 c rfl rfl (q2D rI (OT.fr (RT.key ads)) false false [_] (g ++ (j ++ R)) rfl) ?_ ?_
 rintro _ _ ⟨k, e, rfl, rfl, O⟩
 have F : OAr 85 z8 ads av.w [] [] := OAr.nil Z1
 refine iR ?_
 exact dG tl708 ⟨ads, e, k, g, o, p, q, s, t, u, x, y, z, A, B, C, rfl, rfl, O, E, F, S, T, U, V, W⟩ c
 exact Rn
 refine Rd2 c rfl rfl (K2 (r := v8) [_] (j ++ R) [iv 0, bv false, bv false] (⟨0, false, false⟩ : z6) aa rfl H.1 rfl rfl q7P q4a rfl rfl rfl (by decide) ⟨[iv 0], _, rfl, rfl, ⟨[bv false], _, rfl, rfl, rfl⟩⟩ H.2.1 H.2.2) ?_ ?_
 rintro _ _ ⟨f, rfl, D⟩
 obtain ⟨m, n, rfl, _⟩ := D.form
 refine iR<|Da [6, 11] (by kernel_rfl) rfl<|Rd2 c rfl rfl (K2 (r := j9) [_] (f ++ (j ++ R)) [iv 0, bv false, iv 0, iv 0, bv false] (⟨0, false, 0, 0, false⟩ : q8) Z rfl G.1 rfl rfl q3O q7k rfl rfl rfl (by decide) ⟨[iv 0], _, rfl, rfl, ⟨[bv false], _, rfl, rfl, ⟨[iv 0], _, rfl, rfl, ⟨[iv 0], _, rfl, rfl, rfl⟩⟩⟩⟩ G.2.1 G.2.2) ?_ ?_
 rintro _ _ ⟨g, rfl, E⟩
 obtain ⟨o, p, rfl, _⟩ := E.form
 refine iR ?_
 exact dG tl697 ⟨f, m, n, g, o, p, q, s, t, u, x, y, z, A, B, C, rfl, rfl, D, E, S, T, U, V, W⟩ c
 refine Rd2 c rfl rfl (q2D rI (OT.fr (RT.key ads)) false false [_] (f ++ (j ++ R)) rfl) ?_ ?_
 rintro _ _ ⟨k, e, rfl, rfl, O⟩
 have F : OAr 85 z8 ads av.w [] [] := OAr.nil Z1
 refine iR ?_
 exact dG tl719 ⟨ads, e, k, f, m, n, q, s, t, u, x, y, z, A, B, C, rfl, rfl, O, D, F, S, T, U, V, W⟩ c
 exact Rn
 refine Rd2 c rfl rfl (q2D rI (OT.fr (RT.key ads)) false false [_] (j ++ R) rfl) ?_ ?_
 rintro _ _ ⟨k, e, rfl, rfl, O⟩
 have F : OAr 85 z8 ads av.w [] [] := OAr.nil Z1
 refine iR<|Da [6, 10] (by kernel_rfl) rfl<|Rd2 c rfl rfl (K2 (r := j9) [_] (e ++ (j ++ ([] ++ R))) [iv 0, bv false, iv 0, iv 0, bv false] (⟨0, false, 0, 0, false⟩ : q8) Z rfl G.1 rfl rfl q3O q7k rfl rfl rfl (by decide) ⟨[iv 0], _, rfl, rfl, ⟨[bv false], _, rfl, rfl, ⟨[iv 0], _, rfl, rfl, ⟨[iv 0], _, rfl, rfl, rfl⟩⟩⟩⟩ G.2.1 G.2.2) ?_ ?_
 rintro _ _ ⟨g, rfl, E⟩
 obtain ⟨o, p, rfl, _⟩ := E.form
 refine iR ?_
 exact dG tl708 ⟨ads, e, k, g, o, p, q, s, t, u, x, y, z, A, B, C, rfl, rfl, O, E, F, S, T, U, V, W⟩ c
 refine Rd2 c rfl rfl (K2 (r := v8) [_] (e ++ (j ++ ([] ++ R))) [iv 0, bv false, bv false] (⟨0, false, false⟩ : z6) aa rfl H.1 rfl rfl q7P q4a rfl rfl rfl (by decide) ⟨[iv 0], _, rfl, rfl, ⟨[bv false], _, rfl, rfl, rfl⟩⟩ H.2.1 H.2.2) ?_ ?_
 rintro _ _ ⟨f, rfl, D⟩
 obtain ⟨m, n, rfl, _⟩ := D.form
 refine iR ?_
 exact dG tl719 ⟨ads, e, k, f, m, n, q, s, t, u, x, y, z, A, B, C, rfl, rfl, O, D, F, S, T, U, V, W⟩ c
 exact Rn
 exact Rn
 refine Rd2 lr rfl rfl (K2 (r := j9) [_] (j ++ R) [iv 0, bv false, iv 0, iv 0, bv false] (⟨0, false, 0, 0, false⟩ : q8) Z rfl G.1 rfl rfl q3O q7k rfl rfl rfl (by decide) ⟨[iv 0], _, rfl, rfl, ⟨[bv false], _, rfl, rfl, ⟨[iv 0], _, rfl, rfl, ⟨[iv 0], _, rfl, rfl, rfl⟩⟩⟩⟩ G.2.1 G.2.2) ?_ ?_
 rintro _ _ ⟨g, rfl, E⟩
 obtain ⟨o, p, rfl, _⟩ := E.form
 refine iR<|Da [1, 10, 11] (by kernel_rfl) rfl<|Rg lr rfl rfl _ q6J rfl (q2W _ _ Y A2 c3 A5 c6 A8 c9 an ao aq ar (h4.le d) (h7.le d) (aD.le d) (aE.le d) (aF.le d) ad ae af ag ah am) ?_ ?_
 rintro _ av _ c ⟨q, s, t, u, x, y, z, A, B, C, rfl, rfl, S, T, U, V, W⟩
 refine iR<|Da [10, 11] (by kernel_rfl) rfl<|Rd2 c rfl rfl (K2 (r := v8) [_] (g ++ (j ++ R)) [iv 0, bv false, bv false] (⟨0, false, false⟩ : z6) aa rfl H.1 rfl rfl q7P q4a rfl rfl rfl (by decide) ⟨[iv 0], _, rfl, rfl, ⟨[bv false], _, rfl, rfl, rfl⟩⟩ H.2.1 H.2.2) ?_ ?_
 rintro _ _ ⟨f, rfl, D⟩
 obtain ⟨m, n, rfl, _⟩ := D.form
 refine iR ?_
 exact dG tl697 ⟨f, m, n, g, o, p, q, s, t, u, x, y, z, A, B, C, rfl, rfl, D, (E.le c), S, T, U, V, W⟩ c
 refine Rd2 c rfl rfl (q2D rI (OT.fr (RT.key ads)) false false [_] (g ++ (j ++ R)) rfl) ?_ ?_
 rintro _ _ ⟨k, e, rfl, rfl, O⟩
 have F : OAr 85 z8 ads av.w [] [] := OAr.nil Z1
 refine iR ?_
 exact dG tl708 ⟨ads, e, k, g, o, p, q, s, t, u, x, y, z, A, B, C, rfl, rfl, O, (E.le c), F, S, T, U, V, W⟩ c
 exact Rn
 refine Rd2 lr rfl rfl (K2 (r := v8) [_] (g ++ (j ++ R)) [iv 0, bv false, bv false] (⟨0, false, false⟩ : z6) aa rfl H.1 rfl rfl q7P q4a rfl rfl rfl (by decide) ⟨[iv 0], _, rfl, rfl, ⟨[bv false], _, rfl, rfl, rfl⟩⟩ H.2.1 H.2.2) ?_ ?_
 rintro _ _ ⟨f, rfl, D⟩
 obtain ⟨m, n, rfl, _⟩ := D.form
 refine iR<|Da [1, 11] (by kernel_rfl) rfl<|Rg lr rfl rfl _ q6J rfl (q2W _ _ Y A2 c3 A5 c6 A8 c9 an ao aq ar (h4.le d) (h7.le d) (aD.le d) (aE.le d) (aF.le d) ad ae af ag ah am) ?_ ?_
 rintro _ av _ c ⟨q, s, t, u, x, y, z, A, B, C, rfl, rfl, S, T, U, V, W⟩
 refine iR ?_
 exact dG tl697 ⟨f, m, n, g, o, p, q, s, t, u, x, y, z, A, B, C, rfl, rfl, (D.le c), (E.le c), S, T, U, V, W⟩ c
 refine Rd2 lr rfl rfl (q2D rI (OT.fr (RT.key ads)) false false [_] (f ++ (g ++ (j ++ R))) rfl) ?_ ?_
 rintro _ _ ⟨k, e, rfl, rfl, O⟩
 have F : OAr 85 z8 ads a5.w [] [] := OAr.nil Z1
 refine iR ?_
 exact dG tl726 ⟨ads, e, k, f, m, n, g, o, p, rfl, rfl, O, D, E, F⟩ lr
 exact Rn
 refine Rd2 lr rfl rfl (q2D rI (OT.fr (RT.key ads)) false false [_] (g ++ (j ++ R)) rfl) ?_ ?_
 rintro _ _ ⟨k, e, rfl, rfl, O⟩
 have F : OAr 85 z8 ads a5.w [] [] := OAr.nil Z1
 refine iR<|Da [1, 10] (by kernel_rfl) rfl<|Rg lr rfl rfl _ q6J rfl (q2W _ _ Y A2 c3 A5 c6 A8 c9 an ao aq ar (h4.le d) (h7.le d) (aD.le d) (aE.le d) (aF.le d) ad ae af ag ah am) ?_ ?_
 rintro _ av _ c ⟨q, s, t, u, x, y, z, A, B, C, rfl, rfl, S, T, U, V, W⟩
 refine iR ?_
 exact dG tl708 ⟨ads, e, k, g, o, p, q, s, t, u, x, y, z, A, B, C, rfl, rfl, (O.le c), (E.le c), (F.le c), S, T, U, V, W⟩ c
 refine Rd2 lr rfl rfl (K2 (r := v8) [_] (e ++ (g ++ (j ++ ([] ++ R)))) [iv 0, bv false, bv false] (⟨0, false, false⟩ : z6) aa rfl H.1 rfl rfl q7P q4a rfl rfl rfl (by decide) ⟨[iv 0], _, rfl, rfl, ⟨[bv false], _, rfl, rfl, rfl⟩⟩ H.2.1 H.2.2) ?_ ?_
 rintro _ _ ⟨f, rfl, D⟩
 obtain ⟨m, n, rfl, _⟩ := D.form
 refine iR ?_
 exact dG tl726 ⟨ads, e, k, f, m, n, g, o, p, rfl, rfl, O, D, E, F⟩ lr
 exact Rn
 exact Rn
 refine Rd2 lr rfl rfl (K2 (r := v8) [_] (j ++ R) [iv 0, bv false, bv false] (⟨0, false, false⟩ : z6) aa rfl H.1 rfl rfl q7P q4a rfl rfl rfl (by decide) ⟨[iv 0], _, rfl, rfl, ⟨[bv false], _, rfl, rfl, rfl⟩⟩ H.2.1 H.2.2) ?_ ?_
 rintro _ _ ⟨f, rfl, D⟩
 obtain ⟨m, n, rfl, _⟩ := D.form
 refine iR<|Da [1, 6, 11] (by kernel_rfl) rfl<|Rg lr rfl rfl _ q6J rfl (q2W _ _ Y A2 c3 A5 c6 A8 c9 an ao aq ar (h4.le d) (h7.le d) (aD.le d) (aE.le d) (aF.le d) ad ae af ag ah am) ?_ ?_
 rintro _ av _ c ⟨q, s, t, u, x, y, z, A, B, C, rfl, rfl, S, T, U, V, W⟩
 refine iR<|Da [6, 11] (by kernel_rfl) rfl<|Rd2 c rfl rfl (K2 (r := j9) [_] (f ++ (j ++ R)) [iv 0, bv false, iv 0, iv 0, bv false] (⟨0, false, 0, 0, false⟩ : q8) Z rfl G.1 rfl rfl q3O q7k rfl rfl rfl (by decide) ⟨[iv 0], _, rfl, rfl, ⟨[bv false], _, rfl, rfl, ⟨[iv 0], _, rfl, rfl, ⟨[iv 0], _, rfl, rfl, rfl⟩⟩⟩⟩ G.2.1 G.2.2) ?_ ?_
 rintro _ _ ⟨g, rfl, E⟩
 obtain ⟨o, p, rfl, _⟩ := E.form
 refine iR ?_
 exact dG tl697 ⟨f, m, n, g, o, p, q, s, t, u, x, y, z, A, B, C, rfl, rfl, (D.le c), E, S, T, U, V, W⟩ c
 refine Rd2 c rfl rfl (q2D rI (OT.fr (RT.key ads)) false false [_] (f ++ (j ++ R)) rfl) ?_ ?_
 rintro _ _ ⟨k, e, rfl, rfl, O⟩
 have F : OAr 85 z8 ads av.w [] [] := OAr.nil Z1
 refine iR ?_
 exact dG tl719 ⟨ads, e, k, f, m, n, q, s, t, u, x, y, z, A, B, C, rfl, rfl, O, (D.le c), F, S, T, U, V, W⟩ c
 exact Rn
 refine Rd2 lr rfl rfl (K2 (r := j9) [_] (f ++ (j ++ R)) [iv 0, bv false, iv 0, iv 0, bv false] (⟨0, false, 0, 0, false⟩ : q8) Z rfl G.1 rfl rfl q3O q7k rfl rfl rfl (by decide) ⟨[iv 0], _, rfl, rfl, ⟨[bv false], _, rfl, rfl, ⟨[iv 0], _, rfl, rfl, ⟨[iv 0], _, rfl, rfl, rfl⟩⟩⟩⟩ G.2.1 G.2.2) ?_ ?_
 rintro _ _ ⟨g, rfl, E⟩
 obtain ⟨o, p, rfl, _⟩ := E.form
 refine iR<|Da [1, 11] (by kernel_rfl) rfl<|Rg lr rfl rfl _ q6J rfl (q2W _ _ Y A2 c3 A5 c6 A8 c9 an ao aq ar (h4.le d) (h7.le d) (aD.le d) (aE.le d) (aF.le d) ad ae af ag ah am) ?_ ?_
 rintro _ av _ c ⟨q, s, t, u, x, y, z, A, B, C, rfl, rfl, S, T, U, V, W⟩
 refine iR ?_
 exact dG tl697 ⟨f, m, n, g, o, p, q, s, t, u, x, y, z, A, B, C, rfl, rfl, (D.le c), (E.le c), S, T, U, V, W⟩ c
 refine Rd2 lr rfl rfl (q2D rI (OT.fr (RT.key ads)) false false [_] (g ++ (f ++ (j ++ R))) rfl) ?_ ?_
 rintro _ _ ⟨k, e, rfl, rfl, O⟩
 have F : OAr 85 z8 ads a5.w [] [] := OAr.nil Z1
 refine iR ?_
 exact dG tl726 ⟨ads, e, k, f, m, n, g, o, p, rfl, rfl, O, D, E, F⟩ lr
 exact Rn
 refine Rd2 lr rfl rfl (q2D rI (OT.fr (RT.key ads)) false false [_] (f ++ (j ++ R)) rfl) ?_ ?_
 rintro _ _ ⟨k, e, rfl, rfl, O⟩
 have F : OAr 85 z8 ads a5.w [] [] := OAr.nil Z1
 refine iR<|Da [1, 6] (by kernel_rfl) rfl<|Rg lr rfl rfl _ q6J rfl (q2W _ _ Y A2 c3 A5 c6 A8 c9 an ao aq ar (h4.le d) (h7.le d) (aD.le d) (aE.le d) (aF.le d) ad ae af ag ah am) ?_ ?_
 rintro _ av _ c ⟨q, s, t, u, x, y, z, A, B, C, rfl, rfl, S, T, U, V, W⟩
 refine iR ?_
 exact dG tl719 ⟨ads, e, k, f, m, n, q, s, t, u, x, y, z, A, B, C, rfl, rfl, (O.le c), (D.le c), (F.le c), S, T, U, V, W⟩ c
 refine Rd2 lr rfl rfl (K2 (r := j9) [_] (e ++ (f ++ (j ++ ([] ++ R)))) [iv 0, bv false, iv 0, iv 0, bv false] (⟨0, false, 0, 0, false⟩ : q8) Z rfl G.1 rfl rfl q3O q7k rfl rfl rfl (by decide) ⟨[iv 0], _, rfl, rfl, ⟨[bv false], _, rfl, rfl, ⟨[iv 0], _, rfl, rfl, ⟨[iv 0], _, rfl, rfl, rfl⟩⟩⟩⟩ G.2.1 G.2.2) ?_ ?_
 rintro _ _ ⟨g, rfl, E⟩
 obtain ⟨o, p, rfl, _⟩ := E.form
 refine iR ?_
 exact dG tl726 ⟨ads, e, k, f, m, n, g, o, p, rfl, rfl, O, D, E, F⟩ lr
 exact Rn
 exact Rn
 refine Rd2 lr rfl rfl (q2D rI (OT.fr (RT.key ads)) false false [_] (j ++ R) rfl) ?_ ?_
 rintro _ _ ⟨k, e, rfl, rfl, O⟩
 have F : OAr 85 z8 ads a5.w [] [] := OAr.nil Z1
 refine iR<|Da [1, 6, 10] (by kernel_rfl) rfl<|Rg lr rfl rfl _ q6J rfl (q2W _ _ Y A2 c3 A5 c6 A8 c9 an ao aq ar (h4.le d) (h7.le d) (aD.le d) (aE.le d) (aF.le d) ad ae af ag ah am) ?_ ?_
 rintro _ av _ c ⟨q, s, t, u, x, y, z, A, B, C, rfl, rfl, S, T, U, V, W⟩
 refine iR<|Da [6, 10] (by kernel_rfl) rfl<|Rd2 c rfl rfl (K2 (r := j9) [_] (e ++ (j ++ ([] ++ R))) [iv 0, bv false, iv 0, iv 0, bv false] (⟨0, false, 0, 0, false⟩ : q8) Z rfl G.1 rfl rfl q3O q7k rfl rfl rfl (by decide) ⟨[iv 0], _, rfl, rfl, ⟨[bv false], _, rfl, rfl, ⟨[iv 0], _, rfl, rfl, ⟨[iv 0], _, rfl, rfl, rfl⟩⟩⟩⟩ G.2.1 G.2.2) ?_ ?_
 rintro _ _ ⟨g, rfl, E⟩
 obtain ⟨o, p, rfl, _⟩ := E.form
 refine iR ?_
 exact dG tl708 ⟨ads, e, k, g, o, p, q, s, t, u, x, y, z, A, B, C, rfl, rfl, (O.le c), E, (F.le c), S, T, U, V, W⟩ c
 refine Rd2 c rfl rfl (K2 (r := v8) [_] (e ++ (j ++ ([] ++ R))) [iv 0, bv false, bv false] (⟨0, false, false⟩ : z6) aa rfl H.1 rfl rfl q7P q4a rfl rfl rfl (by decide) ⟨[iv 0], _, rfl, rfl, ⟨[bv false], _, rfl, rfl, rfl⟩⟩ H.2.1 H.2.2) ?_ ?_
 rintro _ _ ⟨f, rfl, D⟩
 obtain ⟨m, n, rfl, _⟩ := D.form
 refine iR ?_
 exact dG tl719 ⟨ads, e, k, f, m, n, q, s, t, u, x, y, z, A, B, C, rfl, rfl, (O.le c), D, (F.le c), S, T, U, V, W⟩ c
 exact Rn
 refine Rd2 lr rfl rfl (K2 (r := j9) [_] (e ++ (j ++ ([] ++ R))) [iv 0, bv false, iv 0, iv 0, bv false] (⟨0, false, 0, 0, false⟩ : q8) Z rfl G.1 rfl rfl q3O q7k rfl rfl rfl (by decide) ⟨[iv 0], _, rfl, rfl, ⟨[bv false], _, rfl, rfl, ⟨[iv 0], _, rfl, rfl, ⟨[iv 0], _, rfl, rfl, rfl⟩⟩⟩⟩ G.2.1 G.2.2) ?_ ?_
 rintro _ _ ⟨g, rfl, E⟩
 obtain ⟨o, p, rfl, _⟩ := E.form
 refine iR<|Da [1, 10] (by kernel_rfl) rfl<|Rg lr rfl rfl _ q6J rfl (q2W _ _ Y A2 c3 A5 c6 A8 c9 an ao aq ar (h4.le d) (h7.le d) (aD.le d) (aE.le d) (aF.le d) ad ae af ag ah am) ?_ ?_
 rintro _ av _ c ⟨q, s, t, u, x, y, z, A, B, C, rfl, rfl, S, T, U, V, W⟩
 refine iR ?_
 exact dG tl708 ⟨ads, e, k, g, o, p, q, s, t, u, x, y, z, A, B, C, rfl, rfl, (O.le c), (E.le c), (F.le c), S, T, U, V, W⟩ c
 refine Rd2 lr rfl rfl (K2 (r := v8) [_] (g ++ (e ++ (j ++ ([] ++ R)))) [iv 0, bv false, bv false] (⟨0, false, false⟩ : z6) aa rfl H.1 rfl rfl q7P q4a rfl rfl rfl (by decide) ⟨[iv 0], _, rfl, rfl, ⟨[bv false], _, rfl, rfl, rfl⟩⟩ H.2.1 H.2.2) ?_ ?_
 rintro _ _ ⟨f, rfl, D⟩
 obtain ⟨m, n, rfl, _⟩ := D.form
 refine iR ?_
 exact dG tl726 ⟨ads, e, k, f, m, n, g, o, p, rfl, rfl, O, D, E, F⟩ lr
 exact Rn
 refine Rd2 lr rfl rfl (K2 (r := v8) [_] (e ++ (j ++ ([] ++ R))) [iv 0, bv false, bv false] (⟨0, false, false⟩ : z6) aa rfl H.1 rfl rfl q7P q4a rfl rfl rfl (by decide) ⟨[iv 0], _, rfl, rfl, ⟨[bv false], _, rfl, rfl, rfl⟩⟩ H.2.1 H.2.2) ?_ ?_
 rintro _ _ ⟨f, rfl, D⟩
 obtain ⟨m, n, rfl, _⟩ := D.form
 refine iR<|Da [1, 6] (by kernel_rfl) rfl<|Rg lr rfl rfl _ q6J rfl (q2W _ _ Y A2 c3 A5 c6 A8 c9 an ao aq ar (h4.le d) (h7.le d) (aD.le d) (aE.le d) (aF.le d) ad ae af ag ah am) ?_ ?_
 rintro _ av _ c ⟨q, s, t, u, x, y, z, A, B, C, rfl, rfl, S, T, U, V, W⟩
 refine iR ?_
 exact dG tl719 ⟨ads, e, k, f, m, n, q, s, t, u, x, y, z, A, B, C, rfl, rfl, (O.le c), (D.le c), (F.le c), S, T, U, V, W⟩ c
 refine Rd2 lr rfl rfl (K2 (r := j9) [_] (f ++ (e ++ (j ++ ([] ++ R)))) [iv 0, bv false, iv 0, iv 0, bv false] (⟨0, false, 0, 0, false⟩ : q8) Z rfl G.1 rfl rfl q3O q7k rfl rfl rfl (by decide) ⟨[iv 0], _, rfl, rfl, ⟨[bv false], _, rfl, rfl, ⟨[iv 0], _, rfl, rfl, ⟨[iv 0], _, rfl, rfl, rfl⟩⟩⟩⟩ G.2.1 G.2.2) ?_ ?_
 rintro _ _ ⟨g, rfl, E⟩
 obtain ⟨o, p, rfl, _⟩ := E.form
 refine iR ?_
 exact dG tl726 ⟨ads, e, k, f, m, n, g, o, p, rfl, rfl, O, D, E, F⟩ lr
 exact Rn
 exact Rn
 exact Rn
 rintro aA _ _ ⟨ads, aJ, aN, aO, aP, aQ, aR, aT, aU, aV, aW, aX, bl, bm, aw, aY, aZ, I, a0, J, K, rfl, rfl, ay, dy, dz, dA, dB, dC, cj, dD, dE, dF⟩
 have hm := j6w cm
 refine Cs<|Cr<|mV rfl<|tS (sN rfl)<|tS (sF rfl V1)<|tS (sL 1 rfl q1p rfl rfl)<|tS (sE rfl q3O)<|mV rfl<|Te<|Cb ?_
 have dV : be.length ≤ 9223372036854775807 := (OS.len cj)
 refine Cp 1 rfl<|Cp 1 rfl<|q2B j aw I J K<|q2B K j aw I J<|q2B J K j aw I<|q2B I J K j aw<|q2B aw I J K j ?_
 obtain ⟨a1, cn, co⟩ := bS hm
 refine lS (fun bH => fun a1 => fun bg e' hp' => ∃ aK aL ab, [(1, pb au), (5, sv ak ac al), (7, pb aJ), (43, iv ((be.length : Int))), (44, iv ((bH : Int)))] = e' ∧ (au, Cl 28 [sv A2 Y.Stations c3, sv A5 Y.Sections c6, sv A8 Y.Links c9, sv an Y.Signals ao, sv aq Y.Gates ar]) :: (aJ, Cl 57 [sv aN a9 aO, sv aP ba aQ, sv aR bb aT, sv aU bc aV, sv aW bd aX, sv ak ac al, sn, sv aK a1 aL, sv aY a6 aZ, .map (some a0)]) :: (j ++ (ab ++ (I ++ (J ++ (K ++ R))))) = hp' ∧ aA.Le bg ∧ OS 59 (OT.fr j9) bg.w (sv aK a1 aL) a1 ab) cn ⟨bl, bm, aw, rfl, rfl, lr, cj⟩ ?_ ?_
 rintro bH a1 bg _ _ dW dH ⟨aK, aL, ab, rfl, rfl, X, bq⟩ a2
 unfold q4h at a2
 have hm := a2
 refine Cr<|tS (lT rfl rfl (by omega))<|Te<|Cs<|k9 rfl<|Ck<|Xn<|Cs<|Cb<|Cr<|mV rfl<|aS rfl<|Te<|Cg<|mV rfl<|tS (sN rfl)<|tS (sF rfl V1)<|tS (sL 1 rfl q1p rfl rfl)<|mV rfl ?_
 obtain ⟨aB, dI, hm⟩ := bS hm
 obtain ⟨dJ, bI, bJ⟩ := iS dI
 obtain ⟨dX, dY, d7, d8, dZ, cp, dT, bK, bU, d0, dU⟩ := OS.get (sz := 5) rfl (by decide) bq bJ
 obtain ⟨⟨_, _, rfl, rfl, ⟨_, _, rfl, rfl, ⟨_, _, rfl, rfl, ⟨_, _, rfl, rfl, rfl⟩⟩⟩⟩, rfl⟩ := cp
 refine tS (sI dJ rfl rfl bI bU bK q3O)<|tS (sQ rfl bK q4C)<|z1G j ab<|tD (uP bI (sz := 5) (a' := (⟨aB.axles, aB.disturbed, 1, aB.moving, aB.failed⟩ : q8)) rfl [_, _] (j ++ (I ++ (J ++ (K ++ R)))) 2 1 [iv 1] rfl bq bJ rfl rfl rfl z1I rfl (mc rfl mn) (fun cs hsj hh => by obtain ⟨⟨_, _, rfl, rfl, ⟨_, _, rfl, rfl, ⟨_, _, rfl, rfl, ⟨_, _, rfl, rfl, rfl⟩⟩⟩⟩, rfl⟩ := hh; exact ⟨by first | decide | exact Nat.le_refl _, ⟨[iv aB.axles], _, rfl, rfl, ⟨[bv aB.disturbed], _, rfl, rfl, ⟨[iv 1], _, rfl, rfl, ⟨[iv aB.moving], _, rfl, rfl, rfl⟩⟩⟩⟩, rfl⟩)) ?_
 rintro _ _ ⟨cq, rfl, dK⟩
 refine Z9 1 rfl (o' := Cl 57 [sv aN a9 aO, sv aP ba aQ, sv aR bb aT, sv aU bc aV, sv aW bd aX, sv ak ac al, sn, .slice aK (put a1 (bH : Int) (⟨aB.axles, aB.disturbed, 1, aB.moving, aB.failed⟩ : q8)).length aL, sv aY a6 aZ, .map (some a0)]) (by simp only [sv, v7])<|Tn<|Xm<|Xn<|Cg<|tS (sa rfl rfl (by omega))<|mV rfl<|Tn ?_
 obtain rfl := o1 hm
 exact jS ⟨aK, aL, cq, rfl, rfl, (X), dK⟩
 rintro bg _ _ ⟨aK, aL, ab, rfl, rfl, X, bq⟩
 have hm := co
 refine Cr<|tS (lF rfl rfl (by omega))<|Te<|Cs<|k7 rfl<|Ce<|Xe<|Xe<|Xo<|Xn<|Cs<|Cr<|mV rfl<|tS (sE rfl j2U)<|mV rfl<|Te<|Cb ?_
 have d1 : ac.length ≤ 9223372036854775807 := (OS.len ci)
 refine Cp 1 rfl<|Cp 1 rfl<|q2B j ab I J K<|q2B K j ab I J<|q2B J K j ab I<|q2B I J K j ab<|q2B ab I J K j ?_
 obtain ⟨a3, cr, ct⟩ := bS hm
 refine lS (fun bL => fun a3 => fun br e' hp' => ∃ bh bi az, [(1, pb au), (7, pb aJ), (56, iv ((ac.length : Int))), (57, iv ((bL : Int)))] = e' ∧ (au, Cl 28 [sv A2 Y.Stations c3, sv A5 Y.Sections c6, sv A8 Y.Links c9, sv an Y.Signals ao, sv aq Y.Gates ar]) :: (aJ, Cl 57 [sv aN a9 aO, sv aP ba aQ, sv aR bb aT, sv aU bc aV, sv aW bd aX, sv ak ac al, sv bh a3 bi, sv aK a1 aL, sv aY a6 aZ, .map (some a0)]) :: (j ++ (az ++ (ab ++ (I ++ (J ++ (K ++ R)))))) = hp' ∧ bg.Le br ∧ OS 60 (OT.fr (RT.list j8)) br.w (sv bh a3 bi) a3 az) cr ⟨none, 0, [], rfl, rfl, lr, OS.nil⟩ ?_ ?_
 rintro bL a3 br _ _ d5 dL ⟨bh, bi, az, rfl, rfl, L, bM⟩ a4
 unfold q4g at a4
 have hm := a4
 refine Cr<|tS (lT rfl rfl (by omega))<|Te<|Cs<|k9 rfl<|Ck<|Xn<|Cs<|Cb<|Cr<|mV rfl<|aS rfl<|Te<|Cr<|tS (sD (vs := [_, _, _, _, _]) 0 5 rfl q0o rfl rfl rfl)<|mV rfl ?_
 obtain ⟨⟨dM, a7⟩, bV, hm⟩ := bS hm
 have hm := J4 hm
 have zy := d.trans (ay.trans (X.trans L))
 refine Tg _ rfl j5Y rfl (z7P _ _ Y (bL : Int) A2 c3 A5 c6 A8 c9 an ao aq ar (h4.le zy) (h7.le zy) (aD.le zy) (aE.le zy) (aF.le zy) dM a7 bV) ?_
 rintro _ d9 _ bs ⟨bN, bO, bP, rfl, rfl, dN, ea⟩
 refine q5k [] [_, _] bP (j ++ (az ++ (ab ++ (I ++ (J ++ (K ++ R)))))) rfl<|mV rfl<|tS (j5 rfl rfl)<|tS (j5 rfl rfl)<|aS rfl<|aS rfl<|Te<|Cg<|mV rfl<|mV rfl ?_
 refine tS (sN rfl)<|tS (sF rfl z3q)<|tS (sL 1 rfl j3f rfl rfl)<|mV rfl<|tD (V7 (el := 60) [(0, sv bN a7 bO)] [sv bN a7 bO] rfl (fun _ => by kernel_rfl)) ?_
 rintro _ _ ⟨eb, rfl, rfl⟩
 refine j0v [_, _, _] bP (j ++ (az ++ (ab ++ (I ++ (J ++ (K ++ R)))))) rfl ?_
 intro ec a8 cu
 have dO := OS.frz (l := a7) dN a8.cells cu
 obtain ⟨_, bQ, hm⟩ := bS hm
 have bQ := V6 bQ
 refine j4q j az<|tD (uQ (r := (RT.list j8)) (l := a3) [_, _, _] (j ++ (ab ++ (I ++ (J ++ (K ++ R))))) [[sv bN a7 bO]] [a7] rfl (by decide) j7p j7a rfl rfl rfl rfl (bM.le (bs.trans a8)) rfl (fun w ho => Rd.own (i := 0) ho rfl) ⟨(RT.list_mk dO), trivial⟩ bQ) ?_
 rintro _ _ ⟨cv, rfl, ck⟩
 obtain ⟨dP, dQ, rfl, _⟩ := ck.form
 refine tS (sN rfl)<|tS (sF rfl z3q)<|tD (uS 2 rfl rfl j6K rfl rfl (by simp)) ?_
 rintro _ _ rfl
 refine Tn<|Xm<|Xn<|Cg<|tS (sa rfl rfl (by omega))<|mV rfl<|Tn ?_
 obtain rfl := o1 hm
 exact jS ⟨dP, dQ, cv, rfl, rfl, ((L.trans (bs.trans a8))), ck⟩
 rintro br _ _ ⟨bh, bi, az, rfl, rfl, L, bM⟩
 have hm := ct
 refine Cr<|tS (lF rfl rfl (by omega))<|Te<|Cs<|k7 rfl<|Ce<|Xe<|Xe<|Xo<|Xn<|Cr<|mV rfl<|aS rfl<|aS rfl<|Te<|Ct<|z1F [_, _] j (az ++ (ab ++ (I ++ (J ++ (K ++ R))))) rfl ?_
 intro ed ai cw
 have dR := OS.frz (l := ac) (ci.le (ay.trans (X.trans L))) ai.cells cw
 refine z1F [_, _] az (ab ++ (I ++ (J ++ (K ++ R)))) rfl ?_
 intro ee aj cx
 have dS := OS.frz (l := a3) (bM.le ai) aj.cells cx
 obtain ⟨rfl, rfl, rfl, rfl, rfl, rfl, rfl, rfl, rfl, rfl, rfl⟩ := j4B hm
 have zx := X.trans (L.trans (ai.trans aj))
 have cy := dy.le zx
 have cz := dz.le zx
 have cA := dA.le zx
 have cC := dB.le zx
 have cD := dC.le zx
 have cE := dR.le aj
 have cG := (bq.le (L.trans (ai.trans aj)))
 have cH := dD.le zx
 have cJ := dE.le zx
 have cK := dF.le zx
 exact rT ⟨ads, aJ, aN, aO, aP, aQ, aR, aT, aU, aV, aW, aX, ak, al, bh, bi, aK, aL, ab, aY, aZ, I, a0, J, K, rfl, rfl, cy, cz, cA, cC, cD, cE, dS, cG, cH, cJ, cK⟩ (d.trans (ay.trans zx))
theorem z1a (A : Option Addr) (n c : Nat) (xs : List Value) (w : World) (hR : Rd w A xs) (hl : xs.length = n * 1) (hn : n * 1 ≤ 140737488355328 ∧ n ≤ 9223372036854775807) :
    q5i Tryz.prog 38 [.slice A n c] w [] (fun v hp' => q9x 4 1 v n xs hp') := by
  refine q4Z 8 Tryz.func38 rfl Tryz.ntmps38 rfl ?_
  refine q5Y ?_
  refine q9L rfl rfl ?_
  refine q4t ?_
  refine q2V ?_
  refine q5Y ?_
  refine z4a rfl rfl ?_
  refine q4S rfl (q4U rfl rfl q8S) (fun hc1 => ?_) (fun hc1 => ?_)
  ·
    refine q4t ?_
    refine k9 rfl ?_
    refine q5Y ?_
    refine q9L rfl rfl ?_
    refine q4t ?_
    refine q3M ?_
    refine V5 ?_
    subst hc1
    obtain rfl := hR.none_nil
    obtain rfl : n = 0 := by simp at hl; omega
    refine q3Y (hp' := []) (by repeat (first | exact List.Sublist.refl _ | exact List.nil_sublist _ | exact Kb _ _ | exact Kc _ _ | exact (Kc _ _).trans (Kc _ _) | apply List.Sublist.cons_cons | apply List.Sublist.cons)) ?_
    exact z5d (k8.Le.refl _) rfl rfl (q9x.nil)
  ·
    refine q4t ?_
    refine k7 rfl ?_
    refine q3d ?_
    refine Q4 ?_
    refine q5Y ?_
    refine z1C rfl (V7 (el := 4) [] [] rfl (fun _ => by kernel_rfl)) ?_
    rintro _ _ ⟨g0, rfl, rfl⟩
    refine z4a rfl rfl ?_
    refine z1C rfl (q9z xs q8S j4V rfl (by decide) rfl rfl hl (fun w ho => hR.old ho) hn.2 hn.1) ?_
    rintro _ _ ⟨hs, rfl, hseg⟩
    refine q9L rfl rfl ?_
    refine q4t ?_
    refine q3M ?_
    refine q3Y (hp' := hs) (by repeat (first | exact List.Sublist.refl _ | exact List.nil_sublist _ | exact Kb _ _ | exact Kc _ _ | exact (Kc _ _).trans (Kc _ _) | apply List.Sublist.cons_cons | apply List.Sublist.cons)) ?_
    exact z5d (k8.Le.refl _) rfl rfl hseg
theorem q7q (b : k8) (R : Hp) (d e f) (i : FZ RT.bool b.w e f d) (a) (hm : q2c d = some a):
 w8 Tryz.prog 38 [sv e d f] b (R) (fun v b' hp' => ∃ g h c, sv g a h = v ∧ (c ++ R) = hp' ∧ OS 4 (OT.fr RT.bool) b'.w (sv g a h) a c) := by
 unfold q2c at hm
 obtain ⟨_, hroom, hm⟩ := bS hm
 have hroom := V6 hroom
 obtain rfl := o1 hm
 exact q5d (r := RT.bool) (sz := 1) (by_ := 1) rfl (by decide) z1a i hroom
end Go.Proofs.YtdbehipjelcmbaaGreatDoor
