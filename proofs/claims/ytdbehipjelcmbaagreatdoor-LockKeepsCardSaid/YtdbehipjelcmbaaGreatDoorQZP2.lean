import Derived.Test.YtdbehipjelcmbaaGreatDoorQZP1
set_option linter.unusedVariables false
set_option linter.unusedSimpArgs false
set_option linter.unusedSectionVars false
namespace Go.Proofs.YtdbehipjelcmbaaGreatDoor
open Go.RowKit Go.Fp
set_option maxRecDepth 20000
set_option maxHeartbeats 4000000
open Go.Fp renaming q4H → Te, q6u → Tn, q5r → Tb, q6F → Tg, q8X → Tv, q6s → Cr, q2J → Cs, q0k → Cg, q6P → Cb, q3X → Ct, q3q → Ck, z1A → Ce, z3y → Cj, z2z → Cp, j5 → Xn, J3 → Xr, q1M → Xe, q1N → Xb, q0w → Xm, q2A → Xo, q7O → Xi, j0n → Es, z6J → E0, z8N → Ey, j4C → Yz, j2t → Ei, j5z → El, z4S → Eo, z8O → Da, z1G → Dd, z0w → Di, j4L → Rd2, z8L → Rn, q9m → Rg, q9z → sL, q6l → sD, q6Y → sF, z1k → sN, z1m → sE, q3h → sM, q1z → sA, q5C → pT, q5D → pF, q0O → sI, q1O → sO, q2U → sP, q1V → sQ, z1n → sa, z5c → sb, q6j → lT, q6k → lF, z1T → eT, z1U → eF, q5E → sn2, q9b → sB, z2Q → uB, q7Q → uA, z1L → uS, q4V → uN, q6h → uW, q9q → uP, q9s → uQ, q3Q → fE, q8S → bS, z2S → o1, q5c → iS, q6i → ss, z1Q → sp, q7t → kS, q7r → d3, z7A → mc, z7z → mn, q9C → q1, q8t → q2, z1l → q3, q9A → q5, q9B → q6
theorem z0b (A : Option Addr) (n c : Nat) (xs : List Value) (w : World) (hR : Rd w A xs) (hl : xs.length = n * 4) (hn : n * 32 ≤ 140737488355328 ∧ n ≤ 9223372036854775807) :
    CallsH Tryz.prog 55 [.slice A n c] w [] (fun v hp' => Seg0 106 4 v n xs hp') := by
  refine q5e 8 Tryz.func55 rfl Tryz.ntmps55 rfl ?_
  refine q6s ?_
  refine z0x rfl rfl ?_
  refine q4H ?_
  refine q2J ?_
  refine q6s ?_
  refine z3Z rfl rfl ?_
  refine q5r rfl (q4X rfl rfl z8R) (fun hc1 => ?_) (fun hc1 => ?_)
  ·
    refine q4H ?_
    refine j1 rfl ?_
    refine q6s ?_
    refine z0x rfl rfl ?_
    refine q4H ?_
    refine q3X ?_
    refine J3 ?_
    subst hc1
    obtain rfl := hR.none_nil
    obtain rfl : n = 0 := by simp at hl; omega
    refine q4h (hp' := []) (by repeat (first | exact List.Sublist.refl _ | exact List.nil_sublist _ | exact List.sublist_append_left _ _ | exact List.sublist_append_right _ _ | exact (List.sublist_append_right _ _).trans (List.sublist_append_right _ _) | apply List.Sublist.cons_cons | apply List.Sublist.cons)) ?_
    exact z5g (Base.Le.refl _) rfl rfl (Seg0.nil)
  ·
    refine q4H ?_
    refine j0 rfl ?_
    refine q3q ?_
    refine j5 ?_
    refine q6s ?_
    refine z1j rfl (Z3 (el := 106) [] [] rfl (fun _ => by kernel_rfl)) ?_
    rintro _ _ ⟨g0, rfl, rfl⟩
    refine z3Z rfl rfl ?_
    refine z1j rfl (q9t xs z8R j3l rfl (by decide) rfl rfl hl (fun w ho => hR.old ho) hn.2 hn.1) ?_
    rintro _ _ ⟨hs, rfl, hseg⟩
    refine z0x rfl rfl ?_
    refine q4H ?_
    refine q3X ?_
    refine q4h (hp' := hs) (by repeat (first | exact List.Sublist.refl _ | exact List.nil_sublist _ | exact List.sublist_append_left _ _ | exact List.sublist_append_right _ _ | exact (List.sublist_append_right _ _).trans (List.sublist_append_right _ _) | apply List.Sublist.cons_cons | apply List.Sublist.cons)) ?_
    exact z5g (Base.Le.refl _) rfl rfl hseg
theorem z0T (b : Base) (R : Hp) (d e f) (i : FZ rApiLink b.w e f d) (a) (hm : q2P d = some a):
 CallsG Tryz.prog 55 [sv e d f] b (R) (fun v b' hp' => ∃ g h c, sv g a h = v ∧ (c ++ R) = hp' ∧ OS 106 (OT.fr rApiLink) b'.w (sv g a h) a c) := by
 unfold q2P at hm
 obtain ⟨_, hroom, hm⟩ := bS hm
 have hroom := Q9 hroom
 obtain rfl := o1 hm
 exact q5k (r := rApiLink) (sz := 4) (by_ := 32) rfl (by decide) z0b i hroom
theorem z0a (A : Option Addr) (n c : Nat) (xs : List Value) (w : World) (hR : Rd w A xs) (hl : xs.length = n * 2) (hn : n * 16 ≤ 140737488355328 ∧ n ≤ 9223372036854775807) :
    CallsH Tryz.prog 56 [.slice A n c] w [] (fun v hp' => Seg0 109 2 v n xs hp') := by
  refine q5e 8 Tryz.func56 rfl Tryz.ntmps56 rfl ?_
  refine q6s ?_
  refine z0x rfl rfl ?_
  refine q4H ?_
  refine q2J ?_
  refine q6s ?_
  refine z3Z rfl rfl ?_
  refine q5r rfl (q4X rfl rfl z2T) (fun hc1 => ?_) (fun hc1 => ?_)
  ·
    refine q4H ?_
    refine j1 rfl ?_
    refine q6s ?_
    refine z0x rfl rfl ?_
    refine q4H ?_
    refine q3X ?_
    refine J3 ?_
    subst hc1
    obtain rfl := hR.none_nil
    obtain rfl : n = 0 := by simp at hl; omega
    refine q4h (hp' := []) (by repeat (first | exact List.Sublist.refl _ | exact List.nil_sublist _ | exact List.sublist_append_left _ _ | exact List.sublist_append_right _ _ | exact (List.sublist_append_right _ _).trans (List.sublist_append_right _ _) | apply List.Sublist.cons_cons | apply List.Sublist.cons)) ?_
    exact z5g (Base.Le.refl _) rfl rfl (Seg0.nil)
  ·
    refine q4H ?_
    refine j0 rfl ?_
    refine q3q ?_
    refine j5 ?_
    refine q6s ?_
    refine z1j rfl (Z3 (el := 109) [] [] rfl (fun _ => by kernel_rfl)) ?_
    rintro _ _ ⟨g0, rfl, rfl⟩
    refine z3Z rfl rfl ?_
    refine z1j rfl (q9t xs z2T j3k rfl (by decide) rfl rfl hl (fun w ho => hR.old ho) hn.2 hn.1) ?_
    rintro _ _ ⟨hs, rfl, hseg⟩
    refine z0x rfl rfl ?_
    refine q4H ?_
    refine q3X ?_
    refine q4h (hp' := hs) (by repeat (first | exact List.Sublist.refl _ | exact List.nil_sublist _ | exact List.sublist_append_left _ _ | exact List.sublist_append_right _ _ | exact (List.sublist_append_right _ _).trans (List.sublist_append_right _ _) | apply List.Sublist.cons_cons | apply List.Sublist.cons)) ?_
    exact z5g (Base.Le.refl _) rfl rfl hseg
theorem z0S (b : Base) (R : Hp) (d e f) (i : FZ rApiSignal b.w e f d) (a) (hm : q2O d = some a):
 CallsG Tryz.prog 56 [sv e d f] b (R) (fun v b' hp' => ∃ g h c, sv g a h = v ∧ (c ++ R) = hp' ∧ OS 109 (OT.fr rApiSignal) b'.w (sv g a h) a c) := by
 unfold q2O at hm
 obtain ⟨_, hroom, hm⟩ := bS hm
 have hroom := Q9 hroom
 obtain rfl := o1 hm
 exact q5k (r := rApiSignal) (sz := 2) (by_ := 16) rfl (by decide) z0a i hroom
theorem q9Z (A : Option Addr) (n c : Nat) (xs : List Value) (w : World) (hR : Rd w A xs) (hl : xs.length = n * 2) (hn : n * 16 ≤ 140737488355328 ∧ n ≤ 9223372036854775807) :
    CallsH Tryz.prog 57 [.slice A n c] w [] (fun v hp' => Seg0 112 2 v n xs hp') := by
  refine q5e 8 Tryz.func57 rfl Tryz.ntmps57 rfl ?_
  refine q6s ?_
  refine z0x rfl rfl ?_
  refine q4H ?_
  refine q2J ?_
  refine q6s ?_
  refine z3Z rfl rfl ?_
  refine q5r rfl (q4X rfl rfl z5d) (fun hc1 => ?_) (fun hc1 => ?_)
  ·
    refine q4H ?_
    refine j1 rfl ?_
    refine q6s ?_
    refine z0x rfl rfl ?_
    refine q4H ?_
    refine q3X ?_
    refine J3 ?_
    subst hc1
    obtain rfl := hR.none_nil
    obtain rfl : n = 0 := by simp at hl; omega
    refine q4h (hp' := []) (by repeat (first | exact List.Sublist.refl _ | exact List.nil_sublist _ | exact List.sublist_append_left _ _ | exact List.sublist_append_right _ _ | exact (List.sublist_append_right _ _).trans (List.sublist_append_right _ _) | apply List.Sublist.cons_cons | apply List.Sublist.cons)) ?_
    exact z5g (Base.Le.refl _) rfl rfl (Seg0.nil)
  ·
    refine q4H ?_
    refine j0 rfl ?_
    refine q3q ?_
    refine j5 ?_
    refine q6s ?_
    refine z1j rfl (Z3 (el := 112) [] [] rfl (fun _ => by kernel_rfl)) ?_
    rintro _ _ ⟨g0, rfl, rfl⟩
    refine z3Z rfl rfl ?_
    refine z1j rfl (q9t xs z5d j3j rfl (by decide) rfl rfl hl (fun w ho => hR.old ho) hn.2 hn.1) ?_
    rintro _ _ ⟨hs, rfl, hseg⟩
    refine z0x rfl rfl ?_
    refine q4H ?_
    refine q3X ?_
    refine q4h (hp' := hs) (by repeat (first | exact List.Sublist.refl _ | exact List.nil_sublist _ | exact List.sublist_append_left _ _ | exact List.sublist_append_right _ _ | exact (List.sublist_append_right _ _).trans (List.sublist_append_right _ _) | apply List.Sublist.cons_cons | apply List.Sublist.cons)) ?_
    exact z5g (Base.Le.refl _) rfl rfl hseg
theorem z0R (b : Base) (R : Hp) (d e f) (i : FZ rApiGate b.w e f d) (a) (hm : q2N d = some a):
 CallsG Tryz.prog 57 [sv e d f] b (R) (fun v b' hp' => ∃ g h c, sv g a h = v ∧ (c ++ R) = hp' ∧ OS 112 (OT.fr rApiGate) b'.w (sv g a h) a c) := by
 unfold q2N at hm
 obtain ⟨_, hroom, hm⟩ := bS hm
 have hroom := Q9 hroom
 obtain rfl := o1 hm
 exact q5k (r := rApiGate) (sz := 2) (by_ := 16) rfl (by decide) q9Z i hroom
theorem q2t (b : Base) (R : Hp) (O : ApiNet) (A2 c3 A5 c6 A8 c9 aI aJ aK aL) (h4 : FZ RT.str b.w A2 c3 O.Stations) (h7 : FZ rApiSection b.w A5 c6 O.Sections) (bd : FZ rApiLink b.w A8 c9 O.Links) (be : FZ rApiSignal b.w aI aJ O.Signals) (bf : FZ rApiGate b.w aK aL O.Gates) (T U V W X) (hm : q7f O = some (T, U, V, W, X)):
 CallsG Tryz.prog 16 [.agg #[sv A2 O.Stations c3, sv A5 O.Sections c6, sv A8 O.Links c9, sv aI O.Signals aJ, sv aK O.Gates aL]] b (R) (fun v b' hp' => ∃ ax ay az aA aB aC aD aE aF aG, .agg #[sv ax T ay, sv az U aA, sv aB V aC, sv aD W aE, sv aF X aG] = v ∧ R = hp' ∧ FZ RT.str b'.w ax ay T ∧ FZ rApiSection b'.w az aA U ∧ FZ rApiLink b'.w aB aC V ∧ FZ rApiSignal b'.w aD aE W ∧ FZ rApiGate b'.w aF aG X) := by
 refine fE 19 Tryz.func16 rfl Tryz.ntmps16 rfl ?_
 unfold q7f at hm
 refine Cr<|tD (uB _ rfl rfl) ?_
 rintro _ _ ⟨bg, rfl, rfl⟩
 refine tD (uA [sn, sn, sn, sn, sn] z4U rfl) ?_
 rintro _ _ ⟨aH, rfl, rfl⟩
 refine Te ?_
 obtain ⟨⟨x, y, z, A, B⟩, aM, aN⟩ := bS hm
 refine Cj (fun q e' hp' => ∃ C D t E F r G H o I J n K L g, [(2, pb aH)] = e' ∧ (aH, Cl 28 [sv C x D, sv E y F, sv G z H, sv I A J, sv K B L]) :: (t ++ (r ++ (o ++ (n ++ (g ++ R))))) = hp' ∧ b.Le q ∧ OS 9 (OT.fr RT.str) q.w (sv C x D) x t ∧ OS 99 (OT.fr rApiSection) q.w (sv E y F) y r ∧ OS 106 (OT.fr rApiLink) q.w (sv G z H) z o ∧ OS 109 (OT.fr rApiSignal) q.w (sv I A J) A n ∧ OS 112 (OT.fr rApiGate) q.w (sv K B L) B g) ?_ ?_
 have hm := aM
 obtain ⟨Y, ao, hm⟩ := bS hm
 obtain ⟨Z, aq, hm⟩ := bS hm
 obtain ⟨aa, ar, hm⟩ := bS hm
 obtain ⟨ab, au, hm⟩ := bS hm
 obtain ⟨ac, av, hm⟩ := bS hm
 refine Di Q5 (.refl _)<|E0 0 rfl (sF rfl q9R)<|Es 1 rfl (sL 1 rfl z6i rfl rfl)<|E0 3 rfl (sF rfl P7)<|Es 4 rfl (sL 1 rfl q4K rfl rfl)<|E0 6 rfl (sF rfl q8k)<|Es 7 rfl (sL 1 rfl z6h rfl rfl)<|E0 9 rfl (sF rfl q2F)<|Es 10 rfl (sL 1 rfl q7X rfl rfl)<|E0 12 rfl (sF rfl q5h)<|Es 13 rfl (sL 1 rfl z2e rfl rfl)<|Eo<|Da [2] (by kernel_rfl) rfl<|Rg lr rfl rfl _ j3P rfl (z0V _ _ O.Stations A2 c3 h4 Y ao) ?_ ?_
 rintro _ bh _ a ⟨ad, ae, p, rfl, rfl, aY⟩
 refine iR<|z0N [] [_, _] p R rfl<|Da [5] (by kernel_rfl) rfl<|Rg a rfl rfl _ j3O rfl (z0U _ _ O.Sections A5 c6 (h7.le a) Z aq) ?_ ?_
 rintro _ bi _ c ⟨af, ag, s, rfl, rfl, aZ⟩
 refine iR<|z0N [] [_, _] s (p ++ R) rfl<|Da [8] (by kernel_rfl) rfl<|Rg (a.trans c) rfl rfl _ j3N rfl (z0T _ _ O.Links A8 c9 (bd.le (a.trans c)) aa ar) ?_ ?_
 rintro _ bj _ d ⟨ah, ai, u, rfl, rfl, a0⟩
 refine iR<|z0N [] [_, _] u (s ++ (p ++ R)) rfl<|Da [11] (by kernel_rfl) rfl ?_
 have zz := a.trans (c.trans d)
 refine Rg zz rfl rfl _ j3M rfl (z0S _ _ O.Signals aI aJ (be.le zz) ab au) ?_ ?_
 rintro _ bk _ e ⟨aj, ak, S, rfl, rfl, a1⟩
 refine iR<|z0N [] [_, _] S (u ++ (s ++ (p ++ R))) rfl<|Da [14] (by kernel_rfl) rfl ?_
 have zy := a.trans (c.trans (d.trans e))
 refine Rg zy rfl rfl _ j3L rfl (z0R _ _ O.Gates aK aL (bf.le zy) ac av) ?_ ?_
 rintro _ bl _ f ⟨al, am, an, rfl, rfl, a2⟩
 refine iR<|z0N [] [_, _] an (S ++ (u ++ (s ++ (p ++ R)))) rfl<|Da [15] (by kernel_rfl) rfl ?_
 have zx := a.trans (c.trans (d.trans (e.trans f)))
 refine Rd2 zx rfl rfl (Stable.does (sB (v := .agg #[sv ad Y ae, sv af Z ag, sv ah aa ai, sv aj ab ak, sv al ac am]) [(0, sv ad Y ae), (1, sv af Z ag), (2, sv ah aa ai), (3, sv aj ab ak), (4, sv al ac am)] rfl (fun _ => by kernel_rfl))) ?_ ?_
 rintro _ _ ⟨rfl, rfl⟩
 refine iR<|Da [16] (by kernel_rfl) rfl<|Rd2 zx rfl rfl (uN (vs := [_, _, _, _, _]) 0 5 rfl rfl rfl z5X rfl (mc rfl (mc rfl (mc rfl (mc rfl (mc rfl mn))))) rfl (by simp)) ?_ ?_
 rintro _ _ rfl
 refine ⟨.inl (by kernel_rfl), ?_⟩
 refine Dd (by kernel_rfl) ?_
 obtain ⟨rfl, rfl, rfl, rfl, rfl⟩ := q4d hm
 have zw := d.trans (e.trans f)
 exact jJ ⟨ad, ae, p, af, ag, s, ah, ai, u, aj, ak, S, al, am, an, rfl, rfl, zx, (aY.le (c.trans zw)), (aZ.le zw), (a0.le (e.trans f)), (a1.le f), a2⟩
 exact Rn
 exact Rn
 exact Rn
 exact Rn
 exact Rn
 exact Rn
 exact Rn
 rintro q _ _ ⟨C, D, t, E, F, r, G, H, o, I, J, n, K, L, g, rfl, rfl, aw, a3, a4, a5, a6, a7⟩
 have hm := z6P aN
 refine Ct<|z0A [_] t (r ++ (o ++ (n ++ (g ++ R)))) rfl ?_
 intro bm h aO
 have a8 := OS.frz (l := x) a3 h.cells aO
 refine z0A [_] r (o ++ (n ++ (g ++ R))) rfl ?_
 intro bn i aP
 have a9 := OS.frz (l := y) (a4.le h) i.cells aP
 refine z0A [_] o (n ++ (g ++ R)) rfl ?_
 intro bo j aQ
 have ba := OS.frz (l := z) (a5.le (h.trans i)) j.cells aQ
 refine z0A [_] n (g ++ R) rfl ?_
 intro bp k aR
 have bb := OS.frz (l := A) (a6.le (h.trans (i.trans j))) k.cells aR
 refine z0A [_] g R rfl ?_
 intro bq m aT
 have bc := OS.frz (l := B) (a7.le (h.trans (i.trans (j.trans k)))) m.cells aT
 obtain ⟨rfl, rfl, rfl, rfl, rfl⟩ := q4d hm
 have zv := i.trans (j.trans (k.trans m))
 have aU := a8.le zv
 have aV := (a9.le (j.trans (k.trans m)))
 have aW := (ba.le (k.trans m))
 have aX := bb.le m
 exact rM (rs := [.cell 2 28]) (vs := [.agg #[sv C x D, sv E y F, sv G z H, sv I A J, sv K B L]]) ⟨⟨_, rfl, fun w ho => q4w (vs := [_, _, _, _, _]) 0 5 G9 rfl rfl rfl w ho⟩, trivial⟩ ⟨C, D, E, F, G, H, I, J, K, L, rfl, rfl, aU, aV, aW, aX, bc⟩ (.cons _ (.refl _)) (aw.trans (h.trans zv))
theorem z8y (b : Base) (R : Hp) (g : ApiNet) (f Y Z A5 c6 A8 c9 s t u x y z) (h4 : FZ RT.str b.w Y Z g.Stations) (h7 : FZ rApiSection b.w A5 c6 g.Sections) (aa : FZ rApiLink b.w A8 c9 g.Links) (ab : FZ rApiSignal b.w s t g.Signals) (ac : FZ rApiGate b.w u x g.Gates) (K : FZ rI b.w y z f) (L i) (hm : q5H g f = some (L, i)):
 CallsG Tryz.prog 58 [.agg #[sv Y g.Stations Z, sv A5 g.Sections c6, sv A8 g.Links c9, sv s g.Signals t, sv u g.Gates x], sv y f z] b (R) (fun v b' hp' => ∃ A O q, .tuple #[sv A i O, iv L] = v ∧ (q ++ R) = hp' ∧ OS 80 (OT.fr j3) b'.w (sv A i O) i q ∧ (A = none ↔ i = [])) := by
 refine fE 32 Tryz.func58 rfl Tryz.ntmps58 rfl ?_
 unfold q5H at hm
 refine Cr<|tD (uB _ rfl rfl) ?_
 rintro _ _ ⟨am, rfl, rfl⟩
 refine aS rfl<|aS rfl<|Te<|Cr<|tS (sD (vs := [_, _, _, _, _]) 0 5 rfl G9 rfl rfl rfl) ?_
 obtain ⟨⟨ad, B⟩, C, hm⟩ := bS hm
 have hm := Q3 hm
 refine Tg _ rfl j0g rfl (q5n _ _ g Y Z A5 c6 A8 c9 s t u x h4 h7 aa ab ac ad B C) ?_
 rintro _ ae _ c ⟨S, T, j, rfl, rfl, af, ag⟩
 refine q4c [] [_] j R rfl<|mV rfl<|tS (z5 rfl rfl)<|tS (z5 rfl rfl)<|aS rfl<|aS rfl<|Te<|Cs<|Cr<|mV rfl<|tS (q2 rfl rfl)<|Te<|cI hm rfl (fun hm => ?_) fun hm => ?_
 refine Cr<|mV rfl<|aS rfl<|aS rfl<|Te<|Ct<|Xr ?_
 obtain ⟨rfl, rfl⟩ := j9 hm
 exact rT ⟨none, 0, [], rfl, rfl, OS.nil, ⟨fun _ => rfl, fun _ => rfl⟩⟩ c
 refine Ck<|Xn<|Cs<|Cr<|mV rfl<|tS (sE rfl z4a)<|mV rfl<|Te<|Cb ?_
 have aj : f.length ≤ 9223372036854775807 := (FZ.bd (K.le c))
 obtain ⟨ak, D, e⟩ := bS hm
 refine lF (fun r => fun _ => fun k e' hp' => [(6, sv S B T), (18, sv y f z), (19, iv ((f.length : Int))), (20, iv ((r : Int)))] = e' ∧ (j ++ R) = hp' ∧ ae.Le k) D ⟨rfl, rfl, lr⟩ ?_ ?_
 rintro r _ k _ _ al X ⟨rfl, rfl, a⟩ d l
 unfold q4Z at d
 have hm := d
 refine Cr<|tS (lT rfl rfl (by omega))<|Te<|Cs<|j1 rfl<|Ck<|Xn<|Cs<|Cb<|Cr ?_
 obtain ⟨U, V, ah, E, ai, F, n, G, o, hm⟩ := bF (sz := 1) hm (K.le (c.trans a))
 obtain rfl := F
 refine tS (sI V rfl rfl E o G z4a)<|tS (sO rfl j4 (n 0 _ rfl))<|aS rfl<|Te<|Cr<|mV rfl<|mV rfl<|tS (sE rfl z6Y) ?_
 obtain ⟨_, m, hm⟩ := bS hm
 have m := (kS m).2
 refine tS (sb rfl rfl m) ?_
 obtain ⟨W, p, hm⟩ := bS hm
 refine tD (uW _ q5w rfl (fun w ho => W3 _ [] U 0 ((B.length : Int) - 1) W p) (fun _ _ _ h => h.2.symm)) ?_
 rintro _ _ ⟨⟨_, rfl, _⟩, rfl⟩
 refine tS (sn2 rfl)<|Te<|cM hm rfl (fun hm => ?_) fun hm => ?_
 refine Cr<|aS rfl<|aS rfl<|Te<|Ct<|Xb<|Xr<|Xr<|Xb<|Xr ?_
 have H := l _ (Option.some.inj hm).symm
 rw [H] at e
 have hm := k8 e
 obtain ⟨rfl, rfl⟩ := j9 hm
 exact rT ⟨none, 0, [], rfl, rfl, OS.nil, ⟨fun _ => rfl, fun _ => rfl⟩⟩ (c.trans a)
 refine Ck<|Xm<|Xn<|Cg<|tS (sa rfl rfl (by omega))<|mV rfl<|Tn ?_
 exact jM hm ⟨rfl, rfl, (a)⟩
 rintro _ k _ _ ⟨rfl, rfl, a⟩ I
 rw [I] at e
 have hm := J5 e
 refine Cr<|tS (lF rfl rfl (by omega))<|Te<|Cs<|j0 rfl<|Ce<|Xe<|Xe<|Xo<|Xn<|Cr<|mV rfl<|aS rfl<|aS rfl<|Te<|Ct ?_
 obtain ⟨rfl, rfl⟩ := j9 hm
 have J := af.le a
 exact rT ⟨S, T, j, rfl, rfl, J, ag⟩ (c.trans a)
theorem q8z (b : Base) (R : Hp) (t : ApiNet) (j : ApiRoute) (A2 c3 A5 c6 A8 c9 ad ae af ag U V) (h4 : FZ RT.str b.w A2 c3 t.Stations) (h7 : FZ rApiSection b.w A5 c6 t.Sections) (bH : FZ rApiLink b.w A8 c9 t.Links) (aQ : FZ rApiSignal b.w ad ae t.Signals) (bI : FZ rApiGate b.w af ag t.Gates) (bf : FZ w6 b.w U V j.Steps) (W) (hm : q3c t j = some W):
 CallsG Tryz.prog 96 [.agg #[sv A2 t.Stations c3, sv A5 t.Sections c6, sv A8 t.Links c9, sv ad t.Signals ae, sv af t.Gates ag], .agg #[iv j.From, iv j.To, sv U j.Steps V]] b (R) (fun v b' hp' => ∃ ay az ar, sv ay W az = v ∧ (ar ++ R) = hp' ∧ OS 125 (OT.fr w6) b'.w (sv ay W az) W ar) := by
 refine fE 83 Tryz.func96 rfl Tryz.ntmps96 rfl ?_
 unfold q3c at hm
 refine Cr<|tD (uB _ rfl rfl) ?_
 rintro _ _ ⟨m, rfl, rfl⟩
 refine tD (uB _ rfl rfl) ?_
 rintro _ _ ⟨n, rfl, rfl⟩
 refine aS rfl<|Te<|Cs<|Cr<|tS (sF rfl q5M)<|tS (sL 0 rfl j4 rfl rfl)<|tS (q3 rfl rfl)<|Te<|cI hm rfl (fun hm => ?_) fun hm => ?_
 refine Cr<|aS rfl<|Te<|Ct<|Xr ?_
 obtain rfl := o1 hm
 exact rO ⟨none, 0, [], rfl, rfl, OS.nil⟩ lr
 refine Ck<|Xn<|Cr<|aS rfl<|Te ?_
 obtain ⟨⟨bg, bh⟩, aR, aT⟩ := bS hm
 refine Cj (fun X e' hp' => ∃ k, [(2, pb m), (3, pb n), (5, sn), (6, pb k)] = e' ∧ (m, Cl 28 [sv A2 t.Stations c3, sv A5 t.Sections c6, sv A8 t.Links c9, sv ad t.Signals ae, sv af t.Gates ag]) :: (n, Cl 80 [iv j.From, iv j.To, sv U j.Steps V]) :: (k, Cl 120 [iv bg, iv bh]) :: R = hp' ∧ b.Le X) ?_ ?_
 have hm := aR
 obtain ⟨aA, bi, hm⟩ := bS hm
 obtain ⟨aB, bj, hm⟩ := bS hm
 refine Di Q5 (.refl _)<|E0 0 rfl (sF rfl q2F)<|Es 1 rfl (sL 1 rfl q7X rfl rfl)<|E0 2 rfl (sF rfl q5M)<|Es 3 rfl (sL 0 rfl j4 rfl rfl) ?_
 obtain ⟨bk, aU, aV⟩ := iS bi
 obtain ⟨bz, aW, aC, au, aD⟩ := FZ.get (sz := 2) rfl (by decide) aQ aV
 obtain ⟨_, _, rfl, rfl, rfl⟩ := aW
 refine E0 4 rfl (sI bk rfl rfl aU aD au z2T)<|E0 5 rfl (sQ rfl au q3z)<|Es 6 rfl (sO rfl j4 (aC 0 _ rfl))<|E0 7 rfl (sF rfl q2F)<|Es 8 rfl (sL 1 rfl q7X rfl rfl)<|E0 9 rfl (sF rfl q5M)<|Es 10 rfl (sL 0 rfl j4 rfl rfl) ?_
 obtain ⟨bl, aX, aY⟩ := iS bj
 obtain ⟨bA, aZ, aE, av, aF⟩ := FZ.get (sz := 2) rfl (by decide) aQ aY
 obtain ⟨_, _, rfl, rfl, rfl⟩ := aZ
 refine E0 11 rfl (sI bl rfl rfl aX aF av z2T)<|E0 12 rfl (sQ rfl av q7o)<|Es 13 rfl (sO rfl j4 (aE 1 _ rfl))<|E0 14 rfl (sB (v := .agg #[iv aA.Section, iv aB.End]) [(0, iv aA.Section), (1, iv aB.End)] rfl (fun _ => by kernel_rfl))<|Eo<|Da [15] (by kernel_rfl) rfl<|Rd2 lr rfl rfl (uA [iv 0, iv 0] q2z rfl) ?_ ?_
 rintro _ _ ⟨bm, rfl, rfl⟩
 refine iR<|Da [16] (by kernel_rfl) rfl<|Rd2 lr rfl rfl (uN (vs := [_, _]) 0 2 rfl rfl rfl q3n rfl (mc rfl (mc rfl mn)) rfl (by simp)) ?_ ?_
 rintro _ _ rfl
 refine ⟨.inl (by kernel_rfl), ?_⟩
 refine Dd (by kernel_rfl) ?_
 obtain ⟨rfl, rfl⟩ := j9 hm
 exact jJ ⟨bm, rfl, rfl, lr⟩
 exact Rn
 exact Rn
 rintro X _ _ ⟨k, rfl, rfl, c⟩
 have hm := Q3 aT
 obtain ⟨ai, a0, a1⟩ := bS hm
 refine Cj (fun aj e' hp' => ∃ Y Z H, [(5, sv Y ai Z)] = e' ∧ (H ++ R) = hp' ∧ X.Le aj ∧ OS 125 (OT.fr w6) aj.w (sv Y ai Z) ai H) ?_ ?_
 have hm := a0
 refine Cr<|aS rfl<|Te<|Cb<|lL (z4Y fun J C D g => fun aa e' hp' => ∃ p q f, [(2, pb m), (3, pb n), (5, sv p g q), (6, pb k), (7, iv J)] = e' ∧ (m, Cl 28 [sv A2 t.Stations c3, sv A5 t.Sections c6, sv A8 t.Links c9, sv ad t.Signals ae, sv af t.Gates ag]) :: (n, Cl 80 [iv j.From, iv j.To, sv U j.Steps V]) :: (k, Cl 120 [iv C, iv D]) :: (f ++ R) = hp' ∧ X.Le aa ∧ OS 125 (OT.fr w6) aa.w (sv p g q) g f) hm ⟨none, 0, [], rfl, rfl, lr, OS.nil⟩ ?_
 rintro ⟨J, C, D, g⟩ aa _ _ bB ⟨p, q, f, rfl, rfl, a, K⟩ F L
 unfold q0K at F
 have hm := z2P F
 refine Cs<|Cr<|mV rfl<|tS (q3 rfl rfl)<|Te<|cI hm rfl (fun hm => ?_) fun hm => ?_
 refine Ck<|Xn<|Cb<|Cr<|tS (sB (v := .agg #[iv 0, iv 0, iv 0]) [] rfl (fun _ => by kernel_rfl))<|tD (uA [iv 0, iv 0, iv 0] q3G rfl) ?_
 rintro _ _ ⟨E, rfl, rfl⟩
 refine tD (uA [.bool false] z8U rfl) ?_
 rintro _ _ ⟨ab, rfl, rfl⟩
 refine tD (uN (vs := [_, _, _]) 1 3 rfl rfl rfl q5t rfl (mc rfl (mc rfl (mc rfl mn))) rfl (by simp)) ?_
 rintro _ _ rfl
 refine tD (uS 0 rfl rfl z1o rfl rfl (by simp)) ?_
 rintro _ _ rfl
 refine Te ?_
 obtain ⟨⟨e, A, u, aG⟩, a2, a3⟩ := bS hm
 refine Cj (fun ak e' hp' => [(2, pb m), (3, pb n), (5, sv p g q), (6, pb k), (7, iv J), (8, pb E), (9, pb ab)] = e' ∧ (m, Cl 28 [sv A2 t.Stations c3, sv A5 t.Sections c6, sv A8 t.Links c9, sv ad t.Signals ae, sv af t.Gates ag]) :: (n, Cl 80 [iv j.From, iv j.To, sv U j.Steps V]) :: (k, Cl 120 [iv C, iv D]) :: (E, Cl 125 [iv e, iv A, iv u]) :: (ab, Cl 4 [bv aG]) :: (f ++ R) = hp' ∧ aa.Le ak) ?_ ?_
 have hm := a2
 refine Cr<|tS (sD (vs := [_, _, _, _, _]) 2 5 rfl G9 rfl rfl rfl)<|tS (sD (vs := [_, _]) 4 2 rfl q2y rfl rfl rfl) ?_
 obtain ⟨bn, aH, hm⟩ := bS hm
 have zz := c.trans a
 refine Tg _ rfl z8v rfl (z3J _ _ t (⟨C, D⟩ : LineEnd) A2 c3 A5 c6 A8 c9 ad ae af ag (h4.le zz) (h7.le zz) (bH.le zz) (aQ.le zz) (bI.le zz) bn aH) ?_
 rintro _ bo _ O ⟨bJ, rfl, rfl, bp⟩
 refine Te<|Cb ?_
 obtain ⟨bK, a4, I⟩ := bS hm
 refine Cp 1 rfl<|Cp 4 rfl<|Cp 4 rfl<|Cp 4 rfl ?_
 refine z5J (fun x : ApiStep => (.agg #[iv x.Section, iv x.In, iv x.Out] : Value)) (fun _ => fun al hp' => (m, Cl 28 [sv A2 t.Stations c3, sv A5 t.Sections c6, sv A8 t.Links c9, sv ad t.Signals ae, sv af t.Gates ag]) :: (n, Cl 80 [iv j.From, iv j.To, sv U j.Steps V]) :: (k, Cl 120 [iv C, iv D]) :: (E, Cl 125 [iv 0, iv 0, iv 0]) :: (ab, Cl 4 [bv false]) :: (f ++ R) = hp' ∧ bo.Le al) rfl bp a4 (e' := [(2, pb m), (3, pb n), (5, sv p g q), (6, pb k), (7, iv J), (8, pb E), (9, pb ab)]) ⟨rfl, rfl, rfl, rfl, rfl, rfl, rfl, trivial⟩ (.refl _) rfl (fun dk hdk => ⟨rfl, Base.Le.dks hdk⟩) ?_ ?_ (fun x hx => (c.trans (a.trans O)).dk x hx)
 rintro bL bM bN _ al bO _ bC ⟨rfl, S⟩ aI G am
 unfold q2n at G
 have hm := G
 refine Cg<|tD (uA [iv 0, iv 0, iv 0] q3G rfl) ?_
 rintro _ _ ⟨bP, rfl, rfl⟩
 refine tD (uN (vs := [_, _, _]) 0 3 rfl rfl rfl q5t rfl (mc rfl (mc rfl (mc rfl mn))) rfl (by simp)) ?_
 rintro _ _ rfl
 refine Tn<|z6N 1 rfl<|Cb<|Cr<|tS (sD (vs := [_, _, _]) 1 3 rfl q3r rfl rfl rfl)<|tD (uN (vs := [_, _, _]) 5 3 rfl rfl rfl q5t rfl (mc rfl (mc rfl (mc rfl mn))) rfl (by simp)) ?_
 rintro _ _ rfl
 refine tD (uS 6 rfl rfl z1o rfl rfl (by simp)) ?_
 rintro _ _ rfl
 refine Te<|Ce<|Xi rfl<|j1a 0 rfl lr<|Ce<|Xo ?_
 have a5 := am _ (Option.some.inj hm).symm
 rw [a5] at I
 have hm := k8 I
 obtain ⟨rfl, rfl, rfl, rfl⟩ := q6G hm
 exact jJ ⟨rfl, rfl, (O.trans (S.trans aI))⟩
 rintro _ al _ ⟨rfl, S⟩ a6
 rw [a6] at I
 have hm := J5 I
 refine Xm ?_
 obtain ⟨rfl, rfl, rfl, rfl⟩ := q6G hm
 exact jJ ⟨rfl, rfl, (O.trans S)⟩
 rintro ak _ _ ⟨rfl, rfl, d⟩
 have hm := z2P a3
 refine Cs ?_
 obtain ⟨bq, a7, a8⟩ := bS hm
 refine Cj (fun aJ e' hp' => [(2, pb m), (3, pb n), (5, sv p g q), (6, pb k), (7, iv J), (8, pb E), (63, bv bq)] = e' ∧ (m, Cl 28 [sv A2 t.Stations c3, sv A5 t.Sections c6, sv A8 t.Links c9, sv ad t.Signals ae, sv af t.Gates ag]) :: (n, Cl 80 [iv j.From, iv j.To, sv U j.Steps V]) :: (k, Cl 120 [iv C, iv D]) :: (E, Cl 125 [iv e, iv A, iv u]) :: (f ++ R) = hp' ∧ ak.Le aJ) ?_ ?_
 have hm := a7
 rcases Bool.eq_false_or_eq_true aG with s | s
 rw [if_pos s] at hm
 obtain ⟨ac, T, hm⟩ := bS hm
 rcases Bool.eq_false_or_eq_true ac with z | z
 rw [if_pos z] at hm
 refine Di Q5 (.refl _)<|Es 0 rfl (stB (sL 4 rfl q4b rfl rfl) s)<|E0 1 rfl (Z4 rfl)<|E0 2 rfl (sM rfl)<|Yz 3 39 rfl (sF rfl q0j)<|Ey 4 39 rfl (sL 1 rfl q3J rfl rfl)<|Yz 5 39 rfl (sF rfl Q2)<|Ey 6 39 rfl (sL 3 rfl j4 rfl rfl)<|Eo<|Da [7] (by kernel_rfl) rfl<|q3m lr rfl rfl 39 rfl rfl rfl (uW _ q5l rfl (fun w ho => q0l _ [] j.Steps e U V ((bf.le (c.trans (a.trans d))).old ho) ac T) (fun _ _ _ h => h.2.symm)) ?_ ?_
 rintro _ _ ⟨⟨_, rfl, _⟩, rfl⟩
 refine iR<|q3p 44 rfl (v' := .bool true) (by rw [z])<|Ei lr (.refl _)<|E0 8 rfl (pF rfl rfl)<|E0 9 rfl (sM rfl)<|eN 10 rfl<|eN 11 rfl<|eN 12 rfl<|eN 13 rfl<|E0 14 rfl (pT rfl rfl)<|E0 15 rfl (sM rfl)<|eN 16 rfl<|eN 17 rfl<|eN 18 rfl<|eN 19 rfl<|eN 20 rfl<|eN 21 rfl<|eN 22 rfl<|eN 23 rfl<|eN 24 rfl<|eN 25 rfl<|E0 26 rfl (pT rfl rfl)<|Eo<|Dd (by kernel_rfl) ?_
 obtain rfl := o1 hm
 exact jJ ⟨rfl, rfl, lr⟩
 exact Rn
 rw [if_neg (fun hh => Bool.noConfusion (hh.symm.trans z))] at hm
 obtain ⟨an, ah, hm⟩ := bS hm
 rcases Bool.eq_false_or_eq_true an with B | B
 rw [if_pos B] at hm
 refine Di Q5 (.refl _)<|Es 0 rfl (stB (sL 4 rfl q4b rfl rfl) s)<|E0 1 rfl (Z4 rfl)<|E0 2 rfl (sM rfl)<|Yz 3 39 rfl (sF rfl q0j)<|Ey 4 39 rfl (sL 1 rfl q3J rfl rfl)<|Yz 5 39 rfl (sF rfl Q2)<|Ey 6 39 rfl (sL 3 rfl j4 rfl rfl)<|Eo<|Da [7] (by kernel_rfl) rfl<|q3m lr rfl rfl 39 rfl rfl rfl (uW _ q5l rfl (fun w ho => q0l _ [] j.Steps e U V ((bf.le (c.trans (a.trans d))).old ho) ac T) (fun _ _ _ h => h.2.symm)) ?_ ?_
 rintro _ _ ⟨⟨_, rfl, _⟩, rfl⟩
 refine iR<|q3p 44 rfl (v' := .bool false) (by rw [z])<|Ei lr (.refl _)<|E0 8 rfl (pF rfl rfl)<|E0 9 rfl (sM rfl)<|Yz 10 46 rfl (sM rfl)<|Yz 11 46 rfl (sF rfl Q2)<|Ey 12 46 rfl (sL 3 rfl j4 rfl rfl)<|Eo<|Da [13] (by kernel_rfl) rfl ?_
 refine q3m lr rfl rfl 46 rfl rfl rfl (uW _ q5l rfl (fun w ho => q0l _ [] g e p q (OS.now (o := (OT.fr w6)) (l := g) (hs := f) (K.le d) ho (.cons _ (.cons _ (.cons _ (.cons _ (.cons _ (List.sublist_append_left _ _))))))) an ah) (fun _ _ _ h => h.2.symm)) ?_ ?_
 rintro _ _ ⟨⟨_, rfl, _⟩, rfl⟩
 refine iR<|q3p 50 rfl (v' := .bool true) (by rw [B])<|Ei lr (.refl _)<|E0 14 rfl (pF rfl rfl)<|E0 15 rfl (sM rfl)<|eN 16 rfl<|eN 17 rfl<|eN 18 rfl<|eN 19 rfl<|eN 20 rfl<|eN 21 rfl<|eN 22 rfl<|eN 23 rfl<|eN 24 rfl<|eN 25 rfl<|E0 26 rfl (pT rfl rfl)<|Eo<|Dd (by kernel_rfl) ?_
 obtain rfl := o1 hm
 exact jJ ⟨rfl, rfl, lr⟩
 exact Rn
 exact Rn
 rw [if_neg (fun hh => Bool.noConfusion (hh.symm.trans B))] at hm
 obtain ⟨bQ, br, hm⟩ := bS hm
 refine Di Q5 (.refl _)<|Es 0 rfl (stB (sL 4 rfl q4b rfl rfl) s)<|E0 1 rfl (Z4 rfl)<|E0 2 rfl (sM rfl)<|Yz 3 39 rfl (sF rfl q0j)<|Ey 4 39 rfl (sL 1 rfl q3J rfl rfl)<|Yz 5 39 rfl (sF rfl Q2)<|Ey 6 39 rfl (sL 3 rfl j4 rfl rfl)<|Eo<|Da [7] (by kernel_rfl) rfl ?_
 have zy := c.trans (a.trans d)
 refine q3m lr rfl rfl 39 rfl rfl rfl (uW _ q5l rfl (fun w ho => q0l _ [] j.Steps e U V ((bf.le zy).old ho) ac T) (fun _ _ _ h => h.2.symm)) ?_ ?_
 rintro _ _ ⟨⟨_, rfl, _⟩, rfl⟩
 refine iR<|q3p 44 rfl (v' := .bool false) (by rw [z])<|Ei lr (.refl _)<|E0 8 rfl (pF rfl rfl)<|E0 9 rfl (sM rfl)<|Yz 10 46 rfl (sM rfl)<|Yz 11 46 rfl (sF rfl Q2)<|Ey 12 46 rfl (sL 3 rfl j4 rfl rfl)<|Eo<|Da [13] (by kernel_rfl) rfl ?_
 refine q3m lr rfl rfl 46 rfl rfl rfl (uW _ q5l rfl (fun w ho => q0l _ [] g e p q (OS.now (o := (OT.fr w6)) (l := g) (hs := f) (K.le d) ho (.cons _ (.cons _ (.cons _ (.cons _ (.cons _ (List.sublist_append_left _ _))))))) an ah) (fun _ _ _ h => h.2.symm)) ?_ ?_
 rintro _ _ ⟨⟨_, rfl, _⟩, rfl⟩
 refine iR<|q3p 50 rfl (v' := .bool false) (by rw [B])<|Ei lr (.refl _)<|E0 14 rfl (pF rfl rfl)<|E0 15 rfl (sM rfl)<|Yz 16 52 rfl (sF rfl Q2)<|Ey 17 52 rfl (sL 3 rfl j4 rfl rfl)<|Yz 18 52 rfl (sF rfl q2F)<|Ey 19 52 rfl (sL 0 rfl q7X rfl rfl)<|Yz 20 52 rfl (sF rfl q5N)<|Ey 21 52 rfl (sL 1 rfl j4 rfl rfl) ?_
 obtain ⟨bs, a9, ba⟩ := iS br
 obtain ⟨bD, bb, aK, aw, aL⟩ := FZ.get (sz := 2) rfl (by decide) (aQ.le zy) ba
 obtain ⟨_, _, rfl, rfl, rfl⟩ := bb
 refine Yz 22 52 rfl (sI bs rfl rfl a9 aL aw z2T)<|Yz 23 52 rfl (sQ rfl aw q3z)<|Ey 24 52 rfl (sO rfl j4 (aK 0 _ rfl))<|Yz 25 52 rfl (q1 rfl rfl)<|E0 26 rfl (pF rfl rfl)<|Eo<|Dd (by kernel_rfl) ?_
 obtain rfl := o1 hm
 exact jJ ⟨rfl, rfl, lr⟩
 exact Rn
 exact Rn
 rw [if_neg (fun hh => Bool.noConfusion (hh.symm.trans s))] at hm
 refine Di Q5 (.refl _)<|Es 0 rfl (stB (sL 4 rfl q4b rfl rfl) s)<|E0 1 rfl (V2 rfl)<|E0 2 rfl (sM rfl)<|eN 3 rfl<|eN 4 rfl<|eN 5 rfl<|eN 6 rfl<|eN 7 rfl<|E0 8 rfl (pT rfl rfl)<|E0 9 rfl (sM rfl)<|eN 10 rfl<|eN 11 rfl<|eN 12 rfl<|eN 13 rfl<|E0 14 rfl (pT rfl rfl)<|E0 15 rfl (sM rfl)<|eN 16 rfl<|eN 17 rfl<|eN 18 rfl<|eN 19 rfl<|eN 20 rfl<|eN 21 rfl<|eN 22 rfl<|eN 23 rfl<|eN 24 rfl<|eN 25 rfl<|E0 26 rfl (pT rfl rfl)<|Eo<|Dd (by kernel_rfl) ?_
 obtain rfl := o1 hm
 exact jJ ⟨rfl, rfl, lr⟩
 rintro aJ _ _ ⟨rfl, rfl, y⟩
 have hm := a8
 refine cB hm rfl (fun hm => ?_) fun hm => ?_
 refine Ce<|Xe<|Xi rfl<|Xe<|Xo ?_
 have hm := congrArg some (L _ (Option.some.inj hm).symm)
 obtain rfl := o1 hm
 exact jJ ⟨p, q, f, rfl, rfl, (a.trans (d.trans y)), (K.le (d.trans y))⟩
 refine Ck<|Xn<|Cr<|mV rfl<|tS (sD (vs := [_, _, _]) 3 3 rfl q3r rfl rfl rfl)<|tD (Z3 (el := 125) [(0, .agg #[iv e, iv A, iv u])] [iv e, iv A, iv u] rfl (fun _ => by kernel_rfl)) ?_
 rintro _ _ ⟨bR, rfl, rfl⟩
 obtain ⟨_, ao, hm⟩ := bS hm
 have ao := Q9 ao
 have zx := d.trans y
 refine tD (uQ (r := w6) (l := g) [_, _, _, _, _] R [[iv e, iv A, iv u]] [(⟨e, A, u⟩ : ApiStep)] rfl (by decide) q6w z5q rfl rfl rfl rfl (K.le zx) rfl (fun w ho => Rd.own (i := 0) ho rfl) ⟨⟨[iv e], _, rfl, rfl, ⟨[iv A], _, rfl, rfl, rfl⟩⟩, trivial⟩ ao) ?_
 rintro _ _ ⟨bc, rfl, aM⟩
 obtain ⟨bt, bu, rfl, _⟩ := aM.form
 refine aS rfl<|Te<|Cr<|mV rfl<|tS (sF rfl P7)<|tS (sL 1 rfl q4K rfl rfl)<|tS (sF rfl Q2)<|tS (sL 4 rfl j4 rfl rfl) ?_
 obtain ⟨bT, bw, bE, bd, bG, be, aN, ax, aO, hm⟩ := bF (sz := 7) hm (h7.le (c.trans (a.trans zx)))
 obtain ⟨_, _, rfl, rfl, ⟨_, _, rfl, rfl, ⟨_, _, rfl, rfl, ⟨_, _, rfl, rfl, ⟨_, _, rfl, rfl, ⟨_, _, rfl, rfl, rfl⟩⟩⟩⟩⟩⟩ := be
 refine tS (sI bw rfl rfl bd aO ax z0y)<|tS (sQ rfl ax z7U)<|tS (sO rfl j4 (aN 1 _ rfl)) ?_
 obtain ⟨_, aq, hm⟩ := bS hm
 have aq := (kS aq).2
 refine tS (sa rfl rfl aq)<|aS rfl<|Te<|Cg<|tS (sF rfl Q2)<|tS (sL 4 rfl j4 rfl rfl)<|tS (sF rfl q9k)<|tS (sL 4 rfl j4 rfl rfl)<|tS (sB (v := .agg #[iv e, iv u]) [(0, iv e), (1, iv u)] rfl (fun _ => by kernel_rfl))<|tD (uN (vs := [_, _]) 3 2 rfl rfl rfl q3n rfl (mc rfl (mc rfl mn)) rfl (by simp)) ?_
 rintro _ _ rfl
 refine Tn<|Xm ?_
 exact jM hm ⟨bt, bu, bc, rfl, rfl, ((a.trans zx)), aM⟩
 refine Ce<|Xe<|Xe<|Xo ?_
 have hm := congrArg some (L _ (Option.some.inj hm).symm)
 obtain rfl := o1 hm
 exact jJ ⟨p, q, f, rfl, rfl, a, K⟩
 rintro aj _ _ ⟨Y, Z, H, rfl, rfl, aP, bx⟩
 have hm := a1
 refine Cr<|mV rfl<|aS rfl<|Te<|Ct ?_
 obtain rfl := o1 hm
 exact rO ⟨Y, Z, H, rfl, rfl, bx⟩ (c.trans aP)
theorem q7H (b : Base) (R : Hp) (a : ApiNet) (c : ApiStep) (o p q r s t g h i j) (E : FZ RT.str b.w o p a.Stations) (x : FZ rApiSection b.w q r a.Sections) (y : FZ rApiLink b.w s t a.Links) (z : FZ rApiSignal b.w g h a.Signals) (A : FZ rApiGate b.w i j a.Gates) (k) (hm : G6 a c = some k):
 CallsG Tryz.prog 98 [.agg #[sv o a.Stations p, sv q a.Sections r, sv s a.Links t, sv g a.Signals h, sv i a.Gates j], .agg #[iv c.Section, iv c.In, iv c.Out]] b (R) (fun v b' hp' => iv k = v ∧ R = hp') := by
 refine fE 18 Tryz.func98 rfl Tryz.ntmps98 rfl ?_
 unfold G6 at hm
 refine Cr<|tD (uB _ rfl rfl) ?_
 rintro _ _ ⟨B, rfl, rfl⟩
 refine tD (uB _ rfl rfl) ?_
 rintro _ _ ⟨C, rfl, rfl⟩
 refine aS rfl<|Te<|Cs<|Cr<|tS (sF rfl P7)<|tS (sL 1 rfl q4K rfl rfl)<|tS (sF rfl Q2)<|tS (sL 0 rfl j4 rfl rfl) ?_
 obtain ⟨D, n, u, l, w, m, e, d, f, hm⟩ := bF (sz := 7) hm x
 obtain ⟨_, _, rfl, rfl, ⟨_, _, rfl, rfl, ⟨_, _, rfl, rfl, ⟨_, _, rfl, rfl, ⟨_, _, rfl, rfl, ⟨_, _, rfl, rfl, rfl⟩⟩⟩⟩⟩⟩ := m
 refine tS (sI n rfl rfl l f d z0y)<|tS (sQ rfl d q3R)<|tS (sO rfl j4 (e 0 _ rfl))<|tS (q1 rfl rfl)<|Te<|cI hm rfl (fun hm => ?_) fun hm => ?_
 refine Cr<|tS (sF rfl z5w)<|tS (sL 0 rfl j4 rfl rfl)<|tS (sF rfl q9k)<|tS (sL 0 rfl j4 rfl rfl)<|tS (j2L rfl rfl)<|aS rfl<|Te<|Ct<|Xr ?_
 obtain rfl := o1 hm
 exact rO ⟨rfl, rfl⟩ lr
 refine Ck<|Xn<|Cr<|aS rfl<|Te<|Ct ?_
 obtain rfl := o1 hm
 exact rO ⟨rfl, rfl⟩ lr
theorem q1j (b : Base) (R : Hp) (a : ApiNeed) (q s t u x D E y j h ab F G H I J K L O S T U V W A3 c4 c A8 c9 e z f) (an : FZ RT.str b.w G H q) (ao : FZ rApiSection b.w I J s) (aq : FZ rApiLink b.w K L t) (ar : FZ rApiSignal b.w O S u) (au : FZ rApiGate b.w T U x) (av : FZ w6 b.w V W y) (h5 : OS 125 (OT.fr w6) b.w (sv A3 j c4) j c) (ac : OS 72 (OT.fr z4) b.w (sv A8 h c9) h e) (X : (A8 = none ↔ h = [])) (Y : OM z4 (OT.fr RT.bool) true false b.w z ab f) (m ad) (hm : v9 a q s t u x D E y j h ab = some (m, ad)):
 CallsG Tryz.prog 97 [pb F, .agg #[iv a.Kind, iv a.Place, iv a.Position, iv a.At]] b ((F, Cl 165 [sv G q H, sv I s J, sv K t L, sv O u S, sv T x U, iv D, iv E, sv V y W, sv A3 j c4, sv A8 h c9, .map (some z)]) :: (c ++ (e ++ (f ++ R)))) (fun v b' hp' => ∃ Z ae A B, .tuple #[] = v ∧ (F, Cl 165 [sv G q H, sv I s J, sv K t L, sv O u S, sv T x U, iv D, iv E, sv V y W, sv A3 j c4, sv Z m ae, .map (some z)]) :: (c ++ (A ++ (B ++ R))) = hp' ∧ OS 72 (OT.fr z4) b'.w (sv Z m ae) m A ∧ (Z = none ↔ m = []) ∧ OM z4 (OT.fr RT.bool) true false b'.w z ad B) := by
 refine fE 26 Tryz.func97 rfl Tryz.ntmps97 rfl ?_
 unfold v9 at hm
 refine Cr<|tD (uB _ rfl rfl) ?_
 rintro _ _ ⟨aw, rfl, rfl⟩
 refine Te<|Cs ?_
 obtain ⟨C, af, hm⟩ := bS hm
 refine Di Q5 (.refl _)<|E0 0 rfl (sM rfl)<|E0 1 rfl (sN rfl)<|E0 2 rfl (sF rfl z5u)<|Es 3 rfl (sL 1 rfl j0z rfl rfl)<|Es 4 rfl (sD (vs := [_, _, _, _]) 0 4 rfl Y1 rfl rfl rfl) ?_
 have aa := Option.some.inj af
 obtain ⟨ag, g, ah⟩ := OM.lookF j3f (z0 := false) Y (key := .agg #[iv a.Kind, iv a.Place, iv a.Position, iv a.At]) (k := a) ⟨[iv a.Kind, iv a.Place, iv a.Position, iv a.At], rfl, ⟨[iv a.Kind], _, rfl, rfl, ⟨[iv a.Place], _, rfl, rfl, ⟨[iv a.Position], _, rfl, rfl, rfl⟩⟩⟩⟩ z7B z8U rfl
 rw [aa] at g
 obtain rfl : ag = bv C := by have g : [ag] = [bv C] := g; injection g
 refine Es 5 rfl (q4k (ok := false) rfl rfl (fun w ho => ah _ w ho (.cons _ (.cons _ (ss c (ss e (List.sublist_append_left _ _))))) false))<|E0 6 rfl (sn2 rfl)<|Eo<|Dd (by kernel_rfl)<|Xn<|cM hm rfl (fun hm => ?_) fun hm => ?_
 refine Cs<|Di Q5 (.refl _)<|E0 0 rfl (sM rfl)<|E0 1 rfl (sN rfl)<|E0 2 rfl (sF rfl z5u)<|Es 3 rfl (sL 1 rfl j0z rfl rfl)<|Es 4 rfl (sD (vs := [_, _, _, _]) 0 4 rfl Y1 rfl rfl rfl)<|Eo<|j5r c e f<|Da [5] (by kernel_rfl) rfl ?_
 refine Rd2 lr rfl rfl (q9r (k := a) j3f [_, _] [] (c ++ (e ++ R)) rfl Y z7B rfl rfl rfl (⟨[iv a.Kind, iv a.Place, iv a.Position, iv a.At], rfl, ⟨[iv a.Kind], _, rfl, rfl, ⟨[iv a.Place], _, rfl, rfl, ⟨[iv a.Position], _, rfl, rfl, rfl⟩⟩⟩⟩) ⟨rfl, rfl⟩ _ (.inl rfl)) ?_ ?_
 rintro _ _ ⟨d, rfl, ai, aj⟩
 refine ⟨.inl (by kernel_rfl), ?_⟩
 refine Dd (by kernel_rfl)<|Xn ?_
 obtain ⟨_, n, hm⟩ := bS hm
 refine Di Q5 (.cons_cons _ (.cons_cons _ (sp d (sp c (ss e (.refl _))))))<|E0 0 rfl (sM rfl)<|E0 1 rfl (sM rfl)<|E0 2 rfl (sN rfl)<|E0 3 rfl (sF rfl q9h)<|Es 4 rfl (sL 1 rfl z2X rfl rfl)<|Es 5 rfl (sD (vs := [_, _, _, _]) 0 4 rfl Y1 rfl rfl rfl)<|Eo<|Da [6] (by kernel_rfl) rfl ?_
 refine Rd2 lr rfl rfl (Z3 (el := 72) [(0, .agg #[iv a.Kind, iv a.Place, iv a.Position, iv a.At])] [iv a.Kind, iv a.Place, iv a.Position, iv a.At] rfl (fun _ => by kernel_rfl)) ?_ ?_
 rintro _ _ ⟨am, rfl, rfl⟩
 refine iR ?_
 have n := Q9 n
 refine j0a d c e<|Da [7] (by kernel_rfl) rfl<|Rd2 lr rfl rfl (uQ (r := z4) (l := h) [_, _, _] (d ++ (c ++ R)) [[iv a.Kind, iv a.Place, iv a.Position, iv a.At]] [a] rfl (by decide) q4J z9H rfl rfl rfl rfl ac rfl (fun w ho => Rd.own (i := 0) ho rfl) ⟨⟨[iv a.Kind], _, rfl, rfl, ⟨[iv a.Place], _, rfl, rfl, ⟨[iv a.Position], _, rfl, rfl, rfl⟩⟩⟩, trivial⟩ n) ?_ ?_
 rintro _ _ ⟨o, rfl, p⟩
 obtain ⟨ak, al, rfl, _⟩ := p.form
 refine iR<|Ei lr (.cons _ (.cons_cons _ (.cons_cons _ (ss o (.refl _)))))<|E0 8 rfl (sN rfl)<|E0 9 rfl (sF rfl q9h)<|Eo<|Da [10] (by kernel_rfl) rfl<|Rd2 lr rfl rfl (uS 2 rfl rfl j2O rfl rfl (by simp)) ?_ ?_
 rintro _ _ rfl
 refine ⟨.inl (by kernel_rfl), ?_⟩
 refine Dd (by kernel_rfl) ?_
 obtain ⟨rfl, rfl⟩ := j9 hm
 exact eZ ⟨ak, al, o, d, rfl, rfl, p, (OS.nz p (by simp)), aj⟩ lr
 exact Rn
 exact Rn
 exact Rn
 exact Rn
 refine Ck ?_
 obtain ⟨rfl, rfl⟩ := j9 hm
 exact eZ ⟨A8, c9, e, f, rfl, rfl, ac, X, Y⟩ lr
theorem q7I (b : Base) (R : Hp) (e : ApiNeed) (j k l m f) (hm : q0L e j k = some f):
 CallsG Tryz.prog 139 [.agg #[iv e.Kind, iv e.Place, iv e.Position, iv e.At], pb l, pb m] b ((l, Cl 3 [iv j]) :: (m, Cl 3 [iv k]) :: R) (fun v b' hp' => bv f = v ∧ (l, Cl 3 [iv j]) :: (m, Cl 3 [iv k]) :: R = hp') := by
 refine fE 20 Tryz.func139 rfl Tryz.ntmps139 rfl ?_
 unfold q0L at hm
 refine Cr<|tD (uB _ rfl rfl) ?_
 rintro _ _ ⟨o, rfl, rfl⟩
 refine aS rfl<|Te ?_
 obtain ⟨n, g, h⟩ := bS hm
 refine Cj (fun i e' hp' => [(4, bv n)] = e' ∧ (l, Cl 3 [iv j]) :: (m, Cl 3 [iv k]) :: R = hp' ∧ b.Le i) ?_ ?_
 have hm := g
 refine Cg<|tS (sF rfl P6)<|tS (sL 0 rfl j4 rfl rfl)<|Tb rfl (q1 rfl rfl) (fun a => ?_) (fun a => ?_)
 rw [if_pos a] at hm
 refine mV rfl<|yS<|tS (sF rfl q2r)<|yS<|tS (sL 0 rfl j4 rfl rfl)<|yS<|tS (sL 1 rfl j4 rfl rfl)<|yS<|Tb rfl (q1 rfl rfl) (fun c => ?_) (fun c => ?_)
 rw [if_pos c] at hm
 refine tS (pT rfl rfl)<|mV rfl<|yS<|tS (sF rfl P5)<|yS<|tS (sL 0 rfl j4 rfl rfl)<|yS<|tS (sL 2 rfl j4 rfl rfl)<|yS<|tS (q1 rfl rfl)<|tS (pT rfl rfl)<|aS rfl<|Tn ?_
 obtain rfl := o1 hm
 exact jJ ⟨rfl, rfl, lr⟩
 rw [if_neg c] at hm
 refine tS (pT rfl rfl)<|mV rfl<|nO<|nO<|nO<|nO<|tS (pF rfl rfl)<|aS rfl<|Tn ?_
 obtain rfl := o1 hm
 exact jJ ⟨rfl, rfl, lr⟩
 rw [if_neg a] at hm
 refine mV rfl<|nO<|nO<|nO<|nO<|tS (pF rfl rfl)<|mV rfl<|nO<|nO<|nO<|nO<|tS (pF rfl rfl)<|aS rfl<|Tn ?_
 obtain rfl := o1 hm
 exact jJ ⟨rfl, rfl, lr⟩
 rintro i _ _ ⟨rfl, rfl, d⟩
 have hm := h
 refine Ct ?_
 obtain rfl := o1 hm
 exact rO ⟨rfl, rfl⟩ d
theorem q7E (b : Base) (R : Hp) (x y e o p F I k) (U : OS 72 (OT.fr z4) b.w (sv F e I) e k) (J : (F = none ↔ e = [])) (z) (hm : q0E x y e = some z):
 CallsG Tryz.prog 107 [sv F e I, .func (.func 139) #[] #[pb o, pb p]] b ((o, Cl 3 [iv x]) :: (p, Cl 3 [iv y]) :: (k ++ R)) (fun v b' hp' => iv z = v ∧ (o, Cl 3 [iv x]) :: (p, Cl 3 [iv y]) :: (k ++ R) = hp') := by
 refine fE 19 Tryz.func107 rfl Tryz.ntmps107 rfl ?_
 unfold q0E at hm
 refine Cr<|aS rfl<|Te<|Cs<|Cr<|mV rfl<|tS (sE rfl q4J)<|mV rfl<|Te<|Cb ?_
 have V : e.length ≤ 9223372036854775807 := (OS.len U)
 refine Cp 1 rfl<|Cp 1 rfl ?_
 obtain ⟨ab, A, f⟩ := bS hm
 refine lF (fun B => fun _ => fun q e' hp' => [(0, sv F e I), (1, .func (.func 139) #[] #[pb o, pb p]), (7, iv ((e.length : Int))), (8, iv ((B : Int)))] = e' ∧ (o, Cl 3 [iv x]) :: (p, Cl 3 [iv y]) :: (k ++ R) = hp' ∧ b.Le q) A ⟨rfl, rfl, lr⟩ ?_ ?_
 rintro B _ q _ _ W G ⟨rfl, rfl, a⟩ c h
 unfold X7 at c
 have hm := c
 refine Cr<|tS (lT rfl rfl (by omega))<|Te<|Cs<|j1 rfl<|Ck<|Xn<|Cs<|Cb<|Cr<|mV rfl<|aS rfl<|Te<|Cr<|mV rfl<|mV rfl<|mV rfl ?_
 obtain ⟨d, K, hm⟩ := bS hm
 obtain ⟨L, C, D⟩ := iS K
 obtain ⟨X, O, Y, Z, S, r, l, i, m, T, H⟩ := OS.get (sz := 4) rfl (by decide) (U.le a) D
 obtain ⟨⟨_, _, rfl, rfl, ⟨_, _, rfl, rfl, ⟨_, _, rfl, rfl, rfl⟩⟩⟩, rfl⟩ := r
 refine tS (sI L rfl rfl C m i q4J)<|tS (j8 (vs := [iv d.Kind, iv d.Place, iv d.Position, iv d.At]) 4 rfl Y1 i rfl (fun w ho j u hu => l w _ ho (.cons _ (.cons _ (List.sublist_append_left _ _))) j u hu)) ?_
 obtain ⟨E, n, hm⟩ := bS hm
 refine v8 1 rfl<|v8 1 rfl<|Tv #[] #[pb o, pb p] [.agg #[iv d.Kind, iv d.Place, iv d.Position, iv d.At]] rfl rfl j1Y rfl (q7I _ _ d x y o p E n) ?_
 rintro _ aa _ g ⟨rfl, rfl⟩
 refine Te<|cB hm rfl (fun hm => ?_) fun hm => ?_
 refine Cr<|mV rfl<|aS rfl<|Te<|Ct<|Xb<|Xr<|Xr<|Xb<|Xr ?_
 have s := h _ (Option.some.inj hm).symm
 rw [s] at f
 have hm := k8 f
 obtain rfl := o1 hm
 exact rO ⟨rfl, rfl⟩ (a.trans g)
 refine Ck<|Xm<|Xn<|Cg<|tS (sa rfl rfl (by omega))<|mV rfl<|Tn ?_
 exact jM hm ⟨rfl, rfl, ((a.trans g))⟩
 rintro _ q _ _ ⟨rfl, rfl, a⟩ t
 rw [t] at f
 have hm := J5 f
 refine Cr<|tS (lF rfl rfl (by omega))<|Te<|Cs<|j0 rfl<|Ce<|Xe<|Xe<|Xo<|Xn<|Cr<|aS rfl<|Te<|Ct ?_
 obtain rfl := o1 hm
 exact rO ⟨rfl, rfl⟩ a
theorem q6c (b : Base) (R : Hp) (h i a j k l m c) (o : OS 72 (OT.fr z4) b.w (sv l a m) a c) (d : (l = none ↔ a = [])) (g) (hm : Y8 h i a = some g):
 CallsG Tryz.prog 108 [sv l a m, .func (.func 139) #[] #[pb j, pb k]] b ((j, Cl 3 [iv h]) :: (k, Cl 3 [iv i]) :: (c ++ R)) (fun v b' hp' => bv g = v ∧ (j, Cl 3 [iv h]) :: (k, Cl 3 [iv i]) :: (c ++ R) = hp') := by
 refine fE 9 Tryz.func108 rfl Tryz.ntmps108 rfl ?_
 unfold Y8 at hm
 refine Cr<|aS rfl<|Te<|Cr<|mV rfl<|mV rfl ?_
 obtain ⟨n, e, hm⟩ := bS hm
 refine v8 1 rfl<|v8 1 rfl<|q4j [_, _] [] c R rfl<|Tg _ rfl z4K rfl (q7E _ _ h i a j k l m c o d n e) ?_
 rintro _ p _ f ⟨rfl, rfl⟩
 refine q4c [_, _] [] c R rfl<|tS (q6 rfl rfl)<|aS rfl<|Te<|Ct ?_
 obtain rfl := o1 hm
 exact rO ⟨rfl, rfl⟩ f
theorem q8R (b : Base) (R : Hp) (m n g h i j k o p l f c I q r s t u w x y z A B C D O S e J L d E a) (X : FZ RT.str b.w r s g) (Y : FZ rApiSection b.w t u h) (Z : FZ rApiLink b.w w x i) (aa : FZ rApiSignal b.w y z j) (ab : FZ rApiGate b.w A B k) (ac : FZ w6 b.w C D l) (h5 : OS 125 (OT.fr w6) b.w (sv O f S) f e) (T : OS 72 (OT.fr z4) b.w (sv J c L) c d) (F : (J = none ↔ c = [])) (ad : OM z4 (OT.fr RT.bool) true false b.w E I a) (K) (hm : Y2 m n g h i j k o p l f c I = some K):
 CallsG Tryz.prog 120 [pb q, iv m, iv n] b ((q, Cl 165 [sv r g s, sv t h u, sv w i x, sv y j z, sv A k B, iv o, iv p, sv C l D, sv O f S, sv J c L, .map (some E)]) :: (e ++ (d ++ (a ++ R)))) (fun v b' hp' => bv K = v ∧ (q, Cl 165 [sv r g s, sv t h u, sv w i x, sv y j z, sv A k B, iv o, iv p, sv C l D, sv O f S, sv J c L, .map (some E)]) :: (e ++ (d ++ (a ++ R))) = hp') := by
 refine fE 13 Tryz.func120 rfl Tryz.ntmps120 rfl ?_
 unfold Y2 at hm
 refine Cr<|tD (uB _ rfl rfl) ?_
 rintro _ _ ⟨U, rfl, rfl⟩
 refine tD (uB _ rfl rfl) ?_
 rintro _ _ ⟨V, rfl, rfl⟩
 refine aS rfl<|Te<|Cr<|mV rfl<|tS (sN rfl)<|tS (sF rfl q9h)<|tS (sL 2 rfl z2X rfl rfl)<|tS (q4A _ _ rfl rfl) ?_
 obtain ⟨W, G, hm⟩ := bS hm
 refine v8 1 rfl<|j2G e d<|q4j [_, _] [_] d (e ++ (a ++ R)) rfl<|Tg _ rfl z8r rfl (q6c _ _ m n c U V J L d T F W G) ?_
 rintro _ ae _ H ⟨rfl, rfl⟩
 refine q4c [_, _] [_] d (e ++ (a ++ R)) rfl<|aS rfl<|Te<|Ct ?_
 obtain rfl := o1 hm
 exact rO ⟨rfl, rfl⟩ H
theorem q8p : ∀ (N : Nat) (b : Base) (R : Hp) (aV : LineEnd) (al E y z A B C ac ad F D ah aW s t n x G H I J K L O S T U X Y A3 c4 g A8 c9 m V e) (aB : FZ RT.str b.w G H y) (aA : FZ rApiSection b.w I J z) (aC : FZ rApiLink b.w K L A) (aD : FZ rApiSignal b.w O S B) (aE : FZ rApiGate b.w T U C) (aU : FZ w6 b.w X Y F) (h5 : OS 125 (OT.fr w6) b.w (sv A3 D c4) D g) (aF : OS 72 (OT.fr z4) b.w (sv A8 ah c9) ah m) (W : (A8 = none ↔ ah = [])) (aG : OM z4 (OT.fr RT.bool) true false b.w V aW e) (ar a1) (hm : v6 N aV al E y z A B C ac ad F D ah aW = some (ar, a1)),
 CallsG Tryz.prog 119 [.agg #[iv aV.section_, iv aV.end_], iv al, pb s, pb t, pb n] b ((s, Cl 161 [pb x]) :: (t, Cl 3 [iv E]) :: (n, Cl 183 [.func (.func 119) #[] #[pb s, pb t, pb n]]) :: (x, Cl 165 [sv G y H, sv I z J, sv K A L, sv O B S, sv T C U, iv ac, iv ad, sv X F Y, sv A3 D c4, sv A8 ah c9, .map (some V)]) :: (g ++ (m ++ (e ++ R)))) (fun v b' hp' => ∃ bb bX bc bY bd, .tuple #[] = v ∧ (s, Cl 161 [pb x]) :: (t, Cl 3 [iv E]) :: (n, Cl 183 [.func (.func 119) #[] #[pb s, pb t, pb n]]) :: (x, Cl 165 [sv G y H, sv I z J, sv K A L, sv O B S, sv T C U, iv ac, iv ad, sv X F Y, sv A3 D c4, sv bb ar bX, .map (some bY)]) :: (g ++ (bc ++ (bd ++ R))) = hp' ∧ OS 72 (OT.fr z4) b'.w (sv bb ar bX) ar bc ∧ (bb = none ↔ ar = []) ∧ OM z4 (OT.fr RT.bool) true false b'.w bY a1 bd) := by
  intro N
  induction N with
  | zero =>
    intro b R aV al E y z A B C ac ad F D ah aW s t n x G H I J K L O S T U X Y A3 c4 g A8 c9 m V e aB aA aC aD aE aU h5 aF W aG ar a1 hm
    unfold v6 at hm
    cases hm
  | succ N ih =>
   intro b R aV al E y z A B C ac ad F D ah aW s t n x G H I J K L O S T U X Y A3 c4 g A8 c9 m V e aB aA aC aD aE aU h5 aF W aG ar a1 hm
   refine fE 122 Tryz.func119 rfl Tryz.ntmps119 rfl ?_
   unfold v6 at hm
   refine Cr<|tD (uB _ rfl rfl) ?_
   rintro _ _ ⟨c8, rfl, rfl⟩
   refine Te ?_
   obtain ⟨⟨bZ, u, Z⟩, b3, b4⟩ := bS hm
   refine Cj (fun be e' hp' => ∃ aa, [(1, iv al), (2, pb s), (3, pb t), (4, pb n), (7, pb aa), (8, bv bZ)] = e' ∧ (s, Cl 161 [pb x]) :: (t, Cl 3 [iv E]) :: (n, Cl 183 [.func (.func 119) #[] #[pb s, pb t, pb n]]) :: (aa, Cl 120 [iv u, iv Z]) :: (x, Cl 165 [sv G y H, sv I z J, sv K A L, sv O B S, sv T C U, iv ac, iv ad, sv X F Y, sv A3 D c4, sv A8 ah c9, .map (some V)]) :: (g ++ (m ++ (e ++ R))) = hp' ∧ b.Le be) ?_ ?_
   have hm := b3
   obtain ⟨⟨b0, b1, b2⟩, a2, hm⟩ := bS hm
   have hm := (q4U hm)
   refine Di Q5 (.refl _)<|Es 0 rfl (sL 1 rfl q5v rfl rfl)<|E0 1 rfl (sN rfl)<|E0 2 rfl (sF rfl q9j)<|Es 3 rfl (sD (vs := [_, _, _, _, _]) 4 5 rfl G9 rfl rfl rfl)<|Es 4 rfl (sD (vs := [_, _]) 0 2 rfl q2y rfl rfl rfl)<|Eo<|Da [5, 9] (by kernel_rfl) rfl ?_
   refine Rg lr rfl rfl _ z3x rfl (q2K _ _ (⟨y, z, A, B, C⟩ : ApiNet) aV G H I J K L O S T U aB aA aC aD aE b0 b1 b2 a2) ?_ ?_
   rintro _ cT _ p ⟨rfl, rfl⟩
   refine iR<|Ei p (.refl _)<|E0 6 rfl (sM rfl)<|E0 7 rfl (z5 rfl rfl)<|E0 8 rfl (z5 rfl rfl)<|Eo<|Da [9] (by kernel_rfl) rfl ?_
   refine Rd2 p rfl rfl (uA [iv 0, iv 0] q2z rfl) ?_ ?_
   rintro _ _ ⟨bf, rfl, rfl⟩
   refine iR<|Da [10] (by kernel_rfl) rfl ?_
   refine Rd2 p rfl rfl (uN (vs := [_, _]) 0 2 rfl rfl rfl q3n rfl (mc rfl (mc rfl mn)) rfl (by simp)) ?_ ?_
   rintro _ _ rfl
   refine ⟨.inl (by kernel_rfl), ?_⟩
   refine El p<|E0 11 rfl (sA rfl)<|Eo<|Dd (by kernel_rfl) ?_
   obtain ⟨rfl, rfl, rfl⟩ := q3i hm
   exact jJ ⟨bf, rfl, rfl, p⟩
   exact Rn
   exact Rn
   refine Rd2 lr rfl rfl (uA [iv 0, iv 0] q2z rfl) ?_ ?_
   rintro _ _ ⟨bf, rfl, rfl⟩
   refine iR<|Da [5] (by kernel_rfl) rfl ?_
   refine Rg lr rfl rfl _ z3x rfl (q2K _ _ (⟨y, z, A, B, C⟩ : ApiNet) aV G H I J K L O S T U aB aA aC aD aE b0 b1 b2 a2) ?_ ?_
   rintro _ cT _ p ⟨rfl, rfl⟩
   refine iR<|Ei p (.cons _ (.refl _))<|E0 6 rfl (sM rfl)<|E0 7 rfl (z5 rfl rfl)<|E0 8 rfl (z5 rfl rfl)<|Eo<|Da [10] (by kernel_rfl) rfl ?_
   refine Rd2 p rfl rfl (uN (vs := [_, _]) 0 2 rfl rfl rfl q3n rfl (mc rfl (mc rfl mn)) rfl (by simp)) ?_ ?_
   rintro _ _ rfl
   refine ⟨.inl (by kernel_rfl), ?_⟩
   refine El p<|E0 11 rfl (sA rfl)<|Eo<|Dd (by kernel_rfl) ?_
   obtain ⟨rfl, rfl, rfl⟩ := q3i hm
   exact jJ ⟨bf, rfl, rfl, p⟩
   exact Rn
   exact Rn
   exact Rn
   rintro be _ _ ⟨aa, rfl, rfl, a⟩
   have hm := (q4U b4)
   refine Cs ?_
   obtain ⟨cU, b5, b6⟩ := bS hm
   refine Cj (fun a3 e' hp' => [(1, iv al), (2, pb s), (3, pb t), (4, pb n), (7, pb aa), (46, bv cU)] = e' ∧ (s, Cl 161 [pb x]) :: (t, Cl 3 [iv E]) :: (n, Cl 183 [.func (.func 119) #[] #[pb s, pb t, pb n]]) :: (aa, Cl 120 [iv u, iv Z]) :: (x, Cl 165 [sv G y H, sv I z J, sv K A L, sv O B S, sv T C U, iv ac, iv ad, sv X F Y, sv A3 D c4, sv A8 ah c9, .map (some V)]) :: (g ++ (m ++ (e ++ R))) = hp' ∧ be.Le a3) ?_ ?_
   have hm := b5
   rcases Bool.eq_false_or_eq_true bZ with ae | ae
   rw [if_pos ae] at hm
   by_cases au : al = 8
   rw [if_pos au] at hm
   refine Di Q5 (.refl _)<|E0 0 rfl (stB (sM rfl) ae)<|E0 1 rfl (Z4 rfl)<|E0 2 rfl (sM rfl)<|Yz 3 24 rfl (sM rfl)<|Yz 4 24 rfl (eT rfl rfl au)<|E0 5 rfl (pF rfl rfl)<|E0 6 rfl (sM rfl)<|eN 7 rfl<|eN 8 rfl ?_
   refine eN 9 rfl<|eN 10 rfl<|eN 11 rfl<|eN 12 rfl<|eN 13 rfl<|eN 14 rfl<|E0 15 rfl (pT rfl rfl)<|E0 16 rfl (sM rfl)<|eN 17 rfl<|eN 18 rfl ?_
   refine eN 19 rfl<|eN 20 rfl<|eN 21 rfl<|eN 22 rfl<|eN 23 rfl<|E0 24 rfl (pT rfl rfl)<|Eo<|Dd (by kernel_rfl) ?_
   obtain rfl := o1 hm
   exact jJ ⟨rfl, rfl, lr⟩
   rw [if_neg au] at hm
   obtain ⟨bg, a4, hm⟩ := bS hm
   rcases Bool.eq_false_or_eq_true bg with av | av
   rw [if_pos av] at hm
   refine Di Q5 (.refl _)<|E0 0 rfl (stB (sM rfl) ae)<|E0 1 rfl (Z4 rfl)<|E0 2 rfl (sM rfl)<|Yz 3 24 rfl (sM rfl)<|Yz 4 24 rfl (eF rfl rfl au)<|E0 5 rfl (pF rfl rfl)<|E0 6 rfl (sM rfl)<|Ey 7 28 rfl (sL 0 rfl q5v rfl rfl)<|Yz 8 28 rfl (sN rfl) ?_
   refine Yz 9 28 rfl (sF rfl q9i)<|Yz 10 28 rfl (sF rfl q0j)<|Ey 11 28 rfl (sL 4 rfl q3J rfl rfl)<|Yz 12 28 rfl (sF rfl q1r)<|Ey 13 28 rfl (sL 3 rfl j4 rfl rfl)<|Eo<|Da [14] (by kernel_rfl) rfl ?_
   refine q3m lr rfl rfl 28 rfl rfl rfl (uW _ q5l rfl (fun w ho => q0l _ [] F u X Y ((aU.le a).old ho) bg a4) (fun _ _ _ h => h.2.symm)) ?_ ?_
   rintro _ _ ⟨⟨_, rfl, _⟩, rfl⟩
   refine iR<|q3p 36 rfl (v' := .bool true) (by rw [av])<|Ei lr (.refl _)<|E0 15 rfl (pF rfl rfl)<|E0 16 rfl (sM rfl)<|eN 17 rfl<|eN 18 rfl<|eN 19 rfl<|eN 20 rfl<|eN 21 rfl ?_
   refine eN 22 rfl<|eN 23 rfl<|E0 24 rfl (pT rfl rfl)<|Eo<|Dd (by kernel_rfl) ?_
   obtain rfl := o1 hm
   exact jJ ⟨rfl, rfl, lr⟩
   exact Rn
   rw [if_neg (fun hh => Bool.noConfusion (hh.symm.trans av))] at hm
   obtain ⟨cV, bD, hm⟩ := bS hm
   refine Di Q5 (.refl _)<|E0 0 rfl (stB (sM rfl) ae)<|E0 1 rfl (Z4 rfl)<|E0 2 rfl (sM rfl)<|Yz 3 24 rfl (sM rfl)<|Yz 4 24 rfl (eF rfl rfl au)<|E0 5 rfl (pF rfl rfl)<|E0 6 rfl (sM rfl)<|Ey 7 28 rfl (sL 0 rfl q5v rfl rfl)<|Yz 8 28 rfl (sN rfl) ?_
   refine Yz 9 28 rfl (sF rfl q9i)<|Yz 10 28 rfl (sF rfl q0j)<|Ey 11 28 rfl (sL 4 rfl q3J rfl rfl)<|Yz 12 28 rfl (sF rfl q1r)<|Ey 13 28 rfl (sL 3 rfl j4 rfl rfl)<|Eo<|Da [14] (by kernel_rfl) rfl ?_
   refine q3m lr rfl rfl 28 rfl rfl rfl (uW _ q5l rfl (fun w ho => q0l _ [] F u X Y ((aU.le a).old ho) bg a4) (fun _ _ _ h => h.2.symm)) ?_ ?_
   rintro _ _ ⟨⟨_, rfl, _⟩, rfl⟩
   refine iR<|q3p 36 rfl (v' := .bool false) (by rw [av])<|Ei lr (.refl _)<|E0 15 rfl (pF rfl rfl)<|E0 16 rfl (sM rfl)<|Ey 17 38 rfl (sL 0 rfl q5v rfl rfl)<|Yz 18 38 rfl (sN rfl)<|Yz 19 38 rfl (sF rfl z5v)<|Ey 20 38 rfl (sL 4 rfl q3J rfl rfl)<|Yz 21 38 rfl (sF rfl q1r) ?_
   refine Ey 22 38 rfl (sL 3 rfl j4 rfl rfl)<|Eo<|Da [23] (by kernel_rfl) rfl ?_
   refine q3m lr rfl rfl 38 rfl rfl rfl (uW _ q5l rfl (fun w ho => q0l _ [] D u A3 c4 (OS.now (o := (OT.fr w6)) (l := D) (hs := g) (h5.le a) ho (.cons _ (.cons _ (.cons _ (.cons _ (.cons _ (List.sublist_append_left _ _))))))) cV bD) (fun _ _ _ h => h.2.symm)) ?_ ?_
   rintro _ _ ⟨⟨_, rfl, _⟩, rfl⟩
   refine iR<|Ei lr (.refl _)<|E0 24 rfl (pF rfl rfl)<|Eo<|Dd (by kernel_rfl) ?_
   obtain rfl := o1 hm
   exact jJ ⟨rfl, rfl, lr⟩
   exact Rn
   exact Rn
   rw [if_neg (fun hh => Bool.noConfusion (hh.symm.trans ae))] at hm
   refine Di Q5 (.refl _)<|E0 0 rfl (stB (sM rfl) ae)<|E0 1 rfl (V2 rfl)<|E0 2 rfl (sM rfl)<|eN 3 rfl<|eN 4 rfl<|E0 5 rfl (pT rfl rfl)<|E0 6 rfl (sM rfl)<|eN 7 rfl<|eN 8 rfl ?_
   refine eN 9 rfl<|eN 10 rfl<|eN 11 rfl<|eN 12 rfl<|eN 13 rfl<|eN 14 rfl<|E0 15 rfl (pT rfl rfl)<|E0 16 rfl (sM rfl)<|eN 17 rfl<|eN 18 rfl ?_
   refine eN 19 rfl<|eN 20 rfl<|eN 21 rfl<|eN 22 rfl<|eN 23 rfl<|E0 24 rfl (pT rfl rfl)<|Eo<|Dd (by kernel_rfl) ?_
   obtain rfl := o1 hm
   exact jJ ⟨rfl, rfl, lr⟩
   rintro a3 _ _ ⟨rfl, rfl, c⟩
   have hm := b6
   refine cB hm rfl (fun hm => ?_) fun hm => ?_
   refine Ct<|Xr ?_
   obtain ⟨rfl, rfl⟩ := j9 hm
   have b7 := (aF.le (a.trans c))
   have b8 := (aG.le (a.trans c))
   exact rZ ⟨A8, c9, m, V, e, rfl, rfl, b7, W, b8⟩ (a.trans c)
   refine Ck<|Xn<|Cs ?_
   obtain ⟨bh, cW, hm⟩ := bS hm
   refine Di Q5 (.refl _)<|Es 0 rfl (sL 0 rfl q5v rfl rfl)<|E0 1 rfl (sN rfl)<|E0 2 rfl (sF rfl q9j)<|E0 3 rfl (sF rfl P7)<|Es 4 rfl (sL 4 rfl q4K rfl rfl)<|E0 5 rfl (sF rfl q1r)<|Es 6 rfl (sL 3 rfl j4 rfl rfl) ?_
   obtain ⟨cX, b9, ca⟩ := iS cW
   obtain ⟨c2, cb, bE, bi, bG⟩ := FZ.get (sz := 7) rfl (by decide) (aA.le (a.trans c)) ca
   obtain ⟨_, _, rfl, rfl, ⟨_, _, rfl, rfl, ⟨_, _, rfl, rfl, ⟨_, _, rfl, rfl, ⟨_, _, rfl, rfl, ⟨_, _, rfl, rfl, rfl⟩⟩⟩⟩⟩⟩ := cb
   refine E0 7 rfl (sI cX rfl rfl b9 bG bi z0y)<|E0 8 rfl (sQ rfl bi q3R)<|Es 9 rfl (sO rfl j4 (bE 0 _ rfl))<|E0 10 rfl (sA rfl)<|Eo<|Dd (by kernel_rfl)<|Xn ?_
   obtain ⟨cc, bH, ab⟩ := bS hm
   refine Cj (fun bj e' hp' => [(1, iv al), (4, pb n), (7, pb aa), (9, iv bh.Kind)] = e' ∧ (n, Cl 183 [.func (.func 119) #[] #[pb s, pb t, pb n]]) :: (aa, Cl 120 [iv u, iv Z]) :: (s, Cl 161 [pb x]) :: (t, Cl 3 [iv E]) :: (x, Cl 165 [sv G y H, sv I z J, sv K A L, sv O B S, sv T C U, iv ac, iv ad, sv X F Y, sv A3 D c4, sv A8 ah c9, .map (some V)]) :: (g ++ (m ++ (e ++ R))) = hp' ∧ a3.Le bj ∧ cc = .inl ()) ?_ ?_
   have hm := bH
   refine Cb ?_
   obtain ⟨cd, bI, bJ⟩ := bS hm
   refine Cj (fun aH e' hp' => [(1, iv al), (2, pb s), (3, pb t), (4, pb n), (7, pb aa), (9, iv bh.Kind), (57, bv cd)] = e' ∧ (s, Cl 161 [pb x]) :: (t, Cl 3 [iv E]) :: (n, Cl 183 [.func (.func 119) #[] #[pb s, pb t, pb n]]) :: (aa, Cl 120 [iv u, iv Z]) :: (x, Cl 165 [sv G y H, sv I z J, sv K A L, sv O B S, sv T C U, iv ac, iv ad, sv X F Y, sv A3 D c4, sv A8 ah c9, .map (some V)]) :: (g ++ (m ++ (e ++ R))) = hp' ∧ a3.Le aH) ?_ ?_
   have hm := bI
   refine Cg<|mV rfl ?_
   refine Tb rfl (q1 rfl rfl) (fun aI => ?_) (fun aI => ?_)
   rw [if_pos aI] at hm
   refine mV rfl<|yS<|tS (sF rfl q4t)<|yS<|tS (sL 3 rfl j4 rfl rfl)<|yS<|tS (q5 rfl rfl)<|tS (pT rfl rfl)<|aS rfl<|Tn ?_
   obtain rfl := o1 hm
   exact jJ ⟨rfl, rfl, lr⟩
   rw [if_neg aI] at hm
   refine mV rfl<|nO<|nO<|nO<|tS (pF rfl rfl)<|aS rfl<|Tn ?_
   obtain rfl := o1 hm
   exact jJ ⟨rfl, rfl, lr⟩
   rintro aH _ _ ⟨rfl, rfl, d⟩
   have hm := bJ
   refine cB hm rfl (fun hm => ?_) fun hm => ?_
   obtain ⟨⟨aJ, ce⟩, bK, bL⟩ := bS hm
   refine Cj (fun aK e' hp' => ∃ aw aL am an, [] = e' ∧ (s, Cl 161 [pb x]) :: (t, Cl 3 [iv E]) :: (n, Cl 183 [.func (.func 119) #[] #[pb s, pb t, pb n]]) :: (x, Cl 165 [sv G y H, sv I z J, sv K A L, sv O B S, sv T C U, iv ac, iv ad, sv X F Y, sv A3 D c4, sv aw aJ aL, .map (some V)]) :: (g ++ (am ++ (an ++ R))) = hp' ∧ aH.Le aK ∧ OS 72 (OT.fr z4) aK.w (sv aw aJ aL) aJ am ∧ (aw = none ↔ aJ = []) ∧ OM z4 (OT.fr RT.bool) true false aK.w V ce an) ?_ ?_
   have hm := bK
   refine Cr<|tS (sL 0 rfl q5v rfl rfl)<|tS (sF rfl q1r)<|tS (sL 3 rfl j4 rfl rfl)<|tS (sF rfl q4t)<|tS (sL 3 rfl j4 rfl rfl) ?_
   obtain ⟨cf, bk, hm⟩ := bS hm
   refine v8 4 rfl<|q6D g m e<|q6D e g m<|q6D m e g<|q9v [_] [_, _, _, _] g m e R rfl<|Tg _ rfl j2h rfl (q8R _ _ u Z y z A B C ac ad F D ah aW x G H I J K L O S T U X Y A3 c4 g A8 c9 m V e (aB.le (a.trans (c.trans d))) (aA.le (a.trans (c.trans d))) (aC.le (a.trans (c.trans d))) (aD.le (a.trans (c.trans d))) (aE.le (a.trans (c.trans d))) (aU.le (a.trans (c.trans d))) (h5.le (a.trans (c.trans d))) (aF.le (a.trans (c.trans d))) W (aG.le (a.trans (c.trans d))) cf bk) ?_
   rintro _ c3 _ f ⟨rfl, rfl⟩
   refine z1O [_] [_, _, _, _] g m e R rfl<|tS (sn2 rfl)<|Te ?_
   refine cM hm rfl (fun hm => ?_) fun hm => ?_
   refine Cg<|tS (sL 1 rfl q5v rfl rfl)<|tS (sF rfl q1r)<|tS (sL 4 rfl j4 rfl rfl)<|tS (sF rfl q4t)<|tS (sL 4 rfl j4 rfl rfl) ?_
   obtain ⟨_, aX, hm⟩ := bS hm
   have aX := (kS aX).2
   refine tS (sb rfl rfl aX)<|tS (sL 2 rfl j4 rfl rfl)<|tS (sB (v := .agg #[iv 3, iv u, iv (3 - Z), iv E]) [(0, iv 3), (1, iv u), (2, iv (3 - Z)), (3, iv E)] rfl (fun _ => by kernel_rfl)) ?_
   obtain ⟨⟨cg, ch⟩, bl, hm⟩ := bS hm
   have hm := (Q3 hm)
   refine q6D g m e<|q6D e g m<|q6D m e g<|q9v [_] [_, _, _, _] g m e R rfl<|Tg _ rfl z3w rfl (q1j _ _ (⟨3, u, 3 - Z, E⟩ : ApiNeed) y z A B C ac ad F D ah aW x G H I J K L O S T U X Y A3 c4 g A8 c9 m V e (aB.le (a.trans (c.trans (d.trans f)))) (aA.le (a.trans (c.trans (d.trans f)))) (aC.le (a.trans (c.trans (d.trans f)))) (aD.le (a.trans (c.trans (d.trans f)))) (aE.le (a.trans (c.trans (d.trans f)))) (aU.le (a.trans (c.trans (d.trans f)))) (h5.le (a.trans (c.trans (d.trans f)))) (aF.le (a.trans (c.trans (d.trans f)))) W (aG.le (a.trans (c.trans (d.trans f)))) cg ch bl) ?_
   rintro _ c5 _ bm ⟨ci, cj, a5, a6, rfl, rfl, ck, cl, cm⟩
   refine z1O [_] [_, _, _, _] g a5 a6 R rfl<|Tn ?_
   obtain ⟨rfl, rfl⟩ := j9 hm
   exact jJ ⟨ci, cj, a5, a6, rfl, rfl, (f.trans bm), ck, cl, cm⟩
   refine Ck ?_
   obtain ⟨rfl, rfl⟩ := j9 hm
   exact jJ ⟨A8, c9, m, e, rfl, rfl, f, (aF.le (a.trans (c.trans (d.trans f)))), W, (aG.le (a.trans (c.trans (d.trans f))))⟩
   rintro aK _ _ ⟨aw, aL, am, an, rfl, rfl, bn, cn, bo, co⟩
   have hm := (Q3 bL)
   refine Ct<|Xb<|Xr ?_
   have bM := (Option.some.inj hm).symm
   rw [bM] at ab
   have hm := k8 ab
   obtain ⟨rfl, rfl⟩ := j9 hm
   exact rZ ⟨aw, aL, am, V, an, rfl, rfl, cn, bo, co⟩ (a.trans (c.trans (d.trans bn)))
   refine Cr<|mV rfl<|tS (q1 rfl rfl)<|aS rfl<|Te ?_
   refine cI hm rfl (fun hm => ?_) fun hm => ?_
   refine Cs ?_
   obtain ⟨aM, bp, hm⟩ := bS hm
   refine Di Q5 (.refl _)<|Es 0 rfl (sL 0 rfl q5v rfl rfl)<|E0 1 rfl (sN rfl)<|E0 2 rfl (sF rfl q9j)<|Es 3 rfl (sD (vs := [_, _, _, _, _]) 4 5 rfl G9 rfl rfl rfl)<|Es 4 rfl (sD (vs := [_, _]) 3 2 rfl q2y rfl rfl rfl)<|Eo<|Da [5] (by kernel_rfl) rfl ?_
   refine Rd2 lr rfl rfl (uW _ z8s rfl (fun w ho => z0m _ [] (⟨y, z, A, B, C⟩ : ApiNet) (⟨u, Z⟩ : LineEnd) G H I J K L O S T U ((aB.le (a.trans (c.trans d))).old ho) ((aA.le (a.trans (c.trans d))).old ho) ((aC.le (a.trans (c.trans d))).old ho) ((aD.le (a.trans (c.trans d))).old ho) ((aE.le (a.trans (c.trans d))).old ho) aM bp) (fun _ _ _ h => h.2.symm)) ?_ ?_
   rintro _ _ ⟨⟨_, rfl, _⟩, rfl⟩
   refine iR<|Ei lr (.refl _)<|E0 6 rfl (sA rfl)<|Eo<|Dd (by kernel_rfl)<|Xn<|Cr<|mV rfl<|tS (q6 rfl rfl)<|Te ?_
   refine cI hm rfl (fun hm => ?_) fun hm => ?_
   obtain ⟨⟨aN, cp⟩, bN, bO⟩ := bS hm
   refine Cj (fun aO e' hp' => ∃ ax aP ao aq, [] = e' ∧ (s, Cl 161 [pb x]) :: (t, Cl 3 [iv E]) :: (n, Cl 183 [.func (.func 119) #[] #[pb s, pb t, pb n]]) :: (x, Cl 165 [sv G y H, sv I z J, sv K A L, sv O B S, sv T C U, iv ac, iv ad, sv X F Y, sv A3 D c4, sv ax aN aP, .map (some V)]) :: (g ++ (ao ++ (aq ++ R))) = hp' ∧ aH.Le aO ∧ OS 72 (OT.fr z4) aO.w (sv ax aN aP) aN ao ∧ (ax = none ↔ aN = []) ∧ OM z4 (OT.fr RT.bool) true false aO.w V cp aq) ?_ ?_
   have hm := bN
   refine Cr<|mV rfl<|tS (sL 0 rfl q5v rfl rfl)<|tS (sN rfl)<|tS (sF rfl q9i)<|tS (sF rfl q5N)<|tS (sL 4 rfl j4 rfl rfl)<|tS (q2 rfl rfl)<|Te ?_
   refine cI hm rfl (fun hm => ?_) fun hm => ?_
   refine Cg<|tS (sL 0 rfl q5v rfl rfl)<|mV rfl<|tS (sL 1 rfl j4 rfl rfl)<|tS (sB (v := .agg #[iv 4, iv aM, iv 0, iv E]) [(0, iv 4), (1, iv aM), (3, iv E)] rfl (fun _ => by kernel_rfl)) ?_
   obtain ⟨⟨cq, cr⟩, bq, hm⟩ := bS hm
   have hm := (Q3 hm)
   refine v8 4 rfl<|q6D g m e<|q6D e g m<|q6D m e g<|q9v [_] [_, _, _, _] g m e R rfl<|Tg _ rfl z3w rfl (q1j _ _ (⟨4, aM, 0, E⟩ : ApiNeed) y z A B C ac ad F D ah aW x G H I J K L O S T U X Y A3 c4 g A8 c9 m V e (aB.le (a.trans (c.trans d))) (aA.le (a.trans (c.trans d))) (aC.le (a.trans (c.trans d))) (aD.le (a.trans (c.trans d))) (aE.le (a.trans (c.trans d))) (aU.le (a.trans (c.trans d))) (h5.le (a.trans (c.trans d))) (aF.le (a.trans (c.trans d))) W (aG.le (a.trans (c.trans d))) cq cr bq) ?_
   rintro _ c6 _ br ⟨cs, ct, a7, a8, rfl, rfl, cu, cv, cw⟩
   refine z1O [_] [_, _, _, _] g a7 a8 R rfl<|Tn ?_
   obtain ⟨rfl, rfl⟩ := j9 hm
   exact jJ ⟨cs, ct, a7, a8, rfl, rfl, br, cu, cv, cw⟩
   refine Ck ?_
   obtain ⟨rfl, rfl⟩ := j9 hm
   exact jJ ⟨A8, c9, m, e, rfl, rfl, lr, (aF.le (a.trans (c.trans d))), W, (aG.le (a.trans (c.trans d)))⟩
   rintro aO _ _ ⟨ax, aP, ao, aq, rfl, rfl, bs, cx, bt, cy⟩
   have hm := (Q3 bO)
   refine Ct<|Xb<|Xr ?_
   have bP := (Option.some.inj hm).symm
   rw [bP] at ab
   have hm := k8 ab
   obtain ⟨rfl, rfl⟩ := j9 hm
   exact rZ ⟨ax, aP, ao, V, aq, rfl, rfl, cx, bt, cy⟩ (a.trans (c.trans (d.trans bs)))
   refine Ck<|Xm ?_
   have hq := (Option.some.inj hm).symm
   exact jJ ⟨rfl, rfl, d, hq⟩
   exact Rn
   refine Ck<|Xm ?_
   have hq := (Option.some.inj hm).symm
   exact jJ ⟨rfl, rfl, d, hq⟩
   rintro bj _ _ ⟨rfl, rfl, j, bQ⟩
   rw [bQ] at ab
   have hm := J5 ab
   refine Cr<|mV rfl<|tS (sF rfl q4t)<|tS (sL 1 rfl j4 rfl rfl) ?_
   obtain ⟨aQ, bu, hm⟩ := bS hm
   refine Tg _ rfl j2g rfl (z3K _ _ bh.Kind Z aQ bu) ?_
   rintro _ cz _ k ⟨cA, cC, rfl, rfl, bw⟩
   refine tS (sE rfl z4a)<|mV rfl<|Te<|Cb ?_
   have cY : aQ.length ≤ 9223372036854775807 := (FZ.bd bw)
   refine Cp 4 rfl<|Cp 4 rfl<|Cp 4 rfl<|Cp 4 rfl<|Cp 4 rfl<|z6A g m e<|z6A e g m<|z6A m e g ?_
   obtain ⟨⟨af, aR⟩, bR, bT⟩ := bS hm
   refine lS (fun bx => K1 fun af aR => fun ay e' hp' => ∃ ag ai q aj r, [(1, iv al), (4, pb n), (7, pb aa), (107, sv cA aQ cC), (108, iv ((aQ.length : Int))), (109, iv ((bx : Int)))] = e' ∧ (n, Cl 183 [.func (.func 119) #[] #[pb s, pb t, pb n]]) :: (aa, Cl 120 [iv u, iv Z]) :: (s, Cl 161 [pb x]) :: (t, Cl 3 [iv E]) :: (x, Cl 165 [sv G y H, sv I z J, sv K A L, sv O B S, sv T C U, iv ac, iv ad, sv X F Y, sv A3 D c4, sv ag af ai, .map (some aj)]) :: (g ++ (q ++ (r ++ R))) = hp' ∧ cz.Le ay ∧ OS 72 (OT.fr z4) ay.w (sv ag af ai) af q ∧ (ag = none ↔ af = []) ∧ OM z4 (OT.fr RT.bool) true false ay.w aj aR r) bR ⟨A8, c9, m, V, e, rfl, rfl, lr, (aF.le (a.trans (c.trans (j.trans k)))), W, (aG.le (a.trans (c.trans (j.trans k))))⟩ ?_ ?_
   rintro bx ⟨af, aR⟩ ay _ _ cZ cR ⟨ag, ai, q, aj, r, rfl, rfl, i, aY, az, aZ⟩ ak
   unfold J0 at ak
   have hm := (Q3 ak)
   refine Cr<|tS (lT rfl rfl (by omega))<|Te<|Cs<|j1 rfl<|Ck<|Xn<|Cs<|Cb<|Cr ?_
   obtain ⟨aT, cD, c0, bU, c1, bV, bz, bW, bA, hm⟩ := bF (sz := 1) hm (bw.le i)
   obtain rfl := bV
   refine tS (sI cD rfl rfl bU bA bW z4a)<|tS (sO rfl j4 (bz 0 _ rfl))<|aS rfl<|Te<|Cg<|tS (sL 0 rfl j0y rfl rfl)<|tS (sF rfl q1r)<|tS (sL 1 rfl j4 rfl rfl)<|mV rfl<|tS (sB (v := .agg #[iv u, iv aT]) [(0, iv u), (1, iv aT)] rfl (fun _ => by kernel_rfl)) ?_
   refine mV rfl ?_
   obtain ⟨_, a0, hm⟩ := bS hm
   have a0 := (kS a0).2
   refine tS (sa rfl rfl a0) ?_
   obtain ⟨⟨cE, cG⟩, bB, hm⟩ := bS hm
   have hm := (Q3 hm)
   refine v8 4 rfl<|v8 1 rfl<|v8 4 rfl<|v8 4 rfl<|q6D g q r<|q6D r g q<|q6D q r g<|q9v [_, _, _, _] [_] g q r R rfl<|Tv #[] #[pb s, pb t, pb n] [.agg #[iv u, iv aT], iv (al + 1)] rfl rfl z8p rfl (ih _ _ (⟨u, aT⟩ : LineEnd) (al + 1) E y z A B C ac ad F D af aR s t n x G H I J K L O S T U X Y A3 c4 g ag ai q aj r (aB.le (a.trans (c.trans (j.trans (k.trans i))))) (aA.le (a.trans (c.trans (j.trans (k.trans i))))) (aC.le (a.trans (c.trans (j.trans (k.trans i))))) (aD.le (a.trans (c.trans (j.trans (k.trans i))))) (aE.le (a.trans (c.trans (j.trans (k.trans i))))) (aU.le (a.trans (c.trans (j.trans (k.trans i))))) (h5.le (a.trans (c.trans (j.trans (k.trans i))))) aY az aZ cE cG bB) ?_
   rintro _ c7 _ bC ⟨cH, cJ, a9, cK, ba, rfl, rfl, cO, cP, cQ⟩
   refine z1O [_, _, _, _] [_] g a9 ba R rfl<|Tn<|Xm<|Xn<|Cg<|tS (sa rfl rfl (by omega))<|mV rfl<|Tn ?_
   obtain rfl := o1 hm
   exact jS ⟨cH, cJ, a9, cK, ba, rfl, rfl, ((i.trans bC)), cO, cP, cQ⟩
   rintro ay _ _ ⟨ag, ai, q, aj, r, rfl, rfl, i, aY, az, aZ⟩
   have hm := (Q3 bT)
   refine Cr<|tS (lF rfl rfl (by omega))<|Te<|Cs<|j0 rfl<|Ce<|Xe<|Xe<|Xo ?_
   obtain ⟨rfl, rfl⟩ := j9 hm
   exact eZ ⟨ag, ai, q, aj, r, rfl, rfl, aY, az, aZ⟩ (a.trans (c.trans (j.trans (k.trans i))))
theorem z0n (b : Base) (R : Hp) (ai D E F G H K L I B aj a0 z O S T U V W X Y Z aa ab ac A3 c4 i A8 c9 ad aA s) (bj : FZ RT.str b.w O S D) (a1 : FZ rApiSection b.w T U E) (bk : FZ rApiLink b.w V W F) (bl : FZ rApiSignal b.w X Y G) (bm : FZ rApiGate b.w Z aa H) (a2 : FZ w6 b.w ab ac I) (h5 : OS 125 (OT.fr w6) b.w (sv A3 B c4) B i) (bn : OS 72 (OT.fr z4) b.w (sv A8 aj c9) aj ad) (aM : (A8 = none ↔ aj = [])) (bo : OM z4 (OT.fr RT.bool) true false b.w aA a0 s) (J aH) (hm : H9 ai D E F G H K L I B aj a0 = some (J, aH)):
 CallsG Tryz.prog 99 [pb z, iv ai] b ((z, Cl 165 [sv O D S, sv T E U, sv V F W, sv X G Y, sv Z H aa, iv K, iv L, sv ab I ac, sv A3 B c4, sv A8 aj c9, .map (some aA)]) :: (i ++ (ad ++ (s ++ R)))) (fun v b' hp' => ∃ ak aI al aJ am, .tuple #[] = v ∧ (z, Cl 165 [sv O D S, sv T E U, sv V F W, sv X G Y, sv Z H aa, iv K, iv L, sv ab I ac, sv A3 B c4, sv ak J aI, .map (some aJ)]) :: (i ++ (al ++ (am ++ R))) = hp' ∧ OS 72 (OT.fr z4) b'.w (sv ak J aI) J al ∧ (ak = none ↔ J = []) ∧ OM z4 (OT.fr RT.bool) true false b'.w aJ aH am) := by
 refine fE 47 Tryz.func99 rfl Tryz.ntmps99 rfl ?_
 unfold H9 at hm
 refine Cr<|tD (uB _ rfl rfl) ?_
 rintro _ _ ⟨k, rfl, rfl⟩
 refine tD (uB _ rfl rfl) ?_
 rintro _ _ ⟨m, rfl, rfl⟩
 refine Te<|Cr<|tD (uA [.nilFunc] j0W rfl) ?_
 rintro _ _ ⟨g, rfl, rfl⟩
 refine Te<|Cr<|tS (q4A _ _ rfl rfl)<|tD (uS 0 rfl rfl j2Q rfl rfl (by simp)) ?_
 rintro _ _ rfl
 refine Te ?_
 obtain ⟨⟨t, an, ao⟩, aN, aO⟩ := bS hm
 refine Cj (fun aq e' hp' => ∃ x, [(2, pb k), (4, pb g), (5, pb x)] = e' ∧ (k, Cl 161 [pb z]) :: (g, Cl 183 [.func (.func 119) #[] #[pb k, pb m, pb g]]) :: (x, Cl 125 [iv t, iv an, iv ao]) :: (z, Cl 165 [sv O D S, sv T E U, sv V F W, sv X G Y, sv Z H aa, iv K, iv L, sv ab I ac, sv A3 B c4, sv A8 aj c9, .map (some aA)]) :: (m, Cl 3 [iv ai]) :: (i ++ (ad ++ (s ++ R))) = hp' ∧ b.Le aq) ?_ ?_
 have hm := aN
 obtain ⟨ar, a3, hm⟩ := bS hm
 refine Di Q5 (.refl _)<|Es 0 rfl (sL 2 rfl q5v rfl rfl)<|E0 1 rfl (sN rfl)<|E0 2 rfl (sF rfl q9i)<|E0 3 rfl (sF rfl q0j)<|Es 4 rfl (sL 3 rfl q3J rfl rfl)<|Es 5 rfl (sL 1 rfl j4 rfl rfl) ?_
 obtain ⟨a4, aP, aQ⟩ := iS a3
 obtain ⟨bp, aR, aB, au, aC⟩ := FZ.get (sz := 3) rfl (by decide) a2 aQ
 obtain ⟨_, _, rfl, rfl, ⟨_, _, rfl, rfl, rfl⟩⟩ := aR
 refine E0 6 rfl (sI a4 rfl rfl aP aC au q6w)<|Es 7 rfl (sP (vs := [iv ar.Section, iv ar.In, iv ar.Out]) 3 rfl q3r au rfl (fun j u hu => aB j u hu))<|Eo<|Da [8] (by kernel_rfl) rfl<|Rd2 lr rfl rfl (uA [iv 0, iv 0, iv 0] q3G rfl) ?_ ?_
 rintro _ _ ⟨a5, rfl, rfl⟩
 refine iR<|Da [9] (by kernel_rfl) rfl<|Rd2 lr rfl rfl (uN (vs := [_, _, _]) 0 3 rfl rfl rfl q5t rfl (mc rfl (mc rfl (mc rfl mn))) rfl (by simp)) ?_ ?_
 rintro _ _ rfl
 refine ⟨.inl (by kernel_rfl), ?_⟩
 refine Dd (by kernel_rfl) ?_
 obtain ⟨rfl, rfl, rfl⟩ := q3i hm
 exact jJ ⟨a5, rfl, rfl, lr⟩
 exact Rn
 exact Rn
 rintro aq _ _ ⟨x, rfl, rfl, c⟩
 have hm := q4U aO
 refine Cs ?_
 obtain ⟨a6, a7, hm⟩ := bS hm
 obtain ⟨av, aD, hm⟩ := bS hm
 refine Di Q5 (.refl _)<|Es 0 rfl (sL 0 rfl q5v rfl rfl)<|E0 1 rfl (sN rfl)<|E0 2 rfl (sF rfl q9j)<|E0 3 rfl (sF rfl P7)<|Es 4 rfl (sL 3 rfl q4K rfl rfl)<|E0 5 rfl (sF rfl Q2)<|Es 6 rfl (sL 2 rfl j4 rfl rfl) ?_
 obtain ⟨a8, aT, aU⟩ := iS a7
 obtain ⟨bq, aV, aE, aw, aF⟩ := FZ.get (sz := 7) rfl (by decide) (a1.le c) aU
 obtain ⟨_, _, rfl, rfl, ⟨_, _, rfl, rfl, ⟨_, _, rfl, rfl, ⟨_, _, rfl, rfl, ⟨_, _, rfl, rfl, ⟨_, _, rfl, rfl, rfl⟩⟩⟩⟩⟩⟩ := aV
 refine E0 7 rfl (sI a8 rfl rfl aT aF aw z0y)<|E0 8 rfl (sQ rfl aw q3R)<|Es 9 rfl (sO rfl j4 (aE 0 _ rfl))<|E0 11 rfl (sM rfl)<|Eo<|Da [10] (by kernel_rfl) rfl<|Rd2 lr rfl rfl (uW _ z8i rfl (fun w ho => z0p _ [] a6.Kind av aD) (fun _ _ _ h => h.2.symm)) ?_ ?_
 rintro _ _ ⟨⟨_, rfl, _⟩, rfl⟩
 refine iR<|Dd (by kernel_rfl)<|Xn<|Cb ?_
 obtain ⟨_, aK, hm⟩ := bS hm
 have aK := (kS aK).2
 refine Cp 4 rfl<|Cp 1 rfl<|Cp 4 rfl<|Cp 4 rfl<|Cp 4 rfl<|z6A i ad s<|z6A s i ad<|z6A ad s i ?_
 obtain ⟨⟨n, af⟩, aW, aX⟩ := bS hm
 refine lS (fun o => K1 fun n af => fun A e' hp' => ∃ l p e q f, [(4, pb g), (5, pb x), (26, iv av), (27, iv ((o : Int)))] = e' ∧ (g, Cl 183 [.func (.func 119) #[] #[pb k, pb m, pb g]]) :: (x, Cl 125 [iv t, iv an, iv ao]) :: (z, Cl 165 [sv O D S, sv T E U, sv V F W, sv X G Y, sv Z H aa, iv K, iv L, sv ab I ac, sv A3 B c4, sv l n p, .map (some q)]) :: (k, Cl 161 [pb z]) :: (m, Cl 3 [iv ai]) :: (i ++ (e ++ (f ++ R))) = hp' ∧ aq.Le A ∧ OS 72 (OT.fr z4) A.w (sv l n p) n e ∧ (l = none ↔ n = []) ∧ OM z4 (OT.fr RT.bool) true false A.w q af f) aW ⟨A8, c9, ad, aA, s, rfl, rfl, lr, (bn.le c), aM, (bo.le c)⟩ ?_ ?_
 rintro o ⟨n, af⟩ A _ _ br a9 ⟨l, p, e, q, f, rfl, rfl, d, ag, r, ah⟩ y
 unfold W9 at y
 have hm := Q3 y
 refine Cr<|tS (lT rfl rfl (by omega))<|Te<|Cs<|j1 rfl<|Ck<|Xn<|Cs<|Cb<|Cr<|mV rfl<|aS rfl<|Te ?_
 obtain ⟨ba, aY, aZ⟩ := bS hm
 refine Cj (fun aL e' hp' => [(4, pb g), (5, pb x), (6, iv ((o : Int))), (26, iv av), (27, iv ((o : Int))), (39, bv ba)] = e' ∧ (g, Cl 183 [.func (.func 119) #[] #[pb k, pb m, pb g]]) :: (x, Cl 125 [iv t, iv an, iv ao]) :: (z, Cl 165 [sv O D S, sv T E U, sv V F W, sv X G Y, sv Z H aa, iv K, iv L, sv ab I ac, sv A3 B c4, sv l n p, .map (some q)]) :: (k, Cl 161 [pb z]) :: (m, Cl 3 [iv ai]) :: (i ++ (e ++ (f ++ R))) = hp' ∧ A.Le aL) ?_ ?_
 have hm := aY
 refine Cg<|mV rfl<|tS (sF rfl z5w)<|tS (sL 1 rfl j4 rfl rfl)<|Tb rfl (q2 rfl rfl) (fun ae => ?_) (fun ae => ?_)
 rw [if_pos ae] at hm
 refine mV rfl<|yS<|mV rfl<|yS<|tS (sF rfl q9k)<|yS<|tS (sL 1 rfl j4 rfl rfl)<|yS<|tS (q2 rfl rfl)<|tS (pT rfl rfl)<|Tn ?_
 obtain rfl := o1 hm
 exact jJ ⟨rfl, rfl, lr⟩
 rw [if_neg ae] at hm
 refine mV rfl<|nO<|nO<|nO<|nO<|tS (pF rfl rfl)<|Tn ?_
 obtain rfl := o1 hm
 exact jJ ⟨rfl, rfl, lr⟩
 rintro aL _ _ ⟨rfl, rfl, a⟩
 have hm := aZ
 refine cB hm rfl (fun hm => ?_) fun hm => ?_
 refine Cg<|tS (sL 0 rfl j0y rfl rfl)<|tS (sF rfl Q2)<|tS (sL 1 rfl j4 rfl rfl)<|mV rfl<|tS (sB (v := .agg #[iv t, iv ((o : Int))]) [(0, iv t), (1, iv ((o : Int)))] rfl (fun _ => by kernel_rfl)) ?_
 obtain ⟨⟨bb, bc⟩, C, hm⟩ := bS hm
 obtain ⟨ax, C⟩ := q7j C
 have hm := Q3 hm
 have zz := c.trans (d.trans a)
 refine v8 2 rfl<|v8 1 rfl<|v8 4 rfl<|v8 4 rfl<|q6D i e f<|q6D f i e<|q6D e f i<|q9v [_, _, _, _] [_] i e f R rfl<|Tv #[] #[pb k, pb m, pb g] [.agg #[iv t, iv ((o : Int))], iv 0] rfl rfl z8p rfl (q8p ax _ _ (⟨t, (o : Int)⟩ : LineEnd) 0 ai D E F G H K L I B n af k m g z O S T U V W X Y Z aa ab ac A3 c4 i l p e q f (bj.le zz) (a1.le zz) (bk.le zz) (bl.le zz) (bm.le zz) (a2.le zz) (h5.le zz) (ag.le a) r (ah.le a) bb bc C) ?_
 rintro _ bs _ aG ⟨bd, be, ay, bf, az, rfl, rfl, bg, bh, bi⟩
 refine z1O [_, _, _, _] [_] i ay az R rfl<|Tn<|Xm<|Xn<|Cg<|tS (sa rfl rfl (by omega))<|mV rfl<|Tn ?_
 obtain rfl := o1 hm
 exact jS ⟨bd, be, ay, bf, az, rfl, rfl, ((d.trans (a.trans aG))), bg, bh, bi⟩
 refine Ck<|Xm<|Xn<|Cg<|tS (sa rfl rfl (by omega))<|mV rfl<|Tn ?_
 obtain rfl := o1 hm
 exact jS ⟨l, p, e, q, f, rfl, rfl, ((d.trans a)), (ag.le a), r, (ah.le a)⟩
 rintro A _ _ ⟨l, p, e, q, f, rfl, rfl, d, ag, r, ah⟩
 have hm := Q3 aX
 refine Cr<|tS (lF rfl rfl (by omega))<|Te<|Cs<|j0 rfl<|Ce<|Xe<|Xe<|Xo ?_
 obtain ⟨rfl, rfl⟩ := j9 hm
 exact eZ ⟨l, p, e, q, f, rfl, rfl, ag, r, ah⟩ (c.trans d)
 exact Rn
theorem z3L (b : Base) (R : Hp) (g : ApiNet) (f : ApiRoute) (A2 c3 A5 c6 A8 c9 r s t x y z) (h4 : FZ RT.str b.w A2 c3 g.Stations) (h7 : FZ rApiSection b.w A5 c6 g.Sections) (aq : FZ rApiLink b.w A8 c9 g.Links) (ar : FZ rApiSignal b.w r s g.Signals) (au : FZ rApiGate b.w t x g.Gates) (al : FZ w6 b.w y z f.Steps) (av) (hm : K6 g f = some av):
 CallsG Tryz.prog 59 [.agg #[sv A2 g.Stations c3, sv A5 g.Sections c6, sv A8 g.Links c9, sv r g.Signals s, sv t g.Gates x], .agg #[iv f.From, iv f.To, sv y f.Steps z]] b (R) (fun v b' hp' => ∃ aF bf aG, sv aF av bf = v ∧ (aG ++ R) = hp' ∧ OS 72 (OT.fr z4) b'.w (sv aF av bf) av aG ∧ (aF = none ↔ av = [])) := by
 refine fE 74 Tryz.func59 rfl Tryz.ntmps59 rfl ?_
 unfold K6 at hm
 refine Cr<|tD (uB _ rfl rfl) ?_
 rintro _ _ ⟨ac, rfl, rfl⟩
 refine tD (uB _ rfl rfl) ?_
 rintro _ _ ⟨I, rfl, rfl⟩
 refine aS rfl<|Te ?_
 obtain ⟨⟨A, bw⟩, bh, bi⟩ := bS hm
 refine Cj (fun aw e' hp' => ∃ B C D d F G, [(2, pb ac), (3, pb I), (5, pb B)] = e' ∧ (ac, Cl 28 [sv A2 g.Stations c3, sv A5 g.Sections c6, sv A8 g.Links c9, sv r g.Signals s, sv t g.Gates x]) :: (I, Cl 80 [iv f.From, iv f.To, sv y f.Steps z]) :: (B, Cl 165 [sv A2 g.Stations c3, sv A5 g.Sections c6, sv A8 g.Links c9, sv r g.Signals s, sv t g.Gates x, iv f.From, iv f.To, sv y f.Steps z, sv C A D, sn, .map (some F)]) :: (d ++ (G ++ R)) = hp' ∧ b.Le aw ∧ OS 125 (OT.fr w6) aw.w (sv C A D) A d ∧ OM z4 (OT.fr RT.bool) true false aw.w F bw G) ?_ ?_
 have hm := bh
 obtain ⟨ad, aA, hm⟩ := bS hm
 refine Di Q5 (.refl _)<|Es 0 rfl (sD (vs := [_, _, _, _, _]) 1 5 rfl G9 rfl rfl rfl)<|Es 1 rfl (sD (vs := [_, _, _]) 0 3 rfl z6G rfl rfl rfl)<|Es 2 rfl (sD (vs := [_, _, _, _, _]) 1 5 rfl G9 rfl rfl rfl)<|Es 3 rfl (sD (vs := [_, _, _]) 0 3 rfl z6G rfl rfl rfl)<|Eo<|Da [4, 5] (by kernel_rfl) rfl<|Rg lr rfl rfl _ j0E rfl (q8z _ _ g f A2 c3 A5 c6 A8 c9 r s t x y z h4 h7 aq ar au al ad aA) ?_ ?_
 rintro _ bx _ o ⟨K, L, E, rfl, rfl, aH⟩
 refine iR<|z0N [] [_, _] E R rfl<|Da [5] (by kernel_rfl) rfl<|Rd2 o rfl rfl (q4i z4 (OT.fr RT.bool) true false [_, _] (E ++ R) rfl) ?_ ?_
 rintro _ _ ⟨O, H, rfl, rfl, aI⟩
 refine iR<|Da [6] (by kernel_rfl) rfl ?_
 refine Rd2 o rfl rfl (Stable.does (sB (v := .agg #[sv A2 g.Stations c3, sv A5 g.Sections c6, sv A8 g.Links c9, sv r g.Signals s, sv t g.Gates x, iv f.From, iv f.To, sv y f.Steps z, sv K ad L, sn, .map (some O)]) [(0, .agg #[sv A2 g.Stations c3, sv A5 g.Sections c6, sv A8 g.Links c9, sv r g.Signals s, sv t g.Gates x]), (1, .agg #[iv f.From, iv f.To, sv y f.Steps z]), (2, sv K ad L), (4, .map (some O))] rfl (fun _ => by kernel_rfl))) ?_ ?_
 rintro _ _ ⟨rfl, rfl⟩
 refine iR<|Da [7] (by kernel_rfl) rfl<|Rd2 o rfl rfl (uB _ rfl rfl) ?_ ?_
 rintro _ _ ⟨aJ, rfl, rfl⟩
 refine iR<|Ei o (.cons _ (.cons_cons _ (.cons_cons _ (ss H (ss E (.refl _))))))<|E0 8 rfl (sA rfl)<|Eo<|Dd (by kernel_rfl) ?_
 obtain ⟨rfl, rfl⟩ := j9 hm
 exact jJ ⟨aJ, K, L, E, O, H, rfl, rfl, o, aH, aI⟩
 exact Rn
 exact Rn
 exact Rn
 refine Rd2 lr rfl rfl (q4i z4 (OT.fr RT.bool) true false [_, _] R rfl) ?_ ?_
 rintro _ _ ⟨O, H, rfl, rfl, aI⟩
 refine iR<|Da [4] (by kernel_rfl) rfl<|Rg lr rfl rfl _ j0E rfl (q8z _ _ g f A2 c3 A5 c6 A8 c9 r s t x y z h4 h7 aq ar au al ad aA) ?_ ?_
 rintro _ bx _ o ⟨K, L, E, rfl, rfl, aH⟩
 refine iR<|z0N [] [_, _] E (H ++ R) rfl<|Da [6] (by kernel_rfl) rfl ?_
 refine Rd2 o rfl rfl (Stable.does (sB (v := .agg #[sv A2 g.Stations c3, sv A5 g.Sections c6, sv A8 g.Links c9, sv r g.Signals s, sv t g.Gates x, iv f.From, iv f.To, sv y f.Steps z, sv K ad L, sn, .map (some O)]) [(0, .agg #[sv A2 g.Stations c3, sv A5 g.Sections c6, sv A8 g.Links c9, sv r g.Signals s, sv t g.Gates x]), (1, .agg #[iv f.From, iv f.To, sv y f.Steps z]), (2, sv K ad L), (4, .map (some O))] rfl (fun _ => by kernel_rfl))) ?_ ?_
 rintro _ _ ⟨rfl, rfl⟩
 refine iR<|Da [7] (by kernel_rfl) rfl<|Rd2 o rfl rfl (uB _ rfl rfl) ?_ ?_
 rintro _ _ ⟨aJ, rfl, rfl⟩
 refine iR<|Ei o (.cons _ (.cons_cons _ (.cons_cons _ (ss E (ss H (.refl _))))))<|E0 8 rfl (sA rfl)<|Eo<|Dd (by kernel_rfl) ?_
 obtain ⟨rfl, rfl⟩ := j9 hm
 exact jJ ⟨aJ, K, L, E, O, H, rfl, rfl, o, aH, (aI.le o)⟩
 exact Rn
 exact Rn
 exact Rn
 exact Rn
 rintro aw _ _ ⟨B, C, D, d, F, G, rfl, rfl, c, ae, bz⟩
 have hm := Q3 bi
 refine Cs<|Cr<|tS (sF rfl q0j)<|tS (sL 1 rfl q3J rfl rfl)<|tS (sE rfl q6w)<|mV rfl<|Te<|Cb ?_
 have cb : f.Steps.length ≤ 9223372036854775807 := (FZ.bd (al.le c))
 refine Cp 2 rfl<|Cp 2 rfl<|Cp 2 rfl<|j3w d G<|j3w G d ?_
 obtain ⟨⟨S, aB⟩, bj, bk⟩ := bS hm
 refine lS (fun ax => K1 fun S aB => fun af e' hp' => ∃ T ag k l, [(2, pb ac), (3, pb I), (5, pb B), (20, sv y f.Steps z), (21, iv ((f.Steps.length : Int))), (22, iv ((ax : Int)))] = e' ∧ (ac, Cl 28 [sv A2 g.Stations c3, sv A5 g.Sections c6, sv A8 g.Links c9, sv r g.Signals s, sv t g.Gates x]) :: (I, Cl 80 [iv f.From, iv f.To, sv y f.Steps z]) :: (B, Cl 165 [sv A2 g.Stations c3, sv A5 g.Sections c6, sv A8 g.Links c9, sv r g.Signals s, sv t g.Gates x, iv f.From, iv f.To, sv y f.Steps z, sv C A D, sv T S ag, .map (some F)]) :: (d ++ (k ++ (l ++ R))) = hp' ∧ aw.Le af ∧ OS 72 (OT.fr z4) af.w (sv T S ag) S k ∧ (T = none ↔ S = []) ∧ OM z4 (OT.fr RT.bool) true false af.w F aB l) bj ⟨none, 0, [], G, rfl, rfl, lr, OS.nil, ⟨fun _ => rfl, fun _ => rfl⟩, bz⟩ ?_ ?_
 rintro ax ⟨S, aB⟩ af _ _ cc bA ⟨T, ag, k, l, rfl, rfl, a, aK, am, aL⟩ U
 unfold H5 at U
 have hm := Q3 U
 refine Cr<|tS (lT rfl rfl (by omega))<|Te<|Cs<|j1 rfl<|Ck<|Xn<|Cs<|Cb<|Cr<|mV rfl ?_
 have zz := c.trans a
 obtain ⟨V, bB, cd, bl, ce, bm, a1, aM, a2, hm⟩ := bF (sz := 3) hm (al.le zz)
 obtain ⟨_, _, rfl, rfl, ⟨_, _, rfl, rfl, rfl⟩⟩ := bm
 refine tS (sI bB rfl rfl bl a2 aM q6w)<|tS (sP (vs := [iv V.Section, iv V.In, iv V.Out]) 3 rfl q3r aM rfl (fun j u hu => a1 j u hu))<|tD (uA [iv 0, iv 0, iv 0] q3G rfl) ?_
 rintro _ _ ⟨cn, rfl, rfl⟩
 refine aS rfl<|tD (uN (vs := [_, _, _]) 0 3 rfl rfl rfl q5t rfl (mc rfl (mc rfl (mc rfl mn))) rfl (by simp)) ?_
 rintro _ _ rfl
 refine Te ?_
 obtain ⟨aC, a3, hm⟩ := bS hm
 obtain ⟨⟨bC, bD⟩, a4, hm⟩ := bS hm
 have hm := Q3 hm
 refine Di Q5 (.cons_cons _ (.cons_cons _ (.cons_cons _ (.cons _ (ss d (ss k (ss l (.refl _))))))))<|E0 0 rfl (sM rfl)<|E0 1 rfl (sF rfl Q2)<|Es 2 rfl (sL 0 rfl j4 rfl rfl)<|Es 3 rfl (sD (vs := [_, _, _, _, _]) 1 5 rfl G9 rfl rfl rfl)<|Es 4 rfl (sD (vs := [_, _, _]) 0 3 rfl q3r rfl rfl rfl)<|E0 6 rfl (sM rfl)<|Eo<|Da [5] (by kernel_rfl) rfl ?_
 refine Rd2 lr rfl rfl (uW _ j0D rfl (fun w ho => q7H _ [] g V A2 c3 A5 c6 A8 c9 r s t x ((h4.le zz).old ho) ((h7.le zz).old ho) ((aq.le zz).old ho) ((ar.le zz).old ho) ((au.le zz).old ho) aC a3) (fun _ _ _ h => h.2.symm)) ?_ ?_
 rintro _ _ ⟨⟨_, rfl, _⟩, rfl⟩
 refine iR<|Ei lr (.cons_cons _ (.cons_cons _ (.cons_cons _ (.cons _ (ss d (ss k (ss l (.refl _))))))))<|E0 7 rfl (sB (v := .agg #[iv 1, iv V.Section, iv aC, iv ((ax : Int))]) [(0, iv 1), (1, iv V.Section), (2, iv aC), (3, iv ((ax : Int)))] rfl (fun _ => by kernel_rfl))<|Eo<|q5R 3 rfl<|z6v d k l<|z6v l d k<|z6v k l d<|j0B [_] [_, _, _] d k l R rfl<|Da [8] (by kernel_rfl) rfl ?_
 refine Rg lr rfl rfl _ z3w rfl (q1j _ _ (⟨1, V.Section, aC, (ax : Int)⟩ : ApiNeed) g.Stations g.Sections g.Links g.Signals g.Gates f.From f.To f.Steps A S aB B A2 c3 A5 c6 A8 c9 r s t x y z C D d T ag k F l (h4.le zz) (h7.le zz) (aq.le zz) (ar.le zz) (au.le zz) (al.le zz) (ae.le a) aK am aL bC bD a4) ?_ ?_
 rintro _ co _ a5 ⟨bE, bG, aN, aO, rfl, rfl, bH, bI, bJ⟩
 refine iR<|j3u [_] [_, _, _] d aN aO R rfl<|Dd (by kernel_rfl)<|Xm<|Xn<|Cg<|tS (sa rfl rfl (by omega))<|mV rfl<|Tn ?_
 obtain rfl := o1 hm
 exact jS ⟨bE, bG, aN, aO, rfl, rfl, ((a.trans a5)), bH, bI, bJ⟩
 exact Rn
 exact Rn
 rintro af _ _ ⟨T, ag, k, l, rfl, rfl, a, aK, am, aL⟩
 have hm := Q3 bk
 refine Cr<|tS (lF rfl rfl (by omega))<|Te<|Cs<|j0 rfl<|Ce<|Xe<|Xe<|Xo<|Xn<|Cs<|Cr<|mV rfl<|tS (sN rfl)<|tS (sF rfl z5v)<|tS (sL 2 rfl q3J rfl rfl)<|tS (sE rfl q6w)<|mV rfl<|Te<|Cb ?_
 have cf : A.length ≤ 9223372036854775807 := (OS.len ae)
 refine Cp 2 rfl<|Cp 2 rfl<|Cp 2 rfl<|z2y d k l<|z2y l d k<|z2y k l d ?_
 obtain ⟨⟨W, aD⟩, bn, bo⟩ := bS hm
 refine lS (fun bg => K1 fun W aD => fun ah e' hp' => ∃ X ai m n, [(2, pb ac), (3, pb I), (5, pb B), (40, sv C A D), (41, iv ((A.length : Int))), (42, iv ((bg : Int)))] = e' ∧ (ac, Cl 28 [sv A2 g.Stations c3, sv A5 g.Sections c6, sv A8 g.Links c9, sv r g.Signals s, sv t g.Gates x]) :: (I, Cl 80 [iv f.From, iv f.To, sv y f.Steps z]) :: (B, Cl 165 [sv A2 g.Stations c3, sv A5 g.Sections c6, sv A8 g.Links c9, sv r g.Signals s, sv t g.Gates x, iv f.From, iv f.To, sv y f.Steps z, sv C A D, sv X W ai, .map (some F)]) :: (d ++ (m ++ (n ++ R))) = hp' ∧ af.Le ah ∧ OS 72 (OT.fr z4) ah.w (sv X W ai) W m ∧ (X = none ↔ W = []) ∧ OM z4 (OT.fr RT.bool) true false ah.w F aD n) bn ⟨T, ag, k, l, rfl, rfl, lr, aK, am, aL⟩ ?_ ?_
 rintro bg ⟨W, aD⟩ ah _ _ cg bK ⟨X, ai, m, n, rfl, rfl, e, aP, an, aQ⟩ Y
 unfold H4 at Y
 have hm := Q3 Y
 refine Cr<|tS (lT rfl rfl (by omega))<|Te<|Cs<|j1 rfl<|Ck<|Xn<|Cs<|Cb<|Cr ?_
 obtain ⟨Z, bL, hm⟩ := bS hm
 obtain ⟨bM, bp, bq⟩ := iS bL
 have zy := a.trans e
 obtain ⟨ch, ci, cp, cq, cj, br, a6, aR, a7, ck, ca⟩ := OS.get (sz := 3) rfl (by decide) (ae.le zy) bq
 obtain ⟨⟨_, _, rfl, rfl, ⟨_, _, rfl, rfl, rfl⟩⟩, rfl⟩ := br
 refine tS (sI bM rfl rfl bp a7 aR q6w)<|tS (j8 (vs := [iv Z.Section, iv Z.In, iv Z.Out]) 3 rfl q3r aR rfl (fun w ho j u hu => a6 w _ ho (.cons _ (.cons _ (.cons _ (List.sublist_append_left _ _)))) j u hu))<|tD (uA [iv 0, iv 0, iv 0] q3G rfl) ?_
 rintro _ _ ⟨cr, rfl, rfl⟩
 refine tD (uN (vs := [_, _, _]) 0 3 rfl rfl rfl q5t rfl (mc rfl (mc rfl (mc rfl mn))) rfl (by simp)) ?_
 rintro _ _ rfl
 refine Te ?_
 obtain ⟨aE, a8, hm⟩ := bS hm
 obtain ⟨⟨bN, bO⟩, a9, hm⟩ := bS hm
 have hm := Q3 hm
 refine Di Q5 (.cons_cons _ (.cons_cons _ (.cons_cons _ (.cons _ (ss d (ss m (ss n (.refl _))))))))<|E0 0 rfl (sM rfl)<|E0 1 rfl (sF rfl Q2)<|Es 2 rfl (sL 0 rfl j4 rfl rfl)<|Es 3 rfl (sD (vs := [_, _, _, _, _]) 1 5 rfl G9 rfl rfl rfl)<|Es 4 rfl (sD (vs := [_, _, _]) 0 3 rfl q3r rfl rfl rfl)<|Eo<|Da [5] (by kernel_rfl) rfl ?_
 have zx := c.trans zy
 refine Rd2 lr rfl rfl (uW _ j0D rfl (fun w ho => q7H _ [] g Z A2 c3 A5 c6 A8 c9 r s t x ((h4.le zx).old ho) ((h7.le zx).old ho) ((aq.le zx).old ho) ((ar.le zx).old ho) ((au.le zx).old ho) aE a8) (fun _ _ _ h => h.2.symm)) ?_ ?_
 rintro _ _ ⟨⟨_, rfl, _⟩, rfl⟩
 refine iR<|Ei lr (.cons_cons _ (.cons_cons _ (.cons_cons _ (.cons _ (ss d (ss m (ss n (.refl _))))))))<|E0 6 rfl (sB (v := .agg #[iv 2, iv Z.Section, iv aE, iv ((-1))]) [(0, iv 2), (1, iv Z.Section), (2, iv aE), (3, iv ((-1)))] rfl (fun _ => by kernel_rfl))<|Eo<|q5R 3 rfl<|z6v d m n<|z6v n d m<|z6v m n d<|j0B [_] [_, _, _] d m n R rfl<|Da [7] (by kernel_rfl) rfl ?_
 refine Rg lr rfl rfl _ z3w rfl (q1j _ _ (⟨2, Z.Section, aE, (-1)⟩ : ApiNeed) g.Stations g.Sections g.Links g.Signals g.Gates f.From f.To f.Steps A W aD B A2 c3 A5 c6 A8 c9 r s t x y z C D d X ai m F n (h4.le zx) (h7.le zx) (aq.le zx) (ar.le zx) (au.le zx) (al.le zx) (ae.le zy) aP an aQ bN bO a9) ?_ ?_
 rintro _ cs _ ba ⟨bP, bQ, aT, aU, rfl, rfl, bR, bT, bU⟩
 refine iR<|j3u [_] [_, _, _] d aT aU R rfl<|Dd (by kernel_rfl)<|Xm<|Xn<|Cg<|tS (sa rfl rfl (by omega))<|mV rfl<|Tn ?_
 obtain rfl := o1 hm
 exact jS ⟨bP, bQ, aT, aU, rfl, rfl, ((e.trans ba)), bR, bT, bU⟩
 exact Rn
 exact Rn
 rintro ah _ _ ⟨X, ai, m, n, rfl, rfl, e, aP, an, aQ⟩
 have hm := Q3 bo
 refine Cr<|tS (lF rfl rfl (by omega))<|Te<|Cs<|j0 rfl<|Ce<|Xe<|Xe<|Xo<|Xn<|Cs<|Cr<|tS (sF rfl q0j)<|tS (sL 1 rfl q3J rfl rfl)<|tS (sE rfl q6w)<|mV rfl<|Te<|Cb ?_
 have cl : f.Steps.length ≤ 9223372036854775807 := (FZ.bd (al.le (c.trans (a.trans e))))
 refine Cp 2 rfl<|Cp 2 rfl<|z2y d m n<|z2y n d m<|z2y m n d ?_
 obtain ⟨⟨J, ay⟩, bs, bt⟩ := bS hm
 refine lS (fun aV => K1 fun J ay => fun az e' hp' => ∃ aa aj p ak q, [(3, pb I), (5, pb B), (57, iv ((f.Steps.length : Int))), (58, iv ((aV : Int)))] = e' ∧ (I, Cl 80 [iv f.From, iv f.To, sv y f.Steps z]) :: (B, Cl 165 [sv A2 g.Stations c3, sv A5 g.Sections c6, sv A8 g.Links c9, sv r g.Signals s, sv t g.Gates x, iv f.From, iv f.To, sv y f.Steps z, sv C A D, sv aa J aj, .map (some ak)]) :: (d ++ (p ++ (q ++ R))) = hp' ∧ ah.Le az ∧ OS 72 (OT.fr z4) az.w (sv aa J aj) J p ∧ (aa = none ↔ J = []) ∧ OM z4 (OT.fr RT.bool) true false az.w ak ay q) bs ⟨X, ai, m, F, n, rfl, rfl, lr, aP, an, aQ⟩ ?_ ?_
 rintro aV ⟨J, ay⟩ az _ _ cm bV ⟨aa, aj, p, ak, q, rfl, rfl, i, aW, ao, aX⟩ ab
 unfold H3 at ab
 have hm := Q3 ab
 refine Cr<|tS (lT rfl rfl (by omega))<|Te<|Cs<|j1 rfl<|Ck<|Xn<|Cs<|Cb<|Cr<|mV rfl<|aS rfl<|Te<|Cg<|mV rfl<|mV rfl ?_
 obtain ⟨⟨bW, bX⟩, bb, hm⟩ := bS hm
 have hm := Q3 hm
 have zw := c.trans (a.trans (e.trans i))
 refine v8 1 rfl<|z1N d p q<|z1N q d p<|z1N p q d<|q9v [_] [_] d p q R rfl<|Tg _ rfl j3y rfl (z0n _ _ (aV : Int) g.Stations g.Sections g.Links g.Signals g.Gates f.From f.To f.Steps A J ay B A2 c3 A5 c6 A8 c9 r s t x y z C D d aa aj p ak q (h4.le zw) (h7.le zw) (aq.le zw) (ar.le zw) (au.le zw) (al.le zw) (ae.le (a.trans (e.trans i))) aW ao aX bW bX bb) ?_
 rintro _ ct _ bc ⟨bY, bZ, aY, b0, aZ, rfl, rfl, b1, b2, b3⟩
 refine z1O [_] [_] d aY aZ R rfl<|Tn<|Xm<|Xn<|Cg<|tS (sa rfl rfl (by omega))<|mV rfl<|Tn ?_
 obtain rfl := o1 hm
 exact jS ⟨bY, bZ, aY, b0, aZ, rfl, rfl, ((i.trans bc)), b1, b2, b3⟩
 rintro az _ _ ⟨aa, aj, p, ak, q, rfl, rfl, i, aW, ao, aX⟩
 have hm := Q3 bt
 refine Cr<|tS (lF rfl rfl (by omega))<|Te<|Cs<|j0 rfl<|Ce<|Xe<|Xe<|Xo<|Xn ?_
 refine Cr<|mV rfl<|tS (sF rfl q5N)<|tS (sL 0 rfl j4 rfl rfl)<|tS (sB (v := .agg #[iv 5, iv f.From, iv 0, iv ((-1))]) [(0, iv 5), (1, iv f.From), (3, iv ((-1)))] rfl (fun _ => by kernel_rfl)) ?_
 obtain ⟨⟨b4, b5⟩, bd, hm⟩ := bS hm
 have hm := Q3 hm
 have zv := c.trans (a.trans (e.trans i))
 refine v8 1 rfl<|z1N d p q<|z1N q d p<|z1N p q d<|q9v [_] [_] d p q R rfl<|Tg _ rfl z3w rfl (q1j _ _ (⟨5, f.From, 0, (-1)⟩ : ApiNeed) g.Stations g.Sections g.Links g.Signals g.Gates f.From f.To f.Steps A J ay B A2 c3 A5 c6 A8 c9 r s t x y z C D d aa aj p ak q (h4.le zv) (h7.le zv) (aq.le zv) (ar.le zv) (au.le zv) (al.le zv) (ae.le (a.trans (e.trans i))) aW ao aX b4 b5 bd) ?_
 rintro _ cu _ be ⟨b6, b7, a0, bu, rfl, rfl, b8, b9, cv⟩
 refine z1O [_] [_] d a0 bu R rfl<|Te<|Cr<|mV rfl<|tS (sN rfl)<|tS (sF rfl q9h)<|tS (sL 0 rfl z2X rfl rfl)<|aS rfl<|Te<|Ct ?_
 obtain rfl := o1 hm
 exact rO ⟨b6, b7, a0, rfl, rfl, b8, b9⟩ (c.trans (a.trans (e.trans (i.trans be))))
theorem z6D (b : Base) (R : Hp) (i : ApiNet) (d A2 c3 A5 c6 A8 c9 o p q r) (h4 : FZ RT.str b.w A2 c3 i.Stations) (h7 : FZ rApiSection b.w A5 c6 i.Sections) (H : FZ rApiLink b.w A8 c9 i.Links) (I : FZ rApiSignal b.w o p i.Signals) (J : FZ rApiGate b.w q r i.Gates) (K e) (hm : q6m i d = some (K, e)):
 CallsG Tryz.prog 17 [.agg #[sv A2 i.Stations c3, sv A5 i.Sections c6, sv A8 i.Links c9, sv o i.Signals p, sv q i.Gates r], iv d] b (R) (fun v b' hp' => ∃ C L z, .tuple #[sv C e L, iv K] = v ∧ (z ++ R) = hp' ∧ OS 72 (OT.fr z4) b'.w (sv C e L) e z ∧ (C = none ↔ e = [])) := by
 refine fE 24 Tryz.func17 rfl Tryz.ntmps17 rfl ?_
 unfold q6m at hm
 refine Cr<|tD (uB _ rfl rfl) ?_
 rintro _ _ ⟨ak, rfl, rfl⟩
 refine aS rfl<|aS rfl<|Te<|Cr<|tS (sD (vs := [_, _, _, _, _]) 0 5 rfl G9 rfl rfl rfl)<|mV rfl<|tD (Z3 (el := 3) [(0, iv d)] [iv d] rfl (fun _ => by kernel_rfl)) ?_
 rintro _ _ ⟨f, rfl, rfl⟩
 refine j4V 0 [_] R rfl rfl ?_
 have O : OS 3 (OT.fr rI) b.w (.slice (some ⟨f, 0, none⟩) 1 1) [d] [(f, Cl 3 [iv d])] := OS.lit [[iv d]] rfl ⟨rfl, trivial⟩ rfl (by decide)
 have ae : (((some ⟨f, 0, none⟩) : OA) = none ↔ [d] = []) := ⟨nofun, nofun⟩
 refine z6T [_] [(f, Cl 3 [iv d])] R rfl ?_
 intro al a D
 have S := OS.frz (l := [d]) O a.cells D
 obtain ⟨⟨T, U⟩, s, hm⟩ := bS hm
 have hm := Q3 hm
 refine Tg _ rfl j3K rfl (z8y _ _ i [d] A2 c3 A5 c6 A8 c9 o p q r (some ⟨f, 0, none⟩) 1 (h4.le a) (h7.le a) (H.le a) (I.le a) (J.le a) S T U s) ?_
 rintro _ am _ c ⟨an, ao, k, rfl, rfl, V, aq⟩
 refine q4c [] [_] k R rfl<|mV rfl<|tS (z5 rfl rfl)<|tS (z5 rfl rfl)<|aS rfl<|aS rfl<|Te<|Cs<|Cr<|mV rfl<|tS (q2 rfl rfl)<|Te<|cI hm rfl (fun hm => ?_) fun hm => ?_
 refine Cr<|mV rfl<|aS rfl<|aS rfl<|Te<|Ct<|Xr ?_
 obtain ⟨rfl, rfl⟩ := j9 hm
 exact rT ⟨none, 0, [], rfl, rfl, OS.nil, ⟨fun _ => rfl, fun _ => rfl⟩⟩ (a.trans c)
 refine Ck<|Xn<|Cs ?_
 obtain ⟨g, W, hm⟩ := bS hm
 obtain ⟨X, t, hm⟩ := bS hm
 refine Di Q5 (.refl _)<|Es 0 rfl (sD (vs := [_, _, _, _, _]) 0 5 rfl G9 rfl rfl rfl)<|E0 1 rfl (sM rfl)<|E0 2 rfl (sM rfl) ?_
 obtain ⟨Y, E, F⟩ := iS W
 obtain ⟨ag, ah, ar, au, ai, G, x, m, y, aj, af⟩ := OS.get (sz := 3) rfl (by decide) V F
 obtain ⟨⟨_, _, rfl, rfl, ⟨_, _, rfl, rfl, ⟨A, B, rfl, Z⟩⟩⟩, rfl⟩ := G
 refine E0 3 rfl (sI Y rfl rfl E y m z6Y)<|Es 4 rfl (j8 (vs := [iv g.From, iv g.To, sv A g.Steps B]) 3 rfl z6G m rfl (fun w ho j u hu => x w _ ho (.cons _ (List.sublist_append_left _ _)) j u hu))<|Eo<|Da [5] (by kernel_rfl) rfl ?_
 have zz := a.trans c
 refine Rg lr rfl rfl _ j3J rfl (z3L _ _ i g A2 c3 A5 c6 A8 c9 o p q r A B (h4.le zz) (h7.le zz) (H.le zz) (I.le zz) (J.le zz) Z X t) ?_ ?_
 rintro _ av _ h ⟨aa, ab, n, rfl, rfl, ac, ad⟩
 refine ⟨.inl (by kernel_rfl), ?_⟩
 refine z0N [] [_] n (k ++ R) rfl<|El h<|E0 6 rfl (sA rfl)<|E0 7 rfl (sA rfl)<|Eo<|Dd (by kernel_rfl)<|Xn<|Ct ?_
 obtain ⟨rfl, rfl⟩ := j9 hm
 exact rT ⟨aa, ab, n, rfl, rfl, ac, ad⟩ (a.trans (c.trans h))
 exact Rn
theorem z2C (b : Base) (R : Hp) (Y : ApiNet) (A2 c3 A5 c6 A8 c9 an ao aq ar) (h4 : FZ RT.str b.w A2 c3 Y.Stations) (h7 : FZ rApiSection b.w A5 c6 Y.Sections) (aD : FZ rApiLink b.w A8 c9 Y.Links) (aE : FZ rApiSignal b.w an ao Y.Signals) (aF : FZ rApiGate b.w aq ar Y.Gates) (bt bu bw bx bz bA bB bj bk bW bX) (hm : mLockNew Y = some (bt, bu, bw, bx, bz, bA, bB, bj, bk, bW, bX)):
 CallsG Tryz.prog 6 [.agg #[sv A2 Y.Stations c3, sv A5 Y.Sections c6, sv A8 Y.Links c9, sv an Y.Signals ao, sv aq Y.Gates ar]] b (R) (fun v b' hp' => ∃ (ads : Int → Nat), ∃ bY bZ b0 b1 b2 b3 b4 b5 b6 b7 b8 b9 ca cb cc cd ce bC cf cg bD ch bE bG, .tuple #[pb bY, iv 0] = v ∧ (bY, Cl 57 [sv bZ bt b0, sv b1 bu b2, sv b3 bw b4, sv b5 bx b6, sv b7 bz b8, sv b9 bA ca, sv cb bB cc, sv cd bj ce, sv cf bk cg, .map (some ch)]) :: (bC ++ (bD ++ (bE ++ (bG ++ R)))) = hp' ∧ FZ RT.str b'.w bZ b0 bt ∧ FZ rApiSection b'.w b1 b2 bu ∧ FZ rApiLink b'.w b3 b4 bw ∧ FZ rApiSignal b'.w b5 b6 bx ∧ FZ rApiGate b'.w b7 b8 bz ∧ FZ j3 b'.w b9 ca bA ∧ FZ (RT.list z4) b'.w cb cc bB ∧ OS 59 (OT.fr z7) b'.w (sv cd bj ce) bj bC ∧ OS 127 (OT.fr z8) b'.w (sv cf bk cg) bk bD ∧ OM rI (OT.fr (RT.key ads)) false false b'.w ch bW bE ∧ OAr 85 q9 ads b'.w bX bG) := by
 refine fE 78 Tryz.func6 rfl Tryz.ntmps6 rfl ?_
 unfold mLockNew at hm
 refine Cr<|tD (uB _ rfl rfl) ?_
 rintro _ _ ⟨au, rfl, rfl⟩
 refine aS rfl<|aS rfl<|Te<|Cs<|Cr<|tS (sD (vs := [_, _, _, _, _]) 0 5 rfl G9 rfl rfl rfl) ?_
 obtain ⟨cO, bR, hm⟩ := bS hm
 refine tD (uW _ z5I rfl (fun w ho => q6t _ [] Y A2 c3 A5 c6 A8 c9 an ao aq ar (h4.old ho) (h7.old ho) (aD.old ho) (aE.old ho) (aF.old ho) cO bR) (fun _ _ _ h => h.2.symm)) ?_
 rintro _ _ ⟨⟨_, rfl, _⟩, rfl⟩
 refine aS rfl<|Te<|Cr<|mV rfl<|tS (q2 rfl rfl)<|Te<|cI hm rfl (fun hm => ?_) fun hm => ?_
 refine Cr<|mV rfl<|aS rfl<|aS rfl<|Te<|Ct<|Xr ?_
 cases hm
 refine Ck<|Xn<|Cr<|tS (sD (vs := [_, _, _, _, _]) 0 5 rfl G9 rfl rfl rfl) ?_
 obtain ⟨⟨cP, ac⟩, bT, hm⟩ := bS hm
 have hm := Q3 hm
 refine Tg _ rfl j0g rfl (q5n _ _ Y A2 c3 A5 c6 A8 c9 an ao aq ar h4 h7 aD aE aF cP ac bT) ?_
 rintro _ a5 _ d ⟨ak, al, j, rfl, rfl, ci, d6⟩
 refine q4c [] [_] j R rfl<|mV rfl<|tS (z5 rfl rfl)<|tS (z5 rfl rfl)<|aS rfl<|aS rfl<|Te<|Cs<|Cr<|mV rfl<|tS (q2 rfl rfl)<|Te<|cI hm rfl (fun hm => ?_) fun hm => ?_
 refine Cr<|mV rfl<|aS rfl<|aS rfl<|Te<|Ct<|Xr ?_
 cases hm
 refine Ck<|Xn ?_
 obtain ⟨⟨a9, ba, bb, bc, bd, be, a6, cQ, cR⟩, cl, cm⟩ := bS hm
 refine Cj (fun aA e' hp' => ∃ (ads : Int → Nat), ∃ aJ aN aO aP aQ aR aT aU aV aW aX bl bm aw aY aZ I a0 J K, [(1, pb au), (5, sv ak ac al), (7, pb aJ)] = e' ∧ (au, Cl 28 [sv A2 Y.Stations c3, sv A5 Y.Sections c6, sv A8 Y.Links c9, sv an Y.Signals ao, sv aq Y.Gates ar]) :: (aJ, Cl 57 [sv aN a9 aO, sv aP ba aQ, sv aR bb aT, sv aU bc aV, sv aW bd aX, sv ak ac al, sn, sv bl be bm, sv aY a6 aZ, .map (some a0)]) :: (j ++ (aw ++ (I ++ (J ++ (K ++ R))))) = hp' ∧ a5.Le aA ∧ FZ RT.str aA.w aN aO a9 ∧ FZ rApiSection aA.w aP aQ ba ∧ FZ rApiLink aA.w aR aT bb ∧ FZ rApiSignal aA.w aU aV bc ∧ FZ rApiGate aA.w aW aX bd ∧ OS 59 (OT.fr z7) aA.w (sv bl be bm) be aw ∧ OS 127 (OT.fr z8) aA.w (sv aY a6 aZ) a6 I ∧ OM rI (OT.fr (RT.key ads)) false false aA.w a0 cQ J ∧ OAr 85 q9 ads aA.w cR K) ?_ ?_
 have hm := cl
 obtain ⟨⟨ad, ae, af, ag, ah⟩, am, hm⟩ := bS hm
 have hm := z6P hm
 obtain ⟨Z, G, hm⟩ := bS hm
 obtain ⟨aa, H, hm⟩ := bS hm
 refine z4T ((au, Cl 28 [sv A2 Y.Stations c3, sv A5 Y.Sections c6, sv A8 Y.Links c9, sv an Y.Signals ao, sv aq Y.Gates ar]) :: (j ++ R)) Q5 ?_
 refine z3R (fun aC e' hp' => ∃ (ads : Int → Nat), ∃ e k f m n g o p q s t u x y z A B C, [(1, pb au), (5, sv ak ac al), (26, .agg #[sv q ad s, sv t ae u, sv x af y, sv z ag A, sv B ah C]), (27, sv ak ac al), (31, .slice o (List.replicate Z ((⟨0, false, 0, 0, false⟩ : LockBody) : LockBody)).length p), (35, .slice m (List.replicate aa ((⟨0, false, false⟩ : LockGate) : LockGate)).length n), (36, .map (some k))] = e' ∧ (au, Cl 28 [sv A2 Y.Stations c3, sv A5 Y.Sections c6, sv A8 Y.Links c9, sv an Y.Signals ao, sv aq Y.Gates ar]) :: (e ++ (f ++ (g ++ (j ++ ([] ++ R))))) = hp' ∧ OM rI (OT.fr (RT.key ads)) false false aC.w k ([] : (List (Int × (Option Int)))) e ∧ OS 127 (OT.fr z8) aC.w (.slice m (List.replicate aa ((⟨0, false, false⟩ : LockGate) : LockGate)).length n) (List.replicate aa ((⟨0, false, false⟩ : LockGate) : LockGate)) f ∧ OS 59 (OT.fr z7) aC.w (.slice o (List.replicate Z ((⟨0, false, 0, 0, false⟩ : LockBody) : LockBody)).length p) (List.replicate Z ((⟨0, false, 0, 0, false⟩ : LockBody) : LockBody)) g ∧ OAr 85 q9 ads aC.w ([] : List (Int × LockLocked)) [] ∧ FZ RT.str aC.w q s ad ∧ FZ rApiSection aC.w t u ae ∧ FZ rApiLink aC.w x y af ∧ FZ rApiSignal aC.w z A ag ∧ FZ rApiGate aC.w B C ah) 3 #[true, true, true, true, true, true, true, true, true, true, true, true, false, false, false] ?_ (fun tl687 => ?_)
 rintro aC _ _ aM ⟨ads, e, k, f, m, n, g, o, p, q, s, t, u, x, y, z, A, B, C, rfl, rfl, cT, cU, cV, cW, cX, cY, cZ, c0, c1⟩
 refine Da [12] (by kernel_rfl) rfl ?_
 refine Rd2 aM rfl rfl (Stable.does (sB (v := .agg #[sv q ad s, sv t ae u, sv x af y, sv z ag A, sv B ah C, sv ak ac al, sn, .slice o (List.replicate Z ((⟨0, false, 0, 0, false⟩ : LockBody) : LockBody)).length p, .slice m (List.replicate aa ((⟨0, false, false⟩ : LockGate) : LockGate)).length n, .map (some k)]) [(0, .agg #[sv q ad s, sv t ae u, sv x af y, sv z ag A, sv B ah C]), (1, sv ak ac al), (3, .slice o (List.replicate Z ((⟨0, false, 0, 0, false⟩ : LockBody) : LockBody)).length p), (4, .slice m (List.replicate aa ((⟨0, false, false⟩ : LockGate) : LockGate)).length n), (5, .map (some k))] rfl (fun _ => by kernel_rfl))) ?_ ?_
 rintro _ _ ⟨rfl, rfl⟩
 refine iR<|Da [13] (by kernel_rfl) rfl<|Rd2 aM rfl rfl (uB _ rfl rfl) ?_ ?_
 rintro _ _ ⟨c2, rfl, rfl⟩
 refine iR<|Ei aM (.cons _ (.cons_cons _ (ss e (ss f (ss g (sp j (ss [] (.refl _))))))))<|E0 14 rfl (sA rfl)<|Eo<|Dd (by kernel_rfl) ?_
 obtain ⟨rfl, rfl, rfl, rfl, rfl, rfl, rfl, rfl, rfl⟩ := j4X hm
 exact jJ ⟨ads, c2, q, s, t, u, x, y, z, A, B, C, o, p, g, m, n, f, k, e, [], rfl, rfl, aM, cX, cY, cZ, c0, c1, cV, cU, cT, cW⟩
 exact Rn
 exact Rn
 refine z3R (fun aG e' hp' => ∃ f m n g o p q s t u x y z A B C, [(1, pb au), (5, sv ak ac al), (26, .agg #[sv q ad s, sv t ae u, sv x af y, sv z ag A, sv B ah C]), (27, sv ak ac al), (31, .slice o (List.replicate Z ((⟨0, false, 0, 0, false⟩ : LockBody) : LockBody)).length p), (35, .slice m (List.replicate aa ((⟨0, false, false⟩ : LockGate) : LockGate)).length n)] = e' ∧ (au, Cl 28 [sv A2 Y.Stations c3, sv A5 Y.Sections c6, sv A8 Y.Links c9, sv an Y.Signals ao, sv aq Y.Gates ar]) :: (f ++ (g ++ (j ++ R))) = hp' ∧ OS 127 (OT.fr z8) aG.w (.slice m (List.replicate aa ((⟨0, false, false⟩ : LockGate) : LockGate)).length n) (List.replicate aa ((⟨0, false, false⟩ : LockGate) : LockGate)) f ∧ OS 59 (OT.fr z7) aG.w (.slice o (List.replicate Z ((⟨0, false, 0, 0, false⟩ : LockBody) : LockBody)).length p) (List.replicate Z ((⟨0, false, 0, 0, false⟩ : LockBody) : LockBody)) g ∧ FZ RT.str aG.w q s ad ∧ FZ rApiSection aG.w t u ae ∧ FZ rApiLink aG.w x y af ∧ FZ rApiSignal aG.w z A ag ∧ FZ rApiGate aG.w B C ah) 4 #[true, true, true, true, true, true, true, true, true, true, true, false, false, false, false] ?_ (fun tl697 => ?_)
 rintro aG _ _ bn ⟨f, m, n, g, o, p, q, s, t, u, x, y, z, A, B, C, rfl, rfl, c4, c5, c7, c8, da, db, dc⟩
 obtain ⟨ads, _⟩ : ∃ a : Int → Nat, a = fun _ => 0 := ⟨_, rfl⟩
 refine Da [11] (by kernel_rfl) rfl<|Rd2 bn rfl rfl (q4i rI (OT.fr (RT.key ads)) false false [_] (f ++ (g ++ (j ++ R))) rfl) ?_ ?_
 rintro _ _ ⟨k, e, rfl, rfl, O⟩
 have F : OAr 85 q9 ads aG.w [] [] := OAr.nil Q1
 refine iR ?_
 exact dG tl687 ⟨ads, e, k, f, m, n, g, o, p, q, s, t, u, x, y, z, A, B, C, rfl, rfl, O, c4, c5, F, c7, c8, da, db, dc⟩ bn
 exact Rn
 refine z3R (fun aH e' hp' => ∃ (ads : Int → Nat), ∃ e k g o p q s t u x y z A B C, [(1, pb au), (5, sv ak ac al), (26, .agg #[sv q ad s, sv t ae u, sv x af y, sv z ag A, sv B ah C]), (27, sv ak ac al), (31, .slice o (List.replicate Z ((⟨0, false, 0, 0, false⟩ : LockBody) : LockBody)).length p), (34, iv ((Y.Gates.length : Int))), (36, .map (some k))] = e' ∧ (au, Cl 28 [sv A2 Y.Stations c3, sv A5 Y.Sections c6, sv A8 Y.Links c9, sv an Y.Signals ao, sv aq Y.Gates ar]) :: (e ++ (g ++ (j ++ ([] ++ R)))) = hp' ∧ OM rI (OT.fr (RT.key ads)) false false aH.w k ([] : (List (Int × (Option Int)))) e ∧ OS 59 (OT.fr z7) aH.w (.slice o (List.replicate Z ((⟨0, false, 0, 0, false⟩ : LockBody) : LockBody)).length p) (List.replicate Z ((⟨0, false, 0, 0, false⟩ : LockBody) : LockBody)) g ∧ OAr 85 q9 ads aH.w ([] : List (Int × LockLocked)) [] ∧ FZ RT.str aH.w q s ad ∧ FZ rApiSection aH.w t u ae ∧ FZ rApiLink aH.w x y af ∧ FZ rApiSignal aH.w z A ag ∧ FZ rApiGate aH.w B C ah) 4 #[true, true, true, true, true, true, true, true, true, true, false, true, false, false, false] ?_ (fun tl708 => ?_)
 rintro aH _ _ bo ⟨ads, e, k, g, o, p, q, s, t, u, x, y, z, A, B, C, rfl, rfl, dd, de, df, dg, dh, di, dj, dk⟩
 have H := q1W H
 refine Da [10] (by kernel_rfl) rfl<|Rd2 bo rfl rfl (F0 (r := z8) [_] (e ++ (g ++ (j ++ ([] ++ R)))) [iv 0, bv false, bv false] (⟨0, false, false⟩ : LockGate) aa rfl H.1 rfl rfl q9E q5L rfl rfl rfl (by decide) ⟨[iv 0], _, rfl, rfl, ⟨[bv false], _, rfl, rfl, rfl⟩⟩ H.2.1 H.2.2) ?_ ?_
 rintro _ _ ⟨f, rfl, D⟩
 obtain ⟨m, n, rfl, _⟩ := D.form
 refine iR ?_
 exact dG tl687 ⟨ads, e, k, f, m, n, g, o, p, q, s, t, u, x, y, z, A, B, C, rfl, rfl, dd, D, de, df, dg, dh, di, dj, dk⟩ bo
 exact Rn
 refine z3R (fun aI e' hp' => ∃ (ads : Int → Nat), ∃ e k f m n q s t u x y z A B C, [(1, pb au), (5, sv ak ac al), (26, .agg #[sv q ad s, sv t ae u, sv x af y, sv z ag A, sv B ah C]), (27, sv ak ac al), (30, iv ((Y.Sections.length : Int))), (35, .slice m (List.replicate aa ((⟨0, false, false⟩ : LockGate) : LockGate)).length n), (36, .map (some k))] = e' ∧ (au, Cl 28 [sv A2 Y.Stations c3, sv A5 Y.Sections c6, sv A8 Y.Links c9, sv an Y.Signals ao, sv aq Y.Gates ar]) :: (e ++ (f ++ (j ++ ([] ++ R)))) = hp' ∧ OM rI (OT.fr (RT.key ads)) false false aI.w k ([] : (List (Int × (Option Int)))) e ∧ OS 127 (OT.fr z8) aI.w (.slice m (List.replicate aa ((⟨0, false, false⟩ : LockGate) : LockGate)).length n) (List.replicate aa ((⟨0, false, false⟩ : LockGate) : LockGate)) f ∧ OAr 85 q9 ads aI.w ([] : List (Int × LockLocked)) [] ∧ FZ RT.str aI.w q s ad ∧ FZ rApiSection aI.w t u ae ∧ FZ rApiLink aI.w x y af ∧ FZ rApiSignal aI.w z A ag ∧ FZ rApiGate aI.w B C ah) 4 #[true, true, true, true, true, true, false, true, true, true, true, true, false, false, false] ?_ (fun tl719 => ?_)
 rintro aI _ _ bp ⟨ads, e, k, f, m, n, q, s, t, u, x, y, z, A, B, C, rfl, rfl, dl, dm, dn, dp, dq, dr, ds, dt⟩
 have G := q1W G
 refine Da [6] (by kernel_rfl) rfl<|Rd2 bp rfl rfl (F0 (r := z7) [_] (e ++ (f ++ (j ++ ([] ++ R)))) [iv 0, bv false, iv 0, iv 0, bv false] (⟨0, false, 0, 0, false⟩ : LockBody) Z rfl G.1 rfl rfl q4e q9L rfl rfl rfl (by decide) ⟨[iv 0], _, rfl, rfl, ⟨[bv false], _, rfl, rfl, ⟨[iv 0], _, rfl, rfl, ⟨[iv 0], _, rfl, rfl, rfl⟩⟩⟩⟩ G.2.1 G.2.2) ?_ ?_
 rintro _ _ ⟨g, rfl, E⟩
 obtain ⟨o, p, rfl, _⟩ := E.form
 refine iR ?_
 exact dG tl687 ⟨ads, e, k, f, m, n, g, o, p, q, s, t, u, x, y, z, A, B, C, rfl, rfl, dl, dm, E, dn, dp, dq, dr, ds, dt⟩ bp
 exact Rn
 refine z3R (fun bf e' hp' => ∃ (ads : Int → Nat), ∃ e k f m n g o p, [(1, pb au), (5, sv ak ac al), (25, .agg #[sv A2 Y.Stations c3, sv A5 Y.Sections c6, sv A8 Y.Links c9, sv an Y.Signals ao, sv aq Y.Gates ar]), (27, sv ak ac al), (31, .slice o (List.replicate Z ((⟨0, false, 0, 0, false⟩ : LockBody) : LockBody)).length p), (35, .slice m (List.replicate aa ((⟨0, false, false⟩ : LockGate) : LockGate)).length n), (36, .map (some k))] = e' ∧ (au, Cl 28 [sv A2 Y.Stations c3, sv A5 Y.Sections c6, sv A8 Y.Links c9, sv an Y.Signals ao, sv aq Y.Gates ar]) :: (e ++ (f ++ (g ++ (j ++ ([] ++ R))))) = hp' ∧ OM rI (OT.fr (RT.key ads)) false false bf.w k ([] : (List (Int × (Option Int)))) e ∧ OS 127 (OT.fr z8) bf.w (.slice m (List.replicate aa ((⟨0, false, false⟩ : LockGate) : LockGate)).length n) (List.replicate aa ((⟨0, false, false⟩ : LockGate) : LockGate)) f ∧ OS 59 (OT.fr z7) bf.w (.slice o (List.replicate Z ((⟨0, false, 0, 0, false⟩ : LockBody) : LockBody)).length p) (List.replicate Z ((⟨0, false, 0, 0, false⟩ : LockBody) : LockBody)) g ∧ OAr 85 q9 ads bf.w ([] : List (Int × LockLocked)) []) 4 #[true, false, true, true, true, true, true, true, true, true, true, true, false, false, false] ?_ (fun tl726 => ?_)
 rintro bf _ _ ax ⟨ads, e, k, f, m, n, g, o, p, rfl, rfl, du, dv, dw, dx⟩
 refine Da [1] (by kernel_rfl) rfl ?_
 have zz := d.trans ax
 refine Rg ax rfl rfl _ q5U rfl (q2t _ _ Y A2 c3 A5 c6 A8 c9 an ao aq ar (h4.le zz) (h7.le zz) (aD.le zz) (aE.le zz) (aF.le zz) ad ae af ag ah am) ?_ ?_
 rintro _ av _ c ⟨q, s, t, u, x, y, z, A, B, C, rfl, rfl, S, T, U, V, W⟩
 refine iR ?_
 exact dG tl687 ⟨ads, e, k, f, m, n, g, o, p, q, s, t, u, x, y, z, A, B, C, rfl, rfl, (du.le c), (dv.le c), (dw.le c), (dx.le c), S, T, U, V, W⟩ (ax.trans c)
 exact Rn
 refine Ei lr (.refl _)<|Es 0 rfl (sD (vs := [_, _, _, _, _]) 0 5 rfl G9 rfl rfl rfl)<|E0 2 rfl (sM rfl)<|E0 3 rfl (sF rfl P7)<|Es 4 rfl (sL 0 rfl q4K rfl rfl)<|E0 5 rfl (sE rfl z0y)<|E0 7 rfl (sF rfl q5h)<|Es 8 rfl (sL 0 rfl z2e rfl rfl)<|E0 9 rfl (sE rfl z5d)<|Eo ?_
 have G := q1W G
 have H := q1W H
 obtain ⟨ads, _⟩ : ∃ a : Int → Nat, a = fun _ => 0 := ⟨_, rfl⟩
 refine Da [1, 6, 10, 11] (by kernel_rfl) rfl<|Rg lr rfl rfl _ q5U rfl (q2t _ _ Y A2 c3 A5 c6 A8 c9 an ao aq ar (h4.le d) (h7.le d) (aD.le d) (aE.le d) (aF.le d) ad ae af ag ah am) ?_ ?_
 rintro _ av _ c ⟨q, s, t, u, x, y, z, A, B, C, rfl, rfl, S, T, U, V, W⟩
 refine iR<|Da [6, 10, 11] (by kernel_rfl) rfl<|Rd2 c rfl rfl (F0 (r := z7) [_] (j ++ R) [iv 0, bv false, iv 0, iv 0, bv false] (⟨0, false, 0, 0, false⟩ : LockBody) Z rfl G.1 rfl rfl q4e q9L rfl rfl rfl (by decide) ⟨[iv 0], _, rfl, rfl, ⟨[bv false], _, rfl, rfl, ⟨[iv 0], _, rfl, rfl, ⟨[iv 0], _, rfl, rfl, rfl⟩⟩⟩⟩ G.2.1 G.2.2) ?_ ?_
 rintro _ _ ⟨g, rfl, E⟩
 obtain ⟨o, p, rfl, _⟩ := E.form
 refine iR<|Da [10, 11] (by kernel_rfl) rfl<|Rd2 c rfl rfl (F0 (r := z8) [_] (g ++ (j ++ R)) [iv 0, bv false, bv false] (⟨0, false, false⟩ : LockGate) aa rfl H.1 rfl rfl q9E q5L rfl rfl rfl (by decide) ⟨[iv 0], _, rfl, rfl, ⟨[bv false], _, rfl, rfl, rfl⟩⟩ H.2.1 H.2.2) ?_ ?_
 rintro _ _ ⟨f, rfl, D⟩
 obtain ⟨m, n, rfl, _⟩ := D.form
 refine iR ?_
 exact dG tl697 ⟨f, m, n, g, o, p, q, s, t, u, x, y, z, A, B, C, rfl, rfl, D, E, S, T, U, V, W⟩ c
 refine Rd2 c rfl rfl (q4i rI (OT.fr (RT.key ads)) false false [_] (g ++ (j ++ R)) rfl) ?_ ?_
 rintro _ _ ⟨k, e, rfl, rfl, O⟩
 have F : OAr 85 q9 ads av.w [] [] := OAr.nil Q1
 refine iR ?_
 exact dG tl708 ⟨ads, e, k, g, o, p, q, s, t, u, x, y, z, A, B, C, rfl, rfl, O, E, F, S, T, U, V, W⟩ c
 exact Rn
 refine Rd2 c rfl rfl (F0 (r := z8) [_] (j ++ R) [iv 0, bv false, bv false] (⟨0, false, false⟩ : LockGate) aa rfl H.1 rfl rfl q9E q5L rfl rfl rfl (by decide) ⟨[iv 0], _, rfl, rfl, ⟨[bv false], _, rfl, rfl, rfl⟩⟩ H.2.1 H.2.2) ?_ ?_
 rintro _ _ ⟨f, rfl, D⟩
 obtain ⟨m, n, rfl, _⟩ := D.form
 refine iR<|Da [6, 11] (by kernel_rfl) rfl<|Rd2 c rfl rfl (F0 (r := z7) [_] (f ++ (j ++ R)) [iv 0, bv false, iv 0, iv 0, bv false] (⟨0, false, 0, 0, false⟩ : LockBody) Z rfl G.1 rfl rfl q4e q9L rfl rfl rfl (by decide) ⟨[iv 0], _, rfl, rfl, ⟨[bv false], _, rfl, rfl, ⟨[iv 0], _, rfl, rfl, ⟨[iv 0], _, rfl, rfl, rfl⟩⟩⟩⟩ G.2.1 G.2.2) ?_ ?_
 rintro _ _ ⟨g, rfl, E⟩
 obtain ⟨o, p, rfl, _⟩ := E.form
 refine iR ?_
 exact dG tl697 ⟨f, m, n, g, o, p, q, s, t, u, x, y, z, A, B, C, rfl, rfl, D, E, S, T, U, V, W⟩ c
 refine Rd2 c rfl rfl (q4i rI (OT.fr (RT.key ads)) false false [_] (f ++ (j ++ R)) rfl) ?_ ?_
 rintro _ _ ⟨k, e, rfl, rfl, O⟩
 have F : OAr 85 q9 ads av.w [] [] := OAr.nil Q1
 refine iR ?_
 exact dG tl719 ⟨ads, e, k, f, m, n, q, s, t, u, x, y, z, A, B, C, rfl, rfl, O, D, F, S, T, U, V, W⟩ c
 exact Rn
 refine Rd2 c rfl rfl (q4i rI (OT.fr (RT.key ads)) false false [_] (j ++ R) rfl) ?_ ?_
 rintro _ _ ⟨k, e, rfl, rfl, O⟩
 have F : OAr 85 q9 ads av.w [] [] := OAr.nil Q1
 refine iR<|Da [6, 10] (by kernel_rfl) rfl<|Rd2 c rfl rfl (F0 (r := z7) [_] (e ++ (j ++ ([] ++ R))) [iv 0, bv false, iv 0, iv 0, bv false] (⟨0, false, 0, 0, false⟩ : LockBody) Z rfl G.1 rfl rfl q4e q9L rfl rfl rfl (by decide) ⟨[iv 0], _, rfl, rfl, ⟨[bv false], _, rfl, rfl, ⟨[iv 0], _, rfl, rfl, ⟨[iv 0], _, rfl, rfl, rfl⟩⟩⟩⟩ G.2.1 G.2.2) ?_ ?_
 rintro _ _ ⟨g, rfl, E⟩
 obtain ⟨o, p, rfl, _⟩ := E.form
 refine iR ?_
 exact dG tl708 ⟨ads, e, k, g, o, p, q, s, t, u, x, y, z, A, B, C, rfl, rfl, O, E, F, S, T, U, V, W⟩ c
 refine Rd2 c rfl rfl (F0 (r := z8) [_] (e ++ (j ++ ([] ++ R))) [iv 0, bv false, bv false] (⟨0, false, false⟩ : LockGate) aa rfl H.1 rfl rfl q9E q5L rfl rfl rfl (by decide) ⟨[iv 0], _, rfl, rfl, ⟨[bv false], _, rfl, rfl, rfl⟩⟩ H.2.1 H.2.2) ?_ ?_
 rintro _ _ ⟨f, rfl, D⟩
 obtain ⟨m, n, rfl, _⟩ := D.form
 refine iR ?_
 exact dG tl719 ⟨ads, e, k, f, m, n, q, s, t, u, x, y, z, A, B, C, rfl, rfl, O, D, F, S, T, U, V, W⟩ c
 exact Rn
 exact Rn
 refine Rd2 lr rfl rfl (F0 (r := z7) [_] (j ++ R) [iv 0, bv false, iv 0, iv 0, bv false] (⟨0, false, 0, 0, false⟩ : LockBody) Z rfl G.1 rfl rfl q4e q9L rfl rfl rfl (by decide) ⟨[iv 0], _, rfl, rfl, ⟨[bv false], _, rfl, rfl, ⟨[iv 0], _, rfl, rfl, ⟨[iv 0], _, rfl, rfl, rfl⟩⟩⟩⟩ G.2.1 G.2.2) ?_ ?_
 rintro _ _ ⟨g, rfl, E⟩
 obtain ⟨o, p, rfl, _⟩ := E.form
 refine iR<|Da [1, 10, 11] (by kernel_rfl) rfl<|Rg lr rfl rfl _ q5U rfl (q2t _ _ Y A2 c3 A5 c6 A8 c9 an ao aq ar (h4.le d) (h7.le d) (aD.le d) (aE.le d) (aF.le d) ad ae af ag ah am) ?_ ?_
 rintro _ av _ c ⟨q, s, t, u, x, y, z, A, B, C, rfl, rfl, S, T, U, V, W⟩
 refine iR<|Da [10, 11] (by kernel_rfl) rfl<|Rd2 c rfl rfl (F0 (r := z8) [_] (g ++ (j ++ R)) [iv 0, bv false, bv false] (⟨0, false, false⟩ : LockGate) aa rfl H.1 rfl rfl q9E q5L rfl rfl rfl (by decide) ⟨[iv 0], _, rfl, rfl, ⟨[bv false], _, rfl, rfl, rfl⟩⟩ H.2.1 H.2.2) ?_ ?_
 rintro _ _ ⟨f, rfl, D⟩
 obtain ⟨m, n, rfl, _⟩ := D.form
 refine iR ?_
 exact dG tl697 ⟨f, m, n, g, o, p, q, s, t, u, x, y, z, A, B, C, rfl, rfl, D, (E.le c), S, T, U, V, W⟩ c
 refine Rd2 c rfl rfl (q4i rI (OT.fr (RT.key ads)) false false [_] (g ++ (j ++ R)) rfl) ?_ ?_
 rintro _ _ ⟨k, e, rfl, rfl, O⟩
 have F : OAr 85 q9 ads av.w [] [] := OAr.nil Q1
 refine iR ?_
 exact dG tl708 ⟨ads, e, k, g, o, p, q, s, t, u, x, y, z, A, B, C, rfl, rfl, O, (E.le c), F, S, T, U, V, W⟩ c
 exact Rn
 refine Rd2 lr rfl rfl (F0 (r := z8) [_] (g ++ (j ++ R)) [iv 0, bv false, bv false] (⟨0, false, false⟩ : LockGate) aa rfl H.1 rfl rfl q9E q5L rfl rfl rfl (by decide) ⟨[iv 0], _, rfl, rfl, ⟨[bv false], _, rfl, rfl, rfl⟩⟩ H.2.1 H.2.2) ?_ ?_
 rintro _ _ ⟨f, rfl, D⟩
 obtain ⟨m, n, rfl, _⟩ := D.form
 refine iR<|Da [1, 11] (by kernel_rfl) rfl<|Rg lr rfl rfl _ q5U rfl (q2t _ _ Y A2 c3 A5 c6 A8 c9 an ao aq ar (h4.le d) (h7.le d) (aD.le d) (aE.le d) (aF.le d) ad ae af ag ah am) ?_ ?_
 rintro _ av _ c ⟨q, s, t, u, x, y, z, A, B, C, rfl, rfl, S, T, U, V, W⟩
 refine iR ?_
 exact dG tl697 ⟨f, m, n, g, o, p, q, s, t, u, x, y, z, A, B, C, rfl, rfl, (D.le c), (E.le c), S, T, U, V, W⟩ c
 refine Rd2 lr rfl rfl (q4i rI (OT.fr (RT.key ads)) false false [_] (f ++ (g ++ (j ++ R))) rfl) ?_ ?_
 rintro _ _ ⟨k, e, rfl, rfl, O⟩
 have F : OAr 85 q9 ads a5.w [] [] := OAr.nil Q1
 refine iR ?_
 exact dG tl726 ⟨ads, e, k, f, m, n, g, o, p, rfl, rfl, O, D, E, F⟩ lr
 exact Rn
 refine Rd2 lr rfl rfl (q4i rI (OT.fr (RT.key ads)) false false [_] (g ++ (j ++ R)) rfl) ?_ ?_
 rintro _ _ ⟨k, e, rfl, rfl, O⟩
 have F : OAr 85 q9 ads a5.w [] [] := OAr.nil Q1
 refine iR<|Da [1, 10] (by kernel_rfl) rfl<|Rg lr rfl rfl _ q5U rfl (q2t _ _ Y A2 c3 A5 c6 A8 c9 an ao aq ar (h4.le d) (h7.le d) (aD.le d) (aE.le d) (aF.le d) ad ae af ag ah am) ?_ ?_
 rintro _ av _ c ⟨q, s, t, u, x, y, z, A, B, C, rfl, rfl, S, T, U, V, W⟩
 refine iR ?_
 exact dG tl708 ⟨ads, e, k, g, o, p, q, s, t, u, x, y, z, A, B, C, rfl, rfl, (O.le c), (E.le c), (F.le c), S, T, U, V, W⟩ c
 refine Rd2 lr rfl rfl (F0 (r := z8) [_] (e ++ (g ++ (j ++ ([] ++ R)))) [iv 0, bv false, bv false] (⟨0, false, false⟩ : LockGate) aa rfl H.1 rfl rfl q9E q5L rfl rfl rfl (by decide) ⟨[iv 0], _, rfl, rfl, ⟨[bv false], _, rfl, rfl, rfl⟩⟩ H.2.1 H.2.2) ?_ ?_
 rintro _ _ ⟨f, rfl, D⟩
 obtain ⟨m, n, rfl, _⟩ := D.form
 refine iR ?_
 exact dG tl726 ⟨ads, e, k, f, m, n, g, o, p, rfl, rfl, O, D, E, F⟩ lr
 exact Rn
 exact Rn
 refine Rd2 lr rfl rfl (F0 (r := z8) [_] (j ++ R) [iv 0, bv false, bv false] (⟨0, false, false⟩ : LockGate) aa rfl H.1 rfl rfl q9E q5L rfl rfl rfl (by decide) ⟨[iv 0], _, rfl, rfl, ⟨[bv false], _, rfl, rfl, rfl⟩⟩ H.2.1 H.2.2) ?_ ?_
 rintro _ _ ⟨f, rfl, D⟩
 obtain ⟨m, n, rfl, _⟩ := D.form
 refine iR<|Da [1, 6, 11] (by kernel_rfl) rfl<|Rg lr rfl rfl _ q5U rfl (q2t _ _ Y A2 c3 A5 c6 A8 c9 an ao aq ar (h4.le d) (h7.le d) (aD.le d) (aE.le d) (aF.le d) ad ae af ag ah am) ?_ ?_
 rintro _ av _ c ⟨q, s, t, u, x, y, z, A, B, C, rfl, rfl, S, T, U, V, W⟩
 refine iR<|Da [6, 11] (by kernel_rfl) rfl<|Rd2 c rfl rfl (F0 (r := z7) [_] (f ++ (j ++ R)) [iv 0, bv false, iv 0, iv 0, bv false] (⟨0, false, 0, 0, false⟩ : LockBody) Z rfl G.1 rfl rfl q4e q9L rfl rfl rfl (by decide) ⟨[iv 0], _, rfl, rfl, ⟨[bv false], _, rfl, rfl, ⟨[iv 0], _, rfl, rfl, ⟨[iv 0], _, rfl, rfl, rfl⟩⟩⟩⟩ G.2.1 G.2.2) ?_ ?_
 rintro _ _ ⟨g, rfl, E⟩
 obtain ⟨o, p, rfl, _⟩ := E.form
 refine iR ?_
 exact dG tl697 ⟨f, m, n, g, o, p, q, s, t, u, x, y, z, A, B, C, rfl, rfl, (D.le c), E, S, T, U, V, W⟩ c
 refine Rd2 c rfl rfl (q4i rI (OT.fr (RT.key ads)) false false [_] (f ++ (j ++ R)) rfl) ?_ ?_
 rintro _ _ ⟨k, e, rfl, rfl, O⟩
 have F : OAr 85 q9 ads av.w [] [] := OAr.nil Q1
 refine iR ?_
 exact dG tl719 ⟨ads, e, k, f, m, n, q, s, t, u, x, y, z, A, B, C, rfl, rfl, O, (D.le c), F, S, T, U, V, W⟩ c
 exact Rn
 refine Rd2 lr rfl rfl (F0 (r := z7) [_] (f ++ (j ++ R)) [iv 0, bv false, iv 0, iv 0, bv false] (⟨0, false, 0, 0, false⟩ : LockBody) Z rfl G.1 rfl rfl q4e q9L rfl rfl rfl (by decide) ⟨[iv 0], _, rfl, rfl, ⟨[bv false], _, rfl, rfl, ⟨[iv 0], _, rfl, rfl, ⟨[iv 0], _, rfl, rfl, rfl⟩⟩⟩⟩ G.2.1 G.2.2) ?_ ?_
 rintro _ _ ⟨g, rfl, E⟩
 obtain ⟨o, p, rfl, _⟩ := E.form
 refine iR<|Da [1, 11] (by kernel_rfl) rfl<|Rg lr rfl rfl _ q5U rfl (q2t _ _ Y A2 c3 A5 c6 A8 c9 an ao aq ar (h4.le d) (h7.le d) (aD.le d) (aE.le d) (aF.le d) ad ae af ag ah am) ?_ ?_
 rintro _ av _ c ⟨q, s, t, u, x, y, z, A, B, C, rfl, rfl, S, T, U, V, W⟩
 refine iR ?_
 exact dG tl697 ⟨f, m, n, g, o, p, q, s, t, u, x, y, z, A, B, C, rfl, rfl, (D.le c), (E.le c), S, T, U, V, W⟩ c
 refine Rd2 lr rfl rfl (q4i rI (OT.fr (RT.key ads)) false false [_] (g ++ (f ++ (j ++ R))) rfl) ?_ ?_
 rintro _ _ ⟨k, e, rfl, rfl, O⟩
 have F : OAr 85 q9 ads a5.w [] [] := OAr.nil Q1
 refine iR ?_
 exact dG tl726 ⟨ads, e, k, f, m, n, g, o, p, rfl, rfl, O, D, E, F⟩ lr
 exact Rn
 refine Rd2 lr rfl rfl (q4i rI (OT.fr (RT.key ads)) false false [_] (f ++ (j ++ R)) rfl) ?_ ?_
 rintro _ _ ⟨k, e, rfl, rfl, O⟩
 have F : OAr 85 q9 ads a5.w [] [] := OAr.nil Q1
 refine iR<|Da [1, 6] (by kernel_rfl) rfl<|Rg lr rfl rfl _ q5U rfl (q2t _ _ Y A2 c3 A5 c6 A8 c9 an ao aq ar (h4.le d) (h7.le d) (aD.le d) (aE.le d) (aF.le d) ad ae af ag ah am) ?_ ?_
 rintro _ av _ c ⟨q, s, t, u, x, y, z, A, B, C, rfl, rfl, S, T, U, V, W⟩
 refine iR ?_
 exact dG tl719 ⟨ads, e, k, f, m, n, q, s, t, u, x, y, z, A, B, C, rfl, rfl, (O.le c), (D.le c), (F.le c), S, T, U, V, W⟩ c
 refine Rd2 lr rfl rfl (F0 (r := z7) [_] (e ++ (f ++ (j ++ ([] ++ R)))) [iv 0, bv false, iv 0, iv 0, bv false] (⟨0, false, 0, 0, false⟩ : LockBody) Z rfl G.1 rfl rfl q4e q9L rfl rfl rfl (by decide) ⟨[iv 0], _, rfl, rfl, ⟨[bv false], _, rfl, rfl, ⟨[iv 0], _, rfl, rfl, ⟨[iv 0], _, rfl, rfl, rfl⟩⟩⟩⟩ G.2.1 G.2.2) ?_ ?_
 rintro _ _ ⟨g, rfl, E⟩
 obtain ⟨o, p, rfl, _⟩ := E.form
 refine iR ?_
 exact dG tl726 ⟨ads, e, k, f, m, n, g, o, p, rfl, rfl, O, D, E, F⟩ lr
 exact Rn
 exact Rn
 refine Rd2 lr rfl rfl (q4i rI (OT.fr (RT.key ads)) false false [_] (j ++ R) rfl) ?_ ?_
 rintro _ _ ⟨k, e, rfl, rfl, O⟩
 have F : OAr 85 q9 ads a5.w [] [] := OAr.nil Q1
 refine iR<|Da [1, 6, 10] (by kernel_rfl) rfl<|Rg lr rfl rfl _ q5U rfl (q2t _ _ Y A2 c3 A5 c6 A8 c9 an ao aq ar (h4.le d) (h7.le d) (aD.le d) (aE.le d) (aF.le d) ad ae af ag ah am) ?_ ?_
 rintro _ av _ c ⟨q, s, t, u, x, y, z, A, B, C, rfl, rfl, S, T, U, V, W⟩
 refine iR<|Da [6, 10] (by kernel_rfl) rfl<|Rd2 c rfl rfl (F0 (r := z7) [_] (e ++ (j ++ ([] ++ R))) [iv 0, bv false, iv 0, iv 0, bv false] (⟨0, false, 0, 0, false⟩ : LockBody) Z rfl G.1 rfl rfl q4e q9L rfl rfl rfl (by decide) ⟨[iv 0], _, rfl, rfl, ⟨[bv false], _, rfl, rfl, ⟨[iv 0], _, rfl, rfl, ⟨[iv 0], _, rfl, rfl, rfl⟩⟩⟩⟩ G.2.1 G.2.2) ?_ ?_
 rintro _ _ ⟨g, rfl, E⟩
 obtain ⟨o, p, rfl, _⟩ := E.form
 refine iR ?_
 exact dG tl708 ⟨ads, e, k, g, o, p, q, s, t, u, x, y, z, A, B, C, rfl, rfl, (O.le c), E, (F.le c), S, T, U, V, W⟩ c
 refine Rd2 c rfl rfl (F0 (r := z8) [_] (e ++ (j ++ ([] ++ R))) [iv 0, bv false, bv false] (⟨0, false, false⟩ : LockGate) aa rfl H.1 rfl rfl q9E q5L rfl rfl rfl (by decide) ⟨[iv 0], _, rfl, rfl, ⟨[bv false], _, rfl, rfl, rfl⟩⟩ H.2.1 H.2.2) ?_ ?_
 rintro _ _ ⟨f, rfl, D⟩
 obtain ⟨m, n, rfl, _⟩ := D.form
 refine iR ?_
 exact dG tl719 ⟨ads, e, k, f, m, n, q, s, t, u, x, y, z, A, B, C, rfl, rfl, (O.le c), D, (F.le c), S, T, U, V, W⟩ c
 exact Rn
 refine Rd2 lr rfl rfl (F0 (r := z7) [_] (e ++ (j ++ ([] ++ R))) [iv 0, bv false, iv 0, iv 0, bv false] (⟨0, false, 0, 0, false⟩ : LockBody) Z rfl G.1 rfl rfl q4e q9L rfl rfl rfl (by decide) ⟨[iv 0], _, rfl, rfl, ⟨[bv false], _, rfl, rfl, ⟨[iv 0], _, rfl, rfl, ⟨[iv 0], _, rfl, rfl, rfl⟩⟩⟩⟩ G.2.1 G.2.2) ?_ ?_
 rintro _ _ ⟨g, rfl, E⟩
 obtain ⟨o, p, rfl, _⟩ := E.form
 refine iR<|Da [1, 10] (by kernel_rfl) rfl<|Rg lr rfl rfl _ q5U rfl (q2t _ _ Y A2 c3 A5 c6 A8 c9 an ao aq ar (h4.le d) (h7.le d) (aD.le d) (aE.le d) (aF.le d) ad ae af ag ah am) ?_ ?_
 rintro _ av _ c ⟨q, s, t, u, x, y, z, A, B, C, rfl, rfl, S, T, U, V, W⟩
 refine iR ?_
 exact dG tl708 ⟨ads, e, k, g, o, p, q, s, t, u, x, y, z, A, B, C, rfl, rfl, (O.le c), (E.le c), (F.le c), S, T, U, V, W⟩ c
 refine Rd2 lr rfl rfl (F0 (r := z8) [_] (g ++ (e ++ (j ++ ([] ++ R)))) [iv 0, bv false, bv false] (⟨0, false, false⟩ : LockGate) aa rfl H.1 rfl rfl q9E q5L rfl rfl rfl (by decide) ⟨[iv 0], _, rfl, rfl, ⟨[bv false], _, rfl, rfl, rfl⟩⟩ H.2.1 H.2.2) ?_ ?_
 rintro _ _ ⟨f, rfl, D⟩
 obtain ⟨m, n, rfl, _⟩ := D.form
 refine iR ?_
 exact dG tl726 ⟨ads, e, k, f, m, n, g, o, p, rfl, rfl, O, D, E, F⟩ lr
 exact Rn
 refine Rd2 lr rfl rfl (F0 (r := z8) [_] (e ++ (j ++ ([] ++ R))) [iv 0, bv false, bv false] (⟨0, false, false⟩ : LockGate) aa rfl H.1 rfl rfl q9E q5L rfl rfl rfl (by decide) ⟨[iv 0], _, rfl, rfl, ⟨[bv false], _, rfl, rfl, rfl⟩⟩ H.2.1 H.2.2) ?_ ?_
 rintro _ _ ⟨f, rfl, D⟩
 obtain ⟨m, n, rfl, _⟩ := D.form
 refine iR<|Da [1, 6] (by kernel_rfl) rfl<|Rg lr rfl rfl _ q5U rfl (q2t _ _ Y A2 c3 A5 c6 A8 c9 an ao aq ar (h4.le d) (h7.le d) (aD.le d) (aE.le d) (aF.le d) ad ae af ag ah am) ?_ ?_
 rintro _ av _ c ⟨q, s, t, u, x, y, z, A, B, C, rfl, rfl, S, T, U, V, W⟩
 refine iR ?_
 exact dG tl719 ⟨ads, e, k, f, m, n, q, s, t, u, x, y, z, A, B, C, rfl, rfl, (O.le c), (D.le c), (F.le c), S, T, U, V, W⟩ c
 refine Rd2 lr rfl rfl (F0 (r := z7) [_] (f ++ (e ++ (j ++ ([] ++ R)))) [iv 0, bv false, iv 0, iv 0, bv false] (⟨0, false, 0, 0, false⟩ : LockBody) Z rfl G.1 rfl rfl q4e q9L rfl rfl rfl (by decide) ⟨[iv 0], _, rfl, rfl, ⟨[bv false], _, rfl, rfl, ⟨[iv 0], _, rfl, rfl, ⟨[iv 0], _, rfl, rfl, rfl⟩⟩⟩⟩ G.2.1 G.2.2) ?_ ?_
 rintro _ _ ⟨g, rfl, E⟩
 obtain ⟨o, p, rfl, _⟩ := E.form
 refine iR ?_
 exact dG tl726 ⟨ads, e, k, f, m, n, g, o, p, rfl, rfl, O, D, E, F⟩ lr
 exact Rn
 exact Rn
 exact Rn
 rintro aA _ _ ⟨ads, aJ, aN, aO, aP, aQ, aR, aT, aU, aV, aW, aX, bl, bm, aw, aY, aZ, I, a0, J, K, rfl, rfl, ay, dy, dz, dA, dB, dC, cj, dD, dE, dF⟩
 have hm := j4P cm
 refine Cs<|Cr<|mV rfl<|tS (sN rfl)<|tS (sF rfl Q6)<|tS (sL 1 rfl q1v rfl rfl)<|tS (sE rfl q4e)<|mV rfl<|Te<|Cb ?_
 have dV : be.length ≤ 9223372036854775807 := (OS.len cj)
 refine Cp 1 rfl<|Cp 1 rfl<|q0v j aw I J K<|q0v K j aw I J<|q0v J K j aw I<|q0v I J K j aw<|q0v aw I J K j ?_
 obtain ⟨a1, cn, co⟩ := bS hm
 refine lS (fun bH => fun a1 => fun bg e' hp' => ∃ aK aL ab, [(1, pb au), (5, sv ak ac al), (7, pb aJ), (43, iv ((be.length : Int))), (44, iv ((bH : Int)))] = e' ∧ (au, Cl 28 [sv A2 Y.Stations c3, sv A5 Y.Sections c6, sv A8 Y.Links c9, sv an Y.Signals ao, sv aq Y.Gates ar]) :: (aJ, Cl 57 [sv aN a9 aO, sv aP ba aQ, sv aR bb aT, sv aU bc aV, sv aW bd aX, sv ak ac al, sn, sv aK a1 aL, sv aY a6 aZ, .map (some a0)]) :: (j ++ (ab ++ (I ++ (J ++ (K ++ R))))) = hp' ∧ aA.Le bg ∧ OS 59 (OT.fr z7) bg.w (sv aK a1 aL) a1 ab) cn ⟨bl, bm, aw, rfl, rfl, lr, cj⟩ ?_ ?_
 rintro bH a1 bg _ _ dW dH ⟨aK, aL, ab, rfl, rfl, X, bq⟩ a2
 unfold q3w at a2
 have hm := a2
 refine Cr<|tS (lT rfl rfl (by omega))<|Te<|Cs<|j1 rfl<|Ck<|Xn<|Cs<|Cb<|Cr<|mV rfl<|aS rfl<|Te<|Cg<|mV rfl<|tS (sN rfl)<|tS (sF rfl Q6)<|tS (sL 1 rfl q1v rfl rfl)<|mV rfl ?_
 obtain ⟨aB, dI, hm⟩ := bS hm
 obtain ⟨dJ, bI, bJ⟩ := iS dI
 obtain ⟨dX, dY, d7, d8, dZ, cp, dT, bK, bU, d0, dU⟩ := OS.get (sz := 5) rfl (by decide) bq bJ
 obtain ⟨⟨_, _, rfl, rfl, ⟨_, _, rfl, rfl, ⟨_, _, rfl, rfl, ⟨_, _, rfl, rfl, rfl⟩⟩⟩⟩, rfl⟩ := cp
 refine tS (sI dJ rfl rfl bI bU bK q4e)<|tS (sQ rfl bK q3S)<|z0B j ab<|tD (uP bI (sz := 5) (a' := (⟨aB.axles, aB.disturbed, 1, aB.moving, aB.failed⟩ : LockBody)) rfl [_, _] (j ++ (I ++ (J ++ (K ++ R)))) 2 1 [iv 1] rfl bq bJ rfl rfl rfl z0D rfl (mc rfl mn) (fun cs hsj hh => by obtain ⟨⟨_, _, rfl, rfl, ⟨_, _, rfl, rfl, ⟨_, _, rfl, rfl, ⟨_, _, rfl, rfl, rfl⟩⟩⟩⟩, rfl⟩ := hh; exact ⟨by first | decide | exact Nat.le_refl _, ⟨[iv aB.axles], _, rfl, rfl, ⟨[bv aB.disturbed], _, rfl, rfl, ⟨[iv 1], _, rfl, rfl, ⟨[iv aB.moving], _, rfl, rfl, rfl⟩⟩⟩⟩, rfl⟩)) ?_
 rintro _ _ ⟨cq, rfl, dK⟩
 refine w5 1 rfl (o' := Cl 57 [sv aN a9 aO, sv aP ba aQ, sv aR bb aT, sv aU bc aV, sv aW bd aX, sv ak ac al, sn, .slice aK (put a1 (bH : Int) (⟨aB.axles, aB.disturbed, 1, aB.moving, aB.failed⟩ : LockBody)).length aL, sv aY a6 aZ, .map (some a0)]) (by simp only [sv, z6])<|Tn<|Xm<|Xn<|Cg<|tS (sa rfl rfl (by omega))<|mV rfl<|Tn ?_
 obtain rfl := o1 hm
 exact jS ⟨aK, aL, cq, rfl, rfl, (X), dK⟩
 rintro bg _ _ ⟨aK, aL, ab, rfl, rfl, X, bq⟩
 have hm := co
 refine Cr<|tS (lF rfl rfl (by omega))<|Te<|Cs<|j0 rfl<|Ce<|Xe<|Xe<|Xo<|Xn<|Cs<|Cr<|mV rfl<|tS (sE rfl z6Y)<|mV rfl<|Te<|Cb ?_
 have d1 : ac.length ≤ 9223372036854775807 := (OS.len ci)
 refine Cp 1 rfl<|Cp 1 rfl<|q0v j ab I J K<|q0v K j ab I J<|q0v J K j ab I<|q0v I J K j ab<|q0v ab I J K j ?_
 obtain ⟨a3, cr, ct⟩ := bS hm
 refine lS (fun bL => fun a3 => fun br e' hp' => ∃ bh bi az, [(1, pb au), (7, pb aJ), (56, iv ((ac.length : Int))), (57, iv ((bL : Int)))] = e' ∧ (au, Cl 28 [sv A2 Y.Stations c3, sv A5 Y.Sections c6, sv A8 Y.Links c9, sv an Y.Signals ao, sv aq Y.Gates ar]) :: (aJ, Cl 57 [sv aN a9 aO, sv aP ba aQ, sv aR bb aT, sv aU bc aV, sv aW bd aX, sv ak ac al, sv bh a3 bi, sv aK a1 aL, sv aY a6 aZ, .map (some a0)]) :: (j ++ (az ++ (ab ++ (I ++ (J ++ (K ++ R)))))) = hp' ∧ bg.Le br ∧ OS 60 (OT.fr (RT.list z4)) br.w (sv bh a3 bi) a3 az) cr ⟨none, 0, [], rfl, rfl, lr, OS.nil⟩ ?_ ?_
 rintro bL a3 br _ _ d5 dL ⟨bh, bi, az, rfl, rfl, L, bM⟩ a4
 unfold q3v at a4
 have hm := a4
 refine Cr<|tS (lT rfl rfl (by omega))<|Te<|Cs<|j1 rfl<|Ck<|Xn<|Cs<|Cb<|Cr<|mV rfl<|aS rfl<|Te<|Cr<|tS (sD (vs := [_, _, _, _, _]) 0 5 rfl G9 rfl rfl rfl)<|mV rfl ?_
 obtain ⟨⟨dM, a7⟩, bV, hm⟩ := bS hm
 have hm := Q3 hm
 have zy := d.trans (ay.trans (X.trans L))
 refine Tg _ rfl j4r rfl (z6D _ _ Y (bL : Int) A2 c3 A5 c6 A8 c9 an ao aq ar (h4.le zy) (h7.le zy) (aD.le zy) (aE.le zy) (aF.le zy) dM a7 bV) ?_
 rintro _ d9 _ bs ⟨bN, bO, bP, rfl, rfl, dN, ea⟩
 refine q4c [] [_, _] bP (j ++ (az ++ (ab ++ (I ++ (J ++ (K ++ R)))))) rfl<|mV rfl<|tS (z5 rfl rfl)<|tS (z5 rfl rfl)<|aS rfl<|aS rfl<|Te<|Cg<|mV rfl<|mV rfl ?_
 refine tS (sN rfl)<|tS (sF rfl z4A)<|tS (sL 1 rfl j2W rfl rfl)<|mV rfl<|tD (Z3 (el := 60) [(0, sv bN a7 bO)] [sv bN a7 bO] rfl (fun _ => by kernel_rfl)) ?_
 rintro _ _ ⟨eb, rfl, rfl⟩
 refine z6T [_, _, _] bP (j ++ (az ++ (ab ++ (I ++ (J ++ (K ++ R)))))) rfl ?_
 intro ec a8 cu
 have dO := OS.frz (l := a7) dN a8.cells cu
 obtain ⟨_, bQ, hm⟩ := bS hm
 have bQ := Q9 bQ
 refine j2G j az<|tD (uQ (r := (RT.list z4)) (l := a3) [_, _, _] (j ++ (ab ++ (I ++ (J ++ (K ++ R))))) [[sv bN a7 bO]] [a7] rfl (by decide) z8Q j3i rfl rfl rfl rfl (bM.le (bs.trans a8)) rfl (fun w ho => Rd.own (i := 0) ho rfl) ⟨(RT.list_mk dO), trivial⟩ bQ) ?_
 rintro _ _ ⟨cv, rfl, ck⟩
 obtain ⟨dP, dQ, rfl, _⟩ := ck.form
 refine tS (sN rfl)<|tS (sF rfl z4A)<|tD (uS 2 rfl rfl j5b rfl rfl (by simp)) ?_
 rintro _ _ rfl
 refine Tn<|Xm<|Xn<|Cg<|tS (sa rfl rfl (by omega))<|mV rfl<|Tn ?_
 obtain rfl := o1 hm
 exact jS ⟨dP, dQ, cv, rfl, rfl, ((L.trans (bs.trans a8))), ck⟩
 rintro br _ _ ⟨bh, bi, az, rfl, rfl, L, bM⟩
 have hm := ct
 refine Cr<|tS (lF rfl rfl (by omega))<|Te<|Cs<|j0 rfl<|Ce<|Xe<|Xe<|Xo<|Xn<|Cr<|mV rfl<|aS rfl<|aS rfl<|Te<|Ct<|z0A [_, _] j (az ++ (ab ++ (I ++ (J ++ (K ++ R))))) rfl ?_
 intro ed ai cw
 have dR := OS.frz (l := ac) (ci.le (ay.trans (X.trans L))) ai.cells cw
 refine z0A [_, _] az (ab ++ (I ++ (J ++ (K ++ R)))) rfl ?_
 intro ee aj cx
 have dS := OS.frz (l := a3) (bM.le ai) aj.cells cx
 obtain ⟨rfl, rfl, rfl, rfl, rfl, rfl, rfl, rfl, rfl, rfl, rfl⟩ := j2N hm
 have zx := X.trans (L.trans (ai.trans aj))
 have cy := dy.le zx
 have cz := dz.le zx
 have cA := dA.le zx
 have cC := dB.le zx
 have cD := dC.le zx
 have cE := dR.le aj
 have cG := (bq.le (L.trans (ai.trans aj)))
 have cH := dD.le zx
 have cJ := dE.le zx
 have cK := dF.le zx
 exact rT ⟨ads, aJ, aN, aO, aP, aQ, aR, aT, aU, aV, aW, aX, ak, al, bh, bi, aK, aL, ab, aY, aZ, I, a0, J, K, rfl, rfl, cy, cz, cA, cC, cD, cE, dS, cG, cH, cJ, cK⟩ (d.trans (ay.trans zx))
theorem q1i (b : Base) (R : Hp) (H f g h i j k l d e I J) (ads : Int → Nat) (n o p q r s t u w x y z A B C T U D V W E F a c) (Y : FZ RT.str b.w o p f) (Z : FZ rApiSection b.w q r g) (aa : FZ rApiLink b.w s t h) (ab : FZ rApiSignal b.w u w i) (ac : FZ rApiGate b.w x y j) (ad : FZ j3 b.w z A k) (ae : FZ (RT.list z4) b.w B C l) (h5 : OS 59 (OT.fr z7) b.w (sv T d U) d D) (af : OS 127 (OT.fr z8) b.w (sv V e W) e E) (ag : OM rI (OT.fr (RT.key ads)) false false b.w F I a) (ah : OAr 85 q9 ads b.w J c) (K) (hm : V9 H f g h i j k l d e I J = some K):
 CallsG Tryz.prog 61 [pb n, iv H] b ((n, Cl 57 [sv o f p, sv q g r, sv s h t, sv u i w, sv x j y, sv z k A, sv B l C, sv T d U, sv V e W, .map (some F)]) :: (D ++ (E ++ (a ++ (c ++ R))))) (fun v b' hp' => bv K = v ∧ (n, Cl 57 [sv o f p, sv q g r, sv s h t, sv u i w, sv x j y, sv z k A, sv B l C, sv T d U, sv V e W, .map (some F)]) :: (D ++ (E ++ (a ++ (c ++ R)))) = hp') := by
 refine fE 16 Tryz.func61 rfl Tryz.ntmps61 rfl ?_
 unfold V9 at hm
 refine Cr<|aS rfl<|Te ?_
 obtain ⟨X, L, O⟩ := bS hm
 refine Cj (fun S e' hp' => [(4, bv X)] = e' ∧ (n, Cl 57 [sv o f p, sv q g r, sv s h t, sv u i w, sv x j y, sv z k A, sv B l C, sv T d U, sv V e W, .map (some F)]) :: (D ++ (E ++ (a ++ (c ++ R)))) = hp' ∧ b.Le S) ?_ ?_
 have hm := L
 refine Cg<|mV rfl<|Tb rfl (q6 rfl rfl) (fun m => ?_) (fun m => ?_)
 rw [if_pos m] at hm
 refine mV rfl<|yS<|mV rfl<|yS<|mV rfl<|yS<|tS (sN rfl)<|yS<|tS (sF rfl Q6)<|yS<|tS (sL 0 rfl q1v rfl rfl)<|yS<|tS (sE rfl q4e)<|yS<|tS (q3 rfl rfl)<|tS (pT rfl rfl)<|aS rfl<|Tn ?_
 obtain rfl := o1 hm
 exact jJ ⟨rfl, rfl, lr⟩
 rw [if_neg m] at hm
 refine mV rfl<|nO<|nO<|nO<|nO<|nO<|nO<|nO<|tS (pF rfl rfl)<|aS rfl<|Tn ?_
 obtain rfl := o1 hm
 exact jJ ⟨rfl, rfl, lr⟩
 rintro S _ _ ⟨rfl, rfl, G⟩
 have hm := O
 refine Ct ?_
 obtain rfl := o1 hm
 exact rO ⟨rfl, rfl⟩ G
theorem z4L (b : Base) (R : Hp) (S l m n o p q r s i j aj ak) (ads : Int → Nat) (x y z A B C D E F G H I J K L A3 c4 g A8 c9 h O d e) (aP : FZ RT.str b.w y z m) (aQ : FZ rApiSection b.w A B n) (aR : FZ rApiLink b.w C D o) (aT : FZ rApiSignal b.w E F p) (aU : FZ rApiGate b.w G H q) (aV : FZ j3 b.w I J r) (aW : FZ (RT.list z4) b.w K L s) (h5 : OS 59 (OT.fr z7) b.w (sv A3 i c4) i g) (aX : OS 127 (OT.fr z8) b.w (sv A8 j c9) j h) (aY : OM rI (OT.fr (RT.key ads)) false false b.w O aj d) (aZ : OAr 85 q9 ads b.w ak e) (ah k) (hm : q3N S l m n o p q r s i j aj ak = some (ah, k)):
 CallsG Tryz.prog 19 [pb x, iv S, iv l] b ((x, Cl 57 [sv y m z, sv A n B, sv C o D, sv E p F, sv G q H, sv I r J, sv K s L, sv A3 i c4, sv A8 j c9, .map (some O)]) :: (g ++ (h ++ (d ++ (e ++ R))))) (fun v b' hp' => ∃ T, iv ah = v ∧ (x, Cl 57 [sv y m z, sv A n B, sv C o D, sv E p F, sv G q H, sv I r J, sv K s L, sv A3 k c4, sv A8 j c9, .map (some O)]) :: (T ++ (h ++ (d ++ (e ++ R)))) = hp' ∧ OS 59 (OT.fr z7) b'.w (sv A3 k c4) k T ∧ k.length = i.length) := by
 refine fE 43 Tryz.func19 rfl Tryz.ntmps19 rfl ?_
 unfold q3N at hm
 refine Cr<|aS rfl<|Te<|Cs<|Cb<|Cr<|mV rfl<|mV rfl ?_
 obtain ⟨aB, ab, hm⟩ := bS hm
 refine v5 g h d e<|v5 e g h d<|v5 d e g h<|v5 h d e g<|w9 [_] [] g h d e R rfl<|Tg _ rfl q8w rfl (q1i _ _ S m n o p q r s i j aj ak ads x y z A B C D E F G H I J K L A3 c4 g A8 c9 h O d e aP aQ aR aT aU aV aW h5 aX aY aZ aB ab) ?_
 rintro _ aC _ a ⟨rfl, rfl⟩
 refine K9 [_] [] g h d e R rfl<|tS (sn2 rfl)<|aS rfl<|Te<|cM hm rfl (fun hm => ?_) fun hm => ?_
 refine Cr<|aS rfl<|Te<|Ct<|Xb<|Xr ?_
 obtain ⟨rfl, rfl⟩ := j9 hm
 have al := h5.le a
 exact rO ⟨g, rfl, rfl, al, rfl⟩ a
 obtain ⟨aD, am, an⟩ := bS hm
 refine Cj (fun ai e' hp' => [(0, pb x), (1, iv S), (2, iv l), (12, bv aD)] = e' ∧ (x, Cl 57 [sv y m z, sv A n B, sv C o D, sv E p F, sv G q H, sv I r J, sv K s L, sv A3 i c4, sv A8 j c9, .map (some O)]) :: (g ++ (h ++ (d ++ (e ++ R)))) = hp' ∧ aC.Le ai) ?_ ?_
 have hm := am
 refine Cg<|mV rfl<|Tb rfl (q3 rfl rfl) (fun t => ?_) (fun t => ?_)
 rw [if_pos t] at hm
 refine mV rfl<|nO<|nO<|tS (pT rfl rfl)<|aS rfl<|Tn ?_
 obtain rfl := o1 hm
 exact jJ ⟨rfl, rfl, lr⟩
 rw [if_neg t] at hm
 refine mV rfl<|yS<|mV rfl<|yS<|tS (q5 rfl rfl)<|tS (pF rfl rfl)<|aS rfl<|Tn ?_
 obtain rfl := o1 hm
 exact jJ ⟨rfl, rfl, lr⟩
 rintro ai _ _ ⟨rfl, rfl, c⟩
 have hm := an
 refine cB hm rfl (fun hm => ?_) fun hm => ?_
 refine Cr<|aS rfl<|Te<|Ct<|Xb<|Xr ?_
 obtain ⟨rfl, rfl⟩ := j9 hm
 have ao := (h5.le (a.trans c))
 exact rO ⟨g, rfl, rfl, ao, rfl⟩ (a.trans c)
 refine Cr<|mV rfl<|tS (sN rfl)<|tS (sF rfl Q6)<|tS (sL 0 rfl q1v rfl rfl)<|mV rfl ?_
 obtain ⟨bc, aE, hm⟩ := bS hm
 obtain ⟨aF, aq, ar⟩ := iS aE
 have zz := a.trans c
 obtain ⟨a0, a1, bd, be, a2, au, ac, U, ad, a3, aL⟩ := OS.get (sz := 5) rfl (by decide) (h5.le zz) ar
 obtain ⟨⟨_, _, rfl, rfl, ⟨_, _, rfl, rfl, ⟨_, _, rfl, rfl, ⟨_, _, rfl, rfl, rfl⟩⟩⟩⟩, rfl⟩ := au
 refine tS (sI aF rfl rfl aq ad U q4e)<|tS (sQ rfl U q2s)<|tS (z9 rfl j4 (fun w ho => ac w _ ho (.cons _ (List.sublist_append_left _ _)) 0 _ rfl))<|mV rfl ?_
 obtain ⟨_, V, hm⟩ := bS hm
 have V := (kS V).2
 refine tS (sa rfl rfl V)<|tS (q5 rfl rfl)<|aS rfl<|Te<|cI hm rfl (fun hm => ?_) fun hm => ?_
 refine Cr<|aS rfl<|Te<|Ct<|Xb<|Xr ?_
 obtain ⟨rfl, rfl⟩ := j9 hm
 have av := h5.le zz
 exact rO ⟨g, rfl, rfl, av, rfl⟩ zz
 refine Ck<|Xm<|Xn<|Cr<|mV rfl<|tS (sN rfl)<|tS (sF rfl Q6)<|tS (sL 0 rfl q1v rfl rfl)<|mV rfl ?_
 obtain ⟨u, aG, hm⟩ := bS hm
 obtain ⟨aH, aw, ax⟩ := iS aG
 have zy := a.trans c
 obtain ⟨a4, a5, bf, bg, a6, ay, ae, W, af, a7, aM⟩ := OS.get (sz := 5) rfl (by decide) (h5.le zy) ax
 obtain ⟨⟨_, _, rfl, rfl, ⟨_, _, rfl, rfl, ⟨_, _, rfl, rfl, ⟨_, _, rfl, rfl, rfl⟩⟩⟩⟩, rfl⟩ := ay
 refine tS (sI aH rfl rfl aw af W q4e)<|tS (sQ rfl W q2s)<|tS (z9 rfl j4 (fun w ho => ae w _ ho (.cons _ (List.sublist_append_left _ _)) 0 _ rfl))<|mV rfl ?_
 obtain ⟨_, X, hm⟩ := bS hm
 have X := (kS X).2
 refine tS (sa rfl rfl X) ?_
 obtain ⟨f, aI, hm⟩ := bS hm
 obtain ⟨aJ, Y, Z⟩ := iS aI
 obtain ⟨a8, a9, bh, bi, ba, az, aN, aa, ag, bb, aO⟩ := OS.get (sz := 5) rfl (by decide) (h5.le zy) Z
 obtain ⟨⟨_, _, rfl, rfl, ⟨_, _, rfl, rfl, ⟨_, _, rfl, rfl, ⟨_, _, rfl, rfl, rfl⟩⟩⟩⟩, rfl⟩ := az
 refine tS (sI aJ rfl rfl Y ag aa q4e)<|tS (sQ rfl aa q2s)<|tD (uP Y (sz := 5) (a' := (⟨u.axles + l, f.disturbed, f.position, f.moving, f.failed⟩ : LockBody)) rfl [_] (h ++ (d ++ (e ++ R))) 0 1 [iv (u.axles + l)] rfl (h5.le zy) Z rfl rfl rfl z0D rfl (mc rfl mn) (fun cs hsj hh => by obtain ⟨⟨_, _, rfl, rfl, ⟨_, _, rfl, rfl, ⟨_, _, rfl, rfl, ⟨_, _, rfl, rfl, rfl⟩⟩⟩⟩, rfl⟩ := hh; exact ⟨by first | decide | exact Nat.le_refl _, ⟨[iv (u.axles + l)], _, rfl, rfl, ⟨[bv f.disturbed], _, rfl, rfl, ⟨[iv f.position], _, rfl, rfl, ⟨[iv f.moving], _, rfl, rfl, rfl⟩⟩⟩⟩, rfl⟩)) ?_
 rintro _ _ ⟨aA, rfl, aK⟩
 refine w5 0 rfl (o' := Cl 57 [sv y m z, sv A n B, sv C o D, sv E p F, sv G q H, sv I r J, sv K s L, .slice A3 (put i S (⟨u.axles + l, f.disturbed, f.position, f.moving, f.failed⟩ : LockBody)).length c4, sv A8 j c9, .map (some O)]) (by simp only [sv, z6])<|Te<|Cr<|aS rfl<|Te<|Ct ?_
 obtain ⟨rfl, rfl⟩ := j9 hm
 exact rO ⟨aA, rfl, rfl, aK, ((z6 _ _ _).trans rfl)⟩ zy
theorem q8O (b : Base) (R : Hp) (g : ApiLink) (l m n o h) (hm : q0r g l m = some h):
 CallsG Tryz.prog 106 [.agg #[iv g.A, iv g.EndA, iv g.B, iv g.EndB], pb n, pb o] b ((n, Cl 3 [iv l]) :: (o, Cl 3 [iv m]) :: R) (fun v b' hp' => bv h = v ∧ (n, Cl 3 [iv l]) :: (o, Cl 3 [iv m]) :: R = hp') := by
 refine fE 27 Tryz.func106 rfl Tryz.ntmps106 rfl ?_
 unfold q0r at hm
 refine Cr<|tD (uB _ rfl rfl) ?_
 rintro _ _ ⟨q, rfl, rfl⟩
 refine aS rfl<|Te ?_
 obtain ⟨p, i, j⟩ := bS hm
 refine Cj (fun k e' hp' => [(4, bv p)] = e' ∧ (n, Cl 3 [iv l]) :: (o, Cl 3 [iv m]) :: R = hp' ∧ b.Le k) ?_ ?_
 have hm := i
 refine Cg<|tS (sF rfl q2S)<|tS (sL 0 rfl j4 rfl rfl)<|tS (sL 1 rfl j4 rfl rfl)<|Tb rfl (q1 rfl rfl) (fun a => ?_) (fun a => ?_)
 rw [if_pos a] at hm
 refine mV rfl<|yS<|tS (sF rfl q4u)<|yS<|tS (sL 0 rfl j4 rfl rfl)<|yS<|tS (sL 2 rfl j4 rfl rfl)<|yS<|Tb rfl (q1 rfl rfl) (fun c => ?_) (fun c => ?_)
 rw [if_pos c] at hm
 refine tS (pT rfl rfl)<|mV rfl<|nO<|nO<|nO<|nO<|nO<|nO<|nO<|nO<|nO<|nO<|tS (pT rfl rfl)<|aS rfl<|Tn ?_
 obtain rfl := o1 hm
 exact jJ ⟨rfl, rfl, lr⟩
 rw [if_neg c] at hm
 refine tS (pT rfl rfl)<|mV rfl<|yS<|tS (sF rfl q2S)<|yS<|tS (sL 0 rfl j4 rfl rfl)<|yS<|tS (sL 2 rfl j4 rfl rfl)<|yS<|Tb rfl (q1 rfl rfl) (fun d => ?_) (fun d => ?_)
 rw [if_pos d] at hm
 refine yS<|mV rfl<|yS<|tS (sF rfl q4u)<|yS<|tS (sL 0 rfl j4 rfl rfl)<|yS<|tS (sL 1 rfl j4 rfl rfl)<|yS<|tS (q1 rfl rfl)<|yS<|tS (pT rfl rfl)<|tS (pF rfl rfl)<|aS rfl<|Tn ?_
 obtain rfl := o1 hm
 exact jJ ⟨rfl, rfl, lr⟩
 rw [if_neg d] at hm
 refine yS<|mV rfl<|nO<|nO<|nO<|nO<|yS<|tS (pF rfl rfl)<|tS (pF rfl rfl)<|aS rfl<|Tn ?_
 obtain rfl := o1 hm
 exact jJ ⟨rfl, rfl, lr⟩
 rw [if_neg a] at hm
 refine mV rfl<|nO<|nO<|nO<|nO<|tS (pF rfl rfl)<|mV rfl<|yS<|tS (sF rfl q2S)<|yS<|tS (sL 0 rfl j4 rfl rfl)<|yS<|tS (sL 2 rfl j4 rfl rfl)<|yS<|Tb rfl (q1 rfl rfl) (fun e => ?_) (fun e => ?_)
 rw [if_pos e] at hm
 refine yS<|mV rfl<|yS<|tS (sF rfl q4u)<|yS<|tS (sL 0 rfl j4 rfl rfl)<|yS<|tS (sL 1 rfl j4 rfl rfl)<|yS<|tS (q1 rfl rfl)<|yS<|tS (pT rfl rfl)<|tS (pF rfl rfl)<|aS rfl<|Tn ?_
 obtain rfl := o1 hm
 exact jJ ⟨rfl, rfl, lr⟩
 rw [if_neg e] at hm
 refine yS<|mV rfl<|nO<|nO<|nO<|nO<|yS<|tS (pF rfl rfl)<|tS (pF rfl rfl)<|aS rfl<|Tn ?_
 obtain rfl := o1 hm
 exact jJ ⟨rfl, rfl, lr⟩
 rintro k _ _ ⟨rfl, rfl, f⟩
 have hm := j
 refine Ct ?_
 obtain rfl := o1 hm
 exact rO ⟨rfl, rfl⟩ f
theorem q7D (b : Base) (R : Hp) (p q r i k C D) (G : FZ rApiLink b.w C D p) (s) (hm : q2f p q r = some s):
 CallsG Tryz.prog 126 [sv C p D, .func (.func 106) #[] #[pb i, pb k]] b ((i, Cl 3 [iv q]) :: (k, Cl 3 [iv r]) :: R) (fun v b' hp' => iv s = v ∧ (i, Cl 3 [iv q]) :: (k, Cl 3 [iv r]) :: R = hp') := by
 refine fE 19 Tryz.func126 rfl Tryz.ntmps126 rfl ?_
 unfold q2f at hm
 refine Cr<|aS rfl<|Te<|Cs<|Cr<|mV rfl<|tS (sE rfl z8R)<|mV rfl<|Te<|Cb ?_
 have H : p.length ≤ 9223372036854775807 := (FZ.bd G)
 refine Cp 1 rfl<|Cp 1 rfl ?_
 obtain ⟨L, t, e⟩ := bS hm
 refine lF (fun w => fun _ => fun l e' hp' => [(0, sv C p D), (1, .func (.func 106) #[] #[pb i, pb k]), (7, iv ((p.length : Int))), (8, iv ((w : Int)))] = e' ∧ (i, Cl 3 [iv q]) :: (k, Cl 3 [iv r]) :: R = hp' ∧ b.Le l) t ⟨rfl, rfl, lr⟩ ?_ ?_
 rintro w _ l _ _ I B ⟨rfl, rfl, a⟩ c f
 unfold q0C at c
 have hm := c
 refine Cr<|tS (lT rfl rfl (by omega))<|Te<|Cs<|j1 rfl<|Ck<|Xn<|Cs<|Cb<|Cr<|mV rfl<|aS rfl<|Te<|Cr<|mV rfl<|mV rfl<|mV rfl ?_
 obtain ⟨d, E, J, x, K, y, m, h, n, hm⟩ := bF (sz := 4) hm (G.le a)
 obtain ⟨_, _, rfl, rfl, ⟨_, _, rfl, rfl, ⟨_, _, rfl, rfl, rfl⟩⟩⟩ := y
 refine tS (sI E rfl rfl x n h z8R)<|tS (sP (vs := [iv d.A, iv d.EndA, iv d.B, iv d.EndB]) 4 rfl z5Q h rfl (fun j u hu => m j u hu)) ?_
 obtain ⟨F, o, hm⟩ := bS hm
 refine v8 1 rfl<|v8 1 rfl<|Tv #[] #[pb i, pb k] [.agg #[iv d.A, iv d.EndA, iv d.B, iv d.EndB]] rfl rfl j2n rfl (q8O _ _ d q r i k F o) ?_
 rintro _ O _ g ⟨rfl, rfl⟩
 refine Te<|cB hm rfl (fun hm => ?_) fun hm => ?_
 refine Cr<|mV rfl<|aS rfl<|Te<|Ct<|Xb<|Xr<|Xr<|Xb<|Xr ?_
 have z := f _ (Option.some.inj hm).symm
 rw [z] at e
 have hm := k8 e
 obtain rfl := o1 hm
 exact rO ⟨rfl, rfl⟩ (a.trans g)
 refine Ck<|Xm<|Xn<|Cg<|tS (sa rfl rfl (by omega))<|mV rfl<|Tn ?_
 exact jM hm ⟨rfl, rfl, ((a.trans g))⟩
 rintro _ l _ _ ⟨rfl, rfl, a⟩ A
 rw [A] at e
 have hm := J5 e
 refine Cr<|tS (lF rfl rfl (by omega))<|Te<|Cs<|j0 rfl<|Ce<|Xe<|Xe<|Xo<|Xn<|Cr<|aS rfl<|Te<|Ct ?_
 obtain rfl := o1 hm
 exact rO ⟨rfl, rfl⟩ a
theorem q6b (b : Base) (R : Hp) (e f g h i j k) (m : FZ rApiLink b.w j k e) (d) (hm : Y7 e f g = some d):
 CallsG Tryz.prog 105 [sv j e k, .func (.func 106) #[] #[pb h, pb i]] b ((h, Cl 3 [iv f]) :: (i, Cl 3 [iv g]) :: R) (fun v b' hp' => bv d = v ∧ (h, Cl 3 [iv f]) :: (i, Cl 3 [iv g]) :: R = hp') := by
 refine fE 9 Tryz.func105 rfl Tryz.ntmps105 rfl ?_
 unfold Y7 at hm
 refine Cr<|aS rfl<|Te<|Cr<|mV rfl<|mV rfl ?_
 obtain ⟨l, a, hm⟩ := bS hm
 refine v8 1 rfl<|v8 1 rfl<|Tg _ rfl j2d rfl (q7D _ _ e f g h i j k m l a) ?_
 rintro _ n _ c ⟨rfl, rfl⟩
 refine tS (q6 rfl rfl)<|aS rfl<|Te<|Ct ?_
 obtain rfl := o1 hm
 exact rO ⟨rfl, rfl⟩ c
theorem z0X (b : Base) (R : Hp) (o p g h a i j k l c d J K) (ads : Int → Nat) (q r s t u m n w x y z A B C D O S E T U F G e f) (Z : FZ RT.str b.w r s g) (aa : FZ rApiSection b.w t u h) (V : FZ rApiLink b.w m n a) (ab : FZ rApiSignal b.w w x i) (ac : FZ rApiGate b.w y z j) (ad : FZ j3 b.w A B k) (ae : FZ (RT.list z4) b.w C D l) (h5 : OS 59 (OT.fr z7) b.w (sv O c S) c E) (af : OS 127 (OT.fr z8) b.w (sv T d U) d F) (ag : OM rI (OT.fr (RT.key ads)) false false b.w G J e) (ah : OAr 85 q9 ads b.w K f) (L) (hm : q1C o p g h a i j k l c d J K = some L):
 CallsG Tryz.prog 62 [pb q, iv o, iv p] b ((q, Cl 57 [sv r g s, sv t h u, sv m a n, sv w i x, sv y j z, sv A k B, sv C l D, sv O c S, sv T d U, .map (some G)]) :: (E ++ (F ++ (e ++ (f ++ R))))) (fun v b' hp' => bv L = v ∧ (q, Cl 57 [sv r g s, sv t h u, sv m a n, sv w i x, sv y j z, sv A k B, sv C l D, sv O c S, sv T d U, .map (some G)]) :: (E ++ (F ++ (e ++ (f ++ R)))) = hp') := by
 refine fE 14 Tryz.func62 rfl Tryz.ntmps62 rfl ?_
 unfold q1C at hm
 refine Cr<|tD (uB _ rfl rfl) ?_
 rintro _ _ ⟨W, rfl, rfl⟩
 refine tD (uB _ rfl rfl) ?_
 rintro _ _ ⟨X, rfl, rfl⟩
 refine aS rfl<|Te<|Cr<|mV rfl<|tS (sN rfl)<|tS (sF rfl q5g)<|tS (sF rfl q8k)<|tS (sL 2 rfl z6h rfl rfl)<|tS (q4A _ _ rfl rfl) ?_
 obtain ⟨Y, H, hm⟩ := bS hm
 refine v8 1 rfl<|Tg _ rfl j2o rfl (q6b _ _ a o p W X m n V Y H) ?_
 rintro _ ai _ I ⟨rfl, rfl⟩
 refine aS rfl<|Te<|Ct ?_
 obtain rfl := o1 hm
 exact rO ⟨rfl, rfl⟩ I
end Go.Proofs.YtdbehipjelcmbaaGreatDoor
