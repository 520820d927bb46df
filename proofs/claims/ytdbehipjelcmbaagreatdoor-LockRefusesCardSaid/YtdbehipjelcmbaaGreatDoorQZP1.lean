import Derived.Test.YtdbehipjelcmbaaGreatDoorF5
set_option linter.unusedVariables false
set_option linter.unusedSimpArgs false
set_option linter.unusedSectionVars false
namespace Go.Proofs.YtdbehipjelcmbaaGreatDoor
open Go.RowKit Go.Fp
set_option maxRecDepth 20000
set_option maxHeartbeats 4000000
open Go.Fp renaming q4t → Te, q6p → Tn, q4S → Tb, q6q → Tg, q7X → Tv, z3Z → Tr, q5Y → Cr, q2V → Cs, q0w → Cg, q6K → Cb, q3M → Ct, q3d → Ck, z1j → Ce, z2z → Cj, q9m → Cp, Q4 → Xn, V5 → Xr, q1q → Xe, q1r → Xb, q0k → Xm, q2m → Xo, q8P → Xi, z2H → Xp, j1C → Es, z7Y → E0, j1B → Ey, j6t → Yz, j2v → Ei, j7n → El, z5X → Eo, z7U → Da, z2F → Dd, z1B → Di, j6g → Rd2, z7T → Rn, z3R → Rg, q8R → sL, q5N → sD, q6Z → sF, z2l → sN, z0C → sE, q3S → sM, q1Z → sA, q5s → pT, q5t → pF, q0B → sI, q2n → sO, q2v → sP, q2w → sQ, z0G → sa, z6g → sb, q5L → lT, q5M → lF, q6d → sn2, q7Z → sB, z2L → uB, q7v → uA, z0r → uS, q4Q → uN, q5I → uW, z0s → uP, z0t → uQ, q3L → fE, q7L → bS, z2V → o1, q4Y → iS, q5K → ss, q8t → kS, z7w → mc, z7v → mn, z0F → q1, q7Y → q2, z2m → q3, j1L → q4, z0D → q5, z0E → q6
theorem q6M (b : k8) (R : Hp) (k l e) (hm : q1u k l = some e):
 w8 Tryz.prog 132 [.string (k), .string (l)] b (R) (fun v b' hp' => bv e = v ∧ R = hp') := by
 refine fE 21 Tryz.func132 rfl Tryz.ntmps132 rfl ?_
 unfold q1u at hm
 refine Cr<|aS rfl<|Te ?_
 obtain ⟨i, f, g⟩ := bS hm
 refine Cj (fun h e' hp' => [(4, bv i)] = e' ∧ R = hp' ∧ b.Le h) ?_ ?_
 have hm := f
 refine Cg<|mV rfl<|tS (q1Y rfl z0f)<|mV rfl<|tS (q1Y rfl z0f)<|Tb rfl (q6 rfl rfl) (fun a => ?_) (fun a => ?_)
 rw [if_pos a] at hm
 refine mV rfl<|yS<|mV rfl<|yS<|mV rfl<|yS<|tS (q1Y rfl z0f)<|yS<|mV rfl<|yS<|tS (q1Y rfl z0f)<|yS ?_
 obtain ⟨_, c, hm⟩ := bS hm
 have c := (kS c).2
 refine tS (sb rfl rfl c)<|yS ?_
 obtain ⟨m, j, hm⟩ := bS hm
 refine tS (z0z rfl (.inr ⟨_, _, rfl, rfl⟩) (.inl ⟨rfl, rfl⟩) j z0f)<|yS<|mV rfl<|yS<|tS (z0y rfl rfl)<|tS (pT rfl rfl)<|aS rfl<|Tn ?_
 obtain rfl := o1 hm
 exact jJ ⟨rfl, rfl, lr⟩
 rw [if_neg a] at hm
 refine mV rfl<|nO<|nO<|nO<|nO<|nO<|nO<|nO<|nO<|nO<|tS (pF rfl rfl)<|aS rfl<|Tn ?_
 obtain rfl := o1 hm
 exact jJ ⟨rfl, rfl, lr⟩
 rintro h _ _ ⟨rfl, rfl, d⟩
 have hm := g
 refine Ct ?_
 obtain rfl := o1 hm
 exact rO ⟨rfl, rfl⟩ d
theorem q6N (b : k8) (R : Hp) (e f j d) (hm : q1v e f = some (j, d)):
 w8 Tryz.prog 115 [.string (e), .string (f)] b (R) (fun v b' hp' => .tuple #[.string (j), bv d] = v ∧ R = hp') := by
 refine fE 18 Tryz.func115 rfl Tryz.ntmps115 rfl ?_
 unfold q1v at hm
 refine Cr<|aS rfl<|aS rfl<|Te<|Cs<|Cr<|mV rfl<|mV rfl ?_
 obtain ⟨g, a, hm⟩ := bS hm
 refine tD (uW _ j3J rfl (fun w ho => q6M _ [] e f g a) (fun _ _ _ h => h.2.symm)) ?_
 rintro _ _ ⟨⟨_, rfl, _⟩, rfl⟩
 refine tS (sn2 rfl)<|Te<|cM hm rfl (fun hm => ?_) fun hm => ?_
 refine Cr<|mV rfl<|aS rfl<|aS rfl<|Te<|Ct<|Xr ?_
 obtain ⟨rfl, rfl⟩ := Z6 hm
 exact rT ⟨rfl, rfl⟩ lr
 refine Ck<|Xn<|Cr<|mV rfl<|mV rfl<|tS (q1Y rfl z0f)<|mV rfl<|tS (q1Y rfl z0f) ?_
 obtain ⟨_, c, hm⟩ := bS hm
 have c := (kS c).2
 refine tS (sb rfl rfl c) ?_
 obtain ⟨k, i, hm⟩ := bS hm
 refine tS (z0z rfl (.inl ⟨rfl, rfl⟩) (.inr ⟨_, _, rfl, rfl⟩) i z0f)<|aS rfl<|aS rfl<|Te<|Ct ?_
 obtain ⟨rfl, rfl⟩ := Z6 hm
 exact rT ⟨rfl, rfl⟩ lr
theorem q9o (b : k8) (R : Hp) (c d e f) (hm : q3h c d = some (e, f)):
 w8 Tryz.prog 86 [.string (c), .string (d)] b (R) (fun v b' hp' => .tuple #[.string (e), bv f] = v ∧ R = hp') := by
 refine fE 11 Tryz.func86 rfl Tryz.ntmps86 rfl ?_
 unfold q3h at hm
 refine Cr<|aS rfl<|aS rfl<|Te<|Cr<|mV rfl<|mV rfl ?_
 obtain ⟨⟨g, i⟩, a, hm⟩ := bS hm
 have hm := J4 hm
 refine tD (uW _ j3S rfl (fun w ho => q6N _ [] c d g i a) (fun _ _ _ h => h.2.symm)) ?_
 rintro _ _ ⟨⟨_, rfl, _⟩, rfl⟩
 refine tS (j5 rfl rfl)<|tS (j5 rfl rfl)<|aS rfl<|aS rfl<|Te<|Ct ?_
 obtain ⟨rfl, rfl⟩ := Z6 hm
 exact rT ⟨rfl, rfl⟩ lr
theorem q6L (b : k8) (R : Hp) (a c d) (hm : q1t a c = some d):
 w8 Tryz.prog 166 [.string (a), .int .u8 (c)] b (R) (fun v b' hp' => iv d = v ∧ R = hp') := by
 refine fE 8 Tryz.func166 rfl Tryz.ntmps166 rfl ?_
 unfold q1t at hm
 refine Cr<|aS rfl<|Te<|Cr<|mV rfl<|mV rfl<|tS (z4c j1g j1f j1e j1d j1c rfl (z7f _ _))<|aS rfl<|Te<|Ct ?_
 obtain rfl := o1 hm
 exact rO ⟨rfl, rfl⟩ lr
theorem q9n (b : k8) (R : Hp) (j k e) (hm : q3g j k = some e):
 w8 Tryz.prog 155 [.string (j), .string (k)] b (R) (fun v b' hp' => iv e = v ∧ R = hp') := by
 refine fE 143 Tryz.func155 rfl Tryz.ntmps155 rfl ?_
 unfold q3g at hm
 refine Cr<|aS rfl<|Te<|Cr<|mV rfl<|tS (q1Y rfl z0f)<|aS rfl<|Te<|Cs<|Cb ?_
 obtain ⟨l, f, g⟩ := bS hm
 refine Cj (fun i e' hp' => [(0, .string (j)), (1, .string (k)), (5, iv ((k.size : Int))), (16, bv l)] = e' ∧ R = hp' ∧ b.Le i) ?_ ?_
 have hm := f
 refine Cg<|mV rfl<|Tb rfl (q1 rfl rfl) (fun c => ?_) (fun c => ?_)
 rw [if_pos c] at hm
 refine mV rfl<|nO<|nO<|nO<|tS (pT rfl rfl)<|aS rfl<|Tn ?_
 obtain rfl := o1 hm
 exact jJ ⟨rfl, rfl, lr⟩
 rw [if_neg c] at hm
 refine mV rfl<|yS<|mV rfl<|yS<|mV rfl<|yS<|tS (z0y rfl rfl)<|tS (pF rfl rfl)<|aS rfl<|Tn ?_
 obtain rfl := o1 hm
 exact jJ ⟨rfl, rfl, lr⟩
 rintro i _ _ ⟨rfl, rfl, a⟩
 have hm := g
 refine cB hm rfl (fun hm => ?_) fun hm => ?_
 refine Cr<|aS rfl<|Te<|Ct<|Xb<|Xr ?_
 obtain rfl := o1 hm
 exact rO ⟨rfl, rfl⟩ a
 refine Cr<|mV rfl<|tS (q1 rfl rfl)<|aS rfl<|Te<|cI hm rfl (fun hm => ?_) fun hm => ?_
 refine Cr<|mV rfl<|mV rfl ?_
 obtain ⟨m, n, hm⟩ := bS hm
 refine tS (z8l rfl rfl n z0f) ?_
 obtain ⟨o, d, hm⟩ := bS hm
 refine tD (uW _ j3F rfl (fun w ho => q6L _ [] j m o d) (fun _ _ _ h => h.2.symm)) ?_
 rintro _ _ ⟨⟨_, rfl, _⟩, rfl⟩
 refine aS rfl<|Te<|Ct<|Xb<|Xr ?_
 obtain rfl := o1 hm
 exact rO ⟨rfl, rfl⟩ a
 refine Cr<|mV rfl<|mV rfl<|tS (q1Y rfl z0f)<|tS (q6 rfl rfl)<|aS rfl<|Te<|cI hm rfl (fun hm => ?_) fun hm => ?_
 refine Cr<|aS rfl<|Te<|Ct<|Xb<|Xr ?_
 obtain rfl := o1 hm
 exact rO ⟨rfl, rfl⟩ a
 refine Cr<|mV rfl ?_
 cases hm
theorem q8y (b : k8) (R : Hp) (c d e) (hm : q4f c d = some e):
 w8 Tryz.prog 135 [.string (c), .string (d)] b (R) (fun v b' hp' => iv e = v ∧ R = hp') := by
 refine fE 8 Tryz.func135 rfl Tryz.ntmps135 rfl ?_
 unfold q4f at hm
 refine Cr<|aS rfl<|Te<|Cr<|mV rfl<|mV rfl ?_
 obtain ⟨f, a, hm⟩ := bS hm
 refine tD (uW _ j3G rfl (fun w ho => q9n _ [] c d f a) (fun _ _ _ h => h.2.symm)) ?_
 rintro _ _ ⟨⟨_, rfl, _⟩, rfl⟩
 refine aS rfl<|Te<|Ct ?_
 obtain rfl := o1 hm
 exact rO ⟨rfl, rfl⟩ lr
theorem z3H (b : k8) (R : Hp) (q m j) (hm : q5P q m = some j):
 w8 Tryz.prog 134 [.string (q), .string (m)] b (R) (fun v b' hp' => iv j = v ∧ R = hp') := by
 refine fE 34 Tryz.func134 rfl Tryz.ntmps134 rfl ?_
 unfold q5P at hm
 refine Cr<|aS rfl<|Te<|Cs<|Cr<|mV rfl<|tS (q1Y rfl z0f)<|tS (q1 rfl rfl)<|Te<|cI hm rfl (fun hm => ?_) fun hm => ?_
 refine Cr<|mV rfl ?_
 cases hm
 refine Ck<|Xn<|Cs<|Cr<|mV rfl<|tS (q1Y rfl z0f)<|tS (q1 rfl rfl)<|Te<|cI hm rfl (fun hm => ?_) fun hm => ?_
 refine Cr<|mV rfl<|mV rfl ?_
 obtain ⟨s, n, hm⟩ := bS hm
 refine tS (z8l rfl rfl n z0f)<|tS (z4c j1l j1k j1j j1i j1h rfl (z7g _ _))<|aS rfl<|Te<|Ct<|Xr ?_
 obtain rfl := o1 hm
 exact rO ⟨rfl, rfl⟩ lr
 refine Ck<|Xn<|Cr<|aS rfl<|Te<|Cb<|lL (K5 fun e k => fun l e' hp' => [(0, .string (e)), (1, .string (m)), (5, iv k)] = e' ∧ R = hp' ∧ b.Le l) hm ⟨rfl, rfl, lr⟩ ?_
 rintro ⟨e, k⟩ l _ _ r ⟨rfl, rfl, c⟩ a d
 unfold q5w at a
 have hm := J4 a
 refine Cb<|Cr<|mV rfl<|mV rfl ?_
 obtain ⟨o, f, hm⟩ := bS hm
 refine tD (uW _ z9A rfl (fun w ho => q8y _ [] e m o f) (fun _ _ _ h => h.2.symm)) ?_
 rintro _ _ ⟨⟨_, rfl, _⟩, rfl⟩
 refine aS rfl<|Te<|Cs<|Cr<|mV rfl<|tS (q1 rfl rfl)<|Te<|cI hm rfl (fun hm => ?_) fun hm => ?_
 refine Cr<|mV rfl<|aS rfl<|Te<|Ct<|Xr<|Xb<|Xr<|Xb ?_
 have hm := congrArg some (d _ (Kd hm).symm)
 obtain rfl := o1 hm
 exact rO ⟨rfl, rfl⟩ c
 refine Ck<|Xn<|Cr<|mV rfl ?_
 obtain ⟨_, g, hm⟩ := bS hm
 have g := (kS g).2
 refine tS (sa rfl rfl g)<|aS rfl<|Te<|Cg<|mV rfl<|mV rfl<|mV rfl<|tS (q1Y rfl z0f) ?_
 obtain ⟨_, i, hm⟩ := bS hm
 have i := (kS i).2
 refine tS (sa rfl rfl i) ?_
 obtain ⟨t, p, hm⟩ := bS hm
 refine tS (z0z rfl (.inr ⟨_, _, rfl, rfl⟩) (.inl ⟨rfl, rfl⟩) p z0f)<|aS rfl<|Tn<|Xm ?_
 exact jM hm ⟨rfl, rfl, (c)⟩
theorem q9R (b : k8) (R : Hp) (x1 x2 x3 x4 p) (hm : q0M x1 x2 x3 x4 = some p):
 w8 Tryz.prog 116 [.string (x1), .string (x2), iv x3, iv x4] b (R) (fun v b' hp' => ∃ ae af t, sv ae p af = v ∧ (t ++ R) = hp' ∧ OS 9 (OT.fr RT.str) b'.w (sv ae p af) p t) := by
 refine fE 66 Tryz.func116 rfl Tryz.ntmps116 rfl ?_
 unfold q0M at hm
 refine Cr<|aS rfl<|Te<|Cs<|Cr<|mV rfl<|tS (q1 rfl rfl)<|Te<|cI hm rfl (fun hm => ?_) fun hm => ?_
 refine Cr<|aS rfl<|Te<|Ct<|Xr ?_
 obtain rfl := o1 hm
 exact rO ⟨none, 0, [], rfl, rfl, OS.nil⟩ lr
 refine Ck<|Xn<|Cs<|Cr<|mV rfl<|tS (z0y rfl rfl)<|Te<|cB hm rfl (fun hm => ?_) fun hm => ?_
 refine Cr<|mV rfl<|mV rfl ?_
 cases hm
 refine Ck<|Xn ?_
 obtain ⟨ag, al, am⟩ := bS hm
 refine Cj (fun q e' hp' => [(0, .string (x1)), (1, .string (x2)), (2, iv x3), (3, iv ag)] = e' ∧ R = hp' ∧ b.Le q) ?_ ?_
 have hm := al
 refine Cr<|mV rfl<|tS (q3 rfl rfl)<|Te<|cI hm rfl (fun hm => ?_) fun hm => ?_
 refine Cg<|mV rfl<|mV rfl ?_
 obtain ⟨aB, Y, hm⟩ := bS hm
 refine tD (uW _ j3I rfl (fun w ho => z3H _ [] x1 x2 aB Y) (fun _ _ _ h => h.2.symm)) ?_
 rintro _ _ ⟨⟨_, rfl, _⟩, rfl⟩
 obtain ⟨_, u, hm⟩ := bS hm
 have u := (kS u).2
 refine tS (sa rfl rfl u)<|aS rfl<|Tn ?_
 obtain rfl := o1 hm
 exact jJ ⟨rfl, rfl, lr⟩
 refine Ck ?_
 obtain rfl := o1 hm
 exact jJ ⟨rfl, rfl, lr⟩
 rintro q _ _ ⟨rfl, rfl, Z⟩
 have hm := am
 refine Cr<|mV rfl<|mV rfl<|tS (q1Y rfl z0f) ?_
 obtain ⟨_, x, hm⟩ := bS hm
 have x := (kS x).2
 refine tS (sa rfl rfl x)<|tS (j1K rfl rfl)<|aS rfl<|Te<|Cr<|mV rfl ?_
 obtain ⟨y, m, hm⟩ := bS hm
 have m := q1N m
 refine tD (K2 (r := RT.str) [] R [.string (ByteArray.empty)] ByteArray.empty y rfl m.1 rfl rfl z5h j7B rfl rfl rfl (by decide) rfl m.2.1 m.2.2) ?_
 rintro _ _ ⟨an, rfl, ah⟩
 obtain ⟨c, a, rfl, _⟩ := ah.form
 refine aS rfl<|Te<|Cr<|mV rfl ?_
 obtain ⟨_, z, hm⟩ := bS hm
 have z := (kS z).2
 refine tS (sb rfl rfl z)<|aS rfl<|Te<|Cr<|aS rfl<|Te ?_
 obtain ⟨⟨n, A, f⟩, ao, aq⟩ := bS hm
 refine Cj (fun B e' hp' => ∃ o, [(0, .string (n)), (9, sv c f a), (10, iv A)] = e' ∧ (o ++ R) = hp' ∧ q.Le B ∧ OS 9 (OT.fr RT.str) B.w (sv c f a) f o ∧ f.length = y) ?_ ?_
 have hm := ao
 refine Cb<|lL (q4L fun C D g => fun E e' hp' => ∃ d, [(0, .string (C)), (1, .string (x2)), (2, iv x3), (3, iv ((min ag ((x1.size : Int) + 1)) - 1)), (9, sv c g a), (10, iv D)] = e' ∧ (d ++ R) = hp' ∧ q.Le E ∧ OS 9 (OT.fr RT.str) E.w (sv c g a) g d ∧ g.length = y) hm ⟨an, rfl, rfl, lr, ah, List.length_replicate⟩ ?_
 rintro ⟨C, D, g⟩ E _ _ aT ⟨d, rfl, rfl, j, s, k⟩ e i
 unfold W3 at e
 have hm := q4s e
 refine Cs<|Cr<|mV rfl<|mV rfl<|tS (q3 rfl rfl)<|Te<|cI hm rfl (fun hm => ?_) fun hm => ?_
 refine Ck<|Xn<|Cb<|Cr<|mV rfl<|mV rfl ?_
 obtain ⟨aC, aa, hm⟩ := bS hm
 refine tD (uW _ z9A rfl (fun w ho => q8y _ [] C x2 aC aa) (fun _ _ _ h => h.2.symm)) ?_
 rintro _ _ ⟨⟨_, rfl, _⟩, rfl⟩
 refine aS rfl<|Te<|Cs<|Cr<|mV rfl<|tS (q3 rfl rfl)<|Te<|cI hm rfl (fun hm => ?_) fun hm => ?_
 refine Ce<|Xe<|Xi rfl<|Xe<|Xo ?_
 have hm := congrArg some (i _ (Kd hm).symm)
 obtain ⟨rfl, rfl, rfl⟩ := q2o hm
 exact jJ ⟨d, rfl, rfl, j, s, k⟩
 refine Ck<|Xn<|Cr<|mV rfl<|mV rfl<|mV rfl<|mV rfl<|mV rfl ?_
 obtain ⟨_, F, hm⟩ := bS hm
 have F := (kS F).2
 refine tS (sa rfl rfl F) ?_
 obtain ⟨G, aD, hm⟩ := bS hm
 refine tS (z0z rfl (.inl ⟨rfl, rfl⟩) (.inr ⟨_, _, rfl, rfl⟩) aD z0f) ?_
 obtain ⟨a3, aE, hm⟩ := bS hm
 obtain ⟨aF, H, I⟩ := iS aE
 obtain ⟨aU, aV, a4, a5, aW, ar, aN, au, ab, aX, aO⟩ := OS.get (sz := 1) rfl (by decide) s I
 obtain ⟨rfl, rfl⟩ := ar
 refine tS (sI aF rfl rfl H ab au z5h)<|tD (uP H (sz := 1) (a' := G) rfl [] R 0 1 [.string (G)] rfl s I rfl rfl rfl j7q rfl (mc rfl mn) (fun cs hsj hh => by obtain ⟨rfl, rfl⟩ := hh; exact ⟨by first | decide | exact Nat.le_refl _, rfl, rfl⟩)) ?_
 rintro _ _ ⟨av, rfl, aG⟩
 refine Tr 9 rfl (v' := .slice c (put g D G).length a) (by simp only [v7])<|Te<|Cr<|mV rfl<|mV rfl<|mV rfl<|tS (q1Y rfl z0f) ?_
 obtain ⟨_, J, hm⟩ := bS hm
 have J := (kS J).2
 refine tS (sa rfl rfl J) ?_
 obtain ⟨a6, aH, hm⟩ := bS hm
 refine tS (z0z rfl (.inr ⟨_, _, rfl, rfl⟩) (.inl ⟨rfl, rfl⟩) aH z0f)<|aS rfl<|Te<|Cg<|mV rfl ?_
 obtain ⟨_, K, hm⟩ := bS hm
 have K := (kS K).2
 refine tS (sa rfl rfl K)<|aS rfl<|Tn<|Xm ?_
 exact jM hm ⟨av, rfl, rfl, (j), aG, ((v7 _ _ _).trans k)⟩
 refine Ce<|Xe<|Xe<|Xo ?_
 have hm := congrArg some (i _ (Kd hm).symm)
 obtain ⟨rfl, rfl, rfl⟩ := q2o hm
 exact jJ ⟨d, rfl, rfl, j, s, k⟩
 rintro B _ _ ⟨o, rfl, rfl, ac, ai, aP⟩
 have hm := q4s aq
 refine Cr<|mV rfl<|mV rfl<|mV rfl ?_
 obtain ⟨a7, aI, hm⟩ := bS hm
 obtain ⟨aJ, L, O⟩ := iS aI
 obtain ⟨aY, aZ, a8, a9, a0, aw, aQ, ax, ad, a1, aR⟩ := OS.get (sz := 1) rfl (by decide) ai O
 obtain ⟨rfl, rfl⟩ := aw
 refine tS (sI aJ rfl rfl L ad ax z5h)<|tD (uP L (sz := 1) (a' := n) rfl [] R 0 1 [.string (n)] rfl ai O rfl rfl rfl j7q rfl (mc rfl mn) (fun cs hsj hh => by obtain ⟨rfl, rfl⟩ := hh; exact ⟨by first | decide | exact Nat.le_refl _, rfl, rfl⟩)) ?_
 rintro _ _ ⟨ay, rfl, aj⟩
 refine Tr 9 rfl (v' := .slice c (put f A n).length a) (by simp only [v7])<|Te<|Cr<|mV rfl<|mV rfl ?_
 obtain ⟨_, S, hm⟩ := bS hm
 have S := (kS S).2
 refine tS (sa rfl rfl S) ?_
 obtain ⟨ba, aK, hm⟩ := bS hm
 obtain ⟨T, aL, a2, az, U, V, W⟩ := q6G aK
 have aM := OS.lc aj
 refine tS (W ▸ z0A (l := put f A n) T aL rfl (.inl ⟨rfl, by omega⟩) (.inr ⟨_, _, _, rfl, rfl, az⟩) U V aM z5h) ?_
 obtain ⟨X, aA, ak⟩ := OS.sub (sz := 1) rfl aj U V
 rw [← W] at ak
 refine q7W [] ay X R rfl aA<|aS rfl<|Te<|Ct ?_
 obtain rfl := o1 hm
 exact rO ⟨(z2k c a T 1), (a - T), X, rfl, rfl, ak⟩ (Z.trans ac)
theorem q8x (b : k8) (R : Hp) (i j a) (hm : K8 i j = some a):
 w8 Tryz.prog 87 [.string (i), .string (j)] b (R) (fun v b' hp' => ∃ g h c, sv g a h = v ∧ (c ++ R) = hp' ∧ OS 9 (OT.fr RT.str) b'.w (sv g a h) a c) := by
 refine fE 8 Tryz.func87 rfl Tryz.ntmps87 rfl ?_
 unfold K8 at hm
 refine Cr<|aS rfl<|Te<|Cr<|mV rfl<|mV rfl ?_
 obtain ⟨k, e, hm⟩ := bS hm
 refine Tg _ rfl j3R rfl (q9R _ _ i j 0 (-1) k e) ?_
 rintro _ o _ f ⟨l, m, d, rfl, rfl, n⟩
 refine q5k [] [] d R rfl<|aS rfl<|Te<|Ct ?_
 obtain rfl := o1 hm
 exact rO ⟨l, m, d, rfl, rfl, n⟩ f
theorem z7R (b : k8) (R : Hp) (x1 G n) (hm : q4r x1 = some (G, n)):
 w8 Tryz.prog 45 [.string (x1)] b (R) (fun v b' hp' => ∃ H I s, .tuple #[sv H n I, bv G] = v ∧ (s ++ R) = hp' ∧ OS 22 (OT.fr (RT.list RT.str)) b'.w (sv H n I) n s) := by
 refine fE 31 Tryz.func45 rfl Tryz.ntmps45 rfl ?_
 unfold q4r at hm
 refine Cr<|aS rfl<|aS rfl<|Te<|Cs<|Cr<|mV rfl<|tS (z0y rfl rfl)<|Te<|cB hm rfl (fun hm => ?_) fun hm => ?_
 refine Cr<|aS rfl<|aS rfl<|Te<|Ct<|Xr ?_
 obtain ⟨rfl, rfl⟩ := Z6 hm
 exact rT ⟨none, 0, [], rfl, rfl, OS.nil⟩ lr
 refine Ck<|Xn<|Cr<|mV rfl ?_
 obtain ⟨⟨J, K⟩, A, hm⟩ := bS hm
 have hm := J4 hm
 refine tD (uW _ j5l rfl (fun w ho => q9o _ [] x1 (ByteArray.mk #[10]) J K A) (fun _ _ _ h => h.2.symm)) ?_
 rintro _ _ ⟨⟨_, rfl, _⟩, rfl⟩
 refine mV rfl<|tS (j5 rfl rfl)<|tS (j5 rfl rfl)<|aS rfl<|aS rfl<|Te<|Cr<|aS rfl<|Te<|Cs<|Cr<|mV rfl ?_
 obtain ⟨o, B, hm⟩ := bS hm
 refine Tg _ rfl j2b rfl (q8x _ _ J (ByteArray.mk #[10]) o B) ?_
 rintro _ ab _ C ⟨ac, ad, d, rfl, rfl, L⟩
 refine q5k [] [] d R rfl<|tS (sE rfl z5h)<|mV rfl<|Te<|Cb ?_
 have an : o.length ≤ 9223372036854775807 := (OS.len L)
 obtain ⟨f, T, U⟩ := bS hm
 refine lS (fun O => fun f => fun p e' hp' => ∃ k m a, [(5, bv K), (6, sv k f m), (17, sv ac o ad), (18, iv ((o.length : Int))), (19, iv ((O : Int)))] = e' ∧ (a ++ (d ++ R)) = hp' ∧ ab.Le p ∧ OS 22 (OT.fr (RT.list RT.str)) p.w (sv k f m) f a) T ⟨none, 0, [], rfl, rfl, lr, OS.nil⟩ ?_ ?_
 rintro O f p _ _ ao ae ⟨k, m, a, rfl, rfl, c, t⟩ e
 unfold q0y at e
 have hm := e
 refine Cr<|tS (lT rfl rfl (by omega))<|Te<|Cs<|k9 rfl<|Ck<|Xn<|Cs<|Cb<|Cr ?_
 obtain ⟨af, ag, hm⟩ := bS hm
 obtain ⟨ah, V, W⟩ := iS ag
 obtain ⟨aq, ar, aw, ax, au, X, D, Y, E, av, am⟩ := OS.get (sz := 1) rfl (by decide) (L.le c) W
 obtain ⟨rfl, rfl⟩ := X
 refine tS (sI ah rfl rfl V E Y z5h)<|tS (w9 rfl j6S (fun w ho => D w _ ho (ss a (Kb _ _)) 0 _ rfl))<|aS rfl<|Te<|Cg<|mV rfl<|mV rfl ?_
 obtain ⟨g, F, hm⟩ := bS hm
 refine Tg _ rfl j2b rfl (q8x _ _ af (ByteArray.mk #[32]) g F) ?_
 rintro _ ay _ q ⟨u, x, y, rfl, rfl, ai⟩
 refine q5k [] [] y (a ++ (d ++ R)) rfl<|tD (V7 (el := 22) [(0, sv u g x)] [sv u g x] rfl (fun _ => by kernel_rfl)) ?_
 rintro _ _ ⟨az, rfl, rfl⟩
 refine j0v [_] y (a ++ (d ++ R)) rfl ?_
 intro aA j Z
 have aj := OS.frz (l := g) ai j.cells Z
 obtain ⟨_, z, hm⟩ := bS hm
 have z := V6 z
 refine tD (uQ (r := (RT.list RT.str)) (l := f) [_] (d ++ R) [[sv u g x]] [g] rfl (by decide) j6F j7c rfl rfl rfl rfl (t.le (q.trans j)) rfl (fun w ho => Rd.own (i := 0) ho rfl) ⟨(RT.list_mk aj), trivial⟩ z) ?_
 rintro _ _ ⟨aa, rfl, S⟩
 obtain ⟨ak, al, rfl, _⟩ := S.form
 refine aS rfl<|Tn<|Xm<|Xn<|Cg<|tS (sa rfl rfl (by omega))<|mV rfl<|Tn ?_
 obtain rfl := o1 hm
 exact jS ⟨ak, al, aa, rfl, rfl, ((c.trans (q.trans j))), S⟩
 rintro p _ _ ⟨k, m, a, rfl, rfl, c, t⟩
 have hm := U
 refine Cr<|tS (lF rfl rfl (by omega))<|Te<|Cs<|k7 rfl<|Ce<|Xe<|Xe<|Xo<|Xn<|Cr<|mV rfl<|mV rfl<|aS rfl<|aS rfl<|Te<|Ct ?_
 obtain ⟨rfl, rfl⟩ := Z6 hm
 exact rT ⟨k, m, a, rfl, rfl, t⟩ (C.trans c)
theorem z9M (b : k8) (R : Hp) (k C) (hm : q6w k = some C):
 w8 Tryz.prog 47 [.string (k)] b (R) (fun v b' hp' => bv C = v ∧ R = hp') := by
 refine fE 27 Tryz.func47 rfl Tryz.ntmps47 rfl ?_
 unfold q6w at hm
 refine Cr<|aS rfl<|Te<|Cs<|Cr<|mV rfl ?_
 obtain ⟨_, q, hm⟩ := bS hm
 have q := (kS q).2.2
 refine tD (j2K rfl z0f j2V j3o q) ?_
 rintro _ _ ⟨D, E, tl67, fr68, rfl, rfl, O, S⟩
 refine j4t 0 rfl ?_
 intro T h F
 have G := j1w F O S
 refine tS (sE rfl j2V)<|mV rfl<|Te<|Cb ?_
 have W : (q1X k).length ≤ 9223372036854775807 := (FZ.bd G)
 obtain ⟨Z, H, f⟩ := bS hm
 refine lF (fun r => fun _ => fun i e' hp' => [(0, .string (k)), (6, .slice (some ⟨D, 0, none⟩) (q1X k).length E), (7, iv (((q1X k).length : Int))), (8, iv ((r : Int)))] = e' ∧ R = hp' ∧ T.Le i) H ⟨rfl, rfl, lr⟩ ?_ ?_
 rintro r _ i _ _ X L ⟨rfl, rfl, a⟩ c j
 unfold q4j at c
 have hm := c
 refine Cr<|tS (lT rfl rfl (by omega))<|Te<|Cs<|k9 rfl<|Ck<|Xn<|Cs<|Cb<|Cr ?_
 obtain ⟨Y, I, U, s, V, t, l, u, m, hm⟩ := bF (sz := 1) hm (G.le a)
 obtain rfl := t
 refine tS (sI I rfl rfl s m u j2V)<|tS (sO rfl j7O (l 0 _ rfl))<|aS rfl<|Te ?_
 obtain ⟨J, w, x⟩ := bS hm
 refine Cj (fun o e' hp' => [(0, .string (k)), (6, .slice (some ⟨D, 0, none⟩) (q1X k).length E), (7, iv (((q1X k).length : Int))), (8, iv ((r : Int))), (17, bv J)] = e' ∧ R = hp' ∧ i.Le o) ?_ ?_
 have hm := w
 refine Cg<|mV rfl<|Tb rfl (q3 rfl rfl) (fun d => ?_) (fun d => ?_)
 rw [if_pos d] at hm
 refine mV rfl<|nO<|nO<|tS (pT rfl rfl)<|Tn ?_
 obtain rfl := o1 hm
 exact jJ ⟨rfl, rfl, lr⟩
 rw [if_neg d] at hm
 refine mV rfl<|yS<|mV rfl<|yS<|tS (q5 rfl rfl)<|tS (pF rfl rfl)<|Tn ?_
 obtain rfl := o1 hm
 exact jJ ⟨rfl, rfl, lr⟩
 rintro o _ _ ⟨rfl, rfl, g⟩
 have hm := x
 refine cB hm rfl (fun hm => ?_) fun hm => ?_
 refine Cr<|aS rfl<|Te<|Ct<|Xb<|Xr<|Xr<|Xb<|Xr ?_
 have y := j _ (Kd hm).symm
 rw [y] at f
 have hm := J9 f
 obtain rfl := o1 hm
 exact rO ⟨rfl, rfl⟩ (h.trans (a.trans g))
 refine Ck<|Xm<|Xn<|Cg<|tS (sa rfl rfl (by omega))<|mV rfl<|Tn ?_
 exact jM hm ⟨rfl, rfl, ((a.trans g))⟩
 rintro _ i _ _ ⟨rfl, rfl, a⟩ z
 rw [z] at f
 have hm := H4 f
 refine Cr<|tS (lF rfl rfl (by omega))<|Te<|Cs<|k7 rfl<|Ce<|Xe<|Xe<|Xo<|Xn ?_
 obtain ⟨K, A, B⟩ := bS hm
 refine Cj (fun p e' hp' => [(2, bv K)] = e' ∧ R = hp' ∧ i.Le p) ?_ ?_
 have hm := A
 refine Cg<|mV rfl<|tS (q1Y rfl z0f)<|Tb rfl (q6 rfl rfl) (fun e => ?_) (fun e => ?_)
 rw [if_pos e] at hm
 refine mV rfl<|yS<|mV rfl<|yS<|tS (q1Y rfl z0f)<|yS<|tS (q4 rfl rfl)<|tS (pT rfl rfl)<|aS rfl<|Tn ?_
 obtain rfl := o1 hm
 exact jJ ⟨rfl, rfl, lr⟩
 rw [if_neg e] at hm
 refine mV rfl<|nO<|nO<|nO<|tS (pF rfl rfl)<|aS rfl<|Tn ?_
 obtain rfl := o1 hm
 exact jJ ⟨rfl, rfl, lr⟩
 rintro p _ _ ⟨rfl, rfl, n⟩
 have hm := B
 refine Ct ?_
 obtain rfl := o1 hm
 exact rO ⟨rfl, rfl⟩ (h.trans (a.trans n))
theorem z4L (b : k8) (R : Hp) (i s t u) (x : FZ RT.str b.w t u i) (j) (hm : q4W i s = some j):
 w8 Tryz.prog 89 [sv t i u, .string (s)] b (R) (fun v b' hp' => iv j = v ∧ R = hp') := by
 refine fE 19 Tryz.func89 rfl Tryz.ntmps89 rfl ?_
 unfold q4W at hm
 refine Cr<|aS rfl<|Te<|Cs<|Cr<|mV rfl<|tS (sE rfl z5h)<|mV rfl<|Te<|Cb ?_
 have y : i.length ≤ 9223372036854775807 := (FZ.bd x)
 obtain ⟨C, k, d⟩ := bS hm
 refine lF (fun l => fun _ => fun f e' hp' => [(0, sv t i u), (1, .string (s)), (7, iv ((i.length : Int))), (8, iv ((l : Int)))] = e' ∧ R = hp' ∧ b.Le f) k ⟨rfl, rfl, lr⟩ ?_ ?_
 rintro l _ f _ _ z r ⟨rfl, rfl, a⟩ c e
 unfold q2i at c
 have hm := c
 refine Cr<|tS (lT rfl rfl (by omega))<|Te<|Cs<|k9 rfl<|Ck<|Xn<|Cs<|Cb<|Cr<|mV rfl<|aS rfl<|Te<|Cr<|mV rfl<|mV rfl<|mV rfl ?_
 obtain ⟨D, w, A, m, B, n, g, o, h, hm⟩ := bF (sz := 1) hm (x.le a)
 obtain rfl := n
 refine tS (sI w rfl rfl m h o z5h)<|tS (sO rfl j6S (g 0 _ rfl))<|tS (z0y rfl rfl)<|Te<|cB hm rfl (fun hm => ?_) fun hm => ?_
 refine Cr<|mV rfl<|aS rfl<|Te<|Ct<|Xb<|Xr<|Xr<|Xb<|Xr ?_
 have p := e _ (Kd hm).symm
 rw [p] at d
 have hm := J9 d
 obtain rfl := o1 hm
 exact rO ⟨rfl, rfl⟩ a
 refine Ck<|Xm<|Xn<|Cg<|tS (sa rfl rfl (by omega))<|mV rfl<|Tn ?_
 exact jM hm ⟨rfl, rfl, (a)⟩
 rintro _ f _ _ ⟨rfl, rfl, a⟩ q
 rw [q] at d
 have hm := H4 d
 refine Cr<|tS (lF rfl rfl (by omega))<|Te<|Cs<|k7 rfl<|Ce<|Xe<|Xe<|Xo<|Xn<|Cr<|aS rfl<|Te<|Ct ?_
 obtain rfl := o1 hm
 exact rO ⟨rfl, rfl⟩ a
theorem z1k (b : k8) (R : Hp) (c d e f) (i : FZ RT.str b.w e f c) (g) (hm : q1w c d = some g):
 w8 Tryz.prog 48 [sv e c f, .string (d)] b (R) (fun v b' hp' => bv g = v ∧ R = hp') := by
 refine fE 9 Tryz.func48 rfl Tryz.ntmps48 rfl ?_
 unfold q1w at hm
 refine Cr<|aS rfl<|Te<|Cr<|mV rfl<|mV rfl ?_
 obtain ⟨j, a, hm⟩ := bS hm
 refine tD (uW _ j5k rfl (fun w ho => z4L _ [] c d e f (i.old ho) j a) (fun _ _ _ h => h.2.symm)) ?_
 rintro _ _ ⟨⟨_, rfl, _⟩, rfl⟩
 refine tS (q6 rfl rfl)<|aS rfl<|Te<|Ct ?_
 obtain rfl := o1 hm
 exact rO ⟨rfl, rfl⟩ lr
theorem z1t (b : k8) (R : Hp) (a c) (hm : q4A a = some c):
 w8 Tryz.prog 90 [iv a] b (R) (fun v b' hp' => iv c = v ∧ R = hp') := by
 refine fE 10 Tryz.func90 rfl Tryz.ntmps90 rfl ?_
 unfold q4A at hm
 refine Cr<|aS rfl<|Te<|Cs<|Cr<|mV rfl<|Te<|Cb<|Cr<|tS (q1 rfl rfl)<|aS rfl<|Te<|cI hm rfl (fun hm => ?_) fun hm => ?_
 refine Cr<|aS rfl<|Te<|Ct<|Xb<|Xr ?_
 obtain rfl := o1 hm
 exact rO ⟨rfl, rfl⟩ lr
 refine Cr<|tS (q1 rfl rfl)<|aS rfl<|Te<|cI hm rfl (fun hm => ?_) fun hm => ?_
 refine Cr<|aS rfl<|Te<|Ct<|Xb<|Xr ?_
 obtain rfl := o1 hm
 exact rO ⟨rfl, rfl⟩ lr
 refine Cr<|tS (q1 rfl rfl)<|aS rfl<|Te<|cI hm rfl (fun hm => ?_) fun hm => ?_
 refine Cr<|aS rfl<|Te<|Ct<|Xb<|Xr ?_
 obtain rfl := o1 hm
 exact rO ⟨rfl, rfl⟩ lr
 refine Ck<|Xm<|Xn<|Cr<|aS rfl<|Te<|Ct ?_
 obtain rfl := o1 hm
 exact rO ⟨rfl, rfl⟩ lr
theorem X9 (b : k8) (R : Hp) (i j k d) (hm : V9 i j k = some d):
 w8 Tryz.prog 91 [iv i, iv j, iv k] b (R) (fun v b' hp' => bv d = v ∧ R = hp') := by
 refine fE 15 Tryz.func91 rfl Tryz.ntmps91 rfl ?_
 unfold V9 at hm
 refine Cr<|aS rfl<|Te ?_
 obtain ⟨h, e, f⟩ := bS hm
 refine Cj (fun g e' hp' => [(6, bv h)] = e' ∧ R = hp' ∧ b.Le g) ?_ ?_
 have hm := e
 refine Cg<|mV rfl<|mV rfl<|Tb rfl (q6 rfl rfl) (fun a => ?_) (fun a => ?_)
 rw [if_pos a] at hm
 refine mV rfl<|yS<|mV rfl<|yS<|mV rfl<|yS<|tS (q4 rfl rfl)<|tS (pT rfl rfl)<|aS rfl<|Tn ?_
 obtain rfl := o1 hm
 exact jJ ⟨rfl, rfl, lr⟩
 rw [if_neg a] at hm
 refine mV rfl<|nO<|nO<|nO<|tS (pF rfl rfl)<|aS rfl<|Tn ?_
 obtain rfl := o1 hm
 exact jJ ⟨rfl, rfl, lr⟩
 rintro g _ _ ⟨rfl, rfl, c⟩
 have hm := f
 refine Ct ?_
 obtain rfl := o1 hm
 exact rO ⟨rfl, rfl⟩ c
theorem q9u (b : k8) (R : Hp) (a : z7) (T U) (hm : q0A a T = some U):
 w8 Tryz.prog 49 [.agg #[iv a.Kind, iv a.Length, iv a.Grade, iv a.Speed, iv a.Slow, iv a.Station, bv a.Axles], iv T] b (R) (fun v b' hp' => iv U = v ∧ R = hp') := by
 refine fE 84 Tryz.func49 rfl Tryz.ntmps49 rfl ?_
 unfold q0A at hm
 refine Cr<|tD (uB _ rfl rfl) ?_
 rintro _ _ ⟨z, rfl, rfl⟩
 refine aS rfl<|Te<|Cs<|Di mixed (.refl _)<|E0 0 rfl (sF rfl q4B)<|Es 1 rfl (sL 0 rfl Q5 rfl rfl)<|E0 2 rfl (q1 rfl rfl)<|E0 3 rfl (sF rfl q4B)<|Es 4 rfl (sL 0 rfl Q5 rfl rfl)<|E0 5 rfl (q1 rfl rfl)<|E0 6 rfl (sF rfl q4B)<|Es 7 rfl (sL 0 rfl Q5 rfl rfl)<|E0 8 rfl (q1 rfl rfl)<|E0 9 rfl (sA rfl)<|E0 10 rfl (sA rfl)<|E0 11 rfl (sA rfl)<|Eo<|Dd (by kernel_rfl)<|Xn<|Cs<|Cb<|Cr<|tS (sF rfl q4B)<|tS (sL 0 rfl Q5 rfl rfl) ?_
 obtain ⟨ae, G, hm⟩ := bS hm
 refine tD (uW _ z9t rfl (fun w ho => z1t _ [] a.Kind ae G) (fun _ _ _ h => h.2.symm)) ?_
 rintro _ _ ⟨⟨_, rfl, _⟩, rfl⟩
 refine tS (q1 rfl rfl)<|aS rfl<|Te<|cI hm rfl (fun hm => ?_) fun hm => ?_
 refine Cr<|aS rfl<|Te<|Ct<|Xb<|Xr ?_
 obtain rfl := o1 hm
 exact rO ⟨rfl, rfl⟩ lr
 obtain ⟨af, V, W⟩ := bS hm
 refine Cj (fun H e' hp' => [(1, iv T), (2, pb z), (5, .bool (decide (a.Kind = 2))), (6, .bool (decide (a.Kind = 1))), (7, .bool (decide (a.Kind = 3))), (22, bv af)] = e' ∧ (z, Cl 99 [iv a.Kind, iv a.Length, iv a.Grade, iv a.Speed, iv a.Slow, iv a.Station, bv a.Axles]) :: R = hp' ∧ b.Le H) ?_ ?_
 have hm := V
 refine Cg<|tS (sF rfl z9g)<|tS (sL 0 rfl Q5 rfl rfl) ?_
 obtain ⟨X, I, hm⟩ := bS hm
 refine tD (uW _ q6h rfl (fun w ho => X9 _ [] a.Length 10 3000 X I) (fun _ _ _ h => h.2.symm)) ?_
 rintro _ _ ⟨⟨_, rfl, _⟩, rfl⟩
 rcases Kg X with g | g
 rw [if_pos g] at hm
 refine Tr 25 rfl (v' := .bool true) (by rw [g] <;> rfl)<|tS (K7 rfl)<|mV rfl<|yS<|tS (sF rfl z0T)<|yS<|tS (sL 0 rfl Q5 rfl rfl)<|yS ?_
 obtain ⟨Y, J, hm⟩ := bS hm
 refine tD (uW _ q6h rfl (fun w ho => X9 _ [] a.Grade (-40) 40 Y J) (fun _ _ _ h => h.2.symm)) ?_
 rintro _ _ ⟨⟨_, rfl, _⟩, rfl⟩
 rcases Kg Y with c | c
 rw [if_pos c] at hm
 refine Tr 30 rfl (v' := .bool true) (by rw [c] <;> rfl)<|yS<|tS (K7 rfl)<|tS (pF rfl rfl)<|mV rfl<|yS<|tS (sF rfl z9f)<|yS<|tS (sL 0 rfl Q5 rfl rfl)<|yS ?_
 obtain ⟨Z, A, hm⟩ := bS hm
 refine tD (uW _ q6h rfl (fun w ho => X9 _ [] a.Speed 300 6000 Z A) (fun _ _ _ h => h.2.symm)) ?_
 rintro _ _ ⟨⟨_, rfl, _⟩, rfl⟩
 refine yS<|tS (sn2 rfl)<|tS (pF rfl rfl)<|aS rfl<|Tn ?_
 obtain rfl := o1 hm
 exact jJ ⟨rfl, rfl, lr⟩
 rw [if_neg (fun hh => Bool.noConfusion (hh.symm.trans c))] at hm
 refine Tr 30 rfl (v' := .bool false) (by rw [c] <;> rfl)<|yS<|tS (P7 rfl)<|tS (pF rfl rfl)<|mV rfl<|nO<|nO<|nO<|nO<|tS (pT rfl rfl)<|aS rfl<|Tn ?_
 obtain rfl := o1 hm
 exact jJ ⟨rfl, rfl, lr⟩
 rw [if_neg (fun hh => Bool.noConfusion (hh.symm.trans g))] at hm
 refine Tr 25 rfl (v' := .bool false) (by rw [g] <;> rfl)<|tS (P7 rfl)<|mV rfl<|nO<|nO<|nO<|nO<|tS (pT rfl rfl)<|mV rfl<|nO<|nO<|nO<|nO<|tS (pT rfl rfl)<|aS rfl<|Tn ?_
 obtain rfl := o1 hm
 exact jJ ⟨rfl, rfl, lr⟩
 rintro H _ _ ⟨rfl, rfl, e⟩
 have hm := W
 refine cB hm rfl (fun hm => ?_) fun hm => ?_
 refine Cr<|aS rfl<|Te<|Ct<|Xb<|Xr ?_
 obtain rfl := o1 hm
 exact rO ⟨rfl, rfl⟩ e
 obtain ⟨aa, K, L⟩ := bS hm
 refine Cj (fun y e' hp' => [(2, pb z), (5, .bool (decide (a.Kind = 2))), (6, .bool (decide (a.Kind = 1))), (7, .bool (decide (a.Kind = 3))), (39, bv aa)] = e' ∧ (z, Cl 99 [iv a.Kind, iv a.Length, iv a.Grade, iv a.Speed, iv a.Slow, iv a.Station, bv a.Axles]) :: R = hp' ∧ H.Le y) ?_ ?_
 have hm := K
 refine Cg<|Tb rfl (sM rfl) (fun i => ?_) (fun i => ?_)
 rw [if_pos i] at hm
 refine mV rfl<|yS<|tS (sF rfl z9e)<|yS<|tS (sL 0 rfl Q5 rfl rfl)<|yS<|tS (sF rfl z9f)<|yS<|tS (sL 0 rfl Q5 rfl rfl)<|yS ?_
 obtain ⟨E, B, hm⟩ := bS hm
 refine tD (uW _ q6h rfl (fun w ho => X9 _ [] a.Slow 300 a.Speed E B) (fun _ _ _ h => h.2.symm)) ?_
 rintro _ _ ⟨⟨_, rfl, _⟩, rfl⟩
 rcases Kg E with d | d
 rw [if_pos d] at hm
 refine Tr 46 rfl (v' := .bool true) (by rw [d] <;> rfl)<|yS<|tS (K7 rfl)<|tS (pT rfl rfl)<|mV rfl<|yS<|Tb rfl (sM rfl) (fun j => ?_) (fun j => ?_)
 rw [if_pos j] at hm
 refine yS<|mV rfl<|yS<|tS (sF rfl z3o)<|yS<|tS (sL 0 rfl Q5 rfl rfl)<|yS<|mV rfl<|yS ?_
 obtain ⟨ab, C, hm⟩ := bS hm
 refine tD (uW _ q6h rfl (fun w ho => X9 _ [] a.Station 0 T ab C) (fun _ _ _ h => h.2.symm)) ?_
 rintro _ _ ⟨⟨_, rfl, _⟩, rfl⟩
 refine yS<|tS (sn2 rfl)<|yS<|tS (pT rfl rfl)<|tS (pF rfl rfl)<|aS rfl<|Tn ?_
 obtain rfl := o1 hm
 exact jJ ⟨rfl, rfl, lr⟩
 rw [if_neg j] at hm
 refine yS<|mV rfl<|nO<|nO<|nO<|nO<|nO<|yS<|tS (pF rfl rfl)<|tS (pF rfl rfl)<|aS rfl<|Tn ?_
 obtain rfl := o1 hm
 exact jJ ⟨rfl, rfl, lr⟩
 rw [if_neg (fun hh => Bool.noConfusion (hh.symm.trans d))] at hm
 refine Tr 46 rfl (v' := .bool false) (by rw [d] <;> rfl)<|yS<|tS (P7 rfl)<|tS (pT rfl rfl)<|mV rfl<|nO<|nO<|nO<|nO<|nO<|nO<|nO<|nO<|tS (pT rfl rfl)<|aS rfl<|Tn ?_
 obtain rfl := o1 hm
 exact jJ ⟨rfl, rfl, lr⟩
 rw [if_neg i] at hm
 refine mV rfl<|nO<|nO<|nO<|nO<|nO<|nO<|tS (pF rfl rfl)<|mV rfl<|yS<|Tb rfl (sM rfl) (fun k => ?_) (fun k => ?_)
 rw [if_pos k] at hm
 refine yS<|mV rfl<|yS<|tS (sF rfl z3o)<|yS<|tS (sL 0 rfl Q5 rfl rfl)<|yS<|mV rfl<|yS ?_
 obtain ⟨ac, D, hm⟩ := bS hm
 refine tD (uW _ q6h rfl (fun w ho => X9 _ [] a.Station 0 T ac D) (fun _ _ _ h => h.2.symm)) ?_
 rintro _ _ ⟨⟨_, rfl, _⟩, rfl⟩
 refine yS<|tS (sn2 rfl)<|yS<|tS (pT rfl rfl)<|tS (pF rfl rfl)<|aS rfl<|Tn ?_
 obtain rfl := o1 hm
 exact jJ ⟨rfl, rfl, lr⟩
 rw [if_neg k] at hm
 refine yS<|mV rfl<|nO<|nO<|nO<|nO<|nO<|yS<|tS (pF rfl rfl)<|tS (pF rfl rfl)<|aS rfl<|Tn ?_
 obtain rfl := o1 hm
 exact jJ ⟨rfl, rfl, lr⟩
 rintro y _ _ ⟨rfl, rfl, f⟩
 have hm := L
 refine cB hm rfl (fun hm => ?_) fun hm => ?_
 refine Cr<|aS rfl<|Te<|Ct<|Xb<|Xr ?_
 obtain rfl := o1 hm
 exact rO ⟨rfl, rfl⟩ (e.trans f)
 obtain ⟨ad, O, S⟩ := bS hm
 refine Cj (fun F e' hp' => [(59, bv ad)] = e' ∧ R = hp' ∧ y.Le F) ?_ ?_
 have hm := O
 refine Cg<|tS (sF rfl z9e)<|tS (sL 0 rfl Q5 rfl rfl)<|Tb rfl (q2 rfl rfl) (fun l => ?_) (fun l => ?_)
 rw [if_pos l] at hm
 refine mV rfl<|yS<|Tb rfl (sM rfl) (fun m => ?_) (fun m => ?_)
 rw [if_pos m] at hm
 refine yS<|tS (K7 rfl)<|tS (pT rfl rfl)<|mV rfl<|yS<|tS (sF rfl z3o)<|yS<|tS (sL 0 rfl Q5 rfl rfl)<|yS<|Tb rfl (q2 rfl rfl) (fun n => ?_) (fun n => ?_)
 rw [if_pos n] at hm
 refine yS<|mV rfl<|yS<|Tb rfl (sM rfl) (fun o => ?_) (fun o => ?_)
 rw [if_pos o] at hm
 refine yS<|tS (K7 rfl)<|yS<|tS (pT rfl rfl)<|tS (pF rfl rfl)<|mV rfl<|yS<|tS (sF rfl z0T)<|yS<|tS (sL 0 rfl Q5 rfl rfl)<|yS<|Tb rfl (q2 rfl rfl) (fun p => ?_) (fun p => ?_)
 rw [if_pos p] at hm
 refine yS<|mV rfl<|yS<|mV rfl<|yS<|tS (pT rfl rfl)<|tS (pF rfl rfl)<|aS rfl<|Tn ?_
 obtain rfl := o1 hm
 exact jJ ⟨rfl, rfl, lr⟩
 rw [if_neg p] at hm
 refine yS<|mV rfl<|nO<|yS<|tS (pF rfl rfl)<|tS (pF rfl rfl)<|aS rfl<|Tn ?_
 obtain rfl := o1 hm
 exact jJ ⟨rfl, rfl, lr⟩
 rw [if_neg o] at hm
 refine yS<|tS (P7 rfl)<|yS<|tS (pT rfl rfl)<|tS (pF rfl rfl)<|mV rfl<|nO<|nO<|nO<|nO<|nO<|nO<|tS (pT rfl rfl)<|aS rfl<|Tn ?_
 obtain rfl := o1 hm
 exact jJ ⟨rfl, rfl, lr⟩
 rw [if_neg n] at hm
 refine yS<|mV rfl<|nO<|nO<|yS<|tS (pF rfl rfl)<|tS (pF rfl rfl)<|mV rfl<|yS<|tS (sF rfl z0T)<|yS<|tS (sL 0 rfl Q5 rfl rfl)<|yS<|Tb rfl (q2 rfl rfl) (fun q => ?_) (fun q => ?_)
 rw [if_pos q] at hm
 refine yS<|mV rfl<|yS<|mV rfl<|yS<|tS (pT rfl rfl)<|tS (pF rfl rfl)<|aS rfl<|Tn ?_
 obtain rfl := o1 hm
 exact jJ ⟨rfl, rfl, lr⟩
 rw [if_neg q] at hm
 refine yS<|mV rfl<|nO<|yS<|tS (pF rfl rfl)<|tS (pF rfl rfl)<|aS rfl<|Tn ?_
 obtain rfl := o1 hm
 exact jJ ⟨rfl, rfl, lr⟩
 rw [if_neg m] at hm
 refine yS<|tS (P7 rfl)<|tS (pT rfl rfl)<|mV rfl<|nO<|nO<|nO<|nO<|nO<|nO<|nO<|tS (pT rfl rfl)<|mV rfl<|nO<|nO<|nO<|nO<|nO<|nO<|tS (pT rfl rfl)<|aS rfl<|Tn ?_
 obtain rfl := o1 hm
 exact jJ ⟨rfl, rfl, lr⟩
 rw [if_neg l] at hm
 refine mV rfl<|nO<|nO<|tS (pF rfl rfl)<|mV rfl<|yS<|tS (sF rfl z3o)<|yS<|tS (sL 0 rfl Q5 rfl rfl)<|yS<|Tb rfl (q2 rfl rfl) (fun r => ?_) (fun r => ?_)
 rw [if_pos r] at hm
 refine yS<|mV rfl<|yS<|Tb rfl (sM rfl) (fun s => ?_) (fun s => ?_)
 rw [if_pos s] at hm
 refine yS<|tS (K7 rfl)<|yS<|tS (pT rfl rfl)<|tS (pF rfl rfl)<|mV rfl<|yS<|tS (sF rfl z0T)<|yS<|tS (sL 0 rfl Q5 rfl rfl)<|yS<|Tb rfl (q2 rfl rfl) (fun t => ?_) (fun t => ?_)
 rw [if_pos t] at hm
 refine yS<|mV rfl<|yS<|mV rfl<|yS<|tS (pT rfl rfl)<|tS (pF rfl rfl)<|aS rfl<|Tn ?_
 obtain rfl := o1 hm
 exact jJ ⟨rfl, rfl, lr⟩
 rw [if_neg t] at hm
 refine yS<|mV rfl<|nO<|yS<|tS (pF rfl rfl)<|tS (pF rfl rfl)<|aS rfl<|Tn ?_
 obtain rfl := o1 hm
 exact jJ ⟨rfl, rfl, lr⟩
 rw [if_neg s] at hm
 refine yS<|tS (P7 rfl)<|yS<|tS (pT rfl rfl)<|tS (pF rfl rfl)<|mV rfl<|nO<|nO<|nO<|nO<|nO<|nO<|tS (pT rfl rfl)<|aS rfl<|Tn ?_
 obtain rfl := o1 hm
 exact jJ ⟨rfl, rfl, lr⟩
 rw [if_neg r] at hm
 refine yS<|mV rfl<|nO<|nO<|yS<|tS (pF rfl rfl)<|tS (pF rfl rfl)<|mV rfl<|yS<|tS (sF rfl z0T)<|yS<|tS (sL 0 rfl Q5 rfl rfl)<|yS<|Tb rfl (q2 rfl rfl) (fun u => ?_) (fun u => ?_)
 rw [if_pos u] at hm
 refine yS<|mV rfl<|yS<|mV rfl<|yS<|tS (pT rfl rfl)<|tS (pF rfl rfl)<|aS rfl<|Tn ?_
 obtain rfl := o1 hm
 exact jJ ⟨rfl, rfl, lr⟩
 rw [if_neg u] at hm
 refine yS<|mV rfl<|nO<|yS<|tS (pF rfl rfl)<|tS (pF rfl rfl)<|aS rfl<|Tn ?_
 obtain rfl := o1 hm
 exact jJ ⟨rfl, rfl, lr⟩
 rintro F _ _ ⟨rfl, rfl, x⟩
 have hm := S
 refine cB hm rfl (fun hm => ?_) fun hm => ?_
 refine Cr<|aS rfl<|Te<|Ct<|Xb<|Xr ?_
 obtain rfl := o1 hm
 exact rO ⟨rfl, rfl⟩ (e.trans (f.trans x))
 refine Ck<|Xm<|Xn<|Cr<|aS rfl<|Te<|Ct ?_
 obtain rfl := o1 hm
 exact rO ⟨rfl, rfl⟩ (e.trans (f.trans x))
theorem z3N (b : k8) (R : Hp) (e : v6) (f : Q0) (J K L O S T z A B C) (h4 : FZ RT.str b.w J K e.Stations) (W : FZ j3 b.w L O e.Sections) (X : FZ w6 b.w S T e.Links) (Y : FZ j6 b.w z A e.Signals) (Z : FZ w7 b.w B C e.Gates) (p) (hm : q5R e f = some p):
 w8 Tryz.prog 92 [.agg #[sv J e.Stations K, sv L e.Sections O, sv S e.Links T, sv z e.Signals A, sv B e.Gates C], .agg #[iv f.section_, iv f.end_]] b (R) (fun v b' hp' => bv p = v ∧ R = hp') := by
 refine fE 26 Tryz.func92 rfl Tryz.ntmps92 rfl ?_
 unfold q5R at hm
 refine Cr<|tD (uB _ rfl rfl) ?_
 rintro _ _ ⟨U, rfl, rfl⟩
 refine tD (uB _ rfl rfl) ?_
 rintro _ _ ⟨V, rfl, rfl⟩
 refine aS rfl<|Te ?_
 obtain ⟨D, s, t⟩ := bS hm
 refine Cj (fun q e' hp' => [(4, bv D)] = e' ∧ R = hp' ∧ b.Le q) ?_ ?_
 have hm := s
 obtain ⟨_, c, hm⟩ := bS hm
 obtain ⟨g, d, hm⟩ := bS hm
 rcases Kg g with a | a
 rw [if_pos a] at hm
 obtain ⟨E, F, hm⟩ := bS hm
 obtain ⟨r, k, hm⟩ := bS hm
 obtain ⟨_, i, hm⟩ := bS hm
 obtain ⟨G, l, hm⟩ := bS hm
 refine Di mixed (.refl _)<|E0 0 rfl (sF rfl q1V)<|Es 1 rfl (sL 0 rfl Q5 rfl rfl)<|E0 2 rfl (sF rfl q0m)<|Es 3 rfl (sL 1 rfl q5n rfl rfl)<|E0 4 rfl (sE rfl z0I) ?_
 have c := (kS c).2
 refine E0 5 rfl (sb rfl rfl c)<|Eo<|Da [6] (by kernel_rfl) rfl<|Rd2 lr rfl rfl (uW _ q6h rfl (fun w ho => X9 _ [] f.section_ 0 ((e.Sections.length : Int) - 1) g d) (fun _ _ _ h => h.2.symm)) ?_ ?_
 rintro _ _ ⟨⟨_, rfl, _⟩, rfl⟩
 refine iR<|q4c 11 rfl (v' := .bool true) (by rw [a])<|Ei lr (.refl _)<|E0 7 rfl (sM rfl)<|Yz 8 12 rfl (sF rfl q5a)<|Ey 9 12 rfl (sL 0 rfl Q5 rfl rfl)<|Yz 10 12 rfl (sF rfl q0m)<|Ey 11 12 rfl (sL 1 rfl q5n rfl rfl)<|Yz 12 12 rfl (sF rfl q1V)<|Ey 13 12 rfl (sL 0 rfl Q5 rfl rfl) ?_
 obtain ⟨H, u, x⟩ := iS F
 obtain ⟨I, y, m, j, n⟩ := FZ.get (sz := 7) rfl (by decide) W x
 obtain ⟨_, _, rfl, rfl, ⟨_, _, rfl, rfl, ⟨_, _, rfl, rfl, ⟨_, _, rfl, rfl, ⟨_, _, rfl, rfl, ⟨_, _, rfl, rfl, rfl⟩⟩⟩⟩⟩⟩ := y
 refine Yz 14 12 rfl (sI H rfl rfl u n j z0I)<|Yz 15 12 rfl (sQ rfl j q4B)<|Ey 16 12 rfl (sO rfl Q5 (m 0 _ rfl))<|Eo<|Da [17] (by kernel_rfl) rfl<|q3X lr rfl rfl 12 rfl rfl rfl (uW _ z9t rfl (fun w ho => z1t _ [] E.Kind r k) (fun _ _ _ h => h.2.symm)) ?_ ?_
 rintro _ _ ⟨⟨_, rfl, _⟩, rfl⟩
 refine iR ?_
 have i := (kS i).2
 refine Ei lr (.refl _)<|Yz 18 12 rfl (sb rfl rfl i)<|Eo<|Da [19] (by kernel_rfl) rfl<|q3X lr rfl rfl 12 rfl rfl rfl (uW _ q6h rfl (fun w ho => X9 _ [] f.end_ 0 (r - 1) G l) (fun _ _ _ h => h.2.symm)) ?_ ?_
 rintro _ _ ⟨⟨_, rfl, _⟩, rfl⟩
 refine iR<|Ei lr (.refl _)<|E0 20 rfl (pT rfl rfl)<|E0 21 rfl (sA rfl)<|Eo<|Dd (by kernel_rfl) ?_
 obtain rfl := o1 hm
 exact jJ ⟨rfl, rfl, lr⟩
 exact Rn
 exact Rn
 exact Rn
 rw [if_neg (fun hh => Bool.noConfusion (hh.symm.trans a))] at hm
 refine Di mixed (.refl _)<|E0 0 rfl (sF rfl q1V)<|Es 1 rfl (sL 0 rfl Q5 rfl rfl)<|E0 2 rfl (sF rfl q0m)<|Es 3 rfl (sL 1 rfl q5n rfl rfl)<|E0 4 rfl (sE rfl z0I) ?_
 have c := (kS c).2
 refine E0 5 rfl (sb rfl rfl c)<|Eo<|Da [6] (by kernel_rfl) rfl<|Rd2 lr rfl rfl (uW _ q6h rfl (fun w ho => X9 _ [] f.section_ 0 ((e.Sections.length : Int) - 1) g d) (fun _ _ _ h => h.2.symm)) ?_ ?_
 rintro _ _ ⟨⟨_, rfl, _⟩, rfl⟩
 refine iR<|q4c 11 rfl (v' := .bool false) (by rw [a])<|Ei lr (.refl _)<|E0 7 rfl (sM rfl)<|eN 8 rfl<|eN 9 rfl<|eN 10 rfl<|eN 11 rfl<|eN 12 rfl<|eN 13 rfl<|eN 14 rfl<|eN 15 rfl<|eN 16 rfl<|eN 17 rfl<|eN 18 rfl<|eN 19 rfl<|E0 20 rfl (pF rfl rfl)<|E0 21 rfl (sA rfl)<|Eo<|Dd (by kernel_rfl) ?_
 obtain rfl := o1 hm
 exact jJ ⟨rfl, rfl, lr⟩
 exact Rn
 rintro q _ _ ⟨rfl, rfl, o⟩
 have hm := t
 refine Ct ?_
 obtain rfl := o1 hm
 exact rO ⟨rfl, rfl⟩ o
theorem z4Y (b : k8) (R : Hp) (a c) (hm : q6x a = some c):
 w8 Tryz.prog 118 [iv a] b (R) (fun v b' hp' => bv c = v ∧ R = hp') := by
 refine fE 6 Tryz.func118 rfl Tryz.ntmps118 rfl ?_
 unfold q6x at hm
 refine Cr<|aS rfl<|Te<|Cr<|mV rfl<|mV rfl<|tS (q2 rfl rfl)<|aS rfl<|Te<|Ct ?_
 obtain rfl := o1 hm
 exact rO ⟨rfl, rfl⟩ lr
theorem q6a (b : k8) (R : Hp) (e f d) (hm : K0 e f = some d):
 w8 Tryz.prog 94 [iv e, iv f] b (R) (fun v b' hp' => iv d = v ∧ R = hp') := by
 refine fE 20 Tryz.func94 rfl Tryz.ntmps94 rfl ?_
 unfold K0 at hm
 refine Cr<|aS rfl<|Te<|Cr<|mV rfl ?_
 obtain ⟨g, a, hm⟩ := bS hm
 refine tD (uW _ z9C rfl (fun w ho => z4Y _ [] e g a) (fun _ _ _ h => h.2.symm)) ?_
 rintro _ _ ⟨⟨_, rfl, _⟩, rfl⟩
 refine aS rfl<|Te<|Cr<|mV rfl ?_
 obtain ⟨i, c, hm⟩ := bS hm
 refine tD (uW _ z9C rfl (fun w ho => z4Y _ [] f i c) (fun _ _ _ h => h.2.symm)) ?_
 rintro _ _ ⟨⟨_, rfl, _⟩, rfl⟩
 refine aS rfl<|Te<|Cs<|Cr<|mV rfl<|Te<|cB hm rfl (fun hm => ?_) fun hm => ?_
 refine Cs<|Cr<|mV rfl<|Te<|cB hm rfl (fun hm => ?_) fun hm => ?_
 refine Cr<|aS rfl<|Te<|Ct<|Xr<|Xr ?_
 obtain rfl := o1 hm
 exact rO ⟨rfl, rfl⟩ lr
 refine Ck<|Xn<|Cr<|aS rfl<|Te<|Ct<|Xr ?_
 obtain rfl := o1 hm
 exact rO ⟨rfl, rfl⟩ lr
 refine Ck<|Xn<|Cs<|Cr<|mV rfl<|Te<|cB hm rfl (fun hm => ?_) fun hm => ?_
 refine Cr<|aS rfl<|Te<|Ct<|Xr ?_
 obtain rfl := o1 hm
 exact rO ⟨rfl, rfl⟩ lr
 refine Ck<|Xn<|Cs<|Cr<|mV rfl<|mV rfl<|tS (q3 rfl rfl)<|Te<|cI hm rfl (fun hm => ?_) fun hm => ?_
 refine Cr<|aS rfl<|Te<|Ct<|Xr ?_
 obtain rfl := o1 hm
 exact rO ⟨rfl, rfl⟩ lr
 refine Ck<|Xn<|Cs<|Cr<|mV rfl<|mV rfl<|tS (q5 rfl rfl)<|Te<|cI hm rfl (fun hm => ?_) fun hm => ?_
 refine Cr<|aS rfl<|Te<|Ct<|Xr ?_
 obtain rfl := o1 hm
 exact rO ⟨rfl, rfl⟩ lr
 refine Ck<|Xn<|Cr<|aS rfl<|Te<|Ct ?_
 obtain rfl := o1 hm
 exact rO ⟨rfl, rfl⟩ lr
theorem j2r (b : k8) (R : Hp) (i s t) (w : FZ rI b.w s t i) (j) (hm : q8h i = some j):
 w8 Tryz.prog 93 [sv s i t] b (R) (fun v b' hp' => iv j = v ∧ R = hp') := by
 refine fE 18 Tryz.func93 rfl Tryz.ntmps93 rfl ?_
 unfold q8h at hm
 refine Cr<|aS rfl<|Te<|Cr<|aS rfl<|Te<|Cs<|Cr<|mV rfl<|tS (sE rfl z2n)<|mV rfl<|Te<|Cb ?_
 have x : i.length ≤ 9223372036854775807 := (FZ.bd w)
 obtain ⟨B, k, d⟩ := bS hm
 refine lF (fun l => fun _ => fun f e' hp' => [(3, iv 0), (6, sv s i t), (7, iv ((i.length : Int))), (8, iv ((l : Int)))] = e' ∧ R = hp' ∧ b.Le f) k ⟨rfl, rfl, lr⟩ ?_ ?_
 rintro l _ f _ _ y r ⟨rfl, rfl, a⟩ c e
 unfold q7c at c
 have hm := c
 refine Cr<|tS (lT rfl rfl (by omega))<|Te<|Cs<|k9 rfl<|Ck<|Xn<|Cs<|Cb<|Cr ?_
 obtain ⟨C, u, z, m, A, n, g, o, h, hm⟩ := bF (sz := 1) hm (w.le a)
 obtain rfl := n
 refine tS (sI u rfl rfl m h o z2n)<|tS (sO rfl Q5 (g 0 _ rfl))<|aS rfl<|Te<|Cr<|mV rfl<|mV rfl<|tS (q2 rfl rfl)<|Te<|cI hm rfl (fun hm => ?_) fun hm => ?_
 refine Cr<|mV rfl<|aS rfl<|Te<|Ct<|Xb<|Xr<|Xr<|Xb<|Xr ?_
 have p := e _ (Kd hm).symm
 rw [p] at d
 have hm := J9 d
 obtain rfl := o1 hm
 exact rO ⟨rfl, rfl⟩ a
 refine Ck<|Xm<|Xn<|Cg<|tS (sa rfl rfl (by omega))<|mV rfl<|Tn ?_
 exact jM hm ⟨rfl, rfl, (a)⟩
 rintro _ f _ _ ⟨rfl, rfl, a⟩ q
 rw [q] at d
 have hm := H4 d
 refine Cr<|tS (lF rfl rfl (by omega))<|Te<|Cs<|k7 rfl<|Ce<|Xe<|Xe<|Xo<|Xn<|Cr<|mV rfl<|aS rfl<|Te<|Ct ?_
 obtain rfl := o1 hm
 exact rO ⟨rfl, rfl⟩ a
theorem z1u (b : k8) (R : Hp) (i : v6) (A2 c3 A5 c6 W X K L O S) (h4 : FZ RT.str b.w A2 c3 i.Stations) (h7 : FZ j3 b.w A5 c6 i.Sections) (ah : FZ w6 b.w W X i.Links) (bj : FZ j6 b.w K L i.Signals) (bk : FZ w7 b.w O S i.Gates) (a2) (hm : q1C i = some a2):
 w8 Tryz.prog 50 [.agg #[sv A2 i.Stations c3, sv A5 i.Sections c6, sv W i.Links X, sv K i.Signals L, sv O i.Gates S]] b (R) (fun v b' hp' => iv a2 = v ∧ R = hp') := by
 refine fE 85 Tryz.func50 rfl Tryz.ntmps50 rfl ?_
 unfold q1C at hm
 refine Cr<|tD (uB _ rfl rfl) ?_
 rintro _ _ ⟨t, rfl, rfl⟩
 refine aS rfl<|Te<|Cr<|tD (q2D z3b (OT.fr RT.bool) true false [_] R rfl) ?_
 rintro _ _ ⟨E, a3, rfl, rfl, bl⟩
 refine aS rfl<|Te<|Cs<|Cr<|tS (sF rfl q9l)<|tS (sL 0 rfl z7r rfl rfl)<|tS (sE rfl j0d)<|mV rfl<|Te<|Cb ?_
 have bs : i.Links.length ≤ 9223372036854775807 := (FZ.bd ah)
 obtain ⟨bt, aA, f⟩ := bS hm
 refine lF (fun s => fun Y => fun F e' hp' => ∃ g, [(1, pb t), (3, .map (some E)), (11, sv W i.Links X), (12, iv ((i.Links.length : Int))), (13, iv ((s : Int)))] = e' ∧ (t, Cl 28 [sv A2 i.Stations c3, sv A5 i.Sections c6, sv W i.Links X, sv K i.Signals L, sv O i.Gates S]) :: (g ++ R) = hp' ∧ b.Le F ∧ OM z3b (OT.fr RT.bool) true false F.w E Y g) aA ⟨a3, rfl, rfl, lr, bl⟩ ?_ ?_
 rintro s Y F _ _ bu bm ⟨g, rfl, rfl, c, T⟩ G r
 unfold q0r at G
 have hm := G
 refine Cr<|tS (lT rfl rfl (by omega))<|Te<|Cs<|k9 rfl<|Ck<|Xn<|Cs<|Cb<|Cr<|mV rfl ?_
 obtain ⟨a, a4, bn, aB, bo, aC, ai, af, aj, hm⟩ := bF (sz := 4) hm (ah.le c)
 obtain ⟨_, _, rfl, rfl, ⟨_, _, rfl, rfl, ⟨_, _, rfl, rfl, rfl⟩⟩⟩ := aC
 refine tS (sI a4 rfl rfl aB aj af j0d)<|tS (sP (vs := [iv a.A, iv a.EndA, iv a.B, iv a.EndB]) 4 rfl z6S af rfl (fun j u hu => ai j u hu))<|tD (uA [iv 0, iv 0, iv 0, iv 0] z5g rfl) ?_
 rintro _ _ ⟨U, rfl, rfl⟩
 refine aS rfl<|tD (uN (vs := [_, _, _, _]) 0 4 rfl rfl rfl z8p rfl (mc rfl (mc rfl (mc rfl (mc rfl mn)))) rfl (by simp)) ?_
 rintro _ _ rfl
 refine Te ?_
 obtain ⟨_, aD, aE⟩ := bS hm
 refine Cj (fun Z e' hp' => ∃ m n, [(1, pb t), (3, .map (some E)), (4, iv ((s : Int))), (5, pb U), (6, pb m), (7, pb n), (11, sv W i.Links X), (12, iv ((i.Links.length : Int))), (13, iv ((s : Int)))] = e' ∧ (t, Cl 28 [sv A2 i.Stations c3, sv A5 i.Sections c6, sv W i.Links X, sv K i.Signals L, sv O i.Gates S]) :: (U, Cl 106 [iv a.A, iv a.EndA, iv a.B, iv a.EndB]) :: (m, Cl 120 [iv a.A, iv a.EndA]) :: (n, Cl 120 [iv a.B, iv a.EndB]) :: (g ++ R) = hp' ∧ F.Le Z) ?_ ?_
 have hm := aD
 refine Di mixed (.refl _)<|E0 0 rfl (sF rfl q3w)<|Es 1 rfl (sL 0 rfl Q5 rfl rfl)<|E0 2 rfl (sF rfl q8p)<|Es 3 rfl (sL 0 rfl Q5 rfl rfl)<|E0 4 rfl (sB (v := .agg #[iv a.A, iv a.EndA]) [(0, iv a.A), (1, iv a.EndA)] rfl (fun _ => by kernel_rfl))<|E0 5 rfl (sF rfl q5b)<|Es 6 rfl (sL 0 rfl Q5 rfl rfl)<|E0 7 rfl (sF rfl z3v)<|Es 8 rfl (sL 0 rfl Q5 rfl rfl) ?_
 refine E0 9 rfl (sB (v := .agg #[iv a.B, iv a.EndB]) [(0, iv a.B), (1, iv a.EndB)] rfl (fun _ => by kernel_rfl))<|Eo<|Da [10, 11] (by kernel_rfl) rfl<|Rd2 lr rfl rfl (uA [iv 0, iv 0] q3f rfl) ?_ ?_
 rintro _ _ ⟨aa, rfl, rfl⟩
 refine iR<|Da [11] (by kernel_rfl) rfl<|Rd2 lr rfl rfl (uA [iv 0, iv 0] q3f rfl) ?_ ?_
 rintro _ _ ⟨ab, rfl, rfl⟩
 refine iR<|Da [12] (by kernel_rfl) rfl<|Rd2 lr rfl rfl (uN (vs := [_, _]) 1 2 rfl rfl rfl q3Z rfl (mc rfl (mc rfl mn)) rfl (by simp)) ?_ ?_
 rintro _ _ rfl
 refine iR<|Da [13] (by kernel_rfl) rfl<|Rd2 lr rfl rfl (uN (vs := [_, _]) 0 2 rfl rfl rfl q3Z rfl (mc rfl (mc rfl mn)) rfl (by simp)) ?_ ?_
 rintro _ _ rfl
 refine ⟨.inl (by kernel_rfl), ?_⟩
 refine Dd (by kernel_rfl) ?_
 clear hm
 exact jJ ⟨aa, ab, rfl, rfl, lr⟩
 exact Rn
 exact Rn
 exact Rn
 refine Rd2 lr rfl rfl (uA [iv 0, iv 0] q3f rfl) ?_ ?_
 rintro _ _ ⟨ab, rfl, rfl⟩
 refine iR<|Da [10] (by kernel_rfl) rfl<|Rd2 lr rfl rfl (uA [iv 0, iv 0] q3f rfl) ?_ ?_
 rintro _ _ ⟨aa, rfl, rfl⟩
 refine iR<|Da [12] (by kernel_rfl) rfl<|Rd2 lr rfl rfl (uN (vs := [_, _]) 0 2 rfl rfl rfl q3Z rfl (mc rfl (mc rfl mn)) rfl (by simp)) ?_ ?_
 rintro _ _ rfl
 refine iR<|Da [13] (by kernel_rfl) rfl<|Rd2 lr rfl rfl (uN (vs := [_, _]) 1 2 rfl rfl rfl q3Z rfl (mc rfl (mc rfl mn)) rfl (by simp)) ?_ ?_
 rintro _ _ rfl
 refine ⟨.inl (by kernel_rfl), ?_⟩
 refine Dd (by kernel_rfl) ?_
 clear hm
 exact jJ ⟨aa, ab, rfl, rfl, lr⟩
 exact Rn
 exact Rn
 exact Rn
 exact Rn
 rintro Z _ _ ⟨m, n, rfl, rfl, d⟩
 have hm := aE
 refine Cs<|Cb ?_
 obtain ⟨a5, aF, aG⟩ := bS hm
 refine Cj (fun H e' hp' => [(1, pb t), (3, .map (some E)), (4, iv ((s : Int))), (5, pb U), (6, pb m), (7, pb n), (11, sv W i.Links X), (12, iv ((i.Links.length : Int))), (13, iv ((s : Int))), (28, bv a5)] = e' ∧ (t, Cl 28 [sv A2 i.Stations c3, sv A5 i.Sections c6, sv W i.Links X, sv K i.Signals L, sv O i.Gates S]) :: (U, Cl 106 [iv a.A, iv a.EndA, iv a.B, iv a.EndB]) :: (m, Cl 120 [iv a.A, iv a.EndA]) :: (n, Cl 120 [iv a.B, iv a.EndB]) :: (g ++ R) = hp' ∧ Z.Le H) ?_ ?_
 have hm := aF
 refine Cg<|tS (sD (vs := [_, _, _, _, _]) 0 5 rfl q0o rfl rfl rfl)<|tS (sD (vs := [_, _]) 2 2 rfl q3e rfl rfl rfl) ?_
 obtain ⟨ak, al, hm⟩ := bS hm
 have zz := c.trans d
 refine tD (uW _ z9s rfl (fun w ho => z3N _ [] i (⟨a.A, a.EndA⟩ : Q0) A2 c3 A5 c6 W X K L O S ((h4.le zz).old ho) ((h7.le zz).old ho) ((ah.le zz).old ho) ((bj.le zz).old ho) ((bk.le zz).old ho) ak al) (fun _ _ _ h => h.2.symm)) ?_
 rintro _ _ ⟨⟨_, rfl, _⟩, rfl⟩
 rcases Kg ak with y | y
 rw [if_pos y] at hm
 refine Tr 31 rfl (v' := .bool true) (by rw [y] <;> rfl)<|tS (K7 rfl)<|mV rfl<|yS<|tS (sD (vs := [_, _, _, _, _]) 0 5 rfl q0o rfl rfl rfl)<|yS<|tS (sD (vs := [_, _]) 3 2 rfl q3e rfl rfl rfl)<|yS ?_
 obtain ⟨a6, am, hm⟩ := bS hm
 refine tD (uW _ z9s rfl (fun w ho => z3N _ [] i (⟨a.B, a.EndB⟩ : Q0) A2 c3 A5 c6 W X K L O S ((h4.le zz).old ho) ((h7.le zz).old ho) ((ah.le zz).old ho) ((bj.le zz).old ho) ((bk.le zz).old ho) a6 am) (fun _ _ _ h => h.2.symm)) ?_
 rintro _ _ ⟨⟨_, rfl, _⟩, rfl⟩
 refine yS<|tS (sn2 rfl)<|tS (pF rfl rfl)<|aS rfl<|Tn ?_
 obtain rfl := o1 hm
 exact jJ ⟨rfl, rfl, lr⟩
 rw [if_neg (fun hh => Bool.noConfusion (hh.symm.trans y))] at hm
 refine Tr 31 rfl (v' := .bool false) (by rw [y] <;> rfl)<|tS (P7 rfl)<|mV rfl<|nO<|nO<|nO<|nO<|tS (pT rfl rfl)<|aS rfl<|Tn ?_
 obtain rfl := o1 hm
 exact jJ ⟨rfl, rfl, lr⟩
 rintro H _ _ ⟨rfl, rfl, e⟩
 have hm := aG
 refine cB hm rfl (fun hm => ?_) fun hm => ?_
 refine Cr<|aS rfl<|Te<|Ct<|Xb<|Xr<|Xb<|Xr<|Xr<|Xb<|Xr ?_
 have aH := r _ (Kd hm).symm
 rw [aH] at f
 have hm := J9 f
 obtain rfl := o1 hm
 exact rO ⟨rfl, rfl⟩ (c.trans (d.trans e))
 refine Cr<|tS (sF rfl q3w)<|tS (sL 1 rfl Q5 rfl rfl)<|tS (sF rfl q5b)<|tS (sL 1 rfl Q5 rfl rfl)<|tS (q1 rfl rfl)<|aS rfl<|Te<|cI hm rfl (fun hm => ?_) fun hm => ?_
 refine Cr<|aS rfl<|Te<|Ct<|Xb<|Xr<|Xb<|Xr<|Xr<|Xb<|Xr ?_
 have aI := r _ (Kd hm).symm
 rw [aI] at f
 have hm := J9 f
 obtain rfl := o1 hm
 exact rO ⟨rfl, rfl⟩ (c.trans (d.trans e))
 refine Cr<|tS (sF rfl q3w)<|tS (sL 1 rfl Q5 rfl rfl)<|tS (sF rfl q5b)<|tS (sL 1 rfl Q5 rfl rfl)<|tS (q5 rfl rfl)<|aS rfl<|Te<|cI hm rfl (fun hm => ?_) fun hm => ?_
 refine Cr<|aS rfl<|Te<|Ct<|Xb<|Xr<|Xb<|Xr<|Xr<|Xb<|Xr ?_
 have aJ := r _ (Kd hm).symm
 rw [aJ] at f
 have hm := J9 f
 obtain rfl := o1 hm
 exact rO ⟨rfl, rfl⟩ (c.trans (d.trans e))
 refine Ck<|Xm<|Xn ?_
 obtain ⟨a7, aK, B⟩ := bS hm
 refine Cj (fun ac e' hp' => [(1, pb t), (3, .map (some E)), (6, pb m), (7, pb n), (11, sv W i.Links X), (12, iv ((i.Links.length : Int))), (13, iv ((s : Int)))] = e' ∧ (t, Cl 28 [sv A2 i.Stations c3, sv A5 i.Sections c6, sv W i.Links X, sv K i.Signals L, sv O i.Gates S]) :: (m, Cl 120 [iv a.A, iv a.EndA]) :: (n, Cl 120 [iv a.B, iv a.EndB]) :: (g ++ R) = hp' ∧ H.Le ac ∧ a7 = .inl ()) ?_ ?_
 have hm := aK
 refine Cr<|mV rfl<|tS (q5 rfl rfl)<|Te<|cI hm rfl (fun hm => ?_) fun hm => ?_
 refine Cr<|tS (sF rfl q9l)<|tS (sL 0 rfl z7r rfl rfl)<|mV rfl ?_
 obtain ⟨_, ad, hm⟩ := bS hm
 have ad := (kS ad).2
 refine tS (sb rfl rfl ad) ?_
 obtain ⟨A, a8, bp, aL, bq, aM, an, ag, ao, hm⟩ := bF (sz := 4) hm (ah.le (c.trans (d.trans e)))
 obtain ⟨_, _, rfl, rfl, ⟨_, _, rfl, rfl, ⟨_, _, rfl, rfl, rfl⟩⟩⟩ := aM
 refine tS (sI a8 rfl rfl aL ao ag j0d)<|tS (sP (vs := [iv A.A, iv A.EndA, iv A.B, iv A.EndB]) 4 rfl z6S ag rfl (fun j u hu => an j u hu))<|tD (uA [iv 0, iv 0, iv 0, iv 0] z5g rfl) ?_
 rintro _ _ ⟨bw, rfl, rfl⟩
 refine tD (uN (vs := [_, _, _, _]) 0 4 rfl rfl rfl z8p rfl (mc rfl (mc rfl (mc rfl (mc rfl mn)))) rfl (by simp)) ?_
 rintro _ _ rfl
 refine Te ?_
 obtain ⟨a9, aN, aO⟩ := bS hm
 refine Cj (fun aq e' hp' => [(1, pb t), (3, .map (some E)), (6, pb m), (7, pb n), (11, sv W i.Links X), (12, iv ((i.Links.length : Int))), (13, iv ((s : Int))), (71, bv a9)] = e' ∧ (t, Cl 28 [sv A2 i.Stations c3, sv A5 i.Sections c6, sv W i.Links X, sv K i.Signals L, sv O i.Gates S]) :: (m, Cl 120 [iv a.A, iv a.EndA]) :: (n, Cl 120 [iv a.B, iv a.EndB]) :: (g ++ R) = hp' ∧ H.Le aq) ?_ ?_
 have hm := aN
 obtain ⟨p, ar, hm⟩ := bS hm
 obtain ⟨q, au, hm⟩ := bS hm
 obtain ⟨ba, av, hm⟩ := bS hm
 refine Di mixed (.refl _)<|E0 0 rfl (sF rfl q3w)<|Es 1 rfl (sL 0 rfl Q5 rfl rfl)<|E0 2 rfl (sF rfl q3w)<|Es 3 rfl (sL 2 rfl Q5 rfl rfl)<|E0 5 rfl (sF rfl q8p)<|Es 6 rfl (sL 0 rfl Q5 rfl rfl)<|E0 7 rfl (sF rfl q8p)<|Es 8 rfl (sL 2 rfl Q5 rfl rfl)<|Eo<|Da [4] (by kernel_rfl) rfl<|Rd2 lr rfl rfl (uW _ z6C rfl (fun w ho => q6a _ [] A.A a.A p ar) (fun _ _ _ h => h.2.symm)) ?_ ?_
 rintro _ _ ⟨⟨_, rfl, _⟩, rfl⟩
 refine iR<|Da [9] (by kernel_rfl) rfl<|Rd2 lr rfl rfl (uW _ z6C rfl (fun w ho => q6a _ [] A.EndA a.EndA q au) (fun _ _ _ h => h.2.symm)) ?_ ?_
 rintro _ _ ⟨⟨_, rfl, _⟩, rfl⟩
 refine iR<|Da [10] (by kernel_rfl) rfl ?_
 refine Rd2 lr rfl rfl (V7 (el := 3) [(0, iv p), (1, iv q)] [iv p, iv q] rfl (fun _ => by kernel_rfl)) ?_ ?_
 rintro _ _ ⟨I, rfl, rfl⟩
 refine iR<|j5e 0 [_, _, _, _, _] (g ++ R) rfl rfl ?_
 have bb : OS 3 (OT.fr rI) H.w (.slice (some ⟨I, 0, none⟩) 2 2) [p, q] [(I, Cl 3 [iv p, iv q])] := OS.lit [[iv p], [iv q]] rfl ⟨rfl, ⟨rfl, trivial⟩⟩ rfl (by decide)
 refine Da [11] (by kernel_rfl) rfl<|Rd2 lr rfl rfl (uW _ j2a rfl (fun w ho => j2r _ [] [p, q] (some ⟨I, 0, none⟩) 2 (OS.now (o := (OT.fr rI)) (l := [p, q]) (hs := [(I, Cl 3 [iv p, iv q])]) bb ho (.cons _ (.cons _ (.cons _ (.cons _ (.cons _ (Kb _ _))))))) ba av) (fun _ _ _ h => h.2.symm)) ?_ ?_
 rintro _ _ ⟨⟨_, rfl, _⟩, rfl⟩
 refine iR<|Ei lr (.cons_cons _ (.cons_cons _ (.cons_cons _ (.cons_cons _ (.cons_cons _ (ss [(I, Cl 3 [iv p, iv q])] (.refl _)))))))<|E0 12 rfl (q6 rfl rfl)<|Eo<|Dd (by kernel_rfl) ?_
 obtain rfl := o1 hm
 exact jJ ⟨rfl, rfl, lr⟩
 exact Rn
 exact Rn
 exact Rn
 exact Rn
 rintro aq _ _ ⟨rfl, rfl, V⟩
 have hm := aO
 refine cB hm rfl (fun hm => ?_) fun hm => ?_
 refine Cr<|aS rfl<|Te<|Ct<|Xr<|Xb<|Xr<|Xr<|Xb<|Xr ?_
 have aP := (Kd hm).symm
 rw [aP] at B
 have hm := J9 B
 have aQ := r _ (Kd hm).symm
 rw [aQ] at f
 have hm := J9 f
 obtain rfl := o1 hm
 exact rO ⟨rfl, rfl⟩ (c.trans (d.trans (e.trans V)))
 refine Ck ?_
 have hq := (Kd hm).symm
 exact jJ ⟨rfl, rfl, V, hq⟩
 refine Ck ?_
 have hq := (Kd hm).symm
 exact jJ ⟨rfl, rfl, lr, hq⟩
 rintro ac _ _ ⟨rfl, rfl, x, aR⟩
 rw [aR] at B
 have hm := H4 B
 refine Cs ?_
 obtain ⟨bc, aT, aU⟩ := bS hm
 refine Cj (fun aw e' hp' => [(1, pb t), (3, .map (some E)), (6, pb m), (7, pb n), (11, sv W i.Links X), (12, iv ((i.Links.length : Int))), (13, iv ((s : Int))), (79, bv bc)] = e' ∧ (t, Cl 28 [sv A2 i.Stations c3, sv A5 i.Sections c6, sv W i.Links X, sv K i.Signals L, sv O i.Gates S]) :: (m, Cl 120 [iv a.A, iv a.EndA]) :: (n, Cl 120 [iv a.B, iv a.EndB]) :: (g ++ R) = hp' ∧ ac.Le aw) ?_ ?_
 have hm := aT
 refine Cg<|mV rfl<|tS (sD (vs := [_, _]) 1 2 rfl q3e rfl rfl rfl) ?_
 obtain ⟨ae, bd, hm⟩ := bS hm
 have aV := Kd bd
 obtain ⟨ax, C, aW⟩ := OM.lookF z6q (z0 := false) (T.le (d.trans (e.trans x))) (key := .agg #[iv a.A, iv a.EndA]) (k := (⟨a.A, a.EndA⟩ : Q0)) ⟨[iv a.A, iv a.EndA], rfl, ⟨[iv a.A], _, rfl, rfl, rfl⟩⟩ z3j j0h rfl
 rw [aV] at C
 obtain rfl : ax = bv ae := by have C : [ax] = [bv ae] := C; injection C
 refine tS (q4T (ok := false) rfl rfl (fun w ho => aW _ w ho (.cons _ (.cons _ (.cons _ (Kb _ _)))) false)) ?_
 rcases Kg ae with z | z
 rw [if_pos z] at hm
 refine Tr 74 rfl (v' := .bool true) (by rw [z] <;> rfl)<|mV rfl<|nO<|nO<|nO<|tS (pT rfl rfl)<|Tn ?_
 obtain rfl := o1 hm
 exact jJ ⟨rfl, rfl, lr⟩
 rw [if_neg (fun hh => Bool.noConfusion (hh.symm.trans z))] at hm
 refine Tr 74 rfl (v' := .bool false) (by rw [z] <;> rfl)<|mV rfl<|yS<|mV rfl<|yS<|tS (sD (vs := [_, _]) 2 2 rfl q3e rfl rfl rfl)<|yS ?_
 obtain ⟨ay, be, hm⟩ := bS hm
 have aX := Kd be
 obtain ⟨az, D, aY⟩ := OM.lookF z6q (z0 := false) (T.le (d.trans (e.trans x))) (key := .agg #[iv a.B, iv a.EndB]) (k := (⟨a.B, a.EndB⟩ : Q0)) ⟨[iv a.B, iv a.EndB], rfl, ⟨[iv a.B], _, rfl, rfl, rfl⟩⟩ z3j j0h rfl
 rw [aX] at D
 obtain rfl : az = bv ay := by have D : [az] = [bv ay] := D; injection D
 refine tS (q4T (ok := false) rfl rfl (fun w ho => aY _ w ho (.cons _ (.cons _ (.cons _ (Kb _ _)))) false))<|tS (pF rfl rfl)<|Tn ?_
 obtain rfl := o1 hm
 exact jJ ⟨rfl, rfl, lr⟩
 rintro aw _ _ ⟨rfl, rfl, J⟩
 have hm := aU
 refine cB hm rfl (fun hm => ?_) fun hm => ?_
 refine Cr<|aS rfl<|Te<|Ct<|Xr<|Xb<|Xr<|Xr<|Xb<|Xr ?_
 have aZ := r _ (Kd hm).symm
 rw [aZ] at f
 have hm := J9 f
 obtain rfl := o1 hm
 exact rO ⟨rfl, rfl⟩ (c.trans (d.trans (e.trans (x.trans J))))
 refine Ck<|Xn<|Di mixed (.cons_cons _ (.cons_cons _ (.cons_cons _ (ss g (.refl _)))))<|E0 0 rfl (sM rfl)<|Es 1 rfl (sD (vs := [_, _]) 1 2 rfl q3e rfl rfl rfl)<|E0 2 rfl (sM rfl)<|Es 3 rfl (sD (vs := [_, _]) 2 2 rfl q3e rfl rfl rfl)<|Eo<|Da [4] (by kernel_rfl) rfl ?_
 have zy := d.trans (e.trans (x.trans J))
 refine Rd2 lr rfl rfl (q8Q (k := (⟨a.A, a.EndA⟩ : Q0)) z6q [_, _, _] [] R rfl (T.le zy) z3j rfl rfl rfl (⟨[iv a.A, iv a.EndA], rfl, ⟨[iv a.A], _, rfl, rfl, rfl⟩⟩) ⟨rfl, rfl⟩ _ (.inl rfl)) ?_ ?_
 rintro _ _ ⟨br, rfl, bh, bf⟩
 refine iR<|Da [5] (by kernel_rfl) rfl<|Rd2 lr rfl rfl (q8Q (k := (⟨a.B, a.EndB⟩ : Q0)) z6q [_, _, _] [] R rfl bf z3j rfl rfl rfl (⟨[iv a.B, iv a.EndB], rfl, ⟨[iv a.B], _, rfl, rfl, rfl⟩⟩) ⟨rfl, rfl⟩ _ (.inl rfl)) ?_ ?_
 rintro _ _ ⟨a0, rfl, bi, bg⟩
 refine ⟨.inl (by kernel_rfl), ?_⟩
 refine Dd (by kernel_rfl)<|Xm<|Xn<|Cg<|tS (sa rfl rfl (by omega))<|mV rfl<|Tn ?_
 exact jM hm ⟨a0, rfl, rfl, ((c.trans zy)), bg⟩
 exact Rn
 exact Rn
 rintro Y F _ _ ⟨g, rfl, rfl, c, T⟩ a1
 rw [a1] at f
 have hm := H4 f
 refine Cr<|tS (lF rfl rfl (by omega))<|Te<|Cs<|k7 rfl<|Ce<|Xe<|Xe<|Xo<|Xn<|Cr<|aS rfl<|Te<|Ct ?_
 obtain rfl := o1 hm
 exact rO ⟨rfl, rfl⟩ c
theorem q3n (b : k8) (R : Hp) (h : v6) (f : Q0) (A2 c3 A5 c6 K L O S T U) (h4 : FZ RT.str b.w A2 c3 h.Stations) (h7 : FZ j3 b.w A5 c6 h.Sections) (V : FZ w6 b.w K L h.Links) (ai : FZ j6 b.w O S h.Signals) (aj : FZ w7 b.w T U h.Gates) (W X Y) (hm : X8 h f = some (W, X, Y)):
 w8 Tryz.prog 95 [.agg #[sv A2 h.Stations c3, sv A5 h.Sections c6, sv K h.Links L, sv O h.Signals S, sv T h.Gates U], .agg #[iv f.section_, iv f.end_]] b (R) (fun v b' hp' => .tuple #[.agg #[iv W, iv X], bv Y] = v ∧ R = hp') := by
 refine fE 53 Tryz.func95 rfl Tryz.ntmps95 rfl ?_
 unfold X8 at hm
 refine Cr<|tD (uB _ rfl rfl) ?_
 rintro _ _ ⟨ak, rfl, rfl⟩
 refine tD (uB _ rfl rfl) ?_
 rintro _ _ ⟨q, rfl, rfl⟩
 refine tD (uA [iv 0, iv 0] q3f rfl) ?_
 rintro _ _ ⟨r, rfl, rfl⟩
 refine aS rfl<|Te<|Cs<|Cr<|tS (sF rfl q9l)<|tS (sL 2 rfl z7r rfl rfl)<|tS (sE rfl j0d)<|mV rfl<|Te<|Cb ?_
 have af : h.Links.length ≤ 9223372036854775807 := (FZ.bd V)
 refine Cp 1 rfl ?_
 obtain ⟨ag, A, d⟩ := bS hm
 refine lF (fun m => fun _ => fun n e' hp' => [(3, pb q), (4, pb r), (9, sv K h.Links L), (10, iv ((h.Links.length : Int))), (11, iv ((m : Int)))] = e' ∧ (q, Cl 120 [iv f.section_, iv f.end_]) :: (r, Cl 120 [iv 0, iv 0]) :: R = hp' ∧ b.Le n) A ⟨rfl, rfl, lr⟩ ?_ ?_
 rintro m _ n _ _ ah ac ⟨rfl, rfl, c⟩ e i
 unfold q1B at e
 have hm := e
 refine Cr<|tS (lT rfl rfl (by omega))<|Te<|Cs<|k9 rfl<|Ck<|Xn<|Cs<|Cb<|Cr ?_
 obtain ⟨a, Z, ad, B, ae, C, x, s, y, hm⟩ := bF (sz := 4) hm (V.le c)
 obtain ⟨_, _, rfl, rfl, ⟨_, _, rfl, rfl, ⟨_, _, rfl, rfl, rfl⟩⟩⟩ := C
 refine tS (sI Z rfl rfl B y s j0d)<|tS (sP (vs := [iv a.A, iv a.EndA, iv a.B, iv a.EndB]) 4 rfl z6S s rfl (fun j u hu => x j u hu))<|tD (uA [iv 0, iv 0, iv 0, iv 0] z5g rfl) ?_
 rintro _ _ ⟨o, rfl, rfl⟩
 refine tD (uN (vs := [_, _, _, _]) 0 4 rfl rfl rfl z8p rfl (mc rfl (mc rfl (mc rfl (mc rfl mn)))) rfl (by simp)) ?_
 rintro _ _ rfl
 refine Te<|Cb ?_
 obtain ⟨aa, D, E⟩ := bS hm
 refine Cj (fun t e' hp' => [(3, pb q), (4, pb r), (7, pb o), (9, sv K h.Links L), (10, iv ((h.Links.length : Int))), (11, iv ((m : Int))), (15, bv aa)] = e' ∧ (q, Cl 120 [iv f.section_, iv f.end_]) :: (r, Cl 120 [iv 0, iv 0]) :: (o, Cl 106 [iv a.A, iv a.EndA, iv a.B, iv a.EndB]) :: R = hp' ∧ n.Le t) ?_ ?_
 have hm := D
 refine Cg<|tS (sF rfl q3w)<|tS (sL 0 rfl Q5 rfl rfl)<|tS (sF rfl q1V)<|tS (sL 1 rfl Q5 rfl rfl)<|Tb rfl (q1 rfl rfl) (fun k => ?_) (fun k => ?_)
 rw [if_pos k] at hm
 refine mV rfl<|yS<|tS (sF rfl q8p)<|yS<|tS (sL 0 rfl Q5 rfl rfl)<|yS<|tS (sF rfl q5a)<|yS<|tS (sL 1 rfl Q5 rfl rfl)<|yS<|tS (q1 rfl rfl)<|tS (pT rfl rfl)<|aS rfl<|Tn ?_
 obtain rfl := o1 hm
 exact jJ ⟨rfl, rfl, lr⟩
 rw [if_neg k] at hm
 refine mV rfl<|nO<|nO<|nO<|nO<|nO<|tS (pF rfl rfl)<|aS rfl<|Tn ?_
 obtain rfl := o1 hm
 exact jJ ⟨rfl, rfl, lr⟩
 rintro t _ _ ⟨rfl, rfl, g⟩
 have hm := E
 refine cB hm rfl (fun hm => ?_) fun hm => ?_
 refine Cr<|tS (sF rfl q5b)<|tS (sL 2 rfl Q5 rfl rfl)<|tS (sF rfl z3v)<|tS (sL 2 rfl Q5 rfl rfl)<|tS (sB (v := .agg #[iv a.B, iv a.EndB]) [(0, iv a.B), (1, iv a.EndB)] rfl (fun _ => by kernel_rfl))<|tD (uN (vs := [_, _]) 1 2 rfl rfl rfl q3Z rfl (mc rfl (mc rfl mn)) rfl (by simp)) ?_
 rintro _ _ rfl
 refine aS rfl<|Te<|Ct<|Xb<|Xb<|Xr<|Xr<|Xb<|Xr ?_
 have F := i _ (Kd hm).symm
 rw [F] at d
 have hm := J9 d
 obtain ⟨rfl, rfl, rfl⟩ := q2o hm
 exact rM (rs := [.cell 4 120, .tmp 5]) (vs := [.agg #[iv a.B, iv a.EndB], bv true]) ⟨⟨_, rfl, fun w ho => q5e (vs := [_, _]) 1 2 q3e rfl rfl rfl w ho⟩, ⟨rfl, trivial⟩⟩ ⟨rfl, rfl⟩ (.cons _ (.cons _ (.cons _ (.refl _)))) (c.trans g)
 obtain ⟨ab, G, H⟩ := bS hm
 refine Cj (fun z e' hp' => [(3, pb q), (4, pb r), (7, pb o), (9, sv K h.Links L), (10, iv ((h.Links.length : Int))), (11, iv ((m : Int))), (33, bv ab)] = e' ∧ (q, Cl 120 [iv f.section_, iv f.end_]) :: (r, Cl 120 [iv 0, iv 0]) :: (o, Cl 106 [iv a.A, iv a.EndA, iv a.B, iv a.EndB]) :: R = hp' ∧ t.Le z) ?_ ?_
 have hm := G
 refine Cg<|tS (sF rfl q5b)<|tS (sL 2 rfl Q5 rfl rfl)<|tS (sF rfl q1V)<|tS (sL 0 rfl Q5 rfl rfl)<|Tb rfl (q1 rfl rfl) (fun l => ?_) (fun l => ?_)
 rw [if_pos l] at hm
 refine mV rfl<|yS<|tS (sF rfl z3v)<|yS<|tS (sL 2 rfl Q5 rfl rfl)<|yS<|tS (sF rfl q5a)<|yS<|tS (sL 0 rfl Q5 rfl rfl)<|yS<|tS (q1 rfl rfl)<|tS (pT rfl rfl)<|aS rfl<|Tn ?_
 obtain rfl := o1 hm
 exact jJ ⟨rfl, rfl, lr⟩
 rw [if_neg l] at hm
 refine mV rfl<|nO<|nO<|nO<|nO<|nO<|tS (pF rfl rfl)<|aS rfl<|Tn ?_
 obtain rfl := o1 hm
 exact jJ ⟨rfl, rfl, lr⟩
 rintro z _ _ ⟨rfl, rfl, p⟩
 have hm := H
 refine cB hm rfl (fun hm => ?_) fun hm => ?_
 refine Cr<|tS (sF rfl q3w)<|tS (sL 2 rfl Q5 rfl rfl)<|tS (sF rfl q8p)<|tS (sL 2 rfl Q5 rfl rfl)<|tS (sB (v := .agg #[iv a.A, iv a.EndA]) [(0, iv a.A), (1, iv a.EndA)] rfl (fun _ => by kernel_rfl))<|tD (uN (vs := [_, _]) 1 2 rfl rfl rfl q3Z rfl (mc rfl (mc rfl mn)) rfl (by simp)) ?_
 rintro _ _ rfl
 refine aS rfl<|Te<|Ct<|Xb<|Xb<|Xr<|Xr<|Xb<|Xr ?_
 have I := i _ (Kd hm).symm
 rw [I] at d
 have hm := J9 d
 obtain ⟨rfl, rfl, rfl⟩ := q2o hm
 exact rM (rs := [.cell 4 120, .tmp 5]) (vs := [.agg #[iv a.A, iv a.EndA], bv true]) ⟨⟨_, rfl, fun w ho => q5e (vs := [_, _]) 1 2 q3e rfl rfl rfl w ho⟩, ⟨rfl, trivial⟩⟩ ⟨rfl, rfl⟩ (.cons _ (.cons _ (.cons _ (.refl _)))) (c.trans (g.trans p))
 refine Ck<|Xm<|Xm<|Xn<|Cg<|tS (sa rfl rfl (by omega))<|mV rfl<|Tn ?_
 exact jM hm ⟨rfl, rfl, ((c.trans (g.trans p)))⟩
 rintro _ n _ _ ⟨rfl, rfl, c⟩ J
 rw [J] at d
 have hm := H4 d
 refine Cr<|tS (lF rfl rfl (by omega))<|Te<|Cs<|k7 rfl<|Ce<|Xe<|Xe<|Xo<|Xn ?_
 refine Cr<|tS (sB (v := .agg #[iv 0, iv 0]) [] rfl (fun _ => by kernel_rfl))<|tD (uN (vs := [_, _]) 1 2 rfl rfl rfl q3Z rfl (mc rfl (mc rfl mn)) rfl (by simp)) ?_
 rintro _ _ rfl
 refine aS rfl<|Te<|Ct ?_
 obtain ⟨rfl, rfl, rfl⟩ := q2o hm
 exact rM (rs := [.cell 4 120, .tmp 5]) (vs := [.agg #[iv 0, iv 0], bv false]) ⟨⟨_, rfl, fun w ho => q5e (vs := [_, _]) 1 2 q3e rfl rfl rfl w ho⟩, ⟨rfl, trivial⟩⟩ ⟨rfl, rfl⟩ (.cons _ (.cons _ (.refl _))) c
theorem q9t (b : k8) (R : Hp) (d : v6) (A2 c3 A5 c6 A8 c9 q r y z) (h4 : FZ RT.str b.w A2 c3 d.Stations) (h7 : FZ j3 b.w A5 c6 d.Sections) (av : FZ w6 b.w A8 c9 d.Links) (D : FZ j6 b.w q r d.Signals) (aw : FZ w7 b.w y z d.Gates) (Z) (hm : q0z d = some Z):
 w8 Tryz.prog 51 [.agg #[sv A2 d.Stations c3, sv A5 d.Sections c6, sv A8 d.Links c9, sv q d.Signals r, sv y d.Gates z]] b (R) (fun v b' hp' => iv Z = v ∧ R = hp') := by
 refine fE 66 Tryz.func51 rfl Tryz.ntmps51 rfl ?_
 unfold q0z at hm
 refine Cr<|tD (uB _ rfl rfl) ?_
 rintro _ _ ⟨s, rfl, rfl⟩
 refine aS rfl<|Te<|Cs<|Cr<|tS (sF rfl q3k)<|tS (sL 0 rfl q8X rfl rfl)<|tS (sE rfl z4e)<|mV rfl<|Te<|Cb ?_
 have aJ : d.Signals.length ≤ 9223372036854775807 := (FZ.bd D)
 obtain ⟨aR, ad, e⟩ := bS hm
 refine lF (fun t => fun _ => fun E e' hp' => [(1, pb s), (10, sv q d.Signals r), (11, iv ((d.Signals.length : Int))), (12, iv ((t : Int)))] = e' ∧ (s, Cl 28 [sv A2 d.Stations c3, sv A5 d.Sections c6, sv A8 d.Links c9, sv q d.Signals r, sv y d.Gates z]) :: R = hp' ∧ b.Le E) ad ⟨rfl, rfl, lr⟩ ?_ ?_
 rintro t _ E _ _ aK ax ⟨rfl, rfl, a⟩ n m
 unfold F8 at n
 have hm := n
 refine Cr<|tS (lT rfl rfl (by omega))<|Te<|Cs<|k9 rfl<|Ck<|Xn<|Cs<|Cb<|Cr<|mV rfl ?_
 obtain ⟨c, ay, aL, ae, aM, af, J, F, K, hm⟩ := bF (sz := 2) hm (D.le a)
 obtain ⟨_, _, rfl, rfl, rfl⟩ := af
 refine tS (sI ay rfl rfl ae K F z4e)<|tS (sP (vs := [iv c.Section, iv c.End]) 2 rfl z5b F rfl (fun j u hu => J j u hu))<|tD (uA [iv 0, iv 0] z5f rfl) ?_
 rintro _ _ ⟨aa, rfl, rfl⟩
 refine aS rfl<|tD (uN (vs := [_, _]) 0 2 rfl rfl rfl z8o rfl (mc rfl (mc rfl mn)) rfl (by simp)) ?_
 rintro _ _ rfl
 refine Te<|Cr<|tS (sF rfl q4l)<|tS (sL 0 rfl Q5 rfl rfl)<|tS (sF rfl q8o)<|tS (sL 0 rfl Q5 rfl rfl)<|tS (sB (v := .agg #[iv c.Section, iv c.End]) [(0, iv c.Section), (1, iv c.End)] rfl (fun _ => by kernel_rfl))<|tD (uA [iv 0, iv 0] q3f rfl) ?_
 rintro _ _ ⟨aT, rfl, rfl⟩
 refine tD (uN (vs := [_, _]) 0 2 rfl rfl rfl q3Z rfl (mc rfl (mc rfl mn)) rfl (by simp)) ?_
 rintro _ _ rfl
 refine Te<|Cs<|Cr<|tS (sD (vs := [_, _, _, _, _]) 2 5 rfl q0o rfl rfl rfl)<|tS (sD (vs := [_, _]) 0 2 rfl q3e rfl rfl rfl) ?_
 obtain ⟨az, L, hm⟩ := bS hm
 refine tD (uW _ z9s rfl (fun w ho => z3N _ [] d (⟨c.Section, c.End⟩ : Q0) A2 c3 A5 c6 A8 c9 q r y z ((h4.le a).old ho) ((h7.le a).old ho) ((av.le a).old ho) ((D.le a).old ho) ((aw.le a).old ho) az L) (fun _ _ _ h => h.2.symm)) ?_
 rintro _ _ ⟨⟨_, rfl, _⟩, rfl⟩
 refine tS (sn2 rfl)<|Te<|cM hm rfl (fun hm => ?_) fun hm => ?_
 refine Cr<|aS rfl<|Te<|Ct<|Xr<|Xb<|Xr<|Xr<|Xb<|Xr ?_
 have ag := m _ (Kd hm).symm
 rw [ag] at e
 have hm := J9 e
 obtain rfl := o1 hm
 exact rO ⟨rfl, rfl⟩ a
 refine Ck<|Xn<|Cs<|Cr<|tS (sD (vs := [_, _, _, _, _]) 2 5 rfl q0o rfl rfl rfl)<|tS (sD (vs := [_, _]) 0 2 rfl q3e rfl rfl rfl) ?_
 obtain ⟨⟨aA, aB, ab⟩, O, hm⟩ := bS hm
 have hm := q4s hm
 refine Tg _ rfl z4J rfl (q3n _ _ d (⟨c.Section, c.End⟩ : Q0) A2 c3 A5 c6 A8 c9 q r y z (h4.le a) (h7.le a) (av.le a) (D.le a) (aw.le a) aA aB ab O) ?_
 rintro _ aC _ f ⟨rfl, rfl⟩
 refine mV rfl<|tS (j5 rfl rfl)<|tS (j5 rfl rfl)<|tD (uA [iv 0, iv 0] q3f rfl) ?_
 rintro _ _ ⟨aU, rfl, rfl⟩
 refine tD (uN (vs := [_, _]) 0 2 rfl rfl rfl q3Z rfl (mc rfl (mc rfl mn)) rfl (by simp)) ?_
 rintro _ _ rfl
 refine aS rfl<|Te ?_
 obtain ⟨aD, ah, ai⟩ := bS hm
 refine Cj (fun A e' hp' => [(1, pb s), (3, iv ((t : Int))), (4, pb aa), (10, sv q d.Signals r), (11, iv ((d.Signals.length : Int))), (12, iv ((t : Int))), (43, bv aD)] = e' ∧ (s, Cl 28 [sv A2 d.Stations c3, sv A5 d.Sections c6, sv A8 d.Links c9, sv q d.Signals r, sv y d.Gates z]) :: (aa, Cl 109 [iv c.Section, iv c.End]) :: R = hp' ∧ aC.Le A) ?_ ?_
 have hm := ah
 refine Cg<|mV rfl ?_
 rcases Kg ab with p | p
 rw [if_pos p] at hm
 refine Tr 32 rfl (v' := .bool true) (by rw [p] <;> rfl)<|tS (K7 rfl)<|mV rfl<|yS<|tS (sF rfl q0m)<|yS<|tS (sL 3 rfl q5n rfl rfl)<|yS<|tS (sF rfl q4l)<|yS<|tS (sL 2 rfl Q5 rfl rfl)<|yS ?_
 obtain ⟨aV, aE, aN, aj, aO, ak, S, G, T, hm⟩ := bF (sz := 7) hm (h7.le (a.trans f))
 obtain ⟨_, _, rfl, rfl, ⟨_, _, rfl, rfl, ⟨_, _, rfl, rfl, ⟨_, _, rfl, rfl, ⟨_, _, rfl, rfl, ⟨_, _, rfl, rfl, rfl⟩⟩⟩⟩⟩⟩ := ak
 refine tS (sI aE rfl rfl aj T G z0I)<|yS<|tS (sQ rfl G q4B)<|yS<|tS (sO rfl Q5 (S 0 _ rfl))<|yS<|tS (q2 rfl rfl)<|tS (pF rfl rfl)<|Tn ?_
 obtain rfl := o1 hm
 exact jJ ⟨rfl, rfl, lr⟩
 rw [if_neg (fun hh => Bool.noConfusion (hh.symm.trans p))] at hm
 refine Tr 32 rfl (v' := .bool false) (by rw [p] <;> rfl)<|tS (P7 rfl)<|mV rfl<|nO<|nO<|nO<|nO<|nO<|nO<|nO<|nO<|tS (pT rfl rfl)<|Tn ?_
 obtain rfl := o1 hm
 exact jJ ⟨rfl, rfl, lr⟩
 rintro A _ _ ⟨rfl, rfl, k⟩
 have hm := ai
 refine cB hm rfl (fun hm => ?_) fun hm => ?_
 refine Cr<|aS rfl<|Te<|Ct<|Xr<|Xb<|Xr<|Xr<|Xb<|Xr ?_
 have al := m _ (Kd hm).symm
 rw [al] at e
 have hm := J9 e
 obtain rfl := o1 hm
 exact rO ⟨rfl, rfl⟩ (a.trans (f.trans k))
 refine Ck<|Xn<|Cr<|mV rfl<|tS (q5 rfl rfl)<|Te<|cI hm rfl (fun hm => ?_) fun hm => ?_
 refine Cr<|tS (sF rfl q3k)<|tS (sL 0 rfl q8X rfl rfl)<|mV rfl ?_
 obtain ⟨_, H, hm⟩ := bS hm
 have H := (kS H).2
 refine tS (sb rfl rfl H) ?_
 obtain ⟨B, aF, aP, am, aQ, an, U, I, V, hm⟩ := bF (sz := 2) hm (D.le (a.trans (f.trans k)))
 obtain ⟨_, _, rfl, rfl, rfl⟩ := an
 refine tS (sI aF rfl rfl am V I z4e)<|tS (sP (vs := [iv B.Section, iv B.End]) 2 rfl z5b I rfl (fun j u hu => U j u hu))<|tD (uA [iv 0, iv 0] z5f rfl) ?_
 rintro _ _ ⟨aW, rfl, rfl⟩
 refine tD (uN (vs := [_, _]) 0 2 rfl rfl rfl z8o rfl (mc rfl (mc rfl mn)) rfl (by simp)) ?_
 rintro _ _ rfl
 refine Te ?_
 obtain ⟨aG, ao, aq⟩ := bS hm
 refine Cj (fun ac e' hp' => [(1, pb s), (10, sv q d.Signals r), (11, iv ((d.Signals.length : Int))), (12, iv ((t : Int))), (64, bv aG)] = e' ∧ (s, Cl 28 [sv A2 d.Stations c3, sv A5 d.Sections c6, sv A8 d.Links c9, sv q d.Signals r, sv y d.Gates z]) :: R = hp' ∧ A.Le ac) ?_ ?_
 have hm := ao
 obtain ⟨g, W, hm⟩ := bS hm
 obtain ⟨i, X, hm⟩ := bS hm
 obtain ⟨aH, Y, hm⟩ := bS hm
 refine Di mixed (.refl _)<|E0 0 rfl (sF rfl q4l)<|Es 1 rfl (sL 0 rfl Q5 rfl rfl)<|E0 2 rfl (sF rfl q4l)<|Es 3 rfl (sL 2 rfl Q5 rfl rfl)<|E0 5 rfl (sF rfl q8o)<|Es 6 rfl (sL 0 rfl Q5 rfl rfl)<|E0 7 rfl (sF rfl q8o)<|Es 8 rfl (sL 2 rfl Q5 rfl rfl)<|Eo<|Da [4] (by kernel_rfl) rfl<|Rd2 lr rfl rfl (uW _ z6C rfl (fun w ho => q6a _ [] B.Section c.Section g W) (fun _ _ _ h => h.2.symm)) ?_ ?_
 rintro _ _ ⟨⟨_, rfl, _⟩, rfl⟩
 refine iR<|Da [9] (by kernel_rfl) rfl<|Rd2 lr rfl rfl (uW _ z6C rfl (fun w ho => q6a _ [] B.End c.End i X) (fun _ _ _ h => h.2.symm)) ?_ ?_
 rintro _ _ ⟨⟨_, rfl, _⟩, rfl⟩
 refine iR<|Da [10] (by kernel_rfl) rfl ?_
 refine Rd2 lr rfl rfl (V7 (el := 3) [(0, iv g), (1, iv i)] [iv g, iv i] rfl (fun _ => by kernel_rfl)) ?_ ?_
 rintro _ _ ⟨x, rfl, rfl⟩
 refine iR<|j5e 0 [_, _, _] R rfl rfl ?_
 have aI : OS 3 (OT.fr rI) A.w (.slice (some ⟨x, 0, none⟩) 2 2) [g, i] [(x, Cl 3 [iv g, iv i])] := OS.lit [[iv g], [iv i]] rfl ⟨rfl, ⟨rfl, trivial⟩⟩ rfl (by decide)
 refine Da [11] (by kernel_rfl) rfl<|Rd2 lr rfl rfl (uW _ j2a rfl (fun w ho => j2r _ [] [g, i] (some ⟨x, 0, none⟩) 2 (OS.now (o := (OT.fr rI)) (l := [g, i]) (hs := [(x, Cl 3 [iv g, iv i])]) aI ho (.cons _ (.cons _ (.cons _ (Kb _ _))))) aH Y) (fun _ _ _ h => h.2.symm)) ?_ ?_
 rintro _ _ ⟨⟨_, rfl, _⟩, rfl⟩
 refine iR<|Ei lr (.cons_cons _ (.cons_cons _ (.cons_cons _ (ss [(x, Cl 3 [iv g, iv i])] (.refl _)))))<|E0 12 rfl (q6 rfl rfl)<|Eo<|Dd (by kernel_rfl) ?_
 obtain rfl := o1 hm
 exact jJ ⟨rfl, rfl, lr⟩
 exact Rn
 exact Rn
 exact Rn
 exact Rn
 rintro ac _ _ ⟨rfl, rfl, C⟩
 have hm := aq
 refine cB hm rfl (fun hm => ?_) fun hm => ?_
 refine Cr<|aS rfl<|Te<|Ct<|Xb<|Xr<|Xr<|Xb<|Xr ?_
 have ar := m _ (Kd hm).symm
 rw [ar] at e
 have hm := J9 e
 obtain rfl := o1 hm
 exact rO ⟨rfl, rfl⟩ (a.trans (f.trans (k.trans C)))
 refine Ck<|Xm<|Xn<|Cg<|tS (sa rfl rfl (by omega))<|mV rfl<|Tn ?_
 exact jM hm ⟨rfl, rfl, ((a.trans (f.trans (k.trans C))))⟩
 refine Ck<|Xm<|Xn<|Cg<|tS (sa rfl rfl (by omega))<|mV rfl<|Tn ?_
 exact jM hm ⟨rfl, rfl, ((a.trans (f.trans k)))⟩
 rintro _ E _ _ ⟨rfl, rfl, a⟩ au
 rw [au] at e
 have hm := H4 e
 refine Cr<|tS (lF rfl rfl (by omega))<|Te<|Cs<|k7 rfl<|Ce<|Xe<|Xe<|Xo<|Xn<|Cr<|aS rfl<|Te<|Ct ?_
 obtain rfl := o1 hm
 exact rO ⟨rfl, rfl⟩ a
theorem z1v (b : k8) (R : Hp) (e : v6) (A2 c3 A5 c6 A8 c9 y z o p) (h4 : FZ RT.str b.w A2 c3 e.Stations) (h7 : FZ j3 b.w A5 c6 e.Sections) (aB : FZ w6 b.w A8 c9 e.Links) (aC : FZ j6 b.w y z e.Signals) (K : FZ w7 b.w o p e.Gates) (I) (hm : q1D e = some I):
 w8 Tryz.prog 52 [.agg #[sv A2 e.Stations c3, sv A5 e.Sections c6, sv A8 e.Links c9, sv y e.Signals z, sv o e.Gates p]] b (R) (fun v b' hp' => iv I = v ∧ R = hp') := by
 refine fE 52 Tryz.func52 rfl Tryz.ntmps52 rfl ?_
 unfold q1D at hm
 refine Cr<|tD (uB _ rfl rfl) ?_
 rintro _ _ ⟨i, rfl, rfl⟩
 refine aS rfl<|Te<|Cs<|Cr<|tS (sF rfl q5V)<|tS (sL 0 rfl z3h rfl rfl)<|tS (sE rfl z7b)<|mV rfl<|Te<|Cb ?_
 have an : e.Gates.length ≤ 9223372036854775807 := (FZ.bd K)
 obtain ⟨ax, L, c⟩ := bS hm
 refine lF (fun k => fun _ => fun l e' hp' => [(1, pb i), (6, sv o e.Gates p), (7, iv ((e.Gates.length : Int))), (8, iv ((k : Int)))] = e' ∧ (i, Cl 28 [sv A2 e.Stations c3, sv A5 e.Sections c6, sv A8 e.Links c9, sv y e.Signals z, sv o e.Gates p]) :: R = hp' ∧ b.Le l) L ⟨rfl, rfl, lr⟩ ?_ ?_
 rintro k _ l _ _ ao af ⟨rfl, rfl, a⟩ f d
 unfold q0s at f
 have hm := f
 refine Cr<|tS (lT rfl rfl (by omega))<|Te<|Cs<|k9 rfl<|Ck<|Xn<|Cs<|Cb<|Cr<|mV rfl ?_
 obtain ⟨m, ag, aq, O, ar, S, A, q, B, hm⟩ := bF (sz := 2) hm (K.le a)
 obtain ⟨_, _, rfl, rfl, rfl⟩ := S
 refine tS (sI ag rfl rfl O B q z7b)<|tS (sP (vs := [iv m.Section, iv m.Close]) 2 rfl z9Z q rfl (fun j u hu => A j u hu))<|tD (uA [iv 0, iv 0] z5e rfl) ?_
 rintro _ _ ⟨ay, rfl, rfl⟩
 refine aS rfl<|tD (uN (vs := [_, _]) 0 2 rfl rfl rfl z8n rfl (mc rfl (mc rfl mn)) rfl (by simp)) ?_
 rintro _ _ rfl
 refine Te<|Cb<|Cr<|tS (sF rfl q7g)<|tS (sL 0 rfl Q5 rfl rfl)<|tS (sF rfl q0m)<|tS (sL 1 rfl q5n rfl rfl)<|tS (sE rfl z0I) ?_
 obtain ⟨_, r, hm⟩ := bS hm
 have r := (kS r).2
 refine tS (sb rfl rfl r) ?_
 obtain ⟨ah, C, hm⟩ := bS hm
 refine tD (uW _ q6h rfl (fun w ho => X9 _ [] m.Section 0 ((e.Sections.length : Int) - 1) ah C) (fun _ _ _ h => h.2.symm)) ?_
 rintro _ _ ⟨⟨_, rfl, _⟩, rfl⟩
 refine tS (sn2 rfl)<|aS rfl<|Te<|cM hm rfl (fun hm => ?_) fun hm => ?_
 refine Cr<|aS rfl<|Te<|Ct<|Xb<|Xb<|Xr<|Xr<|Xb<|Xr ?_
 have T := d _ (Kd hm).symm
 rw [T] at c
 have hm := J9 c
 obtain rfl := o1 hm
 exact rO ⟨rfl, rfl⟩ a
 refine Cr<|tS (sF rfl q0m)<|tS (sL 1 rfl q5n rfl rfl)<|tS (sF rfl q7g)<|tS (sL 0 rfl Q5 rfl rfl) ?_
 obtain ⟨az, ai, au, U, av, V, D, s, E, hm⟩ := bF (sz := 7) hm (h7.le a)
 obtain ⟨_, _, rfl, rfl, ⟨_, _, rfl, rfl, ⟨_, _, rfl, rfl, ⟨_, _, rfl, rfl, ⟨_, _, rfl, rfl, ⟨_, _, rfl, rfl, rfl⟩⟩⟩⟩⟩⟩ := V
 refine tS (sI ai rfl rfl U E s z0I)<|tS (sQ rfl s q4B)<|tS (sO rfl Q5 (D 0 _ rfl))<|tS (q2 rfl rfl)<|aS rfl<|Te<|cI hm rfl (fun hm => ?_) fun hm => ?_
 refine Cr<|aS rfl<|Te<|Ct<|Xb<|Xb<|Xr<|Xr<|Xb<|Xr ?_
 have W := d _ (Kd hm).symm
 rw [W] at c
 have hm := J9 c
 obtain rfl := o1 hm
 exact rO ⟨rfl, rfl⟩ a
 refine Cr<|tS (sF rfl z3u)<|tS (sL 0 rfl Q5 rfl rfl) ?_
 obtain ⟨aj, F, hm⟩ := bS hm
 refine tD (uW _ q6h rfl (fun w ho => X9 _ [] m.Close 1 12 aj F) (fun _ _ _ h => h.2.symm)) ?_
 rintro _ _ ⟨⟨_, rfl, _⟩, rfl⟩
 refine tS (sn2 rfl)<|aS rfl<|Te<|cM hm rfl (fun hm => ?_) fun hm => ?_
 refine Cr<|aS rfl<|Te<|Ct<|Xb<|Xb<|Xr<|Xr<|Xb<|Xr ?_
 have X := d _ (Kd hm).symm
 rw [X] at c
 have hm := J9 c
 obtain rfl := o1 hm
 exact rO ⟨rfl, rfl⟩ a
 obtain ⟨ak, Y, Z⟩ := bS hm
 refine Cj (fun J e' hp' => [(1, pb i), (6, sv o e.Gates p), (7, iv ((e.Gates.length : Int))), (8, iv ((k : Int))), (36, bv ak)] = e' ∧ (i, Cl 28 [sv A2 e.Stations c3, sv A5 e.Sections c6, sv A8 e.Links c9, sv y e.Signals z, sv o e.Gates p]) :: R = hp' ∧ l.Le J) ?_ ?_
 have hm := Y
 by_cases g : 0 < (k : Int)
 rw [if_pos g] at hm
 obtain ⟨_, t, hm⟩ := bS hm
 obtain ⟨aA, al, hm⟩ := bS hm
 refine Di mixed (.refl _)<|E0 0 rfl (sM rfl)<|E0 1 rfl (z0g rfl rfl g)<|E0 2 rfl (sM rfl)<|Yz 3 39 rfl (sF rfl q7g)<|Ey 4 39 rfl (sL 0 rfl Q5 rfl rfl)<|Yz 5 39 rfl (sF rfl q5V)<|Ey 6 39 rfl (sL 1 rfl z3h rfl rfl)<|Yz 7 39 rfl (sM rfl) ?_
 have t := (kS t).2
 refine Yz 8 39 rfl (sb rfl rfl t) ?_
 obtain ⟨am, aa, ab⟩ := iS al
 obtain ⟨aw, ac, G, x, H⟩ := FZ.get (sz := 2) rfl (by decide) (K.le a) ab
 obtain ⟨_, _, rfl, rfl, rfl⟩ := ac
 refine Yz 9 39 rfl (sI am rfl rfl aa H x z7b)<|Yz 10 39 rfl (sQ rfl x q7g)<|Ey 11 39 rfl (sO rfl Q5 (G 0 _ rfl))<|Yz 12 39 rfl (q4 rfl rfl)<|E0 13 rfl (pT rfl rfl)<|E0 14 rfl (sA rfl)<|Eo<|Dd (by kernel_rfl) ?_
 obtain rfl := o1 hm
 exact jJ ⟨rfl, rfl, lr⟩
 rw [if_neg g] at hm
 refine Di mixed (.refl _)<|E0 0 rfl (sM rfl)<|E0 1 rfl (z2R rfl rfl g)<|E0 2 rfl (sM rfl)<|eN 3 rfl<|eN 4 rfl<|eN 5 rfl<|eN 6 rfl<|eN 7 rfl<|eN 8 rfl<|eN 9 rfl<|eN 10 rfl<|eN 11 rfl<|eN 12 rfl<|E0 13 rfl (pF rfl rfl)<|E0 14 rfl (sA rfl)<|Eo<|Dd (by kernel_rfl) ?_
 obtain rfl := o1 hm
 exact jJ ⟨rfl, rfl, lr⟩
 rintro J _ _ ⟨rfl, rfl, n⟩
 have hm := Z
 refine cB hm rfl (fun hm => ?_) fun hm => ?_
 refine Cr<|aS rfl<|Te<|Ct<|Xb<|Xb<|Xr<|Xr<|Xb<|Xr ?_
 have ad := d _ (Kd hm).symm
 rw [ad] at c
 have hm := J9 c
 obtain rfl := o1 hm
 exact rO ⟨rfl, rfl⟩ (a.trans n)
 refine Ck<|Xm<|Xm<|Xn<|Cg<|tS (sa rfl rfl (by omega))<|mV rfl<|Tn ?_
 exact jM hm ⟨rfl, rfl, ((a.trans n))⟩
 rintro _ l _ _ ⟨rfl, rfl, a⟩ ae
 rw [ae] at c
 have hm := H4 c
 refine Cr<|tS (lF rfl rfl (by omega))<|Te<|Cs<|k7 rfl<|Ce<|Xe<|Xe<|Xo<|Xn<|Cr<|aS rfl<|Te<|Ct ?_
 obtain rfl := o1 hm
 exact rO ⟨rfl, rfl⟩ a
theorem q7i (b : k8) (R : Hp) (f : v6) (J E O S U V o p q r) (h4 : FZ RT.str b.w J E f.Stations) (h7 : FZ j3 b.w O S f.Sections) (av : FZ w6 b.w U V f.Links) (aw : FZ j6 b.w o p f.Signals) (ax : FZ w7 b.w q r f.Gates) (an) (hm : P6 f = some an):
 w8 Tryz.prog 15 [.agg #[sv J f.Stations E, sv O f.Sections S, sv U f.Links V, sv o f.Signals p, sv q f.Gates r]] b (R) (fun v b' hp' => iv an = v ∧ R = hp') := by
 refine fE 92 Tryz.func15 rfl Tryz.ntmps15 rfl ?_
 unfold P6 at hm
 refine Cr<|tD (uB _ rfl rfl) ?_
 rintro _ _ ⟨m, rfl, rfl⟩
 refine aS rfl<|Te<|Cs<|Cb<|Cr<|tS (sF rfl q0m)<|tS (sL 0 rfl q5n rfl rfl)<|tS (sE rfl z0I)<|tS (q1 rfl rfl)<|aS rfl<|Te<|cI hm rfl (fun hm => ?_) fun hm => ?_
 refine Cr<|aS rfl<|Te<|Ct<|Xb<|Xr ?_
 obtain rfl := o1 hm
 exact rO ⟨rfl, rfl⟩ lr
 obtain ⟨aT, ay, az⟩ := bS hm
 refine Cj (fun W e' hp' => [(1, pb m), (16, bv aT)] = e' ∧ (m, Cl 28 [sv J f.Stations E, sv O f.Sections S, sv U f.Links V, sv o f.Signals p, sv q f.Gates r]) :: R = hp' ∧ b.Le W) ?_ ?_
 have hm := ay
 refine Cg<|tS (sF rfl z0U)<|tS (sL 0 rfl z7s rfl rfl)<|tS (sE rfl z5h)<|Tb rfl (q5 rfl rfl) (fun F => ?_) (fun F => ?_)
 rw [if_pos F] at hm
 refine mV rfl<|nO<|nO<|nO<|nO<|tS (pT rfl rfl)<|mV rfl<|nO<|nO<|nO<|nO<|tS (pT rfl rfl)<|mV rfl<|nO<|nO<|nO<|nO<|tS (pT rfl rfl)<|mV rfl<|nO<|nO<|nO<|nO<|tS (pT rfl rfl)<|aS rfl<|Tn ?_
 obtain rfl := o1 hm
 exact jJ ⟨rfl, rfl, lr⟩
 rw [if_neg F] at hm
 refine mV rfl<|yS<|tS (sF rfl q0m)<|yS<|tS (sL 0 rfl q5n rfl rfl)<|yS<|tS (sE rfl z0I)<|yS<|Tb rfl (q5 rfl rfl) (fun G => ?_) (fun G => ?_)
 rw [if_pos G] at hm
 refine tS (pF rfl rfl)<|mV rfl<|nO<|nO<|nO<|nO<|tS (pT rfl rfl)<|mV rfl<|nO<|nO<|nO<|nO<|tS (pT rfl rfl)<|mV rfl<|nO<|nO<|nO<|nO<|tS (pT rfl rfl)<|aS rfl<|Tn ?_
 obtain rfl := o1 hm
 exact jJ ⟨rfl, rfl, lr⟩
 rw [if_neg G] at hm
 refine tS (pF rfl rfl)<|mV rfl<|yS<|tS (sF rfl q9l)<|yS<|tS (sL 0 rfl z7r rfl rfl)<|yS<|tS (sE rfl j0d)<|yS<|Tb rfl (q5 rfl rfl) (fun H => ?_) (fun H => ?_)
 rw [if_pos H] at hm
 refine tS (pF rfl rfl)<|mV rfl<|nO<|nO<|nO<|nO<|tS (pT rfl rfl)<|mV rfl<|nO<|nO<|nO<|nO<|tS (pT rfl rfl)<|aS rfl<|Tn ?_
 obtain rfl := o1 hm
 exact jJ ⟨rfl, rfl, lr⟩
 rw [if_neg H] at hm
 refine tS (pF rfl rfl)<|mV rfl<|yS<|tS (sF rfl q3k)<|yS<|tS (sL 0 rfl q8X rfl rfl)<|yS<|tS (sE rfl z4e)<|yS<|Tb rfl (q5 rfl rfl) (fun I => ?_) (fun I => ?_)
 rw [if_pos I] at hm
 refine tS (pF rfl rfl)<|mV rfl<|nO<|nO<|nO<|nO<|tS (pT rfl rfl)<|aS rfl<|Tn ?_
 obtain rfl := o1 hm
 exact jJ ⟨rfl, rfl, lr⟩
 rw [if_neg I] at hm
 refine tS (pF rfl rfl)<|mV rfl<|yS<|tS (sF rfl q5V)<|yS<|tS (sL 0 rfl z3h rfl rfl)<|yS<|tS (sE rfl z7b)<|yS<|tS (q5 rfl rfl)<|tS (pF rfl rfl)<|aS rfl<|Tn ?_
 obtain rfl := o1 hm
 exact jJ ⟨rfl, rfl, lr⟩
 rintro W _ _ ⟨rfl, rfl, a⟩
 have hm := az
 refine cB hm rfl (fun hm => ?_) fun hm => ?_
 refine Cr<|aS rfl<|Te<|Ct<|Xb<|Xr ?_
 obtain rfl := o1 hm
 exact rO ⟨rfl, rfl⟩ a
 refine Ck<|Xm<|Xn<|Cs<|Cr<|tS (sF rfl z0U)<|tS (sL 0 rfl z7s rfl rfl)<|tS (sE rfl z5h)<|mV rfl<|Te<|Cb ?_
 have a9 : f.Stations.length ≤ 9223372036854775807 := (FZ.bd (h4.le a))
 obtain ⟨bj, aA, i⟩ := bS hm
 refine lF (fun ao => fun _ => fun K e' hp' => [(1, pb m), (46, sv J f.Stations E), (47, iv ((f.Stations.length : Int))), (48, iv ((ao : Int)))] = e' ∧ (m, Cl 28 [sv J f.Stations E, sv O f.Sections S, sv U f.Links V, sv o f.Signals p, sv q f.Gates r]) :: R = hp' ∧ W.Le K) aA ⟨rfl, rfl, lr⟩ ?_ ?_
 rintro ao _ K _ _ ba aU ⟨rfl, rfl, c⟩ s y
 unfold q2S at s
 have hm := s
 refine Cr<|tS (lT rfl rfl (by omega))<|Te<|Cs<|k9 rfl<|Ck<|Xn<|Cs<|Cb<|Cr<|mV rfl ?_
 obtain ⟨aq, aV, bb, aB, bc, aC, ad, aD, ae, hm⟩ := bF (sz := 1) hm (h4.le (a.trans c))
 obtain rfl := aC
 refine tS (sI aV rfl rfl aB ae aD z5h)<|tS (sO rfl j6S (ad 0 _ rfl))<|aS rfl<|aS rfl<|Te<|Cb<|Cr<|mV rfl ?_
 obtain ⟨aW, af, hm⟩ := bS hm
 refine tD (uW _ j5H rfl (fun w ho => z9M _ [] aq aW af) (fun _ _ _ h => h.2.symm)) ?_
 rintro _ _ ⟨⟨_, rfl, _⟩, rfl⟩
 refine tS (sn2 rfl)<|aS rfl<|Te<|cM hm rfl (fun hm => ?_) fun hm => ?_
 refine Cr<|aS rfl<|Te<|Ct<|Xb<|Xb<|Xr<|Xr<|Xb<|Xr ?_
 have aE := y _ (Kd hm).symm
 rw [aE] at i
 have hm := J9 i
 obtain rfl := o1 hm
 exact rO ⟨rfl, rfl⟩ (a.trans c)
 refine Cr<|tS (sF rfl z0U)<|tS (sL 0 rfl z7s rfl rfl)<|mV rfl ?_
 obtain ⟨aX, aY, hm⟩ := bS hm
 obtain ⟨X, aZ, bd, aF, Y, Z, aa⟩ := q6G aY
 have zz := a.trans c
 have ar := FZ.sub (sz := 1) rfl (h4.le zz) Y Z
 have a0 := (h4.le zz).1.1
 rw [← aa] at ar
 refine tS (aa ▸ z0A (l := f.Stations) X aZ rfl (.inl ⟨rfl, by omega⟩) (.inr ⟨_, _, _, rfl, rfl, aF⟩) Y Z a0 z5h)<|mV rfl ?_
 obtain ⟨a1, ag, hm⟩ := bS hm
 refine tD (uW _ j5G rfl (fun w ho => z1k _ [] aX aq (z2k J E X 1) (E - X) (ar.old ho) a1 ag) (fun _ _ _ h => h.2.symm)) ?_
 rintro _ _ ⟨⟨_, rfl, _⟩, rfl⟩
 refine aS rfl<|Te<|cB hm rfl (fun hm => ?_) fun hm => ?_
 refine Cr<|aS rfl<|Te<|Ct<|Xb<|Xb<|Xr<|Xr<|Xb<|Xr ?_
 have aG := y _ (Kd hm).symm
 rw [aG] at i
 have hm := J9 i
 obtain rfl := o1 hm
 exact rO ⟨rfl, rfl⟩ zz
 refine Ck<|Xm<|Xm<|Xn<|Cg<|tS (sa rfl rfl (by omega))<|mV rfl<|Tn ?_
 exact jM hm ⟨rfl, rfl, (c)⟩
 rintro _ K _ _ ⟨rfl, rfl, c⟩ aH
 rw [aH] at i
 have hm := H4 i
 refine Cr<|tS (lF rfl rfl (by omega))<|Te<|Cs<|k7 rfl<|Ce<|Xe<|Xe<|Xo<|Xn<|Cs<|Cr<|tS (sF rfl q0m)<|tS (sL 0 rfl q5n rfl rfl)<|tS (sE rfl z0I)<|mV rfl<|Te<|Cb ?_
 have be : f.Sections.length ≤ 9223372036854775807 := (FZ.bd (h7.le (a.trans c)))
 obtain ⟨bk, aI, z⟩ := bS hm
 refine lF (fun au => fun _ => fun L e' hp' => [(1, pb m), (66, sv O f.Sections S), (67, iv ((f.Sections.length : Int))), (68, iv ((au : Int)))] = e' ∧ (m, Cl 28 [sv J f.Stations E, sv O f.Sections S, sv U f.Links V, sv o f.Signals p, sv q f.Gates r]) :: R = hp' ∧ K.Le L) aI ⟨rfl, rfl, lr⟩ ?_ ?_
 rintro au _ L _ _ bf a2 ⟨rfl, rfl, d⟩ t T
 unfold q2R at t
 have hm := t
 refine Cr<|tS (lT rfl rfl (by omega))<|Te<|Cs<|k9 rfl<|Ck<|Xn<|Cs<|Cb<|Cr ?_
 have zy := a.trans (c.trans d)
 obtain ⟨n, a3, bg, aJ, bh, aK, ah, ab, ai, hm⟩ := bF (sz := 7) hm (h7.le zy)
 obtain ⟨_, _, rfl, rfl, ⟨_, _, rfl, rfl, ⟨_, _, rfl, rfl, ⟨_, _, rfl, rfl, ⟨_, _, rfl, rfl, ⟨_, _, rfl, rfl, rfl⟩⟩⟩⟩⟩⟩ := aK
 refine tS (sI a3 rfl rfl aJ ai ab z0I)<|tS (sP (vs := [iv n.Kind, iv n.Length, iv n.Grade, iv n.Speed, iv n.Slow, iv n.Station, bv n.Axles]) 7 rfl j6d ab rfl (fun j u hu => ah j u hu))<|tD (uA [iv 0, iv 0, iv 0, iv 0, iv 0, iv 0, .bool false] j4f rfl) ?_
 rintro _ _ ⟨bl, rfl, rfl⟩
 refine tD (uN (vs := [_, _, _, _, _, _, _]) 0 7 rfl rfl rfl j6G rfl (mc rfl (mc rfl (mc rfl (mc rfl (mc rfl (mc rfl (mc rfl mn))))))) rfl (by simp)) ?_
 rintro _ _ rfl
 refine Te<|Cr<|tS (sD (vs := [_, _, _, _, _, _, _]) 0 7 rfl j6d rfl rfl rfl)<|tS (sF rfl z0U)<|tS (sL 1 rfl z7s rfl rfl)<|tS (sE rfl z5h) ?_
 obtain ⟨a4, aj, hm⟩ := bS hm
 refine tD (uW _ j5F rfl (fun w ho => q9u _ [] n (f.Stations.length : Int) a4 aj) (fun _ _ _ h => h.2.symm)) ?_
 rintro _ _ ⟨⟨_, rfl, _⟩, rfl⟩
 refine aS rfl<|Te<|Cr<|mV rfl<|tS (q2 rfl rfl)<|Te<|cI hm rfl (fun hm => ?_) fun hm => ?_
 refine Cr<|mV rfl<|aS rfl<|Te<|Ct<|Xb<|Xr<|Xr<|Xb<|Xr ?_
 have aL := T _ (Kd hm).symm
 rw [aL] at z
 have hm := J9 z
 obtain rfl := o1 hm
 exact rO ⟨rfl, rfl⟩ zy
 refine Ck<|Xm<|Xn<|Cg<|tS (sa rfl rfl (by omega))<|mV rfl<|Tn ?_
 exact jM hm ⟨rfl, rfl, (d)⟩
 rintro _ L _ _ ⟨rfl, rfl, d⟩ aM
 rw [aM] at z
 have hm := H4 z
 refine Cr<|tS (lF rfl rfl (by omega))<|Te<|Cs<|k7 rfl<|Ce<|Xe<|Xe<|Xo<|Xn ?_
 refine Cs<|Cr<|tS (sB (v := .agg #[.func (.func 50) #[] #[], .func (.func 51) #[] #[], .func (.func 52) #[] #[]]) [(0, .func (.func 50) #[] #[]), (1, .func (.func 51) #[] #[]), (2, .func (.func 52) #[] #[])] rfl (fun _ => by kernel_rfl))<|mV rfl<|Te<|Cb ?_
 obtain ⟨bm, aN, g⟩ := bS hm
 refine lF (fun D => fun _ => fun ac e' hp' => [(1, pb m), (81, .agg #[.func (.func 50) #[] #[], .func (.func 51) #[] #[], .func (.func 52) #[] #[]]), (82, iv ((D : Int)))] = e' ∧ (m, Cl 28 [sv J f.Stations E, sv O f.Sections S, sv U f.Links V, sv o f.Signals p, sv q f.Gates r]) :: R = hp' ∧ L.Le ac) aN ⟨rfl, rfl, lr⟩ ?_ ?_
 rintro D _ ac _ _ bi a5 ⟨rfl, rfl, e⟩ x k
 unfold q2Q at x
 have hm := x
 refine Cr<|tS (lT rfl rfl (by omega))<|Te<|Cs<|k9 rfl<|Ck<|Xn<|Cs<|Cb<|Cr ?_
 rcases Decidable.em ((D : Int) = (0 : Int)) with A | A
 rw [if_pos A] at hm
 refine tS (z2T (cs := [.func (.func 50) #[] #[], .func (.func 51) #[] #[], .func (.func 52) #[] #[]]) 0 rfl rfl A (by decide) rfl z9U j3e)<|aS rfl<|Te<|Cr<|mV rfl<|tS (sD (vs := [_, _, _, _, _]) 0 5 rfl q0o rfl rfl rfl) ?_
 obtain ⟨a6, ak, hm⟩ := bS hm
 have zx := a.trans (c.trans (d.trans e))
 refine tD (q0L #[] #[] [.agg #[sv J f.Stations E, sv O f.Sections S, sv U f.Links V, sv o f.Signals p, sv q f.Gates r]] rfl j5D rfl (fun w ho => z1u _ [] f J E O S U V o p q r ((h4.le zx).old ho) ((h7.le zx).old ho) ((av.le zx).old ho) ((aw.le zx).old ho) ((ax.le zx).old ho) a6 ak) (fun _ _ _ h => h.2.symm)) ?_
 rintro _ _ ⟨⟨_, rfl, _⟩, rfl⟩
 refine aS rfl<|Te<|Cr<|mV rfl<|tS (q2 rfl rfl)<|Te<|cI hm rfl (fun hm => ?_) fun hm => ?_
 refine Cr<|mV rfl<|aS rfl<|Te<|Ct<|Xb<|Xr<|Xr<|Xb<|Xr ?_
 have aO := k _ (Kd hm).symm
 rw [aO] at g
 have hm := J9 g
 obtain rfl := o1 hm
 exact rO ⟨rfl, rfl⟩ zx
 refine Ck<|Xm<|Xn<|Cg<|tS (sa rfl rfl (by omega))<|mV rfl<|Tn ?_
 exact jM hm ⟨rfl, rfl, (e)⟩
 rw [if_neg A] at hm
 rcases Decidable.em ((D : Int) = (1 : Int)) with B | B
 rw [if_pos B] at hm
 refine tS (z2T (cs := [.func (.func 50) #[] #[], .func (.func 51) #[] #[], .func (.func 52) #[] #[]]) 1 rfl rfl B (by decide) rfl z9U j3e)<|aS rfl<|Te<|Cr<|mV rfl<|tS (sD (vs := [_, _, _, _, _]) 0 5 rfl q0o rfl rfl rfl) ?_
 obtain ⟨a7, al, hm⟩ := bS hm
 have zw := a.trans (c.trans (d.trans e))
 refine tD (q0L #[] #[] [.agg #[sv J f.Stations E, sv O f.Sections S, sv U f.Links V, sv o f.Signals p, sv q f.Gates r]] rfl j5C rfl (fun w ho => q9t _ [] f J E O S U V o p q r ((h4.le zw).old ho) ((h7.le zw).old ho) ((av.le zw).old ho) ((aw.le zw).old ho) ((ax.le zw).old ho) a7 al) (fun _ _ _ h => h.2.symm)) ?_
 rintro _ _ ⟨⟨_, rfl, _⟩, rfl⟩
 refine aS rfl<|Te<|Cr<|mV rfl<|tS (q2 rfl rfl)<|Te<|cI hm rfl (fun hm => ?_) fun hm => ?_
 refine Cr<|mV rfl<|aS rfl<|Te<|Ct<|Xb<|Xr<|Xr<|Xb<|Xr ?_
 have aP := k _ (Kd hm).symm
 rw [aP] at g
 have hm := J9 g
 obtain rfl := o1 hm
 exact rO ⟨rfl, rfl⟩ zw
 refine Ck<|Xm<|Xn<|Cg<|tS (sa rfl rfl (by omega))<|mV rfl<|Tn ?_
 exact jM hm ⟨rfl, rfl, (e)⟩
 rw [if_neg B] at hm
 rcases Decidable.em ((D : Int) = (2 : Int)) with C | C
 rw [if_pos C] at hm
 refine tS (z2T (cs := [.func (.func 50) #[] #[], .func (.func 51) #[] #[], .func (.func 52) #[] #[]]) 2 rfl rfl C (by decide) rfl z9U j3e)<|aS rfl<|Te<|Cr<|mV rfl<|tS (sD (vs := [_, _, _, _, _]) 0 5 rfl q0o rfl rfl rfl) ?_
 obtain ⟨a8, am, hm⟩ := bS hm
 have zv := a.trans (c.trans (d.trans e))
 refine tD (q0L #[] #[] [.agg #[sv J f.Stations E, sv O f.Sections S, sv U f.Links V, sv o f.Signals p, sv q f.Gates r]] rfl j5B rfl (fun w ho => z1v _ [] f J E O S U V o p q r ((h4.le zv).old ho) ((h7.le zv).old ho) ((av.le zv).old ho) ((aw.le zv).old ho) ((ax.le zv).old ho) a8 am) (fun _ _ _ h => h.2.symm)) ?_
 rintro _ _ ⟨⟨_, rfl, _⟩, rfl⟩
 refine aS rfl<|Te<|Cr<|mV rfl<|tS (q2 rfl rfl)<|Te<|cI hm rfl (fun hm => ?_) fun hm => ?_
 refine Cr<|mV rfl<|aS rfl<|Te<|Ct<|Xb<|Xr<|Xr<|Xb<|Xr ?_
 have aQ := k _ (Kd hm).symm
 rw [aQ] at g
 have hm := J9 g
 obtain rfl := o1 hm
 exact rO ⟨rfl, rfl⟩ zv
 refine Ck<|Xm<|Xn<|Cg<|tS (sa rfl rfl (by omega))<|mV rfl<|Tn ?_
 exact jM hm ⟨rfl, rfl, (e)⟩
 rw [if_neg C] at hm
 cases hm
 rintro _ ac _ _ ⟨rfl, rfl, e⟩ aR
 rw [aR] at g
 have hm := H4 g
 refine Cr<|tS (lF rfl rfl (by omega))<|Te<|Cs<|k7 rfl<|Ce<|Xe<|Xe<|Xo<|Xn<|Cr<|aS rfl<|Te<|Ct ?_
 obtain rfl := o1 hm
 exact rO ⟨rfl, rfl⟩ (a.trans (c.trans (d.trans e)))
theorem z9L (b : k8) (R : Hp) (x1 i j k l m K) (hm : q8g x1 = some (i, j, k, l, m, K)):
 w8 Tryz.prog 14 [.string (x1)] b (R) (fun v b' hp' => ∃ x L y O z S A T B U, .tuple #[.agg #[sv x i L, sv y j O, sv z k S, sv A l T, sv B m U], iv K] = v ∧ R = hp' ∧ FZ RT.str b'.w x L i ∧ (x = none ↔ i = []) ∧ FZ j3 b'.w y O j ∧ (y = none ↔ j = []) ∧ FZ w6 b'.w z S k ∧ (z = none ↔ k = []) ∧ FZ j6 b'.w A T l ∧ (A = none ↔ l = []) ∧ FZ w7 b'.w B U m ∧ (B = none ↔ m = [])) := by
 refine fE 45 Tryz.func14 rfl Tryz.ntmps14 rfl ?_
 unfold q8g at hm
 refine Cr<|tD (uA [sn, sn, sn, sn, sn] z5Y rfl) ?_
 rintro _ _ ⟨V, rfl, rfl⟩
 refine aS rfl<|Te<|Cs<|Cr<|mV rfl<|tS (q1Y rfl z0f)<|tS (q5 rfl rfl)<|Te<|cI hm rfl (fun hm => ?_) fun hm => ?_
 refine Cr<|tS (sB (v := .agg #[sn, sn, sn, sn, sn]) [] rfl (fun _ => by kernel_rfl))<|tD (uN (vs := [_, _, _, _, _]) 0 5 rfl rfl rfl z7d rfl (mc rfl (mc rfl (mc rfl (mc rfl (mc rfl mn))))) rfl (by simp)) ?_
 rintro _ _ rfl
 refine aS rfl<|Te<|Ct<|Xr ?_
 obtain ⟨rfl, rfl, rfl, rfl, rfl, rfl⟩ := j0H hm
 exact rM (rs := [.cell 2 28, .tmp 3]) (vs := [.agg #[sn, sn, sn, sn, sn], iv 4]) ⟨⟨_, rfl, fun w ho => q5e (vs := [_, _, _, _, _]) 0 5 q0o rfl rfl rfl w ho⟩, ⟨rfl, trivial⟩⟩ ⟨none, 0, none, 0, none, 0, none, 0, none, 0, rfl, rfl, FZ.nil, ⟨fun _ => rfl, fun _ => rfl⟩, FZ.nil, ⟨fun _ => rfl, fun _ => rfl⟩, FZ.nil, ⟨fun _ => rfl, fun _ => rfl⟩, FZ.nil, ⟨fun _ => rfl, fun _ => rfl⟩, FZ.nil, ⟨fun _ => rfl, fun _ => rfl⟩⟩ (.cons _ (.refl _)) lr
 refine Ck<|Xn<|Cr<|mV rfl ?_
 obtain ⟨⟨aa, n⟩, C, hm⟩ := bS hm
 have hm := J4 hm
 refine Tg _ rfl j5I rfl (z7R _ _ x1 aa n C) ?_
 rintro _ ab _ e ⟨ac, ad, c, rfl, rfl, r⟩
 refine q5k [] [_] c R rfl<|mV rfl<|tS (j5 rfl rfl)<|tS (j5 rfl rfl)<|aS rfl<|aS rfl<|Te<|Cs<|Cr<|mV rfl<|tS (sn2 rfl)<|Te<|cM hm rfl (fun hm => ?_) fun hm => ?_
 refine Cr<|tS (sB (v := .agg #[sn, sn, sn, sn, sn]) [] rfl (fun _ => by kernel_rfl))<|tD (uN (vs := [_, _, _, _, _]) 0 5 rfl rfl rfl z7d rfl (mc rfl (mc rfl (mc rfl (mc rfl (mc rfl mn))))) rfl (by simp)) ?_
 rintro _ _ rfl
 refine aS rfl<|Te<|Ct<|Xr ?_
 obtain ⟨rfl, rfl, rfl, rfl, rfl, rfl⟩ := j0H hm
 exact rM (rs := [.cell 2 28, .tmp 3]) (vs := [.agg #[sn, sn, sn, sn, sn], iv 10]) ⟨⟨_, rfl, fun w ho => q5e (vs := [_, _, _, _, _]) 0 5 q0o rfl rfl rfl w ho⟩, ⟨rfl, trivial⟩⟩ ⟨none, 0, none, 0, none, 0, none, 0, none, 0, rfl, rfl, FZ.nil, ⟨fun _ => rfl, fun _ => rfl⟩, FZ.nil, ⟨fun _ => rfl, fun _ => rfl⟩, FZ.nil, ⟨fun _ => rfl, fun _ => rfl⟩, FZ.nil, ⟨fun _ => rfl, fun _ => rfl⟩, FZ.nil, ⟨fun _ => rfl, fun _ => rfl⟩⟩ (.cons _ (ss c (.refl _))) e
 refine Ck<|Xn<|Cr<|tD (uA [sn, sn, sn, sn, sn] z5Y rfl) ?_
 rintro _ _ ⟨s, rfl, rfl⟩
 refine Te<|Cr<|aS rfl<|Te<|Cs<|Cr<|mV rfl<|tS (sE rfl j6F)<|mV rfl<|Te<|Cb ?_
 have ae : n.length ≤ 9223372036854775807 := (OS.len r)
 refine Cp 1 rfl ?_
 obtain ⟨ak, D, f⟩ := bS hm
 refine lF (fun t => fun _ => fun g e' hp' => [(2, pb V), (6, pb s), (7, iv 0), (24, sv ac n ad), (25, iv ((n.length : Int))), (26, iv ((t : Int)))] = e' ∧ (V, Cl 28 [sn, sn, sn, sn, sn]) :: (s, Cl 28 [sn, sn, sn, sn, sn]) :: (c ++ R) = hp' ∧ ab.Le g) D ⟨rfl, rfl, lr⟩ ?_ ?_
 rintro t _ g _ _ af W ⟨rfl, rfl, a⟩ d J
 unfold q7o at d
 have hm := d
 refine Cr<|tS (lT rfl rfl (by omega))<|Te<|Cs<|k9 rfl<|Ck<|Xn<|Cs<|Cb<|Cr ?_
 obtain ⟨al, X, hm⟩ := bS hm
 obtain ⟨Y, E, F⟩ := iS X
 obtain ⟨ag, ah, am, an, ai, G, o, H, p, aj, Z⟩ := OS.get (sz := 1) rfl (by decide) (r.le a) F
 obtain ⟨⟨ao, aq, rfl, ar⟩, rfl⟩ := G
 refine tS (sI Y rfl rfl E p H j6F)<|tS (w9 rfl z7s (fun w ho => o w _ ho (.cons _ (.cons _ (Kb _ _))) 0 _ rfl))<|aS rfl<|Te<|Cr<|mV rfl ?_
 cases hm
 rintro _ g _ _ ⟨rfl, rfl, a⟩ I
 rw [I] at f
 have hm := H4 f
 refine Cr<|tS (lF rfl rfl (by omega))<|Te<|Cs<|k7 rfl<|Ce<|Xe<|Xe<|Xo<|Xn<|Cs<|Cr<|tS (sD (vs := [_, _, _, _, _]) 1 5 rfl q0o rfl rfl rfl) ?_
 obtain ⟨u, q, hm⟩ := bS hm
 refine tD (uW _ z6K rfl (fun w ho => q7i _ [] (⟨[], [], [], [], []⟩ : v6) none 0 none 0 none 0 none 0 none 0 FZ.nil FZ.nil FZ.nil FZ.nil FZ.nil u q) (fun _ _ _ h => h.2.symm)) ?_
 rintro _ _ ⟨⟨_, rfl, _⟩, rfl⟩
 refine aS rfl<|Te<|Cr<|mV rfl<|tS (q2 rfl rfl)<|Te<|cI hm rfl (fun hm => ?_) fun hm => ?_
 refine Cr<|tS (sB (v := .agg #[sn, sn, sn, sn, sn]) [] rfl (fun _ => by kernel_rfl))<|mV rfl<|tD (uN (vs := [_, _, _, _, _]) 0 5 rfl rfl rfl z7d rfl (mc rfl (mc rfl (mc rfl (mc rfl (mc rfl mn))))) rfl (by simp)) ?_
 rintro _ _ rfl
 refine aS rfl<|Te<|Ct<|Xr ?_
 obtain ⟨rfl, rfl, rfl, rfl, rfl, rfl⟩ := j0H hm
 exact rM (rs := [.cell 2 28, .tmp 3]) (vs := [.agg #[sn, sn, sn, sn, sn], iv u]) ⟨⟨_, rfl, fun w ho => q5e (vs := [_, _, _, _, _]) 0 5 q0o rfl rfl rfl w ho⟩, ⟨rfl, trivial⟩⟩ ⟨none, 0, none, 0, none, 0, none, 0, none, 0, rfl, rfl, FZ.nil, ⟨fun _ => rfl, fun _ => rfl⟩, FZ.nil, ⟨fun _ => rfl, fun _ => rfl⟩, FZ.nil, ⟨fun _ => rfl, fun _ => rfl⟩, FZ.nil, ⟨fun _ => rfl, fun _ => rfl⟩, FZ.nil, ⟨fun _ => rfl, fun _ => rfl⟩⟩ (.cons _ (.cons _ (ss c (.refl _)))) (e.trans a)
 refine Ck<|Xn<|Cr<|tS (sD (vs := [_, _, _, _, _]) 1 5 rfl q0o rfl rfl rfl)<|tD (uN (vs := [_, _, _, _, _]) 0 5 rfl rfl rfl z7d rfl (mc rfl (mc rfl (mc rfl (mc rfl (mc rfl mn))))) rfl (by simp)) ?_
 rintro _ _ rfl
 refine aS rfl<|Te<|Ct ?_
 obtain ⟨rfl, rfl, rfl, rfl, rfl, rfl⟩ := j0H hm
 exact rM (rs := [.cell 2 28, .tmp 3]) (vs := [.agg #[sn, sn, sn, sn, sn], iv 0]) ⟨⟨_, rfl, fun w ho => q5e (vs := [_, _, _, _, _]) 0 5 q0o rfl rfl rfl w ho⟩, ⟨rfl, trivial⟩⟩ ⟨none, 0, none, 0, none, 0, none, 0, none, 0, rfl, rfl, FZ.nil, ⟨fun _ => rfl, fun _ => rfl⟩, FZ.nil, ⟨fun _ => rfl, fun _ => rfl⟩, FZ.nil, ⟨fun _ => rfl, fun _ => rfl⟩, FZ.nil, ⟨fun _ => rfl, fun _ => rfl⟩, FZ.nil, ⟨fun _ => rfl, fun _ => rfl⟩⟩ (.cons _ (.cons _ (ss c (.refl _)))) (e.trans a)
theorem q4G (b : k8) (R : Hp) (d) (hm : K4 = some d):
 w8 Tryz.prog 5 [] b (R) (fun v b' hp' => bv d = v ∧ R = hp') := by
 refine fE 9 Tryz.func5 rfl Tryz.ntmps5 rfl ?_
 unfold K4 at hm
 refine Cr<|aS rfl<|Te<|Cr ?_
 obtain ⟨⟨e, f, g, h, i, j⟩, a, hm⟩ := bS hm
 have hm := j6y hm
 refine Tg _ rfl j5Z rfl (z9L _ _ (ByteArray.mk #[120]) e f g h i j a) ?_
 rintro _ k _ c ⟨l, m, n, o, p, q, r, s, t, u, rfl, rfl, w, x, y, z, A, B, C, D, E, F⟩
 refine mV rfl<|tS (j5 rfl rfl)<|tS (j5 rfl rfl)<|tD (uA [sn, sn, sn, sn, sn] z5Y rfl) ?_
 rintro _ _ ⟨G, rfl, rfl⟩
 refine tD (uN (vs := [_, _, _, _, _]) 0 5 rfl rfl rfl z7d rfl (mc rfl (mc rfl (mc rfl (mc rfl (mc rfl mn))))) rfl (by simp)) ?_
 rintro _ _ rfl
 refine aS rfl<|Te<|Cr<|mV rfl<|tS (q2 rfl rfl)<|aS rfl<|Te<|Ct ?_
 obtain rfl := o1 hm
 exact rO ⟨rfl, rfl⟩ c
theorem z4V (b : k8) (R : Hp) (u c m) (hm : q2h u c = some m):
 w8 Tryz.prog 121 [iv u, iv c] b (R) (fun v b' hp' => ∃ n o, sv n m o = v ∧ R = hp' ∧ FZ rI b'.w n o m) := by
 refine fE 20 Tryz.func121 rfl Tryz.ntmps121 rfl ?_
 unfold q2h at hm
 refine Cr<|aS rfl<|Te<|Cs<|Cb ?_
 obtain ⟨w, p, q⟩ := bS hm
 refine Cj (fun d e' hp' => [(0, iv u), (1, iv c), (5, bv w)] = e' ∧ R = hp' ∧ b.Le d) ?_ ?_
 have hm := p
 refine Cg<|mV rfl<|Tb rfl (q1 rfl rfl) (fun e => ?_) (fun e => ?_)
 rw [if_pos e] at hm
 refine mV rfl<|yS<|mV rfl<|yS<|tS (q1 rfl rfl)<|tS (pT rfl rfl)<|aS rfl<|Tn ?_
 obtain rfl := o1 hm
 exact jJ ⟨rfl, rfl, lr⟩
 rw [if_neg e] at hm
 refine mV rfl<|nO<|nO<|tS (pF rfl rfl)<|aS rfl<|Tn ?_
 obtain rfl := o1 hm
 exact jJ ⟨rfl, rfl, lr⟩
 rintro d _ _ ⟨rfl, rfl, a⟩
 have hm := q
 refine cB hm rfl (fun hm => ?_) fun hm => ?_
 refine Cr<|tD (V7 (el := 3) [(0, iv 1), (1, iv 2)] [iv 1, iv 2] rfl (fun _ => by kernel_rfl)) ?_
 rintro _ _ ⟨f, rfl, rfl⟩
 refine aS rfl<|Te<|Ct<|Xb<|Xr<|j2A 0 [] R rfl rfl ?_
 have x : OS 3 (OT.fr rI) d.w (.slice (some ⟨f, 0, none⟩) 2 2) [1, 2] [(f, Cl 3 [iv 1, iv 2])] := OS.lit [[iv 1], [iv 2]] rfl ⟨rfl, ⟨rfl, trivial⟩⟩ rfl (by decide)
 have y : (((some ⟨f, 0, none⟩) : OA) = none ↔ [1, 2] = []) := ⟨nofun, nofun⟩
 refine z1F [] [(f, Cl 3 [iv 1, iv 2])] R rfl ?_
 intro G g r
 have z := OS.frz (l := [1, 2]) x g.cells r
 obtain rfl := o1 hm
 exact rO ⟨(some ⟨f, 0, none⟩), 2, rfl, rfl, z⟩ (a.trans g)
 refine Cr<|mV rfl<|tS (q1 rfl rfl)<|aS rfl<|Te<|cI hm rfl (fun hm => ?_) fun hm => ?_
 refine Cr<|tD (V7 (el := 3) [(0, iv 0)] [iv 0] rfl (fun _ => by kernel_rfl)) ?_
 rintro _ _ ⟨h, rfl, rfl⟩
 refine aS rfl<|Te<|Ct<|Xb<|Xr<|j2A 0 [] R rfl rfl ?_
 have A : OS 3 (OT.fr rI) d.w (.slice (some ⟨h, 0, none⟩) 1 1) [0] [(h, Cl 3 [iv 0])] := OS.lit [[iv 0]] rfl ⟨rfl, trivial⟩ rfl (by decide)
 have B : (((some ⟨h, 0, none⟩) : OA) = none ↔ [0] = []) := ⟨nofun, nofun⟩
 refine z1F [] [(h, Cl 3 [iv 0])] R rfl ?_
 intro H i s
 have C := OS.frz (l := [0]) A i.cells s
 obtain rfl := o1 hm
 exact rO ⟨(some ⟨h, 0, none⟩), 1, rfl, rfl, C⟩ (a.trans i)
 refine Ck<|Xm<|Xn<|Cr<|mV rfl<|tS (j4w rfl rfl)<|tD (V7 (el := 3) [(0, iv (z5Z .i64 c 1))] [iv (z5Z .i64 c 1)] rfl (fun _ => by kernel_rfl)) ?_
 rintro _ _ ⟨j, rfl, rfl⟩
 refine aS rfl<|Te<|Ct<|j2A 0 [] R rfl rfl ?_
 have D : OS 3 (OT.fr rI) d.w (.slice (some ⟨j, 0, none⟩) 1 1) [z5Z .i64 c 1] [(j, Cl 3 [iv (z5Z .i64 c 1)])] := OS.lit [[iv (z5Z .i64 c 1)]] rfl ⟨rfl, trivial⟩ rfl (by decide)
 have E : (((some ⟨j, 0, none⟩) : OA) = none ↔ [z5Z .i64 c 1] = []) := ⟨nofun, nofun⟩
 refine z1F [] [(j, Cl 3 [iv (z5Z .i64 c 1)])] R rfl ?_
 intro I k t
 have F := OS.frz (l := [z5Z .i64 c 1]) D k.cells t
 obtain rfl := o1 hm
 exact rO ⟨(some ⟨j, 0, none⟩), 1, rfl, rfl, F⟩ (a.trans k)
theorem z4U (b : k8) (R : Hp) (a : v6) (c : Q0) (m n o p q r d e f g) (s : FZ RT.str b.w m n a.Stations) (t : FZ j3 b.w o p a.Sections) (j : FZ w6 b.w q r a.Links) (k : FZ j6 b.w d e a.Signals) (l : FZ w7 b.w f g a.Gates) (h) (hm : q0R a c = some h):
 w8 Tryz.prog 100 [.agg #[sv m a.Stations n, sv o a.Sections p, sv q a.Links r, sv d a.Signals e, sv f a.Gates g], .agg #[iv c.section_, iv c.end_]] b (R) (fun v b' hp' => ∃ i, i = v ∧ R = hp' ∧ j4c Tryz.prog b' i (h.map (fun x : Q2 => (.agg #[iv x.Section, iv x.In, iv x.Out] : Value)))) := by
 unfold q0R at hm
 exact j2D (fun b R => q3n b R) (fun b R => z4V b R) s t j k l hm
theorem z3L (b : k8) (R : Hp) (a : Q2) (c d e) (hm : q4i a c = some e):
 w8 Tryz.prog 124 [.agg #[iv a.Section, iv a.In, iv a.Out], pb d] b ((d, Cl 3 [iv c]) :: R) (fun v b' hp' => bv e = v ∧ (d, Cl 3 [iv c]) :: R = hp') := by
 refine fE 8 Tryz.func124 rfl Tryz.ntmps124 rfl ?_
 unfold q4i at hm
 refine Cr<|tD (uB _ rfl rfl) ?_
 rintro _ _ ⟨f, rfl, rfl⟩
 refine aS rfl<|Te<|Cr<|tS (sF rfl V8)<|tS (sL 0 rfl Q5 rfl rfl)<|tS (sL 1 rfl Q5 rfl rfl)<|tS (q1 rfl rfl)<|aS rfl<|Te<|Ct ?_
 obtain rfl := o1 hm
 exact rO ⟨rfl, rfl⟩ lr
theorem q9S (b : k8) (R : Hp) (o p i A B) (E : FZ J2 b.w A B o) (q) (hm : q2j o p = some q):
 w8 Tryz.prog 140 [sv A o B, .func (.func 124) #[] #[pb i]] b ((i, Cl 3 [iv p]) :: R) (fun v b' hp' => iv q = v ∧ (i, Cl 3 [iv p]) :: R = hp') := by
 refine fE 19 Tryz.func140 rfl Tryz.ntmps140 rfl ?_
 unfold q2j at hm
 refine Cr<|aS rfl<|Te<|Cs<|Cr<|mV rfl<|tS (sE rfl q7O)<|mV rfl<|Te<|Cb ?_
 have F : o.length ≤ 9223372036854775807 := (FZ.bd E)
 obtain ⟨J, r, e⟩ := bS hm
 refine lF (fun s => fun _ => fun k e' hp' => [(0, sv A o B), (1, .func (.func 124) #[] #[pb i]), (7, iv ((o.length : Int))), (8, iv ((s : Int)))] = e' ∧ (i, Cl 3 [iv p]) :: R = hp' ∧ b.Le k) r ⟨rfl, rfl, lr⟩ ?_ ?_
 rintro s _ k _ _ G z ⟨rfl, rfl, a⟩ c f
 unfold q0p at c
 have hm := c
 refine Cr<|tS (lT rfl rfl (by omega))<|Te<|Cs<|k9 rfl<|Ck<|Xn<|Cs<|Cb<|Cr<|mV rfl<|aS rfl<|Te<|Cr<|mV rfl<|mV rfl<|mV rfl ?_
 obtain ⟨d, C, H, t, I, w, l, h, m, hm⟩ := bF (sz := 3) hm (E.le a)
 obtain ⟨_, _, rfl, rfl, ⟨_, _, rfl, rfl, rfl⟩⟩ := w
 refine tS (sI C rfl rfl t m h q7O)<|tS (sP (vs := [iv d.Section, iv d.In, iv d.Out]) 3 rfl q4H h rfl (fun j u hu => l j u hu)) ?_
 obtain ⟨D, n, hm⟩ := bS hm
 refine Tv #[] #[pb i] [.agg #[iv d.Section, iv d.In, iv d.Out]] rfl rfl j3O rfl (z3L _ _ d p i D n) ?_
 rintro _ K _ g ⟨rfl, rfl⟩
 refine Te<|cB hm rfl (fun hm => ?_) fun hm => ?_
 refine Cr<|mV rfl<|aS rfl<|Te<|Ct<|Xb<|Xr<|Xr<|Xb<|Xr ?_
 have x := f _ (Kd hm).symm
 rw [x] at e
 have hm := J9 e
 obtain rfl := o1 hm
 exact rO ⟨rfl, rfl⟩ (a.trans g)
 refine Ck<|Xm<|Xn<|Cg<|tS (sa rfl rfl (by omega))<|mV rfl<|Tn ?_
 exact jM hm ⟨rfl, rfl, ((a.trans g))⟩
 rintro _ k _ _ ⟨rfl, rfl, a⟩ y
 rw [y] at e
 have hm := H4 e
 refine Cr<|tS (lF rfl rfl (by omega))<|Te<|Cs<|k7 rfl<|Ce<|Xe<|Xe<|Xo<|Xn<|Cr<|aS rfl<|Te<|Ct ?_
 obtain rfl := o1 hm
 exact rO ⟨rfl, rfl⟩ a
theorem q7J (b : k8) (R : Hp) (e f g h i) (k : FZ J2 b.w h i e) (d) (hm : q0F e f = some d):
 w8 Tryz.prog 123 [sv h e i, .func (.func 124) #[] #[pb g]] b ((g, Cl 3 [iv f]) :: R) (fun v b' hp' => bv d = v ∧ (g, Cl 3 [iv f]) :: R = hp') := by
 refine fE 9 Tryz.func123 rfl Tryz.ntmps123 rfl ?_
 unfold q0F at hm
 refine Cr<|aS rfl<|Te<|Cr<|mV rfl<|mV rfl ?_
 obtain ⟨j, a, hm⟩ := bS hm
 refine Tg _ rfl z5O rfl (q9S _ _ e f g h i k j a) ?_
 rintro _ l _ c ⟨rfl, rfl⟩
 refine tS (q6 rfl rfl)<|aS rfl<|Te<|Ct ?_
 obtain rfl := o1 hm
 exact rO ⟨rfl, rfl⟩ c
theorem q0K (b : k8) (R : Hp) (e f g h) (k : FZ J2 b.w g h e) (d) (hm : W8 e f = some d):
 w8 Tryz.prog 101 [sv g e h, iv f] b (R) (fun v b' hp' => bv d = v ∧ R = hp') := by
 refine fE 8 Tryz.func101 rfl Tryz.ntmps101 rfl ?_
 unfold W8 at hm
 refine Cr<|tD (uB _ rfl rfl) ?_
 rintro _ _ ⟨i, rfl, rfl⟩
 refine aS rfl<|Te<|Cr<|mV rfl<|tS (q5l _ _ rfl rfl) ?_
 obtain ⟨j, a, hm⟩ := bS hm
 refine Tg _ rfl z5P rfl (q7J _ _ e f i g h k j a) ?_
 rintro _ l _ c ⟨rfl, rfl⟩
 refine aS rfl<|Te<|Ct ?_
 obtain rfl := o1 hm
 exact rO ⟨rfl, rfl⟩ c
theorem q6j (b : k8) (R : Hp) (d e f g h t i c y z A j k l m n o p q x B r) (H : FZ RT.str b.w z A d) (D : FZ j3 b.w j k e) (E : FZ w6 b.w l m f) (F : FZ j6 b.w n o g) (G : FZ w7 b.w p q h) (I : OS 80 (OT.fr Q3) b.w (sv x c B) c r) (C : (x = none ↔ c = [])) (u w) (hm : P5 d e f g h t i c = some (u, w)):
 w8 Tryz.prog 102 [pb y] b ((y, Cl 117 [sv z d A, sv j e k, sv l f m, sv n g o, sv p h q, sv x c B, iv t, bv i]) :: (r ++ R)) (fun v b' hp' => .tuple #[] = v ∧ (y, Cl 117 [sv z d A, sv j e k, sv l f m, sv n g o, sv p h q, sv x c B, iv u, bv w]) :: (r ++ R) = hp') := by
 refine fE 23 Tryz.func102 rfl Tryz.ntmps102 rfl ?_
 unfold P5 at hm
 refine Cr<|mV rfl<|tS (sN rfl)<|tS (sF rfl z3s)<|tS (sL 0 rfl Q5 rfl rfl) ?_
 obtain ⟨_, s, hm⟩ := bS hm
 have s := (kS s).2
 refine tS (sa rfl rfl s)<|tS (sN rfl)<|tS (sF rfl z3s)<|tD (uS 0 rfl rfl z1I rfl rfl (by simp)) ?_
 rintro _ _ rfl
 refine Te<|Cg<|mV rfl<|mV rfl<|tS (sN rfl)<|tS (sF rfl q7f)<|tS (sL 0 rfl q4J rfl rfl) ?_
 rcases Kg i with a | a
 rw [if_pos a] at hm
 refine Tr 13 rfl (v' := .bool true) (by rw [a] <;> rfl)<|mV rfl<|nO<|nO<|nO<|nO<|nO<|tS (pT rfl rfl)<|tS (sN rfl)<|tS (sF rfl q7f)<|tD (uS 0 rfl rfl z2o rfl rfl (by simp)) ?_
 rintro _ _ rfl
 refine Tn ?_
 obtain ⟨rfl, rfl⟩ := Z6 hm
 exact eZ ⟨rfl, rfl⟩ lr
 rw [if_neg (fun hh => Bool.noConfusion (hh.symm.trans a))] at hm
 refine Tr 13 rfl (v' := .bool false) (by rw [a] <;> rfl)<|mV rfl<|yS<|mV rfl<|yS<|tS (sN rfl)<|yS<|tS (sF rfl z3s)<|yS<|tS (sL 0 rfl Q5 rfl rfl)<|yS<|tS (q5 rfl rfl)<|tS (pF rfl rfl)<|tS (sN rfl)<|tS (sF rfl q7f)<|tD (uS 0 rfl rfl z2o rfl rfl (by simp)) ?_
 rintro _ _ rfl
 refine Tn ?_
 obtain ⟨rfl, rfl⟩ := Z6 hm
 exact eZ ⟨rfl, rfl⟩ lr
theorem z3C (A : Option Addr) (n c : Nat) (xs : List Value) (w : World) (hR : Rd w A xs) (hl : xs.length = n * 3) (hn : n * 24 ≤ 140737488355328 ∧ n ≤ 9223372036854775807) :
    q5i Tryz.prog 103 [.slice A n c] w [] (fun v hp' => q9x 125 3 v n xs hp') := by
  refine q4Z 8 Tryz.func103 rfl Tryz.ntmps103 rfl ?_
  refine q5Y ?_
  refine q9L rfl rfl ?_
  refine q4t ?_
  refine q2V ?_
  refine q5Y ?_
  refine z4a rfl rfl ?_
  refine q4S rfl (q4U rfl rfl q7O) (fun hc1 => ?_) (fun hc1 => ?_)
  ·
    refine q4t ?_
    refine k9 rfl ?_
    refine q5Y ?_
    refine q9L rfl rfl ?_
    refine q4t ?_
    refine q3M ?_
    refine V5 ?_
    subst hc1
    obtain rfl := hR.none_nil
    obtain rfl : n = 0 := by simp at hl; omega
    refine q3Y (hp' := []) (by repeat (first | exact List.Sublist.refl _ | exact List.nil_sublist _ | exact Kb _ _ | exact Kc _ _ | exact (Kc _ _).trans (Kc _ _) | apply List.Sublist.cons_cons | apply List.Sublist.cons)) ?_
    exact z5d (k8.Le.refl _) rfl rfl (q9x.nil)
  ·
    refine q4t ?_
    refine k7 rfl ?_
    refine q3d ?_
    refine Q4 ?_
    refine q5Y ?_
    refine z1C rfl (V7 (el := 125) [] [] rfl (fun _ => by kernel_rfl)) ?_
    rintro _ _ ⟨g0, rfl, rfl⟩
    refine z4a rfl rfl ?_
    refine z1C rfl (q9z xs q7O z6r rfl (by decide) rfl rfl hl (fun w ho => hR.old ho) hn.2 hn.1) ?_
    rintro _ _ ⟨hs, rfl, hseg⟩
    refine q9L rfl rfl ?_
    refine q4t ?_
    refine q3M ?_
    refine q3Y (hp' := hs) (by repeat (first | exact List.Sublist.refl _ | exact List.nil_sublist _ | exact Kb _ _ | exact Kc _ _ | exact (Kc _ _).trans (Kc _ _) | apply List.Sublist.cons_cons | apply List.Sublist.cons)) ?_
    exact z5d (k8.Le.refl _) rfl rfl hseg
theorem q9E (b : k8) (R : Hp) (d e f) (i : FZ J2 b.w e f d) (a) (hm : q3C d = some a):
 w8 Tryz.prog 103 [sv e d f] b (R) (fun v b' hp' => ∃ g h c, sv g a h = v ∧ (c ++ R) = hp' ∧ OS 125 (OT.fr J2) b'.w (sv g a h) a c) := by
 unfold q3C at hm
 obtain ⟨_, hroom, hm⟩ := bS hm
 have hroom := V6 hroom
 obtain rfl := o1 hm
 exact q5d (r := J2) (sz := 3) (by_ := 24) rfl (by decide) z3C i hroom
theorem z1T (b : k8) (R : Hp) (s) (h : j7) (C D) (F : FZ j6 b.w C D s) (t) (hm : q3p s h = some t):
 w8 Tryz.prog 125 [sv C s D, .agg #[iv h.Section, iv h.End]] b (R) (fun v b' hp' => iv t = v ∧ R = hp') := by
 refine fE 19 Tryz.func125 rfl Tryz.ntmps125 rfl ?_
 unfold q3p at hm
 refine Cr<|tD (uB _ rfl rfl) ?_
 rintro _ _ ⟨w, rfl, rfl⟩
 refine aS rfl<|Te<|Cs<|Cr<|mV rfl<|tS (sE rfl z4e)<|mV rfl<|Te<|Cb ?_
 have G : s.length ≤ 9223372036854775807 := (FZ.bd F)
 obtain ⟨I, x, e⟩ := bS hm
 refine lF (fun y => fun _ => fun l e' hp' => [(0, sv C s D), (3, pb w), (7, iv ((s.length : Int))), (8, iv ((y : Int)))] = e' ∧ (w, Cl 109 [iv h.Section, iv h.End]) :: R = hp' ∧ b.Le l) x ⟨rfl, rfl, lr⟩ ?_ ?_
 rintro y _ l _ _ H B ⟨rfl, rfl, a⟩ c f
 unfold q1e at c
 have hm := c
 refine Cr<|tS (lT rfl rfl (by omega))<|Te<|Cs<|k9 rfl<|Ck<|Xn<|Cs<|Cb<|Cr<|mV rfl<|aS rfl<|Te<|Cs ?_
 obtain ⟨d, z, hm⟩ := bS hm
 refine Di mixed (.refl _)<|Es 0 rfl (sD (vs := [_, _]) 0 2 rfl z5b rfl rfl rfl)<|E0 1 rfl (sM rfl)<|E0 2 rfl (sM rfl) ?_
 obtain ⟨A, m, n⟩ := iS z
 obtain ⟨E, o, i, g, k⟩ := FZ.get (sz := 2) rfl (by decide) (F.le a) n
 obtain ⟨_, _, rfl, rfl, rfl⟩ := o
 refine E0 3 rfl (sI A rfl rfl m k g z4e)<|Es 4 rfl (sP (vs := [iv d.Section, iv d.End]) 2 rfl z5b g rfl (fun j u hu => i j u hu))<|E0 5 rfl (j2S (xs := [iv h.Section, iv h.End]) (ys := [iv d.Section, iv d.End]) (p := h.Section = d.Section ∧ h.End = d.End) rfl rfl j5c ⟨⟨_, rfl⟩, ⟨⟨_, rfl⟩, trivial⟩⟩ ⟨⟨_, rfl⟩, ⟨⟨_, rfl⟩, trivial⟩⟩ (by simp [W0, q4b, Bool.decide_and, z3O]))<|Eo<|Dd (by kernel_rfl)<|Xn<|cI hm rfl (fun hm => ?_) fun hm => ?_
 refine Cr<|mV rfl<|aS rfl<|Te<|Ct<|Xb<|Xr<|Xr<|Xb<|Xr ?_
 have q := f _ (Kd hm).symm
 rw [q] at e
 have hm := J9 e
 obtain rfl := o1 hm
 exact rO ⟨rfl, rfl⟩ a
 refine Ck<|Xm<|Xn<|Cg<|tS (sa rfl rfl (by omega))<|mV rfl<|Tn ?_
 exact jM hm ⟨rfl, rfl, (a)⟩
 rintro _ l _ _ ⟨rfl, rfl, a⟩ r
 rw [r] at e
 have hm := H4 e
 refine Cr<|tS (lF rfl rfl (by omega))<|Te<|Cs<|k7 rfl<|Ce<|Xe<|Xe<|Xo<|Xn<|Cr<|aS rfl<|Te<|Ct ?_
 obtain rfl := o1 hm
 exact rO ⟨rfl, rfl⟩ a
theorem z1q (b : k8) (R : Hp) (c : v6) (a : Q0) (m n o p q r d e g i) (y : FZ RT.str b.w m n c.Stations) (z : FZ j3 b.w o p c.Sections) (s : FZ w6 b.w q r c.Links) (k : FZ j6 b.w d e c.Signals) (t : FZ w7 b.w g i c.Gates) (j) (hm : F3 c a = some j):
 w8 Tryz.prog 104 [.agg #[sv m c.Stations n, sv o c.Sections p, sv q c.Links r, sv d c.Signals e, sv g c.Gates i], .agg #[iv a.section_, iv a.end_]] b (R) (fun v b' hp' => iv j = v ∧ R = hp') := by
 refine fE 13 Tryz.func104 rfl Tryz.ntmps104 rfl ?_
 unfold F3 at hm
 refine Cr<|tD (uB _ rfl rfl) ?_
 rintro _ _ ⟨u, rfl, rfl⟩
 refine tD (uB _ rfl rfl) ?_
 rintro _ _ ⟨x, rfl, rfl⟩
 refine aS rfl<|Te<|Cr<|tS (sF rfl q3k)<|tS (sL 1 rfl q8X rfl rfl)<|tS (sF rfl q1V)<|tS (sL 0 rfl Q5 rfl rfl)<|tS (sF rfl q5a)<|tS (sL 0 rfl Q5 rfl rfl)<|tS (sB (v := .agg #[iv a.section_, iv a.end_]) [(0, iv a.section_), (1, iv a.end_)] rfl (fun _ => by kernel_rfl)) ?_
 obtain ⟨l, f, hm⟩ := bS hm
 refine tD (uW _ j3N rfl (fun w ho => z1T _ [] c.Signals (⟨a.section_, a.end_⟩ : j7) d e (k.old ho) l f) (fun _ _ _ h => h.2.symm)) ?_
 rintro _ _ ⟨⟨_, rfl, _⟩, rfl⟩
 refine aS rfl<|Te<|Ct ?_
 obtain rfl := o1 hm
 exact rO ⟨rfl, rfl⟩ lr
theorem z1s : ∀ (N : Nat) (b : k8) (R : Hp) (x7 ai) (aQ : Q0) (L O S T U bd be aR g6 A8 c9 V W X Y Z aa ab ac ad ae A3 c4 bc) (bf : FZ J2 b.w A8 c9 ai) (aD : FZ RT.str b.w V W L) (aE : FZ j3 b.w X Y O) (aF : FZ w6 b.w Z aa S) (aC : FZ j6 b.w ab ac T) (aG : FZ w7 b.w ad ae U) (h5 : OS 80 (OT.fr Q3) b.w (sv A3 aR c4) aR bc) (aX : (A3 = none ↔ aR = [])) (aH aI aj) (hm : J3 N x7 ai aQ L O S T U bd be aR = some (aH, aI, aj)),
 w8 Tryz.prog 60 [pb g6, iv x7, sv A8 ai c9, .agg #[iv aQ.section_, iv aQ.end_]] b ((g6, Cl 117 [sv V L W, sv X O Y, sv Z S aa, sv ab T ac, sv ad U ae, sv A3 aR c4, iv bd, bv be]) :: (bc ++ R)) (fun v b' hp' => ∃ aY bg a8, .tuple #[] = v ∧ (g6, Cl 117 [sv V L W, sv X O Y, sv Z S aa, sv ab T ac, sv ad U ae, sv aY aj bg, iv aH, bv aI]) :: (a8 ++ R) = hp' ∧ OS 80 (OT.fr Q3) b'.w (sv aY aj bg) aj a8 ∧ (aY = none ↔ aj = [])) := by
  intro N
  induction N with
  | zero =>
    intro b R x7 ai aQ L O S T U bd be aR g6 A8 c9 V W X Y Z aa ab ac ad ae A3 c4 bc bf aD aE aF aC aG h5 aX aH aI aj hm
    unfold J3 at hm
    cases hm
  | succ N ih =>
   intro b R x7 ai aQ L O S T U bd be aR g6 A8 c9 V W X Y Z aa ab ac ad ae A3 c4 bc bf aD aE aF aC aG h5 aX aH aI aj hm
   refine fE 103 Tryz.func60 rfl Tryz.ntmps60 rfl ?_
   unfold J3 at hm
   refine Cr<|tD (uB _ rfl rfl) ?_
   rintro _ _ ⟨s, rfl, rfl⟩
   refine tD (uB _ rfl rfl) ?_
   rintro _ _ ⟨y, rfl, rfl⟩
   refine tD (uB _ rfl rfl) ?_
   rintro _ _ ⟨I, rfl, rfl⟩
   refine tD (uB _ rfl rfl) ?_
   rintro _ _ ⟨bh, rfl, rfl⟩
   refine Te ?_
   obtain ⟨ak, bE, bG⟩ := bS hm
   refine Cj (fun bi e' hp' => ∃ J, [(4, pb s), (5, pb y), (6, pb I), (7, pb bh), (8, pb J)] = e' ∧ (s, Cl 115 [pb g6]) :: (y, Cl 3 [iv x7]) :: (I, Cl 78 [sv A8 ai c9]) :: (bh, Cl 120 [iv aQ.section_, iv aQ.end_]) :: (J, Cl 3 [iv ak]) :: (g6, Cl 117 [sv V L W, sv X O Y, sv Z S aa, sv ab T ac, sv ad U ae, sv A3 aR c4, iv bd, bv be]) :: (bc ++ R) = hp' ∧ b.Le bi) ?_ ?_
   have hm := bE
   obtain ⟨cz, b6, hm⟩ := bS hm
   refine Di mixed (.refl _)<|Es 0 rfl (sL 3 rfl q6u rfl rfl)<|E0 1 rfl (sN rfl)<|E0 2 rfl (sF rfl z0o)<|E0 3 rfl (sF rfl q3k)<|Es 4 rfl (sL 4 rfl q8X rfl rfl)<|Es 5 rfl (sL 2 rfl Q5 rfl rfl) ?_
   obtain ⟨b7, bH, bI⟩ := iS b6
   obtain ⟨cx, bJ, bj, a9, bk⟩ := FZ.get (sz := 2) rfl (by decide) aC bI
   obtain ⟨_, _, rfl, rfl, rfl⟩ := bJ
   refine E0 6 rfl (sI b7 rfl rfl bH bk a9 z4e)<|E0 7 rfl (sQ rfl a9 q4l)<|Es 8 rfl (sO rfl Q5 (bj 0 _ rfl))<|Eo<|Da [9] (by kernel_rfl) rfl ?_
   refine Rd2 lr rfl rfl (uA [iv 0] j6u rfl) ?_ ?_
   rintro _ _ ⟨b8, rfl, rfl⟩
   refine iR<|Da [10] (by kernel_rfl) rfl ?_
   refine Rd2 lr rfl rfl (uS 0 rfl rfl z1I rfl rfl (by simp)) ?_ ?_
   rintro _ _ rfl
   refine ⟨.inl (by kernel_rfl), ?_⟩
   refine Dd (by kernel_rfl) ?_
   obtain rfl := o1 hm
   exact jJ ⟨b8, rfl, rfl, lr⟩
   exact Rn
   exact Rn
   rintro bi _ _ ⟨J, rfl, rfl, c⟩
   have hm := bG
   refine Cs ?_
   obtain ⟨b9, bl, hm⟩ := bS hm
   refine Di mixed (.refl _)<|Es 0 rfl (sL 0 rfl q6u rfl rfl)<|E0 1 rfl (sN rfl)<|E0 2 rfl (sF rfl z0o)<|Es 3 rfl (sD (vs := [_, _, _, _, _]) 5 5 rfl q0o rfl rfl rfl)<|Es 4 rfl (sD (vs := [_, _]) 3 2 rfl q3e rfl rfl rfl)<|Eo<|Da [5] (by kernel_rfl) rfl ?_
   refine Rg lr rfl rfl _ z9H rfl (z4U _ _ (⟨L, O, S, T, U⟩ : v6) aQ V W X Y Z aa ab ac ad ae (aD.le c) (aE.le c) (aF.le c) (aC.le c) (aG.le c) b9 bl) ?_ ?_
   rintro _ ca _ f ⟨cA, rfl, rfl, cb⟩
   refine iR<|Dd (by kernel_rfl)<|Xn<|Cb ?_
   obtain ⟨cC, bK, H⟩ := bS hm
   refine Cp 5 rfl<|Cp 5 rfl<|Cp 4 rfl<|Cp 4 rfl<|Cp 4 rfl ?_
   have bL := (h5.le (c.trans f))
   refine z6L (fun x : Q2 => (.agg #[iv x.Section, iv x.In, iv x.Out] : Value)) (q4L fun C D z => fun aJ hp' => ∃ p t k, (s, Cl 115 [pb g6]) :: (y, Cl 3 [iv x7]) :: (I, Cl 78 [sv A8 ai c9]) :: (J, Cl 3 [iv ak]) :: (g6, Cl 117 [sv V L W, sv X O Y, sv Z S aa, sv ab T ac, sv ad U ae, sv p z t, iv C, bv D]) :: (k ++ R) = hp' ∧ ca.Le aJ ∧ OS 80 (OT.fr Q3) aJ.w (sv p z t) z k ∧ (p = none ↔ z = [])) rfl cb bK (e' := [(4, pb s), (5, pb y), (6, pb I), (8, pb J)]) ⟨rfl, rfl, rfl, rfl, trivial⟩ (.cons_cons _ (.cons_cons _ (.cons_cons _ (.cons_cons _ (.cons_cons _ (.cons _ (.refl _))))))) rfl (fun dk hdk => ⟨A3, c4, bc, rfl, k8.Le.dks hdk, bL, aX⟩) ?_ ?_ (fun x hx => (c.trans f).dk x hx)
   rintro aw ax j ⟨C, D, z⟩ aJ cc _ cy ⟨p, t, k, rfl, e, ah, E⟩ d av al
   unfold J0 at av
   have hm := (q4s av)
   refine Cg<|tD (uA [iv 0, iv 0, iv 0] q5j rfl) ?_
   rintro _ _ ⟨aK, rfl, rfl⟩
   refine tD (uN (vs := [_, _, _]) 0 3 rfl rfl rfl q6s rfl (mc rfl (mc rfl (mc rfl mn))) rfl (by simp)) ?_
   rintro _ _ rfl
   refine Tn<|z8c 1 rfl<|Cb<|Cs<|Cr<|tS (sL 2 rfl q6u rfl rfl)<|tS (sN rfl)<|tS (sF rfl q7f)<|tS (sL 6 rfl q4J rfl rfl)<|Te ?_
   refine cB hm rfl (fun hm => ?_) fun hm => ?_
   refine Ct<|Xr<|Xb<|z2I 0 rfl lr<|Ct<|Xb ?_
   have bM := al _ (Kd hm).symm
   rw [bM] at H
   have hm := J9 H
   obtain ⟨rfl, rfl, rfl⟩ := q2o hm
   have bN := (ah.le d)
   exact rZ ⟨p, t, k, rfl, rfl, bN, E⟩ (c.trans (f.trans (e.trans d)))
   refine Ck<|Xn<|Cs ?_
   obtain ⟨cd, bO, bP⟩ := bS hm
   refine Cj (fun aZ e' hp' => [(4, pb s), (5, pb y), (6, pb I), (9, pb aK), (44, bv cd)] = e' ∧ (s, Cl 115 [pb g6]) :: (y, Cl 3 [iv x7]) :: (I, Cl 78 [sv A8 ai c9]) :: (aK, Cl 125 [iv j.Section, iv j.In, iv j.Out]) :: (J, Cl 3 [iv ak]) :: (g6, Cl 117 [sv V L W, sv X O Y, sv Z S aa, sv ab T ac, sv ad U ae, sv p z t, iv C, bv D]) :: (ax, Lb aw) :: (k ++ R) = hp' ∧ cc.Le aZ) ?_ ?_
   have hm := bO
   refine Cg<|tS (sF rfl V8)<|tS (sL 1 rfl Q5 rfl rfl)<|tS (sL 5 rfl Q5 rfl rfl) ?_
   refine Tb rfl (q1 rfl rfl) (fun aL => ?_) (fun aL => ?_)
   rw [if_pos aL] at hm
   refine mV rfl<|nO<|nO<|nO<|nO<|tS (pT rfl rfl)<|Tn ?_
   obtain rfl := o1 hm
   exact jJ ⟨rfl, rfl, lr⟩
   rw [if_neg aL] at hm
   refine mV rfl<|yS<|tS (sL 4 rfl q4M rfl rfl)<|yS<|tS (sF rfl V8)<|yS<|tS (sL 1 rfl Q5 rfl rfl)<|yS ?_
   obtain ⟨ce, bm, hm⟩ := bS hm
   refine tD (uW _ q5X rfl (fun w ho => q0K _ [] ai j.Section A8 c9 ((bf.le (c.trans (f.trans (e.trans d)))).old ho) ce bm) (fun _ _ _ h => h.2.symm)) ?_
   rintro _ _ ⟨⟨_, rfl, _⟩, rfl⟩
   refine tS (pF rfl rfl)<|Tn ?_
   obtain rfl := o1 hm
   exact jJ ⟨rfl, rfl, lr⟩
   rintro aZ _ _ ⟨rfl, rfl, a⟩
   have hm := bP
   refine cB hm rfl (fun hm => ?_) fun hm => ?_
   refine Cr<|tS (sL 0 rfl q6u rfl rfl) ?_
   obtain ⟨⟨cf, cg⟩, bn, hm⟩ := bS hm
   have hm := (J4 hm)
   refine Q9 5 rfl<|q4R [_] [_, _, _, _, _, _] k R rfl<|Tg _ rfl z9G rfl (q6j _ _ L O S T U C D z g6 V W X Y Z aa ab ac ad ae p t k (aD.le (c.trans (f.trans (e.trans (d.trans a))))) (aE.le (c.trans (f.trans (e.trans (d.trans a))))) (aF.le (c.trans (f.trans (e.trans (d.trans a))))) (aC.le (c.trans (f.trans (e.trans (d.trans a))))) (aG.le (c.trans (f.trans (e.trans (d.trans a))))) (ah.le (d.trans a)) E cf cg bn) ?_
   rintro _ cD _ ay ⟨rfl, rfl⟩
   refine q5k [_] [_, _, _, _, _, _] k R rfl<|Te<|Ct<|Xr<|Xb<|z2I 6 rfl (a.trans ay)<|Ct<|Xb ?_
   have bQ := al _ (Kd hm).symm
   rw [bQ] at H
   have hm := J9 H
   obtain ⟨rfl, rfl, rfl⟩ := q2o hm
   have bR := (ah.le (d.trans (a.trans ay)))
   exact rZ ⟨p, t, k, rfl, rfl, bR, E⟩ (c.trans (f.trans (e.trans (d.trans (a.trans ay)))))
   refine Ck<|Xn ?_
   obtain ⟨q, bT, bU⟩ := bS hm
   refine Cj (fun aM e' hp' => ∃ B F af, [(4, pb s), (5, pb y), (9, pb aK), (10, sv B q F)] = e' ∧ (s, Cl 115 [pb g6]) :: (y, Cl 3 [iv x7]) :: (aK, Cl 125 [iv j.Section, iv j.In, iv j.Out]) :: (I, Cl 78 [sv A8 ai c9]) :: (J, Cl 3 [iv ak]) :: (g6, Cl 117 [sv V L W, sv X O Y, sv Z S aa, sv ab T ac, sv ad U ae, sv p z t, iv C, bv D]) :: (ax, Lb aw) :: (af ++ (k ++ R)) = hp' ∧ aZ.Le aM ∧ OS 125 (OT.fr J2) aM.w (sv B q F) q af ∧ (B = none ↔ q = [])) ?_ ?_
   have hm := bT
   obtain ⟨aN, aT, hm⟩ := bS hm
   obtain ⟨_, aq, hm⟩ := bS hm
   refine Di mixed (.refl _)<|Es 0 rfl (sL 2 rfl q4M rfl rfl)<|Es 2 rfl (sD (vs := [_, _, _]) 3 3 rfl q4H rfl rfl rfl)<|Eo<|Da [1, 3] (by kernel_rfl) rfl ?_
   refine Rg lr rfl rfl _ z9F rfl (q9E _ _ ai A8 c9 (bf.le (c.trans (f.trans (e.trans (d.trans a))))) aN aT) ?_ ?_
   rintro _ ch _ A ⟨ci, cj, aO, rfl, rfl, a0⟩
   refine iR<|z1Q [] [_, _, _, _, _, _, _] aO (k ++ R) rfl<|Da [3] (by kernel_rfl) rfl ?_
   refine Rd2 A rfl rfl (V7 (el := 125) [(0, .agg #[iv j.Section, iv j.In, iv j.Out])] [iv j.Section, iv j.In, iv j.Out] rfl (fun _ => by kernel_rfl)) ?_ ?_
   rintro _ _ ⟨ck, rfl, rfl⟩
   refine iR ?_
   have aq := V6 aq
   refine Da [4] (by kernel_rfl) rfl ?_
   refine Rd2 A rfl rfl (uQ (r := J2) (l := aN) [_, _, _, _, _, _, _, _] (k ++ R) [[iv j.Section, iv j.In, iv j.Out]] [j] rfl (by decide) q7O z6r rfl rfl rfl rfl a0 rfl (fun w ho => Rd.own (i := 0) ho rfl) ⟨⟨[iv j.Section], _, rfl, rfl, ⟨[iv j.In], _, rfl, rfl, rfl⟩⟩, trivial⟩ aq) ?_ ?_
   rintro _ _ ⟨an, rfl, am⟩
   obtain ⟨a1, a2, rfl, _⟩ := am.form
   refine iR<|Ei A (.cons _ (.cons_cons _ (.cons_cons _ (.cons_cons _ (.cons_cons _ (.cons_cons _ (.cons_cons _ (.cons_cons _ (ss an (.refl _))))))))))<|E0 5 rfl (sA rfl)<|Eo<|Dd (by kernel_rfl) ?_
   obtain rfl := o1 hm
   exact jJ ⟨a1, a2, an, rfl, rfl, A, am, (OS.nz am (by simp))⟩
   exact Rn
   exact Rn
   refine Rd2 lr rfl rfl (V7 (el := 125) [(0, .agg #[iv j.Section, iv j.In, iv j.Out])] [iv j.Section, iv j.In, iv j.Out] rfl (fun _ => by kernel_rfl)) ?_ ?_
   rintro _ _ ⟨ck, rfl, rfl⟩
   refine iR<|Da [1] (by kernel_rfl) rfl ?_
   refine Rg lr rfl rfl _ z9F rfl (q9E _ _ ai A8 c9 (bf.le (c.trans (f.trans (e.trans (d.trans a))))) aN aT) ?_ ?_
   rintro _ ch _ A ⟨ci, cj, aO, rfl, rfl, a0⟩
   refine iR<|z1Q [] [_, _, _, _, _, _, _, _] aO (k ++ R) rfl ?_
   have aq := V6 aq
   refine Da [4] (by kernel_rfl) rfl ?_
   refine Rd2 A rfl rfl (uQ (r := J2) (l := aN) [_, _, _, _, _, _, _, _] (k ++ R) [[iv j.Section, iv j.In, iv j.Out]] [j] rfl (by decide) q7O z6r rfl rfl rfl rfl a0 rfl (fun w ho => Rd.own (i := 0) ho rfl) ⟨⟨[iv j.Section], _, rfl, rfl, ⟨[iv j.In], _, rfl, rfl, rfl⟩⟩, trivial⟩ aq) ?_ ?_
   rintro _ _ ⟨an, rfl, am⟩
   obtain ⟨a1, a2, rfl, _⟩ := am.form
   refine iR<|Ei A (.cons _ (.cons_cons _ (.cons_cons _ (.cons_cons _ (.cons_cons _ (.cons_cons _ (.cons_cons _ (.cons_cons _ (ss an (.refl _))))))))))<|E0 5 rfl (sA rfl)<|Eo<|Dd (by kernel_rfl) ?_
   obtain rfl := o1 hm
   exact jJ ⟨a1, a2, an, rfl, rfl, A, am, (OS.nz am (by simp))⟩
   exact Rn
   exact Rn
   exact Rn
   rintro aM _ _ ⟨B, F, af, rfl, rfl, g, bo, cw⟩
   have hm := bU
   refine Cs<|Cr<|mV rfl<|tS (sE rfl q7O)<|tS (q5 rfl rfl)<|Te ?_
   refine cI hm rfl (fun hm => ?_) fun hm => ?_
   refine Cr<|tS (sL 0 rfl q6u rfl rfl)<|tS (sN rfl)<|tS (sF rfl q7f)<|tD (uS 5 rfl rfl z2o rfl rfl (by simp)) ?_
   rintro _ _ rfl
   refine Te<|Ct<|Xr<|Xb<|z2I 6 rfl (a.trans g)<|Ct<|Xb ?_
   have bV := al _ (Kd hm).symm
   rw [bV] at H
   have hm := J9 H
   obtain ⟨rfl, rfl, rfl⟩ := q2o hm
   have bW := (ah.le (d.trans (a.trans g)))
   exact rZ ⟨p, t, k, rfl, rfl, bW, E⟩ (c.trans (f.trans (e.trans (d.trans (a.trans g)))))
   refine Ck<|Xn<|Cr<|tS (sF rfl V8)<|tS (sL 2 rfl Q5 rfl rfl)<|tS (sF rfl z0n)<|tS (sL 2 rfl Q5 rfl rfl)<|tS (sB (v := .agg #[iv j.Section, iv j.Out]) [(0, iv j.Section), (1, iv j.Out)] rfl (fun _ => by kernel_rfl))<|tD (uA [iv 0, iv 0] q3f rfl) ?_
   rintro _ _ ⟨aP, rfl, rfl⟩
   refine tD (uN (vs := [_, _]) 0 2 rfl rfl rfl q3Z rfl (mc rfl (mc rfl mn)) rfl (by simp)) ?_
   rintro _ _ rfl
   refine Te<|Cs ?_
   obtain ⟨K, bp, hm⟩ := bS hm
   refine Di mixed (.refl _)<|Es 0 rfl (sL 1 rfl q6u rfl rfl)<|E0 1 rfl (sN rfl)<|E0 2 rfl (sF rfl z0o)<|Es 3 rfl (sD (vs := [_, _, _, _, _]) 6 5 rfl q0o rfl rfl rfl)<|Es 4 rfl (sD (vs := [_, _]) 0 2 rfl q3e rfl rfl rfl)<|Eo<|Da [5] (by kernel_rfl) rfl ?_
   refine Rd2 lr rfl rfl (uW _ z9E rfl (fun w ho => z1q _ [] (⟨L, O, S, T, U⟩ : v6) (⟨j.Section, j.Out⟩ : Q0) V W X Y Z aa ab ac ad ae ((aD.le (c.trans (f.trans (e.trans (d.trans (a.trans g)))))).old ho) ((aE.le (c.trans (f.trans (e.trans (d.trans (a.trans g)))))).old ho) ((aF.le (c.trans (f.trans (e.trans (d.trans (a.trans g)))))).old ho) ((aC.le (c.trans (f.trans (e.trans (d.trans (a.trans g)))))).old ho) ((aG.le (c.trans (f.trans (e.trans (d.trans (a.trans g)))))).old ho) K bp) (fun _ _ _ h => h.2.symm)) ?_ ?_
   rintro _ _ ⟨⟨_, rfl, _⟩, rfl⟩
   refine iR<|Ei lr (.refl _)<|E0 6 rfl (sA rfl)<|Eo<|Dd (by kernel_rfl)<|Xn<|Cs ?_
   obtain ⟨bq, bX, bY⟩ := bS hm
   refine Cj (fun a3 e' hp' => [(4, pb s), (5, pb y), (10, sv B q F), (11, pb aP), (12, iv K), (14, bv bq)] = e' ∧ (s, Cl 115 [pb g6]) :: (y, Cl 3 [iv x7]) :: (aP, Cl 120 [iv j.Section, iv j.Out]) :: (I, Cl 78 [sv A8 ai c9]) :: (J, Cl 3 [iv ak]) :: (g6, Cl 117 [sv V L W, sv X O Y, sv Z S aa, sv ab T ac, sv ad U ae, sv p z t, iv C, bv D]) :: (ax, Lb aw) :: (af ++ (k ++ R)) = hp' ∧ aM.Le a3) ?_ ?_
   have hm := bX
   obtain ⟨⟨br, bs, bt⟩, aU, hm⟩ := bS hm
   have hm := (q4s hm)
   refine Di mixed (.refl _)<|Es 0 rfl (sL 1 rfl q6u rfl rfl)<|E0 1 rfl (sN rfl)<|E0 2 rfl (sF rfl z0o)<|Es 3 rfl (sD (vs := [_, _, _, _, _]) 6 5 rfl q0o rfl rfl rfl)<|Es 4 rfl (sD (vs := [_, _]) 0 2 rfl q3e rfl rfl rfl)<|Eo<|Da [5, 9] (by kernel_rfl) rfl ?_
   refine Rg lr rfl rfl _ z4J rfl (q3n _ _ (⟨L, O, S, T, U⟩ : v6) (⟨j.Section, j.Out⟩ : Q0) V W X Y Z aa ab ac ad ae (aD.le (c.trans (f.trans (e.trans (d.trans (a.trans g)))))) (aE.le (c.trans (f.trans (e.trans (d.trans (a.trans g)))))) (aF.le (c.trans (f.trans (e.trans (d.trans (a.trans g)))))) (aC.le (c.trans (f.trans (e.trans (d.trans (a.trans g)))))) (aG.le (c.trans (f.trans (e.trans (d.trans (a.trans g)))))) br bs bt aU) ?_ ?_
   rintro _ cl _ o ⟨rfl, rfl⟩
   refine iR<|Ei o (.refl _)<|E0 6 rfl (sM rfl)<|E0 7 rfl (j5 rfl rfl)<|E0 8 rfl (j5 rfl rfl)<|Eo<|Da [9] (by kernel_rfl) rfl ?_
   refine Rd2 o rfl rfl (uA [iv 0, iv 0] q3f rfl) ?_ ?_
   rintro _ _ ⟨cm, rfl, rfl⟩
   refine iR<|Da [10] (by kernel_rfl) rfl ?_
   refine Rd2 o rfl rfl (uN (vs := [_, _]) 0 2 rfl rfl rfl q3Z rfl (mc rfl (mc rfl mn)) rfl (by simp)) ?_ ?_
   rintro _ _ rfl
   refine ⟨.inl (by kernel_rfl), ?_⟩
   refine El o<|E0 11 rfl (sA rfl)<|Eo<|Dd (by kernel_rfl) ?_
   obtain rfl := o1 hm
   exact jJ ⟨rfl, rfl, o⟩
   exact Rn
   exact Rn
   refine Rd2 lr rfl rfl (uA [iv 0, iv 0] q3f rfl) ?_ ?_
   rintro _ _ ⟨cm, rfl, rfl⟩
   refine iR<|Da [5] (by kernel_rfl) rfl ?_
   refine Rg lr rfl rfl _ z4J rfl (q3n _ _ (⟨L, O, S, T, U⟩ : v6) (⟨j.Section, j.Out⟩ : Q0) V W X Y Z aa ab ac ad ae (aD.le (c.trans (f.trans (e.trans (d.trans (a.trans g)))))) (aE.le (c.trans (f.trans (e.trans (d.trans (a.trans g)))))) (aF.le (c.trans (f.trans (e.trans (d.trans (a.trans g)))))) (aC.le (c.trans (f.trans (e.trans (d.trans (a.trans g)))))) (aG.le (c.trans (f.trans (e.trans (d.trans (a.trans g)))))) br bs bt aU) ?_ ?_
   rintro _ cl _ o ⟨rfl, rfl⟩
   refine iR<|Ei o (.cons _ (.refl _))<|E0 6 rfl (sM rfl)<|E0 7 rfl (j5 rfl rfl)<|E0 8 rfl (j5 rfl rfl)<|Eo<|Da [10] (by kernel_rfl) rfl ?_
   refine Rd2 o rfl rfl (uN (vs := [_, _]) 0 2 rfl rfl rfl q3Z rfl (mc rfl (mc rfl mn)) rfl (by simp)) ?_ ?_
   rintro _ _ rfl
   refine ⟨.inl (by kernel_rfl), ?_⟩
   refine El o<|E0 11 rfl (sA rfl)<|Eo<|Dd (by kernel_rfl) ?_
   obtain rfl := o1 hm
   exact jJ ⟨rfl, rfl, o⟩
   exact Rn
   exact Rn
   exact Rn
   rintro a3 _ _ ⟨rfl, rfl, m⟩
   have hm := bY
   obtain ⟨cn, bZ, b0⟩ := bS hm
   refine Cj (fun a4 e' hp' => [(4, pb s), (5, pb y), (10, sv B q F), (11, pb aP), (12, iv K), (82, bv cn)] = e' ∧ (s, Cl 115 [pb g6]) :: (y, Cl 3 [iv x7]) :: (aP, Cl 120 [iv j.Section, iv j.Out]) :: (I, Cl 78 [sv A8 ai c9]) :: (J, Cl 3 [iv ak]) :: (g6, Cl 117 [sv V L W, sv X O Y, sv Z S aa, sv ab T ac, sv ad U ae, sv p z t, iv C, bv D]) :: (ax, Lb aw) :: (af ++ (k ++ R)) = hp' ∧ a3.Le a4) ?_ ?_
   have hm := bZ
   refine Cg<|mV rfl ?_
   rcases Kg bq with ao | ao
   rw [if_pos ao] at hm
   refine Tr 78 rfl (v' := .bool true) (by rw [ao] <;> rfl)<|mV rfl<|yS<|mV rfl<|yS<|tS (q3 rfl rfl)<|tS (pT rfl rfl)<|Tn ?_
   obtain rfl := o1 hm
   exact jJ ⟨rfl, rfl, lr⟩
   rw [if_neg (fun hh => Bool.noConfusion (hh.symm.trans ao))] at hm
   refine Tr 78 rfl (v' := .bool false) (by rw [ao] <;> rfl)<|mV rfl<|nO<|nO<|tS (pF rfl rfl)<|Tn ?_
   obtain rfl := o1 hm
   exact jJ ⟨rfl, rfl, lr⟩
   rintro a4 _ _ ⟨rfl, rfl, n⟩
   have hm := b0
   refine cB hm rfl (fun hm => ?_) fun hm => ?_
   refine Cr<|tS (sL 0 rfl q6u rfl rfl)<|tS (sL 1 rfl Q5 rfl rfl)<|mV rfl<|tS (sD (vs := [_, _]) 2 2 rfl q3e rfl rfl rfl)<|j0v [_, _, _, _, _, _, _] af (k ++ R) rfl ?_
   intro cE u b1
   have co := OS.frz (l := q) (bo.le (m.trans n)) u.cells b1
   obtain ⟨⟨bu, bw, bx⟩, bz, hm⟩ := bS hm
   have hm := (q4s hm)
   refine Q9 5 rfl<|q4R [_] [_, _, _, _, _, _] k R rfl<|Tg _ rfl j2h rfl (ih _ _ x7 q (⟨j.Section, j.Out⟩ : Q0) L O S T U C D z g6 B F V W X Y Z aa ab ac ad ae p t k co (aD.le (c.trans (f.trans (e.trans (d.trans (a.trans (g.trans (m.trans (n.trans u))))))))) (aE.le (c.trans (f.trans (e.trans (d.trans (a.trans (g.trans (m.trans (n.trans u))))))))) (aF.le (c.trans (f.trans (e.trans (d.trans (a.trans (g.trans (m.trans (n.trans u))))))))) (aC.le (c.trans (f.trans (e.trans (d.trans (a.trans (g.trans (m.trans (n.trans u))))))))) (aG.le (c.trans (f.trans (e.trans (d.trans (a.trans (g.trans (m.trans (n.trans u))))))))) (ah.le (d.trans (a.trans (g.trans (m.trans (n.trans u)))))) E bu bw bx bz) ?_
   rintro _ cG _ aV ⟨cp, cq, ba, rfl, rfl, cr, cs⟩
   refine q5k [_] [_, _, _, _, _, _] ba R rfl<|Te<|Ce<|Xe<|Xo<|Xp 5 rfl<|Xp 5 rfl<|Xp 4 rfl<|Xp 4 rfl ?_
   exact z8a 6 rfl (a.trans (g.trans (m.trans (n.trans (u.trans aV))))) (.cons_cons _ (.cons_cons _ (.cons_cons _ (.cons_cons _ (.cons_cons _ (.cons _ (.refl _))))))) ⟨(bu, bw, bx), (Kd hm).symm, ⟨cp, cq, ba, rfl, (e.trans (d.trans (a.trans (g.trans (m.trans (n.trans (u.trans aV))))))), cr, cs⟩⟩
   refine Ck<|Xn ?_
   obtain ⟨ar, b2, b3⟩ := bS hm
   refine Cj (fun a5 e' hp' => ∃ au az ag, [(4, pb s)] = e' ∧ (s, Cl 115 [pb g6]) :: (y, Cl 3 [iv x7]) :: (I, Cl 78 [sv A8 ai c9]) :: (J, Cl 3 [iv ak]) :: (g6, Cl 117 [sv V L W, sv X O Y, sv Z S aa, sv ab T ac, sv ad U ae, sv au ar az, iv C, bv D]) :: (ax, Lb aw) :: (ag ++ R) = hp' ∧ a4.Le a5 ∧ OS 80 (OT.fr Q3) a5.w (sv au ar az) ar ag ∧ (au = none ↔ ar = [])) ?_ ?_
   have hm := b2
   refine j6c [_, _, _, _, _, _, _] af (k ++ R) rfl ?_
   intro cH aA b4
   have ct := OS.frz (l := q) (bo.le (m.trans n)) aA.cells b4
   obtain ⟨_, a6, hm⟩ := bS hm
   refine Di mixed (.cons_cons _ (.cons_cons _ (.cons_cons _ (.cons_cons _ (.cons_cons _ (.cons_cons _ (.cons_cons _ (ss k (.refl _)))))))))<|Es 0 rfl (sL 0 rfl q6u rfl rfl)<|Es 1 rfl (sL 0 rfl q6u rfl rfl)<|E0 2 rfl (sN rfl)<|E0 3 rfl (sF rfl z3t)<|Es 4 rfl (sL 5 rfl z7p rfl rfl)<|Es 5 rfl (sL 1 rfl Q5 rfl rfl)<|E0 6 rfl (sM rfl)<|E0 7 rfl (sM rfl)<|E0 8 rfl (sB (v := .agg #[iv x7, iv K, sv B q F]) [(0, iv x7), (1, iv K), (2, sv B q F)] rfl (fun _ => by kernel_rfl)) ?_
   refine Eo<|Da [9] (by kernel_rfl) rfl ?_
   refine Rd2 lr rfl rfl (V7 (el := 80) [(0, .agg #[iv x7, iv K, sv B q F])] [iv x7, iv K, sv B q F] rfl (fun _ => by kernel_rfl)) ?_ ?_
   rintro _ _ ⟨cJ, rfl, rfl⟩
   refine iR ?_
   have a6 := V6 a6
   refine Da [10] (by kernel_rfl) rfl ?_
   refine Rd2 lr rfl rfl (uQ (r := Q3) (l := z) [_, _, _, _, _, _, _, _] R [[iv x7, iv K, sv B q F]] [(⟨x7, K, q⟩ : j1)] rfl (by decide) j2U j6Z rfl rfl rfl rfl (ah.le (d.trans (a.trans (g.trans (m.trans (n.trans aA)))))) rfl (fun w ho => Rd.own (i := 0) ho rfl) ⟨⟨[iv x7], _, rfl, rfl, ⟨[iv K], _, rfl, rfl, (RT.list_mk ct)⟩⟩, trivial⟩ a6) ?_ ?_
   rintro _ _ ⟨bb, rfl, a7⟩
   obtain ⟨cu, cv, rfl, _⟩ := a7.form
   refine iR<|Ei lr (.cons _ (.cons_cons _ (.cons_cons _ (.cons_cons _ (.cons_cons _ (.cons_cons _ (.cons_cons _ (.cons_cons _ (ss bb (.refl _))))))))))<|E0 11 rfl (sN rfl)<|E0 12 rfl (sF rfl z3t)<|Eo<|Da [13] (by kernel_rfl) rfl ?_
   refine Rd2 lr rfl rfl (uS 6 rfl rfl j6M rfl rfl (by simp)) ?_ ?_
   rintro _ _ rfl
   refine ⟨.inl (by kernel_rfl), ?_⟩
   refine Dd (by kernel_rfl) ?_
   obtain rfl := o1 hm
   exact jJ ⟨cu, cv, bb, rfl, rfl, aA, a7, (OS.nz a7 (by simp))⟩
   exact Rn
   exact Rn
   exact Rn
   rintro a5 _ _ ⟨au, az, ag, rfl, rfl, G, bA, aW⟩
   have hm := b3
   refine Cg<|tS (sL 0 rfl q6u rfl rfl) ?_
   obtain ⟨⟨bB, bC⟩, bD, hm⟩ := bS hm
   have hm := (J4 hm)
   refine Q9 4 rfl<|q4R [_] [_, _, _, _, _] ag R rfl<|Tg _ rfl z9G rfl (q6j _ _ L O S T U C D ar g6 V W X Y Z aa ab ac ad ae au az ag (aD.le (c.trans (f.trans (e.trans (d.trans (a.trans (g.trans (m.trans (n.trans G))))))))) (aE.le (c.trans (f.trans (e.trans (d.trans (a.trans (g.trans (m.trans (n.trans G))))))))) (aF.le (c.trans (f.trans (e.trans (d.trans (a.trans (g.trans (m.trans (n.trans G))))))))) (aC.le (c.trans (f.trans (e.trans (d.trans (a.trans (g.trans (m.trans (n.trans G))))))))) (aG.le (c.trans (f.trans (e.trans (d.trans (a.trans (g.trans (m.trans (n.trans G))))))))) bA aW bB bC bD) ?_
   rintro _ cK _ aB ⟨rfl, rfl⟩
   refine q5k [_] [_, _, _, _, _] ag R rfl<|Tn<|Xm<|Xp 4 rfl<|Xp 4 rfl<|Xp 4 rfl<|Xp 4 rfl ?_
   exact z8a 5 rfl (a.trans (g.trans (m.trans (n.trans (G.trans aB))))) (.refl _) ⟨(bB, bC, ar), (Kd hm).symm, ⟨au, az, ag, rfl, (e.trans (d.trans (a.trans (g.trans (m.trans (n.trans (G.trans aB))))))), (bA.le aB), aW⟩⟩
   exact Rn
   rintro ⟨C, D, z⟩ aJ _ ⟨p, t, k, rfl, e, ah, E⟩ b5
   rw [b5] at H
   have hm := H4 H
   have hm := (q4s hm)
   refine Xm ?_
   obtain ⟨rfl, rfl, rfl⟩ := q2o hm
   exact eZ ⟨p, t, k, rfl, rfl, ah, E⟩ (c.trans (f.trans e))
   exact Rn
theorem z3M (b : k8) (R : Hp) (c : v6) (T U V W X Y n o s t) (h4 : FZ RT.str b.w T U c.Stations) (h7 : FZ j3 b.w V W c.Sections) (ai : FZ w6 b.w X Y c.Links) (J : FZ j6 b.w n o c.Signals) (aj : FZ w7 b.w s t c.Gates) (H m) (hm : q2O c = some (H, m)):
 w8 Tryz.prog 18 [.agg #[sv T c.Stations U, sv V c.Sections W, sv X c.Links Y, sv n c.Signals o, sv s c.Gates t]] b (R) (fun v b' hp' => ∃ w I x, .tuple #[sv w m I, iv H] = v ∧ (x ++ R) = hp' ∧ OS 80 (OT.fr Q3) b'.w (sv w m I) m x ∧ (w = none ↔ m = [])) := by
 refine fE 35 Tryz.func18 rfl Tryz.ntmps18 rfl ?_
 unfold q2O at hm
 refine Cr<|tD (uB _ rfl rfl) ?_
 rintro _ _ ⟨ao, rfl, rfl⟩
 refine aS rfl<|aS rfl<|Te<|Cr<|tS (sD (vs := [_, _, _, _, _]) 0 5 rfl q0o rfl rfl rfl)<|tS (sB (v := .agg #[sv T c.Stations U, sv V c.Sections W, sv X c.Links Y, sv n c.Signals o, sv s c.Gates t, sn, iv 0, bv false]) [(0, .agg #[sv T c.Stations U, sv V c.Sections W, sv X c.Links Y, sv n c.Signals o, sv s c.Gates t])] rfl (fun _ => by kernel_rfl))<|tD (uB _ rfl rfl) ?_
 rintro _ _ ⟨y, rfl, rfl⟩
 refine aS rfl<|Te<|Cs<|Cr<|tS (sF rfl q3k)<|tS (sL 1 rfl q8X rfl rfl)<|tS (sE rfl z4e)<|mV rfl<|Te<|Cb ?_
 have ak : c.Signals.length ≤ 9223372036854775807 := (FZ.bd J)
 obtain ⟨⟨p, q, f⟩, K, L⟩ := bS hm
 refine lS (fun z => q4L fun p q f => fun r e' hp' => ∃ g i d, [(4, pb y), (11, sv n c.Signals o), (12, iv ((c.Signals.length : Int))), (13, iv ((z : Int)))] = e' ∧ (y, Cl 117 [sv T c.Stations U, sv V c.Sections W, sv X c.Links Y, sv n c.Signals o, sv s c.Gates t, sv g f i, iv p, bv q]) :: (d ++ R) = hp' ∧ b.Le r ∧ OS 80 (OT.fr Q3) r.w (sv g f i) f d ∧ (g = none ↔ f = [])) K ⟨none, 0, [], rfl, rfl, lr, OS.nil, ⟨fun _ => rfl, fun _ => rfl⟩⟩ ?_ ?_
 rintro z ⟨p, q, f⟩ r _ _ al Z ⟨g, i, d, rfl, rfl, a, A, k⟩ h
 unfold q1k at h
 have hm := q4s h
 refine Cr<|tS (lT rfl rfl (by omega))<|Te<|Cs<|k9 rfl<|Ck<|Xn<|Cs<|Cb<|Cr<|mV rfl ?_
 obtain ⟨e, aa, am, O, an, S, E, B, F, hm⟩ := bF (sz := 2) hm (J.le a)
 obtain ⟨_, _, rfl, rfl, rfl⟩ := S
 refine tS (sI aa rfl rfl O F B z4e)<|tS (sP (vs := [iv e.Section, iv e.End]) 2 rfl z5b B rfl (fun j u hu => E j u hu))<|tD (uA [iv 0, iv 0] z5f rfl) ?_
 rintro _ _ ⟨aq, rfl, rfl⟩
 refine aS rfl<|tD (uN (vs := [_, _]) 0 2 rfl rfl rfl z8o rfl (mc rfl (mc rfl mn)) rfl (by simp)) ?_
 rintro _ _ rfl
 refine Te<|Cg<|mV rfl<|mV rfl<|tS (sF rfl q4l)<|tS (sL 0 rfl Q5 rfl rfl)<|tS (sF rfl q8o)<|tS (sL 0 rfl Q5 rfl rfl)<|tS (sB (v := .agg #[iv e.Section, iv e.End]) [(0, iv e.Section), (1, iv e.End)] rfl (fun _ => by kernel_rfl)) ?_
 obtain ⟨⟨ab, ac, ad⟩, l, hm⟩ := bS hm
 obtain ⟨C, l⟩ := q8k l
 have hm := q4s hm
 refine Q9 1 rfl<|q4R [_] [_] d R rfl<|Tg _ rfl j2h rfl (z1s C _ _ (z : Int) [] (⟨e.Section, e.End⟩ : Q0) c.Stations c.Sections c.Links c.Signals c.Gates p q f y none 0 T U V W X Y n o s t g i d FZ.nil (h4.le a) (h7.le a) (ai.le a) (J.le a) (aj.le a) A k ab ac ad l) ?_
 rintro _ ar _ G ⟨ae, af, D, rfl, rfl, ag, ah⟩
 refine q5k [_] [_] D R rfl<|Tn<|Xm<|Xn<|Cg<|tS (sa rfl rfl (by omega))<|mV rfl<|Tn ?_
 obtain rfl := o1 hm
 exact jS ⟨ae, af, D, rfl, rfl, ((a.trans G)), ag, ah⟩
 rintro r _ _ ⟨g, i, d, rfl, rfl, a, A, k⟩
 have hm := q4s L
 refine Cr<|tS (lF rfl rfl (by omega))<|Te<|Cs<|k7 rfl<|Ce<|Xe<|Xe<|Xo<|Xn<|Cs<|Cr<|mV rfl<|tS (sN rfl)<|tS (sF rfl q7f)<|tS (sL 0 rfl q4J rfl rfl)<|Te<|cB hm rfl (fun hm => ?_) fun hm => ?_
 refine Cr<|aS rfl<|aS rfl<|Te<|Ct<|Xr ?_
 obtain ⟨rfl, rfl⟩ := Z6 hm
 exact rT ⟨none, 0, [], rfl, rfl, OS.nil, ⟨fun _ => rfl, fun _ => rfl⟩⟩ a
 refine Ck<|Xn<|Cr<|mV rfl<|tS (sN rfl)<|tS (sF rfl z3t)<|tS (sL 0 rfl z7p rfl rfl)<|aS rfl<|aS rfl<|Te<|Ct ?_
 obtain ⟨rfl, rfl⟩ := Z6 hm
 exact rT ⟨g, i, d, rfl, rfl, A, k⟩ a
theorem q7K (b : k8) (R : Hp) (a : v6) (t u x y z A d e f g) (I : FZ RT.str b.w t u a.Stations) (J : FZ j3 b.w x y a.Sections) (o : FZ w6 b.w z A a.Links) (p : FZ j6 b.w d e a.Signals) (q : FZ w7 b.w f g a.Gates) (r c) (hm : q0H a = some (r, c)):
 w8 Tryz.prog 7 [.agg #[sv t a.Stations u, sv x a.Sections y, sv z a.Links A, sv d a.Signals e, sv f a.Gates g]] b (R) (fun v b' hp' => ∃ k s i, .tuple #[sv k c s, iv r] = v ∧ (i ++ R) = hp' ∧ OS 80 (OT.fr Q3) b'.w (sv k c s) c i ∧ (k = none ↔ c = [])) := by
 refine fE 14 Tryz.func7 rfl Tryz.ntmps7 rfl ?_
 unfold q0H at hm
 refine Cr<|tD (uB _ rfl rfl) ?_
 rintro _ _ ⟨K, rfl, rfl⟩
 refine aS rfl<|aS rfl<|Te<|Cs<|Cr<|tS (sD (vs := [_, _, _, _, _]) 0 5 rfl q0o rfl rfl rfl) ?_
 obtain ⟨B, l, hm⟩ := bS hm
 refine tD (uW _ z6K rfl (fun w ho => q7i _ [] a t u x y z A d e f g (I.old ho) (J.old ho) (o.old ho) (p.old ho) (q.old ho) B l) (fun _ _ _ h => h.2.symm)) ?_
 rintro _ _ ⟨⟨_, rfl, _⟩, rfl⟩
 refine aS rfl<|Te<|Cr<|mV rfl<|tS (q2 rfl rfl)<|Te<|cI hm rfl (fun hm => ?_) fun hm => ?_
 refine Cr<|mV rfl<|aS rfl<|aS rfl<|Te<|Ct<|Xr ?_
 obtain ⟨rfl, rfl⟩ := Z6 hm
 exact rT ⟨none, 0, [], rfl, rfl, OS.nil, ⟨fun _ => rfl, fun _ => rfl⟩⟩ lr
 refine Ck<|Xn<|Cr<|tS (sD (vs := [_, _, _, _, _]) 0 5 rfl q0o rfl rfl rfl) ?_
 obtain ⟨⟨C, D⟩, m, hm⟩ := bS hm
 have hm := J4 hm
 refine Tg _ rfl j5X rfl (z3M _ _ a t u x y z A d e f g I J o p q C D m) ?_
 rintro _ L _ n ⟨E, F, j, rfl, rfl, G, H⟩
 refine q5k [] [_] j R rfl<|tS (j5 rfl rfl)<|tS (j5 rfl rfl)<|aS rfl<|aS rfl<|Te<|Ct ?_
 obtain ⟨rfl, rfl⟩ := Z6 hm
 exact rT ⟨E, F, j, rfl, rfl, G, H⟩ n
theorem z1f (A : Option Addr) (n c : Nat) (xs : List Value) (w : World) (hR : Rd w A xs) (hl : xs.length = n * 1) (hn : n * 16 ≤ 140737488355328 ∧ n ≤ 9223372036854775807) :
    q5i Tryz.prog 53 [.slice A n c] w [] (fun v hp' => q9x 9 1 v n xs hp') := by
  refine q4Z 8 Tryz.func53 rfl Tryz.ntmps53 rfl ?_
  refine q5Y ?_
  refine q9L rfl rfl ?_
  refine q4t ?_
  refine q2V ?_
  refine q5Y ?_
  refine z4a rfl rfl ?_
  refine q4S rfl (q4U rfl rfl z5h) (fun hc1 => ?_) (fun hc1 => ?_)
  ·
    refine q4t ?_
    refine k9 rfl ?_
    refine q5Y ?_
    refine q9L rfl rfl ?_
    refine q4t ?_
    refine q3M ?_
    refine V5 ?_
    subst hc1
    obtain rfl := hR.none_nil
    obtain rfl : n = 0 := by simp at hl; omega
    refine q3Y (hp' := []) (by repeat (first | exact List.Sublist.refl _ | exact List.nil_sublist _ | exact Kb _ _ | exact Kc _ _ | exact (Kc _ _).trans (Kc _ _) | apply List.Sublist.cons_cons | apply List.Sublist.cons)) ?_
    exact z5d (k8.Le.refl _) rfl rfl (q9x.nil)
  ·
    refine q4t ?_
    refine k7 rfl ?_
    refine q3d ?_
    refine Q4 ?_
    refine q5Y ?_
    refine z1C rfl (V7 (el := 9) [] [] rfl (fun _ => by kernel_rfl)) ?_
    rintro _ _ ⟨g0, rfl, rfl⟩
    refine z4a rfl rfl ?_
    refine z1C rfl (q9z xs z5h j7B rfl (by decide) rfl rfl hl (fun w ho => hR.old ho) hn.2 hn.1) ?_
    rintro _ _ ⟨hs, rfl, hseg⟩
    refine q9L rfl rfl ?_
    refine q4t ?_
    refine q3M ?_
    refine q3Y (hp' := hs) (by repeat (first | exact List.Sublist.refl _ | exact List.nil_sublist _ | exact Kb _ _ | exact Kc _ _ | exact (Kc _ _).trans (Kc _ _) | apply List.Sublist.cons_cons | apply List.Sublist.cons)) ?_
    exact z5d (k8.Le.refl _) rfl rfl hseg
theorem z2a (b : k8) (R : Hp) (d e f) (i : FZ RT.str b.w e f d) (a) (hm : q3v d = some a):
 w8 Tryz.prog 53 [sv e d f] b (R) (fun v b' hp' => ∃ g h c, sv g a h = v ∧ (c ++ R) = hp' ∧ OS 9 (OT.fr RT.str) b'.w (sv g a h) a c) := by
 unfold q3v at hm
 obtain ⟨_, hroom, hm⟩ := bS hm
 have hroom := V6 hroom
 obtain rfl := o1 hm
 exact q5d (r := RT.str) (sz := 1) (by_ := 16) rfl (by decide) z1f i hroom
theorem z1e (A : Option Addr) (n c : Nat) (xs : List Value) (w : World) (hR : Rd w A xs) (hl : xs.length = n * 7) (hn : n * 56 ≤ 140737488355328 ∧ n ≤ 9223372036854775807) :
    q5i Tryz.prog 54 [.slice A n c] w [] (fun v hp' => q9x 99 7 v n xs hp') := by
  refine q4Z 8 Tryz.func54 rfl Tryz.ntmps54 rfl ?_
  refine q5Y ?_
  refine q9L rfl rfl ?_
  refine q4t ?_
  refine q2V ?_
  refine q5Y ?_
  refine z4a rfl rfl ?_
  refine q4S rfl (q4U rfl rfl z0I) (fun hc1 => ?_) (fun hc1 => ?_)
  ·
    refine q4t ?_
    refine k9 rfl ?_
    refine q5Y ?_
    refine q9L rfl rfl ?_
    refine q4t ?_
    refine q3M ?_
    refine V5 ?_
    subst hc1
    obtain rfl := hR.none_nil
    obtain rfl : n = 0 := by simp at hl; omega
    refine q3Y (hp' := []) (by repeat (first | exact List.Sublist.refl _ | exact List.nil_sublist _ | exact Kb _ _ | exact Kc _ _ | exact (Kc _ _).trans (Kc _ _) | apply List.Sublist.cons_cons | apply List.Sublist.cons)) ?_
    exact z5d (k8.Le.refl _) rfl rfl (q9x.nil)
  ·
    refine q4t ?_
    refine k7 rfl ?_
    refine q3d ?_
    refine Q4 ?_
    refine q5Y ?_
    refine z1C rfl (V7 (el := 99) [] [] rfl (fun _ => by kernel_rfl)) ?_
    rintro _ _ ⟨g0, rfl, rfl⟩
    refine z4a rfl rfl ?_
    refine z1C rfl (q9z xs z0I j6X rfl (by decide) rfl rfl hl (fun w ho => hR.old ho) hn.2 hn.1) ?_
    rintro _ _ ⟨hs, rfl, hseg⟩
    refine q9L rfl rfl ?_
    refine q4t ?_
    refine q3M ?_
    refine q3Y (hp' := hs) (by repeat (first | exact List.Sublist.refl _ | exact List.nil_sublist _ | exact Kb _ _ | exact Kc _ _ | exact (Kc _ _).trans (Kc _ _) | apply List.Sublist.cons_cons | apply List.Sublist.cons)) ?_
    exact z5d (k8.Le.refl _) rfl rfl hseg
theorem z1Z (b : k8) (R : Hp) (d e f) (i : FZ j3 b.w e f d) (a) (hm : q3u d = some a):
 w8 Tryz.prog 54 [sv e d f] b (R) (fun v b' hp' => ∃ g h c, sv g a h = v ∧ (c ++ R) = hp' ∧ OS 99 (OT.fr j3) b'.w (sv g a h) a c) := by
 unfold q3u at hm
 obtain ⟨_, hroom, hm⟩ := bS hm
 have hroom := V6 hroom
 obtain rfl := o1 hm
 exact q5d (r := j3) (sz := 7) (by_ := 56) rfl (by decide) z1e i hroom
end Go.Proofs.YtdbehipjelcmbaaGreatDoor
