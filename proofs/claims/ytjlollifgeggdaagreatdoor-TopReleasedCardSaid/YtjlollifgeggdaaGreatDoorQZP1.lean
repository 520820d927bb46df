import Derived.Test.YtjlollifgeggdaaGreatDoorF5
set_option linter.unusedVariables false
set_option linter.unusedSimpArgs false
set_option linter.unusedSectionVars false
namespace Go.Proofs.YtjlollifgeggdaaGreatDoor
open Go.RowKit Go.Fp
set_option maxRecDepth 20000
set_option maxHeartbeats 4000000
open Go.Fp renaming q5t → Te, q7d → Tn, q5W → Tb, q8S → Tg, q7Q → Tv, z3Q → Tr, q7i → Cr, q3F → Cs, q0I → Cg, q7C → Cb, q4B → Ct, q4z → Ck, z2C → Ce, z4I → Cj, z1f → Cp, Q9 → Xn, X9 → Xr, q2i → Xe, q2j → Xb, q0R → Xm, q2X → Xo, q8P → Xi, z8l → Xp, j1Z → Es, z8g → E0, j1Y → Ey, j6k → Yz, j2O → Ei, j7o → El, z6d → Eo, z8c → Da, z2J → Dd, z1w → Di, j6f → Rd2, z8b → Rn, z0j → Rg, z0y → sL, q7R → sD, q7T → sF, z2j → sN, z2l → sE, q3L → sM, q2d → sA, q6m → pT, q6n → pF, q1s → sI, q2l → sO, q3y → sP, q2t → sQ, z2m → sa, z3U → sb, q6W → lT, q6X → lF, q7k → sn2, q7U → sB, z5k → uB, q8Q → uA, z0l → uS, q5u → uN, q7N → uW, z2M → uP, z0o → uQ, q5m → fE, q6e → bS, z5m → o1, q5G → iS, q6U → ss, q8s → kS, z9h → mc, z9g → mn, z0B → q1, z0w → q2, z2k → q3, j2g → q4, z0z → q5, z0A → q6
theorem q6H (b : k9) (R : Hp) (k l e) (hm : q1w k l = some e):
 v8 Tryz.prog 136 [.string (k), .string (l)] b (R) (fun v b' hp' => bv e = v ∧ R = hp') := by
 refine fE 21 Tryz.func136 rfl Tryz.ntmps136 rfl ?_
 unfold q1w at hm
 refine Cr<|aS rfl<|Te ?_
 obtain ⟨i, f, g⟩ := bS hm
 refine Cj (fun h e' hp' => [(4, bv i)] = e' ∧ R = hp' ∧ b.Le h) ?_ ?_
 have hm := f
 refine Cg<|mV rfl<|tS (q2b rfl q9W)<|mV rfl<|tS (q2b rfl q9W)<|Tb rfl (q6 rfl rfl) (fun a => ?_) (fun a => ?_)
 rw [if_pos a] at hm
 refine mV rfl<|yS<|mV rfl<|yS<|mV rfl<|yS<|tS (q2b rfl q9W)<|yS<|mV rfl<|yS<|tS (q2b rfl q9W)<|yS ?_
 obtain ⟨_, c, hm⟩ := bS hm
 have c := (kS c).2
 refine tS (sb rfl rfl c)<|yS ?_
 obtain ⟨m, j, hm⟩ := bS hm
 refine tS (z0u rfl (.inr ⟨_, _, rfl, rfl⟩) (.inl ⟨rfl, rfl⟩) j q9W)<|yS<|mV rfl<|yS<|tS (z0t rfl rfl)<|tS (pT rfl rfl)<|aS rfl<|Tn ?_
 obtain rfl := o1 hm
 exact jJ ⟨rfl, rfl, lr⟩
 rw [if_neg a] at hm
 refine mV rfl<|nO<|nO<|nO<|nO<|nO<|nO<|nO<|nO<|nO<|tS (pF rfl rfl)<|aS rfl<|Tn ?_
 obtain rfl := o1 hm
 exact jJ ⟨rfl, rfl, lr⟩
 rintro h _ _ ⟨rfl, rfl, d⟩
 have hm := g
 refine Ct ?_
 obtain rfl := o1 hm
 exact rO ⟨rfl, rfl⟩ d
theorem q6I (b : k9) (R : Hp) (e f j d) (hm : q1x e f = some (j, d)):
 v8 Tryz.prog 117 [.string (e), .string (f)] b (R) (fun v b' hp' => .tuple #[.string (j), bv d] = v ∧ R = hp') := by
 refine fE 18 Tryz.func117 rfl Tryz.ntmps117 rfl ?_
 unfold q1x at hm
 refine Cr<|aS rfl<|aS rfl<|Te<|Cs<|Cr<|mV rfl<|mV rfl ?_
 obtain ⟨g, a, hm⟩ := bS hm
 refine tD (uW _ j3V rfl (fun w ho => q6H _ [] e f g a) (fun _ _ _ h => h.2.symm)) ?_
 rintro _ _ ⟨⟨_, rfl, _⟩, rfl⟩
 refine tS (sn2 rfl)<|Te<|cM hm rfl (fun hm => ?_) fun hm => ?_
 refine Cr<|mV rfl<|aS rfl<|aS rfl<|Te<|Ct<|Xr ?_
 obtain ⟨rfl, rfl⟩ := V9 hm
 exact rT ⟨rfl, rfl⟩ lr
 refine Ck<|Xn<|Cr<|mV rfl<|mV rfl<|tS (q2b rfl q9W)<|mV rfl<|tS (q2b rfl q9W) ?_
 obtain ⟨_, c, hm⟩ := bS hm
 have c := (kS c).2
 refine tS (sb rfl rfl c) ?_
 obtain ⟨k, i, hm⟩ := bS hm
 refine tS (z0u rfl (.inl ⟨rfl, rfl⟩) (.inr ⟨_, _, rfl, rfl⟩) i q9W)<|aS rfl<|aS rfl<|Te<|Ct ?_
 obtain ⟨rfl, rfl⟩ := V9 hm
 exact rT ⟨rfl, rfl⟩ lr
theorem q9n (b : k9) (R : Hp) (c d e f) (hm : q3a c d = some (e, f)):
 v8 Tryz.prog 90 [.string (c), .string (d)] b (R) (fun v b' hp' => .tuple #[.string (e), bv f] = v ∧ R = hp') := by
 refine fE 11 Tryz.func90 rfl Tryz.ntmps90 rfl ?_
 unfold q3a at hm
 refine Cr<|aS rfl<|aS rfl<|Te<|Cr<|mV rfl<|mV rfl ?_
 obtain ⟨⟨g, i⟩, a, hm⟩ := bS hm
 have hm := H0 hm
 refine tD (uW _ j3Z rfl (fun w ho => q6I _ [] c d g i a) (fun _ _ _ h => h.2.symm)) ?_
 rintro _ _ ⟨⟨_, rfl, _⟩, rfl⟩
 refine tS (w7 rfl rfl)<|tS (w7 rfl rfl)<|aS rfl<|aS rfl<|Te<|Ct ?_
 obtain ⟨rfl, rfl⟩ := V9 hm
 exact rT ⟨rfl, rfl⟩ lr
theorem q6G (b : k9) (R : Hp) (a c d) (hm : q1v a c = some d):
 v8 Tryz.prog 158 [.string (a), .int .u8 (c)] b (R) (fun v b' hp' => iv d = v ∧ R = hp') := by
 refine fE 8 Tryz.func158 rfl Tryz.ntmps158 rfl ?_
 unfold q1v at hm
 refine Cr<|aS rfl<|Te<|Cr<|mV rfl<|mV rfl<|tS (z3V j1B j1A j1z j1y j1x rfl (z7v _ _))<|aS rfl<|Te<|Ct ?_
 obtain rfl := o1 hm
 exact rO ⟨rfl, rfl⟩ lr
theorem q9m (b : k9) (R : Hp) (j k e) (hm : q2Z j k = some e):
 v8 Tryz.prog 151 [.string (j), .string (k)] b (R) (fun v b' hp' => iv e = v ∧ R = hp') := by
 refine fE 143 Tryz.func151 rfl Tryz.ntmps151 rfl ?_
 unfold q2Z at hm
 refine Cr<|aS rfl<|Te<|Cr<|mV rfl<|tS (q2b rfl q9W)<|aS rfl<|Te<|Cs<|Cb ?_
 obtain ⟨l, f, g⟩ := bS hm
 refine Cj (fun i e' hp' => [(0, .string (j)), (1, .string (k)), (5, iv ((k.size : Int))), (16, bv l)] = e' ∧ R = hp' ∧ b.Le i) ?_ ?_
 have hm := f
 refine Cg<|mV rfl<|Tb rfl (q1 rfl rfl) (fun c => ?_) (fun c => ?_)
 rw [if_pos c] at hm
 refine mV rfl<|nO<|nO<|nO<|tS (pT rfl rfl)<|aS rfl<|Tn ?_
 obtain rfl := o1 hm
 exact jJ ⟨rfl, rfl, lr⟩
 rw [if_neg c] at hm
 refine mV rfl<|yS<|mV rfl<|yS<|mV rfl<|yS<|tS (z0t rfl rfl)<|tS (pF rfl rfl)<|aS rfl<|Tn ?_
 obtain rfl := o1 hm
 exact jJ ⟨rfl, rfl, lr⟩
 rintro i _ _ ⟨rfl, rfl, a⟩
 have hm := g
 refine cB hm rfl (fun hm => ?_) fun hm => ?_
 refine Cr<|aS rfl<|Te<|Ct<|Xb<|Xr ?_
 obtain rfl := o1 hm
 exact rO ⟨rfl, rfl⟩ a
 refine Cr<|mV rfl<|tS (q1 rfl rfl)<|aS rfl<|Te<|cI hm rfl (fun hm => ?_) fun hm => ?_
 refine Cr<|mV rfl<|mV rfl ?_
 obtain ⟨m, n, hm⟩ := bS hm
 refine tS (z8x rfl rfl n q9W) ?_
 obtain ⟨o, d, hm⟩ := bS hm
 refine tD (uW _ j3S rfl (fun w ho => q6G _ [] j m o d) (fun _ _ _ h => h.2.symm)) ?_
 rintro _ _ ⟨⟨_, rfl, _⟩, rfl⟩
 refine aS rfl<|Te<|Ct<|Xb<|Xr ?_
 obtain rfl := o1 hm
 exact rO ⟨rfl, rfl⟩ a
 refine Cr<|mV rfl<|mV rfl<|tS (q2b rfl q9W)<|tS (q6 rfl rfl)<|aS rfl<|Te<|cI hm rfl (fun hm => ?_) fun hm => ?_
 refine Cr<|aS rfl<|Te<|Ct<|Xb<|Xr ?_
 obtain rfl := o1 hm
 exact rO ⟨rfl, rfl⟩ a
 refine Cr<|mV rfl ?_
 cases hm
theorem q8v (b : k9) (R : Hp) (c d e) (hm : q3V c d = some e):
 v8 Tryz.prog 139 [.string (c), .string (d)] b (R) (fun v b' hp' => iv e = v ∧ R = hp') := by
 refine fE 8 Tryz.func139 rfl Tryz.ntmps139 rfl ?_
 unfold q3V at hm
 refine Cr<|aS rfl<|Te<|Cr<|mV rfl<|mV rfl ?_
 obtain ⟨f, a, hm⟩ := bS hm
 refine tD (uW _ j3T rfl (fun w ho => q9m _ [] c d f a) (fun _ _ _ h => h.2.symm)) ?_
 rintro _ _ ⟨⟨_, rfl, _⟩, rfl⟩
 refine aS rfl<|Te<|Ct ?_
 obtain rfl := o1 hm
 exact rO ⟨rfl, rfl⟩ lr
theorem z3A (b : k9) (R : Hp) (q m j) (hm : q5D q m = some j):
 v8 Tryz.prog 138 [.string (q), .string (m)] b (R) (fun v b' hp' => iv j = v ∧ R = hp') := by
 refine fE 34 Tryz.func138 rfl Tryz.ntmps138 rfl ?_
 unfold q5D at hm
 refine Cr<|aS rfl<|Te<|Cs<|Cr<|mV rfl<|tS (q2b rfl q9W)<|tS (q1 rfl rfl)<|Te<|cI hm rfl (fun hm => ?_) fun hm => ?_
 refine Cr<|mV rfl ?_
 cases hm
 refine Ck<|Xn<|Cs<|Cr<|mV rfl<|tS (q2b rfl q9W)<|tS (q1 rfl rfl)<|Te<|cI hm rfl (fun hm => ?_) fun hm => ?_
 refine Cr<|mV rfl<|mV rfl ?_
 obtain ⟨s, n, hm⟩ := bS hm
 refine tS (z8x rfl rfl n q9W)<|tS (z3V j1G j1F j1E j1D j1C rfl (z7w _ _))<|aS rfl<|Te<|Ct<|Xr ?_
 obtain rfl := o1 hm
 exact rO ⟨rfl, rfl⟩ lr
 refine Ck<|Xn<|Cr<|aS rfl<|Te<|Cb<|lL (q0q fun e k => fun l e' hp' => [(0, .string (e)), (1, .string (m)), (5, iv k)] = e' ∧ R = hp' ∧ b.Le l) hm ⟨rfl, rfl, lr⟩ ?_
 rintro ⟨e, k⟩ l _ _ r ⟨rfl, rfl, c⟩ a d
 unfold q5h at a
 have hm := H0 a
 refine Cb<|Cr<|mV rfl<|mV rfl ?_
 obtain ⟨o, f, hm⟩ := bS hm
 refine tD (uW _ z9U rfl (fun w ho => q8v _ [] e m o f) (fun _ _ _ h => h.2.symm)) ?_
 rintro _ _ ⟨⟨_, rfl, _⟩, rfl⟩
 refine aS rfl<|Te<|Cs<|Cr<|mV rfl<|tS (q1 rfl rfl)<|Te<|cI hm rfl (fun hm => ?_) fun hm => ?_
 refine Cr<|mV rfl<|aS rfl<|Te<|Ct<|Xr<|Xb<|Xr<|Xb ?_
 have hm := congrArg some (d _ (Kd hm).symm)
 obtain rfl := o1 hm
 exact rO ⟨rfl, rfl⟩ c
 refine Ck<|Xn<|Cr<|mV rfl ?_
 obtain ⟨_, g, hm⟩ := bS hm
 have g := (kS g).2
 refine tS (sa rfl rfl g)<|aS rfl<|Te<|Cg<|mV rfl<|mV rfl<|mV rfl<|tS (q2b rfl q9W) ?_
 obtain ⟨_, i, hm⟩ := bS hm
 have i := (kS i).2
 refine tS (sa rfl rfl i) ?_
 obtain ⟨t, p, hm⟩ := bS hm
 refine tS (z0u rfl (.inr ⟨_, _, rfl, rfl⟩) (.inl ⟨rfl, rfl⟩) p q9W)<|aS rfl<|Tn<|Xm ?_
 exact jM hm ⟨rfl, rfl, (c)⟩
theorem q9K (b : k9) (R : Hp) (x1 x2 x3 x4 p) (hm : q0M x1 x2 x3 x4 = some p):
 v8 Tryz.prog 118 [.string (x1), .string (x2), iv x3, iv x4] b (R) (fun v b' hp' => ∃ ae af t, sv ae p af = v ∧ (t ++ R) = hp' ∧ OS 9 (OT.fr RT.str) b'.w (sv ae p af) p t) := by
 refine fE 66 Tryz.func118 rfl Tryz.ntmps118 rfl ?_
 unfold q0M at hm
 refine Cr<|aS rfl<|Te<|Cs<|Cr<|mV rfl<|tS (q1 rfl rfl)<|Te<|cI hm rfl (fun hm => ?_) fun hm => ?_
 refine Cr<|aS rfl<|Te<|Ct<|Xr ?_
 obtain rfl := o1 hm
 exact rO ⟨none, 0, [], rfl, rfl, OS.nil⟩ lr
 refine Ck<|Xn<|Cs<|Cr<|mV rfl<|tS (z0t rfl rfl)<|Te<|cB hm rfl (fun hm => ?_) fun hm => ?_
 refine Cr<|mV rfl<|mV rfl ?_
 cases hm
 refine Ck<|Xn ?_
 obtain ⟨ag, al, am⟩ := bS hm
 refine Cj (fun q e' hp' => [(0, .string (x1)), (1, .string (x2)), (2, iv x3), (3, iv ag)] = e' ∧ R = hp' ∧ b.Le q) ?_ ?_
 have hm := al
 refine Cr<|mV rfl<|tS (q3 rfl rfl)<|Te<|cI hm rfl (fun hm => ?_) fun hm => ?_
 refine Cg<|mV rfl<|mV rfl ?_
 obtain ⟨aB, Y, hm⟩ := bS hm
 refine tD (uW _ j3U rfl (fun w ho => z3A _ [] x1 x2 aB Y) (fun _ _ _ h => h.2.symm)) ?_
 rintro _ _ ⟨⟨_, rfl, _⟩, rfl⟩
 obtain ⟨_, u, hm⟩ := bS hm
 have u := (kS u).2
 refine tS (sa rfl rfl u)<|aS rfl<|Tn ?_
 obtain rfl := o1 hm
 exact jJ ⟨rfl, rfl, lr⟩
 refine Ck ?_
 obtain rfl := o1 hm
 exact jJ ⟨rfl, rfl, lr⟩
 rintro q _ _ ⟨rfl, rfl, Z⟩
 have hm := am
 refine Cr<|mV rfl<|mV rfl<|tS (q2b rfl q9W) ?_
 obtain ⟨_, x, hm⟩ := bS hm
 have x := (kS x).2
 refine tS (sa rfl rfl x)<|tS (j4B rfl rfl)<|aS rfl<|Te<|Cr<|mV rfl ?_
 obtain ⟨y, m, hm⟩ := bS hm
 have m := q2Y m
 refine tD (q0w (r := RT.str) [] R [.string (ByteArray.empty)] ByteArray.empty y rfl m.1 rfl rfl z5o j7y rfl rfl rfl (by decide) rfl m.2.1 m.2.2) ?_
 rintro _ _ ⟨an, rfl, ah⟩
 obtain ⟨c, a, rfl, _⟩ := ah.form
 refine aS rfl<|Te<|Cr<|mV rfl ?_
 obtain ⟨_, z, hm⟩ := bS hm
 have z := (kS z).2
 refine tS (sb rfl rfl z)<|aS rfl<|Te<|Cr<|aS rfl<|Te ?_
 obtain ⟨⟨n, A, f⟩, ao, aq⟩ := bS hm
 refine Cj (fun B e' hp' => ∃ o, [(0, .string (n)), (9, sv c f a), (10, iv A)] = e' ∧ (o ++ R) = hp' ∧ q.Le B ∧ OS 9 (OT.fr RT.str) B.w (sv c f a) f o ∧ f.length = y) ?_ ?_
 have hm := ao
 refine Cb<|lL (q5U fun C D g => fun E e' hp' => ∃ d, [(0, .string (C)), (1, .string (x2)), (2, iv x3), (3, iv ((min ag ((x1.size : Int) + 1)) - 1)), (9, sv c g a), (10, iv D)] = e' ∧ (d ++ R) = hp' ∧ q.Le E ∧ OS 9 (OT.fr RT.str) E.w (sv c g a) g d ∧ g.length = y) hm ⟨an, rfl, rfl, lr, ah, List.length_replicate⟩ ?_
 rintro ⟨C, D, g⟩ E _ _ aT ⟨d, rfl, rfl, j, s, k⟩ e i
 unfold K7 at e
 have hm := q6j e
 refine Cs<|Cr<|mV rfl<|mV rfl<|tS (q3 rfl rfl)<|Te<|cI hm rfl (fun hm => ?_) fun hm => ?_
 refine Ck<|Xn<|Cb<|Cr<|mV rfl<|mV rfl ?_
 obtain ⟨aC, aa, hm⟩ := bS hm
 refine tD (uW _ z9U rfl (fun w ho => q8v _ [] C x2 aC aa) (fun _ _ _ h => h.2.symm)) ?_
 rintro _ _ ⟨⟨_, rfl, _⟩, rfl⟩
 refine aS rfl<|Te<|Cs<|Cr<|mV rfl<|tS (q3 rfl rfl)<|Te<|cI hm rfl (fun hm => ?_) fun hm => ?_
 refine Ce<|Xe<|Xi rfl<|Xe<|Xo ?_
 have hm := congrArg some (i _ (Kd hm).symm)
 obtain ⟨rfl, rfl, rfl⟩ := q7e hm
 exact jJ ⟨d, rfl, rfl, j, s, k⟩
 refine Ck<|Xn<|Cr<|mV rfl<|mV rfl<|mV rfl<|mV rfl<|mV rfl ?_
 obtain ⟨_, F, hm⟩ := bS hm
 have F := (kS F).2
 refine tS (sa rfl rfl F) ?_
 obtain ⟨G, aD, hm⟩ := bS hm
 refine tS (z0u rfl (.inl ⟨rfl, rfl⟩) (.inr ⟨_, _, rfl, rfl⟩) aD q9W) ?_
 obtain ⟨a3, aE, hm⟩ := bS hm
 obtain ⟨aF, H, I⟩ := iS aE
 obtain ⟨aU, aV, a4, a5, aW, ar, aN, au, ab, aX, aO⟩ := OS.get (sz := 1) rfl (by decide) s I
 obtain ⟨rfl, rfl⟩ := ar
 refine tS (sI aF rfl rfl H ab au z5o)<|tD (uP H (sz := 1) (a' := G) rfl [] R 0 1 [.string (G)] rfl s I rfl rfl rfl j7q rfl (mc rfl mn) (fun cs hsj hh => by obtain ⟨rfl, rfl⟩ := hh; exact ⟨by first | decide | exact Nat.le_refl _, rfl, rfl⟩)) ?_
 rintro _ _ ⟨av, rfl, aG⟩
 refine Tr 9 rfl (v' := .slice c (put g D G).length a) (by simp only [Q4])<|Te<|Cr<|mV rfl<|mV rfl<|mV rfl<|tS (q2b rfl q9W) ?_
 obtain ⟨_, J, hm⟩ := bS hm
 have J := (kS J).2
 refine tS (sa rfl rfl J) ?_
 obtain ⟨a6, aH, hm⟩ := bS hm
 refine tS (z0u rfl (.inr ⟨_, _, rfl, rfl⟩) (.inl ⟨rfl, rfl⟩) aH q9W)<|aS rfl<|Te<|Cg<|mV rfl ?_
 obtain ⟨_, K, hm⟩ := bS hm
 have K := (kS K).2
 refine tS (sa rfl rfl K)<|aS rfl<|Tn<|Xm ?_
 exact jM hm ⟨av, rfl, rfl, (j), aG, ((Q4 _ _ _).trans k)⟩
 refine Ce<|Xe<|Xe<|Xo ?_
 have hm := congrArg some (i _ (Kd hm).symm)
 obtain ⟨rfl, rfl, rfl⟩ := q7e hm
 exact jJ ⟨d, rfl, rfl, j, s, k⟩
 rintro B _ _ ⟨o, rfl, rfl, ac, ai, aP⟩
 have hm := q6j aq
 refine Cr<|mV rfl<|mV rfl<|mV rfl ?_
 obtain ⟨a7, aI, hm⟩ := bS hm
 obtain ⟨aJ, L, O⟩ := iS aI
 obtain ⟨aY, aZ, a8, a9, a0, aw, aQ, ax, ad, a1, aR⟩ := OS.get (sz := 1) rfl (by decide) ai O
 obtain ⟨rfl, rfl⟩ := aw
 refine tS (sI aJ rfl rfl L ad ax z5o)<|tD (uP L (sz := 1) (a' := n) rfl [] R 0 1 [.string (n)] rfl ai O rfl rfl rfl j7q rfl (mc rfl mn) (fun cs hsj hh => by obtain ⟨rfl, rfl⟩ := hh; exact ⟨by first | decide | exact Nat.le_refl _, rfl, rfl⟩)) ?_
 rintro _ _ ⟨ay, rfl, aj⟩
 refine Tr 9 rfl (v' := .slice c (put f A n).length a) (by simp only [Q4])<|Te<|Cr<|mV rfl<|mV rfl ?_
 obtain ⟨_, S, hm⟩ := bS hm
 have S := (kS S).2
 refine tS (sa rfl rfl S) ?_
 obtain ⟨ba, aK, hm⟩ := bS hm
 obtain ⟨T, aL, a2, az, U, V, W⟩ := q6B aK
 have aM := OS.lc aj
 refine tS (W ▸ z0v (l := put f A n) T aL rfl (.inl ⟨rfl, by omega⟩) (.inr ⟨_, _, _, rfl, rfl, az⟩) U V aM z5o) ?_
 obtain ⟨X, aA, ak⟩ := OS.sub (sz := 1) rfl aj U V
 rw [← W] at ak
 refine z0r [] ay X R rfl aA<|aS rfl<|Te<|Ct ?_
 obtain rfl := o1 hm
 exact rO ⟨(z2S c a T 1), (a - T), X, rfl, rfl, ak⟩ (Z.trans ac)
theorem q8u (b : k9) (R : Hp) (i j a) (hm : Y4 i j = some a):
 v8 Tryz.prog 91 [.string (i), .string (j)] b (R) (fun v b' hp' => ∃ g h c, sv g a h = v ∧ (c ++ R) = hp' ∧ OS 9 (OT.fr RT.str) b'.w (sv g a h) a c) := by
 refine fE 8 Tryz.func91 rfl Tryz.ntmps91 rfl ?_
 unfold Y4 at hm
 refine Cr<|aS rfl<|Te<|Cr<|mV rfl<|mV rfl ?_
 obtain ⟨k, e, hm⟩ := bS hm
 refine Tg _ rfl j3Y rfl (q9K _ _ i j 0 (-1) k e) ?_
 rintro _ o _ f ⟨l, m, d, rfl, rfl, n⟩
 refine q3x [] [] d R rfl<|aS rfl<|Te<|Ct ?_
 obtain rfl := o1 hm
 exact rO ⟨l, m, d, rfl, rfl, n⟩ f
theorem z7Y (b : k9) (R : Hp) (x1 G n) (hm : q4g x1 = some (G, n)):
 v8 Tryz.prog 52 [.string (x1)] b (R) (fun v b' hp' => ∃ H I s, .tuple #[sv H n I, bv G] = v ∧ (s ++ R) = hp' ∧ OS 22 (OT.fr (RT.list RT.str)) b'.w (sv H n I) n s) := by
 refine fE 31 Tryz.func52 rfl Tryz.ntmps52 rfl ?_
 unfold q4g at hm
 refine Cr<|aS rfl<|aS rfl<|Te<|Cs<|Cr<|mV rfl<|tS (z0t rfl rfl)<|Te<|cB hm rfl (fun hm => ?_) fun hm => ?_
 refine Cr<|aS rfl<|aS rfl<|Te<|Ct<|Xr ?_
 obtain ⟨rfl, rfl⟩ := V9 hm
 exact rT ⟨none, 0, [], rfl, rfl, OS.nil⟩ lr
 refine Ck<|Xn<|Cr<|mV rfl ?_
 obtain ⟨⟨J, K⟩, A, hm⟩ := bS hm
 have hm := H0 hm
 refine tD (uW _ j5n rfl (fun w ho => q9n _ [] x1 (ByteArray.mk #[10]) J K A) (fun _ _ _ h => h.2.symm)) ?_
 rintro _ _ ⟨⟨_, rfl, _⟩, rfl⟩
 refine mV rfl<|tS (w7 rfl rfl)<|tS (w7 rfl rfl)<|aS rfl<|aS rfl<|Te<|Cr<|aS rfl<|Te<|Cs<|Cr<|mV rfl ?_
 obtain ⟨o, B, hm⟩ := bS hm
 refine Tg _ rfl j2v rfl (q8u _ _ J (ByteArray.mk #[10]) o B) ?_
 rintro _ ab _ C ⟨ac, ad, d, rfl, rfl, L⟩
 refine q3x [] [] d R rfl<|tS (sE rfl z5o)<|mV rfl<|Te<|Cb ?_
 have an : o.length ≤ 9223372036854775807 := (OS.len L)
 obtain ⟨f, T, U⟩ := bS hm
 refine lS (fun O => fun f => fun p e' hp' => ∃ k m a, [(5, bv K), (6, sv k f m), (17, sv ac o ad), (18, iv ((o.length : Int))), (19, iv ((O : Int)))] = e' ∧ (a ++ (d ++ R)) = hp' ∧ ab.Le p ∧ OS 22 (OT.fr (RT.list RT.str)) p.w (sv k f m) f a) T ⟨none, 0, [], rfl, rfl, lr, OS.nil⟩ ?_ ?_
 rintro O f p _ _ ao ae ⟨k, m, a, rfl, rfl, c, t⟩ e
 unfold q0x at e
 have hm := e
 refine Cr<|tS (lT rfl rfl (by omega))<|Te<|Cs<|k7 rfl<|Ck<|Xn<|Cs<|Cb<|Cr ?_
 obtain ⟨af, ag, hm⟩ := bS hm
 obtain ⟨ah, V, W⟩ := iS ag
 obtain ⟨aq, ar, aw, ax, au, X, D, Y, E, av, am⟩ := OS.get (sz := 1) rfl (by decide) (L.le c) W
 obtain ⟨rfl, rfl⟩ := X
 refine tS (sI ah rfl rfl V E Y z5o)<|tS (Q3 rfl j6S (fun w ho => D w _ ho (ss a (Kb _ _)) 0 _ rfl))<|aS rfl<|Te<|Cg<|mV rfl<|mV rfl ?_
 obtain ⟨g, F, hm⟩ := bS hm
 refine Tg _ rfl j2v rfl (q8u _ _ af (ByteArray.mk #[32]) g F) ?_
 rintro _ ay _ q ⟨u, x, y, rfl, rfl, ai⟩
 refine q3x [] [] y (a ++ (d ++ R)) rfl<|tD (V3 (el := 22) [(0, sv u g x)] [sv u g x] rfl (fun _ => by kernel_rfl)) ?_
 rintro _ _ ⟨az, rfl, rfl⟩
 refine z8t [_] y (a ++ (d ++ R)) rfl ?_
 intro aA j Z
 have aj := OS.frz (l := g) ai j.cells Z
 obtain ⟨_, z, hm⟩ := bS hm
 have z := W9 z
 refine tD (uQ (r := (RT.list RT.str)) (l := f) [_] (d ++ R) [[sv u g x]] [g] rfl (by decide) j3m j6Z rfl rfl rfl rfl (t.le (q.trans j)) rfl (fun w ho => Rd.own (i := 0) ho rfl) ⟨(RT.list_mk aj), trivial⟩ z) ?_
 rintro _ _ ⟨aa, rfl, S⟩
 obtain ⟨ak, al, rfl, _⟩ := S.form
 refine aS rfl<|Tn<|Xm<|Xn<|Cg<|tS (sa rfl rfl (by omega))<|mV rfl<|Tn ?_
 obtain rfl := o1 hm
 exact jS ⟨ak, al, aa, rfl, rfl, ((c.trans (q.trans j))), S⟩
 rintro p _ _ ⟨k, m, a, rfl, rfl, c, t⟩
 have hm := U
 refine Cr<|tS (lF rfl rfl (by omega))<|Te<|Cs<|w9 rfl<|Ce<|Xe<|Xe<|Xo<|Xn<|Cr<|mV rfl<|mV rfl<|aS rfl<|aS rfl<|Te<|Ct ?_
 obtain ⟨rfl, rfl⟩ := V9 hm
 exact rT ⟨k, m, a, rfl, rfl, t⟩ (C.trans c)
theorem j0i (b : k9) (R : Hp) (k C) (hm : q6v k = some C):
 v8 Tryz.prog 54 [.string (k)] b (R) (fun v b' hp' => bv C = v ∧ R = hp') := by
 refine fE 27 Tryz.func54 rfl Tryz.ntmps54 rfl ?_
 unfold q6v at hm
 refine Cr<|aS rfl<|Te<|Cs<|Cr<|mV rfl ?_
 obtain ⟨_, q, hm⟩ := bS hm
 have q := (kS q).2.2
 refine tD (j3c rfl q9W j3l j3F q) ?_
 rintro _ _ ⟨D, E, tl67, fr68, rfl, rfl, O, S⟩
 refine j4y 0 rfl ?_
 intro T h F
 have G := j1S F O S
 refine tS (sE rfl j3l)<|mV rfl<|Te<|Cb ?_
 have W : (q2a k).length ≤ 9223372036854775807 := (FZ.bd G)
 obtain ⟨Z, H, f⟩ := bS hm
 refine lF (fun r => fun _ => fun i e' hp' => [(0, .string (k)), (6, .slice (some ⟨D, 0, none⟩) (q2a k).length E), (7, iv (((q2a k).length : Int))), (8, iv ((r : Int)))] = e' ∧ R = hp' ∧ T.Le i) H ⟨rfl, rfl, lr⟩ ?_ ?_
 rintro r _ i _ _ X L ⟨rfl, rfl, a⟩ c j
 unfold q3Z at c
 have hm := c
 refine Cr<|tS (lT rfl rfl (by omega))<|Te<|Cs<|k7 rfl<|Ck<|Xn<|Cs<|Cb<|Cr ?_
 obtain ⟨Y, I, U, s, V, t, l, u, m, hm⟩ := bF (sz := 1) hm (G.le a)
 obtain rfl := t
 refine tS (sI I rfl rfl s m u j3l)<|tS (sO rfl j7K (l 0 _ rfl))<|aS rfl<|Te ?_
 obtain ⟨J, w, x⟩ := bS hm
 refine Cj (fun o e' hp' => [(0, .string (k)), (6, .slice (some ⟨D, 0, none⟩) (q2a k).length E), (7, iv (((q2a k).length : Int))), (8, iv ((r : Int))), (17, bv J)] = e' ∧ R = hp' ∧ i.Le o) ?_ ?_
 have hm := w
 refine Cg<|mV rfl<|Tb rfl (q3 rfl rfl) (fun d => ?_) (fun d => ?_)
 rw [if_pos d] at hm
 refine mV rfl<|nO<|nO<|tS (pT rfl rfl)<|Tn ?_
 obtain rfl := o1 hm
 exact jJ ⟨rfl, rfl, lr⟩
 rw [if_neg d] at hm
 refine mV rfl<|yS<|mV rfl<|yS<|tS (q5 rfl rfl)<|tS (pF rfl rfl)<|Tn ?_
 obtain rfl := o1 hm
 exact jJ ⟨rfl, rfl, lr⟩
 rintro o _ _ ⟨rfl, rfl, g⟩
 have hm := x
 refine cB hm rfl (fun hm => ?_) fun hm => ?_
 refine Cr<|aS rfl<|Te<|Ct<|Xb<|Xr<|Xr<|Xb<|Xr ?_
 have y := j _ (Kd hm).symm
 rw [y] at f
 have hm := V8 f
 obtain rfl := o1 hm
 exact rO ⟨rfl, rfl⟩ (h.trans (a.trans g))
 refine Ck<|Xm<|Xn<|Cg<|tS (sa rfl rfl (by omega))<|mV rfl<|Tn ?_
 exact jM hm ⟨rfl, rfl, ((a.trans g))⟩
 rintro _ i _ _ ⟨rfl, rfl, a⟩ z
 rw [z] at f
 have hm := G0 f
 refine Cr<|tS (lF rfl rfl (by omega))<|Te<|Cs<|w9 rfl<|Ce<|Xe<|Xe<|Xo<|Xn ?_
 obtain ⟨K, A, B⟩ := bS hm
 refine Cj (fun p e' hp' => [(2, bv K)] = e' ∧ R = hp' ∧ i.Le p) ?_ ?_
 have hm := A
 refine Cg<|mV rfl<|tS (q2b rfl q9W)<|Tb rfl (q6 rfl rfl) (fun e => ?_) (fun e => ?_)
 rw [if_pos e] at hm
 refine mV rfl<|yS<|mV rfl<|yS<|tS (q2b rfl q9W)<|yS<|tS (q4 rfl rfl)<|tS (pT rfl rfl)<|aS rfl<|Tn ?_
 obtain rfl := o1 hm
 exact jJ ⟨rfl, rfl, lr⟩
 rw [if_neg e] at hm
 refine mV rfl<|nO<|nO<|nO<|tS (pF rfl rfl)<|aS rfl<|Tn ?_
 obtain rfl := o1 hm
 exact jJ ⟨rfl, rfl, lr⟩
 rintro p _ _ ⟨rfl, rfl, n⟩
 have hm := B
 refine Ct ?_
 obtain rfl := o1 hm
 exact rO ⟨rfl, rfl⟩ (h.trans (a.trans n))
theorem z4K (b : k9) (R : Hp) (i s t u) (x : FZ RT.str b.w t u i) (j) (hm : q4H i s = some j):
 v8 Tryz.prog 93 [sv t i u, .string (s)] b (R) (fun v b' hp' => iv j = v ∧ R = hp') := by
 refine fE 19 Tryz.func93 rfl Tryz.ntmps93 rfl ?_
 unfold q4H at hm
 refine Cr<|aS rfl<|Te<|Cs<|Cr<|mV rfl<|tS (sE rfl z5o)<|mV rfl<|Te<|Cb ?_
 have y : i.length ≤ 9223372036854775807 := (FZ.bd x)
 obtain ⟨C, k, d⟩ := bS hm
 refine lF (fun l => fun _ => fun f e' hp' => [(0, sv t i u), (1, .string (s)), (7, iv ((i.length : Int))), (8, iv ((l : Int)))] = e' ∧ R = hp' ∧ b.Le f) k ⟨rfl, rfl, lr⟩ ?_ ?_
 rintro l _ f _ _ z r ⟨rfl, rfl, a⟩ c e
 unfold q2g at c
 have hm := c
 refine Cr<|tS (lT rfl rfl (by omega))<|Te<|Cs<|k7 rfl<|Ck<|Xn<|Cs<|Cb<|Cr<|mV rfl<|aS rfl<|Te<|Cr<|mV rfl<|mV rfl<|mV rfl ?_
 obtain ⟨D, w, A, m, B, n, g, o, h, hm⟩ := bF (sz := 1) hm (x.le a)
 obtain rfl := n
 refine tS (sI w rfl rfl m h o z5o)<|tS (sO rfl j6S (g 0 _ rfl))<|tS (z0t rfl rfl)<|Te<|cB hm rfl (fun hm => ?_) fun hm => ?_
 refine Cr<|mV rfl<|aS rfl<|Te<|Ct<|Xb<|Xr<|Xr<|Xb<|Xr ?_
 have p := e _ (Kd hm).symm
 rw [p] at d
 have hm := V8 d
 obtain rfl := o1 hm
 exact rO ⟨rfl, rfl⟩ a
 refine Ck<|Xm<|Xn<|Cg<|tS (sa rfl rfl (by omega))<|mV rfl<|Tn ?_
 exact jM hm ⟨rfl, rfl, (a)⟩
 rintro _ f _ _ ⟨rfl, rfl, a⟩ q
 rw [q] at d
 have hm := G0 d
 refine Cr<|tS (lF rfl rfl (by omega))<|Te<|Cs<|w9 rfl<|Ce<|Xe<|Xe<|Xo<|Xn<|Cr<|aS rfl<|Te<|Ct ?_
 obtain rfl := o1 hm
 exact rO ⟨rfl, rfl⟩ a
theorem z1h (b : k9) (R : Hp) (c d e f) (i : FZ RT.str b.w e f c) (g) (hm : q1y c d = some g):
 v8 Tryz.prog 55 [sv e c f, .string (d)] b (R) (fun v b' hp' => bv g = v ∧ R = hp') := by
 refine fE 9 Tryz.func55 rfl Tryz.ntmps55 rfl ?_
 unfold q1y at hm
 refine Cr<|aS rfl<|Te<|Cr<|mV rfl<|mV rfl ?_
 obtain ⟨j, a, hm⟩ := bS hm
 refine tD (uW _ j5m rfl (fun w ho => z4K _ [] c d e f (i.old ho) j a) (fun _ _ _ h => h.2.symm)) ?_
 rintro _ _ ⟨⟨_, rfl, _⟩, rfl⟩
 refine tS (q6 rfl rfl)<|aS rfl<|Te<|Ct ?_
 obtain rfl := o1 hm
 exact rO ⟨rfl, rfl⟩ lr
theorem z1r (b : k9) (R : Hp) (a c) (hm : q4q a = some c):
 v8 Tryz.prog 94 [iv a] b (R) (fun v b' hp' => iv c = v ∧ R = hp') := by
 refine fE 10 Tryz.func94 rfl Tryz.ntmps94 rfl ?_
 unfold q4q at hm
 refine Cr<|aS rfl<|Te<|Cs<|Cr<|mV rfl<|Te<|Cb<|Cr<|tS (q1 rfl rfl)<|aS rfl<|Te<|cI hm rfl (fun hm => ?_) fun hm => ?_
 refine Cr<|aS rfl<|Te<|Ct<|Xb<|Xr ?_
 obtain rfl := o1 hm
 exact rO ⟨rfl, rfl⟩ lr
 refine Cr<|tS (q1 rfl rfl)<|aS rfl<|Te<|cI hm rfl (fun hm => ?_) fun hm => ?_
 refine Cr<|aS rfl<|Te<|Ct<|Xb<|Xr ?_
 obtain rfl := o1 hm
 exact rO ⟨rfl, rfl⟩ lr
 refine Cr<|tS (q1 rfl rfl)<|aS rfl<|Te<|cI hm rfl (fun hm => ?_) fun hm => ?_
 refine Cr<|aS rfl<|Te<|Ct<|Xb<|Xr ?_
 obtain rfl := o1 hm
 exact rO ⟨rfl, rfl⟩ lr
 refine Ck<|Xm<|Xn<|Cr<|aS rfl<|Te<|Ct ?_
 obtain rfl := o1 hm
 exact rO ⟨rfl, rfl⟩ lr
theorem H8 (b : k9) (R : Hp) (i j k d) (hm : V6 i j k = some d):
 v8 Tryz.prog 79 [iv i, iv j, iv k] b (R) (fun v b' hp' => bv d = v ∧ R = hp') := by
 refine fE 15 Tryz.func79 rfl Tryz.ntmps79 rfl ?_
 unfold V6 at hm
 refine Cr<|aS rfl<|Te ?_
 obtain ⟨h, e, f⟩ := bS hm
 refine Cj (fun g e' hp' => [(6, bv h)] = e' ∧ R = hp' ∧ b.Le g) ?_ ?_
 have hm := e
 refine Cg<|mV rfl<|mV rfl<|Tb rfl (q6 rfl rfl) (fun a => ?_) (fun a => ?_)
 rw [if_pos a] at hm
 refine mV rfl<|yS<|mV rfl<|yS<|mV rfl<|yS<|tS (q4 rfl rfl)<|tS (pT rfl rfl)<|aS rfl<|Tn ?_
 obtain rfl := o1 hm
 exact jJ ⟨rfl, rfl, lr⟩
 rw [if_neg a] at hm
 refine mV rfl<|nO<|nO<|nO<|tS (pF rfl rfl)<|aS rfl<|Tn ?_
 obtain rfl := o1 hm
 exact jJ ⟨rfl, rfl, lr⟩
 rintro g _ _ ⟨rfl, rfl, c⟩
 have hm := f
 refine Ct ?_
 obtain rfl := o1 hm
 exact rO ⟨rfl, rfl⟩ c
theorem q9t (b : k9) (R : Hp) (a : j0) (T U) (hm : q0z a T = some U):
 v8 Tryz.prog 56 [.agg #[iv a.Kind, iv a.Length, iv a.Grade, iv a.Speed, iv a.Slow, iv a.Station, bv a.Axles], iv T] b (R) (fun v b' hp' => iv U = v ∧ R = hp') := by
 refine fE 84 Tryz.func56 rfl Tryz.ntmps56 rfl ?_
 unfold q0z at hm
 refine Cr<|tD (uB _ rfl rfl) ?_
 rintro _ _ ⟨z, rfl, rfl⟩
 refine aS rfl<|Te<|Cs<|Di mixed (.refl _)<|E0 0 rfl (sF rfl q3w)<|Es 1 rfl (sL 0 rfl Q8 rfl rfl)<|E0 2 rfl (q1 rfl rfl)<|E0 3 rfl (sF rfl q3w)<|Es 4 rfl (sL 0 rfl Q8 rfl rfl)<|E0 5 rfl (q1 rfl rfl)<|E0 6 rfl (sF rfl q3w)<|Es 7 rfl (sL 0 rfl Q8 rfl rfl)<|E0 8 rfl (q1 rfl rfl)<|E0 9 rfl (sA rfl)<|E0 10 rfl (sA rfl)<|E0 11 rfl (sA rfl)<|Eo<|Dd (by kernel_rfl)<|Xn<|Cs<|Cb<|Cr<|tS (sF rfl q3w)<|tS (sL 0 rfl Q8 rfl rfl) ?_
 obtain ⟨ae, G, hm⟩ := bS hm
 refine tD (uW _ z9N rfl (fun w ho => z1r _ [] a.Kind ae G) (fun _ _ _ h => h.2.symm)) ?_
 rintro _ _ ⟨⟨_, rfl, _⟩, rfl⟩
 refine tS (q1 rfl rfl)<|aS rfl<|Te<|cI hm rfl (fun hm => ?_) fun hm => ?_
 refine Cr<|aS rfl<|Te<|Ct<|Xb<|Xr ?_
 obtain rfl := o1 hm
 exact rO ⟨rfl, rfl⟩ lr
 obtain ⟨af, V, W⟩ := bS hm
 refine Cj (fun H e' hp' => [(1, iv T), (2, pb z), (5, .bool (decide (a.Kind = 2))), (6, .bool (decide (a.Kind = 1))), (7, .bool (decide (a.Kind = 3))), (22, bv af)] = e' ∧ (z, Cl 108 [iv a.Kind, iv a.Length, iv a.Grade, iv a.Speed, iv a.Slow, iv a.Station, bv a.Axles]) :: R = hp' ∧ b.Le H) ?_ ?_
 have hm := V
 refine Cg<|tS (sF rfl z6Q)<|tS (sL 0 rfl Q8 rfl rfl) ?_
 obtain ⟨X, I, hm⟩ := bS hm
 refine tD (uW _ q4R rfl (fun w ho => H8 _ [] a.Length 10 3000 X I) (fun _ _ _ h => h.2.symm)) ?_
 rintro _ _ ⟨⟨_, rfl, _⟩, rfl⟩
 rcases Kg X with g | g
 rw [if_pos g] at hm
 refine Tr 25 rfl (v' := .bool true) (by rw [g] <;> rfl)<|tS (Y7 rfl)<|mV rfl<|yS<|tS (sF rfl q8o)<|yS<|tS (sL 0 rfl Q8 rfl rfl)<|yS ?_
 obtain ⟨Y, J, hm⟩ := bS hm
 refine tD (uW _ q4R rfl (fun w ho => H8 _ [] a.Grade (-40) 40 Y J) (fun _ _ _ h => h.2.symm)) ?_
 rintro _ _ ⟨⟨_, rfl, _⟩, rfl⟩
 rcases Kg Y with c | c
 rw [if_pos c] at hm
 refine Tr 30 rfl (v' := .bool true) (by rw [c] <;> rfl)<|yS<|tS (Y7 rfl)<|tS (pF rfl rfl)<|mV rfl<|yS<|tS (sF rfl z6P)<|yS<|tS (sL 0 rfl Q8 rfl rfl)<|yS ?_
 obtain ⟨Z, A, hm⟩ := bS hm
 refine tD (uW _ q4R rfl (fun w ho => H8 _ [] a.Speed 300 6000 Z A) (fun _ _ _ h => h.2.symm)) ?_
 rintro _ _ ⟨⟨_, rfl, _⟩, rfl⟩
 refine yS<|tS (sn2 rfl)<|tS (pF rfl rfl)<|aS rfl<|Tn ?_
 obtain rfl := o1 hm
 exact jJ ⟨rfl, rfl, lr⟩
 rw [if_neg (fun hh => Bool.noConfusion (hh.symm.trans c))] at hm
 refine Tr 30 rfl (v' := .bool false) (by rw [c] <;> rfl)<|yS<|tS (q0r rfl)<|tS (pF rfl rfl)<|mV rfl<|nO<|nO<|nO<|nO<|tS (pT rfl rfl)<|aS rfl<|Tn ?_
 obtain rfl := o1 hm
 exact jJ ⟨rfl, rfl, lr⟩
 rw [if_neg (fun hh => Bool.noConfusion (hh.symm.trans g))] at hm
 refine Tr 25 rfl (v' := .bool false) (by rw [g] <;> rfl)<|tS (q0r rfl)<|mV rfl<|nO<|nO<|nO<|nO<|tS (pT rfl rfl)<|mV rfl<|nO<|nO<|nO<|nO<|tS (pT rfl rfl)<|aS rfl<|Tn ?_
 obtain rfl := o1 hm
 exact jJ ⟨rfl, rfl, lr⟩
 rintro H _ _ ⟨rfl, rfl, e⟩
 have hm := W
 refine cB hm rfl (fun hm => ?_) fun hm => ?_
 refine Cr<|aS rfl<|Te<|Ct<|Xb<|Xr ?_
 obtain rfl := o1 hm
 exact rO ⟨rfl, rfl⟩ e
 obtain ⟨aa, K, L⟩ := bS hm
 refine Cj (fun y e' hp' => [(2, pb z), (5, .bool (decide (a.Kind = 2))), (6, .bool (decide (a.Kind = 1))), (7, .bool (decide (a.Kind = 3))), (39, bv aa)] = e' ∧ (z, Cl 108 [iv a.Kind, iv a.Length, iv a.Grade, iv a.Speed, iv a.Slow, iv a.Station, bv a.Axles]) :: R = hp' ∧ H.Le y) ?_ ?_
 have hm := K
 refine Cg<|Tb rfl (sM rfl) (fun i => ?_) (fun i => ?_)
 rw [if_pos i] at hm
 refine mV rfl<|yS<|tS (sF rfl z6O)<|yS<|tS (sL 0 rfl Q8 rfl rfl)<|yS<|tS (sF rfl z6P)<|yS<|tS (sL 0 rfl Q8 rfl rfl)<|yS ?_
 obtain ⟨E, B, hm⟩ := bS hm
 refine tD (uW _ q4R rfl (fun w ho => H8 _ [] a.Slow 300 a.Speed E B) (fun _ _ _ h => h.2.symm)) ?_
 rintro _ _ ⟨⟨_, rfl, _⟩, rfl⟩
 rcases Kg E with d | d
 rw [if_pos d] at hm
 refine Tr 46 rfl (v' := .bool true) (by rw [d] <;> rfl)<|yS<|tS (Y7 rfl)<|tS (pT rfl rfl)<|mV rfl<|yS<|Tb rfl (sM rfl) (fun j => ?_) (fun j => ?_)
 rw [if_pos j] at hm
 refine yS<|mV rfl<|yS<|tS (sF rfl q8n)<|yS<|tS (sL 0 rfl Q8 rfl rfl)<|yS<|mV rfl<|yS ?_
 obtain ⟨ab, C, hm⟩ := bS hm
 refine tD (uW _ q4R rfl (fun w ho => H8 _ [] a.Station 0 T ab C) (fun _ _ _ h => h.2.symm)) ?_
 rintro _ _ ⟨⟨_, rfl, _⟩, rfl⟩
 refine yS<|tS (sn2 rfl)<|yS<|tS (pT rfl rfl)<|tS (pF rfl rfl)<|aS rfl<|Tn ?_
 obtain rfl := o1 hm
 exact jJ ⟨rfl, rfl, lr⟩
 rw [if_neg j] at hm
 refine yS<|mV rfl<|nO<|nO<|nO<|nO<|nO<|yS<|tS (pF rfl rfl)<|tS (pF rfl rfl)<|aS rfl<|Tn ?_
 obtain rfl := o1 hm
 exact jJ ⟨rfl, rfl, lr⟩
 rw [if_neg (fun hh => Bool.noConfusion (hh.symm.trans d))] at hm
 refine Tr 46 rfl (v' := .bool false) (by rw [d] <;> rfl)<|yS<|tS (q0r rfl)<|tS (pT rfl rfl)<|mV rfl<|nO<|nO<|nO<|nO<|nO<|nO<|nO<|nO<|tS (pT rfl rfl)<|aS rfl<|Tn ?_
 obtain rfl := o1 hm
 exact jJ ⟨rfl, rfl, lr⟩
 rw [if_neg i] at hm
 refine mV rfl<|nO<|nO<|nO<|nO<|nO<|nO<|tS (pF rfl rfl)<|mV rfl<|yS<|Tb rfl (sM rfl) (fun k => ?_) (fun k => ?_)
 rw [if_pos k] at hm
 refine yS<|mV rfl<|yS<|tS (sF rfl q8n)<|yS<|tS (sL 0 rfl Q8 rfl rfl)<|yS<|mV rfl<|yS ?_
 obtain ⟨ac, D, hm⟩ := bS hm
 refine tD (uW _ q4R rfl (fun w ho => H8 _ [] a.Station 0 T ac D) (fun _ _ _ h => h.2.symm)) ?_
 rintro _ _ ⟨⟨_, rfl, _⟩, rfl⟩
 refine yS<|tS (sn2 rfl)<|yS<|tS (pT rfl rfl)<|tS (pF rfl rfl)<|aS rfl<|Tn ?_
 obtain rfl := o1 hm
 exact jJ ⟨rfl, rfl, lr⟩
 rw [if_neg k] at hm
 refine yS<|mV rfl<|nO<|nO<|nO<|nO<|nO<|yS<|tS (pF rfl rfl)<|tS (pF rfl rfl)<|aS rfl<|Tn ?_
 obtain rfl := o1 hm
 exact jJ ⟨rfl, rfl, lr⟩
 rintro y _ _ ⟨rfl, rfl, f⟩
 have hm := L
 refine cB hm rfl (fun hm => ?_) fun hm => ?_
 refine Cr<|aS rfl<|Te<|Ct<|Xb<|Xr ?_
 obtain rfl := o1 hm
 exact rO ⟨rfl, rfl⟩ (e.trans f)
 obtain ⟨ad, O, S⟩ := bS hm
 refine Cj (fun F e' hp' => [(59, bv ad)] = e' ∧ R = hp' ∧ y.Le F) ?_ ?_
 have hm := O
 refine Cg<|tS (sF rfl z6O)<|tS (sL 0 rfl Q8 rfl rfl)<|Tb rfl (q2 rfl rfl) (fun l => ?_) (fun l => ?_)
 rw [if_pos l] at hm
 refine mV rfl<|yS<|Tb rfl (sM rfl) (fun m => ?_) (fun m => ?_)
 rw [if_pos m] at hm
 refine yS<|tS (Y7 rfl)<|tS (pT rfl rfl)<|mV rfl<|yS<|tS (sF rfl q8n)<|yS<|tS (sL 0 rfl Q8 rfl rfl)<|yS<|Tb rfl (q2 rfl rfl) (fun n => ?_) (fun n => ?_)
 rw [if_pos n] at hm
 refine yS<|mV rfl<|yS<|Tb rfl (sM rfl) (fun o => ?_) (fun o => ?_)
 rw [if_pos o] at hm
 refine yS<|tS (Y7 rfl)<|yS<|tS (pT rfl rfl)<|tS (pF rfl rfl)<|mV rfl<|yS<|tS (sF rfl q8o)<|yS<|tS (sL 0 rfl Q8 rfl rfl)<|yS<|Tb rfl (q2 rfl rfl) (fun p => ?_) (fun p => ?_)
 rw [if_pos p] at hm
 refine yS<|mV rfl<|yS<|mV rfl<|yS<|tS (pT rfl rfl)<|tS (pF rfl rfl)<|aS rfl<|Tn ?_
 obtain rfl := o1 hm
 exact jJ ⟨rfl, rfl, lr⟩
 rw [if_neg p] at hm
 refine yS<|mV rfl<|nO<|yS<|tS (pF rfl rfl)<|tS (pF rfl rfl)<|aS rfl<|Tn ?_
 obtain rfl := o1 hm
 exact jJ ⟨rfl, rfl, lr⟩
 rw [if_neg o] at hm
 refine yS<|tS (q0r rfl)<|yS<|tS (pT rfl rfl)<|tS (pF rfl rfl)<|mV rfl<|nO<|nO<|nO<|nO<|nO<|nO<|tS (pT rfl rfl)<|aS rfl<|Tn ?_
 obtain rfl := o1 hm
 exact jJ ⟨rfl, rfl, lr⟩
 rw [if_neg n] at hm
 refine yS<|mV rfl<|nO<|nO<|yS<|tS (pF rfl rfl)<|tS (pF rfl rfl)<|mV rfl<|yS<|tS (sF rfl q8o)<|yS<|tS (sL 0 rfl Q8 rfl rfl)<|yS<|Tb rfl (q2 rfl rfl) (fun q => ?_) (fun q => ?_)
 rw [if_pos q] at hm
 refine yS<|mV rfl<|yS<|mV rfl<|yS<|tS (pT rfl rfl)<|tS (pF rfl rfl)<|aS rfl<|Tn ?_
 obtain rfl := o1 hm
 exact jJ ⟨rfl, rfl, lr⟩
 rw [if_neg q] at hm
 refine yS<|mV rfl<|nO<|yS<|tS (pF rfl rfl)<|tS (pF rfl rfl)<|aS rfl<|Tn ?_
 obtain rfl := o1 hm
 exact jJ ⟨rfl, rfl, lr⟩
 rw [if_neg m] at hm
 refine yS<|tS (q0r rfl)<|tS (pT rfl rfl)<|mV rfl<|nO<|nO<|nO<|nO<|nO<|nO<|nO<|tS (pT rfl rfl)<|mV rfl<|nO<|nO<|nO<|nO<|nO<|nO<|tS (pT rfl rfl)<|aS rfl<|Tn ?_
 obtain rfl := o1 hm
 exact jJ ⟨rfl, rfl, lr⟩
 rw [if_neg l] at hm
 refine mV rfl<|nO<|nO<|tS (pF rfl rfl)<|mV rfl<|yS<|tS (sF rfl q8n)<|yS<|tS (sL 0 rfl Q8 rfl rfl)<|yS<|Tb rfl (q2 rfl rfl) (fun r => ?_) (fun r => ?_)
 rw [if_pos r] at hm
 refine yS<|mV rfl<|yS<|Tb rfl (sM rfl) (fun s => ?_) (fun s => ?_)
 rw [if_pos s] at hm
 refine yS<|tS (Y7 rfl)<|yS<|tS (pT rfl rfl)<|tS (pF rfl rfl)<|mV rfl<|yS<|tS (sF rfl q8o)<|yS<|tS (sL 0 rfl Q8 rfl rfl)<|yS<|Tb rfl (q2 rfl rfl) (fun t => ?_) (fun t => ?_)
 rw [if_pos t] at hm
 refine yS<|mV rfl<|yS<|mV rfl<|yS<|tS (pT rfl rfl)<|tS (pF rfl rfl)<|aS rfl<|Tn ?_
 obtain rfl := o1 hm
 exact jJ ⟨rfl, rfl, lr⟩
 rw [if_neg t] at hm
 refine yS<|mV rfl<|nO<|yS<|tS (pF rfl rfl)<|tS (pF rfl rfl)<|aS rfl<|Tn ?_
 obtain rfl := o1 hm
 exact jJ ⟨rfl, rfl, lr⟩
 rw [if_neg s] at hm
 refine yS<|tS (q0r rfl)<|yS<|tS (pT rfl rfl)<|tS (pF rfl rfl)<|mV rfl<|nO<|nO<|nO<|nO<|nO<|nO<|tS (pT rfl rfl)<|aS rfl<|Tn ?_
 obtain rfl := o1 hm
 exact jJ ⟨rfl, rfl, lr⟩
 rw [if_neg r] at hm
 refine yS<|mV rfl<|nO<|nO<|yS<|tS (pF rfl rfl)<|tS (pF rfl rfl)<|mV rfl<|yS<|tS (sF rfl q8o)<|yS<|tS (sL 0 rfl Q8 rfl rfl)<|yS<|Tb rfl (q2 rfl rfl) (fun u => ?_) (fun u => ?_)
 rw [if_pos u] at hm
 refine yS<|mV rfl<|yS<|mV rfl<|yS<|tS (pT rfl rfl)<|tS (pF rfl rfl)<|aS rfl<|Tn ?_
 obtain rfl := o1 hm
 exact jJ ⟨rfl, rfl, lr⟩
 rw [if_neg u] at hm
 refine yS<|mV rfl<|nO<|yS<|tS (pF rfl rfl)<|tS (pF rfl rfl)<|aS rfl<|Tn ?_
 obtain rfl := o1 hm
 exact jJ ⟨rfl, rfl, lr⟩
 rintro F _ _ ⟨rfl, rfl, x⟩
 have hm := S
 refine cB hm rfl (fun hm => ?_) fun hm => ?_
 refine Cr<|aS rfl<|Te<|Ct<|Xb<|Xr ?_
 obtain rfl := o1 hm
 exact rO ⟨rfl, rfl⟩ (e.trans (f.trans x))
 refine Ck<|Xm<|Xn<|Cr<|aS rfl<|Te<|Ct ?_
 obtain rfl := o1 hm
 exact rO ⟨rfl, rfl⟩ (e.trans (f.trans x))
theorem z3G (b : k9) (R : Hp) (e : j3) (f : v7) (J K L O S T z A B C) (h4 : FZ RT.str b.w J K e.Stations) (W : FZ j4 b.w L O e.Sections) (X : FZ Q0 b.w S T e.Links) (Y : FZ j6 b.w z A e.Signals) (Z : FZ Q1 b.w B C e.Gates) (p) (hm : q5F e f = some p):
 v8 Tryz.prog 95 [.agg #[sv J e.Stations K, sv L e.Sections O, sv S e.Links T, sv z e.Signals A, sv B e.Gates C], .agg #[iv f.section_, iv f.end_]] b (R) (fun v b' hp' => bv p = v ∧ R = hp') := by
 refine fE 26 Tryz.func95 rfl Tryz.ntmps95 rfl ?_
 unfold q5F at hm
 refine Cr<|tD (uB _ rfl rfl) ?_
 rintro _ _ ⟨U, rfl, rfl⟩
 refine tD (uB _ rfl rfl) ?_
 rintro _ _ ⟨V, rfl, rfl⟩
 refine aS rfl<|Te ?_
 obtain ⟨D, s, t⟩ := bS hm
 refine Cj (fun q e' hp' => [(4, bv D)] = e' ∧ R = hp' ∧ b.Le q) ?_ ?_
 have hm := s
 obtain ⟨_, c, hm⟩ := bS hm
 obtain ⟨g, d, hm⟩ := bS hm
 rcases Kg g with a | a
 rw [if_pos a] at hm
 obtain ⟨E, F, hm⟩ := bS hm
 obtain ⟨r, k, hm⟩ := bS hm
 obtain ⟨_, i, hm⟩ := bS hm
 obtain ⟨G, l, hm⟩ := bS hm
 refine Di mixed (.refl _)<|E0 0 rfl (sF rfl q1Z)<|Es 1 rfl (sL 0 rfl Q8 rfl rfl)<|E0 2 rfl (sF rfl q0B)<|Es 3 rfl (sL 1 rfl q5f rfl rfl)<|E0 4 rfl (sE rfl z1y) ?_
 have c := (kS c).2
 refine E0 5 rfl (sb rfl rfl c)<|Eo<|Da [6] (by kernel_rfl) rfl<|Rd2 lr rfl rfl (uW _ q4R rfl (fun w ho => H8 _ [] f.section_ 0 ((e.Sections.length : Int) - 1) g d) (fun _ _ _ h => h.2.symm)) ?_ ?_
 rintro _ _ ⟨⟨_, rfl, _⟩, rfl⟩
 refine iR<|q3S 11 rfl (v' := .bool true) (by rw [a])<|Ei lr (.refl _)<|E0 7 rfl (sM rfl)<|Yz 8 12 rfl (sF rfl q4N)<|Ey 9 12 rfl (sL 0 rfl Q8 rfl rfl)<|Yz 10 12 rfl (sF rfl q0B)<|Ey 11 12 rfl (sL 1 rfl q5f rfl rfl)<|Yz 12 12 rfl (sF rfl q1Z)<|Ey 13 12 rfl (sL 0 rfl Q8 rfl rfl) ?_
 obtain ⟨H, u, x⟩ := iS F
 obtain ⟨I, y, m, j, n⟩ := FZ.get (sz := 7) rfl (by decide) W x
 obtain ⟨_, _, rfl, rfl, ⟨_, _, rfl, rfl, ⟨_, _, rfl, rfl, ⟨_, _, rfl, rfl, ⟨_, _, rfl, rfl, ⟨_, _, rfl, rfl, rfl⟩⟩⟩⟩⟩⟩ := y
 refine Yz 14 12 rfl (sI H rfl rfl u n j z1y)<|Yz 15 12 rfl (sQ rfl j q3w)<|Ey 16 12 rfl (sO rfl Q8 (m 0 _ rfl))<|Eo<|Da [17] (by kernel_rfl) rfl<|q3j lr rfl rfl 12 rfl rfl rfl (uW _ z9N rfl (fun w ho => z1r _ [] E.Kind r k) (fun _ _ _ h => h.2.symm)) ?_ ?_
 rintro _ _ ⟨⟨_, rfl, _⟩, rfl⟩
 refine iR ?_
 have i := (kS i).2
 refine Ei lr (.refl _)<|Yz 18 12 rfl (sb rfl rfl i)<|Eo<|Da [19] (by kernel_rfl) rfl<|q3j lr rfl rfl 12 rfl rfl rfl (uW _ q4R rfl (fun w ho => H8 _ [] f.end_ 0 (r - 1) G l) (fun _ _ _ h => h.2.symm)) ?_ ?_
 rintro _ _ ⟨⟨_, rfl, _⟩, rfl⟩
 refine iR<|Ei lr (.refl _)<|E0 20 rfl (pT rfl rfl)<|E0 21 rfl (sA rfl)<|Eo<|Dd (by kernel_rfl) ?_
 obtain rfl := o1 hm
 exact jJ ⟨rfl, rfl, lr⟩
 exact Rn
 exact Rn
 exact Rn
 rw [if_neg (fun hh => Bool.noConfusion (hh.symm.trans a))] at hm
 refine Di mixed (.refl _)<|E0 0 rfl (sF rfl q1Z)<|Es 1 rfl (sL 0 rfl Q8 rfl rfl)<|E0 2 rfl (sF rfl q0B)<|Es 3 rfl (sL 1 rfl q5f rfl rfl)<|E0 4 rfl (sE rfl z1y) ?_
 have c := (kS c).2
 refine E0 5 rfl (sb rfl rfl c)<|Eo<|Da [6] (by kernel_rfl) rfl<|Rd2 lr rfl rfl (uW _ q4R rfl (fun w ho => H8 _ [] f.section_ 0 ((e.Sections.length : Int) - 1) g d) (fun _ _ _ h => h.2.symm)) ?_ ?_
 rintro _ _ ⟨⟨_, rfl, _⟩, rfl⟩
 refine iR<|q3S 11 rfl (v' := .bool false) (by rw [a])<|Ei lr (.refl _)<|E0 7 rfl (sM rfl)<|eN 8 rfl<|eN 9 rfl<|eN 10 rfl<|eN 11 rfl<|eN 12 rfl<|eN 13 rfl<|eN 14 rfl<|eN 15 rfl<|eN 16 rfl<|eN 17 rfl<|eN 18 rfl<|eN 19 rfl<|E0 20 rfl (pF rfl rfl)<|E0 21 rfl (sA rfl)<|Eo<|Dd (by kernel_rfl) ?_
 obtain rfl := o1 hm
 exact jJ ⟨rfl, rfl, lr⟩
 exact Rn
 rintro q _ _ ⟨rfl, rfl, o⟩
 have hm := t
 refine Ct ?_
 obtain rfl := o1 hm
 exact rO ⟨rfl, rfl⟩ o
theorem z4T (b : k9) (R : Hp) (a c) (hm : q6x a = some c):
 v8 Tryz.prog 120 [iv a] b (R) (fun v b' hp' => bv c = v ∧ R = hp') := by
 refine fE 6 Tryz.func120 rfl Tryz.ntmps120 rfl ?_
 unfold q6x at hm
 refine Cr<|aS rfl<|Te<|Cr<|mV rfl<|mV rfl<|tS (q2 rfl rfl)<|aS rfl<|Te<|Ct ?_
 obtain rfl := o1 hm
 exact rO ⟨rfl, rfl⟩ lr
theorem q5Q (b : k9) (R : Hp) (e f d) (hm : H5 e f = some d):
 v8 Tryz.prog 97 [iv e, iv f] b (R) (fun v b' hp' => iv d = v ∧ R = hp') := by
 refine fE 20 Tryz.func97 rfl Tryz.ntmps97 rfl ?_
 unfold H5 at hm
 refine Cr<|aS rfl<|Te<|Cr<|mV rfl ?_
 obtain ⟨g, a, hm⟩ := bS hm
 refine tD (uW _ z9V rfl (fun w ho => z4T _ [] e g a) (fun _ _ _ h => h.2.symm)) ?_
 rintro _ _ ⟨⟨_, rfl, _⟩, rfl⟩
 refine aS rfl<|Te<|Cr<|mV rfl ?_
 obtain ⟨i, c, hm⟩ := bS hm
 refine tD (uW _ z9V rfl (fun w ho => z4T _ [] f i c) (fun _ _ _ h => h.2.symm)) ?_
 rintro _ _ ⟨⟨_, rfl, _⟩, rfl⟩
 refine aS rfl<|Te<|Cs<|Cr<|mV rfl<|Te<|cB hm rfl (fun hm => ?_) fun hm => ?_
 refine Cs<|Cr<|mV rfl<|Te<|cB hm rfl (fun hm => ?_) fun hm => ?_
 refine Cr<|aS rfl<|Te<|Ct<|Xr<|Xr ?_
 obtain rfl := o1 hm
 exact rO ⟨rfl, rfl⟩ lr
 refine Ck<|Xn<|Cr<|aS rfl<|Te<|Ct<|Xr ?_
 obtain rfl := o1 hm
 exact rO ⟨rfl, rfl⟩ lr
 refine Ck<|Xn<|Cs<|Cr<|mV rfl<|Te<|cB hm rfl (fun hm => ?_) fun hm => ?_
 refine Cr<|aS rfl<|Te<|Ct<|Xr ?_
 obtain rfl := o1 hm
 exact rO ⟨rfl, rfl⟩ lr
 refine Ck<|Xn<|Cs<|Cr<|mV rfl<|mV rfl<|tS (q3 rfl rfl)<|Te<|cI hm rfl (fun hm => ?_) fun hm => ?_
 refine Cr<|aS rfl<|Te<|Ct<|Xr ?_
 obtain rfl := o1 hm
 exact rO ⟨rfl, rfl⟩ lr
 refine Ck<|Xn<|Cs<|Cr<|mV rfl<|mV rfl<|tS (q5 rfl rfl)<|Te<|cI hm rfl (fun hm => ?_) fun hm => ?_
 refine Cr<|aS rfl<|Te<|Ct<|Xr ?_
 obtain rfl := o1 hm
 exact rO ⟨rfl, rfl⟩ lr
 refine Ck<|Xn<|Cr<|aS rfl<|Te<|Ct ?_
 obtain rfl := o1 hm
 exact rO ⟨rfl, rfl⟩ lr
theorem j2J (b : k9) (R : Hp) (i s t) (w : FZ rI b.w s t i) (j) (hm : q8f i = some j):
 v8 Tryz.prog 96 [sv s i t] b (R) (fun v b' hp' => iv j = v ∧ R = hp') := by
 refine fE 18 Tryz.func96 rfl Tryz.ntmps96 rfl ?_
 unfold q8f at hm
 refine Cr<|aS rfl<|Te<|Cr<|aS rfl<|Te<|Cs<|Cr<|mV rfl<|tS (sE rfl q5y)<|mV rfl<|Te<|Cb ?_
 have x : i.length ≤ 9223372036854775807 := (FZ.bd w)
 obtain ⟨B, k, d⟩ := bS hm
 refine lF (fun l => fun _ => fun f e' hp' => [(3, iv 0), (6, sv s i t), (7, iv ((i.length : Int))), (8, iv ((l : Int)))] = e' ∧ R = hp' ∧ b.Le f) k ⟨rfl, rfl, lr⟩ ?_ ?_
 rintro l _ f _ _ y r ⟨rfl, rfl, a⟩ c e
 unfold q6Z at c
 have hm := c
 refine Cr<|tS (lT rfl rfl (by omega))<|Te<|Cs<|k7 rfl<|Ck<|Xn<|Cs<|Cb<|Cr ?_
 obtain ⟨C, u, z, m, A, n, g, o, h, hm⟩ := bF (sz := 1) hm (w.le a)
 obtain rfl := n
 refine tS (sI u rfl rfl m h o q5y)<|tS (sO rfl Q8 (g 0 _ rfl))<|aS rfl<|Te<|Cr<|mV rfl<|mV rfl<|tS (q2 rfl rfl)<|Te<|cI hm rfl (fun hm => ?_) fun hm => ?_
 refine Cr<|mV rfl<|aS rfl<|Te<|Ct<|Xb<|Xr<|Xr<|Xb<|Xr ?_
 have p := e _ (Kd hm).symm
 rw [p] at d
 have hm := V8 d
 obtain rfl := o1 hm
 exact rO ⟨rfl, rfl⟩ a
 refine Ck<|Xm<|Xn<|Cg<|tS (sa rfl rfl (by omega))<|mV rfl<|Tn ?_
 exact jM hm ⟨rfl, rfl, (a)⟩
 rintro _ f _ _ ⟨rfl, rfl, a⟩ q
 rw [q] at d
 have hm := G0 d
 refine Cr<|tS (lF rfl rfl (by omega))<|Te<|Cs<|w9 rfl<|Ce<|Xe<|Xe<|Xo<|Xn<|Cr<|mV rfl<|aS rfl<|Te<|Ct ?_
 obtain rfl := o1 hm
 exact rO ⟨rfl, rfl⟩ a
theorem z1s (b : k9) (R : Hp) (i : j3) (A2 c3 A5 c6 W X K L O S) (h4 : FZ RT.str b.w A2 c3 i.Stations) (h7 : FZ j4 b.w A5 c6 i.Sections) (ah : FZ Q0 b.w W X i.Links) (bj : FZ j6 b.w K L i.Signals) (bk : FZ Q1 b.w O S i.Gates) (a2) (hm : q1J i = some a2):
 v8 Tryz.prog 57 [.agg #[sv A2 i.Stations c3, sv A5 i.Sections c6, sv W i.Links X, sv K i.Signals L, sv O i.Gates S]] b (R) (fun v b' hp' => iv a2 = v ∧ R = hp') := by
 refine fE 85 Tryz.func57 rfl Tryz.ntmps57 rfl ?_
 unfold q1J at hm
 refine Cr<|tD (uB _ rfl rfl) ?_
 rintro _ _ ⟨t, rfl, rfl⟩
 refine aS rfl<|Te<|Cr<|tD (q4E z3a (OT.fr RT.bool) true false [_] R rfl) ?_
 rintro _ _ ⟨E, a3, rfl, rfl, bl⟩
 refine aS rfl<|Te<|Cs<|Cr<|tS (sF rfl q9l)<|tS (sL 0 rfl z7G rfl rfl)<|tS (sE rfl j0z)<|mV rfl<|Te<|Cb ?_
 have bs : i.Links.length ≤ 9223372036854775807 := (FZ.bd ah)
 obtain ⟨bt, aA, f⟩ := bS hm
 refine lF (fun s => fun Y => fun F e' hp' => ∃ g, [(1, pb t), (3, .map (some E)), (11, sv W i.Links X), (12, iv ((i.Links.length : Int))), (13, iv ((s : Int)))] = e' ∧ (t, Cl 28 [sv A2 i.Stations c3, sv A5 i.Sections c6, sv W i.Links X, sv K i.Signals L, sv O i.Gates S]) :: (g ++ R) = hp' ∧ b.Le F ∧ OM z3a (OT.fr RT.bool) true false F.w E Y g) aA ⟨a3, rfl, rfl, lr, bl⟩ ?_ ?_
 rintro s Y F _ _ bu bm ⟨g, rfl, rfl, c, T⟩ G r
 unfold q0u at G
 have hm := G
 refine Cr<|tS (lT rfl rfl (by omega))<|Te<|Cs<|k7 rfl<|Ck<|Xn<|Cs<|Cb<|Cr<|mV rfl ?_
 obtain ⟨a, a4, bn, aB, bo, aC, ai, af, aj, hm⟩ := bF (sz := 4) hm (ah.le c)
 obtain ⟨_, _, rfl, rfl, ⟨_, _, rfl, rfl, ⟨_, _, rfl, rfl, rfl⟩⟩⟩ := aC
 refine tS (sI a4 rfl rfl aB aj af j0z)<|tS (sP (vs := [iv a.A, iv a.EndA, iv a.B, iv a.EndB]) 4 rfl z7l af rfl (fun j u hu => ai j u hu))<|tD (uA [iv 0, iv 0, iv 0, iv 0] z5h rfl) ?_
 rintro _ _ ⟨U, rfl, rfl⟩
 refine aS rfl<|tD (uN (vs := [_, _, _, _]) 0 4 rfl rfl rfl z8B rfl (mc rfl (mc rfl (mc rfl (mc rfl mn)))) rfl (by simp)) ?_
 rintro _ _ rfl
 refine Te ?_
 obtain ⟨_, aD, aE⟩ := bS hm
 refine Cj (fun Z e' hp' => ∃ m n, [(1, pb t), (3, .map (some E)), (4, iv ((s : Int))), (5, pb U), (6, pb m), (7, pb n), (11, sv W i.Links X), (12, iv ((i.Links.length : Int))), (13, iv ((s : Int)))] = e' ∧ (t, Cl 28 [sv A2 i.Stations c3, sv A5 i.Sections c6, sv W i.Links X, sv K i.Signals L, sv O i.Gates S]) :: (U, Cl 145 [iv a.A, iv a.EndA, iv a.B, iv a.EndB]) :: (m, Cl 131 [iv a.A, iv a.EndA]) :: (n, Cl 131 [iv a.B, iv a.EndB]) :: (g ++ R) = hp' ∧ F.Le Z) ?_ ?_
 have hm := aD
 refine Di mixed (.refl _)<|E0 0 rfl (sF rfl q3v)<|Es 1 rfl (sL 0 rfl Q8 rfl rfl)<|E0 2 rfl (sF rfl q8l)<|Es 3 rfl (sL 0 rfl Q8 rfl rfl)<|E0 4 rfl (sB (v := .agg #[iv a.A, iv a.EndA]) [(0, iv a.A), (1, iv a.EndA)] rfl (fun _ => by kernel_rfl))<|E0 5 rfl (sF rfl q4M)<|Es 6 rfl (sL 0 rfl Q8 rfl rfl)<|E0 7 rfl (sF rfl z3q)<|Es 8 rfl (sL 0 rfl Q8 rfl rfl) ?_
 refine E0 9 rfl (sB (v := .agg #[iv a.B, iv a.EndB]) [(0, iv a.B), (1, iv a.EndB)] rfl (fun _ => by kernel_rfl))<|Eo<|Da [10, 11] (by kernel_rfl) rfl<|Rd2 lr rfl rfl (uA [iv 0, iv 0] q2W rfl) ?_ ?_
 rintro _ _ ⟨aa, rfl, rfl⟩
 refine iR<|Da [11] (by kernel_rfl) rfl<|Rd2 lr rfl rfl (uA [iv 0, iv 0] q2W rfl) ?_ ?_
 rintro _ _ ⟨ab, rfl, rfl⟩
 refine iR<|Da [12] (by kernel_rfl) rfl<|Rd2 lr rfl rfl (uN (vs := [_, _]) 1 2 rfl rfl rfl q3R rfl (mc rfl (mc rfl mn)) rfl (by simp)) ?_ ?_
 rintro _ _ rfl
 refine iR<|Da [13] (by kernel_rfl) rfl<|Rd2 lr rfl rfl (uN (vs := [_, _]) 0 2 rfl rfl rfl q3R rfl (mc rfl (mc rfl mn)) rfl (by simp)) ?_ ?_
 rintro _ _ rfl
 refine ⟨.inl (by kernel_rfl), ?_⟩
 refine Dd (by kernel_rfl) ?_
 clear hm
 exact jJ ⟨aa, ab, rfl, rfl, lr⟩
 exact Rn
 exact Rn
 exact Rn
 refine Rd2 lr rfl rfl (uA [iv 0, iv 0] q2W rfl) ?_ ?_
 rintro _ _ ⟨ab, rfl, rfl⟩
 refine iR<|Da [10] (by kernel_rfl) rfl<|Rd2 lr rfl rfl (uA [iv 0, iv 0] q2W rfl) ?_ ?_
 rintro _ _ ⟨aa, rfl, rfl⟩
 refine iR<|Da [12] (by kernel_rfl) rfl<|Rd2 lr rfl rfl (uN (vs := [_, _]) 0 2 rfl rfl rfl q3R rfl (mc rfl (mc rfl mn)) rfl (by simp)) ?_ ?_
 rintro _ _ rfl
 refine iR<|Da [13] (by kernel_rfl) rfl<|Rd2 lr rfl rfl (uN (vs := [_, _]) 1 2 rfl rfl rfl q3R rfl (mc rfl (mc rfl mn)) rfl (by simp)) ?_ ?_
 rintro _ _ rfl
 refine ⟨.inl (by kernel_rfl), ?_⟩
 refine Dd (by kernel_rfl) ?_
 clear hm
 exact jJ ⟨aa, ab, rfl, rfl, lr⟩
 exact Rn
 exact Rn
 exact Rn
 exact Rn
 rintro Z _ _ ⟨m, n, rfl, rfl, d⟩
 have hm := aE
 refine Cs<|Cb ?_
 obtain ⟨a5, aF, aG⟩ := bS hm
 refine Cj (fun H e' hp' => [(1, pb t), (3, .map (some E)), (4, iv ((s : Int))), (5, pb U), (6, pb m), (7, pb n), (11, sv W i.Links X), (12, iv ((i.Links.length : Int))), (13, iv ((s : Int))), (28, bv a5)] = e' ∧ (t, Cl 28 [sv A2 i.Stations c3, sv A5 i.Sections c6, sv W i.Links X, sv K i.Signals L, sv O i.Gates S]) :: (U, Cl 145 [iv a.A, iv a.EndA, iv a.B, iv a.EndB]) :: (m, Cl 131 [iv a.A, iv a.EndA]) :: (n, Cl 131 [iv a.B, iv a.EndB]) :: (g ++ R) = hp' ∧ Z.Le H) ?_ ?_
 have hm := aF
 refine Cg<|tS (sD (vs := [_, _, _, _, _]) 0 5 rfl P0 rfl rfl rfl)<|tS (sD (vs := [_, _]) 2 2 rfl q2V rfl rfl rfl) ?_
 obtain ⟨ak, al, hm⟩ := bS hm
 have zz := c.trans d
 refine tD (uW _ z9M rfl (fun w ho => z3G _ [] i (⟨a.A, a.EndA⟩ : v7) A2 c3 A5 c6 W X K L O S ((h4.le zz).old ho) ((h7.le zz).old ho) ((ah.le zz).old ho) ((bj.le zz).old ho) ((bk.le zz).old ho) ak al) (fun _ _ _ h => h.2.symm)) ?_
 rintro _ _ ⟨⟨_, rfl, _⟩, rfl⟩
 rcases Kg ak with y | y
 rw [if_pos y] at hm
 refine Tr 31 rfl (v' := .bool true) (by rw [y] <;> rfl)<|tS (Y7 rfl)<|mV rfl<|yS<|tS (sD (vs := [_, _, _, _, _]) 0 5 rfl P0 rfl rfl rfl)<|yS<|tS (sD (vs := [_, _]) 3 2 rfl q2V rfl rfl rfl)<|yS ?_
 obtain ⟨a6, am, hm⟩ := bS hm
 refine tD (uW _ z9M rfl (fun w ho => z3G _ [] i (⟨a.B, a.EndB⟩ : v7) A2 c3 A5 c6 W X K L O S ((h4.le zz).old ho) ((h7.le zz).old ho) ((ah.le zz).old ho) ((bj.le zz).old ho) ((bk.le zz).old ho) a6 am) (fun _ _ _ h => h.2.symm)) ?_
 rintro _ _ ⟨⟨_, rfl, _⟩, rfl⟩
 refine yS<|tS (sn2 rfl)<|tS (pF rfl rfl)<|aS rfl<|Tn ?_
 obtain rfl := o1 hm
 exact jJ ⟨rfl, rfl, lr⟩
 rw [if_neg (fun hh => Bool.noConfusion (hh.symm.trans y))] at hm
 refine Tr 31 rfl (v' := .bool false) (by rw [y] <;> rfl)<|tS (q0r rfl)<|mV rfl<|nO<|nO<|nO<|nO<|tS (pT rfl rfl)<|aS rfl<|Tn ?_
 obtain rfl := o1 hm
 exact jJ ⟨rfl, rfl, lr⟩
 rintro H _ _ ⟨rfl, rfl, e⟩
 have hm := aG
 refine cB hm rfl (fun hm => ?_) fun hm => ?_
 refine Cr<|aS rfl<|Te<|Ct<|Xb<|Xr<|Xb<|Xr<|Xr<|Xb<|Xr ?_
 have aH := r _ (Kd hm).symm
 rw [aH] at f
 have hm := V8 f
 obtain rfl := o1 hm
 exact rO ⟨rfl, rfl⟩ (c.trans (d.trans e))
 refine Cr<|tS (sF rfl q3v)<|tS (sL 1 rfl Q8 rfl rfl)<|tS (sF rfl q4M)<|tS (sL 1 rfl Q8 rfl rfl)<|tS (q1 rfl rfl)<|aS rfl<|Te<|cI hm rfl (fun hm => ?_) fun hm => ?_
 refine Cr<|aS rfl<|Te<|Ct<|Xb<|Xr<|Xb<|Xr<|Xr<|Xb<|Xr ?_
 have aI := r _ (Kd hm).symm
 rw [aI] at f
 have hm := V8 f
 obtain rfl := o1 hm
 exact rO ⟨rfl, rfl⟩ (c.trans (d.trans e))
 refine Cr<|tS (sF rfl q3v)<|tS (sL 1 rfl Q8 rfl rfl)<|tS (sF rfl q4M)<|tS (sL 1 rfl Q8 rfl rfl)<|tS (q5 rfl rfl)<|aS rfl<|Te<|cI hm rfl (fun hm => ?_) fun hm => ?_
 refine Cr<|aS rfl<|Te<|Ct<|Xb<|Xr<|Xb<|Xr<|Xr<|Xb<|Xr ?_
 have aJ := r _ (Kd hm).symm
 rw [aJ] at f
 have hm := V8 f
 obtain rfl := o1 hm
 exact rO ⟨rfl, rfl⟩ (c.trans (d.trans e))
 refine Ck<|Xm<|Xn ?_
 obtain ⟨a7, aK, B⟩ := bS hm
 refine Cj (fun ac e' hp' => [(1, pb t), (3, .map (some E)), (6, pb m), (7, pb n), (11, sv W i.Links X), (12, iv ((i.Links.length : Int))), (13, iv ((s : Int)))] = e' ∧ (t, Cl 28 [sv A2 i.Stations c3, sv A5 i.Sections c6, sv W i.Links X, sv K i.Signals L, sv O i.Gates S]) :: (m, Cl 131 [iv a.A, iv a.EndA]) :: (n, Cl 131 [iv a.B, iv a.EndB]) :: (g ++ R) = hp' ∧ H.Le ac ∧ a7 = .inl ()) ?_ ?_
 have hm := aK
 refine Cr<|mV rfl<|tS (q5 rfl rfl)<|Te<|cI hm rfl (fun hm => ?_) fun hm => ?_
 refine Cr<|tS (sF rfl q9l)<|tS (sL 0 rfl z7G rfl rfl)<|mV rfl ?_
 obtain ⟨_, ad, hm⟩ := bS hm
 have ad := (kS ad).2
 refine tS (sb rfl rfl ad) ?_
 obtain ⟨A, a8, bp, aL, bq, aM, an, ag, ao, hm⟩ := bF (sz := 4) hm (ah.le (c.trans (d.trans e)))
 obtain ⟨_, _, rfl, rfl, ⟨_, _, rfl, rfl, ⟨_, _, rfl, rfl, rfl⟩⟩⟩ := aM
 refine tS (sI a8 rfl rfl aL ao ag j0z)<|tS (sP (vs := [iv A.A, iv A.EndA, iv A.B, iv A.EndB]) 4 rfl z7l ag rfl (fun j u hu => an j u hu))<|tD (uA [iv 0, iv 0, iv 0, iv 0] z5h rfl) ?_
 rintro _ _ ⟨bw, rfl, rfl⟩
 refine tD (uN (vs := [_, _, _, _]) 0 4 rfl rfl rfl z8B rfl (mc rfl (mc rfl (mc rfl (mc rfl mn)))) rfl (by simp)) ?_
 rintro _ _ rfl
 refine Te ?_
 obtain ⟨a9, aN, aO⟩ := bS hm
 refine Cj (fun aq e' hp' => [(1, pb t), (3, .map (some E)), (6, pb m), (7, pb n), (11, sv W i.Links X), (12, iv ((i.Links.length : Int))), (13, iv ((s : Int))), (71, bv a9)] = e' ∧ (t, Cl 28 [sv A2 i.Stations c3, sv A5 i.Sections c6, sv W i.Links X, sv K i.Signals L, sv O i.Gates S]) :: (m, Cl 131 [iv a.A, iv a.EndA]) :: (n, Cl 131 [iv a.B, iv a.EndB]) :: (g ++ R) = hp' ∧ H.Le aq) ?_ ?_
 have hm := aN
 obtain ⟨p, ar, hm⟩ := bS hm
 obtain ⟨q, au, hm⟩ := bS hm
 obtain ⟨ba, av, hm⟩ := bS hm
 refine Di mixed (.refl _)<|E0 0 rfl (sF rfl q3v)<|Es 1 rfl (sL 0 rfl Q8 rfl rfl)<|E0 2 rfl (sF rfl q3v)<|Es 3 rfl (sL 2 rfl Q8 rfl rfl)<|E0 5 rfl (sF rfl q8l)<|Es 6 rfl (sL 0 rfl Q8 rfl rfl)<|E0 7 rfl (sF rfl q8l)<|Es 8 rfl (sL 2 rfl Q8 rfl rfl)<|Eo<|Da [4] (by kernel_rfl) rfl<|Rd2 lr rfl rfl (uW _ z6W rfl (fun w ho => q5Q _ [] A.A a.A p ar) (fun _ _ _ h => h.2.symm)) ?_ ?_
 rintro _ _ ⟨⟨_, rfl, _⟩, rfl⟩
 refine iR<|Da [9] (by kernel_rfl) rfl<|Rd2 lr rfl rfl (uW _ z6W rfl (fun w ho => q5Q _ [] A.EndA a.EndA q au) (fun _ _ _ h => h.2.symm)) ?_ ?_
 rintro _ _ ⟨⟨_, rfl, _⟩, rfl⟩
 refine iR<|Da [10] (by kernel_rfl) rfl ?_
 refine Rd2 lr rfl rfl (V3 (el := 3) [(0, iv p), (1, iv q)] [iv p, iv q] rfl (fun _ => by kernel_rfl)) ?_ ?_
 rintro _ _ ⟨I, rfl, rfl⟩
 refine iR<|j3M 0 [_, _, _, _, _] (g ++ R) rfl rfl ?_
 have bb : OS 3 (OT.fr rI) H.w (.slice (some ⟨I, 0, none⟩) 2 2) [p, q] [(I, Cl 3 [iv p, iv q])] := OS.lit [[iv p], [iv q]] rfl ⟨rfl, ⟨rfl, trivial⟩⟩ rfl (by decide)
 refine Da [11] (by kernel_rfl) rfl<|Rd2 lr rfl rfl (uW _ j2u rfl (fun w ho => j2J _ [] [p, q] (some ⟨I, 0, none⟩) 2 (OS.now (o := (OT.fr rI)) (l := [p, q]) (hs := [(I, Cl 3 [iv p, iv q])]) bb ho (.cons _ (.cons _ (.cons _ (.cons _ (.cons _ (Kb _ _))))))) ba av) (fun _ _ _ h => h.2.symm)) ?_ ?_
 rintro _ _ ⟨⟨_, rfl, _⟩, rfl⟩
 refine iR<|Ei lr (.cons_cons _ (.cons_cons _ (.cons_cons _ (.cons_cons _ (.cons_cons _ (ss [(I, Cl 3 [iv p, iv q])] (.refl _)))))))<|E0 12 rfl (q6 rfl rfl)<|Eo<|Dd (by kernel_rfl) ?_
 obtain rfl := o1 hm
 exact jJ ⟨rfl, rfl, lr⟩
 exact Rn
 exact Rn
 exact Rn
 exact Rn
 rintro aq _ _ ⟨rfl, rfl, V⟩
 have hm := aO
 refine cB hm rfl (fun hm => ?_) fun hm => ?_
 refine Cr<|aS rfl<|Te<|Ct<|Xr<|Xb<|Xr<|Xr<|Xb<|Xr ?_
 have aP := (Kd hm).symm
 rw [aP] at B
 have hm := V8 B
 have aQ := r _ (Kd hm).symm
 rw [aQ] at f
 have hm := V8 f
 obtain rfl := o1 hm
 exact rO ⟨rfl, rfl⟩ (c.trans (d.trans (e.trans V)))
 refine Ck ?_
 have hq := (Kd hm).symm
 exact jJ ⟨rfl, rfl, V, hq⟩
 refine Ck ?_
 have hq := (Kd hm).symm
 exact jJ ⟨rfl, rfl, lr, hq⟩
 rintro ac _ _ ⟨rfl, rfl, x, aR⟩
 rw [aR] at B
 have hm := G0 B
 refine Cs ?_
 obtain ⟨bc, aT, aU⟩ := bS hm
 refine Cj (fun aw e' hp' => [(1, pb t), (3, .map (some E)), (6, pb m), (7, pb n), (11, sv W i.Links X), (12, iv ((i.Links.length : Int))), (13, iv ((s : Int))), (79, bv bc)] = e' ∧ (t, Cl 28 [sv A2 i.Stations c3, sv A5 i.Sections c6, sv W i.Links X, sv K i.Signals L, sv O i.Gates S]) :: (m, Cl 131 [iv a.A, iv a.EndA]) :: (n, Cl 131 [iv a.B, iv a.EndB]) :: (g ++ R) = hp' ∧ ac.Le aw) ?_ ?_
 have hm := aT
 refine Cg<|mV rfl<|tS (sD (vs := [_, _]) 1 2 rfl q2V rfl rfl rfl) ?_
 obtain ⟨ae, bd, hm⟩ := bS hm
 have aV := Kd bd
 obtain ⟨ax, C, aW⟩ := OM.lookF z6D (z0 := false) (T.le (d.trans (e.trans x))) (key := .agg #[iv a.A, iv a.EndA]) (k := (⟨a.A, a.EndA⟩ : v7)) ⟨[iv a.A, iv a.EndA], rfl, ⟨[iv a.A], _, rfl, rfl, rfl⟩⟩ z3i j0D rfl
 rw [aV] at C
 obtain rfl : ax = bv ae := by have C : [ax] = [bv ae] := C; injection C
 refine tS (q6V (ok := false) rfl rfl (fun w ho => aW _ w ho (.cons _ (.cons _ (.cons _ (Kb _ _)))) false)) ?_
 rcases Kg ae with z | z
 rw [if_pos z] at hm
 refine Tr 74 rfl (v' := .bool true) (by rw [z] <;> rfl)<|mV rfl<|nO<|nO<|nO<|tS (pT rfl rfl)<|Tn ?_
 obtain rfl := o1 hm
 exact jJ ⟨rfl, rfl, lr⟩
 rw [if_neg (fun hh => Bool.noConfusion (hh.symm.trans z))] at hm
 refine Tr 74 rfl (v' := .bool false) (by rw [z] <;> rfl)<|mV rfl<|yS<|mV rfl<|yS<|tS (sD (vs := [_, _]) 2 2 rfl q2V rfl rfl rfl)<|yS ?_
 obtain ⟨ay, be, hm⟩ := bS hm
 have aX := Kd be
 obtain ⟨az, D, aY⟩ := OM.lookF z6D (z0 := false) (T.le (d.trans (e.trans x))) (key := .agg #[iv a.B, iv a.EndB]) (k := (⟨a.B, a.EndB⟩ : v7)) ⟨[iv a.B, iv a.EndB], rfl, ⟨[iv a.B], _, rfl, rfl, rfl⟩⟩ z3i j0D rfl
 rw [aX] at D
 obtain rfl : az = bv ay := by have D : [az] = [bv ay] := D; injection D
 refine tS (q6V (ok := false) rfl rfl (fun w ho => aY _ w ho (.cons _ (.cons _ (.cons _ (Kb _ _)))) false))<|tS (pF rfl rfl)<|Tn ?_
 obtain rfl := o1 hm
 exact jJ ⟨rfl, rfl, lr⟩
 rintro aw _ _ ⟨rfl, rfl, J⟩
 have hm := aU
 refine cB hm rfl (fun hm => ?_) fun hm => ?_
 refine Cr<|aS rfl<|Te<|Ct<|Xr<|Xb<|Xr<|Xr<|Xb<|Xr ?_
 have aZ := r _ (Kd hm).symm
 rw [aZ] at f
 have hm := V8 f
 obtain rfl := o1 hm
 exact rO ⟨rfl, rfl⟩ (c.trans (d.trans (e.trans (x.trans J))))
 refine Ck<|Xn<|Di mixed (.cons_cons _ (.cons_cons _ (.cons_cons _ (ss g (.refl _)))))<|E0 0 rfl (sM rfl)<|Es 1 rfl (sD (vs := [_, _]) 1 2 rfl q2V rfl rfl rfl)<|E0 2 rfl (sM rfl)<|Es 3 rfl (sD (vs := [_, _]) 2 2 rfl q2V rfl rfl rfl)<|Eo<|Da [4] (by kernel_rfl) rfl ?_
 have zy := d.trans (e.trans (x.trans J))
 refine Rd2 lr rfl rfl (z0n (k := (⟨a.A, a.EndA⟩ : v7)) z6D [_, _, _] [] R rfl (T.le zy) z3i rfl rfl rfl (⟨[iv a.A, iv a.EndA], rfl, ⟨[iv a.A], _, rfl, rfl, rfl⟩⟩) ⟨rfl, rfl⟩ _ (.inl rfl)) ?_ ?_
 rintro _ _ ⟨br, rfl, bh, bf⟩
 refine iR<|Da [5] (by kernel_rfl) rfl<|Rd2 lr rfl rfl (z0n (k := (⟨a.B, a.EndB⟩ : v7)) z6D [_, _, _] [] R rfl bf z3i rfl rfl rfl (⟨[iv a.B, iv a.EndB], rfl, ⟨[iv a.B], _, rfl, rfl, rfl⟩⟩) ⟨rfl, rfl⟩ _ (.inl rfl)) ?_ ?_
 rintro _ _ ⟨a0, rfl, bi, bg⟩
 refine ⟨.inl (by kernel_rfl), ?_⟩
 refine Dd (by kernel_rfl)<|Xm<|Xn<|Cg<|tS (sa rfl rfl (by omega))<|mV rfl<|Tn ?_
 exact jM hm ⟨a0, rfl, rfl, ((c.trans zy)), bg⟩
 exact Rn
 exact Rn
 rintro Y F _ _ ⟨g, rfl, rfl, c, T⟩ a1
 rw [a1] at f
 have hm := G0 f
 refine Cr<|tS (lF rfl rfl (by omega))<|Te<|Cs<|w9 rfl<|Ce<|Xe<|Xe<|Xo<|Xn<|Cr<|aS rfl<|Te<|Ct ?_
 obtain rfl := o1 hm
 exact rO ⟨rfl, rfl⟩ c
theorem q3i (b : k9) (R : Hp) (h : j3) (f : v7) (A2 c3 A5 c6 K L O S T U) (h4 : FZ RT.str b.w A2 c3 h.Stations) (h7 : FZ j4 b.w A5 c6 h.Sections) (V : FZ Q0 b.w K L h.Links) (ai : FZ j6 b.w O S h.Signals) (aj : FZ Q1 b.w T U h.Gates) (W X Y) (hm : Y1 h f = some (W, X, Y)):
 v8 Tryz.prog 98 [.agg #[sv A2 h.Stations c3, sv A5 h.Sections c6, sv K h.Links L, sv O h.Signals S, sv T h.Gates U], .agg #[iv f.section_, iv f.end_]] b (R) (fun v b' hp' => .tuple #[.agg #[iv W, iv X], bv Y] = v ∧ R = hp') := by
 refine fE 53 Tryz.func98 rfl Tryz.ntmps98 rfl ?_
 unfold Y1 at hm
 refine Cr<|tD (uB _ rfl rfl) ?_
 rintro _ _ ⟨ak, rfl, rfl⟩
 refine tD (uB _ rfl rfl) ?_
 rintro _ _ ⟨q, rfl, rfl⟩
 refine tD (uA [iv 0, iv 0] q2W rfl) ?_
 rintro _ _ ⟨r, rfl, rfl⟩
 refine aS rfl<|Te<|Cs<|Cr<|tS (sF rfl q9l)<|tS (sL 2 rfl z7G rfl rfl)<|tS (sE rfl j0z)<|mV rfl<|Te<|Cb ?_
 have af : h.Links.length ≤ 9223372036854775807 := (FZ.bd V)
 refine Cp 1 rfl ?_
 obtain ⟨ag, A, d⟩ := bS hm
 refine lF (fun m => fun _ => fun n e' hp' => [(3, pb q), (4, pb r), (9, sv K h.Links L), (10, iv ((h.Links.length : Int))), (11, iv ((m : Int)))] = e' ∧ (q, Cl 131 [iv f.section_, iv f.end_]) :: (r, Cl 131 [iv 0, iv 0]) :: R = hp' ∧ b.Le n) A ⟨rfl, rfl, lr⟩ ?_ ?_
 rintro m _ n _ _ ah ac ⟨rfl, rfl, c⟩ e i
 unfold q1G at e
 have hm := e
 refine Cr<|tS (lT rfl rfl (by omega))<|Te<|Cs<|k7 rfl<|Ck<|Xn<|Cs<|Cb<|Cr ?_
 obtain ⟨a, Z, ad, B, ae, C, x, s, y, hm⟩ := bF (sz := 4) hm (V.le c)
 obtain ⟨_, _, rfl, rfl, ⟨_, _, rfl, rfl, ⟨_, _, rfl, rfl, rfl⟩⟩⟩ := C
 refine tS (sI Z rfl rfl B y s j0z)<|tS (sP (vs := [iv a.A, iv a.EndA, iv a.B, iv a.EndB]) 4 rfl z7l s rfl (fun j u hu => x j u hu))<|tD (uA [iv 0, iv 0, iv 0, iv 0] z5h rfl) ?_
 rintro _ _ ⟨o, rfl, rfl⟩
 refine tD (uN (vs := [_, _, _, _]) 0 4 rfl rfl rfl z8B rfl (mc rfl (mc rfl (mc rfl (mc rfl mn)))) rfl (by simp)) ?_
 rintro _ _ rfl
 refine Te<|Cb ?_
 obtain ⟨aa, D, E⟩ := bS hm
 refine Cj (fun t e' hp' => [(3, pb q), (4, pb r), (7, pb o), (9, sv K h.Links L), (10, iv ((h.Links.length : Int))), (11, iv ((m : Int))), (15, bv aa)] = e' ∧ (q, Cl 131 [iv f.section_, iv f.end_]) :: (r, Cl 131 [iv 0, iv 0]) :: (o, Cl 145 [iv a.A, iv a.EndA, iv a.B, iv a.EndB]) :: R = hp' ∧ n.Le t) ?_ ?_
 have hm := D
 refine Cg<|tS (sF rfl q3v)<|tS (sL 0 rfl Q8 rfl rfl)<|tS (sF rfl q1Z)<|tS (sL 1 rfl Q8 rfl rfl)<|Tb rfl (q1 rfl rfl) (fun k => ?_) (fun k => ?_)
 rw [if_pos k] at hm
 refine mV rfl<|yS<|tS (sF rfl q8l)<|yS<|tS (sL 0 rfl Q8 rfl rfl)<|yS<|tS (sF rfl q4N)<|yS<|tS (sL 1 rfl Q8 rfl rfl)<|yS<|tS (q1 rfl rfl)<|tS (pT rfl rfl)<|aS rfl<|Tn ?_
 obtain rfl := o1 hm
 exact jJ ⟨rfl, rfl, lr⟩
 rw [if_neg k] at hm
 refine mV rfl<|nO<|nO<|nO<|nO<|nO<|tS (pF rfl rfl)<|aS rfl<|Tn ?_
 obtain rfl := o1 hm
 exact jJ ⟨rfl, rfl, lr⟩
 rintro t _ _ ⟨rfl, rfl, g⟩
 have hm := E
 refine cB hm rfl (fun hm => ?_) fun hm => ?_
 refine Cr<|tS (sF rfl q4M)<|tS (sL 2 rfl Q8 rfl rfl)<|tS (sF rfl z3q)<|tS (sL 2 rfl Q8 rfl rfl)<|tS (sB (v := .agg #[iv a.B, iv a.EndB]) [(0, iv a.B), (1, iv a.EndB)] rfl (fun _ => by kernel_rfl))<|tD (uN (vs := [_, _]) 1 2 rfl rfl rfl q3R rfl (mc rfl (mc rfl mn)) rfl (by simp)) ?_
 rintro _ _ rfl
 refine aS rfl<|Te<|Ct<|Xb<|Xb<|Xr<|Xr<|Xb<|Xr ?_
 have F := i _ (Kd hm).symm
 rw [F] at d
 have hm := V8 d
 obtain ⟨rfl, rfl, rfl⟩ := q7e hm
 exact rM (rs := [.cell 4 131, .tmp 5]) (vs := [.agg #[iv a.B, iv a.EndB], bv true]) ⟨⟨_, rfl, fun w ho => q4Q (vs := [_, _]) 1 2 q2V rfl rfl rfl w ho⟩, ⟨rfl, trivial⟩⟩ ⟨rfl, rfl⟩ (.cons _ (.cons _ (.cons _ (.refl _)))) (c.trans g)
 obtain ⟨ab, G, H⟩ := bS hm
 refine Cj (fun z e' hp' => [(3, pb q), (4, pb r), (7, pb o), (9, sv K h.Links L), (10, iv ((h.Links.length : Int))), (11, iv ((m : Int))), (33, bv ab)] = e' ∧ (q, Cl 131 [iv f.section_, iv f.end_]) :: (r, Cl 131 [iv 0, iv 0]) :: (o, Cl 145 [iv a.A, iv a.EndA, iv a.B, iv a.EndB]) :: R = hp' ∧ t.Le z) ?_ ?_
 have hm := G
 refine Cg<|tS (sF rfl q4M)<|tS (sL 2 rfl Q8 rfl rfl)<|tS (sF rfl q1Z)<|tS (sL 0 rfl Q8 rfl rfl)<|Tb rfl (q1 rfl rfl) (fun l => ?_) (fun l => ?_)
 rw [if_pos l] at hm
 refine mV rfl<|yS<|tS (sF rfl z3q)<|yS<|tS (sL 2 rfl Q8 rfl rfl)<|yS<|tS (sF rfl q4N)<|yS<|tS (sL 0 rfl Q8 rfl rfl)<|yS<|tS (q1 rfl rfl)<|tS (pT rfl rfl)<|aS rfl<|Tn ?_
 obtain rfl := o1 hm
 exact jJ ⟨rfl, rfl, lr⟩
 rw [if_neg l] at hm
 refine mV rfl<|nO<|nO<|nO<|nO<|nO<|tS (pF rfl rfl)<|aS rfl<|Tn ?_
 obtain rfl := o1 hm
 exact jJ ⟨rfl, rfl, lr⟩
 rintro z _ _ ⟨rfl, rfl, p⟩
 have hm := H
 refine cB hm rfl (fun hm => ?_) fun hm => ?_
 refine Cr<|tS (sF rfl q3v)<|tS (sL 2 rfl Q8 rfl rfl)<|tS (sF rfl q8l)<|tS (sL 2 rfl Q8 rfl rfl)<|tS (sB (v := .agg #[iv a.A, iv a.EndA]) [(0, iv a.A), (1, iv a.EndA)] rfl (fun _ => by kernel_rfl))<|tD (uN (vs := [_, _]) 1 2 rfl rfl rfl q3R rfl (mc rfl (mc rfl mn)) rfl (by simp)) ?_
 rintro _ _ rfl
 refine aS rfl<|Te<|Ct<|Xb<|Xb<|Xr<|Xr<|Xb<|Xr ?_
 have I := i _ (Kd hm).symm
 rw [I] at d
 have hm := V8 d
 obtain ⟨rfl, rfl, rfl⟩ := q7e hm
 exact rM (rs := [.cell 4 131, .tmp 5]) (vs := [.agg #[iv a.A, iv a.EndA], bv true]) ⟨⟨_, rfl, fun w ho => q4Q (vs := [_, _]) 1 2 q2V rfl rfl rfl w ho⟩, ⟨rfl, trivial⟩⟩ ⟨rfl, rfl⟩ (.cons _ (.cons _ (.cons _ (.refl _)))) (c.trans (g.trans p))
 refine Ck<|Xm<|Xm<|Xn<|Cg<|tS (sa rfl rfl (by omega))<|mV rfl<|Tn ?_
 exact jM hm ⟨rfl, rfl, ((c.trans (g.trans p)))⟩
 rintro _ n _ _ ⟨rfl, rfl, c⟩ J
 rw [J] at d
 have hm := G0 d
 refine Cr<|tS (lF rfl rfl (by omega))<|Te<|Cs<|w9 rfl<|Ce<|Xe<|Xe<|Xo<|Xn ?_
 refine Cr<|tS (sB (v := .agg #[iv 0, iv 0]) [] rfl (fun _ => by kernel_rfl))<|tD (uN (vs := [_, _]) 1 2 rfl rfl rfl q3R rfl (mc rfl (mc rfl mn)) rfl (by simp)) ?_
 rintro _ _ rfl
 refine aS rfl<|Te<|Ct ?_
 obtain ⟨rfl, rfl, rfl⟩ := q7e hm
 exact rM (rs := [.cell 4 131, .tmp 5]) (vs := [.agg #[iv 0, iv 0], bv false]) ⟨⟨_, rfl, fun w ho => q4Q (vs := [_, _]) 1 2 q2V rfl rfl rfl w ho⟩, ⟨rfl, trivial⟩⟩ ⟨rfl, rfl⟩ (.cons _ (.cons _ (.refl _))) c
theorem q9s (b : k9) (R : Hp) (d : j3) (A2 c3 A5 c6 A8 c9 q r y z) (h4 : FZ RT.str b.w A2 c3 d.Stations) (h7 : FZ j4 b.w A5 c6 d.Sections) (av : FZ Q0 b.w A8 c9 d.Links) (D : FZ j6 b.w q r d.Signals) (aw : FZ Q1 b.w y z d.Gates) (Z) (hm : Y2 d = some Z):
 v8 Tryz.prog 58 [.agg #[sv A2 d.Stations c3, sv A5 d.Sections c6, sv A8 d.Links c9, sv q d.Signals r, sv y d.Gates z]] b (R) (fun v b' hp' => iv Z = v ∧ R = hp') := by
 refine fE 66 Tryz.func58 rfl Tryz.ntmps58 rfl ?_
 unfold Y2 at hm
 refine Cr<|tD (uB _ rfl rfl) ?_
 rintro _ _ ⟨s, rfl, rfl⟩
 refine aS rfl<|Te<|Cs<|Cr<|tS (sF rfl q3O)<|tS (sL 0 rfl q9J rfl rfl)<|tS (sE rfl z5d)<|mV rfl<|Te<|Cb ?_
 have aJ : d.Signals.length ≤ 9223372036854775807 := (FZ.bd D)
 obtain ⟨aR, ad, e⟩ := bS hm
 refine lF (fun t => fun _ => fun E e' hp' => [(1, pb s), (10, sv q d.Signals r), (11, iv ((d.Signals.length : Int))), (12, iv ((t : Int)))] = e' ∧ (s, Cl 28 [sv A2 d.Stations c3, sv A5 d.Sections c6, sv A8 d.Links c9, sv q d.Signals r, sv y d.Gates z]) :: R = hp' ∧ b.Le E) ad ⟨rfl, rfl, lr⟩ ?_ ?_
 rintro t _ E _ _ aK ax ⟨rfl, rfl, a⟩ n m
 unfold V2 at n
 have hm := n
 refine Cr<|tS (lT rfl rfl (by omega))<|Te<|Cs<|k7 rfl<|Ck<|Xn<|Cs<|Cb<|Cr<|mV rfl ?_
 obtain ⟨c, ay, aL, ae, aM, af, J, F, K, hm⟩ := bF (sz := 2) hm (D.le a)
 obtain ⟨_, _, rfl, rfl, rfl⟩ := af
 refine tS (sI ay rfl rfl ae K F z5d)<|tS (sP (vs := [iv c.Section, iv c.End]) 2 rfl z4W F rfl (fun j u hu => J j u hu))<|tD (uA [iv 0, iv 0] z5i rfl) ?_
 rintro _ _ ⟨aa, rfl, rfl⟩
 refine aS rfl<|tD (uN (vs := [_, _]) 0 2 rfl rfl rfl z8C rfl (mc rfl (mc rfl mn)) rfl (by simp)) ?_
 rintro _ _ rfl
 refine Te<|Cr<|tS (sF rfl q4c)<|tS (sL 0 rfl Q8 rfl rfl)<|tS (sF rfl q8m)<|tS (sL 0 rfl Q8 rfl rfl)<|tS (sB (v := .agg #[iv c.Section, iv c.End]) [(0, iv c.Section), (1, iv c.End)] rfl (fun _ => by kernel_rfl))<|tD (uA [iv 0, iv 0] q2W rfl) ?_
 rintro _ _ ⟨aT, rfl, rfl⟩
 refine tD (uN (vs := [_, _]) 0 2 rfl rfl rfl q3R rfl (mc rfl (mc rfl mn)) rfl (by simp)) ?_
 rintro _ _ rfl
 refine Te<|Cs<|Cr<|tS (sD (vs := [_, _, _, _, _]) 2 5 rfl P0 rfl rfl rfl)<|tS (sD (vs := [_, _]) 0 2 rfl q2V rfl rfl rfl) ?_
 obtain ⟨az, L, hm⟩ := bS hm
 refine tD (uW _ z9M rfl (fun w ho => z3G _ [] d (⟨c.Section, c.End⟩ : v7) A2 c3 A5 c6 A8 c9 q r y z ((h4.le a).old ho) ((h7.le a).old ho) ((av.le a).old ho) ((D.le a).old ho) ((aw.le a).old ho) az L) (fun _ _ _ h => h.2.symm)) ?_
 rintro _ _ ⟨⟨_, rfl, _⟩, rfl⟩
 refine tS (sn2 rfl)<|Te<|cM hm rfl (fun hm => ?_) fun hm => ?_
 refine Cr<|aS rfl<|Te<|Ct<|Xr<|Xb<|Xr<|Xr<|Xb<|Xr ?_
 have ag := m _ (Kd hm).symm
 rw [ag] at e
 have hm := V8 e
 obtain rfl := o1 hm
 exact rO ⟨rfl, rfl⟩ a
 refine Ck<|Xn<|Cs<|Cr<|tS (sD (vs := [_, _, _, _, _]) 2 5 rfl P0 rfl rfl rfl)<|tS (sD (vs := [_, _]) 0 2 rfl q2V rfl rfl rfl) ?_
 obtain ⟨⟨aA, aB, ab⟩, O, hm⟩ := bS hm
 have hm := q6j hm
 refine Tg _ rfl z4E rfl (q3i _ _ d (⟨c.Section, c.End⟩ : v7) A2 c3 A5 c6 A8 c9 q r y z (h4.le a) (h7.le a) (av.le a) (D.le a) (aw.le a) aA aB ab O) ?_
 rintro _ aC _ f ⟨rfl, rfl⟩
 refine mV rfl<|tS (w7 rfl rfl)<|tS (w7 rfl rfl)<|tD (uA [iv 0, iv 0] q2W rfl) ?_
 rintro _ _ ⟨aU, rfl, rfl⟩
 refine tD (uN (vs := [_, _]) 0 2 rfl rfl rfl q3R rfl (mc rfl (mc rfl mn)) rfl (by simp)) ?_
 rintro _ _ rfl
 refine aS rfl<|Te ?_
 obtain ⟨aD, ah, ai⟩ := bS hm
 refine Cj (fun A e' hp' => [(1, pb s), (3, iv ((t : Int))), (4, pb aa), (10, sv q d.Signals r), (11, iv ((d.Signals.length : Int))), (12, iv ((t : Int))), (43, bv aD)] = e' ∧ (s, Cl 28 [sv A2 d.Stations c3, sv A5 d.Sections c6, sv A8 d.Links c9, sv q d.Signals r, sv y d.Gates z]) :: (aa, Cl 128 [iv c.Section, iv c.End]) :: R = hp' ∧ aC.Le A) ?_ ?_
 have hm := ah
 refine Cg<|mV rfl ?_
 rcases Kg ab with p | p
 rw [if_pos p] at hm
 refine Tr 32 rfl (v' := .bool true) (by rw [p] <;> rfl)<|tS (Y7 rfl)<|mV rfl<|yS<|tS (sF rfl q0B)<|yS<|tS (sL 3 rfl q5f rfl rfl)<|yS<|tS (sF rfl q4c)<|yS<|tS (sL 2 rfl Q8 rfl rfl)<|yS ?_
 obtain ⟨aV, aE, aN, aj, aO, ak, S, G, T, hm⟩ := bF (sz := 7) hm (h7.le (a.trans f))
 obtain ⟨_, _, rfl, rfl, ⟨_, _, rfl, rfl, ⟨_, _, rfl, rfl, ⟨_, _, rfl, rfl, ⟨_, _, rfl, rfl, ⟨_, _, rfl, rfl, rfl⟩⟩⟩⟩⟩⟩ := ak
 refine tS (sI aE rfl rfl aj T G z1y)<|yS<|tS (sQ rfl G q3w)<|yS<|tS (sO rfl Q8 (S 0 _ rfl))<|yS<|tS (q2 rfl rfl)<|tS (pF rfl rfl)<|Tn ?_
 obtain rfl := o1 hm
 exact jJ ⟨rfl, rfl, lr⟩
 rw [if_neg (fun hh => Bool.noConfusion (hh.symm.trans p))] at hm
 refine Tr 32 rfl (v' := .bool false) (by rw [p] <;> rfl)<|tS (q0r rfl)<|mV rfl<|nO<|nO<|nO<|nO<|nO<|nO<|nO<|nO<|tS (pT rfl rfl)<|Tn ?_
 obtain rfl := o1 hm
 exact jJ ⟨rfl, rfl, lr⟩
 rintro A _ _ ⟨rfl, rfl, k⟩
 have hm := ai
 refine cB hm rfl (fun hm => ?_) fun hm => ?_
 refine Cr<|aS rfl<|Te<|Ct<|Xr<|Xb<|Xr<|Xr<|Xb<|Xr ?_
 have al := m _ (Kd hm).symm
 rw [al] at e
 have hm := V8 e
 obtain rfl := o1 hm
 exact rO ⟨rfl, rfl⟩ (a.trans (f.trans k))
 refine Ck<|Xn<|Cr<|mV rfl<|tS (q5 rfl rfl)<|Te<|cI hm rfl (fun hm => ?_) fun hm => ?_
 refine Cr<|tS (sF rfl q3O)<|tS (sL 0 rfl q9J rfl rfl)<|mV rfl ?_
 obtain ⟨_, H, hm⟩ := bS hm
 have H := (kS H).2
 refine tS (sb rfl rfl H) ?_
 obtain ⟨B, aF, aP, am, aQ, an, U, I, V, hm⟩ := bF (sz := 2) hm (D.le (a.trans (f.trans k)))
 obtain ⟨_, _, rfl, rfl, rfl⟩ := an
 refine tS (sI aF rfl rfl am V I z5d)<|tS (sP (vs := [iv B.Section, iv B.End]) 2 rfl z4W I rfl (fun j u hu => U j u hu))<|tD (uA [iv 0, iv 0] z5i rfl) ?_
 rintro _ _ ⟨aW, rfl, rfl⟩
 refine tD (uN (vs := [_, _]) 0 2 rfl rfl rfl z8C rfl (mc rfl (mc rfl mn)) rfl (by simp)) ?_
 rintro _ _ rfl
 refine Te ?_
 obtain ⟨aG, ao, aq⟩ := bS hm
 refine Cj (fun ac e' hp' => [(1, pb s), (10, sv q d.Signals r), (11, iv ((d.Signals.length : Int))), (12, iv ((t : Int))), (64, bv aG)] = e' ∧ (s, Cl 28 [sv A2 d.Stations c3, sv A5 d.Sections c6, sv A8 d.Links c9, sv q d.Signals r, sv y d.Gates z]) :: R = hp' ∧ A.Le ac) ?_ ?_
 have hm := ao
 obtain ⟨g, W, hm⟩ := bS hm
 obtain ⟨i, X, hm⟩ := bS hm
 obtain ⟨aH, Y, hm⟩ := bS hm
 refine Di mixed (.refl _)<|E0 0 rfl (sF rfl q4c)<|Es 1 rfl (sL 0 rfl Q8 rfl rfl)<|E0 2 rfl (sF rfl q4c)<|Es 3 rfl (sL 2 rfl Q8 rfl rfl)<|E0 5 rfl (sF rfl q8m)<|Es 6 rfl (sL 0 rfl Q8 rfl rfl)<|E0 7 rfl (sF rfl q8m)<|Es 8 rfl (sL 2 rfl Q8 rfl rfl)<|Eo<|Da [4] (by kernel_rfl) rfl<|Rd2 lr rfl rfl (uW _ z6W rfl (fun w ho => q5Q _ [] B.Section c.Section g W) (fun _ _ _ h => h.2.symm)) ?_ ?_
 rintro _ _ ⟨⟨_, rfl, _⟩, rfl⟩
 refine iR<|Da [9] (by kernel_rfl) rfl<|Rd2 lr rfl rfl (uW _ z6W rfl (fun w ho => q5Q _ [] B.End c.End i X) (fun _ _ _ h => h.2.symm)) ?_ ?_
 rintro _ _ ⟨⟨_, rfl, _⟩, rfl⟩
 refine iR<|Da [10] (by kernel_rfl) rfl ?_
 refine Rd2 lr rfl rfl (V3 (el := 3) [(0, iv g), (1, iv i)] [iv g, iv i] rfl (fun _ => by kernel_rfl)) ?_ ?_
 rintro _ _ ⟨x, rfl, rfl⟩
 refine iR<|j3M 0 [_, _, _] R rfl rfl ?_
 have aI : OS 3 (OT.fr rI) A.w (.slice (some ⟨x, 0, none⟩) 2 2) [g, i] [(x, Cl 3 [iv g, iv i])] := OS.lit [[iv g], [iv i]] rfl ⟨rfl, ⟨rfl, trivial⟩⟩ rfl (by decide)
 refine Da [11] (by kernel_rfl) rfl<|Rd2 lr rfl rfl (uW _ j2u rfl (fun w ho => j2J _ [] [g, i] (some ⟨x, 0, none⟩) 2 (OS.now (o := (OT.fr rI)) (l := [g, i]) (hs := [(x, Cl 3 [iv g, iv i])]) aI ho (.cons _ (.cons _ (.cons _ (Kb _ _))))) aH Y) (fun _ _ _ h => h.2.symm)) ?_ ?_
 rintro _ _ ⟨⟨_, rfl, _⟩, rfl⟩
 refine iR<|Ei lr (.cons_cons _ (.cons_cons _ (.cons_cons _ (ss [(x, Cl 3 [iv g, iv i])] (.refl _)))))<|E0 12 rfl (q6 rfl rfl)<|Eo<|Dd (by kernel_rfl) ?_
 obtain rfl := o1 hm
 exact jJ ⟨rfl, rfl, lr⟩
 exact Rn
 exact Rn
 exact Rn
 exact Rn
 rintro ac _ _ ⟨rfl, rfl, C⟩
 have hm := aq
 refine cB hm rfl (fun hm => ?_) fun hm => ?_
 refine Cr<|aS rfl<|Te<|Ct<|Xb<|Xr<|Xr<|Xb<|Xr ?_
 have ar := m _ (Kd hm).symm
 rw [ar] at e
 have hm := V8 e
 obtain rfl := o1 hm
 exact rO ⟨rfl, rfl⟩ (a.trans (f.trans (k.trans C)))
 refine Ck<|Xm<|Xn<|Cg<|tS (sa rfl rfl (by omega))<|mV rfl<|Tn ?_
 exact jM hm ⟨rfl, rfl, ((a.trans (f.trans (k.trans C))))⟩
 refine Ck<|Xm<|Xn<|Cg<|tS (sa rfl rfl (by omega))<|mV rfl<|Tn ?_
 exact jM hm ⟨rfl, rfl, ((a.trans (f.trans k)))⟩
 rintro _ E _ _ ⟨rfl, rfl, a⟩ au
 rw [au] at e
 have hm := G0 e
 refine Cr<|tS (lF rfl rfl (by omega))<|Te<|Cs<|w9 rfl<|Ce<|Xe<|Xe<|Xo<|Xn<|Cr<|aS rfl<|Te<|Ct ?_
 obtain rfl := o1 hm
 exact rO ⟨rfl, rfl⟩ a
theorem z1t (b : k9) (R : Hp) (e : j3) (A2 c3 A5 c6 A8 c9 y z o p) (h4 : FZ RT.str b.w A2 c3 e.Stations) (h7 : FZ j4 b.w A5 c6 e.Sections) (aB : FZ Q0 b.w A8 c9 e.Links) (aC : FZ j6 b.w y z e.Signals) (K : FZ Q1 b.w o p e.Gates) (I) (hm : F6 e = some I):
 v8 Tryz.prog 59 [.agg #[sv A2 e.Stations c3, sv A5 e.Sections c6, sv A8 e.Links c9, sv y e.Signals z, sv o e.Gates p]] b (R) (fun v b' hp' => iv I = v ∧ R = hp') := by
 refine fE 52 Tryz.func59 rfl Tryz.ntmps59 rfl ?_
 unfold F6 at hm
 refine Cr<|tD (uB _ rfl rfl) ?_
 rintro _ _ ⟨i, rfl, rfl⟩
 refine aS rfl<|Te<|Cs<|Cr<|tS (sF rfl q7z)<|tS (sL 0 rfl z5x rfl rfl)<|tS (sE rfl z8z)<|mV rfl<|Te<|Cb ?_
 have an : e.Gates.length ≤ 9223372036854775807 := (FZ.bd K)
 obtain ⟨ax, L, c⟩ := bS hm
 refine lF (fun k => fun _ => fun l e' hp' => [(1, pb i), (6, sv o e.Gates p), (7, iv ((e.Gates.length : Int))), (8, iv ((k : Int)))] = e' ∧ (i, Cl 28 [sv A2 e.Stations c3, sv A5 e.Sections c6, sv A8 e.Links c9, sv y e.Signals z, sv o e.Gates p]) :: R = hp' ∧ b.Le l) L ⟨rfl, rfl, lr⟩ ?_ ?_
 rintro k _ l _ _ ao af ⟨rfl, rfl, a⟩ f d
 unfold W7 at f
 have hm := f
 refine Cr<|tS (lT rfl rfl (by omega))<|Te<|Cs<|k7 rfl<|Ck<|Xn<|Cs<|Cb<|Cr<|mV rfl ?_
 obtain ⟨m, ag, aq, O, ar, S, A, q, B, hm⟩ := bF (sz := 2) hm (K.le a)
 obtain ⟨_, _, rfl, rfl, rfl⟩ := S
 refine tS (sI ag rfl rfl O B q z8z)<|tS (sP (vs := [iv m.Section, iv m.Close]) 2 rfl j0u q rfl (fun j u hu => A j u hu))<|tD (uA [iv 0, iv 0] z5g rfl) ?_
 rintro _ _ ⟨ay, rfl, rfl⟩
 refine aS rfl<|tD (uN (vs := [_, _]) 0 2 rfl rfl rfl z8A rfl (mc rfl (mc rfl mn)) rfl (by simp)) ?_
 rintro _ _ rfl
 refine Te<|Cb<|Cr<|tS (sF rfl q7a)<|tS (sL 0 rfl Q8 rfl rfl)<|tS (sF rfl q0B)<|tS (sL 1 rfl q5f rfl rfl)<|tS (sE rfl z1y) ?_
 obtain ⟨_, r, hm⟩ := bS hm
 have r := (kS r).2
 refine tS (sb rfl rfl r) ?_
 obtain ⟨ah, C, hm⟩ := bS hm
 refine tD (uW _ q4R rfl (fun w ho => H8 _ [] m.Section 0 ((e.Sections.length : Int) - 1) ah C) (fun _ _ _ h => h.2.symm)) ?_
 rintro _ _ ⟨⟨_, rfl, _⟩, rfl⟩
 refine tS (sn2 rfl)<|aS rfl<|Te<|cM hm rfl (fun hm => ?_) fun hm => ?_
 refine Cr<|aS rfl<|Te<|Ct<|Xb<|Xb<|Xr<|Xr<|Xb<|Xr ?_
 have T := d _ (Kd hm).symm
 rw [T] at c
 have hm := V8 c
 obtain rfl := o1 hm
 exact rO ⟨rfl, rfl⟩ a
 refine Cr<|tS (sF rfl q0B)<|tS (sL 1 rfl q5f rfl rfl)<|tS (sF rfl q7a)<|tS (sL 0 rfl Q8 rfl rfl) ?_
 obtain ⟨az, ai, au, U, av, V, D, s, E, hm⟩ := bF (sz := 7) hm (h7.le a)
 obtain ⟨_, _, rfl, rfl, ⟨_, _, rfl, rfl, ⟨_, _, rfl, rfl, ⟨_, _, rfl, rfl, ⟨_, _, rfl, rfl, ⟨_, _, rfl, rfl, rfl⟩⟩⟩⟩⟩⟩ := V
 refine tS (sI ai rfl rfl U E s z1y)<|tS (sQ rfl s q3w)<|tS (sO rfl Q8 (D 0 _ rfl))<|tS (q2 rfl rfl)<|aS rfl<|Te<|cI hm rfl (fun hm => ?_) fun hm => ?_
 refine Cr<|aS rfl<|Te<|Ct<|Xb<|Xb<|Xr<|Xr<|Xb<|Xr ?_
 have W := d _ (Kd hm).symm
 rw [W] at c
 have hm := V8 c
 obtain rfl := o1 hm
 exact rO ⟨rfl, rfl⟩ a
 refine Cr<|tS (sF rfl z6L)<|tS (sL 0 rfl Q8 rfl rfl) ?_
 obtain ⟨aj, F, hm⟩ := bS hm
 refine tD (uW _ q4R rfl (fun w ho => H8 _ [] m.Close 1 12 aj F) (fun _ _ _ h => h.2.symm)) ?_
 rintro _ _ ⟨⟨_, rfl, _⟩, rfl⟩
 refine tS (sn2 rfl)<|aS rfl<|Te<|cM hm rfl (fun hm => ?_) fun hm => ?_
 refine Cr<|aS rfl<|Te<|Ct<|Xb<|Xb<|Xr<|Xr<|Xb<|Xr ?_
 have X := d _ (Kd hm).symm
 rw [X] at c
 have hm := V8 c
 obtain rfl := o1 hm
 exact rO ⟨rfl, rfl⟩ a
 obtain ⟨ak, Y, Z⟩ := bS hm
 refine Cj (fun J e' hp' => [(1, pb i), (6, sv o e.Gates p), (7, iv ((e.Gates.length : Int))), (8, iv ((k : Int))), (36, bv ak)] = e' ∧ (i, Cl 28 [sv A2 e.Stations c3, sv A5 e.Sections c6, sv A8 e.Links c9, sv y e.Signals z, sv o e.Gates p]) :: R = hp' ∧ l.Le J) ?_ ?_
 have hm := Y
 by_cases g : 0 < (k : Int)
 rw [if_pos g] at hm
 obtain ⟨_, t, hm⟩ := bS hm
 obtain ⟨aA, al, hm⟩ := bS hm
 refine Di mixed (.refl _)<|E0 0 rfl (sM rfl)<|E0 1 rfl (q7S rfl rfl g)<|E0 2 rfl (sM rfl)<|Yz 3 39 rfl (sF rfl q7a)<|Ey 4 39 rfl (sL 0 rfl Q8 rfl rfl)<|Yz 5 39 rfl (sF rfl q7z)<|Ey 6 39 rfl (sL 1 rfl z5x rfl rfl)<|Yz 7 39 rfl (sM rfl) ?_
 have t := (kS t).2
 refine Yz 8 39 rfl (sb rfl rfl t) ?_
 obtain ⟨am, aa, ab⟩ := iS al
 obtain ⟨aw, ac, G, x, H⟩ := FZ.get (sz := 2) rfl (by decide) (K.le a) ab
 obtain ⟨_, _, rfl, rfl, rfl⟩ := ac
 refine Yz 9 39 rfl (sI am rfl rfl aa H x z8z)<|Yz 10 39 rfl (sQ rfl x q7a)<|Ey 11 39 rfl (sO rfl Q8 (G 0 _ rfl))<|Yz 12 39 rfl (q4 rfl rfl)<|E0 13 rfl (pT rfl rfl)<|E0 14 rfl (sA rfl)<|Eo<|Dd (by kernel_rfl) ?_
 obtain rfl := o1 hm
 exact jJ ⟨rfl, rfl, lr⟩
 rw [if_neg g] at hm
 refine Di mixed (.refl _)<|E0 0 rfl (sM rfl)<|E0 1 rfl (q9X rfl rfl g)<|E0 2 rfl (sM rfl)<|eN 3 rfl<|eN 4 rfl<|eN 5 rfl<|eN 6 rfl<|eN 7 rfl<|eN 8 rfl<|eN 9 rfl<|eN 10 rfl<|eN 11 rfl<|eN 12 rfl<|E0 13 rfl (pF rfl rfl)<|E0 14 rfl (sA rfl)<|Eo<|Dd (by kernel_rfl) ?_
 obtain rfl := o1 hm
 exact jJ ⟨rfl, rfl, lr⟩
 rintro J _ _ ⟨rfl, rfl, n⟩
 have hm := Z
 refine cB hm rfl (fun hm => ?_) fun hm => ?_
 refine Cr<|aS rfl<|Te<|Ct<|Xb<|Xb<|Xr<|Xr<|Xb<|Xr ?_
 have ad := d _ (Kd hm).symm
 rw [ad] at c
 have hm := V8 c
 obtain rfl := o1 hm
 exact rO ⟨rfl, rfl⟩ (a.trans n)
 refine Ck<|Xm<|Xm<|Xn<|Cg<|tS (sa rfl rfl (by omega))<|mV rfl<|Tn ?_
 exact jM hm ⟨rfl, rfl, ((a.trans n))⟩
 rintro _ l _ _ ⟨rfl, rfl, a⟩ ae
 rw [ae] at c
 have hm := G0 c
 refine Cr<|tS (lF rfl rfl (by omega))<|Te<|Cs<|w9 rfl<|Ce<|Xe<|Xe<|Xo<|Xn<|Cr<|aS rfl<|Te<|Ct ?_
 obtain rfl := o1 hm
 exact rO ⟨rfl, rfl⟩ a
theorem q9u (b : k9) (R : Hp) (f : j3) (J E O S U V o p q r) (h4 : FZ RT.str b.w J E f.Stations) (h7 : FZ j4 b.w O S f.Sections) (av : FZ Q0 b.w U V f.Links) (aw : FZ j6 b.w o p f.Signals) (ax : FZ Q1 b.w q r f.Gates) (an) (hm : J5 f = some an):
 v8 Tryz.prog 24 [.agg #[sv J f.Stations E, sv O f.Sections S, sv U f.Links V, sv o f.Signals p, sv q f.Gates r]] b (R) (fun v b' hp' => iv an = v ∧ R = hp') := by
 refine fE 92 Tryz.func24 rfl Tryz.ntmps24 rfl ?_
 unfold J5 at hm
 refine Cr<|tD (uB _ rfl rfl) ?_
 rintro _ _ ⟨m, rfl, rfl⟩
 refine aS rfl<|Te<|Cs<|Cb<|Cr<|tS (sF rfl q0B)<|tS (sL 0 rfl q5f rfl rfl)<|tS (sE rfl z1y)<|tS (q1 rfl rfl)<|aS rfl<|Te<|cI hm rfl (fun hm => ?_) fun hm => ?_
 refine Cr<|aS rfl<|Te<|Ct<|Xb<|Xr ?_
 obtain rfl := o1 hm
 exact rO ⟨rfl, rfl⟩ lr
 obtain ⟨aT, ay, az⟩ := bS hm
 refine Cj (fun W e' hp' => [(1, pb m), (16, bv aT)] = e' ∧ (m, Cl 28 [sv J f.Stations E, sv O f.Sections S, sv U f.Links V, sv o f.Signals p, sv q f.Gates r]) :: R = hp' ∧ b.Le W) ?_ ?_
 have hm := ay
 refine Cg<|tS (sF rfl z0S)<|tS (sL 0 rfl z7H rfl rfl)<|tS (sE rfl z5o)<|Tb rfl (q5 rfl rfl) (fun F => ?_) (fun F => ?_)
 rw [if_pos F] at hm
 refine mV rfl<|nO<|nO<|nO<|nO<|tS (pT rfl rfl)<|mV rfl<|nO<|nO<|nO<|nO<|tS (pT rfl rfl)<|mV rfl<|nO<|nO<|nO<|nO<|tS (pT rfl rfl)<|mV rfl<|nO<|nO<|nO<|nO<|tS (pT rfl rfl)<|aS rfl<|Tn ?_
 obtain rfl := o1 hm
 exact jJ ⟨rfl, rfl, lr⟩
 rw [if_neg F] at hm
 refine mV rfl<|yS<|tS (sF rfl q0B)<|yS<|tS (sL 0 rfl q5f rfl rfl)<|yS<|tS (sE rfl z1y)<|yS<|Tb rfl (q5 rfl rfl) (fun G => ?_) (fun G => ?_)
 rw [if_pos G] at hm
 refine tS (pF rfl rfl)<|mV rfl<|nO<|nO<|nO<|nO<|tS (pT rfl rfl)<|mV rfl<|nO<|nO<|nO<|nO<|tS (pT rfl rfl)<|mV rfl<|nO<|nO<|nO<|nO<|tS (pT rfl rfl)<|aS rfl<|Tn ?_
 obtain rfl := o1 hm
 exact jJ ⟨rfl, rfl, lr⟩
 rw [if_neg G] at hm
 refine tS (pF rfl rfl)<|mV rfl<|yS<|tS (sF rfl q9l)<|yS<|tS (sL 0 rfl z7G rfl rfl)<|yS<|tS (sE rfl j0z)<|yS<|Tb rfl (q5 rfl rfl) (fun H => ?_) (fun H => ?_)
 rw [if_pos H] at hm
 refine tS (pF rfl rfl)<|mV rfl<|nO<|nO<|nO<|nO<|tS (pT rfl rfl)<|mV rfl<|nO<|nO<|nO<|nO<|tS (pT rfl rfl)<|aS rfl<|Tn ?_
 obtain rfl := o1 hm
 exact jJ ⟨rfl, rfl, lr⟩
 rw [if_neg H] at hm
 refine tS (pF rfl rfl)<|mV rfl<|yS<|tS (sF rfl q3O)<|yS<|tS (sL 0 rfl q9J rfl rfl)<|yS<|tS (sE rfl z5d)<|yS<|Tb rfl (q5 rfl rfl) (fun I => ?_) (fun I => ?_)
 rw [if_pos I] at hm
 refine tS (pF rfl rfl)<|mV rfl<|nO<|nO<|nO<|nO<|tS (pT rfl rfl)<|aS rfl<|Tn ?_
 obtain rfl := o1 hm
 exact jJ ⟨rfl, rfl, lr⟩
 rw [if_neg I] at hm
 refine tS (pF rfl rfl)<|mV rfl<|yS<|tS (sF rfl q7z)<|yS<|tS (sL 0 rfl z5x rfl rfl)<|yS<|tS (sE rfl z8z)<|yS<|tS (q5 rfl rfl)<|tS (pF rfl rfl)<|aS rfl<|Tn ?_
 obtain rfl := o1 hm
 exact jJ ⟨rfl, rfl, lr⟩
 rintro W _ _ ⟨rfl, rfl, a⟩
 have hm := az
 refine cB hm rfl (fun hm => ?_) fun hm => ?_
 refine Cr<|aS rfl<|Te<|Ct<|Xb<|Xr ?_
 obtain rfl := o1 hm
 exact rO ⟨rfl, rfl⟩ a
 refine Ck<|Xm<|Xn<|Cs<|Cr<|tS (sF rfl z0S)<|tS (sL 0 rfl z7H rfl rfl)<|tS (sE rfl z5o)<|mV rfl<|Te<|Cb ?_
 have a9 : f.Stations.length ≤ 9223372036854775807 := (FZ.bd (h4.le a))
 obtain ⟨bj, aA, i⟩ := bS hm
 refine lF (fun ao => fun _ => fun K e' hp' => [(1, pb m), (46, sv J f.Stations E), (47, iv ((f.Stations.length : Int))), (48, iv ((ao : Int)))] = e' ∧ (m, Cl 28 [sv J f.Stations E, sv O f.Sections S, sv U f.Links V, sv o f.Signals p, sv q f.Gates r]) :: R = hp' ∧ W.Le K) aA ⟨rfl, rfl, lr⟩ ?_ ?_
 rintro ao _ K _ _ ba aU ⟨rfl, rfl, c⟩ s y
 unfold q1I at s
 have hm := s
 refine Cr<|tS (lT rfl rfl (by omega))<|Te<|Cs<|k7 rfl<|Ck<|Xn<|Cs<|Cb<|Cr<|mV rfl ?_
 obtain ⟨aq, aV, bb, aB, bc, aC, ad, aD, ae, hm⟩ := bF (sz := 1) hm (h4.le (a.trans c))
 obtain rfl := aC
 refine tS (sI aV rfl rfl aB ae aD z5o)<|tS (sO rfl j6S (ad 0 _ rfl))<|aS rfl<|aS rfl<|Te<|Cb<|Cr<|mV rfl ?_
 obtain ⟨aW, af, hm⟩ := bS hm
 refine tD (uW _ j5I rfl (fun w ho => j0i _ [] aq aW af) (fun _ _ _ h => h.2.symm)) ?_
 rintro _ _ ⟨⟨_, rfl, _⟩, rfl⟩
 refine tS (sn2 rfl)<|aS rfl<|Te<|cM hm rfl (fun hm => ?_) fun hm => ?_
 refine Cr<|aS rfl<|Te<|Ct<|Xb<|Xb<|Xr<|Xr<|Xb<|Xr ?_
 have aE := y _ (Kd hm).symm
 rw [aE] at i
 have hm := V8 i
 obtain rfl := o1 hm
 exact rO ⟨rfl, rfl⟩ (a.trans c)
 refine Cr<|tS (sF rfl z0S)<|tS (sL 0 rfl z7H rfl rfl)<|mV rfl ?_
 obtain ⟨aX, aY, hm⟩ := bS hm
 obtain ⟨X, aZ, bd, aF, Y, Z, aa⟩ := q6B aY
 have zz := a.trans c
 have ar := FZ.sub (sz := 1) rfl (h4.le zz) Y Z
 have a0 := (h4.le zz).1.1
 rw [← aa] at ar
 refine tS (aa ▸ z0v (l := f.Stations) X aZ rfl (.inl ⟨rfl, by omega⟩) (.inr ⟨_, _, _, rfl, rfl, aF⟩) Y Z a0 z5o)<|mV rfl ?_
 obtain ⟨a1, ag, hm⟩ := bS hm
 refine tD (uW _ j5H rfl (fun w ho => z1h _ [] aX aq (z2S J E X 1) (E - X) (ar.old ho) a1 ag) (fun _ _ _ h => h.2.symm)) ?_
 rintro _ _ ⟨⟨_, rfl, _⟩, rfl⟩
 refine aS rfl<|Te<|cB hm rfl (fun hm => ?_) fun hm => ?_
 refine Cr<|aS rfl<|Te<|Ct<|Xb<|Xb<|Xr<|Xr<|Xb<|Xr ?_
 have aG := y _ (Kd hm).symm
 rw [aG] at i
 have hm := V8 i
 obtain rfl := o1 hm
 exact rO ⟨rfl, rfl⟩ zz
 refine Ck<|Xm<|Xm<|Xn<|Cg<|tS (sa rfl rfl (by omega))<|mV rfl<|Tn ?_
 exact jM hm ⟨rfl, rfl, (c)⟩
 rintro _ K _ _ ⟨rfl, rfl, c⟩ aH
 rw [aH] at i
 have hm := G0 i
 refine Cr<|tS (lF rfl rfl (by omega))<|Te<|Cs<|w9 rfl<|Ce<|Xe<|Xe<|Xo<|Xn<|Cs<|Cr<|tS (sF rfl q0B)<|tS (sL 0 rfl q5f rfl rfl)<|tS (sE rfl z1y)<|mV rfl<|Te<|Cb ?_
 have be : f.Sections.length ≤ 9223372036854775807 := (FZ.bd (h7.le (a.trans c)))
 obtain ⟨bk, aI, z⟩ := bS hm
 refine lF (fun au => fun _ => fun L e' hp' => [(1, pb m), (66, sv O f.Sections S), (67, iv ((f.Sections.length : Int))), (68, iv ((au : Int)))] = e' ∧ (m, Cl 28 [sv J f.Stations E, sv O f.Sections S, sv U f.Links V, sv o f.Signals p, sv q f.Gates r]) :: R = hp' ∧ K.Le L) aI ⟨rfl, rfl, lr⟩ ?_ ?_
 rintro au _ L _ _ bf a2 ⟨rfl, rfl, d⟩ t T
 unfold q1H at t
 have hm := t
 refine Cr<|tS (lT rfl rfl (by omega))<|Te<|Cs<|k7 rfl<|Ck<|Xn<|Cs<|Cb<|Cr ?_
 have zy := a.trans (c.trans d)
 obtain ⟨n, a3, bg, aJ, bh, aK, ah, ab, ai, hm⟩ := bF (sz := 7) hm (h7.le zy)
 obtain ⟨_, _, rfl, rfl, ⟨_, _, rfl, rfl, ⟨_, _, rfl, rfl, ⟨_, _, rfl, rfl, ⟨_, _, rfl, rfl, ⟨_, _, rfl, rfl, rfl⟩⟩⟩⟩⟩⟩ := aK
 refine tS (sI a3 rfl rfl aJ ai ab z1y)<|tS (sP (vs := [iv n.Kind, iv n.Length, iv n.Grade, iv n.Speed, iv n.Slow, iv n.Station, bv n.Axles]) 7 rfl j2K ab rfl (fun j u hu => ah j u hu))<|tD (uA [iv 0, iv 0, iv 0, iv 0, iv 0, iv 0, .bool false] j2Q rfl) ?_
 rintro _ _ ⟨bl, rfl, rfl⟩
 refine tD (uN (vs := [_, _, _, _, _, _, _]) 0 7 rfl rfl rfl j4J rfl (mc rfl (mc rfl (mc rfl (mc rfl (mc rfl (mc rfl (mc rfl mn))))))) rfl (by simp)) ?_
 rintro _ _ rfl
 refine Te<|Cr<|tS (sD (vs := [_, _, _, _, _, _, _]) 0 7 rfl j2K rfl rfl rfl)<|tS (sF rfl z0S)<|tS (sL 1 rfl z7H rfl rfl)<|tS (sE rfl z5o) ?_
 obtain ⟨a4, aj, hm⟩ := bS hm
 refine tD (uW _ j5G rfl (fun w ho => q9t _ [] n (f.Stations.length : Int) a4 aj) (fun _ _ _ h => h.2.symm)) ?_
 rintro _ _ ⟨⟨_, rfl, _⟩, rfl⟩
 refine aS rfl<|Te<|Cr<|mV rfl<|tS (q2 rfl rfl)<|Te<|cI hm rfl (fun hm => ?_) fun hm => ?_
 refine Cr<|mV rfl<|aS rfl<|Te<|Ct<|Xb<|Xr<|Xr<|Xb<|Xr ?_
 have aL := T _ (Kd hm).symm
 rw [aL] at z
 have hm := V8 z
 obtain rfl := o1 hm
 exact rO ⟨rfl, rfl⟩ zy
 refine Ck<|Xm<|Xn<|Cg<|tS (sa rfl rfl (by omega))<|mV rfl<|Tn ?_
 exact jM hm ⟨rfl, rfl, (d)⟩
 rintro _ L _ _ ⟨rfl, rfl, d⟩ aM
 rw [aM] at z
 have hm := G0 z
 refine Cr<|tS (lF rfl rfl (by omega))<|Te<|Cs<|w9 rfl<|Ce<|Xe<|Xe<|Xo<|Xn ?_
 refine Cs<|Cr<|tS (sB (v := .agg #[.func (.func 57) #[] #[], .func (.func 58) #[] #[], .func (.func 59) #[] #[]]) [(0, .func (.func 57) #[] #[]), (1, .func (.func 58) #[] #[]), (2, .func (.func 59) #[] #[])] rfl (fun _ => by kernel_rfl))<|mV rfl<|Te<|Cb ?_
 obtain ⟨bm, aN, g⟩ := bS hm
 refine lF (fun D => fun _ => fun ac e' hp' => [(1, pb m), (81, .agg #[.func (.func 57) #[] #[], .func (.func 58) #[] #[], .func (.func 59) #[] #[]]), (82, iv ((D : Int)))] = e' ∧ (m, Cl 28 [sv J f.Stations E, sv O f.Sections S, sv U f.Links V, sv o f.Signals p, sv q f.Gates r]) :: R = hp' ∧ L.Le ac) aN ⟨rfl, rfl, lr⟩ ?_ ?_
 rintro D _ ac _ _ bi a5 ⟨rfl, rfl, e⟩ x k
 unfold q0y at x
 have hm := x
 refine Cr<|tS (lT rfl rfl (by omega))<|Te<|Cs<|k7 rfl<|Ck<|Xn<|Cs<|Cb<|Cr ?_
 rcases Decidable.em ((D : Int) = (0 : Int)) with A | A
 rw [if_pos A] at hm
 refine tS (z2V (cs := [.func (.func 57) #[] #[], .func (.func 58) #[] #[], .func (.func 59) #[] #[]]) 0 rfl rfl A (by decide) rfl j0r j3w)<|aS rfl<|Te<|Cr<|mV rfl<|tS (sD (vs := [_, _, _, _, _]) 0 5 rfl P0 rfl rfl rfl) ?_
 obtain ⟨a6, ak, hm⟩ := bS hm
 have zx := a.trans (c.trans (d.trans e))
 refine tD (q0K #[] #[] [.agg #[sv J f.Stations E, sv O f.Sections S, sv U f.Links V, sv o f.Signals p, sv q f.Gates r]] rfl j5F rfl (fun w ho => z1s _ [] f J E O S U V o p q r ((h4.le zx).old ho) ((h7.le zx).old ho) ((av.le zx).old ho) ((aw.le zx).old ho) ((ax.le zx).old ho) a6 ak) (fun _ _ _ h => h.2.symm)) ?_
 rintro _ _ ⟨⟨_, rfl, _⟩, rfl⟩
 refine aS rfl<|Te<|Cr<|mV rfl<|tS (q2 rfl rfl)<|Te<|cI hm rfl (fun hm => ?_) fun hm => ?_
 refine Cr<|mV rfl<|aS rfl<|Te<|Ct<|Xb<|Xr<|Xr<|Xb<|Xr ?_
 have aO := k _ (Kd hm).symm
 rw [aO] at g
 have hm := V8 g
 obtain rfl := o1 hm
 exact rO ⟨rfl, rfl⟩ zx
 refine Ck<|Xm<|Xn<|Cg<|tS (sa rfl rfl (by omega))<|mV rfl<|Tn ?_
 exact jM hm ⟨rfl, rfl, (e)⟩
 rw [if_neg A] at hm
 rcases Decidable.em ((D : Int) = (1 : Int)) with B | B
 rw [if_pos B] at hm
 refine tS (z2V (cs := [.func (.func 57) #[] #[], .func (.func 58) #[] #[], .func (.func 59) #[] #[]]) 1 rfl rfl B (by decide) rfl j0r j3w)<|aS rfl<|Te<|Cr<|mV rfl<|tS (sD (vs := [_, _, _, _, _]) 0 5 rfl P0 rfl rfl rfl) ?_
 obtain ⟨a7, al, hm⟩ := bS hm
 have zw := a.trans (c.trans (d.trans e))
 refine tD (q0K #[] #[] [.agg #[sv J f.Stations E, sv O f.Sections S, sv U f.Links V, sv o f.Signals p, sv q f.Gates r]] rfl j5E rfl (fun w ho => q9s _ [] f J E O S U V o p q r ((h4.le zw).old ho) ((h7.le zw).old ho) ((av.le zw).old ho) ((aw.le zw).old ho) ((ax.le zw).old ho) a7 al) (fun _ _ _ h => h.2.symm)) ?_
 rintro _ _ ⟨⟨_, rfl, _⟩, rfl⟩
 refine aS rfl<|Te<|Cr<|mV rfl<|tS (q2 rfl rfl)<|Te<|cI hm rfl (fun hm => ?_) fun hm => ?_
 refine Cr<|mV rfl<|aS rfl<|Te<|Ct<|Xb<|Xr<|Xr<|Xb<|Xr ?_
 have aP := k _ (Kd hm).symm
 rw [aP] at g
 have hm := V8 g
 obtain rfl := o1 hm
 exact rO ⟨rfl, rfl⟩ zw
 refine Ck<|Xm<|Xn<|Cg<|tS (sa rfl rfl (by omega))<|mV rfl<|Tn ?_
 exact jM hm ⟨rfl, rfl, (e)⟩
 rw [if_neg B] at hm
 rcases Decidable.em ((D : Int) = (2 : Int)) with C | C
 rw [if_pos C] at hm
 refine tS (z2V (cs := [.func (.func 57) #[] #[], .func (.func 58) #[] #[], .func (.func 59) #[] #[]]) 2 rfl rfl C (by decide) rfl j0r j3w)<|aS rfl<|Te<|Cr<|mV rfl<|tS (sD (vs := [_, _, _, _, _]) 0 5 rfl P0 rfl rfl rfl) ?_
 obtain ⟨a8, am, hm⟩ := bS hm
 have zv := a.trans (c.trans (d.trans e))
 refine tD (q0K #[] #[] [.agg #[sv J f.Stations E, sv O f.Sections S, sv U f.Links V, sv o f.Signals p, sv q f.Gates r]] rfl j5D rfl (fun w ho => z1t _ [] f J E O S U V o p q r ((h4.le zv).old ho) ((h7.le zv).old ho) ((av.le zv).old ho) ((aw.le zv).old ho) ((ax.le zv).old ho) a8 am) (fun _ _ _ h => h.2.symm)) ?_
 rintro _ _ ⟨⟨_, rfl, _⟩, rfl⟩
 refine aS rfl<|Te<|Cr<|mV rfl<|tS (q2 rfl rfl)<|Te<|cI hm rfl (fun hm => ?_) fun hm => ?_
 refine Cr<|mV rfl<|aS rfl<|Te<|Ct<|Xb<|Xr<|Xr<|Xb<|Xr ?_
 have aQ := k _ (Kd hm).symm
 rw [aQ] at g
 have hm := V8 g
 obtain rfl := o1 hm
 exact rO ⟨rfl, rfl⟩ zv
 refine Ck<|Xm<|Xn<|Cg<|tS (sa rfl rfl (by omega))<|mV rfl<|Tn ?_
 exact jM hm ⟨rfl, rfl, (e)⟩
 rw [if_neg C] at hm
 cases hm
 rintro _ ac _ _ ⟨rfl, rfl, e⟩ aR
 rw [aR] at g
 have hm := G0 g
 refine Cr<|tS (lF rfl rfl (by omega))<|Te<|Cs<|w9 rfl<|Ce<|Xe<|Xe<|Xo<|Xn<|Cr<|aS rfl<|Te<|Ct ?_
 obtain rfl := o1 hm
 exact rO ⟨rfl, rfl⟩ (a.trans (c.trans (d.trans e)))
theorem j0g (b : k9) (R : Hp) (x1 i j k l m K) (hm : q8e x1 = some (i, j, k, l, m, K)):
 v8 Tryz.prog 23 [.string (x1)] b (R) (fun v b' hp' => ∃ x L y O z S A T B U, .tuple #[.agg #[sv x i L, sv y j O, sv z k S, sv A l T, sv B m U], iv K] = v ∧ R = hp' ∧ FZ RT.str b'.w x L i ∧ (x = none ↔ i = []) ∧ FZ j4 b'.w y O j ∧ (y = none ↔ j = []) ∧ FZ Q0 b'.w z S k ∧ (z = none ↔ k = []) ∧ FZ j6 b'.w A T l ∧ (A = none ↔ l = []) ∧ FZ Q1 b'.w B U m ∧ (B = none ↔ m = [])) := by
 refine fE 45 Tryz.func23 rfl Tryz.ntmps23 rfl ?_
 unfold q8e at hm
 refine Cr<|tD (uA [sn, sn, sn, sn, sn] z6f rfl) ?_
 rintro _ _ ⟨V, rfl, rfl⟩
 refine aS rfl<|Te<|Cs<|Cr<|mV rfl<|tS (q2b rfl q9W)<|tS (q5 rfl rfl)<|Te<|cI hm rfl (fun hm => ?_) fun hm => ?_
 refine Cr<|tS (sB (v := .agg #[sn, sn, sn, sn, sn]) [] rfl (fun _ => by kernel_rfl))<|tD (uN (vs := [_, _, _, _, _]) 0 5 rfl rfl rfl z7t rfl (mc rfl (mc rfl (mc rfl (mc rfl (mc rfl mn))))) rfl (by simp)) ?_
 rintro _ _ rfl
 refine aS rfl<|Te<|Ct<|Xr ?_
 obtain ⟨rfl, rfl, rfl, rfl, rfl, rfl⟩ := j0U hm
 exact rM (rs := [.cell 2 28, .tmp 3]) (vs := [.agg #[sn, sn, sn, sn, sn], iv 4]) ⟨⟨_, rfl, fun w ho => q4Q (vs := [_, _, _, _, _]) 0 5 P0 rfl rfl rfl w ho⟩, ⟨rfl, trivial⟩⟩ ⟨none, 0, none, 0, none, 0, none, 0, none, 0, rfl, rfl, FZ.nil, ⟨fun _ => rfl, fun _ => rfl⟩, FZ.nil, ⟨fun _ => rfl, fun _ => rfl⟩, FZ.nil, ⟨fun _ => rfl, fun _ => rfl⟩, FZ.nil, ⟨fun _ => rfl, fun _ => rfl⟩, FZ.nil, ⟨fun _ => rfl, fun _ => rfl⟩⟩ (.cons _ (.refl _)) lr
 refine Ck<|Xn<|Cr<|mV rfl ?_
 obtain ⟨⟨aa, n⟩, C, hm⟩ := bS hm
 have hm := H0 hm
 refine Tg _ rfl j5J rfl (z7Y _ _ x1 aa n C) ?_
 rintro _ ab _ e ⟨ac, ad, c, rfl, rfl, r⟩
 refine q3x [] [_] c R rfl<|mV rfl<|tS (w7 rfl rfl)<|tS (w7 rfl rfl)<|aS rfl<|aS rfl<|Te<|Cs<|Cr<|mV rfl<|tS (sn2 rfl)<|Te<|cM hm rfl (fun hm => ?_) fun hm => ?_
 refine Cr<|tS (sB (v := .agg #[sn, sn, sn, sn, sn]) [] rfl (fun _ => by kernel_rfl))<|tD (uN (vs := [_, _, _, _, _]) 0 5 rfl rfl rfl z7t rfl (mc rfl (mc rfl (mc rfl (mc rfl (mc rfl mn))))) rfl (by simp)) ?_
 rintro _ _ rfl
 refine aS rfl<|Te<|Ct<|Xr ?_
 obtain ⟨rfl, rfl, rfl, rfl, rfl, rfl⟩ := j0U hm
 exact rM (rs := [.cell 2 28, .tmp 3]) (vs := [.agg #[sn, sn, sn, sn, sn], iv 10]) ⟨⟨_, rfl, fun w ho => q4Q (vs := [_, _, _, _, _]) 0 5 P0 rfl rfl rfl w ho⟩, ⟨rfl, trivial⟩⟩ ⟨none, 0, none, 0, none, 0, none, 0, none, 0, rfl, rfl, FZ.nil, ⟨fun _ => rfl, fun _ => rfl⟩, FZ.nil, ⟨fun _ => rfl, fun _ => rfl⟩, FZ.nil, ⟨fun _ => rfl, fun _ => rfl⟩, FZ.nil, ⟨fun _ => rfl, fun _ => rfl⟩, FZ.nil, ⟨fun _ => rfl, fun _ => rfl⟩⟩ (.cons _ (ss c (.refl _))) e
 refine Ck<|Xn<|Cr<|tD (uA [sn, sn, sn, sn, sn] z6f rfl) ?_
 rintro _ _ ⟨s, rfl, rfl⟩
 refine Te<|Cr<|aS rfl<|Te<|Cs<|Cr<|mV rfl<|tS (sE rfl j3m)<|mV rfl<|Te<|Cb ?_
 have ae : n.length ≤ 9223372036854775807 := (OS.len r)
 refine Cp 1 rfl ?_
 obtain ⟨ak, D, f⟩ := bS hm
 refine lF (fun t => fun _ => fun g e' hp' => [(2, pb V), (6, pb s), (7, iv 0), (24, sv ac n ad), (25, iv ((n.length : Int))), (26, iv ((t : Int)))] = e' ∧ (V, Cl 28 [sn, sn, sn, sn, sn]) :: (s, Cl 28 [sn, sn, sn, sn, sn]) :: (c ++ R) = hp' ∧ ab.Le g) D ⟨rfl, rfl, lr⟩ ?_ ?_
 rintro t _ g _ _ af W ⟨rfl, rfl, a⟩ d J
 unfold q7n at d
 have hm := d
 refine Cr<|tS (lT rfl rfl (by omega))<|Te<|Cs<|k7 rfl<|Ck<|Xn<|Cs<|Cb<|Cr ?_
 obtain ⟨al, X, hm⟩ := bS hm
 obtain ⟨Y, E, F⟩ := iS X
 obtain ⟨ag, ah, am, an, ai, G, o, H, p, aj, Z⟩ := OS.get (sz := 1) rfl (by decide) (r.le a) F
 obtain ⟨⟨ao, aq, rfl, ar⟩, rfl⟩ := G
 refine tS (sI Y rfl rfl E p H j3m)<|tS (Q3 rfl z7H (fun w ho => o w _ ho (.cons _ (.cons _ (Kb _ _))) 0 _ rfl))<|aS rfl<|Te<|Cr<|mV rfl ?_
 cases hm
 rintro _ g _ _ ⟨rfl, rfl, a⟩ I
 rw [I] at f
 have hm := G0 f
 refine Cr<|tS (lF rfl rfl (by omega))<|Te<|Cs<|w9 rfl<|Ce<|Xe<|Xe<|Xo<|Xn<|Cs<|Cr<|tS (sD (vs := [_, _, _, _, _]) 1 5 rfl P0 rfl rfl rfl) ?_
 obtain ⟨u, q, hm⟩ := bS hm
 refine tD (uW _ z9T rfl (fun w ho => q9u _ [] (⟨[], [], [], [], []⟩ : j3) none 0 none 0 none 0 none 0 none 0 FZ.nil FZ.nil FZ.nil FZ.nil FZ.nil u q) (fun _ _ _ h => h.2.symm)) ?_
 rintro _ _ ⟨⟨_, rfl, _⟩, rfl⟩
 refine aS rfl<|Te<|Cr<|mV rfl<|tS (q2 rfl rfl)<|Te<|cI hm rfl (fun hm => ?_) fun hm => ?_
 refine Cr<|tS (sB (v := .agg #[sn, sn, sn, sn, sn]) [] rfl (fun _ => by kernel_rfl))<|mV rfl<|tD (uN (vs := [_, _, _, _, _]) 0 5 rfl rfl rfl z7t rfl (mc rfl (mc rfl (mc rfl (mc rfl (mc rfl mn))))) rfl (by simp)) ?_
 rintro _ _ rfl
 refine aS rfl<|Te<|Ct<|Xr ?_
 obtain ⟨rfl, rfl, rfl, rfl, rfl, rfl⟩ := j0U hm
 exact rM (rs := [.cell 2 28, .tmp 3]) (vs := [.agg #[sn, sn, sn, sn, sn], iv u]) ⟨⟨_, rfl, fun w ho => q4Q (vs := [_, _, _, _, _]) 0 5 P0 rfl rfl rfl w ho⟩, ⟨rfl, trivial⟩⟩ ⟨none, 0, none, 0, none, 0, none, 0, none, 0, rfl, rfl, FZ.nil, ⟨fun _ => rfl, fun _ => rfl⟩, FZ.nil, ⟨fun _ => rfl, fun _ => rfl⟩, FZ.nil, ⟨fun _ => rfl, fun _ => rfl⟩, FZ.nil, ⟨fun _ => rfl, fun _ => rfl⟩, FZ.nil, ⟨fun _ => rfl, fun _ => rfl⟩⟩ (.cons _ (.cons _ (ss c (.refl _)))) (e.trans a)
 refine Ck<|Xn<|Cr<|tS (sD (vs := [_, _, _, _, _]) 1 5 rfl P0 rfl rfl rfl)<|tD (uN (vs := [_, _, _, _, _]) 0 5 rfl rfl rfl z7t rfl (mc rfl (mc rfl (mc rfl (mc rfl (mc rfl mn))))) rfl (by simp)) ?_
 rintro _ _ rfl
 refine aS rfl<|Te<|Ct ?_
 obtain ⟨rfl, rfl, rfl, rfl, rfl, rfl⟩ := j0U hm
 exact rM (rs := [.cell 2 28, .tmp 3]) (vs := [.agg #[sn, sn, sn, sn, sn], iv 0]) ⟨⟨_, rfl, fun w ho => q4Q (vs := [_, _, _, _, _]) 0 5 P0 rfl rfl rfl w ho⟩, ⟨rfl, trivial⟩⟩ ⟨none, 0, none, 0, none, 0, none, 0, none, 0, rfl, rfl, FZ.nil, ⟨fun _ => rfl, fun _ => rfl⟩, FZ.nil, ⟨fun _ => rfl, fun _ => rfl⟩, FZ.nil, ⟨fun _ => rfl, fun _ => rfl⟩, FZ.nil, ⟨fun _ => rfl, fun _ => rfl⟩, FZ.nil, ⟨fun _ => rfl, fun _ => rfl⟩⟩ (.cons _ (.cons _ (ss c (.refl _)))) (e.trans a)
theorem q9v (b : k9) (R : Hp) (d) (hm : q0A = some d):
 v8 Tryz.prog 5 [] b (R) (fun v b' hp' => bv d = v ∧ R = hp') := by
 refine fE 9 Tryz.func5 rfl Tryz.ntmps5 rfl ?_
 unfold q0A at hm
 refine Cr<|aS rfl<|Te<|Cr ?_
 obtain ⟨⟨e, f, g, h, i, j⟩, a, hm⟩ := bS hm
 have hm := j6C hm
 refine Tg _ rfl j5V rfl (j0g _ _ (ByteArray.mk #[120]) e f g h i j a) ?_
 rintro _ k _ c ⟨l, m, n, o, p, q, r, s, t, u, rfl, rfl, w, x, y, z, A, B, C, D, E, F⟩
 refine mV rfl<|tS (w7 rfl rfl)<|tS (w7 rfl rfl)<|tD (uA [sn, sn, sn, sn, sn] z6f rfl) ?_
 rintro _ _ ⟨G, rfl, rfl⟩
 refine tD (uN (vs := [_, _, _, _, _]) 0 5 rfl rfl rfl z7t rfl (mc rfl (mc rfl (mc rfl (mc rfl (mc rfl mn))))) rfl (by simp)) ?_
 rintro _ _ rfl
 refine aS rfl<|Te<|Cr<|mV rfl<|tS (q2 rfl rfl)<|aS rfl<|Te<|Ct ?_
 obtain rfl := o1 hm
 exact rO ⟨rfl, rfl⟩ c
theorem z4Q (b : k9) (R : Hp) (u c m) (hm : q2f u c = some m):
 v8 Tryz.prog 105 [iv u, iv c] b (R) (fun v b' hp' => ∃ n o, sv n m o = v ∧ R = hp' ∧ FZ rI b'.w n o m) := by
 refine fE 20 Tryz.func105 rfl Tryz.ntmps105 rfl ?_
 unfold q2f at hm
 refine Cr<|aS rfl<|Te<|Cs<|Cb ?_
 obtain ⟨w, p, q⟩ := bS hm
 refine Cj (fun d e' hp' => [(0, iv u), (1, iv c), (5, bv w)] = e' ∧ R = hp' ∧ b.Le d) ?_ ?_
 have hm := p
 refine Cg<|mV rfl<|Tb rfl (q1 rfl rfl) (fun e => ?_) (fun e => ?_)
 rw [if_pos e] at hm
 refine mV rfl<|yS<|mV rfl<|yS<|tS (q1 rfl rfl)<|tS (pT rfl rfl)<|aS rfl<|Tn ?_
 obtain rfl := o1 hm
 exact jJ ⟨rfl, rfl, lr⟩
 rw [if_neg e] at hm
 refine mV rfl<|nO<|nO<|tS (pF rfl rfl)<|aS rfl<|Tn ?_
 obtain rfl := o1 hm
 exact jJ ⟨rfl, rfl, lr⟩
 rintro d _ _ ⟨rfl, rfl, a⟩
 have hm := q
 refine cB hm rfl (fun hm => ?_) fun hm => ?_
 refine Cr<|tD (V3 (el := 3) [(0, iv 1), (1, iv 2)] [iv 1, iv 2] rfl (fun _ => by kernel_rfl)) ?_
 rintro _ _ ⟨f, rfl, rfl⟩
 refine aS rfl<|Te<|Ct<|Xb<|Xr<|j2S 0 [] R rfl rfl ?_
 have x : OS 3 (OT.fr rI) d.w (.slice (some ⟨f, 0, none⟩) 2 2) [1, 2] [(f, Cl 3 [iv 1, iv 2])] := OS.lit [[iv 1], [iv 2]] rfl ⟨rfl, ⟨rfl, trivial⟩⟩ rfl (by decide)
 have y : (((some ⟨f, 0, none⟩) : OA) = none ↔ [1, 2] = []) := ⟨nofun, nofun⟩
 refine z1C [] [(f, Cl 3 [iv 1, iv 2])] R rfl ?_
 intro G g r
 have z := OS.frz (l := [1, 2]) x g.cells r
 obtain rfl := o1 hm
 exact rO ⟨(some ⟨f, 0, none⟩), 2, rfl, rfl, z⟩ (a.trans g)
 refine Cr<|mV rfl<|tS (q1 rfl rfl)<|aS rfl<|Te<|cI hm rfl (fun hm => ?_) fun hm => ?_
 refine Cr<|tD (V3 (el := 3) [(0, iv 0)] [iv 0] rfl (fun _ => by kernel_rfl)) ?_
 rintro _ _ ⟨h, rfl, rfl⟩
 refine aS rfl<|Te<|Ct<|Xb<|Xr<|j2S 0 [] R rfl rfl ?_
 have A : OS 3 (OT.fr rI) d.w (.slice (some ⟨h, 0, none⟩) 1 1) [0] [(h, Cl 3 [iv 0])] := OS.lit [[iv 0]] rfl ⟨rfl, trivial⟩ rfl (by decide)
 have B : (((some ⟨h, 0, none⟩) : OA) = none ↔ [0] = []) := ⟨nofun, nofun⟩
 refine z1C [] [(h, Cl 3 [iv 0])] R rfl ?_
 intro H i s
 have C := OS.frz (l := [0]) A i.cells s
 obtain rfl := o1 hm
 exact rO ⟨(some ⟨h, 0, none⟩), 1, rfl, rfl, C⟩ (a.trans i)
 refine Ck<|Xm<|Xn<|Cr<|mV rfl<|tS (j4A rfl rfl)<|tD (V3 (el := 3) [(0, iv (z5j .i64 c 1))] [iv (z5j .i64 c 1)] rfl (fun _ => by kernel_rfl)) ?_
 rintro _ _ ⟨j, rfl, rfl⟩
 refine aS rfl<|Te<|Ct<|j2S 0 [] R rfl rfl ?_
 have D : OS 3 (OT.fr rI) d.w (.slice (some ⟨j, 0, none⟩) 1 1) [z5j .i64 c 1] [(j, Cl 3 [iv (z5j .i64 c 1)])] := OS.lit [[iv (z5j .i64 c 1)]] rfl ⟨rfl, trivial⟩ rfl (by decide)
 have E : (((some ⟨j, 0, none⟩) : OA) = none ↔ [z5j .i64 c 1] = []) := ⟨nofun, nofun⟩
 refine z1C [] [(j, Cl 3 [iv (z5j .i64 c 1)])] R rfl ?_
 intro I k t
 have F := OS.frz (l := [z5j .i64 c 1]) D k.cells t
 obtain rfl := o1 hm
 exact rO ⟨(some ⟨j, 0, none⟩), 1, rfl, rfl, F⟩ (a.trans k)
theorem z4P (b : k9) (R : Hp) (a : j3) (c : v7) (m n o p q r d e f g) (s : FZ RT.str b.w m n a.Stations) (t : FZ j4 b.w o p a.Sections) (j : FZ Q0 b.w q r a.Links) (k : FZ j6 b.w d e a.Signals) (l : FZ Q1 b.w f g a.Gates) (h) (hm : q0P a c = some h):
 v8 Tryz.prog 99 [.agg #[sv m a.Stations n, sv o a.Sections p, sv q a.Links r, sv d a.Signals e, sv f a.Gates g], .agg #[iv c.section_, iv c.end_]] b (R) (fun v b' hp' => ∃ i, i = v ∧ R = hp' ∧ j4m Tryz.prog b' i (h.map (fun x : v6 => (.agg #[iv x.Section, iv x.In, iv x.Out] : Value)))) := by
 unfold q0P at hm
 exact j2V (fun b R => q3i b R) (fun b R => z4Q b R) s t j k l hm
theorem z3C (b : k9) (R : Hp) (a : v6) (c d e) (hm : q3Y a c = some e):
 v8 Tryz.prog 108 [.agg #[iv a.Section, iv a.In, iv a.Out], pb d] b ((d, Cl 3 [iv c]) :: R) (fun v b' hp' => bv e = v ∧ (d, Cl 3 [iv c]) :: R = hp') := by
 refine fE 8 Tryz.func108 rfl Tryz.ntmps108 rfl ?_
 unfold q3Y at hm
 refine Cr<|tD (uB _ rfl rfl) ?_
 rintro _ _ ⟨f, rfl, rfl⟩
 refine aS rfl<|Te<|Cr<|tS (sF rfl K5)<|tS (sL 0 rfl Q8 rfl rfl)<|tS (sL 1 rfl Q8 rfl rfl)<|tS (q1 rfl rfl)<|aS rfl<|Te<|Ct ?_
 obtain rfl := o1 hm
 exact rO ⟨rfl, rfl⟩ lr
theorem q9L (b : k9) (R : Hp) (o p i A B) (E : FZ J1 b.w A B o) (q) (hm : q2h o p = some q):
 v8 Tryz.prog 124 [sv A o B, .func (.func 108) #[] #[pb i]] b ((i, Cl 3 [iv p]) :: R) (fun v b' hp' => iv q = v ∧ (i, Cl 3 [iv p]) :: R = hp') := by
 refine fE 19 Tryz.func124 rfl Tryz.ntmps124 rfl ?_
 unfold q2h at hm
 refine Cr<|aS rfl<|Te<|Cs<|Cr<|mV rfl<|tS (sE rfl q6f)<|mV rfl<|Te<|Cb ?_
 have F : o.length ≤ 9223372036854775807 := (FZ.bd E)
 obtain ⟨J, r, e⟩ := bS hm
 refine lF (fun s => fun _ => fun k e' hp' => [(0, sv A o B), (1, .func (.func 108) #[] #[pb i]), (7, iv ((o.length : Int))), (8, iv ((s : Int)))] = e' ∧ (i, Cl 3 [iv p]) :: R = hp' ∧ b.Le k) r ⟨rfl, rfl, lr⟩ ?_ ?_
 rintro s _ k _ _ G z ⟨rfl, rfl, a⟩ c f
 unfold q0s at c
 have hm := c
 refine Cr<|tS (lT rfl rfl (by omega))<|Te<|Cs<|k7 rfl<|Ck<|Xn<|Cs<|Cb<|Cr<|mV rfl<|aS rfl<|Te<|Cr<|mV rfl<|mV rfl<|mV rfl ?_
 obtain ⟨d, C, H, t, I, w, l, h, m, hm⟩ := bF (sz := 3) hm (E.le a)
 obtain ⟨_, _, rfl, rfl, ⟨_, _, rfl, rfl, rfl⟩⟩ := w
 refine tS (sI C rfl rfl t m h q6f)<|tS (sP (vs := [iv d.Section, iv d.In, iv d.Out]) 3 rfl q6T h rfl (fun j u hu => l j u hu)) ?_
 obtain ⟨D, n, hm⟩ := bS hm
 refine Tv #[] #[pb i] [.agg #[iv d.Section, iv d.In, iv d.Out]] rfl rfl j4e rfl (z3C _ _ d p i D n) ?_
 rintro _ K _ g ⟨rfl, rfl⟩
 refine Te<|cB hm rfl (fun hm => ?_) fun hm => ?_
 refine Cr<|mV rfl<|aS rfl<|Te<|Ct<|Xb<|Xr<|Xr<|Xb<|Xr ?_
 have x := f _ (Kd hm).symm
 rw [x] at e
 have hm := V8 e
 obtain rfl := o1 hm
 exact rO ⟨rfl, rfl⟩ (a.trans g)
 refine Ck<|Xm<|Xn<|Cg<|tS (sa rfl rfl (by omega))<|mV rfl<|Tn ?_
 exact jM hm ⟨rfl, rfl, ((a.trans g))⟩
 rintro _ k _ _ ⟨rfl, rfl, a⟩ y
 rw [y] at e
 have hm := G0 e
 refine Cr<|tS (lF rfl rfl (by omega))<|Te<|Cs<|w9 rfl<|Ce<|Xe<|Xe<|Xo<|Xn<|Cr<|aS rfl<|Te<|Ct ?_
 obtain rfl := o1 hm
 exact rO ⟨rfl, rfl⟩ a
theorem q7E (b : k9) (R : Hp) (e f g h i) (k : FZ J1 b.w h i e) (d) (hm : q0F e f = some d):
 v8 Tryz.prog 107 [sv h e i, .func (.func 108) #[] #[pb g]] b ((g, Cl 3 [iv f]) :: R) (fun v b' hp' => bv d = v ∧ (g, Cl 3 [iv f]) :: R = hp') := by
 refine fE 9 Tryz.func107 rfl Tryz.ntmps107 rfl ?_
 unfold q0F at hm
 refine Cr<|aS rfl<|Te<|Cr<|mV rfl<|mV rfl ?_
 obtain ⟨j, a, hm⟩ := bS hm
 refine Tg _ rfl z5U rfl (q9L _ _ e f g h i k j a) ?_
 rintro _ l _ c ⟨rfl, rfl⟩
 refine tS (q6 rfl rfl)<|aS rfl<|Te<|Ct ?_
 obtain rfl := o1 hm
 exact rO ⟨rfl, rfl⟩ c
theorem F7 (b : k9) (R : Hp) (e f g h) (k : FZ J1 b.w g h e) (d) (hm : W6 e f = some d):
 v8 Tryz.prog 82 [sv g e h, iv f] b (R) (fun v b' hp' => bv d = v ∧ R = hp') := by
 refine fE 8 Tryz.func82 rfl Tryz.ntmps82 rfl ?_
 unfold W6 at hm
 refine Cr<|tD (uB _ rfl rfl) ?_
 rintro _ _ ⟨i, rfl, rfl⟩
 refine aS rfl<|Te<|Cr<|mV rfl<|tS (q2m _ _ rfl rfl) ?_
 obtain ⟨j, a, hm⟩ := bS hm
 refine Tg _ rfl z5V rfl (q7E _ _ e f i g h k j a) ?_
 rintro _ l _ c ⟨rfl, rfl⟩
 refine aS rfl<|Te<|Ct ?_
 obtain rfl := o1 hm
 exact rO ⟨rfl, rfl⟩ c
theorem q6b (b : k9) (R : Hp) (d e f g h t i c y z A j k l m n o p q x B r) (H : FZ RT.str b.w z A d) (D : FZ j4 b.w j k e) (E : FZ Q0 b.w l m f) (F : FZ j6 b.w n o g) (G : FZ Q1 b.w p q h) (I : OS 36 (OT.fr Z3) b.w (sv x c B) c r) (C : (x = none ↔ c = [])) (u w) (hm : P9 d e f g h t i c = some (u, w)):
 v8 Tryz.prog 100 [pb y] b ((y, Cl 126 [sv z d A, sv j e k, sv l f m, sv n g o, sv p h q, sv x c B, iv t, bv i]) :: (r ++ R)) (fun v b' hp' => .tuple #[] = v ∧ (y, Cl 126 [sv z d A, sv j e k, sv l f m, sv n g o, sv p h q, sv x c B, iv u, bv w]) :: (r ++ R) = hp') := by
 refine fE 23 Tryz.func100 rfl Tryz.ntmps100 rfl ?_
 unfold P9 at hm
 refine Cr<|mV rfl<|tS (sN rfl)<|tS (sF rfl z3r)<|tS (sL 0 rfl Q8 rfl rfl) ?_
 obtain ⟨_, s, hm⟩ := bS hm
 have s := (kS s).2
 refine tS (sa rfl rfl s)<|tS (sN rfl)<|tS (sF rfl z3r)<|tD (uS 0 rfl rfl z3Y rfl rfl (by simp)) ?_
 rintro _ _ rfl
 refine Te<|Cg<|mV rfl<|mV rfl<|tS (sN rfl)<|tS (sF rfl q7b)<|tS (sL 0 rfl q6p rfl rfl) ?_
 rcases Kg i with a | a
 rw [if_pos a] at hm
 refine Tr 13 rfl (v' := .bool true) (by rw [a] <;> rfl)<|mV rfl<|nO<|nO<|nO<|nO<|nO<|tS (pT rfl rfl)<|tS (sN rfl)<|tS (sF rfl q7b)<|tD (uS 0 rfl rfl z6o rfl rfl (by simp)) ?_
 rintro _ _ rfl
 refine Tn ?_
 obtain ⟨rfl, rfl⟩ := V9 hm
 exact eZ ⟨rfl, rfl⟩ lr
 rw [if_neg (fun hh => Bool.noConfusion (hh.symm.trans a))] at hm
 refine Tr 13 rfl (v' := .bool false) (by rw [a] <;> rfl)<|mV rfl<|yS<|mV rfl<|yS<|tS (sN rfl)<|yS<|tS (sF rfl z3r)<|yS<|tS (sL 0 rfl Q8 rfl rfl)<|yS<|tS (q5 rfl rfl)<|tS (pF rfl rfl)<|tS (sN rfl)<|tS (sF rfl q7b)<|tD (uS 0 rfl rfl z6o rfl rfl (by simp)) ?_
 rintro _ _ rfl
 refine Tn ?_
 obtain ⟨rfl, rfl⟩ := V9 hm
 exact eZ ⟨rfl, rfl⟩ lr
theorem z3y (A : Option Addr) (n c : Nat) (xs : List Value) (w : World) (hR : Rd w A xs) (hl : xs.length = n * 3) (hn : n * 24 ≤ 140737488355328 ∧ n ≤ 9223372036854775807) :
    q5s Tryz.prog 101 [.slice A n c] w [] (fun v hp' => q9R 62 3 v n xs hp') := by
  refine q5I 8 Tryz.func101 rfl Tryz.ntmps101 rfl ?_
  refine q7i ?_
  refine z1x rfl rfl ?_
  refine q5t ?_
  refine q3F ?_
  refine q7i ?_
  refine z5l rfl rfl ?_
  refine q5W rfl (q5w rfl rfl q6f) (fun hc1 => ?_) (fun hc1 => ?_)
  ·
    refine q5t ?_
    refine k7 rfl ?_
    refine q7i ?_
    refine z1x rfl rfl ?_
    refine q5t ?_
    refine q4B ?_
    refine X9 ?_
    subst hc1
    obtain rfl := hR.none_nil
    obtain rfl : n = 0 := by simp at hl; omega
    refine q4D (hp' := []) (by repeat (first | exact List.Sublist.refl _ | exact List.nil_sublist _ | exact Kb _ _ | exact Kc _ _ | exact (Kc _ _).trans (Kc _ _) | apply List.Sublist.cons_cons | apply List.Sublist.cons)) ?_
    exact z6p (k9.Le.refl _) rfl rfl (q9R.nil)
  ·
    refine q5t ?_
    refine w9 rfl ?_
    refine q4z ?_
    refine Q9 ?_
    refine q7i ?_
    refine z2i rfl (V3 (el := 62) [] [] rfl (fun _ => by kernel_rfl)) ?_
    rintro _ _ ⟨g0, rfl, rfl⟩
    refine z5l rfl rfl ?_
    refine z2i rfl (z0p xs q6f j1p rfl (by decide) rfl rfl hl (fun w ho => hR.old ho) hn.2 hn.1) ?_
    rintro _ _ ⟨hs, rfl, hseg⟩
    refine z1x rfl rfl ?_
    refine q5t ?_
    refine q4B ?_
    refine q4D (hp' := hs) (by repeat (first | exact List.Sublist.refl _ | exact List.nil_sublist _ | exact Kb _ _ | exact Kc _ _ | exact (Kc _ _).trans (Kc _ _) | apply List.Sublist.cons_cons | apply List.Sublist.cons)) ?_
    exact z6p (k9.Le.refl _) rfl rfl hseg
theorem q9z (b : k9) (R : Hp) (d e f) (i : FZ J1 b.w e f d) (a) (hm : q3B d = some a):
 v8 Tryz.prog 101 [sv e d f] b (R) (fun v b' hp' => ∃ g h c, sv g a h = v ∧ (c ++ R) = hp' ∧ OS 62 (OT.fr J1) b'.w (sv g a h) a c) := by
 unfold q3B at hm
 obtain ⟨_, hroom, hm⟩ := bS hm
 have hroom := W9 hroom
 obtain rfl := o1 hm
 exact q5N (r := J1) (sz := 3) (by_ := 24) rfl (by decide) z3y i hroom
theorem z1P (b : k9) (R : Hp) (s) (h : j5) (C D) (F : FZ j6 b.w C D s) (t) (hm : q3l s h = some t):
 v8 Tryz.prog 122 [sv C s D, .agg #[iv h.Section, iv h.End]] b (R) (fun v b' hp' => iv t = v ∧ R = hp') := by
 refine fE 19 Tryz.func122 rfl Tryz.ntmps122 rfl ?_
 unfold q3l at hm
 refine Cr<|tD (uB _ rfl rfl) ?_
 rintro _ _ ⟨w, rfl, rfl⟩
 refine aS rfl<|Te<|Cs<|Cr<|mV rfl<|tS (sE rfl z5d)<|mV rfl<|Te<|Cb ?_
 have G : s.length ≤ 9223372036854775807 := (FZ.bd F)
 obtain ⟨I, x, e⟩ := bS hm
 refine lF (fun y => fun _ => fun l e' hp' => [(0, sv C s D), (3, pb w), (7, iv ((s.length : Int))), (8, iv ((y : Int)))] = e' ∧ (w, Cl 128 [iv h.Section, iv h.End]) :: R = hp' ∧ b.Le l) x ⟨rfl, rfl, lr⟩ ?_ ?_
 rintro y _ l _ _ H B ⟨rfl, rfl, a⟩ c f
 unfold q1c at c
 have hm := c
 refine Cr<|tS (lT rfl rfl (by omega))<|Te<|Cs<|k7 rfl<|Ck<|Xn<|Cs<|Cb<|Cr<|mV rfl<|aS rfl<|Te<|Cs ?_
 obtain ⟨d, z, hm⟩ := bS hm
 refine Di mixed (.refl _)<|Es 0 rfl (sD (vs := [_, _]) 0 2 rfl z4W rfl rfl rfl)<|E0 1 rfl (sM rfl)<|E0 2 rfl (sM rfl) ?_
 obtain ⟨A, m, n⟩ := iS z
 obtain ⟨E, o, i, g, k⟩ := FZ.get (sz := 2) rfl (by decide) (F.le a) n
 obtain ⟨_, _, rfl, rfl, rfl⟩ := o
 refine E0 3 rfl (sI A rfl rfl m k g z5d)<|Es 4 rfl (sP (vs := [iv d.Section, iv d.End]) 2 rfl z4W g rfl (fun j u hu => i j u hu))<|E0 5 rfl (j3j (xs := [iv h.Section, iv h.End]) (ys := [iv d.Section, iv d.End]) (p := h.Section = d.Section ∧ h.End = d.End) rfl rfl j5i ⟨⟨_, rfl⟩, ⟨⟨_, rfl⟩, trivial⟩⟩ ⟨⟨_, rfl⟩, ⟨⟨_, rfl⟩, trivial⟩⟩ (by simp [H7, q4s, Bool.decide_and, z6a]))<|Eo<|Dd (by kernel_rfl)<|Xn<|cI hm rfl (fun hm => ?_) fun hm => ?_
 refine Cr<|mV rfl<|aS rfl<|Te<|Ct<|Xb<|Xr<|Xr<|Xb<|Xr ?_
 have q := f _ (Kd hm).symm
 rw [q] at e
 have hm := V8 e
 obtain rfl := o1 hm
 exact rO ⟨rfl, rfl⟩ a
 refine Ck<|Xm<|Xn<|Cg<|tS (sa rfl rfl (by omega))<|mV rfl<|Tn ?_
 exact jM hm ⟨rfl, rfl, (a)⟩
 rintro _ l _ _ ⟨rfl, rfl, a⟩ r
 rw [r] at e
 have hm := G0 e
 refine Cr<|tS (lF rfl rfl (by omega))<|Te<|Cs<|w9 rfl<|Ce<|Xe<|Xe<|Xo<|Xn<|Cr<|aS rfl<|Te<|Ct ?_
 obtain rfl := o1 hm
 exact rO ⟨rfl, rfl⟩ a
theorem z1o (b : k9) (R : Hp) (c : j3) (a : v7) (m n o p q r d e g i) (y : FZ RT.str b.w m n c.Stations) (z : FZ j4 b.w o p c.Sections) (s : FZ Q0 b.w q r c.Links) (k : FZ j6 b.w d e c.Signals) (t : FZ Q1 b.w g i c.Gates) (j) (hm : F1 c a = some j):
 v8 Tryz.prog 102 [.agg #[sv m c.Stations n, sv o c.Sections p, sv q c.Links r, sv d c.Signals e, sv g c.Gates i], .agg #[iv a.section_, iv a.end_]] b (R) (fun v b' hp' => iv j = v ∧ R = hp') := by
 refine fE 13 Tryz.func102 rfl Tryz.ntmps102 rfl ?_
 unfold F1 at hm
 refine Cr<|tD (uB _ rfl rfl) ?_
 rintro _ _ ⟨u, rfl, rfl⟩
 refine tD (uB _ rfl rfl) ?_
 rintro _ _ ⟨x, rfl, rfl⟩
 refine aS rfl<|Te<|Cr<|tS (sF rfl q3O)<|tS (sL 1 rfl q9J rfl rfl)<|tS (sF rfl q1Z)<|tS (sL 0 rfl Q8 rfl rfl)<|tS (sF rfl q4N)<|tS (sL 0 rfl Q8 rfl rfl)<|tS (sB (v := .agg #[iv a.section_, iv a.end_]) [(0, iv a.section_), (1, iv a.end_)] rfl (fun _ => by kernel_rfl)) ?_
 obtain ⟨l, f, hm⟩ := bS hm
 refine tD (uW _ j3X rfl (fun w ho => z1P _ [] c.Signals (⟨a.section_, a.end_⟩ : j5) d e (k.old ho) l f) (fun _ _ _ h => h.2.symm)) ?_
 rintro _ _ ⟨⟨_, rfl, _⟩, rfl⟩
 refine aS rfl<|Te<|Ct ?_
 obtain rfl := o1 hm
 exact rO ⟨rfl, rfl⟩ lr
theorem z1q : ∀ (N : Nat) (b : k9) (R : Hp) (x7 ai) (aQ : v7) (L O S T U bd be aR g6 A8 c9 V W X Y Z aa ab ac ad ae A3 c4 bc) (bf : FZ J1 b.w A8 c9 ai) (aD : FZ RT.str b.w V W L) (aE : FZ j4 b.w X Y O) (aF : FZ Q0 b.w Z aa S) (aC : FZ j6 b.w ab ac T) (aG : FZ Q1 b.w ad ae U) (h5 : OS 36 (OT.fr Z3) b.w (sv A3 aR c4) aR bc) (aX : (A3 = none ↔ aR = [])) (aH aI aj) (hm : J7 N x7 ai aQ L O S T U bd be aR = some (aH, aI, aj)),
 v8 Tryz.prog 60 [pb g6, iv x7, sv A8 ai c9, .agg #[iv aQ.section_, iv aQ.end_]] b ((g6, Cl 126 [sv V L W, sv X O Y, sv Z S aa, sv ab T ac, sv ad U ae, sv A3 aR c4, iv bd, bv be]) :: (bc ++ R)) (fun v b' hp' => ∃ aY bg a8, .tuple #[] = v ∧ (g6, Cl 126 [sv V L W, sv X O Y, sv Z S aa, sv ab T ac, sv ad U ae, sv aY aj bg, iv aH, bv aI]) :: (a8 ++ R) = hp' ∧ OS 36 (OT.fr Z3) b'.w (sv aY aj bg) aj a8 ∧ (aY = none ↔ aj = [])) := by
  intro N
  induction N with
  | zero =>
    intro b R x7 ai aQ L O S T U bd be aR g6 A8 c9 V W X Y Z aa ab ac ad ae A3 c4 bc bf aD aE aF aC aG h5 aX aH aI aj hm
    unfold J7 at hm
    cases hm
  | succ N ih =>
   intro b R x7 ai aQ L O S T U bd be aR g6 A8 c9 V W X Y Z aa ab ac ad ae A3 c4 bc bf aD aE aF aC aG h5 aX aH aI aj hm
   refine fE 103 Tryz.func60 rfl Tryz.ntmps60 rfl ?_
   unfold J7 at hm
   refine Cr<|tD (uB _ rfl rfl) ?_
   rintro _ _ ⟨s, rfl, rfl⟩
   refine tD (uB _ rfl rfl) ?_
   rintro _ _ ⟨y, rfl, rfl⟩
   refine tD (uB _ rfl rfl) ?_
   rintro _ _ ⟨I, rfl, rfl⟩
   refine tD (uB _ rfl rfl) ?_
   rintro _ _ ⟨bh, rfl, rfl⟩
   refine Te ?_
   obtain ⟨ak, bE, bG⟩ := bS hm
   refine Cj (fun bi e' hp' => ∃ J, [(4, pb s), (5, pb y), (6, pb I), (7, pb bh), (8, pb J)] = e' ∧ (s, Cl 124 [pb g6]) :: (y, Cl 3 [iv x7]) :: (I, Cl 34 [sv A8 ai c9]) :: (bh, Cl 131 [iv aQ.section_, iv aQ.end_]) :: (J, Cl 3 [iv ak]) :: (g6, Cl 126 [sv V L W, sv X O Y, sv Z S aa, sv ab T ac, sv ad U ae, sv A3 aR c4, iv bd, bv be]) :: (bc ++ R) = hp' ∧ b.Le bi) ?_ ?_
   have hm := bE
   obtain ⟨cz, b6, hm⟩ := bS hm
   refine Di mixed (.refl _)<|Es 0 rfl (sL 3 rfl q6q rfl rfl)<|E0 1 rfl (sN rfl)<|E0 2 rfl (sF rfl z0h)<|E0 3 rfl (sF rfl q3O)<|Es 4 rfl (sL 4 rfl q9J rfl rfl)<|Es 5 rfl (sL 2 rfl Q8 rfl rfl) ?_
   obtain ⟨b7, bH, bI⟩ := iS b6
   obtain ⟨cx, bJ, bj, a9, bk⟩ := FZ.get (sz := 2) rfl (by decide) aC bI
   obtain ⟨_, _, rfl, rfl, rfl⟩ := bJ
   refine E0 6 rfl (sI b7 rfl rfl bH bk a9 z5d)<|E0 7 rfl (sQ rfl a9 q4c)<|Es 8 rfl (sO rfl Q8 (bj 0 _ rfl))<|Eo<|Da [9] (by kernel_rfl) rfl ?_
   refine Rd2 lr rfl rfl (uA [iv 0] j6u rfl) ?_ ?_
   rintro _ _ ⟨b8, rfl, rfl⟩
   refine iR<|Da [10] (by kernel_rfl) rfl ?_
   refine Rd2 lr rfl rfl (uS 0 rfl rfl z3Y rfl rfl (by simp)) ?_ ?_
   rintro _ _ rfl
   refine ⟨.inl (by kernel_rfl), ?_⟩
   refine Dd (by kernel_rfl) ?_
   obtain rfl := o1 hm
   exact jJ ⟨b8, rfl, rfl, lr⟩
   exact Rn
   exact Rn
   rintro bi _ _ ⟨J, rfl, rfl, c⟩
   have hm := bG
   refine Cs ?_
   obtain ⟨b9, bl, hm⟩ := bS hm
   refine Di mixed (.refl _)<|Es 0 rfl (sL 0 rfl q6q rfl rfl)<|E0 1 rfl (sN rfl)<|E0 2 rfl (sF rfl z0h)<|Es 3 rfl (sD (vs := [_, _, _, _, _]) 5 5 rfl P0 rfl rfl rfl)<|Es 4 rfl (sD (vs := [_, _]) 3 2 rfl q2V rfl rfl rfl)<|Eo<|Da [5] (by kernel_rfl) rfl ?_
   refine Rg lr rfl rfl _ j2t rfl (z4P _ _ (⟨L, O, S, T, U⟩ : j3) aQ V W X Y Z aa ab ac ad ae (aD.le c) (aE.le c) (aF.le c) (aC.le c) (aG.le c) b9 bl) ?_ ?_
   rintro _ ca _ f ⟨cA, rfl, rfl, cb⟩
   refine iR<|Dd (by kernel_rfl)<|Xn<|Cb ?_
   obtain ⟨cC, bK, H⟩ := bS hm
   refine Cp 5 rfl<|Cp 5 rfl<|Cp 4 rfl<|Cp 4 rfl<|Cp 4 rfl ?_
   have bL := (h5.le (c.trans f))
   refine z7e (fun x : v6 => (.agg #[iv x.Section, iv x.In, iv x.Out] : Value)) (q5U fun C D z => fun aJ hp' => ∃ p t k, (s, Cl 124 [pb g6]) :: (y, Cl 3 [iv x7]) :: (I, Cl 34 [sv A8 ai c9]) :: (J, Cl 3 [iv ak]) :: (g6, Cl 126 [sv V L W, sv X O Y, sv Z S aa, sv ab T ac, sv ad U ae, sv p z t, iv C, bv D]) :: (k ++ R) = hp' ∧ ca.Le aJ ∧ OS 36 (OT.fr Z3) aJ.w (sv p z t) z k ∧ (p = none ↔ z = [])) rfl cb bK (e' := [(4, pb s), (5, pb y), (6, pb I), (8, pb J)]) ⟨rfl, rfl, rfl, rfl, trivial⟩ (.cons_cons _ (.cons_cons _ (.cons_cons _ (.cons_cons _ (.cons_cons _ (.cons _ (.refl _))))))) rfl (fun dk hdk => ⟨A3, c4, bc, rfl, k9.Le.dks hdk, bL, aX⟩) ?_ ?_ (fun x hx => (c.trans f).dk x hx)
   rintro aw ax j ⟨C, D, z⟩ aJ cc _ cy ⟨p, t, k, rfl, e, ah, E⟩ d av al
   unfold J2 at av
   have hm := (q6j av)
   refine Cg<|tD (uA [iv 0, iv 0, iv 0] q5T rfl) ?_
   rintro _ _ ⟨aK, rfl, rfl⟩
   refine tD (uN (vs := [_, _, _]) 0 3 rfl rfl rfl q8T rfl (mc rfl (mc rfl (mc rfl mn))) rfl (by simp)) ?_
   rintro _ _ rfl
   refine Tn<|z8m 1 rfl<|Cb<|Cs<|Cr<|tS (sL 2 rfl q6q rfl rfl)<|tS (sN rfl)<|tS (sF rfl q7b)<|tS (sL 6 rfl q6p rfl rfl)<|Te ?_
   refine cB hm rfl (fun hm => ?_) fun hm => ?_
   refine Ct<|Xr<|Xb<|z2L 0 rfl lr<|Ct<|Xb ?_
   have bM := al _ (Kd hm).symm
   rw [bM] at H
   have hm := V8 H
   obtain ⟨rfl, rfl, rfl⟩ := q7e hm
   have bN := (ah.le d)
   exact rZ ⟨p, t, k, rfl, rfl, bN, E⟩ (c.trans (f.trans (e.trans d)))
   refine Ck<|Xn<|Cs ?_
   obtain ⟨cd, bO, bP⟩ := bS hm
   refine Cj (fun aZ e' hp' => [(4, pb s), (5, pb y), (6, pb I), (9, pb aK), (44, bv cd)] = e' ∧ (s, Cl 124 [pb g6]) :: (y, Cl 3 [iv x7]) :: (I, Cl 34 [sv A8 ai c9]) :: (aK, Cl 62 [iv j.Section, iv j.In, iv j.Out]) :: (J, Cl 3 [iv ak]) :: (g6, Cl 126 [sv V L W, sv X O Y, sv Z S aa, sv ab T ac, sv ad U ae, sv p z t, iv C, bv D]) :: (ax, Lb aw) :: (k ++ R) = hp' ∧ cc.Le aZ) ?_ ?_
   have hm := bO
   refine Cg<|tS (sF rfl K5)<|tS (sL 1 rfl Q8 rfl rfl)<|tS (sL 5 rfl Q8 rfl rfl) ?_
   refine Tb rfl (q1 rfl rfl) (fun aL => ?_) (fun aL => ?_)
   rw [if_pos aL] at hm
   refine mV rfl<|nO<|nO<|nO<|nO<|tS (pT rfl rfl)<|Tn ?_
   obtain rfl := o1 hm
   exact jJ ⟨rfl, rfl, lr⟩
   rw [if_neg aL] at hm
   refine mV rfl<|yS<|tS (sL 4 rfl q3A rfl rfl)<|yS<|tS (sF rfl K5)<|yS<|tS (sL 1 rfl Q8 rfl rfl)<|yS ?_
   obtain ⟨ce, bm, hm⟩ := bS hm
   refine tD (uW _ q6E rfl (fun w ho => F7 _ [] ai j.Section A8 c9 ((bf.le (c.trans (f.trans (e.trans d)))).old ho) ce bm) (fun _ _ _ h => h.2.symm)) ?_
   rintro _ _ ⟨⟨_, rfl, _⟩, rfl⟩
   refine tS (pF rfl rfl)<|Tn ?_
   obtain rfl := o1 hm
   exact jJ ⟨rfl, rfl, lr⟩
   rintro aZ _ _ ⟨rfl, rfl, a⟩
   have hm := bP
   refine cB hm rfl (fun hm => ?_) fun hm => ?_
   refine Cr<|tS (sL 0 rfl q6q rfl rfl) ?_
   obtain ⟨⟨cf, cg⟩, bn, hm⟩ := bS hm
   have hm := (H0 hm)
   refine J3 5 rfl<|q3Q [_] [_, _, _, _, _, _] k R rfl<|Tg _ rfl j0a rfl (q6b _ _ L O S T U C D z g6 V W X Y Z aa ab ac ad ae p t k (aD.le (c.trans (f.trans (e.trans (d.trans a))))) (aE.le (c.trans (f.trans (e.trans (d.trans a))))) (aF.le (c.trans (f.trans (e.trans (d.trans a))))) (aC.le (c.trans (f.trans (e.trans (d.trans a))))) (aG.le (c.trans (f.trans (e.trans (d.trans a))))) (ah.le (d.trans a)) E cf cg bn) ?_
   rintro _ cD _ ay ⟨rfl, rfl⟩
   refine q3x [_] [_, _, _, _, _, _] k R rfl<|Te<|Ct<|Xr<|Xb<|z2L 6 rfl (a.trans ay)<|Ct<|Xb ?_
   have bQ := al _ (Kd hm).symm
   rw [bQ] at H
   have hm := V8 H
   obtain ⟨rfl, rfl, rfl⟩ := q7e hm
   have bR := (ah.le (d.trans (a.trans ay)))
   exact rZ ⟨p, t, k, rfl, rfl, bR, E⟩ (c.trans (f.trans (e.trans (d.trans (a.trans ay)))))
   refine Ck<|Xn ?_
   obtain ⟨q, bT, bU⟩ := bS hm
   refine Cj (fun aM e' hp' => ∃ B F af, [(4, pb s), (5, pb y), (9, pb aK), (10, sv B q F)] = e' ∧ (s, Cl 124 [pb g6]) :: (y, Cl 3 [iv x7]) :: (aK, Cl 62 [iv j.Section, iv j.In, iv j.Out]) :: (I, Cl 34 [sv A8 ai c9]) :: (J, Cl 3 [iv ak]) :: (g6, Cl 126 [sv V L W, sv X O Y, sv Z S aa, sv ab T ac, sv ad U ae, sv p z t, iv C, bv D]) :: (ax, Lb aw) :: (af ++ (k ++ R)) = hp' ∧ aZ.Le aM ∧ OS 62 (OT.fr J1) aM.w (sv B q F) q af ∧ (B = none ↔ q = [])) ?_ ?_
   have hm := bT
   obtain ⟨aN, aT, hm⟩ := bS hm
   obtain ⟨_, aq, hm⟩ := bS hm
   refine Di mixed (.refl _)<|Es 0 rfl (sL 2 rfl q3A rfl rfl)<|Es 2 rfl (sD (vs := [_, _, _]) 3 3 rfl q6T rfl rfl rfl)<|Eo<|Da [1, 3] (by kernel_rfl) rfl ?_
   refine Rg lr rfl rfl _ z9Z rfl (q9z _ _ ai A8 c9 (bf.le (c.trans (f.trans (e.trans (d.trans a))))) aN aT) ?_ ?_
   rintro _ ch _ A ⟨ci, cj, aO, rfl, rfl, a0⟩
   refine iR<|q7h [] [_, _, _, _, _, _, _] aO (k ++ R) rfl<|Da [3] (by kernel_rfl) rfl ?_
   refine Rd2 A rfl rfl (V3 (el := 62) [(0, .agg #[iv j.Section, iv j.In, iv j.Out])] [iv j.Section, iv j.In, iv j.Out] rfl (fun _ => by kernel_rfl)) ?_ ?_
   rintro _ _ ⟨ck, rfl, rfl⟩
   refine iR ?_
   have aq := W9 aq
   refine Da [4] (by kernel_rfl) rfl ?_
   refine Rd2 A rfl rfl (uQ (r := J1) (l := aN) [_, _, _, _, _, _, _, _] (k ++ R) [[iv j.Section, iv j.In, iv j.Out]] [j] rfl (by decide) q6f j1p rfl rfl rfl rfl a0 rfl (fun w ho => Rd.own (i := 0) ho rfl) ⟨⟨[iv j.Section], _, rfl, rfl, ⟨[iv j.In], _, rfl, rfl, rfl⟩⟩, trivial⟩ aq) ?_ ?_
   rintro _ _ ⟨an, rfl, am⟩
   obtain ⟨a1, a2, rfl, _⟩ := am.form
   refine iR<|Ei A (.cons _ (.cons_cons _ (.cons_cons _ (.cons_cons _ (.cons_cons _ (.cons_cons _ (.cons_cons _ (.cons_cons _ (ss an (.refl _))))))))))<|E0 5 rfl (sA rfl)<|Eo<|Dd (by kernel_rfl) ?_
   obtain rfl := o1 hm
   exact jJ ⟨a1, a2, an, rfl, rfl, A, am, (OS.nz am (by simp))⟩
   exact Rn
   exact Rn
   refine Rd2 lr rfl rfl (V3 (el := 62) [(0, .agg #[iv j.Section, iv j.In, iv j.Out])] [iv j.Section, iv j.In, iv j.Out] rfl (fun _ => by kernel_rfl)) ?_ ?_
   rintro _ _ ⟨ck, rfl, rfl⟩
   refine iR<|Da [1] (by kernel_rfl) rfl ?_
   refine Rg lr rfl rfl _ z9Z rfl (q9z _ _ ai A8 c9 (bf.le (c.trans (f.trans (e.trans (d.trans a))))) aN aT) ?_ ?_
   rintro _ ch _ A ⟨ci, cj, aO, rfl, rfl, a0⟩
   refine iR<|q7h [] [_, _, _, _, _, _, _, _] aO (k ++ R) rfl ?_
   have aq := W9 aq
   refine Da [4] (by kernel_rfl) rfl ?_
   refine Rd2 A rfl rfl (uQ (r := J1) (l := aN) [_, _, _, _, _, _, _, _] (k ++ R) [[iv j.Section, iv j.In, iv j.Out]] [j] rfl (by decide) q6f j1p rfl rfl rfl rfl a0 rfl (fun w ho => Rd.own (i := 0) ho rfl) ⟨⟨[iv j.Section], _, rfl, rfl, ⟨[iv j.In], _, rfl, rfl, rfl⟩⟩, trivial⟩ aq) ?_ ?_
   rintro _ _ ⟨an, rfl, am⟩
   obtain ⟨a1, a2, rfl, _⟩ := am.form
   refine iR<|Ei A (.cons _ (.cons_cons _ (.cons_cons _ (.cons_cons _ (.cons_cons _ (.cons_cons _ (.cons_cons _ (.cons_cons _ (ss an (.refl _))))))))))<|E0 5 rfl (sA rfl)<|Eo<|Dd (by kernel_rfl) ?_
   obtain rfl := o1 hm
   exact jJ ⟨a1, a2, an, rfl, rfl, A, am, (OS.nz am (by simp))⟩
   exact Rn
   exact Rn
   exact Rn
   rintro aM _ _ ⟨B, F, af, rfl, rfl, g, bo, cw⟩
   have hm := bU
   refine Cs<|Cr<|mV rfl<|tS (sE rfl q6f)<|tS (q5 rfl rfl)<|Te ?_
   refine cI hm rfl (fun hm => ?_) fun hm => ?_
   refine Cr<|tS (sL 0 rfl q6q rfl rfl)<|tS (sN rfl)<|tS (sF rfl q7b)<|tD (uS 5 rfl rfl z6o rfl rfl (by simp)) ?_
   rintro _ _ rfl
   refine Te<|Ct<|Xr<|Xb<|z2L 6 rfl (a.trans g)<|Ct<|Xb ?_
   have bV := al _ (Kd hm).symm
   rw [bV] at H
   have hm := V8 H
   obtain ⟨rfl, rfl, rfl⟩ := q7e hm
   have bW := (ah.le (d.trans (a.trans g)))
   exact rZ ⟨p, t, k, rfl, rfl, bW, E⟩ (c.trans (f.trans (e.trans (d.trans (a.trans g)))))
   refine Ck<|Xn<|Cr<|tS (sF rfl K5)<|tS (sL 2 rfl Q8 rfl rfl)<|tS (sF rfl z3p)<|tS (sL 2 rfl Q8 rfl rfl)<|tS (sB (v := .agg #[iv j.Section, iv j.Out]) [(0, iv j.Section), (1, iv j.Out)] rfl (fun _ => by kernel_rfl))<|tD (uA [iv 0, iv 0] q2W rfl) ?_
   rintro _ _ ⟨aP, rfl, rfl⟩
   refine tD (uN (vs := [_, _]) 0 2 rfl rfl rfl q3R rfl (mc rfl (mc rfl mn)) rfl (by simp)) ?_
   rintro _ _ rfl
   refine Te<|Cs ?_
   obtain ⟨K, bp, hm⟩ := bS hm
   refine Di mixed (.refl _)<|Es 0 rfl (sL 1 rfl q6q rfl rfl)<|E0 1 rfl (sN rfl)<|E0 2 rfl (sF rfl z0h)<|Es 3 rfl (sD (vs := [_, _, _, _, _]) 6 5 rfl P0 rfl rfl rfl)<|Es 4 rfl (sD (vs := [_, _]) 0 2 rfl q2V rfl rfl rfl)<|Eo<|Da [5] (by kernel_rfl) rfl ?_
   refine Rd2 lr rfl rfl (uW _ z9Y rfl (fun w ho => z1o _ [] (⟨L, O, S, T, U⟩ : j3) (⟨j.Section, j.Out⟩ : v7) V W X Y Z aa ab ac ad ae ((aD.le (c.trans (f.trans (e.trans (d.trans (a.trans g)))))).old ho) ((aE.le (c.trans (f.trans (e.trans (d.trans (a.trans g)))))).old ho) ((aF.le (c.trans (f.trans (e.trans (d.trans (a.trans g)))))).old ho) ((aC.le (c.trans (f.trans (e.trans (d.trans (a.trans g)))))).old ho) ((aG.le (c.trans (f.trans (e.trans (d.trans (a.trans g)))))).old ho) K bp) (fun _ _ _ h => h.2.symm)) ?_ ?_
   rintro _ _ ⟨⟨_, rfl, _⟩, rfl⟩
   refine iR<|Ei lr (.refl _)<|E0 6 rfl (sA rfl)<|Eo<|Dd (by kernel_rfl)<|Xn<|Cs ?_
   obtain ⟨bq, bX, bY⟩ := bS hm
   refine Cj (fun a3 e' hp' => [(4, pb s), (5, pb y), (10, sv B q F), (11, pb aP), (12, iv K), (14, bv bq)] = e' ∧ (s, Cl 124 [pb g6]) :: (y, Cl 3 [iv x7]) :: (aP, Cl 131 [iv j.Section, iv j.Out]) :: (I, Cl 34 [sv A8 ai c9]) :: (J, Cl 3 [iv ak]) :: (g6, Cl 126 [sv V L W, sv X O Y, sv Z S aa, sv ab T ac, sv ad U ae, sv p z t, iv C, bv D]) :: (ax, Lb aw) :: (af ++ (k ++ R)) = hp' ∧ aM.Le a3) ?_ ?_
   have hm := bX
   obtain ⟨⟨br, bs, bt⟩, aU, hm⟩ := bS hm
   have hm := (q6j hm)
   refine Di mixed (.refl _)<|Es 0 rfl (sL 1 rfl q6q rfl rfl)<|E0 1 rfl (sN rfl)<|E0 2 rfl (sF rfl z0h)<|Es 3 rfl (sD (vs := [_, _, _, _, _]) 6 5 rfl P0 rfl rfl rfl)<|Es 4 rfl (sD (vs := [_, _]) 0 2 rfl q2V rfl rfl rfl)<|Eo<|Da [5, 9] (by kernel_rfl) rfl ?_
   refine Rg lr rfl rfl _ z4E rfl (q3i _ _ (⟨L, O, S, T, U⟩ : j3) (⟨j.Section, j.Out⟩ : v7) V W X Y Z aa ab ac ad ae (aD.le (c.trans (f.trans (e.trans (d.trans (a.trans g)))))) (aE.le (c.trans (f.trans (e.trans (d.trans (a.trans g)))))) (aF.le (c.trans (f.trans (e.trans (d.trans (a.trans g)))))) (aC.le (c.trans (f.trans (e.trans (d.trans (a.trans g)))))) (aG.le (c.trans (f.trans (e.trans (d.trans (a.trans g)))))) br bs bt aU) ?_ ?_
   rintro _ cl _ o ⟨rfl, rfl⟩
   refine iR<|Ei o (.refl _)<|E0 6 rfl (sM rfl)<|E0 7 rfl (w7 rfl rfl)<|E0 8 rfl (w7 rfl rfl)<|Eo<|Da [9] (by kernel_rfl) rfl ?_
   refine Rd2 o rfl rfl (uA [iv 0, iv 0] q2W rfl) ?_ ?_
   rintro _ _ ⟨cm, rfl, rfl⟩
   refine iR<|Da [10] (by kernel_rfl) rfl ?_
   refine Rd2 o rfl rfl (uN (vs := [_, _]) 0 2 rfl rfl rfl q3R rfl (mc rfl (mc rfl mn)) rfl (by simp)) ?_ ?_
   rintro _ _ rfl
   refine ⟨.inl (by kernel_rfl), ?_⟩
   refine El o<|E0 11 rfl (sA rfl)<|Eo<|Dd (by kernel_rfl) ?_
   obtain rfl := o1 hm
   exact jJ ⟨rfl, rfl, o⟩
   exact Rn
   exact Rn
   refine Rd2 lr rfl rfl (uA [iv 0, iv 0] q2W rfl) ?_ ?_
   rintro _ _ ⟨cm, rfl, rfl⟩
   refine iR<|Da [5] (by kernel_rfl) rfl ?_
   refine Rg lr rfl rfl _ z4E rfl (q3i _ _ (⟨L, O, S, T, U⟩ : j3) (⟨j.Section, j.Out⟩ : v7) V W X Y Z aa ab ac ad ae (aD.le (c.trans (f.trans (e.trans (d.trans (a.trans g)))))) (aE.le (c.trans (f.trans (e.trans (d.trans (a.trans g)))))) (aF.le (c.trans (f.trans (e.trans (d.trans (a.trans g)))))) (aC.le (c.trans (f.trans (e.trans (d.trans (a.trans g)))))) (aG.le (c.trans (f.trans (e.trans (d.trans (a.trans g)))))) br bs bt aU) ?_ ?_
   rintro _ cl _ o ⟨rfl, rfl⟩
   refine iR<|Ei o (.cons _ (.refl _))<|E0 6 rfl (sM rfl)<|E0 7 rfl (w7 rfl rfl)<|E0 8 rfl (w7 rfl rfl)<|Eo<|Da [10] (by kernel_rfl) rfl ?_
   refine Rd2 o rfl rfl (uN (vs := [_, _]) 0 2 rfl rfl rfl q3R rfl (mc rfl (mc rfl mn)) rfl (by simp)) ?_ ?_
   rintro _ _ rfl
   refine ⟨.inl (by kernel_rfl), ?_⟩
   refine El o<|E0 11 rfl (sA rfl)<|Eo<|Dd (by kernel_rfl) ?_
   obtain rfl := o1 hm
   exact jJ ⟨rfl, rfl, o⟩
   exact Rn
   exact Rn
   exact Rn
   rintro a3 _ _ ⟨rfl, rfl, m⟩
   have hm := bY
   obtain ⟨cn, bZ, b0⟩ := bS hm
   refine Cj (fun a4 e' hp' => [(4, pb s), (5, pb y), (10, sv B q F), (11, pb aP), (12, iv K), (82, bv cn)] = e' ∧ (s, Cl 124 [pb g6]) :: (y, Cl 3 [iv x7]) :: (aP, Cl 131 [iv j.Section, iv j.Out]) :: (I, Cl 34 [sv A8 ai c9]) :: (J, Cl 3 [iv ak]) :: (g6, Cl 126 [sv V L W, sv X O Y, sv Z S aa, sv ab T ac, sv ad U ae, sv p z t, iv C, bv D]) :: (ax, Lb aw) :: (af ++ (k ++ R)) = hp' ∧ a3.Le a4) ?_ ?_
   have hm := bZ
   refine Cg<|mV rfl ?_
   rcases Kg bq with ao | ao
   rw [if_pos ao] at hm
   refine Tr 78 rfl (v' := .bool true) (by rw [ao] <;> rfl)<|mV rfl<|yS<|mV rfl<|yS<|tS (q3 rfl rfl)<|tS (pT rfl rfl)<|Tn ?_
   obtain rfl := o1 hm
   exact jJ ⟨rfl, rfl, lr⟩
   rw [if_neg (fun hh => Bool.noConfusion (hh.symm.trans ao))] at hm
   refine Tr 78 rfl (v' := .bool false) (by rw [ao] <;> rfl)<|mV rfl<|nO<|nO<|tS (pF rfl rfl)<|Tn ?_
   obtain rfl := o1 hm
   exact jJ ⟨rfl, rfl, lr⟩
   rintro a4 _ _ ⟨rfl, rfl, n⟩
   have hm := b0
   refine cB hm rfl (fun hm => ?_) fun hm => ?_
   refine Cr<|tS (sL 0 rfl q6q rfl rfl)<|tS (sL 1 rfl Q8 rfl rfl)<|mV rfl<|tS (sD (vs := [_, _]) 2 2 rfl q2V rfl rfl rfl)<|z8t [_, _, _, _, _, _, _] af (k ++ R) rfl ?_
   intro cE u b1
   have co := OS.frz (l := q) (bo.le (m.trans n)) u.cells b1
   obtain ⟨⟨bu, bw, bx⟩, bz, hm⟩ := bS hm
   have hm := (q6j hm)
   refine J3 5 rfl<|q3Q [_] [_, _, _, _, _, _] k R rfl<|Tg _ rfl j2x rfl (ih _ _ x7 q (⟨j.Section, j.Out⟩ : v7) L O S T U C D z g6 B F V W X Y Z aa ab ac ad ae p t k co (aD.le (c.trans (f.trans (e.trans (d.trans (a.trans (g.trans (m.trans (n.trans u))))))))) (aE.le (c.trans (f.trans (e.trans (d.trans (a.trans (g.trans (m.trans (n.trans u))))))))) (aF.le (c.trans (f.trans (e.trans (d.trans (a.trans (g.trans (m.trans (n.trans u))))))))) (aC.le (c.trans (f.trans (e.trans (d.trans (a.trans (g.trans (m.trans (n.trans u))))))))) (aG.le (c.trans (f.trans (e.trans (d.trans (a.trans (g.trans (m.trans (n.trans u))))))))) (ah.le (d.trans (a.trans (g.trans (m.trans (n.trans u)))))) E bu bw bx bz) ?_
   rintro _ cG _ aV ⟨cp, cq, ba, rfl, rfl, cr, cs⟩
   refine q3x [_] [_, _, _, _, _, _] ba R rfl<|Te<|Ce<|Xe<|Xo<|Xp 5 rfl<|Xp 5 rfl<|Xp 4 rfl<|Xp 4 rfl ?_
   exact z8k 6 rfl (a.trans (g.trans (m.trans (n.trans (u.trans aV))))) (.cons_cons _ (.cons_cons _ (.cons_cons _ (.cons_cons _ (.cons_cons _ (.cons _ (.refl _))))))) ⟨(bu, bw, bx), (Kd hm).symm, ⟨cp, cq, ba, rfl, (e.trans (d.trans (a.trans (g.trans (m.trans (n.trans (u.trans aV))))))), cr, cs⟩⟩
   refine Ck<|Xn ?_
   obtain ⟨ar, b2, b3⟩ := bS hm
   refine Cj (fun a5 e' hp' => ∃ au az ag, [(4, pb s)] = e' ∧ (s, Cl 124 [pb g6]) :: (y, Cl 3 [iv x7]) :: (I, Cl 34 [sv A8 ai c9]) :: (J, Cl 3 [iv ak]) :: (g6, Cl 126 [sv V L W, sv X O Y, sv Z S aa, sv ab T ac, sv ad U ae, sv au ar az, iv C, bv D]) :: (ax, Lb aw) :: (ag ++ R) = hp' ∧ a4.Le a5 ∧ OS 36 (OT.fr Z3) a5.w (sv au ar az) ar ag ∧ (au = none ↔ ar = [])) ?_ ?_
   have hm := b2
   refine j6d [_, _, _, _, _, _, _] af (k ++ R) rfl ?_
   intro cH aA b4
   have ct := OS.frz (l := q) (bo.le (m.trans n)) aA.cells b4
   obtain ⟨_, a6, hm⟩ := bS hm
   refine Di mixed (.cons_cons _ (.cons_cons _ (.cons_cons _ (.cons_cons _ (.cons_cons _ (.cons_cons _ (.cons_cons _ (ss k (.refl _)))))))))<|Es 0 rfl (sL 0 rfl q6q rfl rfl)<|Es 1 rfl (sL 0 rfl q6q rfl rfl)<|E0 2 rfl (sN rfl)<|E0 3 rfl (sF rfl z3s)<|Es 4 rfl (sL 5 rfl z1L rfl rfl)<|Es 5 rfl (sL 1 rfl Q8 rfl rfl)<|E0 6 rfl (sM rfl)<|E0 7 rfl (sM rfl)<|E0 8 rfl (sB (v := .agg #[iv x7, iv K, sv B q F]) [(0, iv x7), (1, iv K), (2, sv B q F)] rfl (fun _ => by kernel_rfl)) ?_
   refine Eo<|Da [9] (by kernel_rfl) rfl ?_
   refine Rd2 lr rfl rfl (V3 (el := 36) [(0, .agg #[iv x7, iv K, sv B q F])] [iv x7, iv K, sv B q F] rfl (fun _ => by kernel_rfl)) ?_ ?_
   rintro _ _ ⟨cJ, rfl, rfl⟩
   refine iR ?_
   have a6 := W9 a6
   refine Da [10] (by kernel_rfl) rfl ?_
   refine Rd2 lr rfl rfl (uQ (r := Z3) (l := z) [_, _, _, _, _, _, _, _] R [[iv x7, iv K, sv B q F]] [(⟨x7, K, q⟩ : z7)] rfl (by decide) z5c j6X rfl rfl rfl rfl (ah.le (d.trans (a.trans (g.trans (m.trans (n.trans aA)))))) rfl (fun w ho => Rd.own (i := 0) ho rfl) ⟨⟨[iv x7], _, rfl, rfl, ⟨[iv K], _, rfl, rfl, (RT.list_mk ct)⟩⟩, trivial⟩ a6) ?_ ?_
   rintro _ _ ⟨bb, rfl, a7⟩
   obtain ⟨cu, cv, rfl, _⟩ := a7.form
   refine iR<|Ei lr (.cons _ (.cons_cons _ (.cons_cons _ (.cons_cons _ (.cons_cons _ (.cons_cons _ (.cons_cons _ (.cons_cons _ (ss bb (.refl _))))))))))<|E0 11 rfl (sN rfl)<|E0 12 rfl (sF rfl z3s)<|Eo<|Da [13] (by kernel_rfl) rfl ?_
   refine Rd2 lr rfl rfl (uS 6 rfl rfl j6M rfl rfl (by simp)) ?_ ?_
   rintro _ _ rfl
   refine ⟨.inl (by kernel_rfl), ?_⟩
   refine Dd (by kernel_rfl) ?_
   obtain rfl := o1 hm
   exact jJ ⟨cu, cv, bb, rfl, rfl, aA, a7, (OS.nz a7 (by simp))⟩
   exact Rn
   exact Rn
   exact Rn
   rintro a5 _ _ ⟨au, az, ag, rfl, rfl, G, bA, aW⟩
   have hm := b3
   refine Cg<|tS (sL 0 rfl q6q rfl rfl) ?_
   obtain ⟨⟨bB, bC⟩, bD, hm⟩ := bS hm
   have hm := (H0 hm)
   refine J3 4 rfl<|q3Q [_] [_, _, _, _, _] ag R rfl<|Tg _ rfl j0a rfl (q6b _ _ L O S T U C D ar g6 V W X Y Z aa ab ac ad ae au az ag (aD.le (c.trans (f.trans (e.trans (d.trans (a.trans (g.trans (m.trans (n.trans G))))))))) (aE.le (c.trans (f.trans (e.trans (d.trans (a.trans (g.trans (m.trans (n.trans G))))))))) (aF.le (c.trans (f.trans (e.trans (d.trans (a.trans (g.trans (m.trans (n.trans G))))))))) (aC.le (c.trans (f.trans (e.trans (d.trans (a.trans (g.trans (m.trans (n.trans G))))))))) (aG.le (c.trans (f.trans (e.trans (d.trans (a.trans (g.trans (m.trans (n.trans G))))))))) bA aW bB bC bD) ?_
   rintro _ cK _ aB ⟨rfl, rfl⟩
   refine q3x [_] [_, _, _, _, _] ag R rfl<|Tn<|Xm<|Xp 4 rfl<|Xp 4 rfl<|Xp 4 rfl<|Xp 4 rfl ?_
   exact z8k 5 rfl (a.trans (g.trans (m.trans (n.trans (G.trans aB))))) (.refl _) ⟨(bB, bC, ar), (Kd hm).symm, ⟨au, az, ag, rfl, (e.trans (d.trans (a.trans (g.trans (m.trans (n.trans (G.trans aB))))))), (bA.le aB), aW⟩⟩
   exact Rn
   rintro ⟨C, D, z⟩ aJ _ ⟨p, t, k, rfl, e, ah, E⟩ b5
   rw [b5] at H
   have hm := G0 H
   have hm := (q6j hm)
   refine Xm ?_
   obtain ⟨rfl, rfl, rfl⟩ := q7e hm
   exact eZ ⟨p, t, k, rfl, rfl, ah, E⟩ (c.trans (f.trans e))
   exact Rn
theorem z3D (b : k9) (R : Hp) (c : j3) (T U V W X Y n o s t) (h4 : FZ RT.str b.w T U c.Stations) (h7 : FZ j4 b.w V W c.Sections) (ai : FZ Q0 b.w X Y c.Links) (J : FZ j6 b.w n o c.Signals) (aj : FZ Q1 b.w s t c.Gates) (H m) (hm : q2L c = some (H, m)):
 v8 Tryz.prog 25 [.agg #[sv T c.Stations U, sv V c.Sections W, sv X c.Links Y, sv n c.Signals o, sv s c.Gates t]] b (R) (fun v b' hp' => ∃ w I x, .tuple #[sv w m I, iv H] = v ∧ (x ++ R) = hp' ∧ OS 36 (OT.fr Z3) b'.w (sv w m I) m x ∧ (w = none ↔ m = [])) := by
 refine fE 35 Tryz.func25 rfl Tryz.ntmps25 rfl ?_
 unfold q2L at hm
 refine Cr<|tD (uB _ rfl rfl) ?_
 rintro _ _ ⟨ao, rfl, rfl⟩
 refine aS rfl<|aS rfl<|Te<|Cr<|tS (sD (vs := [_, _, _, _, _]) 0 5 rfl P0 rfl rfl rfl)<|tS (sB (v := .agg #[sv T c.Stations U, sv V c.Sections W, sv X c.Links Y, sv n c.Signals o, sv s c.Gates t, sn, iv 0, bv false]) [(0, .agg #[sv T c.Stations U, sv V c.Sections W, sv X c.Links Y, sv n c.Signals o, sv s c.Gates t])] rfl (fun _ => by kernel_rfl))<|tD (uB _ rfl rfl) ?_
 rintro _ _ ⟨y, rfl, rfl⟩
 refine aS rfl<|Te<|Cs<|Cr<|tS (sF rfl q3O)<|tS (sL 1 rfl q9J rfl rfl)<|tS (sE rfl z5d)<|mV rfl<|Te<|Cb ?_
 have ak : c.Signals.length ≤ 9223372036854775807 := (FZ.bd J)
 obtain ⟨⟨p, q, f⟩, K, L⟩ := bS hm
 refine lS (fun z => q5U fun p q f => fun r e' hp' => ∃ g i d, [(4, pb y), (11, sv n c.Signals o), (12, iv ((c.Signals.length : Int))), (13, iv ((z : Int)))] = e' ∧ (y, Cl 126 [sv T c.Stations U, sv V c.Sections W, sv X c.Links Y, sv n c.Signals o, sv s c.Gates t, sv g f i, iv p, bv q]) :: (d ++ R) = hp' ∧ b.Le r ∧ OS 36 (OT.fr Z3) r.w (sv g f i) f d ∧ (g = none ↔ f = [])) K ⟨none, 0, [], rfl, rfl, lr, OS.nil, ⟨fun _ => rfl, fun _ => rfl⟩⟩ ?_ ?_
 rintro z ⟨p, q, f⟩ r _ _ al Z ⟨g, i, d, rfl, rfl, a, A, k⟩ h
 unfold q1l at h
 have hm := q6j h
 refine Cr<|tS (lT rfl rfl (by omega))<|Te<|Cs<|k7 rfl<|Ck<|Xn<|Cs<|Cb<|Cr<|mV rfl ?_
 obtain ⟨e, aa, am, O, an, S, E, B, F, hm⟩ := bF (sz := 2) hm (J.le a)
 obtain ⟨_, _, rfl, rfl, rfl⟩ := S
 refine tS (sI aa rfl rfl O F B z5d)<|tS (sP (vs := [iv e.Section, iv e.End]) 2 rfl z4W B rfl (fun j u hu => E j u hu))<|tD (uA [iv 0, iv 0] z5i rfl) ?_
 rintro _ _ ⟨aq, rfl, rfl⟩
 refine aS rfl<|tD (uN (vs := [_, _]) 0 2 rfl rfl rfl z8C rfl (mc rfl (mc rfl mn)) rfl (by simp)) ?_
 rintro _ _ rfl
 refine Te<|Cg<|mV rfl<|mV rfl<|tS (sF rfl q4c)<|tS (sL 0 rfl Q8 rfl rfl)<|tS (sF rfl q8m)<|tS (sL 0 rfl Q8 rfl rfl)<|tS (sB (v := .agg #[iv e.Section, iv e.End]) [(0, iv e.Section), (1, iv e.End)] rfl (fun _ => by kernel_rfl)) ?_
 obtain ⟨⟨ab, ac, ad⟩, l, hm⟩ := bS hm
 obtain ⟨C, l⟩ := q8g l
 have hm := q6j hm
 refine J3 1 rfl<|q3Q [_] [_] d R rfl<|Tg _ rfl j2x rfl (z1q C _ _ (z : Int) [] (⟨e.Section, e.End⟩ : v7) c.Stations c.Sections c.Links c.Signals c.Gates p q f y none 0 T U V W X Y n o s t g i d FZ.nil (h4.le a) (h7.le a) (ai.le a) (J.le a) (aj.le a) A k ab ac ad l) ?_
 rintro _ ar _ G ⟨ae, af, D, rfl, rfl, ag, ah⟩
 refine q3x [_] [_] D R rfl<|Tn<|Xm<|Xn<|Cg<|tS (sa rfl rfl (by omega))<|mV rfl<|Tn ?_
 obtain rfl := o1 hm
 exact jS ⟨ae, af, D, rfl, rfl, ((a.trans G)), ag, ah⟩
 rintro r _ _ ⟨g, i, d, rfl, rfl, a, A, k⟩
 have hm := q6j L
 refine Cr<|tS (lF rfl rfl (by omega))<|Te<|Cs<|w9 rfl<|Ce<|Xe<|Xe<|Xo<|Xn<|Cs<|Cr<|mV rfl<|tS (sN rfl)<|tS (sF rfl q7b)<|tS (sL 0 rfl q6p rfl rfl)<|Te<|cB hm rfl (fun hm => ?_) fun hm => ?_
 refine Cr<|aS rfl<|aS rfl<|Te<|Ct<|Xr ?_
 obtain ⟨rfl, rfl⟩ := V9 hm
 exact rT ⟨none, 0, [], rfl, rfl, OS.nil, ⟨fun _ => rfl, fun _ => rfl⟩⟩ a
 refine Ck<|Xn<|Cr<|mV rfl<|tS (sN rfl)<|tS (sF rfl z3s)<|tS (sL 0 rfl z1L rfl rfl)<|aS rfl<|aS rfl<|Te<|Ct ?_
 obtain ⟨rfl, rfl⟩ := V9 hm
 exact rT ⟨g, i, d, rfl, rfl, A, k⟩ a
theorem q5P (b : k9) (R : Hp) (a : j3) (t u x y z A d e f g) (I : FZ RT.str b.w t u a.Stations) (J : FZ j4 b.w x y a.Sections) (o : FZ Q0 b.w z A a.Links) (p : FZ j6 b.w d e a.Signals) (q : FZ Q1 b.w f g a.Gates) (r c) (hm : H3 a = some (r, c)):
 v8 Tryz.prog 6 [.agg #[sv t a.Stations u, sv x a.Sections y, sv z a.Links A, sv d a.Signals e, sv f a.Gates g]] b (R) (fun v b' hp' => ∃ k s i, .tuple #[sv k c s, iv r] = v ∧ (i ++ R) = hp' ∧ OS 36 (OT.fr Z3) b'.w (sv k c s) c i ∧ (k = none ↔ c = [])) := by
 refine fE 14 Tryz.func6 rfl Tryz.ntmps6 rfl ?_
 unfold H3 at hm
 refine Cr<|tD (uB _ rfl rfl) ?_
 rintro _ _ ⟨K, rfl, rfl⟩
 refine aS rfl<|aS rfl<|Te<|Cs<|Cr<|tS (sD (vs := [_, _, _, _, _]) 0 5 rfl P0 rfl rfl rfl) ?_
 obtain ⟨B, l, hm⟩ := bS hm
 refine tD (uW _ z9T rfl (fun w ho => q9u _ [] a t u x y z A d e f g (I.old ho) (J.old ho) (o.old ho) (p.old ho) (q.old ho) B l) (fun _ _ _ h => h.2.symm)) ?_
 rintro _ _ ⟨⟨_, rfl, _⟩, rfl⟩
 refine aS rfl<|Te<|Cr<|mV rfl<|tS (q2 rfl rfl)<|Te<|cI hm rfl (fun hm => ?_) fun hm => ?_
 refine Cr<|mV rfl<|aS rfl<|aS rfl<|Te<|Ct<|Xr ?_
 obtain ⟨rfl, rfl⟩ := V9 hm
 exact rT ⟨none, 0, [], rfl, rfl, OS.nil, ⟨fun _ => rfl, fun _ => rfl⟩⟩ lr
 refine Ck<|Xn<|Cr<|tS (sD (vs := [_, _, _, _, _]) 0 5 rfl P0 rfl rfl rfl) ?_
 obtain ⟨⟨C, D⟩, m, hm⟩ := bS hm
 have hm := H0 hm
 refine Tg _ rfl j5U rfl (z3D _ _ a t u x y z A d e f g I J o p q C D m) ?_
 rintro _ L _ n ⟨E, F, j, rfl, rfl, G, H⟩
 refine q3x [] [_] j R rfl<|tS (w7 rfl rfl)<|tS (w7 rfl rfl)<|aS rfl<|aS rfl<|Te<|Ct ?_
 obtain ⟨rfl, rfl⟩ := V9 hm
 exact rT ⟨E, F, j, rfl, rfl, G, H⟩ n
theorem q8I (b : k9) (R : Hp) (c : j3) (e A B C D E F l m n o) (T : FZ RT.str b.w A B c.Stations) (I : FZ j4 b.w C D c.Sections) (J : FZ Q0 b.w E F c.Links) (K : FZ j6 b.w l m c.Signals) (L : FZ Q1 b.w n o c.Gates) (p) (hm : q1X c e = some p):
 v8 Tryz.prog 41 [.agg #[sv A c.Stations B, sv C c.Sections D, sv E c.Links F, sv l c.Signals m, sv n c.Gates o], iv e] b (R) (fun v b' hp' => bv p = v ∧ R = hp') := by
 refine fE 20 Tryz.func41 rfl Tryz.ntmps41 rfl ?_
 unfold q1X at hm
 refine Cr<|tD (uB _ rfl rfl) ?_
 rintro _ _ ⟨O, rfl, rfl⟩
 refine aS rfl<|Te ?_
 obtain ⟨y, q, r⟩ := bS hm
 refine Cj (fun s e' hp' => [(4, bv y)] = e' ∧ R = hp' ∧ b.Le s) ?_ ?_
 have hm := q
 refine Cg<|mV rfl<|tS (sF rfl q0B)<|tS (sL 0 rfl q5f rfl rfl)<|tS (sE rfl z1y) ?_
 obtain ⟨_, f, hm⟩ := bS hm
 have f := (kS f).2
 refine tS (sb rfl rfl f) ?_
 obtain ⟨t, g, hm⟩ := bS hm
 refine tD (uW _ q4R rfl (fun w ho => H8 _ [] e 0 ((c.Sections.length : Int) - 1) t g) (fun _ _ _ h => h.2.symm)) ?_
 rintro _ _ ⟨⟨_, rfl, _⟩, rfl⟩
 rcases Kg t with a | a
 rw [if_pos a] at hm
 refine Tr 10 rfl (v' := .bool true) (by rw [a] <;> rfl)<|mV rfl<|yS<|tS (sF rfl q0B)<|yS<|tS (sL 0 rfl q5f rfl rfl)<|yS<|mV rfl<|yS ?_
 obtain ⟨S, z, G, u, H, x, i, d, j, hm⟩ := bF (sz := 7) hm I
 obtain ⟨_, _, rfl, rfl, ⟨_, _, rfl, rfl, ⟨_, _, rfl, rfl, ⟨_, _, rfl, rfl, ⟨_, _, rfl, rfl, ⟨_, _, rfl, rfl, rfl⟩⟩⟩⟩⟩⟩ := x
 refine tS (sI z rfl rfl u j d z1y)<|yS<|tS (sQ rfl d q8n)<|yS<|tS (sO rfl Q8 (i 5 _ rfl))<|yS<|tS (q2 rfl rfl)<|tS (pT rfl rfl)<|aS rfl<|Tn ?_
 obtain rfl := o1 hm
 exact jJ ⟨rfl, rfl, lr⟩
 rw [if_neg (fun hh => Bool.noConfusion (hh.symm.trans a))] at hm
 refine Tr 10 rfl (v' := .bool false) (by rw [a] <;> rfl)<|mV rfl<|nO<|nO<|nO<|nO<|nO<|nO<|nO<|tS (pF rfl rfl)<|aS rfl<|Tn ?_
 obtain rfl := o1 hm
 exact jJ ⟨rfl, rfl, lr⟩
 rintro s _ _ ⟨rfl, rfl, k⟩
 have hm := r
 refine Ct ?_
 obtain rfl := o1 hm
 exact rO ⟨rfl, rfl⟩ k
end Go.Proofs.YtjlollifgeggdaaGreatDoor
