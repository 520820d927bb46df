import Derived.Test.YtdbehipjelcmbaaGreatDoorQZP3
set_option linter.unusedVariables false
set_option linter.unusedSimpArgs false
set_option linter.unusedSectionVars false
namespace Go.Proofs.YtdbehipjelcmbaaGreatDoor
open Go.RowKit Go.Fp
set_option maxRecDepth 20000
set_option maxHeartbeats 4000000
open Go.Fp renaming q4t → Te, q6p → Tn, q4S → Tb, q6q → Tg, q7X → Tv, z3Z → Tr, q5Y → Cr, q2V → Cs, q0w → Cg, q6K → Cb, q3M → Ct, q3d → Ck, z1j → Ce, z2z → Cj, q9m → Cp, Q4 → Xn, V5 → Xr, q1q → Xe, q1r → Xb, q0k → Xm, q2m → Xo, q8P → Xi, z2H → Xp, z0b → X2, q7T → X3, q7S → X4, q7R → X5, z6a → X6, j1C → Es, z7Y → E0, j1B → Ey, j6t → Yz, j2v → Ei, z5X → Eo, z7U → Da, z2F → Dd, z1B → Di, j6g → Rd2, z7T → Rn, q8R → sL, q5N → sD, q6Z → sF, z2l → sN, z0C → sE, q3S → sM, q1Z → sA, q5s → pT, q5t → pF, q0B → sI, q2n → sO, q2v → sP, q2w → sQ, z0G → sa, q5L → lT, q5M → lF, z6h → eT, z6i → eF, q6d → sn2, q7Z → sB, z2L → uB, q7v → uA, z0r → uS, q4Q → uN, q5I → uW, z0s → uP, z0t → uQ, q3L → fE, q7L → bS, z2V → o1, q4Y → iS, q5K → ss, z0x → sp, q8t → kS, z6B → d2, q8r → d3, z3A → d4, z7w → mc, z7v → mn, z0F → q1, q7Y → q2, z0D → q5, z0E → q6
theorem q6W (b : k8) (R : Hp) (d : q9) (i) (hm : q1A d = some i):
 w8 Tryz.prog 78 [.agg #[iv d.Kind, iv d.Place, iv d.Position, iv d.At]] b (R) (fun v b' hp' => bv i = v ∧ R = hp') := by
 refine fE 11 Tryz.func78 rfl Tryz.ntmps78 rfl ?_
 unfold q1A at hm
 refine Cr<|tD (uB _ rfl rfl) ?_
 rintro _ _ ⟨j, rfl, rfl⟩
 refine aS rfl<|Te ?_
 obtain ⟨h, e, f⟩ := bS hm
 refine Cj (fun g e' hp' => [(2, bv h)] = e' ∧ R = hp' ∧ b.Le g) ?_ ?_
 have hm := e
 refine Cg<|tS (sF rfl q0I)<|tS (sL 0 rfl Q5 rfl rfl)<|Tb rfl (q1 rfl rfl) (fun a => ?_) (fun a => ?_)
 rw [if_pos a] at hm
 refine mV rfl<|nO<|nO<|nO<|tS (pT rfl rfl)<|aS rfl<|Tn ?_
 obtain rfl := o1 hm
 exact jJ ⟨rfl, rfl, lr⟩
 rw [if_neg a] at hm
 refine mV rfl<|yS<|tS (sF rfl q0I)<|yS<|tS (sL 0 rfl Q5 rfl rfl)<|yS<|tS (q1 rfl rfl)<|tS (pF rfl rfl)<|aS rfl<|Tn ?_
 obtain rfl := o1 hm
 exact jJ ⟨rfl, rfl, lr⟩
 rintro g _ _ ⟨rfl, rfl, c⟩
 have hm := f
 refine Ct ?_
 obtain rfl := o1 hm
 exact rO ⟨rfl, rfl⟩ c
theorem q5g (b : k8) (R : Hp) (i : q9) (e : q9) (o j) (hm : G5 i e = some j):
 w8 Tryz.prog 79 [.agg #[iv i.Kind, iv i.Place, iv i.Position, iv i.At], .agg #[iv e.Kind, iv e.Place, iv e.Position, iv e.At], pb o] b ((o, Cl 131 [.func (.func 78) #[] #[]]) :: R) (fun v b' hp' => bv j = v ∧ (o, Cl 131 [.func (.func 78) #[] #[]]) :: R = hp') := by
 refine fE 26 Tryz.func79 rfl Tryz.ntmps79 rfl ?_
 unfold G5 at hm
 refine Cr<|tD (uB _ rfl rfl) ?_
 rintro _ _ ⟨q, rfl, rfl⟩
 refine tD (uB _ rfl rfl) ?_
 rintro _ _ ⟨r, rfl, rfl⟩
 refine aS rfl<|Te ?_
 obtain ⟨p, k, l⟩ := bS hm
 refine Cj (fun m e' hp' => [(5, bv p)] = e' ∧ (o, Cl 131 [.func (.func 78) #[] #[]]) :: R = hp' ∧ b.Le m) ?_ ?_
 have hm := k
 refine Cg<|tS (sF rfl q0I)<|tS (sL 1 rfl Q5 rfl rfl)<|Tb rfl (q1 rfl rfl) (fun c => ?_) (fun c => ?_)
 rw [if_pos c] at hm
 refine mV rfl<|yS<|tS (sF rfl q0I)<|yS<|tS (sL 0 rfl Q5 rfl rfl)<|yS<|Tb rfl (q1 rfl rfl) (fun d => ?_) (fun d => ?_)
 rw [if_pos d] at hm
 refine yS<|mV rfl<|nO<|nO<|nO<|yS<|tS (pT rfl rfl)<|tS (pT rfl rfl)<|mV rfl<|yS<|tS (sF rfl q1c)<|yS<|tS (sL 1 rfl Q5 rfl rfl)<|yS<|tS (sF rfl q1c)<|yS<|tS (sL 0 rfl Q5 rfl rfl)<|yS<|tS (q2 rfl rfl)<|tS (pT rfl rfl)<|aS rfl<|Tn ?_
 obtain rfl := o1 hm
 exact jJ ⟨rfl, rfl, lr⟩
 rw [if_neg d] at hm
 refine yS<|mV rfl<|yS<|tS (sL 2 rfl z8E rfl rfl)<|yS<|tS (sD (vs := [_, _, _, _]) 0 4 rfl q0n rfl rfl rfl)<|yS ?_
 obtain ⟨n, f, hm⟩ := bS hm
 refine tD (q0L #[] #[] [.agg #[iv e.Kind, iv e.Place, iv e.Position, iv e.At]] rfl z9v rfl (fun w ho => q6W _ [] e n f) (fun _ _ _ h => h.2.symm)) ?_
 rintro _ _ ⟨⟨_, rfl, _⟩, rfl⟩
 rcases Kg n with a | a
 rw [if_pos a] at hm
 refine Tr 16 rfl (v' := .bool true) (by rw [a] <;> rfl)<|yS<|tS (pF rfl rfl)<|tS (pT rfl rfl)<|mV rfl<|yS<|tS (sF rfl q1c)<|yS<|tS (sL 1 rfl Q5 rfl rfl)<|yS<|tS (sF rfl q1c)<|yS<|tS (sL 0 rfl Q5 rfl rfl)<|yS<|tS (q2 rfl rfl)<|tS (pT rfl rfl)<|aS rfl<|Tn ?_
 obtain rfl := o1 hm
 exact jJ ⟨rfl, rfl, lr⟩
 rw [if_neg (fun hh => Bool.noConfusion (hh.symm.trans a))] at hm
 refine Tr 16 rfl (v' := .bool false) (by rw [a] <;> rfl)<|yS<|tS (pF rfl rfl)<|tS (pT rfl rfl)<|mV rfl<|nO<|nO<|nO<|nO<|nO<|tS (pF rfl rfl)<|aS rfl<|Tn ?_
 obtain rfl := o1 hm
 exact jJ ⟨rfl, rfl, lr⟩
 rw [if_neg c] at hm
 refine mV rfl<|nO<|nO<|nO<|nO<|nO<|nO<|nO<|nO<|tS (pF rfl rfl)<|mV rfl<|nO<|nO<|nO<|nO<|nO<|tS (pF rfl rfl)<|aS rfl<|Tn ?_
 obtain rfl := o1 hm
 exact jJ ⟨rfl, rfl, lr⟩
 rintro m _ _ ⟨rfl, rfl, g⟩
 have hm := l
 refine Ct ?_
 obtain rfl := o1 hm
 exact rO ⟨rfl, rfl⟩ g
theorem q5f (b : k8) (R : Hp) (d : q9) (e : q9) (f) (hm : G4 d e = some f):
 w8 Tryz.prog 80 [.agg #[iv d.Kind, iv d.Place, iv d.Position, iv d.At], .agg #[iv e.Kind, iv e.Place, iv e.Position, iv e.At]] b (R) (fun v b' hp' => bv f = v ∧ R = hp') := by
 refine fE 13 Tryz.func80 rfl Tryz.ntmps80 rfl ?_
 unfold G4 at hm
 refine Cr<|tD (uB _ rfl rfl) ?_
 rintro _ _ ⟨k, rfl, rfl⟩
 refine tD (uB _ rfl rfl) ?_
 rintro _ _ ⟨l, rfl, rfl⟩
 refine aS rfl<|Te ?_
 obtain ⟨j, g, h⟩ := bS hm
 refine Cj (fun i e' hp' => [(4, bv j)] = e' ∧ R = hp' ∧ b.Le i) ?_ ?_
 have hm := g
 refine Cg<|tS (sF rfl q0I)<|tS (sL 1 rfl Q5 rfl rfl)<|Tb rfl (q1 rfl rfl) (fun a => ?_) (fun a => ?_)
 rw [if_pos a] at hm
 refine mV rfl<|yS<|tS (sF rfl q0I)<|yS<|tS (sL 0 rfl Q5 rfl rfl)<|yS<|tS (q1 rfl rfl)<|tS (pT rfl rfl)<|aS rfl<|Tn ?_
 obtain rfl := o1 hm
 exact jJ ⟨rfl, rfl, lr⟩
 rw [if_neg a] at hm
 refine mV rfl<|nO<|nO<|nO<|tS (pF rfl rfl)<|aS rfl<|Tn ?_
 obtain rfl := o1 hm
 exact jJ ⟨rfl, rfl, lr⟩
 rintro i _ _ ⟨rfl, rfl, c⟩
 have hm := h
 refine Ct ?_
 obtain rfl := o1 hm
 exact rO ⟨rfl, rfl⟩ c
theorem z7Q (b : k8) (R : Hp) (a : q9) (c : q9) (U) (hm : q4q a c = some U):
 w8 Tryz.prog 34 [.agg #[iv a.Kind, iv a.Place, iv a.Position, iv a.At], .agg #[iv c.Kind, iv c.Place, iv c.Position, iv c.At]] b (R) (fun v b' hp' => bv U = v ∧ R = hp') := by
 refine fE 46 Tryz.func34 rfl Tryz.ntmps34 rfl ?_
 unfold q4q at hm
 refine Cr<|tD (uB _ rfl rfl) ?_
 rintro _ _ ⟨ac, rfl, rfl⟩
 refine tD (uB _ rfl rfl) ?_
 rintro _ _ ⟨ad, rfl, rfl⟩
 refine aS rfl<|Te<|Cs<|Cr<|tS (sF rfl q3T)<|tS (sL 1 rfl Q5 rfl rfl)<|tS (sF rfl q3T)<|tS (sL 0 rfl Q5 rfl rfl)<|tS (q2 rfl rfl)<|Te<|cI hm rfl (fun hm => ?_) fun hm => ?_
 refine Cr<|aS rfl<|Te<|Ct<|Xr ?_
 obtain rfl := o1 hm
 exact rO ⟨rfl, rfl⟩ lr
 refine Ck<|Xn<|Cr<|tD (uA [.nilFunc] j2x rfl) ?_
 rintro _ _ ⟨q, rfl, rfl⟩
 refine tD (uS 0 rfl rfl j4F rfl rfl (by simp)) ?_
 rintro _ _ rfl
 refine Te<|Cr<|tS (q5l _ _ rfl rfl)<|aS rfl<|Te<|Cr<|aS rfl<|Te ?_
 obtain ⟨V, S, T⟩ := bS hm
 refine Cj (fun E e' hp' => [(4, bv V)] = e' ∧ R = hp' ∧ b.Le E) ?_ ?_
 have hm := S
 refine Cg<|tS (sL 0 rfl z8E rfl rfl)<|tS (sD (vs := [_, _, _, _]) 2 4 rfl q0n rfl rfl rfl) ?_
 obtain ⟨F, r, hm⟩ := bS hm
 refine tD (q0L #[] #[] [.agg #[iv a.Kind, iv a.Place, iv a.Position, iv a.At]] rfl z9v rfl (fun w ho => q6W _ [] a F r) (fun _ _ _ h => h.2.symm)) ?_
 rintro _ _ ⟨⟨_, rfl, _⟩, rfl⟩
 rcases Kg F with f | f
 rw [if_pos f] at hm
 refine Tr 16 rfl (v' := .bool true) (by rw [f] <;> rfl)<|mV rfl<|yS<|tS (sL 0 rfl z8E rfl rfl)<|yS<|tS (sD (vs := [_, _, _, _]) 1 4 rfl q0n rfl rfl rfl)<|yS ?_
 obtain ⟨G, s, hm⟩ := bS hm
 refine tD (q0L #[] #[] [.agg #[iv c.Kind, iv c.Place, iv c.Position, iv c.At]] rfl z9v rfl (fun w ho => q6W _ [] c G s) (fun _ _ _ h => h.2.symm)) ?_
 rintro _ _ ⟨⟨_, rfl, _⟩, rfl⟩
 rcases Kg G with g | g
 rw [if_pos g] at hm
 refine Tr 20 rfl (v' := .bool true) (by rw [g] <;> rfl)<|tS (pT rfl rfl)<|mV rfl<|nO<|nO<|nO<|nO<|tS (pT rfl rfl)<|mV rfl<|nO<|nO<|nO<|nO<|tS (pT rfl rfl)<|mV rfl<|nO<|nO<|nO<|nO<|tS (pT rfl rfl)<|mV rfl<|nO<|nO<|nO<|nO<|tS (pT rfl rfl)<|aS rfl<|Tn ?_
 obtain rfl := o1 hm
 exact jJ ⟨rfl, rfl, lr⟩
 rw [if_neg (fun hh => Bool.noConfusion (hh.symm.trans g))] at hm
 refine Tr 20 rfl (v' := .bool false) (by rw [g] <;> rfl)<|tS (pT rfl rfl)<|mV rfl<|yS<|mV rfl<|yS<|tS (sD (vs := [_, _, _, _]) 2 4 rfl q0n rfl rfl rfl)<|yS<|tS (sD (vs := [_, _, _, _]) 1 4 rfl q0n rfl rfl rfl)<|yS ?_
 obtain ⟨H, t, hm⟩ := bS hm
 refine Tv #[] #[pb q] [.agg #[iv a.Kind, iv a.Place, iv a.Position, iv a.At], .agg #[iv c.Kind, iv c.Place, iv c.Position, iv c.At]] rfl rfl z6F rfl (q5g _ _ a c q H t) ?_
 rintro _ Y _ d ⟨rfl, rfl⟩
 rcases Kg H with i | i
 rw [if_pos i] at hm
 refine Tr 26 rfl (v' := .bool true) (by rw [i] <;> rfl)<|tS (pF rfl rfl)<|mV rfl<|nO<|nO<|nO<|nO<|tS (pT rfl rfl)<|mV rfl<|nO<|nO<|nO<|nO<|tS (pT rfl rfl)<|mV rfl<|nO<|nO<|nO<|nO<|tS (pT rfl rfl)<|aS rfl<|Tn ?_
 obtain rfl := o1 hm
 exact jJ ⟨rfl, rfl, d⟩
 rw [if_neg (fun hh => Bool.noConfusion (hh.symm.trans i))] at hm
 refine Tr 26 rfl (v' := .bool false) (by rw [i] <;> rfl)<|tS (pF rfl rfl)<|mV rfl<|yS<|mV rfl<|yS<|tS (sD (vs := [_, _, _, _]) 1 4 rfl q0n rfl rfl rfl)<|yS<|tS (sD (vs := [_, _, _, _]) 2 4 rfl q0n rfl rfl rfl)<|yS ?_
 obtain ⟨I, u, hm⟩ := bS hm
 refine Tv #[] #[pb q] [.agg #[iv c.Kind, iv c.Place, iv c.Position, iv c.At], .agg #[iv a.Kind, iv a.Place, iv a.Position, iv a.At]] rfl rfl z6F rfl (q5g _ _ c a q I u) ?_
 rintro _ Z _ o ⟨rfl, rfl⟩
 rcases Kg I with j | j
 rw [if_pos j] at hm
 refine Tr 32 rfl (v' := .bool true) (by rw [j] <;> rfl)<|tS (pF rfl rfl)<|mV rfl<|nO<|nO<|nO<|nO<|tS (pT rfl rfl)<|mV rfl<|nO<|nO<|nO<|nO<|tS (pT rfl rfl)<|aS rfl<|Tn ?_
 obtain rfl := o1 hm
 exact jJ ⟨rfl, rfl, (d.trans o)⟩
 rw [if_neg (fun hh => Bool.noConfusion (hh.symm.trans j))] at hm
 refine Tr 32 rfl (v' := .bool false) (by rw [j] <;> rfl)<|tS (pF rfl rfl)<|mV rfl<|yS<|mV rfl<|yS<|tS (sD (vs := [_, _, _, _]) 2 4 rfl q0n rfl rfl rfl)<|yS<|tS (sD (vs := [_, _, _, _]) 1 4 rfl q0n rfl rfl rfl)<|yS ?_
 obtain ⟨J, x, hm⟩ := bS hm
 refine tD (q0L #[] #[] [.agg #[iv a.Kind, iv a.Place, iv a.Position, iv a.At], .agg #[iv c.Kind, iv c.Place, iv c.Position, iv c.At]] rfl z6E rfl (fun w ho => q5f _ [] a c J x) (fun _ _ _ h => h.2.symm)) ?_
 rintro _ _ ⟨⟨_, rfl, _⟩, rfl⟩
 rcases Kg J with k | k
 rw [if_pos k] at hm
 refine Tr 38 rfl (v' := .bool true) (by rw [k] <;> rfl)<|tS (pF rfl rfl)<|mV rfl<|nO<|nO<|nO<|nO<|tS (pT rfl rfl)<|aS rfl<|Tn ?_
 obtain rfl := o1 hm
 exact jJ ⟨rfl, rfl, (d.trans o)⟩
 rw [if_neg (fun hh => Bool.noConfusion (hh.symm.trans k))] at hm
 refine Tr 38 rfl (v' := .bool false) (by rw [k] <;> rfl)<|tS (pF rfl rfl)<|mV rfl<|yS<|mV rfl<|yS<|tS (sD (vs := [_, _, _, _]) 1 4 rfl q0n rfl rfl rfl)<|yS<|tS (sD (vs := [_, _, _, _]) 2 4 rfl q0n rfl rfl rfl)<|yS ?_
 obtain ⟨W, y, hm⟩ := bS hm
 refine tD (q0L #[] #[] [.agg #[iv c.Kind, iv c.Place, iv c.Position, iv c.At], .agg #[iv a.Kind, iv a.Place, iv a.Position, iv a.At]] rfl z6E rfl (fun w ho => q5f _ [] c a W y) (fun _ _ _ h => h.2.symm)) ?_
 rintro _ _ ⟨⟨_, rfl, _⟩, rfl⟩
 refine tS (pF rfl rfl)<|aS rfl<|Tn ?_
 obtain rfl := o1 hm
 exact jJ ⟨rfl, rfl, (d.trans o)⟩
 rw [if_neg (fun hh => Bool.noConfusion (hh.symm.trans f))] at hm
 refine Tr 16 rfl (v' := .bool false) (by rw [f] <;> rfl)<|mV rfl<|nO<|nO<|nO<|tS (pF rfl rfl)<|mV rfl<|yS<|mV rfl<|yS<|tS (sD (vs := [_, _, _, _]) 2 4 rfl q0n rfl rfl rfl)<|yS<|tS (sD (vs := [_, _, _, _]) 1 4 rfl q0n rfl rfl rfl)<|yS ?_
 obtain ⟨K, z, hm⟩ := bS hm
 refine Tv #[] #[pb q] [.agg #[iv a.Kind, iv a.Place, iv a.Position, iv a.At], .agg #[iv c.Kind, iv c.Place, iv c.Position, iv c.At]] rfl rfl z6F rfl (q5g _ _ a c q K z) ?_
 rintro _ aa _ e ⟨rfl, rfl⟩
 rcases Kg K with l | l
 rw [if_pos l] at hm
 refine Tr 26 rfl (v' := .bool true) (by rw [l] <;> rfl)<|tS (pF rfl rfl)<|mV rfl<|nO<|nO<|nO<|nO<|tS (pT rfl rfl)<|mV rfl<|nO<|nO<|nO<|nO<|tS (pT rfl rfl)<|mV rfl<|nO<|nO<|nO<|nO<|tS (pT rfl rfl)<|aS rfl<|Tn ?_
 obtain rfl := o1 hm
 exact jJ ⟨rfl, rfl, e⟩
 rw [if_neg (fun hh => Bool.noConfusion (hh.symm.trans l))] at hm
 refine Tr 26 rfl (v' := .bool false) (by rw [l] <;> rfl)<|tS (pF rfl rfl)<|mV rfl<|yS<|mV rfl<|yS<|tS (sD (vs := [_, _, _, _]) 1 4 rfl q0n rfl rfl rfl)<|yS<|tS (sD (vs := [_, _, _, _]) 2 4 rfl q0n rfl rfl rfl)<|yS ?_
 obtain ⟨L, A, hm⟩ := bS hm
 refine Tv #[] #[pb q] [.agg #[iv c.Kind, iv c.Place, iv c.Position, iv c.At], .agg #[iv a.Kind, iv a.Place, iv a.Position, iv a.At]] rfl rfl z6F rfl (q5g _ _ c a q L A) ?_
 rintro _ ab _ p ⟨rfl, rfl⟩
 rcases Kg L with m | m
 rw [if_pos m] at hm
 refine Tr 32 rfl (v' := .bool true) (by rw [m] <;> rfl)<|tS (pF rfl rfl)<|mV rfl<|nO<|nO<|nO<|nO<|tS (pT rfl rfl)<|mV rfl<|nO<|nO<|nO<|nO<|tS (pT rfl rfl)<|aS rfl<|Tn ?_
 obtain rfl := o1 hm
 exact jJ ⟨rfl, rfl, (e.trans p)⟩
 rw [if_neg (fun hh => Bool.noConfusion (hh.symm.trans m))] at hm
 refine Tr 32 rfl (v' := .bool false) (by rw [m] <;> rfl)<|tS (pF rfl rfl)<|mV rfl<|yS<|mV rfl<|yS<|tS (sD (vs := [_, _, _, _]) 2 4 rfl q0n rfl rfl rfl)<|yS<|tS (sD (vs := [_, _, _, _]) 1 4 rfl q0n rfl rfl rfl)<|yS ?_
 obtain ⟨O, B, hm⟩ := bS hm
 refine tD (q0L #[] #[] [.agg #[iv a.Kind, iv a.Place, iv a.Position, iv a.At], .agg #[iv c.Kind, iv c.Place, iv c.Position, iv c.At]] rfl z6E rfl (fun w ho => q5f _ [] a c O B) (fun _ _ _ h => h.2.symm)) ?_
 rintro _ _ ⟨⟨_, rfl, _⟩, rfl⟩
 rcases Kg O with n | n
 rw [if_pos n] at hm
 refine Tr 38 rfl (v' := .bool true) (by rw [n] <;> rfl)<|tS (pF rfl rfl)<|mV rfl<|nO<|nO<|nO<|nO<|tS (pT rfl rfl)<|aS rfl<|Tn ?_
 obtain rfl := o1 hm
 exact jJ ⟨rfl, rfl, (e.trans p)⟩
 rw [if_neg (fun hh => Bool.noConfusion (hh.symm.trans n))] at hm
 refine Tr 38 rfl (v' := .bool false) (by rw [n] <;> rfl)<|tS (pF rfl rfl)<|mV rfl<|yS<|mV rfl<|yS<|tS (sD (vs := [_, _, _, _]) 1 4 rfl q0n rfl rfl rfl)<|yS<|tS (sD (vs := [_, _, _, _]) 2 4 rfl q0n rfl rfl rfl)<|yS ?_
 obtain ⟨X, C, hm⟩ := bS hm
 refine tD (q0L #[] #[] [.agg #[iv c.Kind, iv c.Place, iv c.Position, iv c.At], .agg #[iv a.Kind, iv a.Place, iv a.Position, iv a.At]] rfl z6E rfl (fun w ho => q5f _ [] c a X C) (fun _ _ _ h => h.2.symm)) ?_
 rintro _ _ ⟨⟨_, rfl, _⟩, rfl⟩
 refine tS (pF rfl rfl)<|aS rfl<|Tn ?_
 obtain rfl := o1 hm
 exact jJ ⟨rfl, rfl, (e.trans p)⟩
 rintro E _ _ ⟨rfl, rfl, D⟩
 have hm := T
 refine Ct ?_
 obtain rfl := o1 hm
 exact rO ⟨rfl, rfl⟩ D
theorem q9r (b : k8) (R : Hp) (c : q9) (e f g i j d) (hm : q1T c e f g i = some d):
 w8 Tryz.prog 109 [.agg #[iv c.Kind, iv c.Place, iv c.Position, iv c.At], pb j] b ((j, Cl 72 [iv e, iv f, iv g, iv i]) :: R) (fun v b' hp' => bv d = v ∧ (j, Cl 72 [iv e, iv f, iv g, iv i]) :: R = hp') := by
 refine fE 7 Tryz.func109 rfl Tryz.ntmps109 rfl ?_
 unfold q1T at hm
 refine Cr<|tD (uB _ rfl rfl) ?_
 rintro _ _ ⟨l, rfl, rfl⟩
 refine aS rfl<|Te<|Cr<|tS (sD (vs := [_, _, _, _]) 0 4 rfl q0n rfl rfl rfl)<|tS (sD (vs := [_, _, _, _]) 1 4 rfl q0n rfl rfl rfl) ?_
 obtain ⟨k, a, hm⟩ := bS hm
 refine tD (uW _ j5L rfl (fun w ho => z7Q _ [] c (⟨e, f, g, i⟩ : q9) k a) (fun _ _ _ h => h.2.symm)) ?_
 rintro _ _ ⟨⟨_, rfl, _⟩, rfl⟩
 refine aS rfl<|Te<|Ct ?_
 obtain rfl := o1 hm
 exact rO ⟨rfl, rfl⟩ lr
theorem q8C (b : k8) (R : Hp) (x y z h e p I J l) (U : OS 72 (OT.fr j8) b.w (sv I e J) e l) (A) (hm : q2I x y z h e = some A):
 w8 Tryz.prog 107 [sv I e J, .func (.func 109) #[] #[pb p]] b ((p, Cl 72 [iv x, iv y, iv z, iv h]) :: (l ++ R)) (fun v b' hp' => iv A = v ∧ (p, Cl 72 [iv x, iv y, iv z, iv h]) :: (l ++ R) = hp') := by
 refine fE 19 Tryz.func107 rfl Tryz.ntmps107 rfl ?_
 unfold q2I at hm
 refine Cr<|aS rfl<|Te<|Cs<|Cr<|mV rfl<|tS (sE rfl q6l)<|mV rfl<|Te<|Cb ?_
 have V : e.length ≤ 9223372036854775807 := (OS.len U)
 obtain ⟨ab, B, f⟩ := bS hm
 refine lF (fun C => fun _ => fun q e' hp' => [(0, sv I e J), (1, .func (.func 109) #[] #[pb p]), (7, iv ((e.length : Int))), (8, iv ((C : Int)))] = e' ∧ (p, Cl 72 [iv x, iv y, iv z, iv h]) :: (l ++ R) = hp' ∧ b.Le q) B ⟨rfl, rfl, lr⟩ ?_ ?_
 rintro C _ q _ _ W G ⟨rfl, rfl, a⟩ c i
 unfold q0Z at c
 have hm := c
 refine Cr<|tS (lT rfl rfl (by omega))<|Te<|Cs<|k9 rfl<|Ck<|Xn<|Cs<|Cb<|Cr<|mV rfl<|aS rfl<|Te<|Cr<|mV rfl<|mV rfl<|mV rfl ?_
 obtain ⟨d, K, hm⟩ := bS hm
 obtain ⟨L, D, E⟩ := iS K
 obtain ⟨X, O, Y, Z, S, r, m, k, n, T, H⟩ := OS.get (sz := 4) rfl (by decide) (U.le a) E
 obtain ⟨⟨_, _, rfl, rfl, ⟨_, _, rfl, rfl, ⟨_, _, rfl, rfl, rfl⟩⟩⟩, rfl⟩ := r
 refine tS (sI L rfl rfl D n k q6l)<|tS (Z2 (vs := [iv d.Kind, iv d.Place, iv d.Position, iv d.At]) 4 rfl q0n k rfl (fun w ho j u hu => m w _ ho (.cons _ (Kb _ _)) j u hu)) ?_
 obtain ⟨F, o, hm⟩ := bS hm
 refine Tv #[] #[pb p] [.agg #[iv d.Kind, iv d.Place, iv d.Position, iv d.At]] rfl rfl j3V rfl (q9r _ _ d x y z h p F o) ?_
 rintro _ aa _ g ⟨rfl, rfl⟩
 refine Te<|cB hm rfl (fun hm => ?_) fun hm => ?_
 refine Cr<|mV rfl<|aS rfl<|Te<|Ct<|Xb<|Xr<|Xr<|Xb<|Xr ?_
 have s := i _ (Kd hm).symm
 rw [s] at f
 have hm := J9 f
 obtain rfl := o1 hm
 exact rO ⟨rfl, rfl⟩ (a.trans g)
 refine Ck<|Xm<|Xn<|Cg<|tS (sa rfl rfl (by omega))<|mV rfl<|Tn ?_
 exact jM hm ⟨rfl, rfl, ((a.trans g))⟩
 rintro _ q _ _ ⟨rfl, rfl, a⟩ t
 rw [t] at f
 have hm := H4 f
 refine Cr<|tS (lF rfl rfl (by omega))<|Te<|Cs<|k7 rfl<|Ce<|Xe<|Xe<|Xo<|Xn<|Cr<|aS rfl<|Te<|Ct ?_
 obtain rfl := o1 hm
 exact rO ⟨rfl, rfl⟩ a
theorem q6Q (b : k8) (R : Hp) (h i j d c k l m a) (o : OS 72 (OT.fr j8) b.w (sv l c m) c a) (g) (hm : P9 h i j d c = some g):
 w8 Tryz.prog 108 [sv l c m, .func (.func 109) #[] #[pb k]] b ((k, Cl 72 [iv h, iv i, iv j, iv d]) :: (a ++ R)) (fun v b' hp' => bv g = v ∧ (k, Cl 72 [iv h, iv i, iv j, iv d]) :: (a ++ R) = hp') := by
 refine fE 9 Tryz.func108 rfl Tryz.ntmps108 rfl ?_
 unfold P9 at hm
 refine Cr<|aS rfl<|Te<|Cr<|mV rfl<|mV rfl ?_
 obtain ⟨n, e, hm⟩ := bS hm
 refine q4R [_] [] a R rfl<|Tg _ rfl z5Q rfl (q8C _ _ h i j d c k l m a o n e) ?_
 rintro _ p _ f ⟨rfl, rfl⟩
 refine q5k [_] [] a R rfl<|tS (q6 rfl rfl)<|aS rfl<|Te<|Ct ?_
 obtain rfl := o1 hm
 exact rO ⟨rfl, rfl⟩ f
theorem z1p (b : k8) (R : Hp) (ab U V W X Y Z aa H I J bo bp) (ads : Int → Nat) (x ac ad ae af ag ah ai aj ak al am an ao aq A3 c4 f A8 c9 g ar au d K aK e) (cq : FZ RT.str b.w ac ad U) (cr : FZ j3 b.w ae af V) (cs : FZ w6 b.w ag ah W) (ct : FZ j6 b.w ai aj X) (cu : FZ w7 b.w ak al Y) (bX : FZ Q3 b.w am an Z) (cv : FZ (RT.list j8) b.w ao aq aa) (h5 : OS 72 (OT.fr j8) b.w (sv A3 H c4) H f) (cw : OS 59 (OT.fr j9) b.w (sv A8 I c9) I g) (cx : OS 127 (OT.fr v8) b.w (sv ar J au) J d) (bY : OM rI (OT.fr (RT.key ads)) false false b.w K bo aK) (bK : OAr 85 z8 ads b.w bp e) (aL aM) (hm : q1z ab U V W X Y Z aa H I J bo bp = some (aL, aM)):
 w8 Tryz.prog 70 [pb x, iv ab, sv A3 H c4] b ((x, Cl 57 [sv ac U ad, sv ae V af, sv ag W ah, sv ai X aj, sv ak Y al, sv am Z an, sv ao aa aq, sv A8 I c9, sv ar J au, .map (some K)]) :: (f ++ (g ++ (d ++ (aK ++ (e ++ R)))))) (fun v b' hp' => ∃ aB, bv aL = v ∧ (x, Cl 57 [sv ac U ad, sv ae V af, sv ag W ah, sv ai X aj, sv ak Y al, sv am Z an, sv ao aa aq, sv A8 I c9, sv ar J au, .map (some K)]) :: (f ++ (g ++ (d ++ (aB ++ (e ++ R))))) = hp' ∧ OM rI (OT.fr (RT.key ads)) false false b'.w K aM aB) := by
 refine fE 50 Tryz.func70 rfl Tryz.ntmps70 rfl ?_
 unfold q1z at hm
 refine Cr<|aS rfl<|Te ?_
 obtain ⟨bq, a5, y⟩ := bS hm
 refine Cj (fun av e' hp' => ∃ (aw : (List (Int × (Option Int)))), ∃ z, [] = e' ∧ (x, Cl 57 [sv ac U ad, sv ae V af, sv ag W ah, sv ai X aj, sv ak Y al, sv am Z an, sv ao aa aq, sv A8 I c9, sv ar J au, .map (some K)]) :: (f ++ (g ++ (d ++ (z ++ (e ++ R))))) = hp' ∧ b.Le av ∧ OM rI (OT.fr (RT.key ads)) false false av.w K aw z ∧ bq = .inl aw) ?_ ?_
 have hm := a5
 refine Cr<|mV rfl<|tS (sN rfl)<|tS (sF rfl q0J)<|tS (sL 0 rfl q5O rfl rfl)<|Z4 f g d aK<|tD (q7u [_] (f ++ (g ++ (d ++ (e ++ R)))) rfl bY q3a rfl) ?_
 rintro _ _ ⟨D, q, rfl, rfl, br⟩
 refine Te<|Cb<|P3 q f g d e<|P3 e q f g d<|P3 d e q f g<|P3 g d e q f<|P3 f g d e q ?_
 obtain ⟨bZ, a6, A⟩ := bS hm
 refine z1i (fun _ => fun aN e' hp' => [(0, pb x), (1, iv ab), (2, sv A3 H c4), (15, pb D)] = e' ∧ (x, Cl 57 [sv ac U ad, sv ae V af, sv ag W ah, sv ai X aj, sv ak Y al, sv am Z an, sv ao aa aq, sv A8 I c9, sv ar J au, .map (some K)]) :: (f ++ (g ++ (d ++ (e ++ R)))) = hp' ∧ b.Le aN) a6 br (e' := [(0, pb x), (1, iv ab), (2, sv A3 H c4), (15, pb D)]) ⟨rfl, rfl, rfl, rfl, trivial⟩ [_] (f ++ (g ++ (d ++ (e ++ R)))) rfl (.refl _) ⟨rfl, rfl, lr⟩ ?_
 rintro _ b0 aN _ _ aC ⟨rfl, rfl, k⟩ bL aO hd3183 hall3184
 refine z5R [_] aC (f ++ (g ++ (d ++ (e ++ R)))) ?_ rfl
 refine Cr<|z0v [_] (f ++ (g ++ (d ++ (e ++ R)))) rfl rfl rfl aO (fun hnil3186 => ?_) (fun E b1 b2 b3 a hperm3192 a7 aP => ?_)
 obtain ⟨aD, aH, bs⟩ := MIt.done aO
 refine q7W [_] aC aD (f ++ (g ++ (d ++ (e ++ R)))) rfl aH ?_
 have hend3198 := hd3183 hnil3186
 refine tS (j5 rfl rfl)<|Te<|Cs<|k7 rfl<|Ce<|Xe<|Xe<|Xo ?_
 rw [hend3198] at A
 have hm := H4 A
 have hq := (Kd hm).symm
 exact jJ ⟨bo, aD, rfl, rfl, k, bs, hq⟩
 obtain ⟨b4, F, aI⟩ := hall3184 _ _ hperm3192
 have s := F
 unfold q0i at s
 have hm := s
 refine tS (j5 rfl rfl)<|Te<|Cs<|k9 rfl<|Ck<|Xn<|Cb<|Cr ?_
 obtain ⟨aQ, aR, L, O, a8⟩ := MIx.entry Tryz.prog a7
 obtain rfl : aQ = iv E.1 := by have L : [aQ] = [iv E.1] := L; injection L
 obtain rfl : aR = kv ads E.2 := by have O : [aR] = [kv ads E.2] := O; injection O
 refine tS (a8 (.cons _ (Kb _ _)) rfl)<|tS (j5 rfl rfl)<|aS rfl<|Te<|Cr<|mV rfl ?_
 obtain ⟨r, aT, hm⟩ := bS hm
 refine q3R a f g d e<|q4R [] [_] e (a ++ (f ++ (g ++ (d ++ R)))) rfl<|Tg _ rfl z6G rfl (q2X _ _ E.2 bp ads e (bK.le k) r aT) ?_
 rintro _ bt _ l ⟨aU, aV, c, rfl, rfl, aW⟩
 refine z7a [] [_] c e (a ++ (f ++ (g ++ (d ++ R)))) rfl<|tS (sE rfl q6l)<|mV rfl<|Te<|Cb ?_
 have bN : r.length ≤ 9223372036854775807 := (OS.len aW)
 refine j5i c e<|j1u e c a f g d<|j1u d e c a f g<|F0 g d e c<|P3 c g d e a<|j1u a c g d e f ?_
 obtain ⟨b5, a9, B⟩ := bS hm
 refine lF (fun ax => fun ay => fun S e' hp' => [(0, pb x), (1, iv ab), (2, sv A3 H c4), (8, kv ads ay), (15, pb D), (21, sv aU r aV), (22, iv ((r.length : Int))), (23, iv ((ax : Int)))] = e' ∧ (x, Cl 57 [sv ac U ad, sv ae V af, sv ag W ah, sv ai X aj, sv ak Y al, sv am Z an, sv ao aa aq, sv A8 I c9, sv ar J au, .map (some K)]) :: (f ++ (a ++ (c ++ (g ++ (d ++ (e ++ R)))))) = hp' ∧ bt.Le S) a9 ⟨rfl, rfl, lr⟩ ?_ ?_
 rintro ax ay S _ _ bO bJ ⟨rfl, rfl, h⟩ t az
 unfold W4 at t
 have hm := t
 refine Cr<|tS (lT rfl rfl (by omega))<|Te<|Cs<|k9 rfl<|Ck<|Xn<|Cs<|Cb<|Cr ?_
 obtain ⟨i, bu, hm⟩ := bS hm
 obtain ⟨bw, ba, bb⟩ := iS bu
 obtain ⟨bP, bQ, b6, b7, bR, bc, aX, aE, aY, bT, bM⟩ := OS.get (sz := 4) rfl (by decide) (aW.le h) bb
 obtain ⟨⟨_, _, rfl, rfl, ⟨_, _, rfl, rfl, ⟨_, _, rfl, rfl, rfl⟩⟩⟩, rfl⟩ := bc
 refine tS (sI bw rfl rfl ba aY aE q6l)<|tS (Z2 (vs := [iv i.Kind, iv i.Place, iv i.Position, iv i.At]) 4 rfl q0n aE rfl (fun w ho j u hu => aX w _ ho (.cons _ (ss f (ss a (Kb _ _)))) j u hu))<|tD (uA [iv 0, iv 0, iv 0, iv 0] q7Q rfl) ?_
 rintro _ _ ⟨aA, rfl, rfl⟩
 refine tD (uN (vs := [_, _, _, _]) 0 4 rfl rfl rfl z1H rfl (mc rfl (mc rfl (mc rfl (mc rfl mn)))) rfl (by simp)) ?_
 rintro _ _ rfl
 refine Te<|Cs ?_
 obtain ⟨⟨bx, bz⟩, bd, be⟩ := bS hm
 refine Cj (fun aZ e' hp' => [(0, pb x), (1, iv ab), (2, sv A3 H c4), (8, kv ads bx), (10, pb aA), (15, pb D), (21, sv aU r aV), (22, iv ((r.length : Int))), (23, iv ((ax : Int))), (45, bv bz)] = e' ∧ (x, Cl 57 [sv ac U ad, sv ae V af, sv ag W ah, sv ai X aj, sv ak Y al, sv am Z an, sv ao aa aq, sv A8 I c9, sv ar J au, .map (some K)]) :: (aA, Cl 72 [iv i.Kind, iv i.Place, iv i.Position, iv i.At]) :: (f ++ (a ++ (c ++ (g ++ (d ++ (e ++ R)))))) = hp' ∧ S.Le aZ) ?_ ?_
 have hm := bd
 obtain ⟨bA, bB, hm⟩ := bS hm
 obtain ⟨b8, bC, hm⟩ := bS hm
 refine z1h 8 rfl (v' := .pointer (some ⟨(ads bA), 0, none⟩)) (by rw [bB]; rfl) ?_
 have zz := k.trans (l.trans h)
 obtain ⟨bU, bV, m, T, bf, hf3572⟩ := OAr.take (bK.le zz) bC
 obtain ⟨b9, ca, cb, cc, cd, ce, n, cf, cg, o, rfl, ch, ci, cj, ck, rfl⟩ := bf
 refine j5g f a c g d e<|q8v [_, _] e m n o (f ++ (a ++ (c ++ (g ++ (d ++ R))))) rfl T ?_
 by_cases C : i.Kind = 2
 rw [if_pos C] at hm
 obtain ⟨cl, bD, hm⟩ := bS hm
 refine Di mixed (.refl _)<|E0 0 rfl (sF rfl q0I)<|Es 1 rfl (sL 1 rfl Q5 rfl rfl)<|E0 2 rfl (eT rfl rfl C)<|E0 3 rfl (sM rfl)<|Yz 4 30 rfl (sM rfl)<|Yz 5 30 rfl (sN rfl)<|Yz 6 30 rfl (sF rfl q2t)<|Yz 7 30 rfl (sF rfl q6B)<|Ey 8 30 rfl (sL 0 rfl Q5 rfl rfl)<|Yz 9 30 rfl (sM rfl)<|Yz 10 30 rfl (sN rfl)<|Yz 11 30 rfl (sF rfl z3r)<|Ey 12 30 rfl (sL 2 rfl z7p rfl rfl)<|Yz 13 30 rfl (sM rfl) ?_
 obtain ⟨bE, bg, bh⟩ := iS bD
 obtain ⟨bW, bi, a0, aF, a1⟩ := FZ.get (sz := 3) rfl (by decide) (bX.le zz) bh
 obtain ⟨_, _, rfl, rfl, ⟨_, _, rfl, rfl, ⟨cm, cn, rfl, co⟩⟩⟩ := bi
 refine Yz 14 30 rfl (sI bE rfl rfl bg a1 aF j2U)<|Yz 15 30 rfl (sQ rfl aF q7F)<|Ey 16 30 rfl (sO rfl Q5 (a0 0 _ rfl))<|Yz 17 30 rfl (q1 rfl rfl)<|E0 18 rfl (pT rfl rfl)<|Eo<|Dd (by kernel_rfl)<|X0 n o m<|X0 m n o<|X0 o m n<|q2A [_, _] e m n o (f ++ (a ++ (c ++ (g ++ (d ++ R))))) rfl T ?_
 obtain ⟨rfl, rfl⟩ := Z6 hm
 exact jJ ⟨rfl, rfl, lr⟩
 rw [if_neg C] at hm
 refine Di mixed (.refl _)<|E0 0 rfl (sF rfl q0I)<|Es 1 rfl (sL 1 rfl Q5 rfl rfl)<|E0 2 rfl (eF rfl rfl C)<|E0 3 rfl (sM rfl)<|eN 4 rfl<|eN 5 rfl<|eN 6 rfl<|eN 7 rfl<|eN 8 rfl<|eN 9 rfl<|eN 10 rfl<|eN 11 rfl<|eN 12 rfl<|eN 13 rfl<|eN 14 rfl<|eN 15 rfl<|eN 16 rfl<|eN 17 rfl<|E0 18 rfl (pF rfl rfl)<|Eo<|Dd (by kernel_rfl)<|X0 n o m<|X0 m n o<|X0 o m n<|q2A [_, _] e m n o (f ++ (a ++ (c ++ (g ++ (d ++ R))))) rfl T ?_
 obtain ⟨rfl, rfl⟩ := Z6 hm
 exact jJ ⟨rfl, rfl, lr⟩
 rintro aZ _ _ ⟨rfl, rfl, p⟩
 have hm := J4 be
 refine cB hm rfl (fun hm => ?_) fun hm => ?_
 refine Ce<|Xe<|Xo<|Xn<|Cg<|tS (sa rfl rfl (by omega))<|mV rfl<|Tn ?_
 exact jM hm ⟨rfl, rfl, ((h.trans p))⟩
 refine Ck<|Xn<|Cr<|mV rfl<|tS (q5l _ _ rfl rfl) ?_
 obtain ⟨bG, a2, hm⟩ := bS hm
 refine Q9 1 rfl<|q4R [_] [_] f (a ++ (c ++ (g ++ (d ++ (e ++ R))))) rfl<|Tg _ rfl z9D rfl (q6Q _ _ i.Kind i.Place i.Position i.At H aA A3 c4 f (h5.le (k.trans (l.trans (h.trans p)))) bG a2) ?_
 rintro _ cp _ G ⟨rfl, rfl⟩
 refine q5k [_] [_] f (a ++ (c ++ (g ++ (d ++ (e ++ R))))) rfl<|Te<|cB hm rfl (fun hm => ?_) fun hm => ?_
 refine Cr<|aS rfl<|Te<|Ct<|Xb<|Xr<|Xr<|Xb<|Xb<|Xr<|Xb<|Xr ?_
 have bj := az _ (Kd hm).symm
 rw [bj] at B
 have hm := J9 B
 have bk := aI _ (Kd hm).symm
 rw [bk] at A
 have hm := J9 A
 have bl := (Kd hm).symm
 rw [bl] at y
 have hm := J9 y
 refine j4j f a ?_
 have zy := l.trans (h.trans (p.trans G))
 obtain ⟨aG, aJ, bH⟩ := MIt.done (aP.le zy)
 refine z8b [_, _] a aG (f ++ (c ++ (g ++ (d ++ (e ++ R))))) rfl aJ ?_
 obtain ⟨rfl, rfl⟩ := Z6 hm
 exact rO ⟨aG, rfl, rfl, bH⟩ (k.trans zy)
 refine Ck<|Xm<|Xn<|Cg<|tS (sa rfl rfl (by omega))<|mV rfl<|Tn ?_
 exact jM hm ⟨rfl, rfl, ((h.trans (p.trans G)))⟩
 rintro ay S _ _ ⟨rfl, rfl, h⟩ bm
 rw [bm] at B
 have hm := H4 B
 refine Cr<|tS (lF rfl rfl (by omega))<|Te<|Cs<|k7 rfl<|Ce<|Xe<|Xe<|Xo<|Xm<|j2y f a c g d e<|j2y e f a c g d<|j2y d e f a c g<|q6k g d e f<|j0k f g d e a ?_
 have zx := k.trans (l.trans h)
 have a3 := zx
 exact q9y (s' := ()) [_] (f ++ (g ++ (d ++ (e ++ (c ++ R))))) rfl hperm3192 (F.trans (Kd hm ▸ rfl)) a3 (aP.le (l.trans h)) (e' := [(0, pb x), (1, iv ab), (2, sv A3 H c4), (15, pb D)]) ⟨rfl, rfl, rfl, rfl, trivial⟩ (.cons_cons _ (sp f (sp g (sp d (sp e (ss c (.refl _))))))) ⟨rfl, rfl, (zx)⟩
 rintro av _ _ ⟨aw, z, rfl, rfl, a4, bI, bn⟩
 rw [bn] at y
 have hm := H4 y
 refine Cr<|aS rfl<|Te<|Ct ?_
 obtain ⟨rfl, rfl⟩ := Z6 hm
 exact rO ⟨z, rfl, rfl, bI⟩ a4
theorem q8H (b : k8) (R : Hp) (aa T U V W X Y Z G H bo bH) (ads : Int → Nat) (ab ac ad ae af ag ah ai aj ak al am an ao aq A3 c4 d A8 c9 e I aL c) (cP : FZ RT.str b.w ac ad T) (cQ : FZ j3 b.w ae af U) (cR : FZ w6 b.w ag ah V) (cT : FZ j6 b.w ai aj W) (cU : FZ w7 b.w ak al X) (cV : FZ Q3 b.w am an Y) (cW : FZ (RT.list j8) b.w ao aq Z) (h5 : OS 59 (OT.fr j9) b.w (sv A3 G c4) G d) (cX : OS 127 (OT.fr v8) b.w (sv A8 H c9) H e) (bZ : OM rI (OT.fr (RT.key ads)) false false b.w I bo aL) (bp : OAr 85 z8 ads b.w bH c) (aM aN) (hm : q1S aa T U V W X Y Z G H bo bH = some (aM, aN)):
 w8 Tryz.prog 83 [pb ab, iv aa] b ((ab, Cl 57 [sv ac T ad, sv ae U af, sv ag V ah, sv ai W aj, sv ak X al, sv am Y an, sv ao Z aq, sv A3 G c4, sv A8 H c9, .map (some I)]) :: (d ++ (e ++ (aL ++ (c ++ R))))) (fun v b' hp' => ∃ aA, iv aM = v ∧ (ab, Cl 57 [sv ac T ad, sv ae U af, sv ag V ah, sv ai W aj, sv ak X al, sv am Y an, sv ao Z aq, sv A3 G c4, sv A8 H c9, .map (some I)]) :: (d ++ (e ++ (aA ++ (c ++ R)))) = hp' ∧ OM rI (OT.fr (RT.key ads)) false false b'.w I aN aA) := by
 refine fE 48 Tryz.func83 rfl Tryz.ntmps83 rfl ?_
 unfold q1S at hm
 refine Cr<|aS rfl<|Te ?_
 obtain ⟨bq, a3, x⟩ := bS hm
 refine Cj (fun ar e' hp' => ∃ (au : (List (Int × (Option Int)))), ∃ y, [] = e' ∧ (ab, Cl 57 [sv ac T ad, sv ae U af, sv ag V ah, sv ai W aj, sv ak X al, sv am Y an, sv ao Z aq, sv A3 G c4, sv A8 H c9, .map (some I)]) :: (d ++ (e ++ (y ++ (c ++ R)))) = hp' ∧ b.Le ar ∧ OM rI (OT.fr (RT.key ads)) false false ar.w I au y ∧ bq = .inl au) ?_ ?_
 have hm := a3
 refine Cr<|mV rfl<|tS (sN rfl)<|tS (sF rfl q0J)<|tS (sL 0 rfl q5O rfl rfl)<|j0t d e aL<|tD (q7u [_] (d ++ (e ++ (c ++ R))) rfl bZ q3a rfl) ?_
 rintro _ _ ⟨C, z, rfl, rfl, br⟩
 refine Te<|Cb<|F0 z d e c<|F0 c z d e<|F0 e c z d<|F0 d e c z ?_
 obtain ⟨b0, a4, A⟩ := bS hm
 refine z1i (fun _ => fun av e' hp' => [(1, iv aa), (13, pb C)] = e' ∧ (ab, Cl 57 [sv ac T ad, sv ae U af, sv ag V ah, sv ai W aj, sv ak X al, sv am Y an, sv ao Z aq, sv A3 G c4, sv A8 H c9, .map (some I)]) :: (d ++ (e ++ (c ++ R))) = hp' ∧ b.Le av) a4 br (e' := [(1, iv aa), (13, pb C)]) ⟨rfl, rfl, trivial⟩ [_] (d ++ (e ++ (c ++ R))) rfl (.refl _) ⟨rfl, rfl, lr⟩ ?_
 rintro _ b1 av _ _ aB ⟨rfl, rfl, g⟩ bI aO hd2127 hall2128
 refine z5R [_] aB (d ++ (e ++ (c ++ R))) ?_ rfl
 refine Cr<|z0v [_] (d ++ (e ++ (c ++ R))) rfl rfl rfl aO (fun hnil2130 => ?_) (fun J b2 b3 b4 a hperm2136 a5 aP => ?_)
 obtain ⟨aC, aI, bs⟩ := MIt.done aO
 refine q7W [_] aB aC (d ++ (e ++ (c ++ R))) rfl aI ?_
 have hend2142 := hd2127 hnil2130
 refine tS (j5 rfl rfl)<|Te<|Cs<|k7 rfl<|Ce<|Xe<|Xe<|Xo ?_
 rw [hend2142] at A
 have hm := H4 A
 have hq := (Kd hm).symm
 exact jJ ⟨bo, aC, rfl, rfl, g, bs, hq⟩
 obtain ⟨b5, D, aJ⟩ := hall2128 _ _ hperm2136
 have s := D
 unfold F2 at s
 have hm := s
 refine tS (j5 rfl rfl)<|Te<|Cs<|k9 rfl<|Ck<|Xn<|Cb<|Cr ?_
 obtain ⟨aQ, aR, K, L, a6⟩ := MIx.entry Tryz.prog a5
 obtain rfl : aQ = iv J.1 := by have K : [aQ] = [iv J.1] := K; injection K
 obtain rfl : aR = kv ads J.2 := by have L : [aR] = [kv ads J.2] := L; injection L
 refine tS (a6 (.cons _ (Kb _ _)) rfl)<|tS (j5 rfl rfl)<|aS rfl<|Te<|Cr<|mV rfl ?_
 obtain ⟨E, aw, hm⟩ := bS hm
 obtain ⟨F, bt, hm⟩ := bS hm
 refine Tr 6 rfl (v' := .pointer (some ⟨(ads E), 0, none⟩)) (by rw [aw]; rfl)<|Tr 17 rfl (v' := .pointer (some ⟨(ads E), 0, none⟩)) (by rw [aw]; rfl)<|Tr 18 rfl (v' := .pointer (some ⟨(ads E), 0, none⟩)) (by rw [aw]; rfl) ?_
 obtain ⟨bK, bL, i, aD, a7, hf2160⟩ := OAr.take (bp.le g) bt
 obtain ⟨aT, aU, b6, b7, b8, b9, k, ca, cb, l, rfl, aV, cc, cd, ce, rfl⟩ := a7
 refine Z4 a d e c<|q1W [_] c i k l (a ++ (d ++ (e ++ R))) rfl aD<|tS (sN rfl)<|tS (sF rfl q2t)<|tS (sF rfl q1b)<|tS (sL 0 rfl q4M rfl rfl)<|tS (sE rfl q7O)<|mV rfl<|Te<|Cb<|q6I k l i<|q6I i k l<|q6I l i k<|z3G [_] c i k l (a ++ (d ++ (e ++ R))) rfl aD ?_
 have bM : F.Route.Steps.length ≤ 9223372036854775807 := (FZ.bd aV)
 refine F0 c a d e<|F0 e c a d<|F0 d e c a ?_
 obtain ⟨cf, a8, B⟩ := bS hm
 refine lF (fun ax => fun _ => fun O e' hp' => [(1, iv aa), (6, kv ads (some E)), (13, pb C), (22, sv aT F.Route.Steps aU), (23, iv ((F.Route.Steps.length : Int))), (24, iv ((ax : Int)))] = e' ∧ (ab, Cl 57 [sv ac T ad, sv ae U af, sv ag V ah, sv ai W aj, sv ak X al, sv am Y an, sv ao Z aq, sv A3 G c4, sv A8 H c9, .map (some I)]) :: (a ++ (d ++ (e ++ (c ++ R)))) = hp' ∧ av.Le O) a8 ⟨rfl, rfl, lr⟩ ?_ ?_
 rintro ax _ O _ _ bN bG ⟨rfl, rfl, f⟩ t ay
 unfold q2r at t
 have hm := t
 refine Cr<|tS (lT rfl rfl (by omega))<|Te<|Cs<|k9 rfl<|Ck<|Xn<|Cs<|Cb<|Cr<|mV rfl ?_
 obtain ⟨az, bu, bO, a9, bP, ba, aW, aE, aX, hm⟩ := bF (sz := 3) hm (aV.le f)
 obtain ⟨_, _, rfl, rfl, ⟨_, _, rfl, rfl, rfl⟩⟩ := ba
 refine tS (sI bu rfl rfl a9 aX aE q7O)<|tS (sP (vs := [iv az.Section, iv az.In, iv az.Out]) 3 rfl q4H aE rfl (fun j u hu => aW j u hu))<|tD (uA [iv 0, iv 0, iv 0] q5j rfl) ?_
 rintro _ _ ⟨cg, rfl, rfl⟩
 refine aS rfl<|tD (uN (vs := [_, _, _]) 0 3 rfl rfl rfl q6s rfl (mc rfl (mc rfl (mc rfl mn))) rfl (by simp)) ?_
 rintro _ _ rfl
 refine Te ?_
 obtain ⟨bw, bb, bc⟩ := bS hm
 refine Cj (fun aY e' hp' => [(1, iv aa), (6, kv ads (some E)), (13, pb C), (22, sv aT F.Route.Steps aU), (23, iv ((F.Route.Steps.length : Int))), (24, iv ((ax : Int))), (42, bv bw)] = e' ∧ (ab, Cl 57 [sv ac T ad, sv ae U af, sv ag V ah, sv ai W aj, sv ak X al, sv am Y an, sv ao Z aq, sv A3 G c4, sv A8 H c9, .map (some I)]) :: (a ++ (d ++ (e ++ (c ++ R)))) = hp' ∧ O.Le aY) ?_ ?_
 have hm := bb
 refine Cg<|tS (sF rfl V8)<|tS (sL 0 rfl Q5 rfl rfl)<|mV rfl<|Tb rfl (q1 rfl rfl) (fun S => ?_) (fun S => ?_)
 rw [if_pos S] at hm
 refine mV rfl<|yS<|mV rfl<|yS ?_
 obtain ⟨ch, bx, hm⟩ := bS hm
 obtain ⟨bQ, bR, m, aF, bd, hf2361⟩ := OAr.take (bp.le (g.trans f)) bx
 obtain ⟨ci, cj, ck, cl, cm, cn, h, co, cp, n, rfl, cq, cr, cs, bz, rfl⟩ := bd
 refine J8 a d e c<|q1W [_, _] c m h n (a ++ (d ++ (e ++ R))) rfl aF<|tS (sN rfl)<|yS<|tS (sF rfl q6A)<|yS<|tS (sL 0 rfl q4w rfl rfl)<|yS<|mV rfl<|yS ?_
 obtain ⟨ct, bA, hm⟩ := bS hm
 obtain ⟨bB, be, bf⟩ := iS bA
 obtain ⟨bT, bU, cu, cv, bV, bg, aZ, bh, a0, bW, bJ⟩ := OS.get (sz := 1) rfl (by decide) bz bf
 obtain ⟨rfl, rfl⟩ := bg
 refine tS (sI bB rfl rfl be a0 bh q8S)<|yS<|tS (w9 rfl q4J (fun w ho => aZ w _ ho (.cons _ (.cons _ (.cons _ (ss h (Kb _ _))))) 0 _ rfl))<|yS<|tS (sn2 rfl)<|tS (pT rfl rfl)<|Tn<|X0 h n m<|X0 m h n<|X0 n m h<|q2A [_, _] c m h n (a ++ (d ++ (e ++ R))) rfl aF ?_
 obtain rfl := o1 hm
 exact jJ ⟨rfl, rfl, lr⟩
 rw [if_neg S] at hm
 refine mV rfl<|nO<|nO<|nO<|nO<|nO<|nO<|nO<|nO<|tS (pF rfl rfl)<|Tn ?_
 obtain rfl := o1 hm
 exact jJ ⟨rfl, rfl, lr⟩
 rintro aY _ _ ⟨rfl, rfl, o⟩
 have hm := bc
 refine cB hm rfl (fun hm => ?_) fun hm => ?_
 refine Cr<|mV rfl ?_
 obtain ⟨cw, bC, hm⟩ := bS hm
 have zz := g.trans (f.trans o)
 obtain ⟨bX, bY, p, aG, bi, hf2400⟩ := OAr.take (bp.le zz) bC
 obtain ⟨cx, cy, cz, cA, cC, cD, q, cE, cG, r, rfl, cH, cJ, cK, cO, rfl⟩ := bi
 refine Z4 a d e c<|q1W [_] c p q r (a ++ (d ++ (e ++ R))) rfl aG<|tS (sN rfl)<|tS (sF rfl z5F)<|tS (sL 0 rfl Q5 rfl rfl)<|aS rfl<|Te<|Ct<|Xb<|Xr<|Xr<|Xb<|Xb<|Xr<|Xb<|Xr ?_
 have bj := ay _ (Kd hm).symm
 rw [bj] at B
 have hm := J9 B
 have bk := aJ _ (Kd hm).symm
 rw [bk] at A
 have hm := J9 A
 have bl := (Kd hm).symm
 rw [bl] at x
 have hm := J9 x
 refine W7 q r p<|W7 p q r<|W7 r p q<|q2A [_] c p q r (a ++ (d ++ (e ++ R))) rfl aG<|j6v c a ?_
 obtain ⟨aH, aK, bD⟩ := MIt.done (aP.le (f.trans o))
 refine z8b [_] a aH (c ++ (d ++ (e ++ R))) rfl aK ?_
 obtain ⟨rfl, rfl⟩ := Z6 hm
 exact rO ⟨aH, rfl, rfl, bD⟩ zz
 refine Ck<|Xm<|Xn<|Cg<|tS (sa rfl rfl (by omega))<|mV rfl<|Tn ?_
 exact jM hm ⟨rfl, rfl, ((f.trans o))⟩
 rintro _ O _ _ ⟨rfl, rfl, f⟩ bm
 rw [bm] at B
 have hm := H4 B
 refine Cr<|tS (lF rfl rfl (by omega))<|Te<|Cs<|k7 rfl<|Ce<|Xe<|Xe<|Xo<|Xm<|q6k a d e c<|q6k c a d e<|q6k e c a d<|q6k d e c a ?_
 have a1 := g.trans f
 exact q9y (s' := ()) [_] (d ++ (e ++ (c ++ R))) rfl hperm2136 (D.trans (Kd hm ▸ rfl)) a1 (aP.le f) (e' := [(1, iv aa), (13, pb C)]) ⟨rfl, rfl, trivial⟩ (.refl _) ⟨rfl, rfl, ((g.trans f))⟩
 rintro ar _ _ ⟨au, y, rfl, rfl, a2, bE, bn⟩
 rw [bn] at x
 have hm := H4 x
 refine Cr<|aS rfl<|Te<|Ct ?_
 obtain ⟨rfl, rfl⟩ := Z6 hm
 exact rO ⟨y, rfl, rfl, bE⟩ a2
theorem q6U (b : k8) (R : Hp) (z A B C o D E q ag aM aA) (ads : Int → Nat) (ah H I J K L O S T F G U V W X A3 c4 f A8 c9 ad r s c) (a1 : FZ RT.str b.w H I z) (a2 : FZ j3 b.w J K A) (a3 : FZ w6 b.w L O B) (a4 : FZ j6 b.w S T C) (aB : FZ w7 b.w F G o) (a5 : FZ Q3 b.w U V D) (a6 : FZ (RT.list j8) b.w W X E) (h5 : OS 59 (OT.fr j9) b.w (sv A3 q c4) q f) (a7 : OS 127 (OT.fr v8) b.w (sv A8 ag c9) ag ad) (a8 : OM rI (OT.fr (RT.key ads)) false false b.w r aM s) (a9 : OAr 85 z8 ads b.w aA c) (aa ax) (hm : q0C z A B C o D E q ag aM aA = some (aa, ax)):
 w8 Tryz.prog 71 [pb ah] b ((ah, Cl 57 [sv H z I, sv J A K, sv L B O, sv S C T, sv F o G, sv U D V, sv W E X, sv A3 q c4, sv A8 ag c9, .map (some r)]) :: (f ++ (ad ++ (s ++ (c ++ R))))) (fun v b' hp' => ∃ ai aj, .tuple #[] = v ∧ (ah, Cl 57 [sv H z I, sv J A K, sv L B O, sv S C T, sv F o G, sv U D V, sv W E X, sv A3 q c4, sv A8 aa c9, .map (some r)]) :: (f ++ (ai ++ (aj ++ (c ++ R)))) = hp' ∧ OS 127 (OT.fr v8) b'.w (sv A8 aa c9) aa ai ∧ aa.length = ag.length ∧ OM rI (OT.fr (RT.key ads)) false false b'.w r ax aj) := by
 refine fE 46 Tryz.func71 rfl Tryz.ntmps71 rfl ?_
 unfold q0C at hm
 refine Cr<|mV rfl<|tS (sN rfl)<|tS (sF rfl q5p)<|tS (sF rfl q5V)<|tS (sL 0 rfl z3h rfl rfl)<|tS (sE rfl z7b)<|mV rfl<|Te<|Cb ?_
 have ba : o.length ≤ 9223372036854775807 := (FZ.bd aB)
 refine F0 f ad s c<|F0 c f ad s<|F0 s c f ad<|F0 ad s c f ?_
 obtain ⟨⟨m, af⟩, aC, aD⟩ := bS hm
 refine lS (fun t => K5 fun m af => fun ab e' hp' => ∃ d g, [(0, pb ah), (10, sv F o G), (11, iv ((o.length : Int))), (12, iv ((t : Int)))] = e' ∧ (ah, Cl 57 [sv H z I, sv J A K, sv L B O, sv S C T, sv F o G, sv U D V, sv W E X, sv A3 q c4, sv A8 m c9, .map (some r)]) :: (f ++ (d ++ (g ++ (c ++ R)))) = hp' ∧ b.Le ab ∧ OS 127 (OT.fr v8) ab.w (sv A8 m c9) m d ∧ m.length = ag.length ∧ OM rI (OT.fr (RT.key ads)) false false ab.w r af g) aC ⟨ad, s, rfl, rfl, lr, a7, rfl, a8⟩ ?_ ?_
 rintro t ⟨m, af⟩ ab _ _ bb aN ⟨d, g, rfl, rfl, a, x, n, ak⟩ y
 unfold q1Q at y
 have hm := J4 y
 refine Cr<|tS (lT rfl rfl (by omega))<|Te<|Cs<|k9 rfl<|Ck<|Xn<|Cs<|Cb<|Cr<|mV rfl ?_
 obtain ⟨p, aO, bc, aE, bd, aF, aq, al, ar, hm⟩ := bF (sz := 2) hm (aB.le a)
 obtain ⟨_, _, rfl, rfl, rfl⟩ := aF
 refine tS (sI aO rfl rfl aE ar al z7b)<|tS (sP (vs := [iv p.Section, iv p.Close]) 2 rfl z9Z al rfl (fun j u hu => aq j u hu))<|tD (uA [iv 0, iv 0] z5e rfl) ?_
 rintro _ _ ⟨bn, rfl, rfl⟩
 refine aS rfl<|tD (uN (vs := [_, _]) 0 2 rfl rfl rfl z8n rfl (mc rfl (mc rfl mn)) rfl (by simp)) ?_
 rintro _ _ rfl
 refine Te<|Cr<|mV rfl<|tS (sN rfl)<|tS (sF rfl q2u)<|tS (sL 1 rfl q7A rfl rfl)<|mV rfl ?_
 obtain ⟨e, aP, hm⟩ := bS hm
 obtain ⟨ay, Y, Z⟩ := iS aP
 obtain ⟨be, bf, bo, bp, bg, aG, au, k, av, bh, aX⟩ := OS.get (sz := 3) rfl (by decide) x Z
 obtain ⟨⟨_, _, rfl, rfl, ⟨_, _, rfl, rfl, rfl⟩⟩, rfl⟩ := aG
 refine tS (sI ay rfl rfl Y av k q7P)<|aS rfl<|Te<|Cr<|mV rfl<|tS (sF rfl q7g)<|tS (sL 0 rfl Q5 rfl rfl) ?_
 obtain ⟨⟨i, aQ⟩, aw, hm⟩ := bS hm
 have hm := J4 hm
 refine Q9 1 rfl<|J8 f d g c<|J8 c f d g<|J8 g c f d<|J8 d g c f<|Z7 [_] [_] f d g c R rfl<|Tg _ rfl j2d rfl (q8H _ _ p.Section z A B C o D E q m af aA ads ah H I J K L O S T F G U V W X A3 c4 f A8 c9 d r g c (a1.le a) (a2.le a) (a3.le a) (a4.le a) (aB.le a) (a5.le a) (a6.le a) (h5.le a) x ak (a9.le a) i aQ aw) ?_
 rintro _ bq _ l ⟨h, rfl, rfl, am⟩
 refine K6 [_] [_] f d h c R rfl<|tS (q6 rfl rfl)<|aS rfl<|Te<|Cs<|Cr<|Tb rfl (sM rfl) (fun ae => ?_) (fun ae => ?_)
 rw [if_pos ae] at hm
 refine mV rfl<|yS<|mV rfl<|yS<|tS (Q8 rfl k)<|yS<|tS (sQ rfl k q5W)<|yS<|tS (w9 rfl q4J (fun w ho => au w _ (l.back _ _ ho) (.cons _ (.cons _ (ss f (Kb _ _)))) 1 _ rfl))<|yS<|tS (sn2 rfl)<|tS (pT rfl rfl)<|Te<|cM hm rfl (fun hm => ?_) fun hm => ?_
 refine Cg<|mV rfl<|tS (sF rfl z3u)<|tS (sL 1 rfl Q5 rfl rfl)<|tS (Q8 rfl k)<|tS (sQ rfl k q7e)<|z1G f d<|tD (uP Y (sz := 3) (a' := (⟨p.Close, e.wanted, e.failed⟩ : z6)) rfl [_, _] (f ++ (h ++ (c ++ R))) 0 1 [iv p.Close] rfl (x.le l) Z rfl rfl rfl z1I rfl (mc rfl mn) (fun cs hsj hh => by obtain ⟨⟨_, _, rfl, rfl, ⟨_, _, rfl, rfl, rfl⟩⟩, rfl⟩ := hh; exact ⟨by first | decide | exact Nat.le_refl _, ⟨[iv p.Close], _, rfl, rfl, ⟨[bv e.wanted], _, rfl, rfl, rfl⟩⟩, rfl⟩)) ?_
 rintro _ _ ⟨bi, rfl, az⟩
 refine Z9 0 rfl (o' := Cl 57 [sv H z I, sv J A K, sv L B O, sv S C T, sv F o G, sv U D V, sv W E X, sv A3 q c4, .slice A8 (put m (t : Int) (⟨p.Close, e.wanted, e.failed⟩ : z6)).length c9, .map (some r)]) (by simp only [sv, v7])<|Te<|Cg ?_
 obtain ⟨ac, aR, hm⟩ := bS hm
 obtain ⟨aT, aH, an⟩ := iS aR
 obtain rfl : ay = aT := by omega
 obtain ⟨bj, bk, br, bs, bl, aI, aY, ao, aZ, bm, a0⟩ := OS.get (sz := 3) rfl (by decide) az an
 obtain ⟨⟨_, _, rfl, rfl, ⟨_, _, rfl, rfl, rfl⟩⟩, rfl⟩ := aI
 refine mV rfl<|mV rfl<|tS (Q8 rfl ao)<|tS (sQ rfl ao q5W)<|tD (uP aH (sz := 3) (a' := (⟨ac.left, decide (0 ≤ i), ac.failed⟩ : z6)) rfl [_, _] (f ++ (h ++ (c ++ R))) 1 1 [.bool (decide (0 ≤ i))] rfl az an rfl rfl rfl z2o rfl (mc rfl mn) (fun cs hsj hh => by obtain ⟨⟨_, _, rfl, rfl, ⟨_, _, rfl, rfl, rfl⟩⟩, rfl⟩ := hh; exact ⟨by first | decide | exact Nat.le_refl _, ⟨[iv ac.left], _, rfl, rfl, ⟨[.bool (decide (0 ≤ i))], _, rfl, rfl, rfl⟩⟩, rfl⟩)) ?_
 rintro _ _ ⟨aJ, rfl, aU⟩
 refine Z9 0 rfl (o' := Cl 57 [sv H z I, sv J A K, sv L B O, sv S C T, sv F o G, sv U D V, sv W E X, sv A3 q c4, .slice A8 (put (put m (t : Int) (⟨p.Close, e.wanted, e.failed⟩ : z6)) (t : Int) (⟨ac.left, decide (0 ≤ i), ac.failed⟩ : z6)).length c9, .map (some r)]) (by simp only [sv, v7])<|Tn<|Xm<|Xn<|Cg<|tS (sa rfl rfl (by omega))<|mV rfl<|Tn ?_
 obtain rfl := o1 hm
 exact jS ⟨aJ, h, rfl, rfl, ((a.trans l)), aU, ((v7 _ _ _).trans ((v7 _ _ _).trans n)), am⟩
 refine Ck<|Xn<|Cg<|mV rfl<|mV rfl<|tS (Q8 rfl k)<|tS (sQ rfl k q5W)<|z1G f d<|tD (uP Y (sz := 3) (a' := (⟨e.left, decide (0 ≤ i), e.failed⟩ : z6)) rfl [_, _] (f ++ (h ++ (c ++ R))) 1 1 [.bool (decide (0 ≤ i))] rfl (x.le l) Z rfl rfl rfl z2o rfl (mc rfl mn) (fun cs hsj hh => by obtain ⟨⟨_, _, rfl, rfl, ⟨_, _, rfl, rfl, rfl⟩⟩, rfl⟩ := hh; exact ⟨by first | decide | exact Nat.le_refl _, ⟨[iv e.left], _, rfl, rfl, ⟨[.bool (decide (0 ≤ i))], _, rfl, rfl, rfl⟩⟩, rfl⟩)) ?_
 rintro _ _ ⟨aK, rfl, aV⟩
 refine Z9 0 rfl (o' := Cl 57 [sv H z I, sv J A K, sv L B O, sv S C T, sv F o G, sv U D V, sv W E X, sv A3 q c4, .slice A8 (put m (t : Int) (⟨e.left, decide (0 ≤ i), e.failed⟩ : z6)).length c9, .map (some r)]) (by simp only [sv, v7])<|Tn<|Xm<|Xn<|Cg<|tS (sa rfl rfl (by omega))<|mV rfl<|Tn ?_
 obtain rfl := o1 hm
 exact jS ⟨aK, h, rfl, rfl, ((a.trans l)), aV, ((v7 _ _ _).trans n), am⟩
 rw [if_neg ae] at hm
 refine mV rfl<|nO<|nO<|nO<|nO<|nO<|tS (pF rfl rfl)<|Te<|k7 rfl<|Ck ?_
 refine Xn<|Cg<|mV rfl<|mV rfl<|tS (Q8 rfl k)<|tS (sQ rfl k q5W)<|z1G f d<|tD (uP Y (sz := 3) (a' := (⟨e.left, decide (0 ≤ i), e.failed⟩ : z6)) rfl [_, _] (f ++ (h ++ (c ++ R))) 1 1 [.bool (decide (0 ≤ i))] rfl (x.le l) Z rfl rfl rfl z2o rfl (mc rfl mn) (fun cs hsj hh => by obtain ⟨⟨_, _, rfl, rfl, ⟨_, _, rfl, rfl, rfl⟩⟩, rfl⟩ := hh; exact ⟨by first | decide | exact Nat.le_refl _, ⟨[iv e.left], _, rfl, rfl, ⟨[.bool (decide (0 ≤ i))], _, rfl, rfl, rfl⟩⟩, rfl⟩)) ?_
 rintro _ _ ⟨aL, rfl, aW⟩
 refine Z9 0 rfl (o' := Cl 57 [sv H z I, sv J A K, sv L B O, sv S C T, sv F o G, sv U D V, sv W E X, sv A3 q c4, .slice A8 (put m (t : Int) (⟨e.left, decide (0 ≤ i), e.failed⟩ : z6)).length c9, .map (some r)]) (by simp only [sv, v7])<|Tn<|Xm<|Xn<|Cg<|tS (sa rfl rfl (by omega))<|mV rfl<|Tn ?_
 obtain rfl := o1 hm
 exact jS ⟨aL, h, rfl, rfl, ((a.trans l)), aW, ((v7 _ _ _).trans n), am⟩
 rintro ab _ _ ⟨d, g, rfl, rfl, a, x, n, ak⟩
 have hm := J4 aD
 refine Cr<|tS (lF rfl rfl (by omega))<|Te<|Cs<|k7 rfl<|Ce<|Xe<|Xe<|Xo ?_
 obtain ⟨rfl, rfl⟩ := Z6 hm
 exact eZ ⟨d, g, rfl, rfl, x, n, ak⟩ a
theorem z4R (b : k8) (R : Hp) (I H an ao aq ar au av aw aR ax d7 d8) (ads : Int → Nat) (W ay az aA aB aC aD aE aF aG aH aI aJ aK aL A3 c4 n A8 c9 i ak Z s) (fH : FZ RT.str b.w ay az an) (fI : FZ j3 b.w aA aB ao) (fJ : FZ w6 b.w aC aD aq) (fK : FZ j6 b.w aE aF ar) (fL : FZ w7 b.w aG aH au) (d9 : FZ Q3 b.w aI aJ av) (ea : FZ (RT.list j8) b.w aK aL aw) (h5 : OS 59 (OT.fr j9) b.w (sv A3 aR c4) aR n) (bU : OS 127 (OT.fr v8) b.w (sv A8 ax c9) ax i) (cU : OM rI (OT.fr (RT.key ads)) false false b.w ak d7 Z) (bV : OAr 85 z8 ads b.w d8 s) (cV bD bE cW cX) (hm : q3G I H an ao aq ar au av aw aR ax d7 d8 = some (cV, bD, bE, cW, cX)):
 w8 Tryz.prog 28 [pb W, iv I, bv H] b ((W, Cl 57 [sv ay an az, sv aA ao aB, sv aC aq aD, sv aE ar aF, sv aG au aH, sv aI av aJ, sv aK aw aL, sv A3 aR c4, sv A8 ax c9, .map (some ak)]) :: (n ++ (i ++ (Z ++ (s ++ R))))) (fun v b' hp' => ∃ (ads : Int → Nat), ∃ co cp cq cr, iv cV = v ∧ (W, Cl 57 [sv ay an az, sv aA ao aB, sv aC aq aD, sv aE ar aF, sv aG au aH, sv aI av aJ, sv aK aw aL, sv A3 bD c4, sv A8 bE c9, .map (some ak)]) :: (co ++ (cp ++ (cq ++ (cr ++ R)))) = hp' ∧ OS 59 (OT.fr j9) b'.w (sv A3 bD c4) bD co ∧ bD.length = aR.length ∧ OS 127 (OT.fr v8) b'.w (sv A8 bE c9) bE cp ∧ bE.length = ax.length ∧ OM rI (OT.fr (RT.key ads)) false false b'.w ak cW cq ∧ OAr 85 z8 ads b'.w cX cr) := by
 refine fE 228 Tryz.func28 rfl Tryz.ntmps28 rfl ?_
 unfold q3G at hm
 refine Cr<|aS rfl<|Te<|Cs<|Cb<|Cr<|mV rfl<|mV rfl ?_
 obtain ⟨fM, cY, hm⟩ := bS hm
 refine Z4 n i Z s<|Z4 s n i Z<|Z4 Z s n i<|Z4 i Z s n<|Z7 [_] [] n i Z s R rfl<|Tg _ rfl z6I rfl (q2l _ _ I an ao aq ar au av aw aR ax d7 d8 ads W ay az aA aB aC aD aE aF aG aH aI aJ aK aL A3 c4 n A8 c9 i ak Z s fH fI fJ fK fL d9 ea h5 bU cU bV fM cY) ?_
 rintro _ hJ _ d ⟨rfl, rfl⟩
 refine K6 [_] [] n i Z s R rfl<|tS (sn2 rfl)<|aS rfl<|Te<|cM hm rfl (fun hm => ?_) fun hm => ?_
 refine Cr<|aS rfl<|Te<|Ct<|Xb<|Xr ?_
 obtain ⟨rfl, rfl, rfl, rfl, rfl⟩ := q4e hm
 have eb := h5.le d
 have ec := bU.le d
 have ed := cU.le d
 have ee := bV.le d
 exact rO ⟨ads, n, i, Z, s, rfl, rfl, eb, rfl, ec, rfl, ed, ee⟩ d
 refine Cr<|mV rfl<|tS (sN rfl)<|tS (sF rfl q0J)<|tS (sL 0 rfl q5O rfl rfl)<|mV rfl ?_
 obtain ⟨cZ, fN, hm⟩ := bS hm
 have ef := Kd fN
 obtain ⟨c0, bt, eg⟩ := OM.lookF z8R (z0 := none) (cU.le d) (key := iv I) (k := I) rfl q3a z3V rfl
 rw [ef] at bt
 obtain rfl : c0 = kv ads cZ := by have bt : [c0] = [kv ads cZ] := bt; injection bt
 refine tS (q4T (ok := false) rfl rfl (fun w ho => eg _ w ho (.cons _ (ss n (ss i (Kb _ _)))) false))<|tS (z2Q rfl rfl j0M)<|aS rfl<|Te<|cM hm rfl (fun hm => ?_) fun hm => ?_
 refine Cr<|aS rfl<|Te<|Ct<|Xb<|Xr ?_
 obtain ⟨rfl, rfl, rfl, rfl, rfl⟩ := q4e hm
 have eh := h5.le d
 have ei := bU.le d
 have ej := cU.le d
 have ek := bV.le d
 exact rO ⟨ads, n, i, Z, s, rfl, rfl, eh, rfl, ei, rfl, ej, ek⟩ d
 refine Ck<|Xm<|Xn<|Cr<|mV rfl<|tS (sN rfl)<|tS (sF rfl z3q)<|tS (sL 0 rfl j3f rfl rfl)<|mV rfl ?_
 obtain ⟨fO, fP, gS, el, gT, em, c1, en, c2, hm⟩ := bF (sz := 1) hm (ea.le d)
 obtain ⟨fQ, fR, rfl, fS⟩ := em
 refine tS (sI fP rfl rfl el c2 en j7p)<|tS (sO rfl z8D (c1 0 _ rfl)) ?_
 obtain ⟨c3, c5, hm⟩ := bS hm
 refine Tg _ rfl j5q rfl (z1V _ _ fO fQ fR fS c3 c5) ?_
 rintro _ fT _ e ⟨c6, c7, bu, rfl, rfl, c8⟩
 refine q5k [] [_] bu (n ++ (i ++ (Z ++ (s ++ R)))) rfl<|aS rfl<|Te ?_
 obtain ⟨p, eo, ep⟩ := bS hm
 refine Cj (fun ca e' hp' => ∃ t y a, [(0, pb W), (1, iv I), (2, bv H), (7, sv t p y)] = e' ∧ (W, Cl 57 [sv ay an az, sv aA ao aB, sv aC aq aD, sv aE ar aF, sv aG au aH, sv aI av aJ, sv aK aw aL, sv A3 aR c4, sv A8 ax c9, .map (some ak)]) :: (a ++ (n ++ (i ++ (Z ++ (s ++ R))))) = hp' ∧ fT.Le ca ∧ OS 72 (OT.fr j8) ca.w (sv t p y) p a) ?_ ?_
 have hm := eo
 refine Cr<|mV rfl<|Te<|cB hm rfl (fun hm => ?_) fun hm => ?_
 refine Cg<|mV rfl ?_
 obtain ⟨fU, da, hm⟩ := bS hm
 refine q4R [] [_] bu (n ++ (i ++ (Z ++ (s ++ R)))) rfl<|Tg _ rfl j5p rfl (q9p _ _ c3 c6 c7 bu c8 fU da) ?_
 rintro _ hK _ db ⟨fV, fW, ct, rfl, rfl, fX⟩
 refine q5k [] [_] ct (n ++ (i ++ (Z ++ (s ++ R)))) rfl<|aS rfl<|Tn ?_
 obtain rfl := o1 hm
 exact jJ ⟨fV, fW, ct, rfl, rfl, db, fX⟩
 refine Ck ?_
 obtain rfl := o1 hm
 exact jJ ⟨c6, c7, bu, rfl, rfl, lr, c8⟩
 rintro ca _ _ ⟨t, y, a, rfl, rfl, f, aV⟩
 have hm := ep
 refine Cs<|Cr<|mV rfl<|mV rfl<|mV rfl ?_
 obtain ⟨⟨fY, fZ⟩, dc, hm⟩ := bS hm
 have hm := J4 hm
 have zz := d.trans (e.trans f)
 refine q3R a n i Z s<|q3R s a n i Z<|q3R Z s a n i<|q3R i Z s a n<|q3R n i Z s a<|j1J [_] [] a n i Z s R rfl<|Tg _ rfl j5o rfl (z1p _ _ I an ao aq ar au av aw p aR ax d7 d8 ads W ay az aA aB aC aD aE aF aG aH aI aJ aK aL t y a A3 c4 n A8 c9 i ak Z s (fH.le zz) (fI.le zz) (fJ.le zz) (fK.le zz) (fL.le zz) (d9.le zz) (ea.le zz) aV (h5.le zz) (bU.le zz) (cU.le zz) (bV.le zz) fY fZ dc) ?_
 rintro _ f0 _ m ⟨A, rfl, rfl, bG⟩
 refine z0w [_] [] a n i A s R rfl<|Te<|cB hm rfl (fun hm => ?_) fun hm => ?_
 refine Cr<|aS rfl<|Te<|Ct<|Xr ?_
 obtain ⟨rfl, rfl, rfl, rfl, rfl⟩ := q4e hm
 have zy := d.trans (e.trans (f.trans m))
 have eq := h5.le zy
 have er := bU.le zy
 have es := bV.le zy
 exact rO ⟨ads, n, i, A, s, rfl, rfl, eq, rfl, er, rfl, bG, es⟩ zy
 refine Ck<|Xn<|Cs<|Cr<|mV rfl<|tS (sE rfl q6l)<|mV rfl<|Te<|Cb ?_
 have gU : p.length ≤ 9223372036854775807 := (OS.len aV)
 refine P3 a n i A s<|P3 s a n i A<|P3 A s a n i<|P3 i A s a n<|P3 n i A s a ?_
 obtain ⟨hL, et, bw⟩ := bS hm
 refine lF (fun cb => fun _ => fun bH e' hp' => [(0, pb W), (1, iv I), (2, bv H), (7, sv t p y), (49, sv t p y), (50, iv ((p.length : Int))), (51, iv ((cb : Int)))] = e' ∧ (W, Cl 57 [sv ay an az, sv aA ao aB, sv aC aq aD, sv aE ar aF, sv aG au aH, sv aI av aJ, sv aK aw aL, sv A3 aR c4, sv A8 ax c9, .map (some ak)]) :: (a ++ (n ++ (i ++ (A ++ (s ++ R))))) = hp' ∧ f0.Le bH) et ⟨rfl, rfl, lr⟩ ?_ ?_
 rintro cb _ bH _ _ gV gE ⟨rfl, rfl, g⟩ bo cc
 unfold q0h at bo
 have hm := bo
 refine Cr<|tS (lT rfl rfl (by omega))<|Te<|Cs<|k9 rfl<|Ck<|Xn<|Cs<|Cb<|Cr ?_
 obtain ⟨bI, f1, hm⟩ := bS hm
 obtain ⟨f2, eu, ev⟩ := iS f1
 obtain ⟨gW, gX, hM, hN, gY, ew, dd, cu, de, gZ, gJ⟩ := OS.get (sz := 4) rfl (by decide) (aV.le (m.trans g)) ev
 obtain ⟨⟨_, _, rfl, rfl, ⟨_, _, rfl, rfl, ⟨_, _, rfl, rfl, rfl⟩⟩⟩, rfl⟩ := ew
 refine tS (sI f2 rfl rfl eu de cu q6l)<|tS (Z2 (vs := [iv bI.Kind, iv bI.Place, iv bI.Position, iv bI.At]) 4 rfl q0n cu rfl (fun w ho j u hu => dd w _ ho (.cons _ (Kb _ _)) j u hu))<|tD (uA [iv 0, iv 0, iv 0, iv 0] q7Q rfl) ?_
 rintro _ _ ⟨hO, rfl, rfl⟩
 refine tD (uN (vs := [_, _, _, _]) 0 4 rfl rfl rfl z1H rfl (mc rfl (mc rfl (mc rfl (mc rfl mn)))) rfl (by simp)) ?_
 rintro _ _ rfl
 refine Te ?_
 obtain ⟨f3, ex, ey⟩ := bS hm
 refine Cj (fun df e' hp' => [(0, pb W), (1, iv I), (2, bv H), (7, sv t p y), (49, sv t p y), (50, iv ((p.length : Int))), (51, iv ((cb : Int))), (68, bv f3)] = e' ∧ (W, Cl 57 [sv ay an az, sv aA ao aB, sv aC aq aD, sv aE ar aF, sv aG au aH, sv aI av aJ, sv aK aw aL, sv A3 aR c4, sv A8 ax c9, .map (some ak)]) :: (a ++ (n ++ (i ++ (A ++ (s ++ R))))) = hp' ∧ bH.Le df) ?_ ?_
 have hm := ex
 by_cases bx : 0 < bI.Position
 rw [if_pos bx] at hm
 obtain ⟨hP, f4, hm⟩ := bS hm
 refine Di mixed (.refl _)<|E0 0 rfl (sF rfl q1c)<|Es 1 rfl (sL 0 rfl Q5 rfl rfl)<|E0 2 rfl (z0g rfl rfl bx)<|E0 3 rfl (sM rfl)<|Yz 4 58 rfl (sM rfl)<|Yz 5 58 rfl (sN rfl)<|Yz 6 58 rfl (sF rfl V1)<|Ey 7 58 rfl (sL 1 rfl q1p rfl rfl)<|Yz 8 58 rfl (sF rfl q3T)<|Ey 9 58 rfl (sL 0 rfl Q5 rfl rfl) ?_
 obtain ⟨f5, ez, eA⟩ := iS f4
 obtain ⟨g0, g1, hQ, hR, g2, eB, dg, cv, dh, g3, gK⟩ := OS.get (sz := 5) rfl (by decide) (h5.le (d.trans (e.trans (f.trans (m.trans g))))) eA
 obtain ⟨⟨_, _, rfl, rfl, ⟨_, _, rfl, rfl, ⟨_, _, rfl, rfl, ⟨_, _, rfl, rfl, rfl⟩⟩⟩⟩, rfl⟩ := eB
 refine Yz 10 58 rfl (sI f5 rfl rfl ez dh cv q3O)<|Yz 11 58 rfl (sQ rfl cv q6C)<|Ey 12 58 rfl (w9 rfl q4J (fun w ho => dg w _ ho (.cons _ (.cons _ (ss a (Kb _ _)))) 4 _ rfl))<|E0 13 rfl (pT rfl rfl)<|Eo<|Dd (by kernel_rfl) ?_
 obtain rfl := o1 hm
 exact jJ ⟨rfl, rfl, lr⟩
 rw [if_neg bx] at hm
 refine Di mixed (.refl _)<|E0 0 rfl (sF rfl q1c)<|Es 1 rfl (sL 0 rfl Q5 rfl rfl)<|E0 2 rfl (z2R rfl rfl bx)<|E0 3 rfl (sM rfl)<|eN 4 rfl<|eN 5 rfl<|eN 6 rfl<|eN 7 rfl<|eN 8 rfl<|eN 9 rfl<|eN 10 rfl<|eN 11 rfl<|eN 12 rfl<|E0 13 rfl (pF rfl rfl)<|Eo<|Dd (by kernel_rfl) ?_
 obtain rfl := o1 hm
 exact jJ ⟨rfl, rfl, lr⟩
 rintro df _ _ ⟨rfl, rfl, aN⟩
 have hm := ey
 refine cB hm rfl (fun hm => ?_) fun hm => ?_
 refine Cr<|aS rfl<|Te<|Ct<|Xb<|Xr<|Xr<|Xb<|Xr ?_
 have eC := cc _ (Kd hm).symm
 rw [eC] at bw
 have hm := J9 bw
 obtain ⟨rfl, rfl, rfl, rfl, rfl⟩ := q4e hm
 have zx := d.trans (e.trans (f.trans (m.trans (g.trans aN))))
 have eD := h5.le zx
 have eE := bU.le zx
 have eG := (bG.le (g.trans aN))
 have eH := bV.le zx
 exact rO ⟨ads, n, i, A, s, rfl, rfl, eD, rfl, eE, rfl, eG, eH⟩ zx
 refine Ck<|Xm<|Xn<|Cg<|tS (sa rfl rfl (by omega))<|mV rfl<|Tn ?_
 exact jM hm ⟨rfl, rfl, ((g.trans aN))⟩
 rintro _ bH _ _ ⟨rfl, rfl, g⟩ eI
 rw [eI] at bw
 have hm := H4 bw
 refine Cr<|tS (lF rfl rfl (by omega))<|Te<|Cs<|k7 rfl<|Ce<|Xe<|Xe<|Xo<|Xn<|Cs<|Cr<|mV rfl<|tS (sE rfl q6l)<|mV rfl<|Te<|Cb ?_
 have g4 : p.length ≤ 9223372036854775807 := (OS.len aV)
 refine P3 a n i A s<|P3 s a n i A<|P3 A s a n i<|P3 i A s a n<|P3 n i A s a ?_
 obtain ⟨hS, eJ, bz⟩ := bS hm
 refine lF (fun bW => fun _ => fun bJ e' hp' => [(0, pb W), (1, iv I), (2, bv H), (7, sv t p y), (70, sv t p y), (71, iv ((p.length : Int))), (72, iv ((bW : Int)))] = e' ∧ (W, Cl 57 [sv ay an az, sv aA ao aB, sv aC aq aD, sv aE ar aF, sv aG au aH, sv aI av aJ, sv aK aw aL, sv A3 aR c4, sv A8 ax c9, .map (some ak)]) :: (a ++ (n ++ (i ++ (A ++ (s ++ R))))) = hp' ∧ bH.Le bJ) eJ ⟨rfl, rfl, lr⟩ ?_ ?_
 rintro bW _ bJ _ _ g5 gF ⟨rfl, rfl, o⟩ bp cd
 unfold q0g at bp
 have hm := bp
 refine Cr<|tS (lT rfl rfl (by omega))<|Te<|Cs<|k9 rfl<|Ck<|Xn<|Cs<|Cb<|Cr ?_
 obtain ⟨aW, f6, hm⟩ := bS hm
 obtain ⟨f7, eK, eL⟩ := iS f6
 obtain ⟨g6, g7, hT, hU, g8, eM, di, cw, dj, g9, gL⟩ := OS.get (sz := 4) rfl (by decide) (aV.le (m.trans (g.trans o))) eL
 obtain ⟨⟨_, _, rfl, rfl, ⟨_, _, rfl, rfl, ⟨_, _, rfl, rfl, rfl⟩⟩⟩, rfl⟩ := eM
 refine tS (sI f7 rfl rfl eK dj cw q6l)<|tS (Z2 (vs := [iv aW.Kind, iv aW.Place, iv aW.Position, iv aW.At]) 4 rfl q0n cw rfl (fun w ho j u hu => di w _ ho (.cons _ (Kb _ _)) j u hu))<|tD (uA [iv 0, iv 0, iv 0, iv 0] q7Q rfl) ?_
 rintro _ _ ⟨dk, rfl, rfl⟩
 refine tD (uN (vs := [_, _, _, _]) 0 4 rfl rfl rfl z1H rfl (mc rfl (mc rfl (mc rfl (mc rfl mn)))) rfl (by simp)) ?_
 rintro _ _ rfl
 refine Te<|Cs<|Cr<|tS (sF rfl q1c)<|tS (sL 0 rfl Q5 rfl rfl)<|tS (q1 rfl rfl)<|Te<|cI hm rfl (fun hm => ?_) fun hm => ?_
 refine Ce<|Xe<|Xo<|Xn<|Cg<|tS (sa rfl rfl (by omega))<|mV rfl<|Tn ?_
 exact jM hm ⟨rfl, rfl, (o)⟩
 refine Ck<|Xn ?_
 obtain ⟨⟨dl, dm, dn, dp, dq⟩, eO, eP⟩ := bS hm
 refine Cj (fun ce e' hp' => ∃ cf, [(0, pb W), (1, iv I), (2, bv H), (7, sv t p y), (11, pb dk), (12, pb cf), (70, sv t p y), (71, iv ((p.length : Int))), (72, iv ((bW : Int)))] = e' ∧ (W, Cl 57 [sv ay an az, sv aA ao aB, sv aC aq aD, sv aE ar aF, sv aG au aH, sv aI av aJ, sv aK aw aL, sv A3 aR c4, sv A8 ax c9, .map (some ak)]) :: (dk, Cl 72 [iv aW.Kind, iv aW.Place, iv aW.Position, iv aW.At]) :: (cf, Cl 59 [iv dl, bv dm, iv dn, iv dp, bv dq]) :: (a ++ (n ++ (i ++ (A ++ (s ++ R))))) = hp' ∧ bJ.Le ce) ?_ ?_
 have hm := eO
 obtain ⟨bK, f8, hm⟩ := bS hm
 refine Di mixed (.refl _)<|E0 0 rfl (sM rfl)<|E0 1 rfl (sN rfl)<|E0 2 rfl (sF rfl V1)<|Es 3 rfl (sL 1 rfl q1p rfl rfl)<|E0 4 rfl (sF rfl q3T)<|Es 5 rfl (sL 0 rfl Q5 rfl rfl) ?_
 obtain ⟨f9, eQ, eR⟩ := iS f8
 obtain ⟨ha, hb, hV, hW, hc, eS, dr, cx, ds, hd, gM⟩ := OS.get (sz := 5) rfl (by decide) (h5.le (d.trans (e.trans (f.trans (m.trans (g.trans o)))))) eR
 obtain ⟨⟨_, _, rfl, rfl, ⟨_, _, rfl, rfl, ⟨_, _, rfl, rfl, ⟨_, _, rfl, rfl, rfl⟩⟩⟩⟩, rfl⟩ := eS
 refine E0 6 rfl (sI f9 rfl rfl eQ ds cx q3O)<|Es 7 rfl (Z2 (vs := [iv bK.axles, bv bK.disturbed, iv bK.position, iv bK.moving, bv bK.failed]) 5 rfl q7N cx rfl (fun w ho j u hu => dr w _ ho (.cons _ (.cons _ (ss a (Kb _ _)))) j u hu))<|Eo<|Da [8] (by kernel_rfl) rfl<|Rd2 lr rfl rfl (uA [iv 0, .bool false, iv 0, iv 0, .bool false] j1F rfl) ?_ ?_
 rintro _ _ ⟨ga, rfl, rfl⟩
 refine iR<|Da [9] (by kernel_rfl) rfl<|Rd2 lr rfl rfl (uN (vs := [_, _, _, _, _]) 0 5 rfl rfl rfl j4D rfl (mc rfl (mc rfl (mc rfl (mc rfl (mc rfl mn))))) rfl (by simp)) ?_ ?_
 rintro _ _ rfl
 refine ⟨.inl (by kernel_rfl), ?_⟩
 refine Dd (by kernel_rfl) ?_
 obtain ⟨rfl, rfl, rfl, rfl, rfl⟩ := q4e hm
 exact jJ ⟨ga, rfl, rfl, lr⟩
 exact Rn
 exact Rn
 rintro ce _ _ ⟨cf, rfl, rfl, aO⟩
 have hm := z6Y eP
 obtain ⟨gb, eU, eV⟩ := bS hm
 refine Cj (fun dt e' hp' => [(0, pb W), (1, iv I), (2, bv H), (7, sv t p y), (70, sv t p y), (71, iv ((p.length : Int))), (72, iv ((bW : Int))), (112, bv gb)] = e' ∧ (W, Cl 57 [sv ay an az, sv aA ao aB, sv aC aq aD, sv aE ar aF, sv aG au aH, sv aI av aJ, sv aK aw aL, sv A3 aR c4, sv A8 ax c9, .map (some ak)]) :: (a ++ (n ++ (i ++ (A ++ (s ++ R))))) = hp' ∧ ce.Le dt) ?_ ?_
 have hm := eU
 refine Cg<|tS (sD (vs := [_, _, _, _, _]) 2 5 rfl q7N rfl rfl rfl) ?_
 obtain ⟨du, dv, hm⟩ := bS hm
 refine tD (uW _ q7p rfl (fun w ho => W6 _ [] (⟨dl, dm, dn, dp, dq⟩ : q8) du dv) (fun _ _ _ h => h.2.symm)) ?_
 rintro _ _ ⟨⟨_, rfl, _⟩, rfl⟩
 rcases Kg du with bd | bd
 rw [if_pos bd] at hm
 refine Tr 88 rfl (v' := .bool true) (by rw [bd] <;> rfl)<|mV rfl<|yS<|tS (sF rfl q4C)<|yS<|tS (sL 2 rfl Q5 rfl rfl)<|yS<|tS (sF rfl q1c)<|yS<|tS (sL 1 rfl Q5 rfl rfl)<|yS<|Tb rfl (q2 rfl rfl) (fun bX => ?_) (fun bX => ?_)
 rw [if_pos bX] at hm
 refine yS<|mV rfl<|nO<|nO<|nO<|yS<|tS (pT rfl rfl)<|tS (pT rfl rfl)<|mV rfl<|nO<|nO<|nO<|nO<|nO<|nO<|nO<|nO<|nO<|nO<|tS (pT rfl rfl)<|Tn ?_
 obtain rfl := o1 hm
 exact jJ ⟨rfl, rfl, lr⟩
 rw [if_neg bX] at hm
 refine yS<|mV rfl<|yS<|tS (sF rfl q3U)<|yS<|tS (sL 2 rfl Q5 rfl rfl)<|yS<|Tb rfl (q5 rfl rfl) (fun bY => ?_) (fun bY => ?_)
 rw [if_pos bY] at hm
 refine yS<|tS (pF rfl rfl)<|tS (pT rfl rfl)<|mV rfl<|nO<|nO<|nO<|nO<|nO<|nO<|nO<|nO<|nO<|nO<|tS (pT rfl rfl)<|Tn ?_
 obtain rfl := o1 hm
 exact jJ ⟨rfl, rfl, lr⟩
 rw [if_neg bY] at hm
 refine yS<|tS (pF rfl rfl)<|tS (pT rfl rfl)<|mV rfl<|yS<|tS (sF rfl q3U)<|yS<|tS (sL 2 rfl Q5 rfl rfl)<|yS<|Tb rfl (q5 rfl rfl) (fun bZ => ?_) (fun bZ => ?_)
 rw [if_pos bZ] at hm
 refine yS<|mV rfl<|yS<|tS (sF rfl q4C)<|yS<|tS (sL 2 rfl Q5 rfl rfl)<|yS<|tS (sF rfl q1c)<|yS<|tS (sL 1 rfl Q5 rfl rfl)<|yS<|tS (q1 rfl rfl)<|yS<|tS (pT rfl rfl)<|tS (pF rfl rfl)<|Tn ?_
 obtain rfl := o1 hm
 exact jJ ⟨rfl, rfl, lr⟩
 rw [if_neg bZ] at hm
 refine yS<|mV rfl<|nO<|nO<|nO<|nO<|nO<|yS<|tS (pF rfl rfl)<|tS (pF rfl rfl)<|Tn ?_
 obtain rfl := o1 hm
 exact jJ ⟨rfl, rfl, lr⟩
 rw [if_neg (fun hh => Bool.noConfusion (hh.symm.trans bd))] at hm
 refine Tr 88 rfl (v' := .bool false) (by rw [bd] <;> rfl)<|mV rfl<|nO<|nO<|nO<|nO<|nO<|nO<|nO<|nO<|nO<|nO<|tS (pF rfl rfl)<|mV rfl<|yS<|tS (sF rfl q3U)<|yS<|tS (sL 2 rfl Q5 rfl rfl)<|yS<|Tb rfl (q5 rfl rfl) (fun b0 => ?_) (fun b0 => ?_)
 rw [if_pos b0] at hm
 refine yS<|mV rfl<|yS<|tS (sF rfl q4C)<|yS<|tS (sL 2 rfl Q5 rfl rfl)<|yS<|tS (sF rfl q1c)<|yS<|tS (sL 1 rfl Q5 rfl rfl)<|yS<|tS (q1 rfl rfl)<|yS<|tS (pT rfl rfl)<|tS (pF rfl rfl)<|Tn ?_
 obtain rfl := o1 hm
 exact jJ ⟨rfl, rfl, lr⟩
 rw [if_neg b0] at hm
 refine yS<|mV rfl<|nO<|nO<|nO<|nO<|nO<|yS<|tS (pF rfl rfl)<|tS (pF rfl rfl)<|Tn ?_
 obtain rfl := o1 hm
 exact jJ ⟨rfl, rfl, lr⟩
 rintro dt _ _ ⟨rfl, rfl, aP⟩
 have hm := eV
 refine cB hm rfl (fun hm => ?_) fun hm => ?_
 refine Cr<|aS rfl<|Te<|Ct<|Xb<|Xr<|Xr<|Xb<|Xr ?_
 have eW := cd _ (Kd hm).symm
 rw [eW] at bz
 have hm := J9 bz
 obtain ⟨rfl, rfl, rfl, rfl, rfl⟩ := q4e hm
 have zw := d.trans (e.trans (f.trans (m.trans (g.trans (o.trans (aO.trans aP))))))
 have eX := h5.le zw
 have eY := bU.le zw
 have e0 := (bG.le (g.trans (o.trans (aO.trans aP))))
 have e1 := bV.le zw
 exact rO ⟨ads, n, i, A, s, rfl, rfl, eX, rfl, eY, rfl, e0, e1⟩ zw
 refine Ck<|Xm<|Xn<|Cg<|tS (sa rfl rfl (by omega))<|mV rfl<|Tn ?_
 exact jM hm ⟨rfl, rfl, ((o.trans (aO.trans aP)))⟩
 rintro _ bJ _ _ ⟨rfl, rfl, o⟩ e2
 rw [e2] at bz
 have hm := H4 bz
 refine Cr<|tS (lF rfl rfl (by omega))<|Te<|Cs<|k7 rfl<|Ce<|Xe<|Xe<|Xo<|Xn<|Cs<|Cr<|mV rfl<|tS (sE rfl q6l)<|mV rfl<|Te<|Cb ?_
 have he : p.length ≤ 9223372036854775807 := (OS.len aV)
 refine P3 a n i A s<|P3 s a n i A<|P3 A s a n i<|P3 i A s a n<|P3 n i A s a ?_
 obtain ⟨hX, e3, bA⟩ := bS hm
 refine lF (fun cg => fun _ => fun bh e' hp' => [(0, pb W), (1, iv I), (2, bv H), (7, sv t p y), (114, sv t p y), (115, iv ((p.length : Int))), (116, iv ((cg : Int)))] = e' ∧ (W, Cl 57 [sv ay an az, sv aA ao aB, sv aC aq aD, sv aE ar aF, sv aG au aH, sv aI av aJ, sv aK aw aL, sv A3 aR c4, sv A8 ax c9, .map (some ak)]) :: (a ++ (n ++ (i ++ (A ++ (s ++ R))))) = hp' ∧ bJ.Le bh) e3 ⟨rfl, rfl, lr⟩ ?_ ?_
 rintro cg _ bh _ _ hf gG ⟨rfl, rfl, z⟩ bq ch
 unfold q0f at bq
 have hm := bq
 refine Cr<|tS (lT rfl rfl (by omega))<|Te<|Cs<|k9 rfl<|Ck<|Xn<|Cs<|Cb<|Cr ?_
 obtain ⟨bi, gc, hm⟩ := bS hm
 obtain ⟨gd, e4, e5⟩ := iS gc
 obtain ⟨hg, hi, hY, hZ, hj, e6, dw, cy, dx, hk, gN⟩ := OS.get (sz := 4) rfl (by decide) (aV.le (m.trans (g.trans (o.trans z)))) e5
 obtain ⟨⟨_, _, rfl, rfl, ⟨_, _, rfl, rfl, ⟨_, _, rfl, rfl, rfl⟩⟩⟩, rfl⟩ := e6
 refine tS (sI gd rfl rfl e4 dx cy q6l)<|tS (Z2 (vs := [iv bi.Kind, iv bi.Place, iv bi.Position, iv bi.At]) 4 rfl q0n cy rfl (fun w ho j u hu => dw w _ ho (.cons _ (Kb _ _)) j u hu))<|tD (uA [iv 0, iv 0, iv 0, iv 0] q7Q rfl) ?_
 rintro _ _ ⟨h0, rfl, rfl⟩
 refine tD (uN (vs := [_, _, _, _]) 0 4 rfl rfl rfl z1H rfl (mc rfl (mc rfl (mc rfl (mc rfl mn)))) rfl (by simp)) ?_
 rintro _ _ rfl
 refine Te ?_
 obtain ⟨ge, e7, e8⟩ := bS hm
 refine Cj (fun dy e' hp' => [(0, pb W), (1, iv I), (2, bv H), (7, sv t p y), (114, sv t p y), (115, iv ((p.length : Int))), (116, iv ((cg : Int))), (142, bv ge)] = e' ∧ (W, Cl 57 [sv ay an az, sv aA ao aB, sv aC aq aD, sv aE ar aF, sv aG au aH, sv aI av aJ, sv aK aw aL, sv A3 aR c4, sv A8 ax c9, .map (some ak)]) :: (a ++ (n ++ (i ++ (A ++ (s ++ R))))) = hp' ∧ bh.Le dy) ?_ ?_
 have hm := e7
 rcases Kg H with aT | aT
 rw [if_pos aT] at hm
 refine Di mixed (.refl _)<|E0 0 rfl (stB (sM rfl) aT)<|E0 1 rfl (K7 rfl)<|E0 2 rfl (sM rfl)<|eN 3 rfl<|eN 4 rfl<|eN 5 rfl<|eN 6 rfl<|eN 7 rfl<|eN 8 rfl<|eN 9 rfl<|eN 10 rfl<|E0 11 rfl (pF rfl rfl)<|E0 12 rfl (sM rfl)<|eN 13 rfl<|eN 14 rfl<|eN 15 rfl<|eN 16 rfl<|eN 17 rfl<|eN 18 rfl<|eN 19 rfl<|eN 20 rfl<|eN 21 rfl<|E0 22 rfl (pF rfl rfl)<|Eo<|Dd (by kernel_rfl) ?_
 obtain rfl := o1 hm
 exact jJ ⟨rfl, rfl, lr⟩
 rw [if_neg (fun hh => Bool.noConfusion (hh.symm.trans aT))] at hm
 by_cases be : bi.Kind = 1
 rw [if_pos be] at hm
 obtain ⟨bj, gf, hm⟩ := bS hm
 obtain ⟨gg, dz, hm⟩ := bS hm
 refine Di mixed (.refl _)<|E0 0 rfl (stB (sM rfl) aT)<|E0 1 rfl (P7 rfl)<|E0 2 rfl (sM rfl)<|Yz 3 122 rfl (sF rfl q0I)<|Ey 4 122 rfl (sL 0 rfl Q5 rfl rfl)<|Yz 5 122 rfl (eT rfl rfl be)<|Yz 6 122 rfl (sM rfl)<|eN 7 rfl<|eN 8 rfl ?_
 refine eN 9 rfl<|Yz 10 122 rfl (pT rfl rfl)<|E0 11 rfl (pT rfl rfl)<|E0 12 rfl (sM rfl)<|Yz 13 132 rfl (sM rfl)<|Yz 14 132 rfl (sN rfl)<|Yz 15 132 rfl (sF rfl V1)<|Ey 16 132 rfl (sL 1 rfl q1p rfl rfl)<|Yz 17 132 rfl (sF rfl q3T)<|Ey 18 132 rfl (sL 0 rfl Q5 rfl rfl) ?_
 obtain ⟨gh, e9, fa⟩ := iS gf
 obtain ⟨hl, hn, h1, h2, hq, fb, dA, cz, dB, hr, gO⟩ := OS.get (sz := 5) rfl (by decide) (h5.le (d.trans (e.trans (f.trans (m.trans (g.trans (o.trans z))))))) fa
 obtain ⟨⟨_, _, rfl, rfl, ⟨_, _, rfl, rfl, ⟨_, _, rfl, rfl, ⟨_, _, rfl, rfl, rfl⟩⟩⟩⟩, rfl⟩ := fb
 refine Yz 19 132 rfl (sI gh rfl rfl e9 dB cz q3O)<|Ey 20 132 rfl (Z2 (vs := [iv bj.axles, bv bj.disturbed, iv bj.position, iv bj.moving, bv bj.failed]) 5 rfl q7N cz rfl (fun w ho j u hu => dA w _ ho (.cons _ (.cons _ (ss a (Kb _ _)))) j u hu))<|Eo<|Da [21] (by kernel_rfl) rfl<|q3X lr rfl rfl 132 rfl rfl rfl (uW _ q7p rfl (fun w ho => W6 _ [] bj gg dz) (fun _ _ _ h => h.2.symm)) ?_ ?_
 rintro _ _ ⟨⟨_, rfl, _⟩, rfl⟩
 refine iR<|Ei lr (.refl _)<|E0 22 rfl (pT rfl rfl)<|Eo<|Dd (by kernel_rfl) ?_
 obtain rfl := o1 hm
 exact jJ ⟨rfl, rfl, lr⟩
 exact Rn
 rw [if_neg be] at hm
 by_cases bB : bi.Kind = 2
 rw [if_pos bB] at hm
 obtain ⟨bk, gi, hm⟩ := bS hm
 obtain ⟨gj, dC, hm⟩ := bS hm
 refine Di mixed (.refl _)<|E0 0 rfl (stB (sM rfl) aT)<|E0 1 rfl (P7 rfl)<|E0 2 rfl (sM rfl)<|Yz 3 122 rfl (sF rfl q0I)<|Ey 4 122 rfl (sL 0 rfl Q5 rfl rfl)<|Yz 5 122 rfl (eF rfl rfl be)<|Yz 6 122 rfl (sM rfl)<|Yz 7 126 rfl (sF rfl q0I)<|Ey 8 126 rfl (sL 0 rfl Q5 rfl rfl) ?_
 refine Yz 9 126 rfl (eT rfl rfl bB)<|Yz 10 122 rfl (pF rfl rfl)<|E0 11 rfl (pT rfl rfl)<|E0 12 rfl (sM rfl)<|Yz 13 132 rfl (sM rfl)<|Yz 14 132 rfl (sN rfl)<|Yz 15 132 rfl (sF rfl V1)<|Ey 16 132 rfl (sL 1 rfl q1p rfl rfl)<|Yz 17 132 rfl (sF rfl q3T)<|Ey 18 132 rfl (sL 0 rfl Q5 rfl rfl) ?_
 obtain ⟨gk, fc, fd⟩ := iS gi
 obtain ⟨hs, ht, h3, h4, hv, fe, dD, cA, dE, hw, gP⟩ := OS.get (sz := 5) rfl (by decide) (h5.le (d.trans (e.trans (f.trans (m.trans (g.trans (o.trans z))))))) fd
 obtain ⟨⟨_, _, rfl, rfl, ⟨_, _, rfl, rfl, ⟨_, _, rfl, rfl, ⟨_, _, rfl, rfl, rfl⟩⟩⟩⟩, rfl⟩ := fe
 refine Yz 19 132 rfl (sI gk rfl rfl fc dE cA q3O)<|Ey 20 132 rfl (Z2 (vs := [iv bk.axles, bv bk.disturbed, iv bk.position, iv bk.moving, bv bk.failed]) 5 rfl q7N cA rfl (fun w ho j u hu => dD w _ ho (.cons _ (.cons _ (ss a (Kb _ _)))) j u hu))<|Eo<|Da [21] (by kernel_rfl) rfl<|q3X lr rfl rfl 132 rfl rfl rfl (uW _ q7p rfl (fun w ho => W6 _ [] bk gj dC) (fun _ _ _ h => h.2.symm)) ?_ ?_
 rintro _ _ ⟨⟨_, rfl, _⟩, rfl⟩
 refine iR<|Ei lr (.refl _)<|E0 22 rfl (pT rfl rfl)<|Eo<|Dd (by kernel_rfl) ?_
 obtain rfl := o1 hm
 exact jJ ⟨rfl, rfl, lr⟩
 exact Rn
 rw [if_neg bB] at hm
 refine Di mixed (.refl _)<|E0 0 rfl (stB (sM rfl) aT)<|E0 1 rfl (P7 rfl)<|E0 2 rfl (sM rfl)<|Yz 3 122 rfl (sF rfl q0I)<|Ey 4 122 rfl (sL 0 rfl Q5 rfl rfl)<|Yz 5 122 rfl (eF rfl rfl be)<|Yz 6 122 rfl (sM rfl)<|Yz 7 126 rfl (sF rfl q0I)<|Ey 8 126 rfl (sL 0 rfl Q5 rfl rfl)<|Yz 9 126 rfl (eF rfl rfl bB)<|Yz 10 122 rfl (pF rfl rfl)<|E0 11 rfl (pT rfl rfl)<|E0 12 rfl (sM rfl)<|eN 13 rfl<|eN 14 rfl<|eN 15 rfl<|eN 16 rfl<|eN 17 rfl<|eN 18 rfl ?_
 refine eN 19 rfl<|eN 20 rfl<|eN 21 rfl<|E0 22 rfl (pF rfl rfl)<|Eo<|Dd (by kernel_rfl) ?_
 obtain rfl := o1 hm
 exact jJ ⟨rfl, rfl, lr⟩
 rintro dy _ _ ⟨rfl, rfl, aQ⟩
 have hm := e8
 refine cB hm rfl (fun hm => ?_) fun hm => ?_
 refine Cr<|aS rfl<|Te<|Ct<|Xb<|Xr<|Xr<|Xb<|Xr ?_
 have ff := ch _ (Kd hm).symm
 rw [ff] at bA
 have hm := J9 bA
 obtain ⟨rfl, rfl, rfl, rfl, rfl⟩ := q4e hm
 have zv := d.trans (e.trans (f.trans (m.trans (g.trans (o.trans (z.trans aQ))))))
 have fg := h5.le zv
 have fh := bU.le zv
 have fi := (bG.le (g.trans (o.trans (z.trans aQ))))
 have fj := bV.le zv
 exact rO ⟨ads, n, i, A, s, rfl, rfl, fg, rfl, fh, rfl, fi, fj⟩ zv
 refine Ck<|Xm<|Xn<|Cg<|tS (sa rfl rfl (by omega))<|mV rfl<|Tn ?_
 exact jM hm ⟨rfl, rfl, ((z.trans aQ))⟩
 rintro _ bh _ _ ⟨rfl, rfl, z⟩ fk
 rw [fk] at bA
 have hm := H4 bA
 refine Cr<|tS (lF rfl rfl (by omega))<|Te<|Cs<|k7 rfl<|Ce<|Xe<|Xe<|Xo<|Xn<|Cr<|mV rfl<|tS (sN rfl)<|tS (sF rfl z3r)<|tS (sL 0 rfl z7p rfl rfl)<|mV rfl ?_
 have zu := d.trans (e.trans (f.trans (m.trans (g.trans (o.trans z)))))
 obtain ⟨q, gl, hx, fl, hy, fm, dF, cC, dH, hm⟩ := bF (sz := 3) hm (d9.le zu)
 obtain ⟨_, _, rfl, rfl, ⟨_, _, rfl, rfl, ⟨X, Y, rfl, dI⟩⟩⟩ := fm
 refine tS (sI gl rfl rfl fl dH cC j2U)<|tS (sP (vs := [iv q.From, iv q.To, sv X q.Steps Y]) 3 rfl z9Y cC rfl (fun j u hu => dF j u hu))<|tD (uA [iv 0, iv 0, sn] j4h rfl) ?_
 rintro _ _ ⟨a9, rfl, rfl⟩
 refine tD (uN (vs := [_, _, _]) 0 3 rfl rfl rfl j6I rfl (mc rfl (mc rfl (mc rfl mn))) rfl (by simp)) ?_
 rintro _ _ rfl
 refine Te ?_
 obtain ⟨⟨gm, gn⟩, fn, fo⟩ := bS hm
 refine Cj (fun bL e' hp' => ∃ C J, [(0, pb W), (1, iv I), (2, bv H), (7, sv t p y), (15, pb a9)] = e' ∧ (W, Cl 57 [sv ay an az, sv aA ao aB, sv aC aq aD, sv aE ar aF, sv aG au aH, sv aI av aJ, sv aK aw aL, sv A3 aR c4, sv A8 ax c9, .map (some ak)]) :: (a9, Cl 80 [iv q.From, iv q.To, sv X q.Steps Y]) :: (a ++ (n ++ (i ++ (C ++ (J ++ R))))) = hp' ∧ bh.Le bL ∧ OM rI (OT.fr (RT.key ads)) false false bL.w ak gm C ∧ OAr 85 z8 ads bL.w gn J) ?_ ?_
 have hm := fn
 refine Cr<|mV rfl<|tS (sN rfl)<|tS (sF rfl q0J)<|tS (sL 1 rfl q5O rfl rfl)<|J8 a n i A<|tD (q7u [_, _] (a ++ (n ++ (i ++ (s ++ R)))) rfl (bG.le (g.trans (o.trans z))) q3a rfl) ?_
 rintro _ _ ⟨b1, bf, rfl, rfl, go⟩
 refine Te<|Cb<|q2B bf a n i s<|q2B s bf a n i<|q2B i s bf a n<|q2B n i s bf a<|Cp 1 rfl<|q2B a n i s bf ?_
 obtain ⟨h6, fp, cD⟩ := bS hm
 refine z1i (fun b2 => fun ci e' hp' => ∃ K, [(0, pb W), (1, iv I), (2, bv H), (7, sv t p y), (15, pb a9), (155, pb b1)] = e' ∧ (W, Cl 57 [sv ay an az, sv aA ao aB, sv aC aq aD, sv aE ar aF, sv aG au aH, sv aI av aJ, sv aK aw aL, sv A3 aR c4, sv A8 ax c9, .map (some ak)]) :: (a9, Cl 80 [iv q.From, iv q.To, sv X q.Steps Y]) :: (a ++ (n ++ (i ++ (K ++ R)))) = hp' ∧ bh.Le ci ∧ OAr 85 z8 ads ci.w b2 K) fp go (e' := [(0, pb W), (1, iv I), (2, bv H), (7, sv t p y), (15, pb a9), (155, pb b1)]) ⟨rfl, rfl, rfl, rfl, rfl, rfl, trivial⟩ [_, _] (a ++ (n ++ (i ++ (s ++ R)))) rfl (.refl _) ⟨s, rfl, rfl, lr, (bV.le zu)⟩ ?_
 rintro b2 h7 ci _ _ cE ⟨K, rfl, rfl, aX, cj⟩ gQ dJ hd2790 hall2791
 refine z5R [_, _] cE (a ++ (n ++ (i ++ (K ++ R)))) ?_ rfl
 refine Cr<|z0v [_, _] (a ++ (n ++ (i ++ (K ++ R)))) rfl rfl rfl dJ (fun hnil2793 => ?_) (fun b3 h8 h9 ia D hperm2799 fq dK => ?_)
 obtain ⟨cG, cR, gp⟩ := MIt.done dJ
 refine q7W [_, _] cE cG (a ++ (n ++ (i ++ (K ++ R)))) rfl cR ?_
 have hend2805 := hd2790 hnil2793
 refine tS (j5 rfl rfl)<|Te<|Cs<|k7 rfl<|Ce<|Xe<|Xe<|Xo ?_
 rw [hend2805] at cD
 have hm := H4 cD
 obtain ⟨rfl, rfl⟩ := Z6 hm
 exact jJ ⟨cG, K, rfl, rfl, aX, gp, cj⟩
 obtain ⟨ib, ba, gH⟩ := hall2791 _ _ hperm2799
 have br := ba
 unfold q1j at br
 have hm := br
 refine tS (j5 rfl rfl)<|Te<|Cs<|k9 rfl<|Ck<|Xn<|Cb<|Cr ?_
 obtain ⟨dL, dM, b4, b5, fr⟩ := MIx.entry Tryz.prog fq
 obtain rfl : dL = iv b3.1 := by have b4 : [dL] = [iv b3.1] := b4; injection b4
 obtain rfl : dM = kv ads b3.2 := by have b5 : [dM] = [kv ads b3.2] := b5; injection b5
 refine tS (fr (.cons _ (.cons _ (Kb _ _))) rfl)<|tS (j5 rfl rfl)<|aS rfl<|Te<|Cs ?_
 obtain ⟨aU, dN, hm⟩ := bS hm
 obtain ⟨c, gq, hm⟩ := bS hm
 refine z1h 17 rfl (v' := .pointer (some ⟨(ads aU), 0, none⟩)) (by rw [dN]; rfl)<|z1h 159 rfl (v' := .pointer (some ⟨(ads aU), 0, none⟩)) (by rw [dN]; rfl) ?_
 obtain ⟨hz, hA, U, cH, fs, hf2823⟩ := OAr.take cj gq
 obtain ⟨aY, aZ, a0, a1, a2, a3, L, a4, a5, O, rfl, gr, gs, gt, gu, rfl⟩ := fs
 refine q2B D a n i K<|q8v [_, _] K U L O (D ++ (a ++ (n ++ (i ++ R)))) rfl cH<|Di mixed (.refl _)<|E0 0 rfl (sM rfl)<|E0 1 rfl (sN rfl)<|E0 2 rfl (sF rfl q2t)<|E0 3 rfl (sF rfl q6B)<|Es 4 rfl (sL 0 rfl Q5 rfl rfl)<|E0 5 rfl (sF rfl q7F)<|Es 6 rfl (sL 2 rfl Q5 rfl rfl)<|E0 7 rfl (q1 rfl rfl)<|Eo<|Dd (by kernel_rfl)<|Xn<|cI hm rfl (fun hm => ?_) fun hm => ?_
 refine Cg<|mV rfl<|tS (sN rfl)<|tS (sF rfl z3p)<|tD (uS 0 rfl rfl z2o rfl rfl (by simp)) ?_
 rintro _ _ rfl
 refine Tn<|Xm<|X0 L O U<|X0 U L O<|X0 O U L ?_
 have gv := hf2823 _ [iv c.Route.From, iv c.Route.To, sv aY c.Route.Steps aZ, sv a0 c.needs a1, sv a2 c.seen a3, sv a4 c.gone a5, bv false, bv c.sight, iv c.leave, iv c.clock, iv c.number] (⟨c.Route, c.needs, c.seen, c.gone, false, c.sight, c.leave, c.clock, c.number⟩ : j0) _ lr ⟨aY, aZ, a0, a1, a2, a3, L, a4, a5, O, rfl, gr, gs, gt, gu, rfl⟩
 refine z0q [_, _] U L O (D ++ (a ++ (n ++ (i ++ R)))) rfl<|Xp 1 rfl<|Xp 1 rfl<|X5 [_, _] (U ++ (((ads aU), Cl 85 [iv c.Route.From, iv c.Route.To, sv aY c.Route.Steps aZ, sv a0 c.needs a1, sv a2 c.seen a3, sv a4 c.gone a5, bv false, bv c.sight, iv c.leave, iv c.clock, iv c.number]) :: (L ++ O))) D a n i R rfl<|X5 [_, _] i (U ++ (((ads aU), Cl 85 [iv c.Route.From, iv c.Route.To, sv aY c.Route.Steps aZ, sv a0 c.needs a1, sv a2 c.seen a3, sv a4 c.gone a5, bv false, bv c.sight, iv c.leave, iv c.clock, iv c.number]) :: (L ++ O))) D a n R rfl<|X5 [_, _] n i (U ++ (((ads aU), Cl 85 [iv c.Route.From, iv c.Route.To, sv aY c.Route.Steps aZ, sv a0 c.needs a1, sv a2 c.seen a3, sv a4 c.gone a5, bv false, bv c.sight, iv c.leave, iv c.clock, iv c.number]) :: (L ++ O))) D a R rfl<|X5 [_, _] a n i (U ++ (((ads aU), Cl 85 [iv c.Route.From, iv c.Route.To, sv aY c.Route.Steps aZ, sv a0 c.needs a1, sv a2 c.seen a3, sv a4 c.gone a5, bv false, bv c.sight, iv c.leave, iv c.clock, iv c.number]) :: (L ++ O))) D R rfl ?_
 have dO := aX
 exact q9y (s' := G1 b2 aU (⟨c.Route, c.needs, c.seen, c.gone, false, c.sight, c.leave, c.clock, c.number⟩ : j0)) [_, _] (a ++ (n ++ (i ++ ((U ++ (((ads aU), Cl 85 [iv c.Route.From, iv c.Route.To, sv aY c.Route.Steps aZ, sv a0 c.needs a1, sv a2 c.seen a3, sv a4 c.gone a5, bv false, bv c.sight, iv c.leave, iv c.clock, iv c.number]) :: (L ++ O))) ++ R)))) rfl hperm2799 (ba.trans (Kd hm ▸ rfl)) dO dK (e' := [(0, pb W), (1, iv I), (2, bv H), (7, sv t p y), (15, pb a9), (155, pb b1)]) ⟨rfl, rfl, rfl, rfl, rfl, rfl, trivial⟩ (.refl _) ⟨(U ++ (((ads aU), Cl 85 [iv c.Route.From, iv c.Route.To, sv aY c.Route.Steps aZ, sv a0 c.needs a1, sv a2 c.seen a3, sv a4 c.gone a5, bv false, bv c.sight, iv c.leave, iv c.clock, iv c.number]) :: (L ++ O))), rfl, rfl, (aX), gv⟩
 refine Ck<|Xm<|X0 L O U<|X0 U L O<|X0 O U L<|q2A [_, _] K U L O (D ++ (a ++ (n ++ (i ++ R)))) rfl cH<|Xp 1 rfl<|Xp 1 rfl<|j0j K D a n i<|j0j i K D a n<|j0j n i K D a<|j0j a n i K D ?_
 have dP := aX
 exact q9y (s' := b2) [_, _] (a ++ (n ++ (i ++ (K ++ R)))) rfl hperm2799 (ba.trans (Kd hm ▸ rfl)) dP dK (e' := [(0, pb W), (1, iv I), (2, bv H), (7, sv t p y), (15, pb a9), (155, pb b1)]) ⟨rfl, rfl, rfl, rfl, rfl, rfl, trivial⟩ (.refl _) ⟨K, rfl, rfl, (aX), cj⟩
 rintro bL _ _ ⟨C, J, rfl, rfl, T, dQ, dR⟩
 have hm := J4 fo
 obtain ⟨⟨bb, dS, dT⟩, ft, fu⟩ := bS hm
 refine Cj (fun bl e' hp' => ∃ (ads : Int → Nat), ∃ bM bN S E, [(0, pb W), (7, sv bM bb bN)] = e' ∧ (W, Cl 57 [sv ay an az, sv aA ao aB, sv aC aq aD, sv aE ar aF, sv aG au aH, sv aI av aJ, sv aK aw aL, sv A3 aR c4, sv A8 ax c9, .map (some ak)]) :: (n ++ (i ++ (S ++ (E ++ R)))) = hp' ∧ bL.Le bl ∧ FZ j8 bl.w bM bN bb ∧ OM rI (OT.fr (RT.key ads)) false false bl.w ak dS S ∧ OAr 85 z8 ads bl.w dT E) ?_ ?_
 have hm := ft
 refine j6c [_, _] a (n ++ (i ++ (C ++ (J ++ R)))) rfl ?_
 intro ic ai fv
 have b6 := OS.frz (l := p) (aV.le (m.trans (g.trans (o.trans (z.trans T))))) ai.cells fv
 obtain ⟨aa, a6, hm⟩ := bS hm
 obtain ⟨ab, a7, hm⟩ := bS hm
 obtain ⟨_, bm, hm⟩ := bS hm
 refine Di mixed (.refl _)<|E0 0 rfl (sM rfl)<|E0 1 rfl (sN rfl)<|E0 2 rfl (sF rfl q0J)<|Es 3 rfl (sL 0 rfl q5O rfl rfl)<|E0 4 rfl (sM rfl)<|Es 5 rfl (sD (vs := [_, _, _]) 1 3 rfl z9Y rfl rfl rfl)<|E0 6 rfl (sM rfl)<|E0 7 rfl (sF rfl q1b)<|Es 8 rfl (sL 1 rfl q4M rfl rfl)<|E0 9 rfl (sE rfl q7O)<|E0 11 rfl (sF rfl q1b)<|Es 12 rfl (sL 1 rfl q4M rfl rfl)<|E0 13 rfl (sE rfl q7O)<|E0 15 rfl (sM rfl)<|E0 16 rfl (sn2 rfl)<|E0 17 rfl (sM rfl)<|E0 18 rfl (sM rfl)<|Eo ?_
 have a6 := q1N a6
 have a7 := q1N a7
 refine Da [10, 14] (by kernel_rfl) rfl<|Rd2 lr rfl rfl (K2 (r := RT.bool) [_, _] (n ++ (i ++ (C ++ (J ++ R)))) [bv false] false aa rfl a6.1 rfl rfl q8S j4V rfl rfl rfl (by decide) rfl a6.2.1 a6.2.2) ?_ ?_
 rintro _ _ ⟨F, rfl, bO⟩
 obtain ⟨ad, ae, rfl, _⟩ := bO.form
 refine iR<|Da [14] (by kernel_rfl) rfl<|Rd2 lr rfl rfl (K2 (r := RT.bool) [_, _] (F ++ (n ++ (i ++ (C ++ (J ++ R))))) [bv false] false ab rfl a7.1 rfl rfl q8S j4V rfl rfl rfl (by decide) rfl a7.2.1 a7.2.2) ?_ ?_
 rintro _ _ ⟨G, rfl, bP⟩
 obtain ⟨af, ag, rfl, _⟩ := bP.form
 refine iR<|Da [19] (by kernel_rfl) rfl ?_
 refine Rd2 lr rfl rfl (Q7.does (sB (v := .agg #[iv q.From, iv q.To, sv X q.Steps Y, sv t p y, .slice ad (List.replicate aa (false : Bool)).length ae, .slice af (List.replicate ab (false : Bool)).length ag, .bool (!H), bv H, iv 0, iv 0, iv I]) [(0, .agg #[iv q.From, iv q.To, sv X q.Steps Y]), (1, sv t p y), (2, .slice ad (List.replicate aa (false : Bool)).length ae), (3, .slice af (List.replicate ab (false : Bool)).length ag), (4, .bool (!H)), (5, bv H), (8, iv I)] rfl (fun _ => by kernel_rfl))) ?_ ?_
 rintro _ _ ⟨rfl, rfl⟩
 refine iR<|Da [20] (by kernel_rfl) rfl<|Rd2 lr rfl rfl (uB _ rfl rfl) ?_ ?_
 rintro _ _ ⟨ah, rfl, rfl⟩
 refine iR ?_
 have bm := q7B bm
 refine j5d G F n i C J<|j7i J G<|j1o G J F ?_
 obtain ⟨b7, al, b8, ck⟩ := OAr.add (dR.le ai) I ah (cs := [iv q.From, iv q.To, sv X q.Steps Y, sv t p y, .slice ad (List.replicate aa (false : Bool)).length ae, .slice af (List.replicate ab (false : Bool)).length ag, .bool (!H), bv H, iv 0, iv 0, iv I]) (x := (⟨q, p, List.replicate aa (false : Bool), List.replicate ab (false : Bool), !H, H, 0, 0, I⟩ : j0)) ⟨X, Y, t, y, ad, ae, F, af, ag, G, rfl, (dI.le (T.trans ai)), b6, bO, bP, rfl⟩
 have cl := OM.upd (dQ.le ai) I ah bm
 refine j1X [_, _] J b7 al F G (n ++ (i ++ (C ++ R))) rfl b8<|q4c 191 rfl (v' := kv (z2h ads I ah) (some I)) (by show _ = Value.pointer (some ⟨z2h ads _ _ _, 0, none⟩); rw [q6o]) ?_
 generalize z2h ads I ah = ads at *
 refine d4 [_, _] (al ++ ((ah, Cl 85 [iv q.From, iv q.To, sv X q.Steps Y, sv t p y, .slice ad (List.replicate aa (false : Bool)).length ae, .slice af (List.replicate ab (false : Bool)).length ag, .bool (!H), bv H, iv 0, iv 0, iv I]) :: (F ++ G))) n i C R rfl<|Da [21] (by kernel_rfl) rfl ?_
 refine Rd2 lr rfl rfl (q8Q z8R [_, _] [] ((al ++ ((ah, Cl 85 [iv q.From, iv q.To, sv X q.Steps Y, sv t p y, .slice ad (List.replicate aa (false : Bool)).length ae, .slice af (List.replicate ab (false : Bool)).length ag, .bool (!H), bv H, iv 0, iv 0, iv I]) :: (F ++ G))) ++ (n ++ (i ++ R))) rfl cl q3a rfl rfl rfl rfl ⟨rfl, rfl⟩ _ (.inl rfl)) ?_ ?_
 rintro _ _ ⟨b9, rfl, cT, cm⟩
 refine ⟨.inl (by kernel_rfl), ?_⟩
 refine Dd (by kernel_rfl) ?_
 obtain ⟨rfl, rfl, rfl⟩ := q2o hm
 exact jJ ⟨ads, t, y, b9, (al ++ ((ah, Cl 85 [iv q.From, iv q.To, sv X q.Steps Y, sv t p y, .slice ad (List.replicate aa (false : Bool)).length ae, .slice af (List.replicate ab (false : Bool)).length ag, .bool (!H), bv H, iv 0, iv 0, iv I]) :: (F ++ G))), rfl, rfl, ai, b6, cm, ck⟩
 exact Rn
 exact Rn
 exact Rn
 exact Rn
 refine Rd2 lr rfl rfl (K2 (r := RT.bool) [_, _] (n ++ (i ++ (C ++ (J ++ R)))) [bv false] false ab rfl a7.1 rfl rfl q8S j4V rfl rfl rfl (by decide) rfl a7.2.1 a7.2.2) ?_ ?_
 rintro _ _ ⟨G, rfl, bP⟩
 obtain ⟨af, ag, rfl, _⟩ := bP.form
 refine iR<|Da [10] (by kernel_rfl) rfl<|Rd2 lr rfl rfl (K2 (r := RT.bool) [_, _] (G ++ (n ++ (i ++ (C ++ (J ++ R))))) [bv false] false aa rfl a6.1 rfl rfl q8S j4V rfl rfl rfl (by decide) rfl a6.2.1 a6.2.2) ?_ ?_
 rintro _ _ ⟨F, rfl, bO⟩
 obtain ⟨ad, ae, rfl, _⟩ := bO.form
 refine iR<|Da [19] (by kernel_rfl) rfl ?_
 refine Rd2 lr rfl rfl (Q7.does (sB (v := .agg #[iv q.From, iv q.To, sv X q.Steps Y, sv t p y, .slice ad (List.replicate aa (false : Bool)).length ae, .slice af (List.replicate ab (false : Bool)).length ag, .bool (!H), bv H, iv 0, iv 0, iv I]) [(0, .agg #[iv q.From, iv q.To, sv X q.Steps Y]), (1, sv t p y), (2, .slice ad (List.replicate aa (false : Bool)).length ae), (3, .slice af (List.replicate ab (false : Bool)).length ag), (4, .bool (!H)), (5, bv H), (8, iv I)] rfl (fun _ => by kernel_rfl))) ?_ ?_
 rintro _ _ ⟨rfl, rfl⟩
 refine iR<|Da [20] (by kernel_rfl) rfl<|Rd2 lr rfl rfl (uB _ rfl rfl) ?_ ?_
 rintro _ _ ⟨ah, rfl, rfl⟩
 refine iR ?_
 have bm := q7B bm
 refine j5d F G n i C J<|j1o J F G<|j1o G J F ?_
 obtain ⟨b7, al, b8, ck⟩ := OAr.add (dR.le ai) I ah (cs := [iv q.From, iv q.To, sv X q.Steps Y, sv t p y, .slice ad (List.replicate aa (false : Bool)).length ae, .slice af (List.replicate ab (false : Bool)).length ag, .bool (!H), bv H, iv 0, iv 0, iv I]) (x := (⟨q, p, List.replicate aa (false : Bool), List.replicate ab (false : Bool), !H, H, 0, 0, I⟩ : j0)) ⟨X, Y, t, y, ad, ae, F, af, ag, G, rfl, (dI.le (T.trans ai)), b6, bO, bP, rfl⟩
 have cl := OM.upd (dQ.le ai) I ah bm
 refine j1X [_, _] J b7 al F G (n ++ (i ++ (C ++ R))) rfl b8<|q4c 191 rfl (v' := kv (z2h ads I ah) (some I)) (by show _ = Value.pointer (some ⟨z2h ads _ _ _, 0, none⟩); rw [q6o]) ?_
 generalize z2h ads I ah = ads at *
 refine d4 [_, _] (al ++ ((ah, Cl 85 [iv q.From, iv q.To, sv X q.Steps Y, sv t p y, .slice ad (List.replicate aa (false : Bool)).length ae, .slice af (List.replicate ab (false : Bool)).length ag, .bool (!H), bv H, iv 0, iv 0, iv I]) :: (F ++ G))) n i C R rfl<|Da [21] (by kernel_rfl) rfl ?_
 refine Rd2 lr rfl rfl (q8Q z8R [_, _] [] ((al ++ ((ah, Cl 85 [iv q.From, iv q.To, sv X q.Steps Y, sv t p y, .slice ad (List.replicate aa (false : Bool)).length ae, .slice af (List.replicate ab (false : Bool)).length ag, .bool (!H), bv H, iv 0, iv 0, iv I]) :: (F ++ G))) ++ (n ++ (i ++ R))) rfl cl q3a rfl rfl rfl rfl ⟨rfl, rfl⟩ _ (.inl rfl)) ?_ ?_
 rintro _ _ ⟨b9, rfl, cT, cm⟩
 refine ⟨.inl (by kernel_rfl), ?_⟩
 refine Dd (by kernel_rfl) ?_
 obtain ⟨rfl, rfl, rfl⟩ := q2o hm
 exact jJ ⟨ads, t, y, b9, (al ++ ((ah, Cl 85 [iv q.From, iv q.To, sv X q.Steps Y, sv t p y, .slice ad (List.replicate aa (false : Bool)).length ae, .slice af (List.replicate ab (false : Bool)).length ag, .bool (!H), bv H, iv 0, iv 0, iv I]) :: (F ++ G))), rfl, rfl, ai, b6, cm, ck⟩
 exact Rn
 exact Rn
 exact Rn
 exact Rn
 exact Rn
 rintro bl _ _ ⟨ads, bM, bN, S, E, rfl, rfl, ac, dU, gw, dV⟩
 have hm := q4s fu
 refine Cs<|Cr<|mV rfl<|tS (sE rfl q6l)<|mV rfl<|Te<|Cb ?_
 have hB : bb.length ≤ 9223372036854775807 := (FZ.bd dU)
 refine F0 n i S E<|F0 E n i S<|F0 S E n i<|F0 i S E n ?_
 obtain ⟨aM, fw, fx⟩ := bS hm
 refine lS (fun cn => fun aM => fun bQ e' hp' => ∃ V, [(0, pb W), (192, sv bM bb bN), (193, iv ((bb.length : Int))), (194, iv ((cn : Int)))] = e' ∧ (W, Cl 57 [sv ay an az, sv aA ao aB, sv aC aq aD, sv aE ar aF, sv aG au aH, sv aI av aJ, sv aK aw aL, sv A3 aM c4, sv A8 ax c9, .map (some ak)]) :: (V ++ (i ++ (S ++ (E ++ R)))) = hp' ∧ bl.Le bQ ∧ OS 59 (OT.fr j9) bQ.w (sv A3 aM c4) aM V ∧ aM.length = aR.length) fw ⟨n, rfl, rfl, lr, (h5.le (d.trans (e.trans (f.trans (m.trans (g.trans (o.trans (z.trans (T.trans ac))))))))), rfl⟩ ?_ ?_
 rintro cn aM bQ _ _ hC gI ⟨V, rfl, rfl, B, bc, a8⟩ bs
 unfold q0e at bs
 have hm := bs
 refine Cr<|tS (lT rfl rfl (by omega))<|Te<|Cs<|k9 rfl<|Ck<|Xn<|Cs<|Cb<|Cr ?_
 obtain ⟨bn, gx, hD, fy, hE, fz, dW, cJ, dX, hm⟩ := bF (sz := 4) hm (dU.le B)
 obtain ⟨_, _, rfl, rfl, ⟨_, _, rfl, rfl, ⟨_, _, rfl, rfl, rfl⟩⟩⟩ := fz
 refine tS (sI gx rfl rfl fy dX cJ q6l)<|tS (sP (vs := [iv bn.Kind, iv bn.Place, iv bn.Position, iv bn.At]) 4 rfl q0n cJ rfl (fun j u hu => dW j u hu))<|tD (uA [iv 0, iv 0, iv 0, iv 0] q7Q rfl) ?_
 rintro _ _ ⟨id, rfl, rfl⟩
 refine tD (uN (vs := [_, _, _, _]) 0 4 rfl rfl rfl z1H rfl (mc rfl (mc rfl (mc rfl (mc rfl mn)))) rfl (by simp)) ?_
 rintro _ _ rfl
 refine Te<|Cs<|Cr<|tS (sF rfl q1c)<|tS (sL 0 rfl Q5 rfl rfl)<|tS (q1 rfl rfl)<|Te<|cI hm rfl (fun hm => ?_) fun hm => ?_
 refine Ce<|Xe<|Xo<|Xn<|Cg<|tS (sa rfl rfl (by omega))<|mV rfl<|Tn ?_
 obtain rfl := o1 hm
 exact jS ⟨V, rfl, rfl, (B), bc, a8⟩
 refine Ck<|Xn<|Cs ?_
 obtain ⟨aj, gy, hm⟩ := bS hm
 refine Di mixed (.refl _)<|E0 0 rfl (sM rfl)<|E0 1 rfl (sN rfl)<|E0 2 rfl (sF rfl V1)<|Es 3 rfl (sL 1 rfl q1p rfl rfl)<|E0 4 rfl (sF rfl q3T)<|Es 5 rfl (sL 0 rfl Q5 rfl rfl) ?_
 obtain ⟨dY, cK, cO⟩ := iS gy
 obtain ⟨hF, hG, ie, ig, hH, fA, bR, am, dZ, hI, gR⟩ := OS.get (sz := 5) rfl (by decide) bc cO
 obtain ⟨⟨_, _, rfl, rfl, ⟨_, _, rfl, rfl, ⟨_, _, rfl, rfl, ⟨_, _, rfl, rfl, rfl⟩⟩⟩⟩, rfl⟩ := fA
 refine E0 6 rfl (sI dY rfl rfl cK dZ am q3O)<|E0 7 rfl (sA rfl)<|Eo<|Dd (by kernel_rfl)<|Xn ?_
 obtain ⟨gz, fB, fC⟩ := bS hm
 refine Cj (fun d0 e' hp' => [(0, pb W), (20, .pointer (Option.map (fun (x : Addr) => x.add (dY * 5)) A3)), (192, sv bM bb bN), (193, iv ((bb.length : Int))), (194, iv ((cn : Int))), (221, bv gz)] = e' ∧ (W, Cl 57 [sv ay an az, sv aA ao aB, sv aC aq aD, sv aE ar aF, sv aG au aH, sv aI av aJ, sv aK aw aL, sv A3 aM c4, sv A8 ax c9, .map (some ak)]) :: (V ++ (i ++ (S ++ (E ++ R)))) = hp' ∧ bQ.Le d0) ?_ ?_
 have hm := fB
 by_cases bC : aj.position ≠ bn.Position
 rw [if_pos bC] at hm
 refine Di mixed (.refl _)<|E0 0 rfl (sM rfl)<|E0 1 rfl (Q8 rfl am)<|E0 2 rfl (sQ rfl am q4C)<|Es 3 rfl (w9 rfl Q5 (fun w ho => bR w _ ho (.cons _ (.cons _ (Kb _ _))) 2 _ rfl))<|E0 4 rfl (sF rfl q1c)<|Es 5 rfl (sL 0 rfl Q5 rfl rfl)<|E0 6 rfl (j0x rfl rfl bC)<|E0 7 rfl (sM rfl)<|Yz 8 215 rfl (sM rfl) ?_
 refine Yz 9 215 rfl (Q8 rfl am)<|Yz 10 215 rfl (sQ rfl am q3U)<|Ey 11 215 rfl (w9 rfl Q5 (fun w ho => bR w _ ho (.cons _ (.cons _ (Kb _ _))) 3 _ rfl))<|Yz 12 215 rfl (q1 rfl rfl)<|E0 13 rfl (pT rfl rfl)<|Eo<|Dd (by kernel_rfl) ?_
 obtain rfl := o1 hm
 exact jJ ⟨rfl, rfl, lr⟩
 rw [if_neg bC] at hm
 refine Di mixed (.refl _)<|E0 0 rfl (sM rfl)<|E0 1 rfl (Q8 rfl am)<|E0 2 rfl (sQ rfl am q4C)<|Es 3 rfl (w9 rfl Q5 (fun w ho => bR w _ ho (.cons _ (.cons _ (Kb _ _))) 2 _ rfl))<|E0 4 rfl (sF rfl q1c)<|Es 5 rfl (sL 0 rfl Q5 rfl rfl)<|E0 6 rfl (j0y rfl rfl bC)<|E0 7 rfl (sM rfl)<|eN 8 rfl<|eN 9 rfl<|eN 10 rfl<|eN 11 rfl<|eN 12 rfl<|E0 13 rfl (pF rfl rfl)<|Eo<|Dd (by kernel_rfl) ?_
 obtain rfl := o1 hm
 exact jJ ⟨rfl, rfl, lr⟩
 rintro d0 _ _ ⟨rfl, rfl, bg⟩
 have hm := fC
 refine cB hm rfl (fun hm => ?_) fun hm => ?_
 refine Cg<|mV rfl<|tS (Q8 rfl am)<|tS (sQ rfl am q3U)<|tD (uP cK (sz := 5) (a' := (⟨aj.axles, aj.disturbed, aj.position, 5, aj.failed⟩ : q8)) rfl [_] (i ++ (S ++ (E ++ R))) 3 1 [iv 5] rfl (bc.le bg) cO rfl rfl rfl z1I rfl (mc rfl mn) (fun cs hsj hh => by obtain ⟨⟨_, _, rfl, rfl, ⟨_, _, rfl, rfl, ⟨_, _, rfl, rfl, ⟨_, _, rfl, rfl, rfl⟩⟩⟩⟩, rfl⟩ := hh; exact ⟨by first | decide | exact Nat.le_refl _, ⟨[iv aj.axles], _, rfl, rfl, ⟨[bv aj.disturbed], _, rfl, rfl, ⟨[iv aj.position], _, rfl, rfl, ⟨[iv 5], _, rfl, rfl, rfl⟩⟩⟩⟩, rfl⟩)) ?_
 rintro _ _ ⟨fD, rfl, gA⟩
 refine Z9 0 rfl (o' := Cl 57 [sv ay an az, sv aA ao aB, sv aC aq aD, sv aE ar aF, sv aG au aH, sv aI av aJ, sv aK aw aL, .slice A3 (put aM bn.Place (⟨aj.axles, aj.disturbed, aj.position, 5, aj.failed⟩ : q8)).length c4, sv A8 ax c9, .map (some ak)]) (by simp only [sv, v7])<|Tn<|Xm<|Xn<|Cg<|tS (sa rfl rfl (by omega))<|mV rfl<|Tn ?_
 obtain rfl := o1 hm
 exact jS ⟨fD, rfl, rfl, ((B.trans bg)), gA, ((v7 _ _ _).trans a8)⟩
 refine Ck<|Xm<|Xn<|Cg<|tS (sa rfl rfl (by omega))<|mV rfl<|Tn ?_
 obtain rfl := o1 hm
 exact jS ⟨V, rfl, rfl, ((B.trans bg)), (bc.le bg), a8⟩
 rintro bQ _ _ ⟨V, rfl, rfl, B, bc, a8⟩
 have hm := fx
 refine Cr<|tS (lF rfl rfl (by omega))<|Te<|Cs<|k7 rfl<|Ce<|Xe<|Xe<|Xo<|Xn<|Cr<|mV rfl ?_
 obtain ⟨⟨d1, gB⟩, d5, hm⟩ := bS hm
 have hm := J4 hm
 have zt := d.trans (e.trans (f.trans (m.trans (g.trans (o.trans (z.trans (T.trans (ac.trans B))))))))
 refine Z4 V i S E<|Z4 E V i S<|Z4 S E V i<|Z4 i S E V<|Z7 [_] [] V i S E R rfl<|Tg _ rfl z9w rfl (q6U _ _ an ao aq ar au av aw aM ax dS dT ads W ay az aA aB aC aD aE aF aG aH aI aJ aK aL A3 c4 V A8 c9 i ak S E (fH.le zt) (fI.le zt) (fJ.le zt) (fK.le zt) (fL.le zt) (d9.le zt) (ea.le zt) bc (bU.le zt) (gw.le B) (dV.le B) d1 gB d5) ?_
 rintro _ ii _ bT ⟨cP, cQ, rfl, rfl, gC, d6, gD⟩
 refine K6 [_] [] V cP cQ E R rfl<|Z9 0 rfl (o' := Cl 57 [sv ay an az, sv aA ao aB, sv aC aq aD, sv aE ar aF, sv aG au aH, sv aI av aJ, sv aK aw aL, sv A3 aM c4, sv A8 d1 c9, .map (some ak)]) (by simp only [sv, d6])<|Te<|Cr<|aS rfl<|Te<|Ct ?_
 obtain ⟨rfl, rfl, rfl, rfl, rfl⟩ := q4e hm
 have fF := bc.le bT
 have fG := (dV.le (B.trans bT))
 exact rO ⟨ads, V, cP, cQ, E, rfl, rfl, fF, a8, gC, (d6.trans rfl), gD, fG⟩ (d.trans (e.trans (f.trans (m.trans (g.trans (o.trans (z.trans (T.trans (ac.trans (B.trans bT))))))))))
theorem z2d (b : k8) (R : Hp) (ah D E F G H I J A K a5 a6) (ads : Int → Nat) (L S T U V W X Y Z aa ab ac ad ae af A3 c4 f A8 c9 g B d i) (bz : FZ RT.str b.w S T D) (bA : FZ j3 b.w U V E) (bB : FZ w6 b.w W X F) (a7 : FZ j6 b.w Y Z G) (bC : FZ w7 b.w aa ab H) (bD : FZ Q3 b.w ac ad I) (bE : FZ (RT.list j8) b.w ae af J) (h5 : OS 59 (OT.fr j9) b.w (sv A3 A c4) A f) (aK : OS 127 (OT.fr v8) b.w (sv A8 K c9) K g) (an : OM rI (OT.fr (RT.key ads)) false false b.w B a5 d) (ao : OAr 85 z8 ads b.w a6 i) (aV ag aW aX) (hm : q2g ah D E F G H I J A K a5 a6 = some (aV, ag, aW, aX)):
 w8 Tryz.prog 29 [pb L, iv ah] b ((L, Cl 57 [sv S D T, sv U E V, sv W F X, sv Y G Z, sv aa H ab, sv ac I ad, sv ae J af, sv A3 A c4, sv A8 K c9, .map (some B)]) :: (f ++ (g ++ (d ++ (i ++ R))))) (fun v b' hp' => ∃ aq ar au, iv aV = v ∧ (L, Cl 57 [sv S D T, sv U E V, sv W F X, sv Y G Z, sv aa H ab, sv ac I ad, sv ae J af, sv A3 A c4, sv A8 ag c9, .map (some B)]) :: (f ++ (aq ++ (ar ++ (au ++ R)))) = hp' ∧ OS 127 (OT.fr v8) b'.w (sv A8 ag c9) ag aq ∧ ag.length = K.length ∧ OM rI (OT.fr (RT.key ads)) false false b'.w B aW ar ∧ OAr 85 z8 ads b'.w aX au) := by
 refine fE 63 Tryz.func29 rfl Tryz.ntmps29 rfl ?_
 unfold q2g at hm
 refine Cr<|aS rfl<|Te<|Cs<|Cr<|mV rfl<|mV rfl ?_
 obtain ⟨bG, aL, hm⟩ := bS hm
 refine Z4 f g d i<|Z4 i f g d<|Z4 d i f g<|Z4 g d i f<|Z7 [_] [] f g d i R rfl<|Tg _ rfl z6I rfl (q2l _ _ ah D E F G H I J A K a5 a6 ads L S T U V W X Y Z aa ab ac ad ae af A3 c4 f A8 c9 g B d i bz bA bB a7 bC bD bE h5 aK an ao bG aL) ?_
 rintro _ bH _ a ⟨rfl, rfl⟩
 refine K6 [_] [] f g d i R rfl<|tS (sn2 rfl)<|Te<|cM hm rfl (fun hm => ?_) fun hm => ?_
 refine Cr<|aS rfl<|Te<|Ct<|Xr ?_
 obtain ⟨rfl, rfl, rfl, rfl⟩ := q7j hm
 have a8 := aK.le a
 have a9 := an.le a
 have ba := ao.le a
 exact rO ⟨g, d, i, rfl, rfl, a8, rfl, a9, ba⟩ a
 refine Ck<|Xn<|Cr<|mV rfl<|tS (sN rfl)<|tS (sF rfl q0J)<|tS (sL 0 rfl q5O rfl rfl)<|mV rfl ?_
 obtain ⟨av, bI, hm⟩ := bS hm
 have bb := Kd bI
 obtain ⟨aY, O, bc⟩ := OM.lookF z8R (z0 := none) (an.le a) (key := iv ah) (k := ah) rfl q3a z3V rfl
 rw [bb] at O
 obtain rfl : aY = kv ads av := by have O : [aY] = [kv ads av] := O; injection O
 refine tS (q4T (ok := false) rfl rfl (fun w ho => bc _ w ho (.cons _ (ss f (ss g (Kb _ _)))) false))<|aS rfl<|Te<|Cs ?_
 obtain ⟨⟨bJ, bK⟩, bd, be⟩ := bS hm
 refine Cj (fun aw e' hp' => [(0, pb L), (1, iv ah), (5, kv ads bJ), (32, bv bK)] = e' ∧ (L, Cl 57 [sv S D T, sv U E V, sv W F X, sv Y G Z, sv aa H ab, sv ac I ad, sv ae J af, sv A3 A c4, sv A8 K c9, .map (some B)]) :: (f ++ (g ++ (d ++ (i ++ R)))) = hp' ∧ bH.Le aw) ?_ ?_
 have hm := bd
 refine Cg<|mV rfl<|tS (j0C rfl rfl j0M) ?_
 rcases Kg av.isNone with x | x
 rw [if_pos x] at hm
 refine Tr 17 rfl (v' := .bool true) (by rw [x] <;> rfl)<|mV rfl<|nO<|nO<|nO<|nO<|nO<|nO<|tS (pT rfl rfl)<|mV rfl<|nO<|nO<|nO<|nO<|nO<|tS (pT rfl rfl)<|Tn ?_
 obtain ⟨rfl, rfl⟩ := Z6 hm
 exact jJ ⟨rfl, rfl, lr⟩
 rw [if_neg (fun hh => Bool.noConfusion (hh.symm.trans x))] at hm
 refine Tr 17 rfl (v' := .bool false) (by rw [x] <;> rfl)<|mV rfl<|yS<|mV rfl<|yS ?_
 obtain ⟨aj, ak, hm⟩ := bS hm
 obtain ⟨cn, bL, hm⟩ := bS hm
 refine Tr 5 rfl (v' := .pointer (some ⟨(ads aj), 0, none⟩)) (by rw [ak]; rfl)<|Tr 15 rfl (v' := .pointer (some ⟨(ads aj), 0, none⟩)) (by rw [ak]; rfl)<|Tr 16 rfl (v' := .pointer (some ⟨(ads aj), 0, none⟩)) (by rw [ak]; rfl)<|Tr 19 rfl (v' := .pointer (some ⟨(ads aj), 0, none⟩)) (by rw [ak]; rfl) ?_
 obtain ⟨ca, cb, q, ai, bf, hf427⟩ := OAr.take (ao.le a) bL
 obtain ⟨co, cp, cq, cr, cs, ct, r, cu, cv, s, rfl, cw, cx, bM, cy, rfl⟩ := bf
 refine Z4 f g d i<|q1W [_] i q r s (f ++ (g ++ (d ++ R))) rfl ai<|tS (sN rfl)<|yS<|tS (sF rfl q1H)<|yS<|tS (sL 0 rfl q4w rfl rfl)<|yS ?_
 obtain ⟨bN, bO, hm⟩ := bS hm
 obtain ⟨bP, bg, bh⟩ := iS bO
 obtain ⟨cc, cd, cz, cA, ce, bi, aM, bj, aN, cf, b8⟩ := OS.get (sz := 1) rfl (by decide) bM bh
 obtain ⟨rfl, rfl⟩ := bi
 refine tS (sI bP rfl rfl bg aN bj q8S)<|yS<|tS (w9 rfl q4J (fun w ho => aM w _ ho (.cons _ (.cons _ (Kb _ _))) 0 _ rfl)) ?_
 rcases Kg bN with y | y
 rw [if_pos y] at hm
 refine Tr 24 rfl (v' := .bool true) (by rw [y] <;> rfl)<|tS (pF rfl rfl)<|mV rfl<|nO<|nO<|nO<|nO<|nO<|tS (pT rfl rfl)<|Tn<|W7 r s q<|W7 q r s<|W7 s q r<|q2A [_] i q r s (f ++ (g ++ (d ++ R))) rfl ai ?_
 obtain ⟨rfl, rfl⟩ := Z6 hm
 exact jJ ⟨rfl, rfl, lr⟩
 rw [if_neg (fun hh => Bool.noConfusion (hh.symm.trans y))] at hm
 refine Tr 24 rfl (v' := .bool false) (by rw [y] <;> rfl)<|tS (pF rfl rfl)<|mV rfl<|yS<|mV rfl<|yS<|tS (sN rfl)<|yS<|tS (sF rfl q5U)<|yS<|tS (sL 0 rfl Q5 rfl rfl)<|yS<|tS (q5 rfl rfl)<|tS (pF rfl rfl)<|Tn<|W7 r s q<|W7 q r s<|W7 s q r<|q2A [_] i q r s (f ++ (g ++ (d ++ R))) rfl ai ?_
 obtain ⟨rfl, rfl⟩ := Z6 hm
 exact jJ ⟨rfl, rfl, lr⟩
 rintro aw _ _ ⟨rfl, rfl, c⟩
 have hm := J4 be
 refine cB hm rfl (fun hm => ?_) fun hm => ?_
 refine Cr<|aS rfl<|Te<|Ct<|Xr ?_
 obtain ⟨rfl, rfl, rfl, rfl⟩ := q7j hm
 have zz := a.trans c
 have bk := aK.le zz
 have bl := an.le zz
 have bm := ao.le zz
 exact rO ⟨g, d, i, rfl, rfl, bk, rfl, bl, bm⟩ zz
 refine Ck<|Xn ?_
 obtain ⟨⟨aZ, a0⟩, bn, bo⟩ := bS hm
 refine Cj (fun al e' hp' => ∃ t p, [(0, pb L)] = e' ∧ (L, Cl 57 [sv S D T, sv U E V, sv W F X, sv Y G Z, sv aa H ab, sv ac I ad, sv ae J af, sv A3 A c4, sv A8 K c9, .map (some B)]) :: (f ++ (g ++ (t ++ (p ++ R)))) = hp' ∧ aw.Le al ∧ OM rI (OT.fr (RT.key ads)) false false al.w B aZ t ∧ OAr 85 z8 ads al.w a0 p) ?_ ?_
 have hm := bn
 refine Cs ?_
 obtain ⟨a1, bQ, hm⟩ := bS hm
 obtain ⟨e, bR, hm⟩ := bS hm
 refine z1h 5 rfl (v' := .pointer (some ⟨(ads a1), 0, none⟩)) (by rw [bQ]; rfl) ?_
 have zy := a.trans c
 obtain ⟨cg, ch, n, ax, bp, hf567⟩ := OAr.take (ao.le zy) bR
 obtain ⟨ay, az, aA, aB, aC, aD, l, aE, aF, m, rfl, bT, bU, bV, bW, rfl⟩ := bp
 refine F0 f g d i<|q8v [_] i n l m (f ++ (g ++ (d ++ R))) rfl ax ?_
 obtain ⟨cC, bX, hm⟩ := bS hm
 obtain ⟨C, bY, hm⟩ := bS hm
 obtain ⟨bZ, aO, hm⟩ := bS hm
 refine Di mixed (.refl _)<|E0 0 rfl (sM rfl)<|E0 1 rfl (sN rfl)<|E0 2 rfl (sF rfl V1)<|Es 3 rfl (sL 1 rfl q1p rfl rfl)<|E0 4 rfl (sM rfl)<|E0 5 rfl (sN rfl)<|E0 6 rfl (sF rfl q5p)<|E0 7 rfl (sF rfl q3k)<|Es 8 rfl (sL 1 rfl q8X rfl rfl)<|E0 9 rfl (sM rfl)<|E0 10 rfl (sN rfl)<|E0 11 rfl (sF rfl q2t)<|E0 12 rfl (sF rfl q7F)<|Es 13 rfl (sL 0 rfl Q5 rfl rfl) ?_
 obtain ⟨b0, bq, br⟩ := iS bX
 obtain ⟨ci, bs, aP, aG, aQ⟩ := FZ.get (sz := 2) rfl (by decide) (a7.le zy) br
 obtain ⟨_, _, rfl, rfl, rfl⟩ := bs
 refine E0 14 rfl (sI b0 rfl rfl bq aQ aG z4e)<|E0 15 rfl (sQ rfl aG q4l)<|Es 16 rfl (sO rfl Q5 (aP 0 _ rfl)) ?_
 obtain ⟨b1, bt, bu⟩ := iS bY
 obtain ⟨cj, ck, cD, cE, cl, bw, aR, aH, aT, cm, b9⟩ := OS.get (sz := 5) rfl (by decide) (h5.le zy) bu
 obtain ⟨⟨_, _, rfl, rfl, ⟨_, _, rfl, rfl, ⟨_, _, rfl, rfl, ⟨_, _, rfl, rfl, rfl⟩⟩⟩⟩, rfl⟩ := bw
 refine E0 17 rfl (sI b1 rfl rfl bt aT aH q3O)<|Es 18 rfl (Z2 (vs := [iv C.axles, bv C.disturbed, iv C.position, iv C.moving, bv C.failed]) 5 rfl q7N aH rfl (fun w ho j u hu => aR w _ ho (.cons _ (.cons _ (ss l (ss m (ss n (Kb _ _)))))) j u hu))<|Eo<|Da [19] (by kernel_rfl) rfl<|Rd2 lr rfl rfl (uW _ q7p rfl (fun w ho => W6 _ [] C bZ aO) (fun _ _ _ h => h.2.symm)) ?_ ?_
 rintro _ _ ⟨⟨_, rfl, _⟩, rfl⟩
 refine iR<|Dd (by kernel_rfl)<|Xn<|cB hm rfl (fun hm => ?_) fun hm => ?_
 refine Cg<|mV rfl<|tS (sN rfl)<|tS (sF rfl q5U)<|tD (uS 0 rfl rfl z1I rfl rfl (by simp)) ?_
 rintro _ _ rfl
 refine Tn<|W7 l m n<|W7 n l m<|W7 m n l ?_
 have b2 := hf567 _ [iv e.Route.From, iv e.Route.To, sv ay e.Route.Steps az, sv aA e.needs aB, sv aC e.seen aD, sv aE e.gone aF, bv e.laps, bv e.sight, iv 90, iv e.clock, iv e.number] (⟨e.Route, e.needs, e.seen, e.gone, e.laps, e.sight, 90, e.clock, e.number⟩ : j0) _ lr ⟨ay, az, aA, aB, aC, aD, l, aE, aF, m, rfl, bT, bU, bV, bW, rfl⟩
 refine z0q [_] n l m (f ++ (g ++ (d ++ R))) rfl ?_
 obtain ⟨rfl, rfl⟩ := Z6 hm
 exact jJ ⟨d, (n ++ (((ads a1), Cl 85 [iv e.Route.From, iv e.Route.To, sv ay e.Route.Steps az, sv aA e.needs aB, sv aC e.seen aD, sv aE e.gone aF, bv e.laps, bv e.sight, iv 90, iv e.clock, iv e.number]) :: (l ++ m))), rfl, rfl, lr, (an.le zy), b2⟩
 refine Cg<|mV rfl<|tS (sN rfl)<|tS (sF rfl q0J)<|tS (sL 1 rfl q5O rfl rfl)<|mV rfl<|j6B l m n f g d<|tD (z8f (k := ah) z8R [_, _] (l ++ (m ++ (n ++ (f ++ (g ++ R))))) rfl (an.le (a.trans c)) q3a rfl rfl rfl) ?_
 rintro _ _ ⟨z, rfl, rfl, b3⟩
 refine Tn<|q8O z l m n<|q8O n z l m<|q8O m n z l<|q2A [_] i n l m (z ++ (f ++ (g ++ R))) rfl ax ?_
 obtain ⟨rfl, rfl⟩ := Z6 hm
 exact jJ ⟨z, i, rfl, rfl, lr, b3, (ao.le (a.trans c))⟩
 exact Rn
 rintro al _ _ ⟨t, p, rfl, rfl, o, b4, a2⟩
 have hm := J4 bo
 refine Cr<|mV rfl ?_
 obtain ⟨⟨a3, b5⟩, aU, hm⟩ := bS hm
 have hm := J4 hm
 have zx := a.trans (c.trans o)
 refine Z4 f g t p<|Z4 p f g t<|Z4 t p f g<|Z4 g t p f<|Z7 [_] [] f g t p R rfl<|Tg _ rfl z9w rfl (q6U _ _ D E F G H I J A K aZ a0 ads L S T U V W X Y Z aa ab ac ad ae af A3 c4 f A8 c9 g B t p (bz.le zx) (bA.le zx) (bB.le zx) (a7.le zx) (bC.le zx) (bD.le zx) (bE.le zx) (h5.le zx) (aK.le zx) b4 a2 a3 b5 aU) ?_
 rintro _ cG _ am ⟨aI, aJ, rfl, rfl, b6, a4, b7⟩
 refine K6 [_] [] f aI aJ p R rfl<|Z9 0 rfl (o' := Cl 57 [sv S D T, sv U E V, sv W F X, sv Y G Z, sv aa H ab, sv ac I ad, sv ae J af, sv A3 A c4, sv A8 a3 c9, .map (some B)]) (by simp only [sv, a4])<|Te<|Cr<|aS rfl<|Te<|Ct ?_
 obtain ⟨rfl, rfl, rfl, rfl⟩ := q7j hm
 have bx := a2.le am
 exact rO ⟨aI, aJ, p, rfl, rfl, b6, (a4.trans rfl), b7, bx⟩ (a.trans (c.trans (o.trans am)))
theorem z4N (b : k8) (R : Hp) (g h) (ads : Int → Nat) (e a c) (i : OM rI (OT.fr (RT.key ads)) false false b.w e g a) (j : OAr 85 z8 ads b.w h c) (hm : q5x g h = some ()):
 w8 Tryz.prog 75 [.map (some e)] b ((a ++ (c ++ R))) (fun v b' hp' => ∃ d, .func (.func 112) #[] #[pb d] = v ∧ (d, Cl 55 [.map (some e)]) :: (a ++ (c ++ R)) = hp') := by
 refine fE 4 Tryz.func75 rfl Tryz.ntmps75 rfl ?_
 unfold q5x at hm
 refine Cr<|tD (uB _ rfl rfl) ?_
 rintro _ _ ⟨f, rfl, rfl⟩
 refine aS rfl<|Te<|Cr<|tS (q5l _ _ rfl rfl)<|aS rfl<|Te<|Ct ?_
 clear hm
 exact rO ⟨f, rfl, rfl⟩ lr
theorem q8z (b : k8) (R : Hp) (k f) (ads : Int → Nat) (i j d e) (l : OM rI (OT.fr (RT.key ads)) false false b.w j k d) (m : OAr 85 z8 ads b.w f e) (a) (hm : q1O k f = some a):
 w8 Tryz.prog 74 [.func (.func 112) #[] #[pb i]] b ((i, Cl 55 [.map (some j)]) :: (d ++ (e ++ R))) (fun v b' hp' => ∃ g h c, sv g a h = v ∧ (i, Cl 55 [.map (some j)]) :: (c ++ (d ++ (e ++ R))) = hp' ∧ OS 3 (OT.fr rI) b'.w (sv g a h) a c) := by
 unfold q1O at hm
 exact j0F hm l
theorem q4n (b : k8) (R : Hp) (C D E F G H I z A S T) (ads : Int → Nat) (J U V W X Y Z aa ab ac ad ae af ag ah A3 c4 d A8 c9 e B a c) (a3 : FZ RT.str b.w U V C) (a4 : FZ j3 b.w W X D) (a5 : FZ w6 b.w Y Z E) (a6 : FZ j6 b.w aa ab F) (a7 : FZ w7 b.w ac ad G) (a8 : FZ Q3 b.w ae af H) (a9 : FZ (RT.list j8) b.w ag ah I) (h5 : OS 59 (OT.fr j9) b.w (sv A3 z c4) z d) (ba : OS 127 (OT.fr v8) b.w (sv A8 A c9) A e) (aw : OM rI (OT.fr (RT.key ads)) false false b.w B S a) (aG : OAr 85 z8 ads b.w T c) (t) (hm : q0d C D E F G H I z A S T = some t):
 w8 Tryz.prog 72 [pb J] b ((J, Cl 57 [sv U C V, sv W D X, sv Y E Z, sv aa F ab, sv ac G ad, sv ae H af, sv ag I ah, sv A3 z c4, sv A8 A c9, .map (some B)]) :: (d ++ (e ++ (a ++ (c ++ R))))) (fun v b' hp' => ∃ am an K, sv am t an = v ∧ (J, Cl 57 [sv U C V, sv W D X, sv Y E Z, sv aa F ab, sv ac G ad, sv ae H af, sv ag I ah, sv A3 z c4, sv A8 A c9, .map (some B)]) :: (K ++ (d ++ (e ++ (a ++ (c ++ R))))) = hp' ∧ OS 82 (OT.fr (RT.key ads)) b'.w (sv am t an) t K) := by
 refine fE 28 Tryz.func72 rfl Tryz.ntmps72 rfl ?_
 unfold q0d at hm
 refine Cr<|aS rfl<|Te<|Cr<|aS rfl<|Te<|Cs<|Cr<|mV rfl<|tS (sN rfl)<|tS (sF rfl q0J)<|tS (sL 0 rfl q5O rfl rfl) ?_
 obtain ⟨_, ai, hm⟩ := bS hm
 refine Z4 d e a c<|Z4 c d e a<|z6e [] [_] a c (d ++ (e ++ R)) rfl<|Tg _ rfl j2e rfl (z4N _ _ S T ads B a c aw aG ai) ?_
 rintro _ aZ _ j ⟨aH, rfl, rfl⟩
 refine z7a [_] [_] a c (d ++ (e ++ R)) rfl ?_
 obtain ⟨u, aj, hm⟩ := bS hm
 refine z1G a c<|z1G c a<|z6e [_] [_] a c (d ++ (e ++ R)) rfl<|Tg _ rfl j2f rfl (q8z _ _ S T ads aH B a c (aw.le j) (aG.le j) u aj) ?_
 rintro _ aI _ x ⟨aJ, aK, f, rfl, rfl, ao⟩
 refine z2O [_] [_] f a c (d ++ (e ++ R)) rfl<|tS (sE rfl z2n)<|mV rfl<|Te<|Cb ?_
 have aT : u.length ≤ 9223372036854775807 := (OS.len ao)
 refine Cp 1 rfl<|q6I f a c<|q6I c f a<|q2B a c f d e<|q2B e a c f d<|q2B d e a c f ?_
 obtain ⟨o, ax, ay⟩ := bS hm
 refine lS (fun aq => fun o => fun y e' hp' => ∃ q s g, [(0, pb J), (3, sv q o s), (11, sv aJ u aK), (12, iv ((u.length : Int))), (13, iv ((aq : Int)))] = e' ∧ (J, Cl 57 [sv U C V, sv W D X, sv Y E Z, sv aa F ab, sv ac G ad, sv ae H af, sv ag I ah, sv A3 z c4, sv A8 A c9, .map (some B)]) :: (g ++ (f ++ (d ++ (e ++ (a ++ (c ++ R)))))) = hp' ∧ aI.Le y ∧ OS 82 (OT.fr (RT.key ads)) y.w (sv q o s) o g) ax ⟨none, 0, [], rfl, rfl, lr, OS.nil⟩ ?_ ?_
 rintro aq o y _ _ aU aL ⟨q, s, g, rfl, rfl, h, L⟩ m
 unfold q1i at m
 have hm := m
 refine Cr<|tS (lT rfl rfl (by omega))<|Te<|Cs<|k9 rfl<|Ck<|Xn<|Cs<|Cb<|Cr ?_
 obtain ⟨ar, aM, hm⟩ := bS hm
 obtain ⟨aN, az, aA⟩ := iS aM
 obtain ⟨aV, aW, a0, a1, aX, aB, ak, aC, al, aY, aR⟩ := OS.get (sz := 1) rfl (by decide) (ao.le h) aA
 obtain ⟨rfl, rfl⟩ := aB
 refine tS (sI aN rfl rfl az al aC z2n)<|tS (w9 rfl Q5 (fun w ho => ak w _ ho (.cons _ (ss g (Kb _ _))) 0 _ rfl))<|aS rfl<|Te<|Cg<|mV rfl<|mV rfl<|tS (sN rfl)<|tS (sF rfl q0J)<|tS (sL 0 rfl q5O rfl rfl)<|mV rfl ?_
 obtain ⟨n, aO, hm⟩ := bS hm
 have aD := Kd aO
 obtain ⟨au, p, aE⟩ := OM.lookF z8R (z0 := none) (aw.le (j.trans (x.trans h))) (key := iv ar) (k := ar) rfl q3a z3V rfl
 rw [aD] at p
 obtain rfl : au = kv ads n := by have p : [au] = [kv ads n] := p; injection p
 refine tS (q4T (ok := false) rfl rfl (fun w ho => aE _ w ho (.cons _ (ss g (ss f (ss d (ss e (Kb _ _)))))) false))<|tD (V7 (el := 82) [(0, kv ads n)] [kv ads n] rfl (fun _ => by cases n <;> kernel_rfl)) ?_
 rintro _ _ ⟨a2, rfl, rfl⟩
 obtain ⟨_, O, hm⟩ := bS hm
 have O := V6 O
 refine tD (uQ (r := (RT.key ads)) (l := o) [_, _] (f ++ (d ++ (e ++ (a ++ (c ++ R))))) [[kv ads n]] [n] rfl (Nat.succ_pos _) z2W j6Y rfl rfl rfl rfl L rfl (fun w ho => Rd.own (i := 0) ho rfl) ⟨rfl, trivial⟩ O) ?_
 rintro _ _ ⟨aF, rfl, av⟩
 obtain ⟨aP, aQ, rfl, _⟩ := av.form
 refine aS rfl<|Tn<|Xm<|Xn<|Cg<|tS (sa rfl rfl (by omega))<|mV rfl<|Tn ?_
 obtain rfl := o1 hm
 exact jS ⟨aP, aQ, aF, rfl, rfl, (h), av⟩
 rintro y _ _ ⟨q, s, g, rfl, rfl, h, L⟩
 have hm := ay
 refine Cr<|tS (lF rfl rfl (by omega))<|Te<|Cs<|k7 rfl<|Ce<|Xe<|Xe<|Xo<|Xn<|Cr<|mV rfl<|aS rfl<|Te<|Ct ?_
 obtain rfl := o1 hm
 exact rO ⟨q, s, g, rfl, rfl, L⟩ (j.trans (x.trans h))
theorem z1l (b : k8) (R : Hp) (cC : (Option Int)) (a4 a5 a6 a7 a8 a9 ba cD aH aI cE) (ads : Int → Nat) (aJ bc bd be bf bg bh bi bj bk bl bm bn bo bp an A6 c7 e bq br c bb d) (ef : FZ RT.str b.w bc bd a4) (eg : FZ j3 b.w be bf a5) (eh : FZ w6 b.w bg bh a6) (ei : FZ j6 b.w bi bj a7) (ej : FZ w7 b.w bk bl a8) (ek : FZ Q3 b.w bm bn a9) (el : FZ (RT.list j8) b.w bo bp ba) (h3 : OAr 85 z8 ads b.w cD an) (h8 : OS 59 (OT.fr j9) b.w (sv A6 aH c7) aH e) (em : OS 127 (OT.fr v8) b.w (sv bq aI br) aI c) (cG : OM rI (OT.fr (RT.key ads)) false false b.w bb cE d) (bs bt) (hm : q1x cC a4 a5 a6 a7 a8 a9 ba cD aH aI cE = some (bs, bt)):
 w8 Tryz.prog 73 [pb aJ, kv ads cC] b ((aJ, Cl 57 [sv bc a4 bd, sv be a5 bf, sv bg a6 bh, sv bi a7 bj, sv bk a8 bl, sv bm a9 bn, sv bo ba bp, sv A6 aH c7, sv bq aI br, .map (some bb)]) :: (an ++ (e ++ (c ++ (d ++ R))))) (fun v b' hp' => ∃ aR aT, .tuple #[] = v ∧ (aJ, Cl 57 [sv bc a4 bd, sv be a5 bf, sv bg a6 bh, sv bi a7 bj, sv bk a8 bl, sv bm a9 bn, sv bo ba bp, sv A6 aH c7, sv bq aI br, .map (some bb)]) :: (aR ++ (e ++ (c ++ (aT ++ R)))) = hp' ∧ OAr 85 z8 ads b'.w bs aR ∧ OM rI (OT.fr (RT.key ads)) false false b'.w bb bt aT) := by
 refine fE 82 Tryz.func73 rfl Tryz.ntmps73 rfl ?_
 unfold q1x at hm
 refine Cs<|Cr<|mV rfl ?_
 obtain ⟨ag, bu, hm⟩ := bS hm
 obtain ⟨ah, cc, hm⟩ := bS hm
 refine Tr 1 rfl (v' := .pointer (some ⟨(ads ag), 0, none⟩)) (by rw [bu]; rfl)<|Tr 6 rfl (v' := .pointer (some ⟨(ads ag), 0, none⟩)) (by rw [bu]; rfl) ?_
 obtain ⟨cP, cQ, U, aU, bM, hf1217⟩ := OAr.take h3 cc
 obtain ⟨bw, bx, dh, di, dj, dk, V, dl, dm, W, rfl, bz, dn, dp, dq, rfl⟩ := bM
 refine q1W [_] an U V W (e ++ (c ++ (d ++ R))) rfl aU<|tS (sN rfl)<|tS (sF rfl q2t)<|tS (sF rfl q1b)<|tS (sL 0 rfl q4M rfl rfl)<|tS (sE rfl q7O)<|mV rfl<|Te<|Cb<|q6I V W U<|q6I U V W<|q6I W U V<|z3G [_] an U V W (e ++ (c ++ (d ++ R))) rfl aU ?_
 have cR : ah.Route.Steps.length ≤ 9223372036854775807 := (FZ.bd bz)
 refine F0 an e c d<|F0 d an e c<|F0 c d an e<|F0 e c d an ?_
 obtain ⟨dr, bN, ae⟩ := bS hm
 refine lF (fun z => fun aK => fun ai e' hp' => ∃ l, [(0, pb aJ), (1, kv ads (some ag)), (10, sv bw ah.Route.Steps bx), (11, iv ((ah.Route.Steps.length : Int))), (12, iv ((z : Int)))] = e' ∧ (aJ, Cl 57 [sv bc a4 bd, sv be a5 bf, sv bg a6 bh, sv bi a7 bj, sv bk a8 bl, sv bm a9 bn, sv bo ba bp, sv A6 aH c7, sv bq aI br, .map (some bb)]) :: (l ++ (e ++ (c ++ (d ++ R)))) = hp' ∧ b.Le ai ∧ OAr 85 z8 ads ai.w aK l) bN ⟨an, rfl, rfl, lr, h3⟩ ?_ ?_
 rintro z aK ai _ _ cT cA ⟨l, rfl, rfl, n, I⟩ ad aL
 unfold q0c at ad
 have hm := ad
 refine Cr<|tS (lT rfl rfl (by omega))<|Te<|Cs<|k9 rfl<|Ck<|Xn<|Cs<|Cb<|Cr<|mV rfl ?_
 obtain ⟨aM, cd, cU, bO, cV, bP, bA, aV, bB, hm⟩ := bF (sz := 3) hm (bz.le n)
 obtain ⟨_, _, rfl, rfl, ⟨_, _, rfl, rfl, rfl⟩⟩ := bP
 refine tS (sI cd rfl rfl bO bB aV q7O)<|tS (sP (vs := [iv aM.Section, iv aM.In, iv aM.Out]) 3 rfl q4H aV rfl (fun j u hu => bA j u hu))<|tD (uA [iv 0, iv 0, iv 0] q5j rfl) ?_
 rintro _ _ ⟨ds, rfl, rfl⟩
 refine aS rfl<|tD (uN (vs := [_, _, _]) 0 3 rfl rfl rfl q6s rfl (mc rfl (mc rfl (mc rfl mn))) rfl (by simp)) ?_
 rintro _ _ rfl
 refine Te<|Cs<|Cb<|Cr<|mV rfl ?_
 obtain ⟨dt, ce, hm⟩ := bS hm
 obtain ⟨cW, cX, p, ao, bQ, hf1986⟩ := OAr.take I ce
 obtain ⟨du, dv, dw, dx, dy, dz, o, dA, dB, q, rfl, dC, dD, dE, cf, rfl⟩ := bQ
 refine q1W [_, _] l p o q (e ++ (c ++ (d ++ R))) rfl ao<|tS (sN rfl)<|tS (sF rfl q6A)<|tS (sL 0 rfl q4w rfl rfl)<|mV rfl ?_
 obtain ⟨dF, cg, hm⟩ := bS hm
 obtain ⟨ch, bR, bT⟩ := iS cg
 obtain ⟨cY, cZ, dH, dI, c0, bU, bC, bV, bD, c1, cH⟩ := OS.get (sz := 1) rfl (by decide) cf bT
 obtain ⟨rfl, rfl⟩ := bU
 refine tS (sI ch rfl rfl bR bD bV q8S)<|tS (w9 rfl q4J (fun w ho => bC w _ ho (.cons _ (.cons _ (.cons _ (ss o (Kb _ _))))) 0 _ rfl))<|aS rfl<|Te<|cB hm rfl (fun hm => ?_) fun hm => ?_
 refine Ce<|Xi rfl<|Xe<|Xo<|Xn<|Cg<|tS (sa rfl rfl (by omega))<|mV rfl<|Tn<|X0 o q p<|X0 p o q<|X0 q p o<|q2A [_, _] l p o q (e ++ (c ++ (d ++ R))) rfl ao ?_
 exact jM hm ⟨l, rfl, rfl, (n), I⟩
 refine z3F o q p<|z3F p o q<|z3F q p o<|z3G [_, _] l p o q (e ++ (c ++ (d ++ R))) rfl ao ?_
 obtain ⟨ci, bW, bX⟩ := bS hm
 refine Cj (fun bE e' hp' => [(0, pb aJ), (1, kv ads (some ag)), (4, iv ((z : Int))), (10, sv bw ah.Route.Steps bx), (11, iv ((ah.Route.Steps.length : Int))), (12, iv ((z : Int))), (25, bv ci)] = e' ∧ (aJ, Cl 57 [sv bc a4 bd, sv be a5 bf, sv bg a6 bh, sv bi a7 bj, sv bk a8 bl, sv bm a9 bn, sv bo ba bp, sv A6 aH c7, sv bq aI br, .map (some bb)]) :: (l ++ (e ++ (c ++ (d ++ R)))) = hp' ∧ ai.Le bE) ?_ ?_
 have hm := bW
 obtain ⟨cj, ck, hm⟩ := bS hm
 obtain ⟨c2, c3, f, X, bY, hf2161⟩ := OAr.take I ck
 obtain ⟨dJ, dK, dL, dM, dN, dO, g, dP, dQ, i, rfl, dR, dS, aj, dT, rfl⟩ := bY
 refine q8v [_, _] l f g i (e ++ (c ++ (d ++ R))) rfl X ?_
 obtain ⟨cl, aq, hm⟩ := bS hm
 rcases Kg cl with A | A
 rw [if_pos A] at hm
 obtain ⟨m, aN, hm⟩ := bS hm
 obtain ⟨ar, ak, hm⟩ := bS hm
 rcases Kg ar with O | O
 rw [if_pos O] at hm
 refine Di mixed (.refl _)<|E0 0 rfl (sM rfl)<|E0 1 rfl (sN rfl)<|E0 2 rfl (sF rfl q1H)<|Es 3 rfl (sL 0 rfl q4w rfl rfl)<|E0 4 rfl (sM rfl) ?_
 obtain ⟨T, B, C⟩ := iS aq
 obtain ⟨au, av, aO, aP, aw, D, s, E, t, ax, al⟩ := OS.get (sz := 1) rfl (by decide) aj C
 obtain ⟨rfl, rfl⟩ := D
 refine E0 5 rfl (sI T rfl rfl B t E q8S)<|Es 6 rfl (stB (w9 rfl q4J (fun w ho => s w _ ho (.cons _ (.cons _ (.cons _ (Kb _ _)))) 0 _ rfl)) A)<|E0 7 rfl (K7 rfl)<|E0 8 rfl (sM rfl)<|Yz 9 34 rfl (sM rfl)<|Yz 10 34 rfl (sN rfl)<|Yz 11 34 rfl (sF rfl V1)<|Ey 12 34 rfl (sL 2 rfl q1p rfl rfl)<|Yz 13 34 rfl (sF rfl V8)<|Ey 14 34 rfl (sL 1 rfl Q5 rfl rfl) ?_
 obtain ⟨am, Y, Z⟩ := iS aN
 obtain ⟨aW, aX, bG, bH, aY, aa, J, x, K, aZ, aG⟩ := OS.get (sz := 5) rfl (by decide) (h8.le n) Z
 obtain ⟨⟨_, _, rfl, rfl, ⟨_, _, rfl, rfl, ⟨_, _, rfl, rfl, ⟨_, _, rfl, rfl, rfl⟩⟩⟩⟩, rfl⟩ := aa
 refine Yz 15 34 rfl (sI am rfl rfl Y K x q3O)<|Ey 16 34 rfl (Z2 (vs := [iv m.axles, bv m.disturbed, iv m.position, iv m.moving, bv m.failed]) 5 rfl q7N x rfl (fun w ho j u hu => J w _ ho (.cons _ (.cons _ (.cons _ (ss g (ss i (ss f (Kb _ _))))))) j u hu))<|Eo<|Da [17] (by kernel_rfl) rfl<|q3X lr rfl rfl 34 rfl rfl rfl (uW _ q7p rfl (fun w ho => W6 _ [] m ar ak) (fun _ _ _ h => h.2.symm)) ?_ ?_
 rintro _ _ ⟨⟨_, rfl, _⟩, rfl⟩
 refine iR<|q4c 43 rfl (v' := .bool true) (by rw [O])<|Ei lr (.refl _)<|E0 18 rfl (pF rfl rfl)<|E0 19 rfl (sM rfl)<|eN 20 rfl<|eN 21 rfl<|eN 22 rfl<|eN 23 rfl<|eN 24 rfl<|eN 25 rfl<|eN 26 rfl<|eN 27 rfl<|eN 28 rfl<|eN 29 rfl<|eN 30 rfl<|eN 31 rfl<|eN 32 rfl<|eN 33 rfl<|eN 34 rfl<|eN 35 rfl<|eN 36 rfl<|eN 37 rfl<|eN 38 rfl<|eN 39 rfl<|E0 40 rfl (pT rfl rfl)<|E0 41 rfl (sA rfl)<|Eo<|Dd (by kernel_rfl)<|X0 g i f ?_
 refine X0 f g i<|X0 i f g<|q2A [_, _] l f g i (e ++ (c ++ (d ++ R))) rfl X ?_
 obtain rfl := o1 hm
 exact jJ ⟨rfl, rfl, lr⟩
 exact Rn
 rw [if_neg (fun hh => Bool.noConfusion (hh.symm.trans O))] at hm
 obtain ⟨_, ac, hm⟩ := bS hm
 by_cases af : ((z : Int) + 1) < (cj.Route.Steps.length : Int)
 rw [if_pos af] at hm
 obtain ⟨_, aQ, hm⟩ := bS hm
 obtain ⟨dU, cm, hm⟩ := bS hm
 refine Di mixed (.refl _)<|E0 0 rfl (sM rfl)<|E0 1 rfl (sN rfl)<|E0 2 rfl (sF rfl q1H)<|Es 3 rfl (sL 0 rfl q4w rfl rfl)<|E0 4 rfl (sM rfl) ?_
 obtain ⟨T, B, C⟩ := iS aq
 obtain ⟨au, av, aO, aP, aw, D, s, E, t, ax, al⟩ := OS.get (sz := 1) rfl (by decide) aj C
 obtain ⟨rfl, rfl⟩ := D
 refine E0 5 rfl (sI T rfl rfl B t E q8S)<|Es 6 rfl (stB (w9 rfl q4J (fun w ho => s w _ ho (.cons _ (.cons _ (.cons _ (Kb _ _)))) 0 _ rfl)) A)<|E0 7 rfl (K7 rfl)<|E0 8 rfl (sM rfl)<|Yz 9 34 rfl (sM rfl)<|Yz 10 34 rfl (sN rfl)<|Yz 11 34 rfl (sF rfl V1)<|Ey 12 34 rfl (sL 2 rfl q1p rfl rfl)<|Yz 13 34 rfl (sF rfl V8)<|Ey 14 34 rfl (sL 1 rfl Q5 rfl rfl) ?_
 obtain ⟨am, Y, Z⟩ := iS aN
 obtain ⟨aW, aX, bG, bH, aY, aa, J, x, K, aZ, aG⟩ := OS.get (sz := 5) rfl (by decide) (h8.le n) Z
 obtain ⟨⟨_, _, rfl, rfl, ⟨_, _, rfl, rfl, ⟨_, _, rfl, rfl, ⟨_, _, rfl, rfl, rfl⟩⟩⟩⟩, rfl⟩ := aa
 refine Yz 15 34 rfl (sI am rfl rfl Y K x q3O)<|Ey 16 34 rfl (Z2 (vs := [iv m.axles, bv m.disturbed, iv m.position, iv m.moving, bv m.failed]) 5 rfl q7N x rfl (fun w ho j u hu => J w _ ho (.cons _ (.cons _ (.cons _ (ss g (ss i (ss f (Kb _ _))))))) j u hu))<|Eo<|Da [17] (by kernel_rfl) rfl<|q3X lr rfl rfl 34 rfl rfl rfl (uW _ q7p rfl (fun w ho => W6 _ [] m ar ak) (fun _ _ _ h => h.2.symm)) ?_ ?_
 rintro _ _ ⟨⟨_, rfl, _⟩, rfl⟩
 refine iR<|q4c 43 rfl (v' := .bool false) (by rw [O])<|Ei lr (.refl _)<|E0 18 rfl (pF rfl rfl)<|E0 19 rfl (sM rfl)<|Yz 20 45 rfl (sM rfl) ?_
 have ac := (kS ac).2
 refine Yz 21 45 rfl (sa rfl rfl ac)<|Yz 22 45 rfl (sM rfl)<|Yz 23 45 rfl (sN rfl)<|Yz 24 45 rfl (sF rfl q2t)<|Yz 25 45 rfl (sF rfl q1b)<|Ey 26 45 rfl (sL 0 rfl q4M rfl rfl)<|Yz 27 45 rfl (sE rfl q7O)<|Yz 28 45 rfl (lT rfl rfl af)<|Yz 29 45 rfl (sM rfl)<|Yz 30 55 rfl (sM rfl)<|Yz 31 55 rfl (sN rfl)<|Yz 32 55 rfl (sF rfl q1H)<|Ey 33 55 rfl (sL 0 rfl q4w rfl rfl)<|Yz 34 55 rfl (sM rfl) ?_
 have aQ := (kS aQ).2
 refine Yz 35 55 rfl (sa rfl rfl aQ) ?_
 obtain ⟨cn, bZ, b0⟩ := iS cm
 obtain ⟨c4, c5, dV, dW, c6, b1, bI, b2, bJ, c8, cJ⟩ := OS.get (sz := 1) rfl (by decide) aj b0
 obtain ⟨rfl, rfl⟩ := b1
 refine Yz 36 55 rfl (sI cn rfl rfl bZ bJ b2 q8S)<|Ey 37 55 rfl (w9 rfl q4J (fun w ho => bI w _ ho (.cons _ (.cons _ (.cons _ (Kb _ _)))) 0 _ rfl))<|Yz 38 55 rfl (sn2 rfl)<|Yz 39 45 rfl (pT rfl rfl)<|E0 40 rfl (pF rfl rfl)<|E0 41 rfl (sA rfl)<|Eo<|Dd (by kernel_rfl)<|X0 g i f<|X0 f g i<|X0 i f g<|q2A [_, _] l f g i (e ++ (c ++ (d ++ R))) rfl X ?_
 obtain rfl := o1 hm
 exact jJ ⟨rfl, rfl, lr⟩
 exact Rn
 rw [if_neg af] at hm
 refine Di mixed (.refl _)<|E0 0 rfl (sM rfl)<|E0 1 rfl (sN rfl)<|E0 2 rfl (sF rfl q1H)<|Es 3 rfl (sL 0 rfl q4w rfl rfl)<|E0 4 rfl (sM rfl) ?_
 obtain ⟨T, B, C⟩ := iS aq
 obtain ⟨au, av, aO, aP, aw, D, s, E, t, ax, al⟩ := OS.get (sz := 1) rfl (by decide) aj C
 obtain ⟨rfl, rfl⟩ := D
 refine E0 5 rfl (sI T rfl rfl B t E q8S)<|Es 6 rfl (stB (w9 rfl q4J (fun w ho => s w _ ho (.cons _ (.cons _ (.cons _ (Kb _ _)))) 0 _ rfl)) A)<|E0 7 rfl (K7 rfl)<|E0 8 rfl (sM rfl)<|Yz 9 34 rfl (sM rfl)<|Yz 10 34 rfl (sN rfl)<|Yz 11 34 rfl (sF rfl V1)<|Ey 12 34 rfl (sL 2 rfl q1p rfl rfl)<|Yz 13 34 rfl (sF rfl V8)<|Ey 14 34 rfl (sL 1 rfl Q5 rfl rfl) ?_
 obtain ⟨am, Y, Z⟩ := iS aN
 obtain ⟨aW, aX, bG, bH, aY, aa, J, x, K, aZ, aG⟩ := OS.get (sz := 5) rfl (by decide) (h8.le n) Z
 obtain ⟨⟨_, _, rfl, rfl, ⟨_, _, rfl, rfl, ⟨_, _, rfl, rfl, ⟨_, _, rfl, rfl, rfl⟩⟩⟩⟩, rfl⟩ := aa
 refine Yz 15 34 rfl (sI am rfl rfl Y K x q3O)<|Ey 16 34 rfl (Z2 (vs := [iv m.axles, bv m.disturbed, iv m.position, iv m.moving, bv m.failed]) 5 rfl q7N x rfl (fun w ho j u hu => J w _ ho (.cons _ (.cons _ (.cons _ (ss g (ss i (ss f (Kb _ _))))))) j u hu))<|Eo<|Da [17] (by kernel_rfl) rfl<|q3X lr rfl rfl 34 rfl rfl rfl (uW _ q7p rfl (fun w ho => W6 _ [] m ar ak) (fun _ _ _ h => h.2.symm)) ?_ ?_
 rintro _ _ ⟨⟨_, rfl, _⟩, rfl⟩
 refine iR<|q4c 43 rfl (v' := .bool false) (by rw [O])<|Ei lr (.refl _)<|E0 18 rfl (pF rfl rfl)<|E0 19 rfl (sM rfl)<|Yz 20 45 rfl (sM rfl) ?_
 have ac := (kS ac).2
 refine Yz 21 45 rfl (sa rfl rfl ac)<|Yz 22 45 rfl (sM rfl)<|Yz 23 45 rfl (sN rfl)<|Yz 24 45 rfl (sF rfl q2t)<|Yz 25 45 rfl (sF rfl q1b)<|Ey 26 45 rfl (sL 0 rfl q4M rfl rfl)<|Yz 27 45 rfl (sE rfl q7O)<|Yz 28 45 rfl (lF rfl rfl af)<|Yz 29 45 rfl (sM rfl)<|eN 30 rfl<|eN 31 rfl<|eN 32 rfl<|eN 33 rfl<|eN 34 rfl<|eN 35 rfl<|eN 36 rfl<|eN 37 rfl<|eN 38 rfl<|Yz 39 45 rfl (pF rfl rfl)<|E0 40 rfl (pF rfl rfl) ?_
 refine E0 41 rfl (sA rfl)<|Eo<|Dd (by kernel_rfl)<|X0 g i f<|X0 f g i<|X0 i f g<|q2A [_, _] l f g i (e ++ (c ++ (d ++ R))) rfl X ?_
 obtain rfl := o1 hm
 exact jJ ⟨rfl, rfl, lr⟩
 exact Rn
 rw [if_neg (fun hh => Bool.noConfusion (hh.symm.trans A))] at hm
 refine Di mixed (.refl _)<|E0 0 rfl (sM rfl)<|E0 1 rfl (sN rfl)<|E0 2 rfl (sF rfl q1H)<|Es 3 rfl (sL 0 rfl q4w rfl rfl)<|E0 4 rfl (sM rfl) ?_
 obtain ⟨T, B, C⟩ := iS aq
 obtain ⟨au, av, aO, aP, aw, D, s, E, t, ax, al⟩ := OS.get (sz := 1) rfl (by decide) aj C
 obtain ⟨rfl, rfl⟩ := D
 refine E0 5 rfl (sI T rfl rfl B t E q8S)<|Es 6 rfl (stB (w9 rfl q4J (fun w ho => s w _ ho (.cons _ (.cons _ (.cons _ (Kb _ _)))) 0 _ rfl)) A)<|E0 7 rfl (P7 rfl)<|E0 8 rfl (sM rfl)<|eN 9 rfl<|eN 10 rfl<|eN 11 rfl<|eN 12 rfl<|eN 13 rfl<|eN 14 rfl<|eN 15 rfl<|eN 16 rfl<|eN 17 rfl<|E0 18 rfl (pT rfl rfl)<|E0 19 rfl (sM rfl)<|eN 20 rfl<|eN 21 rfl<|eN 22 rfl<|eN 23 rfl<|eN 24 rfl ?_
 refine eN 25 rfl<|eN 26 rfl<|eN 27 rfl<|eN 28 rfl<|eN 29 rfl<|eN 30 rfl<|eN 31 rfl<|eN 32 rfl<|eN 33 rfl<|eN 34 rfl<|eN 35 rfl<|eN 36 rfl<|eN 37 rfl<|eN 38 rfl<|eN 39 rfl<|E0 40 rfl (pT rfl rfl)<|E0 41 rfl (sA rfl)<|Eo<|Dd (by kernel_rfl)<|X0 g i f<|X0 f g i<|X0 i f g<|q2A [_, _] l f g i (e ++ (c ++ (d ++ R))) rfl X ?_
 obtain rfl := o1 hm
 exact jJ ⟨rfl, rfl, lr⟩
 rintro bE _ _ ⟨rfl, rfl, L⟩
 have hm := bX
 refine cB hm rfl (fun hm => ?_) fun hm => ?_
 refine Ct<|Xb<|Xr<|Xb<|Xr<|Xr<|Xb<|Xr ?_
 have b3 := aL _ (Kd hm).symm
 rw [b3] at ae
 have hm := J9 ae
 obtain ⟨rfl, rfl⟩ := Z6 hm
 have b4 := I.le L
 have b5 := (cG.le (n.trans L))
 exact rZ ⟨l, d, rfl, rfl, b4, b5⟩ (n.trans L)
 refine Ck<|Xm<|Xn<|Cg<|mV rfl ?_
 obtain ⟨a, co, hm⟩ := bS hm
 obtain ⟨c9, da, y, b6, b7, hf2297⟩ := OAr.take (I.le L) co
 obtain ⟨ay, az, aA, aB, aC, aD, r, aE, aF, a0, rfl, cp, cq, cr, bK, rfl⟩ := b7
 refine q1W [_] l y r a0 (e ++ (c ++ (d ++ R))) rfl b6<|tS (sN rfl)<|tS (sF rfl q6A)<|tS (sL 0 rfl q4w rfl rfl)<|mV rfl ?_
 obtain ⟨dX, ct, hm⟩ := bS hm
 obtain ⟨cu, a1, a2⟩ := iS ct
 obtain ⟨db, dc, dY, dZ, dd, b8, cK, b9, bL, de, cO⟩ := OS.get (sz := 1) rfl (by decide) bK a2
 obtain ⟨rfl, rfl⟩ := b8
 refine tS (sI cu rfl rfl a1 bL b9 q8S)<|z1G r a0<|tD (uP a1 (sz := 1) (a' := true) rfl [_, _] (r ++ (y ++ (e ++ (c ++ (d ++ R))))) 0 1 [bv true] rfl bK a2 rfl rfl rfl z2o rfl (mc rfl mn) (fun cs hsj hh => by obtain ⟨rfl, rfl⟩ := hh; exact ⟨by first | decide | exact Nat.le_refl _, rfl, rfl⟩)) ?_
 rintro _ _ ⟨S, rfl, cv⟩
 refine Z9 0 rfl (o' := Cl 85 [iv a.Route.From, iv a.Route.To, sv ay a.Route.Steps az, sv aA a.needs aB, sv aC a.seen aD, .slice aE (put a.gone (z : Int) true).length aF, bv a.laps, bv a.sight, iv a.leave, iv a.clock, iv a.number]) (by simp only [sv, v7])<|Tn<|Xm<|Xn<|Cg<|tS (sa rfl rfl (by omega))<|mV rfl<|Tn<|W7 S r y<|j4j y S<|W7 S y r ?_
 have cw := hf2297 _ [iv a.Route.From, iv a.Route.To, sv ay a.Route.Steps az, sv aA a.needs aB, sv aC a.seen aD, .slice aE (put a.gone (z : Int) true).length aF, bv a.laps, bv a.sight, iv a.leave, iv a.clock, iv a.number] (⟨a.Route, a.needs, a.seen, put a.gone (z : Int) true, a.laps, a.sight, a.leave, a.clock, a.number⟩ : j0) _ lr ⟨ay, az, aA, aB, aC, aD, r, aE, aF, S, rfl, cp, cq, cr, cv, rfl⟩
 refine z0q [_] y r S (e ++ (c ++ (d ++ R))) rfl ?_
 exact jM hm ⟨(y ++ (((ads ag), Cl 85 [iv a.Route.From, iv a.Route.To, sv ay a.Route.Steps az, sv aA a.needs aB, sv aC a.seen aD, .slice aE (put a.gone (z : Int) true).length aF, bv a.laps, bv a.sight, iv a.leave, iv a.clock, iv a.number]) :: (r ++ S))), rfl, rfl, ((n.trans L)), cw⟩
 rintro aK ai _ _ ⟨l, rfl, rfl, n, I⟩ ca
 rw [ca] at ae
 have hm := H4 ae
 refine Cr<|tS (lF rfl rfl (by omega))<|Te<|Cs<|k7 rfl<|Ce<|Xe<|Xe<|Xo<|Xn ?_
 obtain ⟨cx, cy, hm⟩ := bS hm
 obtain ⟨df, dg, F, a3, cb, hf2339⟩ := OAr.take I cy
 obtain ⟨d0, d1, d5, d6, d7, d8, G, d9, ea, H, rfl, eb, ec, ed, ee, rfl⟩ := cb
 refine q8v [_] l F G H (e ++ (c ++ (d ++ R))) rfl a3<|Di mixed (.refl _)<|E0 0 rfl (sM rfl)<|E0 1 rfl (sN rfl)<|E0 2 rfl (sF rfl q0J)<|Es 3 rfl (sL 1 rfl q5O rfl rfl)<|E0 4 rfl (sM rfl)<|E0 5 rfl (sN rfl)<|E0 6 rfl (sF rfl z5F)<|Es 7 rfl (sL 0 rfl Q5 rfl rfl)<|Eo<|z1P G H F e c d<|Da [8] (by kernel_rfl) rfl<|Rd2 lr rfl rfl (z8f (k := cx.number) z8R [_, _] (G ++ (H ++ (F ++ (e ++ (c ++ R))))) rfl (cG.le n) q3a rfl rfl rfl) ?_ ?_
 rintro _ _ ⟨ab, rfl, rfl, cz⟩
 refine ⟨.inl (by kernel_rfl), ?_⟩
 refine Dd (by kernel_rfl)<|q8O ab G H F<|q8O F ab G H<|q8O H F ab G<|q2A [_] l F G H (ab ++ (e ++ (c ++ R))) rfl a3 ?_
 obtain ⟨rfl, rfl⟩ := Z6 hm
 exact eZ ⟨l, ab, rfl, rfl, I, cz⟩ n
 exact Rn
end Go.Proofs.YtdbehipjelcmbaaGreatDoor
