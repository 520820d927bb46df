/- Contracts: the code computes its model (part 1). -/
import Derived.Test.YtglmhaihgpnogaaGreatDoorZT
import Derived.Test.YtglmhaihgpnogaaGreatDoorAW
import Derived.Test.YtglmhaihgpnogaaGreatDoorCT
import Derived.Test.YtglmhaihgpnogaaGreatDoorXQ
set_option linter.unusedVariables false
set_option linter.unusedSimpArgs false
namespace Go.Proofs.YtglmhaihgpnogaaGreatDoor
open Go.RowKit Go.Fp

open Go.Fp renaming t_mv → M, t_as → As, t_st → Ts, t_do → Do, t_ne → Te, t_nil → Tn, t_no → No, t_yes → Ys, t_bool → Tb, t_callG → Tg, t_callvG → Tv, t_resp → Tr, c_sr → Cr, c_seq → Cs, c_region → Cg, c_cond → Cc, c_block → Cb, c_ret → Ct, c_skip → Ck, c_exit → Ce, c_join → Cj, c_pullb → Cp, x_then_normal → Xn, x_then_ret → Xr, x_then_exit → Xe, x_block_ret → Xb, x_block_normal → Xm, x_block_out → Xo, x_block_on → Xi, x_pullb → Xp, E_st → Es, E_s0 → E0, E_yes → Ey, E_y0 → Yz, E_no → En, E_in → Ei, E_il → El, E_out → Eo, D_all → Da, D_done → Dd, D_drawI → Di, R_do → Rd2, R_nil → Rn, st_load → sL, st_loadD → sD, st_field → sF, st_len → sE, st_move → sM, st_assign → sA, st_pick_t → pT, st_pick_f → pF, st_index_old → sI, st_load_old → sO, st_loadN_old → sP, st_field_old → sQ, st_add → sa, st_sub → sb, st_lss_t → lT, st_lss_f → lF, st_not → sn2, st_build → sB, u_box → uB, u_alloc → uA, u_store → uS, u_storeN → uN, u_callW0 → uW, u_appOS → uQ, fn_enterG → fE, bindS → bS, some1 → o1, idx_some → iS, sub_skip → ss, chk_some → kS, notT → nt, notF → nf, mem_c → mc, mem_n → mn, st_eql → q1, st_neq → q2, st_lss → q3, st_leq → q4, st_gtr → q5, st_geq → q6
set_option maxRecDepth 20000 in
theorem cFishkeep2AwakeFare (b : Base) (R : Hp) (hm : mFishkeep2AwakeFare = some ()) :
    CallsG Tryz.prog 4 [] b (R) (fun v b' hp' => bv true = v ∧ R = hp') := by
 unfold mFishkeep2AwakeFare at hm
 clear hm
 exact awake_of

set_option maxRecDepth 20000 in
theorem cFareWithin (b : Base) (R : Hp) (c : Int) (d : Int) (e : Int) (f : Bool) (hm : mFareWithin c d e = some f) :
    CallsG Tryz.prog 12 [iv c, iv d, iv e] b (R) (fun v b' hp' => bv f = v ∧ R = hp') := by
 refine fE 15 Tryz.func12 rfl Tryz.ntmps12 rfl ?_
 unfold mFareWithin at hm
 refine Cr<|As rfl rfl<|Te ?_
 obtain ⟨g, i, j⟩ := bS hm
 refine Cj (fun h e' hp' => [(6, bv g)] = e' ∧ R = hp' ∧ b.Le h) ?_ ?_
 have hm := i
 refine Cg<|M rfl rfl<|M rfl rfl ?_
 refine Tb rfl (q6 rfl rfl) (fun a => ?_) (fun a => ?_)
 rw [if_pos a] at hm
 refine M rfl rfl<|Ys 10 rfl rfl rfl<|M rfl rfl<|Ys 10 rfl rfl rfl<|M rfl rfl<|Ys 10 rfl rfl rfl<|Ts rfl (q4 rfl rfl)<|Ts rfl (pT rfl rfl)<|As rfl rfl<|Tn ?_
 obtain rfl := o1 hm
 exact xJ ⟨rfl, rfl, lr⟩ (.refl _)
 rw [if_neg a] at hm
 refine M rfl rfl<|No 10 rfl rfl rfl rfl rfl<|No 10 rfl rfl rfl rfl rfl<|No 10 rfl rfl rfl rfl rfl<|Ts rfl (pF rfl rfl)<|As rfl rfl<|Tn ?_
 obtain rfl := o1 hm
 exact xJ ⟨rfl, rfl, lr⟩ (.refl _)
 rintro h _ _ ⟨rfl, rfl, k⟩
 have hm := j
 refine Ct ?_
 obtain rfl := o1 hm
 exact rM (rs := [.tmp 6]) (vs := [bv g]) ⟨rfl, trivial⟩ ⟨rfl, rfl⟩ (.refl _) k

set_option maxRecDepth 20000 in
theorem cFarePrime (b : Base) (R : Hp) (a : Int) (i : Bool) (hm : mFarePrime a = some i) :
    CallsG Tryz.prog 13 [iv a] b (R) (fun v b' hp' => bv i = v ∧ R = hp') := by
 refine fE 17 Tryz.func13 rfl Tryz.ntmps13 rfl ?_
 unfold mFarePrime at hm
 refine Cr<|As rfl rfl<|Te ?_
 obtain ⟨o, p, c⟩ := bS hm
 refine Cj (fun j e' hp' => [(0, iv a)] = e' ∧ R = hp' ∧ b.Le j ∧ o = .inl ()) ?_ ?_
 have hm := p
 refine Cr<|As rfl rfl<|Te<|Cb<|cL (fun k => fun l e' hp' => [(0, iv a), (3, iv k)] = e' ∧ R = hp' ∧ b.Le l) hm ⟨rfl, rfl, lr⟩ (.refl _) ?_
 rintro k l _ _ u ⟨rfl, rfl, d⟩ m n
 unfold mFarePrime_L74 at m
 have hm := m
 refine Cs<|Cr<|M rfl rfl<|M rfl rfl ?_
 obtain ⟨_, e, hm⟩ := bS hm
 have e := (kS e).2
 refine Ts rfl (st_mul rfl rfl e)<|M rfl rfl<|Ts rfl (q4 rfl rfl)<|Te ?_
 refine Cc _ rfl (fun f => ?_) (fun f => ?_)
 rw [if_pos (of_decide_eq_true f)] at hm
 refine Ck<|Xn<|Cs<|Cb<|Cr<|M rfl rfl<|M rfl rfl ?_
 obtain ⟨_, q, hm⟩ := bS hm
 refine Ts rfl (st_rem rfl rfl (ne0_some q))<|Ts rfl (q1 rfl rfl)<|Te ?_
 refine Cc _ rfl (fun g => ?_) (fun g => ?_)
 rw [if_pos (of_decide_eq_true g)] at hm
 refine Cr<|As rfl rfl<|Te<|Ct<|Xb<|Xr<|Xr<|Xb<|Xr ?_
 have hm := congrArg some (n _ (Option.some.inj hm).symm)
 have r := (Option.some.inj hm).symm
 rw [r] at c
 have hm := elimR c
 obtain rfl := o1 hm
 exact rM (rs := [.tmp 2]) (vs := [bv false]) ⟨rfl, trivial⟩ ⟨rfl, rfl⟩ (.refl _) d
 rw [if_neg (of_decide_eq_false g)] at hm
 refine Ck<|Xm<|Xn<|Cg<|M rfl rfl ?_
 obtain ⟨_, h, hm⟩ := bS hm
 have h := (kS h).2
 refine Ts rfl (sa rfl rfl h)<|As rfl rfl<|Tn ?_
 exact xM hm ⟨rfl, rfl, (d)⟩ (.refl _)
 rw [if_neg (of_decide_eq_false f)] at hm
 refine Ce<|Xe<|Xe<|Xo ?_
 have hm := congrArg some (n _ (Option.some.inj hm).symm)
 have hq := (Option.some.inj hm).symm
 exact xJ ⟨rfl, rfl, d, hq⟩ (.refl _)
 rintro j _ _ ⟨rfl, rfl, s, t⟩
 rw [t] at c
 have hm := elimL c
 refine Cr<|M rfl rfl<|Ts rfl (q5 rfl rfl)<|As rfl rfl<|Te<|Ct ?_
 obtain rfl := o1 hm
 exact rM (rs := [.tmp 2]) (vs := [.bool (decide (1 < a))]) ⟨rfl, trivial⟩ ⟨rfl, rfl⟩ (.refl _) s

set_option maxRecDepth 20000 in
theorem cFareInverse (b : Base) (R : Hp) (k : Int) (a : Int) (l : Int) (m : Bool) (hm : mFareInverse k a = some (l, m)) :
    CallsG Tryz.prog 14 [iv k, iv a] b (R) (fun v b' hp' => .tuple #[iv l, bv m] = v ∧ R = hp') := by
 refine fE 41 Tryz.func14 rfl Tryz.ntmps14 rfl ?_
 unfold mFareInverse at hm
 refine Cr<|As rfl rfl<|As rfl rfl<|Te<|Cr<|M rfl rfl<|M rfl rfl ?_
 obtain ⟨_, y, hm⟩ := bS hm
 refine Ts rfl (st_rem rfl rfl (ne0_some y))<|M rfl rfl<|As rfl rfl<|As rfl rfl<|As rfl rfl<|As rfl rfl<|Te ?_
 obtain ⟨⟨z, n⟩, A, B⟩ := bS hm
 refine Cj (fun o e' hp' => [(1, iv a), (6, iv z), (8, iv n)] = e' ∧ R = hp' ∧ b.Le o) ?_ ?_
 have hm := A
 refine Cb<|cL (unc4 fun p q r s => fun t e' hp' => [(1, iv a), (6, iv p), (7, iv q), (8, iv r), (9, iv s)] = e' ∧ R = hp' ∧ b.Le t) hm ⟨rfl, rfl, lr⟩ (.refl _) ?_
 rintro ⟨p, q, r, s⟩ t _ _ G ⟨rfl, rfl, u⟩ w C
 unfold mFareInverse_L117 at w
 have hm := (unc4E w)
 refine Cs<|Cr<|M rfl rfl<|Ts rfl (q5 rfl rfl)<|Te ?_
 refine Cc _ rfl (fun c => ?_) (fun c => ?_)
 rw [if_pos (of_decide_eq_true c)] at hm
 refine Ck<|Xn<|Cb<|Cr<|M rfl rfl<|M rfl rfl ?_
 obtain ⟨_, D, hm⟩ := bS hm
 obtain ⟨_, d, hm⟩ := bS hm
 have d := (kS d).2
 refine Ts rfl (st_quo rfl rfl (ne0_some D) d)<|As rfl rfl<|Te<|Cr<|M rfl rfl<|M rfl rfl<|M rfl rfl<|M rfl rfl ?_
 obtain ⟨_, e, hm⟩ := bS hm
 have e := (kS e).2
 refine Ts rfl (st_mul rfl rfl e) ?_
 obtain ⟨_, f, hm⟩ := bS hm
 have f := (kS f).2
 refine Ts rfl (sb rfl rfl f)<|As rfl rfl<|As rfl rfl<|Te<|Cg<|M rfl rfl<|M rfl rfl<|M rfl rfl<|M rfl rfl ?_
 obtain ⟨_, g, hm⟩ := bS hm
 have g := (kS g).2
 refine Ts rfl (st_mul rfl rfl g) ?_
 obtain ⟨_, h, hm⟩ := bS hm
 have h := (kS h).2
 refine Ts rfl (sb rfl rfl h)<|As rfl rfl<|As rfl rfl<|Tn<|Xm ?_
 exact xM hm ⟨rfl, rfl, (u)⟩ (.refl _)
 rw [if_neg (of_decide_eq_false c)] at hm
 refine Ce<|Xe<|Xe<|Xo ?_
 have hm := congrArg some (C _ (Option.some.inj hm).symm)
 obtain ⟨rfl, rfl⟩ := some2 hm
 exact xJ ⟨rfl, rfl, u⟩ (.refl _)
 rintro o _ _ ⟨rfl, rfl, x⟩
 have hm := (unc2E B)
 refine Cs<|Cr<|M rfl rfl<|Ts rfl (q2 rfl rfl)<|Te ?_
 refine Cc _ rfl (fun i => ?_) (fun i => ?_)
 rw [if_pos (of_decide_eq_true i)] at hm
 refine Cr<|As rfl rfl<|As rfl rfl<|Te<|Ct<|Xr ?_
 obtain ⟨rfl, rfl⟩ := some2 hm
 exact rM (rs := [.tmp 4, .tmp 5]) (vs := [iv 0, bv false]) ⟨rfl, ⟨rfl, trivial⟩⟩ ⟨rfl, rfl⟩ (.refl _) x
 rw [if_neg (of_decide_eq_false i)] at hm
 refine Ck<|Xn<|Cr<|M rfl rfl<|M rfl rfl ?_
 obtain ⟨_, E, hm⟩ := bS hm
 refine Ts rfl (st_rem rfl rfl (ne0_some E))<|M rfl rfl ?_
 obtain ⟨_, j, hm⟩ := bS hm
 have j := (kS j).2
 refine Ts rfl (sa rfl rfl j)<|M rfl rfl ?_
 obtain ⟨_, F, hm⟩ := bS hm
 refine Ts rfl (st_rem rfl rfl (ne0_some F))<|As rfl rfl<|As rfl rfl<|Te<|Ct ?_
 obtain ⟨rfl, rfl⟩ := some2 hm
 exact rM (rs := [.tmp 4, .tmp 5]) (vs := [iv (Int.tmod ((Int.tmod n a) + a) a), bv true]) ⟨rfl, ⟨rfl, trivial⟩⟩ ⟨rfl, rfl⟩ (.refl _) x

set_option maxRecDepth 20000 in
theorem cFareMakeKey (b : Base) (R : Hp) (a : Int) (c : Int) (d : Int) (x : Int) (y : Int) (z : Int) (A : Int) (hm : mFareMakeKey a c d = some (x, y, z, A)) :
    CallsG Tryz.prog 5 [iv a, iv c, iv d] b (R) (fun v b' hp' => .tuple #[.agg #[iv x, iv y, iv z], iv A] = v ∧ R = hp') := by
 refine fE 59 Tryz.func5 rfl Tryz.ntmps5 rfl ?_
 unfold mFareMakeKey at hm
 refine Cr<|Do rfl (uA [iv 0, iv 0, iv 0] zero27 rfl) ?_
 rintro _ _ ⟨j, rfl, rfl⟩
 refine As rfl rfl<|Te<|Cs<|Cb ?_
 obtain ⟨G, H, I⟩ := bS hm
 refine Cj (fun m e' hp' => [(0, iv a), (1, iv c), (2, iv d), (6, pb j), (10, bv G)] = e' ∧ (j, Cl 27 [iv 0, iv 0, iv 0]) :: R = hp' ∧ b.Le m) ?_ ?_
 have hm := H
 refine Cg<|M rfl rfl ?_
 obtain ⟨B, J, hm⟩ := bS hm
 refine Do rfl (uW _ call12 rfl (fun w ho => cFareWithin _ [] a 1009 32749 B J) (fun _ _ _ h => h.2.symm)) ?_
 rintro _ _ ⟨⟨_, rfl, _⟩, rfl⟩
 rcases Bool.eq_false_or_eq_true B with e | e
 rw [if_pos e] at hm
 refine Tr 12 rfl (v' := .bool true) (by rw [e] <;> rfl)<|Ts rfl (st_not_t rfl)<|M rfl rfl<|Ys 14 rfl rfl rfl<|M rfl rfl<|Ys 14 rfl rfl rfl ?_
 obtain ⟨C, K, hm⟩ := bS hm
 refine Do rfl (uW _ call12 rfl (fun w ho => cFareWithin _ [] c 1009 32749 C K) (fun _ _ _ h => h.2.symm)) ?_
 rintro _ _ ⟨⟨_, rfl, _⟩, rfl⟩
 rcases Bool.eq_false_or_eq_true C with f | f
 rw [if_pos f] at hm
 refine Tr 16 rfl (v' := .bool true) (by rw [f] <;> rfl)<|Ys 14 rfl rfl rfl<|Ts rfl (st_not_t rfl)<|Ts rfl (pF rfl rfl)<|M rfl rfl<|Ys 19 rfl rfl rfl<|M rfl rfl<|Ys 19 rfl rfl rfl ?_
 obtain ⟨L, O, hm⟩ := bS hm
 refine Do rfl (uW _ call12 rfl (fun w ho => cFareWithin _ [] d 3 32749 L O) (fun _ _ _ h => h.2.symm)) ?_
 rintro _ _ ⟨⟨_, rfl, _⟩, rfl⟩
 refine Ys 19 rfl rfl rfl<|Ts rfl (sn2 rfl)<|Ts rfl (pF rfl rfl)<|As rfl rfl<|Tn ?_
 obtain rfl := o1 hm
 exact xJ ⟨rfl, rfl, lr⟩ (.refl _)
 rw [if_neg (fun hh => Bool.noConfusion (hh.symm.trans f))] at hm
 refine Tr 16 rfl (v' := .bool false) (by rw [f] <;> rfl)<|Ys 14 rfl rfl rfl<|Ts rfl (st_not_f rfl)<|Ts rfl (pF rfl rfl)<|M rfl rfl<|No 19 rfl rfl rfl rfl rfl<|No 19 rfl rfl rfl rfl rfl<|No 19 rfl rfl rfl rfl rfl<|Ts rfl (pT rfl rfl)<|As rfl rfl ?_
 refine Tn ?_
 obtain rfl := o1 hm
 exact xJ ⟨rfl, rfl, lr⟩ (.refl _)
 rw [if_neg (fun hh => Bool.noConfusion (hh.symm.trans e))] at hm
 refine Tr 12 rfl (v' := .bool false) (by rw [e] <;> rfl)<|Ts rfl (st_not_f rfl)<|M rfl rfl<|No 14 rfl rfl rfl rfl rfl<|No 14 rfl rfl rfl rfl rfl<|No 14 rfl rfl rfl rfl rfl<|Ts rfl (pT rfl rfl)<|M rfl rfl<|No 19 rfl rfl rfl rfl rfl<|No 19 rfl rfl rfl rfl rfl ?_
 refine No 19 rfl rfl rfl rfl rfl<|Ts rfl (pT rfl rfl)<|As rfl rfl<|Tn ?_
 obtain rfl := o1 hm
 exact xJ ⟨rfl, rfl, lr⟩ (.refl _)
 rintro m _ _ ⟨rfl, rfl, k⟩
 have hm := I
 refine Cc _ rfl (fun n => ?_) (fun n => ?_)
 rw [if_pos n] at hm
 refine Cr<|Ts rfl (sB (v := .agg #[iv 0, iv 0, iv 0]) [] rfl (fun _ => by kernel_rfl))<|Do rfl (uN (vs := [_, _, _]) 0 3 rfl rfl rfl siz27 rfl (mc rfl (mc rfl (mc rfl mn))) rfl (by simp)) ?_
 rintro _ _ rfl
 refine As rfl rfl<|Te<|Ct<|Xb<|Xr ?_
 obtain ⟨rfl, rfl, rfl, rfl⟩ := some4 hm
 exact rM (rs := [.cell 6 27, .tmp 7]) (vs := [.agg #[iv 0, iv 0, iv 0], iv 2]) ⟨⟨_, rfl, fun w ho => cell_agg (vs := [_, _, _]) 0 3 agg27 rfl rfl rfl w ho⟩, ⟨rfl, trivial⟩⟩ ⟨rfl, rfl⟩ (.cons _ (.refl _)) k
 rw [if_neg (fun hh => Bool.noConfusion (hh.symm.trans n))] at hm
 obtain ⟨S, T, U⟩ := bS hm
 refine Cj (fun D e' hp' => [(0, iv a), (1, iv c), (2, iv d), (6, pb j), (25, bv S)] = e' ∧ (j, Cl 27 [iv 0, iv 0, iv 0]) :: R = hp' ∧ m.Le D) ?_ ?_
 have hm := T
 refine Cg<|M rfl rfl ?_
 obtain ⟨E, V, hm⟩ := bS hm
 refine Do rfl (uW _ call13 rfl (fun w ho => cFarePrime _ [] a E V) (fun _ _ _ h => h.2.symm)) ?_
 rintro _ _ ⟨⟨_, rfl, _⟩, rfl⟩
 rcases Bool.eq_false_or_eq_true E with g | g
 rw [if_pos g] at hm
 refine Tr 27 rfl (v' := .bool true) (by rw [g] <;> rfl)<|Ts rfl (st_not_t rfl)<|M rfl rfl<|Ys 29 rfl rfl rfl<|M rfl rfl<|Ys 29 rfl rfl rfl ?_
 obtain ⟨F, W, hm⟩ := bS hm
 refine Do rfl (uW _ call13 rfl (fun w ho => cFarePrime _ [] c F W) (fun _ _ _ h => h.2.symm)) ?_
 rintro _ _ ⟨⟨_, rfl, _⟩, rfl⟩
 rcases Bool.eq_false_or_eq_true F with i | i
 rw [if_pos i] at hm
 refine Tr 31 rfl (v' := .bool true) (by rw [i] <;> rfl)<|Ys 29 rfl rfl rfl<|Ts rfl (st_not_t rfl)<|Ts rfl (pF rfl rfl)<|M rfl rfl<|Ys 34 rfl rfl rfl<|M rfl rfl<|Ys 34 rfl rfl rfl<|M rfl rfl<|Ys 34 rfl rfl rfl ?_
 refine Ts rfl (q1 rfl rfl)<|Ts rfl (pF rfl rfl)<|As rfl rfl<|Tn ?_
 obtain rfl := o1 hm
 exact xJ ⟨rfl, rfl, lr⟩ (.refl _)
 rw [if_neg (fun hh => Bool.noConfusion (hh.symm.trans i))] at hm
 refine Tr 31 rfl (v' := .bool false) (by rw [i] <;> rfl)<|Ys 29 rfl rfl rfl<|Ts rfl (st_not_f rfl)<|Ts rfl (pF rfl rfl)<|M rfl rfl<|No 34 rfl rfl rfl rfl rfl<|No 34 rfl rfl rfl rfl rfl<|No 34 rfl rfl rfl rfl rfl<|Ts rfl (pT rfl rfl)<|As rfl rfl ?_
 refine Tn ?_
 obtain rfl := o1 hm
 exact xJ ⟨rfl, rfl, lr⟩ (.refl _)
 rw [if_neg (fun hh => Bool.noConfusion (hh.symm.trans g))] at hm
 refine Tr 27 rfl (v' := .bool false) (by rw [g] <;> rfl)<|Ts rfl (st_not_f rfl)<|M rfl rfl<|No 29 rfl rfl rfl rfl rfl<|No 29 rfl rfl rfl rfl rfl<|No 29 rfl rfl rfl rfl rfl<|Ts rfl (pT rfl rfl)<|M rfl rfl<|No 34 rfl rfl rfl rfl rfl<|No 34 rfl rfl rfl rfl rfl ?_
 refine No 34 rfl rfl rfl rfl rfl<|Ts rfl (pT rfl rfl)<|As rfl rfl<|Tn ?_
 obtain rfl := o1 hm
 exact xJ ⟨rfl, rfl, lr⟩ (.refl _)
 rintro D _ _ ⟨rfl, rfl, o⟩
 have hm := U
 refine Cc _ rfl (fun p => ?_) (fun p => ?_)
 rw [if_pos p] at hm
 refine Cr<|Ts rfl (sB (v := .agg #[iv 0, iv 0, iv 0]) [] rfl (fun _ => by kernel_rfl))<|Do rfl (uN (vs := [_, _, _]) 0 3 rfl rfl rfl siz27 rfl (mc rfl (mc rfl (mc rfl mn))) rfl (by simp)) ?_
 rintro _ _ rfl
 refine As rfl rfl<|Te<|Ct<|Xb<|Xr ?_
 obtain ⟨rfl, rfl, rfl, rfl⟩ := some4 hm
 exact rM (rs := [.cell 6 27, .tmp 7]) (vs := [.agg #[iv 0, iv 0, iv 0], iv 1]) ⟨⟨_, rfl, fun w ho => cell_agg (vs := [_, _, _]) 0 3 agg27 rfl rfl rfl w ho⟩, ⟨rfl, trivial⟩⟩ ⟨rfl, rfl⟩ (.cons _ (.refl _)) (k.trans o)
 rw [if_neg (fun hh => Bool.noConfusion (hh.symm.trans p))] at hm
 refine Ck<|Xm<|Xn<|Cr<|M rfl rfl<|M rfl rfl ?_
 obtain ⟨_, q, hm⟩ := bS hm
 have q := (kS q).2
 refine Ts rfl (sb rfl rfl q)<|M rfl rfl ?_
 obtain ⟨_, r, hm⟩ := bS hm
 have r := (kS r).2
 refine Ts rfl (sb rfl rfl r) ?_
 obtain ⟨_, s, hm⟩ := bS hm
 have s := (kS s).2
 refine Ts rfl (st_mul rfl rfl s) ?_
 obtain ⟨⟨l, X⟩, Y, hm⟩ := bS hm
 have hm := (unc2E hm)
 refine Do rfl (uW _ call14 rfl (fun w ho => cFareInverse _ [] d ((a - 1) * (c - 1)) l X Y) (fun _ _ _ h => h.2.symm)) ?_
 rintro _ _ ⟨⟨_, rfl, _⟩, rfl⟩
 refine M rfl rfl<|Ts rfl (st_extract rfl rfl)<|Ts rfl (st_extract rfl rfl)<|As rfl rfl<|As rfl rfl<|Te<|Cs<|Cr<|M rfl rfl<|Ts rfl (sn2 rfl) ?_
 refine Te ?_
 refine Cc _ rfl (fun t => ?_) (fun t => ?_)
 rw [if_neg (fun hh => Bool.noConfusion (hh.symm.trans (nt t)))] at hm
 refine Cr<|Ts rfl (sB (v := .agg #[iv 0, iv 0, iv 0]) [] rfl (fun _ => by kernel_rfl))<|Do rfl (uN (vs := [_, _, _]) 0 3 rfl rfl rfl siz27 rfl (mc rfl (mc rfl (mc rfl mn))) rfl (by simp)) ?_
 rintro _ _ rfl
 refine As rfl rfl<|Te<|Ct<|Xr ?_
 obtain ⟨rfl, rfl, rfl, rfl⟩ := some4 hm
 exact rM (rs := [.cell 6 27, .tmp 7]) (vs := [.agg #[iv 0, iv 0, iv 0], iv 1]) ⟨⟨_, rfl, fun w ho => cell_agg (vs := [_, _, _]) 0 3 agg27 rfl rfl rfl w ho⟩, ⟨rfl, trivial⟩⟩ ⟨rfl, rfl⟩ (.cons _ (.refl _)) (k.trans o)
 rw [if_pos (nf t)] at hm
 refine Ck<|Xn<|Cr<|M rfl rfl<|M rfl rfl ?_
 obtain ⟨_, u, hm⟩ := bS hm
 have u := (kS u).2
 refine Ts rfl (st_mul rfl rfl u)<|M rfl rfl<|M rfl rfl<|Ts rfl (sB (v := .agg #[iv (a * c), iv d, iv l]) [(0, iv (a * c)), (1, iv d), (2, iv l)] rfl (fun _ => by kernel_rfl))<|Do rfl (uN (vs := [_, _, _]) 0 3 rfl rfl rfl siz27 rfl (mc rfl (mc rfl (mc rfl mn))) rfl (by simp)) ?_
 rintro _ _ rfl
 refine As rfl rfl<|Te<|Ct ?_
 obtain ⟨rfl, rfl, rfl, rfl⟩ := some4 hm
 exact rM (rs := [.cell 6 27, .tmp 7]) (vs := [.agg #[iv (a * c), iv d, iv l], iv 0]) ⟨⟨_, rfl, fun w ho => cell_agg (vs := [_, _, _]) 0 3 agg27 rfl rfl rfl w ho⟩, ⟨rfl, trivial⟩⟩ ⟨rfl, rfl⟩ (.cons _ (.refl _)) (k.trans o)

set_option maxRecDepth 20000 in
theorem cFareCondSize : ∀ (N : Nat) (b : Base) (R : Hp) (a : FareCond) (c : Int) (d : Int) (hm : mFareCondSize N a = some (c, d)),
    CallsG Tryz.prog 60 [.agg #[iv a.Kind, iv a.A, iv a.B, sn]] b (R) (fun v b' hp' => .tuple #[iv c, iv d] = v ∧ R = hp') := by
  intro N
  induction N with
  | zero =>
    intro b R a c d hm
    unfold mFareCondSize at hm
    cases hm
  | succ N ih =>
   intro b R a c d hm
   refine fE 30 Tryz.func60 rfl Tryz.ntmps60 rfl ?_
   unfold mFareCondSize at hm
   refine Cr<|Do rfl (uB _ rfl rfl) ?_
   rintro _ _ ⟨H, rfl, rfl⟩
   refine As rfl rfl<|As rfl rfl<|Te<|Cr<|As rfl rfl<|Te<|Cs<|Cr<|Ts rfl (sF rfl fld53_3)<|Ts rfl (sL 0 rfl one51 rfl rfl) ?_
   refine Ts rfl (st_len0 rfl sl51)<|M rfl rfl<|Te<|Cb ?_
   obtain ⟨⟨e, f⟩, q, s⟩ := bS hm
   refine cS (fun n => unc2 fun e f => fun i e' hp' => [(2, iv e), (3, iv f), (9, sn), (10, iv 0), (11, iv ((n : Int)))] = e' ∧ R = hp' ∧ b.Le i) q ⟨rfl, rfl, lr⟩ (.cons _ (.refl _)) ?_ ?_
   rintro n ⟨e, f⟩ i _ _ I J ⟨rfl, rfl, k⟩ o
   unfold mFareCondSize_L94 at o
   have hm := (unc2E o)
   refine Cr<|Ts rfl (lT rfl rfl (by omega))<|Te<|Cs<|c_cond_t rfl<|Ck<|Xn<|Cs<|Cb<|Cr ?_
   obtain ⟨g, t, hm⟩ := bS hm
   obtain ⟨x, y, z⟩ := iS t
   obtain ⟨K, B, C, p, D⟩ := FZ.get (sz := 4) rfl (by decide) (FZ.nil (r := rFareCond) (A := none)) z
   obtain ⟨_, _, rfl, rfl, ⟨_, _, rfl, rfl, ⟨_, _, rfl, rfl, rfl⟩⟩⟩ := B
   refine Ts rfl (sI x rfl rfl y D p sl51)<|Ts rfl (sP (vs := [iv g.Kind, iv g.A, iv g.B, sn]) 4 rfl agg53 p rfl (fun j u hu => C j u hu))<|Do rfl (uA [iv 0, iv 0, iv 0, sn] zero53 rfl) ?_
   rintro _ _ ⟨L, rfl, rfl⟩
   refine Do rfl (uN (vs := [_, _, _, _]) 0 4 rfl rfl rfl siz53 rfl (mc rfl (mc rfl (mc rfl (mc rfl mn)))) rfl (by simp)) ?_
   rintro _ _ rfl
   refine Te<|Cr<|Ts rfl (sD (vs := [_, _, _, _]) 0 4 rfl agg53 rfl rfl rfl) ?_
   obtain ⟨⟨E, F⟩, G, hm⟩ := bS hm
   have hm := (unc2E hm)
   refine Do rfl (uW _ call60 rfl (fun w ho => ih _ [] g E F G) (fun _ _ _ h => h.2.symm)) ?_
   rintro _ _ ⟨⟨_, rfl, _⟩, rfl⟩
   refine M rfl rfl<|Ts rfl (st_extract rfl rfl)<|Ts rfl (st_extract rfl rfl)<|As rfl rfl<|As rfl rfl<|Te<|Cr<|M rfl rfl<|M rfl rfl ?_
   obtain ⟨_, l, hm⟩ := bS hm
   have l := (kS l).2
   refine Ts rfl (sa rfl rfl l)<|As rfl rfl<|Te<|Cg<|M rfl rfl<|M rfl rfl<|Ts rfl (st_max rfl rfl)<|As rfl rfl<|Tn<|Xm ?_
   refine Xn<|Cg<|Ts rfl (sa rfl rfl (by omega))<|M rfl rfl<|Tn ?_
   obtain rfl := o1 hm
   exact xS ⟨rfl, rfl, (k)⟩ (.cons _ (.refl _))
   rintro i _ _ ⟨rfl, rfl, k⟩
   have hm := (unc2E s)
   refine Cr<|Ts rfl (lF rfl rfl (by omega))<|Te<|Cs<|c_cond_f rfl<|Ce<|Xe<|Xe<|Xo<|Xn ?_
   refine Cr<|M rfl rfl<|M rfl rfl ?_
   obtain ⟨_, m, hm⟩ := bS hm
   have m := (kS m).2
   refine Ts rfl (sa rfl rfl m)<|As rfl rfl<|As rfl rfl<|Te<|Ct ?_
   obtain ⟨rfl, rfl⟩ := some2 hm
   exact rM (rs := [.tmp 2, .tmp 3]) (vs := [iv e, iv (f + 1)]) ⟨rfl, ⟨rfl, trivial⟩⟩ ⟨rfl, rfl⟩ (.refl _) k

set_option maxRecDepth 20000 in
theorem cFareNumbers (b : Base) (R : Hp) (a : Int) (l : Int) (hm : mFareNumbers a = some l) :
    CallsG Tryz.prog 83 [iv a] b (R) (fun v b' hp' => iv l = v ∧ R = hp') := by
 refine fE 13 Tryz.func83 rfl Tryz.ntmps83 rfl ?_
 unfold mFareNumbers at hm
 refine Cr<|As rfl rfl<|Te<|Cs<|Cr<|M rfl rfl<|Te<|Cb ?_
 obtain ⟨o, p, q⟩ := bS hm
 refine Cj (fun c e' hp' => [(3, iv a), (4, bv o)] = e' ∧ R = hp' ∧ b.Le c) ?_ ?_
 have hm := p
 refine Cr<|Ts rfl (q1 rfl rfl)<|As rfl rfl<|Te ?_
 refine Cc _ rfl (fun d => ?_) (fun d => ?_)
 rw [if_pos (of_decide_eq_true d)] at hm
 refine Ck ?_
 obtain rfl := o1 hm
 exact xJ ⟨rfl, rfl, lr⟩ (.refl _)
 rw [if_neg (of_decide_eq_false d)] at hm
 refine Cr<|Ts rfl (q1 rfl rfl)<|As rfl rfl<|Te ?_
 refine Cc _ rfl (fun e => ?_) (fun e => ?_)
 rw [if_pos (of_decide_eq_true e)] at hm
 refine Ck ?_
 obtain rfl := o1 hm
 exact xJ ⟨rfl, rfl, lr⟩ (.refl _)
 rw [if_neg (of_decide_eq_false e)] at hm
 refine Cr<|Ts rfl (q1 rfl rfl)<|As rfl rfl<|Te ?_
 refine Cc _ rfl (fun f => ?_) (fun f => ?_)
 rw [if_pos (of_decide_eq_true f)] at hm
 refine Ck ?_
 obtain rfl := o1 hm
 exact xJ ⟨rfl, rfl, lr⟩ (.refl _)
 rw [if_neg (of_decide_eq_false f)] at hm
 refine Cg<|Ts rfl (q1 rfl rfl)<|As rfl rfl<|Tn ?_
 obtain rfl := o1 hm
 exact xJ ⟨rfl, rfl, lr⟩ (.refl _)
 rintro c _ _ ⟨rfl, rfl, g⟩
 have hm := q
 refine Cc _ rfl (fun h => ?_) (fun h => ?_)
 rw [if_pos h] at hm
 refine Cr<|As rfl rfl<|Te<|Ct<|Xb<|Xr ?_
 obtain rfl := o1 hm
 exact rM (rs := [.tmp 2]) (vs := [iv 2]) ⟨rfl, trivial⟩ ⟨rfl, rfl⟩ (.refl _) g
 rw [if_neg (fun hh => Bool.noConfusion (hh.symm.trans h))] at hm
 obtain ⟨r, s, t⟩ := bS hm
 refine Cj (fun m e' hp' => [(9, bv r)] = e' ∧ R = hp' ∧ c.Le m) ?_ ?_
 have hm := s
 refine Cr<|Ts rfl (q1 rfl rfl)<|As rfl rfl<|Te ?_
 refine Cc _ rfl (fun i => ?_) (fun i => ?_)
 rw [if_pos (of_decide_eq_true i)] at hm
 refine Ck ?_
 obtain rfl := o1 hm
 exact xJ ⟨rfl, rfl, lr⟩ (.refl _)
 rw [if_neg (of_decide_eq_false i)] at hm
 refine Cr<|Ts rfl (q1 rfl rfl)<|As rfl rfl<|Te ?_
 refine Cc _ rfl (fun j => ?_) (fun j => ?_)
 rw [if_pos (of_decide_eq_true j)] at hm
 refine Ck ?_
 obtain rfl := o1 hm
 exact xJ ⟨rfl, rfl, lr⟩ (.refl _)
 rw [if_neg (of_decide_eq_false j)] at hm
 refine Cg<|Ts rfl (q1 rfl rfl)<|As rfl rfl<|Tn ?_
 obtain rfl := o1 hm
 exact xJ ⟨rfl, rfl, lr⟩ (.refl _)
 rintro m _ _ ⟨rfl, rfl, n⟩
 have hm := t
 refine Cc _ rfl (fun k => ?_) (fun k => ?_)
 rw [if_pos k] at hm
 refine Cr<|As rfl rfl<|Te<|Ct<|Xb<|Xr ?_
 obtain rfl := o1 hm
 exact rM (rs := [.tmp 2]) (vs := [iv 1]) ⟨rfl, trivial⟩ ⟨rfl, rfl⟩ (.refl _) (g.trans n)
 rw [if_neg (fun hh => Bool.noConfusion (hh.symm.trans k))] at hm
 refine Ck<|Xm<|Xn<|Cr<|As rfl rfl<|Te<|Ct ?_
 obtain rfl := o1 hm
 exact rM (rs := [.tmp 2]) (vs := [iv 0]) ⟨rfl, trivial⟩ ⟨rfl, rfl⟩ (.refl _) (g.trans n)

set_option maxRecDepth 20000 in
theorem cFareCondNode : ∀ (N : Nat) (b : Base) (R : Hp) (a : FareCond) (f : Int) (hm : mFareCondNode N a = some f),
    CallsG Tryz.prog 61 [.agg #[iv a.Kind, iv a.A, iv a.B, sn]] b (R) (fun v b' hp' => iv f = v ∧ R = hp') := by
  intro N
  induction N with
  | zero =>
    intro b R a f hm
    unfold mFareCondNode at hm
    cases hm
  | succ N ih =>
   intro b R a f hm
   refine fE 99 Tryz.func61 rfl Tryz.ntmps61 rfl ?_
   unfold mFareCondNode at hm
   refine Cr<|Do rfl (uB _ rfl rfl) ?_
   rintro _ _ ⟨c, rfl, rfl⟩
   refine As rfl rfl<|Te<|Cr<|Ts rfl (sF rfl fld53_0)<|Ts rfl (sL 0 rfl one3 rfl rfl) ?_
   obtain ⟨aa, ag, hm⟩ := bS hm
   refine Do rfl (uW _ call83 rfl (fun w ho => cFareNumbers _ [] a.Kind aa ag) (fun _ _ _ h => h.2.symm)) ?_
   rintro _ _ ⟨⟨_, rfl, _⟩, rfl⟩
   refine As rfl rfl<|Te<|Cs<|Cb<|Cr<|Ts rfl (sF rfl fld53_0)<|Ts rfl (sL 0 rfl one3 rfl rfl) ?_
   obtain ⟨ah, ai, hm⟩ := bS hm
   refine Do rfl (uW _ call12 rfl (fun w ho => cFareWithin _ [] a.Kind 0 11 ah ai) (fun _ _ _ h => h.2.symm)) ?_
   rintro _ _ ⟨⟨_, rfl, _⟩, rfl⟩
   refine Ts rfl (sn2 rfl)<|As rfl rfl<|Te ?_
   refine Cc _ rfl (fun m => ?_) (fun m => ?_)
   rw [if_neg (fun hh => Bool.noConfusion (hh.symm.trans (nt m)))] at hm
   refine Cr<|As rfl rfl<|Te<|Ct<|Xb<|Xr ?_
   obtain rfl := o1 hm
   exact rM (rs := [.tmp 2]) (vs := [iv 15]) ⟨rfl, trivial⟩ ⟨rfl, rfl⟩ (.cons _ (.refl _)) lr
   rw [if_pos (nf m)] at hm
   obtain ⟨aj, ak, al⟩ := bS hm
   refine Cj (fun n e' hp' => [(1, pb c), (3, iv aa), (15, bv aj)] = e' ∧ (c, Cl 53 [iv a.Kind, iv a.A, iv a.B, sn]) :: R = hp' ∧ b.Le n) ?_ ?_
   have hm := ak
   refine Cg<|Ts rfl (sF rfl fld53_1)<|Ts rfl (sL 0 rfl one3 rfl rfl) ?_
   obtain ⟨ab, am, hm⟩ := bS hm
   refine Do rfl (uW _ call12 rfl (fun w ho => cFareWithin _ [] a.A 0 28800 ab am) (fun _ _ _ h => h.2.symm)) ?_
   rintro _ _ ⟨⟨_, rfl, _⟩, rfl⟩
   rcases Bool.eq_false_or_eq_true ab with d | d
   rw [if_pos d] at hm
   refine Tr 18 rfl (v' := .bool true) (by rw [d] <;> rfl)<|Ts rfl (st_not_t rfl)<|M rfl rfl<|Ys 20 rfl rfl rfl<|Ts rfl (sF rfl fld53_2)<|Ys 20 rfl rfl rfl<|Ts rfl (sL 0 rfl one3 rfl rfl)<|Ys 20 rfl rfl rfl ?_
   obtain ⟨an, ao, hm⟩ := bS hm
   refine Do rfl (uW _ call12 rfl (fun w ho => cFareWithin _ [] a.B 0 28800 an ao) (fun _ _ _ h => h.2.symm)) ?_
   rintro _ _ ⟨⟨_, rfl, _⟩, rfl⟩
   refine Ys 20 rfl rfl rfl<|Ts rfl (sn2 rfl)<|Ts rfl (pF rfl rfl)<|As rfl rfl<|Tn ?_
   obtain rfl := o1 hm
   exact xJ ⟨rfl, rfl, lr⟩ (.refl _)
   rw [if_neg (fun hh => Bool.noConfusion (hh.symm.trans d))] at hm
   refine Tr 18 rfl (v' := .bool false) (by rw [d] <;> rfl)<|Ts rfl (st_not_f rfl)<|M rfl rfl<|No 20 rfl rfl rfl rfl rfl<|No 20 rfl rfl rfl rfl rfl<|No 20 rfl rfl rfl rfl rfl<|No 20 rfl rfl rfl rfl rfl<|Ts rfl (pT rfl rfl)<|As rfl rfl<|Tn ?_
   obtain rfl := o1 hm
   exact xJ ⟨rfl, rfl, lr⟩ (.refl _)
   rintro n _ _ ⟨rfl, rfl, e⟩
   have hm := al
   refine Cc _ rfl (fun o => ?_) (fun o => ?_)
   rw [if_pos o] at hm
   refine Cr<|As rfl rfl<|Te<|Ct<|Xb<|Xr ?_
   obtain rfl := o1 hm
   exact rM (rs := [.tmp 2]) (vs := [iv 2]) ⟨rfl, trivial⟩ ⟨rfl, rfl⟩ (.cons _ (.refl _)) e
   rw [if_neg (fun hh => Bool.noConfusion (hh.symm.trans o))] at hm
   obtain ⟨aq, ar, au⟩ := bS hm
   refine Cj (fun p e' hp' => [(1, pb c), (26, bv aq)] = e' ∧ (c, Cl 53 [iv a.Kind, iv a.A, iv a.B, sn]) :: R = hp' ∧ n.Le p) ?_ ?_
   have hm := ar
   refine Cg<|M rfl rfl ?_
   refine Tb rfl (q3 rfl rfl) (fun q => ?_) (fun q => ?_)
   rw [if_pos q] at hm
   refine M rfl rfl<|Ys 29 rfl rfl rfl<|Ts rfl (sF rfl fld53_1)<|Ys 29 rfl rfl rfl<|Ts rfl (sL 0 rfl one3 rfl rfl)<|Ys 29 rfl rfl rfl ?_
   refine Tb rfl (q2 rfl rfl) (fun s => ?_) (fun s => ?_)
   rw [if_pos s] at hm
   refine Ts rfl (pT rfl rfl)<|M rfl rfl<|No 34 rfl rfl rfl rfl rfl<|No 34 rfl rfl rfl rfl rfl<|No 34 rfl rfl rfl rfl rfl<|No 37 rfl rfl rfl rfl rfl<|No 37 rfl rfl rfl rfl rfl<|No 37 rfl rfl rfl rfl rfl<|No 34 rfl rfl rfl rfl rfl<|Ts rfl (pT rfl rfl) ?_
   refine M rfl rfl<|No 43 rfl rfl rfl rfl rfl<|No 43 rfl rfl rfl rfl rfl<|No 43 rfl rfl rfl rfl rfl<|No 46 rfl rfl rfl rfl rfl<|No 46 rfl rfl rfl rfl rfl<|No 46 rfl rfl rfl rfl rfl<|No 46 rfl rfl rfl rfl rfl<|No 46 rfl rfl rfl rfl rfl<|No 43 rfl rfl rfl rfl rfl ?_
   refine Ts rfl (pT rfl rfl)<|As rfl rfl<|Tn ?_
   obtain rfl := o1 hm
   exact xJ ⟨rfl, rfl, lr⟩ (.refl _)
   rw [if_neg s] at hm
   refine Ts rfl (pT rfl rfl)<|M rfl rfl<|Ys 34 rfl rfl rfl<|M rfl rfl<|Ys 34 rfl rfl rfl ?_
   refine Tb rfl (q3 rfl rfl) (fun t => ?_) (fun t => ?_)
   rw [if_pos t] at hm
   refine Ys 34 rfl rfl rfl<|M rfl rfl<|Ys 37 rfl rfl rfl<|Ts rfl (sF rfl fld53_2)<|Ys 37 rfl rfl rfl<|Ts rfl (sL 0 rfl one3 rfl rfl)<|Ys 37 rfl rfl rfl ?_
   refine Tb rfl (q2 rfl rfl) (fun x => ?_) (fun x => ?_)
   rw [if_pos x] at hm
   refine Ys 34 rfl rfl rfl<|Ts rfl (pT rfl rfl)<|Ts rfl (pF rfl rfl)<|M rfl rfl<|No 43 rfl rfl rfl rfl rfl<|No 43 rfl rfl rfl rfl rfl<|No 43 rfl rfl rfl rfl rfl<|No 46 rfl rfl rfl rfl rfl<|No 46 rfl rfl rfl rfl rfl<|No 46 rfl rfl rfl rfl rfl ?_
   refine No 46 rfl rfl rfl rfl rfl<|No 46 rfl rfl rfl rfl rfl<|No 43 rfl rfl rfl rfl rfl<|Ts rfl (pT rfl rfl)<|As rfl rfl<|Tn ?_
   obtain rfl := o1 hm
   exact xJ ⟨rfl, rfl, lr⟩ (.refl _)
   rw [if_neg x] at hm
   refine Ys 34 rfl rfl rfl<|Ts rfl (pT rfl rfl)<|Ts rfl (pF rfl rfl)<|M rfl rfl<|Ys 43 rfl rfl rfl<|M rfl rfl<|Ys 43 rfl rfl rfl ?_
   refine Tb rfl (q1 rfl rfl) (fun y => ?_) (fun y => ?_)
   rw [if_pos y] at hm
   refine Ys 43 rfl rfl rfl<|M rfl rfl<|Ys 46 rfl rfl rfl<|Ts rfl (sF rfl fld53_1)<|Ys 46 rfl rfl rfl<|Ts rfl (sL 0 rfl one3 rfl rfl)<|Ys 46 rfl rfl rfl<|Ts rfl (sF rfl fld53_2)<|Ys 46 rfl rfl rfl<|Ts rfl (sL 0 rfl one3 rfl rfl) ?_
   refine Ys 46 rfl rfl rfl<|Ts rfl (q5 rfl rfl)<|Ys 43 rfl rfl rfl<|Ts rfl (pT rfl rfl)<|Ts rfl (pF rfl rfl)<|As rfl rfl<|Tn ?_
   obtain rfl := o1 hm
   exact xJ ⟨rfl, rfl, lr⟩ (.refl _)
   rw [if_neg y] at hm
   refine Ys 43 rfl rfl rfl<|M rfl rfl<|No 46 rfl rfl rfl rfl rfl<|No 46 rfl rfl rfl rfl rfl<|No 46 rfl rfl rfl rfl rfl<|No 46 rfl rfl rfl rfl rfl<|No 46 rfl rfl rfl rfl rfl<|Ys 43 rfl rfl rfl<|Ts rfl (pF rfl rfl)<|Ts rfl (pF rfl rfl) ?_
   refine As rfl rfl<|Tn ?_
   obtain rfl := o1 hm
   exact xJ ⟨rfl, rfl, lr⟩ (.refl _)
   rw [if_neg t] at hm
   refine Ys 34 rfl rfl rfl<|M rfl rfl<|No 37 rfl rfl rfl rfl rfl<|No 37 rfl rfl rfl rfl rfl<|No 37 rfl rfl rfl rfl rfl<|Ys 34 rfl rfl rfl<|Ts rfl (pF rfl rfl)<|Ts rfl (pF rfl rfl)<|M rfl rfl<|Ys 43 rfl rfl rfl ?_
   refine M rfl rfl<|Ys 43 rfl rfl rfl ?_
   refine Tb rfl (q1 rfl rfl) (fun z => ?_) (fun z => ?_)
   rw [if_pos z] at hm
   refine Ys 43 rfl rfl rfl<|M rfl rfl<|Ys 46 rfl rfl rfl<|Ts rfl (sF rfl fld53_1)<|Ys 46 rfl rfl rfl<|Ts rfl (sL 0 rfl one3 rfl rfl)<|Ys 46 rfl rfl rfl<|Ts rfl (sF rfl fld53_2)<|Ys 46 rfl rfl rfl<|Ts rfl (sL 0 rfl one3 rfl rfl) ?_
   refine Ys 46 rfl rfl rfl<|Ts rfl (q5 rfl rfl)<|Ys 43 rfl rfl rfl<|Ts rfl (pT rfl rfl)<|Ts rfl (pF rfl rfl)<|As rfl rfl<|Tn ?_
   obtain rfl := o1 hm
   exact xJ ⟨rfl, rfl, lr⟩ (.refl _)
   rw [if_neg z] at hm
   refine Ys 43 rfl rfl rfl<|M rfl rfl<|No 46 rfl rfl rfl rfl rfl<|No 46 rfl rfl rfl rfl rfl<|No 46 rfl rfl rfl rfl rfl<|No 46 rfl rfl rfl rfl rfl<|No 46 rfl rfl rfl rfl rfl<|Ys 43 rfl rfl rfl<|Ts rfl (pF rfl rfl)<|Ts rfl (pF rfl rfl) ?_
   refine As rfl rfl<|Tn ?_
   obtain rfl := o1 hm
   exact xJ ⟨rfl, rfl, lr⟩ (.refl _)
   rw [if_neg q] at hm
   refine M rfl rfl<|No 29 rfl rfl rfl rfl rfl<|No 29 rfl rfl rfl rfl rfl<|No 29 rfl rfl rfl rfl rfl<|Ts rfl (pF rfl rfl)<|M rfl rfl<|Ys 34 rfl rfl rfl<|M rfl rfl<|Ys 34 rfl rfl rfl ?_
   refine Tb rfl (q3 rfl rfl) (fun B => ?_) (fun B => ?_)
   rw [if_pos B] at hm
   refine Ys 34 rfl rfl rfl<|M rfl rfl<|Ys 37 rfl rfl rfl<|Ts rfl (sF rfl fld53_2)<|Ys 37 rfl rfl rfl<|Ts rfl (sL 0 rfl one3 rfl rfl)<|Ys 37 rfl rfl rfl ?_
   refine Tb rfl (q2 rfl rfl) (fun C => ?_) (fun C => ?_)
   rw [if_pos C] at hm
   refine Ys 34 rfl rfl rfl<|Ts rfl (pT rfl rfl)<|Ts rfl (pF rfl rfl)<|M rfl rfl<|No 43 rfl rfl rfl rfl rfl<|No 43 rfl rfl rfl rfl rfl<|No 43 rfl rfl rfl rfl rfl<|No 46 rfl rfl rfl rfl rfl<|No 46 rfl rfl rfl rfl rfl<|No 46 rfl rfl rfl rfl rfl ?_
   refine No 46 rfl rfl rfl rfl rfl<|No 46 rfl rfl rfl rfl rfl<|No 43 rfl rfl rfl rfl rfl<|Ts rfl (pT rfl rfl)<|As rfl rfl<|Tn ?_
   obtain rfl := o1 hm
   exact xJ ⟨rfl, rfl, lr⟩ (.refl _)
   rw [if_neg C] at hm
   refine Ys 34 rfl rfl rfl<|Ts rfl (pT rfl rfl)<|Ts rfl (pF rfl rfl)<|M rfl rfl<|Ys 43 rfl rfl rfl<|M rfl rfl<|Ys 43 rfl rfl rfl ?_
   refine Tb rfl (q1 rfl rfl) (fun D => ?_) (fun D => ?_)
   rw [if_pos D] at hm
   refine Ys 43 rfl rfl rfl<|M rfl rfl<|Ys 46 rfl rfl rfl<|Ts rfl (sF rfl fld53_1)<|Ys 46 rfl rfl rfl<|Ts rfl (sL 0 rfl one3 rfl rfl)<|Ys 46 rfl rfl rfl<|Ts rfl (sF rfl fld53_2)<|Ys 46 rfl rfl rfl<|Ts rfl (sL 0 rfl one3 rfl rfl) ?_
   refine Ys 46 rfl rfl rfl<|Ts rfl (q5 rfl rfl)<|Ys 43 rfl rfl rfl<|Ts rfl (pT rfl rfl)<|Ts rfl (pF rfl rfl)<|As rfl rfl<|Tn ?_
   obtain rfl := o1 hm
   exact xJ ⟨rfl, rfl, lr⟩ (.refl _)
   rw [if_neg D] at hm
   refine Ys 43 rfl rfl rfl<|M rfl rfl<|No 46 rfl rfl rfl rfl rfl<|No 46 rfl rfl rfl rfl rfl<|No 46 rfl rfl rfl rfl rfl<|No 46 rfl rfl rfl rfl rfl<|No 46 rfl rfl rfl rfl rfl<|Ys 43 rfl rfl rfl<|Ts rfl (pF rfl rfl)<|Ts rfl (pF rfl rfl) ?_
   refine As rfl rfl<|Tn ?_
   obtain rfl := o1 hm
   exact xJ ⟨rfl, rfl, lr⟩ (.refl _)
   rw [if_neg B] at hm
   refine Ys 34 rfl rfl rfl<|M rfl rfl<|No 37 rfl rfl rfl rfl rfl<|No 37 rfl rfl rfl rfl rfl<|No 37 rfl rfl rfl rfl rfl<|Ys 34 rfl rfl rfl<|Ts rfl (pF rfl rfl)<|Ts rfl (pF rfl rfl)<|M rfl rfl<|Ys 43 rfl rfl rfl ?_
   refine M rfl rfl<|Ys 43 rfl rfl rfl ?_
   refine Tb rfl (q1 rfl rfl) (fun E => ?_) (fun E => ?_)
   rw [if_pos E] at hm
   refine Ys 43 rfl rfl rfl<|M rfl rfl<|Ys 46 rfl rfl rfl<|Ts rfl (sF rfl fld53_1)<|Ys 46 rfl rfl rfl<|Ts rfl (sL 0 rfl one3 rfl rfl)<|Ys 46 rfl rfl rfl<|Ts rfl (sF rfl fld53_2)<|Ys 46 rfl rfl rfl<|Ts rfl (sL 0 rfl one3 rfl rfl) ?_
   refine Ys 46 rfl rfl rfl<|Ts rfl (q5 rfl rfl)<|Ys 43 rfl rfl rfl<|Ts rfl (pT rfl rfl)<|Ts rfl (pF rfl rfl)<|As rfl rfl<|Tn ?_
   obtain rfl := o1 hm
   exact xJ ⟨rfl, rfl, lr⟩ (.refl _)
   rw [if_neg E] at hm
   refine Ys 43 rfl rfl rfl<|M rfl rfl<|No 46 rfl rfl rfl rfl rfl<|No 46 rfl rfl rfl rfl rfl<|No 46 rfl rfl rfl rfl rfl<|No 46 rfl rfl rfl rfl rfl<|No 46 rfl rfl rfl rfl rfl<|Ys 43 rfl rfl rfl<|Ts rfl (pF rfl rfl)<|Ts rfl (pF rfl rfl) ?_
   refine As rfl rfl<|Tn ?_
   obtain rfl := o1 hm
   exact xJ ⟨rfl, rfl, lr⟩ (.refl _)
   rintro p _ _ ⟨rfl, rfl, g⟩
   have hm := au
   refine Cc _ rfl (fun F => ?_) (fun F => ?_)
   rw [if_pos F] at hm
   refine Cr<|As rfl rfl<|Te<|Ct<|Xb<|Xr ?_
   obtain rfl := o1 hm
   exact rM (rs := [.tmp 2]) (vs := [iv 1]) ⟨rfl, trivial⟩ ⟨rfl, rfl⟩ (.cons _ (.refl _)) (e.trans g)
   rw [if_neg (fun hh => Bool.noConfusion (hh.symm.trans F))] at hm
   obtain ⟨av, aw, ax⟩ := bS hm
   refine Cj (fun G e' hp' => [(1, pb c), (54, bv av)] = e' ∧ (c, Cl 53 [iv a.Kind, iv a.A, iv a.B, sn]) :: R = hp' ∧ p.Le G) ?_ ?_
   have hm := aw
   refine Cg<|Ts rfl (sF rfl fld53_0)<|Ts rfl (sL 0 rfl one3 rfl rfl) ?_
   refine Tb rfl (q1 rfl rfl) (fun H => ?_) (fun H => ?_)
   rw [if_pos H] at hm
   refine M rfl rfl<|Ys 58 rfl rfl rfl<|Ts rfl (sF rfl fld53_3)<|Ys 58 rfl rfl rfl<|Ts rfl (sL 0 rfl one51 rfl rfl)<|Ys 58 rfl rfl rfl<|Ts rfl (st_len0 rfl sl51)<|Ys 58 rfl rfl rfl ?_
   refine Tb rfl (q2 rfl rfl) (fun I => ?_) (fun I => ?_)
   rw [if_pos I] at hm
   refine Ts rfl (pT rfl rfl)<|M rfl rfl<|No 64 rfl rfl rfl rfl rfl<|No 64 rfl rfl rfl rfl rfl<|No 64 rfl rfl rfl rfl rfl<|No 64 rfl rfl rfl rfl rfl<|No 68 rfl rfl rfl rfl rfl<|No 68 rfl rfl rfl rfl rfl<|No 68 rfl rfl rfl rfl rfl<|No 68 rfl rfl rfl rfl rfl ?_
   refine No 64 rfl rfl rfl rfl rfl<|Ts rfl (pT rfl rfl)<|M rfl rfl<|No 75 rfl rfl rfl rfl rfl<|No 75 rfl rfl rfl rfl rfl<|No 75 rfl rfl rfl rfl rfl<|No 75 rfl rfl rfl rfl rfl<|No 79 rfl rfl rfl rfl rfl<|No 79 rfl rfl rfl rfl rfl<|No 79 rfl rfl rfl rfl rfl ?_
   refine No 79 rfl rfl rfl rfl rfl<|No 75 rfl rfl rfl rfl rfl<|Ts rfl (pT rfl rfl)<|As rfl rfl<|Tn ?_
   obtain rfl := o1 hm
   exact xJ ⟨rfl, rfl, lr⟩ (.refl _)
   rw [if_neg I] at hm
   refine Ts rfl (pT rfl rfl)<|M rfl rfl<|Ys 64 rfl rfl rfl<|Ts rfl (sF rfl fld53_0)<|Ys 64 rfl rfl rfl<|Ts rfl (sL 0 rfl one3 rfl rfl)<|Ys 64 rfl rfl rfl ?_
   refine Tb rfl (q5 rfl rfl) (fun J => ?_) (fun J => ?_)
   rw [if_pos J] at hm
   refine Ys 64 rfl rfl rfl<|M rfl rfl<|Ys 68 rfl rfl rfl<|Ts rfl (sF rfl fld53_3)<|Ys 68 rfl rfl rfl<|Ts rfl (sL 0 rfl one51 rfl rfl)<|Ys 68 rfl rfl rfl<|Ts rfl (st_len0 rfl sl51)<|Ys 68 rfl rfl rfl ?_
   refine Tb rfl (q3 rfl rfl) (fun K => ?_) (fun K => ?_)
   rw [if_pos K] at hm
   refine Ys 64 rfl rfl rfl<|Ts rfl (pT rfl rfl)<|Ts rfl (pF rfl rfl)<|M rfl rfl<|No 75 rfl rfl rfl rfl rfl<|No 75 rfl rfl rfl rfl rfl<|No 75 rfl rfl rfl rfl rfl<|No 75 rfl rfl rfl rfl rfl<|No 79 rfl rfl rfl rfl rfl<|No 79 rfl rfl rfl rfl rfl ?_
   refine No 79 rfl rfl rfl rfl rfl<|No 79 rfl rfl rfl rfl rfl<|No 75 rfl rfl rfl rfl rfl<|Ts rfl (pT rfl rfl)<|As rfl rfl<|Tn ?_
   obtain rfl := o1 hm
   exact xJ ⟨rfl, rfl, lr⟩ (.refl _)
   rw [if_neg K] at hm
   refine Ys 64 rfl rfl rfl<|Ts rfl (pT rfl rfl)<|Ts rfl (pF rfl rfl)<|M rfl rfl<|Ys 75 rfl rfl rfl<|Ts rfl (sF rfl fld53_0)<|Ys 75 rfl rfl rfl<|Ts rfl (sL 0 rfl one3 rfl rfl)<|Ys 75 rfl rfl rfl ?_
   refine Tb rfl (q3 rfl rfl) (fun L => ?_) (fun L => ?_)
   rw [if_pos L] at hm
   refine Ys 75 rfl rfl rfl<|M rfl rfl<|Ys 79 rfl rfl rfl<|Ts rfl (sF rfl fld53_3)<|Ys 79 rfl rfl rfl<|Ts rfl (sL 0 rfl one51 rfl rfl)<|Ys 79 rfl rfl rfl<|Ts rfl (st_len0 rfl sl51)<|Ys 79 rfl rfl rfl<|Ts rfl (q5 rfl rfl) ?_
   refine Ys 75 rfl rfl rfl<|Ts rfl (pT rfl rfl)<|Ts rfl (pF rfl rfl)<|As rfl rfl<|Tn ?_
   obtain rfl := o1 hm
   exact xJ ⟨rfl, rfl, lr⟩ (.refl _)
   rw [if_neg L] at hm
   refine Ys 75 rfl rfl rfl<|M rfl rfl<|No 79 rfl rfl rfl rfl rfl<|No 79 rfl rfl rfl rfl rfl<|No 79 rfl rfl rfl rfl rfl<|No 79 rfl rfl rfl rfl rfl<|Ys 75 rfl rfl rfl<|Ts rfl (pF rfl rfl)<|Ts rfl (pF rfl rfl)<|As rfl rfl ?_
   refine Tn ?_
   obtain rfl := o1 hm
   exact xJ ⟨rfl, rfl, lr⟩ (.refl _)
   rw [if_neg J] at hm
   refine Ys 64 rfl rfl rfl<|M rfl rfl<|No 68 rfl rfl rfl rfl rfl<|No 68 rfl rfl rfl rfl rfl<|No 68 rfl rfl rfl rfl rfl<|No 68 rfl rfl rfl rfl rfl<|Ys 64 rfl rfl rfl<|Ts rfl (pF rfl rfl)<|Ts rfl (pF rfl rfl)<|M rfl rfl ?_
   refine Ys 75 rfl rfl rfl<|Ts rfl (sF rfl fld53_0)<|Ys 75 rfl rfl rfl<|Ts rfl (sL 0 rfl one3 rfl rfl)<|Ys 75 rfl rfl rfl ?_
   refine Tb rfl (q3 rfl rfl) (fun O => ?_) (fun O => ?_)
   rw [if_pos O] at hm
   refine Ys 75 rfl rfl rfl<|M rfl rfl<|Ys 79 rfl rfl rfl<|Ts rfl (sF rfl fld53_3)<|Ys 79 rfl rfl rfl<|Ts rfl (sL 0 rfl one51 rfl rfl)<|Ys 79 rfl rfl rfl<|Ts rfl (st_len0 rfl sl51)<|Ys 79 rfl rfl rfl<|Ts rfl (q5 rfl rfl) ?_
   refine Ys 75 rfl rfl rfl<|Ts rfl (pT rfl rfl)<|Ts rfl (pF rfl rfl)<|As rfl rfl<|Tn ?_
   obtain rfl := o1 hm
   exact xJ ⟨rfl, rfl, lr⟩ (.refl _)
   rw [if_neg O] at hm
   refine Ys 75 rfl rfl rfl<|M rfl rfl<|No 79 rfl rfl rfl rfl rfl<|No 79 rfl rfl rfl rfl rfl<|No 79 rfl rfl rfl rfl rfl<|No 79 rfl rfl rfl rfl rfl<|Ys 75 rfl rfl rfl<|Ts rfl (pF rfl rfl)<|Ts rfl (pF rfl rfl)<|As rfl rfl ?_
   refine Tn ?_
   obtain rfl := o1 hm
   exact xJ ⟨rfl, rfl, lr⟩ (.refl _)
   rw [if_neg H] at hm
   refine M rfl rfl<|No 58 rfl rfl rfl rfl rfl<|No 58 rfl rfl rfl rfl rfl<|No 58 rfl rfl rfl rfl rfl<|No 58 rfl rfl rfl rfl rfl<|Ts rfl (pF rfl rfl)<|M rfl rfl<|Ys 64 rfl rfl rfl<|Ts rfl (sF rfl fld53_0)<|Ys 64 rfl rfl rfl ?_
   refine Ts rfl (sL 0 rfl one3 rfl rfl)<|Ys 64 rfl rfl rfl ?_
   refine Tb rfl (q5 rfl rfl) (fun S => ?_) (fun S => ?_)
   rw [if_pos S] at hm
   refine Ys 64 rfl rfl rfl<|M rfl rfl<|Ys 68 rfl rfl rfl<|Ts rfl (sF rfl fld53_3)<|Ys 68 rfl rfl rfl<|Ts rfl (sL 0 rfl one51 rfl rfl)<|Ys 68 rfl rfl rfl<|Ts rfl (st_len0 rfl sl51)<|Ys 68 rfl rfl rfl ?_
   refine Tb rfl (q3 rfl rfl) (fun T => ?_) (fun T => ?_)
   rw [if_pos T] at hm
   refine Ys 64 rfl rfl rfl<|Ts rfl (pT rfl rfl)<|Ts rfl (pF rfl rfl)<|M rfl rfl<|No 75 rfl rfl rfl rfl rfl<|No 75 rfl rfl rfl rfl rfl<|No 75 rfl rfl rfl rfl rfl<|No 75 rfl rfl rfl rfl rfl<|No 79 rfl rfl rfl rfl rfl<|No 79 rfl rfl rfl rfl rfl ?_
   refine No 79 rfl rfl rfl rfl rfl<|No 79 rfl rfl rfl rfl rfl<|No 75 rfl rfl rfl rfl rfl<|Ts rfl (pT rfl rfl)<|As rfl rfl<|Tn ?_
   obtain rfl := o1 hm
   exact xJ ⟨rfl, rfl, lr⟩ (.refl _)
   rw [if_neg T] at hm
   refine Ys 64 rfl rfl rfl<|Ts rfl (pT rfl rfl)<|Ts rfl (pF rfl rfl)<|M rfl rfl<|Ys 75 rfl rfl rfl<|Ts rfl (sF rfl fld53_0)<|Ys 75 rfl rfl rfl<|Ts rfl (sL 0 rfl one3 rfl rfl)<|Ys 75 rfl rfl rfl ?_
   refine Tb rfl (q3 rfl rfl) (fun U => ?_) (fun U => ?_)
   rw [if_pos U] at hm
   refine Ys 75 rfl rfl rfl<|M rfl rfl<|Ys 79 rfl rfl rfl<|Ts rfl (sF rfl fld53_3)<|Ys 79 rfl rfl rfl<|Ts rfl (sL 0 rfl one51 rfl rfl)<|Ys 79 rfl rfl rfl<|Ts rfl (st_len0 rfl sl51)<|Ys 79 rfl rfl rfl<|Ts rfl (q5 rfl rfl) ?_
   refine Ys 75 rfl rfl rfl<|Ts rfl (pT rfl rfl)<|Ts rfl (pF rfl rfl)<|As rfl rfl<|Tn ?_
   obtain rfl := o1 hm
   exact xJ ⟨rfl, rfl, lr⟩ (.refl _)
   rw [if_neg U] at hm
   refine Ys 75 rfl rfl rfl<|M rfl rfl<|No 79 rfl rfl rfl rfl rfl<|No 79 rfl rfl rfl rfl rfl<|No 79 rfl rfl rfl rfl rfl<|No 79 rfl rfl rfl rfl rfl<|Ys 75 rfl rfl rfl<|Ts rfl (pF rfl rfl)<|Ts rfl (pF rfl rfl)<|As rfl rfl ?_
   refine Tn ?_
   obtain rfl := o1 hm
   exact xJ ⟨rfl, rfl, lr⟩ (.refl _)
   rw [if_neg S] at hm
   refine Ys 64 rfl rfl rfl<|M rfl rfl<|No 68 rfl rfl rfl rfl rfl<|No 68 rfl rfl rfl rfl rfl<|No 68 rfl rfl rfl rfl rfl<|No 68 rfl rfl rfl rfl rfl<|Ys 64 rfl rfl rfl<|Ts rfl (pF rfl rfl)<|Ts rfl (pF rfl rfl)<|M rfl rfl ?_
   refine Ys 75 rfl rfl rfl<|Ts rfl (sF rfl fld53_0)<|Ys 75 rfl rfl rfl<|Ts rfl (sL 0 rfl one3 rfl rfl)<|Ys 75 rfl rfl rfl ?_
   refine Tb rfl (q3 rfl rfl) (fun V => ?_) (fun V => ?_)
   rw [if_pos V] at hm
   refine Ys 75 rfl rfl rfl<|M rfl rfl<|Ys 79 rfl rfl rfl<|Ts rfl (sF rfl fld53_3)<|Ys 79 rfl rfl rfl<|Ts rfl (sL 0 rfl one51 rfl rfl)<|Ys 79 rfl rfl rfl<|Ts rfl (st_len0 rfl sl51)<|Ys 79 rfl rfl rfl<|Ts rfl (q5 rfl rfl) ?_
   refine Ys 75 rfl rfl rfl<|Ts rfl (pT rfl rfl)<|Ts rfl (pF rfl rfl)<|As rfl rfl<|Tn ?_
   obtain rfl := o1 hm
   exact xJ ⟨rfl, rfl, lr⟩ (.refl _)
   rw [if_neg V] at hm
   refine Ys 75 rfl rfl rfl<|M rfl rfl<|No 79 rfl rfl rfl rfl rfl<|No 79 rfl rfl rfl rfl rfl<|No 79 rfl rfl rfl rfl rfl<|No 79 rfl rfl rfl rfl rfl<|Ys 75 rfl rfl rfl<|Ts rfl (pF rfl rfl)<|Ts rfl (pF rfl rfl)<|As rfl rfl ?_
   refine Tn ?_
   obtain rfl := o1 hm
   exact xJ ⟨rfl, rfl, lr⟩ (.refl _)
   rintro G _ _ ⟨rfl, rfl, W⟩
   have hm := ax
   refine Cc _ rfl (fun X => ?_) (fun X => ?_)
   rw [if_pos X] at hm
   refine Cr<|As rfl rfl<|Te<|Ct<|Xb<|Xr ?_
   obtain rfl := o1 hm
   exact rM (rs := [.tmp 2]) (vs := [iv 1]) ⟨rfl, trivial⟩ ⟨rfl, rfl⟩ (.cons _ (.refl _)) (e.trans (g.trans W))
   rw [if_neg (fun hh => Bool.noConfusion (hh.symm.trans X))] at hm
   refine Ck<|Xm<|Xn<|Cs<|Cr<|Ts rfl (sF rfl fld53_3)<|Ts rfl (sL 0 rfl one51 rfl rfl)<|Ts rfl (st_len0 rfl sl51)<|M rfl rfl<|Te ?_
   refine Cb ?_
   obtain ⟨aK, ay, i⟩ := bS hm
   refine cF (fun ac => fun _ => fun Y e' hp' => [(87, sn), (88, iv 0), (89, iv ((ac : Int)))] = e' ∧ R = hp' ∧ G.Le Y) ay ⟨rfl, rfl, lr⟩ (.cons _ (.refl _)) ?_ ?_
   rintro ac _ Y _ _ aL aM ⟨rfl, rfl, k⟩ ad az
   unfold mFareCondNode_L284 at ad
   have hm := ad
   refine Cr<|Ts rfl (lT rfl rfl (by omega))<|Te<|Cs<|c_cond_t rfl<|Ck<|Xn<|Cs<|Cb<|Cr ?_
   obtain ⟨l, aA, hm⟩ := bS hm
   obtain ⟨aB, aC, aD⟩ := iS aA
   obtain ⟨aN, aE, aF, ae, aG⟩ := FZ.get (sz := 4) rfl (by decide) (FZ.nil (r := rFareCond) (A := none)) aD
   obtain ⟨_, _, rfl, rfl, ⟨_, _, rfl, rfl, ⟨_, _, rfl, rfl, rfl⟩⟩⟩ := aE
   refine Ts rfl (sI aB rfl rfl aC aG ae sl51)<|Ts rfl (sP (vs := [iv l.Kind, iv l.A, iv l.B, sn]) 4 rfl agg53 ae rfl (fun j u hu => aF j u hu))<|Do rfl (uA [iv 0, iv 0, iv 0, sn] zero53 rfl) ?_
   rintro _ _ ⟨aO, rfl, rfl⟩
   refine Do rfl (uN (vs := [_, _, _, _]) 0 4 rfl rfl rfl siz53 rfl (mc rfl (mc rfl (mc rfl (mc rfl mn)))) rfl (by simp)) ?_
   rintro _ _ rfl
   refine Te<|Cr<|Ts rfl (sD (vs := [_, _, _, _]) 0 4 rfl agg53 rfl rfl rfl) ?_
   obtain ⟨af, aH, hm⟩ := bS hm
   refine Do rfl (uW _ call61 rfl (fun w ho => ih _ [] l af aH) (fun _ _ _ h => h.2.symm)) ?_
   rintro _ _ ⟨⟨_, rfl, _⟩, rfl⟩
   refine As rfl rfl<|Te<|Cr<|M rfl rfl<|Ts rfl (q2 rfl rfl)<|Te ?_
   refine Cc _ rfl (fun Z => ?_) (fun Z => ?_)
   rw [if_pos (of_decide_eq_true Z)] at hm
   refine Cr<|M rfl rfl<|As rfl rfl<|Te<|Ct<|Xb<|Xr<|Xr<|Xb<|Xr ?_
   have aI := az _ (Option.some.inj hm).symm
   rw [aI] at i
   have hm := elimR i
   obtain rfl := o1 hm
   exact rM (rs := [.tmp 2]) (vs := [iv af]) ⟨rfl, trivial⟩ ⟨rfl, rfl⟩ (.cons _ (.refl _)) (e.trans (g.trans (W.trans k)))
   rw [if_neg (of_decide_eq_false Z)] at hm
   refine Ck<|Xm<|Xn<|Cg<|Ts rfl (sa rfl rfl (by omega))<|M rfl rfl<|Tn ?_
   exact xM hm ⟨rfl, rfl, (k)⟩ (.cons _ (.refl _))
   rintro _ Y _ _ ⟨rfl, rfl, k⟩ aJ
   rw [aJ] at i
   have hm := elimL i
   refine Cr<|Ts rfl (lF rfl rfl (by omega))<|Te<|Cs<|c_cond_f rfl<|Ce<|Xe<|Xe<|Xo<|Xn ?_
   refine Cr<|As rfl rfl<|Te<|Ct ?_
   obtain rfl := o1 hm
   exact rM (rs := [.tmp 2]) (vs := [iv 0]) ⟨rfl, trivial⟩ ⟨rfl, rfl⟩ (.refl _) (e.trans (g.trans (W.trans k)))

set_option maxRecDepth 20000 in
theorem cFareCondCheck (b : Base) (R : Hp) (a : FareCond) (g : Int) (hm : mFareCondCheck a = some g) :
    CallsG Tryz.prog 45 [.agg #[iv a.Kind, iv a.A, iv a.B, sn]] b (R) (fun v b' hp' => iv g = v ∧ R = hp') := by
 refine fE 18 Tryz.func45 rfl Tryz.ntmps45 rfl ?_
 unfold mFareCondCheck at hm
 refine Cr<|Do rfl (uB _ rfl rfl) ?_
 rintro _ _ ⟨i, rfl, rfl⟩
 refine As rfl rfl<|Te<|Cs<|Cr<|Ts rfl (sD (vs := [_, _, _, _]) 0 4 rfl agg53 rfl rfl rfl) ?_
 obtain ⟨⟨m, n⟩, c, hm⟩ := bS hm
 obtain ⟨o, c⟩ := lim_some c
 have hm := (unc2E hm)
 refine Do rfl (uW _ call60 rfl (fun w ho => cFareCondSize o _ [] a m n c) (fun _ _ _ h => h.2.symm)) ?_
 rintro _ _ ⟨⟨_, rfl, _⟩, rfl⟩
 refine M rfl rfl<|Ts rfl (st_extract rfl rfl)<|Ts rfl (st_extract rfl rfl)<|As rfl rfl<|As rfl rfl<|Te ?_
 obtain ⟨p, q, r⟩ := bS hm
 refine Cj (fun j e' hp' => [(1, pb i), (15, bv p)] = e' ∧ (i, Cl 53 [iv a.Kind, iv a.A, iv a.B, sn]) :: R = hp' ∧ b.Le j) ?_ ?_
 have hm := q
 refine Cg<|M rfl rfl ?_
 refine Tb rfl (q5 rfl rfl) (fun d => ?_) (fun d => ?_)
 rw [if_pos d] at hm
 refine M rfl rfl<|No 12 rfl rfl rfl rfl rfl<|No 12 rfl rfl rfl rfl rfl<|Ts rfl (pT rfl rfl)<|Tn ?_
 obtain rfl := o1 hm
 exact xJ ⟨rfl, rfl, lr⟩ (.refl _)
 rw [if_neg d] at hm
 refine M rfl rfl<|Ys 12 rfl rfl rfl<|M rfl rfl<|Ys 12 rfl rfl rfl<|Ts rfl (q5 rfl rfl)<|Ts rfl (pF rfl rfl)<|Tn ?_
 obtain rfl := o1 hm
 exact xJ ⟨rfl, rfl, lr⟩ (.refl _)
 rintro j _ _ ⟨rfl, rfl, k⟩
 have hm := r
 refine Cc _ rfl (fun e => ?_) (fun e => ?_)
 rw [if_pos e] at hm
 refine Cr<|As rfl rfl<|Te<|Ct<|Xr ?_
 obtain rfl := o1 hm
 exact rM (rs := [.tmp 2]) (vs := [iv 4]) ⟨rfl, trivial⟩ ⟨rfl, rfl⟩ (.cons _ (.refl _)) k
 rw [if_neg (fun hh => Bool.noConfusion (hh.symm.trans e))] at hm
 refine Ck<|Xn<|Cr<|Ts rfl (sD (vs := [_, _, _, _]) 0 4 rfl agg53 rfl rfl rfl) ?_
 obtain ⟨l, f, hm⟩ := bS hm
 obtain ⟨s, f⟩ := lim_some f
 refine Do rfl (uW _ call61 rfl (fun w ho => cFareCondNode s _ [] a l f) (fun _ _ _ h => h.2.symm)) ?_
 rintro _ _ ⟨⟨_, rfl, _⟩, rfl⟩
 refine As rfl rfl<|Te<|Ct ?_
 obtain rfl := o1 hm
 exact rM (rs := [.tmp 2]) (vs := [iv l]) ⟨rfl, trivial⟩ ⟨rfl, rfl⟩ (.cons _ (.refl _)) k

set_option maxRecDepth 20000 in
theorem cFareCheckTariff (b : Base) (R : Hp) (a : FareTariff) (f : OA) (g : Nat) (i : OA) (k : Nat) (t : FZ rFareBand b.w f g a.Bands) (h7 : FZ rFareRule b.w i k a.Rules) (x352 : Int) (hm : mFareCheckTariff a = some x352) :
    CallsG Tryz.prog 27 [.agg #[bv a.ByKm, sv f a.Bands g, iv a.Round, sv i a.Rules k]] b (R) (fun v b' hp' => iv x352 = v ∧ R = hp') := by
 refine fE 97 Tryz.func27 rfl Tryz.ntmps27 rfl ?_
 unfold mFareCheckTariff at hm
 refine Cr<|Do rfl (uB _ rfl rfl) ?_
 rintro _ _ ⟨l, rfl, rfl⟩
 refine As rfl rfl<|Te<|Cs ?_
 obtain ⟨x359, hj360, hk360⟩ := bS hm
 refine Cj (fun E e' hp' => [(1, pb l), (19, bv x359)] = e' ∧ (l, Cl 42 [bv a.ByKm, sv f a.Bands g, iv a.Round, sv i a.Rules k]) :: R = hp' ∧ b.Le E) ?_ ?_
 have hm := hj360
 refine Cg<|Ts rfl (sF rfl fld42_1)<|Ts rfl (sL 0 rfl one39 rfl rfl)<|Ts rfl (sE rfl sl39) ?_
 obtain ⟨x361, hcl362, hm⟩ := bS hm
 refine Do rfl (uW _ call12 rfl (fun w ho => cFareWithin _ [] (a.Bands.length : Int) 1 8 x361 hcl362) (fun _ _ _ h => h.2.symm)) ?_
 rintro _ _ ⟨⟨_, rfl, _⟩, rfl⟩
 rcases Bool.eq_false_or_eq_true x361 with x | x
 rw [if_pos x] at hm
 refine Tr 12 rfl (v' := .bool true) (by rw [x] <;> rfl)<|Ts rfl (st_not_t rfl)<|M rfl rfl<|Ys 14 rfl rfl rfl<|Ts rfl (sF rfl fld42_3)<|Ys 14 rfl rfl rfl<|Ts rfl (sL 0 rfl one40 rfl rfl)<|Ys 14 rfl rfl rfl<|Ts rfl (sE rfl sl40)<|Ys 14 rfl rfl rfl ?_
 refine Ts rfl (q5 rfl rfl)<|Ts rfl (pF rfl rfl)<|Tn ?_
 obtain rfl := o1 hm
 exact xJ ⟨rfl, rfl, lr⟩ (.refl _)
 rw [if_neg (fun hh => Bool.noConfusion (hh.symm.trans x))] at hm
 refine Tr 12 rfl (v' := .bool false) (by rw [x] <;> rfl)<|Ts rfl (st_not_f rfl)<|M rfl rfl<|No 14 rfl rfl rfl rfl rfl<|No 14 rfl rfl rfl rfl rfl<|No 14 rfl rfl rfl rfl rfl<|No 14 rfl rfl rfl rfl rfl<|Ts rfl (pT rfl rfl)<|Tn ?_
 obtain rfl := o1 hm
 exact xJ ⟨rfl, rfl, lr⟩ (.refl _)
 rintro E _ _ ⟨rfl, rfl, c⟩
 have hm := hk360
 refine Cc _ rfl (fun F => ?_) (fun F => ?_)
 rw [if_pos F] at hm
 refine Cr<|As rfl rfl<|Te<|Ct<|Xr ?_
 obtain rfl := o1 hm
 exact rM (rs := [.tmp 2]) (vs := [iv 4]) ⟨rfl, trivial⟩ ⟨rfl, rfl⟩ (.cons _ (.refl _)) c
 rw [if_neg (fun hh => Bool.noConfusion (hh.symm.trans F))] at hm
 refine Ck<|Xn<|Cs<|Cr<|Ts rfl (sF rfl fld42_1)<|Ts rfl (sL 0 rfl one39 rfl rfl)<|Ts rfl (sE rfl sl39)<|M rfl rfl<|Te<|Cb ?_
 have hb366 : a.Bands.length ≤ 9223372036854775807 := (FZ.bd (t.le c))
 obtain ⟨t497, hl498, p⟩ := bS hm
 refine cF (fun q => fun _ => fun y e' hp' => [(1, pb l), (21, sv f a.Bands g), (22, iv ((a.Bands.length : Int))), (23, iv ((q : Int)))] = e' ∧ (l, Cl 42 [bv a.ByKm, sv f a.Bands g, iv a.Round, sv i a.Rules k]) :: R = hp' ∧ E.Le y) hl498 ⟨rfl, rfl, lr⟩ (.refl _) ?_ ?_
 rintro q _ y _ _ oL365 hknL365 ⟨rfl, rfl, d⟩ hstepL365 houtL365
 unfold mFareCheckTariff_L365 at hstepL365
 have hm := hstepL365
 refine Cr<|Ts rfl (lT rfl rfl (by omega))<|Te<|Cs<|c_cond_t rfl<|Ck<|Xn<|Cs<|Cb<|Cr ?_
 refine M rfl rfl ?_
 obtain ⟨n, h501, hm⟩ := bS hm
 obtain ⟨j502, hj503, hx504⟩ := iS h501
 obtain ⟨cs505, hr506, hcs507, hA508, hlt509⟩ := FZ.get (sz := 2) rfl (by decide) (t.le (c.trans d)) hx504
 obtain ⟨_, _, rfl, rfl, rfl⟩ := hr506
 refine Ts rfl (sI j502 rfl rfl hj503 hlt509 hA508 sl39)<|Ts rfl (sP (vs := [iv n.Upto, iv n.Price]) 2 rfl agg50 hA508 rfl (fun j u hu => hcs507 j u hu))<|Do rfl (uA [iv 0, iv 0] zero50 rfl) ?_
 rintro _ _ ⟨g510, rfl, rfl⟩
 refine As rfl rfl<|Do rfl (uN (vs := [_, _]) 0 2 rfl rfl rfl siz50 rfl (mc rfl (mc rfl mn)) rfl (by simp)) ?_
 rintro _ _ rfl
 refine Te<|Cs ?_
 obtain ⟨x518, hj519, hk519⟩ := bS hm
 refine Cj (fun G e' hp' => [(1, pb l), (3, iv ((q : Int))), (4, pb g510), (21, sv f a.Bands g), (22, iv ((a.Bands.length : Int))), (23, iv ((q : Int))), (37, bv x518)] = e' ∧ (l, Cl 42 [bv a.ByKm, sv f a.Bands g, iv a.Round, sv i a.Rules k]) :: (g510, Cl 50 [iv n.Upto, iv n.Price]) :: R = hp' ∧ y.Le G) ?_ ?_
 have hm := hj519
 refine Cg<|Ts rfl (sF rfl fld50_0)<|Ts rfl (sL 0 rfl one3 rfl rfl) ?_
 obtain ⟨x520, hcl521, hm⟩ := bS hm
 refine Do rfl (uW _ call12 rfl (fun w ho => cFareWithin _ [] n.Upto 1 1000 x520 hcl521) (fun _ _ _ h => h.2.symm)) ?_
 rintro _ _ ⟨⟨_, rfl, _⟩, rfl⟩
 rcases Bool.eq_false_or_eq_true x520 with z | z
 rw [if_pos z] at hm
 refine Tr 30 rfl (v' := .bool true) (by rw [z] <;> rfl)<|Ts rfl (st_not_t rfl)<|M rfl rfl<|Ys 32 rfl rfl rfl<|Ts rfl (sF rfl fld50_1)<|Ys 32 rfl rfl rfl<|Ts rfl (sL 0 rfl one3 rfl rfl)<|Ys 32 rfl rfl rfl ?_
 obtain ⟨x523, hcl524, hm⟩ := bS hm
 refine Do rfl (uW _ call12 rfl (fun w ho => cFareWithin _ [] n.Price 0 100000 x523 hcl524) (fun _ _ _ h => h.2.symm)) ?_
 rintro _ _ ⟨⟨_, rfl, _⟩, rfl⟩
 refine Ys 32 rfl rfl rfl<|Ts rfl (sn2 rfl)<|Ts rfl (pF rfl rfl)<|Tn ?_
 obtain rfl := o1 hm
 refine Xp 1 rfl ?_
 exact xJ ⟨rfl, rfl, lr⟩ (.refl _)
 rw [if_neg (fun hh => Bool.noConfusion (hh.symm.trans z))] at hm
 refine Tr 30 rfl (v' := .bool false) (by rw [z] <;> rfl)<|Ts rfl (st_not_f rfl)<|M rfl rfl<|No 32 rfl rfl rfl rfl rfl<|No 32 rfl rfl rfl rfl rfl<|No 32 rfl rfl rfl rfl rfl<|No 32 rfl rfl rfl rfl rfl<|Ts rfl (pT rfl rfl)<|Tn ?_
 obtain rfl := o1 hm
 refine Xp 1 rfl ?_
 exact xJ ⟨rfl, rfl, lr⟩ (.refl _)
 rintro G _ _ ⟨rfl, rfl, r⟩
 have hm := hk519
 refine Cc _ rfl (fun H => ?_) (fun H => ?_)
 rw [if_pos H] at hm
 refine Cr<|As rfl rfl<|Te<|Ct<|Xr<|Xb<|Xr<|Xr<|Xb<|Xr ?_
 have hq526 := houtL365 _ (Option.some.inj hm).symm
 rw [hq526] at p
 have hm := elimR p
 obtain rfl := o1 hm
 exact rM (rs := [.tmp 2]) (vs := [iv 2]) ⟨rfl, trivial⟩ ⟨rfl, rfl⟩ (.cons _ (.cons _ (.refl _))) (c.trans (d.trans r))
 rw [if_neg (fun hh => Bool.noConfusion (hh.symm.trans H))] at hm
 refine Ck<|Xn ?_
 obtain ⟨x577, hj578, hk578⟩ := bS hm
 refine Cj (fun b575 e' hp' => [(1, pb l), (21, sv f a.Bands g), (22, iv ((a.Bands.length : Int))), (23, iv ((q : Int))), (63, bv x577)] = e' ∧ (l, Cl 42 [bv a.ByKm, sv f a.Bands g, iv a.Round, sv i a.Rules k]) :: R = hp' ∧ G.Le b575) ?_ ?_
 have hm := hj578
 by_cases A : 0 < (q : Int)
 rw [if_pos A] at hm
 obtain ⟨_, s, hm⟩ := bS hm
 obtain ⟨x605, h606, hm⟩ := bS hm
 by_cases C : n.Upto ≤ x605.Upto
 rw [if_pos C] at hm
 refine Di mixed (.refl _)<|E0 0 rfl (sM rfl)<|E0 1 rfl (st_gtr_t rfl rfl A)<|E0 2 rfl (sM rfl)<|Yz 3 40 rfl (sF rfl fld50_0)<|Ey 4 40 rfl (sL 1 rfl one3 rfl rfl)<|Yz 5 40 rfl (sF rfl fld42_1)<|Ey 6 40 rfl (sL 0 rfl one39 rfl rfl)<|Yz 7 40 rfl (sM rfl) ?_
 have s := (kS s).2
 refine Yz 8 40 rfl (sb rfl rfl s) ?_
 obtain ⟨I, J, K⟩ := iS h606
 obtain ⟨cs610, L, O, B, S⟩ := FZ.get (sz := 2) rfl (by decide) (t.le (c.trans (d.trans r))) K
 obtain ⟨_, _, rfl, rfl, rfl⟩ := L
 refine Yz 9 40 rfl (sI I rfl rfl J S B sl39)<|Yz 10 40 rfl (sQ rfl B fld50_0)<|Ey 11 40 rfl (sO rfl one3 (O 0 _ rfl))<|Yz 12 40 rfl (st_leq_t rfl rfl C)<|Yz 13 40 rfl (sM rfl)<|En 14 51 rfl rfl rfl<|En 15 51 rfl rfl rfl<|En 16 51 rfl rfl rfl<|En 17 51 rfl rfl rfl<|En 18 51 rfl rfl rfl ?_
 refine En 19 51 rfl rfl rfl<|En 20 51 rfl rfl rfl<|En 21 51 rfl rfl rfl<|En 22 51 rfl rfl rfl<|En 23 51 rfl rfl rfl<|Yz 24 40 rfl (pT rfl rfl)<|E0 25 rfl (pT rfl rfl)<|Eo<|Dd (by kernel_rfl) ?_
 obtain rfl := o1 hm
 exact xJ ⟨rfl, rfl, lr⟩ (.cons_cons _ (.cons _ (.refl _)))
 rw [if_neg C] at hm
 obtain ⟨_, T, hm⟩ := bS hm
 obtain ⟨x617, h618, hm⟩ := bS hm
 refine Di mixed (.refl _)<|E0 0 rfl (sM rfl)<|E0 1 rfl (st_gtr_t rfl rfl A)<|E0 2 rfl (sM rfl)<|Yz 3 40 rfl (sF rfl fld50_0)<|Ey 4 40 rfl (sL 1 rfl one3 rfl rfl)<|Yz 5 40 rfl (sF rfl fld42_1)<|Ey 6 40 rfl (sL 0 rfl one39 rfl rfl)<|Yz 7 40 rfl (sM rfl) ?_
 have s := (kS s).2
 refine Yz 8 40 rfl (sb rfl rfl s) ?_
 obtain ⟨I, J, K⟩ := iS h606
 obtain ⟨cs610, L, O, B, S⟩ := FZ.get (sz := 2) rfl (by decide) (t.le (c.trans (d.trans r))) K
 obtain ⟨_, _, rfl, rfl, rfl⟩ := L
 refine Yz 9 40 rfl (sI I rfl rfl J S B sl39)<|Yz 10 40 rfl (sQ rfl B fld50_0)<|Ey 11 40 rfl (sO rfl one3 (O 0 _ rfl))<|Yz 12 40 rfl (st_leq_f rfl rfl C)<|Yz 13 40 rfl (sM rfl)<|Yz 14 51 rfl (sF rfl fld50_1)<|Ey 15 51 rfl (sL 1 rfl one3 rfl rfl)<|Yz 16 51 rfl (sF rfl fld42_1)<|Ey 17 51 rfl (sL 0 rfl one39 rfl rfl)<|Yz 18 51 rfl (sM rfl) ?_
 have T := (kS T).2
 refine Yz 19 51 rfl (sb rfl rfl T) ?_
 obtain ⟨j619, hj620, hx621⟩ := iS h618
 obtain ⟨cs622, hr623, hcs624, hA625, hlt626⟩ := FZ.get (sz := 2) rfl (by decide) (t.le (c.trans (d.trans r))) hx621
 obtain ⟨_, _, rfl, rfl, rfl⟩ := hr623
 refine Yz 20 51 rfl (sI j619 rfl rfl hj620 hlt626 hA625 sl39)<|Yz 21 51 rfl (sQ rfl hA625 fld50_1)<|Ey 22 51 rfl (sO rfl one3 (hcs624 1 _ rfl))<|Yz 23 51 rfl (q3 rfl rfl)<|Yz 24 40 rfl (pF rfl rfl)<|E0 25 rfl (pT rfl rfl)<|Eo<|Dd (by kernel_rfl) ?_
 obtain rfl := o1 hm
 exact xJ ⟨rfl, rfl, lr⟩ (.cons_cons _ (.cons _ (.refl _)))
 rw [if_neg A] at hm
 refine Di mixed (.refl _)<|E0 0 rfl (sM rfl)<|E0 1 rfl (st_gtr_f rfl rfl A)<|E0 2 rfl (sM rfl)<|En 3 40 rfl rfl rfl<|En 4 40 rfl rfl rfl<|En 5 40 rfl rfl rfl<|En 6 40 rfl rfl rfl<|En 7 40 rfl rfl rfl<|En 8 40 rfl rfl rfl ?_
 refine En 9 40 rfl rfl rfl<|En 10 40 rfl rfl rfl<|En 11 40 rfl rfl rfl<|En 12 40 rfl rfl rfl<|En 13 40 rfl rfl rfl<|En 14 51 rfl rfl rfl<|En 15 51 rfl rfl rfl<|En 16 51 rfl rfl rfl<|En 17 51 rfl rfl rfl<|En 18 51 rfl rfl rfl ?_
 refine En 19 51 rfl rfl rfl<|En 20 51 rfl rfl rfl<|En 21 51 rfl rfl rfl<|En 22 51 rfl rfl rfl<|En 23 51 rfl rfl rfl<|En 24 40 rfl rfl rfl<|E0 25 rfl (pF rfl rfl)<|Eo<|Dd (by kernel_rfl) ?_
 obtain rfl := o1 hm
 exact xJ ⟨rfl, rfl, lr⟩ (.cons_cons _ (.cons _ (.refl _)))
 rintro b575 _ _ ⟨rfl, rfl, hle576⟩
 have hm := hk578
 refine Cc _ rfl (fun U => ?_) (fun U => ?_)
 rw [if_pos U] at hm
 refine Cr<|As rfl rfl<|Te<|Ct<|Xb<|Xr<|Xr<|Xb<|Xr ?_
 have hq628 := houtL365 _ (Option.some.inj hm).symm
 rw [hq628] at p
 have hm := elimR p
 obtain rfl := o1 hm
 exact rM (rs := [.tmp 2]) (vs := [iv 1]) ⟨rfl, trivial⟩ ⟨rfl, rfl⟩ (.cons _ (.refl _)) (c.trans (d.trans (r.trans hle576)))
 rw [if_neg (fun hh => Bool.noConfusion (hh.symm.trans U))] at hm
 refine Ck<|Xm<|Xn<|Cg<|Ts rfl (sa rfl rfl (by omega))<|M rfl rfl<|Tn ?_
 exact xM hm ⟨rfl, rfl, ((d.trans (r.trans hle576)))⟩ (.refl _)
 rintro _ y _ _ ⟨rfl, rfl, d⟩ hq629
 rw [hq629] at p
 have hm := elimL p
 refine Cr<|Ts rfl (lF rfl rfl (by omega))<|Te<|Cs<|c_cond_f rfl<|Ce<|Xe<|Xe<|Xo<|Xn ?_
 refine Cs<|Cr<|Ts rfl (sF rfl fld42_2)<|Ts rfl (sL 0 rfl one3 rfl rfl) ?_
 obtain ⟨x630, hcl631, hm⟩ := bS hm
 refine Do rfl (uW _ call12 rfl (fun w ho => cFareWithin _ [] a.Round 1 100 x630 hcl631) (fun _ _ _ h => h.2.symm)) ?_
 rintro _ _ ⟨⟨_, rfl, _⟩, rfl⟩
 refine Ts rfl (sn2 rfl)<|Te ?_
 refine Cc _ rfl (fun V => ?_) (fun V => ?_)
 rw [if_neg (fun hh => Bool.noConfusion (hh.symm.trans (nt V)))] at hm
 refine Cr<|As rfl rfl<|Te<|Ct<|Xr ?_
 obtain rfl := o1 hm
 exact rM (rs := [.tmp 2]) (vs := [iv 2]) ⟨rfl, trivial⟩ ⟨rfl, rfl⟩ (.cons _ (.refl _)) (c.trans d)
 rw [if_pos (nf V)] at hm
 refine Ck<|Xn<|Cs<|Cr<|Ts rfl (sF rfl fld42_3)<|Ts rfl (sL 0 rfl one40 rfl rfl)<|Ts rfl (sE rfl sl40)<|M rfl rfl<|Te<|Cb ?_
 have hb634 : a.Rules.length ≤ 9223372036854775807 := (FZ.bd (h7.le (c.trans d)))
 obtain ⟨t664, hl665, m⟩ := bS hm
 refine cF (fun W => fun _ => fun D e' hp' => [(70, sv i a.Rules k), (71, iv ((a.Rules.length : Int))), (72, iv ((W : Int)))] = e' ∧ R = hp' ∧ y.Le D) hl665 ⟨rfl, rfl, lr⟩ (.cons _ (.refl _)) ?_ ?_
 rintro W _ D _ _ oL633 hknL633 ⟨rfl, rfl, o⟩ hstepL633 X
 unfold mFareCheckTariff_L633 at hstepL633
 have hm := hstepL633
 refine Cr<|Ts rfl (lT rfl rfl (by omega))<|Te<|Cs<|c_cond_t rfl<|Ck<|Xn<|Cs<|Cb<|Cr ?_
 obtain ⟨e, h668, hm⟩ := bS hm
 obtain ⟨j669, hj670, hx671⟩ := iS h668
 obtain ⟨cs672, hr673, hcs674, hA675, hlt676⟩ := FZ.get (sz := 7) rfl (by decide) (h7.le (c.trans (d.trans o))) hx671
 obtain ⟨_, _, rfl, ⟨_, _, rfl, rfl, ⟨_, _, rfl, rfl, ⟨_, _, rfl, rfl, rfl⟩⟩⟩, ⟨_, _, rfl, rfl, ⟨_, _, rfl, rfl, rfl⟩⟩⟩ := hr673
 refine Ts rfl (sI j669 rfl rfl hj670 hlt676 hA675 sl40)<|Ts rfl (sP (vs := [iv e.If.Kind, iv e.If.A, iv e.If.B, sn, iv e.Do, iv e.N, bv e.Stop]) 7 rfl agg55 hA675 rfl (fun j u hu => hcs674 j u hu))<|Do rfl (uA [iv 0, iv 0, iv 0, sn, iv 0, iv 0, .bool false] zero55 rfl) ?_
 rintro _ _ ⟨g677, rfl, rfl⟩
 refine Do rfl (uN (vs := [_, _, _, _, _, _, _]) 0 7 rfl rfl rfl siz55 rfl (mc rfl (mc rfl (mc rfl (mc rfl (mc rfl (mc rfl (mc rfl mn))))))) rfl (by simp)) ?_
 rintro _ _ rfl
 refine Te<|Cs<|Cr<|Ts rfl (sF rfl fld55_0)<|Ts rfl (sD (vs := [_, _, _, _]) 0 4 rfl agg53 rfl rfl rfl) ?_
 obtain ⟨x678, hcl679, hm⟩ := bS hm
 refine Do rfl (uW _ call45 rfl (fun w ho => cFareCondCheck _ [] e.If x678 hcl679) (fun _ _ _ h => h.2.symm)) ?_
 rintro _ _ ⟨⟨_, rfl, _⟩, rfl⟩
 refine As rfl rfl<|Te<|Cr<|M rfl rfl<|Ts rfl (q2 rfl rfl)<|Te ?_
 refine Cc _ rfl (fun Y => ?_) (fun Y => ?_)
 rw [if_pos (of_decide_eq_true Y)] at hm
 refine Cr<|M rfl rfl<|As rfl rfl<|Te<|Ct<|Xr<|Xb<|Xr<|Xr<|Xb ?_
 refine Xr ?_
 have hq681 := X _ (Option.some.inj hm).symm
 rw [hq681] at m
 have hm := elimR m
 obtain rfl := o1 hm
 exact rM (rs := [.tmp 2]) (vs := [iv x678]) ⟨rfl, trivial⟩ ⟨rfl, rfl⟩ (.cons _ (.refl _)) (c.trans (d.trans o))
 rw [if_neg (of_decide_eq_false Y)] at hm
 refine Ck<|Xn<|Cr<|As rfl rfl<|Te ?_
 obtain ⟨x685, hj686, hk686⟩ := bS hm
 refine Cj (fun b683 e' hp' => [(6, pb g677), (8, iv x685), (70, sv i a.Rules k), (71, iv ((a.Rules.length : Int))), (72, iv ((W : Int)))] = e' ∧ (g677, Cl 55 [iv e.If.Kind, iv e.If.A, iv e.If.B, sn, iv e.Do, iv e.N, bv e.Stop]) :: R = hp' ∧ D.Le b683) ?_ ?_
 have hm := hj686
 refine Cr<|Ts rfl (sF rfl fld55_1)<|Ts rfl (sL 0 rfl one3 rfl rfl)<|Ts rfl (q1 rfl rfl)<|Te ?_
 refine Cc _ rfl (fun Z => ?_) (fun Z => ?_)
 rw [if_pos (of_decide_eq_true Z)] at hm
 refine Cg<|As rfl rfl<|Tn ?_
 obtain rfl := o1 hm
 exact xJ ⟨rfl, rfl, lr⟩ (.refl _)
 rw [if_neg (of_decide_eq_false Z)] at hm
 refine Ck ?_
 obtain rfl := o1 hm
 exact xJ ⟨rfl, rfl, lr⟩ (.refl _)
 rintro b683 _ _ ⟨rfl, rfl, aa⟩
 have hm := hk686
 refine Cb<|Cr<|Ts rfl (sF rfl fld55_1)<|Ts rfl (sL 0 rfl one3 rfl rfl) ?_
 obtain ⟨x688, hcl689, hm⟩ := bS hm
 refine Do rfl (uW _ call12 rfl (fun w ho => cFareWithin _ [] e.Do 1 6 x688 hcl689) (fun _ _ _ h => h.2.symm)) ?_
 rintro _ _ ⟨⟨_, rfl, _⟩, rfl⟩
 refine Ts rfl (sn2 rfl)<|As rfl rfl<|Te ?_
 refine Cc _ rfl (fun ab => ?_) (fun ab => ?_)
 rw [if_neg (fun hh => Bool.noConfusion (hh.symm.trans (nt ab)))] at hm
 refine Cr<|As rfl rfl<|Te<|Ct<|Xb<|Xb<|Xr<|Xr<|Xb<|Xr ?_
 have hq691 := X _ (Option.some.inj hm).symm
 rw [hq691] at m
 have hm := elimR m
 obtain rfl := o1 hm
 exact rM (rs := [.tmp 2]) (vs := [iv 15]) ⟨rfl, trivial⟩ ⟨rfl, rfl⟩ (.cons _ (.refl _)) (c.trans (d.trans (o.trans aa)))
 rw [if_pos (nf ab)] at hm
 refine Cr<|Ts rfl (sF rfl fld55_2)<|Ts rfl (sL 0 rfl one3 rfl rfl)<|M rfl rfl ?_
 obtain ⟨x692, hcl693, hm⟩ := bS hm
 refine Do rfl (uW _ call12 rfl (fun w ho => cFareWithin _ [] e.N 0 x685 x692 hcl693) (fun _ _ _ h => h.2.symm)) ?_
 rintro _ _ ⟨⟨_, rfl, _⟩, rfl⟩
 refine Ts rfl (sn2 rfl)<|As rfl rfl<|Te ?_
 refine Cc _ rfl (fun ac => ?_) (fun ac => ?_)
 rw [if_neg (fun hh => Bool.noConfusion (hh.symm.trans (nt ac)))] at hm
 refine Cr<|As rfl rfl<|Te<|Ct<|Xb<|Xb<|Xr<|Xr<|Xb<|Xr ?_
 have hq695 := X _ (Option.some.inj hm).symm
 rw [hq695] at m
 have hm := elimR m
 obtain rfl := o1 hm
 exact rM (rs := [.tmp 2]) (vs := [iv 2]) ⟨rfl, trivial⟩ ⟨rfl, rfl⟩ (.cons _ (.refl _)) (c.trans (d.trans (o.trans aa)))
 rw [if_pos (nf ac)] at hm
 refine Ck<|Xm<|Xm<|Xn<|Cg<|Ts rfl (sa rfl rfl (by omega))<|M rfl rfl<|Tn ?_
 exact xM hm ⟨rfl, rfl, ((o.trans aa))⟩ (.cons _ (.refl _))
 rintro _ D _ _ ⟨rfl, rfl, o⟩ hq696
 rw [hq696] at m
 have hm := elimL m
 refine Cr<|Ts rfl (lF rfl rfl (by omega))<|Te<|Cs<|c_cond_f rfl<|Ce<|Xe<|Xe<|Xo<|Xn ?_
 refine Cr<|As rfl rfl<|Te<|Ct ?_
 obtain rfl := o1 hm
 exact rM (rs := [.tmp 2]) (vs := [iv 0]) ⟨rfl, trivial⟩ ⟨rfl, rfl⟩ (.refl _) (c.trans (d.trans o))

set_option maxRecDepth 20000 in
theorem cFareCheckZones (b : Base) (R : Hp) (a : (List Int)) (g : Bool) (d : OA) (e : Nat) (j : FZ rI b.w d e a) (s : Int) (hm : mFareCheckZones a g = some s) :
    CallsG Tryz.prog 30 [sv d a e, bv g] b (R) (fun v b' hp' => iv s = v ∧ R = hp') := by
 refine fE 41 Tryz.func30 rfl Tryz.ntmps30 rfl ?_
 unfold mFareCheckZones at hm
 refine Cr<|As rfl rfl<|Te<|Cs<|Cr<|M rfl rfl<|Ts rfl (sE rfl sl22)<|M rfl rfl<|Te<|Cb ?_
 have am : a.length ≤ 9223372036854775807 := (FZ.bd j)
 obtain ⟨an, z, f⟩ := bS hm
 refine cF (fun l => fun _ => fun k e' hp' => [(0, sv d a e), (1, bv g), (7, sv d a e), (8, iv ((a.length : Int))), (9, iv ((l : Int)))] = e' ∧ R = hp' ∧ b.Le k) z ⟨rfl, rfl, lr⟩ (.refl _) ?_ ?_
 rintro l _ k _ _ ao aq ⟨rfl, rfl, c⟩ t u
 unfold mFareCheckZones_L154 at t
 have hm := t
 refine Cr<|Ts rfl (lT rfl rfl (by omega))<|Te<|Cs<|c_cond_t rfl<|Ck<|Xn<|Cs<|Cb<|Cr ?_
 refine M rfl rfl ?_
 obtain ⟨A, B, hm⟩ := bS hm
 obtain ⟨C, D, E⟩ := iS B
 obtain ⟨ar, F, G, H, I⟩ := FZ.get (sz := 1) rfl (by decide) (j.le c) E
 obtain rfl := F
 refine Ts rfl (sI C rfl rfl D I H sl22)<|Ts rfl (sO rfl one3 (G 0 _ rfl))<|As rfl rfl<|As rfl rfl<|Te<|Cs<|Cr<|M rfl rfl ?_
 obtain ⟨J, K, hm⟩ := bS hm
 refine Do rfl (uW _ call12 rfl (fun w ho => cFareWithin _ [] A 0 19 J K) (fun _ _ _ h => h.2.symm)) ?_
 rintro _ _ ⟨⟨_, rfl, _⟩, rfl⟩
 refine Ts rfl (sn2 rfl)<|Te ?_
 refine Cc _ rfl (fun m => ?_) (fun m => ?_)
 rw [if_neg (fun hh => Bool.noConfusion (hh.symm.trans (nt m)))] at hm
 refine Cr<|As rfl rfl<|Te<|Ct<|Xr<|Xb<|Xr<|Xr<|Xb<|Xr ?_
 have L := u _ (Option.some.inj hm).symm
 rw [L] at f
 have hm := elimR f
 obtain rfl := o1 hm
 exact rM (rs := [.tmp 4]) (vs := [iv 2]) ⟨rfl, trivial⟩ ⟨rfl, rfl⟩ (.refl _) c
 rw [if_pos (nf m)] at hm
 refine Ck<|Xn ?_
 obtain ⟨O, S, T⟩ := bS hm
 refine Cj (fun x e' hp' => [(0, sv d a e), (1, bv g), (7, sv d a e), (8, iv ((a.length : Int))), (9, iv ((l : Int))), (39, bv O)] = e' ∧ R = hp' ∧ k.Le x) ?_ ?_
 have hm := S
 refine Cg<|M rfl rfl ?_
 refine Tb rfl (q5 rfl rfl) (fun n => ?_) (fun n => ?_)
 rw [if_pos n] at hm
 refine M rfl rfl<|Ys 19 rfl rfl rfl<|M rfl rfl<|Ys 19 rfl rfl rfl<|M rfl rfl<|Ys 19 rfl rfl rfl<|M rfl rfl<|Ys 19 rfl rfl rfl ?_
 obtain ⟨_, o, hm⟩ := bS hm
 have o := (kS o).2
 refine Ts rfl (sb rfl rfl o)<|Ys 19 rfl rfl rfl ?_
 obtain ⟨au, U, hm⟩ := bS hm
 obtain ⟨V, W, X⟩ := iS U
 obtain ⟨av, Y, Z, aa, ab⟩ := FZ.get (sz := 1) rfl (by decide) (j.le c) X
 obtain rfl := Y
 refine Ts rfl (sI V rfl rfl W ab aa sl22)<|Ys 19 rfl rfl rfl<|Ts rfl (sO rfl one3 (Z 0 _ rfl))<|Ys 19 rfl rfl rfl ?_
 refine Tb rfl (q1 rfl rfl) (fun p => ?_) (fun p => ?_)
 rw [if_pos p] at hm
 refine Ys 19 rfl rfl rfl<|M rfl rfl<|No 27 rfl rfl rfl rfl rfl<|No 27 rfl rfl rfl rfl rfl<|No 29 rfl rfl rfl rfl rfl<|No 29 rfl rfl rfl rfl rfl<|No 29 rfl rfl rfl rfl rfl<|No 29 rfl rfl rfl rfl rfl<|No 29 rfl rfl rfl rfl rfl<|No 29 rfl rfl rfl rfl rfl ?_
 refine No 29 rfl rfl rfl rfl rfl<|No 27 rfl rfl rfl rfl rfl<|Ys 19 rfl rfl rfl<|Ts rfl (pT rfl rfl)<|Ts rfl (pT rfl rfl)<|Tn ?_
 obtain rfl := o1 hm
 exact xJ ⟨rfl, rfl, lr⟩ (.refl _)
 rw [if_neg p] at hm
 refine Ys 19 rfl rfl rfl<|M rfl rfl<|Ys 27 rfl rfl rfl<|M rfl rfl ?_
 rcases Bool.eq_false_or_eq_true g with i | i
 rw [if_pos i] at hm
 refine Tr 28 rfl (v' := .bool true) (by rw [i] <;> rfl)<|Ys 27 rfl rfl rfl<|M rfl rfl<|Ys 29 rfl rfl rfl<|M rfl rfl<|Ys 29 rfl rfl rfl<|M rfl rfl<|Ys 29 rfl rfl rfl<|M rfl rfl<|Ys 29 rfl rfl rfl ?_
 obtain ⟨_, q, hm⟩ := bS hm
 have q := (kS q).2
 refine Ts rfl (sb rfl rfl q)<|Ys 29 rfl rfl rfl ?_
 obtain ⟨aw, ac, hm⟩ := bS hm
 obtain ⟨ad, ae, af⟩ := iS ac
 obtain ⟨ax, ag, ah, ai, aj⟩ := FZ.get (sz := 1) rfl (by decide) (j.le c) af
 obtain rfl := ag
 refine Ts rfl (sI ad rfl rfl ae aj ai sl22)<|Ys 29 rfl rfl rfl<|Ts rfl (sO rfl one3 (ah 0 _ rfl))<|Ys 29 rfl rfl rfl<|Ts rfl (q3 rfl rfl)<|Ys 27 rfl rfl rfl<|Ts rfl (pT rfl rfl)<|Ys 19 rfl rfl rfl<|Ts rfl (pF rfl rfl)<|Ts rfl (pT rfl rfl) ?_
 refine Tn ?_
 obtain rfl := o1 hm
 exact xJ ⟨rfl, rfl, lr⟩ (.refl _)
 rw [if_neg (fun hh => Bool.noConfusion (hh.symm.trans i))] at hm
 refine Tr 28 rfl (v' := .bool false) (by rw [i] <;> rfl)<|Ys 27 rfl rfl rfl<|M rfl rfl<|No 29 rfl rfl rfl rfl rfl<|No 29 rfl rfl rfl rfl rfl<|No 29 rfl rfl rfl rfl rfl<|No 29 rfl rfl rfl rfl rfl<|No 29 rfl rfl rfl rfl rfl<|No 29 rfl rfl rfl rfl rfl<|No 29 rfl rfl rfl rfl rfl ?_
 refine Ys 27 rfl rfl rfl<|Ts rfl (pF rfl rfl)<|Ys 19 rfl rfl rfl<|Ts rfl (pF rfl rfl)<|Ts rfl (pT rfl rfl)<|Tn ?_
 obtain rfl := o1 hm
 exact xJ ⟨rfl, rfl, lr⟩ (.refl _)
 rw [if_neg n] at hm
 refine M rfl rfl<|No 19 rfl rfl rfl rfl rfl<|No 19 rfl rfl rfl rfl rfl<|No 19 rfl rfl rfl rfl rfl<|No 19 rfl rfl rfl rfl rfl<|No 19 rfl rfl rfl rfl rfl<|No 19 rfl rfl rfl rfl rfl<|No 19 rfl rfl rfl rfl rfl<|No 19 rfl rfl rfl rfl rfl<|No 27 rfl rfl rfl rfl rfl ?_
 refine No 27 rfl rfl rfl rfl rfl<|No 29 rfl rfl rfl rfl rfl<|No 29 rfl rfl rfl rfl rfl<|No 29 rfl rfl rfl rfl rfl<|No 29 rfl rfl rfl rfl rfl<|No 29 rfl rfl rfl rfl rfl<|No 29 rfl rfl rfl rfl rfl<|No 29 rfl rfl rfl rfl rfl<|No 27 rfl rfl rfl rfl rfl<|No 19 rfl rfl rfl rfl rfl ?_
 refine Ts rfl (pF rfl rfl)<|Tn ?_
 obtain rfl := o1 hm
 exact xJ ⟨rfl, rfl, lr⟩ (.refl _)
 rintro x _ _ ⟨rfl, rfl, y⟩
 have hm := T
 refine Cc _ rfl (fun r => ?_) (fun r => ?_)
 rw [if_pos r] at hm
 refine Cr<|As rfl rfl<|Te<|Ct<|Xb<|Xr<|Xr<|Xb<|Xr ?_
 have ak := u _ (Option.some.inj hm).symm
 rw [ak] at f
 have hm := elimR f
 obtain rfl := o1 hm
 exact rM (rs := [.tmp 4]) (vs := [iv 1]) ⟨rfl, trivial⟩ ⟨rfl, rfl⟩ (.refl _) (c.trans y)
 rw [if_neg (fun hh => Bool.noConfusion (hh.symm.trans r))] at hm
 refine Ck<|Xm<|Xn<|Cg<|Ts rfl (sa rfl rfl (by omega))<|M rfl rfl<|Tn ?_
 exact xM hm ⟨rfl, rfl, ((c.trans y))⟩ (.refl _)
 rintro _ k _ _ ⟨rfl, rfl, c⟩ al
 rw [al] at f
 have hm := elimL f
 refine Cr<|Ts rfl (lF rfl rfl (by omega))<|Te<|Cs<|c_cond_f rfl<|Ce<|Xe<|Xe<|Xo<|Xn ?_
 refine Cr<|As rfl rfl<|Te<|Ct ?_
 obtain rfl := o1 hm
 exact rM (rs := [.tmp 4]) (vs := [iv 0]) ⟨rfl, trivial⟩ ⟨rfl, rfl⟩ (.refl _) c

set_option maxRecDepth 20000 in
theorem cFareCheckTrip (b : Base) (R : Hp) (a : FareTrip) (f : OA) (g : Nat) (s : FZ rI b.w f g a.Zones) (l : Int) (hm : mFareCheckTrip a = some l) :
    CallsG Tryz.prog 28 [.agg #[iv a.Day, iv a.At, iv a.Km, iv a.Age, bv a.Card, sv f a.Zones g]] b (R) (fun v b' hp' => iv l = v ∧ R = hp') := by
 refine fE 35 Tryz.func28 rfl Tryz.ntmps28 rfl ?_
 unfold mFareCheckTrip at hm
 refine Cr<|Do rfl (uB _ rfl rfl) ?_
 rintro _ _ ⟨m, rfl, rfl⟩
 refine As rfl rfl<|Te<|Cs<|Cb ?_
 obtain ⟨t, u, x⟩ := bS hm
 refine Cj (fun n e' hp' => [(1, pb m), (3, bv t)] = e' ∧ (m, Cl 59 [iv a.Day, iv a.At, iv a.Km, iv a.Age, bv a.Card, sv f a.Zones g]) :: R = hp' ∧ b.Le n) ?_ ?_
 have hm := u
 refine Cg<|Ts rfl (sF rfl fld59_0)<|Ts rfl (sL 0 rfl one3 rfl rfl) ?_
 obtain ⟨o, y, hm⟩ := bS hm
 refine Do rfl (uW _ call12 rfl (fun w ho => cFareWithin _ [] a.Day 0 6 o y) (fun _ _ _ h => h.2.symm)) ?_
 rintro _ _ ⟨⟨_, rfl, _⟩, rfl⟩
 rcases Bool.eq_false_or_eq_true o with c | c
 rw [if_pos c] at hm
 refine Tr 6 rfl (v' := .bool true) (by rw [c] <;> rfl)<|Ts rfl (st_not_t rfl)<|M rfl rfl<|Ys 8 rfl rfl rfl<|Ts rfl (sF rfl fld59_1)<|Ys 8 rfl rfl rfl<|Ts rfl (sL 0 rfl one3 rfl rfl)<|Ys 8 rfl rfl rfl ?_
 obtain ⟨p, z, hm⟩ := bS hm
 refine Do rfl (uW _ call12 rfl (fun w ho => cFareWithin _ [] a.At 0 28800 p z) (fun _ _ _ h => h.2.symm)) ?_
 rintro _ _ ⟨⟨_, rfl, _⟩, rfl⟩
 rcases Bool.eq_false_or_eq_true p with d | d
 rw [if_pos d] at hm
 refine Tr 11 rfl (v' := .bool true) (by rw [d] <;> rfl)<|Ys 8 rfl rfl rfl<|Ts rfl (st_not_t rfl)<|Ts rfl (pF rfl rfl)<|M rfl rfl<|Ys 14 rfl rfl rfl<|Ts rfl (sF rfl fld59_2)<|Ys 14 rfl rfl rfl<|Ts rfl (sL 0 rfl one3 rfl rfl)<|Ys 14 rfl rfl rfl ?_
 obtain ⟨q, A, hm⟩ := bS hm
 refine Do rfl (uW _ call12 rfl (fun w ho => cFareWithin _ [] a.Km 0 1000 q A) (fun _ _ _ h => h.2.symm)) ?_
 rintro _ _ ⟨⟨_, rfl, _⟩, rfl⟩
 rcases Bool.eq_false_or_eq_true q with e | e
 rw [if_pos e] at hm
 refine Tr 17 rfl (v' := .bool true) (by rw [e] <;> rfl)<|Ys 14 rfl rfl rfl<|Ts rfl (st_not_t rfl)<|Ts rfl (pF rfl rfl)<|M rfl rfl<|Ys 20 rfl rfl rfl<|Ts rfl (sF rfl fld59_3)<|Ys 20 rfl rfl rfl<|Ts rfl (sL 0 rfl one3 rfl rfl)<|Ys 20 rfl rfl rfl ?_
 obtain ⟨B, C, hm⟩ := bS hm
 refine Do rfl (uW _ call12 rfl (fun w ho => cFareWithin _ [] a.Age 0 120 B C) (fun _ _ _ h => h.2.symm)) ?_
 rintro _ _ ⟨⟨_, rfl, _⟩, rfl⟩
 refine Ys 20 rfl rfl rfl<|Ts rfl (sn2 rfl)<|Ts rfl (pF rfl rfl)<|As rfl rfl<|Tn ?_
 obtain rfl := o1 hm
 exact xJ ⟨rfl, rfl, lr⟩ (.refl _)
 rw [if_neg (fun hh => Bool.noConfusion (hh.symm.trans e))] at hm
 refine Tr 17 rfl (v' := .bool false) (by rw [e] <;> rfl)<|Ys 14 rfl rfl rfl<|Ts rfl (st_not_f rfl)<|Ts rfl (pF rfl rfl)<|M rfl rfl<|No 20 rfl rfl rfl rfl rfl<|No 20 rfl rfl rfl rfl rfl<|No 20 rfl rfl rfl rfl rfl<|No 20 rfl rfl rfl rfl rfl<|Ts rfl (pT rfl rfl) ?_
 refine As rfl rfl<|Tn ?_
 obtain rfl := o1 hm
 exact xJ ⟨rfl, rfl, lr⟩ (.refl _)
 rw [if_neg (fun hh => Bool.noConfusion (hh.symm.trans d))] at hm
 refine Tr 11 rfl (v' := .bool false) (by rw [d] <;> rfl)<|Ys 8 rfl rfl rfl<|Ts rfl (st_not_f rfl)<|Ts rfl (pF rfl rfl)<|M rfl rfl<|No 14 rfl rfl rfl rfl rfl<|No 14 rfl rfl rfl rfl rfl<|No 14 rfl rfl rfl rfl rfl<|No 14 rfl rfl rfl rfl rfl<|Ts rfl (pT rfl rfl) ?_
 refine M rfl rfl<|No 20 rfl rfl rfl rfl rfl<|No 20 rfl rfl rfl rfl rfl<|No 20 rfl rfl rfl rfl rfl<|No 20 rfl rfl rfl rfl rfl<|Ts rfl (pT rfl rfl)<|As rfl rfl<|Tn ?_
 obtain rfl := o1 hm
 exact xJ ⟨rfl, rfl, lr⟩ (.refl _)
 rw [if_neg (fun hh => Bool.noConfusion (hh.symm.trans c))] at hm
 refine Tr 6 rfl (v' := .bool false) (by rw [c] <;> rfl)<|Ts rfl (st_not_f rfl)<|M rfl rfl<|No 8 rfl rfl rfl rfl rfl<|No 8 rfl rfl rfl rfl rfl<|No 8 rfl rfl rfl rfl rfl<|No 8 rfl rfl rfl rfl rfl<|Ts rfl (pT rfl rfl)<|M rfl rfl<|No 14 rfl rfl rfl rfl rfl ?_
 refine No 14 rfl rfl rfl rfl rfl<|No 14 rfl rfl rfl rfl rfl<|No 14 rfl rfl rfl rfl rfl<|Ts rfl (pT rfl rfl)<|M rfl rfl<|No 20 rfl rfl rfl rfl rfl<|No 20 rfl rfl rfl rfl rfl<|No 20 rfl rfl rfl rfl rfl<|No 20 rfl rfl rfl rfl rfl<|Ts rfl (pT rfl rfl) ?_
 refine As rfl rfl<|Tn ?_
 obtain rfl := o1 hm
 exact xJ ⟨rfl, rfl, lr⟩ (.refl _)
 rintro n _ _ ⟨rfl, rfl, i⟩
 have hm := x
 refine Cc _ rfl (fun j => ?_) (fun j => ?_)
 rw [if_pos j] at hm
 refine Cr<|As rfl rfl<|Te<|Ct<|Xb<|Xr ?_
 obtain rfl := o1 hm
 exact rM (rs := [.tmp 2]) (vs := [iv 2]) ⟨rfl, trivial⟩ ⟨rfl, rfl⟩ (.cons _ (.refl _)) i
 rw [if_neg (fun hh => Bool.noConfusion (hh.symm.trans j))] at hm
 refine Cr<|Ts rfl (sF rfl fld59_5)<|Ts rfl (sL 0 rfl one22 rfl rfl)<|Ts rfl (sE rfl sl22) ?_
 obtain ⟨D, E, hm⟩ := bS hm
 refine Do rfl (uW _ call12 rfl (fun w ho => cFareWithin _ [] (a.Zones.length : Int) 1 10 D E) (fun _ _ _ h => h.2.symm)) ?_
 rintro _ _ ⟨⟨_, rfl, _⟩, rfl⟩
 refine Ts rfl (sn2 rfl)<|As rfl rfl<|Te ?_
 refine Cc _ rfl (fun k => ?_) (fun k => ?_)
 rw [if_neg (fun hh => Bool.noConfusion (hh.symm.trans (nt k)))] at hm
 refine Cr<|As rfl rfl<|Te<|Ct<|Xb<|Xr ?_
 obtain rfl := o1 hm
 exact rM (rs := [.tmp 2]) (vs := [iv 4]) ⟨rfl, trivial⟩ ⟨rfl, rfl⟩ (.cons _ (.refl _)) i
 rw [if_pos (nf k)] at hm
 refine Ck<|Xm<|Xn<|Cr<|Ts rfl (sF rfl fld59_5)<|Ts rfl (sL 0 rfl one22 rfl rfl) ?_
 obtain ⟨r, F, hm⟩ := bS hm
 refine Do rfl (uW _ call30 rfl (fun w ho => cFareCheckZones _ [] a.Zones false f g ((s.le i).old ho) r F) (fun _ _ _ h => h.2.symm)) ?_
 rintro _ _ ⟨⟨_, rfl, _⟩, rfl⟩
 refine As rfl rfl<|Te<|Ct ?_
 obtain rfl := o1 hm
 exact rM (rs := [.tmp 2]) (vs := [iv r]) ⟨rfl, trivial⟩ ⟨rfl, rfl⟩ (.cons _ (.refl _)) i

set_option maxRecDepth 20000 in
theorem cFareTariffPrice_1 (b : Base) (R : Hp) (a : FareBand) (c : Int) (d : Nat) (e : Bool) (hm : mFareTariffPrice_1 a c = some e) :
    CallsG Tryz.prog 47 [.agg #[iv a.Upto, iv a.Price], pb d] b ((d, Cl 3 [iv c]) :: R) (fun v b' hp' => bv e = v ∧ (d, Cl 3 [iv c]) :: R = hp') := by
 refine fE 8 Tryz.func47 rfl Tryz.ntmps47 rfl ?_
 unfold mFareTariffPrice_1 at hm
 refine Cr<|Do rfl (uB _ rfl rfl) ?_
 rintro _ _ ⟨f, rfl, rfl⟩
 refine As rfl rfl<|Te<|Cr<|Ts rfl (sF rfl fld50_0)<|Ts rfl (sL 0 rfl one3 rfl rfl)<|Ts rfl (sL 1 rfl one3 rfl rfl)<|Ts rfl (q6 rfl rfl)<|As rfl rfl<|Te<|Ct ?_
 obtain rfl := o1 hm
 refine Xp 1 rfl ?_
 exact rM (rs := [.tmp 3]) (vs := [.bool (decide (c ≤ a.Upto))]) ⟨rfl, trivial⟩ ⟨rfl, rfl⟩ (.cons_cons _ (.cons _ (.refl _))) lr

set_option maxRecDepth 20000 in
theorem cSlicesIndexFunc (b : Base) (R : Hp) (c : (List FareBand)) (d : Int) (a : Nat) (h : OA) (i : Nat) (n : FZ rFareBand b.w h i c) (o : Int) (hm : mSlicesIndexFunc c d = some o) :
    CallsG Tryz.prog 46 [sv h c i, .func (.func 47) #[] #[pb a]] b ((a, Cl 3 [iv d]) :: R) (fun v b' hp' => iv o = v ∧ (a, Cl 3 [iv d]) :: R = hp') := by
 refine fE 19 Tryz.func46 rfl Tryz.ntmps46 rfl ?_
 unfold mSlicesIndexFunc at hm
 refine Cr<|As rfl rfl<|Te<|Cs<|Cr<|M rfl rfl<|Ts rfl (sE rfl sl39)<|M rfl rfl<|Te<|Cb ?_
 have H : c.length ≤ 9223372036854775807 := (FZ.bd n)
 obtain ⟨I, s, g⟩ := bS hm
 refine cF (fun k => fun _ => fun l e' hp' => [(0, sv h c i), (1, .func (.func 47) #[] #[pb a]), (7, iv ((c.length : Int))), (8, iv ((k : Int)))] = e' ∧ (a, Cl 3 [iv d]) :: R = hp' ∧ b.Le l) s ⟨rfl, rfl, lr⟩ (.refl _) ?_ ?_
 rintro k _ l _ _ J K ⟨rfl, rfl, e⟩ p t
 unfold mSlicesIndexFunc_L48 at p
 have hm := p
 refine Cr<|Ts rfl (lT rfl rfl (by omega))<|Te<|Cs<|c_cond_t rfl<|Ck<|Xn<|Cs<|Cb<|Cr ?_
 refine M rfl rfl<|As rfl rfl<|Te<|Cr<|M rfl rfl<|M rfl rfl<|M rfl rfl ?_
 obtain ⟨f, w, hm⟩ := bS hm
 obtain ⟨x, y, z⟩ := iS w
 obtain ⟨L, A, B, q, C⟩ := FZ.get (sz := 2) rfl (by decide) (n.le e) z
 obtain ⟨_, _, rfl, rfl, rfl⟩ := A
 refine Ts rfl (sI x rfl rfl y C q sl39)<|Ts rfl (sP (vs := [iv f.Upto, iv f.Price]) 2 rfl agg50 q rfl (fun j u hu => B j u hu)) ?_
 obtain ⟨D, E, hm⟩ := bS hm
 refine Tv #[] #[pb a] [.agg #[iv f.Upto, iv f.Price]] rfl rfl call47 rfl (cFareTariffPrice_1 _ _ f d a D E) ?_
 rintro _ O _ r ⟨rfl, rfl⟩
 refine Te ?_
 refine Cc _ rfl (fun m => ?_) (fun m => ?_)
 rw [if_pos m] at hm
 refine Cr<|M rfl rfl<|As rfl rfl<|Te<|Ct<|Xb<|Xr<|Xr<|Xb<|Xr ?_
 have F := t _ (Option.some.inj hm).symm
 rw [F] at g
 have hm := elimR g
 obtain rfl := o1 hm
 exact rM (rs := [.tmp 4]) (vs := [iv ((k : Int))]) ⟨rfl, trivial⟩ ⟨rfl, rfl⟩ (.refl _) (e.trans r)
 rw [if_neg (fun hh => Bool.noConfusion (hh.symm.trans m))] at hm
 refine Ck<|Xm<|Xn<|Cg<|Ts rfl (sa rfl rfl (by omega))<|M rfl rfl<|Tn ?_
 exact xM hm ⟨rfl, rfl, ((e.trans r))⟩ (.refl _)
 rintro _ l _ _ ⟨rfl, rfl, e⟩ G
 rw [G] at g
 have hm := elimL g
 refine Cr<|Ts rfl (lF rfl rfl (by omega))<|Te<|Cs<|c_cond_f rfl<|Ce<|Xe<|Xe<|Xo<|Xn ?_
 refine Cr<|As rfl rfl<|Te<|Ct ?_
 obtain rfl := o1 hm
 exact rM (rs := [.tmp 4]) (vs := [iv ((-1))]) ⟨rfl, trivial⟩ ⟨rfl, rfl⟩ (.refl _) e

set_option maxRecDepth 20000 in
theorem cFareCondHolds_1 (b : Base) (R : Hp) (f : Int) (g : Int) (c : Int) (d : Int) (a : (List FareCond)) (i : Nat) (e : OA) (j : Nat) (k : Hp) (o : OS 53 (OT.fr rFareCond) b.w (sv e a j) a k) (p : (e = none ↔ a = [])) (l : Bool) (hm : mFareCondHolds_1 f g c d a = some l) :
    CallsG Tryz.prog 62 [iv f, pb i] b ((i, Cl 53 [iv g, iv c, iv d, sv e a j]) :: (k ++ R)) (fun v b' hp' => bv l = v ∧ (i, Cl 53 [iv g, iv c, iv d, sv e a j]) :: (k ++ R) = hp') := by
 refine fE 10 Tryz.func62 rfl Tryz.ntmps62 rfl ?_
 unfold mFareCondHolds_1 at hm
 refine Cr<|As rfl rfl<|Te<|Cr<|M rfl rfl<|Ts rfl (sF rfl fld53_1)<|Ts rfl (sL 0 rfl one3 rfl rfl)<|Ts rfl (sF rfl fld53_2)<|Ts rfl (sL 0 rfl one3 rfl rfl) ?_
 obtain ⟨m, n, hm⟩ := bS hm
 refine Do rfl (uW _ call12 rfl (fun w ho => cFareWithin _ [] f c d m n) (fun _ _ _ h => h.2.symm)) ?_
 rintro _ _ ⟨⟨_, rfl, _⟩, rfl⟩
 refine As rfl rfl<|Te<|Ct ?_
 obtain rfl := o1 hm
 exact rM (rs := [.tmp 3]) (vs := [bv m]) ⟨rfl, trivial⟩ ⟨rfl, rfl⟩ (.refl _) lr

set_option maxRecDepth 20000 in
theorem cSlicesIndex (b : Base) (R : Hp) (a : (List Int)) (e : Int) (f : OA) (g : Nat) (k : FZ rI b.w f g a) (l : Int) (hm : mSlicesIndex a e = some l) :
    CallsG Tryz.prog 84 [sv f a g, iv e] b (R) (fun v b' hp' => iv l = v ∧ R = hp') := by
 refine fE 19 Tryz.func84 rfl Tryz.ntmps84 rfl ?_
 unfold mSlicesIndex at hm
 refine Cr<|As rfl rfl<|Te<|Cs<|Cr<|M rfl rfl<|Ts rfl (sE rfl sl22)<|M rfl rfl<|Te<|Cb ?_
 have A : a.length ≤ 9223372036854775807 := (FZ.bd k)
 obtain ⟨B, n, d⟩ := bS hm
 refine cF (fun h => fun _ => fun i e' hp' => [(0, sv f a g), (1, iv e), (7, iv ((a.length : Int))), (8, iv ((h : Int)))] = e' ∧ R = hp' ∧ b.Le i) n ⟨rfl, rfl, lr⟩ (.refl _) ?_ ?_
 rintro h _ i _ _ C D ⟨rfl, rfl, c⟩ m o
 unfold mSlicesIndex_L39 at m
 have hm := m
 refine Cr<|Ts rfl (lT rfl rfl (by omega))<|Te<|Cs<|c_cond_t rfl<|Ck<|Xn<|Cs<|Cb<|Cr ?_
 refine M rfl rfl<|As rfl rfl<|Te<|Cr<|M rfl rfl<|M rfl rfl<|M rfl rfl ?_
 obtain ⟨E, p, hm⟩ := bS hm
 obtain ⟨q, r, s⟩ := iS p
 obtain ⟨F, t, u, w, x⟩ := FZ.get (sz := 1) rfl (by decide) (k.le c) s
 obtain rfl := t
 refine Ts rfl (sI q rfl rfl r x w sl22)<|Ts rfl (sO rfl one3 (u 0 _ rfl))<|Ts rfl (q1 rfl rfl)<|Te ?_
 refine Cc _ rfl (fun j => ?_) (fun j => ?_)
 rw [if_pos (of_decide_eq_true j)] at hm
 refine Cr<|M rfl rfl<|As rfl rfl<|Te<|Ct<|Xb<|Xr<|Xr<|Xb<|Xr ?_
 have y := o _ (Option.some.inj hm).symm
 rw [y] at d
 have hm := elimR d
 obtain rfl := o1 hm
 exact rM (rs := [.tmp 4]) (vs := [iv ((h : Int))]) ⟨rfl, trivial⟩ ⟨rfl, rfl⟩ (.refl _) c
 rw [if_neg (of_decide_eq_false j)] at hm
 refine Ck<|Xm<|Xn<|Cg<|Ts rfl (sa rfl rfl (by omega))<|M rfl rfl<|Tn ?_
 exact xM hm ⟨rfl, rfl, (c)⟩ (.refl _)
 rintro _ i _ _ ⟨rfl, rfl, c⟩ z
 rw [z] at d
 have hm := elimL d
 refine Cr<|Ts rfl (lF rfl rfl (by omega))<|Te<|Cs<|c_cond_f rfl<|Ce<|Xe<|Xe<|Xo<|Xn ?_
 refine Cr<|As rfl rfl<|Te<|Ct ?_
 obtain rfl := o1 hm
 exact rM (rs := [.tmp 4]) (vs := [iv ((-1))]) ⟨rfl, trivial⟩ ⟨rfl, rfl⟩ (.refl _) c

set_option maxRecDepth 20000 in
theorem cSlicesContains (b : Base) (R : Hp) (a : (List Int)) (c : Int) (d : OA) (e : Nat) (i : FZ rI b.w d e a) (f : Bool) (hm : mSlicesContains a c = some f) :
    CallsG Tryz.prog 63 [sv d a e, iv c] b (R) (fun v b' hp' => bv f = v ∧ R = hp') := by
 refine fE 9 Tryz.func63 rfl Tryz.ntmps63 rfl ?_
 unfold mSlicesContains at hm
 refine Cr<|As rfl rfl<|Te<|Cr<|M rfl rfl<|M rfl rfl ?_
 obtain ⟨g, j, hm⟩ := bS hm
 refine Do rfl (uW _ call84 rfl (fun w ho => cSlicesIndex _ [] a c d e (i.old ho) g j) (fun _ _ _ h => h.2.symm)) ?_
 rintro _ _ ⟨⟨_, rfl, _⟩, rfl⟩
 refine Ts rfl (q6 rfl rfl)<|As rfl rfl<|Te<|Ct ?_
 obtain rfl := o1 hm
 exact rM (rs := [.tmp 4]) (vs := [.bool (decide (0 ≤ g))]) ⟨rfl, trivial⟩ ⟨rfl, rfl⟩ (.refl _) lr

set_option maxRecDepth 20000 in
theorem cFareCondHolds_2_5 (rcmFareCondHolds : (FareCond) → (FareTrip) → Option (Bool)) (ihmFareCondHolds : ∀ (b : Base) (R : Hp) (d : FareCond) (a : FareTrip) (n : OA) (o : Nat) (u : FZ rI b.w n o a.Zones) (p : Bool) (hm : rcmFareCondHolds d a = some p),
    CallsG Tryz.prog 48 [.agg #[iv d.Kind, iv d.A, iv d.B, sn], .agg #[iv a.Day, iv a.At, iv a.Km, iv a.Age, bv a.Card, sv n a.Zones o]] b (R) (fun v b' hp' => bv p = v ∧ R = hp')) (b : Base) (R : Hp) (a : FareCond) (e : Int) (f : Int) (g : Int) (i : Int) (j : Bool) (c : (List Int)) (m : Nat) (k : OA) (l : Nat) (s : FZ rI b.w k l c) (q : Bool) (hm : mFareCondHolds_2_5 rcmFareCondHolds a e f g i j c = some q) :
    CallsG Tryz.prog 65 [.agg #[iv a.Kind, iv a.A, iv a.B, sn], pb m] b ((m, Cl 59 [iv e, iv f, iv g, iv i, bv j, sv k c l]) :: R) (fun v b' hp' => bv q = v ∧ (m, Cl 59 [iv e, iv f, iv g, iv i, bv j, sv k c l]) :: R = hp') := by
 refine fE 8 Tryz.func65 rfl Tryz.ntmps65 rfl ?_
 unfold mFareCondHolds_2_5 at hm
 refine Cr<|Do rfl (uB _ rfl rfl) ?_
 rintro _ _ ⟨x, rfl, rfl⟩
 refine As rfl rfl<|Te<|Cr<|Ts rfl (sD (vs := [_, _, _, _]) 0 4 rfl agg53 rfl rfl rfl)<|Ts rfl (sD (vs := [_, _, _, _, _, _]) 1 6 rfl agg59 rfl rfl rfl) ?_
 obtain ⟨r, t, hm⟩ := bS hm
 refine Do rfl (uW _ call48 rfl (fun w ho => ihmFareCondHolds _ [] a (⟨e, f, g, i, j, c⟩ : FareTrip) k l (s.old ho) r t) (fun _ _ _ h => h.2.symm)) ?_
 rintro _ _ ⟨⟨_, rfl, _⟩, rfl⟩
 refine Ts rfl (sn2 rfl)<|As rfl rfl<|Te<|Ct ?_
 obtain rfl := o1 hm
 refine Xp 1 rfl ?_
 exact rM (rs := [.tmp 3]) (vs := [.bool (!r)]) ⟨rfl, trivial⟩ ⟨rfl, rfl⟩ (.cons_cons _ (.cons _ (.refl _))) lr

set_option maxRecDepth 20000 in
theorem cSlicesIndexFunc_2 (rcmFareCondHolds : (FareCond) → (FareTrip) → Option (Bool)) (ihmFareCondHolds : ∀ (b : Base) (R : Hp) (p : FareCond) (a : FareTrip) (y : OA) (z : Nat) (Z : FZ rI b.w y z a.Zones) (A : Bool) (hm : rcmFareCondHolds p a = some A),
    CallsG Tryz.prog 48 [.agg #[iv p.Kind, iv p.A, iv p.B, sn], .agg #[iv a.Day, iv a.At, iv a.Km, iv a.Age, bv a.Card, sv y a.Zones z]] b (R) (fun v b' hp' => bv A = v ∧ R = hp')) (b : Base) (R : Hp) (e : (List FareCond)) (h : Int) (i : Int) (k : Int) (l : Int) (m : Bool) (f : (List Int)) (c : Nat) (r : OA) (s : Nat) (n : OA) (o : Nat) (B : FZ rFareCond b.w r s e) (G : FZ rI b.w n o f) (C : Int) (hm : mSlicesIndexFunc_2 rcmFareCondHolds e h i k l m f = some C) :
    CallsG Tryz.prog 85 [sv r e s, .func (.func 65) #[] #[pb c]] b ((c, Cl 59 [iv h, iv i, iv k, iv l, bv m, sv n f o]) :: R) (fun v b' hp' => iv C = v ∧ (c, Cl 59 [iv h, iv i, iv k, iv l, bv m, sv n f o]) :: R = hp') := by
 refine fE 19 Tryz.func85 rfl Tryz.ntmps85 rfl ?_
 unfold mSlicesIndexFunc_2 at hm
 refine Cr<|As rfl rfl<|Te<|Cs<|Cr<|M rfl rfl<|Ts rfl (sE rfl sl51)<|M rfl rfl<|Te<|Cb ?_
 have aa : e.length ≤ 9223372036854775807 := (FZ.bd B)
 obtain ⟨ab, H, q⟩ := bS hm
 refine cF (fun t => fun _ => fun w e' hp' => [(0, sv r e s), (1, .func (.func 65) #[] #[pb c]), (7, iv ((e.length : Int))), (8, iv ((t : Int)))] = e' ∧ (c, Cl 59 [iv h, iv i, iv k, iv l, bv m, sv n f o]) :: R = hp' ∧ b.Le w) H ⟨rfl, rfl, lr⟩ (.refl _) ?_ ?_
 rintro t _ w _ _ ac ad ⟨rfl, rfl, g⟩ D I
 unfold mSlicesIndexFunc_2_L56 at D
 have hm := D
 refine Cr<|Ts rfl (lT rfl rfl (by omega))<|Te<|Cs<|c_cond_t rfl<|Ck<|Xn<|Cs<|Cb<|Cr ?_
 refine M rfl rfl<|As rfl rfl<|Te<|Cr<|M rfl rfl<|M rfl rfl<|M rfl rfl ?_
 obtain ⟨d, J, hm⟩ := bS hm
 obtain ⟨K, L, O⟩ := iS J
 obtain ⟨ae, S, T, E, U⟩ := FZ.get (sz := 4) rfl (by decide) (B.le g) O
 obtain ⟨_, _, rfl, rfl, ⟨_, _, rfl, rfl, ⟨_, _, rfl, rfl, rfl⟩⟩⟩ := S
 refine Ts rfl (sI K rfl rfl L U E sl51)<|Ts rfl (sP (vs := [iv d.Kind, iv d.A, iv d.B, sn]) 4 rfl agg53 E rfl (fun j u hu => T j u hu)) ?_
 obtain ⟨V, W, hm⟩ := bS hm
 refine Tv #[] #[pb c] [.agg #[iv d.Kind, iv d.A, iv d.B, sn]] rfl rfl call65 rfl (cFareCondHolds_2_5 rcmFareCondHolds ihmFareCondHolds _ _ d h i k l m f c n o (G.le g) V W) ?_
 rintro _ af _ F ⟨rfl, rfl⟩
 refine Te ?_
 refine Cc _ rfl (fun x => ?_) (fun x => ?_)
 rw [if_pos x] at hm
 refine Cr<|M rfl rfl<|As rfl rfl<|Te<|Ct<|Xb<|Xr<|Xr<|Xb<|Xr ?_
 have X := I _ (Option.some.inj hm).symm
 rw [X] at q
 have hm := elimR q
 obtain rfl := o1 hm
 exact rM (rs := [.tmp 4]) (vs := [iv ((t : Int))]) ⟨rfl, trivial⟩ ⟨rfl, rfl⟩ (.refl _) (g.trans F)
 rw [if_neg (fun hh => Bool.noConfusion (hh.symm.trans x))] at hm
 refine Ck<|Xm<|Xn<|Cg<|Ts rfl (sa rfl rfl (by omega))<|M rfl rfl<|Tn ?_
 exact xM hm ⟨rfl, rfl, ((g.trans F))⟩ (.refl _)
 rintro _ w _ _ ⟨rfl, rfl, g⟩ Y
 rw [Y] at q
 have hm := elimL q
 refine Cr<|Ts rfl (lF rfl rfl (by omega))<|Te<|Cs<|c_cond_f rfl<|Ce<|Xe<|Xe<|Xo<|Xn ?_
 refine Cr<|As rfl rfl<|Te<|Ct ?_
 obtain rfl := o1 hm
 exact rM (rs := [.tmp 4]) (vs := [iv ((-1))]) ⟨rfl, trivial⟩ ⟨rfl, rfl⟩ (.refl _) g

set_option maxRecDepth 20000 in
theorem cSlicesContainsFunc (rcmFareCondHolds : (FareCond) → (FareTrip) → Option (Bool)) (ihmFareCondHolds : ∀ (b : Base) (R : Hp) (d : FareCond) (a : FareTrip) (p : OA) (q : Nat) (z : FZ rI b.w p q a.Zones) (r : Bool) (hm : rcmFareCondHolds d a = some r),
    CallsG Tryz.prog 48 [.agg #[iv d.Kind, iv d.A, iv d.B, sn], .agg #[iv a.Day, iv a.At, iv a.Km, iv a.Age, bv a.Card, sv p a.Zones q]] b (R) (fun v b' hp' => bv r = v ∧ R = hp')) (b : Base) (R : Hp) (e : (List FareCond)) (f : Int) (g : Int) (h : Int) (i : Int) (j : Bool) (c : (List Int)) (k : Nat) (n : OA) (o : Nat) (l : OA) (m : Nat) (u : FZ rFareCond b.w n o e) (w : FZ rI b.w l m c) (s : Bool) (hm : mSlicesContainsFunc rcmFareCondHolds e f g h i j c = some s) :
    CallsG Tryz.prog 64 [sv n e o, .func (.func 65) #[] #[pb k]] b ((k, Cl 59 [iv f, iv g, iv h, iv i, bv j, sv l c m]) :: R) (fun v b' hp' => bv s = v ∧ (k, Cl 59 [iv f, iv g, iv h, iv i, bv j, sv l c m]) :: R = hp') := by
 refine fE 9 Tryz.func64 rfl Tryz.ntmps64 rfl ?_
 unfold mSlicesContainsFunc at hm
 refine Cr<|As rfl rfl<|Te<|Cr<|M rfl rfl<|M rfl rfl ?_
 obtain ⟨t, x, hm⟩ := bS hm
 refine Tg _ rfl call85 rfl (cSlicesIndexFunc_2 rcmFareCondHolds ihmFareCondHolds _ _ e f g h i j c k n o l m u w t x) ?_
 rintro _ A _ y ⟨rfl, rfl⟩
 refine Ts rfl (q6 rfl rfl)<|As rfl rfl<|Te<|Ct ?_
 obtain rfl := o1 hm
 exact rM (rs := [.tmp 4]) (vs := [.bool (decide (0 ≤ t))]) ⟨rfl, trivial⟩ ⟨rfl, rfl⟩ (.refl _) y

set_option maxRecDepth 20000 in
theorem cFareCondHolds_3_5 (rcmFareCondHolds : (FareCond) → (FareTrip) → Option (Bool)) (ihmFareCondHolds : ∀ (b : Base) (R : Hp) (d : FareCond) (a : FareTrip) (n : OA) (o : Nat) (u : FZ rI b.w n o a.Zones) (p : Bool) (hm : rcmFareCondHolds d a = some p),
    CallsG Tryz.prog 48 [.agg #[iv d.Kind, iv d.A, iv d.B, sn], .agg #[iv a.Day, iv a.At, iv a.Km, iv a.Age, bv a.Card, sv n a.Zones o]] b (R) (fun v b' hp' => bv p = v ∧ R = hp')) (b : Base) (R : Hp) (a : FareCond) (e : Int) (f : Int) (g : Int) (i : Int) (j : Bool) (c : (List Int)) (m : Nat) (k : OA) (l : Nat) (s : FZ rI b.w k l c) (q : Bool) (hm : mFareCondHolds_3_5 rcmFareCondHolds a e f g i j c = some q) :
    CallsG Tryz.prog 66 [.agg #[iv a.Kind, iv a.A, iv a.B, sn], pb m] b ((m, Cl 59 [iv e, iv f, iv g, iv i, bv j, sv k c l]) :: R) (fun v b' hp' => bv q = v ∧ (m, Cl 59 [iv e, iv f, iv g, iv i, bv j, sv k c l]) :: R = hp') := by
 refine fE 7 Tryz.func66 rfl Tryz.ntmps66 rfl ?_
 unfold mFareCondHolds_3_5 at hm
 refine Cr<|Do rfl (uB _ rfl rfl) ?_
 rintro _ _ ⟨x, rfl, rfl⟩
 refine As rfl rfl<|Te<|Cr<|Ts rfl (sD (vs := [_, _, _, _]) 0 4 rfl agg53 rfl rfl rfl)<|Ts rfl (sD (vs := [_, _, _, _, _, _]) 1 6 rfl agg59 rfl rfl rfl) ?_
 obtain ⟨r, t, hm⟩ := bS hm
 refine Do rfl (uW _ call48 rfl (fun w ho => ihmFareCondHolds _ [] a (⟨e, f, g, i, j, c⟩ : FareTrip) k l (s.old ho) r t) (fun _ _ _ h => h.2.symm)) ?_
 rintro _ _ ⟨⟨_, rfl, _⟩, rfl⟩
 refine As rfl rfl<|Te<|Ct ?_
 obtain rfl := o1 hm
 refine Xp 1 rfl ?_
 exact rM (rs := [.tmp 3]) (vs := [bv r]) ⟨rfl, trivial⟩ ⟨rfl, rfl⟩ (.cons_cons _ (.cons _ (.refl _))) lr

set_option maxRecDepth 20000 in
theorem cSlicesIndexFunc_3 (rcmFareCondHolds : (FareCond) → (FareTrip) → Option (Bool)) (ihmFareCondHolds : ∀ (b : Base) (R : Hp) (p : FareCond) (a : FareTrip) (y : OA) (z : Nat) (Z : FZ rI b.w y z a.Zones) (A : Bool) (hm : rcmFareCondHolds p a = some A),
    CallsG Tryz.prog 48 [.agg #[iv p.Kind, iv p.A, iv p.B, sn], .agg #[iv a.Day, iv a.At, iv a.Km, iv a.Age, bv a.Card, sv y a.Zones z]] b (R) (fun v b' hp' => bv A = v ∧ R = hp')) (b : Base) (R : Hp) (e : (List FareCond)) (h : Int) (i : Int) (k : Int) (l : Int) (m : Bool) (f : (List Int)) (c : Nat) (r : OA) (s : Nat) (n : OA) (o : Nat) (B : FZ rFareCond b.w r s e) (G : FZ rI b.w n o f) (C : Int) (hm : mSlicesIndexFunc_3 rcmFareCondHolds e h i k l m f = some C) :
    CallsG Tryz.prog 85 [sv r e s, .func (.func 66) #[] #[pb c]] b ((c, Cl 59 [iv h, iv i, iv k, iv l, bv m, sv n f o]) :: R) (fun v b' hp' => iv C = v ∧ (c, Cl 59 [iv h, iv i, iv k, iv l, bv m, sv n f o]) :: R = hp') := by
 refine fE 19 Tryz.func85 rfl Tryz.ntmps85 rfl ?_
 unfold mSlicesIndexFunc_3 at hm
 refine Cr<|As rfl rfl<|Te<|Cs<|Cr<|M rfl rfl<|Ts rfl (sE rfl sl51)<|M rfl rfl<|Te<|Cb ?_
 have aa : e.length ≤ 9223372036854775807 := (FZ.bd B)
 obtain ⟨ab, H, q⟩ := bS hm
 refine cF (fun t => fun _ => fun w e' hp' => [(0, sv r e s), (1, .func (.func 66) #[] #[pb c]), (7, iv ((e.length : Int))), (8, iv ((t : Int)))] = e' ∧ (c, Cl 59 [iv h, iv i, iv k, iv l, bv m, sv n f o]) :: R = hp' ∧ b.Le w) H ⟨rfl, rfl, lr⟩ (.refl _) ?_ ?_
 rintro t _ w _ _ ac ad ⟨rfl, rfl, g⟩ D I
 unfold mSlicesIndexFunc_3_L56 at D
 have hm := D
 refine Cr<|Ts rfl (lT rfl rfl (by omega))<|Te<|Cs<|c_cond_t rfl<|Ck<|Xn<|Cs<|Cb<|Cr ?_
 refine M rfl rfl<|As rfl rfl<|Te<|Cr<|M rfl rfl<|M rfl rfl<|M rfl rfl ?_
 obtain ⟨d, J, hm⟩ := bS hm
 obtain ⟨K, L, O⟩ := iS J
 obtain ⟨ae, S, T, E, U⟩ := FZ.get (sz := 4) rfl (by decide) (B.le g) O
 obtain ⟨_, _, rfl, rfl, ⟨_, _, rfl, rfl, ⟨_, _, rfl, rfl, rfl⟩⟩⟩ := S
 refine Ts rfl (sI K rfl rfl L U E sl51)<|Ts rfl (sP (vs := [iv d.Kind, iv d.A, iv d.B, sn]) 4 rfl agg53 E rfl (fun j u hu => T j u hu)) ?_
 obtain ⟨V, W, hm⟩ := bS hm
 refine Tv #[] #[pb c] [.agg #[iv d.Kind, iv d.A, iv d.B, sn]] rfl rfl call66 rfl (cFareCondHolds_3_5 rcmFareCondHolds ihmFareCondHolds _ _ d h i k l m f c n o (G.le g) V W) ?_
 rintro _ af _ F ⟨rfl, rfl⟩
 refine Te ?_
 refine Cc _ rfl (fun x => ?_) (fun x => ?_)
 rw [if_pos x] at hm
 refine Cr<|M rfl rfl<|As rfl rfl<|Te<|Ct<|Xb<|Xr<|Xr<|Xb<|Xr ?_
 have X := I _ (Option.some.inj hm).symm
 rw [X] at q
 have hm := elimR q
 obtain rfl := o1 hm
 exact rM (rs := [.tmp 4]) (vs := [iv ((t : Int))]) ⟨rfl, trivial⟩ ⟨rfl, rfl⟩ (.refl _) (g.trans F)
 rw [if_neg (fun hh => Bool.noConfusion (hh.symm.trans x))] at hm
 refine Ck<|Xm<|Xn<|Cg<|Ts rfl (sa rfl rfl (by omega))<|M rfl rfl<|Tn ?_
 exact xM hm ⟨rfl, rfl, ((g.trans F))⟩ (.refl _)
 rintro _ w _ _ ⟨rfl, rfl, g⟩ Y
 rw [Y] at q
 have hm := elimL q
 refine Cr<|Ts rfl (lF rfl rfl (by omega))<|Te<|Cs<|c_cond_f rfl<|Ce<|Xe<|Xe<|Xo<|Xn ?_
 refine Cr<|As rfl rfl<|Te<|Ct ?_
 obtain rfl := o1 hm
 exact rM (rs := [.tmp 4]) (vs := [iv ((-1))]) ⟨rfl, trivial⟩ ⟨rfl, rfl⟩ (.refl _) g

set_option maxRecDepth 20000 in
theorem cSlicesContainsFunc_2 (rcmFareCondHolds : (FareCond) → (FareTrip) → Option (Bool)) (ihmFareCondHolds : ∀ (b : Base) (R : Hp) (d : FareCond) (a : FareTrip) (p : OA) (q : Nat) (z : FZ rI b.w p q a.Zones) (r : Bool) (hm : rcmFareCondHolds d a = some r),
    CallsG Tryz.prog 48 [.agg #[iv d.Kind, iv d.A, iv d.B, sn], .agg #[iv a.Day, iv a.At, iv a.Km, iv a.Age, bv a.Card, sv p a.Zones q]] b (R) (fun v b' hp' => bv r = v ∧ R = hp')) (b : Base) (R : Hp) (e : (List FareCond)) (f : Int) (g : Int) (h : Int) (i : Int) (j : Bool) (c : (List Int)) (k : Nat) (n : OA) (o : Nat) (l : OA) (m : Nat) (u : FZ rFareCond b.w n o e) (w : FZ rI b.w l m c) (s : Bool) (hm : mSlicesContainsFunc_2 rcmFareCondHolds e f g h i j c = some s) :
    CallsG Tryz.prog 64 [sv n e o, .func (.func 66) #[] #[pb k]] b ((k, Cl 59 [iv f, iv g, iv h, iv i, bv j, sv l c m]) :: R) (fun v b' hp' => bv s = v ∧ (k, Cl 59 [iv f, iv g, iv h, iv i, bv j, sv l c m]) :: R = hp') := by
 refine fE 9 Tryz.func64 rfl Tryz.ntmps64 rfl ?_
 unfold mSlicesContainsFunc_2 at hm
 refine Cr<|As rfl rfl<|Te<|Cr<|M rfl rfl<|M rfl rfl ?_
 obtain ⟨t, x, hm⟩ := bS hm
 refine Tg _ rfl call85 rfl (cSlicesIndexFunc_3 rcmFareCondHolds ihmFareCondHolds _ _ e f g h i j c k n o l m u w t x) ?_
 rintro _ A _ y ⟨rfl, rfl⟩
 refine Ts rfl (q6 rfl rfl)<|As rfl rfl<|Te<|Ct ?_
 obtain rfl := o1 hm
 exact rM (rs := [.tmp 4]) (vs := [.bool (decide (0 ≤ t))]) ⟨rfl, trivial⟩ ⟨rfl, rfl⟩ (.refl _) y

set_option maxRecDepth 20000 in
theorem cFareCondHolds : ∀ (N : Nat) (b : Base) (R : Hp) (c : FareCond) (a : FareTrip) (d : OA) (e : Nat) (f : FZ rI b.w d e a.Zones) (i : Bool) (hm : mFareCondHolds N c a = some i),
    CallsG Tryz.prog 48 [.agg #[iv c.Kind, iv c.A, iv c.B, sn], .agg #[iv a.Day, iv a.At, iv a.Km, iv a.Age, bv a.Card, sv d a.Zones e]] b (R) (fun v b' hp' => bv i = v ∧ R = hp') := by
  intro N
  induction N with
  | zero =>
    intro b R c a d e f i hm
    unfold mFareCondHolds at hm
    cases hm
  | succ N ih =>
   intro b R c a d e f i hm
   refine fE 89 Tryz.func48 rfl Tryz.ntmps48 rfl ?_
   unfold mFareCondHolds at hm
   refine Cr<|Do rfl (uB _ rfl rfl) ?_
   rintro _ _ ⟨g, rfl, rfl⟩
   refine Do rfl (uB _ rfl rfl) ?_
   rintro _ _ ⟨C, rfl, rfl⟩
   refine As rfl rfl<|Te<|Cr<|Ts rfl (st_func _ _ rfl rfl)<|As rfl rfl<|Te<|Cs<|Cr<|Ts rfl (sF rfl fld53_0)<|Ts rfl (sL 1 rfl one3 rfl rfl) ?_
   refine Te<|Cb<|Cr<|Ts rfl (q1 rfl rfl)<|As rfl rfl<|Te ?_
   refine Cc _ rfl (fun l => ?_) (fun l => ?_)
   rw [if_pos (of_decide_eq_true l)] at hm
   refine Cr<|Ts rfl (sF rfl fld59_4)<|Ts rfl (sL 0 rfl one4 rfl rfl)<|As rfl rfl<|Te<|Ct<|Xb<|Xr ?_
   obtain rfl := o1 hm
   exact rM (rs := [.tmp 4]) (vs := [bv a.Card]) ⟨rfl, trivial⟩ ⟨rfl, rfl⟩ (.cons _ (.cons _ (.refl _))) lr
   rw [if_neg (of_decide_eq_false l)] at hm
   refine Cr<|Ts rfl (q1 rfl rfl)<|As rfl rfl<|Te ?_
   refine Cc _ rfl (fun m => ?_) (fun m => ?_)
   rw [if_pos (of_decide_eq_true m)] at hm
   refine Cr<|M rfl rfl<|Ts rfl (sF rfl fld59_3)<|Ts rfl (sL 0 rfl one3 rfl rfl) ?_
   obtain ⟨D, O, hm⟩ := bS hm
   refine t_pullb 1 rfl<|Tv #[] #[pb g] [iv a.Age] rfl rfl call62 rfl (cFareCondHolds_1 _ _ a.Age c.Kind c.A c.B [] g none 0 [] OS.nil ⟨fun _ => rfl, fun _ => rfl⟩ D O) ?_
   rintro _ aH _ S ⟨rfl, rfl⟩
   refine As rfl rfl<|Te<|Ct<|Xb<|Xr ?_
   obtain rfl := o1 hm
   exact rM (rs := [.tmp 4]) (vs := [bv D]) ⟨rfl, trivial⟩ ⟨rfl, rfl⟩ (.cons _ (.cons _ (.refl _))) S
   rw [if_neg (of_decide_eq_false m)] at hm
   refine Cr<|Ts rfl (q1 rfl rfl)<|As rfl rfl<|Te ?_
   refine Cc _ rfl (fun n => ?_) (fun n => ?_)
   rw [if_pos (of_decide_eq_true n)] at hm
   refine Cr<|M rfl rfl<|Ts rfl (sF rfl fld59_1)<|Ts rfl (sL 0 rfl one3 rfl rfl) ?_
   obtain ⟨E, T, hm⟩ := bS hm
   refine t_pullb 1 rfl<|Tv #[] #[pb g] [iv a.At] rfl rfl call62 rfl (cFareCondHolds_1 _ _ a.At c.Kind c.A c.B [] g none 0 [] OS.nil ⟨fun _ => rfl, fun _ => rfl⟩ E T) ?_
   rintro _ aI _ U ⟨rfl, rfl⟩
   refine As rfl rfl<|Te<|Ct<|Xb<|Xr ?_
   obtain rfl := o1 hm
   exact rM (rs := [.tmp 4]) (vs := [bv E]) ⟨rfl, trivial⟩ ⟨rfl, rfl⟩ (.cons _ (.cons _ (.refl _))) U
   rw [if_neg (of_decide_eq_false n)] at hm
   refine Cr<|Ts rfl (q1 rfl rfl)<|As rfl rfl<|Te ?_
   refine Cc _ rfl (fun o => ?_) (fun o => ?_)
   rw [if_pos (of_decide_eq_true o)] at hm
   refine Cr<|M rfl rfl<|Ts rfl (sF rfl fld59_2)<|Ts rfl (sL 0 rfl one3 rfl rfl) ?_
   obtain ⟨F, V, hm⟩ := bS hm
   refine t_pullb 1 rfl<|Tv #[] #[pb g] [iv a.Km] rfl rfl call62 rfl (cFareCondHolds_1 _ _ a.Km c.Kind c.A c.B [] g none 0 [] OS.nil ⟨fun _ => rfl, fun _ => rfl⟩ F V) ?_
   rintro _ aJ _ W ⟨rfl, rfl⟩
   refine As rfl rfl<|Te<|Ct<|Xb<|Xr ?_
   obtain rfl := o1 hm
   exact rM (rs := [.tmp 4]) (vs := [bv F]) ⟨rfl, trivial⟩ ⟨rfl, rfl⟩ (.cons _ (.cons _ (.refl _))) W
   rw [if_neg (of_decide_eq_false o)] at hm
   refine Cr<|Ts rfl (q1 rfl rfl)<|As rfl rfl<|Te ?_
   refine Cc _ rfl (fun p => ?_) (fun p => ?_)
   rw [if_pos (of_decide_eq_true p)] at hm
   refine Cr<|M rfl rfl<|Ts rfl (sF rfl fld59_5)<|Ts rfl (sL 0 rfl one22 rfl rfl)<|Ts rfl (sE rfl sl22) ?_
   obtain ⟨G, X, hm⟩ := bS hm
   refine t_pullb 1 rfl<|Tv #[] #[pb g] [iv ((a.Zones.length : Int))] rfl rfl call62 rfl (cFareCondHolds_1 _ _ (a.Zones.length : Int) c.Kind c.A c.B [] g none 0 [] OS.nil ⟨fun _ => rfl, fun _ => rfl⟩ G X) ?_
   rintro _ aK _ Y ⟨rfl, rfl⟩
   refine As rfl rfl<|Te<|Ct<|Xb<|Xr ?_
   obtain rfl := o1 hm
   exact rM (rs := [.tmp 4]) (vs := [bv G]) ⟨rfl, trivial⟩ ⟨rfl, rfl⟩ (.cons _ (.cons _ (.refl _))) Y
   rw [if_neg (of_decide_eq_false p)] at hm
   refine Cr<|Ts rfl (q1 rfl rfl)<|As rfl rfl<|Te ?_
   refine Cc _ rfl (fun q => ?_) (fun q => ?_)
   rw [if_pos (of_decide_eq_true q)] at hm
   refine Cr<|Ts rfl (sF rfl fld59_5)<|Ts rfl (sL 0 rfl one22 rfl rfl)<|Ts rfl (sF rfl fld53_1)<|Ts rfl (sL 1 rfl one3 rfl rfl) ?_
   obtain ⟨H, Z, hm⟩ := bS hm
   refine Do rfl (uW _ call63 rfl (fun w ho => cSlicesContains _ [] a.Zones c.A d e (f.old ho) H Z) (fun _ _ _ h => h.2.symm)) ?_
   rintro _ _ ⟨⟨_, rfl, _⟩, rfl⟩
   refine As rfl rfl<|Te<|Ct<|Xb<|Xr ?_
   obtain rfl := o1 hm
   exact rM (rs := [.tmp 4]) (vs := [bv H]) ⟨rfl, trivial⟩ ⟨rfl, rfl⟩ (.cons _ (.cons _ (.refl _))) lr
   rw [if_neg (of_decide_eq_false q)] at hm
   refine Cr<|Ts rfl (q1 rfl rfl)<|As rfl rfl<|Te ?_
   refine Cc _ rfl (fun s => ?_) (fun s => ?_)
   rw [if_pos (of_decide_eq_true s)] at hm
   refine Cs ?_
   obtain ⟨aa, ab, hm⟩ := bS hm
   refine Di mixed (.refl _)<|E0 0 rfl (sF rfl fld59_5)<|Es 1 rfl (sL 0 rfl one22 rfl rfl) ?_
   obtain ⟨ac, ad, ae⟩ := iS ab
   obtain ⟨aL, af, ag, ah, ai⟩ := FZ.get (sz := 1) rfl (by decide) f ae
   obtain rfl := af
   refine E0 2 rfl (sI ac rfl rfl ad ai ah sl22)<|Es 3 rfl (sO rfl one3 (ag 0 _ rfl))<|E0 4 rfl (sF rfl fld53_1)<|Es 5 rfl (sL 1 rfl one3 rfl rfl)<|E0 6 rfl (q1 rfl rfl)<|E0 7 rfl (sA rfl)<|Eo<|Dd (by kernel_rfl)<|Xn<|Ct ?_
   refine Xb<|Xr ?_
   obtain rfl := o1 hm
   exact rM (rs := [.tmp 4]) (vs := [.bool (decide (aa = c.A))]) ⟨rfl, trivial⟩ ⟨rfl, rfl⟩ (.cons _ (.cons _ (.refl _))) lr
   rw [if_neg (of_decide_eq_false s)] at hm
   refine Cr<|Ts rfl (q1 rfl rfl)<|As rfl rfl<|Te ?_
   refine Cc _ rfl (fun t => ?_) (fun t => ?_)
   rw [if_pos (of_decide_eq_true t)] at hm
   refine Cs ?_
   obtain ⟨_, x, hm⟩ := bS hm
   obtain ⟨aj, ak, hm⟩ := bS hm
   refine Di mixed (.refl _)<|E0 0 rfl (sF rfl fld59_5)<|Es 1 rfl (sL 0 rfl one22 rfl rfl)<|E0 2 rfl (sF rfl fld59_5)<|Es 3 rfl (sL 0 rfl one22 rfl rfl)<|E0 4 rfl (sE rfl sl22) ?_
   have x := (kS x).2
   refine E0 5 rfl (sb rfl rfl x) ?_
   obtain ⟨al, am, an⟩ := iS ak
   obtain ⟨aM, ao, aq, ar, au⟩ := FZ.get (sz := 1) rfl (by decide) f an
   obtain rfl := ao
   refine E0 6 rfl (sI al rfl rfl am au ar sl22)<|Es 7 rfl (sO rfl one3 (aq 0 _ rfl))<|E0 8 rfl (sF rfl fld53_1)<|Es 9 rfl (sL 1 rfl one3 rfl rfl)<|E0 10 rfl (q1 rfl rfl)<|E0 11 rfl (sA rfl)<|Eo<|Dd (by kernel_rfl)<|Xn<|Ct ?_
   refine Xb<|Xr ?_
   obtain rfl := o1 hm
   exact rM (rs := [.tmp 4]) (vs := [.bool (decide (aj = c.A))]) ⟨rfl, trivial⟩ ⟨rfl, rfl⟩ (.cons _ (.cons _ (.refl _))) lr
   rw [if_neg (of_decide_eq_false t)] at hm
   refine Cr<|Ts rfl (q1 rfl rfl)<|As rfl rfl<|Te ?_
   refine Cc _ rfl (fun y => ?_) (fun y => ?_)
   rw [if_pos (of_decide_eq_true y)] at hm
   refine Cs ?_
   obtain ⟨k, av, hm⟩ := bS hm
   obtain ⟨I, aw, hm⟩ := bS hm
   refine Di mixed (.refl _)<|E0 0 rfl (sF rfl fld53_3)<|Es 1 rfl (sL 1 rfl one51 rfl rfl) ?_
   obtain ⟨ax, ay, az⟩ := iS av
   obtain ⟨aN, aA, aB, J, aC⟩ := FZ.get (sz := 4) rfl (by decide) (FZ.nil (r := rFareCond) (A := none)) az
   obtain ⟨_, _, rfl, rfl, ⟨_, _, rfl, rfl, ⟨_, _, rfl, rfl, rfl⟩⟩⟩ := aA
   refine E0 2 rfl (sI ax rfl rfl ay aC J sl51)<|Es 3 rfl (sP (vs := [iv k.Kind, iv k.A, iv k.B, sn]) 4 rfl agg53 J rfl (fun j u hu => aB j u hu))<|Es 4 rfl (sD (vs := [_, _, _, _, _, _]) 0 6 rfl agg59 rfl rfl rfl)<|Eo<|Da [5] (by kernel_rfl) rfl ?_
   refine Rd2 lr rfl rfl (uW _ call48 rfl (fun w ho => ih _ [] k a d e (f.old ho) I aw) (fun _ _ _ h => h.2.symm)) ?_ ?_
   rintro _ _ ⟨⟨_, rfl, _⟩, rfl⟩
   refine ⟨.inr (.refl _), ?_⟩
   refine Ei lr (.refl _)<|E0 6 rfl (sn2 rfl)<|E0 7 rfl (sA rfl)<|Eo<|Dd (by kernel_rfl)<|Xn<|Ct<|Xb<|Xr ?_
   obtain rfl := o1 hm
   exact rM (rs := [.tmp 4]) (vs := [.bool (!I)]) ⟨rfl, trivial⟩ ⟨rfl, rfl⟩ (.cons _ (.cons _ (.refl _))) lr
   exact Rn
   rw [if_neg (of_decide_eq_false y)] at hm
   refine Cr<|Ts rfl (q1 rfl rfl)<|As rfl rfl<|Te ?_
   refine Cc _ rfl (fun z => ?_) (fun z => ?_)
   rw [if_pos (of_decide_eq_true z)] at hm
   refine Cr<|Ts rfl (sF rfl fld53_3)<|Ts rfl (sL 1 rfl one51 rfl rfl)<|Ts rfl (st_func _ _ rfl rfl) ?_
   obtain ⟨K, aD, hm⟩ := bS hm
   refine Tg _ rfl call64 rfl (cSlicesContainsFunc (mFareCondHolds N) ih _ _ [] a.Day a.At a.Km a.Age a.Card a.Zones C none 0 d e FZ.nil f K aD) ?_
   rintro _ aO _ aE ⟨rfl, rfl⟩
   refine Ts rfl (sn2 rfl)<|As rfl rfl<|Te<|Ct<|Xb<|Xr ?_
   obtain rfl := o1 hm
   exact rM (rs := [.tmp 4]) (vs := [.bool (!K)]) ⟨rfl, trivial⟩ ⟨rfl, rfl⟩ (.cons _ (.cons _ (.refl _))) aE
   rw [if_neg (of_decide_eq_false z)] at hm
   refine Cr<|Ts rfl (q1 rfl rfl)<|As rfl rfl<|Te ?_
   refine Cc _ rfl (fun B => ?_) (fun B => ?_)
   rw [if_pos (of_decide_eq_true B)] at hm
   refine Cr<|Ts rfl (sF rfl fld53_3)<|Ts rfl (sL 1 rfl one51 rfl rfl)<|Ts rfl (st_func _ _ rfl rfl) ?_
   obtain ⟨L, aF, hm⟩ := bS hm
   refine Tg _ rfl call64 rfl (cSlicesContainsFunc_2 (mFareCondHolds N) ih _ _ [] a.Day a.At a.Km a.Age a.Card a.Zones C none 0 d e FZ.nil f L aF) ?_
   rintro _ aP _ aG ⟨rfl, rfl⟩
   refine As rfl rfl<|Te<|Ct<|Xb<|Xr ?_
   obtain rfl := o1 hm
   exact rM (rs := [.tmp 4]) (vs := [bv L]) ⟨rfl, trivial⟩ ⟨rfl, rfl⟩ (.cons _ (.cons _ (.refl _))) aG
   rw [if_neg (of_decide_eq_false B)] at hm
   refine Ck<|Xm<|Xn<|Cr<|As rfl rfl<|Te<|Ct ?_
   obtain rfl := o1 hm
   exact rM (rs := [.tmp 4]) (vs := [bv true]) ⟨rfl, trivial⟩ ⟨rfl, rfl⟩ (.cons _ (.cons _ (.refl _))) lr

set_option maxRecDepth 20000 in
theorem cFareRuleChange (b : Base) (R : Hp) (a : FareRule) (c : Int) (m : Int) (hm : mFareRuleChange a c = some m) :
    CallsG Tryz.prog 49 [.agg #[iv a.If.Kind, iv a.If.A, iv a.If.B, sn, iv a.Do, iv a.N, bv a.Stop], iv c] b (R) (fun v b' hp' => iv m = v ∧ R = hp') := by
 refine fE 43 Tryz.func49 rfl Tryz.ntmps49 rfl ?_
 unfold mFareRuleChange at hm
 refine Cr<|Do rfl (uB _ rfl rfl) ?_
 rintro _ _ ⟨o, rfl, rfl⟩
 refine As rfl rfl<|Te<|Cs<|Cr<|Ts rfl (sF rfl fld55_1)<|Ts rfl (sL 0 rfl one3 rfl rfl)<|Te<|Cb<|Cr<|Ts rfl (q1 rfl rfl) ?_
 refine As rfl rfl<|Te ?_
 refine Cc _ rfl (fun d => ?_) (fun d => ?_)
 rw [if_pos (of_decide_eq_true d)] at hm
 refine Cr<|M rfl rfl<|Ts rfl (sF rfl fld55_2)<|Ts rfl (sL 0 rfl one3 rfl rfl) ?_
 obtain ⟨_, e, hm⟩ := bS hm
 have e := (kS e).2
 refine Ts rfl (st_mul rfl rfl e) ?_
 obtain ⟨_, n, hm⟩ := bS hm
 obtain ⟨_, f, hm⟩ := bS hm
 have f := (kS f).2
 refine Ts rfl (st_quo rfl rfl (ne0_some n) f)<|Ts rfl (st_min rfl rfl)<|As rfl rfl<|Te<|Ct<|Xb<|Xr ?_
 obtain rfl := o1 hm
 exact rM (rs := [.tmp 4]) (vs := [iv (min 100000 (Int.tdiv (c * a.N) 100))]) ⟨rfl, trivial⟩ ⟨rfl, rfl⟩ (.cons _ (.refl _)) lr
 rw [if_neg (of_decide_eq_false d)] at hm
 refine Cr<|Ts rfl (q1 rfl rfl)<|As rfl rfl<|Te ?_
 refine Cc _ rfl (fun g => ?_) (fun g => ?_)
 rw [if_pos (of_decide_eq_true g)] at hm
 refine Cr<|M rfl rfl<|Ts rfl (sF rfl fld55_2)<|Ts rfl (sL 0 rfl one3 rfl rfl) ?_
 obtain ⟨_, h, hm⟩ := bS hm
 have h := (kS h).2
 refine Ts rfl (sb rfl rfl h)<|Ts rfl (st_max rfl rfl)<|As rfl rfl<|Te<|Ct<|Xb<|Xr ?_
 obtain rfl := o1 hm
 exact rM (rs := [.tmp 4]) (vs := [iv (max 0 (c - a.N))]) ⟨rfl, trivial⟩ ⟨rfl, rfl⟩ (.cons _ (.refl _)) lr
 rw [if_neg (of_decide_eq_false g)] at hm
 refine Cr<|Ts rfl (q1 rfl rfl)<|As rfl rfl<|Te ?_
 refine Cc _ rfl (fun i => ?_) (fun i => ?_)
 rw [if_pos (of_decide_eq_true i)] at hm
 refine Cr<|M rfl rfl<|Ts rfl (sF rfl fld55_2)<|Ts rfl (sL 0 rfl one3 rfl rfl) ?_
 obtain ⟨_, j, hm⟩ := bS hm
 have j := (kS j).2
 refine Ts rfl (sa rfl rfl j)<|Ts rfl (st_min rfl rfl)<|As rfl rfl<|Te<|Ct<|Xb<|Xr ?_
 obtain rfl := o1 hm
 exact rM (rs := [.tmp 4]) (vs := [iv (min 100000 (c + a.N))]) ⟨rfl, trivial⟩ ⟨rfl, rfl⟩ (.cons _ (.refl _)) lr
 rw [if_neg (of_decide_eq_false i)] at hm
 refine Cr<|Ts rfl (q1 rfl rfl)<|As rfl rfl<|Te ?_
 refine Cc _ rfl (fun k => ?_) (fun k => ?_)
 rw [if_pos (of_decide_eq_true k)] at hm
 refine Cr<|Ts rfl (sF rfl fld55_2)<|Ts rfl (sL 0 rfl one3 rfl rfl)<|As rfl rfl<|Te<|Ct<|Xb<|Xr ?_
 obtain rfl := o1 hm
 exact rM (rs := [.tmp 4]) (vs := [iv a.N]) ⟨rfl, trivial⟩ ⟨rfl, rfl⟩ (.cons _ (.refl _)) lr
 rw [if_neg (of_decide_eq_false k)] at hm
 refine Cr<|Ts rfl (q1 rfl rfl)<|As rfl rfl<|Te ?_
 refine Cc _ rfl (fun l => ?_) (fun l => ?_)
 rw [if_pos (of_decide_eq_true l)] at hm
 refine Cr<|M rfl rfl<|Ts rfl (sF rfl fld55_2)<|Ts rfl (sL 0 rfl one3 rfl rfl)<|Ts rfl (st_min rfl rfl)<|As rfl rfl<|Te<|Ct<|Xb<|Xr ?_
 obtain rfl := o1 hm
 exact rM (rs := [.tmp 4]) (vs := [iv (min c a.N)]) ⟨rfl, trivial⟩ ⟨rfl, rfl⟩ (.cons _ (.refl _)) lr
 rw [if_neg (of_decide_eq_false l)] at hm
 refine Ck<|Xm<|Xn<|Cr<|M rfl rfl<|Ts rfl (sF rfl fld55_2)<|Ts rfl (sL 0 rfl one3 rfl rfl)<|Ts rfl (st_max rfl rfl)<|As rfl rfl<|Te ?_
 refine Ct ?_
 obtain rfl := o1 hm
 exact rM (rs := [.tmp 4]) (vs := [iv (max c a.N)]) ⟨rfl, trivial⟩ ⟨rfl, rfl⟩ (.cons _ (.refl _)) lr

set_option maxRecDepth 20000 in
theorem cFareTariffPrice (b : Base) (R : Hp) (a : FareTariff) (c : FareTrip) (f : OA) (g : Nat) (k : OA) (m : Nat) (o : OA) (p : Nat) (h4 : FZ rFareBand b.w f g a.Bands) (h7 : FZ rFareRule b.w k m a.Rules) (h11 : FZ rI b.w o p c.Zones) (x256 : Int) (F : (List Int)) (hm : mFareTariffPrice a c = some (x256, F)) :
    CallsG Tryz.prog 29 [.agg #[bv a.ByKm, sv f a.Bands g, iv a.Round, sv k a.Rules m], .agg #[iv c.Day, iv c.At, iv c.Km, iv c.Age, bv c.Card, sv o c.Zones p]] b (R) (fun v b' hp' => ∃ (A253 : OA), ∃ (c254 : Nat), ∃ (hs252 : Hp), .tuple #[iv x256, sv A253 F c254] = v ∧ (hs252 ++ R) = hp' ∧ OS 3 (OT.fr rI) b'.w (sv A253 F c254) F hs252) := by
 refine fE 70 Tryz.func29 rfl Tryz.ntmps29 rfl ?_
 unfold mFareTariffPrice at hm
 refine Cr<|Do rfl (uB _ rfl rfl) ?_
 rintro _ _ ⟨d, rfl, rfl⟩
 refine Do rfl (uB _ rfl rfl) ?_
 rintro _ _ ⟨q, rfl, rfl⟩
 refine As rfl rfl<|As rfl rfl<|Te<|Cr<|Ts rfl (sF rfl fld59_5)<|Ts rfl (sL 0 rfl one22 rfl rfl)<|Ts rfl (sE rfl sl22)<|Do rfl (uA [iv 0] zero3 rfl) ?_
 rintro _ _ ⟨S, rfl, rfl⟩
 refine Do rfl (uS 0 rfl rfl siz3 rfl rfl (by simp)) ?_
 rintro _ _ rfl
 refine Te ?_
 obtain ⟨x264, hj265, hk265⟩ := bS hm
 refine Cj (fun b262 e' hp' => [(2, pb d), (3, pb q), (6, pb S)] = e' ∧ (d, Cl 42 [bv a.ByKm, sv f a.Bands g, iv a.Round, sv k a.Rules m]) :: (q, Cl 59 [iv c.Day, iv c.At, iv c.Km, iv c.Age, bv c.Card, sv o c.Zones p]) :: (S, Cl 3 [iv x264]) :: R = hp' ∧ b.Le b262) ?_ ?_
 have hm := hj265
 refine Cr<|Ts rfl (sF rfl fld42_0)<|Ts rfl (sL 2 rfl one4 rfl rfl)<|Te ?_
 refine Cc _ rfl (fun T => ?_) (fun T => ?_)
 rw [if_pos T] at hm
 refine Cg<|Ts rfl (sF rfl fld59_2)<|Ts rfl (sL 1 rfl one3 rfl rfl)<|Do rfl (uS 0 rfl rfl siz3 rfl rfl (by simp)) ?_
 rintro _ _ rfl
 refine Tn ?_
 obtain rfl := o1 hm
 refine Xp 1 rfl<|Xp 2 rfl ?_
 exact xJ ⟨rfl, rfl, lr⟩ (.refl _)
 rw [if_neg (fun hh => Bool.noConfusion (hh.symm.trans T))] at hm
 refine Ck ?_
 obtain rfl := o1 hm
 refine Xp 1 rfl<|Xp 2 rfl ?_
 exact xJ ⟨rfl, rfl, lr⟩ (.refl _)
 rintro b262 _ _ ⟨rfl, rfl, s⟩
 have hm := hk265
 refine Cr<|Ts rfl (sF rfl fld42_1)<|Ts rfl (sL 0 rfl one39 rfl rfl)<|Ts rfl (st_func _ _ rfl rfl) ?_
 obtain ⟨x267, hcl268, hm⟩ := bS hm
 refine t_pullb 2 rfl<|Tg _ rfl call46 rfl (cSlicesIndexFunc _ _ a.Bands x264 S f g (h4.le s) x267 hcl268) ?_
 rintro _ b269 _ B ⟨rfl, rfl⟩
 refine As rfl rfl<|Te ?_
 obtain ⟨x275, hj276, hk276⟩ := bS hm
 refine Cj (fun G e' hp' => [(2, pb d), (3, pb q), (7, iv x275)] = e' ∧ (d, Cl 42 [bv a.ByKm, sv f a.Bands g, iv a.Round, sv k a.Rules m]) :: (q, Cl 59 [iv c.Day, iv c.At, iv c.Km, iv c.Age, bv c.Card, sv o c.Zones p]) :: R = hp' ∧ b269.Le G) ?_ ?_
 have hm := hj276
 refine Cr<|M rfl rfl<|Ts rfl (q3 rfl rfl)<|Te ?_
 refine Cc _ rfl (fun U => ?_) (fun U => ?_)
 rw [if_pos (of_decide_eq_true U)] at hm
 refine Cg<|Ts rfl (sF rfl fld42_1)<|Ts rfl (sL 1 rfl one39 rfl rfl)<|Ts rfl (sE rfl sl39) ?_
 obtain ⟨_, V, hm⟩ := bS hm
 have V := (kS V).2
 refine Ts rfl (sb rfl rfl V)<|As rfl rfl<|Tn ?_
 obtain rfl := o1 hm
 refine Xp 2 rfl<|Xp 2 rfl ?_
 exact xJ ⟨rfl, rfl, lr⟩ (.cons_cons _ (.cons_cons _ (.cons _ (.refl _))))
 rw [if_neg (of_decide_eq_false U)] at hm
 refine Ck ?_
 obtain rfl := o1 hm
 refine Xp 2 rfl<|Xp 2 rfl ?_
 exact xJ ⟨rfl, rfl, lr⟩ (.cons_cons _ (.cons_cons _ (.cons _ (.refl _))))
 rintro G _ _ ⟨rfl, rfl, C⟩
 have hm := hk276
 refine Cr<|Ts rfl (sF rfl fld42_1)<|Ts rfl (sL 0 rfl one39 rfl rfl)<|M rfl rfl ?_
 obtain ⟨x279, h280, hm⟩ := bS hm
 obtain ⟨j281, hj282, hx283⟩ := iS h280
 obtain ⟨cs284, hr285, hcs286, hA287, hlt288⟩ := FZ.get (sz := 2) rfl (by decide) (h4.le (s.trans (B.trans C))) hx283
 obtain ⟨_, _, rfl, rfl, rfl⟩ := hr285
 refine Ts rfl (sI j281 rfl rfl hj282 hlt288 hA287 sl39)<|Ts rfl (sQ rfl hA287 fld50_1)<|Ts rfl (sO rfl one3 (hcs286 1 _ rfl))<|As rfl rfl<|Te<|Cr<|As rfl rfl<|Te ?_
 obtain ⟨⟨x390, H⟩, hj392, hk392⟩ := bS hm
 refine Cj (fun W e' hp' => ∃ (D : OA), ∃ (E : Nat), ∃ (I : Hp), [(2, pb d), (8, iv x390), (9, sv D H E)] = e' ∧ (d, Cl 42 [bv a.ByKm, sv f a.Bands g, iv a.Round, sv k a.Rules m]) :: (I ++ R) = hp' ∧ G.Le W ∧ OS 3 (OT.fr rI) W.w (sv D H E) H I) ?_ ?_
 have hm := hj392
 refine Cr<|Ts rfl (sF rfl fld42_3)<|Ts rfl (sL 0 rfl one40 rfl rfl)<|Ts rfl (sE rfl sl40)<|M rfl rfl<|Te<|Cb ?_
 have hb394 : a.Rules.length ≤ 9223372036854775807 := (FZ.bd (h7.le (s.trans (B.trans C))))
 refine Cp 1 rfl<|Cp 1 rfl ?_
 obtain ⟨t459, hl460, J⟩ := bS hm
 refine cF (fun t => unc2 fun K x => fun L e' hp' => ∃ (y : OA), ∃ (z : Nat), ∃ (A : Hp), [(2, pb d), (3, pb q), (8, iv K), (9, sv y x z), (36, sv k a.Rules m), (37, iv ((a.Rules.length : Int))), (38, iv ((t : Int)))] = e' ∧ (d, Cl 42 [bv a.ByKm, sv f a.Bands g, iv a.Round, sv k a.Rules m]) :: (q, Cl 59 [iv c.Day, iv c.At, iv c.Km, iv c.Age, bv c.Card, sv o c.Zones p]) :: (A ++ R) = hp' ∧ G.Le L ∧ OS 3 (OT.fr rI) L.w (sv y x z) x A) hl460 ⟨none, 0, [], rfl, rfl, lr, OS.nil⟩ (.refl _) ?_ ?_
 rintro t ⟨K, x⟩ L _ _ oL393 hknL393 ⟨y, z, A, rfl, rfl, n, O⟩ hstepL393 houtL393
 unfold mFareTariffPrice_L393 at hstepL393
 have hm := (unc2E hstepL393)
 refine Cr<|Ts rfl (lT rfl rfl (by omega))<|Te<|Cs<|c_cond_t rfl<|Ck<|Xn<|Cs<|Cb<|Cr ?_
 refine M rfl rfl ?_
 obtain ⟨e, h463, hm⟩ := bS hm
 obtain ⟨j464, hj465, hx466⟩ := iS h463
 obtain ⟨cs467, hr468, hcs469, hA470, hlt471⟩ := FZ.get (sz := 7) rfl (by decide) (h7.le (s.trans (B.trans (C.trans n)))) hx466
 obtain ⟨_, _, rfl, ⟨_, _, rfl, rfl, ⟨_, _, rfl, rfl, ⟨_, _, rfl, rfl, rfl⟩⟩⟩, ⟨_, _, rfl, rfl, ⟨_, _, rfl, rfl, rfl⟩⟩⟩ := hr468
 refine Ts rfl (sI j464 rfl rfl hj465 hlt471 hA470 sl40)<|Ts rfl (sP (vs := [iv e.If.Kind, iv e.If.A, iv e.If.B, sn, iv e.Do, iv e.N, bv e.Stop]) 7 rfl agg55 hA470 rfl (fun j u hu => hcs469 j u hu))<|Do rfl (uA [iv 0, iv 0, iv 0, sn, iv 0, iv 0, .bool false] zero55 rfl) ?_
 rintro _ _ ⟨g472, rfl, rfl⟩
 refine As rfl rfl<|Do rfl (uN (vs := [_, _, _, _, _, _, _]) 0 7 rfl rfl rfl siz55 rfl (mc rfl (mc rfl (mc rfl (mc rfl (mc rfl (mc rfl (mc rfl mn))))))) rfl (by simp)) ?_
 rintro _ _ rfl
 refine Te<|Cs<|Cr<|Ts rfl (sF rfl fld55_0)<|Ts rfl (sD (vs := [_, _, _, _]) 0 4 rfl agg53 rfl rfl rfl)<|Ts rfl (sD (vs := [_, _, _, _, _, _]) 2 6 rfl agg59 rfl rfl rfl) ?_
 obtain ⟨x473, X, hm⟩ := bS hm
 obtain ⟨Nhcl474, X⟩ := lim_some X
 refine Do rfl (uW _ call48 rfl (fun w ho => cFareCondHolds Nhcl474 _ [] e.If c o p ((h11.le (s.trans (B.trans (C.trans n)))).old ho) x473 X) (fun _ _ _ h => h.2.symm)) ?_
 rintro _ _ ⟨⟨_, rfl, _⟩, rfl⟩
 refine Ts rfl (sn2 rfl)<|Te ?_
 refine Cc _ rfl (fun Y => ?_) (fun Y => ?_)
 rw [if_neg (fun hh => Bool.noConfusion (hh.symm.trans (nt Y)))] at hm
 refine Ce<|Xe<|Xo<|Xn<|Cg<|Ts rfl (sa rfl rfl (by omega))<|M rfl rfl<|Tn<|Xp 2 rfl<|Xp 2 rfl ?_
 exact xM hm ⟨y, z, A, rfl, rfl, (n), O⟩ (.cons_cons _ (.cons_cons _ (.cons _ (.refl _))))
 rw [if_pos (nf Y)] at hm
 refine Ck<|Xn<|Cr<|M rfl rfl<|M rfl rfl<|Do rfl (u_bslice (el := 3) [(0, iv ((t : Int)))] [iv ((t : Int))] rfl (fun _ => by kernel_rfl)) ?_
 rintro _ _ ⟨g476, rfl, rfl⟩
 obtain ⟨_, Z, hm⟩ := bS hm
 have Z := room_some Z
 refine Do rfl (uQ (r := rI) (l := x) [_, _, _, _] R [[iv ((t : Int))]] [(t : Int)] rfl (by decide) sl22 inf3 rfl rfl rfl rfl O rfl (fun w ho => Rd.own (i := 0) ho rfl) ⟨rfl, trivial⟩ Z) ?_
 rintro _ _ ⟨hs478, rfl, aa⟩
 obtain ⟨A480, c481, rfl, _⟩ := aa.form
 refine As rfl rfl<|Te<|Cr<|Ts rfl (sD (vs := [_, _, _, _, _, _, _]) 1 7 rfl agg55 rfl rfl rfl)<|M rfl rfl ?_
 obtain ⟨x482, hcl483, hm⟩ := bS hm
 refine Do rfl (uW _ call49 rfl (fun w ho => cFareRuleChange _ [] e K x482 hcl483) (fun _ _ _ h => h.2.symm)) ?_
 rintro _ _ ⟨⟨_, rfl, _⟩, rfl⟩
 refine As rfl rfl<|Te<|Cr<|Ts rfl (sF rfl fld55_3)<|Ts rfl (sL 1 rfl one4 rfl rfl)<|Te ?_
 refine Cc _ rfl (fun ab => ?_) (fun ab => ?_)
 rw [if_pos ab] at hm
 refine Ce<|Xi rfl<|Xe<|Xe<|Xo ?_
 have hq485 := houtL393 _ (Option.some.inj hm).symm
 rw [hq485] at J
 have hm := elimR J
 obtain ⟨rfl, rfl⟩ := some2 hm
 refine Xp 2 rfl ?_
 exact xJ ⟨A480, c481, hs478, rfl, rfl, n, aa⟩ (.cons_cons _ (.cons _ (.cons _ (.cons _ (.refl _)))))
 rw [if_neg (fun hh => Bool.noConfusion (hh.symm.trans ab))] at hm
 refine Ck<|Xm<|Xn<|Cg<|Ts rfl (sa rfl rfl (by omega))<|M rfl rfl<|Tn<|Xp 3 rfl<|Xp 3 rfl ?_
 exact xM hm ⟨A480, c481, hs478, rfl, rfl, (n), aa⟩ (.cons_cons _ (.cons_cons _ (.cons _ (.cons _ (.refl _)))))
 rintro ⟨K, x⟩ L _ _ ⟨y, z, A, rfl, rfl, n, O⟩ hq486
 rw [hq486] at J
 have hm := elimL J
 have hm := (unc2E hm)
 refine Cr<|Ts rfl (lF rfl rfl (by omega))<|Te<|Cs<|c_cond_f rfl<|Ce<|Xe<|Xe<|Xo ?_
 obtain ⟨rfl, rfl⟩ := some2 hm
 exact xJ ⟨y, z, A, rfl, rfl, n, O⟩ (.cons_cons _ (.cons _ (.refl _)))
 rintro W _ _ ⟨D, E, I, rfl, rfl, hle384, h389⟩
 have hm := (unc2E hk392)
 refine Cs ?_
 obtain ⟨_, ac, hm⟩ := bS hm
 obtain ⟨_, ad, hm⟩ := bS hm
 obtain ⟨_, h494, hm⟩ := bS hm
 obtain ⟨_, ae, hm⟩ := bS hm
 obtain ⟨_, af, hm⟩ := bS hm
 refine Di mixed (.refl _)<|E0 0 rfl (sM rfl)<|E0 1 rfl (sF rfl fld42_2)<|Es 2 rfl (sL 0 rfl one3 rfl rfl) ?_
 have ac := (kS ac).2
 refine E0 3 rfl (sa rfl rfl ac) ?_
 have ad := (kS ad).2
 refine E0 4 rfl (sb rfl rfl ad)<|E0 5 rfl (sF rfl fld42_2)<|Es 6 rfl (sL 0 rfl one3 rfl rfl) ?_
 have ae := (kS ae).2
 refine E0 7 rfl (st_quo rfl rfl (ne0_some h494) ae)<|E0 8 rfl (sF rfl fld42_2)<|Es 9 rfl (sL 0 rfl one3 rfl rfl) ?_
 have af := (kS af).2
 refine E0 10 rfl (st_mul rfl rfl af)<|E0 11 rfl (sM rfl)<|E0 12 rfl (sA rfl)<|E0 13 rfl (sA rfl)<|Eo<|Dd (by kernel_rfl)<|Xn<|Ct ?_
 obtain ⟨rfl, rfl⟩ := some2 hm
 exact rM (rs := [.tmp 4, .tmp 5]) (vs := [iv ((Int.tdiv ((x390 + a.Round) - 1) a.Round) * a.Round), sv D H E]) ⟨rfl, ⟨rfl, trivial⟩⟩ ⟨D, E, I, rfl, rfl, h389⟩ (.cons _ (.refl _)) (s.trans (B.trans (C.trans hle384)))

set_option maxRecDepth 20000 in
theorem cFarePrice (b : Base) (R : Hp) (c : FareTariff) (a : FareTrip) (d : OA) (e : Nat) (f : OA) (g : Nat) (i : OA) (j : Nat) (n : FZ rFareBand b.w d e c.Bands) (o : FZ rFareRule b.w f g c.Rules) (p : FZ rI b.w i j a.Zones) (q : Int) (r : Int) (k : (List Int)) (hm : mFarePrice c a = some (q, r, k)) :
    CallsG Tryz.prog 15 [.agg #[bv c.ByKm, sv d c.Bands e, iv c.Round, sv f c.Rules g], .agg #[iv a.Day, iv a.At, iv a.Km, iv a.Age, bv a.Card, sv i a.Zones j]] b (R) (fun v b' hp' => ∃ (s : OA), ∃ (t : Nat), ∃ (u : Hp), .tuple #[iv q, sv s k t, iv r] = v ∧ (u ++ R) = hp' ∧ OS 3 (OT.fr rI) b'.w (sv s k t) k u) := by
 refine fE 29 Tryz.func15 rfl Tryz.ntmps15 rfl ?_
 unfold mFarePrice at hm
 refine Cr<|Do rfl (uB _ rfl rfl) ?_
 rintro _ _ ⟨J, rfl, rfl⟩
 refine Do rfl (uB _ rfl rfl) ?_
 rintro _ _ ⟨K, rfl, rfl⟩
 refine As rfl rfl<|As rfl rfl<|As rfl rfl<|Te<|Cs<|Cr<|Ts rfl (sD (vs := [_, _, _, _]) 1 4 rfl agg42 rfl rfl rfl) ?_
 obtain ⟨x, E, hm⟩ := bS hm
 refine Do rfl (uW _ call27 rfl (fun w ho => cFareCheckTariff _ [] c d e f g (n.old ho) (o.old ho) x E) (fun _ _ _ h => h.2.symm)) ?_
 rintro _ _ ⟨⟨_, rfl, _⟩, rfl⟩
 refine As rfl rfl<|Te<|Cr<|M rfl rfl<|Ts rfl (q2 rfl rfl)<|Te ?_
 refine Cc _ rfl (fun l => ?_) (fun l => ?_)
 rw [if_pos (of_decide_eq_true l)] at hm
 refine Cr<|M rfl rfl<|As rfl rfl<|As rfl rfl<|As rfl rfl<|Te<|Ct<|Xr ?_
 obtain ⟨rfl, rfl, rfl⟩ := some3 hm
 exact rM (rs := [.tmp 4, .tmp 5, .tmp 6]) (vs := [iv 0, sn, iv x]) ⟨rfl, ⟨rfl, ⟨rfl, trivial⟩⟩⟩ ⟨none, 0, [], rfl, rfl, OS.nil⟩ (.cons _ (.cons _ (.refl _))) lr
 rw [if_neg (of_decide_eq_false l)] at hm
 refine Ck<|Xn<|Cs<|Cr<|Ts rfl (sD (vs := [_, _, _, _, _, _]) 0 6 rfl agg59 rfl rfl rfl) ?_
 obtain ⟨y, F, hm⟩ := bS hm
 refine Do rfl (uW _ call28 rfl (fun w ho => cFareCheckTrip _ [] a i j (p.old ho) y F) (fun _ _ _ h => h.2.symm)) ?_
 rintro _ _ ⟨⟨_, rfl, _⟩, rfl⟩
 refine As rfl rfl<|Te<|Cr<|M rfl rfl<|Ts rfl (q2 rfl rfl)<|Te ?_
 refine Cc _ rfl (fun m => ?_) (fun m => ?_)
 rw [if_pos (of_decide_eq_true m)] at hm
 refine Cr<|M rfl rfl<|As rfl rfl<|As rfl rfl<|As rfl rfl<|Te<|Ct<|Xr ?_
 obtain ⟨rfl, rfl, rfl⟩ := some3 hm
 exact rM (rs := [.tmp 4, .tmp 5, .tmp 6]) (vs := [iv 0, sn, iv y]) ⟨rfl, ⟨rfl, ⟨rfl, trivial⟩⟩⟩ ⟨none, 0, [], rfl, rfl, OS.nil⟩ (.cons _ (.cons _ (.refl _))) lr
 rw [if_neg (of_decide_eq_false m)] at hm
 refine Ck<|Xn<|Cr<|Ts rfl (sD (vs := [_, _, _, _]) 1 4 rfl agg42 rfl rfl rfl)<|Ts rfl (sD (vs := [_, _, _, _, _, _]) 0 6 rfl agg59 rfl rfl rfl) ?_
 obtain ⟨⟨z, A⟩, G, hm⟩ := bS hm
 have hm := (unc2E hm)
 refine Tg _ rfl call29 rfl (cFareTariffPrice _ _ c a d e f g i j n o p z A G) ?_
 rintro _ L _ H ⟨B, C, D, rfl, rfl, I⟩
 refine t_in1 [] [_, _] D R rfl<|M rfl rfl<|Ts rfl (st_extract rfl rfl)<|Ts rfl (st_extract rfl rfl)<|As rfl rfl<|As rfl rfl<|Te<|Cr<|M rfl rfl<|M rfl rfl ?_
 refine As rfl rfl<|As rfl rfl<|As rfl rfl<|Te<|Ct ?_
 obtain ⟨rfl, rfl, rfl⟩ := some3 hm
 exact rM (rs := [.tmp 4, .tmp 5, .tmp 6]) (vs := [iv z, sv B A C, iv 0]) ⟨rfl, ⟨rfl, ⟨rfl, trivial⟩⟩⟩ ⟨B, C, D, rfl, rfl, I⟩ (.cons _ (.cons _ (.refl _))) H

set_option maxRecDepth 20000 in
theorem cFishkeep2Fares (b : Base) (R : Hp) (f : Bool) (hm : mFishkeep2Fares = some f) :
    CallsG Tryz.prog 6 [] b (R) (fun v b' hp' => bv f = v ∧ R = hp') := by
 refine fE 25 Tryz.func6 rfl Tryz.ntmps6 rfl ?_
 unfold mFishkeep2Fares at hm
 refine Cr<|As rfl rfl<|Te<|Cr<|Ts rfl (sB (v := .agg #[iv 3, iv 500]) [(0, iv 3), (1, iv 500)] rfl (fun _ => by kernel_rfl))<|Do rfl (u_bslice (el := 50) [(0, .agg #[iv 3, iv 500])] [iv 3, iv 500] rfl (fun _ => by kernel_rfl)) ?_
 rintro _ _ ⟨a, rfl, rfl⟩
 refine Ts rfl (sB (v := .agg #[iv 1, iv 0, iv 0, sn]) [(0, iv 1)] rfl (fun _ => by kernel_rfl))<|Ts rfl (sB (v := .agg #[iv 1, iv 0, iv 0, sn, iv 2, iv 7, bv false]) [(0, .agg #[iv 1, iv 0, iv 0, sn]), (1, iv 2), (2, iv 7)] rfl (fun _ => by kernel_rfl))<|Do rfl (u_bslice (el := 55) [(0, .agg #[iv 1, iv 0, iv 0, sn, iv 2, iv 7, bv false])] [iv 1, iv 0, iv 0, sn, iv 2, iv 7, bv false] rfl (fun _ => by kernel_rfl)) ?_
 rintro _ _ ⟨c, rfl, rfl⟩
 refine Ts rfl (sB (v := .agg #[bv false, .slice (some ⟨a, 0, none⟩) 1 1, iv 1, .slice (some ⟨c, 0, none⟩) 1 1]) [(1, .slice (some ⟨a, 0, none⟩) 1 1), (2, iv 1), (3, .slice (some ⟨c, 0, none⟩) 1 1)] rfl (fun _ => by kernel_rfl))<|Do rfl (uA [.bool false, sn, iv 0, sn] zero42 rfl) ?_
 rintro _ _ ⟨A, rfl, rfl⟩
 refine t_seg 2 [_, _] R rfl rfl ?_
 have k : OS 50 (OT.fr rFareBand) b.w (.slice (some ⟨a, 0, none⟩) 1 1) [(⟨3, 500⟩ : FareBand)] [(a, Cl 50 [iv 3, iv 500])] := OS.lit [[iv 3, iv 500]] rfl ⟨⟨[iv 3], _, rfl, rfl, rfl⟩, trivial⟩ rfl (by decide)
 refine t_seg 1 [_] ([(a, Cl 50 [iv 3, iv 500])] ++ R) rfl rfl ?_
 have m : OS 55 (OT.fr rFareRule) b.w (.slice (some ⟨c, 0, none⟩) 1 1) [(⟨(⟨1, 0, 0, ()⟩ : FareCond), 2, 7, false⟩ : FareRule)] [(c, Cl 55 [iv 1, iv 0, iv 0, sn, iv 2, iv 7, bv false])] := OS.lit [[iv 1, iv 0, iv 0, sn, iv 2, iv 7, bv false]] rfl ⟨⟨[iv 1, iv 0, iv 0, sn], _, rfl, ⟨[iv 1], _, rfl, rfl, ⟨[iv 0], _, rfl, rfl, ⟨[iv 0], _, rfl, rfl, rfl⟩⟩⟩, ⟨[iv 2], _, rfl, rfl, ⟨[iv 7], _, rfl, rfl, rfl⟩⟩⟩, trivial⟩ rfl (by decide)
 refine Do rfl (uN (vs := [_, _, _, _]) 0 4 rfl rfl rfl siz42 rfl (mc rfl (mc rfl (mc rfl (mc rfl mn)))) rfl (by simp)) ?_
 rintro _ _ rfl
 refine Te<|Cr<|Ts rfl (sD (vs := [_, _, _, _]) 0 4 rfl agg42 rfl rfl rfl)<|Do rfl (u_bslice (el := 3) [(0, iv 1)] [iv 1] rfl (fun _ => by kernel_rfl)) ?_
 rintro _ _ ⟨d, rfl, rfl⟩
 refine Ts rfl (sB (v := .agg #[iv 0, iv 0, iv 0, iv 0, bv true, .slice (some ⟨d, 0, none⟩) 1 1]) [(4, bv true), (5, .slice (some ⟨d, 0, none⟩) 1 1)] rfl (fun _ => by kernel_rfl))<|t_seg 0 [_] ([(c, Cl 55 [iv 1, iv 0, iv 0, sn, iv 2, iv 7, bv false])] ++ ([(a, Cl 50 [iv 3, iv 500])] ++ R)) rfl rfl ?_
 have n : OS 3 (OT.fr rI) b.w (.slice (some ⟨d, 0, none⟩) 1 1) [1] [(d, Cl 3 [iv 1])] := OS.lit [[iv 1]] rfl ⟨rfl, trivial⟩ rfl (by decide)
 obtain ⟨⟨p, q, r⟩, s, hm⟩ := bS hm
 have hm := (unc3E hm)
 refine Do rfl (u_callWF [_] ([(d, Cl 3 [iv 1])] ++ ([(c, Cl 55 [iv 1, iv 0, iv 0, sn, iv 2, iv 7, bv false])] ++ ([(a, Cl 50 [iv 3, iv 500])] ++ R))) _ rfl call15 rfl (fun w ho => cFarePrice _ [] (⟨false, [(⟨3, 500⟩ : FareBand)], 1, [(⟨(⟨1, 0, 0, ()⟩ : FareCond), 2, 7, false⟩ : FareRule)]⟩ : FareTariff) (⟨0, 0, 0, 0, true, [1]⟩ : FareTrip) (some ⟨a, 0, none⟩) 1 (some ⟨c, 0, none⟩) 1 (some ⟨d, 0, none⟩) 1 (OS.now (o := (OT.fr rFareBand)) (l := [(⟨3, 500⟩ : FareBand)]) (hs := [(a, Cl 50 [iv 3, iv 500])]) k ho (.cons _ (ss [(d, Cl 3 [iv 1])] (ss [(c, Cl 55 [iv 1, iv 0, iv 0, sn, iv 2, iv 7, bv false])] (List.sublist_append_left _ _))))) (OS.now (o := (OT.fr rFareRule)) (l := [(⟨(⟨1, 0, 0, ()⟩ : FareCond), 2, 7, false⟩ : FareRule)]) (hs := [(c, Cl 55 [iv 1, iv 0, iv 0, sn, iv 2, iv 7, bv false])]) m ho (.cons _ (ss [(d, Cl 3 [iv 1])] (List.sublist_append_left _ _)))) (OS.now (o := (OT.fr rI)) (l := [1]) (hs := [(d, Cl 3 [iv 1])]) n ho (.cons _ (List.sublist_append_left _ _))) p q r s)) ?_
 rintro _ _ ⟨_, _, rfl, B, C, g, rfl, t, u⟩
 obtain rfl := List.append_cancel_right t
 have D := flat_fz (w' := b.w) (fun _ _ _ _ h => h) u
 refine M rfl rfl<|Ts rfl (st_extract rfl rfl)<|Ts rfl (st_extract rfl rfl)<|Ts rfl (st_extract rfl rfl)<|As rfl rfl<|As rfl rfl<|As rfl rfl<|Te ?_
 obtain ⟨i, x, y⟩ := bS hm
 refine Cj (fun j e' hp' => [(0, bv i)] = e' ∧ R = hp' ∧ b.Le j) ?_ ?_
 have hm := x
 refine Cg<|M rfl rfl ?_
 refine Tb rfl (q1 rfl rfl) (fun e => ?_) (fun e => ?_)
 rw [if_pos e] at hm
 refine M rfl rfl<|Ys 21 rfl rfl rfl<|M rfl rfl<|Ys 21 rfl rfl rfl<|Ts rfl (q1 rfl rfl)<|Ts rfl (pT rfl rfl)<|As rfl rfl<|Tn ?_
 obtain rfl := o1 hm
 exact xJ ⟨rfl, rfl, lr⟩ (.cons _ (ss g (ss [(d, Cl 3 [iv 1])] (ss [(c, Cl 55 [iv 1, iv 0, iv 0, sn, iv 2, iv 7, bv false])] (ss [(a, Cl 50 [iv 3, iv 500])] (.refl _))))))
 rw [if_neg e] at hm
 refine M rfl rfl<|No 21 rfl rfl rfl rfl rfl<|No 21 rfl rfl rfl rfl rfl<|Ts rfl (pF rfl rfl)<|As rfl rfl<|Tn ?_
 obtain rfl := o1 hm
 exact xJ ⟨rfl, rfl, lr⟩ (.cons _ (ss g (ss [(d, Cl 3 [iv 1])] (ss [(c, Cl 55 [iv 1, iv 0, iv 0, sn, iv 2, iv 7, bv false])] (ss [(a, Cl 50 [iv 3, iv 500])] (.refl _))))))
 rintro j _ _ ⟨rfl, rfl, z⟩
 have hm := y
 refine Ct ?_
 obtain rfl := o1 hm
 exact rM (rs := [.tmp 0]) (vs := [bv i]) ⟨rfl, trivial⟩ ⟨rfl, rfl⟩ (.refl _) z

set_option maxRecDepth 20000 in
theorem cFareKeyCheck (b : Base) (R : Hp) (a : FareKey) (f : Bool) (j : Int) (hm : mFareKeyCheck a f = some j) :
    CallsG Tryz.prog 16 [.agg #[iv a.N, iv a.E, iv a.D], bv f] b (R) (fun v b' hp' => iv j = v ∧ R = hp') := by
 refine fE 27 Tryz.func16 rfl Tryz.ntmps16 rfl ?_
 unfold mFareKeyCheck at hm
 refine Cr<|Do rfl (uB _ rfl rfl) ?_
 rintro _ _ ⟨x, rfl, rfl⟩
 refine As rfl rfl<|Te<|Cs ?_
 obtain ⟨o, p, q⟩ := bS hm
 refine Cj (fun k e' hp' => [(26, bv o)] = e' ∧ R = hp' ∧ b.Le k) ?_ ?_
 have hm := p
 refine Cg<|Ts rfl (sF rfl fld27_0)<|Ts rfl (sL 0 rfl one3 rfl rfl) ?_
 obtain ⟨l, r, hm⟩ := bS hm
 refine Do rfl (uW _ call12 rfl (fun w ho => cFareWithin _ [] a.N 1018081 1072497001 l r) (fun _ _ _ h => h.2.symm)) ?_
 rintro _ _ ⟨⟨_, rfl, _⟩, rfl⟩
 rcases Bool.eq_false_or_eq_true l with c | c
 rw [if_pos c] at hm
 refine Tr 7 rfl (v' := .bool true) (by rw [c] <;> rfl)<|Ts rfl (st_not_t rfl)<|M rfl rfl<|Ys 9 rfl rfl rfl<|Ts rfl (sF rfl fld27_1)<|Ys 9 rfl rfl rfl<|Ts rfl (sL 0 rfl one3 rfl rfl)<|Ys 9 rfl rfl rfl ?_
 obtain ⟨m, s, hm⟩ := bS hm
 refine Do rfl (uW _ call12 rfl (fun w ho => cFareWithin _ [] a.E 3 32749 m s) (fun _ _ _ h => h.2.symm)) ?_
 rintro _ _ ⟨⟨_, rfl, _⟩, rfl⟩
 rcases Bool.eq_false_or_eq_true m with d | d
 rw [if_pos d] at hm
 refine Tr 12 rfl (v' := .bool true) (by rw [d] <;> rfl)<|Ys 9 rfl rfl rfl<|Ts rfl (st_not_t rfl)<|Ts rfl (pF rfl rfl)<|M rfl rfl<|Ys 15 rfl rfl rfl<|M rfl rfl ?_
 rcases Bool.eq_false_or_eq_true f with e | e
 rw [if_pos e] at hm
 refine Tr 16 rfl (v' := .bool true) (by rw [e] <;> rfl)<|Ys 15 rfl rfl rfl<|M rfl rfl<|Ys 17 rfl rfl rfl<|Ts rfl (sF rfl fld27_2)<|Ys 17 rfl rfl rfl<|Ts rfl (sL 0 rfl one3 rfl rfl)<|Ys 17 rfl rfl rfl<|Ts rfl (sF rfl fld27_0)<|Ys 17 rfl rfl rfl ?_
 refine Ts rfl (sL 0 rfl one3 rfl rfl)<|Ys 17 rfl rfl rfl ?_
 obtain ⟨_, g, hm⟩ := bS hm
 have g := (kS g).2
 refine Ts rfl (sb rfl rfl g)<|Ys 17 rfl rfl rfl ?_
 obtain ⟨t, u, hm⟩ := bS hm
 refine Do rfl (uW _ call12 rfl (fun w ho => cFareWithin _ [] a.D 1 (a.N - 1) t u) (fun _ _ _ h => h.2.symm)) ?_
 rintro _ _ ⟨⟨_, rfl, _⟩, rfl⟩
 refine Ys 17 rfl rfl rfl<|Ts rfl (sn2 rfl)<|Ys 15 rfl rfl rfl<|Ts rfl (pT rfl rfl)<|Ts rfl (pF rfl rfl)<|Tn ?_
 obtain rfl := o1 hm
 exact xJ ⟨rfl, rfl, lr⟩ (.cons _ (.refl _))
 rw [if_neg (fun hh => Bool.noConfusion (hh.symm.trans e))] at hm
 refine Tr 16 rfl (v' := .bool false) (by rw [e] <;> rfl)<|Ys 15 rfl rfl rfl<|M rfl rfl<|No 17 rfl rfl rfl rfl rfl<|No 17 rfl rfl rfl rfl rfl<|No 17 rfl rfl rfl rfl rfl<|No 17 rfl rfl rfl rfl rfl<|No 17 rfl rfl rfl rfl rfl<|No 17 rfl rfl rfl rfl rfl<|No 17 rfl rfl rfl rfl rfl ?_
 refine Ys 15 rfl rfl rfl<|Ts rfl (pF rfl rfl)<|Ts rfl (pF rfl rfl)<|Tn ?_
 obtain rfl := o1 hm
 exact xJ ⟨rfl, rfl, lr⟩ (.cons _ (.refl _))
 rw [if_neg (fun hh => Bool.noConfusion (hh.symm.trans d))] at hm
 refine Tr 12 rfl (v' := .bool false) (by rw [d] <;> rfl)<|Ys 9 rfl rfl rfl<|Ts rfl (st_not_f rfl)<|Ts rfl (pF rfl rfl)<|M rfl rfl<|No 15 rfl rfl rfl rfl rfl<|No 15 rfl rfl rfl rfl rfl<|No 17 rfl rfl rfl rfl rfl<|No 17 rfl rfl rfl rfl rfl<|No 17 rfl rfl rfl rfl rfl ?_
 refine No 17 rfl rfl rfl rfl rfl<|No 17 rfl rfl rfl rfl rfl<|No 17 rfl rfl rfl rfl rfl<|No 17 rfl rfl rfl rfl rfl<|No 15 rfl rfl rfl rfl rfl<|Ts rfl (pT rfl rfl)<|Tn ?_
 obtain rfl := o1 hm
 exact xJ ⟨rfl, rfl, lr⟩ (.cons _ (.refl _))
 rw [if_neg (fun hh => Bool.noConfusion (hh.symm.trans c))] at hm
 refine Tr 7 rfl (v' := .bool false) (by rw [c] <;> rfl)<|Ts rfl (st_not_f rfl)<|M rfl rfl<|No 9 rfl rfl rfl rfl rfl<|No 9 rfl rfl rfl rfl rfl<|No 9 rfl rfl rfl rfl rfl<|No 9 rfl rfl rfl rfl rfl<|Ts rfl (pT rfl rfl)<|M rfl rfl<|No 15 rfl rfl rfl rfl rfl ?_
 refine No 15 rfl rfl rfl rfl rfl<|No 17 rfl rfl rfl rfl rfl<|No 17 rfl rfl rfl rfl rfl<|No 17 rfl rfl rfl rfl rfl<|No 17 rfl rfl rfl rfl rfl<|No 17 rfl rfl rfl rfl rfl<|No 17 rfl rfl rfl rfl rfl<|No 17 rfl rfl rfl rfl rfl<|No 15 rfl rfl rfl rfl rfl<|Ts rfl (pT rfl rfl) ?_
 refine Tn ?_
 obtain rfl := o1 hm
 exact xJ ⟨rfl, rfl, lr⟩ (.cons _ (.refl _))
 rintro k _ _ ⟨rfl, rfl, n⟩
 have hm := q
 refine Cc _ rfl (fun i => ?_) (fun i => ?_)
 rw [if_pos i] at hm
 refine Cr<|As rfl rfl<|Te<|Ct<|Xr ?_
 obtain rfl := o1 hm
 exact rM (rs := [.tmp 4]) (vs := [iv 2]) ⟨rfl, trivial⟩ ⟨rfl, rfl⟩ (.refl _) n
 rw [if_neg (fun hh => Bool.noConfusion (hh.symm.trans i))] at hm
 refine Ck<|Xn<|Cr<|As rfl rfl<|Te<|Ct ?_
 obtain rfl := o1 hm
 exact rM (rs := [.tmp 4]) (vs := [iv 0]) ⟨rfl, trivial⟩ ⟨rfl, rfl⟩ (.refl _) n

set_option maxRecDepth 20000 in
theorem cFareTicketCheck (b : Base) (R : Hp) (a : FareTicket) (i : OA) (j : Nat) (x : FZ rI b.w i j a.Zones) (n : Int) (hm : mFareTicketCheck a = some n) :
    CallsG Tryz.prog 17 [.agg #[iv a.No, iv a.Day, iv a.Start, iv a.End, iv a.Price, sv i a.Zones j]] b (R) (fun v b' hp' => iv n = v ∧ R = hp') := by
 refine fE 47 Tryz.func17 rfl Tryz.ntmps17 rfl ?_
 unfold mFareTicketCheck at hm
 refine Cr<|Do rfl (uB _ rfl rfl) ?_
 rintro _ _ ⟨o, rfl, rfl⟩
 refine As rfl rfl<|Te<|Cs<|Cb ?_
 obtain ⟨y, z, A⟩ := bS hm
 refine Cj (fun p e' hp' => [(1, pb o), (3, bv y)] = e' ∧ (o, Cl 24 [iv a.No, iv a.Day, iv a.Start, iv a.End, iv a.Price, sv i a.Zones j]) :: R = hp' ∧ b.Le p) ?_ ?_
 have hm := z
 refine Cg<|Ts rfl (sF rfl fld24_0)<|Ts rfl (sL 0 rfl one3 rfl rfl) ?_
 obtain ⟨q, B, hm⟩ := bS hm
 refine Do rfl (uW _ call12 rfl (fun w ho => cFareWithin _ [] a.No 0 999999 q B) (fun _ _ _ h => h.2.symm)) ?_
 rintro _ _ ⟨⟨_, rfl, _⟩, rfl⟩
 rcases Bool.eq_false_or_eq_true q with c | c
 rw [if_pos c] at hm
 refine Tr 6 rfl (v' := .bool true) (by rw [c] <;> rfl)<|Ts rfl (st_not_t rfl)<|M rfl rfl<|Ys 8 rfl rfl rfl<|Ts rfl (sF rfl fld24_1)<|Ys 8 rfl rfl rfl<|Ts rfl (sL 0 rfl one3 rfl rfl)<|Ys 8 rfl rfl rfl ?_
 obtain ⟨r, C, hm⟩ := bS hm
 refine Do rfl (uW _ call12 rfl (fun w ho => cFareWithin _ [] a.Day 0 6 r C) (fun _ _ _ h => h.2.symm)) ?_
 rintro _ _ ⟨⟨_, rfl, _⟩, rfl⟩
 rcases Bool.eq_false_or_eq_true r with d | d
 rw [if_pos d] at hm
 refine Tr 11 rfl (v' := .bool true) (by rw [d] <;> rfl)<|Ys 8 rfl rfl rfl<|Ts rfl (st_not_t rfl)<|Ts rfl (pF rfl rfl)<|M rfl rfl<|Ys 14 rfl rfl rfl<|Ts rfl (sF rfl fld24_2)<|Ys 14 rfl rfl rfl<|Ts rfl (sL 0 rfl one3 rfl rfl)<|Ys 14 rfl rfl rfl ?_
 obtain ⟨s, D, hm⟩ := bS hm
 refine Do rfl (uW _ call12 rfl (fun w ho => cFareWithin _ [] a.Start 0 28800 s D) (fun _ _ _ h => h.2.symm)) ?_
 rintro _ _ ⟨⟨_, rfl, _⟩, rfl⟩
 rcases Bool.eq_false_or_eq_true s with e | e
 rw [if_pos e] at hm
 refine Tr 17 rfl (v' := .bool true) (by rw [e] <;> rfl)<|Ys 14 rfl rfl rfl<|Ts rfl (st_not_t rfl)<|Ts rfl (pF rfl rfl)<|M rfl rfl<|Ys 20 rfl rfl rfl<|Ts rfl (sF rfl fld24_3)<|Ys 20 rfl rfl rfl<|Ts rfl (sL 0 rfl one3 rfl rfl)<|Ys 20 rfl rfl rfl ?_
 obtain ⟨t, E, hm⟩ := bS hm
 refine Do rfl (uW _ call12 rfl (fun w ho => cFareWithin _ [] a.End 0 28800 t E) (fun _ _ _ h => h.2.symm)) ?_
 rintro _ _ ⟨⟨_, rfl, _⟩, rfl⟩
 rcases Bool.eq_false_or_eq_true t with f | f
 rw [if_pos f] at hm
 refine Tr 23 rfl (v' := .bool true) (by rw [f] <;> rfl)<|Ys 20 rfl rfl rfl<|Ts rfl (st_not_t rfl)<|Ts rfl (pF rfl rfl)<|M rfl rfl<|Ys 26 rfl rfl rfl<|Ts rfl (sF rfl fld24_4)<|Ys 26 rfl rfl rfl<|Ts rfl (sL 0 rfl one3 rfl rfl)<|Ys 26 rfl rfl rfl ?_
 obtain ⟨F, G, hm⟩ := bS hm
 refine Do rfl (uW _ call12 rfl (fun w ho => cFareWithin _ [] a.Price 0 100000 F G) (fun _ _ _ h => h.2.symm)) ?_
 rintro _ _ ⟨⟨_, rfl, _⟩, rfl⟩
 refine Ys 26 rfl rfl rfl<|Ts rfl (sn2 rfl)<|Ts rfl (pF rfl rfl)<|As rfl rfl<|Tn ?_
 obtain rfl := o1 hm
 exact xJ ⟨rfl, rfl, lr⟩ (.refl _)
 rw [if_neg (fun hh => Bool.noConfusion (hh.symm.trans f))] at hm
 refine Tr 23 rfl (v' := .bool false) (by rw [f] <;> rfl)<|Ys 20 rfl rfl rfl<|Ts rfl (st_not_f rfl)<|Ts rfl (pF rfl rfl)<|M rfl rfl<|No 26 rfl rfl rfl rfl rfl<|No 26 rfl rfl rfl rfl rfl<|No 26 rfl rfl rfl rfl rfl<|No 26 rfl rfl rfl rfl rfl<|Ts rfl (pT rfl rfl) ?_
 refine As rfl rfl<|Tn ?_
 obtain rfl := o1 hm
 exact xJ ⟨rfl, rfl, lr⟩ (.refl _)
 rw [if_neg (fun hh => Bool.noConfusion (hh.symm.trans e))] at hm
 refine Tr 17 rfl (v' := .bool false) (by rw [e] <;> rfl)<|Ys 14 rfl rfl rfl<|Ts rfl (st_not_f rfl)<|Ts rfl (pF rfl rfl)<|M rfl rfl<|No 20 rfl rfl rfl rfl rfl<|No 20 rfl rfl rfl rfl rfl<|No 20 rfl rfl rfl rfl rfl<|No 20 rfl rfl rfl rfl rfl<|Ts rfl (pT rfl rfl) ?_
 refine M rfl rfl<|No 26 rfl rfl rfl rfl rfl<|No 26 rfl rfl rfl rfl rfl<|No 26 rfl rfl rfl rfl rfl<|No 26 rfl rfl rfl rfl rfl<|Ts rfl (pT rfl rfl)<|As rfl rfl<|Tn ?_
 obtain rfl := o1 hm
 exact xJ ⟨rfl, rfl, lr⟩ (.refl _)
 rw [if_neg (fun hh => Bool.noConfusion (hh.symm.trans d))] at hm
 refine Tr 11 rfl (v' := .bool false) (by rw [d] <;> rfl)<|Ys 8 rfl rfl rfl<|Ts rfl (st_not_f rfl)<|Ts rfl (pF rfl rfl)<|M rfl rfl<|No 14 rfl rfl rfl rfl rfl<|No 14 rfl rfl rfl rfl rfl<|No 14 rfl rfl rfl rfl rfl<|No 14 rfl rfl rfl rfl rfl<|Ts rfl (pT rfl rfl) ?_
 refine M rfl rfl<|No 20 rfl rfl rfl rfl rfl<|No 20 rfl rfl rfl rfl rfl<|No 20 rfl rfl rfl rfl rfl<|No 20 rfl rfl rfl rfl rfl<|Ts rfl (pT rfl rfl)<|M rfl rfl<|No 26 rfl rfl rfl rfl rfl<|No 26 rfl rfl rfl rfl rfl<|No 26 rfl rfl rfl rfl rfl ?_
 refine No 26 rfl rfl rfl rfl rfl<|Ts rfl (pT rfl rfl)<|As rfl rfl<|Tn ?_
 obtain rfl := o1 hm
 exact xJ ⟨rfl, rfl, lr⟩ (.refl _)
 rw [if_neg (fun hh => Bool.noConfusion (hh.symm.trans c))] at hm
 refine Tr 6 rfl (v' := .bool false) (by rw [c] <;> rfl)<|Ts rfl (st_not_f rfl)<|M rfl rfl<|No 8 rfl rfl rfl rfl rfl<|No 8 rfl rfl rfl rfl rfl<|No 8 rfl rfl rfl rfl rfl<|No 8 rfl rfl rfl rfl rfl<|Ts rfl (pT rfl rfl)<|M rfl rfl<|No 14 rfl rfl rfl rfl rfl ?_
 refine No 14 rfl rfl rfl rfl rfl<|No 14 rfl rfl rfl rfl rfl<|No 14 rfl rfl rfl rfl rfl<|Ts rfl (pT rfl rfl)<|M rfl rfl<|No 20 rfl rfl rfl rfl rfl<|No 20 rfl rfl rfl rfl rfl<|No 20 rfl rfl rfl rfl rfl<|No 20 rfl rfl rfl rfl rfl<|Ts rfl (pT rfl rfl) ?_
 refine M rfl rfl<|No 26 rfl rfl rfl rfl rfl<|No 26 rfl rfl rfl rfl rfl<|No 26 rfl rfl rfl rfl rfl<|No 26 rfl rfl rfl rfl rfl<|Ts rfl (pT rfl rfl)<|As rfl rfl<|Tn ?_
 obtain rfl := o1 hm
 exact xJ ⟨rfl, rfl, lr⟩ (.refl _)
 rintro p _ _ ⟨rfl, rfl, g⟩
 have hm := A
 refine Cc _ rfl (fun k => ?_) (fun k => ?_)
 rw [if_pos k] at hm
 refine Cr<|As rfl rfl<|Te<|Ct<|Xb<|Xr ?_
 obtain rfl := o1 hm
 exact rM (rs := [.tmp 2]) (vs := [iv 2]) ⟨rfl, trivial⟩ ⟨rfl, rfl⟩ (.cons _ (.refl _)) g
 rw [if_neg (fun hh => Bool.noConfusion (hh.symm.trans k))] at hm
 refine Cr<|Ts rfl (sF rfl fld24_3)<|Ts rfl (sL 0 rfl one3 rfl rfl)<|Ts rfl (sF rfl fld24_2)<|Ts rfl (sL 0 rfl one3 rfl rfl)<|Ts rfl (q3 rfl rfl)<|As rfl rfl<|Te ?_
 refine Cc _ rfl (fun l => ?_) (fun l => ?_)
 rw [if_pos (of_decide_eq_true l)] at hm
 refine Cr<|As rfl rfl<|Te<|Ct<|Xb<|Xr ?_
 obtain rfl := o1 hm
 exact rM (rs := [.tmp 2]) (vs := [iv 13]) ⟨rfl, trivial⟩ ⟨rfl, rfl⟩ (.cons _ (.refl _)) g
 rw [if_neg (of_decide_eq_false l)] at hm
 refine Cr<|Ts rfl (sF rfl fld24_5)<|Ts rfl (sL 0 rfl one22 rfl rfl)<|Ts rfl (sE rfl sl22) ?_
 obtain ⟨H, I, hm⟩ := bS hm
 refine Do rfl (uW _ call12 rfl (fun w ho => cFareWithin _ [] (a.Zones.length : Int) 1 10 H I) (fun _ _ _ h => h.2.symm)) ?_
 rintro _ _ ⟨⟨_, rfl, _⟩, rfl⟩
 refine Ts rfl (sn2 rfl)<|As rfl rfl<|Te ?_
 refine Cc _ rfl (fun m => ?_) (fun m => ?_)
 rw [if_neg (fun hh => Bool.noConfusion (hh.symm.trans (nt m)))] at hm
 refine Cr<|As rfl rfl<|Te<|Ct<|Xb<|Xr ?_
 obtain rfl := o1 hm
 exact rM (rs := [.tmp 2]) (vs := [iv 4]) ⟨rfl, trivial⟩ ⟨rfl, rfl⟩ (.cons _ (.refl _)) g
 rw [if_pos (nf m)] at hm
 refine Ck<|Xm<|Xn<|Cr<|Ts rfl (sF rfl fld24_5)<|Ts rfl (sL 0 rfl one22 rfl rfl) ?_
 obtain ⟨u, J, hm⟩ := bS hm
 refine Do rfl (uW _ call30 rfl (fun w ho => cFareCheckZones _ [] a.Zones true i j ((x.le g).old ho) u J) (fun _ _ _ h => h.2.symm)) ?_
 rintro _ _ ⟨⟨_, rfl, _⟩, rfl⟩
 refine As rfl rfl<|Te<|Ct ?_
 obtain rfl := o1 hm
 exact rM (rs := [.tmp 2]) (vs := [iv u]) ⟨rfl, trivial⟩ ⟨rfl, rfl⟩ (.cons _ (.refl _)) g

set_option maxRecDepth 20000 in
theorem cStrconvItoa (b : Base) (R : Hp) (hG : GOn GT b) (a : Int) (c : ByteArray) (hm : mStrconvItoa a = some c) :
    CallsG Tryz.prog 18 [iv a] b (R) (fun v b' hp' => .string (c) = v ∧ R = hp') := by
 unfold mStrconvItoa at hm
 exact itoa_c hG hm

set_option maxRecDepth 20000 in
theorem cFareDigest (b : Base) (R : Hp) (a : ByteArray) (i : Int) (hm : mFareDigest a = some i) :
    CallsG Tryz.prog 33 [.string (a)] b (R) (fun v b' hp' => iv i = v ∧ R = hp') := by
 refine fE 21 Tryz.func33 rfl Tryz.ntmps33 rfl ?_
 unfold mFareDigest at hm
 refine Cr<|As rfl rfl<|Te<|Cr<|As rfl rfl<|Te<|Cs<|Cr<|M rfl rfl<|Ts rfl (st_slen rfl str9) ?_
 refine M rfl rfl<|Te<|Cb ?_
 obtain ⟨_, j, hm⟩ := bS hm
 have j := (kS j).2
 obtain ⟨c, m, n⟩ := bS hm
 refine cS (fun k => fun c => fun d e' hp' => [(0, .string (a)), (3, iv c), (6, iv ((a.size : Int))), (7, iv ((k : Int)))] = e' ∧ R = hp' ∧ b.Le d) m ⟨rfl, rfl, lr⟩ (.refl _) ?_ ?_
 rintro k c d _ _ q r ⟨rfl, rfl, e⟩ l
 unfold mFareDigest_L30 at l
 have hm := l
 refine Cr<|Ts rfl (lT rfl rfl (by omega))<|Te<|Cs<|c_cond_t rfl<|Ck<|Xn<|Cs<|Cb<|Cr ?_
 refine M rfl rfl<|As rfl rfl<|Te<|Cg<|M rfl rfl ?_
 obtain ⟨_, f, hm⟩ := bS hm
 have f := (kS f).2
 refine Ts rfl (st_mul rfl rfl f)<|M rfl rfl<|M rfl rfl ?_
 obtain ⟨s, o, hm⟩ := bS hm
 refine Ts rfl (st_sidx rfl rfl o str9)<|Ts rfl (st_conv rfl int5_u8 int3_i64) ?_
 obtain ⟨_, g, hm⟩ := bS hm
 have g := (kS g).2
 refine Ts rfl (sa rfl rfl g) ?_
 obtain ⟨_, h, hm⟩ := bS hm
 have h := (kS h).2
 refine Ts rfl (sa rfl rfl h) ?_
 obtain ⟨_, p, hm⟩ := bS hm
 refine Ts rfl (st_rem rfl rfl (ne0_some p))<|As rfl rfl<|Tn<|Xm<|Xn<|Cg<|Ts rfl (sa rfl rfl (by omega))<|M rfl rfl<|Tn ?_
 obtain rfl := o1 hm
 exact xS ⟨rfl, rfl, (e)⟩ (.refl _)
 rintro d _ _ ⟨rfl, rfl, e⟩
 have hm := n
 refine Cr<|Ts rfl (lF rfl rfl (by omega))<|Te<|Cs<|c_cond_f rfl<|Ce<|Xe<|Xe<|Xo<|Xn ?_
 refine Cr<|M rfl rfl<|As rfl rfl<|Te<|Ct ?_
 obtain rfl := o1 hm
 exact rM (rs := [.tmp 2]) (vs := [iv c]) ⟨rfl, trivial⟩ ⟨rfl, rfl⟩ (.refl _) e

set_option maxRecDepth 20000 in
theorem cFarePower (b : Base) (R : Hp) (k : Int) (l : Int) (a : Int) (m : Int) (hm : mFarePower k l a = some m) :
    CallsG Tryz.prog 32 [iv k, iv l, iv a] b (R) (fun v b' hp' => iv m = v ∧ R = hp') := by
 refine fE 31 Tryz.func32 rfl Tryz.ntmps32 rfl ?_
 unfold mFarePower at hm
 refine Cr<|As rfl rfl<|Te<|Cr<|M rfl rfl ?_
 obtain ⟨_, t, hm⟩ := bS hm
 refine Ts rfl (st_rem rfl rfl (ne0_some t))<|As rfl rfl<|Te ?_
 obtain ⟨n, u, w⟩ := bS hm
 refine Cj (fun o e' hp' => [(7, iv n)] = e' ∧ R = hp' ∧ b.Le o) ?_ ?_
 have hm := u
 refine Cr<|M rfl rfl<|M rfl rfl ?_
 obtain ⟨_, x, hm⟩ := bS hm
 refine Ts rfl (st_rem rfl rfl (ne0_some x))<|As rfl rfl<|Te<|Cb<|cL (unc3 fun c d p => fun e e' hp' => [(0, iv c), (1, iv d), (2, iv a), (7, iv p)] = e' ∧ R = hp' ∧ b.Le e) hm ⟨rfl, rfl, lr⟩ (.refl _) ?_
 rintro ⟨c, d, p⟩ e _ _ G ⟨rfl, rfl, q⟩ r y
 unfold mFarePower_L172 at r
 have hm := (unc3E r)
 refine Cs<|Cr<|M rfl rfl<|Ts rfl (q5 rfl rfl)<|Te ?_
 refine Cc _ rfl (fun f => ?_) (fun f => ?_)
 rw [if_pos (of_decide_eq_true f)] at hm
 refine Ck<|Xn<|Cs<|Cb ?_
 obtain ⟨z, A, B⟩ := bS hm
 refine Cj (fun s e' hp' => [(0, iv c), (1, iv d), (2, iv a), (7, iv z)] = e' ∧ R = hp' ∧ e.Le s) ?_ ?_
 have hm := A
 refine Cr<|M rfl rfl<|Ts rfl (st_and rfl rfl)<|Ts rfl (q1 rfl rfl)<|Te ?_
 refine Cc _ rfl (fun g => ?_) (fun g => ?_)
 rw [if_pos (of_decide_eq_true g)] at hm
 refine Cg<|M rfl rfl<|M rfl rfl ?_
 obtain ⟨_, h, hm⟩ := bS hm
 have h := (kS h).2
 refine Ts rfl (st_mul rfl rfl h)<|M rfl rfl ?_
 obtain ⟨_, C, hm⟩ := bS hm
 refine Ts rfl (st_rem rfl rfl (ne0_some C))<|As rfl rfl<|Tn ?_
 obtain rfl := o1 hm
 exact xJ ⟨rfl, rfl, lr⟩ (.refl _)
 rw [if_neg (of_decide_eq_false g)] at hm
 refine Ck ?_
 obtain rfl := o1 hm
 exact xJ ⟨rfl, rfl, lr⟩ (.refl _)
 rintro s _ _ ⟨rfl, rfl, D⟩
 have hm := B
 refine Cg<|M rfl rfl<|M rfl rfl ?_
 obtain ⟨_, i, hm⟩ := bS hm
 have i := (kS i).2
 refine Ts rfl (st_mul rfl rfl i)<|M rfl rfl ?_
 obtain ⟨_, E, hm⟩ := bS hm
 refine Ts rfl (st_rem rfl rfl (ne0_some E))<|As rfl rfl<|Tn<|Xm<|Xn<|Cg<|M rfl rfl ?_
 obtain ⟨_, j, hm⟩ := bS hm
 have j := shN_some j
 refine Ts rfl (st_shr rfl rfl j)<|As rfl rfl<|Tn ?_
 exact xM hm ⟨rfl, rfl, ((q.trans D))⟩ (.refl _)
 rw [if_neg (of_decide_eq_false f)] at hm
 refine Ce<|Xe<|Xe<|Xo ?_
 have hm := congrArg some (y _ (Option.some.inj hm).symm)
 obtain rfl := o1 hm
 exact xJ ⟨rfl, rfl, q⟩ (.refl _)
 rintro o _ _ ⟨rfl, rfl, F⟩
 have hm := w
 refine Cr<|M rfl rfl<|As rfl rfl<|Te<|Ct ?_
 obtain rfl := o1 hm
 exact rM (rs := [.tmp 6]) (vs := [iv n]) ⟨rfl, trivial⟩ ⟨rfl, rfl⟩ (.refl _) F

set_option maxRecDepth 20000 in
theorem cFareSign (b : Base) (R : Hp) (a : FareKey) (c : ByteArray) (e : Int) (f : Int) (hm : mFareSign a c = some (e, f)) :
    CallsG Tryz.prog 19 [.agg #[iv a.N, iv a.E, iv a.D], .string (c)] b (R) (fun v b' hp' => .tuple #[iv e, iv f] = v ∧ R = hp') := by
 refine fE 19 Tryz.func19 rfl Tryz.ntmps19 rfl ?_
 unfold mFareSign at hm
 refine Cr<|Do rfl (uB _ rfl rfl) ?_
 rintro _ _ ⟨s, rfl, rfl⟩
 refine As rfl rfl<|As rfl rfl<|Te<|Cs<|Cr<|Ts rfl (sD (vs := [_, _, _]) 0 3 rfl agg27 rfl rfl rfl) ?_
 obtain ⟨g, l, hm⟩ := bS hm
 refine Do rfl (uW _ call16 rfl (fun w ho => cFareKeyCheck _ [] a true g l) (fun _ _ _ h => h.2.symm)) ?_
 rintro _ _ ⟨⟨_, rfl, _⟩, rfl⟩
 refine As rfl rfl<|Te<|Cr<|M rfl rfl<|Ts rfl (q2 rfl rfl)<|Te ?_
 refine Cc _ rfl (fun d => ?_) (fun d => ?_)
 rw [if_pos (of_decide_eq_true d)] at hm
 refine Cr<|M rfl rfl<|As rfl rfl<|As rfl rfl<|Te<|Ct<|Xr ?_
 obtain ⟨rfl, rfl⟩ := some2 hm
 exact rM (rs := [.tmp 4, .tmp 5]) (vs := [iv 0, iv g]) ⟨rfl, ⟨rfl, trivial⟩⟩ ⟨rfl, rfl⟩ (.cons _ (.refl _)) lr
 rw [if_neg (of_decide_eq_false d)] at hm
 refine Ck<|Xn ?_
 obtain ⟨i, m, n⟩ := bS hm
 refine Cj (fun j e' hp' => [(4, iv i), (5, iv 0)] = e' ∧ R = hp' ∧ b.Le j) ?_ ?_
 have hm := m
 obtain ⟨k, o, hm⟩ := bS hm
 obtain ⟨p, q, hm⟩ := bS hm
 refine Di mixed (.refl _)<|E0 0 rfl (sM rfl)<|E0 2 rfl (sF rfl fld27_2)<|Es 3 rfl (sL 0 rfl one3 rfl rfl)<|E0 4 rfl (sF rfl fld27_0)<|Es 5 rfl (sL 0 rfl one3 rfl rfl)<|Eo<|Da [1] (by kernel_rfl) rfl ?_
 refine Rd2 lr rfl rfl (uW _ call33 rfl (fun w ho => cFareDigest _ [] c k o) (fun _ _ _ h => h.2.symm)) ?_ ?_
 rintro _ _ ⟨⟨_, rfl, _⟩, rfl⟩
 refine ⟨.inr (.refl _), ?_⟩
 refine Da [6] (by kernel_rfl) rfl ?_
 refine Rd2 lr rfl rfl (uW _ call32 rfl (fun w ho => cFarePower _ [] k a.D a.N p q) (fun _ _ _ h => h.2.symm)) ?_ ?_
 rintro _ _ ⟨⟨_, rfl, _⟩, rfl⟩
 refine ⟨.inl (by kernel_rfl), ?_⟩
 refine El lr<|E0 7 rfl (sA rfl)<|E0 8 rfl (sA rfl)<|Eo<|Dd (by kernel_rfl) ?_
 obtain rfl := o1 hm
 exact xJ ⟨rfl, rfl, lr⟩ (.cons _ (.refl _))
 exact Rn
 exact Rn
 rintro j _ _ ⟨rfl, rfl, r⟩
 have hm := n
 refine Ct ?_
 obtain ⟨rfl, rfl⟩ := some2 hm
 exact rM (rs := [.tmp 4, .tmp 5]) (vs := [iv i, iv 0]) ⟨rfl, ⟨rfl, trivial⟩⟩ ⟨rfl, rfl⟩ (.refl _) r

set_option maxRecDepth 20000 in
theorem cFareIssue (b : Base) (R : Hp) (hG : GOn GT b) (c : FareKey) (a : FareTicket) (e : OA) (f : Nat) (o : FZ rI b.w e f a.Zones) (p : ByteArray) (q : Int) (hm : mFareIssue c a = some (p, q)) :
    CallsG Tryz.prog 7 [.agg #[iv c.N, iv c.E, iv c.D], .agg #[iv a.No, iv a.Day, iv a.Start, iv a.End, iv a.Price, sv e a.Zones f]] b (R) (fun v b' hp' => .tuple #[.string (p), iv q] = v ∧ R = hp') := by
 refine fE 61 Tryz.func7 rfl Tryz.ntmps7 rfl ?_
 unfold mFareIssue at hm
 refine Cr<|Do rfl (uB _ rfl rfl) ?_
 rintro _ _ ⟨s, rfl, rfl⟩
 refine Do rfl (uB _ rfl rfl) ?_
 rintro _ _ ⟨an, rfl, rfl⟩
 refine As rfl rfl<|As rfl rfl<|Te<|Cs<|Cr<|Ts rfl (sD (vs := [_, _, _]) 1 3 rfl agg27 rfl rfl rfl) ?_
 obtain ⟨t, C, hm⟩ := bS hm
 refine Do rfl (uW _ call16 rfl (fun w ho => cFareKeyCheck _ [] c true t C) (fun _ _ _ h => h.2.symm)) ?_
 rintro _ _ ⟨⟨_, rfl, _⟩, rfl⟩
 refine As rfl rfl<|Te<|Cr<|M rfl rfl<|Ts rfl (q2 rfl rfl)<|Te ?_
 refine Cc _ rfl (fun g => ?_) (fun g => ?_)
 rw [if_pos (of_decide_eq_true g)] at hm
 refine Cr<|M rfl rfl<|As rfl rfl<|As rfl rfl<|Te<|Ct<|Xr ?_
 obtain ⟨rfl, rfl⟩ := some2 hm
 exact rM (rs := [.tmp 4, .tmp 5]) (vs := [.string ((ByteArray.mk #[])), iv t]) ⟨rfl, ⟨rfl, trivial⟩⟩ ⟨rfl, rfl⟩ (.cons _ (.cons _ (.refl _))) lr
 rw [if_neg (of_decide_eq_false g)] at hm
 refine Ck<|Xn<|Cs<|Cr<|Ts rfl (sD (vs := [_, _, _, _, _, _]) 0 6 rfl agg24 rfl rfl rfl) ?_
 obtain ⟨u, D, hm⟩ := bS hm
 refine Do rfl (uW _ call17 rfl (fun w ho => cFareTicketCheck _ [] a e f (o.old ho) u D) (fun _ _ _ h => h.2.symm)) ?_
 rintro _ _ ⟨⟨_, rfl, _⟩, rfl⟩
 refine As rfl rfl<|Te<|Cr<|M rfl rfl<|Ts rfl (q2 rfl rfl)<|Te ?_
 refine Cc _ rfl (fun i => ?_) (fun i => ?_)
 rw [if_pos (of_decide_eq_true i)] at hm
 refine Cr<|M rfl rfl<|As rfl rfl<|As rfl rfl<|Te<|Ct<|Xr ?_
 obtain ⟨rfl, rfl⟩ := some2 hm
 exact rM (rs := [.tmp 4, .tmp 5]) (vs := [.string ((ByteArray.mk #[])), iv u]) ⟨rfl, ⟨rfl, trivial⟩⟩ ⟨rfl, rfl⟩ (.cons _ (.cons _ (.refl _))) lr
 rw [if_neg (of_decide_eq_false i)] at hm
 refine Ck<|Xn<|Cr<|As rfl rfl<|Te<|Cs<|Cr<|Ts rfl (sF rfl fld24_0)<|Ts rfl (sL 0 rfl one3 rfl rfl)<|Ts rfl (sF rfl fld24_1) ?_
 refine Ts rfl (sL 0 rfl one3 rfl rfl)<|Ts rfl (sF rfl fld24_2)<|Ts rfl (sL 0 rfl one3 rfl rfl)<|Ts rfl (sF rfl fld24_3)<|Ts rfl (sL 0 rfl one3 rfl rfl)<|Ts rfl (sF rfl fld24_4)<|Ts rfl (sL 0 rfl one3 rfl rfl)<|Do rfl (u_bslice (el := 3) [(0, iv a.No), (1, iv a.Day), (2, iv a.Start), (3, iv a.End), (4, iv a.Price)] [iv a.No, iv a.Day, iv a.Start, iv a.End, iv a.Price] rfl (fun _ => by kernel_rfl)) ?_
 rintro _ _ ⟨x, rfl, rfl⟩
 refine Ts rfl (sF rfl fld24_5)<|Ts rfl (sL 1 rfl one22 rfl rfl)<|t_seg 0 [_, _] R rfl rfl ?_
 have E : OS 3 (OT.fr rI) b.w (.slice (some ⟨x, 0, none⟩) 5 5) [a.No, a.Day, a.Start, a.End, a.Price] [(x, Cl 3 [iv a.No, iv a.Day, iv a.Start, iv a.End, iv a.Price])] := OS.lit [[iv a.No], [iv a.Day], [iv a.Start], [iv a.End], [iv a.Price]] rfl ⟨rfl, ⟨rfl, ⟨rfl, ⟨rfl, ⟨rfl, trivial⟩⟩⟩⟩⟩ rfl (by decide)
 obtain ⟨F, G, H⟩ := rd_src o
 obtain ⟨_, j, hm⟩ := bS hm
 have j := room_some j
 refine Do rfl (uQ (r := rI) (l := [a.No, a.Day, a.Start, a.End, a.Price]) [_, _] R F a.Zones rfl (by decide) sl22 inf3 rfl rfl rfl rfl E rfl (fun w ho => G.old ho) H j) ?_
 rintro _ _ ⟨y, rfl, k⟩
 obtain ⟨I, J, rfl, _⟩ := k.form
 refine Ts rfl (sE rfl sl22)<|M rfl rfl<|Te<|Cb ?_
 have ao : ([a.No, a.Day, a.Start, a.End, a.Price] ++ a.Zones).length ≤ 9223372036854775807 := (OS.len k)
 refine Cp 1 rfl ?_
 obtain ⟨m, K, L⟩ := bS hm
 refine cS (fun z => fun m => fun n e' hp' => [(2, pb s), (8, .string (m)), (36, .slice I ([a.No, a.Day, a.Start, a.End, a.Price] ++ a.Zones).length J), (37, iv ((([a.No, a.Day, a.Start, a.End, a.Price] ++ a.Zones).length : Int))), (38, iv ((z : Int)))] = e' ∧ (s, Cl 27 [iv c.N, iv c.E, iv c.D]) :: (y ++ R) = hp' ∧ b.Le n) K ⟨rfl, rfl, lr⟩ (.cons_cons _ (.cons _ (.refl _))) ?_ ?_
 rintro z m n _ _ aq ar ⟨rfl, rfl, d⟩ A
 unfold mFareIssue_L132 at A
 have hm := A
 refine Cr<|Ts rfl (lT rfl rfl (by omega))<|Te<|Cs<|c_cond_t rfl<|Ck<|Xn<|Cs<|Cb<|Cr ?_
 obtain ⟨O, S, hm⟩ := bS hm
 obtain ⟨T, U, V⟩ := iS S
 obtain ⟨au, av, aw, ax, ay, W, X, Y, Z, az, aA⟩ := OS.get (sz := 1) rfl (by decide) (k.le d) V
 obtain ⟨rfl, rfl⟩ := W
 refine Ts rfl (sI T rfl rfl U Z Y sl22)<|Ts rfl (st_load_rd rfl one3 (fun w ho => X w _ ho (.cons _ (List.sublist_append_left _ _)) 0 _ rfl))<|As rfl rfl<|Te<|Cg<|M rfl rfl<|M rfl rfl ?_
 obtain ⟨aa, ab, hm⟩ := bS hm
 refine Do rfl (uW _ call18 rfl (fun w ho => cStrconvItoa _ [] ((hG.le d).old ho) O aa ab) (fun _ _ _ h => h.2.symm)) ?_
 rintro _ _ ⟨⟨_, rfl, _⟩, rfl⟩
 obtain ⟨aB, ac, hm⟩ := bS hm
 refine Ts rfl (st_sadd rfl rfl ac) ?_
 obtain ⟨aC, ad, hm⟩ := bS hm
 refine Ts rfl (st_sadd rfl rfl ad)<|As rfl rfl<|Tn<|Xm<|Xn<|Cg<|Ts rfl (sa rfl rfl (by omega))<|M rfl rfl<|Tn ?_
 obtain rfl := o1 hm
 exact xS ⟨rfl, rfl, (d)⟩ (.refl _)
 rintro n _ _ ⟨rfl, rfl, d⟩
 have hm := L
 refine Cr<|Ts rfl (lF rfl rfl (by omega))<|Te<|Cs<|c_cond_f rfl<|Ce<|Xe<|Xe<|Xo<|Xn ?_
 refine Cr<|M rfl rfl ?_
 obtain ⟨ae, af, hm⟩ := bS hm
 refine Ts rfl (st_sadd rfl rfl af)<|As rfl rfl<|Te<|Cr<|Ts rfl (sD (vs := [_, _, _]) 0 3 rfl agg27 rfl rfl rfl)<|M rfl rfl ?_
 obtain ⟨⟨B, ag⟩, ah, hm⟩ := bS hm
 have hm := (unc2E hm)
 refine Do rfl (uW _ call19 rfl (fun w ho => cFareSign _ [] c ae B ag ah) (fun _ _ _ h => h.2.symm)) ?_
 rintro _ _ ⟨⟨_, rfl, _⟩, rfl⟩
 refine M rfl rfl<|Ts rfl (st_extract rfl rfl)<|Ts rfl (st_extract rfl rfl)<|As rfl rfl<|As rfl rfl<|Te<|Cr<|M rfl rfl<|M rfl rfl ?_
 obtain ⟨ai, aj, hm⟩ := bS hm
 refine Do rfl (uW _ call18 rfl (fun w ho => cStrconvItoa _ [] ((hG.le d).old ho) B ai aj) (fun _ _ _ h => h.2.symm)) ?_
 rintro _ _ ⟨⟨_, rfl, _⟩, rfl⟩
 obtain ⟨aD, ak, hm⟩ := bS hm
 refine Ts rfl (st_sadd rfl rfl ak) ?_
 obtain ⟨al, am, hm⟩ := bS hm
 refine Ts rfl (st_sadd rfl rfl am)<|As rfl rfl<|As rfl rfl<|Te<|Ct ?_
 obtain ⟨rfl, rfl⟩ := some2 hm
 exact rM (rs := [.tmp 4, .tmp 5]) (vs := [.string (al), iv 0]) ⟨rfl, ⟨rfl, trivial⟩⟩ ⟨rfl, rfl⟩ (.cons _ (ss y (.refl _))) d

end Go.Proofs.YtglmhaihgpnogaaGreatDoor
