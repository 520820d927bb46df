/- Contracts: the code computes its model (part 1). -/
import Derived.Test.YtnmhabgnfifkdaaZT
import Derived.Test.YtnmhabgnfifkdaaXQ
set_option linter.unusedVariables false
set_option linter.unusedSimpArgs false
namespace Go.Proofs.Ytnmhabgnfifkdaa
open Go.RowKit Go.Fp

open Go.Fp renaming t_mv → M, t_as → As, t_st → Ts, t_do → Do, t_ne → Te, t_nil → Tn, t_no → No, t_yes → Ys, t_bool → Tb, t_callG → Tg, t_resp → Tr, c_sr → Cr, c_seq → Cs, c_region → Cg, c_cond → Cc, c_block → Cb, c_ret → Ct, c_skip → Ck, c_exit → Ce, c_join → Cj, c_pullb → Cp, x_then_normal → Xn, x_then_ret → Xr, x_then_exit → Xe, x_block_ret → Xb, x_block_normal → Xm, x_block_out → Xo, x_pullb → Xp, x_front2 → X2, E_st → Es, E_s0 → E0, E_yes → Ey, E_y0 → Yz, E_no → En, E_in → Ei, E_il → El, E_out → Eo, D_all → Da, D_done → Dd, D_drawI → Di, R_do → Rd2, R_nil → Rn, R_callvG → Rv, st_load → sL, st_loadD → sD, st_field → sF, st_len → sE, st_move → sM, st_assign → sA, st_pick_t → pT, st_pick_f → pF, st_index_old → sI, st_load_old → sO, st_loadN_old → sP, st_field_old → sQ, st_add → sa, st_sub → sb, st_lss_t → lT, st_lss_f → lF, st_not → sn2, st_build → sB, u_box → uB, u_alloc → uA, u_storeN → uN, u_callW0 → uW, u_putOS → uP, u_appOS → uQ, fn_enterG → fE, bindS → bS, some1 → o1, idx_some → iS, sub_skip → ss, sub_app → sp, chk_some → kS, notT → nt, notF → nf, mem_c → mc, mem_n → mn, st_eql → q1, st_neq → q2, st_lss → q3, st_leq → q4, st_gtr → q5, st_geq → q6
set_option maxRecDepth 20000 in
theorem cFleetWithin (b : Base) (R : Hp) (c : Int) (d : Int) (e : Int) (f : Bool) (hm : mFleetWithin c d e = some f) :
    CallsG Try.prog 23 [iv c, iv d, iv e] b (R) (fun v b' hp' => bv f = v ∧ R = hp') := by
 refine fE 15 Try.func23 rfl Try.ntmps23 rfl ?_
 unfold mFleetWithin at hm
 refine Cr<|As rfl rfl<|Te ?_
 obtain ⟨g, i, j⟩ := bS hm
 refine Cj (fun h e' hp' => [(6, bv g)] = e' ∧ R = hp' ∧ b.Le h) ?_ ?_
 have hm := i
 refine Cg<|M rfl rfl<|M rfl rfl ?_
 refine Tb rfl (q6 rfl rfl) (fun a => ?_) (fun a => ?_)
 rw [if_pos a] at hm
 refine M rfl rfl<|Ys 10 rfl rfl rfl<|M rfl rfl<|Ys 10 rfl rfl rfl<|M rfl rfl<|Ys 10 rfl rfl rfl<|Ts rfl (q4 rfl rfl)<|Ts rfl (pT rfl rfl)<|As rfl rfl<|Tn ?_
 obtain rfl := o1 hm
 exact xJ ⟨rfl, rfl, lr⟩ (.refl _)
 rw [if_neg a] at hm
 refine M rfl rfl<|No 10 rfl rfl rfl rfl rfl<|No 10 rfl rfl rfl rfl rfl<|No 10 rfl rfl rfl rfl rfl<|Ts rfl (pF rfl rfl)<|As rfl rfl<|Tn ?_
 obtain rfl := o1 hm
 exact xJ ⟨rfl, rfl, lr⟩ (.refl _)
 rintro h _ _ ⟨rfl, rfl, k⟩
 have hm := j
 refine Ct ?_
 obtain rfl := o1 hm
 exact rM (rs := [.tmp 6]) (vs := [bv g]) ⟨rfl, trivial⟩ ⟨rfl, rfl⟩ (.refl _) k

set_option maxRecDepth 20000 in
theorem cFleetCheckTasks (b : Base) (R : Hp) (c : (List FleetTask)) (f : OA) (g : Nat) (z : FZ rFleetTask b.w f g c) (A : Int) (hm : mFleetCheckTasks c = some A) :
    CallsG Try.prog 40 [sv f c g] b (R) (fun v b' hp' => iv A = v ∧ R = hp') := by
 refine fE 55 Try.func40 rfl Try.ntmps40 rfl ?_
 unfold mFleetCheckTasks at hm
 refine Cr<|As rfl rfl<|Te<|Cs<|Cr<|M rfl rfl<|Ts rfl (sE rfl sl32)<|Ts rfl (q5 rfl rfl)<|Te ?_
 refine Cc _ rfl (fun q => ?_) (fun q => ?_)
 rw [if_pos (of_decide_eq_true q)] at hm
 refine Cr<|As rfl rfl<|Te<|Ct<|Xr ?_
 obtain rfl := o1 hm
 exact rM (rs := [.tmp 2]) (vs := [iv 4]) ⟨rfl, trivial⟩ ⟨rfl, rfl⟩ (.refl _) lr
 rw [if_neg (of_decide_eq_false q)] at hm
 refine Ck<|Xn<|Cs<|Cr<|M rfl rfl<|Ts rfl (sE rfl sl32)<|M rfl rfl<|Te<|Cb ?_
 have aq : c.length ≤ 9223372036854775807 := (FZ.bd z)
 obtain ⟨ar, K, d⟩ := bS hm
 refine cF (fun n => fun _ => fun o e' hp' => [(8, sv f c g), (9, iv ((c.length : Int))), (10, iv ((n : Int)))] = e' ∧ R = hp' ∧ b.Le o) K ⟨rfl, rfl, lr⟩ (.refl _) ?_ ?_
 rintro n _ o _ _ au av ⟨rfl, rfl, e⟩ B r
 unfold mFleetCheckTasks_L128 at B
 have hm := B
 refine Cr<|Ts rfl (lT rfl rfl (by omega))<|Te<|Cs<|c_cond_t rfl<|Ck<|Xn<|Cs<|Cb<|Cr ?_
 obtain ⟨a, L, hm⟩ := bS hm
 obtain ⟨O, S, T⟩ := iS L
 obtain ⟨aw, U, V, C, W⟩ := FZ.get (sz := 6) rfl (by decide) (z.le e) T
 obtain ⟨_, _, rfl, rfl, ⟨_, _, rfl, rfl, ⟨_, _, rfl, rfl, ⟨_, _, rfl, rfl, ⟨_, _, rfl, rfl, rfl⟩⟩⟩⟩⟩ := U
 refine Ts rfl (sI O rfl rfl S W C sl32)<|Ts rfl (sP (vs := [iv a.From, iv a.To, iv a.Dep, iv a.Arr, iv a.Km, iv a.Units]) 6 rfl agg39 C rfl (fun j u hu => V j u hu))<|Do rfl (uA [iv 0, iv 0, iv 0, iv 0, iv 0, iv 0] zero39 rfl) ?_
 rintro _ _ ⟨D, rfl, rfl⟩
 refine Do rfl (uN (vs := [_, _, _, _, _, _]) 0 6 rfl rfl rfl siz39 rfl (mc rfl (mc rfl (mc rfl (mc rfl (mc rfl (mc rfl mn)))))) rfl (by simp)) ?_
 rintro _ _ rfl
 refine Te<|Cb ?_
 obtain ⟨X, Y, Z⟩ := bS hm
 refine Cj (fun s e' hp' => [(4, pb D), (8, sv f c g), (9, iv ((c.length : Int))), (10, iv ((n : Int))), (14, bv X)] = e' ∧ (D, Cl 39 [iv a.From, iv a.To, iv a.Dep, iv a.Arr, iv a.Km, iv a.Units]) :: R = hp' ∧ o.Le s) ?_ ?_
 have hm := Y
 refine Cg<|Ts rfl (sF rfl fld39_0)<|Ts rfl (sL 0 rfl one3 rfl rfl) ?_
 obtain ⟨E, aa, hm⟩ := bS hm
 refine Do rfl (uW _ call23 rfl (fun w ho => cFleetWithin _ [] a.From 0 11 E aa) (fun _ _ _ h => h.2.symm)) ?_
 rintro _ _ ⟨⟨_, rfl, _⟩, rfl⟩
 rcases Bool.eq_false_or_eq_true E with i | i
 rw [if_pos i] at hm
 refine Tr 17 rfl (v' := .bool true) (by rw [i] <;> rfl)<|Ts rfl (st_not_t rfl)<|M rfl rfl<|Ys 19 rfl rfl rfl<|Ts rfl (sF rfl fld39_1)<|Ys 19 rfl rfl rfl<|Ts rfl (sL 0 rfl one3 rfl rfl)<|Ys 19 rfl rfl rfl ?_
 obtain ⟨F, ab, hm⟩ := bS hm
 refine Do rfl (uW _ call23 rfl (fun w ho => cFleetWithin _ [] a.To 0 11 F ab) (fun _ _ _ h => h.2.symm)) ?_
 rintro _ _ ⟨⟨_, rfl, _⟩, rfl⟩
 rcases Bool.eq_false_or_eq_true F with k | k
 rw [if_pos k] at hm
 refine Tr 22 rfl (v' := .bool true) (by rw [k] <;> rfl)<|Ys 19 rfl rfl rfl<|Ts rfl (st_not_t rfl)<|Ts rfl (pF rfl rfl)<|M rfl rfl<|Ys 25 rfl rfl rfl<|Ts rfl (sF rfl fld39_2)<|Ys 25 rfl rfl rfl<|Ts rfl (sL 0 rfl one3 rfl rfl)<|Ys 25 rfl rfl rfl ?_
 obtain ⟨G, ac, hm⟩ := bS hm
 refine Do rfl (uW _ call23 rfl (fun w ho => cFleetWithin _ [] a.Dep 0 28800 G ac) (fun _ _ _ h => h.2.symm)) ?_
 rintro _ _ ⟨⟨_, rfl, _⟩, rfl⟩
 rcases Bool.eq_false_or_eq_true G with l | l
 rw [if_pos l] at hm
 refine Tr 28 rfl (v' := .bool true) (by rw [l] <;> rfl)<|Ys 25 rfl rfl rfl<|Ts rfl (st_not_t rfl)<|Ts rfl (pF rfl rfl)<|M rfl rfl<|Ys 31 rfl rfl rfl<|Ts rfl (sF rfl fld39_3)<|Ys 31 rfl rfl rfl<|Ts rfl (sL 0 rfl one3 rfl rfl)<|Ys 31 rfl rfl rfl ?_
 obtain ⟨ad, ae, hm⟩ := bS hm
 refine Do rfl (uW _ call23 rfl (fun w ho => cFleetWithin _ [] a.Arr 0 28800 ad ae) (fun _ _ _ h => h.2.symm)) ?_
 rintro _ _ ⟨⟨_, rfl, _⟩, rfl⟩
 refine Ys 31 rfl rfl rfl<|Ts rfl (sn2 rfl)<|Ts rfl (pF rfl rfl)<|As rfl rfl<|Tn ?_
 obtain rfl := o1 hm
 exact xJ ⟨rfl, rfl, lr⟩ (.refl _)
 rw [if_neg (fun hh => Bool.noConfusion (hh.symm.trans l))] at hm
 refine Tr 28 rfl (v' := .bool false) (by rw [l] <;> rfl)<|Ys 25 rfl rfl rfl<|Ts rfl (st_not_f rfl)<|Ts rfl (pF rfl rfl)<|M rfl rfl<|No 31 rfl rfl rfl rfl rfl<|No 31 rfl rfl rfl rfl rfl<|No 31 rfl rfl rfl rfl rfl<|No 31 rfl rfl rfl rfl rfl<|Ts rfl (pT rfl rfl) ?_
 refine As rfl rfl<|Tn ?_
 obtain rfl := o1 hm
 exact xJ ⟨rfl, rfl, lr⟩ (.refl _)
 rw [if_neg (fun hh => Bool.noConfusion (hh.symm.trans k))] at hm
 refine Tr 22 rfl (v' := .bool false) (by rw [k] <;> rfl)<|Ys 19 rfl rfl rfl<|Ts rfl (st_not_f rfl)<|Ts rfl (pF rfl rfl)<|M rfl rfl<|No 25 rfl rfl rfl rfl rfl<|No 25 rfl rfl rfl rfl rfl<|No 25 rfl rfl rfl rfl rfl<|No 25 rfl rfl rfl rfl rfl<|Ts rfl (pT rfl rfl) ?_
 refine M rfl rfl<|No 31 rfl rfl rfl rfl rfl<|No 31 rfl rfl rfl rfl rfl<|No 31 rfl rfl rfl rfl rfl<|No 31 rfl rfl rfl rfl rfl<|Ts rfl (pT rfl rfl)<|As rfl rfl<|Tn ?_
 obtain rfl := o1 hm
 exact xJ ⟨rfl, rfl, lr⟩ (.refl _)
 rw [if_neg (fun hh => Bool.noConfusion (hh.symm.trans i))] at hm
 refine Tr 17 rfl (v' := .bool false) (by rw [i] <;> rfl)<|Ts rfl (st_not_f rfl)<|M rfl rfl<|No 19 rfl rfl rfl rfl rfl<|No 19 rfl rfl rfl rfl rfl<|No 19 rfl rfl rfl rfl rfl<|No 19 rfl rfl rfl rfl rfl<|Ts rfl (pT rfl rfl)<|M rfl rfl<|No 25 rfl rfl rfl rfl rfl ?_
 refine No 25 rfl rfl rfl rfl rfl<|No 25 rfl rfl rfl rfl rfl<|No 25 rfl rfl rfl rfl rfl<|Ts rfl (pT rfl rfl)<|M rfl rfl<|No 31 rfl rfl rfl rfl rfl<|No 31 rfl rfl rfl rfl rfl<|No 31 rfl rfl rfl rfl rfl<|No 31 rfl rfl rfl rfl rfl<|Ts rfl (pT rfl rfl) ?_
 refine As rfl rfl<|Tn ?_
 obtain rfl := o1 hm
 exact xJ ⟨rfl, rfl, lr⟩ (.refl _)
 rintro s _ _ ⟨rfl, rfl, p⟩
 have hm := Z
 refine Cc _ rfl (fun t => ?_) (fun t => ?_)
 rw [if_pos t] at hm
 refine Cr<|As rfl rfl<|Te<|Ct<|Xb<|Xb<|Xr<|Xr<|Xb<|Xr ?_
 have af := r _ (Option.some.inj hm).symm
 rw [af] at d
 have hm := elimR d
 obtain rfl := o1 hm
 exact rM (rs := [.tmp 2]) (vs := [iv 2]) ⟨rfl, trivial⟩ ⟨rfl, rfl⟩ (.cons _ (.refl _)) (e.trans p)
 rw [if_neg (fun hh => Bool.noConfusion (hh.symm.trans t))] at hm
 refine Cr<|Ts rfl (sF rfl fld39_3)<|Ts rfl (sL 0 rfl one3 rfl rfl)<|Ts rfl (sF rfl fld39_2)<|Ts rfl (sL 0 rfl one3 rfl rfl)<|Ts rfl (q4 rfl rfl)<|As rfl rfl<|Te ?_
 refine Cc _ rfl (fun x => ?_) (fun x => ?_)
 rw [if_pos (of_decide_eq_true x)] at hm
 refine Cr<|As rfl rfl<|Te<|Ct<|Xb<|Xb<|Xr<|Xr<|Xb<|Xr ?_
 have ag := r _ (Option.some.inj hm).symm
 rw [ag] at d
 have hm := elimR d
 obtain rfl := o1 hm
 exact rM (rs := [.tmp 2]) (vs := [iv 13]) ⟨rfl, trivial⟩ ⟨rfl, rfl⟩ (.cons _ (.refl _)) (e.trans p)
 rw [if_neg (of_decide_eq_false x)] at hm
 obtain ⟨ah, ai, aj⟩ := bS hm
 refine Cj (fun H e' hp' => [(8, sv f c g), (9, iv ((c.length : Int))), (10, iv ((n : Int))), (43, bv ah)] = e' ∧ R = hp' ∧ s.Le H) ?_ ?_
 have hm := ai
 refine Cg<|Ts rfl (sF rfl fld39_4)<|Ts rfl (sL 0 rfl one3 rfl rfl) ?_
 obtain ⟨I, ak, hm⟩ := bS hm
 refine Do rfl (uW _ call23 rfl (fun w ho => cFleetWithin _ [] a.Km 0 10000 I ak) (fun _ _ _ h => h.2.symm)) ?_
 rintro _ _ ⟨⟨_, rfl, _⟩, rfl⟩
 rcases Bool.eq_false_or_eq_true I with m | m
 rw [if_pos m] at hm
 refine Tr 46 rfl (v' := .bool true) (by rw [m] <;> rfl)<|Ts rfl (st_not_t rfl)<|M rfl rfl<|Ys 48 rfl rfl rfl<|Ts rfl (sF rfl fld39_5)<|Ys 48 rfl rfl rfl<|Ts rfl (sL 0 rfl one3 rfl rfl)<|Ys 48 rfl rfl rfl ?_
 obtain ⟨al, am, hm⟩ := bS hm
 refine Do rfl (uW _ call23 rfl (fun w ho => cFleetWithin _ [] a.Units 1 4 al am) (fun _ _ _ h => h.2.symm)) ?_
 rintro _ _ ⟨⟨_, rfl, _⟩, rfl⟩
 refine Ys 48 rfl rfl rfl<|Ts rfl (sn2 rfl)<|Ts rfl (pF rfl rfl)<|As rfl rfl<|Tn ?_
 obtain rfl := o1 hm
 exact xJ ⟨rfl, rfl, lr⟩ (.cons _ (.refl _))
 rw [if_neg (fun hh => Bool.noConfusion (hh.symm.trans m))] at hm
 refine Tr 46 rfl (v' := .bool false) (by rw [m] <;> rfl)<|Ts rfl (st_not_f rfl)<|M rfl rfl<|No 48 rfl rfl rfl rfl rfl<|No 48 rfl rfl rfl rfl rfl<|No 48 rfl rfl rfl rfl rfl<|No 48 rfl rfl rfl rfl rfl<|Ts rfl (pT rfl rfl)<|As rfl rfl<|Tn ?_
 obtain rfl := o1 hm
 exact xJ ⟨rfl, rfl, lr⟩ (.cons _ (.refl _))
 rintro H _ _ ⟨rfl, rfl, J⟩
 have hm := aj
 refine Cc _ rfl (fun y => ?_) (fun y => ?_)
 rw [if_pos y] at hm
 refine Cr<|As rfl rfl<|Te<|Ct<|Xb<|Xb<|Xr<|Xr<|Xb<|Xr ?_
 have an := r _ (Option.some.inj hm).symm
 rw [an] at d
 have hm := elimR d
 obtain rfl := o1 hm
 exact rM (rs := [.tmp 2]) (vs := [iv 2]) ⟨rfl, trivial⟩ ⟨rfl, rfl⟩ (.refl _) (e.trans (p.trans J))
 rw [if_neg (fun hh => Bool.noConfusion (hh.symm.trans y))] at hm
 refine Ck<|Xm<|Xm<|Xn<|Cg<|Ts rfl (sa rfl rfl (by omega))<|M rfl rfl<|Tn ?_
 exact xM hm ⟨rfl, rfl, ((e.trans (p.trans J)))⟩ (.refl _)
 rintro _ o _ _ ⟨rfl, rfl, e⟩ ao
 rw [ao] at d
 have hm := elimL d
 refine Cr<|Ts rfl (lF rfl rfl (by omega))<|Te<|Cs<|c_cond_f rfl<|Ce<|Xe<|Xe<|Xo<|Xn ?_
 refine Cr<|As rfl rfl<|Te<|Ct ?_
 obtain rfl := o1 hm
 exact rM (rs := [.tmp 2]) (vs := [iv 0]) ⟨rfl, trivial⟩ ⟨rfl, rfl⟩ (.refl _) e

set_option maxRecDepth 20000 in
theorem cFleetCheckTurn (b : Base) (R : Hp) (a : (List FleetTask)) (c : Int) (d : OA) (e : Nat) (k : FZ rFleetTask b.w d e a) (i : Int) (hm : mFleetCheckTurn a c = some i) :
    CallsG Try.prog 36 [sv d a e, iv c] b (R) (fun v b' hp' => iv i = v ∧ R = hp') := by
 refine fE 14 Try.func36 rfl Try.ntmps36 rfl ?_
 unfold mFleetCheckTurn at hm
 refine Cr<|As rfl rfl<|Te<|Cs<|Cr<|M rfl rfl ?_
 obtain ⟨j, l, hm⟩ := bS hm
 refine Do rfl (uW _ call40 rfl (fun w ho => cFleetCheckTasks _ [] a d e (k.old ho) j l) (fun _ _ _ h => h.2.symm)) ?_
 rintro _ _ ⟨⟨_, rfl, _⟩, rfl⟩
 refine As rfl rfl<|Te<|Cr<|M rfl rfl<|Ts rfl (q2 rfl rfl)<|Te ?_
 refine Cc _ rfl (fun f => ?_) (fun f => ?_)
 rw [if_pos (of_decide_eq_true f)] at hm
 refine Cr<|M rfl rfl<|As rfl rfl<|Te<|Ct<|Xr ?_
 obtain rfl := o1 hm
 exact rM (rs := [.tmp 4]) (vs := [iv j]) ⟨rfl, trivial⟩ ⟨rfl, rfl⟩ (.refl _) lr
 rw [if_neg (of_decide_eq_false f)] at hm
 refine Ck<|Xn<|Cs<|Cr<|M rfl rfl ?_
 obtain ⟨m, n, hm⟩ := bS hm
 refine Do rfl (uW _ call23 rfl (fun w ho => cFleetWithin _ [] c 0 28800 m n) (fun _ _ _ h => h.2.symm)) ?_
 rintro _ _ ⟨⟨_, rfl, _⟩, rfl⟩
 refine Ts rfl (sn2 rfl)<|Te ?_
 refine Cc _ rfl (fun g => ?_) (fun g => ?_)
 rw [if_neg (fun hh => Bool.noConfusion (hh.symm.trans (nt g)))] at hm
 refine Cr<|As rfl rfl<|Te<|Ct<|Xr ?_
 obtain rfl := o1 hm
 exact rM (rs := [.tmp 4]) (vs := [iv 2]) ⟨rfl, trivial⟩ ⟨rfl, rfl⟩ (.refl _) lr
 rw [if_pos (nf g)] at hm
 refine Ck<|Xn<|Cr<|As rfl rfl<|Te<|Ct ?_
 obtain rfl := o1 hm
 exact rM (rs := [.tmp 4]) (vs := [iv 0]) ⟨rfl, trivial⟩ ⟨rfl, rfl⟩ (.refl _) lr

set_option maxRecDepth 20000 in
theorem cCmpIsNaN (b : Base) (R : Hp) (a : Int) (c : Bool) (hm : mCmpIsNaN a = some c) :
    CallsG Try.prog 68 [iv a] b (R) (fun v b' hp' => bv c = v ∧ R = hp') := by
 refine fE 6 Try.func68 rfl Try.ntmps68 rfl ?_
 unfold mCmpIsNaN at hm
 refine Cr<|As rfl rfl<|Te<|Cr<|M rfl rfl<|M rfl rfl<|Ts rfl (q2 rfl rfl)<|As rfl rfl<|Te<|Ct ?_
 obtain rfl := o1 hm
 exact rM (rs := [.tmp 2]) (vs := [.bool (decide (a ≠ a))]) ⟨rfl, trivial⟩ ⟨rfl, rfl⟩ (.refl _) lr

set_option maxRecDepth 20000 in
theorem cCmpCompare (b : Base) (R : Hp) (a : Int) (c : Int) (j : Int) (hm : mCmpCompare a c = some j) :
    CallsG Try.prog 53 [iv a, iv c] b (R) (fun v b' hp' => iv j = v ∧ R = hp') := by
 refine fE 20 Try.func53 rfl Try.ntmps53 rfl ?_
 unfold mCmpCompare at hm
 refine Cr<|As rfl rfl<|Te<|Cr<|M rfl rfl ?_
 obtain ⟨k, l, hm⟩ := bS hm
 refine Do rfl (uW _ call68 rfl (fun w ho => cCmpIsNaN _ [] a k l) (fun _ _ _ h => h.2.symm)) ?_
 rintro _ _ ⟨⟨_, rfl, _⟩, rfl⟩
 refine As rfl rfl<|Te<|Cr<|M rfl rfl ?_
 obtain ⟨m, n, hm⟩ := bS hm
 refine Do rfl (uW _ call68 rfl (fun w ho => cCmpIsNaN _ [] c m n) (fun _ _ _ h => h.2.symm)) ?_
 rintro _ _ ⟨⟨_, rfl, _⟩, rfl⟩
 refine As rfl rfl<|Te<|Cs<|Cr<|M rfl rfl<|Te ?_
 refine Cc _ rfl (fun d => ?_) (fun d => ?_)
 rw [if_pos d] at hm
 refine Cs<|Cr<|M rfl rfl<|Te ?_
 refine Cc _ rfl (fun e => ?_) (fun e => ?_)
 rw [if_pos e] at hm
 refine Cr<|As rfl rfl<|Te<|Ct<|Xr<|Xr ?_
 obtain rfl := o1 hm
 exact rM (rs := [.tmp 4]) (vs := [iv 0]) ⟨rfl, trivial⟩ ⟨rfl, rfl⟩ (.refl _) lr
 rw [if_neg (fun hh => Bool.noConfusion (hh.symm.trans e))] at hm
 refine Ck<|Xn<|Cr<|As rfl rfl<|Te<|Ct<|Xr ?_
 obtain rfl := o1 hm
 exact rM (rs := [.tmp 4]) (vs := [iv ((-1))]) ⟨rfl, trivial⟩ ⟨rfl, rfl⟩ (.refl _) lr
 rw [if_neg (fun hh => Bool.noConfusion (hh.symm.trans d))] at hm
 refine Ck<|Xn<|Cs<|Cr<|M rfl rfl<|Te ?_
 refine Cc _ rfl (fun f => ?_) (fun f => ?_)
 rw [if_pos f] at hm
 refine Cr<|As rfl rfl<|Te<|Ct<|Xr ?_
 obtain rfl := o1 hm
 exact rM (rs := [.tmp 4]) (vs := [iv 1]) ⟨rfl, trivial⟩ ⟨rfl, rfl⟩ (.refl _) lr
 rw [if_neg (fun hh => Bool.noConfusion (hh.symm.trans f))] at hm
 refine Ck<|Xn<|Cs<|Cr<|M rfl rfl<|M rfl rfl<|Ts rfl (q3 rfl rfl)<|Te ?_
 refine Cc _ rfl (fun g => ?_) (fun g => ?_)
 rw [if_pos (of_decide_eq_true g)] at hm
 refine Cr<|As rfl rfl<|Te<|Ct<|Xr ?_
 obtain rfl := o1 hm
 exact rM (rs := [.tmp 4]) (vs := [iv ((-1))]) ⟨rfl, trivial⟩ ⟨rfl, rfl⟩ (.refl _) lr
 rw [if_neg (of_decide_eq_false g)] at hm
 refine Ck<|Xn<|Cs<|Cr<|M rfl rfl<|M rfl rfl<|Ts rfl (q5 rfl rfl)<|Te ?_
 refine Cc _ rfl (fun i => ?_) (fun i => ?_)
 rw [if_pos (of_decide_eq_true i)] at hm
 refine Cr<|As rfl rfl<|Te<|Ct<|Xr ?_
 obtain rfl := o1 hm
 exact rM (rs := [.tmp 4]) (vs := [iv 1]) ⟨rfl, trivial⟩ ⟨rfl, rfl⟩ (.refl _) lr
 rw [if_neg (of_decide_eq_false i)] at hm
 refine Ck<|Xn<|Cr<|As rfl rfl<|Te<|Ct ?_
 obtain rfl := o1 hm
 exact rM (rs := [.tmp 4]) (vs := [iv 0]) ⟨rfl, trivial⟩ ⟨rfl, rfl⟩ (.refl _) lr

set_option maxRecDepth 20000 in
theorem cFleetOrder_1 (b : Base) (R : Hp) (f : Int) (g : Int) (a : (List FleetTask)) (c : Nat) (d : OA) (e : Nat) (i : FZ rFleetTask b.w d e a) (j : Int) (hm : mFleetOrder_1 f g a = some j) :
    CallsG Try.prog 52 [iv f, iv g, pb c] b ((c, Cl 32 [sv d a e]) :: R) (fun v b' hp' => iv j = v ∧ (c, Cl 32 [sv d a e]) :: R = hp') := by
 refine fE 17 Try.func52 rfl Try.ntmps52 rfl ?_
 unfold mFleetOrder_1 at hm
 refine Cr<|As rfl rfl<|Te<|Cs ?_
 obtain ⟨n, o, hm⟩ := bS hm
 obtain ⟨p, q, hm⟩ := bS hm
 obtain ⟨k, r, hm⟩ := bS hm
 refine Di mixed (.refl _)<|Es 0 rfl (sL 0 rfl one32 rfl rfl)<|E0 1 rfl (sM rfl) ?_
 obtain ⟨s, t, u⟩ := iS o
 obtain ⟨G, x, y, l, z⟩ := FZ.get (sz := 6) rfl (by decide) i u
 obtain ⟨_, _, rfl, rfl, ⟨_, _, rfl, rfl, ⟨_, _, rfl, rfl, ⟨_, _, rfl, rfl, ⟨_, _, rfl, rfl, rfl⟩⟩⟩⟩⟩ := x
 refine E0 2 rfl (sI s rfl rfl t z l sl32)<|E0 3 rfl (sQ rfl l fld39_2)<|Es 4 rfl (sO rfl one3 (y 2 _ rfl))<|Es 5 rfl (sL 0 rfl one32 rfl rfl)<|E0 6 rfl (sM rfl) ?_
 obtain ⟨A, B, C⟩ := iS q
 obtain ⟨H, D, E, m, F⟩ := FZ.get (sz := 6) rfl (by decide) i C
 obtain ⟨_, _, rfl, rfl, ⟨_, _, rfl, rfl, ⟨_, _, rfl, rfl, ⟨_, _, rfl, rfl, ⟨_, _, rfl, rfl, rfl⟩⟩⟩⟩⟩ := D
 refine E0 7 rfl (sI A rfl rfl B F m sl32)<|E0 8 rfl (sQ rfl m fld39_2)<|Es 9 rfl (sO rfl one3 (E 2 _ rfl))<|Eo<|Da [10] (by kernel_rfl) rfl ?_
 refine Rd2 lr rfl rfl (uW _ call53 rfl (fun w ho => cCmpCompare _ [] n.Dep p.Dep k r) (fun _ _ _ h => h.2.symm)) ?_ ?_
 rintro _ _ ⟨⟨_, rfl, _⟩, rfl⟩
 refine ⟨.inr (.refl _), ?_⟩
 refine Ei lr (.refl _)<|E0 11 rfl (sA rfl)<|Eo<|Dd (by kernel_rfl)<|Xn<|Ct ?_
 obtain rfl := o1 hm
 exact rM (rs := [.tmp 5]) (vs := [iv k]) ⟨rfl, trivial⟩ ⟨rfl, rfl⟩ (.refl _) lr
 exact Rn

set_option maxRecDepth 20000 in
theorem cSlicesInsertionSortCmpFunc (b : Base) (R : Hp) (k : Int) (n : Int) (e : (List FleetTask)) (g : (List Int)) (a : Nat) (h : OA) (i : Nat) (c : OA) (d : Nat) (B : Hp) (ai : FZ rFleetTask b.w h i e) (h5 : OS 3 (OT.fr rI) b.w (sv c g d) g B) (u : (List Int)) (hm : mSlicesInsertionSortCmpFunc k n e g = some u) :
    CallsG Try.prog 74 [sv c g d, iv k, iv n, .func (.func 52) #[] #[pb a]] b ((a, Cl 32 [sv h e i]) :: (B ++ R)) (fun v b' hp' => ∃ (T : Hp), .tuple #[] = v ∧ (a, Cl 32 [sv h e i]) :: (T ++ R) = hp' ∧ OS 3 (OT.fr rI) b'.w (sv c u d) u T ∧ u.length = g.length) := by
 refine fE 53 Try.func74 rfl Try.ntmps74 rfl ?_
 unfold mSlicesInsertionSortCmpFunc at hm
 refine Cr<|M rfl rfl ?_
 obtain ⟨_, C, hm⟩ := bS hm
 have C := (kS C).2
 refine Ts rfl (sa rfl rfl C)<|As rfl rfl<|Te<|Cb<|cL (unc2 fun o p => fun q e' hp' => ∃ (r : Hp), [(0, sv c p d), (1, iv k), (2, iv n), (3, .func (.func 52) #[] #[pb a]), (8, iv o)] = e' ∧ (a, Cl 32 [sv h e i]) :: (r ++ R) = hp' ∧ b.Le q ∧ OS 3 (OT.fr rI) q.w (sv c p d) p r ∧ p.length = g.length) hm ⟨B, rfl, rfl, lr, h5, rfl⟩ (.refl _) ?_
 rintro ⟨o, p⟩ q _ _ oL5520 ⟨r, rfl, rfl, D, U, V⟩ W houtL5520
 unfold mSlicesInsertionSortCmpFunc_L5520 at W
 have hm := (unc2E W)
 refine Cs<|Cr<|M rfl rfl<|M rfl rfl<|Ts rfl (q3 rfl rfl)<|Te ?_
 refine Cc _ rfl (fun E => ?_) (fun E => ?_)
 rw [if_pos (of_decide_eq_true E)] at hm
 refine Ck<|Xn ?_
 obtain ⟨x, hj10108, hk10108⟩ := bS hm
 refine Cj (fun F e' hp' => ∃ (y : Hp), [(0, sv c x d), (1, iv k), (2, iv n), (3, .func (.func 52) #[] #[pb a]), (8, iv o)] = e' ∧ (a, Cl 32 [sv h e i]) :: (y ++ R) = hp' ∧ q.Le F ∧ OS 3 (OT.fr rI) F.w (sv c x d) x y ∧ x.length = g.length) ?_ ?_
 have hm := hj10108
 refine Cb<|Cr<|M rfl rfl<|As rfl rfl<|Te<|Cb<|cL (unc2 fun j f => fun z e' hp' => ∃ (s : Hp), [(0, sv c f d), (1, iv k), (2, iv n), (3, .func (.func 52) #[] #[pb a]), (8, iv o), (9, iv j)] = e' ∧ (a, Cl 32 [sv h e i]) :: (s ++ R) = hp' ∧ q.Le z ∧ OS 3 (OT.fr rI) z.w (sv c f d) f s ∧ f.length = g.length) hm ⟨r, rfl, rfl, lr, U, V⟩ (.refl _) ?_
 rintro ⟨j, f⟩ z _ _ oL10109 ⟨s, rfl, rfl, G, l, X⟩ Y houtL10109
 unfold mSlicesInsertionSortCmpFunc_L10109 at Y
 have hm := (unc2E Y)
 refine Cs ?_
 obtain ⟨x10798, hj10799, hk10799⟩ := bS hm
 refine Cj (fun Z e' hp' => [(0, sv c f d), (1, iv k), (2, iv n), (3, .func (.func 52) #[] #[pb a]), (8, iv o), (9, iv j), (34, bv x10798)] = e' ∧ (a, Cl 32 [sv h e i]) :: (s ++ R) = hp' ∧ z.Le Z) ?_ ?_
 have hm := hj10799
 by_cases A : k < j
 rw [if_pos A] at hm
 obtain ⟨aa, h10840, hm⟩ := bS hm
 obtain ⟨_, H, hm⟩ := bS hm
 obtain ⟨ab, h10857, hm⟩ := bS hm
 obtain ⟨x10872, hcl10873, hm⟩ := bS hm
 refine Di mixed (.cons _ (.refl _))<|E0 0 rfl (sM rfl)<|E0 1 rfl (sM rfl)<|E0 2 rfl (st_gtr_t rfl rfl A)<|E0 3 rfl (sM rfl)<|Yz 4 21 rfl (sM rfl)<|Yz 5 21 rfl (sM rfl)<|Yz 6 21 rfl (sM rfl) ?_
 obtain ⟨j10841, hj10842, hx10843⟩ := iS h10840
 obtain ⟨cs10844, hs10849, P10850, P10851, hq10852, hr10845, hcs10846, hA10847, hlt10848, hb10853, hho10854⟩ := OS.get (sz := 1) rfl (by decide) l hx10843
 obtain ⟨rfl, rfl⟩ := hr10845
 refine Yz 7 21 rfl (sI j10841 rfl rfl hj10842 hlt10848 hA10847 sl42)<|Ey 8 21 rfl (st_load_rd rfl one3 (fun w ho => hcs10846 w _ ho (List.sublist_append_left _ _) 0 _ rfl))<|Yz 9 21 rfl (sM rfl)<|Yz 10 21 rfl (sM rfl) ?_
 have H := (kS H).2
 refine Yz 11 21 rfl (sb rfl rfl H) ?_
 obtain ⟨j10858, hj10859, hx10860⟩ := iS h10857
 obtain ⟨cs10861, hs10866, P10867, P10868, hq10869, hr10862, hcs10863, hA10864, hlt10865, hb10870, hho10871⟩ := OS.get (sz := 1) rfl (by decide) l hx10860
 obtain ⟨rfl, rfl⟩ := hr10862
 refine Yz 12 21 rfl (sI j10858 rfl rfl hj10859 hlt10865 hA10864 sl42)<|Ey 13 21 rfl (st_load_rd rfl one3 (fun w ho => hcs10863 w _ ho (List.sublist_append_left _ _) 0 _ rfl))<|Eo<|Da [14] (by kernel_rfl) rfl ?_
 refine R_callvGY lr rfl rfl 21 rfl rfl rfl #[] #[pb a] [iv aa, iv ab] rfl call52 rfl (cFleetOrder_1 _ _ aa ab e a h i (ai.le (D.trans G)) x10872 hcl10873) ?_ ?_
 rintro _ b10874 _ ac ⟨rfl, rfl⟩
 refine ⟨.inr (.cons _ (.refl _)), ?_⟩
 refine Ei ac (.cons _ (.refl _))<|Yz 15 21 rfl (q3 rfl rfl)<|E0 16 rfl (pT rfl rfl)<|Eo<|Dd (by kernel_rfl) ?_
 obtain rfl := o1 hm
 exact xJ ⟨rfl, rfl, ac⟩ (.refl _)
 exact Rn
 rw [if_neg A] at hm
 refine Di mixed (.refl _)<|E0 0 rfl (sM rfl)<|E0 1 rfl (sM rfl)<|E0 2 rfl (st_gtr_f rfl rfl A)<|E0 3 rfl (sM rfl)<|En 4 21 rfl rfl rfl<|En 5 21 rfl rfl rfl<|En 6 21 rfl rfl rfl<|En 7 21 rfl rfl rfl<|En 8 21 rfl rfl rfl ?_
 refine En 9 21 rfl rfl rfl<|En 10 21 rfl rfl rfl<|En 11 21 rfl rfl rfl<|En 12 21 rfl rfl rfl<|En 13 21 rfl rfl rfl<|En 14 21 rfl rfl rfl<|En 15 21 rfl rfl rfl<|E0 16 rfl (pF rfl rfl)<|Eo<|Dd (by kernel_rfl) ?_
 obtain rfl := o1 hm
 exact xJ ⟨rfl, rfl, lr⟩ (.refl _)
 rintro Z _ _ ⟨rfl, rfl, m⟩
 have hm := hk10799
 refine Cc _ rfl (fun I => ?_) (fun I => ?_)
 rw [if_pos I] at hm
 refine Ck<|Xn<|Cs<|Cb ?_
 obtain ⟨_, J, hm⟩ := bS hm
 obtain ⟨_, K, hm⟩ := bS hm
 obtain ⟨t, h10950, hm⟩ := bS hm
 obtain ⟨L, h10966, hm⟩ := bS hm
 obtain ⟨x10981, h10982, hm⟩ := bS hm
 obtain ⟨x10999, h11000, hm⟩ := bS hm
 refine Di mixed (.refl _)<|E0 0 rfl (sM rfl)<|E0 1 rfl (sM rfl)<|E0 2 rfl (sM rfl)<|E0 3 rfl (sM rfl) ?_
 have J := (kS J).2
 refine E0 4 rfl (sb rfl rfl J)<|E0 5 rfl (sM rfl)<|E0 6 rfl (sM rfl) ?_
 have K := (kS K).2
 refine E0 7 rfl (sb rfl rfl K) ?_
 obtain ⟨j10951, hj10952, hx10953⟩ := iS h10950
 obtain ⟨cs10954, hs10959, P10960, P10961, hq10962, hr10955, hcs10956, hA10957, hlt10958, hb10963, hho10964⟩ := OS.get (sz := 1) rfl (by decide) (l.le m) hx10953
 obtain ⟨rfl, rfl⟩ := hr10955
 refine E0 8 rfl (sI j10951 rfl rfl hj10952 hlt10958 hA10957 sl42)<|Es 9 rfl (st_load_rd rfl one3 (fun w ho => hcs10956 w _ ho (.cons _ (List.sublist_append_left _ _)) 0 _ rfl))<|E0 10 rfl (sM rfl)<|E0 11 rfl (sM rfl) ?_
 obtain ⟨j10967, hj10968, hx10969⟩ := iS h10966
 obtain ⟨cs10970, hs10975, P10976, P10977, hq10978, hr10971, hcs10972, hA10973, hlt10974, hb10979, hho10980⟩ := OS.get (sz := 1) rfl (by decide) (l.le m) hx10969
 obtain ⟨rfl, rfl⟩ := hr10971
 refine E0 12 rfl (sI j10967 rfl rfl hj10968 hlt10974 hA10973 sl42)<|Es 13 rfl (st_load_rd rfl one3 (fun w ho => hcs10972 w _ ho (.cons _ (List.sublist_append_left _ _)) 0 _ rfl)) ?_
 obtain ⟨j10983, ad, ae⟩ := iS h10982
 obtain ⟨cs10986, hs10991, P10992, P10993, hq10994, hr10987, hcs10988, hA10989, hlt10990, hb10995, hho10996⟩ := OS.get (sz := 1) rfl (by decide) (l.le m) ae
 obtain ⟨rfl, rfl⟩ := hr10987
 refine E0 14 rfl (sI j10983 rfl rfl ad hlt10990 hA10989 sl42)<|Eo<|Da [15] (by kernel_rfl) rfl ?_
 refine Rd2 lr rfl rfl (uP ad (sz := 1) (a' := t) rfl [_] R 0 1 [iv t] rfl (l.le m) ae rfl rfl rfl siz3 rfl (mc rfl mn) (fun cs hsj hh => by obtain ⟨rfl, rfl⟩ := hh; exact ⟨by first | decide | exact Nat.le_refl _, rfl, rfl⟩)) ?_ ?_
 rintro _ _ ⟨hs10997, rfl, af⟩
 refine ⟨.inl (by kernel_rfl), ?_⟩
 refine d_resp 0 rfl (v' := .slice c (put f j t).length d) (by simp only [put_length])<|d_resp 39 rfl (v' := .slice c (put f j t).length d) (by simp only [put_length]) ?_
 obtain ⟨j11001, ag, ah⟩ := iS h11000
 obtain ⟨cs11004, hs11009, P11010, P11011, hq11012, hr11005, hcs11006, hA11007, hlt11008, hb11013, hho11014⟩ := OS.get (sz := 1) rfl (by decide) af ah
 obtain ⟨rfl, rfl⟩ := hr11005
 refine El lr<|E0 16 rfl (sI j11001 rfl rfl ag hlt11008 hA11007 sl42)<|Eo<|Da [17] (by kernel_rfl) rfl ?_
 refine Rd2 lr rfl rfl (uP ag (sz := 1) (a' := L) rfl [_] R 0 1 [iv L] rfl af ah rfl rfl rfl siz3 rfl (mc rfl mn) (fun cs hsj hh => by obtain ⟨rfl, rfl⟩ := hh; exact ⟨by first | decide | exact Nat.le_refl _, rfl, rfl⟩)) ?_ ?_
 rintro _ _ ⟨hs11015, rfl, h11016⟩
 refine ⟨.inl (by kernel_rfl), ?_⟩
 refine d_resp 0 rfl (v' := .slice c (put (put f j t) (j - 1) L).length d) (by simp only [put_length])<|Dd (by kernel_rfl)<|Xm<|Xn<|Cg<|M rfl rfl ?_
 obtain ⟨_, O, hm⟩ := bS hm
 have O := (kS O).2
 refine Ts rfl (sb rfl rfl O)<|As rfl rfl<|Tn ?_
 exact xM hm ⟨hs11015, rfl, rfl, ((G.trans m)), h11016, ((put_length _ _ _).trans ((put_length _ _ _).trans X))⟩ (.refl _)
 exact Rn
 exact Rn
 rw [if_neg (fun hh => Bool.noConfusion (hh.symm.trans I))] at hm
 refine Ce<|Xe<|Xe<|Xo ?_
 have hm := congrArg some (houtL10109 _ (Option.some.inj hm).symm)
 refine Xm ?_
 obtain rfl := o1 hm
 exact xJ ⟨s, rfl, rfl, (G.trans m), (l.le m), X⟩ (.refl _)
 rintro F _ _ ⟨y, rfl, rfl, hle10102, h10105, hln10107⟩
 have hm := hk10108
 refine Cg<|M rfl rfl ?_
 obtain ⟨_, S, hm⟩ := bS hm
 have S := (kS S).2
 refine Ts rfl (sa rfl rfl S)<|As rfl rfl<|Tn ?_
 exact xM hm ⟨y, rfl, rfl, ((D.trans hle10102)), h10105, hln10107⟩ (.refl _)
 rw [if_neg (of_decide_eq_false E)] at hm
 refine Ce<|Xe<|Xe<|Xo ?_
 have hm := congrArg some (houtL5520 _ (Option.some.inj hm).symm)
 obtain rfl := o1 hm
 exact endM D rfl (.refl _) ⟨r, rfl, rfl, U, V⟩

set_option maxRecDepth 20000 in
theorem cSlicesSwapRangeCmpFunc (b : Base) (R : Hp) (e : Int) (k : Int) (q : Int) (h : (List FleetTask)) (f : (List Int)) (l : Nat) (m : OA) (n : Nat) (a : OA) (c : Nat) (r : Hp) (ax : FZ rFleetTask b.w m n h) (L : OS 3 (OT.fr rI) b.w (sv a f c) f r) (o : (List Int)) (hm : mSlicesSwapRangeCmpFunc e k q h f = some o) :
    CallsG Try.prog 78 [sv a f c, iv e, iv k, iv q, .func (.func 52) #[] #[pb l]] b ((l, Cl 32 [sv m h n]) :: (r ++ R)) (fun v b' hp' => ∃ (C : Hp), .tuple #[] = v ∧ (l, Cl 32 [sv m h n]) :: (C ++ R) = hp' ∧ OS 3 (OT.fr rI) b'.w (sv a o c) o C ∧ o.length = f.length) := by
 refine fE 38 Try.func78 rfl Try.ntmps78 rfl ?_
 unfold mSlicesSwapRangeCmpFunc at hm
 refine Cr<|As rfl rfl<|Te<|Cb<|cL (unc2 fun g d => fun s e' hp' => ∃ (p : Hp), [(0, sv a d c), (1, iv e), (2, iv k), (3, iv q), (10, iv g)] = e' ∧ (l, Cl 32 [sv m h n]) :: (p ++ R) = hp' ∧ b.Le s ∧ OS 3 (OT.fr rI) s.w (sv a d c) d p ∧ d.length = f.length) hm ⟨r, rfl, rfl, lr, L, rfl⟩ (.refl _) ?_
 rintro ⟨g, d⟩ s _ _ ay ⟨p, rfl, rfl, D, i, E⟩ F O
 unfold mSlicesSwapRangeCmpFunc_L473 at F
 have hm := (unc2E F)
 refine Cs<|Cr<|M rfl rfl<|M rfl rfl<|Ts rfl (q3 rfl rfl)<|Te ?_
 refine Cc _ rfl (fun t => ?_) (fun t => ?_)
 rw [if_pos (of_decide_eq_true t)] at hm
 refine Ck<|Xn<|Cs<|Cb ?_
 obtain ⟨_, u, hm⟩ := bS hm
 obtain ⟨_, x, hm⟩ := bS hm
 obtain ⟨_, y, hm⟩ := bS hm
 obtain ⟨j, S, hm⟩ := bS hm
 obtain ⟨_, z, hm⟩ := bS hm
 obtain ⟨A, T, hm⟩ := bS hm
 obtain ⟨az, U, hm⟩ := bS hm
 obtain ⟨aA, V, hm⟩ := bS hm
 refine Di mixed (.refl _)<|E0 0 rfl (sM rfl)<|E0 1 rfl (sM rfl)<|E0 2 rfl (sM rfl) ?_
 have u := (kS u).2
 refine E0 3 rfl (sa rfl rfl u)<|E0 4 rfl (sM rfl)<|E0 5 rfl (sM rfl)<|E0 6 rfl (sM rfl) ?_
 have x := (kS x).2
 refine E0 7 rfl (sa rfl rfl x)<|E0 8 rfl (sM rfl)<|E0 9 rfl (sM rfl)<|E0 10 rfl (sM rfl) ?_
 have y := (kS y).2
 refine E0 11 rfl (sa rfl rfl y) ?_
 obtain ⟨W, X, Y⟩ := iS S
 obtain ⟨aB, aC, aD, aE, aF, Z, aa, ab, ac, aG, aH⟩ := OS.get (sz := 1) rfl (by decide) i Y
 obtain ⟨rfl, rfl⟩ := Z
 refine E0 12 rfl (sI W rfl rfl X ac ab sl42)<|Es 13 rfl (st_load_rd rfl one3 (fun w ho => aa w _ ho (.cons _ (List.sublist_append_left _ _)) 0 _ rfl))<|E0 14 rfl (sM rfl)<|E0 15 rfl (sM rfl)<|E0 16 rfl (sM rfl) ?_
 have z := (kS z).2
 refine E0 17 rfl (sa rfl rfl z) ?_
 obtain ⟨ad, ae, af⟩ := iS T
 obtain ⟨aI, aJ, aK, aL, aM, ag, ah, ai, aj, aN, aO⟩ := OS.get (sz := 1) rfl (by decide) i af
 obtain ⟨rfl, rfl⟩ := ag
 refine E0 18 rfl (sI ad rfl rfl ae aj ai sl42)<|Es 19 rfl (st_load_rd rfl one3 (fun w ho => ah w _ ho (.cons _ (List.sublist_append_left _ _)) 0 _ rfl)) ?_
 obtain ⟨ak, G, H⟩ := iS U
 obtain ⟨aP, aQ, aR, aS, aT, al, aU, am, an, aV, aW⟩ := OS.get (sz := 1) rfl (by decide) i H
 obtain ⟨rfl, rfl⟩ := al
 refine E0 20 rfl (sI ak rfl rfl G an am sl42)<|Eo<|Da [21] (by kernel_rfl) rfl ?_
 refine Rd2 lr rfl rfl (uP G (sz := 1) (a' := j) rfl [_] R 0 1 [iv j] rfl i H rfl rfl rfl siz3 rfl (mc rfl mn) (fun cs hsj hh => by obtain ⟨rfl, rfl⟩ := hh; exact ⟨by first | decide | exact Nat.le_refl _, rfl, rfl⟩)) ?_ ?_
 rintro _ _ ⟨aX, rfl, I⟩
 refine ⟨.inl (by kernel_rfl), ?_⟩
 refine d_resp 0 rfl (v' := .slice a (put d (e + g) j).length c) (by simp only [put_length])<|d_resp 20 rfl (v' := .slice a (put d (e + g) j).length c) (by simp only [put_length]) ?_
 obtain ⟨ao, J, K⟩ := iS V
 obtain ⟨aY, aZ, a0, a1, a2, aq, a3, ar, au, a4, a5⟩ := OS.get (sz := 1) rfl (by decide) I K
 obtain ⟨rfl, rfl⟩ := aq
 refine El lr<|E0 22 rfl (sI ao rfl rfl J au ar sl42)<|Eo<|Da [23] (by kernel_rfl) rfl ?_
 refine Rd2 lr rfl rfl (uP J (sz := 1) (a' := A) rfl [_] R 0 1 [iv A] rfl I K rfl rfl rfl siz3 rfl (mc rfl mn) (fun cs hsj hh => by obtain ⟨rfl, rfl⟩ := hh; exact ⟨by first | decide | exact Nat.le_refl _, rfl, rfl⟩)) ?_ ?_
 rintro _ _ ⟨av, rfl, aw⟩
 refine ⟨.inl (by kernel_rfl), ?_⟩
 refine d_resp 0 rfl (v' := .slice a (put (put d (e + g) j) (k + g) A).length c) (by simp only [put_length])<|Dd (by kernel_rfl)<|Xm<|Xn<|Cg<|M rfl rfl ?_
 obtain ⟨_, B, hm⟩ := bS hm
 have B := (kS B).2
 refine Ts rfl (sa rfl rfl B)<|As rfl rfl<|Tn ?_
 exact xM hm ⟨av, rfl, rfl, (D), aw, ((put_length _ _ _).trans ((put_length _ _ _).trans E))⟩ (.refl _)
 exact Rn
 exact Rn
 rw [if_neg (of_decide_eq_false t)] at hm
 refine Ce<|Xe<|Xe<|Xo ?_
 have hm := congrArg some (O _ (Option.some.inj hm).symm)
 obtain rfl := o1 hm
 exact endM D rfl (.refl _) ⟨p, rfl, rfl, i, E⟩

set_option maxRecDepth 20000 in
theorem cSlicesRotateCmpFunc (b : Base) (R : Hp) (K : Int) (d : Int) (L : Int) (f : (List FleetTask)) (j : (List Int)) (e : Nat) (g : OA) (h : Nat) (a : OA) (c : Nat) (r : Hp) (s : FZ rFleetTask b.w g h f) (h5 : OS 3 (OT.fr rI) b.w (sv a j c) j r) (p : (List Int)) (hm : mSlicesRotateCmpFunc K d L f j = some p) :
    CallsG Try.prog 77 [sv a j c, iv K, iv d, iv L, .func (.func 52) #[] #[pb e]] b ((e, Cl 32 [sv g f h]) :: (r ++ R)) (fun v b' hp' => ∃ (O : Hp), .tuple #[] = v ∧ (e, Cl 32 [sv g f h]) :: (O ++ R) = hp' ∧ OS 3 (OT.fr rI) b'.w (sv a p c) p O ∧ p.length = j.length) := by
 refine fE 58 Try.func77 rfl Try.ntmps77 rfl ?_
 unfold mSlicesRotateCmpFunc at hm
 refine Cr<|M rfl rfl<|M rfl rfl ?_
 obtain ⟨_, t, hm⟩ := bS hm
 have t := (kS t).2
 refine Ts rfl (sb rfl rfl t)<|As rfl rfl<|Te<|Cr<|M rfl rfl<|M rfl rfl ?_
 obtain ⟨_, u, hm⟩ := bS hm
 have u := (kS u).2
 refine Ts rfl (sb rfl rfl u)<|As rfl rfl<|Te ?_
 obtain ⟨⟨w, m⟩, hj298, hk298⟩ := bS hm
 refine Cj (fun x e' hp' => ∃ (n : Hp), [(0, sv a m c), (2, iv d), (4, .func (.func 52) #[] #[pb e]), (10, iv w)] = e' ∧ (e, Cl 32 [sv g f h]) :: (n ++ R) = hp' ∧ b.Le x ∧ OS 3 (OT.fr rI) x.w (sv a m c) m n ∧ m.length = j.length) ?_ ?_
 have hm := hj298
 refine Cb<|cL (unc3 fun l q k => fun y e' hp' => ∃ (i : Hp), [(0, sv a k c), (2, iv d), (4, .func (.func 52) #[] #[pb e]), (10, iv l), (11, iv q)] = e' ∧ (e, Cl 32 [sv g f h]) :: (i ++ R) = hp' ∧ b.Le y ∧ OS 3 (OT.fr rI) y.w (sv a k c) k i ∧ k.length = j.length) hm ⟨r, rfl, rfl, lr, h5, rfl⟩ (.refl _) ?_
 rintro ⟨l, q, k⟩ y _ _ oL299 ⟨i, rfl, rfl, o, z, A⟩ S houtL299
 unfold mSlicesRotateCmpFunc_L299 at S
 have hm := (unc3E S)
 refine Cs<|Cr<|M rfl rfl<|M rfl rfl<|Ts rfl (q2 rfl rfl)<|Te ?_
 refine Cc _ rfl (fun B => ?_) (fun B => ?_)
 rw [if_pos (of_decide_eq_true B)] at hm
 refine Ck<|Xn<|Cb<|Cr<|M rfl rfl<|M rfl rfl<|Ts rfl (q5 rfl rfl)<|Te ?_
 refine Cc _ rfl (fun C => ?_) (fun C => ?_)
 rw [if_pos (of_decide_eq_true C)] at hm
 refine Cr<|M rfl rfl<|M rfl rfl<|M rfl rfl ?_
 obtain ⟨_, D, hm⟩ := bS hm
 have D := (kS D).2
 refine Ts rfl (sb rfl rfl D)<|M rfl rfl<|M rfl rfl<|M rfl rfl ?_
 obtain ⟨T, hcl364, hm⟩ := bS hm
 refine t_out1 [_] [] i R rfl<|Tg _ rfl call78 rfl (cSlicesSwapRangeCmpFunc _ _ (d - l) d q f k e g h a c i (s.le o) z T hcl364) ?_
 rintro _ b365 _ hle366 ⟨U, rfl, rfl, h368, V⟩
 refine t_in1 [_] [] U R rfl<|Tr 0 rfl (v' := sv a T c) (by show Value.slice _ _ _ = Value.slice _ _ _; rw [V])<|Te<|Cg<|M rfl rfl<|M rfl rfl ?_
 obtain ⟨_, E, hm⟩ := bS hm
 have E := (kS E).2
 refine Ts rfl (sb rfl rfl E)<|As rfl rfl<|Tn<|Xm ?_
 exact xM hm ⟨U, rfl, rfl, ((o.trans hle366)), h368, (V.trans A)⟩ (.refl _)
 rw [if_neg (of_decide_eq_false C)] at hm
 refine Cr<|M rfl rfl<|M rfl rfl<|M rfl rfl ?_
 obtain ⟨_, F, hm⟩ := bS hm
 have F := (kS F).2
 refine Ts rfl (sb rfl rfl F)<|M rfl rfl<|M rfl rfl ?_
 obtain ⟨_, G, hm⟩ := bS hm
 have G := (kS G).2
 refine Ts rfl (sa rfl rfl G)<|M rfl rfl ?_
 obtain ⟨_, H, hm⟩ := bS hm
 have H := (kS H).2
 refine Ts rfl (sb rfl rfl H)<|M rfl rfl<|M rfl rfl ?_
 obtain ⟨W, hcl375, hm⟩ := bS hm
 refine t_out1 [_] [] i R rfl<|Tg _ rfl call78 rfl (cSlicesSwapRangeCmpFunc _ _ (d - l) ((d + q) - l) l f k e g h a c i (s.le o) z W hcl375) ?_
 rintro _ b376 _ hle377 ⟨X, rfl, rfl, h379, Y⟩
 refine t_in1 [_] [] X R rfl<|Tr 0 rfl (v' := sv a W c) (by show Value.slice _ _ _ = Value.slice _ _ _; rw [Y])<|Te<|Cg<|M rfl rfl<|M rfl rfl ?_
 obtain ⟨_, I, hm⟩ := bS hm
 have I := (kS I).2
 refine Ts rfl (sb rfl rfl I)<|As rfl rfl<|Tn<|Xm ?_
 exact xM hm ⟨X, rfl, rfl, ((o.trans hle377)), h379, (Y.trans A)⟩ (.refl _)
 rw [if_neg (of_decide_eq_false B)] at hm
 refine Ce<|Xe<|Xe<|Xo ?_
 have hm := congrArg some (houtL299 _ (Option.some.inj hm).symm)
 obtain ⟨rfl, rfl⟩ := some2 hm
 exact xJ ⟨i, rfl, rfl, o, z, A⟩ (.refl _)
 rintro x _ _ ⟨n, rfl, rfl, Z, h294, hln297⟩
 have hm := (unc2E hk298)
 refine Cg<|M rfl rfl<|M rfl rfl<|M rfl rfl ?_
 obtain ⟨_, J, hm⟩ := bS hm
 have J := (kS J).2
 refine Ts rfl (sb rfl rfl J)<|M rfl rfl<|M rfl rfl<|M rfl rfl ?_
 obtain ⟨l383, hcl384, hm⟩ := bS hm
 refine t_out1 [_] [] n R rfl<|Tg _ rfl call78 rfl (cSlicesSwapRangeCmpFunc _ _ (d - w) d w f m e g h a c n (s.le Z) h294 l383 hcl384) ?_
 rintro _ b385 _ hle386 ⟨aa, rfl, rfl, h388, h389⟩
 refine t_in1 [_] [] aa R rfl<|Tn ?_
 obtain rfl := o1 hm
 exact endM (Z.trans hle386) rfl (.refl _) ⟨aa, rfl, rfl, h388, (h389.trans hln297)⟩

set_option maxHeartbeats 1000000 in
set_option maxRecDepth 20000 in
theorem cSlicesSymMergeCmpFunc : ∀ (N : Nat) (b : Base) (R : Hp) (e : Int) (j : Int) (f : Int) (g : (List FleetTask)) (k : (List Int)) (a : Nat) (h : OA) (i : Nat) (c : OA) (d : Nat) (l : Hp) (p : FZ rFleetTask b.w h i g) (n : OS 3 (OT.fr rI) b.w (sv c k d) k l) (x : (List Int)) (hm : mSlicesSymMergeCmpFunc N e j f g k = some x),
    CallsG Try.prog 75 [sv c k d, iv e, iv j, iv f, .func (.func 52) #[] #[pb a]] b ((a, Cl 32 [sv h g i]) :: (l ++ R)) (fun v b' hp' => ∃ (a7 : Hp), .tuple #[] = v ∧ (a, Cl 32 [sv h g i]) :: (a7 ++ R) = hp' ∧ OS 3 (OT.fr rI) b'.w (sv c x d) x a7 ∧ x.length = k.length) := by
  intro N
  induction N with
  | zero =>
    intro b R e j f g k a h i c d l p n x hm
    unfold mSlicesSymMergeCmpFunc at hm
    cases hm
  | succ N ih =>
   intro b R e j f g k a h i c d l p n x hm
   refine fE 220 Try.func75 rfl Try.ntmps75 rfl ?_
   unfold mSlicesSymMergeCmpFunc at hm
   refine Cs<|Cr<|M rfl rfl<|M rfl rfl ?_
   obtain ⟨_, ac, hm⟩ := bS hm
   have ac := (kS ac).2
   refine Ts rfl (sb rfl rfl ac)<|Ts rfl (q1 rfl rfl)<|Te ?_
   refine Cc _ rfl (fun ad => ?_) (fun ad => ?_)
   rw [if_pos (of_decide_eq_true ad)] at hm
   refine Cr<|M rfl rfl<|As rfl rfl<|Te<|Cr<|M rfl rfl<|As rfl rfl<|Te ?_
   obtain ⟨a8, b1, b2⟩ := bS hm
   refine Cj (fun S e' hp' => [(0, sv c k d), (1, iv e), (10, iv a8)] = e' ∧ (a, Cl 32 [sv h g i]) :: (l ++ R) = hp' ∧ b.Le S) ?_ ?_
   have hm := b1
   refine Cb<|cL (unc2 fun a9 ba => fun bb e' hp' => [(0, sv c k d), (1, iv e), (4, .func (.func 52) #[] #[pb a]), (10, iv a9), (11, iv ba)] = e' ∧ (a, Cl 32 [sv h g i]) :: (l ++ R) = hp' ∧ b.Le bb) hm ⟨rfl, rfl, lr⟩ (.refl _) ?_
   rintro ⟨a9, ba⟩ bb _ _ eL ⟨rfl, rfl, y⟩ bc b3
   unfold mSlicesSymMergeCmpFunc_L6927 at bc
   have hm := (unc2E bc)
   refine Cs<|Cr<|M rfl rfl<|M rfl rfl<|Ts rfl (q3 rfl rfl)<|Te ?_
   refine Cc _ rfl (fun ae => ?_) (fun ae => ?_)
   rw [if_pos (of_decide_eq_true ae)] at hm
   refine Ck<|Xn<|Cb<|Cr<|M rfl rfl<|M rfl rfl ?_
   obtain ⟨_, af, hm⟩ := bS hm
   have af := (kS af).2
   refine Ts rfl (sa rfl rfl af)<|Ts rfl (st_conv rfl int3_i64 int79_u64) ?_
   obtain ⟨_, ag, hm⟩ := bS hm
   have ag := shN_some ag
   refine Ts rfl (st_shr rfl rfl ag)<|Ts rfl (st_conv rfl int79_u64 int3_i64)<|As rfl rfl<|Te<|Cs ?_
   obtain ⟨bd, b4, hm⟩ := bS hm
   obtain ⟨be, b5, hm⟩ := bS hm
   obtain ⟨b6, b7, hm⟩ := bS hm
   refine Di mixed (.refl _)<|E0 0 rfl (sM rfl)<|E0 1 rfl (sM rfl)<|E0 2 rfl (sM rfl) ?_
   obtain ⟨b8, b9, ca⟩ := iS b4
   obtain ⟨eM, eN, eO, eP, eQ, cb, cc, cd, ce, eR, eS⟩ := OS.get (sz := 1) rfl (by decide) (n.le y) ca
   obtain ⟨rfl, rfl⟩ := cb
   refine E0 3 rfl (sI b8 rfl rfl b9 ce cd sl42)<|Es 4 rfl (st_load_rd rfl one3 (fun w ho => cc w _ ho (.cons _ (List.sublist_append_left _ _)) 0 _ rfl))<|E0 5 rfl (sM rfl)<|E0 6 rfl (sM rfl) ?_
   obtain ⟨cf, cg, ch⟩ := iS b5
   obtain ⟨eU, eV, eW, eX, eY, ci, cj, ck, cl, eZ, e0⟩ := OS.get (sz := 1) rfl (by decide) (n.le y) ch
   obtain ⟨rfl, rfl⟩ := ci
   refine E0 7 rfl (sI cf rfl rfl cg cl ck sl42)<|Es 8 rfl (st_load_rd rfl one3 (fun w ho => cj w _ ho (.cons _ (List.sublist_append_left _ _)) 0 _ rfl))<|Eo<|Da [9] (by kernel_rfl) rfl ?_
   refine Rv lr rfl rfl #[] #[pb a] [iv bd, iv be] rfl call52 rfl (cFleetOrder_1 _ _ bd be g a h i (p.le y) b6 b7) ?_ ?_
   rintro _ e1 _ ah ⟨rfl, rfl⟩
   refine ⟨.inl (by kernel_rfl), ?_⟩
   refine El ah<|E0 10 rfl (q3 rfl rfl)<|Eo<|Dd (by kernel_rfl)<|Xn ?_
   refine Cc _ rfl (fun ai => ?_) (fun ai => ?_)
   rw [if_pos (of_decide_eq_true ai)] at hm
   refine Cg<|M rfl rfl ?_
   obtain ⟨_, aj, hm⟩ := bS hm
   have aj := (kS aj).2
   refine Ts rfl (sa rfl rfl aj)<|As rfl rfl<|Tn<|Xm ?_
   exact xM hm ⟨rfl, rfl, ((y.trans ah))⟩ (.refl _)
   rw [if_neg (of_decide_eq_false ai)] at hm
   refine Cg<|M rfl rfl<|As rfl rfl<|Tn<|Xm ?_
   exact xM hm ⟨rfl, rfl, ((y.trans ah))⟩ (.refl _)
   exact Rn
   rw [if_neg (of_decide_eq_false ae)] at hm
   refine Ce<|Xe<|Xe<|Xo ?_
   have hm := congrArg some (b3 _ (Option.some.inj hm).symm)
   obtain rfl := o1 hm
   exact xJ ⟨rfl, rfl, y⟩ (.refl _)
   rintro S _ _ ⟨rfl, rfl, bf⟩
   have hm := b2
   obtain ⟨ak, cm, cn⟩ := bS hm
   refine Cj (fun al e' hp' => ∃ (T : Hp), [] = e' ∧ (a, Cl 32 [sv h g i]) :: (T ++ R) = hp' ∧ S.Le al ∧ OS 3 (OT.fr rI) al.w (sv c ak d) ak T ∧ ak.length = k.length) ?_ ?_
   have hm := cm
   refine Cr<|M rfl rfl<|As rfl rfl<|Te<|Cb<|cL (unc2 fun z q => fun am e' hp' => ∃ (U : Hp), [(0, sv c q d), (10, iv a8), (13, iv z)] = e' ∧ (a, Cl 32 [sv h g i]) :: (U ++ R) = hp' ∧ S.Le am ∧ OS 3 (OT.fr rI) am.w (sv c q d) q U ∧ q.length = k.length) hm ⟨l, rfl, rfl, lr, (n.le bf), rfl⟩ (.refl _) ?_
   rintro ⟨z, q⟩ am _ _ e2 ⟨U, rfl, rfl, bg, F, bh⟩ bi co
   unfold mSlicesSymMergeCmpFunc_L7617 at bi
   have hm := (unc2E bi)
   refine Cs<|Cr<|M rfl rfl<|M rfl rfl ?_
   obtain ⟨_, an, hm⟩ := bS hm
   have an := (kS an).2
   refine Ts rfl (sb rfl rfl an)<|Ts rfl (q3 rfl rfl)<|Te ?_
   refine Cc _ rfl (fun ao => ?_) (fun ao => ?_)
   rw [if_pos (of_decide_eq_true ao)] at hm
   refine Ck<|Xn<|Cs<|Cb ?_
   obtain ⟨_, aq, hm⟩ := bS hm
   obtain ⟨_, ar, hm⟩ := bS hm
   obtain ⟨G, cp, hm⟩ := bS hm
   obtain ⟨au, cq, hm⟩ := bS hm
   obtain ⟨e3, cr, hm⟩ := bS hm
   obtain ⟨e4, ct, hm⟩ := bS hm
   refine Di mixed (.refl _)<|E0 0 rfl (sM rfl)<|E0 1 rfl (sM rfl)<|E0 2 rfl (sM rfl)<|E0 3 rfl (sM rfl) ?_
   have aq := (kS aq).2
   refine E0 4 rfl (sa rfl rfl aq)<|E0 5 rfl (sM rfl)<|E0 6 rfl (sM rfl) ?_
   have ar := (kS ar).2
   refine E0 7 rfl (sa rfl rfl ar) ?_
   obtain ⟨cu, cv, cw⟩ := iS cp
   obtain ⟨e5, e6, e7, e8, e9, cx, cy, cz, cA, fa, fb⟩ := OS.get (sz := 1) rfl (by decide) F cw
   obtain ⟨rfl, rfl⟩ := cx
   refine E0 8 rfl (sI cu rfl rfl cv cA cz sl42)<|Es 9 rfl (st_load_rd rfl one3 (fun w ho => cy w _ ho (.cons _ (List.sublist_append_left _ _)) 0 _ rfl))<|E0 10 rfl (sM rfl)<|E0 11 rfl (sM rfl) ?_
   obtain ⟨cB, cC, cD⟩ := iS cq
   obtain ⟨fc, fd, fe, ff, fg, cE, cG, cH, cI, fh, fi⟩ := OS.get (sz := 1) rfl (by decide) F cD
   obtain ⟨rfl, rfl⟩ := cE
   refine E0 12 rfl (sI cB rfl rfl cC cI cH sl42)<|Es 13 rfl (st_load_rd rfl one3 (fun w ho => cG w _ ho (.cons _ (List.sublist_append_left _ _)) 0 _ rfl)) ?_
   obtain ⟨cJ, bj, bk⟩ := iS cr
   obtain ⟨fj, fk, fl, fm, fn, cK, fo, cM, cN, fp, fq⟩ := OS.get (sz := 1) rfl (by decide) F bk
   obtain ⟨rfl, rfl⟩ := cK
   refine E0 14 rfl (sI cJ rfl rfl bj cN cM sl42)<|Eo<|Da [15] (by kernel_rfl) rfl ?_
   refine Rd2 lr rfl rfl (uP bj (sz := 1) (a' := G) rfl [_] R 0 1 [iv G] rfl F bk rfl rfl rfl siz3 rfl (mc rfl mn) (fun cs hsj hh => by obtain ⟨rfl, rfl⟩ := hh; exact ⟨by first | decide | exact Nat.le_refl _, rfl, rfl⟩)) ?_ ?_
   rintro _ _ ⟨fr, rfl, bl⟩
   refine ⟨.inl (by kernel_rfl), ?_⟩
   refine d_resp 0 rfl (v' := .slice c (put q z G).length d) (by simp only [put_length])<|d_resp 63 rfl (v' := .slice c (put q z G).length d) (by simp only [put_length]) ?_
   obtain ⟨cO, bm, bn⟩ := iS ct
   obtain ⟨fs, ft, fu, fv, fw, cP, fx, cQ, cR, fy, fz⟩ := OS.get (sz := 1) rfl (by decide) bl bn
   obtain ⟨rfl, rfl⟩ := cP
   refine El lr<|E0 16 rfl (sI cO rfl rfl bm cR cQ sl42)<|Eo<|Da [17] (by kernel_rfl) rfl ?_
   refine Rd2 lr rfl rfl (uP bm (sz := 1) (a' := au) rfl [_] R 0 1 [iv au] rfl bl bn rfl rfl rfl siz3 rfl (mc rfl mn) (fun cs hsj hh => by obtain ⟨rfl, rfl⟩ := hh; exact ⟨by first | decide | exact Nat.le_refl _, rfl, rfl⟩)) ?_ ?_
   rintro _ _ ⟨cT, rfl, cU⟩
   refine ⟨.inl (by kernel_rfl), ?_⟩
   refine d_resp 0 rfl (v' := .slice c (put (put q z G) (z + 1) au).length d) (by simp only [put_length])<|Dd (by kernel_rfl)<|Xm<|Xn<|Cg<|M rfl rfl ?_
   obtain ⟨_, av, hm⟩ := bS hm
   have av := (kS av).2
   refine Ts rfl (sa rfl rfl av)<|As rfl rfl<|Tn ?_
   exact xM hm ⟨cT, rfl, rfl, (bg), cU, ((put_length _ _ _).trans ((put_length _ _ _).trans bh))⟩ (.refl _)
   exact Rn
   exact Rn
   rw [if_neg (of_decide_eq_false ao)] at hm
   refine Ce<|Xe<|Xe<|Xo ?_
   have hm := congrArg some (co _ (Option.some.inj hm).symm)
   obtain rfl := o1 hm
   exact xJ ⟨U, rfl, rfl, bg, F, bh⟩ (.refl _)
   rintro al _ _ ⟨T, rfl, rfl, cV, cW, cX⟩
   have hm := cn
   refine Ct<|Xr ?_
   obtain rfl := o1 hm
   exact rM (rs := []) (vs := []) trivial ⟨T, rfl, rfl, cW, cX⟩ (.refl _) (bf.trans cV)
   rw [if_neg (of_decide_eq_false ad)] at hm
   refine Ck<|Xn<|Cs<|Cr<|M rfl rfl<|M rfl rfl ?_
   obtain ⟨_, aw, hm⟩ := bS hm
   have aw := (kS aw).2
   refine Ts rfl (sb rfl rfl aw)<|Ts rfl (q1 rfl rfl)<|Te ?_
   refine Cc _ rfl (fun ax => ?_) (fun ax => ?_)
   rw [if_pos (of_decide_eq_true ax)] at hm
   refine Cr<|M rfl rfl<|As rfl rfl<|Te<|Cr<|M rfl rfl<|As rfl rfl<|Te ?_
   obtain ⟨bo, cY, cZ⟩ := bS hm
   refine Cj (fun V e' hp' => [(0, sv c k d), (2, iv j), (14, iv bo)] = e' ∧ (a, Cl 32 [sv h g i]) :: (l ++ R) = hp' ∧ b.Le V) ?_ ?_
   have hm := cY
   refine Cb<|cL (unc2 fun bp bq => fun br e' hp' => [(0, sv c k d), (2, iv j), (4, .func (.func 52) #[] #[pb a]), (14, iv bp), (15, iv bq)] = e' ∧ (a, Cl 32 [sv h g i]) :: (l ++ R) = hp' ∧ b.Le br) hm ⟨rfl, rfl, lr⟩ (.refl _) ?_
   rintro ⟨bp, bq⟩ br _ _ fA ⟨rfl, rfl, A⟩ bs c0
   unfold mSlicesSymMergeCmpFunc_L8305 at bs
   have hm := (unc2E bs)
   refine Cs<|Cr<|M rfl rfl<|M rfl rfl<|Ts rfl (q3 rfl rfl)<|Te ?_
   refine Cc _ rfl (fun ay => ?_) (fun ay => ?_)
   rw [if_pos (of_decide_eq_true ay)] at hm
   refine Ck<|Xn<|Cb<|Cr<|M rfl rfl<|M rfl rfl ?_
   obtain ⟨_, az, hm⟩ := bS hm
   have az := (kS az).2
   refine Ts rfl (sa rfl rfl az)<|Ts rfl (st_conv rfl int3_i64 int79_u64) ?_
   obtain ⟨_, aA, hm⟩ := bS hm
   have aA := shN_some aA
   refine Ts rfl (st_shr rfl rfl aA)<|Ts rfl (st_conv rfl int79_u64 int3_i64)<|As rfl rfl<|Te<|Cs ?_
   obtain ⟨bt, c1, hm⟩ := bS hm
   obtain ⟨bu, c2, hm⟩ := bS hm
   obtain ⟨c3, c5, hm⟩ := bS hm
   refine Di mixed (.refl _)<|E0 0 rfl (sM rfl)<|E0 1 rfl (sM rfl)<|E0 2 rfl (sM rfl) ?_
   obtain ⟨c6, c7, c8⟩ := iS c1
   obtain ⟨fB, fC, fD, fF, fG, c9, da, db, dc, fH, fI⟩ := OS.get (sz := 1) rfl (by decide) (n.le A) c8
   obtain ⟨rfl, rfl⟩ := c9
   refine E0 3 rfl (sI c6 rfl rfl c7 dc db sl42)<|Es 4 rfl (st_load_rd rfl one3 (fun w ho => da w _ ho (.cons _ (List.sublist_append_left _ _)) 0 _ rfl))<|E0 5 rfl (sM rfl)<|E0 6 rfl (sM rfl) ?_
   obtain ⟨dd, de, df⟩ := iS c2
   obtain ⟨fJ, fK, fL, fM, fN, dg, dh, di, dj, fO, fP⟩ := OS.get (sz := 1) rfl (by decide) (n.le A) df
   obtain ⟨rfl, rfl⟩ := dg
   refine E0 7 rfl (sI dd rfl rfl de dj di sl42)<|Es 8 rfl (st_load_rd rfl one3 (fun w ho => dh w _ ho (.cons _ (List.sublist_append_left _ _)) 0 _ rfl))<|Eo<|Da [9] (by kernel_rfl) rfl ?_
   refine Rv lr rfl rfl #[] #[pb a] [iv bt, iv bu] rfl call52 rfl (cFleetOrder_1 _ _ bt bu g a h i (p.le A) c3 c5) ?_ ?_
   rintro _ fQ _ aB ⟨rfl, rfl⟩
   refine ⟨.inl (by kernel_rfl), ?_⟩
   refine El aB<|E0 10 rfl (q3 rfl rfl)<|E0 11 rfl (sn2 rfl)<|Eo<|Dd (by kernel_rfl)<|Xn ?_
   refine Cc _ rfl (fun aC => ?_) (fun aC => ?_)
   rw [if_neg (of_decide_eq_false (nt aC))] at hm
   refine Cg<|M rfl rfl ?_
   obtain ⟨_, aD, hm⟩ := bS hm
   have aD := (kS aD).2
   refine Ts rfl (sa rfl rfl aD)<|As rfl rfl<|Tn<|Xm ?_
   exact xM hm ⟨rfl, rfl, ((A.trans aB))⟩ (.refl _)
   rw [if_pos (of_decide_eq_true (nf aC))] at hm
   refine Cg<|M rfl rfl<|As rfl rfl<|Tn<|Xm ?_
   exact xM hm ⟨rfl, rfl, ((A.trans aB))⟩ (.refl _)
   exact Rn
   rw [if_neg (of_decide_eq_false ay)] at hm
   refine Ce<|Xe<|Xe<|Xo ?_
   have hm := congrArg some (c0 _ (Option.some.inj hm).symm)
   obtain rfl := o1 hm
   exact xJ ⟨rfl, rfl, A⟩ (.refl _)
   rintro V _ _ ⟨rfl, rfl, bw⟩
   have hm := cZ
   obtain ⟨aE, dk, dl⟩ := bS hm
   refine Cj (fun aF e' hp' => ∃ (W : Hp), [] = e' ∧ (a, Cl 32 [sv h g i]) :: (W ++ R) = hp' ∧ V.Le aF ∧ OS 3 (OT.fr rI) aF.w (sv c aE d) aE W ∧ aE.length = k.length) ?_ ?_
   have hm := dk
   refine Cr<|M rfl rfl<|As rfl rfl<|Te<|Cb<|cL (unc2 fun B r => fun aG e' hp' => ∃ (X : Hp), [(0, sv c r d), (14, iv bo), (17, iv B)] = e' ∧ (a, Cl 32 [sv h g i]) :: (X ++ R) = hp' ∧ V.Le aG ∧ OS 3 (OT.fr rI) aG.w (sv c r d) r X ∧ r.length = k.length) hm ⟨l, rfl, rfl, lr, (n.le bw), rfl⟩ (.refl _) ?_
   rintro ⟨B, r⟩ aG _ _ fR ⟨X, rfl, rfl, bx, H, bz⟩ bA dm
   unfold mSlicesSymMergeCmpFunc_L8992 at bA
   have hm := (unc2E bA)
   refine Cs<|Cr<|M rfl rfl<|M rfl rfl<|Ts rfl (q5 rfl rfl)<|Te ?_
   refine Cc _ rfl (fun aH => ?_) (fun aH => ?_)
   rw [if_pos (of_decide_eq_true aH)] at hm
   refine Ck<|Xn<|Cs<|Cb ?_
   obtain ⟨_, aI, hm⟩ := bS hm
   obtain ⟨_, aJ, hm⟩ := bS hm
   obtain ⟨I, dn, hm⟩ := bS hm
   obtain ⟨aK, dp, hm⟩ := bS hm
   obtain ⟨fS, dq, hm⟩ := bS hm
   obtain ⟨fT, dr, hm⟩ := bS hm
   refine Di mixed (.refl _)<|E0 0 rfl (sM rfl)<|E0 1 rfl (sM rfl)<|E0 2 rfl (sM rfl)<|E0 3 rfl (sM rfl) ?_
   have aI := (kS aI).2
   refine E0 4 rfl (sb rfl rfl aI)<|E0 5 rfl (sM rfl)<|E0 6 rfl (sM rfl) ?_
   have aJ := (kS aJ).2
   refine E0 7 rfl (sb rfl rfl aJ) ?_
   obtain ⟨ds, dt, du⟩ := iS dn
   obtain ⟨fU, fV, fW, fX, fY, dv, dw, dx, dy, fZ, f0⟩ := OS.get (sz := 1) rfl (by decide) H du
   obtain ⟨rfl, rfl⟩ := dv
   refine E0 8 rfl (sI ds rfl rfl dt dy dx sl42)<|Es 9 rfl (st_load_rd rfl one3 (fun w ho => dw w _ ho (.cons _ (List.sublist_append_left _ _)) 0 _ rfl))<|E0 10 rfl (sM rfl)<|E0 11 rfl (sM rfl) ?_
   obtain ⟨dz, dA, dB⟩ := iS dp
   obtain ⟨f1, f2, f3, f4, f5, dC, dD, dE, dF, f6, f7⟩ := OS.get (sz := 1) rfl (by decide) H dB
   obtain ⟨rfl, rfl⟩ := dC
   refine E0 12 rfl (sI dz rfl rfl dA dF dE sl42)<|Es 13 rfl (st_load_rd rfl one3 (fun w ho => dD w _ ho (.cons _ (List.sublist_append_left _ _)) 0 _ rfl)) ?_
   obtain ⟨dG, bB, bC⟩ := iS dq
   obtain ⟨f8, f9, ga, gb, gc, dH, gd, dI, dJ, ge, gf⟩ := OS.get (sz := 1) rfl (by decide) H bC
   obtain ⟨rfl, rfl⟩ := dH
   refine E0 14 rfl (sI dG rfl rfl bB dJ dI sl42)<|Eo<|Da [15] (by kernel_rfl) rfl ?_
   refine Rd2 lr rfl rfl (uP bB (sz := 1) (a' := I) rfl [_] R 0 1 [iv I] rfl H bC rfl rfl rfl siz3 rfl (mc rfl mn) (fun cs hsj hh => by obtain ⟨rfl, rfl⟩ := hh; exact ⟨by first | decide | exact Nat.le_refl _, rfl, rfl⟩)) ?_ ?_
   rintro _ _ ⟨gg, rfl, bD⟩
   refine ⟨.inl (by kernel_rfl), ?_⟩
   refine d_resp 0 rfl (v' := .slice c (put r B I).length d) (by simp only [put_length])<|d_resp 115 rfl (v' := .slice c (put r B I).length d) (by simp only [put_length]) ?_
   obtain ⟨dK, bE, bF⟩ := iS dr
   obtain ⟨gh, gi, gj, gk, gl, dL, gm, dM, dN, gn, go⟩ := OS.get (sz := 1) rfl (by decide) bD bF
   obtain ⟨rfl, rfl⟩ := dL
   refine El lr<|E0 16 rfl (sI dK rfl rfl bE dN dM sl42)<|Eo<|Da [17] (by kernel_rfl) rfl ?_
   refine Rd2 lr rfl rfl (uP bE (sz := 1) (a' := aK) rfl [_] R 0 1 [iv aK] rfl bD bF rfl rfl rfl siz3 rfl (mc rfl mn) (fun cs hsj hh => by obtain ⟨rfl, rfl⟩ := hh; exact ⟨by first | decide | exact Nat.le_refl _, rfl, rfl⟩)) ?_ ?_
   rintro _ _ ⟨dO, rfl, dP⟩
   refine ⟨.inl (by kernel_rfl), ?_⟩
   refine d_resp 0 rfl (v' := .slice c (put (put r B I) (B - 1) aK).length d) (by simp only [put_length])<|Dd (by kernel_rfl)<|Xm<|Xn<|Cg<|M rfl rfl ?_
   obtain ⟨_, aL, hm⟩ := bS hm
   have aL := (kS aL).2
   refine Ts rfl (sb rfl rfl aL)<|As rfl rfl<|Tn ?_
   exact xM hm ⟨dO, rfl, rfl, (bx), dP, ((put_length _ _ _).trans ((put_length _ _ _).trans bz))⟩ (.refl _)
   exact Rn
   exact Rn
   rw [if_neg (of_decide_eq_false aH)] at hm
   refine Ce<|Xe<|Xe<|Xo ?_
   have hm := congrArg some (dm _ (Option.some.inj hm).symm)
   obtain rfl := o1 hm
   exact xJ ⟨X, rfl, rfl, bx, H, bz⟩ (.refl _)
   rintro aF _ _ ⟨W, rfl, rfl, dQ, dR, dS⟩
   have hm := dl
   refine Ct<|Xr ?_
   obtain rfl := o1 hm
   exact rM (rs := []) (vs := []) trivial ⟨W, rfl, rfl, dR, dS⟩ (.refl _) (bw.trans dQ)
   rw [if_neg (of_decide_eq_false ax)] at hm
   refine Ck<|Xn<|Cr<|M rfl rfl<|M rfl rfl ?_
   obtain ⟨_, aM, hm⟩ := bS hm
   have aM := (kS aM).2
   refine Ts rfl (sa rfl rfl aM)<|Ts rfl (st_conv rfl int3_i64 int79_u64) ?_
   obtain ⟨_, aN, hm⟩ := bS hm
   have aN := shN_some aN
   refine Ts rfl (st_shr rfl rfl aN)<|Ts rfl (st_conv rfl int79_u64 int3_i64)<|As rfl rfl<|Te<|Cr<|M rfl rfl<|M rfl rfl ?_
   obtain ⟨_, aO, hm⟩ := bS hm
   have aO := (kS aO).2
   refine Ts rfl (sa rfl rfl aO)<|As rfl rfl<|Te<|Cr<|As rfl rfl<|As rfl rfl<|Te ?_
   obtain ⟨⟨dT, dU⟩, dV, dW⟩ := bS hm
   refine Cj (fun Y e' hp' => [(0, sv c k d), (1, iv e), (2, iv j), (3, iv f), (4, .func (.func 52) #[] #[pb a]), (18, iv (IntKind.wrap .i64 (shrI .u64 (IntKind.wrap .u64 (e + f)) 1))), (19, iv ((IntKind.wrap .i64 (shrI .u64 (IntKind.wrap .u64 (e + f)) 1)) + j)), (20, iv dT), (21, iv dU)] = e' ∧ (a, Cl 32 [sv h g i]) :: (l ++ R) = hp' ∧ b.Le Y) ?_ ?_
   have hm := dV
   refine Cr<|M rfl rfl<|M rfl rfl<|Ts rfl (q5 rfl rfl)<|Te ?_
   refine Cc _ rfl (fun aP => ?_) (fun aP => ?_)
   rw [if_pos (of_decide_eq_true aP)] at hm
   refine Cr<|M rfl rfl<|M rfl rfl ?_
   obtain ⟨_, aQ, hm⟩ := bS hm
   have aQ := (kS aQ).2
   refine Ts rfl (sb rfl rfl aQ)<|As rfl rfl<|Te<|Cg<|M rfl rfl<|As rfl rfl<|Tn ?_
   obtain ⟨rfl, rfl⟩ := some2 hm
   exact xJ ⟨rfl, rfl, lr⟩ (.refl _)
   rw [if_neg (of_decide_eq_false aP)] at hm
   refine Cr<|M rfl rfl<|As rfl rfl<|Te<|Cg<|M rfl rfl<|As rfl rfl<|Tn ?_
   obtain ⟨rfl, rfl⟩ := some2 hm
   exact xJ ⟨rfl, rfl, lr⟩ (.refl _)
   rintro Y _ _ ⟨rfl, rfl, o⟩
   have hm := (unc2E dW)
   refine Cr<|M rfl rfl ?_
   obtain ⟨_, aR, hm⟩ := bS hm
   have aR := (kS aR).2
   refine Ts rfl (sb rfl rfl aR)<|As rfl rfl<|Te ?_
   obtain ⟨m, dX, dY⟩ := bS hm
   refine Cj (fun Z e' hp' => [(0, sv c k d), (1, iv e), (2, iv j), (3, iv f), (4, .func (.func 52) #[] #[pb a]), (18, iv (IntKind.wrap .i64 (shrI .u64 (IntKind.wrap .u64 (e + f)) 1))), (19, iv ((IntKind.wrap .i64 (shrI .u64 (IntKind.wrap .u64 (e + f)) 1)) + j)), (20, iv m)] = e' ∧ (a, Cl 32 [sv h g i]) :: (l ++ R) = hp' ∧ Y.Le Z) ?_ ?_
   have hm := dX
   refine Cb<|cL (unc2 fun bG bH => fun bI e' hp' => [(0, sv c k d), (1, iv e), (2, iv j), (3, iv f), (4, .func (.func 52) #[] #[pb a]), (18, iv (IntKind.wrap .i64 (shrI .u64 (IntKind.wrap .u64 (e + f)) 1))), (19, iv ((IntKind.wrap .i64 (shrI .u64 (IntKind.wrap .u64 (e + f)) 1)) + j)), (20, iv bG), (21, iv bH), (22, iv (((IntKind.wrap .i64 (shrI .u64 (IntKind.wrap .u64 (e + f)) 1)) + j) - 1))] = e' ∧ (a, Cl 32 [sv h g i]) :: (l ++ R) = hp' ∧ Y.Le bI) hm ⟨rfl, rfl, lr⟩ (.refl _) ?_
   rintro ⟨bG, bH⟩ bI _ _ gp ⟨rfl, rfl, C⟩ bJ dZ
   unfold mSlicesSymMergeCmpFunc_L9694 at bJ
   have hm := (unc2E bJ)
   refine Cs<|Cr<|M rfl rfl<|M rfl rfl<|Ts rfl (q3 rfl rfl)<|Te ?_
   refine Cc _ rfl (fun aS => ?_) (fun aS => ?_)
   rw [if_pos (of_decide_eq_true aS)] at hm
   refine Ck<|Xn<|Cb<|Cr<|M rfl rfl<|M rfl rfl ?_
   obtain ⟨_, aT, hm⟩ := bS hm
   have aT := (kS aT).2
   refine Ts rfl (sa rfl rfl aT)<|Ts rfl (st_conv rfl int3_i64 int79_u64) ?_
   obtain ⟨_, aU, hm⟩ := bS hm
   have aU := shN_some aU
   refine Ts rfl (st_shr rfl rfl aU)<|Ts rfl (st_conv rfl int79_u64 int3_i64)<|As rfl rfl<|Te<|Cs ?_
   obtain ⟨_, aV, hm⟩ := bS hm
   obtain ⟨bK, d0, hm⟩ := bS hm
   obtain ⟨bL, d1, hm⟩ := bS hm
   obtain ⟨d5, d6, hm⟩ := bS hm
   refine Di mixed (.refl _)<|E0 0 rfl (sM rfl)<|E0 1 rfl (sM rfl)<|E0 2 rfl (sM rfl)<|E0 3 rfl (sM rfl) ?_
   have aV := (kS aV).2
   refine E0 4 rfl (sb rfl rfl aV) ?_
   obtain ⟨d7, d8, d9⟩ := iS d0
   obtain ⟨gq, gr, gs, gt, gu, ea, eb, ec, ed, gv, gw⟩ := OS.get (sz := 1) rfl (by decide) (n.le (o.trans C)) d9
   obtain ⟨rfl, rfl⟩ := ea
   refine E0 5 rfl (sI d7 rfl rfl d8 ed ec sl42)<|Es 6 rfl (st_load_rd rfl one3 (fun w ho => eb w _ ho (.cons _ (List.sublist_append_left _ _)) 0 _ rfl))<|E0 7 rfl (sM rfl)<|E0 8 rfl (sM rfl) ?_
   obtain ⟨ee, ef, eg⟩ := iS d1
   obtain ⟨gx, gy, gz, gA, gB, eh, ei, ej, ek, gC, gD⟩ := OS.get (sz := 1) rfl (by decide) (n.le (o.trans C)) eg
   obtain ⟨rfl, rfl⟩ := eh
   refine E0 9 rfl (sI ee rfl rfl ef ek ej sl42)<|Es 10 rfl (st_load_rd rfl one3 (fun w ho => ei w _ ho (.cons _ (List.sublist_append_left _ _)) 0 _ rfl))<|Eo<|Da [11] (by kernel_rfl) rfl ?_
   refine Rv lr rfl rfl #[] #[pb a] [iv bK, iv bL] rfl call52 rfl (cFleetOrder_1 _ _ bK bL g a h i (p.le (o.trans C)) d5 d6) ?_ ?_
   rintro _ gE _ aW ⟨rfl, rfl⟩
   refine ⟨.inl (by kernel_rfl), ?_⟩
   refine El aW<|E0 12 rfl (q3 rfl rfl)<|E0 13 rfl (sn2 rfl)<|Eo<|Dd (by kernel_rfl)<|Xn ?_
   refine Cc _ rfl (fun aX => ?_) (fun aX => ?_)
   rw [if_neg (of_decide_eq_false (nt aX))] at hm
   refine Cg<|M rfl rfl ?_
   obtain ⟨_, aY, hm⟩ := bS hm
   have aY := (kS aY).2
   refine Ts rfl (sa rfl rfl aY)<|As rfl rfl<|Tn<|Xm ?_
   exact xM hm ⟨rfl, rfl, ((C.trans aW))⟩ (.refl _)
   rw [if_pos (of_decide_eq_true (nf aX))] at hm
   refine Cg<|M rfl rfl<|As rfl rfl<|Tn<|Xm ?_
   exact xM hm ⟨rfl, rfl, ((C.trans aW))⟩ (.refl _)
   exact Rn
   rw [if_neg (of_decide_eq_false aS)] at hm
   refine Ce<|Xe<|Xe<|Xo ?_
   have hm := congrArg some (dZ _ (Option.some.inj hm).symm)
   obtain rfl := o1 hm
   exact xJ ⟨rfl, rfl, C⟩ (.refl _)
   rintro Z _ _ ⟨rfl, rfl, s⟩
   have hm := dY
   refine Cr<|M rfl rfl<|M rfl rfl ?_
   obtain ⟨_, aZ, hm⟩ := bS hm
   have aZ := (kS aZ).2
   refine Ts rfl (sb rfl rfl aZ)<|As rfl rfl<|Te ?_
   obtain ⟨D, el, em⟩ := bS hm
   refine Cj (fun J e' hp' => ∃ (t : Hp), [(0, sv c D d), (1, iv e), (3, iv f), (4, .func (.func 52) #[] #[pb a]), (18, iv (IntKind.wrap .i64 (shrI .u64 (IntKind.wrap .u64 (e + f)) 1))), (20, iv m), (24, iv (((IntKind.wrap .i64 (shrI .u64 (IntKind.wrap .u64 (e + f)) 1)) + j) - m))] = e' ∧ (a, Cl 32 [sv h g i]) :: (t ++ R) = hp' ∧ Z.Le J ∧ OS 3 (OT.fr rI) J.w (sv c D d) D t ∧ D.length = k.length) ?_ ?_
   have hm := el
   obtain ⟨en, eo, ep⟩ := bS hm
   refine Cj (fun bM e' hp' => [(0, sv c k d), (1, iv e), (2, iv j), (3, iv f), (4, .func (.func 52) #[] #[pb a]), (18, iv (IntKind.wrap .i64 (shrI .u64 (IntKind.wrap .u64 (e + f)) 1))), (20, iv m), (24, iv (((IntKind.wrap .i64 (shrI .u64 (IntKind.wrap .u64 (e + f)) 1)) + j) - m)), (185, bv en)] = e' ∧ (a, Cl 32 [sv h g i]) :: (l ++ R) = hp' ∧ Z.Le bM) ?_ ?_
   have hm := eo
   refine Cg<|M rfl rfl<|M rfl rfl ?_
   refine Tb rfl (q3 rfl rfl) (fun a0 => ?_) (fun a0 => ?_)
   rw [if_pos a0] at hm
   refine M rfl rfl<|Ys 181 rfl rfl rfl<|M rfl rfl<|Ys 181 rfl rfl rfl<|M rfl rfl<|Ys 181 rfl rfl rfl<|Ts rfl (q3 rfl rfl)<|Ts rfl (pT rfl rfl)<|Tn ?_
   obtain rfl := o1 hm
   exact xJ ⟨rfl, rfl, lr⟩ (.refl _)
   rw [if_neg a0] at hm
   refine M rfl rfl<|No 181 rfl rfl rfl rfl rfl<|No 181 rfl rfl rfl rfl rfl<|No 181 rfl rfl rfl rfl rfl<|Ts rfl (pF rfl rfl)<|Tn ?_
   obtain rfl := o1 hm
   exact xJ ⟨rfl, rfl, lr⟩ (.refl _)
   rintro bM _ _ ⟨rfl, rfl, K⟩
   have hm := ep
   refine Cc _ rfl (fun a1 => ?_) (fun a1 => ?_)
   rw [if_pos a1] at hm
   refine Cg<|M rfl rfl<|M rfl rfl<|M rfl rfl<|M rfl rfl<|M rfl rfl ?_
   obtain ⟨bN, eq, hm⟩ := bS hm
   refine t_out1 [_] [] l R rfl<|Tg _ rfl call77 rfl (cSlicesRotateCmpFunc _ _ m j (((IntKind.wrap .i64 (shrI .u64 (IntKind.wrap .u64 (e + f)) 1)) + j) - m) g k a h i c d l (p.le (o.trans (s.trans K))) (n.le (o.trans (s.trans K))) bN eq) ?_
   rintro _ gF _ er ⟨bO, rfl, rfl, es, bP⟩
   refine t_in1 [_] [] bO R rfl<|Tr 0 rfl (v' := sv c bN d) (by show Value.slice _ _ _ = Value.slice _ _ _; rw [bP])<|Tn ?_
   obtain rfl := o1 hm
   exact xJ ⟨bO, rfl, rfl, (K.trans er), es, (bP.trans rfl)⟩ (.refl _)
   rw [if_neg (fun hh => Bool.noConfusion (hh.symm.trans a1))] at hm
   refine Ck ?_
   obtain rfl := o1 hm
   exact xJ ⟨l, rfl, rfl, K, (n.le (o.trans (s.trans K))), rfl⟩ (.refl _)
   rintro J _ _ ⟨t, rfl, rfl, aa, bQ, bR⟩
   have hm := em
   obtain ⟨E, et, eu⟩ := bS hm
   refine Cj (fun ab e' hp' => ∃ (u : Hp), [(0, sv c E d), (3, iv f), (4, .func (.func 52) #[] #[pb a]), (18, iv (IntKind.wrap .i64 (shrI .u64 (IntKind.wrap .u64 (e + f)) 1))), (24, iv (((IntKind.wrap .i64 (shrI .u64 (IntKind.wrap .u64 (e + f)) 1)) + j) - m))] = e' ∧ (a, Cl 32 [sv h g i]) :: (u ++ R) = hp' ∧ J.Le ab ∧ OS 3 (OT.fr rI) ab.w (sv c E d) E u ∧ E.length = k.length) ?_ ?_
   have hm := et
   obtain ⟨ev, ew, ex⟩ := bS hm
   refine Cj (fun bT e' hp' => [(0, sv c D d), (1, iv e), (3, iv f), (4, .func (.func 52) #[] #[pb a]), (18, iv (IntKind.wrap .i64 (shrI .u64 (IntKind.wrap .u64 (e + f)) 1))), (20, iv m), (24, iv (((IntKind.wrap .i64 (shrI .u64 (IntKind.wrap .u64 (e + f)) 1)) + j) - m)), (199, bv ev)] = e' ∧ (a, Cl 32 [sv h g i]) :: (t ++ R) = hp' ∧ J.Le bT) ?_ ?_
   have hm := ew
   refine Cg<|M rfl rfl<|M rfl rfl ?_
   refine Tb rfl (q3 rfl rfl) (fun a2 => ?_) (fun a2 => ?_)
   rw [if_pos a2] at hm
   refine M rfl rfl<|Ys 195 rfl rfl rfl<|M rfl rfl<|Ys 195 rfl rfl rfl<|M rfl rfl<|Ys 195 rfl rfl rfl<|Ts rfl (q3 rfl rfl)<|Ts rfl (pT rfl rfl)<|Tn ?_
   obtain rfl := o1 hm
   exact xJ ⟨rfl, rfl, lr⟩ (.refl _)
   rw [if_neg a2] at hm
   refine M rfl rfl<|No 195 rfl rfl rfl rfl rfl<|No 195 rfl rfl rfl rfl rfl<|No 195 rfl rfl rfl rfl rfl<|Ts rfl (pF rfl rfl)<|Tn ?_
   obtain rfl := o1 hm
   exact xJ ⟨rfl, rfl, lr⟩ (.refl _)
   rintro bT _ _ ⟨rfl, rfl, L⟩
   have hm := ex
   refine Cc _ rfl (fun a3 => ?_) (fun a3 => ?_)
   rw [if_pos a3] at hm
   refine Cg<|M rfl rfl<|M rfl rfl<|M rfl rfl<|M rfl rfl<|M rfl rfl ?_
   obtain ⟨bU, ey, hm⟩ := bS hm
   refine t_out1 [_] [] t R rfl<|Tg _ rfl call75 rfl (ih _ _ e m (IntKind.wrap .i64 (shrI .u64 (IntKind.wrap .u64 (e + f)) 1)) g D a h i c d t (p.le (o.trans (s.trans (aa.trans L)))) (bQ.le L) bU ey) ?_
   rintro _ gG _ ez ⟨bV, rfl, rfl, eA, bW⟩
   refine t_in1 [_] [] bV R rfl<|Tr 0 rfl (v' := sv c bU d) (by show Value.slice _ _ _ = Value.slice _ _ _; rw [bW])<|Tn ?_
   obtain rfl := o1 hm
   exact xJ ⟨bV, rfl, rfl, (L.trans ez), eA, (bW.trans bR)⟩ (.refl _)
   rw [if_neg (fun hh => Bool.noConfusion (hh.symm.trans a3))] at hm
   refine Ck ?_
   obtain rfl := o1 hm
   exact xJ ⟨t, rfl, rfl, L, (bQ.le L), bR⟩ (.refl _)
   rintro ab _ _ ⟨u, rfl, rfl, a4, bX, bY⟩
   have hm := eu
   obtain ⟨eB, eC, eD⟩ := bS hm
   refine Cj (fun bZ e' hp' => [(0, sv c E d), (3, iv f), (4, .func (.func 52) #[] #[pb a]), (18, iv (IntKind.wrap .i64 (shrI .u64 (IntKind.wrap .u64 (e + f)) 1))), (24, iv (((IntKind.wrap .i64 (shrI .u64 (IntKind.wrap .u64 (e + f)) 1)) + j) - m)), (213, bv eB)] = e' ∧ (a, Cl 32 [sv h g i]) :: (u ++ R) = hp' ∧ ab.Le bZ) ?_ ?_
   have hm := eC
   refine Cg<|M rfl rfl<|M rfl rfl ?_
   refine Tb rfl (q3 rfl rfl) (fun a5 => ?_) (fun a5 => ?_)
   rw [if_pos a5] at hm
   refine M rfl rfl<|Ys 209 rfl rfl rfl<|M rfl rfl<|Ys 209 rfl rfl rfl<|M rfl rfl<|Ys 209 rfl rfl rfl<|Ts rfl (q3 rfl rfl)<|Ts rfl (pT rfl rfl)<|Tn ?_
   obtain rfl := o1 hm
   exact xJ ⟨rfl, rfl, lr⟩ (.refl _)
   rw [if_neg a5] at hm
   refine M rfl rfl<|No 209 rfl rfl rfl rfl rfl<|No 209 rfl rfl rfl rfl rfl<|No 209 rfl rfl rfl rfl rfl<|Ts rfl (pF rfl rfl)<|Tn ?_
   obtain rfl := o1 hm
   exact xJ ⟨rfl, rfl, lr⟩ (.refl _)
   rintro bZ _ _ ⟨rfl, rfl, O⟩
   have hm := eD
   refine Cc _ rfl (fun a6 => ?_) (fun a6 => ?_)
   rw [if_pos a6] at hm
   refine Cg<|M rfl rfl<|M rfl rfl<|M rfl rfl<|M rfl rfl<|M rfl rfl ?_
   obtain ⟨eE, eG, hm⟩ := bS hm
   refine t_out1 [_] [] u R rfl<|Tg _ rfl call75 rfl (ih _ _ (IntKind.wrap .i64 (shrI .u64 (IntKind.wrap .u64 (e + f)) 1)) (((IntKind.wrap .i64 (shrI .u64 (IntKind.wrap .u64 (e + f)) 1)) + j) - m) f g E a h i c d u (p.le (o.trans (s.trans (aa.trans (a4.trans O))))) (bX.le O) eE eG) ?_
   rintro _ gH _ eH ⟨b0, rfl, rfl, eI, eJ⟩
   refine t_in1 [_] [] b0 R rfl<|Tn ?_
   obtain rfl := o1 hm
   exact endM (o.trans (s.trans (aa.trans (a4.trans (O.trans eH))))) rfl (.refl _) ⟨b0, rfl, rfl, eI, (eJ.trans bY)⟩
   rw [if_neg (fun hh => Bool.noConfusion (hh.symm.trans a6))] at hm
   refine Ck ?_
   obtain rfl := o1 hm
   have eK := (bX.le O)
   exact endM (o.trans (s.trans (aa.trans (a4.trans O)))) rfl (.refl _) ⟨u, rfl, rfl, eK, bY⟩

set_option maxRecDepth 20000 in
theorem cSlicesStableCmpFunc (b : Base) (R : Hp) (i : Int) (e : (List FleetTask)) (h : (List Int)) (d : Nat) (f : OA) (g : Nat) (a : OA) (c : Nat) (E : Hp) (w : FZ rFleetTask b.w f g e) (h5 : OS 3 (OT.fr rI) b.w (sv a h c) h E) (x : (List Int)) (hm : mSlicesStableCmpFunc i e h = some x) :
    CallsG Try.prog 67 [sv a h c, iv i, .func (.func 52) #[] #[pb d]] b ((d, Cl 32 [sv f e g]) :: (E ++ R)) (fun v b' hp' => ∃ (ai : Hp), .tuple #[] = v ∧ (d, Cl 32 [sv f e g]) :: (ai ++ R) = hp' ∧ OS 3 (OT.fr rI) b'.w (sv a x c) x ai ∧ x.length = h.length) := by
 refine fE 63 Try.func67 rfl Try.ntmps67 rfl ?_
 unfold mSlicesStableCmpFunc at hm
 refine Cr<|As rfl rfl<|Te<|Cr<|M rfl rfl<|As rfl rfl<|As rfl rfl<|Te ?_
 obtain ⟨⟨aj, p⟩, hj603, hk603⟩ := bS hm
 refine Cj (fun F e' hp' => ∃ (q : Hp), [(0, sv a p c), (1, iv i), (2, .func (.func 52) #[] #[pb d]), (6, iv 20), (7, iv aj)] = e' ∧ (d, Cl 32 [sv f e g]) :: (q ++ R) = hp' ∧ b.Le F ∧ OS 3 (OT.fr rI) F.w (sv a p c) p q ∧ p.length = h.length) ?_ ?_
 have hm := hj603
 refine Cb<|cL (unc3 fun G H k => fun I e' hp' => ∃ (l : Hp), [(0, sv a k c), (1, iv i), (2, .func (.func 52) #[] #[pb d]), (6, iv 20), (7, iv G), (8, iv H)] = e' ∧ (d, Cl 32 [sv f e g]) :: (l ++ R) = hp' ∧ b.Le I ∧ OS 3 (OT.fr rI) I.w (sv a k c) k l ∧ k.length = h.length) hm ⟨E, rfl, rfl, lr, h5, rfl⟩ (.refl _) ?_
 rintro ⟨G, H, k⟩ I _ _ oL604 ⟨l, rfl, rfl, J, ak, al⟩ am houtL604
 unfold mSlicesStableCmpFunc_L604 at am
 have hm := (unc3E am)
 refine Cs<|Cr<|M rfl rfl<|M rfl rfl<|Ts rfl (q4 rfl rfl)<|Te ?_
 refine Cc _ rfl (fun K => ?_) (fun K => ?_)
 rw [if_pos (of_decide_eq_true K)] at hm
 refine Ck<|Xn<|Cb<|Cr<|M rfl rfl<|M rfl rfl<|M rfl rfl<|M rfl rfl ?_
 obtain ⟨an, hcl641, hm⟩ := bS hm
 refine t_out1 [_] [] l R rfl<|Tg _ rfl call74 rfl (cSlicesInsertionSortCmpFunc _ _ G H e k d f g a c l (w.le J) ak an hcl641) ?_
 rintro _ b642 _ hle643 ⟨ao, rfl, rfl, h645, aq⟩
 refine t_in1 [_] [] ao R rfl<|Tr 0 rfl (v' := sv a an c) (by show Value.slice _ _ _ = Value.slice _ _ _; rw [aq])<|Te<|Cr<|M rfl rfl<|As rfl rfl<|Te<|Cg<|M rfl rfl<|M rfl rfl ?_
 obtain ⟨_, L, hm⟩ := bS hm
 have L := (kS L).2
 refine Ts rfl (sa rfl rfl L)<|As rfl rfl<|Tn<|Xm ?_
 exact xM hm ⟨ao, rfl, rfl, ((J.trans hle643)), h645, (aq.trans al)⟩ (.refl _)
 rw [if_neg (of_decide_eq_false K)] at hm
 refine Ce<|Xe<|Xe<|Xo ?_
 have hm := congrArg some (houtL604 _ (Option.some.inj hm).symm)
 obtain ⟨rfl, rfl⟩ := some2 hm
 exact xJ ⟨l, rfl, rfl, J, ak, al⟩ (.refl _)
 rintro F _ _ ⟨q, rfl, rfl, y, h599, hln602⟩
 have hm := (unc2E hk603)
 refine Cr<|M rfl rfl<|M rfl rfl<|M rfl rfl<|M rfl rfl ?_
 obtain ⟨ar, hcl649, hm⟩ := bS hm
 refine t_out1 [_] [] q R rfl<|Tg _ rfl call74 rfl (cSlicesInsertionSortCmpFunc _ _ aj i e p d f g a c q (w.le y) h599 ar hcl649) ?_
 rintro _ b650 _ O ⟨au, rfl, rfl, h653, av⟩
 refine t_in1 [_] [] au R rfl<|Tr 0 rfl (v' := sv a ar c) (by show Value.slice _ _ _ = Value.slice _ _ _; rw [av])<|Te<|Cb<|cL (unc2 fun j r => fun s e' hp' => ∃ (t : Hp), [(0, sv a r c), (1, iv i), (2, .func (.func 52) #[] #[pb d]), (6, iv j)] = e' ∧ (d, Cl 32 [sv f e g]) :: (t ++ R) = hp' ∧ b650.Le s ∧ OS 3 (OT.fr rI) s.w (sv a r c) r t ∧ r.length = h.length) hm ⟨au, rfl, rfl, lr, h653, (av.trans hln602)⟩ (.refl _) ?_
 rintro ⟨j, r⟩ s _ _ oL655 ⟨t, rfl, rfl, z, aw, ax⟩ ay houtL655
 unfold mSlicesStableCmpFunc_L655 at ay
 have hm := (unc2E ay)
 refine Cs<|Cr<|M rfl rfl<|M rfl rfl<|Ts rfl (q3 rfl rfl)<|Te ?_
 refine Cc _ rfl (fun S => ?_) (fun S => ?_)
 rw [if_pos (of_decide_eq_true S)] at hm
 refine Ck<|Xn<|Cb<|Cr<|M rfl rfl ?_
 obtain ⟨_, T, hm⟩ := bS hm
 have T := (kS T).2
 refine Ts rfl (st_mul rfl rfl T)<|As rfl rfl<|As rfl rfl<|Te ?_
 obtain ⟨⟨U, u⟩, hj1006, hk1006⟩ := bS hm
 refine Cj (fun A e' hp' => ∃ (m : Hp), [(0, sv a u c), (1, iv i), (2, .func (.func 52) #[] #[pb d]), (6, iv j), (7, iv U)] = e' ∧ (d, Cl 32 [sv f e g]) :: (m ++ R) = hp' ∧ s.Le A ∧ OS 3 (OT.fr rI) A.w (sv a u c) u m ∧ u.length = h.length) ?_ ?_
 have hm := hj1006
 refine Cb<|cL (unc3 fun B V n => fun W e' hp' => ∃ (o : Hp), [(0, sv a n c), (1, iv i), (2, .func (.func 52) #[] #[pb d]), (6, iv j), (7, iv B), (8, iv V)] = e' ∧ (d, Cl 32 [sv f e g]) :: (o ++ R) = hp' ∧ s.Le W ∧ OS 3 (OT.fr rI) W.w (sv a n c) n o ∧ n.length = h.length) hm ⟨t, rfl, rfl, lr, aw, ax⟩ (.refl _) ?_
 rintro ⟨B, V, n⟩ W _ _ oL1007 ⟨o, rfl, rfl, X, az, aA⟩ aB houtL1007
 unfold mSlicesStableCmpFunc_L1007 at aB
 have hm := (unc3E aB)
 refine Cs<|Cr<|M rfl rfl<|M rfl rfl<|Ts rfl (q4 rfl rfl)<|Te ?_
 refine Cc _ rfl (fun Y => ?_) (fun Y => ?_)
 rw [if_pos (of_decide_eq_true Y)] at hm
 refine Ck<|Xn<|Cb<|Cr<|M rfl rfl<|M rfl rfl<|M rfl rfl<|M rfl rfl ?_
 obtain ⟨_, Z, hm⟩ := bS hm
 have Z := (kS Z).2
 refine Ts rfl (sa rfl rfl Z)<|M rfl rfl<|M rfl rfl ?_
 obtain ⟨aC, aa, hm⟩ := bS hm
 obtain ⟨Nhcl1049, aa⟩ := lim_some aa
 refine t_out1 [_] [] o R rfl<|Tg _ rfl call75 rfl (cSlicesSymMergeCmpFunc Nhcl1049 _ _ B (B + j) V e n d f g a c o (w.le (y.trans (O.trans (z.trans X)))) az aC aa) ?_
 rintro _ b1050 _ hle1051 ⟨aD, rfl, rfl, h1053, aE⟩
 refine t_in1 [_] [] aD R rfl<|Tr 0 rfl (v' := sv a aC c) (by show Value.slice _ _ _ = Value.slice _ _ _; rw [aE])<|Te<|Cr<|M rfl rfl<|As rfl rfl<|Te<|Cg<|M rfl rfl<|M rfl rfl ?_
 obtain ⟨_, ab, hm⟩ := bS hm
 have ab := (kS ab).2
 refine Ts rfl (st_mul rfl rfl ab) ?_
 obtain ⟨_, ac, hm⟩ := bS hm
 have ac := (kS ac).2
 refine Ts rfl (sa rfl rfl ac)<|As rfl rfl<|Tn<|Xm ?_
 exact xM hm ⟨aD, rfl, rfl, ((X.trans hle1051)), h1053, (aE.trans aA)⟩ (.refl _)
 rw [if_neg (of_decide_eq_false Y)] at hm
 refine Ce<|Xe<|Xe<|Xo ?_
 have hm := congrArg some (houtL1007 _ (Option.some.inj hm).symm)
 obtain ⟨rfl, rfl⟩ := some2 hm
 exact xJ ⟨o, rfl, rfl, X, az, aA⟩ (.refl _)
 rintro A _ _ ⟨m, rfl, rfl, aF, aG, aH⟩
 have hm := (unc2E hk1006)
 obtain ⟨C, hj1073, hk1073⟩ := bS hm
 refine Cj (fun ad e' hp' => ∃ (D : Hp), [(0, sv a C c), (1, iv i), (2, .func (.func 52) #[] #[pb d]), (6, iv j)] = e' ∧ (d, Cl 32 [sv f e g]) :: (D ++ R) = hp' ∧ A.Le ad ∧ OS 3 (OT.fr rI) ad.w (sv a C c) C D ∧ C.length = h.length) ?_ ?_
 have hm := hj1073
 refine Cr<|M rfl rfl<|M rfl rfl ?_
 obtain ⟨_, ae, hm⟩ := bS hm
 have ae := (kS ae).2
 refine Ts rfl (sa rfl rfl ae)<|As rfl rfl<|Te<|Cr<|M rfl rfl<|M rfl rfl<|Ts rfl (q3 rfl rfl)<|Te ?_
 refine Cc _ rfl (fun af => ?_) (fun af => ?_)
 rw [if_pos (of_decide_eq_true af)] at hm
 refine Cg<|M rfl rfl<|M rfl rfl<|M rfl rfl<|M rfl rfl<|M rfl rfl ?_
 obtain ⟨aI, ag, hm⟩ := bS hm
 obtain ⟨Nhcl1077, ag⟩ := lim_some ag
 refine t_out1 [_] [] m R rfl<|Tg _ rfl call75 rfl (cSlicesSymMergeCmpFunc Nhcl1077 _ _ U (U + j) i e u d f g a c m (w.le (y.trans (O.trans (z.trans aF)))) aG aI ag) ?_
 rintro _ b1078 _ hle1079 ⟨aJ, rfl, rfl, h1081, aK⟩
 refine t_in1 [_] [] aJ R rfl<|Tr 0 rfl (v' := sv a aI c) (by show Value.slice _ _ _ = Value.slice _ _ _; rw [aK])<|Tn ?_
 obtain rfl := o1 hm
 exact xJ ⟨aJ, rfl, rfl, hle1079, h1081, (aK.trans aH)⟩ (.refl _)
 rw [if_neg (of_decide_eq_false af)] at hm
 refine Ck ?_
 obtain rfl := o1 hm
 exact xJ ⟨m, rfl, rfl, lr, aG, aH⟩ (.refl _)
 rintro ad _ _ ⟨D, rfl, rfl, hle1067, h1070, hln1072⟩
 have hm := hk1073
 refine Cg<|M rfl rfl ?_
 obtain ⟨_, ah, hm⟩ := bS hm
 have ah := (kS ah).2
 refine Ts rfl (st_mul rfl rfl ah)<|As rfl rfl<|Tn<|Xm ?_
 exact xM hm ⟨D, rfl, rfl, ((z.trans (aF.trans hle1067))), h1070, hln1072⟩ (.refl _)
 rw [if_neg (of_decide_eq_false S)] at hm
 refine Ce<|Xe<|Xe<|Xo ?_
 have hm := congrArg some (houtL655 _ (Option.some.inj hm).symm)
 obtain rfl := o1 hm
 exact endM (y.trans (O.trans z)) rfl (.refl _) ⟨t, rfl, rfl, aw, ax⟩

set_option maxRecDepth 20000 in
theorem cSlicesSortStableFunc (b : Base) (R : Hp) (c : (List FleetTask)) (a : (List Int)) (d : Nat) (e : OA) (f : Nat) (g : OA) (h : Nat) (i : Hp) (m : FZ rFleetTask b.w e f c) (n : OS 3 (OT.fr rI) b.w (sv g a h) a i) (j : (List Int)) (hm : mSlicesSortStableFunc c a = some j) :
    CallsG Try.prog 51 [sv g a h, .func (.func 52) #[] #[pb d]] b ((d, Cl 32 [sv e c f]) :: (i ++ R)) (fun v b' hp' => ∃ (k : Hp), .tuple #[] = v ∧ (d, Cl 32 [sv e c f]) :: (k ++ R) = hp' ∧ OS 3 (OT.fr rI) b'.w (sv g j h) j k ∧ j.length = a.length) := by
 refine fE 9 Try.func51 rfl Try.ntmps51 rfl ?_
 unfold mSlicesSortStableFunc at hm
 refine Cg<|M rfl rfl<|M rfl rfl<|Ts rfl (sE rfl sl42)<|M rfl rfl ?_
 obtain ⟨o, p, hm⟩ := bS hm
 refine t_out1 [_] [] i R rfl<|Tg _ rfl call67 rfl (cSlicesStableCmpFunc _ _ (a.length : Int) c a d e f g h i m n o p) ?_
 rintro _ t _ q ⟨l, rfl, rfl, r, s⟩
 refine t_in1 [_] [] l R rfl<|Tn ?_
 obtain rfl := o1 hm
 exact endM q rfl (.refl _) ⟨l, rfl, rfl, r, (s.trans rfl)⟩

set_option maxRecDepth 20000 in
theorem cFleetOrder (b : Base) (R : Hp) (g : (List FleetTask)) (i : OA) (j : Nat) (C : FZ rFleetTask b.w i j g) (k : (List Int)) (hm : mFleetOrder g = some k) :
    CallsG Try.prog 37 [sv i g j] b (R) (fun v b' hp' => ∃ (t : OA), ∃ (u : Nat), ∃ (w : Hp), sv t k u = v ∧ (w ++ R) = hp' ∧ OS 3 (OT.fr rI) b'.w (sv t k u) k w) := by
 refine fE 22 Try.func37 rfl Try.ntmps37 rfl ?_
 unfold mFleetOrder at hm
 refine Cr<|Do rfl (uB _ rfl rfl) ?_
 rintro _ _ ⟨p, rfl, rfl⟩
 refine As rfl rfl<|Te<|Cr<|Ts rfl (sL 0 rfl one32 rfl rfl)<|Ts rfl (sE rfl sl32) ?_
 obtain ⟨l, h, hm⟩ := bS hm
 have h := mkLen_some h
 refine Do rfl (u_mkOS (r := rI) [_] R [iv 0] 0 l rfl h.1 rfl rfl sl42 inf3 rfl rfl rfl (by decide) rfl h.2.1 h.2.2) ?_
 rintro _ _ ⟨D, rfl, q⟩
 obtain ⟨c, d, rfl, _⟩ := q.form
 refine As rfl rfl<|Te<|Cs<|Cr<|M rfl rfl<|Ts rfl (sE rfl sl42)<|M rfl rfl<|Te<|Cb ?_
 have W : (List.replicate l (0 : Int)).length ≤ 9223372036854775807 := (OS.len q)
 obtain ⟨a, E, F⟩ := bS hm
 refine cS (fun e => fun a => fun m e' hp' => ∃ (f : Hp), [(1, pb p), (3, sv c a d), (9, iv (((List.replicate l (0 : Int)).length : Int))), (10, iv ((e : Int)))] = e' ∧ (p, Cl 32 [sv i g j]) :: (f ++ R) = hp' ∧ b.Le m ∧ OS 3 (OT.fr rI) m.w (sv c a d) a f ∧ a.length = l) E ⟨D, rfl, rfl, lr, q, List.length_replicate⟩ (.refl _) ?_ ?_
 rintro e a m _ _ X Y ⟨f, rfl, rfl, n, o, x⟩ y
 unfold mFleetOrder_L103 at y
 have hm := y
 refine Cr<|Ts rfl (lT rfl rfl (by omega))<|Te<|Cs<|c_cond_t rfl<|Ck<|Xn<|Cs<|Cb<|Cr ?_
 refine M rfl rfl<|As rfl rfl<|Te<|Cg<|M rfl rfl<|M rfl rfl<|M rfl rfl ?_
 obtain ⟨Z, G, hm⟩ := bS hm
 obtain ⟨H, z, A⟩ := iS G
 obtain ⟨aa, ab, ac, ad, ae, I, af, J, K, ag, ah⟩ := OS.get (sz := 1) rfl (by decide) o A
 obtain ⟨rfl, rfl⟩ := I
 refine Ts rfl (sI H rfl rfl z K J sl42)<|Do rfl (uP z (sz := 1) (a' := (e : Int)) rfl [_] R 0 1 [iv ((e : Int))] rfl o A rfl rfl rfl siz3 rfl (mc rfl mn) (fun cs hsj hh => by obtain ⟨rfl, rfl⟩ := hh; exact ⟨by first | decide | exact Nat.le_refl _, rfl, rfl⟩)) ?_
 rintro _ _ ⟨L, rfl, O⟩
 refine Tr 3 rfl (v' := .slice c (put a (e : Int) (e : Int)).length d) (by simp only [put_length])<|Tn<|Xm<|Xn<|Cg<|Ts rfl (sa rfl rfl (by omega))<|M rfl rfl<|Tn ?_
 obtain rfl := o1 hm
 exact xS ⟨L, rfl, rfl, (n), O, ((put_length _ _ _).trans x)⟩ (.refl _)
 rintro m _ _ ⟨f, rfl, rfl, n, o, x⟩
 have hm := F
 refine Cr<|Ts rfl (lF rfl rfl (by omega))<|Te<|Cs<|c_cond_f rfl<|Ce<|Xe<|Xe<|Xo<|Xn ?_
 refine Cr<|M rfl rfl<|Ts rfl (st_func _ _ rfl rfl) ?_
 obtain ⟨s, S, hm⟩ := bS hm
 refine t_out1 [_] [] f R rfl<|Tg _ rfl call51 rfl (cSlicesSortStableFunc _ _ g a p i j c d f (C.le n) o s S) ?_
 rintro _ ai _ T ⟨B, rfl, rfl, U, V⟩
 refine t_in1 [_] [] B R rfl<|Tr 3 rfl (v' := sv c s d) (by show Value.slice _ _ _ = Value.slice _ _ _; rw [V])<|Te<|Cr<|M rfl rfl<|As rfl rfl<|Te<|Ct ?_
 obtain rfl := o1 hm
 exact rM (rs := [.tmp 2]) (vs := [sv c s d]) ⟨rfl, trivial⟩ ⟨c, d, B, rfl, rfl, U⟩ (.cons _ (.refl _)) (n.trans T)

set_option maxRecDepth 20000 in
theorem cFleetFollows (b : Base) (R : Hp) (a : FleetTask) (c : FleetTask) (f : Int) (g : Bool) (hm : mFleetFollows a c f = some g) :
    CallsG Try.prog 38 [.agg #[iv a.From, iv a.To, iv a.Dep, iv a.Arr, iv a.Km, iv a.Units], .agg #[iv c.From, iv c.To, iv c.Dep, iv c.Arr, iv c.Km, iv c.Units], iv f] b (R) (fun v b' hp' => bv g = v ∧ R = hp') := by
 refine fE 21 Try.func38 rfl Try.ntmps38 rfl ?_
 unfold mFleetFollows at hm
 refine Cr<|Do rfl (uB _ rfl rfl) ?_
 rintro _ _ ⟨m, rfl, rfl⟩
 refine Do rfl (uB _ rfl rfl) ?_
 rintro _ _ ⟨n, rfl, rfl⟩
 refine As rfl rfl<|Te ?_
 obtain ⟨h, j, k⟩ := bS hm
 refine Cj (fun i e' hp' => [(6, bv h)] = e' ∧ R = hp' ∧ b.Le i) ?_ ?_
 have hm := j
 refine Cg<|Ts rfl (sF rfl fld39_0)<|Ts rfl (sL 0 rfl one3 rfl rfl)<|Ts rfl (sF rfl fld39_1)<|Ts rfl (sL 1 rfl one3 rfl rfl) ?_
 refine Tb rfl (q1 rfl rfl) (fun d => ?_) (fun d => ?_)
 rw [if_pos d] at hm
 refine M rfl rfl<|Ys 12 rfl rfl rfl<|Ts rfl (sF rfl fld39_2)<|Ys 12 rfl rfl rfl<|Ts rfl (sL 0 rfl one3 rfl rfl)<|Ys 12 rfl rfl rfl<|Ts rfl (sF rfl fld39_3)<|Ys 12 rfl rfl rfl<|Ts rfl (sL 1 rfl one3 rfl rfl)<|Ys 12 rfl rfl rfl ?_
 refine M rfl rfl<|Ys 12 rfl rfl rfl ?_
 obtain ⟨_, e, hm⟩ := bS hm
 have e := (kS e).2
 refine Ts rfl (sa rfl rfl e)<|Ys 12 rfl rfl rfl<|Ts rfl (q6 rfl rfl)<|Ts rfl (pT rfl rfl)<|As rfl rfl<|Tn ?_
 obtain rfl := o1 hm
 exact xJ ⟨rfl, rfl, lr⟩ (.cons _ (.cons _ (.refl _)))
 rw [if_neg d] at hm
 refine M rfl rfl<|No 12 rfl rfl rfl rfl rfl<|No 12 rfl rfl rfl rfl rfl<|No 12 rfl rfl rfl rfl rfl<|No 12 rfl rfl rfl rfl rfl<|No 12 rfl rfl rfl rfl rfl<|No 12 rfl rfl rfl rfl rfl<|No 12 rfl rfl rfl rfl rfl<|Ts rfl (pF rfl rfl)<|As rfl rfl ?_
 refine Tn ?_
 obtain rfl := o1 hm
 exact xJ ⟨rfl, rfl, lr⟩ (.cons _ (.cons _ (.refl _)))
 rintro i _ _ ⟨rfl, rfl, l⟩
 have hm := k
 refine Ct ?_
 obtain rfl := o1 hm
 exact rM (rs := [.tmp 6]) (vs := [bv h]) ⟨rfl, trivial⟩ ⟨rfl, rfl⟩ (.refl _) l

set_option maxRecDepth 20000 in
theorem cFleetTurns (b : Base) (R : Hp) (t : (List FleetTask)) (p : Int) (B : OA) (C : Nat) (q : FZ rFleetTask b.w B C t) (aO : Int) (an : (List (List Int))) (hm : mFleetTurns t p = some (aO, an)) :
    CallsG Try.prog 15 [sv B t C, iv p] b (R) (fun v b' hp' => ∃ (aP : OA), ∃ (aQ : Nat), ∃ (aR : Hp), .tuple #[sv aP an aQ, iv aO] = v ∧ (aR ++ R) = hp' ∧ OS 42 (OT.list 3 (OT.fr rI)) b'.w (sv aP an aQ) an aR) := by
 refine fE 113 Try.func15 rfl Try.ntmps15 rfl ?_
 unfold mFleetTurns at hm
 refine Cr<|As rfl rfl<|As rfl rfl<|Te<|Cs<|Cr<|M rfl rfl<|M rfl rfl ?_
 obtain ⟨aS, be, hm⟩ := bS hm
 refine Do rfl (uW _ call36 rfl (fun w ho => cFleetCheckTurn _ [] t p B C (q.old ho) aS be) (fun _ _ _ h => h.2.symm)) ?_
 rintro _ _ ⟨⟨_, rfl, _⟩, rfl⟩
 refine As rfl rfl<|Te<|Cr<|M rfl rfl<|Ts rfl (q2 rfl rfl)<|Te ?_
 refine Cc _ rfl (fun av => ?_) (fun av => ?_)
 rw [if_pos (of_decide_eq_true av)] at hm
 refine Cr<|M rfl rfl<|As rfl rfl<|As rfl rfl<|Te<|Ct<|Xr ?_
 obtain ⟨rfl, rfl⟩ := some2 hm
 exact rM (rs := [.tmp 4, .tmp 5]) (vs := [sn, iv aS]) ⟨rfl, ⟨rfl, trivial⟩⟩ ⟨none, 0, [], rfl, rfl, OS.nil⟩ (.refl _) lr
 rw [if_neg (of_decide_eq_false av)] at hm
 refine Ck<|Xn<|Cr<|As rfl rfl<|Te<|Cs<|Cr<|M rfl rfl ?_
 obtain ⟨l, bf, hm⟩ := bS hm
 refine Tg _ rfl call37 rfl (cFleetOrder _ _ t B C q l bf) ?_
 rintro _ bg _ x ⟨V, W, c, rfl, rfl, aT⟩
 refine t_in1 [] [] c R rfl<|Ts rfl (sE rfl sl42)<|M rfl rfl<|Te<|Cb ?_
 have c5 : l.length ≤ 9223372036854775807 := (OS.len aT)
 obtain ⟨L, bh, bi⟩ := bS hm
 refine cS (fun O => fun L => fun X e' hp' => ∃ (G : OA), ∃ (H : Nat), ∃ (y : Hp), [(0, sv B t C), (1, iv p), (7, sv G L H), (21, sv V l W), (22, iv ((l.length : Int))), (23, iv ((O : Int)))] = e' ∧ (y ++ (c ++ R)) = hp' ∧ bg.Le X ∧ OS 42 (OT.list 3 (OT.fr rI)) X.w (sv G L H) L y) bh ⟨none, 0, [], rfl, rfl, lr, OS.nil⟩ (.refl _) ?_ ?_
 rintro O L X _ _ c6 c7 ⟨G, H, y, rfl, rfl, k, aw⟩ aU
 unfold mFleetTurns_L12718 at aU
 have hm := aU
 refine Cr<|Ts rfl (lT rfl rfl (by omega))<|Te<|Cs<|c_cond_t rfl<|Ck<|Xn<|Cs<|Cb<|Cr ?_
 obtain ⟨m, bj, hm⟩ := bS hm
 obtain ⟨bk, bl, bm⟩ := iS bj
 obtain ⟨c8, c9, da, db, dc, bn, bo, bp, bq, dd, de⟩ := OS.get (sz := 1) rfl (by decide) (aT.le k) bm
 obtain ⟨rfl, rfl⟩ := bn
 refine Ts rfl (sI bk rfl rfl bl bq bp sl42)<|Ts rfl (st_load_rd rfl one3 (fun w ho => bo w _ ho (ss y (List.sublist_append_left _ _)) 0 _ rfl))<|As rfl rfl<|Te<|Cr<|M rfl rfl<|M rfl rfl ?_
 obtain ⟨ao, br, hm⟩ := bS hm
 obtain ⟨bs, bt, bu⟩ := iS br
 obtain ⟨df, bw, bx, aV, bz⟩ := FZ.get (sz := 6) rfl (by decide) (q.le (x.trans k)) bu
 obtain ⟨_, _, rfl, rfl, ⟨_, _, rfl, rfl, ⟨_, _, rfl, rfl, ⟨_, _, rfl, rfl, ⟨_, _, rfl, rfl, rfl⟩⟩⟩⟩⟩ := bw
 refine Ts rfl (sI bs rfl rfl bt bz aV sl32)<|Ts rfl (sQ rfl aV fld39_5)<|Ts rfl (sO rfl one3 (bx 5 _ rfl))<|M rfl rfl<|Te<|Cb ?_
 obtain ⟨_, aW, hm⟩ := bS hm
 have aW := (kS aW).2
 refine c_front2 [] y c R rfl<|c_front2 [] c y R rfl ?_
 obtain ⟨n, bA, bB⟩ := bS hm
 refine cS (fun Y => fun n => fun Z e' hp' => ∃ (z : OA), ∃ (A : Nat), ∃ (d : Hp), [(0, sv B t C), (1, iv p), (7, sv z n A), (9, iv m), (21, sv V l W), (22, iv ((l.length : Int))), (23, iv ((O : Int))), (31, iv ao.Units), (32, iv ((Y : Int)))] = e' ∧ (d ++ (c ++ R)) = hp' ∧ X.Le Z ∧ OS 42 (OT.list 3 (OT.fr rI)) Z.w (sv z n A) n d) bA ⟨G, H, y, rfl, rfl, lr, aw⟩ (.refl _) ?_ ?_
 rintro Y n Z _ _ dg dh ⟨z, A, d, rfl, rfl, s, D⟩ aX
 unfold mFleetTurns_L21113 at aX
 have hm := aX
 refine Cr<|Ts rfl (lT rfl rfl (by omega))<|Te<|Cs<|c_cond_t rfl<|Ck<|Xn<|Cs<|Cb<|Cr ?_
 refine As rfl rfl<|Te<|Cs<|Cr<|M rfl rfl<|Ts rfl (sE rfl sl23)<|M rfl rfl<|Te<|Cb ?_
 have di : n.length ≤ 9223372036854775807 := (OS.len D)
 refine c_front2 [] d c R rfl<|c_front2 [] c d R rfl ?_
 obtain ⟨aa, bC, bD⟩ := bS hm
 refine cS (fun aq => fun aa => fun I e' hp' => [(0, sv B t C), (1, iv p), (7, sv z n A), (9, iv m), (10, iv aa), (21, sv V l W), (22, iv ((l.length : Int))), (23, iv ((O : Int))), (31, iv ao.Units), (32, iv ((Y : Int))), (34, sv z n A), (35, iv ((n.length : Int))), (36, iv ((aq : Int)))] = e' ∧ (d ++ (c ++ R)) = hp' ∧ Z.Le I) bC ⟨rfl, rfl, lr⟩ (.refl _) ?_ ?_
 rintro aq aa I _ _ dj dk ⟨rfl, rfl, g⟩ aY
 unfold mFleetTurns_L23978 at aY
 have hm := aY
 refine Cr<|Ts rfl (lT rfl rfl (by omega))<|Te<|Cs<|c_cond_t rfl<|Ck<|Xn<|Cs<|Cb<|Cr ?_
 refine M rfl rfl ?_
 obtain ⟨dl, bE, hm⟩ := bS hm
 obtain ⟨bF, bG, bH⟩ := iS bE
 obtain ⟨dm, bI, dn, dp, bJ, bK, bL, bM, bN, dq, dr⟩ := OS.get (sz := 1) rfl (by decide) (D.le g) bH
 obtain ⟨ds, rfl, aZ⟩ := bK
 obtain ⟨dt, du, rfl, _⟩ := aZ.form
 refine Ts rfl (sI bF rfl rfl bG bN bM sl23)<|Ts rfl (st_load_rd rfl one42 (fun w ho => bL w _ ho (List.sublist_append_left _ _) 0 _ rfl))<|As rfl rfl<|As rfl rfl<|Te<|Cr<|M rfl rfl<|M rfl rfl<|Ts rfl (sE rfl sl42) ?_
 obtain ⟨_, ax, hm⟩ := bS hm
 have ax := (kS ax).2
 refine Ts rfl (sb rfl rfl ax) ?_
 obtain ⟨bO, bP, hm⟩ := bS hm
 obtain ⟨bQ, bR, bT⟩ := iS bP
 obtain ⟨dv, dw, dx, dy, dz, bU, bV, bW, bX, dA, _⟩ := OS.get (sz := 1) rfl (by decide) aZ bT
 obtain ⟨rfl, rfl⟩ := bU
 have bY := fun (w : World) (hp : Hp) (ho : Own I hp w) (hh : d.Sublist hp) => bV w hp ho ((show bI.Sublist d by rw [bJ]; exact ss _ (List.sublist_append_left _ _)).trans hh)
 refine Ts rfl (sI bQ rfl rfl bR bX bW sl42)<|Ts rfl (st_load_rd rfl one3 (fun w ho => bY w _ ho (List.sublist_append_left _ _) 0 _ rfl))<|As rfl rfl<|Te ?_
 obtain ⟨bZ, b0, b1⟩ := bS hm
 refine Cj (fun a0 e' hp' => [(0, sv B t C), (1, iv p), (7, sv z n A), (9, iv m), (10, iv aa), (11, iv ((aq : Int))), (21, sv V l W), (22, iv ((l.length : Int))), (23, iv ((O : Int))), (31, iv ao.Units), (32, iv ((Y : Int))), (34, sv z n A), (35, iv ((n.length : Int))), (36, iv ((aq : Int))), (89, bv bZ)] = e' ∧ (d ++ (c ++ R)) = hp' ∧ I.Le a0) ?_ ?_
 have hm := b0
 by_cases S : bO ≠ m
 rw [if_pos S] at hm
 obtain ⟨e, ay, hm⟩ := bS hm
 obtain ⟨f, az, hm⟩ := bS hm
 obtain ⟨ar, aA, hm⟩ := bS hm
 rcases Bool.eq_false_or_eq_true ar with T | T
 rw [if_pos T] at hm
 by_cases au : aa < 0
 rw [if_pos au] at hm
 refine Di mixed (.refl _)<|E0 0 rfl (sM rfl)<|E0 1 rfl (sM rfl)<|E0 2 rfl (st_neq_t rfl rfl S)<|E0 3 rfl (sM rfl)<|Yz 4 50 rfl (sM rfl)<|Yz 5 50 rfl (sM rfl) ?_
 obtain ⟨ab, ac, ad⟩ := iS ay
 obtain ⟨a1, ae, af, E, ag⟩ := FZ.get (sz := 6) rfl (by decide) (q.le (x.trans (k.trans (s.trans g)))) ad
 obtain ⟨_, _, rfl, rfl, ⟨_, _, rfl, rfl, ⟨_, _, rfl, rfl, ⟨_, _, rfl, rfl, ⟨_, _, rfl, rfl, rfl⟩⟩⟩⟩⟩ := ae
 refine Yz 6 50 rfl (sI ab rfl rfl ac ag E sl32)<|Ey 7 50 rfl (sP (vs := [iv e.From, iv e.To, iv e.Dep, iv e.Arr, iv e.Km, iv e.Units]) 6 rfl agg39 E rfl (fun j u hu => af j u hu))<|Yz 8 50 rfl (sM rfl)<|Yz 9 50 rfl (sM rfl) ?_
 obtain ⟨ah, ai, aj⟩ := iS az
 obtain ⟨a2, ak, al, F, am⟩ := FZ.get (sz := 6) rfl (by decide) (q.le (x.trans (k.trans (s.trans g)))) aj
 obtain ⟨_, _, rfl, rfl, ⟨_, _, rfl, rfl, ⟨_, _, rfl, rfl, ⟨_, _, rfl, rfl, ⟨_, _, rfl, rfl, rfl⟩⟩⟩⟩⟩ := ak
 refine Yz 10 50 rfl (sI ah rfl rfl ai am F sl32)<|Ey 11 50 rfl (sP (vs := [iv f.From, iv f.To, iv f.Dep, iv f.Arr, iv f.Km, iv f.Units]) 6 rfl agg39 F rfl (fun j u hu => al j u hu))<|Yz 12 50 rfl (sM rfl)<|Eo<|Da [13] (by kernel_rfl) rfl ?_
 refine R_doY lr rfl rfl 50 rfl rfl rfl (uW _ call38 rfl (fun w ho => cFleetFollows _ [] e f p ar aA) (fun _ _ _ h => h.2.symm)) ?_ ?_
 rintro _ _ ⟨⟨_, rfl, _⟩, rfl⟩
 refine ⟨.inr (.refl _), ?_⟩
 refine d_resp 60 rfl (v' := .bool true) (by rw [T])<|Ei lr (.refl _)<|E0 14 rfl (pT rfl rfl)<|E0 15 rfl (sM rfl)<|Yz 16 62 rfl (sM rfl)<|Yz 17 62 rfl (lT rfl rfl au)<|Yz 18 62 rfl (sM rfl)<|En 19 65 rfl rfl rfl<|En 20 65 rfl rfl rfl<|En 21 65 rfl rfl rfl ?_
 refine En 22 65 rfl rfl rfl<|En 23 65 rfl rfl rfl<|En 24 65 rfl rfl rfl<|En 25 65 rfl rfl rfl<|En 26 65 rfl rfl rfl<|En 27 65 rfl rfl rfl<|En 28 65 rfl rfl rfl<|En 29 65 rfl rfl rfl<|En 30 65 rfl rfl rfl<|En 31 65 rfl rfl rfl ?_
 refine En 32 65 rfl rfl rfl<|En 33 65 rfl rfl rfl<|En 34 65 rfl rfl rfl<|En 35 65 rfl rfl rfl<|En 36 65 rfl rfl rfl<|En 37 65 rfl rfl rfl<|En 38 65 rfl rfl rfl<|En 39 65 rfl rfl rfl<|En 40 65 rfl rfl rfl<|Yz 41 62 rfl (pT rfl rfl) ?_
 refine E0 42 rfl (pT rfl rfl)<|Eo<|Dd (by kernel_rfl) ?_
 obtain rfl := o1 hm
 refine X2 [] d c R rfl<|X2 [] c d R rfl ?_
 exact xJ ⟨rfl, rfl, lr⟩ (.refl _)
 exact Rn
 rw [if_neg au] at hm
 obtain ⟨dB, b2, hm⟩ := bS hm
 obtain ⟨dC, b3, hm⟩ := bS hm
 obtain ⟨dD, b4, hm⟩ := bS hm
 obtain ⟨_, aB, hm⟩ := bS hm
 obtain ⟨dE, b5, hm⟩ := bS hm
 obtain ⟨dF, b6, hm⟩ := bS hm
 refine Di mixed (.refl _)<|E0 0 rfl (sM rfl)<|E0 1 rfl (sM rfl)<|E0 2 rfl (st_neq_t rfl rfl S)<|E0 3 rfl (sM rfl)<|Yz 4 50 rfl (sM rfl)<|Yz 5 50 rfl (sM rfl) ?_
 obtain ⟨ab, ac, ad⟩ := iS ay
 obtain ⟨a1, ae, af, E, ag⟩ := FZ.get (sz := 6) rfl (by decide) (q.le (x.trans (k.trans (s.trans g)))) ad
 obtain ⟨_, _, rfl, rfl, ⟨_, _, rfl, rfl, ⟨_, _, rfl, rfl, ⟨_, _, rfl, rfl, ⟨_, _, rfl, rfl, rfl⟩⟩⟩⟩⟩ := ae
 refine Yz 6 50 rfl (sI ab rfl rfl ac ag E sl32)<|Ey 7 50 rfl (sP (vs := [iv e.From, iv e.To, iv e.Dep, iv e.Arr, iv e.Km, iv e.Units]) 6 rfl agg39 E rfl (fun j u hu => af j u hu))<|Yz 8 50 rfl (sM rfl)<|Yz 9 50 rfl (sM rfl) ?_
 obtain ⟨ah, ai, aj⟩ := iS az
 obtain ⟨a2, ak, al, F, am⟩ := FZ.get (sz := 6) rfl (by decide) (q.le (x.trans (k.trans (s.trans g)))) aj
 obtain ⟨_, _, rfl, rfl, ⟨_, _, rfl, rfl, ⟨_, _, rfl, rfl, ⟨_, _, rfl, rfl, ⟨_, _, rfl, rfl, rfl⟩⟩⟩⟩⟩ := ak
 refine Yz 10 50 rfl (sI ah rfl rfl ai am F sl32)<|Ey 11 50 rfl (sP (vs := [iv f.From, iv f.To, iv f.Dep, iv f.Arr, iv f.Km, iv f.Units]) 6 rfl agg39 F rfl (fun j u hu => al j u hu))<|Yz 12 50 rfl (sM rfl)<|Eo<|Da [13] (by kernel_rfl) rfl ?_
 refine R_doY lr rfl rfl 50 rfl rfl rfl (uW _ call38 rfl (fun w ho => cFleetFollows _ [] e f p ar aA) (fun _ _ _ h => h.2.symm)) ?_ ?_
 rintro _ _ ⟨⟨_, rfl, _⟩, rfl⟩
 refine ⟨.inr (.refl _), ?_⟩
 refine d_resp 60 rfl (v' := .bool true) (by rw [T])<|Ei lr (.refl _)<|E0 14 rfl (pT rfl rfl)<|E0 15 rfl (sM rfl)<|Yz 16 62 rfl (sM rfl)<|Yz 17 62 rfl (lF rfl rfl au)<|Yz 18 62 rfl (sM rfl)<|Yz 19 65 rfl (sM rfl)<|Yz 20 65 rfl (sM rfl) ?_
 obtain ⟨b7, b8, b9⟩ := iS b2
 obtain ⟨dG, ca, cb, a3, cc⟩ := FZ.get (sz := 6) rfl (by decide) (q.le (x.trans (k.trans (s.trans g)))) b9
 obtain ⟨_, _, rfl, rfl, ⟨_, _, rfl, rfl, ⟨_, _, rfl, rfl, ⟨_, _, rfl, rfl, ⟨_, _, rfl, rfl, rfl⟩⟩⟩⟩⟩ := ca
 refine Yz 21 65 rfl (sI b7 rfl rfl b8 cc a3 sl32)<|Yz 22 65 rfl (sQ rfl a3 fld39_3)<|Ey 23 65 rfl (sO rfl one3 (cb 3 _ rfl))<|Yz 24 65 rfl (sM rfl)<|Yz 25 65 rfl (sM rfl)<|Yz 26 65 rfl (sM rfl) ?_
 obtain ⟨cd, ce, cf⟩ := iS b3
 obtain ⟨dH, cg, dI, dJ, ch, ci, cj, ck, cl, dK, dL⟩ := OS.get (sz := 1) rfl (by decide) (D.le g) cf
 obtain ⟨dM, rfl, a4⟩ := ci
 obtain ⟨dN, dO, rfl, _⟩ := a4.form
 refine Yz 27 65 rfl (sI cd rfl rfl ce cl ck sl23)<|Ey 28 65 rfl (st_load_rd rfl one42 (fun w ho => cj w _ ho (List.sublist_append_left _ _) 0 _ rfl))<|Yz 29 65 rfl (sM rfl)<|Yz 30 65 rfl (sM rfl) ?_
 obtain ⟨cm, cn, co⟩ := iS b4
 obtain ⟨dP, dQ, dR, dS, dT, cp, cq, cr, cs, dU, dV⟩ := OS.get (sz := 1) rfl (by decide) (D.le g) co
 obtain ⟨dW, rfl, ct⟩ := cp
 obtain ⟨dX, dY, rfl, _⟩ := ct.form
 refine Yz 31 65 rfl (sI cm rfl rfl cn cs cr sl23)<|Ey 32 65 rfl (st_load_rd rfl one42 (fun w ho => cq w _ ho (List.sublist_append_left _ _) 0 _ rfl))<|Yz 33 65 rfl (sE rfl sl42) ?_
 have aB := (kS aB).2
 refine Yz 34 65 rfl (sb rfl rfl aB) ?_
 obtain ⟨cu, cv, cw⟩ := iS b5
 obtain ⟨dZ, d0, d1, d5, d6, cx, cy, cz, cA, d7, _⟩ := OS.get (sz := 1) rfl (by decide) a4 cw
 obtain ⟨rfl, rfl⟩ := cx
 have cB := fun (w : World) (hp : Hp) (ho : Own I hp w) (hh : d.Sublist hp) => cy w hp ho ((show cg.Sublist d by rw [ch]; exact ss _ (List.sublist_append_left _ _)).trans hh)
 refine Yz 35 65 rfl (sI cu rfl rfl cv cA cz sl42)<|Ey 36 65 rfl (st_load_rd rfl one3 (fun w ho => cB w _ ho (List.sublist_append_left _ _) 0 _ rfl)) ?_
 obtain ⟨cC, cD, cE⟩ := iS b6
 obtain ⟨d8, cG, cH, a5, cI⟩ := FZ.get (sz := 6) rfl (by decide) (q.le (x.trans (k.trans (s.trans g)))) cE
 obtain ⟨_, _, rfl, rfl, ⟨_, _, rfl, rfl, ⟨_, _, rfl, rfl, ⟨_, _, rfl, rfl, ⟨_, _, rfl, rfl, rfl⟩⟩⟩⟩⟩ := cG
 refine Yz 37 65 rfl (sI cC rfl rfl cD cI a5 sl32)<|Yz 38 65 rfl (sQ rfl a5 fld39_3)<|Ey 39 65 rfl (sO rfl one3 (cH 3 _ rfl))<|Yz 40 65 rfl (q3 rfl rfl)<|Yz 41 62 rfl (pF rfl rfl)<|E0 42 rfl (pT rfl rfl)<|Eo<|Dd (by kernel_rfl) ?_
 obtain rfl := o1 hm
 refine X2 [] d c R rfl<|X2 [] c d R rfl ?_
 exact xJ ⟨rfl, rfl, lr⟩ (.refl _)
 exact Rn
 rw [if_neg (fun hh => Bool.noConfusion (hh.symm.trans T))] at hm
 refine Di mixed (.refl _)<|E0 0 rfl (sM rfl)<|E0 1 rfl (sM rfl)<|E0 2 rfl (st_neq_t rfl rfl S)<|E0 3 rfl (sM rfl)<|Yz 4 50 rfl (sM rfl)<|Yz 5 50 rfl (sM rfl) ?_
 obtain ⟨ab, ac, ad⟩ := iS ay
 obtain ⟨a1, ae, af, E, ag⟩ := FZ.get (sz := 6) rfl (by decide) (q.le (x.trans (k.trans (s.trans g)))) ad
 obtain ⟨_, _, rfl, rfl, ⟨_, _, rfl, rfl, ⟨_, _, rfl, rfl, ⟨_, _, rfl, rfl, ⟨_, _, rfl, rfl, rfl⟩⟩⟩⟩⟩ := ae
 refine Yz 6 50 rfl (sI ab rfl rfl ac ag E sl32)<|Ey 7 50 rfl (sP (vs := [iv e.From, iv e.To, iv e.Dep, iv e.Arr, iv e.Km, iv e.Units]) 6 rfl agg39 E rfl (fun j u hu => af j u hu))<|Yz 8 50 rfl (sM rfl)<|Yz 9 50 rfl (sM rfl) ?_
 obtain ⟨ah, ai, aj⟩ := iS az
 obtain ⟨a2, ak, al, F, am⟩ := FZ.get (sz := 6) rfl (by decide) (q.le (x.trans (k.trans (s.trans g)))) aj
 obtain ⟨_, _, rfl, rfl, ⟨_, _, rfl, rfl, ⟨_, _, rfl, rfl, ⟨_, _, rfl, rfl, ⟨_, _, rfl, rfl, rfl⟩⟩⟩⟩⟩ := ak
 refine Yz 10 50 rfl (sI ah rfl rfl ai am F sl32)<|Ey 11 50 rfl (sP (vs := [iv f.From, iv f.To, iv f.Dep, iv f.Arr, iv f.Km, iv f.Units]) 6 rfl agg39 F rfl (fun j u hu => al j u hu))<|Yz 12 50 rfl (sM rfl)<|Eo<|Da [13] (by kernel_rfl) rfl ?_
 refine R_doY lr rfl rfl 50 rfl rfl rfl (uW _ call38 rfl (fun w ho => cFleetFollows _ [] e f p ar aA) (fun _ _ _ h => h.2.symm)) ?_ ?_
 rintro _ _ ⟨⟨_, rfl, _⟩, rfl⟩
 refine ⟨.inr (.refl _), ?_⟩
 refine d_resp 60 rfl (v' := .bool false) (by rw [T])<|Ei lr (.refl _)<|E0 14 rfl (pT rfl rfl)<|E0 15 rfl (sM rfl)<|En 16 62 rfl rfl rfl<|En 17 62 rfl rfl rfl<|En 18 62 rfl rfl rfl<|En 19 65 rfl rfl rfl<|En 20 65 rfl rfl rfl<|En 21 65 rfl rfl rfl ?_
 refine En 22 65 rfl rfl rfl<|En 23 65 rfl rfl rfl<|En 24 65 rfl rfl rfl<|En 25 65 rfl rfl rfl<|En 26 65 rfl rfl rfl<|En 27 65 rfl rfl rfl<|En 28 65 rfl rfl rfl<|En 29 65 rfl rfl rfl<|En 30 65 rfl rfl rfl<|En 31 65 rfl rfl rfl ?_
 refine En 32 65 rfl rfl rfl<|En 33 65 rfl rfl rfl<|En 34 65 rfl rfl rfl<|En 35 65 rfl rfl rfl<|En 36 65 rfl rfl rfl<|En 37 65 rfl rfl rfl<|En 38 65 rfl rfl rfl<|En 39 65 rfl rfl rfl<|En 40 65 rfl rfl rfl<|En 41 62 rfl rfl rfl ?_
 refine E0 42 rfl (pF rfl rfl)<|Eo<|Dd (by kernel_rfl) ?_
 obtain rfl := o1 hm
 refine X2 [] d c R rfl<|X2 [] c d R rfl ?_
 exact xJ ⟨rfl, rfl, lr⟩ (.refl _)
 exact Rn
 rw [if_neg S] at hm
 refine Di mixed (.refl _)<|E0 0 rfl (sM rfl)<|E0 1 rfl (sM rfl)<|E0 2 rfl (st_neq_f rfl rfl S)<|E0 3 rfl (sM rfl)<|En 4 50 rfl rfl rfl<|En 5 50 rfl rfl rfl<|En 6 50 rfl rfl rfl<|En 7 50 rfl rfl rfl<|En 8 50 rfl rfl rfl ?_
 refine En 9 50 rfl rfl rfl<|En 10 50 rfl rfl rfl<|En 11 50 rfl rfl rfl<|En 12 50 rfl rfl rfl<|En 13 50 rfl rfl rfl<|E0 14 rfl (pF rfl rfl)<|E0 15 rfl (sM rfl)<|En 16 62 rfl rfl rfl<|En 17 62 rfl rfl rfl<|En 18 62 rfl rfl rfl ?_
 refine En 19 65 rfl rfl rfl<|En 20 65 rfl rfl rfl<|En 21 65 rfl rfl rfl<|En 22 65 rfl rfl rfl<|En 23 65 rfl rfl rfl<|En 24 65 rfl rfl rfl<|En 25 65 rfl rfl rfl<|En 26 65 rfl rfl rfl<|En 27 65 rfl rfl rfl<|En 28 65 rfl rfl rfl ?_
 refine En 29 65 rfl rfl rfl<|En 30 65 rfl rfl rfl<|En 31 65 rfl rfl rfl<|En 32 65 rfl rfl rfl<|En 33 65 rfl rfl rfl<|En 34 65 rfl rfl rfl<|En 35 65 rfl rfl rfl<|En 36 65 rfl rfl rfl<|En 37 65 rfl rfl rfl<|En 38 65 rfl rfl rfl ?_
 refine En 39 65 rfl rfl rfl<|En 40 65 rfl rfl rfl<|En 41 62 rfl rfl rfl<|E0 42 rfl (pF rfl rfl)<|Eo<|Dd (by kernel_rfl) ?_
 obtain rfl := o1 hm
 refine X2 [] d c R rfl<|X2 [] c d R rfl ?_
 exact xJ ⟨rfl, rfl, lr⟩ (.refl _)
 rintro a0 _ _ ⟨rfl, rfl, a6⟩
 have hm := b1
 refine Cc _ rfl (fun aC => ?_) (fun aC => ?_)
 rw [if_pos aC] at hm
 refine Cg<|M rfl rfl<|As rfl rfl<|Tn<|Xm<|Xn<|Cg<|Ts rfl (sa rfl rfl (by omega))<|M rfl rfl<|Tn ?_
 refine X2 [] d c R rfl<|X2 [] c d R rfl ?_
 obtain rfl := o1 hm
 exact xS ⟨rfl, rfl, ((g.trans a6))⟩ (.refl _)
 rw [if_neg (fun hh => Bool.noConfusion (hh.symm.trans aC))] at hm
 refine Ck<|Xm<|Xn<|Cg<|Ts rfl (sa rfl rfl (by omega))<|M rfl rfl<|Tn<|X2 [] d c R rfl<|X2 [] c d R rfl ?_
 obtain rfl := o1 hm
 exact xS ⟨rfl, rfl, ((g.trans a6))⟩ (.refl _)
 rintro I _ _ ⟨rfl, rfl, g⟩
 have hm := bD
 refine Cr<|Ts rfl (lF rfl rfl (by omega))<|Te<|Cs<|c_cond_f rfl<|Ce<|Xe<|Xe<|Xo<|Xn ?_
 obtain ⟨⟨a7, U⟩, cJ, cK⟩ := bS hm
 refine Cj (fun aD e' hp' => ∃ (J : OA), ∃ (K : Nat), ∃ (aE : Hp), [(0, sv B t C), (1, iv p), (7, sv J U K), (9, iv m), (10, iv a7), (21, sv V l W), (22, iv ((l.length : Int))), (23, iv ((O : Int))), (31, iv ao.Units), (32, iv ((Y : Int)))] = e' ∧ (aE ++ (c ++ R)) = hp' ∧ I.Le aD ∧ OS 42 (OT.list 3 (OT.fr rI)) aD.w (sv J U K) U aE) ?_ ?_
 have hm := cJ
 refine Cr<|M rfl rfl<|Ts rfl (q3 rfl rfl)<|Te ?_
 refine Cc _ rfl (fun aF => ?_) (fun aF => ?_)
 rw [if_pos (of_decide_eq_true aF)] at hm
 refine Cr<|M rfl rfl<|Do rfl (u_bslice (el := 42) [(0, sn)] [sn] rfl (fun _ => by kernel_rfl)) ?_
 rintro _ _ ⟨d9, rfl, rfl⟩
 obtain ⟨_, aG, hm⟩ := bS hm
 have aG := room_some aG
 refine Do rfl (u_appOO (o := (OT.list 3 (OT.fr rI))) (a := []) [_] [] (c ++ R) [sn] rfl (by decide) sl23 inf42 rfl rfl rfl (D.le g) rfl (fun w ho => Rd.own (i := 0) ho rfl) ⟨_, rfl, OS.nil⟩ aG) ?_
 rintro _ _ ⟨aH, rfl, a8⟩
 obtain ⟨cM, cN, rfl, _⟩ := a8.form
 refine As rfl rfl<|Te<|Cg<|M rfl rfl<|Ts rfl (sE rfl sl23) ?_
 obtain ⟨_, aI, hm⟩ := bS hm
 have aI := (kS aI).2
 refine Ts rfl (sb rfl rfl aI)<|As rfl rfl<|Tn ?_
 obtain ⟨rfl, rfl⟩ := some2 hm
 refine X2 [_] aH c R rfl<|X2 [_] c aH R rfl ?_
 exact xJ ⟨cM, cN, aH, rfl, rfl, lr, a8⟩ (.cons _ (.refl _))
 rw [if_neg (of_decide_eq_false aF)] at hm
 refine Ck ?_
 obtain ⟨rfl, rfl⟩ := some2 hm
 refine X2 [] d c R rfl<|X2 [] c d R rfl ?_
 exact xJ ⟨z, A, d, rfl, rfl, lr, (D.le g)⟩ (.refl _)
 rintro aD _ _ ⟨J, K, aE, rfl, rfl, cO, cP⟩
 have hm := (unc2E cK)
 refine Cg<|M rfl rfl<|M rfl rfl<|M rfl rfl<|M rfl rfl ?_
 obtain ⟨aJ, cQ, hm⟩ := bS hm
 obtain ⟨aK, aL, cR⟩ := iS cQ
 obtain ⟨ea, eb, cT, cU, cV, cW, cX, a9, ba, ec, cY⟩ := OS.get (sz := 1) rfl (by decide) cP cR
 obtain ⟨ed, rfl, bb⟩ := cW
 obtain ⟨ee, ef, rfl, _⟩ := bb.form
 refine Ts rfl (sI aK rfl rfl aL ba a9 sl23)<|Ts rfl (st_load_rd rfl one42 (fun w ho => cX w _ ho (List.sublist_append_left _ _) 0 _ rfl))<|M rfl rfl<|Do rfl (u_bslice (el := 3) [(0, iv m)] [iv m] rfl (fun _ => by kernel_rfl)) ?_
 rintro _ _ ⟨eg, rfl, rfl⟩
 obtain ⟨_, aM, hm⟩ := bS hm
 have aM := room_some aM
 refine Do rfl (u_appIn (r := rI) [_] (c ++ R) [[iv m]] [m] rfl (by decide) sl42 inf3 rfl rfl rfl rfl cV bb rfl (fun w ho => Rd.own (i := 0) ho rfl) ⟨rfl, trivial⟩ aM) ?_
 rintro _ _ ⟨bc, rfl, bd⟩
 obtain ⟨cZ, c0, rfl, _⟩ := bd.form
 refine Tr 7 rfl (v' := sv J U K) (by show Value.slice _ _ _ = Value.slice _ _ _; simp only [put_length])<|Tr 100 rfl (v' := sv J U K) (by show Value.slice _ _ _ = Value.slice _ _ _; simp only [put_length]) ?_
 obtain ⟨eh, c1, hm⟩ := bS hm
 obtain ⟨c3, ei, ej⟩ := iS c1
 obtain rfl : aK = c3 := by omega
 refine Ts rfl (sI aK rfl rfl aL ba a9 sl23)<|t_front2 [_] bc (cT ++ cU) (c ++ R) rfl<|Do rfl (u_putHole aL (sz := 1) (a' := aJ ++ [m]) rfl [_] bc (c ++ R) 1 [.slice cZ (aJ ++ [m]).length c0] rfl (cY _ lr) rfl rfl rfl siz42 rfl (by decide) ⟨_, rfl, bd⟩) ?_
 rintro _ _ ⟨aN, rfl, c4⟩
 refine Tr 7 rfl (v' := .slice J (put U a7 (aJ ++ [m])).length K) (by simp only [put_length])<|Tn<|Xm<|Xn<|Cg<|Ts rfl (sa rfl rfl (by omega))<|M rfl rfl<|Tn<|X2 [_] aN c R rfl<|X2 [_] c aN R rfl ?_
 obtain rfl := o1 hm
 exact xS ⟨J, K, aN, rfl, rfl, ((s.trans (g.trans cO))), c4⟩ (.cons _ (.refl _))
 rintro Z _ _ ⟨z, A, d, rfl, rfl, s, D⟩
 have hm := bB
 refine Cr<|Ts rfl (lF rfl rfl (by omega))<|Te<|Cs<|c_cond_f rfl<|Ce<|Xe<|Xe<|Xo<|Xm ?_
 refine Xn<|Cg<|Ts rfl (sa rfl rfl (by omega))<|M rfl rfl<|Tn<|X2 [] d c R rfl<|X2 [] c d R rfl ?_
 obtain rfl := o1 hm
 exact xS ⟨z, A, d, rfl, rfl, ((k.trans s)), D⟩ (.refl _)
 rintro X _ _ ⟨G, H, y, rfl, rfl, k, aw⟩
 have hm := bi
 refine Cr<|Ts rfl (lF rfl rfl (by omega))<|Te<|Cs<|c_cond_f rfl<|Ce<|Xe<|Xe<|Xo<|Xn ?_
 refine Cr<|M rfl rfl<|As rfl rfl<|As rfl rfl<|Te<|Ct ?_
 obtain ⟨rfl, rfl⟩ := some2 hm
 exact rM (rs := [.tmp 4, .tmp 5]) (vs := [sv G L H, iv 0]) ⟨rfl, ⟨rfl, trivial⟩⟩ ⟨G, H, y, rfl, rfl, aw⟩ (sp y (ss c (.refl _))) (x.trans k)

set_option maxRecDepth 20000 in
theorem cFishtopAwakeFleet (b : Base) (R : Hp) (c : Bool) (hm : mFishtopAwakeFleet = some c) :
    CallsG Try.prog 4 [] b (R) (fun v b' hp' => bv c = v ∧ R = hp') := by
 refine fE 11 Try.func4 rfl Try.ntmps4 rfl ?_
 unfold mFishtopAwakeFleet at hm
 refine Cr<|As rfl rfl<|Te<|Cr<|Ts rfl (sB (v := .agg #[iv 0, iv 0, iv 0, iv 0, iv 0, iv 0]) [] rfl (fun _ => by kernel_rfl))<|Do rfl (u_bslice (el := 39) [(0, .agg #[iv 0, iv 0, iv 0, iv 0, iv 0, iv 0])] [iv 0, iv 0, iv 0, iv 0, iv 0, iv 0] rfl (fun _ => by kernel_rfl)) ?_
 rintro _ _ ⟨a, rfl, rfl⟩
 refine t_seg 0 [] R rfl rfl ?_
 have i : OS 39 (OT.fr rFleetTask) b.w (.slice (some ⟨a, 0, none⟩) 1 1) [(⟨0, 0, 0, 0, 0, 0⟩ : FleetTask)] [(a, Cl 39 [iv 0, iv 0, iv 0, iv 0, iv 0, iv 0])] := OS.lit [[iv 0, iv 0, iv 0, iv 0, iv 0, iv 0]] rfl ⟨⟨[iv 0], _, rfl, rfl, ⟨[iv 0], _, rfl, rfl, ⟨[iv 0], _, rfl, rfl, ⟨[iv 0], _, rfl, rfl, ⟨[iv 0], _, rfl, rfl, rfl⟩⟩⟩⟩⟩, trivial⟩ rfl (by decide)
 have q : (((some ⟨a, 0, none⟩) : OA) = none ↔ [(⟨0, 0, 0, 0, 0, 0⟩ : FleetTask)] = []) := ⟨nofun, nofun⟩
 refine t_frz [] [(a, Cl 39 [iv 0, iv 0, iv 0, iv 0, iv 0, iv 0])] R rfl ?_
 intro r d j
 have k := OS.frz (l := [(⟨0, 0, 0, 0, 0, 0⟩ : FleetTask)]) i d.cells j
 obtain ⟨⟨e, f⟩, m, hm⟩ := bS hm
 have hm := (unc2E hm)
 refine Tg _ rfl call15 rfl (cFleetTurns _ _ [(⟨0, 0, 0, 0, 0, 0⟩ : FleetTask)] (-1) (some ⟨a, 0, none⟩) 1 k e f m) ?_
 rintro _ s _ n ⟨t, u, g, rfl, rfl, o⟩
 refine t_in1 [] [] g R rfl<|M rfl rfl<|Ts rfl (st_extract rfl rfl)<|Ts rfl (st_extract rfl rfl)<|t_frz [] g R rfl ?_
 intro w h p
 have x := OS.frz (l := f) o h.cells p
 refine As rfl rfl<|As rfl rfl<|Te<|Cr<|M rfl rfl<|Ts rfl (q2 rfl rfl)<|As rfl rfl<|Te<|Ct ?_
 obtain rfl := o1 hm
 exact rM (rs := [.tmp 0]) (vs := [.bool (decide (e ≠ 0))]) ⟨rfl, trivial⟩ ⟨rfl, rfl⟩ (.refl _) (d.trans (n.trans h))

set_option maxRecDepth 20000 in
theorem cFishref2NumbersIn (b : Base) (R : Hp) (d : ApiDay) (k : OA) (m : Nat) (y : OA) (z : Nat) (V : FZ rApiTrain b.w k m d.Trains) (h7 : FZ (RT.list rI) b.w y z d.Turns) (A : (List (List Int))) (hm : mFishref2NumbersIn d = some A) :
    CallsG Try.prog 39 [.agg #[sv k d.Trains m, sv y d.Turns z]] b (R) (fun v b' hp' => ∃ (W : OA), ∃ (X : Nat), ∃ (Y : Hp), sv W A X = v ∧ (Y ++ R) = hp' ∧ OS 42 (OT.fr (RT.list rI)) b'.w (sv W A X) A Y) := by
 refine fE 52 Try.func39 rfl Try.ntmps39 rfl ?_
 unfold mFishref2NumbersIn at hm
 refine Cr<|Do rfl (uB _ rfl rfl) ?_
 rintro _ _ ⟨B, rfl, rfl⟩
 refine As rfl rfl<|Te<|Cr<|As rfl rfl<|Te<|Cs<|Cr<|Ts rfl (sF rfl fld25_0)<|Ts rfl (sL 0 rfl one22 rfl rfl)<|Ts rfl (sE rfl sl22) ?_
 refine M rfl rfl<|Te<|Cb ?_
 have hb444 : d.Trains.length ≤ 9223372036854775807 := (FZ.bd V)
 obtain ⟨e, hl727, hk728⟩ := bS hm
 refine cS (fun G => fun e => fun q e' hp' => ∃ (C : OA), ∃ (D : Nat), ∃ (n : Hp), [(1, pb B), (3, sv C e D), (9, sv k d.Trains m), (10, iv ((d.Trains.length : Int))), (11, iv ((G : Int)))] = e' ∧ (B, Cl 25 [sv k d.Trains m, sv y d.Turns z]) :: (n ++ R) = hp' ∧ b.Le q ∧ OS 42 (OT.fr (RT.list rI)) q.w (sv C e D) e n) hl727 ⟨none, 0, [], rfl, rfl, lr, OS.nil⟩ (.refl _) ?_ ?_
 rintro G e q _ _ oL443 hknL443 ⟨C, D, n, rfl, rfl, s, H⟩ Z
 unfold mFishref2NumbersIn_L443 at Z
 have hm := Z
 refine Cr<|Ts rfl (lT rfl rfl (by omega))<|Te<|Cs<|c_cond_t rfl<|Ck<|Xn<|Cs<|Cb<|Cr ?_
 obtain ⟨c, h730, hm⟩ := bS hm
 obtain ⟨j731, hj732, hx733⟩ := iS h730
 obtain ⟨cs734, hr735, hcs736, aa, hlt738⟩ := FZ.get (sz := 4) rfl (by decide) (V.le s) hx733
 obtain ⟨_, _, rfl, rfl, ⟨_, _, rfl, rfl, ⟨_, _, rfl, ⟨I, J, rfl, ab⟩, ⟨ac, ad, rfl, h744⟩⟩⟩⟩ := hr735
 refine Ts rfl (sI j731 rfl rfl hj732 hlt738 aa sl22)<|Ts rfl (sP (vs := [iv c.No, iv c.Stock, sv I c.Stops J, sv ac c.Legs ad]) 4 rfl agg35 aa rfl (fun j u hu => hcs736 j u hu))<|Do rfl (uA [iv 0, iv 0, sn, sn] zero35 rfl) ?_
 rintro _ _ ⟨ae, rfl, rfl⟩
 refine Do rfl (uN (vs := [_, _, _, _]) 0 4 rfl rfl rfl siz35 rfl (mc rfl (mc rfl (mc rfl (mc rfl mn)))) rfl (by simp)) ?_
 rintro _ _ rfl
 refine Te<|Cr<|M rfl rfl<|Ts rfl (sF rfl fld35_0)<|Ts rfl (sL 0 rfl one3 rfl rfl)<|Ts rfl (sF rfl fld35_1)<|Ts rfl (sL 0 rfl one3 rfl rfl)<|Do rfl (u_bslice (el := 3) [(0, iv c.No), (1, iv c.Stock)] [iv c.No, iv c.Stock] rfl (fun _ => by kernel_rfl)) ?_
 rintro _ _ ⟨f, rfl, rfl⟩
 refine t_seg 0 [_, _] (n ++ R) rfl rfl ?_
 have h749 : OS 3 (OT.fr rI) q.w (.slice (some ⟨f, 0, none⟩) 2 2) [c.No, c.Stock] [(f, Cl 3 [iv c.No, iv c.Stock])] := OS.lit [[iv c.No], [iv c.Stock]] rfl ⟨rfl, ⟨rfl, trivial⟩⟩ rfl (by decide)
 refine Do rfl (u_bslice (el := 42) [(0, .slice (some ⟨f, 0, none⟩) ([c.No, c.Stock]).length 2)] [.slice (some ⟨f, 0, none⟩) ([c.No, c.Stock]).length 2] rfl (fun _ => by kernel_rfl)) ?_
 rintro _ _ ⟨g747, rfl, rfl⟩
 have hnz750 : (((some ⟨f, 0, none⟩) : OA) = none ↔ [c.No, c.Stock] = []) := ⟨nofun, nofun⟩
 refine t_frz [_, _, _] [(f, Cl 3 [iv c.No, iv c.Stock])] (n ++ R) rfl ?_
 intro b751 o hz753
 have h754 := OS.frz (l := [c.No, c.Stock]) h749 o.cells hz753
 obtain ⟨_, K, hm⟩ := bS hm
 have K := room_some K
 refine Do rfl (uQ (r := (RT.list rI)) (l := e) [_, _, _] R [[.slice (some ⟨f, 0, none⟩) ([c.No, c.Stock]).length 2]] [[c.No, c.Stock]] rfl (by decide) sl23 inf42 rfl rfl rfl rfl (H.le o) rfl (fun w ho => Rd.own (i := 0) ho rfl) ⟨(RT.list_mk h754), trivial⟩ K) ?_
 rintro _ _ ⟨hs756, rfl, af⟩
 obtain ⟨A758, c759, rfl, _⟩ := af.form
 refine As rfl rfl<|Te<|Cs<|Cr<|Ts rfl (sF rfl fld35_2)<|Ts rfl (sL 1 rfl one33 rfl rfl)<|Ts rfl (sE rfl sl33)<|M rfl rfl<|Te<|Cb ?_
 have hb761 : c.Stops.length ≤ 9223372036854775807 := (FZ.bd (ab.le o))
 refine Cp 1 rfl<|Cp 2 rfl ?_
 obtain ⟨g, hl827, hk828⟩ := bS hm
 refine cS (fun ag => fun g => fun t e' hp' => ∃ (E : OA), ∃ (F : Nat), ∃ (p : Hp), [(1, pb B), (3, sv E g F), (5, pb ae), (9, sv k d.Trains m), (10, iv ((d.Trains.length : Int))), (11, iv ((G : Int))), (24, sv I c.Stops J), (25, iv ((c.Stops.length : Int))), (26, iv ((ag : Int)))] = e' ∧ (B, Cl 25 [sv k d.Trains m, sv y d.Turns z]) :: (ae, Cl 35 [iv c.No, iv c.Stock, sv I c.Stops J, sv ac c.Legs ad]) :: (p ++ R) = hp' ∧ b751.Le t ∧ OS 42 (OT.fr (RT.list rI)) t.w (sv E g F) g p) hl827 ⟨A758, c759, hs756, rfl, rfl, lr, af⟩ (.cons_cons _ (.cons_cons _ (.cons _ (.refl _)))) ?_ ?_
 rintro ag g t _ _ oL760 hknL760 ⟨E, F, p, rfl, rfl, x, L⟩ ah
 unfold mFishref2NumbersIn_L760 at ah
 have hm := ah
 refine Cr<|Ts rfl (lT rfl rfl (by omega))<|Te<|Cs<|c_cond_t rfl<|Ck<|Xn<|Cs<|Cb<|Cr ?_
 obtain ⟨a, h830, hm⟩ := bS hm
 obtain ⟨j831, hj832, hx833⟩ := iS h830
 obtain ⟨cs834, hr835, hcs836, ai, hlt838⟩ := FZ.get (sz := 4) rfl (by decide) (ab.le (o.trans x)) hx833
 obtain ⟨_, _, rfl, rfl, ⟨_, _, rfl, rfl, ⟨_, _, rfl, rfl, rfl⟩⟩⟩ := hr835
 refine Ts rfl (sI j831 rfl rfl hj832 hlt838 ai sl33)<|Ts rfl (sP (vs := [iv a.Station, iv a.Track, iv a.Arr, iv a.Dep]) 4 rfl agg37 ai rfl (fun j u hu => hcs836 j u hu))<|Do rfl (uA [iv 0, iv 0, iv 0, iv 0] zero37 rfl) ?_
 rintro _ _ ⟨g839, rfl, rfl⟩
 refine Do rfl (uN (vs := [_, _, _, _]) 0 4 rfl rfl rfl siz37 rfl (mc rfl (mc rfl (mc rfl (mc rfl mn)))) rfl (by simp)) ?_
 rintro _ _ rfl
 refine Te<|Cg<|M rfl rfl<|Ts rfl (sF rfl fld37_0)<|Ts rfl (sL 0 rfl one3 rfl rfl)<|Ts rfl (sF rfl fld37_1)<|Ts rfl (sL 0 rfl one3 rfl rfl)<|Ts rfl (sF rfl fld37_2)<|Ts rfl (sL 0 rfl one3 rfl rfl)<|Ts rfl (sF rfl fld37_3) ?_
 refine Ts rfl (sL 0 rfl one3 rfl rfl)<|Do rfl (u_bslice (el := 3) [(0, iv a.Station), (1, iv a.Track), (2, iv a.Arr), (3, iv a.Dep)] [iv a.Station, iv a.Track, iv a.Arr, iv a.Dep] rfl (fun _ => by kernel_rfl)) ?_
 rintro _ _ ⟨h, rfl, rfl⟩
 refine t_seg 0 [_, _, _] (p ++ R) rfl rfl ?_
 have h843 : OS 3 (OT.fr rI) t.w (.slice (some ⟨h, 0, none⟩) 4 4) [a.Station, a.Track, a.Arr, a.Dep] [(h, Cl 3 [iv a.Station, iv a.Track, iv a.Arr, iv a.Dep])] := OS.lit [[iv a.Station], [iv a.Track], [iv a.Arr], [iv a.Dep]] rfl ⟨rfl, ⟨rfl, ⟨rfl, ⟨rfl, trivial⟩⟩⟩⟩ rfl (by decide)
 refine Do rfl (u_bslice (el := 42) [(0, .slice (some ⟨h, 0, none⟩) ([a.Station, a.Track, a.Arr, a.Dep]).length 4)] [.slice (some ⟨h, 0, none⟩) ([a.Station, a.Track, a.Arr, a.Dep]).length 4] rfl (fun _ => by kernel_rfl)) ?_
 rintro _ _ ⟨g841, rfl, rfl⟩
 have hnz844 : (((some ⟨h, 0, none⟩) : OA) = none ↔ [a.Station, a.Track, a.Arr, a.Dep] = []) := ⟨nofun, nofun⟩
 refine t_frz [_, _, _, _] [(h, Cl 3 [iv a.Station, iv a.Track, iv a.Arr, iv a.Dep])] (p ++ R) rfl ?_
 intro b845 O hz847
 have h848 := OS.frz (l := [a.Station, a.Track, a.Arr, a.Dep]) h843 O.cells hz847
 obtain ⟨_, S, hm⟩ := bS hm
 have S := room_some S
 refine Do rfl (uQ (r := (RT.list rI)) (l := g) [_, _, _, _] R [[.slice (some ⟨h, 0, none⟩) ([a.Station, a.Track, a.Arr, a.Dep]).length 4]] [[a.Station, a.Track, a.Arr, a.Dep]] rfl (by decide) sl23 inf42 rfl rfl rfl rfl (L.le O) rfl (fun w ho => Rd.own (i := 0) ho rfl) ⟨(RT.list_mk h848), trivial⟩ S) ?_
 rintro _ _ ⟨hs850, rfl, aj⟩
 obtain ⟨A852, c853, rfl, _⟩ := aj.form
 refine As rfl rfl<|Tn<|Xm<|Xn<|Cg<|Ts rfl (sa rfl rfl (by omega))<|M rfl rfl<|Tn<|Xp 3 rfl<|Xp 3 rfl ?_
 obtain rfl := o1 hm
 exact xS ⟨A852, c853, hs850, rfl, rfl, ((x.trans O)), aj⟩ (.cons_cons _ (.cons_cons _ (.cons _ (.cons _ (.refl _)))))
 rintro t _ _ ⟨E, F, p, rfl, rfl, x, L⟩
 have hm := hk828
 refine Cr<|Ts rfl (lF rfl rfl (by omega))<|Te<|Cs<|c_cond_f rfl<|Ce<|Xe<|Xe<|Xo<|Xn ?_
 refine Cg<|M rfl rfl<|Ts rfl (sF rfl fld35_3)<|Ts rfl (sL 1 rfl one23 rfl rfl) ?_
 obtain ⟨css854, h855, h856⟩ := rd_src (h744.le (o.trans x))
 obtain ⟨_, T, hm⟩ := bS hm
 have T := room_some T
 refine Do rfl (uQ (r := (RT.list rI)) (l := g) [_, _] R css854 c.Legs rfl (by decide) sl23 inf42 rfl rfl rfl rfl L rfl (fun w ho => h855.old ho) h856 T) ?_
 rintro _ _ ⟨hs858, rfl, ak⟩
 obtain ⟨A860, c861, rfl, _⟩ := ak.form
 refine As rfl rfl<|Tn<|Xm<|Xn<|Cg<|Ts rfl (sa rfl rfl (by omega))<|M rfl rfl<|Tn ?_
 obtain rfl := o1 hm
 exact xS ⟨A860, c861, hs858, rfl, rfl, ((s.trans (o.trans x))), ak⟩ (.cons_cons _ (.cons _ (.refl _)))
 rintro q _ _ ⟨C, D, n, rfl, rfl, s, H⟩
 have hm := hk728
 refine Cr<|Ts rfl (lF rfl rfl (by omega))<|Te<|Cs<|c_cond_f rfl<|Ce<|Xe<|Xe<|Xo<|Xn ?_
 refine Cr<|M rfl rfl<|Ts rfl (sF rfl fld25_1)<|Ts rfl (sL 0 rfl one23 rfl rfl) ?_
 obtain ⟨css862, h863, h864⟩ := rd_src (h7.le s)
 obtain ⟨_, U, hm⟩ := bS hm
 have U := room_some U
 refine Do rfl (uQ (r := (RT.list rI)) (l := e) [_] R css862 d.Turns rfl (by decide) sl23 inf42 rfl rfl rfl rfl H rfl (fun w ho => h863.old ho) h864 U) ?_
 rintro _ _ ⟨hs866, rfl, al⟩
 obtain ⟨am, an, rfl, _⟩ := al.form
 refine As rfl rfl<|Te<|Ct ?_
 obtain rfl := o1 hm
 exact rM (rs := [.tmp 2]) (vs := [.slice am (e ++ d.Turns).length an]) ⟨rfl, trivial⟩ ⟨am, an, hs866, rfl, rfl, al⟩ (.cons _ (.refl _)) s

set_option maxRecDepth 20000 in
theorem cFishref2Within (b : Base) (R : Hp) (c : Int) (d : Int) (e : Int) (f : Bool) (hm : mFishref2Within c d e = some f) :
    CallsG Try.prog 17 [iv c, iv d, iv e] b (R) (fun v b' hp' => bv f = v ∧ R = hp') := by
 refine fE 15 Try.func17 rfl Try.ntmps17 rfl ?_
 unfold mFishref2Within at hm
 refine Cr<|As rfl rfl<|Te ?_
 obtain ⟨g, i, j⟩ := bS hm
 refine Cj (fun h e' hp' => [(6, bv g)] = e' ∧ R = hp' ∧ b.Le h) ?_ ?_
 have hm := i
 refine Cg<|M rfl rfl<|M rfl rfl ?_
 refine Tb rfl (q6 rfl rfl) (fun a => ?_) (fun a => ?_)
 rw [if_pos a] at hm
 refine M rfl rfl<|Ys 10 rfl rfl rfl<|M rfl rfl<|Ys 10 rfl rfl rfl<|M rfl rfl<|Ys 10 rfl rfl rfl<|Ts rfl (q4 rfl rfl)<|Ts rfl (pT rfl rfl)<|As rfl rfl<|Tn ?_
 obtain rfl := o1 hm
 exact xJ ⟨rfl, rfl, lr⟩ (.refl _)
 rw [if_neg a] at hm
 refine M rfl rfl<|No 10 rfl rfl rfl rfl rfl<|No 10 rfl rfl rfl rfl rfl<|No 10 rfl rfl rfl rfl rfl<|Ts rfl (pF rfl rfl)<|As rfl rfl<|Tn ?_
 obtain rfl := o1 hm
 exact xJ ⟨rfl, rfl, lr⟩ (.refl _)
 rintro h _ _ ⟨rfl, rfl, k⟩
 have hm := j
 refine Ct ?_
 obtain rfl := o1 hm
 exact rM (rs := [.tmp 6]) (vs := [bv g]) ⟨rfl, trivial⟩ ⟨rfl, rfl⟩ (.refl _) k

set_option maxRecDepth 20000 in
theorem cFishref2TextFault (b : Base) (R : Hp) (a : ApiDay) (f : OA) (g : Nat) (k : OA) (l : Nat) (O : FZ rApiTrain b.w f g a.Trains) (S : FZ (RT.list rI) b.w k l a.Turns) (an : Int) (hm : mFishref2TextFault a = some an) :
    CallsG Try.prog 16 [.agg #[sv f a.Trains g, sv k a.Turns l]] b (R) (fun v b' hp' => iv an = v ∧ R = hp') := by
 refine fE 105 Try.func16 rfl Try.ntmps16 rfl ?_
 unfold mFishref2TextFault at hm
 refine Cr<|Do rfl (uB _ rfl rfl) ?_
 rintro _ _ ⟨i, rfl, rfl⟩
 refine As rfl rfl<|Te<|Cs ?_
 obtain ⟨aI, aJ, aK⟩ := bS hm
 refine Cj (fun T e' hp' => [(1, pb i), (24, bv aI)] = e' ∧ (i, Cl 25 [sv f a.Trains g, sv k a.Turns l]) :: R = hp' ∧ b.Le T) ?_ ?_
 have hm := aJ
 refine Cg<|Ts rfl (sF rfl fld25_0)<|Ts rfl (sL 0 rfl one22 rfl rfl)<|Ts rfl (sE rfl sl22) ?_
 refine Tb rfl (q5 rfl rfl) (fun U => ?_) (fun U => ?_)
 rw [if_pos U] at hm
 refine M rfl rfl<|No 19 rfl rfl rfl rfl rfl<|No 19 rfl rfl rfl rfl rfl<|No 19 rfl rfl rfl rfl rfl<|No 19 rfl rfl rfl rfl rfl<|Ts rfl (pT rfl rfl)<|Tn ?_
 obtain rfl := o1 hm
 exact xJ ⟨rfl, rfl, lr⟩ (.refl _)
 rw [if_neg U] at hm
 refine M rfl rfl<|Ys 19 rfl rfl rfl<|Ts rfl (sF rfl fld25_1)<|Ys 19 rfl rfl rfl<|Ts rfl (sL 0 rfl one23 rfl rfl)<|Ys 19 rfl rfl rfl<|Ts rfl (sE rfl sl23)<|Ys 19 rfl rfl rfl<|Ts rfl (q5 rfl rfl)<|Ts rfl (pF rfl rfl) ?_
 refine Tn ?_
 obtain rfl := o1 hm
 exact xJ ⟨rfl, rfl, lr⟩ (.refl _)
 rintro T _ _ ⟨rfl, rfl, d⟩
 have hm := aK
 refine Cc _ rfl (fun V => ?_) (fun V => ?_)
 rw [if_pos V] at hm
 refine Cr<|As rfl rfl<|Te<|Ct<|Xr ?_
 obtain rfl := o1 hm
 exact rM (rs := [.tmp 2]) (vs := [iv 4]) ⟨rfl, trivial⟩ ⟨rfl, rfl⟩ (.cons _ (.refl _)) d
 rw [if_neg (fun hh => Bool.noConfusion (hh.symm.trans V))] at hm
 refine Ck<|Xn<|Cs<|Cr<|Ts rfl (sF rfl fld25_0)<|Ts rfl (sL 0 rfl one22 rfl rfl)<|Ts rfl (sE rfl sl22)<|M rfl rfl<|Te<|Cb ?_
 have b9 : a.Trains.length ≤ 9223372036854775807 := (FZ.bd (O.le d))
 obtain ⟨ca, aL, m⟩ := bS hm
 refine cF (fun s => fun _ => fun t e' hp' => [(1, pb i), (26, sv f a.Trains g), (27, iv ((a.Trains.length : Int))), (28, iv ((s : Int)))] = e' ∧ (i, Cl 25 [sv f a.Trains g, sv k a.Turns l]) :: R = hp' ∧ T.Le t) aL ⟨rfl, rfl, lr⟩ (.refl _) ?_ ?_
 rintro s _ t _ _ cb cc ⟨rfl, rfl, e⟩ ao D
 unfold mFishref2TextFault_L410 at ao
 have hm := ao
 refine Cr<|Ts rfl (lT rfl rfl (by omega))<|Te<|Cs<|c_cond_t rfl<|Ck<|Xn<|Cs<|Cb<|Cr ?_
 obtain ⟨c, aM, hm⟩ := bS hm
 obtain ⟨aN, aO, aP⟩ := iS aM
 obtain ⟨cd, aQ, aR, aq, aS⟩ := FZ.get (sz := 4) rfl (by decide) (O.le (d.trans e)) aP
 obtain ⟨_, _, rfl, rfl, ⟨_, _, rfl, rfl, ⟨_, _, rfl, ⟨W, X, rfl, ce⟩, ⟨x, y, rfl, E⟩⟩⟩⟩ := aQ
 refine Ts rfl (sI aN rfl rfl aO aS aq sl22)<|Ts rfl (sP (vs := [iv c.No, iv c.Stock, sv W c.Stops X, sv x c.Legs y]) 4 rfl agg35 aq rfl (fun j u hu => aR j u hu))<|Do rfl (uA [iv 0, iv 0, sn, sn] zero35 rfl) ?_
 rintro _ _ ⟨F, rfl, rfl⟩
 refine Do rfl (uN (vs := [_, _, _, _]) 0 4 rfl rfl rfl siz35 rfl (mc rfl (mc rfl (mc rfl (mc rfl mn)))) rfl (by simp)) ?_
 rintro _ _ rfl
 refine Te<|Cs ?_
 obtain ⟨aT, aU, aV⟩ := bS hm
 refine Cj (fun Y e' hp' => [(1, pb i), (4, pb F), (26, sv f a.Trains g), (27, iv ((a.Trains.length : Int))), (28, iv ((s : Int))), (45, bv aT)] = e' ∧ (i, Cl 25 [sv f a.Trains g, sv k a.Turns l]) :: (F, Cl 35 [iv c.No, iv c.Stock, sv W c.Stops X, sv x c.Legs y]) :: R = hp' ∧ t.Le Y) ?_ ?_
 have hm := aU
 refine Cg<|Ts rfl (sF rfl fld35_2)<|Ts rfl (sL 0 rfl one33 rfl rfl)<|Ts rfl (sE rfl sl33) ?_
 refine Tb rfl (q1 rfl rfl) (fun Z => ?_) (fun Z => ?_)
 rw [if_pos Z] at hm
 refine M rfl rfl<|No 36 rfl rfl rfl rfl rfl<|No 36 rfl rfl rfl rfl rfl<|No 36 rfl rfl rfl rfl rfl<|No 36 rfl rfl rfl rfl rfl<|No 36 rfl rfl rfl rfl rfl<|No 36 rfl rfl rfl rfl rfl<|No 36 rfl rfl rfl rfl rfl<|No 36 rfl rfl rfl rfl rfl<|Ts rfl (pT rfl rfl) ?_
 refine Tn ?_
 obtain rfl := o1 hm
 refine Xp 1 rfl ?_
 exact xJ ⟨rfl, rfl, lr⟩ (.refl _)
 rw [if_neg Z] at hm
 refine M rfl rfl<|Ys 36 rfl rfl rfl<|Ts rfl (sF rfl fld35_3)<|Ys 36 rfl rfl rfl<|Ts rfl (sL 0 rfl one23 rfl rfl)<|Ys 36 rfl rfl rfl<|Ts rfl (sE rfl sl23)<|Ys 36 rfl rfl rfl<|Ts rfl (sF rfl fld35_2)<|Ys 36 rfl rfl rfl ?_
 refine Ts rfl (sL 0 rfl one33 rfl rfl)<|Ys 36 rfl rfl rfl<|Ts rfl (sE rfl sl33)<|Ys 36 rfl rfl rfl ?_
 obtain ⟨_, aa, hm⟩ := bS hm
 have aa := (kS aa).2
 refine Ts rfl (sb rfl rfl aa)<|Ys 36 rfl rfl rfl<|Ts rfl (q2 rfl rfl)<|Ts rfl (pF rfl rfl)<|Tn ?_
 obtain rfl := o1 hm
 refine Xp 1 rfl ?_
 exact xJ ⟨rfl, rfl, lr⟩ (.refl _)
 rintro Y _ _ ⟨rfl, rfl, n⟩
 have hm := aV
 refine Cc _ rfl (fun ab => ?_) (fun ab => ?_)
 rw [if_pos ab] at hm
 refine Cr<|As rfl rfl<|Te<|Ct<|Xr<|Xb<|Xr<|Xr<|Xb<|Xr ?_
 have aW := D _ (Option.some.inj hm).symm
 rw [aW] at m
 have hm := elimR m
 obtain rfl := o1 hm
 exact rM (rs := [.tmp 2]) (vs := [iv 1]) ⟨rfl, trivial⟩ ⟨rfl, rfl⟩ (.cons _ (.cons _ (.refl _))) (d.trans (e.trans n))
 rw [if_neg (fun hh => Bool.noConfusion (hh.symm.trans ab))] at hm
 refine Ck<|Xn<|Cs<|Cr<|Ts rfl (sF rfl fld35_3)<|Ts rfl (sL 1 rfl one23 rfl rfl)<|Ts rfl (sE rfl sl23)<|M rfl rfl<|Te<|Cb ?_
 have cf : c.Legs.length ≤ 9223372036854775807 := (FZ.bd (E.le n))
 refine Cp 1 rfl<|Cp 1 rfl ?_
 obtain ⟨cg, aX, G⟩ := bS hm
 refine cF (fun ar => fun _ => fun H e' hp' => [(1, pb i), (4, pb F), (26, sv f a.Trains g), (27, iv ((a.Trains.length : Int))), (28, iv ((s : Int))), (47, sv x c.Legs y), (48, iv ((c.Legs.length : Int))), (49, iv ((ar : Int)))] = e' ∧ (i, Cl 25 [sv f a.Trains g, sv k a.Turns l]) :: (F, Cl 35 [iv c.No, iv c.Stock, sv W c.Stops X, sv x c.Legs y]) :: R = hp' ∧ Y.Le H) aX ⟨rfl, rfl, lr⟩ (.refl _) ?_ ?_
 rintro ar _ H _ _ ch ci ⟨rfl, rfl, o⟩ au aY
 unfold mFishref2TextFault_L546 at au
 have hm := au
 refine Cr<|Ts rfl (lT rfl rfl (by omega))<|Te<|Cs<|c_cond_t rfl<|Ck<|Xn<|Cs<|Cb<|Cr ?_
 obtain ⟨cj, aZ, hm⟩ := bS hm
 obtain ⟨a0, a1, a2⟩ := iS aZ
 obtain ⟨ck, a3, a4, a5, a6⟩ := FZ.get (sz := 1) rfl (by decide) (E.le (n.trans o)) a2
 obtain ⟨cl, cm, rfl, cn⟩ := a3
 refine Ts rfl (sI a0 rfl rfl a1 a6 a5 sl23)<|Ts rfl (sO rfl one42 (a4 0 _ rfl))<|As rfl rfl<|Te<|Cr<|M rfl rfl<|Ts rfl (sE rfl sl42)<|Ts rfl (q1 rfl rfl)<|Te ?_
 refine Cc _ rfl (fun ac => ?_) (fun ac => ?_)
 rw [if_pos (of_decide_eq_true ac)] at hm
 refine Cr<|As rfl rfl<|Te<|Ct<|Xb<|Xr<|Xr<|Xb<|Xr<|Xb ?_
 refine Xr<|Xr<|Xb<|Xr ?_
 have a7 := aY _ (Option.some.inj hm).symm
 rw [a7] at G
 have hm := elimR G
 have a8 := D _ (Option.some.inj hm).symm
 rw [a8] at m
 have hm := elimR m
 obtain rfl := o1 hm
 exact rM (rs := [.tmp 2]) (vs := [iv 1]) ⟨rfl, trivial⟩ ⟨rfl, rfl⟩ (.cons _ (.cons _ (.refl _))) (d.trans (e.trans (n.trans o)))
 rw [if_neg (of_decide_eq_false ac)] at hm
 refine Ck<|Xm<|Xn<|Cg<|Ts rfl (sa rfl rfl (by omega))<|M rfl rfl<|Tn<|Xp 1 rfl<|Xp 1 rfl ?_
 exact xM hm ⟨rfl, rfl, (o)⟩ (.refl _)
 rintro _ H _ _ ⟨rfl, rfl, o⟩ a9
 rw [a9] at G
 have hm := elimL G
 refine Cr<|Ts rfl (lF rfl rfl (by omega))<|Te<|Cs<|c_cond_f rfl<|Ce<|Xe<|Xe<|Xo<|Xn ?_
 refine Cs<|Cr<|Ts rfl (sF rfl fld35_2)<|Ts rfl (sL 1 rfl one33 rfl rfl)<|Ts rfl (sE rfl sl33)<|Ts rfl (q5 rfl rfl)<|Te ?_
 refine Cc _ rfl (fun ad => ?_) (fun ad => ?_)
 rw [if_pos (of_decide_eq_true ad)] at hm
 refine Cr<|As rfl rfl<|Te<|Ct<|Xr<|Xb<|Xr<|Xr<|Xb<|Xr ?_
 have ba := D _ (Option.some.inj hm).symm
 rw [ba] at m
 have hm := elimR m
 obtain rfl := o1 hm
 exact rM (rs := [.tmp 2]) (vs := [iv 4]) ⟨rfl, trivial⟩ ⟨rfl, rfl⟩ (.cons _ (.cons _ (.refl _))) (d.trans (e.trans (n.trans o)))
 rw [if_neg (of_decide_eq_false ad)] at hm
 refine Ck<|Xn<|Cr<|Ts rfl (sF rfl fld35_3)<|Ts rfl (sL 1 rfl one23 rfl rfl)<|Ts rfl (sE rfl sl23)<|M rfl rfl<|Te<|Cb ?_
 have co : c.Legs.length ≤ 9223372036854775807 := (FZ.bd (E.le (n.trans o)))
 obtain ⟨cp, bb, I⟩ := bS hm
 refine cF (fun av => fun _ => fun ae e' hp' => [(1, pb i), (26, sv f a.Trains g), (27, iv ((a.Trains.length : Int))), (28, iv ((s : Int))), (62, sv x c.Legs y), (63, iv ((c.Legs.length : Int))), (64, iv ((av : Int)))] = e' ∧ (i, Cl 25 [sv f a.Trains g, sv k a.Turns l]) :: R = hp' ∧ H.Le ae) bb ⟨rfl, rfl, lr⟩ (.cons_cons _ (.cons _ (.refl _))) ?_ ?_
 rintro av _ ae _ _ cq cr ⟨rfl, rfl, z⟩ aw bc
 unfold mFishref2TextFault_L587 at aw
 have hm := aw
 refine Cr<|Ts rfl (lT rfl rfl (by omega))<|Te<|Cs<|c_cond_t rfl<|Ck<|Xn<|Cs<|Cb<|Cr ?_
 obtain ⟨cs, bd, hm⟩ := bS hm
 obtain ⟨be, bf, bg⟩ := iS bd
 obtain ⟨ct, bh, bi, bj, bk⟩ := FZ.get (sz := 1) rfl (by decide) (E.le (n.trans (o.trans z))) bg
 obtain ⟨cu, cv, rfl, cw⟩ := bh
 refine Ts rfl (sI be rfl rfl bf bk bj sl23)<|Ts rfl (sO rfl one42 (bi 0 _ rfl))<|As rfl rfl<|Te<|Cr<|M rfl rfl<|Ts rfl (sE rfl sl42)<|Ts rfl (q5 rfl rfl)<|Te ?_
 refine Cc _ rfl (fun af => ?_) (fun af => ?_)
 rw [if_pos (of_decide_eq_true af)] at hm
 refine Cr<|As rfl rfl<|Te<|Ct<|Xb<|Xr<|Xr<|Xb<|Xb<|Xr ?_
 refine Xr<|Xb<|Xr ?_
 have bl := bc _ (Option.some.inj hm).symm
 rw [bl] at I
 have hm := elimR I
 have bm := D _ (Option.some.inj hm).symm
 rw [bm] at m
 have hm := elimR m
 obtain rfl := o1 hm
 exact rM (rs := [.tmp 2]) (vs := [iv 4]) ⟨rfl, trivial⟩ ⟨rfl, rfl⟩ (.cons _ (.refl _)) (d.trans (e.trans (n.trans (o.trans z))))
 rw [if_neg (of_decide_eq_false af)] at hm
 refine Ck<|Xm<|Xn<|Cg<|Ts rfl (sa rfl rfl (by omega))<|M rfl rfl<|Tn ?_
 exact xM hm ⟨rfl, rfl, (z)⟩ (.refl _)
 rintro _ ae _ _ ⟨rfl, rfl, z⟩ bn
 rw [bn] at I
 have hm := elimL I
 refine Cr<|Ts rfl (lF rfl rfl (by omega))<|Te<|Cs<|c_cond_f rfl<|Ce<|Xe<|Xe<|Xo<|Xm ?_
 refine Xn<|Cg<|Ts rfl (sa rfl rfl (by omega))<|M rfl rfl<|Tn ?_
 exact xM hm ⟨rfl, rfl, ((e.trans (n.trans (o.trans z))))⟩ (.refl _)
 rintro _ t _ _ ⟨rfl, rfl, e⟩ bo
 rw [bo] at m
 have hm := elimL m
 refine Cr<|Ts rfl (lF rfl rfl (by omega))<|Te<|Cs<|c_cond_f rfl<|Ce<|Xe<|Xe<|Xo<|Xn ?_
 refine Cs<|Cr<|Ts rfl (sF rfl fld25_1)<|Ts rfl (sL 0 rfl one23 rfl rfl)<|Ts rfl (sE rfl sl23)<|M rfl rfl<|Te<|Cb ?_
 have cx : a.Turns.length ≤ 9223372036854775807 := (FZ.bd (S.le (d.trans e)))
 obtain ⟨cy, bp, q⟩ := bS hm
 refine cF (fun ax => fun _ => fun ag e' hp' => [(1, pb i), (74, sv k a.Turns l), (75, iv ((a.Turns.length : Int))), (76, iv ((ax : Int)))] = e' ∧ (i, Cl 25 [sv f a.Trains g, sv k a.Turns l]) :: R = hp' ∧ t.Le ag) bp ⟨rfl, rfl, lr⟩ (.refl _) ?_ ?_
 rintro ax _ ag _ _ cz cA ⟨rfl, rfl, p⟩ ay az
 unfold mFishref2TextFault_L627 at ay
 have hm := ay
 refine Cr<|Ts rfl (lT rfl rfl (by omega))<|Te<|Cs<|c_cond_t rfl<|Ck<|Xn<|Cs<|Cb<|Cr ?_
 obtain ⟨cB, bq, hm⟩ := bS hm
 obtain ⟨br, bs, bt⟩ := iS bq
 obtain ⟨cC, bu, bw, bx, bz⟩ := FZ.get (sz := 1) rfl (by decide) (S.le (d.trans (e.trans p))) bt
 obtain ⟨cD, cE, rfl, cG⟩ := bu
 refine Ts rfl (sI br rfl rfl bs bz bx sl23)<|Ts rfl (sO rfl one42 (bw 0 _ rfl))<|As rfl rfl<|Te<|Cs<|Cr<|M rfl rfl<|Ts rfl (sE rfl sl42)<|Ts rfl (q1 rfl rfl)<|Te ?_
 refine Cc _ rfl (fun ah => ?_) (fun ah => ?_)
 rw [if_pos (of_decide_eq_true ah)] at hm
 refine Cr<|As rfl rfl<|Te<|Ct<|Xr<|Xb<|Xr<|Xr<|Xb<|Xr ?_
 have bA := az _ (Option.some.inj hm).symm
 rw [bA] at q
 have hm := elimR q
 obtain rfl := o1 hm
 exact rM (rs := [.tmp 2]) (vs := [iv 1]) ⟨rfl, trivial⟩ ⟨rfl, rfl⟩ (.cons _ (.refl _)) (d.trans (e.trans p))
 rw [if_neg (of_decide_eq_false ah)] at hm
 refine Ck<|Xn<|Cr<|M rfl rfl<|Ts rfl (sE rfl sl42)<|Ts rfl (q5 rfl rfl)<|Te ?_
 refine Cc _ rfl (fun ai => ?_) (fun ai => ?_)
 rw [if_pos (of_decide_eq_true ai)] at hm
 refine Cr<|As rfl rfl<|Te<|Ct<|Xb<|Xr<|Xr<|Xb<|Xr ?_
 have bB := az _ (Option.some.inj hm).symm
 rw [bB] at q
 have hm := elimR q
 obtain rfl := o1 hm
 exact rM (rs := [.tmp 2]) (vs := [iv 4]) ⟨rfl, trivial⟩ ⟨rfl, rfl⟩ (.cons _ (.refl _)) (d.trans (e.trans p))
 rw [if_neg (of_decide_eq_false ai)] at hm
 refine Ck<|Xm<|Xn<|Cg<|Ts rfl (sa rfl rfl (by omega))<|M rfl rfl<|Tn ?_
 exact xM hm ⟨rfl, rfl, (p)⟩ (.refl _)
 rintro _ ag _ _ ⟨rfl, rfl, p⟩ bC
 rw [bC] at q
 have hm := elimL q
 refine Cr<|Ts rfl (lF rfl rfl (by omega))<|Te<|Cs<|c_cond_f rfl<|Ce<|Xe<|Xe<|Xo<|Xn ?_
 refine Cs<|Cr<|Ts rfl (sD (vs := [_, _]) 0 2 rfl agg25 rfl rfl rfl) ?_
 obtain ⟨r, bD, hm⟩ := bS hm
 refine Tg _ rfl call39 rfl (cFishref2NumbersIn _ _ a f g k l (O.le (d.trans (e.trans p))) (S.le (d.trans (e.trans p))) r bD) ?_
 rintro _ bE _ aA ⟨aB, aC, A, rfl, rfl, aD⟩
 refine t_in1 [] [_] A R rfl<|Ts rfl (sE rfl sl23)<|M rfl rfl<|Te<|Cb ?_
 have cH : r.length ≤ 9223372036854775807 := (OS.len aD)
 obtain ⟨cI, bF, J⟩ := bS hm
 refine cF (fun aj => fun _ => fun K e' hp' => [(88, sv aB r aC), (89, iv ((r.length : Int))), (90, iv ((aj : Int)))] = e' ∧ (A ++ R) = hp' ∧ bE.Le K) bF ⟨rfl, rfl, lr⟩ (.cons _ (.refl _)) ?_ ?_
 rintro aj _ K _ _ cJ cK ⟨rfl, rfl, B⟩ aE bG
 unfold mFishref2TextFault_L676 at aE
 have hm := aE
 refine Cr<|Ts rfl (lT rfl rfl (by omega))<|Te<|Cs<|c_cond_t rfl<|Ck<|Xn<|Cs<|Cb<|Cr ?_
 obtain ⟨ak, bH, hm⟩ := bS hm
 obtain ⟨bI, bJ, bK⟩ := iS bH
 obtain ⟨cM, cN, cO, cP, cQ, bL, bM, bN, bO, cR, cT⟩ := OS.get (sz := 1) rfl (by decide) (aD.le B) bK
 obtain ⟨⟨bP, bQ, rfl, aF⟩, rfl⟩ := bL
 refine Ts rfl (sI bI rfl rfl bJ bO bN sl23)<|Ts rfl (st_load_rd rfl one42 (fun w ho => bM w _ ho (List.sublist_append_left _ _) 0 _ rfl))<|As rfl rfl<|Te<|Cr<|M rfl rfl<|Ts rfl (sE rfl sl42)<|M rfl rfl<|Te<|Cb ?_
 have cU : ak.length ≤ 9223372036854775807 := (FZ.bd aF)
 obtain ⟨cV, bR, L⟩ := bS hm
 refine cF (fun aG => fun _ => fun al e' hp' => [(88, sv aB r aC), (89, iv ((r.length : Int))), (90, iv ((aj : Int))), (94, sv bP ak bQ), (95, iv ((ak.length : Int))), (96, iv ((aG : Int)))] = e' ∧ (A ++ R) = hp' ∧ K.Le al) bR ⟨rfl, rfl, lr⟩ (.refl _) ?_ ?_
 rintro aG _ al _ _ cW cX ⟨rfl, rfl, C⟩ aH bT
 unfold mFishref2TextFault_L757 at aH
 have hm := aH
 refine Cr<|Ts rfl (lT rfl rfl (by omega))<|Te<|Cs<|c_cond_t rfl<|Ck<|Xn<|Cs<|Cb<|Cr ?_
 obtain ⟨bU, bV, hm⟩ := bS hm
 obtain ⟨bW, bX, bY⟩ := iS bV
 obtain ⟨cY, bZ, b0, b1, b2⟩ := FZ.get (sz := 1) rfl (by decide) (aF.le C) bY
 obtain rfl := bZ
 refine Ts rfl (sI bW rfl rfl bX b2 b1 sl42)<|Ts rfl (sO rfl one3 (b0 0 _ rfl))<|As rfl rfl<|Te<|Cr<|M rfl rfl ?_
 obtain ⟨b3, b4, hm⟩ := bS hm
 refine Do rfl (uW _ call17 rfl (fun w ho => cFishref2Within _ [] bU 0 999999 b3 b4) (fun _ _ _ h => h.2.symm)) ?_
 rintro _ _ ⟨⟨_, rfl, _⟩, rfl⟩
 refine Ts rfl (sn2 rfl)<|Te ?_
 refine Cc _ rfl (fun am => ?_) (fun am => ?_)
 rw [if_neg (fun hh => Bool.noConfusion (hh.symm.trans (nt am)))] at hm
 refine Cr<|As rfl rfl<|Te<|Ct<|Xb<|Xr<|Xr<|Xb<|Xb<|Xr ?_
 refine Xr<|Xb<|Xr ?_
 have b5 := bT _ (Option.some.inj hm).symm
 rw [b5] at L
 have hm := elimR L
 have b6 := bG _ (Option.some.inj hm).symm
 rw [b6] at J
 have hm := elimR J
 obtain rfl := o1 hm
 exact rM (rs := [.tmp 2]) (vs := [iv 2]) ⟨rfl, trivial⟩ ⟨rfl, rfl⟩ (ss A (.refl _)) (d.trans (e.trans (p.trans (aA.trans (B.trans C)))))
 rw [if_pos (nf am)] at hm
 refine Ck<|Xm<|Xn<|Cg<|Ts rfl (sa rfl rfl (by omega))<|M rfl rfl<|Tn ?_
 exact xM hm ⟨rfl, rfl, (C)⟩ (.refl _)
 rintro _ al _ _ ⟨rfl, rfl, C⟩ b7
 rw [b7] at L
 have hm := elimL L
 refine Cr<|Ts rfl (lF rfl rfl (by omega))<|Te<|Cs<|c_cond_f rfl<|Ce<|Xe<|Xe<|Xo<|Xm ?_
 refine Xn<|Cg<|Ts rfl (sa rfl rfl (by omega))<|M rfl rfl<|Tn ?_
 exact xM hm ⟨rfl, rfl, ((B.trans C))⟩ (.refl _)
 rintro _ K _ _ ⟨rfl, rfl, B⟩ b8
 rw [b8] at J
 have hm := elimL J
 refine Cr<|Ts rfl (lF rfl rfl (by omega))<|Te<|Cs<|c_cond_f rfl<|Ce<|Xe<|Xe<|Xo<|Xn ?_
 refine Cr<|As rfl rfl<|Te<|Ct ?_
 obtain rfl := o1 hm
 exact rM (rs := [.tmp 2]) (vs := [iv 0]) ⟨rfl, trivial⟩ ⟨rfl, rfl⟩ (ss A (.refl _)) (d.trans (e.trans (p.trans (aA.trans B))))

set_option maxRecDepth 20000 in
theorem cFishref2GuideFault (b : Base) (R : Hp) (a : ApiDay) (e : OA) (d : Nat) (n : OA) (o : Nat) (z : FZ rApiTrain b.w e d a.Trains) (h7 : FZ (RT.list rI) b.w n o a.Turns) (ae : Int) (hm : mFishref2GuideFault a = some ae) :
    CallsG Try.prog 5 [.agg #[sv e a.Trains d, sv n a.Turns o]] b (R) (fun v b' hp' => iv ae = v ∧ R = hp') := by
 refine fE 93 Try.func5 rfl Try.ntmps5 rfl ?_
 unfold mFishref2GuideFault at hm
 refine Cr<|Do rfl (uB _ rfl rfl) ?_
 rintro _ _ ⟨m, rfl, rfl⟩
 refine As rfl rfl<|Te<|Cs<|Cr<|Ts rfl (sD (vs := [_, _]) 0 2 rfl agg25 rfl rfl rfl) ?_
 obtain ⟨af, hcl568, hm⟩ := bS hm
 refine Do rfl (uW _ call16 rfl (fun w ho => cFishref2TextFault _ [] a e d n o (z.old ho) (h7.old ho) af hcl568) (fun _ _ _ h => h.2.symm)) ?_
 rintro _ _ ⟨⟨_, rfl, _⟩, rfl⟩
 refine As rfl rfl<|Te<|Cr<|M rfl rfl<|Ts rfl (q2 rfl rfl)<|Te ?_
 refine Cc _ rfl (fun S => ?_) (fun S => ?_)
 rw [if_pos (of_decide_eq_true S)] at hm
 refine Cr<|M rfl rfl<|As rfl rfl<|Te<|Ct<|Xr ?_
 obtain rfl := o1 hm
 exact rM (rs := [.tmp 2]) (vs := [iv af]) ⟨rfl, trivial⟩ ⟨rfl, rfl⟩ (.cons _ (.refl _)) lr
 rw [if_neg (of_decide_eq_false S)] at hm
 refine Ck<|Xn<|Cs<|Cr<|Ts rfl (sF rfl fld25_0)<|Ts rfl (sL 0 rfl one22 rfl rfl)<|Ts rfl (sE rfl sl22)<|M rfl rfl<|Te<|Cb ?_
 have hb571 : a.Trains.length ≤ 9223372036854775807 := (FZ.bd z)
 obtain ⟨t843, hl844, g⟩ := bS hm
 refine cF (fun t => fun _ => fun G e' hp' => [(1, pb m), (16, sv e a.Trains d), (17, iv ((a.Trains.length : Int))), (18, iv ((t : Int)))] = e' ∧ (m, Cl 25 [sv e a.Trains d, sv n a.Turns o]) :: R = hp' ∧ b.Le G) hl844 ⟨rfl, rfl, lr⟩ (.refl _) ?_ ?_
 rintro t _ G _ _ oL570 hknL570 ⟨rfl, rfl, i⟩ ag A
 unfold mFishref2GuideFault_L570 at ag
 have hm := ag
 refine Cr<|Ts rfl (lT rfl rfl (by omega))<|Te<|Cs<|c_cond_t rfl<|Ck<|Xn<|Cs<|Cb<|Cr ?_
 refine M rfl rfl ?_
 obtain ⟨c, h847, hm⟩ := bS hm
 obtain ⟨j848, hj849, hx850⟩ := iS h847
 obtain ⟨cs851, hr852, hcs853, ah, hlt855⟩ := FZ.get (sz := 4) rfl (by decide) (z.le i) hx850
 obtain ⟨_, _, rfl, rfl, ⟨_, _, rfl, rfl, ⟨_, _, rfl, ⟨p, q, rfl, T⟩, ⟨B, C, rfl, h861⟩⟩⟩⟩ := hr852
 refine Ts rfl (sI j848 rfl rfl hj849 hlt855 ah sl22)<|Ts rfl (sP (vs := [iv c.No, iv c.Stock, sv p c.Stops q, sv B c.Legs C]) 4 rfl agg35 ah rfl (fun j u hu => hcs853 j u hu))<|Do rfl (uA [iv 0, iv 0, sn, sn] zero35 rfl) ?_
 rintro _ _ ⟨r, rfl, rfl⟩
 refine As rfl rfl<|Do rfl (uN (vs := [_, _, _, _]) 0 4 rfl rfl rfl siz35 rfl (mc rfl (mc rfl (mc rfl (mc rfl mn)))) rfl (by simp)) ?_
 rintro _ _ rfl
 refine Te<|Cs<|Cr<|Ts rfl (sF rfl fld35_0)<|Ts rfl (sL 0 rfl one3 rfl rfl) ?_
 obtain ⟨x863, hcl864, hm⟩ := bS hm
 refine Do rfl (uW _ call17 rfl (fun w ho => cFishref2Within _ [] c.No 1 9999 x863 hcl864) (fun _ _ _ h => h.2.symm)) ?_
 rintro _ _ ⟨⟨_, rfl, _⟩, rfl⟩
 refine Ts rfl (sn2 rfl)<|Te ?_
 refine Cc _ rfl (fun U => ?_) (fun U => ?_)
 rw [if_neg (fun hh => Bool.noConfusion (hh.symm.trans (nt U)))] at hm
 refine Cr<|As rfl rfl<|Te<|Ct<|Xr<|Xb<|Xr<|Xr<|Xb<|Xr ?_
 have hq866 := A _ (Option.some.inj hm).symm
 rw [hq866] at g
 have hm := elimR g
 obtain rfl := o1 hm
 exact rM (rs := [.tmp 2]) (vs := [iv 2]) ⟨rfl, trivial⟩ ⟨rfl, rfl⟩ (.cons _ (.cons _ (.refl _))) i
 rw [if_pos (nf U)] at hm
 refine Ck<|Xn<|Cs<|Cr<|Ts rfl (sF rfl fld25_0)<|Ts rfl (sL 1 rfl one22 rfl rfl)<|M rfl rfl ?_
 obtain ⟨V, h868, hm⟩ := bS hm
 obtain ⟨W, j870, hj871, hj872, ai, aj, ak⟩ := cutS_some h868
 have X := FZ.sub (sz := 4) rfl (z.le i) ai aj
 have h877 := (z.le i).1.1
 rw [← ak] at X
 refine Ts rfl (ak ▸ st_part (l := a.Trains) W j870 rfl (.inl ⟨rfl, by omega⟩) (.inr ⟨_, _, _, rfl, rfl, hj872⟩) ai aj h877 sl22)<|Ts rfl (sE rfl sl22)<|M rfl rfl<|Te<|Cb ?_
 have hb883 : V.length ≤ 9223372036854775807 := (FZ.bd X)
 refine Cp 1 rfl ?_
 obtain ⟨t905, hl906, H⟩ := bS hm
 refine cF (fun al => fun _ => fun I e' hp' => [(1, pb m), (5, pb r), (16, sv e a.Trains d), (17, iv ((a.Trains.length : Int))), (18, iv ((t : Int))), (30, .slice (subA e d W 4) (V).length (d - W)), (31, iv ((V.length : Int))), (32, iv ((al : Int)))] = e' ∧ (m, Cl 25 [sv e a.Trains d, sv n a.Turns o]) :: (r, Cl 35 [iv c.No, iv c.Stock, sv p c.Stops q, sv B c.Legs C]) :: R = hp' ∧ G.Le I) hl906 ⟨rfl, rfl, lr⟩ (.refl _) ?_ ?_
 rintro al _ I _ _ oL882 hknL882 ⟨rfl, rfl, k⟩ am houtL882
 unfold mFishref2GuideFault_L882 at am
 have hm := am
 refine Cr<|Ts rfl (lT rfl rfl (by omega))<|Te<|Cs<|c_cond_t rfl<|Ck<|Xn<|Cs<|Cb<|Cr ?_
 obtain ⟨J, h909, hm⟩ := bS hm
 obtain ⟨j910, hj911, hx912⟩ := iS h909
 obtain ⟨cs913, hr914, hcs915, an, hlt917⟩ := FZ.get (sz := 4) rfl (by decide) (X.le k) hx912
 obtain ⟨_, _, rfl, rfl, ⟨_, _, rfl, rfl, ⟨_, _, rfl, ⟨A918, c919, rfl, h920⟩, ⟨A921, c922, rfl, h923⟩⟩⟩⟩ := hr914
 refine Ts rfl (sI j910 rfl rfl hj911 hlt917 an sl22)<|Ts rfl (sP (vs := [iv J.No, iv J.Stock, sv A918 J.Stops c919, sv A921 J.Legs c922]) 4 rfl agg35 an rfl (fun j u hu => hcs915 j u hu))<|Do rfl (uA [iv 0, iv 0, sn, sn] zero35 rfl) ?_
 rintro _ _ ⟨g924, rfl, rfl⟩
 refine Do rfl (uN (vs := [_, _, _, _]) 0 4 rfl rfl rfl siz35 rfl (mc rfl (mc rfl (mc rfl (mc rfl mn)))) rfl (by simp)) ?_
 rintro _ _ rfl
 refine Te<|Cr<|Ts rfl (sF rfl fld35_0)<|Ts rfl (sL 0 rfl one3 rfl rfl)<|Ts rfl (sF rfl fld35_0)<|Ts rfl (sL 2 rfl one3 rfl rfl)<|Ts rfl (q1 rfl rfl)<|Te ?_
 refine Cc _ rfl (fun Y => ?_) (fun Y => ?_)
 rw [if_pos (of_decide_eq_true Y)] at hm
 refine Cr<|As rfl rfl<|Te<|Ct<|Xb<|Xr<|Xr<|Xb<|Xr<|Xb ?_
 refine Xr<|Xr<|Xb<|Xr ?_
 have hq926 := houtL882 _ (Option.some.inj hm).symm
 rw [hq926] at H
 have hm := elimR H
 have hq927 := A _ (Option.some.inj hm).symm
 rw [hq927] at g
 have hm := elimR g
 obtain rfl := o1 hm
 exact rM (rs := [.tmp 2]) (vs := [iv 6]) ⟨rfl, trivial⟩ ⟨rfl, rfl⟩ (.cons _ (.cons _ (.cons _ (.refl _)))) (i.trans k)
 rw [if_neg (of_decide_eq_false Y)] at hm
 refine Ck<|Xm<|Xn<|Cg<|Ts rfl (sa rfl rfl (by omega))<|M rfl rfl<|Tn<|Xp 2 rfl<|Xp 2 rfl ?_
 exact xM hm ⟨rfl, rfl, (k)⟩ (.cons_cons _ (.cons_cons _ (.cons _ (.refl _))))
 rintro _ I _ _ ⟨rfl, rfl, k⟩ hq928
 rw [hq928] at H
 have hm := elimL H
 refine Cr<|Ts rfl (lF rfl rfl (by omega))<|Te<|Cs<|c_cond_f rfl<|Ce<|Xe<|Xe<|Xo<|Xn ?_
 refine Cs<|Cr<|Ts rfl (sF rfl fld35_2)<|Ts rfl (sL 1 rfl one33 rfl rfl)<|Ts rfl (sE rfl sl33)<|Ts rfl (q3 rfl rfl)<|Te ?_
 refine Cc _ rfl (fun Z => ?_) (fun Z => ?_)
 rw [if_pos (of_decide_eq_true Z)] at hm
 refine Cr<|As rfl rfl<|Te<|Ct<|Xr<|Xb<|Xr<|Xr<|Xb<|Xr ?_
 have hq930 := A _ (Option.some.inj hm).symm
 rw [hq930] at g
 have hm := elimR g
 obtain rfl := o1 hm
 exact rM (rs := [.tmp 2]) (vs := [iv 1]) ⟨rfl, trivial⟩ ⟨rfl, rfl⟩ (.cons _ (.cons _ (.refl _))) (i.trans k)
 rw [if_neg (of_decide_eq_false Z)] at hm
 refine Ck<|Xn<|Cr<|Ts rfl (sF rfl fld35_2)<|Ts rfl (sL 1 rfl one33 rfl rfl)<|Ts rfl (sE rfl sl33)<|M rfl rfl<|Te<|Cb ?_
 have hb932 : c.Stops.length ≤ 9223372036854775807 := (FZ.bd (T.le k))
 refine Cp 1 rfl<|Cp 1 rfl ?_
 obtain ⟨t1025, hl1026, x⟩ := bS hm
 refine cF (fun y => fun _ => fun K e' hp' => [(1, pb m), (5, pb r), (16, sv e a.Trains d), (17, iv ((a.Trains.length : Int))), (18, iv ((t : Int))), (47, sv p c.Stops q), (48, iv ((c.Stops.length : Int))), (49, iv ((y : Int)))] = e' ∧ (m, Cl 25 [sv e a.Trains d, sv n a.Turns o]) :: (r, Cl 35 [iv c.No, iv c.Stock, sv p c.Stops q, sv B c.Legs C]) :: R = hp' ∧ I.Le K) hl1026 ⟨rfl, rfl, lr⟩ (.refl _) ?_ ?_
 rintro y _ K _ _ oL931 hknL931 ⟨rfl, rfl, s⟩ ao aq
 unfold mFishref2GuideFault_L931 at ao
 have hm := ao
 refine Cr<|Ts rfl (lT rfl rfl (by omega))<|Te<|Cs<|c_cond_t rfl<|Ck<|Xn<|Cs<|Cb<|Cr ?_
 refine M rfl rfl ?_
 obtain ⟨f, h1029, hm⟩ := bS hm
 obtain ⟨j1030, hj1031, hx1032⟩ := iS h1029
 obtain ⟨cs1033, hr1034, hcs1035, ar, hlt1037⟩ := FZ.get (sz := 4) rfl (by decide) (T.le (k.trans s)) hx1032
 obtain ⟨_, _, rfl, rfl, ⟨_, _, rfl, rfl, ⟨_, _, rfl, rfl, rfl⟩⟩⟩ := hr1034
 refine Ts rfl (sI j1030 rfl rfl hj1031 hlt1037 ar sl33)<|Ts rfl (sP (vs := [iv f.Station, iv f.Track, iv f.Arr, iv f.Dep]) 4 rfl agg37 ar rfl (fun j u hu => hcs1035 j u hu))<|Do rfl (uA [iv 0, iv 0, iv 0, iv 0] zero37 rfl) ?_
 rintro _ _ ⟨au, rfl, rfl⟩
 refine As rfl rfl<|Do rfl (uN (vs := [_, _, _, _]) 0 4 rfl rfl rfl siz37 rfl (mc rfl (mc rfl (mc rfl (mc rfl mn)))) rfl (by simp)) ?_
 rintro _ _ rfl
 refine Te<|Cs ?_
 obtain ⟨x1049, hj1050, hk1050⟩ := bS hm
 refine Cj (fun aa e' hp' => [(1, pb m), (5, pb r), (8, iv ((y : Int))), (9, pb au), (16, sv e a.Trains d), (17, iv ((a.Trains.length : Int))), (18, iv ((t : Int))), (47, sv p c.Stops q), (48, iv ((c.Stops.length : Int))), (49, iv ((y : Int))), (69, bv x1049)] = e' ∧ (m, Cl 25 [sv e a.Trains d, sv n a.Turns o]) :: (r, Cl 35 [iv c.No, iv c.Stock, sv p c.Stops q, sv B c.Legs C]) :: (au, Cl 37 [iv f.Station, iv f.Track, iv f.Arr, iv f.Dep]) :: R = hp' ∧ K.Le aa) ?_ ?_
 have hm := hj1050
 refine Cg<|Ts rfl (sF rfl fld37_0)<|Ts rfl (sL 0 rfl one3 rfl rfl) ?_
 obtain ⟨av, hcl1052, hm⟩ := bS hm
 refine Do rfl (uW _ call17 rfl (fun w ho => cFishref2Within _ [] f.Station 0 11 av hcl1052) (fun _ _ _ h => h.2.symm)) ?_
 rintro _ _ ⟨⟨_, rfl, _⟩, rfl⟩
 rcases Bool.eq_false_or_eq_true av with D | D
 rw [if_pos D] at hm
 refine Tr 56 rfl (v' := .bool true) (by rw [D] <;> rfl)<|Ts rfl (st_not_t rfl)<|M rfl rfl<|Ys 58 rfl rfl rfl<|Ts rfl (sF rfl fld37_2)<|Ys 58 rfl rfl rfl<|Ts rfl (sL 0 rfl one3 rfl rfl)<|Ys 58 rfl rfl rfl ?_
 obtain ⟨aw, hcl1055, hm⟩ := bS hm
 refine Do rfl (uW _ call17 rfl (fun w ho => cFishref2Within _ [] f.Arr 0 28800 aw hcl1055) (fun _ _ _ h => h.2.symm)) ?_
 rintro _ _ ⟨⟨_, rfl, _⟩, rfl⟩
 rcases Bool.eq_false_or_eq_true aw with E | E
 rw [if_pos E] at hm
 refine Tr 61 rfl (v' := .bool true) (by rw [E] <;> rfl)<|Ys 58 rfl rfl rfl<|Ts rfl (st_not_t rfl)<|Ts rfl (pF rfl rfl)<|M rfl rfl<|Ys 64 rfl rfl rfl<|Ts rfl (sF rfl fld37_3)<|Ys 64 rfl rfl rfl<|Ts rfl (sL 0 rfl one3 rfl rfl)<|Ys 64 rfl rfl rfl ?_
 obtain ⟨x1057, hcl1058, hm⟩ := bS hm
 refine Do rfl (uW _ call17 rfl (fun w ho => cFishref2Within _ [] f.Dep 0 28800 x1057 hcl1058) (fun _ _ _ h => h.2.symm)) ?_
 rintro _ _ ⟨⟨_, rfl, _⟩, rfl⟩
 refine Ys 64 rfl rfl rfl<|Ts rfl (sn2 rfl)<|Ts rfl (pF rfl rfl)<|Tn ?_
 obtain rfl := o1 hm
 refine Xp 2 rfl<|Xp 2 rfl ?_
 exact xJ ⟨rfl, rfl, lr⟩ (.refl _)
 rw [if_neg (fun hh => Bool.noConfusion (hh.symm.trans E))] at hm
 refine Tr 61 rfl (v' := .bool false) (by rw [E] <;> rfl)<|Ys 58 rfl rfl rfl<|Ts rfl (st_not_f rfl)<|Ts rfl (pF rfl rfl)<|M rfl rfl<|No 64 rfl rfl rfl rfl rfl<|No 64 rfl rfl rfl rfl rfl<|No 64 rfl rfl rfl rfl rfl<|No 64 rfl rfl rfl rfl rfl<|Ts rfl (pT rfl rfl) ?_
 refine Tn ?_
 obtain rfl := o1 hm
 refine Xp 2 rfl<|Xp 2 rfl ?_
 exact xJ ⟨rfl, rfl, lr⟩ (.refl _)
 rw [if_neg (fun hh => Bool.noConfusion (hh.symm.trans D))] at hm
 refine Tr 56 rfl (v' := .bool false) (by rw [D] <;> rfl)<|Ts rfl (st_not_f rfl)<|M rfl rfl<|No 58 rfl rfl rfl rfl rfl<|No 58 rfl rfl rfl rfl rfl<|No 58 rfl rfl rfl rfl rfl<|No 58 rfl rfl rfl rfl rfl<|Ts rfl (pT rfl rfl)<|M rfl rfl<|No 64 rfl rfl rfl rfl rfl ?_
 refine No 64 rfl rfl rfl rfl rfl<|No 64 rfl rfl rfl rfl rfl<|No 64 rfl rfl rfl rfl rfl<|Ts rfl (pT rfl rfl)<|Tn ?_
 obtain rfl := o1 hm
 refine Xp 2 rfl<|Xp 2 rfl ?_
 exact xJ ⟨rfl, rfl, lr⟩ (.refl _)
 rintro aa _ _ ⟨rfl, rfl, L⟩
 have hm := hk1050
 refine Cc _ rfl (fun ab => ?_) (fun ab => ?_)
 rw [if_pos ab] at hm
 refine Cr<|As rfl rfl<|Te<|Ct<|Xr<|Xb<|Xr<|Xr<|Xb<|Xb ?_
 refine Xr<|Xr<|Xb<|Xr ?_
 have hq1060 := aq _ (Option.some.inj hm).symm
 rw [hq1060] at x
 have hm := elimR x
 have hq1061 := A _ (Option.some.inj hm).symm
 rw [hq1061] at g
 have hm := elimR g
 obtain rfl := o1 hm
 exact rM (rs := [.tmp 2]) (vs := [iv 2]) ⟨rfl, trivial⟩ ⟨rfl, rfl⟩ (.cons _ (.cons _ (.cons _ (.refl _)))) (i.trans (k.trans (s.trans L)))
 rw [if_neg (fun hh => Bool.noConfusion (hh.symm.trans ab))] at hm
 refine Ck<|Xn ?_
 obtain ⟨x1090, hj1091, hk1091⟩ := bS hm
 refine Cj (fun ax e' hp' => [(1, pb m), (5, pb r), (16, sv e a.Trains d), (17, iv ((a.Trains.length : Int))), (18, iv ((t : Int))), (47, sv p c.Stops q), (48, iv ((c.Stops.length : Int))), (49, iv ((y : Int))), (90, bv x1090)] = e' ∧ (m, Cl 25 [sv e a.Trains d, sv n a.Turns o]) :: (r, Cl 35 [iv c.No, iv c.Stock, sv p c.Stops q, sv B c.Legs C]) :: R = hp' ∧ aa.Le ax) ?_ ?_
 have hm := hj1091
 by_cases F : f.Dep < f.Arr
 rw [if_pos F] at hm
 refine Di mixed (.refl _)<|E0 0 rfl (sF rfl fld37_3)<|Es 1 rfl (sL 2 rfl one3 rfl rfl)<|E0 2 rfl (sF rfl fld37_2)<|Es 3 rfl (sL 2 rfl one3 rfl rfl)<|E0 4 rfl (lT rfl rfl F)<|E0 5 rfl (sM rfl)<|En 6 75 rfl rfl rfl<|En 7 75 rfl rfl rfl<|En 8 75 rfl rfl rfl ?_
 refine En 9 78 rfl rfl rfl<|En 10 78 rfl rfl rfl<|En 11 78 rfl rfl rfl<|En 12 78 rfl rfl rfl<|En 13 78 rfl rfl rfl<|En 14 78 rfl rfl rfl<|En 15 78 rfl rfl rfl<|En 16 78 rfl rfl rfl<|En 17 78 rfl rfl rfl<|En 18 78 rfl rfl rfl ?_
 refine En 19 75 rfl rfl rfl<|E0 20 rfl (pT rfl rfl)<|Eo<|Dd (by kernel_rfl) ?_
 obtain rfl := o1 hm
 refine Xp 1 rfl<|Xp 1 rfl ?_
 exact xJ ⟨rfl, rfl, lr⟩ (.cons_cons _ (.cons_cons _ (.cons _ (.refl _))))
 rw [if_neg F] at hm
 by_cases O : 0 < (y : Int)
 rw [if_pos O] at hm
 obtain ⟨_, ac, hm⟩ := bS hm
 obtain ⟨x1108, h1109, hm⟩ := bS hm
 refine Di mixed (.refl _)<|E0 0 rfl (sF rfl fld37_3)<|Es 1 rfl (sL 2 rfl one3 rfl rfl)<|E0 2 rfl (sF rfl fld37_2)<|Es 3 rfl (sL 2 rfl one3 rfl rfl)<|E0 4 rfl (lF rfl rfl F)<|E0 5 rfl (sM rfl)<|Yz 6 75 rfl (sM rfl)<|Yz 7 75 rfl (st_gtr_t rfl rfl O)<|Yz 8 75 rfl (sM rfl) ?_
 refine Yz 9 78 rfl (sF rfl fld37_2)<|Ey 10 78 rfl (sL 2 rfl one3 rfl rfl)<|Yz 11 78 rfl (sF rfl fld35_2)<|Ey 12 78 rfl (sL 1 rfl one33 rfl rfl)<|Yz 13 78 rfl (sM rfl) ?_
 have ac := (kS ac).2
 refine Yz 14 78 rfl (sb rfl rfl ac) ?_
 obtain ⟨j1110, hj1111, hx1112⟩ := iS h1109
 obtain ⟨cs1113, hr1114, hcs1115, ay, hlt1117⟩ := FZ.get (sz := 4) rfl (by decide) (T.le (k.trans (s.trans L))) hx1112
 obtain ⟨_, _, rfl, rfl, ⟨_, _, rfl, rfl, ⟨_, _, rfl, rfl, rfl⟩⟩⟩ := hr1114
 refine Yz 15 78 rfl (sI j1110 rfl rfl hj1111 hlt1117 ay sl33)<|Yz 16 78 rfl (sQ rfl ay fld37_3)<|Ey 17 78 rfl (sO rfl one3 (hcs1115 3 _ rfl))<|Yz 18 78 rfl (q4 rfl rfl)<|Yz 19 75 rfl (pT rfl rfl)<|E0 20 rfl (pF rfl rfl)<|Eo<|Dd (by kernel_rfl) ?_
 obtain rfl := o1 hm
 refine Xp 1 rfl<|Xp 1 rfl ?_
 exact xJ ⟨rfl, rfl, lr⟩ (.cons_cons _ (.cons_cons _ (.cons _ (.refl _))))
 rw [if_neg O] at hm
 refine Di mixed (.refl _)<|E0 0 rfl (sF rfl fld37_3)<|Es 1 rfl (sL 2 rfl one3 rfl rfl)<|E0 2 rfl (sF rfl fld37_2)<|Es 3 rfl (sL 2 rfl one3 rfl rfl)<|E0 4 rfl (lF rfl rfl F)<|E0 5 rfl (sM rfl)<|Yz 6 75 rfl (sM rfl)<|Yz 7 75 rfl (st_gtr_f rfl rfl O)<|Yz 8 75 rfl (sM rfl) ?_
 refine En 9 78 rfl rfl rfl<|En 10 78 rfl rfl rfl<|En 11 78 rfl rfl rfl<|En 12 78 rfl rfl rfl<|En 13 78 rfl rfl rfl<|En 14 78 rfl rfl rfl<|En 15 78 rfl rfl rfl<|En 16 78 rfl rfl rfl<|En 17 78 rfl rfl rfl<|En 18 78 rfl rfl rfl ?_
 refine Yz 19 75 rfl (pF rfl rfl)<|E0 20 rfl (pF rfl rfl)<|Eo<|Dd (by kernel_rfl) ?_
 obtain rfl := o1 hm
 refine Xp 1 rfl<|Xp 1 rfl ?_
 exact xJ ⟨rfl, rfl, lr⟩ (.cons_cons _ (.cons_cons _ (.cons _ (.refl _))))
 rintro ax _ _ ⟨rfl, rfl, az⟩
 have hm := hk1091
 refine Cc _ rfl (fun ad => ?_) (fun ad => ?_)
 rw [if_pos ad] at hm
 refine Cr<|As rfl rfl<|Te<|Ct<|Xb<|Xr<|Xr<|Xb<|Xb<|Xr ?_
 refine Xr<|Xb<|Xr ?_
 have hq1119 := aq _ (Option.some.inj hm).symm
 rw [hq1119] at x
 have hm := elimR x
 have hq1120 := A _ (Option.some.inj hm).symm
 rw [hq1120] at g
 have hm := elimR g
 obtain rfl := o1 hm
 exact rM (rs := [.tmp 2]) (vs := [iv 5]) ⟨rfl, trivial⟩ ⟨rfl, rfl⟩ (.cons _ (.cons _ (.refl _))) (i.trans (k.trans (s.trans (L.trans az))))
 rw [if_neg (fun hh => Bool.noConfusion (hh.symm.trans ad))] at hm
 refine Ck<|Xm<|Xn<|Cg<|Ts rfl (sa rfl rfl (by omega))<|M rfl rfl<|Tn<|Xp 1 rfl<|Xp 1 rfl ?_
 exact xM hm ⟨rfl, rfl, ((s.trans (L.trans az)))⟩ (.refl _)
 rintro _ K _ _ ⟨rfl, rfl, s⟩ hq1121
 rw [hq1121] at x
 have hm := elimL x
 refine Cr<|Ts rfl (lF rfl rfl (by omega))<|Te<|Cs<|c_cond_f rfl<|Ce<|Xe<|Xe<|Xo<|Xm ?_
 refine Xn<|Cg<|Ts rfl (sa rfl rfl (by omega))<|M rfl rfl<|Tn ?_
 exact xM hm ⟨rfl, rfl, ((i.trans (k.trans s)))⟩ (.cons_cons _ (.cons _ (.refl _)))
 rintro _ G _ _ ⟨rfl, rfl, i⟩ hq1122
 rw [hq1122] at g
 have hm := elimL g
 refine Cr<|Ts rfl (lF rfl rfl (by omega))<|Te<|Cs<|c_cond_f rfl<|Ce<|Xe<|Xe<|Xo<|Xn ?_
 refine Cr<|As rfl rfl<|Te<|Ct ?_
 obtain rfl := o1 hm
 exact rM (rs := [.tmp 2]) (vs := [iv 0]) ⟨rfl, trivial⟩ ⟨rfl, rfl⟩ (.cons _ (.refl _)) i

set_option maxRecDepth 20000 in
theorem cFleetCheckLimits (b : Base) (R : Hp) (a : FleetLimits) (i : Int) (hm : mFleetCheckLimits a = some i) :
    CallsG Try.prog 22 [.agg #[iv a.Change, iv a.Long, iv a.Work, iv a.After, iv a.Break, iv a.Rest, iv a.Row]] b (R) (fun v b' hp' => iv i = v ∧ R = hp') := by
 refine fE 29 Try.func22 rfl Try.ntmps22 rfl ?_
 unfold mFleetCheckLimits at hm
 refine Cr<|Do rfl (uB _ rfl rfl) ?_
 rintro _ _ ⟨j, rfl, rfl⟩
 refine As rfl rfl<|Te<|Cs<|Cr<|Ts rfl (sF rfl fld27_0)<|Ts rfl (sL 0 rfl one3 rfl rfl)<|Ts rfl (sF rfl fld27_1)<|Ts rfl (sL 0 rfl one3 rfl rfl)<|Ts rfl (sF rfl fld27_2)<|Ts rfl (sL 0 rfl one3 rfl rfl) ?_
 refine Ts rfl (sF rfl fld27_3)<|Ts rfl (sL 0 rfl one3 rfl rfl)<|Ts rfl (sF rfl fld27_4)<|Ts rfl (sL 0 rfl one3 rfl rfl)<|Ts rfl (sF rfl fld27_5)<|Ts rfl (sL 0 rfl one3 rfl rfl)<|Ts rfl (sB (v := .agg #[iv a.Change, iv a.Long, iv a.Work, iv a.After, iv a.Break, iv a.Rest]) [(0, iv a.Change), (1, iv a.Long), (2, iv a.Work), (3, iv a.After), (4, iv a.Break), (5, iv a.Rest)] rfl (fun _ => by kernel_rfl))<|M rfl rfl<|Te<|Cb ?_
 obtain ⟨G, n, d⟩ := bS hm
 refine cF (fun k => fun _ => fun e e' hp' => [(1, pb j), (17, .agg #[iv a.Change, iv a.Long, iv a.Work, iv a.After, iv a.Break, iv a.Rest]), (18, iv ((k : Int)))] = e' ∧ (j, Cl 27 [iv a.Change, iv a.Long, iv a.Work, iv a.After, iv a.Break, iv a.Rest, iv a.Row]) :: R = hp' ∧ b.Le e) n ⟨rfl, rfl, lr⟩ (.refl _) ?_ ?_
 rintro k _ e _ _ H I ⟨rfl, rfl, c⟩ m o
 unfold mFleetCheckLimits_L41 at m
 have hm := m
 refine Cr<|Ts rfl (lT rfl rfl (by omega))<|Te<|Cs<|c_cond_t rfl<|Ck<|Xn<|Cs<|Cb<|Cr ?_
 obtain ⟨p, q, hm⟩ := bS hm
 obtain ⟨s, t, u⟩ := iS q
 obtain ⟨J, x, y, z⟩ := arr_get (r := rI) (w := e.w) (css := [[iv a.Change], [iv a.Long], [iv a.Work], [iv a.After], [iv a.Break], [iv a.Rest]]) (l := [a.Change, a.Long, a.Work, a.After, a.Break, a.Rest]) (sz := 1) rfl ⟨rfl, ⟨rfl, ⟨rfl, ⟨rfl, ⟨rfl, ⟨rfl, trivial⟩⟩⟩⟩⟩⟩ u
 obtain rfl := x
 refine Ts rfl (st_aidx1 (cs := ([[iv a.Change], [iv a.Long], [iv a.Work], [iv a.After], [iv a.Break], [iv a.Rest]] : List (List Value)).flatten) s rfl rfl t z (y 0 _ rfl) arr92 one3)<|As rfl rfl<|Te<|Cr<|M rfl rfl ?_
 obtain ⟨A, B, hm⟩ := bS hm
 refine Do rfl (uW _ call23 rfl (fun w ho => cFleetWithin _ [] p 0 86400 A B) (fun _ _ _ h => h.2.symm)) ?_
 rintro _ _ ⟨⟨_, rfl, _⟩, rfl⟩
 refine Ts rfl (sn2 rfl)<|Te ?_
 refine Cc _ rfl (fun f => ?_) (fun f => ?_)
 rw [if_neg (fun hh => Bool.noConfusion (hh.symm.trans (nt f)))] at hm
 refine Cr<|As rfl rfl<|Te<|Ct<|Xb<|Xr<|Xr<|Xb<|Xr ?_
 have C := o _ (Option.some.inj hm).symm
 rw [C] at d
 have hm := elimR d
 obtain rfl := o1 hm
 exact rM (rs := [.tmp 2]) (vs := [iv 2]) ⟨rfl, trivial⟩ ⟨rfl, rfl⟩ (.cons _ (.refl _)) c
 rw [if_pos (nf f)] at hm
 refine Ck<|Xm<|Xn<|Cg<|Ts rfl (sa rfl rfl (by omega))<|M rfl rfl<|Tn ?_
 exact xM hm ⟨rfl, rfl, (c)⟩ (.refl _)
 rintro _ e _ _ ⟨rfl, rfl, c⟩ D
 rw [D] at d
 have hm := elimL d
 refine Cr<|Ts rfl (lF rfl rfl (by omega))<|Te<|Cs<|c_cond_f rfl<|Ce<|Xe<|Xe<|Xo<|Xn ?_
 refine Cs<|Cr<|Ts rfl (sF rfl fld27_6)<|Ts rfl (sL 0 rfl one3 rfl rfl) ?_
 obtain ⟨E, F, hm⟩ := bS hm
 refine Do rfl (uW _ call23 rfl (fun w ho => cFleetWithin _ [] a.Row 1 7 E F) (fun _ _ _ h => h.2.symm)) ?_
 rintro _ _ ⟨⟨_, rfl, _⟩, rfl⟩
 refine Ts rfl (sn2 rfl)<|Te ?_
 refine Cc _ rfl (fun g => ?_) (fun g => ?_)
 rw [if_neg (fun hh => Bool.noConfusion (hh.symm.trans (nt g)))] at hm
 refine Cr<|As rfl rfl<|Te<|Ct<|Xr ?_
 obtain rfl := o1 hm
 exact rM (rs := [.tmp 2]) (vs := [iv 2]) ⟨rfl, trivial⟩ ⟨rfl, rfl⟩ (.cons _ (.refl _)) c
 rw [if_pos (nf g)] at hm
 refine Ck<|Xn<|Cr<|As rfl rfl<|Te<|Ct ?_
 obtain rfl := o1 hm
 exact rM (rs := [.tmp 2]) (vs := [iv 0]) ⟨rfl, trivial⟩ ⟨rfl, rfl⟩ (.cons _ (.refl _)) c

set_option maxRecDepth 20000 in
theorem cFleetCheckTasks_2 (b : Base) (R : Hp) (c : (List FleetTask)) (a : FleetLimits) (d : OA) (e : Nat) (k : FZ rFleetTask b.w d e c) (g : Int) (hm : mFleetCheckTasks_2 c a = some g) :
    CallsG Try.prog 18 [sv d c e, .agg #[iv a.Change, iv a.Long, iv a.Work, iv a.After, iv a.Break, iv a.Rest, iv a.Row]] b (R) (fun v b' hp' => iv g = v ∧ R = hp') := by
 refine fE 13 Try.func18 rfl Try.ntmps18 rfl ?_
 unfold mFleetCheckTasks_2 at hm
 refine Cr<|Do rfl (uB _ rfl rfl) ?_
 rintro _ _ ⟨n, rfl, rfl⟩
 refine As rfl rfl<|Te<|Cs<|Cr<|M rfl rfl ?_
 obtain ⟨i, l, hm⟩ := bS hm
 refine Do rfl (uW _ call40 rfl (fun w ho => cFleetCheckTasks _ [] c d e (k.old ho) i l) (fun _ _ _ h => h.2.symm)) ?_
 rintro _ _ ⟨⟨_, rfl, _⟩, rfl⟩
 refine As rfl rfl<|Te<|Cr<|M rfl rfl<|Ts rfl (q2 rfl rfl)<|Te ?_
 refine Cc _ rfl (fun f => ?_) (fun f => ?_)
 rw [if_pos (of_decide_eq_true f)] at hm
 refine Cr<|M rfl rfl<|As rfl rfl<|Te<|Ct<|Xr ?_
 obtain rfl := o1 hm
 exact rM (rs := [.tmp 4]) (vs := [iv i]) ⟨rfl, trivial⟩ ⟨rfl, rfl⟩ (.cons _ (.refl _)) lr
 rw [if_neg (of_decide_eq_false f)] at hm
 refine Ck<|Xn<|Cr<|Ts rfl (sD (vs := [_, _, _, _, _, _, _]) 0 7 rfl agg27 rfl rfl rfl) ?_
 obtain ⟨j, m, hm⟩ := bS hm
 refine Do rfl (uW _ call22 rfl (fun w ho => cFleetCheckLimits _ [] a j m) (fun _ _ _ h => h.2.symm)) ?_
 rintro _ _ ⟨⟨_, rfl, _⟩, rfl⟩
 refine As rfl rfl<|Te<|Ct ?_
 obtain rfl := o1 hm
 exact rM (rs := [.tmp 4]) (vs := [iv j]) ⟨rfl, trivial⟩ ⟨rfl, rfl⟩ (.cons _ (.refl _)) lr

end Go.Proofs.Ytnmhabgnfifkdaa
