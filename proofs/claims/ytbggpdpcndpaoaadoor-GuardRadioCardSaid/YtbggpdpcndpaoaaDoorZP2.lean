/- Contracts: the code computes its model (part 2). -/
import Derived.Test.YtbggpdpcndpaoaaDoorZP1
set_option linter.unusedVariables false
set_option linter.unusedSimpArgs false
namespace Go.Proofs.YtbggpdpcndpaoaaDoor
open Go.RowKit Go.Fp

open Go.Fp renaming t_mv → M, t_as → As, t_st → Ts, t_do → Do, t_ne → Te, t_nil → Tn, t_no → No, t_yes → Ys, t_bool → Tb, t_callG → Tg, t_callvG → Tv, t_resp → Tr, c_sr → Cr, c_seq → Cs, c_region → Cg, c_cond → Cc, c_block → Cb, c_ret → Ct, c_skip → Ck, c_exit → Ce, c_join → Cj, c_pullb → Cp, x_then_normal → Xn, x_then_ret → Xr, x_then_exit → Xe, x_block_ret → Xb, x_block_normal → Xm, x_block_out → Xo, x_pullb → Xp, x_front2 → X2, E_st → Es, E_s0 → E0, E_yes → Ey, E_y0 → Yz, E_no → En, E_in → Ei, E_il → El, E_out → Eo, D_all → Da, D_done → Dd, D_drawI → Di, R_do → Rd2, R_nil → Rn, st_load → sL, st_loadD → sD, st_field → sF, st_nil → sN, st_len → sE, st_move → sM, st_assign → sA, st_pick_t → pT, st_pick_f → pF, st_index_old → sI, st_loadN_old → sP, st_add → sa, st_lss_t → lT, st_lss_f → lF, st_eql_t → eT, st_eql_f → eF, st_not → sn2, st_build → sB, u_box → uB, u_alloc → uA, u_store → uS, u_storeN → uN, u_callW0 → uW, u_appOS → uQ, fn_enterG → fE, bindS → bS, some1 → o1, idx_some → iS, sub_skip → ss, sub_app → sp, chk_some → kS, notT → nt, notF → nf, mem_c → mc, mem_n → mn, st_eql → q1, st_neq → q2, st_leq → q4, st_gtr → q5, st_geq → q6
set_option maxRecDepth 20000 in
theorem cGuardUnitHear (b : Base) (R : Hp) (a : GuardPacket) (d : Int) (e : Int) (g : Int) (f : Int) (n : Int) (i : Int) (o : Int) (r : Int) (c : Nat) (br : Int) (bs : Int) (bt : Int) (bu : Int) (bw : Int) (bx : Int) (bz : Int) (bA : Int) (bB : Bool) (bC : Int) (bD : Int) (bE : Int) (bF : Int) (hm : mGuardUnitHear a d e g f n i o r = some (br, bs, bt, bu, bw, bx, bz, bA, bB, bC, bD, bE, bF)) :
    CallsG Tryd.prog 20 [pb c, .agg #[iv a.Kind, iv a.Session, iv a.No, iv a.Of, iv a.End, iv a.At, iv a.Speed, iv a.Sent], iv d, iv e, iv g] b ((c, Cl 45 [iv f, iv n, iv i, iv o, iv r]) :: R) (fun v b' hp' => .tuple #[.agg #[iv br, iv bs, iv bt, iv bu, iv bw, iv bx, iv bz, iv bA], bv bB] = v ∧ (c, Cl 45 [iv f, iv bC, iv bD, iv bE, iv bF]) :: R = hp') := by
 refine fE 119 Tryd.func20 rfl Tryd.ntmps20 rfl ?_
 unfold mGuardUnitHear at hm
 refine Cr<|Do rfl (uB _ rfl rfl) ?_
 rintro _ _ ⟨m, rfl, rfl⟩
 refine Do rfl (uA [iv 0, iv 0, iv 0, iv 0, iv 0, iv 0, iv 0, iv 0] zero33 rfl) ?_
 rintro _ _ ⟨j, rfl, rfl⟩
 refine As rfl rfl<|Te<|Cr<|Do rfl (u_mmap rI (OT.fr RT.val) false false [_, _, _] R rfl) ?_
 rintro _ _ ⟨db, dc, rfl, rfl, b5⟩
 refine M rfl rfl<|Ts rfl (st_func _ _ rfl rfl)<|Do rfl (u_mputF kok3 [_, _, _] [] R rfl b5 mapt61 rfl rfl rfl rfl ⟨⟨rfl, rfl⟩, rfl⟩ _ (.inr rfl)) ?_
 rintro _ _ ⟨dd, rfl, de, b6⟩
 refine M rfl rfl<|Ts rfl (st_func _ _ rfl rfl)<|Do rfl (u_mputF kok3 [_, _, _] [] R rfl b6 mapt61 rfl rfl rfl rfl ⟨⟨rfl, rfl⟩, rfl⟩ _ (.inr rfl)) ?_
 rintro _ _ ⟨df, rfl, dg, b7⟩
 refine M rfl rfl<|Ts rfl (st_func _ _ rfl rfl)<|Do rfl (u_mputF kok3 [_, _, _] [] R rfl b7 mapt61 rfl rfl rfl rfl ⟨⟨rfl, rfl⟩, rfl⟩ _ (.inr rfl)) ?_
 rintro _ _ ⟨dh, rfl, di, b8⟩
 refine M rfl rfl<|Ts rfl (st_func _ _ rfl rfl)<|Do rfl (u_mputF kok3 [_, _, _] [] R rfl b8 mapt61 rfl rfl rfl rfl ⟨⟨rfl, rfl⟩, rfl⟩ _ (.inr rfl)) ?_
 rintro _ _ ⟨l, rfl, dj, b9⟩
 refine M rfl rfl<|Ts rfl (sF rfl fld33_0)<|Ts rfl (sL 1 rfl one3 rfl rfl) ?_
 obtain ⟨s, H, I⟩ := OM.lookF kok3 (z0 := Value.nilFunc) b9 (key := iv a.Kind) (k := a.Kind) rfl mapt61 zero60 ⟨rfl, rfl⟩
 rcases Decidable.em (a.Kind = (2 : Int)) with J | J
 rw [if_pos J] at hm
 have ca : mgetD (mput (mput (mput (mput ([] : (List (Int × Value))) 2 (.func (.func 26) #[pb c] #[] : Value)) 4 (.func (.func 27) #[pb c] #[] : Value)) 5 (.func (.func 28) #[pb c] #[] : Value)) 6 (.func (.func 29) #[pb c] #[] : Value)) a.Kind Value.nilFunc = .func (.func 26) #[pb c] #[] := by rw [J]; rfl
 obtain rfl : s = .func (.func 26) #[pb c] #[] := by have q : [s] = [mgetD (mput (mput (mput (mput ([] : (List (Int × Value))) 2 (.func (.func 26) #[pb c] #[] : Value)) 4 (.func (.func 27) #[pb c] #[] : Value)) 5 (.func (.func 28) #[pb c] #[] : Value)) 6 (.func (.func 29) #[pb c] #[] : Value)) a.Kind Value.nilFunc] := H.1; rw [ca] at q; injection q
 refine Ts rfl (st_mlook (ok := false) rfl rfl (fun w ho => I _ w ho (.cons _ (.cons _ (.cons _ (List.sublist_append_left _ _)))) false))<|As rfl rfl<|Te<|Cs ?_
 obtain ⟨cb, cc, cd⟩ := bS hm
 refine Cj (fun aF e' hp' => [(0, pb c), (2, iv d), (3, iv e), (4, iv g), (6, pb m), (10, pb j), (12, .func (.func 26) #[pb c] #[]), (62, bv cb)] = e' ∧ (c, Cl 45 [iv f, iv n, iv i, iv o, iv r]) :: (m, Cl 33 [iv a.Kind, iv a.Session, iv a.No, iv a.Of, iv a.End, iv a.At, iv a.Speed, iv a.Sent]) :: (j, Cl 33 [iv 0, iv 0, iv 0, iv 0, iv 0, iv 0, iv 0, iv 0]) :: R = hp' ∧ b.Le aF) ?_ ?_
 have hm := cc
 obtain ⟨z, K, hm⟩ := bS hm
 rcases Bool.eq_false_or_eq_true z with t | t
 rw [if_pos t] at hm
 by_cases A : a.Session ≠ f
 rw [if_pos A] at hm
 refine Di mixed (.refl _)<|E0 0 rfl (sM rfl)<|E0 1 rfl (st_eqfF rfl rfl fnt60)<|E0 2 rfl (sM rfl)<|Ey 3 29 rfl (sD (vs := [_, _, _, _, _, _, _, _]) 1 8 rfl agg33 rfl rfl rfl)<|Yz 4 29 rfl (sM rfl)<|Eo<|Da [5] (by kernel_rfl) rfl ?_
 refine R_doY lr rfl rfl 29 rfl rfl rfl (uW _ call30 rfl (fun w ho => cGuardFresh _ [] a d z K) (fun _ _ _ h => h.2.symm)) ?_ ?_
 rintro _ _ ⟨⟨_, rfl, _⟩, rfl⟩
 refine ⟨.inr (.refl _), ?_⟩
 refine d_resp 32 rfl (v' := .bool true) (by rw [t])<|Ei lr (.refl _)<|Yz 6 29 rfl (st_not_t rfl)<|E0 7 rfl (pF rfl rfl)<|E0 8 rfl (sM rfl)<|Yz 9 35 rfl (sF rfl fld33_1)<|Ey 10 35 rfl (sL 1 rfl one3 rfl rfl)<|Yz 11 35 rfl (sM rfl)<|Yz 12 35 rfl (sN rfl)<|Yz 13 35 rfl (sF rfl fld45_0) ?_
 refine Ey 14 35 rfl (sL 2 rfl one3 rfl rfl)<|Yz 15 35 rfl (st_neq_t rfl rfl A)<|E0 16 rfl (pF rfl rfl)<|E0 17 rfl (sM rfl)<|En 18 44 rfl rfl rfl<|En 19 44 rfl rfl rfl<|En 20 44 rfl rfl rfl<|En 21 44 rfl rfl rfl<|En 22 44 rfl rfl rfl<|En 23 44 rfl rfl rfl ?_
 refine En 24 44 rfl rfl rfl<|E0 25 rfl (pT rfl rfl)<|E0 26 rfl (sM rfl)<|En 27 53 rfl rfl rfl<|En 28 53 rfl rfl rfl<|En 29 53 rfl rfl rfl<|E0 30 rfl (pT rfl rfl)<|E0 31 rfl (sM rfl)<|En 32 58 rfl rfl rfl<|En 33 58 rfl rfl rfl ?_
 refine En 34 58 rfl rfl rfl<|E0 35 rfl (pT rfl rfl)<|Eo<|Dd (by kernel_rfl) ?_
 obtain rfl := o1 hm
 refine Xp 1 rfl<|Xp 2 rfl ?_
 exact xJ ⟨rfl, rfl, lr⟩ (.cons_cons _ (.cons_cons _ (.cons_cons _ (ss l (.refl _)))))
 exact Rn
 rw [if_neg A] at hm
 by_cases L : a.No ≤ o
 rw [if_pos L] at hm
 refine Di mixed (.refl _)<|E0 0 rfl (sM rfl)<|E0 1 rfl (st_eqfF rfl rfl fnt60)<|E0 2 rfl (sM rfl)<|Ey 3 29 rfl (sD (vs := [_, _, _, _, _, _, _, _]) 1 8 rfl agg33 rfl rfl rfl)<|Yz 4 29 rfl (sM rfl)<|Eo<|Da [5] (by kernel_rfl) rfl ?_
 refine R_doY lr rfl rfl 29 rfl rfl rfl (uW _ call30 rfl (fun w ho => cGuardFresh _ [] a d z K) (fun _ _ _ h => h.2.symm)) ?_ ?_
 rintro _ _ ⟨⟨_, rfl, _⟩, rfl⟩
 refine ⟨.inr (.refl _), ?_⟩
 refine d_resp 32 rfl (v' := .bool true) (by rw [t])<|Ei lr (.refl _)<|Yz 6 29 rfl (st_not_t rfl)<|E0 7 rfl (pF rfl rfl)<|E0 8 rfl (sM rfl)<|Yz 9 35 rfl (sF rfl fld33_1)<|Ey 10 35 rfl (sL 1 rfl one3 rfl rfl)<|Yz 11 35 rfl (sM rfl)<|Yz 12 35 rfl (sN rfl)<|Yz 13 35 rfl (sF rfl fld45_0) ?_
 refine Ey 14 35 rfl (sL 2 rfl one3 rfl rfl)<|Yz 15 35 rfl (st_neq_f rfl rfl A)<|E0 16 rfl (pF rfl rfl)<|E0 17 rfl (sM rfl)<|Yz 18 44 rfl (sF rfl fld33_2)<|Ey 19 44 rfl (sL 1 rfl one3 rfl rfl)<|Yz 20 44 rfl (sM rfl)<|Yz 21 44 rfl (sN rfl)<|Yz 22 44 rfl (sF rfl fld45_3)<|Ey 23 44 rfl (sL 2 rfl one3 rfl rfl) ?_
 refine Yz 24 44 rfl (st_leq_t rfl rfl L)<|E0 25 rfl (pF rfl rfl)<|E0 26 rfl (sM rfl)<|En 27 53 rfl rfl rfl<|En 28 53 rfl rfl rfl<|En 29 53 rfl rfl rfl<|E0 30 rfl (pT rfl rfl)<|E0 31 rfl (sM rfl)<|En 32 58 rfl rfl rfl<|En 33 58 rfl rfl rfl ?_
 refine En 34 58 rfl rfl rfl<|E0 35 rfl (pT rfl rfl)<|Eo<|Dd (by kernel_rfl) ?_
 obtain rfl := o1 hm
 refine Xp 1 rfl<|Xp 2 rfl ?_
 exact xJ ⟨rfl, rfl, lr⟩ (.cons_cons _ (.cons_cons _ (.cons_cons _ (ss l (.refl _)))))
 exact Rn
 rw [if_neg L] at hm
 obtain ⟨aG, bG, hm⟩ := bS hm
 rcases Bool.eq_false_or_eq_true aG with O | O
 rw [if_pos O] at hm
 obtain ⟨ce, cf, hm⟩ := bS hm
 refine Di mixed (.refl _)<|E0 0 rfl (sM rfl)<|E0 1 rfl (st_eqfF rfl rfl fnt60)<|E0 2 rfl (sM rfl)<|Ey 3 29 rfl (sD (vs := [_, _, _, _, _, _, _, _]) 1 8 rfl agg33 rfl rfl rfl)<|Yz 4 29 rfl (sM rfl)<|Eo<|Da [5] (by kernel_rfl) rfl ?_
 refine R_doY lr rfl rfl 29 rfl rfl rfl (uW _ call30 rfl (fun w ho => cGuardFresh _ [] a d z K) (fun _ _ _ h => h.2.symm)) ?_ ?_
 rintro _ _ ⟨⟨_, rfl, _⟩, rfl⟩
 refine ⟨.inr (.refl _), ?_⟩
 refine d_resp 32 rfl (v' := .bool true) (by rw [t])<|Ei lr (.refl _)<|Yz 6 29 rfl (st_not_t rfl)<|E0 7 rfl (pF rfl rfl)<|E0 8 rfl (sM rfl)<|Yz 9 35 rfl (sF rfl fld33_1)<|Ey 10 35 rfl (sL 1 rfl one3 rfl rfl)<|Yz 11 35 rfl (sM rfl)<|Yz 12 35 rfl (sN rfl)<|Yz 13 35 rfl (sF rfl fld45_0) ?_
 refine Ey 14 35 rfl (sL 2 rfl one3 rfl rfl)<|Yz 15 35 rfl (st_neq_f rfl rfl A)<|E0 16 rfl (pF rfl rfl)<|E0 17 rfl (sM rfl)<|Yz 18 44 rfl (sF rfl fld33_2)<|Ey 19 44 rfl (sL 1 rfl one3 rfl rfl)<|Yz 20 44 rfl (sM rfl)<|Yz 21 44 rfl (sN rfl)<|Yz 22 44 rfl (sF rfl fld45_3)<|Ey 23 44 rfl (sL 2 rfl one3 rfl rfl) ?_
 refine Yz 24 44 rfl (st_leq_f rfl rfl L)<|E0 25 rfl (pF rfl rfl)<|E0 26 rfl (sM rfl)<|Yz 27 53 rfl (sM rfl)<|Eo<|Da [28] (by kernel_rfl) rfl ?_
 refine R_doY lr rfl rfl 53 rfl rfl rfl (uW _ call16 rfl (fun w ho => cGuardWithin _ [] e 0 20000000 aG bG) (fun _ _ _ h => h.2.symm)) ?_ ?_
 rintro _ _ ⟨⟨_, rfl, _⟩, rfl⟩
 refine ⟨.inr (.refl _), ?_⟩
 refine d_resp 55 rfl (v' := .bool true) (by rw [O])<|Ei lr (.refl _)<|Yz 29 53 rfl (st_not_t rfl)<|E0 30 rfl (pF rfl rfl)<|E0 31 rfl (sM rfl)<|Yz 32 58 rfl (sM rfl)<|Eo<|Da [33] (by kernel_rfl) rfl ?_
 refine R_doY lr rfl rfl 58 rfl rfl rfl (uW _ call16 rfl (fun w ho => cGuardWithin _ [] g 0 20000000 ce cf) (fun _ _ _ h => h.2.symm)) ?_ ?_
 rintro _ _ ⟨⟨_, rfl, _⟩, rfl⟩
 refine ⟨.inr (.refl _), ?_⟩
 refine Ei lr (.refl _)<|Yz 34 58 rfl (sn2 rfl)<|E0 35 rfl (pF rfl rfl)<|Eo<|Dd (by kernel_rfl) ?_
 obtain rfl := o1 hm
 refine Xp 1 rfl<|Xp 2 rfl ?_
 exact xJ ⟨rfl, rfl, lr⟩ (.cons_cons _ (.cons_cons _ (.cons_cons _ (ss l (.refl _)))))
 exact Rn
 exact Rn
 exact Rn
 rw [if_neg (fun hh => Bool.noConfusion (hh.symm.trans O))] at hm
 refine Di mixed (.refl _)<|E0 0 rfl (sM rfl)<|E0 1 rfl (st_eqfF rfl rfl fnt60)<|E0 2 rfl (sM rfl)<|Ey 3 29 rfl (sD (vs := [_, _, _, _, _, _, _, _]) 1 8 rfl agg33 rfl rfl rfl)<|Yz 4 29 rfl (sM rfl)<|Eo<|Da [5] (by kernel_rfl) rfl ?_
 refine R_doY lr rfl rfl 29 rfl rfl rfl (uW _ call30 rfl (fun w ho => cGuardFresh _ [] a d z K) (fun _ _ _ h => h.2.symm)) ?_ ?_
 rintro _ _ ⟨⟨_, rfl, _⟩, rfl⟩
 refine ⟨.inr (.refl _), ?_⟩
 refine d_resp 32 rfl (v' := .bool true) (by rw [t])<|Ei lr (.refl _)<|Yz 6 29 rfl (st_not_t rfl)<|E0 7 rfl (pF rfl rfl)<|E0 8 rfl (sM rfl)<|Yz 9 35 rfl (sF rfl fld33_1)<|Ey 10 35 rfl (sL 1 rfl one3 rfl rfl)<|Yz 11 35 rfl (sM rfl)<|Yz 12 35 rfl (sN rfl)<|Yz 13 35 rfl (sF rfl fld45_0) ?_
 refine Ey 14 35 rfl (sL 2 rfl one3 rfl rfl)<|Yz 15 35 rfl (st_neq_f rfl rfl A)<|E0 16 rfl (pF rfl rfl)<|E0 17 rfl (sM rfl)<|Yz 18 44 rfl (sF rfl fld33_2)<|Ey 19 44 rfl (sL 1 rfl one3 rfl rfl)<|Yz 20 44 rfl (sM rfl)<|Yz 21 44 rfl (sN rfl)<|Yz 22 44 rfl (sF rfl fld45_3)<|Ey 23 44 rfl (sL 2 rfl one3 rfl rfl) ?_
 refine Yz 24 44 rfl (st_leq_f rfl rfl L)<|E0 25 rfl (pF rfl rfl)<|E0 26 rfl (sM rfl)<|Yz 27 53 rfl (sM rfl)<|Eo<|Da [28] (by kernel_rfl) rfl ?_
 refine R_doY lr rfl rfl 53 rfl rfl rfl (uW _ call16 rfl (fun w ho => cGuardWithin _ [] e 0 20000000 aG bG) (fun _ _ _ h => h.2.symm)) ?_ ?_
 rintro _ _ ⟨⟨_, rfl, _⟩, rfl⟩
 refine ⟨.inr (.refl _), ?_⟩
 refine d_resp 55 rfl (v' := .bool false) (by rw [O])<|Ei lr (.refl _)<|Yz 29 53 rfl (st_not_f rfl)<|E0 30 rfl (pF rfl rfl)<|E0 31 rfl (sM rfl)<|En 32 58 rfl rfl rfl<|En 33 58 rfl rfl rfl<|En 34 58 rfl rfl rfl<|E0 35 rfl (pT rfl rfl)<|Eo ?_
 refine Dd (by kernel_rfl) ?_
 obtain rfl := o1 hm
 refine Xp 1 rfl<|Xp 2 rfl ?_
 exact xJ ⟨rfl, rfl, lr⟩ (.cons_cons _ (.cons_cons _ (.cons_cons _ (ss l (.refl _)))))
 exact Rn
 exact Rn
 rw [if_neg (fun hh => Bool.noConfusion (hh.symm.trans t))] at hm
 refine Di mixed (.refl _)<|E0 0 rfl (sM rfl)<|E0 1 rfl (st_eqfF rfl rfl fnt60)<|E0 2 rfl (sM rfl)<|Ey 3 29 rfl (sD (vs := [_, _, _, _, _, _, _, _]) 1 8 rfl agg33 rfl rfl rfl)<|Yz 4 29 rfl (sM rfl)<|Eo<|Da [5] (by kernel_rfl) rfl ?_
 refine R_doY lr rfl rfl 29 rfl rfl rfl (uW _ call30 rfl (fun w ho => cGuardFresh _ [] a d z K) (fun _ _ _ h => h.2.symm)) ?_ ?_
 rintro _ _ ⟨⟨_, rfl, _⟩, rfl⟩
 refine ⟨.inr (.refl _), ?_⟩
 refine d_resp 32 rfl (v' := .bool false) (by rw [t])<|Ei lr (.refl _)<|Yz 6 29 rfl (st_not_f rfl)<|E0 7 rfl (pF rfl rfl)<|E0 8 rfl (sM rfl)<|En 9 35 rfl rfl rfl<|En 10 35 rfl rfl rfl<|En 11 35 rfl rfl rfl<|En 12 35 rfl rfl rfl<|En 13 35 rfl rfl rfl ?_
 refine En 14 35 rfl rfl rfl<|En 15 35 rfl rfl rfl<|E0 16 rfl (pT rfl rfl)<|E0 17 rfl (sM rfl)<|En 18 44 rfl rfl rfl<|En 19 44 rfl rfl rfl<|En 20 44 rfl rfl rfl<|En 21 44 rfl rfl rfl<|En 22 44 rfl rfl rfl<|En 23 44 rfl rfl rfl ?_
 refine En 24 44 rfl rfl rfl<|E0 25 rfl (pT rfl rfl)<|E0 26 rfl (sM rfl)<|En 27 53 rfl rfl rfl<|En 28 53 rfl rfl rfl<|En 29 53 rfl rfl rfl<|E0 30 rfl (pT rfl rfl)<|E0 31 rfl (sM rfl)<|En 32 58 rfl rfl rfl<|En 33 58 rfl rfl rfl ?_
 refine En 34 58 rfl rfl rfl<|E0 35 rfl (pT rfl rfl)<|Eo<|Dd (by kernel_rfl) ?_
 obtain rfl := o1 hm
 refine Xp 1 rfl<|Xp 2 rfl ?_
 exact xJ ⟨rfl, rfl, lr⟩ (.cons_cons _ (.cons_cons _ (.cons_cons _ (ss l (.refl _)))))
 exact Rn
 rintro aF _ _ ⟨rfl, rfl, aB⟩
 have hm := cd
 refine Cc _ rfl (fun aH => ?_) (fun aH => ?_)
 rw [if_pos aH] at hm
 refine Cr<|Ts rfl (sB (v := .agg #[iv 0, iv 0, iv 0, iv 0, iv 0, iv 0, iv 0, iv 0]) [] rfl (fun _ => by kernel_rfl))<|Do rfl (uN (vs := [_, _, _, _, _, _, _, _]) 2 8 rfl rfl rfl siz33 rfl (mc rfl (mc rfl (mc rfl (mc rfl (mc rfl (mc rfl (mc rfl (mc rfl mn)))))))) rfl (by simp)) ?_
 rintro _ _ rfl
 refine As rfl rfl<|Te<|Ct<|Xr ?_
 obtain ⟨rfl, rfl, rfl, rfl, rfl, rfl, rfl, rfl, rfl, rfl, rfl, rfl, rfl⟩ := some13 hm
 exact rM (rs := [.cell 10 33, .tmp 11]) (vs := [.agg #[iv 0, iv 0, iv 0, iv 0, iv 0, iv 0, iv 0, iv 0], bv false]) ⟨⟨_, rfl, fun w ho => cell_agg (vs := [_, _, _, _, _, _, _, _]) 2 8 agg33 rfl rfl rfl w ho⟩, ⟨rfl, trivial⟩⟩ ⟨rfl, rfl⟩ (.cons_cons _ (.cons _ (.cons _ (.refl _)))) aB
 rw [if_neg (fun hh => Bool.noConfusion (hh.symm.trans aH))] at hm
 refine Ck<|Xn<|Cs ?_
 obtain ⟨cg, ch, ci⟩ := bS hm
 refine Cj (fun bH e' hp' => [(0, pb c), (2, iv d), (3, iv e), (4, iv g), (6, pb m), (10, pb j), (12, .func (.func 26) #[pb c] #[]), (78, bv cg)] = e' ∧ (c, Cl 45 [iv f, iv n, iv i, iv o, iv r]) :: (m, Cl 33 [iv a.Kind, iv a.Session, iv a.No, iv a.Of, iv a.End, iv a.At, iv a.Speed, iv a.Sent]) :: (j, Cl 33 [iv 0, iv 0, iv 0, iv 0, iv 0, iv 0, iv 0, iv 0]) :: R = hp' ∧ aF.Le bH) ?_ ?_
 have hm := ch
 refine Cg<|Ts rfl (sF rfl fld33_0)<|Ts rfl (sL 1 rfl one3 rfl rfl) ?_
 refine Tb rfl (q1 rfl rfl) (fun aI => ?_) (fun aI => ?_)
 rw [if_pos aI] at hm
 refine M rfl rfl<|No 67 rfl rfl rfl rfl rfl<|No 67 rfl rfl rfl rfl rfl<|No 67 rfl rfl rfl rfl rfl<|Ts rfl (pT rfl rfl)<|M rfl rfl<|Ys 72 rfl rfl rfl<|M rfl rfl<|Ys 72 rfl rfl rfl<|Ts rfl (sN rfl) ?_
 refine Ys 72 rfl rfl rfl<|Ts rfl (sF rfl fld45_2)<|Ys 72 rfl rfl rfl<|Ts rfl (sL 0 rfl one3 rfl rfl)<|Ys 72 rfl rfl rfl<|Ts rfl (q6 rfl rfl)<|Ts rfl (pT rfl rfl)<|Tn ?_
 obtain rfl := o1 hm
 refine Xp 2 rfl<|Xp 2 rfl<|Xp 2 rfl ?_
 exact xJ ⟨rfl, rfl, lr⟩ (.refl _)
 rw [if_neg aI] at hm
 refine M rfl rfl<|Ys 67 rfl rfl rfl<|Ts rfl (sF rfl fld33_0)<|Ys 67 rfl rfl rfl<|Ts rfl (sL 1 rfl one3 rfl rfl)<|Ys 67 rfl rfl rfl ?_
 refine Tb rfl (q1 rfl rfl) (fun aJ => ?_) (fun aJ => ?_)
 rw [if_pos aJ] at hm
 refine Ts rfl (pF rfl rfl)<|M rfl rfl<|Ys 72 rfl rfl rfl<|M rfl rfl<|Ys 72 rfl rfl rfl<|Ts rfl (sN rfl)<|Ys 72 rfl rfl rfl<|Ts rfl (sF rfl fld45_2)<|Ys 72 rfl rfl rfl<|Ts rfl (sL 0 rfl one3 rfl rfl) ?_
 refine Ys 72 rfl rfl rfl<|Ts rfl (q6 rfl rfl)<|Ts rfl (pT rfl rfl)<|Tn ?_
 obtain rfl := o1 hm
 refine Xp 2 rfl<|Xp 2 rfl<|Xp 2 rfl ?_
 exact xJ ⟨rfl, rfl, lr⟩ (.refl _)
 rw [if_neg aJ] at hm
 refine Ts rfl (pF rfl rfl)<|M rfl rfl<|No 72 rfl rfl rfl rfl rfl<|No 72 rfl rfl rfl rfl rfl<|No 72 rfl rfl rfl rfl rfl<|No 72 rfl rfl rfl rfl rfl<|No 72 rfl rfl rfl rfl rfl<|Ts rfl (pF rfl rfl)<|Tn ?_
 obtain rfl := o1 hm
 refine Xp 2 rfl<|Xp 2 rfl<|Xp 2 rfl ?_
 exact xJ ⟨rfl, rfl, lr⟩ (.refl _)
 rintro bH _ _ ⟨rfl, rfl, aK⟩
 have hm := ci
 refine Cc _ rfl (fun aL => ?_) (fun aL => ?_)
 rw [if_pos aL] at hm
 refine Cr<|Ts rfl (sB (v := .agg #[iv 0, iv 0, iv 0, iv 0, iv 0, iv 0, iv 0, iv 0]) [] rfl (fun _ => by kernel_rfl))<|Do rfl (uN (vs := [_, _, _, _, _, _, _, _]) 2 8 rfl rfl rfl siz33 rfl (mc rfl (mc rfl (mc rfl (mc rfl (mc rfl (mc rfl (mc rfl (mc rfl mn)))))))) rfl (by simp)) ?_
 rintro _ _ rfl
 refine As rfl rfl<|Te<|Ct<|Xr ?_
 obtain ⟨rfl, rfl, rfl, rfl, rfl, rfl, rfl, rfl, rfl, rfl, rfl, rfl, rfl⟩ := some13 hm
 exact rM (rs := [.cell 10 33, .tmp 11]) (vs := [.agg #[iv 0, iv 0, iv 0, iv 0, iv 0, iv 0, iv 0, iv 0], bv false]) ⟨⟨_, rfl, fun w ho => cell_agg (vs := [_, _, _, _, _, _, _, _]) 2 8 agg33 rfl rfl rfl w ho⟩, ⟨rfl, trivial⟩⟩ ⟨rfl, rfl⟩ (.cons_cons _ (.cons _ (.cons _ (.refl _)))) (aB.trans aK)
 rw [if_neg (fun hh => Bool.noConfusion (hh.symm.trans aL))] at hm
 refine Ck<|Xn<|Cr<|M rfl rfl<|M rfl rfl<|Ts rfl (sF rfl fld33_2)<|Ts rfl (sL 1 rfl one3 rfl rfl)<|M rfl rfl<|Ts rfl (sN rfl)<|Ts rfl (sF rfl fld45_3) ?_
 refine Do rfl (uS 0 rfl rfl siz3 rfl rfl (by simp)) ?_
 rintro _ _ rfl
 refine Ts rfl (sN rfl)<|Ts rfl (sF rfl fld45_4)<|Do rfl (uS 0 rfl rfl siz3 rfl rfl (by simp)) ?_
 rintro _ _ rfl
 refine Te<|Cr<|M rfl rfl<|Ts rfl (sD (vs := [_, _, _, _, _, _, _, _]) 1 8 rfl agg33 rfl rfl rfl)<|M rfl rfl<|M rfl rfl<|Ts rfl (sB (v := .agg #[iv e, iv g]) [(0, iv e), (1, iv g)] rfl (fun _ => by kernel_rfl)) ?_
 obtain ⟨⟨S, aM, aN, T, U, V, W, aO⟩, cj, hm⟩ := bS hm
 have hm := (unc8E hm)
 refine Tv #[pb c] #[] [.agg #[iv a.Kind, iv a.Session, iv a.No, iv a.Of, iv a.End, iv a.At, iv a.Speed, iv a.Sent], .agg #[iv e, iv g]] rfl rfl call26 rfl (cGuardUnitWelcome _ _ a (⟨e, g⟩ : GuardStand) f n i a.No d c S aM aN T U V W aO cj) ?_
 rintro _ ck _ bI ⟨rfl, rfl⟩
 refine Do rfl (uA [iv 0, iv 0, iv 0, iv 0, iv 0, iv 0, iv 0, iv 0] zero33 rfl) ?_
 rintro _ _ ⟨bJ, rfl, rfl⟩
 refine Do rfl (uN (vs := [_, _, _, _, _, _, _, _]) 0 8 rfl rfl rfl siz33 rfl (mc rfl (mc rfl (mc rfl (mc rfl (mc rfl (mc rfl (mc rfl (mc rfl mn)))))))) rfl (by simp)) ?_
 rintro _ _ rfl
 refine Te<|Cs<|Cr<|Ts rfl (sD (vs := [_, _, _, _, _, _, _, _]) 0 8 rfl agg33 rfl rfl rfl)<|Ts rfl (sB (v := .agg #[iv 0, iv 0, iv 0, iv 0, iv 0, iv 0, iv 0, iv 0]) [] rfl (fun _ => by kernel_rfl))<|Ts rfl (st_eqlA (xs := [iv S, iv aM, iv aN, iv T, iv U, iv V, iv W, iv aO]) (ys := [iv 0, iv 0, iv 0, iv 0, iv 0, iv 0, iv 0, iv 0]) (p := S = 0 ∧ aM = 0 ∧ aN = 0 ∧ T = 0 ∧ U = 0 ∧ V = 0 ∧ W = 0 ∧ aO = 0) rfl rfl eqt33 ⟨⟨_, rfl⟩, ⟨⟨_, rfl⟩, ⟨⟨_, rfl⟩, ⟨⟨_, rfl⟩, ⟨⟨_, rfl⟩, ⟨⟨_, rfl⟩, ⟨⟨_, rfl⟩, ⟨⟨_, rfl⟩, trivial⟩⟩⟩⟩⟩⟩⟩⟩ ⟨⟨_, rfl⟩, ⟨⟨_, rfl⟩, ⟨⟨_, rfl⟩, ⟨⟨_, rfl⟩, ⟨⟨_, rfl⟩, ⟨⟨_, rfl⟩, ⟨⟨_, rfl⟩, ⟨⟨_, rfl⟩, trivial⟩⟩⟩⟩⟩⟩⟩⟩ (by simp [eqCells, eqCell, Bool.decide_and, beq_dec]))<|Te ?_
 refine Cc _ rfl (fun aP => ?_) (fun aP => ?_)
 rw [if_pos (of_decide_eq_true aP)] at hm
 refine Cr<|Ts rfl (sB (v := .agg #[iv 0, iv 0, iv 0, iv 0, iv 0, iv 0, iv 0, iv 0]) [] rfl (fun _ => by kernel_rfl))<|Do rfl (uN (vs := [_, _, _, _, _, _, _, _]) 3 8 rfl rfl rfl siz33 rfl (mc rfl (mc rfl (mc rfl (mc rfl (mc rfl (mc rfl (mc rfl (mc rfl mn)))))))) rfl (by simp)) ?_
 rintro _ _ rfl
 refine As rfl rfl<|Te<|Ct<|Xr ?_
 obtain ⟨rfl, rfl, rfl, rfl, rfl, rfl, rfl, rfl, rfl, rfl, rfl, rfl, rfl⟩ := some13 hm
 refine Xp 1 rfl ?_
 exact rM (rs := [.cell 10 33, .tmp 11]) (vs := [.agg #[iv 0, iv 0, iv 0, iv 0, iv 0, iv 0, iv 0, iv 0], bv false]) ⟨⟨_, rfl, fun w ho => cell_agg (vs := [_, _, _, _, _, _, _, _]) 3 8 agg33 rfl rfl rfl w ho⟩, ⟨rfl, trivial⟩⟩ ⟨rfl, rfl⟩ (.cons_cons _ (.cons _ (.cons _ (.cons _ (.refl _))))) (aB.trans (aK.trans bI))
 rw [if_neg (of_decide_eq_false aP)] at hm
 refine Ck<|Xn<|Cr<|M rfl rfl<|Ts rfl (sN rfl)<|Ts rfl (sF rfl fld45_2)<|Ts rfl (sL 1 rfl one3 rfl rfl) ?_
 obtain ⟨_, aQ, hm⟩ := bS hm
 have aQ := (kS aQ).2
 refine Ts rfl (sa rfl rfl aQ)<|Ts rfl (sN rfl)<|Ts rfl (sF rfl fld45_2)<|Do rfl (uS 1 rfl rfl siz3 rfl rfl (by simp)) ?_
 rintro _ _ rfl
 refine Te ?_
 obtain ⟨_, cl, cm⟩ := bS hm
 refine Cj (fun bK e' hp' => [(10, pb j), (13, pb bJ)] = e' ∧ (j, Cl 33 [iv 0, iv 0, iv 0, iv 0, iv 0, iv 0, iv 0, iv 0]) :: (bJ, Cl 33 [iv S, iv f, iv (i + 1), iv T, iv U, iv V, iv W, iv d]) :: (c, Cl 45 [iv f, iv n, iv (i + 1), iv a.No, iv d]) :: R = hp' ∧ ck.Le bK) ?_ ?_
 have hm := cl
 refine Di mixed (.cons _ (.refl _))<|E0 0 rfl (sM rfl)<|E0 1 rfl (sN rfl)<|E0 2 rfl (sF rfl fld45_0)<|Es 3 rfl (sL 0 rfl one3 rfl rfl)<|E0 4 rfl (sM rfl)<|E0 5 rfl (sN rfl)<|E0 6 rfl (sF rfl fld45_2)<|Es 7 rfl (sL 0 rfl one3 rfl rfl)<|E0 8 rfl (sM rfl) ?_
 refine E0 9 rfl (sF rfl fld33_1)<|Eo<|Da [10] (by kernel_rfl) rfl ?_
 refine Rd2 lr rfl rfl (uS 0 rfl rfl siz3 rfl rfl (by simp)) ?_ ?_
 rintro _ _ rfl
 refine ⟨.inr (.cons _ (.refl _)), ?_⟩
 refine Ei lr (.cons _ (.refl _))<|E0 11 rfl (sF rfl fld33_2)<|Eo<|Da [12] (by kernel_rfl) rfl ?_
 refine Rd2 lr rfl rfl (uS 0 rfl rfl siz3 rfl rfl (by simp)) ?_ ?_
 rintro _ _ rfl
 refine ⟨.inl (by kernel_rfl), ?_⟩
 refine El lr<|E0 13 rfl (sF rfl fld33_7)<|Eo<|Da [14] (by kernel_rfl) rfl ?_
 refine Rd2 lr rfl rfl (uS 0 rfl rfl siz3 rfl rfl (by simp)) ?_ ?_
 rintro _ _ rfl
 refine ⟨.inl (by kernel_rfl), ?_⟩
 refine Dd (by kernel_rfl) ?_
 clear hm
 refine Xp 1 rfl<|Xp 1 rfl<|Xp 3 rfl ?_
 exact xJ ⟨rfl, rfl, lr⟩ (.cons_cons _ (.cons_cons _ (.cons_cons _ (.cons _ (.refl _)))))
 exact Rn
 exact Rn
 exact Rn
 rintro bK _ _ ⟨rfl, rfl, cn⟩
 have hm := cm
 refine Cr<|Ts rfl (sD (vs := [_, _, _, _, _, _, _, _]) 1 8 rfl agg33 rfl rfl rfl)<|Do rfl (uN (vs := [_, _, _, _, _, _, _, _]) 0 8 rfl rfl rfl siz33 rfl (mc rfl (mc rfl (mc rfl (mc rfl (mc rfl (mc rfl (mc rfl (mc rfl mn)))))))) rfl (by simp)) ?_
 rintro _ _ rfl
 refine As rfl rfl<|Te<|Ct ?_
 obtain ⟨rfl, rfl, rfl, rfl, rfl, rfl, rfl, rfl, rfl, rfl, rfl, rfl, rfl⟩ := some13 hm
 refine Xp 2 rfl ?_
 exact rM (rs := [.cell 10 33, .tmp 11]) (vs := [.agg #[iv S, iv f, iv (i + 1), iv T, iv U, iv V, iv W, iv d], bv true]) ⟨⟨_, rfl, fun w ho => cell_agg (vs := [_, _, _, _, _, _, _, _]) 1 8 agg33 rfl rfl rfl w ho⟩, ⟨rfl, trivial⟩⟩ ⟨rfl, rfl⟩ (.cons_cons _ (.cons _ (.cons _ (.refl _)))) (aB.trans (aK.trans (bI.trans cn)))
 rw [if_neg J] at hm
 rcases Decidable.em (a.Kind = (4 : Int)) with X | X
 rw [if_pos X] at hm
 have co : mgetD (mput (mput (mput (mput ([] : (List (Int × Value))) 2 (.func (.func 26) #[pb c] #[] : Value)) 4 (.func (.func 27) #[pb c] #[] : Value)) 5 (.func (.func 28) #[pb c] #[] : Value)) 6 (.func (.func 29) #[pb c] #[] : Value)) a.Kind Value.nilFunc = .func (.func 27) #[pb c] #[] := by rw [X]; rfl
 obtain rfl : s = .func (.func 27) #[pb c] #[] := by have q : [s] = [mgetD (mput (mput (mput (mput ([] : (List (Int × Value))) 2 (.func (.func 26) #[pb c] #[] : Value)) 4 (.func (.func 27) #[pb c] #[] : Value)) 5 (.func (.func 28) #[pb c] #[] : Value)) 6 (.func (.func 29) #[pb c] #[] : Value)) a.Kind Value.nilFunc] := H.1; rw [co] at q; injection q
 refine Ts rfl (st_mlook (ok := false) rfl rfl (fun w ho => I _ w ho (.cons _ (.cons _ (.cons _ (List.sublist_append_left _ _)))) false))<|As rfl rfl<|Te<|Cs ?_
 obtain ⟨cp, cq, cr⟩ := bS hm
 refine Cj (fun aR e' hp' => [(0, pb c), (2, iv d), (3, iv e), (4, iv g), (6, pb m), (10, pb j), (12, .func (.func 27) #[pb c] #[]), (62, bv cp)] = e' ∧ (c, Cl 45 [iv f, iv n, iv i, iv o, iv r]) :: (m, Cl 33 [iv a.Kind, iv a.Session, iv a.No, iv a.Of, iv a.End, iv a.At, iv a.Speed, iv a.Sent]) :: (j, Cl 33 [iv 0, iv 0, iv 0, iv 0, iv 0, iv 0, iv 0, iv 0]) :: R = hp' ∧ b.Le aR) ?_ ?_
 have hm := cq
 obtain ⟨B, Y, hm⟩ := bS hm
 rcases Bool.eq_false_or_eq_true B with u | u
 rw [if_pos u] at hm
 by_cases C : a.Session ≠ f
 rw [if_pos C] at hm
 refine Di mixed (.refl _)<|E0 0 rfl (sM rfl)<|E0 1 rfl (st_eqfF rfl rfl fnt60)<|E0 2 rfl (sM rfl)<|Ey 3 29 rfl (sD (vs := [_, _, _, _, _, _, _, _]) 1 8 rfl agg33 rfl rfl rfl)<|Yz 4 29 rfl (sM rfl)<|Eo<|Da [5] (by kernel_rfl) rfl ?_
 refine R_doY lr rfl rfl 29 rfl rfl rfl (uW _ call30 rfl (fun w ho => cGuardFresh _ [] a d B Y) (fun _ _ _ h => h.2.symm)) ?_ ?_
 rintro _ _ ⟨⟨_, rfl, _⟩, rfl⟩
 refine ⟨.inr (.refl _), ?_⟩
 refine d_resp 32 rfl (v' := .bool true) (by rw [u])<|Ei lr (.refl _)<|Yz 6 29 rfl (st_not_t rfl)<|E0 7 rfl (pF rfl rfl)<|E0 8 rfl (sM rfl)<|Yz 9 35 rfl (sF rfl fld33_1)<|Ey 10 35 rfl (sL 1 rfl one3 rfl rfl)<|Yz 11 35 rfl (sM rfl)<|Yz 12 35 rfl (sN rfl)<|Yz 13 35 rfl (sF rfl fld45_0) ?_
 refine Ey 14 35 rfl (sL 2 rfl one3 rfl rfl)<|Yz 15 35 rfl (st_neq_t rfl rfl C)<|E0 16 rfl (pF rfl rfl)<|E0 17 rfl (sM rfl)<|En 18 44 rfl rfl rfl<|En 19 44 rfl rfl rfl<|En 20 44 rfl rfl rfl<|En 21 44 rfl rfl rfl<|En 22 44 rfl rfl rfl<|En 23 44 rfl rfl rfl ?_
 refine En 24 44 rfl rfl rfl<|E0 25 rfl (pT rfl rfl)<|E0 26 rfl (sM rfl)<|En 27 53 rfl rfl rfl<|En 28 53 rfl rfl rfl<|En 29 53 rfl rfl rfl<|E0 30 rfl (pT rfl rfl)<|E0 31 rfl (sM rfl)<|En 32 58 rfl rfl rfl<|En 33 58 rfl rfl rfl ?_
 refine En 34 58 rfl rfl rfl<|E0 35 rfl (pT rfl rfl)<|Eo<|Dd (by kernel_rfl) ?_
 obtain rfl := o1 hm
 refine Xp 1 rfl<|Xp 2 rfl ?_
 exact xJ ⟨rfl, rfl, lr⟩ (.cons_cons _ (.cons_cons _ (.cons_cons _ (ss l (.refl _)))))
 exact Rn
 rw [if_neg C] at hm
 by_cases Z : a.No ≤ o
 rw [if_pos Z] at hm
 refine Di mixed (.refl _)<|E0 0 rfl (sM rfl)<|E0 1 rfl (st_eqfF rfl rfl fnt60)<|E0 2 rfl (sM rfl)<|Ey 3 29 rfl (sD (vs := [_, _, _, _, _, _, _, _]) 1 8 rfl agg33 rfl rfl rfl)<|Yz 4 29 rfl (sM rfl)<|Eo<|Da [5] (by kernel_rfl) rfl ?_
 refine R_doY lr rfl rfl 29 rfl rfl rfl (uW _ call30 rfl (fun w ho => cGuardFresh _ [] a d B Y) (fun _ _ _ h => h.2.symm)) ?_ ?_
 rintro _ _ ⟨⟨_, rfl, _⟩, rfl⟩
 refine ⟨.inr (.refl _), ?_⟩
 refine d_resp 32 rfl (v' := .bool true) (by rw [u])<|Ei lr (.refl _)<|Yz 6 29 rfl (st_not_t rfl)<|E0 7 rfl (pF rfl rfl)<|E0 8 rfl (sM rfl)<|Yz 9 35 rfl (sF rfl fld33_1)<|Ey 10 35 rfl (sL 1 rfl one3 rfl rfl)<|Yz 11 35 rfl (sM rfl)<|Yz 12 35 rfl (sN rfl)<|Yz 13 35 rfl (sF rfl fld45_0) ?_
 refine Ey 14 35 rfl (sL 2 rfl one3 rfl rfl)<|Yz 15 35 rfl (st_neq_f rfl rfl C)<|E0 16 rfl (pF rfl rfl)<|E0 17 rfl (sM rfl)<|Yz 18 44 rfl (sF rfl fld33_2)<|Ey 19 44 rfl (sL 1 rfl one3 rfl rfl)<|Yz 20 44 rfl (sM rfl)<|Yz 21 44 rfl (sN rfl)<|Yz 22 44 rfl (sF rfl fld45_3)<|Ey 23 44 rfl (sL 2 rfl one3 rfl rfl) ?_
 refine Yz 24 44 rfl (st_leq_t rfl rfl Z)<|E0 25 rfl (pF rfl rfl)<|E0 26 rfl (sM rfl)<|En 27 53 rfl rfl rfl<|En 28 53 rfl rfl rfl<|En 29 53 rfl rfl rfl<|E0 30 rfl (pT rfl rfl)<|E0 31 rfl (sM rfl)<|En 32 58 rfl rfl rfl<|En 33 58 rfl rfl rfl ?_
 refine En 34 58 rfl rfl rfl<|E0 35 rfl (pT rfl rfl)<|Eo<|Dd (by kernel_rfl) ?_
 obtain rfl := o1 hm
 refine Xp 1 rfl<|Xp 2 rfl ?_
 exact xJ ⟨rfl, rfl, lr⟩ (.cons_cons _ (.cons_cons _ (.cons_cons _ (ss l (.refl _)))))
 exact Rn
 rw [if_neg Z] at hm
 obtain ⟨aS, bL, hm⟩ := bS hm
 rcases Bool.eq_false_or_eq_true aS with aa | aa
 rw [if_pos aa] at hm
 obtain ⟨cs, ct, hm⟩ := bS hm
 refine Di mixed (.refl _)<|E0 0 rfl (sM rfl)<|E0 1 rfl (st_eqfF rfl rfl fnt60)<|E0 2 rfl (sM rfl)<|Ey 3 29 rfl (sD (vs := [_, _, _, _, _, _, _, _]) 1 8 rfl agg33 rfl rfl rfl)<|Yz 4 29 rfl (sM rfl)<|Eo<|Da [5] (by kernel_rfl) rfl ?_
 refine R_doY lr rfl rfl 29 rfl rfl rfl (uW _ call30 rfl (fun w ho => cGuardFresh _ [] a d B Y) (fun _ _ _ h => h.2.symm)) ?_ ?_
 rintro _ _ ⟨⟨_, rfl, _⟩, rfl⟩
 refine ⟨.inr (.refl _), ?_⟩
 refine d_resp 32 rfl (v' := .bool true) (by rw [u])<|Ei lr (.refl _)<|Yz 6 29 rfl (st_not_t rfl)<|E0 7 rfl (pF rfl rfl)<|E0 8 rfl (sM rfl)<|Yz 9 35 rfl (sF rfl fld33_1)<|Ey 10 35 rfl (sL 1 rfl one3 rfl rfl)<|Yz 11 35 rfl (sM rfl)<|Yz 12 35 rfl (sN rfl)<|Yz 13 35 rfl (sF rfl fld45_0) ?_
 refine Ey 14 35 rfl (sL 2 rfl one3 rfl rfl)<|Yz 15 35 rfl (st_neq_f rfl rfl C)<|E0 16 rfl (pF rfl rfl)<|E0 17 rfl (sM rfl)<|Yz 18 44 rfl (sF rfl fld33_2)<|Ey 19 44 rfl (sL 1 rfl one3 rfl rfl)<|Yz 20 44 rfl (sM rfl)<|Yz 21 44 rfl (sN rfl)<|Yz 22 44 rfl (sF rfl fld45_3)<|Ey 23 44 rfl (sL 2 rfl one3 rfl rfl) ?_
 refine Yz 24 44 rfl (st_leq_f rfl rfl Z)<|E0 25 rfl (pF rfl rfl)<|E0 26 rfl (sM rfl)<|Yz 27 53 rfl (sM rfl)<|Eo<|Da [28] (by kernel_rfl) rfl ?_
 refine R_doY lr rfl rfl 53 rfl rfl rfl (uW _ call16 rfl (fun w ho => cGuardWithin _ [] e 0 20000000 aS bL) (fun _ _ _ h => h.2.symm)) ?_ ?_
 rintro _ _ ⟨⟨_, rfl, _⟩, rfl⟩
 refine ⟨.inr (.refl _), ?_⟩
 refine d_resp 55 rfl (v' := .bool true) (by rw [aa])<|Ei lr (.refl _)<|Yz 29 53 rfl (st_not_t rfl)<|E0 30 rfl (pF rfl rfl)<|E0 31 rfl (sM rfl)<|Yz 32 58 rfl (sM rfl)<|Eo<|Da [33] (by kernel_rfl) rfl ?_
 refine R_doY lr rfl rfl 58 rfl rfl rfl (uW _ call16 rfl (fun w ho => cGuardWithin _ [] g 0 20000000 cs ct) (fun _ _ _ h => h.2.symm)) ?_ ?_
 rintro _ _ ⟨⟨_, rfl, _⟩, rfl⟩
 refine ⟨.inr (.refl _), ?_⟩
 refine Ei lr (.refl _)<|Yz 34 58 rfl (sn2 rfl)<|E0 35 rfl (pF rfl rfl)<|Eo<|Dd (by kernel_rfl) ?_
 obtain rfl := o1 hm
 refine Xp 1 rfl<|Xp 2 rfl ?_
 exact xJ ⟨rfl, rfl, lr⟩ (.cons_cons _ (.cons_cons _ (.cons_cons _ (ss l (.refl _)))))
 exact Rn
 exact Rn
 exact Rn
 rw [if_neg (fun hh => Bool.noConfusion (hh.symm.trans aa))] at hm
 refine Di mixed (.refl _)<|E0 0 rfl (sM rfl)<|E0 1 rfl (st_eqfF rfl rfl fnt60)<|E0 2 rfl (sM rfl)<|Ey 3 29 rfl (sD (vs := [_, _, _, _, _, _, _, _]) 1 8 rfl agg33 rfl rfl rfl)<|Yz 4 29 rfl (sM rfl)<|Eo<|Da [5] (by kernel_rfl) rfl ?_
 refine R_doY lr rfl rfl 29 rfl rfl rfl (uW _ call30 rfl (fun w ho => cGuardFresh _ [] a d B Y) (fun _ _ _ h => h.2.symm)) ?_ ?_
 rintro _ _ ⟨⟨_, rfl, _⟩, rfl⟩
 refine ⟨.inr (.refl _), ?_⟩
 refine d_resp 32 rfl (v' := .bool true) (by rw [u])<|Ei lr (.refl _)<|Yz 6 29 rfl (st_not_t rfl)<|E0 7 rfl (pF rfl rfl)<|E0 8 rfl (sM rfl)<|Yz 9 35 rfl (sF rfl fld33_1)<|Ey 10 35 rfl (sL 1 rfl one3 rfl rfl)<|Yz 11 35 rfl (sM rfl)<|Yz 12 35 rfl (sN rfl)<|Yz 13 35 rfl (sF rfl fld45_0) ?_
 refine Ey 14 35 rfl (sL 2 rfl one3 rfl rfl)<|Yz 15 35 rfl (st_neq_f rfl rfl C)<|E0 16 rfl (pF rfl rfl)<|E0 17 rfl (sM rfl)<|Yz 18 44 rfl (sF rfl fld33_2)<|Ey 19 44 rfl (sL 1 rfl one3 rfl rfl)<|Yz 20 44 rfl (sM rfl)<|Yz 21 44 rfl (sN rfl)<|Yz 22 44 rfl (sF rfl fld45_3)<|Ey 23 44 rfl (sL 2 rfl one3 rfl rfl) ?_
 refine Yz 24 44 rfl (st_leq_f rfl rfl Z)<|E0 25 rfl (pF rfl rfl)<|E0 26 rfl (sM rfl)<|Yz 27 53 rfl (sM rfl)<|Eo<|Da [28] (by kernel_rfl) rfl ?_
 refine R_doY lr rfl rfl 53 rfl rfl rfl (uW _ call16 rfl (fun w ho => cGuardWithin _ [] e 0 20000000 aS bL) (fun _ _ _ h => h.2.symm)) ?_ ?_
 rintro _ _ ⟨⟨_, rfl, _⟩, rfl⟩
 refine ⟨.inr (.refl _), ?_⟩
 refine d_resp 55 rfl (v' := .bool false) (by rw [aa])<|Ei lr (.refl _)<|Yz 29 53 rfl (st_not_f rfl)<|E0 30 rfl (pF rfl rfl)<|E0 31 rfl (sM rfl)<|En 32 58 rfl rfl rfl<|En 33 58 rfl rfl rfl<|En 34 58 rfl rfl rfl<|E0 35 rfl (pT rfl rfl)<|Eo ?_
 refine Dd (by kernel_rfl) ?_
 obtain rfl := o1 hm
 refine Xp 1 rfl<|Xp 2 rfl ?_
 exact xJ ⟨rfl, rfl, lr⟩ (.cons_cons _ (.cons_cons _ (.cons_cons _ (ss l (.refl _)))))
 exact Rn
 exact Rn
 rw [if_neg (fun hh => Bool.noConfusion (hh.symm.trans u))] at hm
 refine Di mixed (.refl _)<|E0 0 rfl (sM rfl)<|E0 1 rfl (st_eqfF rfl rfl fnt60)<|E0 2 rfl (sM rfl)<|Ey 3 29 rfl (sD (vs := [_, _, _, _, _, _, _, _]) 1 8 rfl agg33 rfl rfl rfl)<|Yz 4 29 rfl (sM rfl)<|Eo<|Da [5] (by kernel_rfl) rfl ?_
 refine R_doY lr rfl rfl 29 rfl rfl rfl (uW _ call30 rfl (fun w ho => cGuardFresh _ [] a d B Y) (fun _ _ _ h => h.2.symm)) ?_ ?_
 rintro _ _ ⟨⟨_, rfl, _⟩, rfl⟩
 refine ⟨.inr (.refl _), ?_⟩
 refine d_resp 32 rfl (v' := .bool false) (by rw [u])<|Ei lr (.refl _)<|Yz 6 29 rfl (st_not_f rfl)<|E0 7 rfl (pF rfl rfl)<|E0 8 rfl (sM rfl)<|En 9 35 rfl rfl rfl<|En 10 35 rfl rfl rfl<|En 11 35 rfl rfl rfl<|En 12 35 rfl rfl rfl<|En 13 35 rfl rfl rfl ?_
 refine En 14 35 rfl rfl rfl<|En 15 35 rfl rfl rfl<|E0 16 rfl (pT rfl rfl)<|E0 17 rfl (sM rfl)<|En 18 44 rfl rfl rfl<|En 19 44 rfl rfl rfl<|En 20 44 rfl rfl rfl<|En 21 44 rfl rfl rfl<|En 22 44 rfl rfl rfl<|En 23 44 rfl rfl rfl ?_
 refine En 24 44 rfl rfl rfl<|E0 25 rfl (pT rfl rfl)<|E0 26 rfl (sM rfl)<|En 27 53 rfl rfl rfl<|En 28 53 rfl rfl rfl<|En 29 53 rfl rfl rfl<|E0 30 rfl (pT rfl rfl)<|E0 31 rfl (sM rfl)<|En 32 58 rfl rfl rfl<|En 33 58 rfl rfl rfl ?_
 refine En 34 58 rfl rfl rfl<|E0 35 rfl (pT rfl rfl)<|Eo<|Dd (by kernel_rfl) ?_
 obtain rfl := o1 hm
 refine Xp 1 rfl<|Xp 2 rfl ?_
 exact xJ ⟨rfl, rfl, lr⟩ (.cons_cons _ (.cons_cons _ (.cons_cons _ (ss l (.refl _)))))
 exact Rn
 rintro aR _ _ ⟨rfl, rfl, aC⟩
 have hm := cr
 refine Cc _ rfl (fun aT => ?_) (fun aT => ?_)
 rw [if_pos aT] at hm
 refine Cr<|Ts rfl (sB (v := .agg #[iv 0, iv 0, iv 0, iv 0, iv 0, iv 0, iv 0, iv 0]) [] rfl (fun _ => by kernel_rfl))<|Do rfl (uN (vs := [_, _, _, _, _, _, _, _]) 2 8 rfl rfl rfl siz33 rfl (mc rfl (mc rfl (mc rfl (mc rfl (mc rfl (mc rfl (mc rfl (mc rfl mn)))))))) rfl (by simp)) ?_
 rintro _ _ rfl
 refine As rfl rfl<|Te<|Ct<|Xr ?_
 obtain ⟨rfl, rfl, rfl, rfl, rfl, rfl, rfl, rfl, rfl, rfl, rfl, rfl, rfl⟩ := some13 hm
 exact rM (rs := [.cell 10 33, .tmp 11]) (vs := [.agg #[iv 0, iv 0, iv 0, iv 0, iv 0, iv 0, iv 0, iv 0], bv false]) ⟨⟨_, rfl, fun w ho => cell_agg (vs := [_, _, _, _, _, _, _, _]) 2 8 agg33 rfl rfl rfl w ho⟩, ⟨rfl, trivial⟩⟩ ⟨rfl, rfl⟩ (.cons_cons _ (.cons _ (.cons _ (.refl _)))) aC
 rw [if_neg (fun hh => Bool.noConfusion (hh.symm.trans aT))] at hm
 refine Ck<|Xn<|Cs ?_
 obtain ⟨cu, cv, cw⟩ := bS hm
 refine Cj (fun bM e' hp' => [(0, pb c), (2, iv d), (3, iv e), (4, iv g), (6, pb m), (10, pb j), (12, .func (.func 27) #[pb c] #[]), (78, bv cu)] = e' ∧ (c, Cl 45 [iv f, iv n, iv i, iv o, iv r]) :: (m, Cl 33 [iv a.Kind, iv a.Session, iv a.No, iv a.Of, iv a.End, iv a.At, iv a.Speed, iv a.Sent]) :: (j, Cl 33 [iv 0, iv 0, iv 0, iv 0, iv 0, iv 0, iv 0, iv 0]) :: R = hp' ∧ aR.Le bM) ?_ ?_
 have hm := cv
 refine Cg<|Ts rfl (sF rfl fld33_0)<|Ts rfl (sL 1 rfl one3 rfl rfl) ?_
 refine Tb rfl (q1 rfl rfl) (fun aU => ?_) (fun aU => ?_)
 rw [if_pos aU] at hm
 refine M rfl rfl<|No 67 rfl rfl rfl rfl rfl<|No 67 rfl rfl rfl rfl rfl<|No 67 rfl rfl rfl rfl rfl<|Ts rfl (pT rfl rfl)<|M rfl rfl<|Ys 72 rfl rfl rfl<|M rfl rfl<|Ys 72 rfl rfl rfl<|Ts rfl (sN rfl) ?_
 refine Ys 72 rfl rfl rfl<|Ts rfl (sF rfl fld45_2)<|Ys 72 rfl rfl rfl<|Ts rfl (sL 0 rfl one3 rfl rfl)<|Ys 72 rfl rfl rfl<|Ts rfl (q6 rfl rfl)<|Ts rfl (pT rfl rfl)<|Tn ?_
 obtain rfl := o1 hm
 refine Xp 2 rfl<|Xp 2 rfl<|Xp 2 rfl ?_
 exact xJ ⟨rfl, rfl, lr⟩ (.refl _)
 rw [if_neg aU] at hm
 refine M rfl rfl<|Ys 67 rfl rfl rfl<|Ts rfl (sF rfl fld33_0)<|Ys 67 rfl rfl rfl<|Ts rfl (sL 1 rfl one3 rfl rfl)<|Ys 67 rfl rfl rfl ?_
 refine Tb rfl (q1 rfl rfl) (fun aV => ?_) (fun aV => ?_)
 rw [if_pos aV] at hm
 refine Ts rfl (pF rfl rfl)<|M rfl rfl<|Ys 72 rfl rfl rfl<|M rfl rfl<|Ys 72 rfl rfl rfl<|Ts rfl (sN rfl)<|Ys 72 rfl rfl rfl<|Ts rfl (sF rfl fld45_2)<|Ys 72 rfl rfl rfl<|Ts rfl (sL 0 rfl one3 rfl rfl) ?_
 refine Ys 72 rfl rfl rfl<|Ts rfl (q6 rfl rfl)<|Ts rfl (pT rfl rfl)<|Tn ?_
 obtain rfl := o1 hm
 refine Xp 2 rfl<|Xp 2 rfl<|Xp 2 rfl ?_
 exact xJ ⟨rfl, rfl, lr⟩ (.refl _)
 rw [if_neg aV] at hm
 refine Ts rfl (pF rfl rfl)<|M rfl rfl<|No 72 rfl rfl rfl rfl rfl<|No 72 rfl rfl rfl rfl rfl<|No 72 rfl rfl rfl rfl rfl<|No 72 rfl rfl rfl rfl rfl<|No 72 rfl rfl rfl rfl rfl<|Ts rfl (pF rfl rfl)<|Tn ?_
 obtain rfl := o1 hm
 refine Xp 2 rfl<|Xp 2 rfl<|Xp 2 rfl ?_
 exact xJ ⟨rfl, rfl, lr⟩ (.refl _)
 rintro bM _ _ ⟨rfl, rfl, aW⟩
 have hm := cw
 refine Cc _ rfl (fun aX => ?_) (fun aX => ?_)
 rw [if_pos aX] at hm
 refine Cr<|Ts rfl (sB (v := .agg #[iv 0, iv 0, iv 0, iv 0, iv 0, iv 0, iv 0, iv 0]) [] rfl (fun _ => by kernel_rfl))<|Do rfl (uN (vs := [_, _, _, _, _, _, _, _]) 2 8 rfl rfl rfl siz33 rfl (mc rfl (mc rfl (mc rfl (mc rfl (mc rfl (mc rfl (mc rfl (mc rfl mn)))))))) rfl (by simp)) ?_
 rintro _ _ rfl
 refine As rfl rfl<|Te<|Ct<|Xr ?_
 obtain ⟨rfl, rfl, rfl, rfl, rfl, rfl, rfl, rfl, rfl, rfl, rfl, rfl, rfl⟩ := some13 hm
 exact rM (rs := [.cell 10 33, .tmp 11]) (vs := [.agg #[iv 0, iv 0, iv 0, iv 0, iv 0, iv 0, iv 0, iv 0], bv false]) ⟨⟨_, rfl, fun w ho => cell_agg (vs := [_, _, _, _, _, _, _, _]) 2 8 agg33 rfl rfl rfl w ho⟩, ⟨rfl, trivial⟩⟩ ⟨rfl, rfl⟩ (.cons_cons _ (.cons _ (.cons _ (.refl _)))) (aC.trans aW)
 rw [if_neg (fun hh => Bool.noConfusion (hh.symm.trans aX))] at hm
 refine Ck<|Xn<|Cr<|M rfl rfl<|M rfl rfl<|Ts rfl (sF rfl fld33_2)<|Ts rfl (sL 1 rfl one3 rfl rfl)<|M rfl rfl<|Ts rfl (sN rfl)<|Ts rfl (sF rfl fld45_3) ?_
 refine Do rfl (uS 0 rfl rfl siz3 rfl rfl (by simp)) ?_
 rintro _ _ rfl
 refine Ts rfl (sN rfl)<|Ts rfl (sF rfl fld45_4)<|Do rfl (uS 0 rfl rfl siz3 rfl rfl (by simp)) ?_
 rintro _ _ rfl
 refine Te<|Cr<|M rfl rfl<|Ts rfl (sD (vs := [_, _, _, _, _, _, _, _]) 1 8 rfl agg33 rfl rfl rfl)<|M rfl rfl<|M rfl rfl<|Ts rfl (sB (v := .agg #[iv e, iv g]) [(0, iv e), (1, iv g)] rfl (fun _ => by kernel_rfl)) ?_
 obtain ⟨⟨ab, aY, aZ, ac, ad, ae, af, a0, bN⟩, cx, hm⟩ := bS hm
 have hm := (unc9E hm)
 refine Tv #[pb c] #[] [.agg #[iv a.Kind, iv a.Session, iv a.No, iv a.Of, iv a.End, iv a.At, iv a.Speed, iv a.Sent], .agg #[iv e, iv g]] rfl rfl call27 rfl (cGuardUnitGrant _ _ a (⟨e, g⟩ : GuardStand) f n i a.No d c ab aY aZ ac ad ae af a0 bN cx) ?_
 rintro _ cy _ bO ⟨rfl, rfl⟩
 refine Do rfl (uA [iv 0, iv 0, iv 0, iv 0, iv 0, iv 0, iv 0, iv 0] zero33 rfl) ?_
 rintro _ _ ⟨bP, rfl, rfl⟩
 refine Do rfl (uN (vs := [_, _, _, _, _, _, _, _]) 0 8 rfl rfl rfl siz33 rfl (mc rfl (mc rfl (mc rfl (mc rfl (mc rfl (mc rfl (mc rfl (mc rfl mn)))))))) rfl (by simp)) ?_
 rintro _ _ rfl
 refine Te<|Cs<|Cr<|Ts rfl (sD (vs := [_, _, _, _, _, _, _, _]) 0 8 rfl agg33 rfl rfl rfl)<|Ts rfl (sB (v := .agg #[iv 0, iv 0, iv 0, iv 0, iv 0, iv 0, iv 0, iv 0]) [] rfl (fun _ => by kernel_rfl))<|Ts rfl (st_eqlA (xs := [iv ab, iv aY, iv aZ, iv ac, iv ad, iv ae, iv af, iv a0]) (ys := [iv 0, iv 0, iv 0, iv 0, iv 0, iv 0, iv 0, iv 0]) (p := ab = 0 ∧ aY = 0 ∧ aZ = 0 ∧ ac = 0 ∧ ad = 0 ∧ ae = 0 ∧ af = 0 ∧ a0 = 0) rfl rfl eqt33 ⟨⟨_, rfl⟩, ⟨⟨_, rfl⟩, ⟨⟨_, rfl⟩, ⟨⟨_, rfl⟩, ⟨⟨_, rfl⟩, ⟨⟨_, rfl⟩, ⟨⟨_, rfl⟩, ⟨⟨_, rfl⟩, trivial⟩⟩⟩⟩⟩⟩⟩⟩ ⟨⟨_, rfl⟩, ⟨⟨_, rfl⟩, ⟨⟨_, rfl⟩, ⟨⟨_, rfl⟩, ⟨⟨_, rfl⟩, ⟨⟨_, rfl⟩, ⟨⟨_, rfl⟩, ⟨⟨_, rfl⟩, trivial⟩⟩⟩⟩⟩⟩⟩⟩ (by simp [eqCells, eqCell, Bool.decide_and, beq_dec]))<|Te ?_
 refine Cc _ rfl (fun a1 => ?_) (fun a1 => ?_)
 rw [if_pos (of_decide_eq_true a1)] at hm
 refine Cr<|Ts rfl (sB (v := .agg #[iv 0, iv 0, iv 0, iv 0, iv 0, iv 0, iv 0, iv 0]) [] rfl (fun _ => by kernel_rfl))<|Do rfl (uN (vs := [_, _, _, _, _, _, _, _]) 3 8 rfl rfl rfl siz33 rfl (mc rfl (mc rfl (mc rfl (mc rfl (mc rfl (mc rfl (mc rfl (mc rfl mn)))))))) rfl (by simp)) ?_
 rintro _ _ rfl
 refine As rfl rfl<|Te<|Ct<|Xr ?_
 obtain ⟨rfl, rfl, rfl, rfl, rfl, rfl, rfl, rfl, rfl, rfl, rfl, rfl, rfl⟩ := some13 hm
 refine Xp 1 rfl ?_
 exact rM (rs := [.cell 10 33, .tmp 11]) (vs := [.agg #[iv 0, iv 0, iv 0, iv 0, iv 0, iv 0, iv 0, iv 0], bv false]) ⟨⟨_, rfl, fun w ho => cell_agg (vs := [_, _, _, _, _, _, _, _]) 3 8 agg33 rfl rfl rfl w ho⟩, ⟨rfl, trivial⟩⟩ ⟨rfl, rfl⟩ (.cons_cons _ (.cons _ (.cons _ (.cons _ (.refl _))))) (aC.trans (aW.trans bO))
 rw [if_neg (of_decide_eq_false a1)] at hm
 refine Ck<|Xn<|Cr<|M rfl rfl<|Ts rfl (sN rfl)<|Ts rfl (sF rfl fld45_2)<|Ts rfl (sL 1 rfl one3 rfl rfl) ?_
 obtain ⟨_, a2, hm⟩ := bS hm
 have a2 := (kS a2).2
 refine Ts rfl (sa rfl rfl a2)<|Ts rfl (sN rfl)<|Ts rfl (sF rfl fld45_2)<|Do rfl (uS 1 rfl rfl siz3 rfl rfl (by simp)) ?_
 rintro _ _ rfl
 refine Te ?_
 obtain ⟨_, cz, cA⟩ := bS hm
 refine Cj (fun bQ e' hp' => [(10, pb j), (13, pb bP)] = e' ∧ (j, Cl 33 [iv 0, iv 0, iv 0, iv 0, iv 0, iv 0, iv 0, iv 0]) :: (bP, Cl 33 [iv ab, iv f, iv (i + 1), iv ac, iv ad, iv ae, iv af, iv d]) :: (c, Cl 45 [iv f, iv bN, iv (i + 1), iv a.No, iv d]) :: R = hp' ∧ cy.Le bQ) ?_ ?_
 have hm := cz
 refine Di mixed (.cons _ (.refl _))<|E0 0 rfl (sM rfl)<|E0 1 rfl (sN rfl)<|E0 2 rfl (sF rfl fld45_0)<|Es 3 rfl (sL 0 rfl one3 rfl rfl)<|E0 4 rfl (sM rfl)<|E0 5 rfl (sN rfl)<|E0 6 rfl (sF rfl fld45_2)<|Es 7 rfl (sL 0 rfl one3 rfl rfl)<|E0 8 rfl (sM rfl) ?_
 refine E0 9 rfl (sF rfl fld33_1)<|Eo<|Da [10] (by kernel_rfl) rfl ?_
 refine Rd2 lr rfl rfl (uS 0 rfl rfl siz3 rfl rfl (by simp)) ?_ ?_
 rintro _ _ rfl
 refine ⟨.inr (.cons _ (.refl _)), ?_⟩
 refine Ei lr (.cons _ (.refl _))<|E0 11 rfl (sF rfl fld33_2)<|Eo<|Da [12] (by kernel_rfl) rfl ?_
 refine Rd2 lr rfl rfl (uS 0 rfl rfl siz3 rfl rfl (by simp)) ?_ ?_
 rintro _ _ rfl
 refine ⟨.inl (by kernel_rfl), ?_⟩
 refine El lr<|E0 13 rfl (sF rfl fld33_7)<|Eo<|Da [14] (by kernel_rfl) rfl ?_
 refine Rd2 lr rfl rfl (uS 0 rfl rfl siz3 rfl rfl (by simp)) ?_ ?_
 rintro _ _ rfl
 refine ⟨.inl (by kernel_rfl), ?_⟩
 refine Dd (by kernel_rfl) ?_
 clear hm
 refine Xp 1 rfl<|Xp 1 rfl<|Xp 3 rfl ?_
 exact xJ ⟨rfl, rfl, lr⟩ (.cons_cons _ (.cons_cons _ (.cons_cons _ (.cons _ (.refl _)))))
 exact Rn
 exact Rn
 exact Rn
 rintro bQ _ _ ⟨rfl, rfl, cB⟩
 have hm := cA
 refine Cr<|Ts rfl (sD (vs := [_, _, _, _, _, _, _, _]) 1 8 rfl agg33 rfl rfl rfl)<|Do rfl (uN (vs := [_, _, _, _, _, _, _, _]) 0 8 rfl rfl rfl siz33 rfl (mc rfl (mc rfl (mc rfl (mc rfl (mc rfl (mc rfl (mc rfl (mc rfl mn)))))))) rfl (by simp)) ?_
 rintro _ _ rfl
 refine As rfl rfl<|Te<|Ct ?_
 obtain ⟨rfl, rfl, rfl, rfl, rfl, rfl, rfl, rfl, rfl, rfl, rfl, rfl, rfl⟩ := some13 hm
 refine Xp 2 rfl ?_
 exact rM (rs := [.cell 10 33, .tmp 11]) (vs := [.agg #[iv ab, iv f, iv (i + 1), iv ac, iv ad, iv ae, iv af, iv d], bv true]) ⟨⟨_, rfl, fun w ho => cell_agg (vs := [_, _, _, _, _, _, _, _]) 1 8 agg33 rfl rfl rfl w ho⟩, ⟨rfl, trivial⟩⟩ ⟨rfl, rfl⟩ (.cons_cons _ (.cons _ (.cons _ (.refl _)))) (aC.trans (aW.trans (bO.trans cB)))
 rw [if_neg X] at hm
 rcases Decidable.em (a.Kind = (5 : Int)) with ag | ag
 rw [if_pos ag] at hm
 have cC : mgetD (mput (mput (mput (mput ([] : (List (Int × Value))) 2 (.func (.func 26) #[pb c] #[] : Value)) 4 (.func (.func 27) #[pb c] #[] : Value)) 5 (.func (.func 28) #[pb c] #[] : Value)) 6 (.func (.func 29) #[pb c] #[] : Value)) a.Kind Value.nilFunc = .func (.func 28) #[pb c] #[] := by rw [ag]; rfl
 obtain rfl : s = .func (.func 28) #[pb c] #[] := by have q : [s] = [mgetD (mput (mput (mput (mput ([] : (List (Int × Value))) 2 (.func (.func 26) #[pb c] #[] : Value)) 4 (.func (.func 27) #[pb c] #[] : Value)) 5 (.func (.func 28) #[pb c] #[] : Value)) 6 (.func (.func 29) #[pb c] #[] : Value)) a.Kind Value.nilFunc] := H.1; rw [cC] at q; injection q
 refine Ts rfl (st_mlook (ok := false) rfl rfl (fun w ho => I _ w ho (.cons _ (.cons _ (.cons _ (List.sublist_append_left _ _)))) false))<|As rfl rfl<|Te<|Cs ?_
 obtain ⟨cD, cE, cG⟩ := bS hm
 refine Cj (fun a3 e' hp' => [(0, pb c), (2, iv d), (3, iv e), (4, iv g), (6, pb m), (10, pb j), (12, .func (.func 28) #[pb c] #[]), (62, bv cD)] = e' ∧ (c, Cl 45 [iv f, iv n, iv i, iv o, iv r]) :: (m, Cl 33 [iv a.Kind, iv a.Session, iv a.No, iv a.Of, iv a.End, iv a.At, iv a.Speed, iv a.Sent]) :: (j, Cl 33 [iv 0, iv 0, iv 0, iv 0, iv 0, iv 0, iv 0, iv 0]) :: R = hp' ∧ b.Le a3) ?_ ?_
 have hm := cE
 obtain ⟨D, ah, hm⟩ := bS hm
 rcases Bool.eq_false_or_eq_true D with x | x
 rw [if_pos x] at hm
 by_cases E : a.Session ≠ f
 rw [if_pos E] at hm
 refine Di mixed (.refl _)<|E0 0 rfl (sM rfl)<|E0 1 rfl (st_eqfF rfl rfl fnt60)<|E0 2 rfl (sM rfl)<|Ey 3 29 rfl (sD (vs := [_, _, _, _, _, _, _, _]) 1 8 rfl agg33 rfl rfl rfl)<|Yz 4 29 rfl (sM rfl)<|Eo<|Da [5] (by kernel_rfl) rfl ?_
 refine R_doY lr rfl rfl 29 rfl rfl rfl (uW _ call30 rfl (fun w ho => cGuardFresh _ [] a d D ah) (fun _ _ _ h => h.2.symm)) ?_ ?_
 rintro _ _ ⟨⟨_, rfl, _⟩, rfl⟩
 refine ⟨.inr (.refl _), ?_⟩
 refine d_resp 32 rfl (v' := .bool true) (by rw [x])<|Ei lr (.refl _)<|Yz 6 29 rfl (st_not_t rfl)<|E0 7 rfl (pF rfl rfl)<|E0 8 rfl (sM rfl)<|Yz 9 35 rfl (sF rfl fld33_1)<|Ey 10 35 rfl (sL 1 rfl one3 rfl rfl)<|Yz 11 35 rfl (sM rfl)<|Yz 12 35 rfl (sN rfl)<|Yz 13 35 rfl (sF rfl fld45_0) ?_
 refine Ey 14 35 rfl (sL 2 rfl one3 rfl rfl)<|Yz 15 35 rfl (st_neq_t rfl rfl E)<|E0 16 rfl (pF rfl rfl)<|E0 17 rfl (sM rfl)<|En 18 44 rfl rfl rfl<|En 19 44 rfl rfl rfl<|En 20 44 rfl rfl rfl<|En 21 44 rfl rfl rfl<|En 22 44 rfl rfl rfl<|En 23 44 rfl rfl rfl ?_
 refine En 24 44 rfl rfl rfl<|E0 25 rfl (pT rfl rfl)<|E0 26 rfl (sM rfl)<|En 27 53 rfl rfl rfl<|En 28 53 rfl rfl rfl<|En 29 53 rfl rfl rfl<|E0 30 rfl (pT rfl rfl)<|E0 31 rfl (sM rfl)<|En 32 58 rfl rfl rfl<|En 33 58 rfl rfl rfl ?_
 refine En 34 58 rfl rfl rfl<|E0 35 rfl (pT rfl rfl)<|Eo<|Dd (by kernel_rfl) ?_
 obtain rfl := o1 hm
 refine Xp 1 rfl<|Xp 2 rfl ?_
 exact xJ ⟨rfl, rfl, lr⟩ (.cons_cons _ (.cons_cons _ (.cons_cons _ (ss l (.refl _)))))
 exact Rn
 rw [if_neg E] at hm
 by_cases ai : a.No ≤ o
 rw [if_pos ai] at hm
 refine Di mixed (.refl _)<|E0 0 rfl (sM rfl)<|E0 1 rfl (st_eqfF rfl rfl fnt60)<|E0 2 rfl (sM rfl)<|Ey 3 29 rfl (sD (vs := [_, _, _, _, _, _, _, _]) 1 8 rfl agg33 rfl rfl rfl)<|Yz 4 29 rfl (sM rfl)<|Eo<|Da [5] (by kernel_rfl) rfl ?_
 refine R_doY lr rfl rfl 29 rfl rfl rfl (uW _ call30 rfl (fun w ho => cGuardFresh _ [] a d D ah) (fun _ _ _ h => h.2.symm)) ?_ ?_
 rintro _ _ ⟨⟨_, rfl, _⟩, rfl⟩
 refine ⟨.inr (.refl _), ?_⟩
 refine d_resp 32 rfl (v' := .bool true) (by rw [x])<|Ei lr (.refl _)<|Yz 6 29 rfl (st_not_t rfl)<|E0 7 rfl (pF rfl rfl)<|E0 8 rfl (sM rfl)<|Yz 9 35 rfl (sF rfl fld33_1)<|Ey 10 35 rfl (sL 1 rfl one3 rfl rfl)<|Yz 11 35 rfl (sM rfl)<|Yz 12 35 rfl (sN rfl)<|Yz 13 35 rfl (sF rfl fld45_0) ?_
 refine Ey 14 35 rfl (sL 2 rfl one3 rfl rfl)<|Yz 15 35 rfl (st_neq_f rfl rfl E)<|E0 16 rfl (pF rfl rfl)<|E0 17 rfl (sM rfl)<|Yz 18 44 rfl (sF rfl fld33_2)<|Ey 19 44 rfl (sL 1 rfl one3 rfl rfl)<|Yz 20 44 rfl (sM rfl)<|Yz 21 44 rfl (sN rfl)<|Yz 22 44 rfl (sF rfl fld45_3)<|Ey 23 44 rfl (sL 2 rfl one3 rfl rfl) ?_
 refine Yz 24 44 rfl (st_leq_t rfl rfl ai)<|E0 25 rfl (pF rfl rfl)<|E0 26 rfl (sM rfl)<|En 27 53 rfl rfl rfl<|En 28 53 rfl rfl rfl<|En 29 53 rfl rfl rfl<|E0 30 rfl (pT rfl rfl)<|E0 31 rfl (sM rfl)<|En 32 58 rfl rfl rfl<|En 33 58 rfl rfl rfl ?_
 refine En 34 58 rfl rfl rfl<|E0 35 rfl (pT rfl rfl)<|Eo<|Dd (by kernel_rfl) ?_
 obtain rfl := o1 hm
 refine Xp 1 rfl<|Xp 2 rfl ?_
 exact xJ ⟨rfl, rfl, lr⟩ (.cons_cons _ (.cons_cons _ (.cons_cons _ (ss l (.refl _)))))
 exact Rn
 rw [if_neg ai] at hm
 obtain ⟨a4, bR, hm⟩ := bS hm
 rcases Bool.eq_false_or_eq_true a4 with aj | aj
 rw [if_pos aj] at hm
 obtain ⟨cH, cI, hm⟩ := bS hm
 refine Di mixed (.refl _)<|E0 0 rfl (sM rfl)<|E0 1 rfl (st_eqfF rfl rfl fnt60)<|E0 2 rfl (sM rfl)<|Ey 3 29 rfl (sD (vs := [_, _, _, _, _, _, _, _]) 1 8 rfl agg33 rfl rfl rfl)<|Yz 4 29 rfl (sM rfl)<|Eo<|Da [5] (by kernel_rfl) rfl ?_
 refine R_doY lr rfl rfl 29 rfl rfl rfl (uW _ call30 rfl (fun w ho => cGuardFresh _ [] a d D ah) (fun _ _ _ h => h.2.symm)) ?_ ?_
 rintro _ _ ⟨⟨_, rfl, _⟩, rfl⟩
 refine ⟨.inr (.refl _), ?_⟩
 refine d_resp 32 rfl (v' := .bool true) (by rw [x])<|Ei lr (.refl _)<|Yz 6 29 rfl (st_not_t rfl)<|E0 7 rfl (pF rfl rfl)<|E0 8 rfl (sM rfl)<|Yz 9 35 rfl (sF rfl fld33_1)<|Ey 10 35 rfl (sL 1 rfl one3 rfl rfl)<|Yz 11 35 rfl (sM rfl)<|Yz 12 35 rfl (sN rfl)<|Yz 13 35 rfl (sF rfl fld45_0) ?_
 refine Ey 14 35 rfl (sL 2 rfl one3 rfl rfl)<|Yz 15 35 rfl (st_neq_f rfl rfl E)<|E0 16 rfl (pF rfl rfl)<|E0 17 rfl (sM rfl)<|Yz 18 44 rfl (sF rfl fld33_2)<|Ey 19 44 rfl (sL 1 rfl one3 rfl rfl)<|Yz 20 44 rfl (sM rfl)<|Yz 21 44 rfl (sN rfl)<|Yz 22 44 rfl (sF rfl fld45_3)<|Ey 23 44 rfl (sL 2 rfl one3 rfl rfl) ?_
 refine Yz 24 44 rfl (st_leq_f rfl rfl ai)<|E0 25 rfl (pF rfl rfl)<|E0 26 rfl (sM rfl)<|Yz 27 53 rfl (sM rfl)<|Eo<|Da [28] (by kernel_rfl) rfl ?_
 refine R_doY lr rfl rfl 53 rfl rfl rfl (uW _ call16 rfl (fun w ho => cGuardWithin _ [] e 0 20000000 a4 bR) (fun _ _ _ h => h.2.symm)) ?_ ?_
 rintro _ _ ⟨⟨_, rfl, _⟩, rfl⟩
 refine ⟨.inr (.refl _), ?_⟩
 refine d_resp 55 rfl (v' := .bool true) (by rw [aj])<|Ei lr (.refl _)<|Yz 29 53 rfl (st_not_t rfl)<|E0 30 rfl (pF rfl rfl)<|E0 31 rfl (sM rfl)<|Yz 32 58 rfl (sM rfl)<|Eo<|Da [33] (by kernel_rfl) rfl ?_
 refine R_doY lr rfl rfl 58 rfl rfl rfl (uW _ call16 rfl (fun w ho => cGuardWithin _ [] g 0 20000000 cH cI) (fun _ _ _ h => h.2.symm)) ?_ ?_
 rintro _ _ ⟨⟨_, rfl, _⟩, rfl⟩
 refine ⟨.inr (.refl _), ?_⟩
 refine Ei lr (.refl _)<|Yz 34 58 rfl (sn2 rfl)<|E0 35 rfl (pF rfl rfl)<|Eo<|Dd (by kernel_rfl) ?_
 obtain rfl := o1 hm
 refine Xp 1 rfl<|Xp 2 rfl ?_
 exact xJ ⟨rfl, rfl, lr⟩ (.cons_cons _ (.cons_cons _ (.cons_cons _ (ss l (.refl _)))))
 exact Rn
 exact Rn
 exact Rn
 rw [if_neg (fun hh => Bool.noConfusion (hh.symm.trans aj))] at hm
 refine Di mixed (.refl _)<|E0 0 rfl (sM rfl)<|E0 1 rfl (st_eqfF rfl rfl fnt60)<|E0 2 rfl (sM rfl)<|Ey 3 29 rfl (sD (vs := [_, _, _, _, _, _, _, _]) 1 8 rfl agg33 rfl rfl rfl)<|Yz 4 29 rfl (sM rfl)<|Eo<|Da [5] (by kernel_rfl) rfl ?_
 refine R_doY lr rfl rfl 29 rfl rfl rfl (uW _ call30 rfl (fun w ho => cGuardFresh _ [] a d D ah) (fun _ _ _ h => h.2.symm)) ?_ ?_
 rintro _ _ ⟨⟨_, rfl, _⟩, rfl⟩
 refine ⟨.inr (.refl _), ?_⟩
 refine d_resp 32 rfl (v' := .bool true) (by rw [x])<|Ei lr (.refl _)<|Yz 6 29 rfl (st_not_t rfl)<|E0 7 rfl (pF rfl rfl)<|E0 8 rfl (sM rfl)<|Yz 9 35 rfl (sF rfl fld33_1)<|Ey 10 35 rfl (sL 1 rfl one3 rfl rfl)<|Yz 11 35 rfl (sM rfl)<|Yz 12 35 rfl (sN rfl)<|Yz 13 35 rfl (sF rfl fld45_0) ?_
 refine Ey 14 35 rfl (sL 2 rfl one3 rfl rfl)<|Yz 15 35 rfl (st_neq_f rfl rfl E)<|E0 16 rfl (pF rfl rfl)<|E0 17 rfl (sM rfl)<|Yz 18 44 rfl (sF rfl fld33_2)<|Ey 19 44 rfl (sL 1 rfl one3 rfl rfl)<|Yz 20 44 rfl (sM rfl)<|Yz 21 44 rfl (sN rfl)<|Yz 22 44 rfl (sF rfl fld45_3)<|Ey 23 44 rfl (sL 2 rfl one3 rfl rfl) ?_
 refine Yz 24 44 rfl (st_leq_f rfl rfl ai)<|E0 25 rfl (pF rfl rfl)<|E0 26 rfl (sM rfl)<|Yz 27 53 rfl (sM rfl)<|Eo<|Da [28] (by kernel_rfl) rfl ?_
 refine R_doY lr rfl rfl 53 rfl rfl rfl (uW _ call16 rfl (fun w ho => cGuardWithin _ [] e 0 20000000 a4 bR) (fun _ _ _ h => h.2.symm)) ?_ ?_
 rintro _ _ ⟨⟨_, rfl, _⟩, rfl⟩
 refine ⟨.inr (.refl _), ?_⟩
 refine d_resp 55 rfl (v' := .bool false) (by rw [aj])<|Ei lr (.refl _)<|Yz 29 53 rfl (st_not_f rfl)<|E0 30 rfl (pF rfl rfl)<|E0 31 rfl (sM rfl)<|En 32 58 rfl rfl rfl<|En 33 58 rfl rfl rfl<|En 34 58 rfl rfl rfl<|E0 35 rfl (pT rfl rfl)<|Eo ?_
 refine Dd (by kernel_rfl) ?_
 obtain rfl := o1 hm
 refine Xp 1 rfl<|Xp 2 rfl ?_
 exact xJ ⟨rfl, rfl, lr⟩ (.cons_cons _ (.cons_cons _ (.cons_cons _ (ss l (.refl _)))))
 exact Rn
 exact Rn
 rw [if_neg (fun hh => Bool.noConfusion (hh.symm.trans x))] at hm
 refine Di mixed (.refl _)<|E0 0 rfl (sM rfl)<|E0 1 rfl (st_eqfF rfl rfl fnt60)<|E0 2 rfl (sM rfl)<|Ey 3 29 rfl (sD (vs := [_, _, _, _, _, _, _, _]) 1 8 rfl agg33 rfl rfl rfl)<|Yz 4 29 rfl (sM rfl)<|Eo<|Da [5] (by kernel_rfl) rfl ?_
 refine R_doY lr rfl rfl 29 rfl rfl rfl (uW _ call30 rfl (fun w ho => cGuardFresh _ [] a d D ah) (fun _ _ _ h => h.2.symm)) ?_ ?_
 rintro _ _ ⟨⟨_, rfl, _⟩, rfl⟩
 refine ⟨.inr (.refl _), ?_⟩
 refine d_resp 32 rfl (v' := .bool false) (by rw [x])<|Ei lr (.refl _)<|Yz 6 29 rfl (st_not_f rfl)<|E0 7 rfl (pF rfl rfl)<|E0 8 rfl (sM rfl)<|En 9 35 rfl rfl rfl<|En 10 35 rfl rfl rfl<|En 11 35 rfl rfl rfl<|En 12 35 rfl rfl rfl<|En 13 35 rfl rfl rfl ?_
 refine En 14 35 rfl rfl rfl<|En 15 35 rfl rfl rfl<|E0 16 rfl (pT rfl rfl)<|E0 17 rfl (sM rfl)<|En 18 44 rfl rfl rfl<|En 19 44 rfl rfl rfl<|En 20 44 rfl rfl rfl<|En 21 44 rfl rfl rfl<|En 22 44 rfl rfl rfl<|En 23 44 rfl rfl rfl ?_
 refine En 24 44 rfl rfl rfl<|E0 25 rfl (pT rfl rfl)<|E0 26 rfl (sM rfl)<|En 27 53 rfl rfl rfl<|En 28 53 rfl rfl rfl<|En 29 53 rfl rfl rfl<|E0 30 rfl (pT rfl rfl)<|E0 31 rfl (sM rfl)<|En 32 58 rfl rfl rfl<|En 33 58 rfl rfl rfl ?_
 refine En 34 58 rfl rfl rfl<|E0 35 rfl (pT rfl rfl)<|Eo<|Dd (by kernel_rfl) ?_
 obtain rfl := o1 hm
 refine Xp 1 rfl<|Xp 2 rfl ?_
 exact xJ ⟨rfl, rfl, lr⟩ (.cons_cons _ (.cons_cons _ (.cons_cons _ (ss l (.refl _)))))
 exact Rn
 rintro a3 _ _ ⟨rfl, rfl, aD⟩
 have hm := cG
 refine Cc _ rfl (fun a5 => ?_) (fun a5 => ?_)
 rw [if_pos a5] at hm
 refine Cr<|Ts rfl (sB (v := .agg #[iv 0, iv 0, iv 0, iv 0, iv 0, iv 0, iv 0, iv 0]) [] rfl (fun _ => by kernel_rfl))<|Do rfl (uN (vs := [_, _, _, _, _, _, _, _]) 2 8 rfl rfl rfl siz33 rfl (mc rfl (mc rfl (mc rfl (mc rfl (mc rfl (mc rfl (mc rfl (mc rfl mn)))))))) rfl (by simp)) ?_
 rintro _ _ rfl
 refine As rfl rfl<|Te<|Ct<|Xr ?_
 obtain ⟨rfl, rfl, rfl, rfl, rfl, rfl, rfl, rfl, rfl, rfl, rfl, rfl, rfl⟩ := some13 hm
 exact rM (rs := [.cell 10 33, .tmp 11]) (vs := [.agg #[iv 0, iv 0, iv 0, iv 0, iv 0, iv 0, iv 0, iv 0], bv false]) ⟨⟨_, rfl, fun w ho => cell_agg (vs := [_, _, _, _, _, _, _, _]) 2 8 agg33 rfl rfl rfl w ho⟩, ⟨rfl, trivial⟩⟩ ⟨rfl, rfl⟩ (.cons_cons _ (.cons _ (.cons _ (.refl _)))) aD
 rw [if_neg (fun hh => Bool.noConfusion (hh.symm.trans a5))] at hm
 refine Ck<|Xn<|Cs ?_
 obtain ⟨cJ, cK, cM⟩ := bS hm
 refine Cj (fun bT e' hp' => [(0, pb c), (2, iv d), (3, iv e), (4, iv g), (6, pb m), (10, pb j), (12, .func (.func 28) #[pb c] #[]), (78, bv cJ)] = e' ∧ (c, Cl 45 [iv f, iv n, iv i, iv o, iv r]) :: (m, Cl 33 [iv a.Kind, iv a.Session, iv a.No, iv a.Of, iv a.End, iv a.At, iv a.Speed, iv a.Sent]) :: (j, Cl 33 [iv 0, iv 0, iv 0, iv 0, iv 0, iv 0, iv 0, iv 0]) :: R = hp' ∧ a3.Le bT) ?_ ?_
 have hm := cK
 refine Cg<|Ts rfl (sF rfl fld33_0)<|Ts rfl (sL 1 rfl one3 rfl rfl) ?_
 refine Tb rfl (q1 rfl rfl) (fun a6 => ?_) (fun a6 => ?_)
 rw [if_pos a6] at hm
 refine M rfl rfl<|No 67 rfl rfl rfl rfl rfl<|No 67 rfl rfl rfl rfl rfl<|No 67 rfl rfl rfl rfl rfl<|Ts rfl (pT rfl rfl)<|M rfl rfl<|Ys 72 rfl rfl rfl<|M rfl rfl<|Ys 72 rfl rfl rfl<|Ts rfl (sN rfl) ?_
 refine Ys 72 rfl rfl rfl<|Ts rfl (sF rfl fld45_2)<|Ys 72 rfl rfl rfl<|Ts rfl (sL 0 rfl one3 rfl rfl)<|Ys 72 rfl rfl rfl<|Ts rfl (q6 rfl rfl)<|Ts rfl (pT rfl rfl)<|Tn ?_
 obtain rfl := o1 hm
 refine Xp 2 rfl<|Xp 2 rfl<|Xp 2 rfl ?_
 exact xJ ⟨rfl, rfl, lr⟩ (.refl _)
 rw [if_neg a6] at hm
 refine M rfl rfl<|Ys 67 rfl rfl rfl<|Ts rfl (sF rfl fld33_0)<|Ys 67 rfl rfl rfl<|Ts rfl (sL 1 rfl one3 rfl rfl)<|Ys 67 rfl rfl rfl ?_
 refine Tb rfl (q1 rfl rfl) (fun a7 => ?_) (fun a7 => ?_)
 rw [if_pos a7] at hm
 refine Ts rfl (pF rfl rfl)<|M rfl rfl<|Ys 72 rfl rfl rfl<|M rfl rfl<|Ys 72 rfl rfl rfl<|Ts rfl (sN rfl)<|Ys 72 rfl rfl rfl<|Ts rfl (sF rfl fld45_2)<|Ys 72 rfl rfl rfl<|Ts rfl (sL 0 rfl one3 rfl rfl) ?_
 refine Ys 72 rfl rfl rfl<|Ts rfl (q6 rfl rfl)<|Ts rfl (pT rfl rfl)<|Tn ?_
 obtain rfl := o1 hm
 refine Xp 2 rfl<|Xp 2 rfl<|Xp 2 rfl ?_
 exact xJ ⟨rfl, rfl, lr⟩ (.refl _)
 rw [if_neg a7] at hm
 refine Ts rfl (pF rfl rfl)<|M rfl rfl<|No 72 rfl rfl rfl rfl rfl<|No 72 rfl rfl rfl rfl rfl<|No 72 rfl rfl rfl rfl rfl<|No 72 rfl rfl rfl rfl rfl<|No 72 rfl rfl rfl rfl rfl<|Ts rfl (pF rfl rfl)<|Tn ?_
 obtain rfl := o1 hm
 refine Xp 2 rfl<|Xp 2 rfl<|Xp 2 rfl ?_
 exact xJ ⟨rfl, rfl, lr⟩ (.refl _)
 rintro bT _ _ ⟨rfl, rfl, a8⟩
 have hm := cM
 refine Cc _ rfl (fun a9 => ?_) (fun a9 => ?_)
 rw [if_pos a9] at hm
 refine Cr<|Ts rfl (sB (v := .agg #[iv 0, iv 0, iv 0, iv 0, iv 0, iv 0, iv 0, iv 0]) [] rfl (fun _ => by kernel_rfl))<|Do rfl (uN (vs := [_, _, _, _, _, _, _, _]) 2 8 rfl rfl rfl siz33 rfl (mc rfl (mc rfl (mc rfl (mc rfl (mc rfl (mc rfl (mc rfl (mc rfl mn)))))))) rfl (by simp)) ?_
 rintro _ _ rfl
 refine As rfl rfl<|Te<|Ct<|Xr ?_
 obtain ⟨rfl, rfl, rfl, rfl, rfl, rfl, rfl, rfl, rfl, rfl, rfl, rfl, rfl⟩ := some13 hm
 exact rM (rs := [.cell 10 33, .tmp 11]) (vs := [.agg #[iv 0, iv 0, iv 0, iv 0, iv 0, iv 0, iv 0, iv 0], bv false]) ⟨⟨_, rfl, fun w ho => cell_agg (vs := [_, _, _, _, _, _, _, _]) 2 8 agg33 rfl rfl rfl w ho⟩, ⟨rfl, trivial⟩⟩ ⟨rfl, rfl⟩ (.cons_cons _ (.cons _ (.cons _ (.refl _)))) (aD.trans a8)
 rw [if_neg (fun hh => Bool.noConfusion (hh.symm.trans a9))] at hm
 refine Ck<|Xn<|Cr<|M rfl rfl<|M rfl rfl<|Ts rfl (sF rfl fld33_2)<|Ts rfl (sL 1 rfl one3 rfl rfl)<|M rfl rfl<|Ts rfl (sN rfl)<|Ts rfl (sF rfl fld45_3) ?_
 refine Do rfl (uS 0 rfl rfl siz3 rfl rfl (by simp)) ?_
 rintro _ _ rfl
 refine Ts rfl (sN rfl)<|Ts rfl (sF rfl fld45_4)<|Do rfl (uS 0 rfl rfl siz3 rfl rfl (by simp)) ?_
 rintro _ _ rfl
 refine Te<|Cr<|M rfl rfl<|Ts rfl (sD (vs := [_, _, _, _, _, _, _, _]) 1 8 rfl agg33 rfl rfl rfl)<|M rfl rfl<|M rfl rfl<|Ts rfl (sB (v := .agg #[iv e, iv g]) [(0, iv e), (1, iv g)] rfl (fun _ => by kernel_rfl)) ?_
 obtain ⟨⟨ak, ba, bb, al, am, an, ao, bc, bU⟩, cN, hm⟩ := bS hm
 have hm := (unc9E hm)
 refine Tv #[pb c] #[] [.agg #[iv a.Kind, iv a.Session, iv a.No, iv a.Of, iv a.End, iv a.At, iv a.Speed, iv a.Sent], .agg #[iv e, iv g]] rfl rfl call28 rfl (cGuardUnitShort _ _ a (⟨e, g⟩ : GuardStand) f n i a.No d c ak ba bb al am an ao bc bU cN) ?_
 rintro _ cO _ bV ⟨rfl, rfl⟩
 refine Do rfl (uA [iv 0, iv 0, iv 0, iv 0, iv 0, iv 0, iv 0, iv 0] zero33 rfl) ?_
 rintro _ _ ⟨bW, rfl, rfl⟩
 refine Do rfl (uN (vs := [_, _, _, _, _, _, _, _]) 0 8 rfl rfl rfl siz33 rfl (mc rfl (mc rfl (mc rfl (mc rfl (mc rfl (mc rfl (mc rfl (mc rfl mn)))))))) rfl (by simp)) ?_
 rintro _ _ rfl
 refine Te<|Cs<|Cr<|Ts rfl (sD (vs := [_, _, _, _, _, _, _, _]) 0 8 rfl agg33 rfl rfl rfl)<|Ts rfl (sB (v := .agg #[iv 0, iv 0, iv 0, iv 0, iv 0, iv 0, iv 0, iv 0]) [] rfl (fun _ => by kernel_rfl))<|Ts rfl (st_eqlA (xs := [iv ak, iv ba, iv bb, iv al, iv am, iv an, iv ao, iv bc]) (ys := [iv 0, iv 0, iv 0, iv 0, iv 0, iv 0, iv 0, iv 0]) (p := ak = 0 ∧ ba = 0 ∧ bb = 0 ∧ al = 0 ∧ am = 0 ∧ an = 0 ∧ ao = 0 ∧ bc = 0) rfl rfl eqt33 ⟨⟨_, rfl⟩, ⟨⟨_, rfl⟩, ⟨⟨_, rfl⟩, ⟨⟨_, rfl⟩, ⟨⟨_, rfl⟩, ⟨⟨_, rfl⟩, ⟨⟨_, rfl⟩, ⟨⟨_, rfl⟩, trivial⟩⟩⟩⟩⟩⟩⟩⟩ ⟨⟨_, rfl⟩, ⟨⟨_, rfl⟩, ⟨⟨_, rfl⟩, ⟨⟨_, rfl⟩, ⟨⟨_, rfl⟩, ⟨⟨_, rfl⟩, ⟨⟨_, rfl⟩, ⟨⟨_, rfl⟩, trivial⟩⟩⟩⟩⟩⟩⟩⟩ (by simp [eqCells, eqCell, Bool.decide_and, beq_dec]))<|Te ?_
 refine Cc _ rfl (fun bd => ?_) (fun bd => ?_)
 rw [if_pos (of_decide_eq_true bd)] at hm
 refine Cr<|Ts rfl (sB (v := .agg #[iv 0, iv 0, iv 0, iv 0, iv 0, iv 0, iv 0, iv 0]) [] rfl (fun _ => by kernel_rfl))<|Do rfl (uN (vs := [_, _, _, _, _, _, _, _]) 3 8 rfl rfl rfl siz33 rfl (mc rfl (mc rfl (mc rfl (mc rfl (mc rfl (mc rfl (mc rfl (mc rfl mn)))))))) rfl (by simp)) ?_
 rintro _ _ rfl
 refine As rfl rfl<|Te<|Ct<|Xr ?_
 obtain ⟨rfl, rfl, rfl, rfl, rfl, rfl, rfl, rfl, rfl, rfl, rfl, rfl, rfl⟩ := some13 hm
 refine Xp 1 rfl ?_
 exact rM (rs := [.cell 10 33, .tmp 11]) (vs := [.agg #[iv 0, iv 0, iv 0, iv 0, iv 0, iv 0, iv 0, iv 0], bv false]) ⟨⟨_, rfl, fun w ho => cell_agg (vs := [_, _, _, _, _, _, _, _]) 3 8 agg33 rfl rfl rfl w ho⟩, ⟨rfl, trivial⟩⟩ ⟨rfl, rfl⟩ (.cons_cons _ (.cons _ (.cons _ (.cons _ (.refl _))))) (aD.trans (a8.trans bV))
 rw [if_neg (of_decide_eq_false bd)] at hm
 refine Ck<|Xn<|Cr<|M rfl rfl<|Ts rfl (sN rfl)<|Ts rfl (sF rfl fld45_2)<|Ts rfl (sL 1 rfl one3 rfl rfl) ?_
 obtain ⟨_, be, hm⟩ := bS hm
 have be := (kS be).2
 refine Ts rfl (sa rfl rfl be)<|Ts rfl (sN rfl)<|Ts rfl (sF rfl fld45_2)<|Do rfl (uS 1 rfl rfl siz3 rfl rfl (by simp)) ?_
 rintro _ _ rfl
 refine Te ?_
 obtain ⟨_, cP, cQ⟩ := bS hm
 refine Cj (fun bX e' hp' => [(10, pb j), (13, pb bW)] = e' ∧ (j, Cl 33 [iv 0, iv 0, iv 0, iv 0, iv 0, iv 0, iv 0, iv 0]) :: (bW, Cl 33 [iv ak, iv f, iv (i + 1), iv al, iv am, iv an, iv ao, iv d]) :: (c, Cl 45 [iv f, iv bU, iv (i + 1), iv a.No, iv d]) :: R = hp' ∧ cO.Le bX) ?_ ?_
 have hm := cP
 refine Di mixed (.cons _ (.refl _))<|E0 0 rfl (sM rfl)<|E0 1 rfl (sN rfl)<|E0 2 rfl (sF rfl fld45_0)<|Es 3 rfl (sL 0 rfl one3 rfl rfl)<|E0 4 rfl (sM rfl)<|E0 5 rfl (sN rfl)<|E0 6 rfl (sF rfl fld45_2)<|Es 7 rfl (sL 0 rfl one3 rfl rfl)<|E0 8 rfl (sM rfl) ?_
 refine E0 9 rfl (sF rfl fld33_1)<|Eo<|Da [10] (by kernel_rfl) rfl ?_
 refine Rd2 lr rfl rfl (uS 0 rfl rfl siz3 rfl rfl (by simp)) ?_ ?_
 rintro _ _ rfl
 refine ⟨.inr (.cons _ (.refl _)), ?_⟩
 refine Ei lr (.cons _ (.refl _))<|E0 11 rfl (sF rfl fld33_2)<|Eo<|Da [12] (by kernel_rfl) rfl ?_
 refine Rd2 lr rfl rfl (uS 0 rfl rfl siz3 rfl rfl (by simp)) ?_ ?_
 rintro _ _ rfl
 refine ⟨.inl (by kernel_rfl), ?_⟩
 refine El lr<|E0 13 rfl (sF rfl fld33_7)<|Eo<|Da [14] (by kernel_rfl) rfl ?_
 refine Rd2 lr rfl rfl (uS 0 rfl rfl siz3 rfl rfl (by simp)) ?_ ?_
 rintro _ _ rfl
 refine ⟨.inl (by kernel_rfl), ?_⟩
 refine Dd (by kernel_rfl) ?_
 clear hm
 refine Xp 1 rfl<|Xp 1 rfl<|Xp 3 rfl ?_
 exact xJ ⟨rfl, rfl, lr⟩ (.cons_cons _ (.cons_cons _ (.cons_cons _ (.cons _ (.refl _)))))
 exact Rn
 exact Rn
 exact Rn
 rintro bX _ _ ⟨rfl, rfl, cR⟩
 have hm := cQ
 refine Cr<|Ts rfl (sD (vs := [_, _, _, _, _, _, _, _]) 1 8 rfl agg33 rfl rfl rfl)<|Do rfl (uN (vs := [_, _, _, _, _, _, _, _]) 0 8 rfl rfl rfl siz33 rfl (mc rfl (mc rfl (mc rfl (mc rfl (mc rfl (mc rfl (mc rfl (mc rfl mn)))))))) rfl (by simp)) ?_
 rintro _ _ rfl
 refine As rfl rfl<|Te<|Ct ?_
 obtain ⟨rfl, rfl, rfl, rfl, rfl, rfl, rfl, rfl, rfl, rfl, rfl, rfl, rfl⟩ := some13 hm
 refine Xp 2 rfl ?_
 exact rM (rs := [.cell 10 33, .tmp 11]) (vs := [.agg #[iv ak, iv f, iv (i + 1), iv al, iv am, iv an, iv ao, iv d], bv true]) ⟨⟨_, rfl, fun w ho => cell_agg (vs := [_, _, _, _, _, _, _, _]) 1 8 agg33 rfl rfl rfl w ho⟩, ⟨rfl, trivial⟩⟩ ⟨rfl, rfl⟩ (.cons_cons _ (.cons _ (.cons _ (.refl _)))) (aD.trans (a8.trans (bV.trans cR)))
 rw [if_neg ag] at hm
 rcases Decidable.em (a.Kind = (6 : Int)) with aq | aq
 rw [if_pos aq] at hm
 have cT : mgetD (mput (mput (mput (mput ([] : (List (Int × Value))) 2 (.func (.func 26) #[pb c] #[] : Value)) 4 (.func (.func 27) #[pb c] #[] : Value)) 5 (.func (.func 28) #[pb c] #[] : Value)) 6 (.func (.func 29) #[pb c] #[] : Value)) a.Kind Value.nilFunc = .func (.func 29) #[pb c] #[] := by rw [aq]; rfl
 obtain rfl : s = .func (.func 29) #[pb c] #[] := by have q : [s] = [mgetD (mput (mput (mput (mput ([] : (List (Int × Value))) 2 (.func (.func 26) #[pb c] #[] : Value)) 4 (.func (.func 27) #[pb c] #[] : Value)) 5 (.func (.func 28) #[pb c] #[] : Value)) 6 (.func (.func 29) #[pb c] #[] : Value)) a.Kind Value.nilFunc] := H.1; rw [cT] at q; injection q
 refine Ts rfl (st_mlook (ok := false) rfl rfl (fun w ho => I _ w ho (.cons _ (.cons _ (.cons _ (List.sublist_append_left _ _)))) false))<|As rfl rfl<|Te<|Cs ?_
 obtain ⟨cU, cV, cW⟩ := bS hm
 refine Cj (fun bf e' hp' => [(0, pb c), (2, iv d), (3, iv e), (4, iv g), (6, pb m), (10, pb j), (12, .func (.func 29) #[pb c] #[]), (62, bv cU)] = e' ∧ (c, Cl 45 [iv f, iv n, iv i, iv o, iv r]) :: (m, Cl 33 [iv a.Kind, iv a.Session, iv a.No, iv a.Of, iv a.End, iv a.At, iv a.Speed, iv a.Sent]) :: (j, Cl 33 [iv 0, iv 0, iv 0, iv 0, iv 0, iv 0, iv 0, iv 0]) :: R = hp' ∧ b.Le bf) ?_ ?_
 have hm := cV
 obtain ⟨F, ar, hm⟩ := bS hm
 rcases Bool.eq_false_or_eq_true F with y | y
 rw [if_pos y] at hm
 by_cases G : a.Session ≠ f
 rw [if_pos G] at hm
 refine Di mixed (.refl _)<|E0 0 rfl (sM rfl)<|E0 1 rfl (st_eqfF rfl rfl fnt60)<|E0 2 rfl (sM rfl)<|Ey 3 29 rfl (sD (vs := [_, _, _, _, _, _, _, _]) 1 8 rfl agg33 rfl rfl rfl)<|Yz 4 29 rfl (sM rfl)<|Eo<|Da [5] (by kernel_rfl) rfl ?_
 refine R_doY lr rfl rfl 29 rfl rfl rfl (uW _ call30 rfl (fun w ho => cGuardFresh _ [] a d F ar) (fun _ _ _ h => h.2.symm)) ?_ ?_
 rintro _ _ ⟨⟨_, rfl, _⟩, rfl⟩
 refine ⟨.inr (.refl _), ?_⟩
 refine d_resp 32 rfl (v' := .bool true) (by rw [y])<|Ei lr (.refl _)<|Yz 6 29 rfl (st_not_t rfl)<|E0 7 rfl (pF rfl rfl)<|E0 8 rfl (sM rfl)<|Yz 9 35 rfl (sF rfl fld33_1)<|Ey 10 35 rfl (sL 1 rfl one3 rfl rfl)<|Yz 11 35 rfl (sM rfl)<|Yz 12 35 rfl (sN rfl)<|Yz 13 35 rfl (sF rfl fld45_0) ?_
 refine Ey 14 35 rfl (sL 2 rfl one3 rfl rfl)<|Yz 15 35 rfl (st_neq_t rfl rfl G)<|E0 16 rfl (pF rfl rfl)<|E0 17 rfl (sM rfl)<|En 18 44 rfl rfl rfl<|En 19 44 rfl rfl rfl<|En 20 44 rfl rfl rfl<|En 21 44 rfl rfl rfl<|En 22 44 rfl rfl rfl<|En 23 44 rfl rfl rfl ?_
 refine En 24 44 rfl rfl rfl<|E0 25 rfl (pT rfl rfl)<|E0 26 rfl (sM rfl)<|En 27 53 rfl rfl rfl<|En 28 53 rfl rfl rfl<|En 29 53 rfl rfl rfl<|E0 30 rfl (pT rfl rfl)<|E0 31 rfl (sM rfl)<|En 32 58 rfl rfl rfl<|En 33 58 rfl rfl rfl ?_
 refine En 34 58 rfl rfl rfl<|E0 35 rfl (pT rfl rfl)<|Eo<|Dd (by kernel_rfl) ?_
 obtain rfl := o1 hm
 refine Xp 1 rfl<|Xp 2 rfl ?_
 exact xJ ⟨rfl, rfl, lr⟩ (.cons_cons _ (.cons_cons _ (.cons_cons _ (ss l (.refl _)))))
 exact Rn
 rw [if_neg G] at hm
 by_cases au : a.No ≤ o
 rw [if_pos au] at hm
 refine Di mixed (.refl _)<|E0 0 rfl (sM rfl)<|E0 1 rfl (st_eqfF rfl rfl fnt60)<|E0 2 rfl (sM rfl)<|Ey 3 29 rfl (sD (vs := [_, _, _, _, _, _, _, _]) 1 8 rfl agg33 rfl rfl rfl)<|Yz 4 29 rfl (sM rfl)<|Eo<|Da [5] (by kernel_rfl) rfl ?_
 refine R_doY lr rfl rfl 29 rfl rfl rfl (uW _ call30 rfl (fun w ho => cGuardFresh _ [] a d F ar) (fun _ _ _ h => h.2.symm)) ?_ ?_
 rintro _ _ ⟨⟨_, rfl, _⟩, rfl⟩
 refine ⟨.inr (.refl _), ?_⟩
 refine d_resp 32 rfl (v' := .bool true) (by rw [y])<|Ei lr (.refl _)<|Yz 6 29 rfl (st_not_t rfl)<|E0 7 rfl (pF rfl rfl)<|E0 8 rfl (sM rfl)<|Yz 9 35 rfl (sF rfl fld33_1)<|Ey 10 35 rfl (sL 1 rfl one3 rfl rfl)<|Yz 11 35 rfl (sM rfl)<|Yz 12 35 rfl (sN rfl)<|Yz 13 35 rfl (sF rfl fld45_0) ?_
 refine Ey 14 35 rfl (sL 2 rfl one3 rfl rfl)<|Yz 15 35 rfl (st_neq_f rfl rfl G)<|E0 16 rfl (pF rfl rfl)<|E0 17 rfl (sM rfl)<|Yz 18 44 rfl (sF rfl fld33_2)<|Ey 19 44 rfl (sL 1 rfl one3 rfl rfl)<|Yz 20 44 rfl (sM rfl)<|Yz 21 44 rfl (sN rfl)<|Yz 22 44 rfl (sF rfl fld45_3)<|Ey 23 44 rfl (sL 2 rfl one3 rfl rfl) ?_
 refine Yz 24 44 rfl (st_leq_t rfl rfl au)<|E0 25 rfl (pF rfl rfl)<|E0 26 rfl (sM rfl)<|En 27 53 rfl rfl rfl<|En 28 53 rfl rfl rfl<|En 29 53 rfl rfl rfl<|E0 30 rfl (pT rfl rfl)<|E0 31 rfl (sM rfl)<|En 32 58 rfl rfl rfl<|En 33 58 rfl rfl rfl ?_
 refine En 34 58 rfl rfl rfl<|E0 35 rfl (pT rfl rfl)<|Eo<|Dd (by kernel_rfl) ?_
 obtain rfl := o1 hm
 refine Xp 1 rfl<|Xp 2 rfl ?_
 exact xJ ⟨rfl, rfl, lr⟩ (.cons_cons _ (.cons_cons _ (.cons_cons _ (ss l (.refl _)))))
 exact Rn
 rw [if_neg au] at hm
 obtain ⟨bg, bY, hm⟩ := bS hm
 rcases Bool.eq_false_or_eq_true bg with av | av
 rw [if_pos av] at hm
 obtain ⟨cX, cY, hm⟩ := bS hm
 refine Di mixed (.refl _)<|E0 0 rfl (sM rfl)<|E0 1 rfl (st_eqfF rfl rfl fnt60)<|E0 2 rfl (sM rfl)<|Ey 3 29 rfl (sD (vs := [_, _, _, _, _, _, _, _]) 1 8 rfl agg33 rfl rfl rfl)<|Yz 4 29 rfl (sM rfl)<|Eo<|Da [5] (by kernel_rfl) rfl ?_
 refine R_doY lr rfl rfl 29 rfl rfl rfl (uW _ call30 rfl (fun w ho => cGuardFresh _ [] a d F ar) (fun _ _ _ h => h.2.symm)) ?_ ?_
 rintro _ _ ⟨⟨_, rfl, _⟩, rfl⟩
 refine ⟨.inr (.refl _), ?_⟩
 refine d_resp 32 rfl (v' := .bool true) (by rw [y])<|Ei lr (.refl _)<|Yz 6 29 rfl (st_not_t rfl)<|E0 7 rfl (pF rfl rfl)<|E0 8 rfl (sM rfl)<|Yz 9 35 rfl (sF rfl fld33_1)<|Ey 10 35 rfl (sL 1 rfl one3 rfl rfl)<|Yz 11 35 rfl (sM rfl)<|Yz 12 35 rfl (sN rfl)<|Yz 13 35 rfl (sF rfl fld45_0) ?_
 refine Ey 14 35 rfl (sL 2 rfl one3 rfl rfl)<|Yz 15 35 rfl (st_neq_f rfl rfl G)<|E0 16 rfl (pF rfl rfl)<|E0 17 rfl (sM rfl)<|Yz 18 44 rfl (sF rfl fld33_2)<|Ey 19 44 rfl (sL 1 rfl one3 rfl rfl)<|Yz 20 44 rfl (sM rfl)<|Yz 21 44 rfl (sN rfl)<|Yz 22 44 rfl (sF rfl fld45_3)<|Ey 23 44 rfl (sL 2 rfl one3 rfl rfl) ?_
 refine Yz 24 44 rfl (st_leq_f rfl rfl au)<|E0 25 rfl (pF rfl rfl)<|E0 26 rfl (sM rfl)<|Yz 27 53 rfl (sM rfl)<|Eo<|Da [28] (by kernel_rfl) rfl ?_
 refine R_doY lr rfl rfl 53 rfl rfl rfl (uW _ call16 rfl (fun w ho => cGuardWithin _ [] e 0 20000000 bg bY) (fun _ _ _ h => h.2.symm)) ?_ ?_
 rintro _ _ ⟨⟨_, rfl, _⟩, rfl⟩
 refine ⟨.inr (.refl _), ?_⟩
 refine d_resp 55 rfl (v' := .bool true) (by rw [av])<|Ei lr (.refl _)<|Yz 29 53 rfl (st_not_t rfl)<|E0 30 rfl (pF rfl rfl)<|E0 31 rfl (sM rfl)<|Yz 32 58 rfl (sM rfl)<|Eo<|Da [33] (by kernel_rfl) rfl ?_
 refine R_doY lr rfl rfl 58 rfl rfl rfl (uW _ call16 rfl (fun w ho => cGuardWithin _ [] g 0 20000000 cX cY) (fun _ _ _ h => h.2.symm)) ?_ ?_
 rintro _ _ ⟨⟨_, rfl, _⟩, rfl⟩
 refine ⟨.inr (.refl _), ?_⟩
 refine Ei lr (.refl _)<|Yz 34 58 rfl (sn2 rfl)<|E0 35 rfl (pF rfl rfl)<|Eo<|Dd (by kernel_rfl) ?_
 obtain rfl := o1 hm
 refine Xp 1 rfl<|Xp 2 rfl ?_
 exact xJ ⟨rfl, rfl, lr⟩ (.cons_cons _ (.cons_cons _ (.cons_cons _ (ss l (.refl _)))))
 exact Rn
 exact Rn
 exact Rn
 rw [if_neg (fun hh => Bool.noConfusion (hh.symm.trans av))] at hm
 refine Di mixed (.refl _)<|E0 0 rfl (sM rfl)<|E0 1 rfl (st_eqfF rfl rfl fnt60)<|E0 2 rfl (sM rfl)<|Ey 3 29 rfl (sD (vs := [_, _, _, _, _, _, _, _]) 1 8 rfl agg33 rfl rfl rfl)<|Yz 4 29 rfl (sM rfl)<|Eo<|Da [5] (by kernel_rfl) rfl ?_
 refine R_doY lr rfl rfl 29 rfl rfl rfl (uW _ call30 rfl (fun w ho => cGuardFresh _ [] a d F ar) (fun _ _ _ h => h.2.symm)) ?_ ?_
 rintro _ _ ⟨⟨_, rfl, _⟩, rfl⟩
 refine ⟨.inr (.refl _), ?_⟩
 refine d_resp 32 rfl (v' := .bool true) (by rw [y])<|Ei lr (.refl _)<|Yz 6 29 rfl (st_not_t rfl)<|E0 7 rfl (pF rfl rfl)<|E0 8 rfl (sM rfl)<|Yz 9 35 rfl (sF rfl fld33_1)<|Ey 10 35 rfl (sL 1 rfl one3 rfl rfl)<|Yz 11 35 rfl (sM rfl)<|Yz 12 35 rfl (sN rfl)<|Yz 13 35 rfl (sF rfl fld45_0) ?_
 refine Ey 14 35 rfl (sL 2 rfl one3 rfl rfl)<|Yz 15 35 rfl (st_neq_f rfl rfl G)<|E0 16 rfl (pF rfl rfl)<|E0 17 rfl (sM rfl)<|Yz 18 44 rfl (sF rfl fld33_2)<|Ey 19 44 rfl (sL 1 rfl one3 rfl rfl)<|Yz 20 44 rfl (sM rfl)<|Yz 21 44 rfl (sN rfl)<|Yz 22 44 rfl (sF rfl fld45_3)<|Ey 23 44 rfl (sL 2 rfl one3 rfl rfl) ?_
 refine Yz 24 44 rfl (st_leq_f rfl rfl au)<|E0 25 rfl (pF rfl rfl)<|E0 26 rfl (sM rfl)<|Yz 27 53 rfl (sM rfl)<|Eo<|Da [28] (by kernel_rfl) rfl ?_
 refine R_doY lr rfl rfl 53 rfl rfl rfl (uW _ call16 rfl (fun w ho => cGuardWithin _ [] e 0 20000000 bg bY) (fun _ _ _ h => h.2.symm)) ?_ ?_
 rintro _ _ ⟨⟨_, rfl, _⟩, rfl⟩
 refine ⟨.inr (.refl _), ?_⟩
 refine d_resp 55 rfl (v' := .bool false) (by rw [av])<|Ei lr (.refl _)<|Yz 29 53 rfl (st_not_f rfl)<|E0 30 rfl (pF rfl rfl)<|E0 31 rfl (sM rfl)<|En 32 58 rfl rfl rfl<|En 33 58 rfl rfl rfl<|En 34 58 rfl rfl rfl<|E0 35 rfl (pT rfl rfl)<|Eo ?_
 refine Dd (by kernel_rfl) ?_
 obtain rfl := o1 hm
 refine Xp 1 rfl<|Xp 2 rfl ?_
 exact xJ ⟨rfl, rfl, lr⟩ (.cons_cons _ (.cons_cons _ (.cons_cons _ (ss l (.refl _)))))
 exact Rn
 exact Rn
 rw [if_neg (fun hh => Bool.noConfusion (hh.symm.trans y))] at hm
 refine Di mixed (.refl _)<|E0 0 rfl (sM rfl)<|E0 1 rfl (st_eqfF rfl rfl fnt60)<|E0 2 rfl (sM rfl)<|Ey 3 29 rfl (sD (vs := [_, _, _, _, _, _, _, _]) 1 8 rfl agg33 rfl rfl rfl)<|Yz 4 29 rfl (sM rfl)<|Eo<|Da [5] (by kernel_rfl) rfl ?_
 refine R_doY lr rfl rfl 29 rfl rfl rfl (uW _ call30 rfl (fun w ho => cGuardFresh _ [] a d F ar) (fun _ _ _ h => h.2.symm)) ?_ ?_
 rintro _ _ ⟨⟨_, rfl, _⟩, rfl⟩
 refine ⟨.inr (.refl _), ?_⟩
 refine d_resp 32 rfl (v' := .bool false) (by rw [y])<|Ei lr (.refl _)<|Yz 6 29 rfl (st_not_f rfl)<|E0 7 rfl (pF rfl rfl)<|E0 8 rfl (sM rfl)<|En 9 35 rfl rfl rfl<|En 10 35 rfl rfl rfl<|En 11 35 rfl rfl rfl<|En 12 35 rfl rfl rfl<|En 13 35 rfl rfl rfl ?_
 refine En 14 35 rfl rfl rfl<|En 15 35 rfl rfl rfl<|E0 16 rfl (pT rfl rfl)<|E0 17 rfl (sM rfl)<|En 18 44 rfl rfl rfl<|En 19 44 rfl rfl rfl<|En 20 44 rfl rfl rfl<|En 21 44 rfl rfl rfl<|En 22 44 rfl rfl rfl<|En 23 44 rfl rfl rfl ?_
 refine En 24 44 rfl rfl rfl<|E0 25 rfl (pT rfl rfl)<|E0 26 rfl (sM rfl)<|En 27 53 rfl rfl rfl<|En 28 53 rfl rfl rfl<|En 29 53 rfl rfl rfl<|E0 30 rfl (pT rfl rfl)<|E0 31 rfl (sM rfl)<|En 32 58 rfl rfl rfl<|En 33 58 rfl rfl rfl ?_
 refine En 34 58 rfl rfl rfl<|E0 35 rfl (pT rfl rfl)<|Eo<|Dd (by kernel_rfl) ?_
 obtain rfl := o1 hm
 refine Xp 1 rfl<|Xp 2 rfl ?_
 exact xJ ⟨rfl, rfl, lr⟩ (.cons_cons _ (.cons_cons _ (.cons_cons _ (ss l (.refl _)))))
 exact Rn
 rintro bf _ _ ⟨rfl, rfl, aE⟩
 have hm := cW
 refine Cc _ rfl (fun bh => ?_) (fun bh => ?_)
 rw [if_pos bh] at hm
 refine Cr<|Ts rfl (sB (v := .agg #[iv 0, iv 0, iv 0, iv 0, iv 0, iv 0, iv 0, iv 0]) [] rfl (fun _ => by kernel_rfl))<|Do rfl (uN (vs := [_, _, _, _, _, _, _, _]) 2 8 rfl rfl rfl siz33 rfl (mc rfl (mc rfl (mc rfl (mc rfl (mc rfl (mc rfl (mc rfl (mc rfl mn)))))))) rfl (by simp)) ?_
 rintro _ _ rfl
 refine As rfl rfl<|Te<|Ct<|Xr ?_
 obtain ⟨rfl, rfl, rfl, rfl, rfl, rfl, rfl, rfl, rfl, rfl, rfl, rfl, rfl⟩ := some13 hm
 exact rM (rs := [.cell 10 33, .tmp 11]) (vs := [.agg #[iv 0, iv 0, iv 0, iv 0, iv 0, iv 0, iv 0, iv 0], bv false]) ⟨⟨_, rfl, fun w ho => cell_agg (vs := [_, _, _, _, _, _, _, _]) 2 8 agg33 rfl rfl rfl w ho⟩, ⟨rfl, trivial⟩⟩ ⟨rfl, rfl⟩ (.cons_cons _ (.cons _ (.cons _ (.refl _)))) aE
 rw [if_neg (fun hh => Bool.noConfusion (hh.symm.trans bh))] at hm
 refine Ck<|Xn<|Cs ?_
 obtain ⟨cZ, c0, c1⟩ := bS hm
 refine Cj (fun bZ e' hp' => [(0, pb c), (2, iv d), (3, iv e), (4, iv g), (6, pb m), (10, pb j), (12, .func (.func 29) #[pb c] #[]), (78, bv cZ)] = e' ∧ (c, Cl 45 [iv f, iv n, iv i, iv o, iv r]) :: (m, Cl 33 [iv a.Kind, iv a.Session, iv a.No, iv a.Of, iv a.End, iv a.At, iv a.Speed, iv a.Sent]) :: (j, Cl 33 [iv 0, iv 0, iv 0, iv 0, iv 0, iv 0, iv 0, iv 0]) :: R = hp' ∧ bf.Le bZ) ?_ ?_
 have hm := c0
 refine Cg<|Ts rfl (sF rfl fld33_0)<|Ts rfl (sL 1 rfl one3 rfl rfl) ?_
 refine Tb rfl (q1 rfl rfl) (fun bi => ?_) (fun bi => ?_)
 rw [if_pos bi] at hm
 refine M rfl rfl<|No 67 rfl rfl rfl rfl rfl<|No 67 rfl rfl rfl rfl rfl<|No 67 rfl rfl rfl rfl rfl<|Ts rfl (pT rfl rfl)<|M rfl rfl<|Ys 72 rfl rfl rfl<|M rfl rfl<|Ys 72 rfl rfl rfl<|Ts rfl (sN rfl) ?_
 refine Ys 72 rfl rfl rfl<|Ts rfl (sF rfl fld45_2)<|Ys 72 rfl rfl rfl<|Ts rfl (sL 0 rfl one3 rfl rfl)<|Ys 72 rfl rfl rfl<|Ts rfl (q6 rfl rfl)<|Ts rfl (pT rfl rfl)<|Tn ?_
 obtain rfl := o1 hm
 refine Xp 2 rfl<|Xp 2 rfl<|Xp 2 rfl ?_
 exact xJ ⟨rfl, rfl, lr⟩ (.refl _)
 rw [if_neg bi] at hm
 refine M rfl rfl<|Ys 67 rfl rfl rfl<|Ts rfl (sF rfl fld33_0)<|Ys 67 rfl rfl rfl<|Ts rfl (sL 1 rfl one3 rfl rfl)<|Ys 67 rfl rfl rfl ?_
 refine Tb rfl (q1 rfl rfl) (fun bj => ?_) (fun bj => ?_)
 rw [if_pos bj] at hm
 refine Ts rfl (pF rfl rfl)<|M rfl rfl<|Ys 72 rfl rfl rfl<|M rfl rfl<|Ys 72 rfl rfl rfl<|Ts rfl (sN rfl)<|Ys 72 rfl rfl rfl<|Ts rfl (sF rfl fld45_2)<|Ys 72 rfl rfl rfl<|Ts rfl (sL 0 rfl one3 rfl rfl) ?_
 refine Ys 72 rfl rfl rfl<|Ts rfl (q6 rfl rfl)<|Ts rfl (pT rfl rfl)<|Tn ?_
 obtain rfl := o1 hm
 refine Xp 2 rfl<|Xp 2 rfl<|Xp 2 rfl ?_
 exact xJ ⟨rfl, rfl, lr⟩ (.refl _)
 rw [if_neg bj] at hm
 refine Ts rfl (pF rfl rfl)<|M rfl rfl<|No 72 rfl rfl rfl rfl rfl<|No 72 rfl rfl rfl rfl rfl<|No 72 rfl rfl rfl rfl rfl<|No 72 rfl rfl rfl rfl rfl<|No 72 rfl rfl rfl rfl rfl<|Ts rfl (pF rfl rfl)<|Tn ?_
 obtain rfl := o1 hm
 refine Xp 2 rfl<|Xp 2 rfl<|Xp 2 rfl ?_
 exact xJ ⟨rfl, rfl, lr⟩ (.refl _)
 rintro bZ _ _ ⟨rfl, rfl, bk⟩
 have hm := c1
 refine Cc _ rfl (fun bl => ?_) (fun bl => ?_)
 rw [if_pos bl] at hm
 refine Cr<|Ts rfl (sB (v := .agg #[iv 0, iv 0, iv 0, iv 0, iv 0, iv 0, iv 0, iv 0]) [] rfl (fun _ => by kernel_rfl))<|Do rfl (uN (vs := [_, _, _, _, _, _, _, _]) 2 8 rfl rfl rfl siz33 rfl (mc rfl (mc rfl (mc rfl (mc rfl (mc rfl (mc rfl (mc rfl (mc rfl mn)))))))) rfl (by simp)) ?_
 rintro _ _ rfl
 refine As rfl rfl<|Te<|Ct<|Xr ?_
 obtain ⟨rfl, rfl, rfl, rfl, rfl, rfl, rfl, rfl, rfl, rfl, rfl, rfl, rfl⟩ := some13 hm
 exact rM (rs := [.cell 10 33, .tmp 11]) (vs := [.agg #[iv 0, iv 0, iv 0, iv 0, iv 0, iv 0, iv 0, iv 0], bv false]) ⟨⟨_, rfl, fun w ho => cell_agg (vs := [_, _, _, _, _, _, _, _]) 2 8 agg33 rfl rfl rfl w ho⟩, ⟨rfl, trivial⟩⟩ ⟨rfl, rfl⟩ (.cons_cons _ (.cons _ (.cons _ (.refl _)))) (aE.trans bk)
 rw [if_neg (fun hh => Bool.noConfusion (hh.symm.trans bl))] at hm
 refine Ck<|Xn<|Cr<|M rfl rfl<|M rfl rfl<|Ts rfl (sF rfl fld33_2)<|Ts rfl (sL 1 rfl one3 rfl rfl)<|M rfl rfl<|Ts rfl (sN rfl)<|Ts rfl (sF rfl fld45_3) ?_
 refine Do rfl (uS 0 rfl rfl siz3 rfl rfl (by simp)) ?_
 rintro _ _ rfl
 refine Ts rfl (sN rfl)<|Ts rfl (sF rfl fld45_4)<|Do rfl (uS 0 rfl rfl siz3 rfl rfl (by simp)) ?_
 rintro _ _ rfl
 refine Te<|Cr<|M rfl rfl<|Ts rfl (sD (vs := [_, _, _, _, _, _, _, _]) 1 8 rfl agg33 rfl rfl rfl)<|M rfl rfl<|M rfl rfl<|Ts rfl (sB (v := .agg #[iv e, iv g]) [(0, iv e), (1, iv g)] rfl (fun _ => by kernel_rfl)) ?_
 obtain ⟨⟨aw, bm, bn, ax, ay, az, aA, bo, b0⟩, c2, hm⟩ := bS hm
 have hm := (unc9E hm)
 refine Tv #[pb c] #[] [.agg #[iv a.Kind, iv a.Session, iv a.No, iv a.Of, iv a.End, iv a.At, iv a.Speed, iv a.Sent], .agg #[iv e, iv g]] rfl rfl call29 rfl (cGuardUnitStop _ _ a (⟨e, g⟩ : GuardStand) f n i a.No d c aw bm bn ax ay az aA bo b0 c2) ?_
 rintro _ c3 _ b1 ⟨rfl, rfl⟩
 refine Do rfl (uA [iv 0, iv 0, iv 0, iv 0, iv 0, iv 0, iv 0, iv 0] zero33 rfl) ?_
 rintro _ _ ⟨b2, rfl, rfl⟩
 refine Do rfl (uN (vs := [_, _, _, _, _, _, _, _]) 0 8 rfl rfl rfl siz33 rfl (mc rfl (mc rfl (mc rfl (mc rfl (mc rfl (mc rfl (mc rfl (mc rfl mn)))))))) rfl (by simp)) ?_
 rintro _ _ rfl
 refine Te<|Cs<|Cr<|Ts rfl (sD (vs := [_, _, _, _, _, _, _, _]) 0 8 rfl agg33 rfl rfl rfl)<|Ts rfl (sB (v := .agg #[iv 0, iv 0, iv 0, iv 0, iv 0, iv 0, iv 0, iv 0]) [] rfl (fun _ => by kernel_rfl))<|Ts rfl (st_eqlA (xs := [iv aw, iv bm, iv bn, iv ax, iv ay, iv az, iv aA, iv bo]) (ys := [iv 0, iv 0, iv 0, iv 0, iv 0, iv 0, iv 0, iv 0]) (p := aw = 0 ∧ bm = 0 ∧ bn = 0 ∧ ax = 0 ∧ ay = 0 ∧ az = 0 ∧ aA = 0 ∧ bo = 0) rfl rfl eqt33 ⟨⟨_, rfl⟩, ⟨⟨_, rfl⟩, ⟨⟨_, rfl⟩, ⟨⟨_, rfl⟩, ⟨⟨_, rfl⟩, ⟨⟨_, rfl⟩, ⟨⟨_, rfl⟩, ⟨⟨_, rfl⟩, trivial⟩⟩⟩⟩⟩⟩⟩⟩ ⟨⟨_, rfl⟩, ⟨⟨_, rfl⟩, ⟨⟨_, rfl⟩, ⟨⟨_, rfl⟩, ⟨⟨_, rfl⟩, ⟨⟨_, rfl⟩, ⟨⟨_, rfl⟩, ⟨⟨_, rfl⟩, trivial⟩⟩⟩⟩⟩⟩⟩⟩ (by simp [eqCells, eqCell, Bool.decide_and, beq_dec]))<|Te ?_
 refine Cc _ rfl (fun bp => ?_) (fun bp => ?_)
 rw [if_pos (of_decide_eq_true bp)] at hm
 refine Cr<|Ts rfl (sB (v := .agg #[iv 0, iv 0, iv 0, iv 0, iv 0, iv 0, iv 0, iv 0]) [] rfl (fun _ => by kernel_rfl))<|Do rfl (uN (vs := [_, _, _, _, _, _, _, _]) 3 8 rfl rfl rfl siz33 rfl (mc rfl (mc rfl (mc rfl (mc rfl (mc rfl (mc rfl (mc rfl (mc rfl mn)))))))) rfl (by simp)) ?_
 rintro _ _ rfl
 refine As rfl rfl<|Te<|Ct<|Xr ?_
 obtain ⟨rfl, rfl, rfl, rfl, rfl, rfl, rfl, rfl, rfl, rfl, rfl, rfl, rfl⟩ := some13 hm
 refine Xp 1 rfl ?_
 exact rM (rs := [.cell 10 33, .tmp 11]) (vs := [.agg #[iv 0, iv 0, iv 0, iv 0, iv 0, iv 0, iv 0, iv 0], bv false]) ⟨⟨_, rfl, fun w ho => cell_agg (vs := [_, _, _, _, _, _, _, _]) 3 8 agg33 rfl rfl rfl w ho⟩, ⟨rfl, trivial⟩⟩ ⟨rfl, rfl⟩ (.cons_cons _ (.cons _ (.cons _ (.cons _ (.refl _))))) (aE.trans (bk.trans b1))
 rw [if_neg (of_decide_eq_false bp)] at hm
 refine Ck<|Xn<|Cr<|M rfl rfl<|Ts rfl (sN rfl)<|Ts rfl (sF rfl fld45_2)<|Ts rfl (sL 1 rfl one3 rfl rfl) ?_
 obtain ⟨_, bq, hm⟩ := bS hm
 have bq := (kS bq).2
 refine Ts rfl (sa rfl rfl bq)<|Ts rfl (sN rfl)<|Ts rfl (sF rfl fld45_2)<|Do rfl (uS 1 rfl rfl siz3 rfl rfl (by simp)) ?_
 rintro _ _ rfl
 refine Te ?_
 obtain ⟨_, c4, c5⟩ := bS hm
 refine Cj (fun b3 e' hp' => [(10, pb j), (13, pb b2)] = e' ∧ (j, Cl 33 [iv 0, iv 0, iv 0, iv 0, iv 0, iv 0, iv 0, iv 0]) :: (b2, Cl 33 [iv aw, iv f, iv (i + 1), iv ax, iv ay, iv az, iv aA, iv d]) :: (c, Cl 45 [iv f, iv b0, iv (i + 1), iv a.No, iv d]) :: R = hp' ∧ c3.Le b3) ?_ ?_
 have hm := c4
 refine Di mixed (.cons _ (.refl _))<|E0 0 rfl (sM rfl)<|E0 1 rfl (sN rfl)<|E0 2 rfl (sF rfl fld45_0)<|Es 3 rfl (sL 0 rfl one3 rfl rfl)<|E0 4 rfl (sM rfl)<|E0 5 rfl (sN rfl)<|E0 6 rfl (sF rfl fld45_2)<|Es 7 rfl (sL 0 rfl one3 rfl rfl)<|E0 8 rfl (sM rfl) ?_
 refine E0 9 rfl (sF rfl fld33_1)<|Eo<|Da [10] (by kernel_rfl) rfl ?_
 refine Rd2 lr rfl rfl (uS 0 rfl rfl siz3 rfl rfl (by simp)) ?_ ?_
 rintro _ _ rfl
 refine ⟨.inr (.cons _ (.refl _)), ?_⟩
 refine Ei lr (.cons _ (.refl _))<|E0 11 rfl (sF rfl fld33_2)<|Eo<|Da [12] (by kernel_rfl) rfl ?_
 refine Rd2 lr rfl rfl (uS 0 rfl rfl siz3 rfl rfl (by simp)) ?_ ?_
 rintro _ _ rfl
 refine ⟨.inl (by kernel_rfl), ?_⟩
 refine El lr<|E0 13 rfl (sF rfl fld33_7)<|Eo<|Da [14] (by kernel_rfl) rfl ?_
 refine Rd2 lr rfl rfl (uS 0 rfl rfl siz3 rfl rfl (by simp)) ?_ ?_
 rintro _ _ rfl
 refine ⟨.inl (by kernel_rfl), ?_⟩
 refine Dd (by kernel_rfl) ?_
 clear hm
 refine Xp 1 rfl<|Xp 1 rfl<|Xp 3 rfl ?_
 exact xJ ⟨rfl, rfl, lr⟩ (.cons_cons _ (.cons_cons _ (.cons_cons _ (.cons _ (.refl _)))))
 exact Rn
 exact Rn
 exact Rn
 rintro b3 _ _ ⟨rfl, rfl, c6⟩
 have hm := c5
 refine Cr<|Ts rfl (sD (vs := [_, _, _, _, _, _, _, _]) 1 8 rfl agg33 rfl rfl rfl)<|Do rfl (uN (vs := [_, _, _, _, _, _, _, _]) 0 8 rfl rfl rfl siz33 rfl (mc rfl (mc rfl (mc rfl (mc rfl (mc rfl (mc rfl (mc rfl (mc rfl mn)))))))) rfl (by simp)) ?_
 rintro _ _ rfl
 refine As rfl rfl<|Te<|Ct ?_
 obtain ⟨rfl, rfl, rfl, rfl, rfl, rfl, rfl, rfl, rfl, rfl, rfl, rfl, rfl⟩ := some13 hm
 refine Xp 2 rfl ?_
 exact rM (rs := [.cell 10 33, .tmp 11]) (vs := [.agg #[iv aw, iv f, iv (i + 1), iv ax, iv ay, iv az, iv aA, iv d], bv true]) ⟨⟨_, rfl, fun w ho => cell_agg (vs := [_, _, _, _, _, _, _, _]) 1 8 agg33 rfl rfl rfl w ho⟩, ⟨rfl, trivial⟩⟩ ⟨rfl, rfl⟩ (.cons_cons _ (.cons _ (.cons _ (.refl _)))) (aE.trans (bk.trans (b1.trans c6)))
 rw [if_neg aq] at hm
 have c7 : mgetD (mput (mput (mput (mput ([] : (List (Int × Value))) 2 (.func (.func 26) #[pb c] #[] : Value)) 4 (.func (.func 27) #[pb c] #[] : Value)) 5 (.func (.func 28) #[pb c] #[] : Value)) 6 (.func (.func 29) #[pb c] #[] : Value)) a.Kind Value.nilFunc = .nilFunc := by unfold mgetD; rw [mget_mput_other _ _ aq, mget_mput_other _ _ ag, mget_mput_other _ _ X, mget_mput_other _ _ J]; rfl
 obtain rfl : s = .nilFunc := by have q : [s] = [mgetD (mput (mput (mput (mput ([] : (List (Int × Value))) 2 (.func (.func 26) #[pb c] #[] : Value)) 4 (.func (.func 27) #[pb c] #[] : Value)) 5 (.func (.func 28) #[pb c] #[] : Value)) 6 (.func (.func 29) #[pb c] #[] : Value)) a.Kind Value.nilFunc] := H.1; rw [c7] at q; injection q
 refine Ts rfl (st_mlook (ok := false) rfl rfl (fun w ho => I _ w ho (.cons _ (.cons _ (.cons _ (List.sublist_append_left _ _)))) false))<|As rfl rfl<|Te<|Cs ?_
 obtain ⟨_, c8, c9⟩ := bS hm
 refine Cj (fun b4 e' hp' => [(0, pb c), (2, iv d), (3, iv e), (4, iv g), (6, pb m), (10, pb j), (12, .nilFunc), (62, bv true)] = e' ∧ (c, Cl 45 [iv f, iv n, iv i, iv o, iv r]) :: (m, Cl 33 [iv a.Kind, iv a.Session, iv a.No, iv a.Of, iv a.End, iv a.At, iv a.Speed, iv a.Sent]) :: (j, Cl 33 [iv 0, iv 0, iv 0, iv 0, iv 0, iv 0, iv 0, iv 0]) :: R = hp' ∧ b.Le b4) ?_ ?_
 have hm := c8
 refine Di mixed (.refl _)<|E0 0 rfl (sM rfl)<|E0 1 rfl (st_eqfN rfl rfl fnt60)<|E0 2 rfl (sM rfl)<|En 3 29 rfl rfl rfl<|En 4 29 rfl rfl rfl<|En 5 29 rfl rfl rfl<|En 6 29 rfl rfl rfl<|E0 7 rfl (pT rfl rfl)<|E0 8 rfl (sM rfl) ?_
 refine En 9 35 rfl rfl rfl<|En 10 35 rfl rfl rfl<|En 11 35 rfl rfl rfl<|En 12 35 rfl rfl rfl<|En 13 35 rfl rfl rfl<|En 14 35 rfl rfl rfl<|En 15 35 rfl rfl rfl<|E0 16 rfl (pT rfl rfl)<|E0 17 rfl (sM rfl)<|En 18 44 rfl rfl rfl ?_
 refine En 19 44 rfl rfl rfl<|En 20 44 rfl rfl rfl<|En 21 44 rfl rfl rfl<|En 22 44 rfl rfl rfl<|En 23 44 rfl rfl rfl<|En 24 44 rfl rfl rfl<|E0 25 rfl (pT rfl rfl)<|E0 26 rfl (sM rfl)<|En 27 53 rfl rfl rfl<|En 28 53 rfl rfl rfl ?_
 refine En 29 53 rfl rfl rfl<|E0 30 rfl (pT rfl rfl)<|E0 31 rfl (sM rfl)<|En 32 58 rfl rfl rfl<|En 33 58 rfl rfl rfl<|En 34 58 rfl rfl rfl<|E0 35 rfl (pT rfl rfl)<|Eo<|Dd (by kernel_rfl) ?_
 clear hm
 refine Xp 1 rfl<|Xp 2 rfl ?_
 exact xJ ⟨rfl, rfl, lr⟩ (.cons_cons _ (.cons_cons _ (.cons_cons _ (ss l (.refl _)))))
 rintro b4 _ _ ⟨rfl, rfl, da⟩
 have hm := c9
 refine c_cond_t rfl<|Cr<|Ts rfl (sB (v := .agg #[iv 0, iv 0, iv 0, iv 0, iv 0, iv 0, iv 0, iv 0]) [] rfl (fun _ => by kernel_rfl))<|Do rfl (uN (vs := [_, _, _, _, _, _, _, _]) 2 8 rfl rfl rfl siz33 rfl (mc rfl (mc rfl (mc rfl (mc rfl (mc rfl (mc rfl (mc rfl (mc rfl mn)))))))) rfl (by simp)) ?_
 rintro _ _ rfl
 refine As rfl rfl<|Te<|Ct<|Xr ?_
 obtain ⟨rfl, rfl, rfl, rfl, rfl, rfl, rfl, rfl, rfl, rfl, rfl, rfl, rfl⟩ := some13 hm
 exact rM (rs := [.cell 10 33, .tmp 11]) (vs := [.agg #[iv 0, iv 0, iv 0, iv 0, iv 0, iv 0, iv 0, iv 0], bv false]) ⟨⟨_, rfl, fun w ho => cell_agg (vs := [_, _, _, _, _, _, _, _]) 2 8 agg33 rfl rfl rfl w ho⟩, ⟨rfl, trivial⟩⟩ ⟨rfl, rfl⟩ (.cons_cons _ (.cons _ (.cons _ (.refl _)))) da

set_option maxRecDepth 20000 in
theorem cGuardCentreReserved_2 (b : Base) (R : Hp) (d : Int) (e : Int) (f : Int) (g : Int) (c : Int) (h : Int) (i : Int) (j : Int) (k : Int) (a : (List GuardAsk)) (l : Nat) (m : OA) (n : Nat) (o : Hp) (q : OS 71 (OT.fr rGuardAsk) b.w (sv m a n) a o) (p : Int) (hm : mGuardCentreReserved_2 d e f g c h i j k a = some p) :
    CallsG Tryd.prog 14 [pb l] b ((l, Cl 49 [iv d, iv e, iv f, iv g, iv c, sv m a n, iv h, iv i, iv j, iv k]) :: (o ++ R)) (fun v b' hp' => iv p = v ∧ (l, Cl 49 [iv d, iv e, iv f, iv g, iv c, sv m a n, iv h, iv i, iv j, iv k]) :: (o ++ R) = hp') := by
 refine fE 7 Tryd.func14 rfl Tryd.ntmps14 rfl ?_
 unfold mGuardCentreReserved_2 at hm
 refine Cr<|As rfl rfl<|Te<|Cr<|M rfl rfl<|Ts rfl (sN rfl)<|Ts rfl (sF rfl fld49_4)<|Ts rfl (sL 0 rfl one3 rfl rfl)<|As rfl rfl<|Te ?_
 refine Ct ?_
 obtain rfl := o1 hm
 exact rM (rs := [.tmp 2]) (vs := [iv c]) ⟨rfl, trivial⟩ ⟨rfl, rfl⟩ (.refl _) lr

set_option maxRecDepth 20000 in
theorem cGuardCentreHand (b : Base) (R : Hp) (n : Int) (a : Int) (C : Int) (p : Int) (q : Int) (g : (List GuardAsk)) (c : Int) (d : Int) (e : Int) (f : Int) (h : Nat) (s : OA) (t : Nat) (D : FZ rGuardAsk b.w s t g) (E : Int) (F : Int) (G : Int) (H : Int) (I : Int) (J : Int) (K : Int) (L : Int) (O : Int) (S : Int) (T : Int) (U : Int) (V : Int) (u : (List GuardAsk)) (i : (List GuardAsk)) (hm : mGuardCentreHand n a C p q g c d e f = some (E, F, G, H, I, J, K, L, O, S, T, U, V, u, i)) :
    CallsG Tryd.prog 13 [pb h] b ((h, Cl 49 [iv n, iv a, iv C, iv p, iv q, sv s g t, iv c, iv d, iv e, iv f]) :: R) (fun v b' hp' => ∃ (W : Nat), ∃ (X : OA), ∃ (Y : Nat), ∃ (Z : OA), ∃ (aa : Nat), ∃ (ab : Hp), pb W = v ∧ (W, Cl 49 [iv E, iv F, iv G, iv H, iv I, sv Z i aa, iv J, iv K, iv L, iv O]) :: (h, Cl 49 [iv S, iv a, iv T, iv U, iv V, sv X u Y, iv c, iv d, iv e, iv f]) :: (ab ++ R) = hp' ∧ FZ rGuardAsk b'.w X Y u ∧ OS 71 (OT.fr rGuardAsk) b'.w (sv Z i aa) i ab) := by
 refine fE 33 Tryd.func13 rfl Tryd.ntmps13 rfl ?_
 unfold mGuardCentreHand at hm
 refine Cr<|As rfl rfl<|Te<|Cr<|M rfl rfl<|Ts rfl (sN rfl)<|Ts rfl (sD (vs := [_, _, _, _, _, _, _, _, _, _]) 0 10 rfl agg49 rfl rfl rfl)<|Do rfl (uA [iv 0, iv 0, iv 0, iv 0, iv 0, sn, iv 0, iv 0, iv 0, iv 0] zero49 rfl) ?_
 rintro _ _ ⟨j, rfl, rfl⟩
 refine Do rfl (uN (vs := [_, _, _, _, _, _, _, _, _, _]) 0 10 rfl rfl rfl siz49 rfl (mc rfl (mc rfl (mc rfl (mc rfl (mc rfl (mc rfl (mc rfl (mc rfl (mc rfl (mc rfl mn)))))))))) rfl (by simp)) ?_
 rintro _ _ rfl
 refine Te<|Cr<|M rfl rfl<|Ts rfl (sN rfl)<|Ts rfl (sF rfl fld49_5)<|Ts rfl (sL 1 rfl one46 rfl rfl) ?_
 obtain ⟨ai, aj, ak⟩ := rd_src D
 obtain ⟨_, x, hm⟩ := bS hm
 have x := room_some x
 refine Do rfl (uQ (r := rGuardAsk) (l := []) [_, _] R ai g rfl (by decide) sl46 inf71 rfl rfl rfl rfl (OS.nil (el := 71) (o := (OT.fr rGuardAsk)) (A := none)) rfl (fun w ho => aj.old ho) ak x) ?_
 rintro _ _ ⟨ac, rfl, ad⟩
 obtain ⟨ae, af, rfl, _⟩ := ad.form
 refine Ts rfl (sF rfl fld49_5)<|Do rfl (uS 0 rfl rfl siz46 rfl rfl (by simp)) ?_
 rintro _ _ rfl
 refine Te ?_
 obtain ⟨⟨al, am, an, ao, aq, ag⟩, ar, au⟩ := bS hm
 refine Cj (fun y e' hp' => ∃ (k : OA), ∃ (m : Nat), [(3, pb j)] = e' ∧ (j, Cl 49 [iv n, iv a, iv al, iv p, iv q, sv ae g af, iv c, iv d, iv e, iv f]) :: (h, Cl 49 [iv am, iv a, iv an, iv ao, iv aq, sv k ag m, iv c, iv d, iv e, iv f]) :: (ac ++ R) = hp' ∧ b.Le y ∧ FZ rGuardAsk y.w k m ag) ?_ ?_
 have hm := ar
 refine Cr<|M rfl rfl<|Ts rfl (sN rfl)<|Ts rfl (sF rfl fld49_0)<|Ts rfl (sL 1 rfl one3 rfl rfl)<|Ts rfl (q2 rfl rfl)<|Te ?_
 refine Cc _ rfl (fun z => ?_) (fun z => ?_)
 rw [if_pos (of_decide_eq_true z)] at hm
 refine Cr<|Ts rfl (sF rfl fld49_2)<|Ts rfl (sL 0 rfl one3 rfl rfl) ?_
 obtain ⟨_, B, hm⟩ := bS hm
 have B := (kS B).2
 refine Ts rfl (sa rfl rfl B)<|Ts rfl (sF rfl fld49_2)<|Do rfl (uS 0 rfl rfl siz3 rfl rfl (by simp)) ?_
 rintro _ _ rfl
 refine Te<|Di mixed (.refl _)<|E0 0 rfl (sM rfl)<|E0 1 rfl (sM rfl)<|E0 2 rfl (sN rfl)<|E0 3 rfl (sF rfl fld49_1)<|Es 4 rfl (sL 1 rfl one3 rfl rfl)<|E0 5 rfl (sM rfl)<|E0 6 rfl (sN rfl)<|E0 7 rfl (sF rfl fld49_6) ?_
 refine Es 8 rfl (sD (vs := [_, _, _, _]) 1 4 rfl agg47 rfl rfl rfl)<|E0 9 rfl (sB (v := .agg #[iv 0, iv a, iv 0, iv 0, iv 0, sn, iv c, iv d, iv e, iv f]) [(1, iv a), (6, .agg #[iv c, iv d, iv e, iv f])] rfl (fun _ => by kernel_rfl))<|E0 10 rfl (sN rfl)<|Eo<|Da [11] (by kernel_rfl) rfl ?_
 refine Rd2 lr rfl rfl (uN (vs := [_, _, _, _, _, _, _, _, _, _]) 1 10 rfl rfl rfl siz49 rfl (mc rfl (mc rfl (mc rfl (mc rfl (mc rfl (mc rfl (mc rfl (mc rfl (mc rfl (mc rfl mn)))))))))) rfl (by simp)) ?_ ?_
 rintro _ _ rfl
 refine ⟨.inl (by kernel_rfl), ?_⟩
 refine Dd (by kernel_rfl) ?_
 obtain ⟨rfl, rfl, rfl, rfl, rfl, rfl⟩ := some6 hm
 refine Xp 1 rfl<|Xp 1 rfl ?_
 exact xJ ⟨none, 0, rfl, rfl, lr, FZ.nil⟩ (.refl _)
 exact Rn
 rw [if_neg (of_decide_eq_false z)] at hm
 refine Ck ?_
 obtain ⟨rfl, rfl, rfl, rfl, rfl, rfl⟩ := some6 hm
 refine Xp 1 rfl<|Xp 1 rfl ?_
 exact xJ ⟨s, t, rfl, rfl, lr, D⟩ (.refl _)
 rintro y _ _ ⟨k, m, rfl, rfl, ah, av⟩
 have hm := (unc6E au)
 refine Cr<|As rfl rfl<|Te<|Ct ?_
 obtain ⟨rfl, rfl, rfl, rfl, rfl, rfl, rfl, rfl, rfl, rfl, rfl, rfl, rfl, rfl, rfl⟩ := some15 hm
 refine Xp 1 rfl<|Xp 1 rfl ?_
 have aw := (ad.le ah)
 exact rM (rs := [.tmp 2]) (vs := [pb j]) ⟨rfl, trivial⟩ ⟨j, k, m, ae, af, ac, rfl, rfl, av, aw⟩ (.refl _) ah

set_option maxRecDepth 20000 in
theorem cGuardCentreSend_2 (b : Base) (R : Hp) (d : Int) (e : Int) (a : Int) (f : Int) (p : Int) (c : Int) (q : Int) (s : Int) (t : Int) (u : Int) (x : Int) (y : Int) (k : (List GuardAsk)) (j : Nat) (m : OA) (n : Nat) (g : Hp) (B : OS 71 (OT.fr rGuardAsk) b.w (sv m k n) k g) (V : Int) (W : Int) (X : Int) (Y : Int) (Z : Int) (aa : Int) (ab : Int) (ac : Int) (ad : Int) (ae : Int) (C : (List GuardAsk)) (hm : mGuardCentreSend_2 d e a f p c q s t u x y k = some (V, W, X, Y, Z, aa, ab, ac, ad, ae, C)) :
    CallsG Tryd.prog 25 [pb j, iv d, iv e, iv a] b ((j, Cl 49 [iv f, iv p, iv c, iv q, iv s, sv m k n, iv t, iv u, iv x, iv y]) :: (g ++ R)) (fun v b' hp' => ∃ (af : OA), ∃ (ag : Nat), ∃ (ah : Hp), .tuple #[.agg #[iv V, iv W, iv X, iv Y, iv Z, iv aa, iv ab, iv ac], iv ad] = v ∧ (j, Cl 49 [iv f, iv p, iv ae, iv q, iv s, sv af C ag, iv t, iv u, iv x, iv y]) :: (ah ++ R) = hp' ∧ OS 71 (OT.fr rGuardAsk) b'.w (sv af C ag) C ah) := by
 refine fE 70 Tryd.func25 rfl Tryd.ntmps25 rfl ?_
 unfold mGuardCentreSend_2 at hm
 refine Cr<|Do rfl (uA [iv 0, iv 0, iv 0, iv 0, iv 0, iv 0, iv 0, iv 0] zero33 rfl) ?_
 rintro _ _ ⟨D, rfl, rfl⟩
 refine As rfl rfl<|Te<|Cs<|Cb<|Cr<|M rfl rfl<|Ts rfl (sN rfl)<|Ts rfl (sF rfl fld49_0)<|Ts rfl (sL 1 rfl one3 rfl rfl)<|Ts rfl (q1 rfl rfl) ?_
 refine As rfl rfl<|Te ?_
 refine Cc _ rfl (fun H => ?_) (fun H => ?_)
 rw [if_pos (of_decide_eq_true H)] at hm
 refine Cr<|Ts rfl (sB (v := .agg #[iv 0, iv 0, iv 0, iv 0, iv 0, iv 0, iv 0, iv 0]) [] rfl (fun _ => by kernel_rfl))<|Do rfl (uN (vs := [_, _, _, _, _, _, _, _]) 0 8 rfl rfl rfl siz33 rfl (mc rfl (mc rfl (mc rfl (mc rfl (mc rfl (mc rfl (mc rfl (mc rfl mn)))))))) rfl (by simp)) ?_
 rintro _ _ rfl
 refine As rfl rfl<|Te<|Ct<|Xb<|Xr ?_
 obtain ⟨rfl, rfl, rfl, rfl, rfl, rfl, rfl, rfl, rfl, rfl, rfl⟩ := some11 hm
 refine Xp 1 rfl ?_
 exact rM (rs := [.cell 8 33, .tmp 9]) (vs := [.agg #[iv 0, iv 0, iv 0, iv 0, iv 0, iv 0, iv 0, iv 0], iv 7]) ⟨⟨_, rfl, fun w ho => cell_agg (vs := [_, _, _, _, _, _, _, _]) 1 8 agg33 rfl rfl rfl w ho⟩, ⟨rfl, trivial⟩⟩ ⟨m, n, g, rfl, rfl, B⟩ (.cons_cons _ (.cons _ (.refl _))) lr
 rw [if_neg (of_decide_eq_false H)] at hm
 obtain ⟨aj, ak, al⟩ := bS hm
 refine Cj (fun I e' hp' => [(0, pb j), (1, iv d), (2, iv e), (3, iv a), (8, pb D), (17, bv aj)] = e' ∧ (j, Cl 49 [iv f, iv p, iv c, iv q, iv s, sv m k n, iv t, iv u, iv x, iv y]) :: (D, Cl 33 [iv 0, iv 0, iv 0, iv 0, iv 0, iv 0, iv 0, iv 0]) :: (g ++ R) = hp' ∧ b.Le I) ?_ ?_
 have hm := ak
 refine Cg<|M rfl rfl ?_
 obtain ⟨ai, am, hm⟩ := bS hm
 refine Do rfl (uW _ call16 rfl (fun w ho => cGuardWithin _ [] e 0 28800 ai am) (fun _ _ _ h => h.2.symm)) ?_
 rintro _ _ ⟨⟨_, rfl, _⟩, rfl⟩
 rcases Bool.eq_false_or_eq_true ai with z | z
 rw [if_pos z] at hm
 refine Tr 19 rfl (v' := .bool true) (by rw [z] <;> rfl)<|Ts rfl (st_not_t rfl)<|M rfl rfl<|Ys 21 rfl rfl rfl<|M rfl rfl<|Ys 21 rfl rfl rfl ?_
 obtain ⟨an, ao, hm⟩ := bS hm
 refine Do rfl (uW _ call16 rfl (fun w ho => cGuardWithin _ [] a 0 20000000 an ao) (fun _ _ _ h => h.2.symm)) ?_
 rintro _ _ ⟨⟨_, rfl, _⟩, rfl⟩
 refine Ys 21 rfl rfl rfl<|Ts rfl (sn2 rfl)<|Ts rfl (pF rfl rfl)<|As rfl rfl<|Tn ?_
 obtain rfl := o1 hm
 refine Xp 1 rfl ?_
 exact xJ ⟨rfl, rfl, lr⟩ (.refl _)
 rw [if_neg (fun hh => Bool.noConfusion (hh.symm.trans z))] at hm
 refine Tr 19 rfl (v' := .bool false) (by rw [z] <;> rfl)<|Ts rfl (st_not_f rfl)<|M rfl rfl<|No 21 rfl rfl rfl rfl rfl<|No 21 rfl rfl rfl rfl rfl<|No 21 rfl rfl rfl rfl rfl<|Ts rfl (pT rfl rfl)<|As rfl rfl<|Tn ?_
 obtain rfl := o1 hm
 refine Xp 1 rfl ?_
 exact xJ ⟨rfl, rfl, lr⟩ (.refl _)
 rintro I _ _ ⟨rfl, rfl, o⟩
 have hm := al
 refine Cc _ rfl (fun J => ?_) (fun J => ?_)
 rw [if_pos J] at hm
 refine Cr<|Ts rfl (sB (v := .agg #[iv 0, iv 0, iv 0, iv 0, iv 0, iv 0, iv 0, iv 0]) [] rfl (fun _ => by kernel_rfl))<|Do rfl (uN (vs := [_, _, _, _, _, _, _, _]) 1 8 rfl rfl rfl siz33 rfl (mc rfl (mc rfl (mc rfl (mc rfl (mc rfl (mc rfl (mc rfl (mc rfl mn)))))))) rfl (by simp)) ?_
 rintro _ _ rfl
 refine As rfl rfl<|Te<|Ct<|Xb<|Xr ?_
 obtain ⟨rfl, rfl, rfl, rfl, rfl, rfl, rfl, rfl, rfl, rfl, rfl⟩ := some11 hm
 have aq := (B.le o)
 exact rM (rs := [.cell 8 33, .tmp 9]) (vs := [.agg #[iv 0, iv 0, iv 0, iv 0, iv 0, iv 0, iv 0, iv 0], iv 2]) ⟨⟨_, rfl, fun w ho => cell_agg (vs := [_, _, _, _, _, _, _, _]) 1 8 agg33 rfl rfl rfl w ho⟩, ⟨rfl, trivial⟩⟩ ⟨m, n, g, rfl, rfl, aq⟩ (.cons_cons _ (.cons _ (.refl _))) o
 rw [if_neg (fun hh => Bool.noConfusion (hh.symm.trans J))] at hm
 refine Cr<|M rfl rfl<|Ts rfl (sN rfl)<|Ts rfl (sF rfl fld49_2)<|Ts rfl (sL 0 rfl one3 rfl rfl)<|Ts rfl (q6 rfl rfl)<|As rfl rfl<|Te ?_
 refine Cc _ rfl (fun K => ?_) (fun K => ?_)
 rw [if_pos (of_decide_eq_true K)] at hm
 refine Cr<|Ts rfl (sB (v := .agg #[iv 0, iv 0, iv 0, iv 0, iv 0, iv 0, iv 0, iv 0]) [] rfl (fun _ => by kernel_rfl))<|Do rfl (uN (vs := [_, _, _, _, _, _, _, _]) 1 8 rfl rfl rfl siz33 rfl (mc rfl (mc rfl (mc rfl (mc rfl (mc rfl (mc rfl (mc rfl (mc rfl mn)))))))) rfl (by simp)) ?_
 rintro _ _ rfl
 refine As rfl rfl<|Te<|Ct<|Xb<|Xr ?_
 obtain ⟨rfl, rfl, rfl, rfl, rfl, rfl, rfl, rfl, rfl, rfl, rfl⟩ := some11 hm
 have ar := (B.le o)
 exact rM (rs := [.cell 8 33, .tmp 9]) (vs := [.agg #[iv 0, iv 0, iv 0, iv 0, iv 0, iv 0, iv 0, iv 0], iv 4]) ⟨⟨_, rfl, fun w ho => cell_agg (vs := [_, _, _, _, _, _, _, _]) 1 8 agg33 rfl rfl rfl w ho⟩, ⟨rfl, trivial⟩⟩ ⟨m, n, g, rfl, rfl, ar⟩ (.cons_cons _ (.cons _ (.refl _))) o
 rw [if_neg (of_decide_eq_false K)] at hm
 refine Ck<|Xm<|Xn<|Cr<|M rfl rfl<|Ts rfl (sN rfl)<|Ts rfl (sF rfl fld49_2)<|Ts rfl (sL 0 rfl one3 rfl rfl) ?_
 obtain ⟨_, L, hm⟩ := bS hm
 have L := (kS L).2
 refine Ts rfl (sa rfl rfl L)<|Ts rfl (sN rfl)<|Ts rfl (sF rfl fld49_2)<|Do rfl (uS 0 rfl rfl siz3 rfl rfl (by simp)) ?_
 rintro _ _ rfl
 refine Te ?_
 obtain ⟨E, au, av⟩ := bS hm
 refine Cj (fun O e' hp' => ∃ (A : OA), ∃ (F : Nat), ∃ (G : Hp), [(0, pb j), (1, iv d), (2, iv e), (3, iv a), (8, pb D)] = e' ∧ (j, Cl 49 [iv f, iv p, iv (c + 1), iv q, iv s, sv A E F, iv t, iv u, iv x, iv y]) :: (D, Cl 33 [iv 0, iv 0, iv 0, iv 0, iv 0, iv 0, iv 0, iv 0]) :: (G ++ R) = hp' ∧ I.Le O ∧ OS 71 (OT.fr rGuardAsk) O.w (sv A E F) E G ∧ (A = none ↔ E = [])) ?_ ?_
 have hm := au
 obtain ⟨_, S, hm⟩ := bS hm
 refine Di mixed (.cons_cons _ (.cons_cons _ (ss g (.refl _))))<|E0 0 rfl (sM rfl)<|E0 1 rfl (sM rfl)<|E0 2 rfl (sN rfl)<|E0 3 rfl (sF rfl fld49_5)<|Es 4 rfl (sL 0 rfl one46 rfl rfl)<|E0 5 rfl (sM rfl)<|E0 6 rfl (sN rfl)<|E0 7 rfl (sF rfl fld49_2)<|Es 8 rfl (sL 0 rfl one3 rfl rfl) ?_
 refine E0 9 rfl (sM rfl)<|E0 10 rfl (sM rfl)<|E0 11 rfl (q1 rfl rfl)<|E0 12 rfl (sB (v := .agg #[iv (c + 1), iv a, .bool (decide (d = 4))]) [(0, iv (c + 1)), (1, iv a), (2, .bool (decide (d = 4)))] rfl (fun _ => by kernel_rfl))<|Eo<|Da [13] (by kernel_rfl) rfl ?_
 refine Rd2 lr rfl rfl (u_bslice (el := 71) [(0, .agg #[iv (c + 1), iv a, .bool (decide (d = 4))])] [iv (c + 1), iv a, .bool (decide (d = 4))] rfl (fun _ => by kernel_rfl)) ?_ ?_
 rintro _ _ ⟨aA, rfl, rfl⟩
 refine ⟨.inr (.cons _ (.cons_cons _ (.cons_cons _ (ss g (.refl _))))), ?_⟩
 have S := room_some S
 refine Da [14] (by kernel_rfl) rfl ?_
 refine Rd2 lr rfl rfl (uQ (r := rGuardAsk) (l := k) [_, _, _] R [[iv (c + 1), iv a, .bool (decide (d = 4))]] [(⟨c + 1, a, decide (d = 4)⟩ : GuardAsk)] rfl (by decide) sl46 inf71 rfl rfl rfl rfl (B.le o) rfl (fun w ho => Rd.own (i := 0) ho rfl) ⟨⟨[iv (c + 1)], _, rfl, rfl, ⟨[iv a], _, rfl, rfl, rfl⟩⟩, trivial⟩ S) ?_ ?_
 rintro _ _ ⟨T, rfl, U⟩
 obtain ⟨aw, ax, rfl, _⟩ := U.form
 refine ⟨.inr (.cons _ (.cons_cons _ (.cons_cons _ (ss T (.refl _))))), ?_⟩
 refine Ei lr (.cons _ (.cons_cons _ (.cons_cons _ (ss T (.refl _)))))<|E0 15 rfl (sN rfl)<|E0 16 rfl (sF rfl fld49_5)<|Eo<|Da [17] (by kernel_rfl) rfl ?_
 refine Rd2 lr rfl rfl (uS 1 rfl rfl siz46 rfl rfl (by simp)) ?_ ?_
 rintro _ _ rfl
 refine ⟨.inl (by kernel_rfl), ?_⟩
 refine Dd (by kernel_rfl) ?_
 obtain rfl := o1 hm
 refine Xp 2 rfl<|Xp 2 rfl ?_
 exact xJ ⟨aw, ax, T, rfl, rfl, lr, U, (OS.nz U (by simp))⟩ (.cons_cons _ (.cons_cons _ (.cons _ (.refl _))))
 exact Rn
 exact Rn
 exact Rn
 rintro O _ _ ⟨A, F, G, rfl, rfl, ay, az, aB⟩
 have hm := av
 refine Cs<|Di mixed (.refl _)<|E0 0 rfl (sM rfl)<|E0 1 rfl (sM rfl)<|E0 2 rfl (sN rfl)<|E0 3 rfl (sF rfl fld49_0)<|Es 4 rfl (sL 0 rfl one3 rfl rfl)<|E0 5 rfl (sM rfl)<|E0 6 rfl (sN rfl)<|E0 7 rfl (sF rfl fld49_2) ?_
 refine Es 8 rfl (sL 0 rfl one3 rfl rfl)<|E0 9 rfl (sM rfl)<|E0 10 rfl (sM rfl)<|E0 11 rfl (sB (v := .agg #[iv d, iv f, iv (c + 1), iv 0, iv a, iv 0, iv 0, iv e]) [(0, iv d), (1, iv f), (2, iv (c + 1)), (4, iv a), (7, iv e)] rfl (fun _ => by kernel_rfl))<|Eo<|Da [12] (by kernel_rfl) rfl ?_
 refine Rd2 lr rfl rfl (uN (vs := [_, _, _, _, _, _, _, _]) 1 8 rfl rfl rfl siz33 rfl (mc rfl (mc rfl (mc rfl (mc rfl (mc rfl (mc rfl (mc rfl (mc rfl mn)))))))) rfl (by simp)) ?_ ?_
 rintro _ _ rfl
 refine ⟨.inl (by kernel_rfl), ?_⟩
 refine El lr<|E0 13 rfl (sA rfl)<|Eo<|Dd (by kernel_rfl)<|Xn<|Ct ?_
 obtain ⟨rfl, rfl, rfl, rfl, rfl, rfl, rfl, rfl, rfl, rfl, rfl⟩ := some11 hm
 exact rM (rs := [.cell 8 33, .tmp 9]) (vs := [.agg #[iv d, iv f, iv (c + 1), iv 0, iv a, iv 0, iv 0, iv e], iv 0]) ⟨⟨_, rfl, fun w ho => cell_agg (vs := [_, _, _, _, _, _, _, _]) 1 8 agg33 rfl rfl rfl w ho⟩, ⟨rfl, trivial⟩⟩ ⟨A, F, G, rfl, rfl, az⟩ (.cons_cons _ (.cons _ (.refl _))) (o.trans ay)
 exact Rn

set_option maxRecDepth 20000 in
theorem cGuardCentreGrant_2 (b : Base) (R : Hp) (m : Int) (n : Int) (a : Int) (c : Int) (o : Int) (d : Int) (p : Int) (e : Int) (f : Int) (g : Int) (h : Int) (i : (List GuardAsk)) (j : Nat) (q : OA) (r : Nat) (k : Hp) (h5 : OS 71 (OT.fr rGuardAsk) b.w (sv q i r) i k) (F : Int) (G : Int) (H : Int) (I : Int) (J : Int) (K : Int) (L : Int) (O : Int) (S : Int) (T : Int) (U : Int) (l : (List GuardAsk)) (hm : mGuardCentreGrant_2 m n a c o d p e f g h i = some (F, G, H, I, J, K, L, O, S, T, U, l)) :
    CallsG Tryd.prog 17 [pb j, iv m, iv n] b ((j, Cl 49 [iv a, iv c, iv o, iv d, iv p, sv q i r, iv e, iv f, iv g, iv h]) :: (k ++ R)) (fun v b' hp' => ∃ (V : OA), ∃ (W : Nat), ∃ (X : Hp), .tuple #[.agg #[iv F, iv G, iv H, iv I, iv J, iv K, iv L, iv O], iv S] = v ∧ (j, Cl 49 [iv a, iv c, iv T, iv d, iv U, sv V l W, iv e, iv f, iv g, iv h]) :: (X ++ R) = hp' ∧ OS 71 (OT.fr rGuardAsk) b'.w (sv V l W) l X) := by
 refine fE 30 Tryd.func17 rfl Tryd.ntmps17 rfl ?_
 unfold mGuardCentreGrant_2 at hm
 refine Cr<|Do rfl (uA [iv 0, iv 0, iv 0, iv 0, iv 0, iv 0, iv 0, iv 0] zero33 rfl) ?_
 rintro _ _ ⟨Y, rfl, rfl⟩
 refine As rfl rfl<|Te<|Cr<|M rfl rfl<|M rfl rfl<|M rfl rfl ?_
 obtain ⟨⟨s, t, u, x, y, z, A, B, C, Z, aa⟩, hcl74, hm⟩ := bS hm
 have hm := (unc11E hm)
 refine t_pullb 1 rfl<|t_out1 [_] [_] k R rfl<|Tg _ rfl call25 rfl (cGuardCentreSend_2 _ _ 4 m n a c o d p e f g h i j q r k h5 s t u x y z A B C Z aa hcl74) ?_
 rintro _ b75 _ hle76 ⟨ab, ac, D, rfl, rfl, h80⟩
 refine t_in1 [_] [_] D R rfl<|M rfl rfl<|Ts rfl (st_extract rfl rfl)<|Ts rfl (st_extract rfl rfl)<|Do rfl (uA [iv 0, iv 0, iv 0, iv 0, iv 0, iv 0, iv 0, iv 0] zero33 rfl) ?_
 rintro _ _ ⟨ad, rfl, rfl⟩
 refine Do rfl (uN (vs := [_, _, _, _, _, _, _, _]) 0 8 rfl rfl rfl siz33 rfl (mc rfl (mc rfl (mc rfl (mc rfl (mc rfl (mc rfl (mc rfl (mc rfl mn)))))))) rfl (by simp)) ?_
 rintro _ _ rfl
 refine As rfl rfl<|Te ?_
 obtain ⟨x85, hj86, hk86⟩ := bS hm
 refine Cj (fun ae e' hp' => [(6, pb Y), (8, pb ad), (9, iv C)] = e' ∧ (Y, Cl 33 [iv 0, iv 0, iv 0, iv 0, iv 0, iv 0, iv 0, iv 0]) :: (ad, Cl 33 [iv s, iv t, iv u, iv x, iv y, iv z, iv A, iv B]) :: (j, Cl 49 [iv a, iv c, iv Z, iv d, iv x85, sv ab aa ac, iv e, iv f, iv g, iv h]) :: (D ++ R) = hp' ∧ b75.Le ae) ?_ ?_
 have hm := hj86
 refine Cr<|M rfl rfl<|Ts rfl (q1 rfl rfl)<|Te ?_
 refine Cc _ rfl (fun E => ?_) (fun E => ?_)
 rw [if_pos (of_decide_eq_true E)] at hm
 refine Cg<|M rfl rfl<|M rfl rfl<|Ts rfl (sN rfl)<|Ts rfl (sF rfl fld49_4)<|Ts rfl (sL 1 rfl one3 rfl rfl)<|M rfl rfl<|Ts rfl (st_max rfl rfl)<|Ts rfl (sN rfl)<|Ts rfl (sF rfl fld49_4) ?_
 refine Do rfl (uS 1 rfl rfl siz3 rfl rfl (by simp)) ?_
 rintro _ _ rfl
 refine Tn ?_
 obtain rfl := o1 hm
 refine Xp 1 rfl<|Xp 1 rfl<|Xp 2 rfl ?_
 exact xJ ⟨rfl, rfl, lr⟩ (.refl _)
 rw [if_neg (of_decide_eq_false E)] at hm
 refine Ck ?_
 obtain rfl := o1 hm
 refine Xp 1 rfl<|Xp 1 rfl<|Xp 2 rfl ?_
 exact xJ ⟨rfl, rfl, lr⟩ (.refl _)
 rintro ae _ _ ⟨rfl, rfl, af⟩
 have hm := hk86
 refine Cr<|Ts rfl (sD (vs := [_, _, _, _, _, _, _, _]) 1 8 rfl agg33 rfl rfl rfl)<|M rfl rfl<|Do rfl (uN (vs := [_, _, _, _, _, _, _, _]) 0 8 rfl rfl rfl siz33 rfl (mc rfl (mc rfl (mc rfl (mc rfl (mc rfl (mc rfl (mc rfl (mc rfl mn)))))))) rfl (by simp)) ?_
 rintro _ _ rfl
 refine As rfl rfl<|Te<|Ct ?_
 obtain ⟨rfl, rfl, rfl, rfl, rfl, rfl, rfl, rfl, rfl, rfl, rfl, rfl⟩ := some12 hm
 refine Xp 2 rfl ?_
 have he88 := (h80.le af)
 exact rM (rs := [.cell 6 33, .tmp 7]) (vs := [.agg #[iv s, iv t, iv u, iv x, iv y, iv z, iv A, iv B], iv C]) ⟨⟨_, rfl, fun w ho => cell_agg (vs := [_, _, _, _, _, _, _, _]) 1 8 agg33 rfl rfl rfl w ho⟩, ⟨rfl, trivial⟩⟩ ⟨ab, ac, D, rfl, rfl, he88⟩ (.cons_cons _ (.cons _ (.cons _ (.refl _)))) (hle76.trans af)

set_option maxRecDepth 20000 in
theorem cGuardCentreShort_2 (b : Base) (R : Hp) (n : Int) (o : Int) (c : Int) (d : Int) (p : Int) (e : Int) (f : Int) (g : Int) (h : Int) (i : Int) (j : Int) (a : (List GuardAsk)) (k : Nat) (q : OA) (r : Nat) (l : Hp) (W : OS 71 (OT.fr rGuardAsk) b.w (sv q a r) a l) (s : Int) (t : Int) (u : Int) (x : Int) (y : Int) (z : Int) (A : Int) (B : Int) (C : Int) (D : Int) (m : (List GuardAsk)) (hm : mGuardCentreShort_2 n o c d p e f g h i j a = some (s, t, u, x, y, z, A, B, C, D, m)) :
    CallsG Tryd.prog 18 [pb k, iv n, iv o] b ((k, Cl 49 [iv c, iv d, iv p, iv e, iv f, sv q a r, iv g, iv h, iv i, iv j]) :: (l ++ R)) (fun v b' hp' => ∃ (E : OA), ∃ (F : Nat), ∃ (G : Hp), .tuple #[.agg #[iv s, iv t, iv u, iv x, iv y, iv z, iv A, iv B], iv C] = v ∧ (k, Cl 49 [iv c, iv d, iv D, iv e, iv f, sv E m F, iv g, iv h, iv i, iv j]) :: (G ++ R) = hp' ∧ OS 71 (OT.fr rGuardAsk) b'.w (sv E m F) m G) := by
 refine fE 14 Tryd.func18 rfl Tryd.ntmps18 rfl ?_
 unfold mGuardCentreShort_2 at hm
 refine Cr<|Do rfl (uA [iv 0, iv 0, iv 0, iv 0, iv 0, iv 0, iv 0, iv 0] zero33 rfl) ?_
 rintro _ _ ⟨ae, rfl, rfl⟩
 refine As rfl rfl<|Te<|Cr<|M rfl rfl<|M rfl rfl<|M rfl rfl ?_
 obtain ⟨⟨H, I, J, K, L, O, S, T, U, X, Y⟩, Z, hm⟩ := bS hm
 have hm := (unc11E hm)
 refine t_pullb 1 rfl<|t_out1 [_] [_] l R rfl<|Tg _ rfl call25 rfl (cGuardCentreSend_2 _ _ 5 n o c d p e f g h i j a k q r l W H I J K L O S T U X Y Z) ?_
 rintro _ af _ aa ⟨ab, ac, V, rfl, rfl, ad⟩
 refine t_in1 [_] [_] V R rfl<|Ts rfl (st_extract rfl rfl)<|Ts rfl (st_extract rfl rfl)<|Do rfl (uN (vs := [_, _, _, _, _, _, _, _]) 1 8 rfl rfl rfl siz33 rfl (mc rfl (mc rfl (mc rfl (mc rfl (mc rfl (mc rfl (mc rfl (mc rfl mn)))))))) rfl (by simp)) ?_
 rintro _ _ rfl
 refine As rfl rfl<|Te<|Ct ?_
 obtain ⟨rfl, rfl, rfl, rfl, rfl, rfl, rfl, rfl, rfl, rfl, rfl⟩ := some11 hm
 exact rM (rs := [.cell 6 33, .tmp 7]) (vs := [.agg #[iv H, iv I, iv J, iv K, iv L, iv O, iv S, iv T], iv U]) ⟨⟨_, rfl, fun w ho => cell_agg (vs := [_, _, _, _, _, _, _, _]) 1 8 agg33 rfl rfl rfl w ho⟩, ⟨rfl, trivial⟩⟩ ⟨ab, ac, V, rfl, rfl, ad⟩ (.cons_cons _ (.cons _ (.refl _))) aa

set_option maxRecDepth 20000 in
theorem cGuardCentreStop_2 (b : Base) (R : Hp) (n : Int) (c : Int) (d : Int) (o : Int) (e : Int) (f : Int) (g : Int) (h : Int) (i : Int) (j : Int) (a : (List GuardAsk)) (k : Nat) (p : OA) (q : Nat) (l : Hp) (V : OS 71 (OT.fr rGuardAsk) b.w (sv p a q) a l) (r : Int) (s : Int) (t : Int) (u : Int) (x : Int) (y : Int) (z : Int) (A : Int) (B : Int) (C : Int) (m : (List GuardAsk)) (hm : mGuardCentreStop_2 n c d o e f g h i j a = some (r, s, t, u, x, y, z, A, B, C, m)) :
    CallsG Tryd.prog 19 [pb k, iv n] b ((k, Cl 49 [iv c, iv d, iv o, iv e, iv f, sv p a q, iv g, iv h, iv i, iv j]) :: (l ++ R)) (fun v b' hp' => ∃ (D : OA), ∃ (E : Nat), ∃ (F : Hp), .tuple #[.agg #[iv r, iv s, iv t, iv u, iv x, iv y, iv z, iv A], iv B] = v ∧ (k, Cl 49 [iv c, iv d, iv C, iv e, iv f, sv D m E, iv g, iv h, iv i, iv j]) :: (F ++ R) = hp' ∧ OS 71 (OT.fr rGuardAsk) b'.w (sv D m E) m F) := by
 refine fE 11 Tryd.func19 rfl Tryd.ntmps19 rfl ?_
 unfold mGuardCentreStop_2 at hm
 refine Cr<|Do rfl (uA [iv 0, iv 0, iv 0, iv 0, iv 0, iv 0, iv 0, iv 0] zero33 rfl) ?_
 rintro _ _ ⟨ad, rfl, rfl⟩
 refine As rfl rfl<|Te<|Cr<|M rfl rfl<|M rfl rfl ?_
 obtain ⟨⟨G, H, I, J, K, L, O, S, T, W, X⟩, Y, hm⟩ := bS hm
 have hm := (unc11E hm)
 refine t_pullb 1 rfl<|t_out1 [_] [_] l R rfl<|Tg _ rfl call25 rfl (cGuardCentreSend_2 _ _ 6 n 0 c d o e f g h i j a k p q l V G H I J K L O S T W X Y) ?_
 rintro _ ae _ Z ⟨aa, ab, U, rfl, rfl, ac⟩
 refine t_in1 [_] [_] U R rfl<|Ts rfl (st_extract rfl rfl)<|Ts rfl (st_extract rfl rfl)<|Do rfl (uN (vs := [_, _, _, _, _, _, _, _]) 1 8 rfl rfl rfl siz33 rfl (mc rfl (mc rfl (mc rfl (mc rfl (mc rfl (mc rfl (mc rfl (mc rfl mn)))))))) rfl (by simp)) ?_
 rintro _ _ rfl
 refine As rfl rfl<|Te<|Ct ?_
 obtain ⟨rfl, rfl, rfl, rfl, rfl, rfl, rfl, rfl, rfl, rfl, rfl⟩ := some11 hm
 exact rM (rs := [.cell 4 33, .tmp 5]) (vs := [.agg #[iv G, iv H, iv I, iv J, iv K, iv L, iv O, iv S], iv T]) ⟨⟨_, rfl, fun w ho => cell_agg (vs := [_, _, _, _, _, _, _, _]) 1 8 agg33 rfl rfl rfl w ho⟩, ⟨rfl, trivial⟩⟩ ⟨aa, ab, U, rfl, rfl, ac⟩ (.cons_cons _ (.cons _ (.refl _))) Z

set_option maxRecDepth 20000 in
theorem cFishkeep1Asked_2 (b : Base) (R : Hp) (C : Int) (l : Int) (q : Int) (c : Int) (d : Int) (m : Int) (e : Int) (n : Int) (f : Int) (g : Int) (h : Int) (i : Int) (j : (List GuardAsk)) (k : Nat) (o : OA) (p : Nat) (a : Hp) (x : OS 71 (OT.fr rGuardAsk) b.w (sv o j p) j a) (D : Int) (E : Int) (F : Int) (G : Int) (H : Int) (I : Int) (J : Int) (K : Int) (L : Bool) (O : Int) (S : Int) (r : (List GuardAsk)) (hm : mFishkeep1Asked_2 C l q c d m e n f g h i j = some (D, E, F, G, H, I, J, K, L, O, S, r)) :
    CallsG Tryd.prog 11 [pb k, iv C, iv l, iv q] b ((k, Cl 49 [iv c, iv d, iv m, iv e, iv n, sv o j p, iv f, iv g, iv h, iv i]) :: (a ++ R)) (fun v b' hp' => ∃ (T : OA), ∃ (U : Nat), ∃ (V : Hp), .tuple #[.agg #[iv D, iv E, iv F, iv G, iv H, iv I, iv J, iv K], bv L] = v ∧ (k, Cl 49 [iv c, iv d, iv O, iv e, iv S, sv T r U, iv f, iv g, iv h, iv i]) :: (V ++ R) = hp' ∧ OS 71 (OT.fr rGuardAsk) b'.w (sv T r U) r V) := by
 refine fE 40 Tryd.func11 rfl Tryd.ntmps11 rfl ?_
 unfold mFishkeep1Asked_2 at hm
 refine Cr<|Do rfl (uA [iv 0, iv 0, iv 0, iv 0, iv 0, iv 0, iv 0, iv 0] zero33 rfl) ?_
 rintro _ _ ⟨W, rfl, rfl⟩
 refine As rfl rfl<|Te<|Cr<|Do rfl (uA [iv 0, iv 0, iv 0, iv 0, iv 0, iv 0, iv 0, iv 0] zero33 rfl) ?_
 rintro _ _ ⟨X, rfl, rfl⟩
 refine Te<|Cr<|As rfl rfl<|Te ?_
 obtain ⟨⟨Y, Z, aa, ab, ac, ad, ae, af, ag, ak, al, y⟩, am, an⟩ := bS hm
 refine Cj (fun z e' hp' => ∃ (s : OA), ∃ (t : Nat), ∃ (u : Hp), [(8, pb W), (10, pb X), (11, iv Y)] = e' ∧ (W, Cl 33 [iv 0, iv 0, iv 0, iv 0, iv 0, iv 0, iv 0, iv 0]) :: (X, Cl 33 [iv Z, iv aa, iv ab, iv ac, iv ad, iv ae, iv af, iv ag]) :: (k, Cl 49 [iv c, iv d, iv ak, iv e, iv al, sv s y t, iv f, iv g, iv h, iv i]) :: (u ++ R) = hp' ∧ b.Le z ∧ OS 71 (OT.fr rGuardAsk) z.w (sv s y t) y u) ?_ ?_
 have hm := am
 refine Cr<|M rfl rfl<|Te<|Cb<|Cr<|Ts rfl (q1 rfl rfl)<|As rfl rfl<|Te ?_
 refine Cc _ rfl (fun A => ?_) (fun A => ?_)
 rw [if_pos (of_decide_eq_true A)] at hm
 refine Cg<|M rfl rfl<|M rfl rfl<|M rfl rfl ?_
 obtain ⟨⟨ao, aq, ar, au, av, aw, ax, ay, az, aA, aB, aC⟩, aD, hm⟩ := bS hm
 have hm := (unc12E hm)
 refine t_pullb 2 rfl<|t_out1 [_] [_, _] a R rfl<|Tg _ rfl call17 rfl (cGuardCentreGrant_2 _ _ l q c d m e n f g h i j k o p a x ao aq ar au av aw ax ay az aA aB aC aD) ?_
 rintro _ bg _ aE ⟨aF, aG, ah, rfl, rfl, aH⟩
 refine t_in1 [_] [_, _] ah R rfl<|M rfl rfl<|Ts rfl (st_extract rfl rfl)<|Ts rfl (st_extract rfl rfl)<|Do rfl (uN (vs := [_, _, _, _, _, _, _, _]) 1 8 rfl rfl rfl siz33 rfl (mc rfl (mc rfl (mc rfl (mc rfl (mc rfl (mc rfl (mc rfl (mc rfl mn)))))))) rfl (by simp)) ?_
 rintro _ _ rfl
 refine As rfl rfl<|Tn<|Xm ?_
 obtain ⟨rfl, rfl, rfl, rfl, rfl, rfl, rfl, rfl, rfl, rfl, rfl, rfl⟩ := some12 hm
 refine Xp 1 rfl<|Xp 2 rfl ?_
 exact xJ ⟨aF, aG, ah, rfl, rfl, aE, aH⟩ (.refl _)
 rw [if_neg (of_decide_eq_false A)] at hm
 refine Cr<|Ts rfl (q1 rfl rfl)<|As rfl rfl<|Te ?_
 refine Cc _ rfl (fun B => ?_) (fun B => ?_)
 rw [if_pos (of_decide_eq_true B)] at hm
 refine Cg<|M rfl rfl<|M rfl rfl<|M rfl rfl ?_
 obtain ⟨⟨aI, aJ, aK, aL, aM, aN, aO, aP, aQ, aR, aS⟩, aT, hm⟩ := bS hm
 have hm := (unc11E hm)
 refine t_pullb 2 rfl<|t_out1 [_] [_, _] a R rfl<|Tg _ rfl call18 rfl (cGuardCentreShort_2 _ _ l q c d m e n f g h i j k o p a x aI aJ aK aL aM aN aO aP aQ aR aS aT) ?_
 rintro _ bh _ aU ⟨aV, aW, ai, rfl, rfl, aX⟩
 refine t_in1 [_] [_, _] ai R rfl<|M rfl rfl<|Ts rfl (st_extract rfl rfl)<|Ts rfl (st_extract rfl rfl)<|Do rfl (uN (vs := [_, _, _, _, _, _, _, _]) 1 8 rfl rfl rfl siz33 rfl (mc rfl (mc rfl (mc rfl (mc rfl (mc rfl (mc rfl (mc rfl (mc rfl mn)))))))) rfl (by simp)) ?_
 rintro _ _ rfl
 refine As rfl rfl<|Tn<|Xm ?_
 obtain ⟨rfl, rfl, rfl, rfl, rfl, rfl, rfl, rfl, rfl, rfl, rfl, rfl⟩ := some12 hm
 refine Xp 1 rfl<|Xp 2 rfl ?_
 exact xJ ⟨aV, aW, ai, rfl, rfl, aU, aX⟩ (.refl _)
 rw [if_neg (of_decide_eq_false B)] at hm
 refine Cg<|M rfl rfl<|M rfl rfl ?_
 obtain ⟨⟨aY, aZ, a0, a1, a2, a3, a4, a5, a6, a7, a8⟩, a9, hm⟩ := bS hm
 have hm := (unc11E hm)
 refine t_pullb 2 rfl<|t_out1 [_] [_, _] a R rfl<|Tg _ rfl call19 rfl (cGuardCentreStop_2 _ _ l c d m e n f g h i j k o p a x aY aZ a0 a1 a2 a3 a4 a5 a6 a7 a8 a9) ?_
 rintro _ bi _ ba ⟨bb, bc, aj, rfl, rfl, bd⟩
 refine t_in1 [_] [_, _] aj R rfl<|M rfl rfl<|Ts rfl (st_extract rfl rfl)<|Ts rfl (st_extract rfl rfl)<|Do rfl (uN (vs := [_, _, _, _, _, _, _, _]) 1 8 rfl rfl rfl siz33 rfl (mc rfl (mc rfl (mc rfl (mc rfl (mc rfl (mc rfl (mc rfl (mc rfl mn)))))))) rfl (by simp)) ?_
 rintro _ _ rfl
 refine As rfl rfl<|Tn<|Xm ?_
 obtain ⟨rfl, rfl, rfl, rfl, rfl, rfl, rfl, rfl, rfl, rfl, rfl, rfl⟩ := some12 hm
 refine Xp 1 rfl<|Xp 2 rfl ?_
 exact xJ ⟨bb, bc, aj, rfl, rfl, ba, bd⟩ (.refl _)
 rintro z _ _ ⟨s, t, u, rfl, rfl, be, bf⟩
 have hm := (unc12E an)
 refine Cr<|Ts rfl (sD (vs := [_, _, _, _, _, _, _, _]) 1 8 rfl agg33 rfl rfl rfl)<|M rfl rfl<|Ts rfl (q1 rfl rfl)<|Do rfl (uN (vs := [_, _, _, _, _, _, _, _]) 0 8 rfl rfl rfl siz33 rfl (mc rfl (mc rfl (mc rfl (mc rfl (mc rfl (mc rfl (mc rfl (mc rfl mn)))))))) rfl (by simp)) ?_
 rintro _ _ rfl
 refine As rfl rfl<|Te<|Ct ?_
 obtain ⟨rfl, rfl, rfl, rfl, rfl, rfl, rfl, rfl, rfl, rfl, rfl, rfl⟩ := some12 hm
 refine Xp 2 rfl ?_
 exact rM (rs := [.cell 8 33, .tmp 9]) (vs := [.agg #[iv Z, iv aa, iv ab, iv ac, iv ad, iv ae, iv af, iv ag], .bool (decide (Y = 0))]) ⟨⟨_, rfl, fun w ho => cell_agg (vs := [_, _, _, _, _, _, _, _]) 1 8 agg33 rfl rfl rfl w ho⟩, ⟨rfl, trivial⟩⟩ ⟨s, t, u, rfl, rfl, bf⟩ (.cons_cons _ (.cons _ (.cons _ (.refl _)))) be

set_option maxRecDepth 20000 in
theorem cGuardCentreAgree_2 (b : Base) (R : Hp) (a : GuardPacket) (p : Int) (q : Int) (s : Int) (t : Int) (C : Int) (d : (List GuardAsk)) (x : Int) (y : Int) (z : Int) (A : Int) (e : Nat) (f : OA) (g : Nat) (O : FZ rGuardAsk b.w f g d) (Y : Int) (S : (List GuardAsk)) (hm : mGuardCentreAgree_2 a p q s t C d x y z A = some (Y, S)) :
    CallsG Tryd.prog 31 [pb e, .agg #[iv a.Kind, iv a.Session, iv a.No, iv a.Of, iv a.End, iv a.At, iv a.Speed, iv a.Sent]] b ((e, Cl 49 [iv p, iv q, iv s, iv t, iv C, sv f d g, iv x, iv y, iv z, iv A]) :: R) (fun v b' hp' => ∃ (Z : OA), ∃ (aa : Nat), .tuple #[] = v ∧ (e, Cl 49 [iv p, iv q, iv s, iv t, iv Y, sv Z S aa, iv x, iv y, iv z, iv A]) :: R = hp' ∧ FZ rGuardAsk b'.w Z aa S) := by
 refine fE 57 Tryd.func31 rfl Tryd.ntmps31 rfl ?_
 unfold mGuardCentreAgree_2 at hm
 refine Cr<|Do rfl (uB _ rfl rfl) ?_
 rintro _ _ ⟨o, rfl, rfl⟩
 refine Te<|Cr<|As rfl rfl<|Te<|Cs<|Di mixed (.refl _)<|E0 0 rfl (sF rfl fld33_4)<|Es 1 rfl (sL 0 rfl one3 rfl rfl)<|E0 2 rfl (sA rfl)<|E0 3 rfl (sA rfl) ?_
 refine Eo<|Dd (by kernel_rfl)<|Xn<|Cs<|Cr<|M rfl rfl<|Ts rfl (sN rfl)<|Ts rfl (sF rfl fld49_5)<|Ts rfl (sL 1 rfl one46 rfl rfl)<|Ts rfl (sE rfl sl46) ?_
 refine M rfl rfl<|Te<|Cb ?_
 have aK : d.length ≤ 9223372036854775807 := (FZ.bd O)
 refine Cp 1 rfl ?_
 obtain ⟨⟨D, F, h⟩, aj, ak⟩ := bS hm
 refine cS (fun G => unc3 fun D F h => fun H e' hp' => ∃ (m : OA), ∃ (n : Nat), ∃ (k : Hp), [(0, pb e), (3, pb o), (4, sv m h n), (5, bv D), (6, iv F), (14, sv f d g), (15, iv ((d.length : Int))), (16, iv ((G : Int)))] = e' ∧ (e, Cl 49 [iv p, iv q, iv s, iv t, iv C, sv f d g, iv x, iv y, iv z, iv A]) :: (o, Cl 33 [iv a.Kind, iv a.Session, iv a.No, iv a.Of, iv a.End, iv a.At, iv a.Speed, iv a.Sent]) :: (k ++ R) = hp' ∧ b.Le H ∧ OS 71 (OT.fr rGuardAsk) H.w (sv m h n) h k) aj ⟨none, 0, [], rfl, rfl, lr, OS.nil⟩ (.refl _) ?_ ?_
 rintro G ⟨D, F, h⟩ H _ _ aL aM ⟨m, n, k, rfl, rfl, B, J⟩ ab
 unfold mGuardCentreAgree_2_L178 at ab
 have hm := (unc3E ab)
 refine Cr<|Ts rfl (lT rfl rfl (by omega))<|Te<|Cs<|c_cond_t rfl<|Ck<|Xn<|Cs<|Cb<|Cr ?_
 obtain ⟨c, al, hm⟩ := bS hm
 obtain ⟨am, an, ao⟩ := iS al
 obtain ⟨aN, aq, ar, ac, au⟩ := FZ.get (sz := 3) rfl (by decide) (O.le B) ao
 obtain ⟨_, _, rfl, rfl, ⟨_, _, rfl, rfl, rfl⟩⟩ := aq
 refine Ts rfl (sI am rfl rfl an au ac sl46)<|Ts rfl (sP (vs := [iv c.no, iv c.end_, bv c.grant]) 3 rfl agg71 ac rfl (fun j u hu => ar j u hu))<|Do rfl (uA [iv 0, iv 0, .bool false] zero71 rfl) ?_
 rintro _ _ ⟨E, rfl, rfl⟩
 refine Do rfl (uN (vs := [_, _, _]) 0 3 rfl rfl rfl siz71 rfl (mc rfl (mc rfl (mc rfl mn))) rfl (by simp)) ?_
 rintro _ _ rfl
 refine Te<|Cs ?_
 obtain ⟨av, aw, ax⟩ := bS hm
 refine Cj (fun K e' hp' => [(0, pb e), (3, pb o), (4, sv m h n), (5, bv D), (6, iv F), (8, pb E), (14, sv f d g), (15, iv ((d.length : Int))), (16, iv ((G : Int))), (29, bv av)] = e' ∧ (e, Cl 49 [iv p, iv q, iv s, iv t, iv C, sv f d g, iv x, iv y, iv z, iv A]) :: (o, Cl 33 [iv a.Kind, iv a.Session, iv a.No, iv a.Of, iv a.End, iv a.At, iv a.Speed, iv a.Sent]) :: (E, Cl 71 [iv c.no, iv c.end_, bv c.grant]) :: (k ++ R) = hp' ∧ H.Le K) ?_ ?_
 have hm := aw
 refine Cg<|Ts rfl (sF rfl fld71_0)<|Ts rfl (sL 0 rfl one3 rfl rfl)<|Ts rfl (sF rfl fld33_3)<|Ts rfl (sL 2 rfl one3 rfl rfl) ?_
 refine Tb rfl (q1 rfl rfl) (fun T => ?_) (fun T => ?_)
 rw [if_pos T] at hm
 refine M rfl rfl<|Ys 25 rfl rfl rfl<|Ts rfl (sF rfl fld71_2)<|Ys 25 rfl rfl rfl<|Ts rfl (sL 0 rfl one4 rfl rfl)<|Ys 25 rfl rfl rfl<|Ts rfl (sn2 rfl)<|Ts rfl (pT rfl rfl)<|Tn ?_
 obtain rfl := o1 hm
 refine Xp 2 rfl<|Xp 2 rfl ?_
 exact xJ ⟨rfl, rfl, lr⟩ (.refl _)
 rw [if_neg T] at hm
 refine M rfl rfl<|No 25 rfl rfl rfl rfl rfl<|No 25 rfl rfl rfl rfl rfl<|No 25 rfl rfl rfl rfl rfl<|Ts rfl (pF rfl rfl)<|Tn ?_
 obtain rfl := o1 hm
 refine Xp 2 rfl<|Xp 2 rfl ?_
 exact xJ ⟨rfl, rfl, lr⟩ (.refl _)
 rintro K _ _ ⟨rfl, rfl, L⟩
 have hm := ax
 refine Cc _ rfl (fun U => ?_) (fun U => ?_)
 rw [if_pos U] at hm
 refine Cr<|As rfl rfl<|Te<|Ce<|Xe<|Xo<|Xn<|Cg<|Ts rfl (sa rfl rfl (by omega))<|M rfl rfl ?_
 refine Tn<|Xp 1 rfl<|Xp 1 rfl ?_
 obtain rfl := o1 hm
 exact xS ⟨m, n, k, rfl, rfl, ((B.trans L)), (J.le L)⟩ (.cons_cons _ (.cons_cons _ (.cons _ (.refl _))))
 rw [if_neg (fun hh => Bool.noConfusion (hh.symm.trans U))] at hm
 refine Ck<|Xn ?_
 obtain ⟨ay, az, aA⟩ := bS hm
 refine Cj (fun ad e' hp' => [(0, pb e), (3, pb o), (4, sv m h n), (5, bv D), (6, iv ay), (8, pb E), (14, sv f d g), (15, iv ((d.length : Int))), (16, iv ((G : Int)))] = e' ∧ (e, Cl 49 [iv p, iv q, iv s, iv t, iv C, sv f d g, iv x, iv y, iv z, iv A]) :: (o, Cl 33 [iv a.Kind, iv a.Session, iv a.No, iv a.Of, iv a.End, iv a.At, iv a.Speed, iv a.Sent]) :: (E, Cl 71 [iv c.no, iv c.end_, bv c.grant]) :: (k ++ R) = hp' ∧ K.Le ad) ?_ ?_
 have hm := az
 obtain ⟨aB, aC, aD⟩ := bS hm
 refine Cj (fun ae e' hp' => [(0, pb e), (3, pb o), (4, sv m h n), (5, bv D), (6, iv F), (8, pb E), (14, sv f d g), (15, iv ((d.length : Int))), (16, iv ((G : Int))), (38, bv aB)] = e' ∧ (e, Cl 49 [iv p, iv q, iv s, iv t, iv C, sv f d g, iv x, iv y, iv z, iv A]) :: (o, Cl 33 [iv a.Kind, iv a.Session, iv a.No, iv a.Of, iv a.End, iv a.At, iv a.Speed, iv a.Sent]) :: (E, Cl 71 [iv c.no, iv c.end_, bv c.grant]) :: (k ++ R) = hp' ∧ K.Le ae) ?_ ?_
 have hm := aC
 refine Cg<|Ts rfl (sF rfl fld71_2)<|Ts rfl (sL 2 rfl one4 rfl rfl) ?_
 rcases Bool.eq_false_or_eq_true c.grant with I | I
 rw [if_pos I] at hm
 refine Tr 31 rfl (v' := .bool true) (by rw [I] <;> rfl)<|M rfl rfl<|Ys 32 rfl rfl rfl<|Ts rfl (sF rfl fld71_0)<|Ys 32 rfl rfl rfl<|Ts rfl (sL 2 rfl one3 rfl rfl)<|Ys 32 rfl rfl rfl<|Ts rfl (sF rfl fld33_3)<|Ys 32 rfl rfl rfl<|Ts rfl (sL 1 rfl one3 rfl rfl) ?_
 refine Ys 32 rfl rfl rfl<|Ts rfl (q5 rfl rfl)<|Ts rfl (pT rfl rfl)<|Tn ?_
 obtain rfl := o1 hm
 refine Xp 2 rfl<|Xp 2 rfl<|Xp 2 rfl ?_
 exact xJ ⟨rfl, rfl, lr⟩ (.refl _)
 rw [if_neg (fun hh => Bool.noConfusion (hh.symm.trans I))] at hm
 refine Tr 31 rfl (v' := .bool false) (by rw [I] <;> rfl)<|M rfl rfl<|No 32 rfl rfl rfl rfl rfl<|No 32 rfl rfl rfl rfl rfl<|No 32 rfl rfl rfl rfl rfl<|No 32 rfl rfl rfl rfl rfl<|No 32 rfl rfl rfl rfl rfl<|Ts rfl (pF rfl rfl)<|Tn ?_
 obtain rfl := o1 hm
 refine Xp 2 rfl<|Xp 2 rfl<|Xp 2 rfl ?_
 exact xJ ⟨rfl, rfl, lr⟩ (.refl _)
 rintro ae _ _ ⟨rfl, rfl, af⟩
 have hm := aD
 refine Cc _ rfl (fun V => ?_) (fun V => ?_)
 rw [if_pos V] at hm
 refine Cg<|M rfl rfl<|Ts rfl (sF rfl fld71_1)<|Ts rfl (sL 2 rfl one3 rfl rfl)<|Ts rfl (st_max rfl rfl)<|As rfl rfl<|Tn ?_
 obtain rfl := o1 hm
 refine Xp 2 rfl<|Xp 2 rfl<|Xp 2 rfl ?_
 exact xJ ⟨rfl, rfl, af⟩ (.refl _)
 rw [if_neg (fun hh => Bool.noConfusion (hh.symm.trans V))] at hm
 refine Ck ?_
 obtain rfl := o1 hm
 refine Xp 2 rfl<|Xp 2 rfl<|Xp 2 rfl ?_
 exact xJ ⟨rfl, rfl, af⟩ (.refl _)
 rintro ad _ _ ⟨rfl, rfl, ag⟩
 have hm := aA
 refine Cg<|M rfl rfl<|Ts rfl (sD (vs := [_, _, _]) 2 3 rfl agg71 rfl rfl rfl)<|Do rfl (u_bslice (el := 71) [(0, .agg #[iv c.no, iv c.end_, bv c.grant])] [iv c.no, iv c.end_, bv c.grant] rfl (fun _ => by kernel_rfl)) ?_
 rintro _ _ ⟨aO, rfl, rfl⟩
 obtain ⟨_, W, hm⟩ := bS hm
 have W := room_some W
 refine Do rfl (uQ (r := rGuardAsk) (l := h) [_, _, _, _] R [[iv c.no, iv c.end_, bv c.grant]] [c] rfl (by decide) sl46 inf71 rfl rfl rfl rfl (J.le (L.trans ag)) rfl (fun w ho => Rd.own (i := 0) ho rfl) ⟨⟨[iv c.no], _, rfl, rfl, ⟨[iv c.end_], _, rfl, rfl, rfl⟩⟩, trivial⟩ W) ?_
 rintro _ _ ⟨aE, rfl, ah⟩
 obtain ⟨aF, aG, rfl, _⟩ := ah.form
 refine As rfl rfl<|Tn<|Xm<|Xn<|Cg<|Ts rfl (sa rfl rfl (by omega))<|M rfl rfl<|Tn<|Xp 2 rfl<|Xp 2 rfl ?_
 obtain rfl := o1 hm
 exact xS ⟨aF, aG, aE, rfl, rfl, ((B.trans (L.trans ag))), ah⟩ (.cons_cons _ (.cons_cons _ (.cons _ (.cons _ (.refl _)))))
 rintro H _ _ ⟨m, n, k, rfl, rfl, B, J⟩
 have hm := (unc3E ak)
 refine Cr<|Ts rfl (lF rfl rfl (by omega))<|Te<|Cs<|c_cond_f rfl<|Ce<|Xe<|Xe<|Xo<|Xn ?_
 refine Cr<|M rfl rfl<|Te ?_
 refine Cc _ rfl (fun X => ?_) (fun X => ?_)
 rw [if_pos X] at hm
 refine Cg<|M rfl rfl<|M rfl rfl<|M rfl rfl<|M rfl rfl<|Ts rfl (sN rfl)<|Ts rfl (sF rfl fld49_5)<|Do rfl (uS 0 rfl rfl siz46 rfl rfl (by simp)) ?_
 rintro _ _ rfl
 refine Ts rfl (sN rfl)<|Ts rfl (sF rfl fld49_4)<|Do rfl (uS 0 rfl rfl siz3 rfl rfl (by simp)) ?_
 rintro _ _ rfl
 refine Tn<|x_frz [_, _] k R rfl ?_
 intro aP ai aH
 have aI := OS.frz (l := h) J ai.cells aH
 obtain ⟨rfl, rfl⟩ := some2 hm
 exact endM (B.trans ai) rfl (.cons_cons _ (.cons _ (.refl _))) ⟨m, n, rfl, rfl, aI⟩
 rw [if_neg (fun hh => Bool.noConfusion (hh.symm.trans X))] at hm
 refine Ck ?_
 obtain ⟨rfl, rfl⟩ := some2 hm
 have aJ := (O.le B)
 exact endM B rfl (.cons_cons _ (.cons _ (ss k (.refl _)))) ⟨f, g, rfl, rfl, aJ⟩

set_option maxRecDepth 20000 in
theorem cGuardCentreHear_2 (b : Base) (R : Hp) (a : GuardPacket) (j : Int) (f : Int) (n : Int) (o : Int) (r : Int) (s : Int) (p : (List GuardAsk)) (t : Int) (u : Int) (x : Int) (y : Int) (g : Nat) (c : OA) (d : Nat) (k : FZ rGuardAsk b.w c d p) (O : Int) (S : Int) (T : Int) (U : Int) (V : Int) (W : Int) (X : Int) (Y : Int) (Z : Bool) (aa : Int) (ab : Int) (ac : Int) (ad : Int) (ae : Int) (D : (List GuardAsk)) (af : Int) (ag : Int) (ah : Int) (ai : Int) (hm : mGuardCentreHear_2 a j f n o r s p t u x y = some (O, S, T, U, V, W, X, Y, Z, aa, ab, ac, ad, ae, D, af, ag, ah, ai)) :
    CallsG Tryd.prog 21 [pb g, .agg #[iv a.Kind, iv a.Session, iv a.No, iv a.Of, iv a.End, iv a.At, iv a.Speed, iv a.Sent], iv j] b ((g, Cl 49 [iv f, iv n, iv o, iv r, iv s, sv c p d, iv t, iv u, iv x, iv y]) :: R) (fun v b' hp' => ∃ (aj : OA), ∃ (ak : Nat), .tuple #[.agg #[iv O, iv S, iv T, iv U, iv V, iv W, iv X, iv Y], bv Z] = v ∧ (g, Cl 49 [iv aa, iv ab, iv ac, iv ad, iv ae, sv aj D ak, iv af, iv ag, iv ah, iv ai]) :: R = hp' ∧ FZ rGuardAsk b'.w aj ak D) := by
 refine fE 114 Tryd.func21 rfl Tryd.ntmps21 rfl ?_
 unfold mGuardCentreHear_2 at hm
 refine Cr<|Do rfl (uB _ rfl rfl) ?_
 rintro _ _ ⟨al, rfl, rfl⟩
 refine Do rfl (uA [iv 0, iv 0, iv 0, iv 0, iv 0, iv 0, iv 0, iv 0] zero33 rfl) ?_
 rintro _ _ ⟨z, rfl, rfl⟩
 refine As rfl rfl<|Te<|Cs<|Cr<|Ts rfl (sD (vs := [_, _, _, _, _, _, _, _]) 1 8 rfl agg33 rfl rfl rfl)<|M rfl rfl ?_
 obtain ⟨an, ao, hm⟩ := bS hm
 refine Do rfl (uW _ call30 rfl (fun w ho => cGuardFresh _ [] a j an ao) (fun _ _ _ h => h.2.symm)) ?_
 rintro _ _ ⟨⟨_, rfl, _⟩, rfl⟩
 refine Ts rfl (sn2 rfl)<|Te ?_
 refine Cc _ rfl (fun E => ?_) (fun E => ?_)
 rw [if_neg (fun hh => Bool.noConfusion (hh.symm.trans (nt E)))] at hm
 refine Cr<|Ts rfl (sB (v := .agg #[iv 0, iv 0, iv 0, iv 0, iv 0, iv 0, iv 0, iv 0]) [] rfl (fun _ => by kernel_rfl))<|Do rfl (uN (vs := [_, _, _, _, _, _, _, _]) 0 8 rfl rfl rfl siz33 rfl (mc rfl (mc rfl (mc rfl (mc rfl (mc rfl (mc rfl (mc rfl (mc rfl mn)))))))) rfl (by simp)) ?_
 rintro _ _ rfl
 refine As rfl rfl<|Te<|Ct<|Xr ?_
 obtain ⟨rfl, rfl, rfl, rfl, rfl, rfl, rfl, rfl, rfl, rfl, rfl, rfl, rfl, rfl, rfl, rfl, rfl, rfl, rfl⟩ := some19 hm
 refine Xp 2 rfl ?_
 exact rM (rs := [.cell 6 33, .tmp 7]) (vs := [.agg #[iv 0, iv 0, iv 0, iv 0, iv 0, iv 0, iv 0, iv 0], bv false]) ⟨⟨_, rfl, fun w ho => cell_agg (vs := [_, _, _, _, _, _, _, _]) 1 8 agg33 rfl rfl rfl w ho⟩, ⟨rfl, trivial⟩⟩ ⟨c, d, rfl, rfl, k⟩ (.cons_cons _ (.cons _ (.cons _ (.refl _)))) lr
 rw [if_pos (nf E)] at hm
 refine Ck<|Xn<|Cs<|Cr<|Ts rfl (sF rfl fld33_0)<|Ts rfl (sL 1 rfl one3 rfl rfl)<|Ts rfl (q1 rfl rfl)<|Te ?_
 refine Cc _ rfl (fun F => ?_) (fun F => ?_)
 rw [if_pos (of_decide_eq_true F)] at hm
 refine Cs<|Cs<|Di mixed (.refl _)<|E0 0 rfl (sF rfl fld33_1)<|Es 1 rfl (sL 1 rfl one3 rfl rfl)<|E0 2 rfl (sM rfl)<|E0 3 rfl (sN rfl)<|E0 4 rfl (sF rfl fld49_1)<|Es 5 rfl (sL 2 rfl one3 rfl rfl)<|E0 6 rfl (q4 rfl rfl) ?_
 refine Eo<|Dd (by kernel_rfl)<|Xn ?_
 refine Cc _ rfl (fun G => ?_) (fun G => ?_)
 rw [if_pos (of_decide_eq_true G)] at hm
 refine Cr<|Ts rfl (sB (v := .agg #[iv 0, iv 0, iv 0, iv 0, iv 0, iv 0, iv 0, iv 0]) [] rfl (fun _ => by kernel_rfl))<|Do rfl (uN (vs := [_, _, _, _, _, _, _, _]) 0 8 rfl rfl rfl siz33 rfl (mc rfl (mc rfl (mc rfl (mc rfl (mc rfl (mc rfl (mc rfl (mc rfl mn)))))))) rfl (by simp)) ?_
 rintro _ _ rfl
 refine As rfl rfl<|Te<|Ct<|Xr<|Xr ?_
 obtain ⟨rfl, rfl, rfl, rfl, rfl, rfl, rfl, rfl, rfl, rfl, rfl, rfl, rfl, rfl, rfl, rfl, rfl, rfl, rfl⟩ := some19 hm
 refine Xp 2 rfl ?_
 exact rM (rs := [.cell 6 33, .tmp 7]) (vs := [.agg #[iv 0, iv 0, iv 0, iv 0, iv 0, iv 0, iv 0, iv 0], bv false]) ⟨⟨_, rfl, fun w ho => cell_agg (vs := [_, _, _, _, _, _, _, _]) 1 8 agg33 rfl rfl rfl w ho⟩, ⟨rfl, trivial⟩⟩ ⟨c, d, rfl, rfl, k⟩ (.cons_cons _ (.cons _ (.cons _ (.refl _)))) lr
 rw [if_neg (of_decide_eq_false G)] at hm
 refine Ck<|Xn<|Cr<|M rfl rfl<|Ts rfl (sF rfl fld33_1)<|Ts rfl (sL 1 rfl one3 rfl rfl)<|Ts rfl (sF rfl fld33_1)<|Ts rfl (sL 1 rfl one3 rfl rfl)<|Ts rfl (sF rfl fld33_2)<|Ts rfl (sL 1 rfl one3 rfl rfl) ?_
 refine Ts rfl (sF rfl fld33_5)<|Ts rfl (sL 1 rfl one3 rfl rfl)<|Ts rfl (sF rfl fld33_5)<|Ts rfl (sL 1 rfl one3 rfl rfl)<|Ts rfl (sF rfl fld33_5)<|Ts rfl (sL 1 rfl one3 rfl rfl)<|Ts rfl (sF rfl fld33_7)<|Ts rfl (sL 1 rfl one3 rfl rfl)<|Ts rfl (sB (v := .agg #[iv a.At, iv 0, iv a.At, iv a.Sent]) [(0, iv a.At), (1, iv 0), (2, iv a.At), (3, iv a.Sent)] rfl (fun _ => by kernel_rfl))<|Ts rfl (sB (v := .agg #[iv a.Session, iv a.Session, iv 1, iv a.No, iv a.At, sn, iv a.At, iv 0, iv a.At, iv a.Sent]) [(0, iv a.Session), (1, iv a.Session), (2, iv 1), (3, iv a.No), (4, iv a.At), (6, .agg #[iv a.At, iv 0, iv a.At, iv a.Sent])] rfl (fun _ => by kernel_rfl)) ?_
 refine Ts rfl (sN rfl)<|Do rfl (uN (vs := [_, _, _, _, _, _, _, _, _, _]) 2 10 rfl rfl rfl siz49 rfl (mc rfl (mc rfl (mc rfl (mc rfl (mc rfl (mc rfl (mc rfl (mc rfl (mc rfl (mc rfl mn)))))))))) rfl (by simp)) ?_
 rintro _ _ rfl
 refine Te<|Cr<|M rfl rfl<|Ts rfl (sN rfl)<|Ts rfl (sF rfl fld49_0)<|Ts rfl (sL 2 rfl one3 rfl rfl)<|M rfl rfl<|Ts rfl (sB (v := .agg #[iv 2, iv a.Session, iv 1, iv 0, iv 0, iv 0, iv 0, iv j]) [(0, iv 2), (1, iv a.Session), (2, iv 1), (7, iv j)] rfl (fun _ => by kernel_rfl))<|Do rfl (uN (vs := [_, _, _, _, _, _, _, _]) 0 8 rfl rfl rfl siz33 rfl (mc rfl (mc rfl (mc rfl (mc rfl (mc rfl (mc rfl (mc rfl (mc rfl mn)))))))) rfl (by simp)) ?_
 rintro _ _ rfl
 refine As rfl rfl<|Te<|Ct<|Xr ?_
 obtain ⟨rfl, rfl, rfl, rfl, rfl, rfl, rfl, rfl, rfl, rfl, rfl, rfl, rfl, rfl, rfl, rfl, rfl, rfl, rfl⟩ := some19 hm
 refine Xp 2 rfl ?_
 exact rM (rs := [.cell 6 33, .tmp 7]) (vs := [.agg #[iv 2, iv a.Session, iv 1, iv 0, iv 0, iv 0, iv 0, iv j], bv true]) ⟨⟨_, rfl, fun w ho => cell_agg (vs := [_, _, _, _, _, _, _, _]) 1 8 agg33 rfl rfl rfl w ho⟩, ⟨rfl, trivial⟩⟩ ⟨none, 0, rfl, rfl, FZ.nil⟩ (.cons_cons _ (.cons _ (.cons _ (.refl _)))) lr
 rw [if_neg (of_decide_eq_false F)] at hm
 refine Ck<|Xn<|Cs ?_
 obtain ⟨aq, ar, au⟩ := bS hm
 refine Cj (fun H e' hp' => [(0, pb g), (4, pb al), (6, pb z), (85, bv aq)] = e' ∧ (g, Cl 49 [iv f, iv n, iv o, iv r, iv s, sv c p d, iv t, iv u, iv x, iv y]) :: (al, Cl 33 [iv a.Kind, iv a.Session, iv a.No, iv a.Of, iv a.End, iv a.At, iv a.Speed, iv a.Sent]) :: (z, Cl 33 [iv 0, iv 0, iv 0, iv 0, iv 0, iv 0, iv 0, iv 0]) :: R = hp' ∧ b.Le H) ?_ ?_
 have hm := ar
 by_cases e : f = 0
 rw [if_pos e] at hm
 refine Di mixed (.refl _)<|E0 0 rfl (sM rfl)<|E0 1 rfl (sN rfl)<|E0 2 rfl (sF rfl fld49_0)<|Es 3 rfl (sL 2 rfl one3 rfl rfl)<|E0 4 rfl (eT rfl rfl e)<|E0 5 rfl (sM rfl)<|En 6 53 rfl rfl rfl<|En 7 53 rfl rfl rfl<|En 8 53 rfl rfl rfl ?_
 refine En 9 53 rfl rfl rfl<|En 10 53 rfl rfl rfl<|En 11 53 rfl rfl rfl<|En 12 53 rfl rfl rfl<|E0 13 rfl (pT rfl rfl)<|E0 14 rfl (sM rfl)<|En 15 62 rfl rfl rfl<|En 16 62 rfl rfl rfl<|En 17 62 rfl rfl rfl<|En 18 62 rfl rfl rfl ?_
 refine En 19 62 rfl rfl rfl<|En 20 62 rfl rfl rfl<|En 21 62 rfl rfl rfl<|E0 22 rfl (pT rfl rfl)<|E0 23 rfl (sM rfl)<|En 24 71 rfl rfl rfl<|En 25 71 rfl rfl rfl<|En 26 71 rfl rfl rfl<|En 27 71 rfl rfl rfl<|En 28 75 rfl rfl rfl ?_
 refine En 29 75 rfl rfl rfl<|En 30 75 rfl rfl rfl<|En 31 71 rfl rfl rfl<|En 32 71 rfl rfl rfl<|En 33 80 rfl rfl rfl<|En 34 80 rfl rfl rfl<|En 35 80 rfl rfl rfl<|En 36 71 rfl rfl rfl<|E0 37 rfl (pT rfl rfl)<|Eo ?_
 refine Dd (by kernel_rfl) ?_
 obtain rfl := o1 hm
 refine Xp 1 rfl<|Xp 2 rfl ?_
 exact xJ ⟨rfl, rfl, lr⟩ (.refl _)
 rw [if_neg e] at hm
 by_cases i : a.Session ≠ f
 rw [if_pos i] at hm
 refine Di mixed (.refl _)<|E0 0 rfl (sM rfl)<|E0 1 rfl (sN rfl)<|E0 2 rfl (sF rfl fld49_0)<|Es 3 rfl (sL 2 rfl one3 rfl rfl)<|E0 4 rfl (eF rfl rfl e)<|E0 5 rfl (sM rfl)<|Yz 6 53 rfl (sF rfl fld33_1)<|Ey 7 53 rfl (sL 1 rfl one3 rfl rfl)<|Yz 8 53 rfl (sM rfl) ?_
 refine Yz 9 53 rfl (sN rfl)<|Yz 10 53 rfl (sF rfl fld49_0)<|Ey 11 53 rfl (sL 2 rfl one3 rfl rfl)<|Yz 12 53 rfl (st_neq_t rfl rfl i)<|E0 13 rfl (pF rfl rfl)<|E0 14 rfl (sM rfl)<|En 15 62 rfl rfl rfl<|En 16 62 rfl rfl rfl<|En 17 62 rfl rfl rfl<|En 18 62 rfl rfl rfl ?_
 refine En 19 62 rfl rfl rfl<|En 20 62 rfl rfl rfl<|En 21 62 rfl rfl rfl<|E0 22 rfl (pT rfl rfl)<|E0 23 rfl (sM rfl)<|En 24 71 rfl rfl rfl<|En 25 71 rfl rfl rfl<|En 26 71 rfl rfl rfl<|En 27 71 rfl rfl rfl<|En 28 75 rfl rfl rfl ?_
 refine En 29 75 rfl rfl rfl<|En 30 75 rfl rfl rfl<|En 31 71 rfl rfl rfl<|En 32 71 rfl rfl rfl<|En 33 80 rfl rfl rfl<|En 34 80 rfl rfl rfl<|En 35 80 rfl rfl rfl<|En 36 71 rfl rfl rfl<|E0 37 rfl (pT rfl rfl)<|Eo ?_
 refine Dd (by kernel_rfl) ?_
 obtain rfl := o1 hm
 refine Xp 1 rfl<|Xp 2 rfl ?_
 exact xJ ⟨rfl, rfl, lr⟩ (.refl _)
 rw [if_neg i] at hm
 by_cases l : a.No ≤ r
 rw [if_pos l] at hm
 refine Di mixed (.refl _)<|E0 0 rfl (sM rfl)<|E0 1 rfl (sN rfl)<|E0 2 rfl (sF rfl fld49_0)<|Es 3 rfl (sL 2 rfl one3 rfl rfl)<|E0 4 rfl (eF rfl rfl e)<|E0 5 rfl (sM rfl)<|Yz 6 53 rfl (sF rfl fld33_1)<|Ey 7 53 rfl (sL 1 rfl one3 rfl rfl)<|Yz 8 53 rfl (sM rfl) ?_
 refine Yz 9 53 rfl (sN rfl)<|Yz 10 53 rfl (sF rfl fld49_0)<|Ey 11 53 rfl (sL 2 rfl one3 rfl rfl)<|Yz 12 53 rfl (st_neq_f rfl rfl i)<|E0 13 rfl (pF rfl rfl)<|E0 14 rfl (sM rfl)<|Yz 15 62 rfl (sF rfl fld33_2)<|Ey 16 62 rfl (sL 1 rfl one3 rfl rfl)<|Yz 17 62 rfl (sM rfl)<|Yz 18 62 rfl (sN rfl) ?_
 refine Yz 19 62 rfl (sF rfl fld49_3)<|Ey 20 62 rfl (sL 2 rfl one3 rfl rfl)<|Yz 21 62 rfl (st_leq_t rfl rfl l)<|E0 22 rfl (pF rfl rfl)<|E0 23 rfl (sM rfl)<|En 24 71 rfl rfl rfl<|En 25 71 rfl rfl rfl<|En 26 71 rfl rfl rfl<|En 27 71 rfl rfl rfl<|En 28 75 rfl rfl rfl ?_
 refine En 29 75 rfl rfl rfl<|En 30 75 rfl rfl rfl<|En 31 71 rfl rfl rfl<|En 32 71 rfl rfl rfl<|En 33 80 rfl rfl rfl<|En 34 80 rfl rfl rfl<|En 35 80 rfl rfl rfl<|En 36 71 rfl rfl rfl<|E0 37 rfl (pT rfl rfl)<|Eo ?_
 refine Dd (by kernel_rfl) ?_
 obtain rfl := o1 hm
 refine Xp 1 rfl<|Xp 2 rfl ?_
 exact xJ ⟨rfl, rfl, lr⟩ (.refl _)
 rw [if_neg l] at hm
 by_cases q : a.Kind ≠ 3
 rw [if_pos q] at hm
 by_cases A : a.Kind ≠ 7
 rw [if_pos A] at hm
 refine Di mixed (.refl _)<|E0 0 rfl (sM rfl)<|E0 1 rfl (sN rfl)<|E0 2 rfl (sF rfl fld49_0)<|Es 3 rfl (sL 2 rfl one3 rfl rfl)<|E0 4 rfl (eF rfl rfl e)<|E0 5 rfl (sM rfl)<|Yz 6 53 rfl (sF rfl fld33_1)<|Ey 7 53 rfl (sL 1 rfl one3 rfl rfl)<|Yz 8 53 rfl (sM rfl) ?_
 refine Yz 9 53 rfl (sN rfl)<|Yz 10 53 rfl (sF rfl fld49_0)<|Ey 11 53 rfl (sL 2 rfl one3 rfl rfl)<|Yz 12 53 rfl (st_neq_f rfl rfl i)<|E0 13 rfl (pF rfl rfl)<|E0 14 rfl (sM rfl)<|Yz 15 62 rfl (sF rfl fld33_2)<|Ey 16 62 rfl (sL 1 rfl one3 rfl rfl)<|Yz 17 62 rfl (sM rfl)<|Yz 18 62 rfl (sN rfl) ?_
 refine Yz 19 62 rfl (sF rfl fld49_3)<|Ey 20 62 rfl (sL 2 rfl one3 rfl rfl)<|Yz 21 62 rfl (st_leq_f rfl rfl l)<|E0 22 rfl (pF rfl rfl)<|E0 23 rfl (sM rfl)<|Yz 24 71 rfl (sF rfl fld33_0)<|Ey 25 71 rfl (sL 1 rfl one3 rfl rfl)<|Yz 26 71 rfl (st_neq_t rfl rfl q)<|Yz 27 71 rfl (sM rfl)<|Yz 28 75 rfl (sF rfl fld33_0) ?_
 refine Ey 29 75 rfl (sL 1 rfl one3 rfl rfl)<|Yz 30 75 rfl (st_neq_t rfl rfl A)<|Yz 31 71 rfl (pT rfl rfl)<|Yz 32 71 rfl (sM rfl)<|Yz 33 80 rfl (sF rfl fld33_0)<|Ey 34 80 rfl (sL 1 rfl one3 rfl rfl)<|Yz 35 80 rfl (q2 rfl rfl)<|Yz 36 71 rfl (pT rfl rfl)<|E0 37 rfl (pF rfl rfl)<|Eo ?_
 refine Dd (by kernel_rfl) ?_
 obtain rfl := o1 hm
 refine Xp 1 rfl<|Xp 2 rfl ?_
 exact xJ ⟨rfl, rfl, lr⟩ (.refl _)
 rw [if_neg A] at hm
 refine Di mixed (.refl _)<|E0 0 rfl (sM rfl)<|E0 1 rfl (sN rfl)<|E0 2 rfl (sF rfl fld49_0)<|Es 3 rfl (sL 2 rfl one3 rfl rfl)<|E0 4 rfl (eF rfl rfl e)<|E0 5 rfl (sM rfl)<|Yz 6 53 rfl (sF rfl fld33_1)<|Ey 7 53 rfl (sL 1 rfl one3 rfl rfl)<|Yz 8 53 rfl (sM rfl) ?_
 refine Yz 9 53 rfl (sN rfl)<|Yz 10 53 rfl (sF rfl fld49_0)<|Ey 11 53 rfl (sL 2 rfl one3 rfl rfl)<|Yz 12 53 rfl (st_neq_f rfl rfl i)<|E0 13 rfl (pF rfl rfl)<|E0 14 rfl (sM rfl)<|Yz 15 62 rfl (sF rfl fld33_2)<|Ey 16 62 rfl (sL 1 rfl one3 rfl rfl)<|Yz 17 62 rfl (sM rfl)<|Yz 18 62 rfl (sN rfl) ?_
 refine Yz 19 62 rfl (sF rfl fld49_3)<|Ey 20 62 rfl (sL 2 rfl one3 rfl rfl)<|Yz 21 62 rfl (st_leq_f rfl rfl l)<|E0 22 rfl (pF rfl rfl)<|E0 23 rfl (sM rfl)<|Yz 24 71 rfl (sF rfl fld33_0)<|Ey 25 71 rfl (sL 1 rfl one3 rfl rfl)<|Yz 26 71 rfl (st_neq_t rfl rfl q)<|Yz 27 71 rfl (sM rfl)<|Yz 28 75 rfl (sF rfl fld33_0) ?_
 refine Ey 29 75 rfl (sL 1 rfl one3 rfl rfl)<|Yz 30 75 rfl (st_neq_f rfl rfl A)<|Yz 31 71 rfl (pT rfl rfl)<|Yz 32 71 rfl (sM rfl)<|En 33 80 rfl rfl rfl<|En 34 80 rfl rfl rfl<|En 35 80 rfl rfl rfl<|Yz 36 71 rfl (pF rfl rfl)<|E0 37 rfl (pF rfl rfl)<|Eo ?_
 refine Dd (by kernel_rfl) ?_
 obtain rfl := o1 hm
 refine Xp 1 rfl<|Xp 2 rfl ?_
 exact xJ ⟨rfl, rfl, lr⟩ (.refl _)
 rw [if_neg q] at hm
 refine Di mixed (.refl _)<|E0 0 rfl (sM rfl)<|E0 1 rfl (sN rfl)<|E0 2 rfl (sF rfl fld49_0)<|Es 3 rfl (sL 2 rfl one3 rfl rfl)<|E0 4 rfl (eF rfl rfl e)<|E0 5 rfl (sM rfl)<|Yz 6 53 rfl (sF rfl fld33_1)<|Ey 7 53 rfl (sL 1 rfl one3 rfl rfl)<|Yz 8 53 rfl (sM rfl) ?_
 refine Yz 9 53 rfl (sN rfl)<|Yz 10 53 rfl (sF rfl fld49_0)<|Ey 11 53 rfl (sL 2 rfl one3 rfl rfl)<|Yz 12 53 rfl (st_neq_f rfl rfl i)<|E0 13 rfl (pF rfl rfl)<|E0 14 rfl (sM rfl)<|Yz 15 62 rfl (sF rfl fld33_2)<|Ey 16 62 rfl (sL 1 rfl one3 rfl rfl)<|Yz 17 62 rfl (sM rfl)<|Yz 18 62 rfl (sN rfl) ?_
 refine Yz 19 62 rfl (sF rfl fld49_3)<|Ey 20 62 rfl (sL 2 rfl one3 rfl rfl)<|Yz 21 62 rfl (st_leq_f rfl rfl l)<|E0 22 rfl (pF rfl rfl)<|E0 23 rfl (sM rfl)<|Yz 24 71 rfl (sF rfl fld33_0)<|Ey 25 71 rfl (sL 1 rfl one3 rfl rfl)<|Yz 26 71 rfl (st_neq_f rfl rfl q)<|Yz 27 71 rfl (sM rfl)<|En 28 75 rfl rfl rfl ?_
 refine En 29 75 rfl rfl rfl<|En 30 75 rfl rfl rfl<|Yz 31 71 rfl (pF rfl rfl)<|Yz 32 71 rfl (sM rfl)<|En 33 80 rfl rfl rfl<|En 34 80 rfl rfl rfl<|En 35 80 rfl rfl rfl<|Yz 36 71 rfl (pF rfl rfl)<|E0 37 rfl (pF rfl rfl)<|Eo ?_
 refine Dd (by kernel_rfl) ?_
 obtain rfl := o1 hm
 refine Xp 1 rfl<|Xp 2 rfl ?_
 exact xJ ⟨rfl, rfl, lr⟩ (.refl _)
 rintro H _ _ ⟨rfl, rfl, m⟩
 have hm := au
 refine Cc _ rfl (fun I => ?_) (fun I => ?_)
 rw [if_pos I] at hm
 refine Cr<|Ts rfl (sB (v := .agg #[iv 0, iv 0, iv 0, iv 0, iv 0, iv 0, iv 0, iv 0]) [] rfl (fun _ => by kernel_rfl))<|Do rfl (uN (vs := [_, _, _, _, _, _, _, _]) 2 8 rfl rfl rfl siz33 rfl (mc rfl (mc rfl (mc rfl (mc rfl (mc rfl (mc rfl (mc rfl (mc rfl mn)))))))) rfl (by simp)) ?_
 rintro _ _ rfl
 refine As rfl rfl<|Te<|Ct<|Xr ?_
 obtain ⟨rfl, rfl, rfl, rfl, rfl, rfl, rfl, rfl, rfl, rfl, rfl, rfl, rfl, rfl, rfl, rfl, rfl, rfl, rfl⟩ := some19 hm
 have av := (k.le m)
 exact rM (rs := [.cell 6 33, .tmp 7]) (vs := [.agg #[iv 0, iv 0, iv 0, iv 0, iv 0, iv 0, iv 0, iv 0], bv false]) ⟨⟨_, rfl, fun w ho => cell_agg (vs := [_, _, _, _, _, _, _, _]) 2 8 agg33 rfl rfl rfl w ho⟩, ⟨rfl, trivial⟩⟩ ⟨c, d, rfl, rfl, av⟩ (.cons_cons _ (.cons _ (.cons _ (.refl _)))) m
 rw [if_neg (fun hh => Bool.noConfusion (hh.symm.trans I))] at hm
 refine Ck<|Xn<|Cr<|M rfl rfl<|Ts rfl (sF rfl fld33_2)<|Ts rfl (sL 1 rfl one3 rfl rfl)<|Ts rfl (sN rfl)<|Ts rfl (sF rfl fld49_3)<|Do rfl (uS 0 rfl rfl siz3 rfl rfl (by simp)) ?_
 rintro _ _ rfl
 refine Te ?_
 obtain ⟨⟨aw, am, ax, ay, az, aA⟩, aB, aC⟩ := bS hm
 refine Cj (fun J e' hp' => ∃ (B : OA), ∃ (C : Nat), [(6, pb z)] = e' ∧ (z, Cl 33 [iv 0, iv 0, iv 0, iv 0, iv 0, iv 0, iv 0, iv 0]) :: (g, Cl 49 [iv f, iv n, iv o, iv a.No, iv aw, sv B am C, iv ax, iv ay, iv az, iv aA]) :: R = hp' ∧ H.Le J ∧ FZ rGuardAsk J.w B C am) ?_ ?_
 have hm := aB
 refine Cr<|Ts rfl (sF rfl fld33_0)<|Ts rfl (sL 1 rfl one3 rfl rfl)<|Te<|Cb<|Cr<|Ts rfl (q1 rfl rfl)<|As rfl rfl<|Te ?_
 refine Cc _ rfl (fun K => ?_) (fun K => ?_)
 rw [if_pos (of_decide_eq_true K)] at hm
 refine Cg<|M rfl rfl<|Ts rfl (sF rfl fld33_5)<|Ts rfl (sL 1 rfl one3 rfl rfl)<|Ts rfl (sF rfl fld33_6)<|Ts rfl (sL 1 rfl one3 rfl rfl)<|Ts rfl (sF rfl fld33_4)<|Ts rfl (sL 1 rfl one3 rfl rfl)<|Ts rfl (sF rfl fld33_7)<|Ts rfl (sL 1 rfl one3 rfl rfl) ?_
 refine Ts rfl (sB (v := .agg #[iv a.At, iv a.Speed, iv a.End, iv a.Sent]) [(0, iv a.At), (1, iv a.Speed), (2, iv a.End), (3, iv a.Sent)] rfl (fun _ => by kernel_rfl))<|Ts rfl (sN rfl)<|Ts rfl (sF rfl fld49_6)<|Do rfl (uN (vs := [_, _, _, _]) 0 4 rfl rfl rfl siz47 rfl (mc rfl (mc rfl (mc rfl (mc rfl mn)))) rfl (by simp)) ?_
 rintro _ _ rfl
 refine Tn<|Xm ?_
 obtain ⟨rfl, rfl, rfl, rfl, rfl, rfl⟩ := some6 hm
 refine Xp 2 rfl ?_
 exact xJ ⟨c, d, rfl, rfl, lr, (k.le m)⟩ (.cons_cons _ (.cons_cons _ (.cons _ (.refl _))))
 rw [if_neg (of_decide_eq_false K)] at hm
 refine Cr<|Ts rfl (q1 rfl rfl)<|As rfl rfl<|Te ?_
 refine Cc _ rfl (fun L => ?_) (fun L => ?_)
 rw [if_pos (of_decide_eq_true L)] at hm
 refine Cg<|M rfl rfl<|Ts rfl (sD (vs := [_, _, _, _, _, _, _, _]) 1 8 rfl agg33 rfl rfl rfl) ?_
 obtain ⟨⟨aD, aE⟩, aF, hm⟩ := bS hm
 have hm := (unc2E hm)
 refine Tg _ rfl call31 rfl (cGuardCentreAgree_2 _ _ a f n o a.No s p t u x y g c d (k.le m) aD aE aF) ?_
 rintro _ aM _ aG ⟨aH, aI, rfl, rfl, aJ⟩
 refine Tn<|Xm ?_
 obtain ⟨rfl, rfl, rfl, rfl, rfl, rfl⟩ := some6 hm
 refine Xp 2 rfl ?_
 exact xJ ⟨aH, aI, rfl, rfl, aG, aJ⟩ (.cons_cons _ (.cons_cons _ (.cons _ (.refl _))))
 rw [if_neg (of_decide_eq_false L)] at hm
 refine Ck<|Xm ?_
 obtain ⟨rfl, rfl, rfl, rfl, rfl, rfl⟩ := some6 hm
 refine Xp 2 rfl ?_
 exact xJ ⟨c, d, rfl, rfl, lr, (k.le m)⟩ (.cons_cons _ (.cons_cons _ (.cons _ (.refl _))))
 rintro J _ _ ⟨B, C, rfl, rfl, aK, aL⟩
 have hm := (unc6E aC)
 refine Cr<|Ts rfl (sB (v := .agg #[iv 0, iv 0, iv 0, iv 0, iv 0, iv 0, iv 0, iv 0]) [] rfl (fun _ => by kernel_rfl))<|Do rfl (uN (vs := [_, _, _, _, _, _, _, _]) 0 8 rfl rfl rfl siz33 rfl (mc rfl (mc rfl (mc rfl (mc rfl (mc rfl (mc rfl (mc rfl (mc rfl mn)))))))) rfl (by simp)) ?_
 rintro _ _ rfl
 refine As rfl rfl<|Te<|Ct ?_
 obtain ⟨rfl, rfl, rfl, rfl, rfl, rfl, rfl, rfl, rfl, rfl, rfl, rfl, rfl, rfl, rfl, rfl, rfl, rfl, rfl⟩ := some19 hm
 refine Xp 1 rfl ?_
 exact rM (rs := [.cell 6 33, .tmp 7]) (vs := [.agg #[iv 0, iv 0, iv 0, iv 0, iv 0, iv 0, iv 0, iv 0], bv false]) ⟨⟨_, rfl, fun w ho => cell_agg (vs := [_, _, _, _, _, _, _, _]) 1 8 agg33 rfl rfl rfl w ho⟩, ⟨rfl, trivial⟩⟩ ⟨B, C, rfl, rfl, aL⟩ (.cons_cons _ (.cons _ (.refl _))) (m.trans aK)

set_option maxRecDepth 20000 in
theorem cGuardCentreAgree_3 (b : Base) (R : Hp) (a : GuardPacket) (q : Int) (s : Int) (t : Int) (x : Int) (D : Int) (y : Int) (z : Int) (A : Int) (B : Int) (f : (List GuardAsk)) (g : Nat) (h : OA) (k : Nat) (c : Hp) (T : OS 71 (OT.fr rGuardAsk) b.w (sv h f k) f c) (aa : Int) (K : (List GuardAsk)) (hm : mGuardCentreAgree_3 a q s t x D y z A B f = some (aa, K)) :
    CallsG Tryd.prog 31 [pb g, .agg #[iv a.Kind, iv a.Session, iv a.No, iv a.Of, iv a.End, iv a.At, iv a.Speed, iv a.Sent]] b ((g, Cl 49 [iv q, iv s, iv t, iv x, iv D, sv h f k, iv y, iv z, iv A, iv B]) :: (c ++ R)) (fun v b' hp' => ∃ (ab : OA), ∃ (ac : Nat), ∃ (ad : Hp), .tuple #[] = v ∧ (g, Cl 49 [iv q, iv s, iv t, iv x, iv aa, sv ab K ac, iv y, iv z, iv A, iv B]) :: (ad ++ R) = hp' ∧ OS 71 (OT.fr rGuardAsk) b'.w (sv ab K ac) K ad) := by
 refine fE 57 Tryd.func31 rfl Tryd.ntmps31 rfl ?_
 unfold mGuardCentreAgree_3 at hm
 refine Cr<|Do rfl (uB _ rfl rfl) ?_
 rintro _ _ ⟨p, rfl, rfl⟩
 refine Te<|Cr<|As rfl rfl<|Te<|Cs<|Di mixed (.refl _)<|E0 0 rfl (sF rfl fld33_4)<|Es 1 rfl (sL 0 rfl one3 rfl rfl)<|E0 2 rfl (sA rfl)<|E0 3 rfl (sA rfl) ?_
 refine Eo<|Dd (by kernel_rfl)<|Xn<|Cs<|Cr<|M rfl rfl<|Ts rfl (sN rfl)<|Ts rfl (sF rfl fld49_5)<|Ts rfl (sL 1 rfl one46 rfl rfl)<|Ts rfl (sE rfl sl46) ?_
 refine M rfl rfl<|Te<|Cb ?_
 have aJ : f.length ≤ 9223372036854775807 := (OS.len T)
 refine Cp 1 rfl ?_
 obtain ⟨⟨E, G, m⟩, al, am⟩ := bS hm
 refine cS (fun H => unc3 fun E G m => fun I e' hp' => ∃ (n : OA), ∃ (o : Nat), ∃ (d : Hp), [(0, pb g), (3, pb p), (4, sv n m o), (5, bv E), (6, iv G), (14, sv h f k), (15, iv ((f.length : Int))), (16, iv ((H : Int)))] = e' ∧ (g, Cl 49 [iv q, iv s, iv t, iv x, iv D, sv h f k, iv y, iv z, iv A, iv B]) :: (p, Cl 33 [iv a.Kind, iv a.Session, iv a.No, iv a.Of, iv a.End, iv a.At, iv a.Speed, iv a.Sent]) :: (d ++ (c ++ R)) = hp' ∧ b.Le I ∧ OS 71 (OT.fr rGuardAsk) I.w (sv n m o) m d) al ⟨none, 0, [], rfl, rfl, lr, OS.nil⟩ (.refl _) ?_ ?_
 rintro H ⟨E, G, m⟩ I _ _ aK aL ⟨n, o, d, rfl, rfl, C, L⟩ ae
 unfold mGuardCentreAgree_3_L196 at ae
 have hm := (unc3E ae)
 refine Cr<|Ts rfl (lT rfl rfl (by omega))<|Te<|Cs<|c_cond_t rfl<|Ck<|Xn<|Cs<|Cb<|Cr ?_
 obtain ⟨e, an, hm⟩ := bS hm
 obtain ⟨ao, aq, ar⟩ := iS an
 obtain ⟨aM, aN, aO, aP, aQ, au, av, af, aw, aR, aS⟩ := OS.get (sz := 3) rfl (by decide) (T.le C) ar
 obtain ⟨⟨_, _, rfl, rfl, ⟨_, _, rfl, rfl, rfl⟩⟩, rfl⟩ := au
 refine Ts rfl (sI ao rfl rfl aq aw af sl46)<|Ts rfl (st_loadN_rd (vs := [iv e.no, iv e.end_, bv e.grant]) 3 rfl agg71 af rfl (fun w ho j u hu => av w _ ho (.cons _ (.cons _ (ss d (List.sublist_append_left _ _)))) j u hu))<|Do rfl (uA [iv 0, iv 0, .bool false] zero71 rfl) ?_
 rintro _ _ ⟨F, rfl, rfl⟩
 refine Do rfl (uN (vs := [_, _, _]) 0 3 rfl rfl rfl siz71 rfl (mc rfl (mc rfl (mc rfl mn))) rfl (by simp)) ?_
 rintro _ _ rfl
 refine Te<|Cs ?_
 obtain ⟨ax, ay, az⟩ := bS hm
 refine Cj (fun O e' hp' => [(0, pb g), (3, pb p), (4, sv n m o), (5, bv E), (6, iv G), (8, pb F), (14, sv h f k), (15, iv ((f.length : Int))), (16, iv ((H : Int))), (29, bv ax)] = e' ∧ (g, Cl 49 [iv q, iv s, iv t, iv x, iv D, sv h f k, iv y, iv z, iv A, iv B]) :: (p, Cl 33 [iv a.Kind, iv a.Session, iv a.No, iv a.Of, iv a.End, iv a.At, iv a.Speed, iv a.Sent]) :: (F, Cl 71 [iv e.no, iv e.end_, bv e.grant]) :: (d ++ (c ++ R)) = hp' ∧ I.Le O) ?_ ?_
 have hm := ay
 refine Cg<|Ts rfl (sF rfl fld71_0)<|Ts rfl (sL 0 rfl one3 rfl rfl)<|Ts rfl (sF rfl fld33_3)<|Ts rfl (sL 2 rfl one3 rfl rfl) ?_
 refine Tb rfl (q1 rfl rfl) (fun U => ?_) (fun U => ?_)
 rw [if_pos U] at hm
 refine M rfl rfl<|Ys 25 rfl rfl rfl<|Ts rfl (sF rfl fld71_2)<|Ys 25 rfl rfl rfl<|Ts rfl (sL 0 rfl one4 rfl rfl)<|Ys 25 rfl rfl rfl<|Ts rfl (sn2 rfl)<|Ts rfl (pT rfl rfl)<|Tn ?_
 obtain rfl := o1 hm
 refine Xp 2 rfl<|Xp 2 rfl<|X2 [_, _, _] d c R rfl<|X2 [_, _, _] c d R rfl ?_
 exact xJ ⟨rfl, rfl, lr⟩ (.refl _)
 rw [if_neg U] at hm
 refine M rfl rfl<|No 25 rfl rfl rfl rfl rfl<|No 25 rfl rfl rfl rfl rfl<|No 25 rfl rfl rfl rfl rfl<|Ts rfl (pF rfl rfl)<|Tn ?_
 obtain rfl := o1 hm
 refine Xp 2 rfl<|Xp 2 rfl<|X2 [_, _, _] d c R rfl<|X2 [_, _, _] c d R rfl ?_
 exact xJ ⟨rfl, rfl, lr⟩ (.refl _)
 rintro O _ _ ⟨rfl, rfl, S⟩
 have hm := az
 refine Cc _ rfl (fun V => ?_) (fun V => ?_)
 rw [if_pos V] at hm
 refine Cr<|As rfl rfl<|Te<|Ce<|Xe<|Xo<|Xn<|Cg<|Ts rfl (sa rfl rfl (by omega))<|M rfl rfl ?_
 refine Tn<|Xp 1 rfl<|Xp 1 rfl<|X2 [_, _, _] d c R rfl<|X2 [_, _, _] c d R rfl ?_
 obtain rfl := o1 hm
 exact xS ⟨n, o, d, rfl, rfl, ((C.trans S)), (L.le S)⟩ (.cons_cons _ (.cons_cons _ (.cons _ (.refl _))))
 rw [if_neg (fun hh => Bool.noConfusion (hh.symm.trans V))] at hm
 refine Ck<|Xn ?_
 obtain ⟨aA, aB, aC⟩ := bS hm
 refine Cj (fun ag e' hp' => [(0, pb g), (3, pb p), (4, sv n m o), (5, bv E), (6, iv aA), (8, pb F), (14, sv h f k), (15, iv ((f.length : Int))), (16, iv ((H : Int)))] = e' ∧ (g, Cl 49 [iv q, iv s, iv t, iv x, iv D, sv h f k, iv y, iv z, iv A, iv B]) :: (p, Cl 33 [iv a.Kind, iv a.Session, iv a.No, iv a.Of, iv a.End, iv a.At, iv a.Speed, iv a.Sent]) :: (F, Cl 71 [iv e.no, iv e.end_, bv e.grant]) :: (d ++ (c ++ R)) = hp' ∧ O.Le ag) ?_ ?_
 have hm := aB
 obtain ⟨aD, aE, aF⟩ := bS hm
 refine Cj (fun ah e' hp' => [(0, pb g), (3, pb p), (4, sv n m o), (5, bv E), (6, iv G), (8, pb F), (14, sv h f k), (15, iv ((f.length : Int))), (16, iv ((H : Int))), (38, bv aD)] = e' ∧ (g, Cl 49 [iv q, iv s, iv t, iv x, iv D, sv h f k, iv y, iv z, iv A, iv B]) :: (p, Cl 33 [iv a.Kind, iv a.Session, iv a.No, iv a.Of, iv a.End, iv a.At, iv a.Speed, iv a.Sent]) :: (F, Cl 71 [iv e.no, iv e.end_, bv e.grant]) :: (d ++ (c ++ R)) = hp' ∧ O.Le ah) ?_ ?_
 have hm := aE
 refine Cg<|Ts rfl (sF rfl fld71_2)<|Ts rfl (sL 2 rfl one4 rfl rfl) ?_
 rcases Bool.eq_false_or_eq_true e.grant with J | J
 rw [if_pos J] at hm
 refine Tr 31 rfl (v' := .bool true) (by rw [J] <;> rfl)<|M rfl rfl<|Ys 32 rfl rfl rfl<|Ts rfl (sF rfl fld71_0)<|Ys 32 rfl rfl rfl<|Ts rfl (sL 2 rfl one3 rfl rfl)<|Ys 32 rfl rfl rfl<|Ts rfl (sF rfl fld33_3)<|Ys 32 rfl rfl rfl<|Ts rfl (sL 1 rfl one3 rfl rfl) ?_
 refine Ys 32 rfl rfl rfl<|Ts rfl (q5 rfl rfl)<|Ts rfl (pT rfl rfl)<|Tn ?_
 obtain rfl := o1 hm
 refine Xp 2 rfl<|Xp 2 rfl<|Xp 2 rfl<|X2 [_, _, _] d c R rfl<|X2 [_, _, _] c d R rfl ?_
 exact xJ ⟨rfl, rfl, lr⟩ (.refl _)
 rw [if_neg (fun hh => Bool.noConfusion (hh.symm.trans J))] at hm
 refine Tr 31 rfl (v' := .bool false) (by rw [J] <;> rfl)<|M rfl rfl<|No 32 rfl rfl rfl rfl rfl<|No 32 rfl rfl rfl rfl rfl<|No 32 rfl rfl rfl rfl rfl<|No 32 rfl rfl rfl rfl rfl<|No 32 rfl rfl rfl rfl rfl<|Ts rfl (pF rfl rfl)<|Tn ?_
 obtain rfl := o1 hm
 refine Xp 2 rfl<|Xp 2 rfl<|Xp 2 rfl<|X2 [_, _, _] d c R rfl<|X2 [_, _, _] c d R rfl ?_
 exact xJ ⟨rfl, rfl, lr⟩ (.refl _)
 rintro ah _ _ ⟨rfl, rfl, ai⟩
 have hm := aF
 refine Cc _ rfl (fun W => ?_) (fun W => ?_)
 rw [if_pos W] at hm
 refine Cg<|M rfl rfl<|Ts rfl (sF rfl fld71_1)<|Ts rfl (sL 2 rfl one3 rfl rfl)<|Ts rfl (st_max rfl rfl)<|As rfl rfl<|Tn ?_
 obtain rfl := o1 hm
 refine Xp 2 rfl<|Xp 2 rfl<|Xp 2 rfl<|X2 [_, _, _] d c R rfl<|X2 [_, _, _] c d R rfl ?_
 exact xJ ⟨rfl, rfl, ai⟩ (.refl _)
 rw [if_neg (fun hh => Bool.noConfusion (hh.symm.trans W))] at hm
 refine Ck ?_
 obtain rfl := o1 hm
 refine Xp 2 rfl<|Xp 2 rfl<|Xp 2 rfl<|X2 [_, _, _] d c R rfl<|X2 [_, _, _] c d R rfl ?_
 exact xJ ⟨rfl, rfl, ai⟩ (.refl _)
 rintro ag _ _ ⟨rfl, rfl, aj⟩
 have hm := aC
 refine Cg<|M rfl rfl<|Ts rfl (sD (vs := [_, _, _]) 2 3 rfl agg71 rfl rfl rfl)<|Do rfl (u_bslice (el := 71) [(0, .agg #[iv e.no, iv e.end_, bv e.grant])] [iv e.no, iv e.end_, bv e.grant] rfl (fun _ => by kernel_rfl)) ?_
 rintro _ _ ⟨aT, rfl, rfl⟩
 obtain ⟨_, X, hm⟩ := bS hm
 have X := room_some X
 refine Do rfl (uQ (r := rGuardAsk) (l := m) [_, _, _, _] (c ++ R) [[iv e.no, iv e.end_, bv e.grant]] [e] rfl (by decide) sl46 inf71 rfl rfl rfl rfl (L.le (S.trans aj)) rfl (fun w ho => Rd.own (i := 0) ho rfl) ⟨⟨[iv e.no], _, rfl, rfl, ⟨[iv e.end_], _, rfl, rfl, rfl⟩⟩, trivial⟩ X) ?_
 rintro _ _ ⟨Y, rfl, ak⟩
 obtain ⟨aG, aH, rfl, _⟩ := ak.form
 refine As rfl rfl<|Tn<|Xm<|Xn<|Cg<|Ts rfl (sa rfl rfl (by omega))<|M rfl rfl<|Tn<|Xp 2 rfl<|Xp 2 rfl ?_
 refine X2 [_, _, _, _] Y c R rfl<|X2 [_, _, _, _] c Y R rfl ?_
 obtain rfl := o1 hm
 exact xS ⟨aG, aH, Y, rfl, rfl, ((C.trans (S.trans aj))), ak⟩ (.cons_cons _ (.cons_cons _ (.cons _ (.cons _ (.refl _)))))
 rintro I _ _ ⟨n, o, d, rfl, rfl, C, L⟩
 have hm := (unc3E am)
 refine Cr<|Ts rfl (lF rfl rfl (by omega))<|Te<|Cs<|c_cond_f rfl<|Ce<|Xe<|Xe<|Xo<|Xn ?_
 refine Cr<|M rfl rfl<|Te ?_
 refine Cc _ rfl (fun Z => ?_) (fun Z => ?_)
 rw [if_pos Z] at hm
 refine Cg<|M rfl rfl<|M rfl rfl<|M rfl rfl<|M rfl rfl<|Ts rfl (sN rfl)<|Ts rfl (sF rfl fld49_5)<|Do rfl (uS 0 rfl rfl siz46 rfl rfl (by simp)) ?_
 rintro _ _ rfl
 refine Ts rfl (sN rfl)<|Ts rfl (sF rfl fld49_4)<|Do rfl (uS 0 rfl rfl siz3 rfl rfl (by simp)) ?_
 rintro _ _ rfl
 refine Tn ?_
 obtain ⟨rfl, rfl⟩ := some2 hm
 exact endM C rfl (.cons_cons _ (.cons _ (sp d (ss c (.refl _))))) ⟨n, o, d, rfl, rfl, L⟩
 rw [if_neg (fun hh => Bool.noConfusion (hh.symm.trans Z))] at hm
 refine Ck ?_
 obtain ⟨rfl, rfl⟩ := some2 hm
 refine X2 [_, _] d c R rfl ?_
 have aI := (T.le C)
 exact endM C rfl (.cons_cons _ (.cons _ (sp c (ss d (.refl _))))) ⟨h, k, c, rfl, rfl, aI⟩

end Go.Proofs.YtbggpdpcndpaoaaDoor
