/- Contracts: the code computes its model (part 3). -/
import Derived.Test.YtnmhabgnfifkdaaZP2
set_option linter.unusedVariables false
set_option linter.unusedSimpArgs false
namespace Go.Proofs.Ytnmhabgnfifkdaa
open Go.RowKit Go.Fp

open Go.Fp renaming t_mv → M, t_as → As, t_st → Ts, t_do → Do, t_ne → Te, t_nil → Tn, t_no → No, t_yes → Ys, t_callG → Tg, t_resp → Tr, c_sr → Cr, c_seq → Cs, c_region → Cg, c_cond → Cc, c_block → Cb, c_ret → Ct, c_skip → Ck, c_exit → Ce, c_join → Cj, x_then_normal → Xn, x_then_ret → Xr, x_then_exit → Xe, x_block_ret → Xb, x_block_normal → Xm, x_block_out → Xo, x_block_on → Xi, E_st → Es, E_s0 → E0, E_yes → Ey, E_y0 → Yz, E_no → En, E_in → Ei, E_il → El, E_out → Eo, D_all → Da, D_done → Dd, D_drawI → Di, R_do → Rd2, R_nil → Rn, st_load → sL, st_loadD → sD, st_nil → sN, st_len → sE, st_move → sM, st_pick_t → pT, st_pick_f → pF, st_index_old → sI, st_load_old → sO, st_add → sa, st_sub → sb, st_lss_t → lT, st_lss_f → lF, st_not → sn2, u_box → uB, u_alloc → uA, u_store → uS, u_callW0 → uW, u_putOS → uP, fn_enterG → fE, bindS → bS, some1 → o1, idx_some → iS, sub_skip → ss, chk_some → kS, notT → nt, notF → nf, mem_c → mc, mem_n → mn, st_eql → q1, st_neq → q2, st_lss → q3, st_gtr → q5, st_geq → q6
set_option maxRecDepth 20000 in
theorem cSlicesIndexFunc_2 (b : Base) (R : Hp) (a : (List Int)) (e : OA) (f : Nat) (k : FZ rI b.w e f a) (l : Int) (hm : mSlicesIndexFunc_2 a = some l) :
    CallsG Try.prog 20 [sv e a f, .func (.func 55) #[] #[]] b (R) (fun v b' hp' => iv l = v ∧ R = hp') := by
 refine fE 19 Try.func20 rfl Try.ntmps20 rfl ?_
 unfold mSlicesIndexFunc_2 at hm
 refine Cr<|As rfl rfl<|Te<|Cs<|Cr<|M rfl rfl<|Ts rfl (sE rfl sl42)<|M rfl rfl<|Te<|Cb ?_
 have E : a.length ≤ 9223372036854775807 := (FZ.bd k)
 obtain ⟨F, o, d⟩ := bS hm
 refine cF (fun g => fun _ => fun i e' hp' => [(0, sv e a f), (1, .func (.func 55) #[] #[]), (7, iv ((a.length : Int))), (8, iv ((g : Int)))] = e' ∧ R = hp' ∧ b.Le i) o ⟨rfl, rfl, lr⟩ (.refl _) ?_ ?_
 rintro g _ i _ _ G H ⟨rfl, rfl, c⟩ m p
 unfold mSlicesIndexFunc_2_L42 at m
 have hm := m
 refine Cr<|Ts rfl (lT rfl rfl (by omega))<|Te<|Cs<|c_cond_t rfl<|Ck<|Xn<|Cs<|Cb<|Cr ?_
 refine M rfl rfl<|As rfl rfl<|Te<|Cr<|M rfl rfl<|M rfl rfl<|M rfl rfl ?_
 obtain ⟨n, q, hm⟩ := bS hm
 obtain ⟨r, s, t⟩ := iS q
 obtain ⟨I, u, x, y, z⟩ := FZ.get (sz := 1) rfl (by decide) (k.le c) t
 obtain rfl := u
 refine Ts rfl (sI r rfl rfl s z y sl42)<|Ts rfl (sO rfl one3 (x 0 _ rfl)) ?_
 obtain ⟨A, B, hm⟩ := bS hm
 refine Do rfl (u_callvW0 #[] #[] [iv n] rfl call55 rfl (fun w ho => cFleetJudgeRoster_1 _ [] n A B) (fun _ _ _ h => h.2.symm)) ?_
 rintro _ _ ⟨⟨_, rfl, _⟩, rfl⟩
 refine Te ?_
 refine Cc _ rfl (fun j => ?_) (fun j => ?_)
 rw [if_pos j] at hm
 refine Cr<|M rfl rfl<|As rfl rfl<|Te<|Ct<|Xb<|Xr<|Xr<|Xb<|Xr ?_
 have C := p _ (Option.some.inj hm).symm
 rw [C] at d
 have hm := elimR d
 obtain rfl := o1 hm
 exact rM (rs := [.tmp 4]) (vs := [iv ((g : Int))]) ⟨rfl, trivial⟩ ⟨rfl, rfl⟩ (.refl _) c
 rw [if_neg (fun hh => Bool.noConfusion (hh.symm.trans j))] at hm
 refine Ck<|Xm<|Xn<|Cg<|Ts rfl (sa rfl rfl (by omega))<|M rfl rfl<|Tn ?_
 exact xM hm ⟨rfl, rfl, (c)⟩ (.refl _)
 rintro _ i _ _ ⟨rfl, rfl, c⟩ D
 rw [D] at d
 have hm := elimL d
 refine Cr<|Ts rfl (lF rfl rfl (by omega))<|Te<|Cs<|c_cond_f rfl<|Ce<|Xe<|Xe<|Xo<|Xn ?_
 refine Cr<|As rfl rfl<|Te<|Ct ?_
 obtain rfl := o1 hm
 exact rM (rs := [.tmp 4]) (vs := [iv ((-1))]) ⟨rfl, trivial⟩ ⟨rfl, rfl⟩ (.refl _) c

set_option maxRecDepth 20000 in
theorem cSlicesContainsFunc_2 (b : Base) (R : Hp) (a : (List Int)) (c : OA) (d : Nat) (g : FZ rI b.w c d a) (e : Bool) (hm : mSlicesContainsFunc_2 a = some e) :
    CallsG Try.prog 7 [sv c a d, .func (.func 55) #[] #[]] b (R) (fun v b' hp' => bv e = v ∧ R = hp') := by
 refine fE 9 Try.func7 rfl Try.ntmps7 rfl ?_
 unfold mSlicesContainsFunc_2 at hm
 refine Cr<|As rfl rfl<|Te<|Cr<|M rfl rfl<|M rfl rfl ?_
 obtain ⟨f, i, hm⟩ := bS hm
 refine Do rfl (uW _ call20 rfl (fun w ho => cSlicesIndexFunc_2 _ [] a c d (g.old ho) f i) (fun _ _ _ h => h.2.symm)) ?_
 rintro _ _ ⟨⟨_, rfl, _⟩, rfl⟩
 refine Ts rfl (q6 rfl rfl)<|As rfl rfl<|Te<|Ct ?_
 obtain rfl := o1 hm
 exact rM (rs := [.tmp 4]) (vs := [.bool (decide (0 ≤ f))]) ⟨rfl, trivial⟩ ⟨rfl, rfl⟩ (.refl _) lr

set_option maxRecDepth 20000 in
theorem cFleetJudgeRoster_2 (b : Base) (R : Hp) (s : (List FleetShift)) (k : (List (List Int))) (g : FleetLimits) (y : OA) (z : Nat) (A5 : OA) (c6 : Nat) (h3 : FZ rFleetShift b.w y z s) (h7 : FZ (RT.list rI) b.w A5 c6 k) (x612 : Int) (hm : mFleetJudgeRoster_2 s k g = some x612) :
    CallsG Try.prog 45 [sv y s z, sv A5 k c6, .agg #[iv g.Change, iv g.Long, iv g.Work, iv g.After, iv g.Break, iv g.Rest, iv g.Row]] b (R) (fun v b' hp' => iv x612 = v ∧ R = hp') := by
 refine fE 70 Try.func45 rfl Try.ntmps45 rfl ?_
 unfold mFleetJudgeRoster_2 at hm
 refine Cr<|Do rfl (uB _ rfl rfl) ?_
 rintro _ _ ⟨g613, rfl, rfl⟩
 refine As rfl rfl<|Te<|Cr<|M rfl rfl<|Ts rfl (sE rfl sl45) ?_
 obtain ⟨m614, A, hm⟩ := bS hm
 have A := mkLen_some A
 refine Do rfl (u_mkOS (r := rI) [_] R [iv 0] 0 m614 rfl A.1 rfl rfl sl42 inf3 rfl rfl rfl (by decide) rfl A.2.1 A.2.2) ?_
 rintro _ _ ⟨hs616, rfl, h617⟩
 obtain ⟨t, u, rfl, _⟩ := h617.form
 refine As rfl rfl<|Te<|Cr<|As rfl rfl<|As rfl rfl<|As rfl rfl<|Te<|Cs<|Cr<|M rfl rfl ?_
 refine Ts rfl (sE rfl sl23)<|M rfl rfl<|Te<|Cb ?_
 have hb621 : k.length ≤ 9223372036854775807 := (FZ.bd h7)
 obtain ⟨⟨B, x, m, n⟩, hl1012, hk1013⟩ := bS hm
 refine cS (fun k1011 => unc4 fun B x m n => fun C e' hp' => ∃ (i : Hp), [(0, sv y s z), (5, pb g613), (7, sv t n u), (8, bv B), (9, bv x), (10, bv m), (21, sv A5 k c6), (22, iv ((k.length : Int))), (23, iv ((k1011 : Int)))] = e' ∧ (g613, Cl 27 [iv g.Change, iv g.Long, iv g.Work, iv g.After, iv g.Break, iv g.Rest, iv g.Row]) :: (i ++ R) = hp' ∧ b.Le C ∧ OS 3 (OT.fr rI) C.w (sv t n u) n i ∧ n.length = m614) hl1012 ⟨hs616, rfl, rfl, lr, h617, List.length_replicate⟩ (.refl _) ?_ ?_
 rintro k1011 ⟨B, x, m, n⟩ C _ _ oL620 hknL620 ⟨i, rfl, rfl, a, h1005, hln1010⟩ hstepL620
 unfold mFleetJudgeRoster_2_L620 at hstepL620
 have hm := (unc4E hstepL620)
 refine Cr<|Ts rfl (lT rfl rfl (by omega))<|Te<|Cs<|c_cond_t rfl<|Ck<|Xn<|Cs<|Cb<|Cr ?_
 obtain ⟨D, h1015, hm⟩ := bS hm
 obtain ⟨j1016, hj1017, hx1018⟩ := iS h1015
 obtain ⟨cs1019, hr1020, hcs1021, hA1022, hlt1023⟩ := FZ.get (sz := 1) rfl (by decide) (h7.le a) hx1018
 obtain ⟨A1024, c1025, rfl, h1026⟩ := hr1020
 refine Ts rfl (sI j1016 rfl rfl hj1017 hlt1023 hA1022 sl23)<|Ts rfl (sO rfl one42 (hcs1021 0 _ rfl))<|As rfl rfl<|Te<|Cs<|Cr<|M rfl rfl<|Ts rfl (sE rfl sl42)<|M rfl rfl<|Te ?_
 refine Cb ?_
 have hb1028 : D.length ≤ 9223372036854775807 := (FZ.bd h1026)
 obtain ⟨p, hl1132, hk1133⟩ := bS hm
 refine cS (fun k1131 => fun p => fun b1124 e' hp' => ∃ (d : Hp), [(0, sv y s z), (5, pb g613), (7, sv t p u), (8, bv B), (9, bv x), (10, bv m), (12, sv A1024 D c1025), (21, sv A5 k c6), (22, iv ((k.length : Int))), (23, iv ((k1011 : Int))), (27, sv A1024 D c1025), (28, iv ((D.length : Int))), (29, iv ((k1131 : Int)))] = e' ∧ (g613, Cl 27 [iv g.Change, iv g.Long, iv g.Work, iv g.After, iv g.Break, iv g.Rest, iv g.Row]) :: (d ++ R) = hp' ∧ C.Le b1124 ∧ OS 3 (OT.fr rI) b1124.w (sv t p u) p d ∧ p.length = m614) hl1132 ⟨i, rfl, rfl, lr, h1005, hln1010⟩ (.refl _) ?_ ?_
 rintro k1131 p b1124 _ _ oL1027 hknL1027 ⟨d, rfl, rfl, c, e, f⟩ hstepL1027
 unfold mFleetJudgeRoster_2_L1027 at hstepL1027
 have hm := hstepL1027
 refine Cr<|Ts rfl (lT rfl rfl (by omega))<|Te<|Cs<|c_cond_t rfl<|Ck<|Xn<|Cs<|Cb<|Cr ?_
 obtain ⟨x1134, h1135, hm⟩ := bS hm
 obtain ⟨j1136, hj1137, hx1138⟩ := iS h1135
 obtain ⟨cs1139, hr1140, hcs1141, hA1142, hlt1143⟩ := FZ.get (sz := 1) rfl (by decide) (h1026.le c) hx1138
 obtain rfl := hr1140
 refine Ts rfl (sI j1136 rfl rfl hj1137 hlt1143 hA1142 sl42)<|Ts rfl (sO rfl one3 (hcs1141 0 _ rfl))<|As rfl rfl<|Te<|Cg<|M rfl rfl<|M rfl rfl ?_
 obtain ⟨x1144, h1145, hm⟩ := bS hm
 obtain ⟨j1146, hj1147, hx1148⟩ := iS h1145
 obtain ⟨cs1149, hs1154, P1155, P1156, hq1157, hr1150, hcs1151, hA1152, hlt1153, hb1158, hho1159⟩ := OS.get (sz := 1) rfl (by decide) e hx1148
 obtain ⟨rfl, rfl⟩ := hr1150
 refine Ts rfl (sI j1146 rfl rfl hj1147 hlt1153 hA1152 sl42)<|Ts rfl (st_load_rd rfl one3 (fun w ho => hcs1151 w _ ho (.cons _ (List.sublist_append_left _ _)) 0 _ rfl)) ?_
 obtain ⟨_, h1160, hm⟩ := bS hm
 have h1160 := (kS h1160).2
 refine Ts rfl (sa rfl rfl h1160) ?_
 obtain ⟨x1161, h1162, hm⟩ := bS hm
 obtain ⟨j1163, hj1164, hx1165⟩ := iS h1162
 obtain ⟨cs1166, hs1171, P1172, P1173, hq1174, hr1167, hcs1168, hA1169, hlt1170, hb1175, hho1176⟩ := OS.get (sz := 1) rfl (by decide) e hx1165
 obtain ⟨rfl, rfl⟩ := hr1167
 refine Ts rfl (sI j1163 rfl rfl hj1164 hlt1170 hA1169 sl42)<|Do rfl (uP hj1164 (sz := 1) (a' := x1144 + 1) rfl [_] R 0 1 [iv (x1144 + 1)] rfl e hx1165 rfl rfl rfl siz3 rfl (mc rfl mn) (fun cs hsj hh => by obtain ⟨rfl, rfl⟩ := hh; exact ⟨by first | decide | exact Nat.le_refl _, rfl, rfl⟩)) ?_
 rintro _ _ ⟨hs1177, rfl, h1178⟩
 refine Tr 7 rfl (v' := .slice t (put p x1134 (x1144 + 1)).length u) (by simp only [put_length])<|Tn<|Xm<|Xn<|Cg<|Ts rfl (sa rfl rfl (by omega))<|M rfl rfl<|Tn ?_
 obtain rfl := o1 hm
 exact xS ⟨hs1177, rfl, rfl, (c), h1178, ((put_length _ _ _).trans f)⟩ (.refl _)
 rintro b1124 _ _ ⟨d, rfl, rfl, c, e, f⟩
 have hm := hk1133
 refine Cr<|Ts rfl (lF rfl rfl (by omega))<|Te<|Cs<|c_cond_f rfl<|Ce<|Xe<|Xe<|Xo<|Xn ?_
 refine Cr<|M rfl rfl<|M rfl rfl<|Ts rfl (sD (vs := [_, _, _, _, _, _, _]) 0 7 rfl agg27 rfl rfl rfl) ?_
 obtain ⟨⟨E, q, j⟩, hcl1182, hm⟩ := bS hm
 have hm := (unc3E hm)
 refine Do rfl (uW _ call43 rfl (fun w ho => cFleetDriverBreaks _ [] s D g y z A1024 c1025 ((h3.le (a.trans c)).old ho) ((h1026.le c).old ho) E q j hcl1182) (fun _ _ _ h => h.2.symm)) ?_
 rintro _ _ ⟨⟨_, rfl, _⟩, rfl⟩
 refine M rfl rfl<|Ts rfl (st_extract rfl rfl)<|Ts rfl (st_extract rfl rfl)<|Ts rfl (st_extract rfl rfl)<|As rfl rfl<|As rfl rfl<|As rfl rfl<|Te<|Cg<|M rfl rfl ?_
 rcases Bool.eq_false_or_eq_true B with F | F
 rw [if_pos F] at hm
 refine Tr 48 rfl (v' := .bool true) (by rw [F] <;> rfl)<|M rfl rfl<|No 49 rfl rfl rfl rfl rfl<|Ts rfl (pT rfl rfl)<|M rfl rfl ?_
 rcases Bool.eq_false_or_eq_true x with G | G
 rw [if_pos G] at hm
 refine Tr 52 rfl (v' := .bool true) (by rw [G] <;> rfl)<|M rfl rfl<|No 53 rfl rfl rfl rfl rfl<|Ts rfl (pT rfl rfl)<|M rfl rfl ?_
 rcases Bool.eq_false_or_eq_true m with H | H
 rw [if_pos H] at hm
 refine Tr 56 rfl (v' := .bool true) (by rw [H] <;> rfl)<|M rfl rfl<|No 57 rfl rfl rfl rfl rfl<|Ts rfl (pT rfl rfl)<|As rfl rfl<|As rfl rfl<|As rfl rfl<|Tn<|Xm<|Xn ?_
 refine Cg<|Ts rfl (sa rfl rfl (by omega))<|M rfl rfl<|Tn ?_
 obtain rfl := o1 hm
 exact xS ⟨d, rfl, rfl, ((a.trans c)), e, f⟩ (.refl _)
 rw [if_neg (fun hh => Bool.noConfusion (hh.symm.trans H))] at hm
 refine Tr 56 rfl (v' := .bool false) (by rw [H] <;> rfl)<|M rfl rfl<|Ys 57 rfl rfl rfl<|M rfl rfl<|Ts rfl (pF rfl rfl)<|As rfl rfl<|As rfl rfl<|As rfl rfl ?_
 rcases Bool.eq_false_or_eq_true j with I | I
 rw [if_pos I] at hm
 refine Tr 10 rfl (v' := .bool true) (by rw [I] <;> rfl)<|Tn<|Xm<|Xn<|Cg<|Ts rfl (sa rfl rfl (by omega))<|M rfl rfl<|Tn ?_
 obtain rfl := o1 hm
 exact xS ⟨d, rfl, rfl, ((a.trans c)), e, f⟩ (.refl _)
 rw [if_neg (fun hh => Bool.noConfusion (hh.symm.trans I))] at hm
 refine Tr 10 rfl (v' := .bool false) (by rw [I] <;> rfl)<|Tn<|Xm<|Xn<|Cg<|Ts rfl (sa rfl rfl (by omega))<|M rfl rfl<|Tn ?_
 obtain rfl := o1 hm
 exact xS ⟨d, rfl, rfl, ((a.trans c)), e, f⟩ (.refl _)
 rw [if_neg (fun hh => Bool.noConfusion (hh.symm.trans G))] at hm
 refine Tr 52 rfl (v' := .bool false) (by rw [G] <;> rfl)<|M rfl rfl<|Ys 53 rfl rfl rfl<|M rfl rfl<|Ts rfl (pF rfl rfl)<|M rfl rfl ?_
 rcases Bool.eq_false_or_eq_true m with J | J
 rw [if_pos J] at hm
 refine Tr 56 rfl (v' := .bool true) (by rw [J] <;> rfl)<|M rfl rfl<|No 57 rfl rfl rfl rfl rfl<|Ts rfl (pT rfl rfl)<|As rfl rfl<|As rfl rfl ?_
 rcases Bool.eq_false_or_eq_true q with K | K
 rw [if_pos K] at hm
 refine Tr 9 rfl (v' := .bool true) (by rw [K] <;> rfl)<|As rfl rfl<|Tn<|Xm<|Xn<|Cg<|Ts rfl (sa rfl rfl (by omega))<|M rfl rfl<|Tn ?_
 obtain rfl := o1 hm
 exact xS ⟨d, rfl, rfl, ((a.trans c)), e, f⟩ (.refl _)
 rw [if_neg (fun hh => Bool.noConfusion (hh.symm.trans K))] at hm
 refine Tr 9 rfl (v' := .bool false) (by rw [K] <;> rfl)<|As rfl rfl<|Tn<|Xm<|Xn<|Cg<|Ts rfl (sa rfl rfl (by omega))<|M rfl rfl<|Tn ?_
 obtain rfl := o1 hm
 exact xS ⟨d, rfl, rfl, ((a.trans c)), e, f⟩ (.refl _)
 rw [if_neg (fun hh => Bool.noConfusion (hh.symm.trans J))] at hm
 refine Tr 56 rfl (v' := .bool false) (by rw [J] <;> rfl)<|M rfl rfl<|Ys 57 rfl rfl rfl<|M rfl rfl<|Ts rfl (pF rfl rfl)<|As rfl rfl<|As rfl rfl ?_
 rcases Bool.eq_false_or_eq_true q with L | L
 rw [if_pos L] at hm
 refine Tr 9 rfl (v' := .bool true) (by rw [L] <;> rfl)<|As rfl rfl ?_
 rcases Bool.eq_false_or_eq_true j with O | O
 rw [if_pos O] at hm
 refine Tr 10 rfl (v' := .bool true) (by rw [O] <;> rfl)<|Tn<|Xm<|Xn<|Cg<|Ts rfl (sa rfl rfl (by omega))<|M rfl rfl<|Tn ?_
 obtain rfl := o1 hm
 exact xS ⟨d, rfl, rfl, ((a.trans c)), e, f⟩ (.refl _)
 rw [if_neg (fun hh => Bool.noConfusion (hh.symm.trans O))] at hm
 refine Tr 10 rfl (v' := .bool false) (by rw [O] <;> rfl)<|Tn<|Xm<|Xn<|Cg<|Ts rfl (sa rfl rfl (by omega))<|M rfl rfl<|Tn ?_
 obtain rfl := o1 hm
 exact xS ⟨d, rfl, rfl, ((a.trans c)), e, f⟩ (.refl _)
 rw [if_neg (fun hh => Bool.noConfusion (hh.symm.trans L))] at hm
 refine Tr 9 rfl (v' := .bool false) (by rw [L] <;> rfl)<|As rfl rfl ?_
 rcases Bool.eq_false_or_eq_true j with S | S
 rw [if_pos S] at hm
 refine Tr 10 rfl (v' := .bool true) (by rw [S] <;> rfl)<|Tn<|Xm<|Xn<|Cg<|Ts rfl (sa rfl rfl (by omega))<|M rfl rfl<|Tn ?_
 obtain rfl := o1 hm
 exact xS ⟨d, rfl, rfl, ((a.trans c)), e, f⟩ (.refl _)
 rw [if_neg (fun hh => Bool.noConfusion (hh.symm.trans S))] at hm
 refine Tr 10 rfl (v' := .bool false) (by rw [S] <;> rfl)<|Tn<|Xm<|Xn<|Cg<|Ts rfl (sa rfl rfl (by omega))<|M rfl rfl<|Tn ?_
 obtain rfl := o1 hm
 exact xS ⟨d, rfl, rfl, ((a.trans c)), e, f⟩ (.refl _)
 rw [if_neg (fun hh => Bool.noConfusion (hh.symm.trans F))] at hm
 refine Tr 48 rfl (v' := .bool false) (by rw [F] <;> rfl)<|M rfl rfl<|Ys 49 rfl rfl rfl<|M rfl rfl<|Ts rfl (pF rfl rfl)<|M rfl rfl ?_
 rcases Bool.eq_false_or_eq_true x with T | T
 rw [if_pos T] at hm
 refine Tr 52 rfl (v' := .bool true) (by rw [T] <;> rfl)<|M rfl rfl<|No 53 rfl rfl rfl rfl rfl<|Ts rfl (pT rfl rfl)<|M rfl rfl ?_
 rcases Bool.eq_false_or_eq_true m with U | U
 rw [if_pos U] at hm
 refine Tr 56 rfl (v' := .bool true) (by rw [U] <;> rfl)<|M rfl rfl<|No 57 rfl rfl rfl rfl rfl<|Ts rfl (pT rfl rfl)<|As rfl rfl ?_
 rcases Bool.eq_false_or_eq_true E with V | V
 rw [if_pos V] at hm
 refine Tr 8 rfl (v' := .bool true) (by rw [V] <;> rfl)<|As rfl rfl<|As rfl rfl<|Tn<|Xm<|Xn<|Cg<|Ts rfl (sa rfl rfl (by omega))<|M rfl rfl<|Tn ?_
 obtain rfl := o1 hm
 exact xS ⟨d, rfl, rfl, ((a.trans c)), e, f⟩ (.refl _)
 rw [if_neg (fun hh => Bool.noConfusion (hh.symm.trans V))] at hm
 refine Tr 8 rfl (v' := .bool false) (by rw [V] <;> rfl)<|As rfl rfl<|As rfl rfl<|Tn<|Xm<|Xn<|Cg<|Ts rfl (sa rfl rfl (by omega))<|M rfl rfl<|Tn ?_
 obtain rfl := o1 hm
 exact xS ⟨d, rfl, rfl, ((a.trans c)), e, f⟩ (.refl _)
 rw [if_neg (fun hh => Bool.noConfusion (hh.symm.trans U))] at hm
 refine Tr 56 rfl (v' := .bool false) (by rw [U] <;> rfl)<|M rfl rfl<|Ys 57 rfl rfl rfl<|M rfl rfl<|Ts rfl (pF rfl rfl)<|As rfl rfl ?_
 rcases Bool.eq_false_or_eq_true E with W | W
 rw [if_pos W] at hm
 refine Tr 8 rfl (v' := .bool true) (by rw [W] <;> rfl)<|As rfl rfl<|As rfl rfl ?_
 rcases Bool.eq_false_or_eq_true j with X | X
 rw [if_pos X] at hm
 refine Tr 10 rfl (v' := .bool true) (by rw [X] <;> rfl)<|Tn<|Xm<|Xn<|Cg<|Ts rfl (sa rfl rfl (by omega))<|M rfl rfl<|Tn ?_
 obtain rfl := o1 hm
 exact xS ⟨d, rfl, rfl, ((a.trans c)), e, f⟩ (.refl _)
 rw [if_neg (fun hh => Bool.noConfusion (hh.symm.trans X))] at hm
 refine Tr 10 rfl (v' := .bool false) (by rw [X] <;> rfl)<|Tn<|Xm<|Xn<|Cg<|Ts rfl (sa rfl rfl (by omega))<|M rfl rfl<|Tn ?_
 obtain rfl := o1 hm
 exact xS ⟨d, rfl, rfl, ((a.trans c)), e, f⟩ (.refl _)
 rw [if_neg (fun hh => Bool.noConfusion (hh.symm.trans W))] at hm
 refine Tr 8 rfl (v' := .bool false) (by rw [W] <;> rfl)<|As rfl rfl<|As rfl rfl ?_
 rcases Bool.eq_false_or_eq_true j with Y | Y
 rw [if_pos Y] at hm
 refine Tr 10 rfl (v' := .bool true) (by rw [Y] <;> rfl)<|Tn<|Xm<|Xn<|Cg<|Ts rfl (sa rfl rfl (by omega))<|M rfl rfl<|Tn ?_
 obtain rfl := o1 hm
 exact xS ⟨d, rfl, rfl, ((a.trans c)), e, f⟩ (.refl _)
 rw [if_neg (fun hh => Bool.noConfusion (hh.symm.trans Y))] at hm
 refine Tr 10 rfl (v' := .bool false) (by rw [Y] <;> rfl)<|Tn<|Xm<|Xn<|Cg<|Ts rfl (sa rfl rfl (by omega))<|M rfl rfl<|Tn ?_
 obtain rfl := o1 hm
 exact xS ⟨d, rfl, rfl, ((a.trans c)), e, f⟩ (.refl _)
 rw [if_neg (fun hh => Bool.noConfusion (hh.symm.trans T))] at hm
 refine Tr 52 rfl (v' := .bool false) (by rw [T] <;> rfl)<|M rfl rfl<|Ys 53 rfl rfl rfl<|M rfl rfl<|Ts rfl (pF rfl rfl)<|M rfl rfl ?_
 rcases Bool.eq_false_or_eq_true m with Z | Z
 rw [if_pos Z] at hm
 refine Tr 56 rfl (v' := .bool true) (by rw [Z] <;> rfl)<|M rfl rfl<|No 57 rfl rfl rfl rfl rfl<|Ts rfl (pT rfl rfl)<|As rfl rfl ?_
 rcases Bool.eq_false_or_eq_true E with aa | aa
 rw [if_pos aa] at hm
 refine Tr 8 rfl (v' := .bool true) (by rw [aa] <;> rfl)<|As rfl rfl ?_
 rcases Bool.eq_false_or_eq_true q with ab | ab
 rw [if_pos ab] at hm
 refine Tr 9 rfl (v' := .bool true) (by rw [ab] <;> rfl)<|As rfl rfl<|Tn<|Xm<|Xn<|Cg<|Ts rfl (sa rfl rfl (by omega))<|M rfl rfl<|Tn ?_
 obtain rfl := o1 hm
 exact xS ⟨d, rfl, rfl, ((a.trans c)), e, f⟩ (.refl _)
 rw [if_neg (fun hh => Bool.noConfusion (hh.symm.trans ab))] at hm
 refine Tr 9 rfl (v' := .bool false) (by rw [ab] <;> rfl)<|As rfl rfl<|Tn<|Xm<|Xn<|Cg<|Ts rfl (sa rfl rfl (by omega))<|M rfl rfl<|Tn ?_
 obtain rfl := o1 hm
 exact xS ⟨d, rfl, rfl, ((a.trans c)), e, f⟩ (.refl _)
 rw [if_neg (fun hh => Bool.noConfusion (hh.symm.trans aa))] at hm
 refine Tr 8 rfl (v' := .bool false) (by rw [aa] <;> rfl)<|As rfl rfl ?_
 rcases Bool.eq_false_or_eq_true q with ac | ac
 rw [if_pos ac] at hm
 refine Tr 9 rfl (v' := .bool true) (by rw [ac] <;> rfl)<|As rfl rfl<|Tn<|Xm<|Xn<|Cg<|Ts rfl (sa rfl rfl (by omega))<|M rfl rfl<|Tn ?_
 obtain rfl := o1 hm
 exact xS ⟨d, rfl, rfl, ((a.trans c)), e, f⟩ (.refl _)
 rw [if_neg (fun hh => Bool.noConfusion (hh.symm.trans ac))] at hm
 refine Tr 9 rfl (v' := .bool false) (by rw [ac] <;> rfl)<|As rfl rfl<|Tn<|Xm<|Xn<|Cg<|Ts rfl (sa rfl rfl (by omega))<|M rfl rfl<|Tn ?_
 obtain rfl := o1 hm
 exact xS ⟨d, rfl, rfl, ((a.trans c)), e, f⟩ (.refl _)
 rw [if_neg (fun hh => Bool.noConfusion (hh.symm.trans Z))] at hm
 refine Tr 56 rfl (v' := .bool false) (by rw [Z] <;> rfl)<|M rfl rfl<|Ys 57 rfl rfl rfl<|M rfl rfl<|Ts rfl (pF rfl rfl)<|As rfl rfl ?_
 rcases Bool.eq_false_or_eq_true E with ad | ad
 rw [if_pos ad] at hm
 refine Tr 8 rfl (v' := .bool true) (by rw [ad] <;> rfl)<|As rfl rfl ?_
 rcases Bool.eq_false_or_eq_true q with ae | ae
 rw [if_pos ae] at hm
 refine Tr 9 rfl (v' := .bool true) (by rw [ae] <;> rfl)<|As rfl rfl ?_
 rcases Bool.eq_false_or_eq_true j with af | af
 rw [if_pos af] at hm
 refine Tr 10 rfl (v' := .bool true) (by rw [af] <;> rfl)<|Tn<|Xm<|Xn<|Cg<|Ts rfl (sa rfl rfl (by omega))<|M rfl rfl<|Tn ?_
 obtain rfl := o1 hm
 exact xS ⟨d, rfl, rfl, ((a.trans c)), e, f⟩ (.refl _)
 rw [if_neg (fun hh => Bool.noConfusion (hh.symm.trans af))] at hm
 refine Tr 10 rfl (v' := .bool false) (by rw [af] <;> rfl)<|Tn<|Xm<|Xn<|Cg<|Ts rfl (sa rfl rfl (by omega))<|M rfl rfl<|Tn ?_
 obtain rfl := o1 hm
 exact xS ⟨d, rfl, rfl, ((a.trans c)), e, f⟩ (.refl _)
 rw [if_neg (fun hh => Bool.noConfusion (hh.symm.trans ae))] at hm
 refine Tr 9 rfl (v' := .bool false) (by rw [ae] <;> rfl)<|As rfl rfl ?_
 rcases Bool.eq_false_or_eq_true j with ag | ag
 rw [if_pos ag] at hm
 refine Tr 10 rfl (v' := .bool true) (by rw [ag] <;> rfl)<|Tn<|Xm<|Xn<|Cg<|Ts rfl (sa rfl rfl (by omega))<|M rfl rfl<|Tn ?_
 obtain rfl := o1 hm
 exact xS ⟨d, rfl, rfl, ((a.trans c)), e, f⟩ (.refl _)
 rw [if_neg (fun hh => Bool.noConfusion (hh.symm.trans ag))] at hm
 refine Tr 10 rfl (v' := .bool false) (by rw [ag] <;> rfl)<|Tn<|Xm<|Xn<|Cg<|Ts rfl (sa rfl rfl (by omega))<|M rfl rfl<|Tn ?_
 obtain rfl := o1 hm
 exact xS ⟨d, rfl, rfl, ((a.trans c)), e, f⟩ (.refl _)
 rw [if_neg (fun hh => Bool.noConfusion (hh.symm.trans ad))] at hm
 refine Tr 8 rfl (v' := .bool false) (by rw [ad] <;> rfl)<|As rfl rfl ?_
 rcases Bool.eq_false_or_eq_true q with ah | ah
 rw [if_pos ah] at hm
 refine Tr 9 rfl (v' := .bool true) (by rw [ah] <;> rfl)<|As rfl rfl ?_
 rcases Bool.eq_false_or_eq_true j with ai | ai
 rw [if_pos ai] at hm
 refine Tr 10 rfl (v' := .bool true) (by rw [ai] <;> rfl)<|Tn<|Xm<|Xn<|Cg<|Ts rfl (sa rfl rfl (by omega))<|M rfl rfl<|Tn ?_
 obtain rfl := o1 hm
 exact xS ⟨d, rfl, rfl, ((a.trans c)), e, f⟩ (.refl _)
 rw [if_neg (fun hh => Bool.noConfusion (hh.symm.trans ai))] at hm
 refine Tr 10 rfl (v' := .bool false) (by rw [ai] <;> rfl)<|Tn<|Xm<|Xn<|Cg<|Ts rfl (sa rfl rfl (by omega))<|M rfl rfl<|Tn ?_
 obtain rfl := o1 hm
 exact xS ⟨d, rfl, rfl, ((a.trans c)), e, f⟩ (.refl _)
 rw [if_neg (fun hh => Bool.noConfusion (hh.symm.trans ah))] at hm
 refine Tr 9 rfl (v' := .bool false) (by rw [ah] <;> rfl)<|As rfl rfl ?_
 rcases Bool.eq_false_or_eq_true j with aj | aj
 rw [if_pos aj] at hm
 refine Tr 10 rfl (v' := .bool true) (by rw [aj] <;> rfl)<|Tn<|Xm<|Xn<|Cg<|Ts rfl (sa rfl rfl (by omega))<|M rfl rfl<|Tn ?_
 obtain rfl := o1 hm
 exact xS ⟨d, rfl, rfl, ((a.trans c)), e, f⟩ (.refl _)
 rw [if_neg (fun hh => Bool.noConfusion (hh.symm.trans aj))] at hm
 refine Tr 10 rfl (v' := .bool false) (by rw [aj] <;> rfl)<|Tn<|Xm<|Xn<|Cg<|Ts rfl (sa rfl rfl (by omega))<|M rfl rfl<|Tn ?_
 obtain rfl := o1 hm
 exact xS ⟨d, rfl, rfl, ((a.trans c)), e, f⟩ (.refl _)
 rintro C _ _ ⟨i, rfl, rfl, a, h1005, hln1010⟩
 have hm := (unc4E hk1013)
 refine Cr<|Ts rfl (lF rfl rfl (by omega))<|Te<|Cs<|c_cond_f rfl<|Ce<|Xe<|Xe<|Xo<|Xn ?_
 refine Cs<|Cb<|Cr<|M rfl rfl ?_
 obtain ⟨x1209, hcl1210, hm⟩ := bS hm
 refine Do rfl (uW _ call7 rfl (fun w ho => cSlicesContainsFunc_2 _ [] n t u (OS.now (o := (OT.fr rI)) (l := n) (hs := i) h1005 ho (.cons _ (List.sublist_append_left _ _))) x1209 hcl1210) (fun _ _ _ h => h.2.symm)) ?_
 rintro _ _ ⟨⟨_, rfl, _⟩, rfl⟩
 refine As rfl rfl<|Te ?_
 refine Cc _ rfl (fun hc1211 => ?_) (fun hc1211 => ?_)
 rw [if_pos hc1211] at hm
 refine Cr<|As rfl rfl<|Te<|Ct<|Xb<|Xr ?_
 obtain rfl := o1 hm
 exact rM (rs := [.tmp 6]) (vs := [iv 1]) ⟨rfl, trivial⟩ ⟨rfl, rfl⟩ (.cons _ (ss i (.refl _))) a
 rw [if_neg (fun hh => Bool.noConfusion (hh.symm.trans hc1211))] at hm
 refine Cr<|M rfl rfl<|As rfl rfl<|Te ?_
 refine Cc _ rfl (fun hc1212 => ?_) (fun hc1212 => ?_)
 rw [if_pos hc1212] at hm
 refine Cr<|As rfl rfl<|Te<|Ct<|Xb<|Xr ?_
 obtain rfl := o1 hm
 exact rM (rs := [.tmp 6]) (vs := [iv 2]) ⟨rfl, trivial⟩ ⟨rfl, rfl⟩ (.cons _ (ss i (.refl _))) a
 rw [if_neg (fun hh => Bool.noConfusion (hh.symm.trans hc1212))] at hm
 refine Cr<|M rfl rfl<|As rfl rfl<|Te ?_
 refine Cc _ rfl (fun hc1213 => ?_) (fun hc1213 => ?_)
 rw [if_pos hc1213] at hm
 refine Cr<|As rfl rfl<|Te<|Ct<|Xb<|Xr ?_
 obtain rfl := o1 hm
 exact rM (rs := [.tmp 6]) (vs := [iv 3]) ⟨rfl, trivial⟩ ⟨rfl, rfl⟩ (.cons _ (ss i (.refl _))) a
 rw [if_neg (fun hh => Bool.noConfusion (hh.symm.trans hc1213))] at hm
 refine Cr<|M rfl rfl<|As rfl rfl<|Te ?_
 refine Cc _ rfl (fun hc1214 => ?_) (fun hc1214 => ?_)
 rw [if_pos hc1214] at hm
 refine Cr<|As rfl rfl<|Te<|Ct<|Xb<|Xr ?_
 obtain rfl := o1 hm
 exact rM (rs := [.tmp 6]) (vs := [iv 4]) ⟨rfl, trivial⟩ ⟨rfl, rfl⟩ (.cons _ (ss i (.refl _))) a
 rw [if_neg (fun hh => Bool.noConfusion (hh.symm.trans hc1214))] at hm
 refine Ck<|Xm<|Xn<|Cr<|As rfl rfl<|Te<|Ct ?_
 obtain rfl := o1 hm
 exact rM (rs := [.tmp 6]) (vs := [iv 0]) ⟨rfl, trivial⟩ ⟨rfl, rfl⟩ (.cons _ (ss i (.refl _))) a

set_option maxRecDepth 20000 in
theorem cFleetJudgeRoster (b : Base) (R : Hp) (c : (List FleetShift)) (d : (List (List Int))) (a : FleetLimits) (e : OA) (f : Nat) (g : OA) (i : Nat) (j : FZ rFleetShift b.w e f c) (n : FZ (RT.list rI) b.w g i d) (o : Int) (p : Int) (hm : mFleetJudgeRoster c d a = some (o, p)) :
    CallsG Try.prog 29 [sv e c f, sv g d i, .agg #[iv a.Change, iv a.Long, iv a.Work, iv a.After, iv a.Break, iv a.Rest, iv a.Row]] b (R) (fun v b' hp' => .tuple #[iv o, iv p] = v ∧ R = hp') := by
 refine fE 31 Try.func29 rfl Try.ntmps29 rfl ?_
 unfold mFleetJudgeRoster at hm
 refine Cr<|Do rfl (uB _ rfl rfl) ?_
 rintro _ _ ⟨A, rfl, rfl⟩
 refine As rfl rfl<|As rfl rfl<|Te<|Cs<|Cr<|M rfl rfl ?_
 obtain ⟨q, u, hm⟩ := bS hm
 refine Do rfl (uW _ call21 rfl (fun w ho => cFleetCheckShifts _ [] c e f (j.old ho) q u) (fun _ _ _ h => h.2.symm)) ?_
 rintro _ _ ⟨⟨_, rfl, _⟩, rfl⟩
 refine As rfl rfl<|Te<|Cr<|M rfl rfl<|Ts rfl (q2 rfl rfl)<|Te ?_
 refine Cc _ rfl (fun k => ?_) (fun k => ?_)
 rw [if_pos (of_decide_eq_true k)] at hm
 refine Cr<|M rfl rfl<|As rfl rfl<|As rfl rfl<|Te<|Ct<|Xr ?_
 obtain ⟨rfl, rfl⟩ := some2 hm
 exact rM (rs := [.tmp 6, .tmp 7]) (vs := [iv 0, iv q]) ⟨rfl, ⟨rfl, trivial⟩⟩ ⟨rfl, rfl⟩ (.cons _ (.refl _)) lr
 rw [if_neg (of_decide_eq_false k)] at hm
 refine Ck<|Xn<|Cs<|Cr<|Ts rfl (sD (vs := [_, _, _, _, _, _, _]) 0 7 rfl agg27 rfl rfl rfl) ?_
 obtain ⟨r, x, hm⟩ := bS hm
 refine Do rfl (uW _ call22 rfl (fun w ho => cFleetCheckLimits _ [] a r x) (fun _ _ _ h => h.2.symm)) ?_
 rintro _ _ ⟨⟨_, rfl, _⟩, rfl⟩
 refine As rfl rfl<|Te<|Cr<|M rfl rfl<|Ts rfl (q2 rfl rfl)<|Te ?_
 refine Cc _ rfl (fun l => ?_) (fun l => ?_)
 rw [if_pos (of_decide_eq_true l)] at hm
 refine Cr<|M rfl rfl<|As rfl rfl<|As rfl rfl<|Te<|Ct<|Xr ?_
 obtain ⟨rfl, rfl⟩ := some2 hm
 exact rM (rs := [.tmp 6, .tmp 7]) (vs := [iv 0, iv r]) ⟨rfl, ⟨rfl, trivial⟩⟩ ⟨rfl, rfl⟩ (.cons _ (.refl _)) lr
 rw [if_neg (of_decide_eq_false l)] at hm
 refine Ck<|Xn<|Cs<|Cr<|M rfl rfl<|M rfl rfl ?_
 obtain ⟨s, y, hm⟩ := bS hm
 refine Do rfl (uW _ call44 rfl (fun w ho => cFleetCheckRoster _ [] c d e f g i (j.old ho) (n.old ho) s y) (fun _ _ _ h => h.2.symm)) ?_
 rintro _ _ ⟨⟨_, rfl, _⟩, rfl⟩
 refine As rfl rfl<|Te<|Cr<|M rfl rfl<|Ts rfl (q2 rfl rfl)<|Te ?_
 refine Cc _ rfl (fun m => ?_) (fun m => ?_)
 rw [if_pos (of_decide_eq_true m)] at hm
 refine Cr<|M rfl rfl<|As rfl rfl<|As rfl rfl<|Te<|Ct<|Xr ?_
 obtain ⟨rfl, rfl⟩ := some2 hm
 exact rM (rs := [.tmp 6, .tmp 7]) (vs := [iv 0, iv s]) ⟨rfl, ⟨rfl, trivial⟩⟩ ⟨rfl, rfl⟩ (.cons _ (.refl _)) lr
 rw [if_neg (of_decide_eq_false m)] at hm
 refine Ck<|Xn<|Cr<|M rfl rfl<|M rfl rfl<|Ts rfl (sD (vs := [_, _, _, _, _, _, _]) 0 7 rfl agg27 rfl rfl rfl) ?_
 obtain ⟨t, z, hm⟩ := bS hm
 refine Do rfl (uW _ call45 rfl (fun w ho => cFleetJudgeRoster_2 _ [] c d a e f g i (j.old ho) (n.old ho) t z) (fun _ _ _ h => h.2.symm)) ?_
 rintro _ _ ⟨⟨_, rfl, _⟩, rfl⟩
 refine As rfl rfl<|As rfl rfl<|Te<|Ct ?_
 obtain ⟨rfl, rfl⟩ := some2 hm
 exact rM (rs := [.tmp 6, .tmp 7]) (vs := [iv t, iv 0]) ⟨rfl, ⟨rfl, trivial⟩⟩ ⟨rfl, rfl⟩ (.cons _ (.refl _)) lr

set_option maxRecDepth 20000 in
theorem cBitsLen64 (b : Base) (R : Hp) (m : Int) (n : Int) (hm : mBitsLen64 m = some n) :
    CallsG Try.prog 66 [.int .u64 (m)] b (R) (fun v b' hp' => iv n = v ∧ R = hp') := by
 refine fE 25 Try.func66 rfl Try.ntmps66 rfl ?_
 unfold mBitsLen64 at hm
 refine Cr<|As rfl rfl<|Te ?_
 obtain ⟨⟨q, r⟩, s, t⟩ := bS hm
 refine Cj (fun a e' hp' => [(0, .int .u64 (q)), (2, iv r)] = e' ∧ R = hp' ∧ b.Le a) ?_ ?_
 have hm := s
 refine Cr<|M rfl rfl<|Ts rfl (q6 rfl rfl)<|Te ?_
 refine Cc _ rfl (fun c => ?_) (fun c => ?_)
 rw [if_pos (of_decide_eq_true c)] at hm
 refine Cr<|M rfl rfl ?_
 obtain ⟨_, d, hm⟩ := bS hm
 have d := shN_some d
 refine Ts rfl (st_shr rfl rfl d)<|As rfl rfl<|Te<|Cg<|As rfl rfl<|Tn ?_
 obtain ⟨rfl, rfl⟩ := some2 hm
 exact xJ ⟨rfl, rfl, lr⟩ (.refl _)
 rw [if_neg (of_decide_eq_false c)] at hm
 refine Ck ?_
 obtain ⟨rfl, rfl⟩ := some2 hm
 exact xJ ⟨rfl, rfl, lr⟩ (.refl _)
 rintro a _ _ ⟨rfl, rfl, u⟩
 have hm := (unc2E t)
 obtain ⟨⟨w, x⟩, y, z⟩ := bS hm
 refine Cj (fun e e' hp' => [(0, .int .u64 (w)), (2, iv x)] = e' ∧ R = hp' ∧ a.Le e) ?_ ?_
 have hm := y
 refine Cr<|M rfl rfl<|Ts rfl (q6 rfl rfl)<|Te ?_
 refine Cc _ rfl (fun f => ?_) (fun f => ?_)
 rw [if_pos (of_decide_eq_true f)] at hm
 refine Cr<|M rfl rfl ?_
 obtain ⟨_, g, hm⟩ := bS hm
 have g := shN_some g
 refine Ts rfl (st_shr rfl rfl g)<|As rfl rfl<|Te<|Cg<|M rfl rfl ?_
 obtain ⟨_, h, hm⟩ := bS hm
 have h := (kS h).2
 refine Ts rfl (sa rfl rfl h)<|As rfl rfl<|Tn ?_
 obtain ⟨rfl, rfl⟩ := some2 hm
 exact xJ ⟨rfl, rfl, lr⟩ (.refl _)
 rw [if_neg (of_decide_eq_false f)] at hm
 refine Ck ?_
 obtain ⟨rfl, rfl⟩ := some2 hm
 exact xJ ⟨rfl, rfl, lr⟩ (.refl _)
 rintro e _ _ ⟨rfl, rfl, A⟩
 have hm := (unc2E z)
 obtain ⟨⟨B, o⟩, C, D⟩ := bS hm
 refine Cj (fun p e' hp' => [(0, .int .u64 (B)), (2, iv o)] = e' ∧ R = hp' ∧ e.Le p) ?_ ?_
 have hm := C
 refine Cr<|M rfl rfl<|Ts rfl (q6 rfl rfl)<|Te ?_
 refine Cc _ rfl (fun i => ?_) (fun i => ?_)
 rw [if_pos (of_decide_eq_true i)] at hm
 refine Cr<|M rfl rfl ?_
 obtain ⟨_, j, hm⟩ := bS hm
 have j := shN_some j
 refine Ts rfl (st_shr rfl rfl j)<|As rfl rfl<|Te<|Cg<|M rfl rfl ?_
 obtain ⟨_, k, hm⟩ := bS hm
 have k := (kS k).2
 refine Ts rfl (sa rfl rfl k)<|As rfl rfl<|Tn ?_
 obtain ⟨rfl, rfl⟩ := some2 hm
 exact xJ ⟨rfl, rfl, lr⟩ (.refl _)
 rw [if_neg (of_decide_eq_false i)] at hm
 refine Ck ?_
 obtain ⟨rfl, rfl⟩ := some2 hm
 exact xJ ⟨rfl, rfl, lr⟩ (.refl _)
 rintro p _ _ ⟨rfl, rfl, E⟩
 have hm := (unc2E D)
 refine Cr<|M rfl rfl<|M rfl rfl<|Ts rfl (st_conv rfl int102_u64 int5_u8) ?_
 obtain ⟨F, G, hm⟩ := bS hm
 refine Ts rfl (st_sidx rfl rfl G str9)<|Ts rfl (st_conv rfl int5_u8 int3_i64) ?_
 obtain ⟨_, l, hm⟩ := bS hm
 have l := (kS l).2
 refine Ts rfl (sa rfl rfl l)<|As rfl rfl<|Te<|Ct ?_
 obtain rfl := o1 hm
 exact rM (rs := [.tmp 2]) (vs := [iv (o + (IntKind.wrap .i64 F))]) ⟨rfl, trivial⟩ ⟨rfl, rfl⟩ (.refl _) (u.trans (A.trans E))

set_option maxRecDepth 20000 in
theorem cBitsLen (b : Base) (R : Hp) (a : Int) (c : Int) (hm : mBitsLen a = some c) :
    CallsG Try.prog 47 [.int .u64 (a)] b (R) (fun v b' hp' => iv c = v ∧ R = hp') := by
 refine fE 8 Try.func47 rfl Try.ntmps47 rfl ?_
 unfold mBitsLen at hm
 refine Cr<|As rfl rfl<|Te<|Cs<|c_cond_f rfl<|Ck<|Xn<|Cr<|M rfl rfl ?_
 obtain ⟨d, e, hm⟩ := bS hm
 refine Do rfl (uW _ call66 rfl (fun w ho => cBitsLen64 _ [] a d e) (fun _ _ _ h => h.2.symm)) ?_
 rintro _ _ ⟨⟨_, rfl, _⟩, rfl⟩
 refine As rfl rfl<|Te<|Ct ?_
 obtain rfl := o1 hm
 exact rM (rs := [.tmp 2]) (vs := [iv d]) ⟨rfl, trivial⟩ ⟨rfl, rfl⟩ (.refl _) lr

set_option maxRecDepth 20000 in
theorem cCmpLess (b : Base) (R : Hp) (d : Int) (e : Int) (f : Bool) (hm : mCmpLess d e = some f) :
    CallsG Try.prog 62 [iv d, iv e] b (R) (fun v b' hp' => bv f = v ∧ R = hp') := by
 refine fE 17 Try.func62 rfl Try.ntmps62 rfl ?_
 unfold mCmpLess at hm
 refine Cr<|As rfl rfl<|Te ?_
 obtain ⟨g, l, m⟩ := bS hm
 refine Cj (fun i e' hp' => [(4, bv g)] = e' ∧ R = hp' ∧ b.Le i) ?_ ?_
 have hm := l
 refine Cg<|M rfl rfl ?_
 obtain ⟨j, n, hm⟩ := bS hm
 refine Do rfl (uW _ call68 rfl (fun w ho => cCmpIsNaN _ [] d j n) (fun _ _ _ h => h.2.symm)) ?_
 rintro _ _ ⟨⟨_, rfl, _⟩, rfl⟩
 rcases Bool.eq_false_or_eq_true j with a | a
 rw [if_pos a] at hm
 refine Tr 6 rfl (v' := .bool true) (by rw [a] <;> rfl)<|M rfl rfl<|Ys 7 rfl rfl rfl<|M rfl rfl<|Ys 7 rfl rfl rfl ?_
 obtain ⟨k, o, hm⟩ := bS hm
 refine Do rfl (uW _ call68 rfl (fun w ho => cCmpIsNaN _ [] e k o) (fun _ _ _ h => h.2.symm)) ?_
 rintro _ _ ⟨⟨_, rfl, _⟩, rfl⟩
 rcases Bool.eq_false_or_eq_true k with c | c
 rw [if_pos c] at hm
 refine Tr 9 rfl (v' := .bool true) (by rw [c] <;> rfl)<|Ys 7 rfl rfl rfl<|Ts rfl (st_not_t rfl)<|Ts rfl (pT rfl rfl)<|M rfl rfl<|Ys 12 rfl rfl rfl<|M rfl rfl<|Ys 12 rfl rfl rfl<|M rfl rfl<|Ys 12 rfl rfl rfl ?_
 refine Ts rfl (q3 rfl rfl)<|Ts rfl (pF rfl rfl)<|As rfl rfl<|Tn ?_
 obtain rfl := o1 hm
 exact xJ ⟨rfl, rfl, lr⟩ (.refl _)
 rw [if_neg (fun hh => Bool.noConfusion (hh.symm.trans c))] at hm
 refine Tr 9 rfl (v' := .bool false) (by rw [c] <;> rfl)<|Ys 7 rfl rfl rfl<|Ts rfl (st_not_f rfl)<|Ts rfl (pT rfl rfl)<|M rfl rfl<|No 12 rfl rfl rfl rfl rfl<|No 12 rfl rfl rfl rfl rfl<|No 12 rfl rfl rfl rfl rfl<|Ts rfl (pT rfl rfl)<|As rfl rfl ?_
 refine Tn ?_
 obtain rfl := o1 hm
 exact xJ ⟨rfl, rfl, lr⟩ (.refl _)
 rw [if_neg (fun hh => Bool.noConfusion (hh.symm.trans a))] at hm
 refine Tr 6 rfl (v' := .bool false) (by rw [a] <;> rfl)<|M rfl rfl<|No 7 rfl rfl rfl rfl rfl<|No 7 rfl rfl rfl rfl rfl<|No 7 rfl rfl rfl rfl rfl<|Ts rfl (pF rfl rfl)<|M rfl rfl<|Ys 12 rfl rfl rfl<|M rfl rfl<|Ys 12 rfl rfl rfl ?_
 refine M rfl rfl<|Ys 12 rfl rfl rfl<|Ts rfl (q3 rfl rfl)<|Ts rfl (pF rfl rfl)<|As rfl rfl<|Tn ?_
 obtain rfl := o1 hm
 exact xJ ⟨rfl, rfl, lr⟩ (.refl _)
 rintro i _ _ ⟨rfl, rfl, p⟩
 have hm := m
 refine Ct ?_
 obtain rfl := o1 hm
 exact rM (rs := [.tmp 4]) (vs := [bv g]) ⟨rfl, trivial⟩ ⟨rfl, rfl⟩ (.refl _) p

set_option maxRecDepth 20000 in
theorem cSlicesInsertionSortOrdered (b : Base) (R : Hp) (g : Int) (k : Int) (e : (List Int)) (a : OA) (c : Nat) (y : Hp) (h5 : OS 3 (OT.fr rI) b.w (sv a e c) e y) (r : (List Int)) (hm : mSlicesInsertionSortOrdered g k e = some r) :
    CallsG Try.prog 56 [sv a e c, iv g, iv k] b ((y ++ R)) (fun v b' hp' => ∃ (J : Hp), .tuple #[] = v ∧ (J ++ R) = hp' ∧ OS 3 (OT.fr rI) b'.w (sv a r c) r J ∧ r.length = e.length) := by
 refine fE 49 Try.func56 rfl Try.ntmps56 rfl ?_
 unfold mSlicesInsertionSortOrdered at hm
 refine Cr<|M rfl rfl ?_
 obtain ⟨_, z, hm⟩ := bS hm
 have z := (kS z).2
 refine Ts rfl (sa rfl rfl z)<|As rfl rfl<|Te<|Cb<|cL (unc2 fun l m => fun n e' hp' => ∃ (o : Hp), [(0, sv a m c), (1, iv g), (2, iv k), (6, iv l)] = e' ∧ (o ++ R) = hp' ∧ b.Le n ∧ OS 3 (OT.fr rI) n.w (sv a m c) m o ∧ m.length = e.length) hm ⟨y, rfl, rfl, lr, h5, rfl⟩ (.refl _) ?_
 rintro ⟨l, m⟩ n _ _ oL5371 ⟨o, rfl, rfl, K, L, O⟩ S houtL5371
 unfold mSlicesInsertionSortOrdered_L5371 at S
 have hm := (unc2E S)
 refine Cs<|Cr<|M rfl rfl<|M rfl rfl<|Ts rfl (q3 rfl rfl)<|Te ?_
 refine Cc _ rfl (fun A => ?_) (fun A => ?_)
 rw [if_pos (of_decide_eq_true A)] at hm
 refine Ck<|Xn ?_
 obtain ⟨s, hj9839, hk9839⟩ := bS hm
 refine Cj (fun B e' hp' => ∃ (t : Hp), [(0, sv a s c), (1, iv g), (2, iv k), (6, iv l)] = e' ∧ (t ++ R) = hp' ∧ n.Le B ∧ OS 3 (OT.fr rI) B.w (sv a s c) s t ∧ s.length = e.length) ?_ ?_
 have hm := hj9839
 refine Cb<|Cr<|M rfl rfl<|As rfl rfl<|Te<|Cb<|cL (unc2 fun f d => fun u e' hp' => ∃ (p : Hp), [(0, sv a d c), (1, iv g), (2, iv k), (6, iv l), (7, iv f)] = e' ∧ (p ++ R) = hp' ∧ n.Le u ∧ OS 3 (OT.fr rI) u.w (sv a d c) d p ∧ d.length = e.length) hm ⟨o, rfl, rfl, lr, L, O⟩ (.refl _) ?_
 rintro ⟨f, d⟩ u _ _ oL9840 ⟨p, rfl, rfl, T, i, U⟩ V houtL9840
 unfold mSlicesInsertionSortOrdered_L9840 at V
 have hm := (unc2E V)
 refine Cs ?_
 obtain ⟨x10509, hj10510, hk10510⟩ := bS hm
 refine Cj (fun W e' hp' => [(0, sv a d c), (1, iv g), (2, iv k), (6, iv l), (7, iv f), (30, bv x10509)] = e' ∧ (p ++ R) = hp' ∧ u.Le W) ?_ ?_
 have hm := hj10510
 by_cases x : g < f
 rw [if_pos x] at hm
 obtain ⟨x10548, h10549, hm⟩ := bS hm
 obtain ⟨_, C, hm⟩ := bS hm
 obtain ⟨x10565, h10566, hm⟩ := bS hm
 obtain ⟨x10581, hcl10582, hm⟩ := bS hm
 refine Di mixed (.refl _)<|E0 0 rfl (sM rfl)<|E0 1 rfl (sM rfl)<|E0 2 rfl (st_gtr_t rfl rfl x)<|E0 3 rfl (sM rfl)<|Yz 4 19 rfl (sM rfl)<|Yz 5 19 rfl (sM rfl) ?_
 obtain ⟨j10550, hj10551, hx10552⟩ := iS h10549
 obtain ⟨cs10553, hs10558, P10559, P10560, hq10561, hr10554, hcs10555, hA10556, hlt10557, hb10562, hho10563⟩ := OS.get (sz := 1) rfl (by decide) i hx10552
 obtain ⟨rfl, rfl⟩ := hr10554
 refine Yz 6 19 rfl (sI j10550 rfl rfl hj10551 hlt10557 hA10556 sl42)<|Ey 7 19 rfl (st_load_rd rfl one3 (fun w ho => hcs10555 w _ ho (List.sublist_append_left _ _) 0 _ rfl))<|Yz 8 19 rfl (sM rfl)<|Yz 9 19 rfl (sM rfl) ?_
 have C := (kS C).2
 refine Yz 10 19 rfl (sb rfl rfl C) ?_
 obtain ⟨j10567, hj10568, hx10569⟩ := iS h10566
 obtain ⟨cs10570, hs10575, P10576, P10577, hq10578, hr10571, hcs10572, hA10573, hlt10574, hb10579, hho10580⟩ := OS.get (sz := 1) rfl (by decide) i hx10569
 obtain ⟨rfl, rfl⟩ := hr10571
 refine Yz 11 19 rfl (sI j10567 rfl rfl hj10568 hlt10574 hA10573 sl42)<|Ey 12 19 rfl (st_load_rd rfl one3 (fun w ho => hcs10572 w _ ho (List.sublist_append_left _ _) 0 _ rfl))<|Eo<|Da [13] (by kernel_rfl) rfl ?_
 refine R_doY lr rfl rfl 19 rfl rfl rfl (uW _ call62 rfl (fun w ho => cCmpLess _ [] x10548 x10565 x10581 hcl10582) (fun _ _ _ h => h.2.symm)) ?_ ?_
 rintro _ _ ⟨⟨_, rfl, _⟩, rfl⟩
 refine ⟨.inr (.refl _), ?_⟩
 refine Ei lr (.refl _)<|E0 14 rfl (pT rfl rfl)<|Eo<|Dd (by kernel_rfl) ?_
 obtain rfl := o1 hm
 exact xJ ⟨rfl, rfl, lr⟩ (.refl _)
 exact Rn
 rw [if_neg x] at hm
 refine Di mixed (.refl _)<|E0 0 rfl (sM rfl)<|E0 1 rfl (sM rfl)<|E0 2 rfl (st_gtr_f rfl rfl x)<|E0 3 rfl (sM rfl)<|En 4 19 rfl rfl rfl<|En 5 19 rfl rfl rfl<|En 6 19 rfl rfl rfl<|En 7 19 rfl rfl rfl<|En 8 19 rfl rfl rfl ?_
 refine En 9 19 rfl rfl rfl<|En 10 19 rfl rfl rfl<|En 11 19 rfl rfl rfl<|En 12 19 rfl rfl rfl<|En 13 19 rfl rfl rfl<|E0 14 rfl (pF rfl rfl)<|Eo<|Dd (by kernel_rfl) ?_
 obtain rfl := o1 hm
 exact xJ ⟨rfl, rfl, lr⟩ (.refl _)
 rintro W _ _ ⟨rfl, rfl, j⟩
 have hm := hk10510
 refine Cc _ rfl (fun D => ?_) (fun D => ?_)
 rw [if_pos D] at hm
 refine Ck<|Xn<|Cs<|Cb ?_
 obtain ⟨_, E, hm⟩ := bS hm
 obtain ⟨_, F, hm⟩ := bS hm
 obtain ⟨q, h10657, hm⟩ := bS hm
 obtain ⟨G, h10673, hm⟩ := bS hm
 obtain ⟨x10688, h10689, hm⟩ := bS hm
 obtain ⟨x10706, h10707, hm⟩ := bS hm
 refine Di mixed (.refl _)<|E0 0 rfl (sM rfl)<|E0 1 rfl (sM rfl)<|E0 2 rfl (sM rfl)<|E0 3 rfl (sM rfl) ?_
 have E := (kS E).2
 refine E0 4 rfl (sb rfl rfl E)<|E0 5 rfl (sM rfl)<|E0 6 rfl (sM rfl) ?_
 have F := (kS F).2
 refine E0 7 rfl (sb rfl rfl F) ?_
 obtain ⟨j10658, hj10659, hx10660⟩ := iS h10657
 obtain ⟨cs10661, hs10666, P10667, P10668, hq10669, hr10662, hcs10663, hA10664, hlt10665, hb10670, hho10671⟩ := OS.get (sz := 1) rfl (by decide) (i.le j) hx10660
 obtain ⟨rfl, rfl⟩ := hr10662
 refine E0 8 rfl (sI j10658 rfl rfl hj10659 hlt10665 hA10664 sl42)<|Es 9 rfl (st_load_rd rfl one3 (fun w ho => hcs10663 w _ ho (List.sublist_append_left _ _) 0 _ rfl))<|E0 10 rfl (sM rfl)<|E0 11 rfl (sM rfl) ?_
 obtain ⟨j10674, hj10675, hx10676⟩ := iS h10673
 obtain ⟨cs10677, hs10682, P10683, P10684, hq10685, hr10678, hcs10679, hA10680, hlt10681, hb10686, hho10687⟩ := OS.get (sz := 1) rfl (by decide) (i.le j) hx10676
 obtain ⟨rfl, rfl⟩ := hr10678
 refine E0 12 rfl (sI j10674 rfl rfl hj10675 hlt10681 hA10680 sl42)<|Es 13 rfl (st_load_rd rfl one3 (fun w ho => hcs10679 w _ ho (List.sublist_append_left _ _) 0 _ rfl)) ?_
 obtain ⟨j10690, X, Y⟩ := iS h10689
 obtain ⟨cs10693, hs10698, P10699, P10700, hq10701, hr10694, hcs10695, hA10696, hlt10697, hb10702, hho10703⟩ := OS.get (sz := 1) rfl (by decide) (i.le j) Y
 obtain ⟨rfl, rfl⟩ := hr10694
 refine E0 14 rfl (sI j10690 rfl rfl X hlt10697 hA10696 sl42)<|Eo<|Da [15] (by kernel_rfl) rfl ?_
 refine Rd2 lr rfl rfl (uP X (sz := 1) (a' := q) rfl [] R 0 1 [iv q] rfl (i.le j) Y rfl rfl rfl siz3 rfl (mc rfl mn) (fun cs hsj hh => by obtain ⟨rfl, rfl⟩ := hh; exact ⟨by first | decide | exact Nat.le_refl _, rfl, rfl⟩)) ?_ ?_
 rintro _ _ ⟨hs10704, rfl, Z⟩
 refine ⟨.inl (by kernel_rfl), ?_⟩
 refine d_resp 0 rfl (v' := .slice a (put d f q).length c) (by simp only [put_length])<|d_resp 35 rfl (v' := .slice a (put d f q).length c) (by simp only [put_length]) ?_
 obtain ⟨j10708, aa, ab⟩ := iS h10707
 obtain ⟨cs10711, hs10716, P10717, P10718, hq10719, hr10712, hcs10713, hA10714, hlt10715, hb10720, hho10721⟩ := OS.get (sz := 1) rfl (by decide) Z ab
 obtain ⟨rfl, rfl⟩ := hr10712
 refine El lr<|E0 16 rfl (sI j10708 rfl rfl aa hlt10715 hA10714 sl42)<|Eo<|Da [17] (by kernel_rfl) rfl ?_
 refine Rd2 lr rfl rfl (uP aa (sz := 1) (a' := G) rfl [] R 0 1 [iv G] rfl Z ab rfl rfl rfl siz3 rfl (mc rfl mn) (fun cs hsj hh => by obtain ⟨rfl, rfl⟩ := hh; exact ⟨by first | decide | exact Nat.le_refl _, rfl, rfl⟩)) ?_ ?_
 rintro _ _ ⟨hs10722, rfl, h10723⟩
 refine ⟨.inl (by kernel_rfl), ?_⟩
 refine d_resp 0 rfl (v' := .slice a (put (put d f q) (f - 1) G).length c) (by simp only [put_length])<|Dd (by kernel_rfl)<|Xm<|Xn<|Cg<|M rfl rfl ?_
 obtain ⟨_, H, hm⟩ := bS hm
 have H := (kS H).2
 refine Ts rfl (sb rfl rfl H)<|As rfl rfl<|Tn ?_
 exact xM hm ⟨hs10722, rfl, rfl, ((T.trans j)), h10723, ((put_length _ _ _).trans ((put_length _ _ _).trans U))⟩ (.refl _)
 exact Rn
 exact Rn
 rw [if_neg (fun hh => Bool.noConfusion (hh.symm.trans D))] at hm
 refine Ce<|Xe<|Xe<|Xo ?_
 have hm := congrArg some (houtL9840 _ (Option.some.inj hm).symm)
 refine Xm ?_
 obtain rfl := o1 hm
 exact xJ ⟨p, rfl, rfl, (T.trans j), (i.le j), U⟩ (.refl _)
 rintro B _ _ ⟨t, rfl, rfl, hle9833, h9836, hln9838⟩
 have hm := hk9839
 refine Cg<|M rfl rfl ?_
 obtain ⟨_, I, hm⟩ := bS hm
 have I := (kS I).2
 refine Ts rfl (sa rfl rfl I)<|As rfl rfl<|Tn ?_
 exact xM hm ⟨t, rfl, rfl, ((K.trans hle9833)), h9836, hln9838⟩ (.refl _)
 rw [if_neg (of_decide_eq_false A)] at hm
 refine Ce<|Xe<|Xe<|Xo ?_
 have hm := congrArg some (houtL5371 _ (Option.some.inj hm).symm)
 obtain rfl := o1 hm
 exact endM K rfl (.refl _) ⟨o, rfl, rfl, L, O⟩

set_option maxRecDepth 20000 in
theorem cSlicesSiftDownOrdered (b : Base) (R : Hp) (W : Int) (j : Int) (d : Int) (k : (List Int)) (a : OA) (c : Nat) (t : Hp) (h5 : OS 3 (OT.fr rI) b.w (sv a k c) k t) (p : (List Int)) (hm : mSlicesSiftDownOrdered W j d k = some p) :
    CallsG Try.prog 69 [sv a k c, iv W, iv j, iv d] b ((t ++ R)) (fun v b' hp' => ∃ (X : Hp), .tuple #[] = v ∧ (X ++ R) = hp' ∧ OS 3 (OT.fr rI) b'.w (sv a p c) p X ∧ p.length = k.length) := by
 refine fE 76 Try.func69 rfl Try.ntmps69 rfl ?_
 unfold mSlicesSiftDownOrdered at hm
 refine Cr<|M rfl rfl<|As rfl rfl<|Te<|Cb<|cL (unc2 fun g e => fun n e' hp' => ∃ (l : Hp), [(0, sv a e c), (2, iv j), (3, iv d), (8, iv g)] = e' ∧ (l ++ R) = hp' ∧ b.Le n ∧ OS 3 (OT.fr rI) n.w (sv a e c) e l ∧ e.length = k.length) hm ⟨t, rfl, rfl, lr, h5, rfl⟩ (.refl _) ?_
 rintro ⟨g, e⟩ n _ _ oL2130 ⟨l, rfl, rfl, u, f, x⟩ Y Z
 unfold mSlicesSiftDownOrdered_L2130 at Y
 have hm := (unc2E Y)
 refine Cb<|Cr<|M rfl rfl ?_
 obtain ⟨_, y, hm⟩ := bS hm
 have y := (kS y).2
 refine Ts rfl (st_mul rfl rfl y) ?_
 obtain ⟨_, z, hm⟩ := bS hm
 have z := (kS z).2
 refine Ts rfl (sa rfl rfl z)<|As rfl rfl<|Te<|Cs<|Cr<|M rfl rfl<|M rfl rfl<|Ts rfl (q6 rfl rfl)<|Te ?_
 refine Cc _ rfl (fun A => ?_) (fun A => ?_)
 rw [if_pos (of_decide_eq_true A)] at hm
 refine Ce<|Xe<|Xi rfl<|Xe<|Xo ?_
 have hm := congrArg some (Z _ (Option.some.inj hm).symm)
 obtain rfl := o1 hm
 exact endM u rfl (.refl _) ⟨l, rfl, rfl, f, x⟩
 rw [if_neg (of_decide_eq_false A)] at hm
 refine Ck<|Xn ?_
 obtain ⟨B, hj3713, hk3713⟩ := bS hm
 refine Cj (fun C e' hp' => [(0, sv a e c), (2, iv j), (3, iv d), (8, iv g), (9, iv B)] = e' ∧ (l ++ R) = hp' ∧ n.Le C) ?_ ?_
 have hm := hj3713
 obtain ⟨x3794, hj3795, hk3795⟩ := bS hm
 refine Cj (fun aa e' hp' => [(0, sv a e c), (2, iv j), (3, iv d), (8, iv g), (9, iv ((2 * g) + 1)), (36, bv x3794)] = e' ∧ (l ++ R) = hp' ∧ n.Le aa) ?_ ?_
 have hm := hj3795
 obtain ⟨_, m, hm⟩ := bS hm
 by_cases q : (((2 * g) + 1) + 1) < j
 rw [if_pos q] at hm
 obtain ⟨_, D, hm⟩ := bS hm
 obtain ⟨x3838, h3839, hm⟩ := bS hm
 obtain ⟨_, E, hm⟩ := bS hm
 obtain ⟨_, F, hm⟩ := bS hm
 obtain ⟨x3856, h3857, hm⟩ := bS hm
 obtain ⟨x3872, hcl3873, hm⟩ := bS hm
 refine Di mixed (.refl _)<|E0 0 rfl (sM rfl) ?_
 have m := (kS m).2
 refine E0 1 rfl (sa rfl rfl m)<|E0 2 rfl (sM rfl)<|E0 3 rfl (lT rfl rfl q)<|E0 4 rfl (sM rfl)<|Yz 5 21 rfl (sM rfl)<|Yz 6 21 rfl (sM rfl)<|Yz 7 21 rfl (sM rfl) ?_
 have D := (kS D).2
 refine Yz 8 21 rfl (sa rfl rfl D) ?_
 obtain ⟨j3840, hj3841, hx3842⟩ := iS h3839
 obtain ⟨cs3843, hs3848, P3849, P3850, hq3851, hr3844, hcs3845, hA3846, hlt3847, hb3852, hho3853⟩ := OS.get (sz := 1) rfl (by decide) f hx3842
 obtain ⟨rfl, rfl⟩ := hr3844
 refine Yz 9 21 rfl (sI j3840 rfl rfl hj3841 hlt3847 hA3846 sl42)<|Ey 10 21 rfl (st_load_rd rfl one3 (fun w ho => hcs3845 w _ ho (List.sublist_append_left _ _) 0 _ rfl))<|Yz 11 21 rfl (sM rfl)<|Yz 12 21 rfl (sM rfl)<|Yz 13 21 rfl (sM rfl) ?_
 have E := (kS E).2
 refine Yz 14 21 rfl (sa rfl rfl E) ?_
 have F := (kS F).2
 refine Yz 15 21 rfl (sa rfl rfl F) ?_
 obtain ⟨j3858, hj3859, hx3860⟩ := iS h3857
 obtain ⟨cs3861, hs3866, P3867, P3868, hq3869, hr3862, hcs3863, hA3864, hlt3865, hb3870, hho3871⟩ := OS.get (sz := 1) rfl (by decide) f hx3860
 obtain ⟨rfl, rfl⟩ := hr3862
 refine Yz 16 21 rfl (sI j3858 rfl rfl hj3859 hlt3865 hA3864 sl42)<|Ey 17 21 rfl (st_load_rd rfl one3 (fun w ho => hcs3863 w _ ho (List.sublist_append_left _ _) 0 _ rfl))<|Eo<|Da [18] (by kernel_rfl) rfl ?_
 refine R_doY lr rfl rfl 21 rfl rfl rfl (uW _ call62 rfl (fun w ho => cCmpLess _ [] x3838 x3856 x3872 hcl3873) (fun _ _ _ h => h.2.symm)) ?_ ?_
 rintro _ _ ⟨⟨_, rfl, _⟩, rfl⟩
 refine ⟨.inr (.refl _), ?_⟩
 refine Ei lr (.refl _)<|E0 19 rfl (pT rfl rfl)<|Eo<|Dd (by kernel_rfl) ?_
 obtain rfl := o1 hm
 exact xJ ⟨rfl, rfl, lr⟩ (.refl _)
 exact Rn
 rw [if_neg q] at hm
 refine Di mixed (.refl _)<|E0 0 rfl (sM rfl) ?_
 have m := (kS m).2
 refine E0 1 rfl (sa rfl rfl m)<|E0 2 rfl (sM rfl)<|E0 3 rfl (lF rfl rfl q)<|E0 4 rfl (sM rfl)<|En 5 21 rfl rfl rfl<|En 6 21 rfl rfl rfl<|En 7 21 rfl rfl rfl<|En 8 21 rfl rfl rfl<|En 9 21 rfl rfl rfl<|En 10 21 rfl rfl rfl ?_
 refine En 11 21 rfl rfl rfl<|En 12 21 rfl rfl rfl<|En 13 21 rfl rfl rfl<|En 14 21 rfl rfl rfl<|En 15 21 rfl rfl rfl<|En 16 21 rfl rfl rfl<|En 17 21 rfl rfl rfl<|En 18 21 rfl rfl rfl<|E0 19 rfl (pF rfl rfl)<|Eo ?_
 refine Dd (by kernel_rfl) ?_
 obtain rfl := o1 hm
 exact xJ ⟨rfl, rfl, lr⟩ (.refl _)
 rintro aa _ _ ⟨rfl, rfl, ab⟩
 have hm := hk3795
 refine Cc _ rfl (fun G => ?_) (fun G => ?_)
 rw [if_pos G] at hm
 refine Cg<|M rfl rfl ?_
 obtain ⟨_, H, hm⟩ := bS hm
 have H := (kS H).2
 refine Ts rfl (sa rfl rfl H)<|As rfl rfl<|Tn ?_
 obtain rfl := o1 hm
 exact xJ ⟨rfl, rfl, ab⟩ (.refl _)
 rw [if_neg (fun hh => Bool.noConfusion (hh.symm.trans G))] at hm
 refine Ck ?_
 obtain rfl := o1 hm
 exact xJ ⟨rfl, rfl, ab⟩ (.refl _)
 rintro C _ _ ⟨rfl, rfl, i⟩
 have hm := hk3713
 refine Cs<|Cs ?_
 obtain ⟨_, I, hm⟩ := bS hm
 obtain ⟨x3913, h3914, hm⟩ := bS hm
 obtain ⟨_, J, hm⟩ := bS hm
 obtain ⟨x3930, h3931, hm⟩ := bS hm
 obtain ⟨x3946, hcl3947, hm⟩ := bS hm
 refine Di mixed (.refl _)<|E0 0 rfl (sM rfl)<|E0 1 rfl (sM rfl)<|E0 2 rfl (sM rfl) ?_
 have I := (kS I).2
 refine E0 3 rfl (sa rfl rfl I) ?_
 obtain ⟨j3915, hj3916, hx3917⟩ := iS h3914
 obtain ⟨cs3918, hs3923, P3924, P3925, hq3926, hr3919, hcs3920, hA3921, hlt3922, hb3927, hho3928⟩ := OS.get (sz := 1) rfl (by decide) (f.le i) hx3917
 obtain ⟨rfl, rfl⟩ := hr3919
 refine E0 4 rfl (sI j3915 rfl rfl hj3916 hlt3922 hA3921 sl42)<|Es 5 rfl (st_load_rd rfl one3 (fun w ho => hcs3920 w _ ho (List.sublist_append_left _ _) 0 _ rfl))<|E0 6 rfl (sM rfl)<|E0 7 rfl (sM rfl)<|E0 8 rfl (sM rfl) ?_
 have J := (kS J).2
 refine E0 9 rfl (sa rfl rfl J) ?_
 obtain ⟨j3932, hj3933, hx3934⟩ := iS h3931
 obtain ⟨cs3935, hs3940, P3941, P3942, hq3943, hr3936, hcs3937, hA3938, hlt3939, hb3944, hho3945⟩ := OS.get (sz := 1) rfl (by decide) (f.le i) hx3934
 obtain ⟨rfl, rfl⟩ := hr3936
 refine E0 10 rfl (sI j3932 rfl rfl hj3933 hlt3939 hA3938 sl42)<|Es 11 rfl (st_load_rd rfl one3 (fun w ho => hcs3937 w _ ho (List.sublist_append_left _ _) 0 _ rfl))<|Eo<|Da [12] (by kernel_rfl) rfl ?_
 refine Rd2 lr rfl rfl (uW _ call62 rfl (fun w ho => cCmpLess _ [] x3913 x3930 x3946 hcl3947) (fun _ _ _ h => h.2.symm)) ?_ ?_
 rintro _ _ ⟨⟨_, rfl, _⟩, rfl⟩
 refine ⟨.inl (by kernel_rfl), ?_⟩
 refine El lr<|E0 13 rfl (sn2 rfl)<|Eo<|Dd (by kernel_rfl)<|Xn ?_
 refine Cc _ rfl (fun K => ?_) (fun K => ?_)
 rw [if_neg (fun hh => Bool.noConfusion (hh.symm.trans (nt K)))] at hm
 refine Ct<|Xr<|Xb<|Xr<|Xb ?_
 have hm := congrArg some (Z _ (Option.some.inj hm).symm)
 obtain rfl := o1 hm
 have he3949 := (f.le i)
 exact rM (rs := []) (vs := []) trivial ⟨l, rfl, rfl, he3949, x⟩ (.refl _) (u.trans i)
 rw [if_pos (nf K)] at hm
 refine Ck<|Xn ?_
 obtain ⟨r, hj4101, hk4101⟩ := bS hm
 refine Cj (fun L e' hp' => ∃ (s : Hp), [(0, sv a r c), (2, iv j), (3, iv d), (9, iv B)] = e' ∧ (s ++ R) = hp' ∧ C.Le L ∧ OS 3 (OT.fr rI) L.w (sv a r c) r s ∧ r.length = k.length) ?_ ?_
 have hm := hj4101
 obtain ⟨_, O, hm⟩ := bS hm
 obtain ⟨_, S, hm⟩ := bS hm
 obtain ⟨_, T, hm⟩ := bS hm
 obtain ⟨o, h4178, hm⟩ := bS hm
 obtain ⟨_, U, hm⟩ := bS hm
 obtain ⟨V, h4195, hm⟩ := bS hm
 obtain ⟨x4210, h4211, hm⟩ := bS hm
 obtain ⟨x4228, h4229, hm⟩ := bS hm
 refine Di mixed (.refl _)<|E0 0 rfl (sM rfl)<|E0 1 rfl (sM rfl)<|E0 2 rfl (sM rfl) ?_
 have O := (kS O).2
 refine E0 3 rfl (sa rfl rfl O)<|E0 4 rfl (sM rfl)<|E0 5 rfl (sM rfl)<|E0 6 rfl (sM rfl) ?_
 have S := (kS S).2
 refine E0 7 rfl (sa rfl rfl S)<|E0 8 rfl (sM rfl)<|E0 9 rfl (sM rfl)<|E0 10 rfl (sM rfl) ?_
 have T := (kS T).2
 refine E0 11 rfl (sa rfl rfl T) ?_
 obtain ⟨j4179, hj4180, hx4181⟩ := iS h4178
 obtain ⟨cs4182, hs4187, P4188, P4189, hq4190, hr4183, hcs4184, hA4185, hlt4186, hb4191, hho4192⟩ := OS.get (sz := 1) rfl (by decide) (f.le i) hx4181
 obtain ⟨rfl, rfl⟩ := hr4183
 refine E0 12 rfl (sI j4179 rfl rfl hj4180 hlt4186 hA4185 sl42)<|Es 13 rfl (st_load_rd rfl one3 (fun w ho => hcs4184 w _ ho (List.sublist_append_left _ _) 0 _ rfl))<|E0 14 rfl (sM rfl)<|E0 15 rfl (sM rfl)<|E0 16 rfl (sM rfl) ?_
 have U := (kS U).2
 refine E0 17 rfl (sa rfl rfl U) ?_
 obtain ⟨j4196, hj4197, hx4198⟩ := iS h4195
 obtain ⟨cs4199, hs4204, P4205, P4206, hq4207, hr4200, hcs4201, hA4202, hlt4203, hb4208, hho4209⟩ := OS.get (sz := 1) rfl (by decide) (f.le i) hx4198
 obtain ⟨rfl, rfl⟩ := hr4200
 refine E0 18 rfl (sI j4196 rfl rfl hj4197 hlt4203 hA4202 sl42)<|Es 19 rfl (st_load_rd rfl one3 (fun w ho => hcs4201 w _ ho (List.sublist_append_left _ _) 0 _ rfl)) ?_
 obtain ⟨j4212, ac, ad⟩ := iS h4211
 obtain ⟨cs4215, hs4220, P4221, P4222, hq4223, hr4216, hcs4217, hA4218, hlt4219, hb4224, hho4225⟩ := OS.get (sz := 1) rfl (by decide) (f.le i) ad
 obtain ⟨rfl, rfl⟩ := hr4216
 refine E0 20 rfl (sI j4212 rfl rfl ac hlt4219 hA4218 sl42)<|Eo<|Da [21] (by kernel_rfl) rfl ?_
 refine Rd2 lr rfl rfl (uP ac (sz := 1) (a' := o) rfl [] R 0 1 [iv o] rfl (f.le i) ad rfl rfl rfl siz3 rfl (mc rfl mn) (fun cs hsj hh => by obtain ⟨rfl, rfl⟩ := hh; exact ⟨by first | decide | exact Nat.le_refl _, rfl, rfl⟩)) ?_ ?_
 rintro _ _ ⟨hs4226, rfl, ae⟩
 refine ⟨.inl (by kernel_rfl), ?_⟩
 refine d_resp 0 rfl (v' := .slice a (put e (d + g) o).length c) (by simp only [put_length])<|d_resp 57 rfl (v' := .slice a (put e (d + g) o).length c) (by simp only [put_length]) ?_
 obtain ⟨j4230, af, ag⟩ := iS h4229
 obtain ⟨cs4233, hs4238, P4239, P4240, hq4241, hr4234, hcs4235, hA4236, hlt4237, hb4242, hho4243⟩ := OS.get (sz := 1) rfl (by decide) ae ag
 obtain ⟨rfl, rfl⟩ := hr4234
 refine El lr<|E0 22 rfl (sI j4230 rfl rfl af hlt4237 hA4236 sl42)<|Eo<|Da [23] (by kernel_rfl) rfl ?_
 refine Rd2 lr rfl rfl (uP af (sz := 1) (a' := V) rfl [] R 0 1 [iv V] rfl ae ag rfl rfl rfl siz3 rfl (mc rfl mn) (fun cs hsj hh => by obtain ⟨rfl, rfl⟩ := hh; exact ⟨by first | decide | exact Nat.le_refl _, rfl, rfl⟩)) ?_ ?_
 rintro _ _ ⟨hs4244, rfl, h4245⟩
 refine ⟨.inl (by kernel_rfl), ?_⟩
 refine d_resp 0 rfl (v' := .slice a (put (put e (d + g) o) (d + B) V).length c) (by simp only [put_length])<|Dd (by kernel_rfl) ?_
 obtain rfl := o1 hm
 exact xJ ⟨hs4244, rfl, rfl, lr, h4245, ((put_length _ _ _).trans ((put_length _ _ _).trans x))⟩ (.refl _)
 exact Rn
 exact Rn
 rintro L _ _ ⟨s, rfl, rfl, hle4095, h4098, hln4100⟩
 have hm := hk4101
 refine Cg<|M rfl rfl<|As rfl rfl<|Tn<|Xm ?_
 exact xM hm ⟨s, rfl, rfl, ((u.trans (i.trans hle4095))), h4098, hln4100⟩ (.refl _)
 exact Rn

set_option maxRecDepth 20000 in
theorem cSlicesHeapSortOrdered (b : Base) (R : Hp) (d : Int) (i : Int) (e : (List Int)) (a : OA) (c : Nat) (u : Hp) (h5 : OS 3 (OT.fr rI) b.w (sv a e c) e u) (o : (List Int)) (hm : mSlicesHeapSortOrdered d i e = some o) :
    CallsG Try.prog 57 [sv a e c, iv d, iv i] b ((u ++ R)) (fun v b' hp' => ∃ (L : Hp), .tuple #[] = v ∧ (L ++ R) = hp' ∧ OS 3 (OT.fr rI) b'.w (sv a o c) o L ∧ o.length = e.length) := by
 refine fE 56 Try.func57 rfl Try.ntmps57 rfl ?_
 unfold mSlicesHeapSortOrdered at hm
 refine Cr<|M rfl rfl<|As rfl rfl<|Te<|Cr<|As rfl rfl<|Te<|Cr<|M rfl rfl<|M rfl rfl ?_
 obtain ⟨_, x, hm⟩ := bS hm
 have x := (kS x).2
 refine Ts rfl (sb rfl rfl x)<|As rfl rfl<|Te ?_
 obtain ⟨p, hj1073, hk1073⟩ := bS hm
 refine Cj (fun q e' hp' => ∃ (r : Hp), [(0, sv a p c), (6, iv d), (7, iv 0), (8, iv (i - d))] = e' ∧ (r ++ R) = hp' ∧ b.Le q ∧ OS 3 (OT.fr rI) q.w (sv a p c) p r ∧ p.length = e.length) ?_ ?_
 have hm := hj1073
 refine Cr<|M rfl rfl ?_
 obtain ⟨_, y, hm⟩ := bS hm
 have y := (kS y).2
 refine Ts rfl (sb rfl rfl y) ?_
 obtain ⟨_, h1075, hm⟩ := bS hm
 obtain ⟨_, z, hm⟩ := bS hm
 have z := (kS z).2
 refine Ts rfl (st_quo rfl rfl (ne0_some h1075) z)<|As rfl rfl<|Te<|Cb<|cL (unc2 fun A g => fun B e' hp' => ∃ (h : Hp), [(0, sv a g c), (6, iv d), (7, iv 0), (8, iv (i - d)), (9, iv A)] = e' ∧ (h ++ R) = hp' ∧ b.Le B ∧ OS 3 (OT.fr rI) B.w (sv a g c) g h ∧ g.length = e.length) hm ⟨u, rfl, rfl, lr, h5, rfl⟩ (.refl _) ?_
 rintro ⟨A, g⟩ B _ _ oL1077 ⟨h, rfl, rfl, O, S, T⟩ U houtL1077
 unfold mSlicesHeapSortOrdered_L1077 at U
 have hm := (unc2E U)
 refine Cs<|Cr<|M rfl rfl<|Ts rfl (q6 rfl rfl)<|Te ?_
 refine Cc _ rfl (fun C => ?_) (fun C => ?_)
 rw [if_pos (of_decide_eq_true C)] at hm
 refine Ck<|Xn<|Cs<|Cb<|Cg<|M rfl rfl<|M rfl rfl<|M rfl rfl<|M rfl rfl ?_
 obtain ⟨V, hcl1112, hm⟩ := bS hm
 refine t_out1 [] [] h R rfl<|Tg _ rfl call69 rfl (cSlicesSiftDownOrdered _ _ A (i - d) d g a c h S V hcl1112) ?_
 rintro _ b1113 _ hle1114 ⟨W, rfl, rfl, h1116, X⟩
 refine t_in1 [] [] W R rfl<|Tr 0 rfl (v' := sv a V c) (by show Value.slice _ _ _ = Value.slice _ _ _; rw [X])<|Tn<|Xm<|Xn<|Cg<|M rfl rfl ?_
 obtain ⟨_, D, hm⟩ := bS hm
 have D := (kS D).2
 refine Ts rfl (sb rfl rfl D)<|As rfl rfl<|Tn ?_
 exact xM hm ⟨W, rfl, rfl, ((O.trans hle1114)), h1116, (X.trans T)⟩ (.refl _)
 rw [if_neg (of_decide_eq_false C)] at hm
 refine Ce<|Xe<|Xe<|Xo ?_
 have hm := congrArg some (houtL1077 _ (Option.some.inj hm).symm)
 obtain rfl := o1 hm
 exact xJ ⟨h, rfl, rfl, O, S, T⟩ (.refl _)
 rintro q _ _ ⟨r, rfl, rfl, hle1067, h1070, hln1072⟩
 have hm := hk1073
 refine Cr<|M rfl rfl ?_
 obtain ⟨_, E, hm⟩ := bS hm
 have E := (kS E).2
 refine Ts rfl (sb rfl rfl E)<|As rfl rfl<|Te<|Cb<|cL (unc2 fun j f => fun s e' hp' => ∃ (t : Hp), [(0, sv a f c), (6, iv d), (7, iv 0), (10, iv j)] = e' ∧ (t ++ R) = hp' ∧ q.Le s ∧ OS 3 (OT.fr rI) s.w (sv a f c) f t ∧ f.length = e.length) hm ⟨r, rfl, rfl, lr, h1070, hln1072⟩ (.refl _) ?_
 rintro ⟨j, f⟩ s _ _ oL1120 ⟨t, rfl, rfl, Y, k, Z⟩ aa houtL1120
 unfold mSlicesHeapSortOrdered_L1120 at aa
 have hm := (unc2E aa)
 refine Cs<|Cr<|M rfl rfl<|Ts rfl (q6 rfl rfl)<|Te ?_
 refine Cc _ rfl (fun F => ?_) (fun F => ?_)
 rw [if_pos (of_decide_eq_true F)] at hm
 refine Ck<|Xn<|Cs<|Cb ?_
 obtain ⟨l, hj1877, hk1877⟩ := bS hm
 refine Cj (fun G e' hp' => ∃ (m : Hp), [(0, sv a l c), (6, iv d), (7, iv 0), (10, iv j)] = e' ∧ (m ++ R) = hp' ∧ s.Le G ∧ OS 3 (OT.fr rI) G.w (sv a l c) l m ∧ l.length = e.length) ?_ ?_
 have hm := hj1877
 obtain ⟨_, H, hm⟩ := bS hm
 obtain ⟨_, I, hm⟩ := bS hm
 obtain ⟨n, h1951, hm⟩ := bS hm
 obtain ⟨J, h1967, hm⟩ := bS hm
 obtain ⟨x1982, h1983, hm⟩ := bS hm
 obtain ⟨x2000, h2001, hm⟩ := bS hm
 refine Di mixed (.refl _)<|E0 0 rfl (sM rfl)<|E0 1 rfl (sM rfl)<|E0 2 rfl (sM rfl)<|E0 3 rfl (sM rfl)<|E0 4 rfl (sM rfl) ?_
 have H := (kS H).2
 refine E0 5 rfl (sa rfl rfl H)<|E0 6 rfl (sM rfl)<|E0 7 rfl (sM rfl)<|E0 8 rfl (sM rfl) ?_
 have I := (kS I).2
 refine E0 9 rfl (sa rfl rfl I) ?_
 obtain ⟨j1952, hj1953, hx1954⟩ := iS h1951
 obtain ⟨cs1955, hs1960, P1961, P1962, hq1963, hr1956, hcs1957, hA1958, hlt1959, hb1964, hho1965⟩ := OS.get (sz := 1) rfl (by decide) k hx1954
 obtain ⟨rfl, rfl⟩ := hr1956
 refine E0 10 rfl (sI j1952 rfl rfl hj1953 hlt1959 hA1958 sl42)<|Es 11 rfl (st_load_rd rfl one3 (fun w ho => hcs1957 w _ ho (List.sublist_append_left _ _) 0 _ rfl))<|E0 12 rfl (sM rfl)<|E0 13 rfl (sM rfl) ?_
 obtain ⟨j1968, hj1969, hx1970⟩ := iS h1967
 obtain ⟨cs1971, hs1976, P1977, P1978, hq1979, hr1972, hcs1973, hA1974, hlt1975, hb1980, hho1981⟩ := OS.get (sz := 1) rfl (by decide) k hx1970
 obtain ⟨rfl, rfl⟩ := hr1972
 refine E0 14 rfl (sI j1968 rfl rfl hj1969 hlt1975 hA1974 sl42)<|Es 15 rfl (st_load_rd rfl one3 (fun w ho => hcs1973 w _ ho (List.sublist_append_left _ _) 0 _ rfl)) ?_
 obtain ⟨j1984, ab, ac⟩ := iS h1983
 obtain ⟨cs1987, hs1992, P1993, P1994, hq1995, hr1988, hcs1989, hA1990, hlt1991, hb1996, hho1997⟩ := OS.get (sz := 1) rfl (by decide) k ac
 obtain ⟨rfl, rfl⟩ := hr1988
 refine E0 16 rfl (sI j1984 rfl rfl ab hlt1991 hA1990 sl42)<|Eo<|Da [17] (by kernel_rfl) rfl ?_
 refine Rd2 lr rfl rfl (uP ab (sz := 1) (a' := n) rfl [] R 0 1 [iv n] rfl k ac rfl rfl rfl siz3 rfl (mc rfl mn) (fun cs hsj hh => by obtain ⟨rfl, rfl⟩ := hh; exact ⟨by first | decide | exact Nat.le_refl _, rfl, rfl⟩)) ?_ ?_
 rintro _ _ ⟨hs1998, rfl, ad⟩
 refine ⟨.inl (by kernel_rfl), ?_⟩
 refine d_resp 0 rfl (v' := .slice a (put f d n).length c) (by simp only [put_length])<|d_resp 35 rfl (v' := .slice a (put f d n).length c) (by simp only [put_length]) ?_
 obtain ⟨j2002, ae, af⟩ := iS h2001
 obtain ⟨cs2005, hs2010, P2011, P2012, hq2013, hr2006, hcs2007, hA2008, hlt2009, hb2014, hho2015⟩ := OS.get (sz := 1) rfl (by decide) ad af
 obtain ⟨rfl, rfl⟩ := hr2006
 refine El lr<|E0 18 rfl (sI j2002 rfl rfl ae hlt2009 hA2008 sl42)<|Eo<|Da [19] (by kernel_rfl) rfl ?_
 refine Rd2 lr rfl rfl (uP ae (sz := 1) (a' := J) rfl [] R 0 1 [iv J] rfl ad af rfl rfl rfl siz3 rfl (mc rfl mn) (fun cs hsj hh => by obtain ⟨rfl, rfl⟩ := hh; exact ⟨by first | decide | exact Nat.le_refl _, rfl, rfl⟩)) ?_ ?_
 rintro _ _ ⟨hs2016, rfl, h2017⟩
 refine ⟨.inl (by kernel_rfl), ?_⟩
 refine d_resp 0 rfl (v' := .slice a (put (put f d n) (d + j) J).length c) (by simp only [put_length])<|Dd (by kernel_rfl) ?_
 obtain rfl := o1 hm
 exact xJ ⟨hs2016, rfl, rfl, lr, h2017, ((put_length _ _ _).trans ((put_length _ _ _).trans Z))⟩ (.refl _)
 exact Rn
 exact Rn
 rintro G _ _ ⟨m, rfl, rfl, hle1871, h1874, hln1876⟩
 have hm := hk1877
 refine Cg<|M rfl rfl<|M rfl rfl<|M rfl rfl<|M rfl rfl ?_
 obtain ⟨ag, hcl2019, hm⟩ := bS hm
 refine t_out1 [] [] m R rfl<|Tg _ rfl call69 rfl (cSlicesSiftDownOrdered _ _ 0 j d l a c m h1874 ag hcl2019) ?_
 rintro _ b2020 _ hle2021 ⟨ah, rfl, rfl, h2023, ai⟩
 refine t_in1 [] [] ah R rfl<|Tr 0 rfl (v' := sv a ag c) (by show Value.slice _ _ _ = Value.slice _ _ _; rw [ai])<|Tn<|Xm<|Xn<|Cg<|M rfl rfl ?_
 obtain ⟨_, K, hm⟩ := bS hm
 have K := (kS K).2
 refine Ts rfl (sb rfl rfl K)<|As rfl rfl<|Tn ?_
 exact xM hm ⟨ah, rfl, rfl, ((Y.trans (hle1871.trans hle2021))), h2023, (ai.trans hln1876)⟩ (.refl _)
 rw [if_neg (of_decide_eq_false F)] at hm
 refine Ce<|Xe<|Xe<|Xo ?_
 have hm := congrArg some (houtL1120 _ (Option.some.inj hm).symm)
 obtain rfl := o1 hm
 exact endM (hle1067.trans Y) rfl (.refl _) ⟨t, rfl, rfl, k, Z⟩

set_option maxRecDepth 20000 in
theorem cSlicesOrder2Ordered (b : Base) (R : Hp) (d : (List Int)) (a : Int) (c : Int) (i : Int) (e : Nat) (j : OA) (k : Nat) (l : FZ rI b.w j k d) (m : Int) (n : Int) (o : Int) (hm : mSlicesOrder2Ordered d a c i = some (m, n, o)) :
    CallsG Try.prog 76 [sv j d k, iv a, iv c, pb e] b ((e, Cl 3 [iv i]) :: R) (fun v b' hp' => .tuple #[iv m, iv n] = v ∧ (e, Cl 3 [iv o]) :: R = hp') := by
 refine fE 28 Try.func76 rfl Try.ntmps76 rfl ?_
 unfold mSlicesOrder2Ordered at hm
 refine Cr<|As rfl rfl<|As rfl rfl<|Te<|Cs<|Cs ?_
 obtain ⟨p, q, hm⟩ := bS hm
 obtain ⟨r, s, hm⟩ := bS hm
 obtain ⟨t, u, hm⟩ := bS hm
 refine Di mixed (.refl _)<|E0 0 rfl (sM rfl)<|E0 1 rfl (sM rfl) ?_
 obtain ⟨x, y, z⟩ := iS q
 obtain ⟨L, A, B, C, D⟩ := FZ.get (sz := 1) rfl (by decide) l z
 obtain rfl := A
 refine E0 2 rfl (sI x rfl rfl y D C sl42)<|Es 3 rfl (sO rfl one3 (B 0 _ rfl))<|E0 4 rfl (sM rfl)<|E0 5 rfl (sM rfl) ?_
 obtain ⟨E, F, G⟩ := iS s
 obtain ⟨O, H, I, J, K⟩ := FZ.get (sz := 1) rfl (by decide) l G
 obtain rfl := H
 refine E0 6 rfl (sI E rfl rfl F K J sl42)<|Es 7 rfl (sO rfl one3 (I 0 _ rfl))<|Eo<|Da [8] (by kernel_rfl) rfl ?_
 refine Rd2 lr rfl rfl (uW _ call62 rfl (fun w ho => cCmpLess _ [] p r t u) (fun _ _ _ h => h.2.symm)) ?_ ?_
 rintro _ _ ⟨⟨_, rfl, _⟩, rfl⟩
 refine ⟨.inl (by kernel_rfl), ?_⟩
 refine Dd (by kernel_rfl)<|Xn ?_
 refine Cc _ rfl (fun f => ?_) (fun f => ?_)
 rw [if_pos f] at hm
 refine Cr<|M rfl rfl<|Ts rfl (sN rfl)<|Ts rfl (sL 0 rfl one3 rfl rfl) ?_
 obtain ⟨_, g, hm⟩ := bS hm
 have g := (kS g).2
 refine Ts rfl (sa rfl rfl g)<|Ts rfl (sN rfl)<|Do rfl (uS 0 rfl rfl siz3 rfl rfl (by simp)) ?_
 rintro _ _ rfl
 refine Te<|Cr<|M rfl rfl<|M rfl rfl<|As rfl rfl<|As rfl rfl<|Te<|Ct<|Xr ?_
 obtain ⟨rfl, rfl, rfl⟩ := some3 hm
 exact rM (rs := [.tmp 8, .tmp 9]) (vs := [iv c, iv a]) ⟨rfl, ⟨rfl, trivial⟩⟩ ⟨rfl, rfl⟩ (.refl _) lr
 rw [if_neg (fun hh => Bool.noConfusion (hh.symm.trans f))] at hm
 refine Ck<|Xn<|Cr<|M rfl rfl<|M rfl rfl<|As rfl rfl<|As rfl rfl<|Te<|Ct ?_
 obtain ⟨rfl, rfl, rfl⟩ := some3 hm
 exact rM (rs := [.tmp 8, .tmp 9]) (vs := [iv a, iv c]) ⟨rfl, ⟨rfl, trivial⟩⟩ ⟨rfl, rfl⟩ (.refl _) lr
 exact Rn

set_option maxRecDepth 20000 in
theorem cSlicesMedianOrdered (b : Base) (R : Hp) (a : (List Int)) (f : Int) (g : Int) (h : Int) (i : Int) (c : Nat) (d : OA) (e : Nat) (j : FZ rI b.w d e a) (l : Int) (m : Int) (hm : mSlicesMedianOrdered a f g h i = some (l, m)) :
    CallsG Try.prog 73 [sv d a e, iv f, iv g, iv h, pb c] b ((c, Cl 3 [iv i]) :: R) (fun v b' hp' => iv l = v ∧ (c, Cl 3 [iv m]) :: R = hp') := by
 refine fE 36 Try.func73 rfl Try.ntmps73 rfl ?_
 unfold mSlicesMedianOrdered at hm
 refine Cr<|As rfl rfl<|Te<|Cr<|M rfl rfl<|M rfl rfl<|M rfl rfl<|M rfl rfl ?_
 obtain ⟨⟨n, o, p⟩, u, hm⟩ := bS hm
 have hm := (unc3E hm)
 refine Tg _ rfl call76 rfl (cSlicesOrder2Ordered _ _ a f g i c d e j n o p u) ?_
 rintro _ C _ k ⟨rfl, rfl⟩
 refine M rfl rfl<|Ts rfl (st_extract rfl rfl)<|Ts rfl (st_extract rfl rfl)<|As rfl rfl<|As rfl rfl<|Te<|Cr<|M rfl rfl<|M rfl rfl<|M rfl rfl ?_
 refine M rfl rfl ?_
 obtain ⟨⟨q, w, r⟩, x, hm⟩ := bS hm
 have hm := (unc3E hm)
 refine Tg _ rfl call76 rfl (cSlicesOrder2Ordered _ _ a o h p c d e (j.le k) q w r x) ?_
 rintro _ D _ s ⟨rfl, rfl⟩
 refine M rfl rfl<|Ts rfl (st_extract rfl rfl)<|Ts rfl (st_extract rfl rfl)<|As rfl rfl<|As rfl rfl<|Te<|Cr<|M rfl rfl<|M rfl rfl<|M rfl rfl ?_
 refine M rfl rfl ?_
 obtain ⟨⟨y, t, z⟩, A, hm⟩ := bS hm
 have hm := (unc3E hm)
 refine Tg _ rfl call76 rfl (cSlicesOrder2Ordered _ _ a n q r c d e (j.le (k.trans s)) y t z A) ?_
 rintro _ E _ B ⟨rfl, rfl⟩
 refine M rfl rfl<|Ts rfl (st_extract rfl rfl)<|Ts rfl (st_extract rfl rfl)<|As rfl rfl<|As rfl rfl<|Te<|Cr<|M rfl rfl<|As rfl rfl<|Te ?_
 refine Ct ?_
 obtain ⟨rfl, rfl⟩ := some2 hm
 exact rM (rs := [.tmp 10]) (vs := [iv t]) ⟨rfl, trivial⟩ ⟨rfl, rfl⟩ (.refl _) (k.trans (s.trans B))

set_option maxRecDepth 20000 in
theorem cSlicesMedianAdjacentOrdered (b : Base) (R : Hp) (c : (List Int)) (a : Int) (e : Int) (d : Nat) (f : OA) (g : Nat) (m : FZ rI b.w f g c) (j : Int) (k : Int) (hm : mSlicesMedianAdjacentOrdered c a e = some (j, k)) :
    CallsG Try.prog 72 [sv f c g, iv a, pb d] b ((d, Cl 3 [iv e]) :: R) (fun v b' hp' => iv j = v ∧ (d, Cl 3 [iv k]) :: R = hp') := by
 refine fE 15 Try.func72 rfl Try.ntmps72 rfl ?_
 unfold mSlicesMedianAdjacentOrdered at hm
 refine Cr<|As rfl rfl<|Te<|Cr<|M rfl rfl<|M rfl rfl ?_
 obtain ⟨_, h, hm⟩ := bS hm
 have h := (kS h).2
 refine Ts rfl (sb rfl rfl h)<|M rfl rfl<|M rfl rfl ?_
 obtain ⟨_, i, hm⟩ := bS hm
 have i := (kS i).2
 refine Ts rfl (sa rfl rfl i)<|M rfl rfl ?_
 obtain ⟨⟨l, n⟩, o, hm⟩ := bS hm
 have hm := (unc2E hm)
 refine Tg _ rfl call73 rfl (cSlicesMedianOrdered _ _ c (a - 1) a (a + 1) e d f g m l n o) ?_
 rintro _ q _ p ⟨rfl, rfl⟩
 refine As rfl rfl<|Te<|Ct ?_
 obtain ⟨rfl, rfl⟩ := some2 hm
 exact rM (rs := [.tmp 6]) (vs := [iv l]) ⟨rfl, trivial⟩ ⟨rfl, rfl⟩ (.refl _) p

set_option maxRecDepth 20000 in
theorem cSlicesChoosePivotOrdered (b : Base) (R : Hp) (a : (List Int)) (c : Int) (g : Int) (e : OA) (f : Nat) (h : FZ rI b.w e f a) (A : Int) (B : Int) (hm : mSlicesChoosePivotOrdered a c g = some (A, B)) :
    CallsG Try.prog 59 [sv e a f, iv c, iv g] b (R) (fun v b' hp' => .tuple #[iv A, iv B] = v ∧ R = hp') := by
 refine fE 57 Try.func59 rfl Try.ntmps59 rfl ?_
 unfold mSlicesChoosePivotOrdered at hm
 refine Cr<|As rfl rfl<|As rfl rfl<|Te<|Cr<|M rfl rfl<|M rfl rfl ?_
 obtain ⟨_, j, hm⟩ := bS hm
 have j := (kS j).2
 refine Ts rfl (sb rfl rfl j)<|As rfl rfl<|Te<|Cr<|Do rfl (uA [iv 0] zero3 rfl) ?_
 rintro _ _ ⟨d, rfl, rfl⟩
 refine Te<|Cr<|M rfl rfl<|M rfl rfl ?_
 obtain ⟨_, O, hm⟩ := bS hm
 obtain ⟨_, k, hm⟩ := bS hm
 have k := (kS k).2
 refine Ts rfl (st_quo rfl rfl (ne0_some O) k) ?_
 obtain ⟨_, l, hm⟩ := bS hm
 have l := (kS l).2
 refine Ts rfl (st_mul rfl rfl l) ?_
 obtain ⟨_, m, hm⟩ := bS hm
 have m := (kS m).2
 refine Ts rfl (sa rfl rfl m)<|As rfl rfl<|Te<|Cr<|M rfl rfl<|M rfl rfl ?_
 obtain ⟨_, S, hm⟩ := bS hm
 obtain ⟨_, n, hm⟩ := bS hm
 have n := (kS n).2
 refine Ts rfl (st_quo rfl rfl (ne0_some S) n) ?_
 obtain ⟨_, o, hm⟩ := bS hm
 have o := (kS o).2
 refine Ts rfl (st_mul rfl rfl o) ?_
 obtain ⟨_, p, hm⟩ := bS hm
 have p := (kS p).2
 refine Ts rfl (sa rfl rfl p)<|As rfl rfl<|Te<|Cr<|M rfl rfl<|M rfl rfl ?_
 obtain ⟨_, T, hm⟩ := bS hm
 obtain ⟨_, q, hm⟩ := bS hm
 have q := (kS q).2
 refine Ts rfl (st_quo rfl rfl (ne0_some T) q) ?_
 obtain ⟨_, r, hm⟩ := bS hm
 have r := (kS r).2
 refine Ts rfl (st_mul rfl rfl r) ?_
 obtain ⟨_, s, hm⟩ := bS hm
 have s := (kS s).2
 refine Ts rfl (sa rfl rfl s)<|As rfl rfl<|Te ?_
 obtain ⟨⟨i, U⟩, V, W⟩ := bS hm
 refine Cj (fun C e' hp' => [(9, pb d), (11, iv i)] = e' ∧ (d, Cl 3 [iv U]) :: R = hp' ∧ b.Le C) ?_ ?_
 have hm := V
 refine Cr<|M rfl rfl<|Ts rfl (q6 rfl rfl)<|Te ?_
 refine Cc _ rfl (fun t => ?_) (fun t => ?_)
 rw [if_pos (of_decide_eq_true t)] at hm
 obtain ⟨⟨D, E, F, G⟩, X, Y⟩ := bS hm
 refine Cj (fun H e' hp' => [(0, sv e a f), (9, pb d), (10, iv D), (11, iv E), (12, iv F)] = e' ∧ (d, Cl 3 [iv G]) :: R = hp' ∧ b.Le H) ?_ ?_
 have hm := X
 refine Cr<|M rfl rfl<|Ts rfl (q6 rfl rfl)<|Te ?_
 refine Cc _ rfl (fun u => ?_) (fun u => ?_)
 rw [if_pos (of_decide_eq_true u)] at hm
 refine Cr<|M rfl rfl<|M rfl rfl ?_
 obtain ⟨⟨Z, I⟩, aa, hm⟩ := bS hm
 have hm := (unc2E hm)
 refine Tg _ rfl call72 rfl (cSlicesMedianAdjacentOrdered _ _ a (c + ((Int.tdiv (g - c) 4) * 1)) 0 d e f h Z I aa) ?_
 rintro _ al _ w ⟨rfl, rfl⟩
 refine As rfl rfl<|Te<|Cr<|M rfl rfl<|M rfl rfl ?_
 obtain ⟨⟨ab, J⟩, ac, hm⟩ := bS hm
 have hm := (unc2E hm)
 refine Tg _ rfl call72 rfl (cSlicesMedianAdjacentOrdered _ _ a (c + ((Int.tdiv (g - c) 4) * 2)) I d e f (h.le w) ab J ac) ?_
 rintro _ am _ K ⟨rfl, rfl⟩
 refine As rfl rfl<|Te<|Cg<|M rfl rfl<|M rfl rfl ?_
 obtain ⟨⟨ad, ae⟩, af, hm⟩ := bS hm
 have hm := (unc2E hm)
 refine Tg _ rfl call72 rfl (cSlicesMedianAdjacentOrdered _ _ a (c + ((Int.tdiv (g - c) 4) * 3)) J d e f (h.le (w.trans K)) ad ae af) ?_
 rintro _ an _ ag ⟨rfl, rfl⟩
 refine As rfl rfl<|Tn ?_
 obtain ⟨rfl, rfl, rfl, rfl⟩ := some4 hm
 exact xJ ⟨rfl, rfl, (w.trans (K.trans ag))⟩ (.refl _)
 rw [if_neg (of_decide_eq_false u)] at hm
 refine Ck ?_
 obtain ⟨rfl, rfl, rfl, rfl⟩ := some4 hm
 exact xJ ⟨rfl, rfl, lr⟩ (.refl _)
 rintro H _ _ ⟨rfl, rfl, L⟩
 have hm := (unc4E Y)
 refine Cg<|M rfl rfl<|M rfl rfl<|M rfl rfl<|M rfl rfl ?_
 obtain ⟨⟨ah, ai⟩, aj, hm⟩ := bS hm
 have hm := (unc2E hm)
 refine Tg _ rfl call73 rfl (cSlicesMedianOrdered _ _ a D E F G d e f (h.le L) ah ai aj) ?_
 rintro _ ao _ ak ⟨rfl, rfl⟩
 refine As rfl rfl<|Tn ?_
 obtain ⟨rfl, rfl⟩ := some2 hm
 exact xJ ⟨rfl, rfl, (L.trans ak)⟩ (.refl _)
 rw [if_neg (of_decide_eq_false t)] at hm
 refine Ck ?_
 obtain ⟨rfl, rfl⟩ := some2 hm
 exact xJ ⟨rfl, rfl, lr⟩ (.refl _)
 rintro C _ _ ⟨rfl, rfl, x⟩
 have hm := (unc2E W)
 refine Cr<|Ts rfl (sL 0 rfl one3 rfl rfl)<|Te<|Cb<|Cr<|Ts rfl (q1 rfl rfl)<|As rfl rfl<|Te ?_
 refine Cc _ rfl (fun y => ?_) (fun y => ?_)
 rw [if_pos (of_decide_eq_true y)] at hm
 refine Cr<|M rfl rfl<|As rfl rfl<|As rfl rfl<|Te<|Ct<|Xb ?_
 obtain ⟨rfl, rfl⟩ := some2 hm
 exact rM (rs := [.tmp 6, .tmp 7]) (vs := [iv i, iv 1]) ⟨rfl, ⟨rfl, trivial⟩⟩ ⟨rfl, rfl⟩ (.cons _ (.refl _)) x
 rw [if_neg (of_decide_eq_false y)] at hm
 refine Cr<|Ts rfl (q1 rfl rfl)<|As rfl rfl<|Te ?_
 refine Cc _ rfl (fun z => ?_) (fun z => ?_)
 rw [if_pos (of_decide_eq_true z)] at hm
 refine Cr<|M rfl rfl<|As rfl rfl<|As rfl rfl<|Te<|Ct<|Xb ?_
 obtain ⟨rfl, rfl⟩ := some2 hm
 exact rM (rs := [.tmp 6, .tmp 7]) (vs := [iv i, iv 2]) ⟨rfl, ⟨rfl, trivial⟩⟩ ⟨rfl, rfl⟩ (.cons _ (.refl _)) x
 rw [if_neg (of_decide_eq_false z)] at hm
 refine Cr<|M rfl rfl<|As rfl rfl<|As rfl rfl<|Te<|Ct<|Xb ?_
 obtain ⟨rfl, rfl⟩ := some2 hm
 exact rM (rs := [.tmp 6, .tmp 7]) (vs := [iv i, iv 0]) ⟨rfl, ⟨rfl, trivial⟩⟩ ⟨rfl, rfl⟩ (.cons _ (.refl _)) x

set_option maxRecDepth 20000 in
theorem cSlicesReverseRangeOrdered (b : Base) (R : Hp) (x : Int) (y : Int) (e : (List Int)) (a : OA) (c : Nat) (o : Hp) (I : OS 3 (OT.fr rI) b.w (sv a e c) e o) (i : (List Int)) (hm : mSlicesReverseRangeOrdered x y e = some i) :
    CallsG Try.prog 60 [sv a e c, iv x, iv y] b ((o ++ R)) (fun v b' hp' => ∃ (z : Hp), .tuple #[] = v ∧ (z ++ R) = hp' ∧ OS 3 (OT.fr rI) b'.w (sv a i c) i z ∧ i.length = e.length) := by
 refine fE 32 Try.func60 rfl Try.ntmps60 rfl ?_
 unfold mSlicesReverseRangeOrdered at hm
 refine Cr<|M rfl rfl<|As rfl rfl<|Te<|Cr<|M rfl rfl ?_
 obtain ⟨_, p, hm⟩ := bS hm
 have p := (kS p).2
 refine Ts rfl (sb rfl rfl p)<|As rfl rfl<|Te<|Cb<|cL (unc3 fun f j d => fun k e' hp' => ∃ (l : Hp), [(0, sv a d c), (6, iv f), (7, iv j)] = e' ∧ (l ++ R) = hp' ∧ b.Le k ∧ OS 3 (OT.fr rI) k.w (sv a d c) d l ∧ d.length = e.length) hm ⟨o, rfl, rfl, lr, I, rfl⟩ (.refl _) ?_
 rintro ⟨f, j, d⟩ k _ _ az ⟨l, rfl, rfl, A, g, B⟩ C J
 unfold mSlicesReverseRangeOrdered_L882 at C
 have hm := (unc3E C)
 refine Cs<|Cr<|M rfl rfl<|M rfl rfl<|Ts rfl (q3 rfl rfl)<|Te ?_
 refine Cc _ rfl (fun q => ?_) (fun q => ?_)
 rw [if_pos (of_decide_eq_true q)] at hm
 refine Ck<|Xn<|Cb ?_
 obtain ⟨m, K, L⟩ := bS hm
 refine Cj (fun r e' hp' => ∃ (n : Hp), [(0, sv a m c), (6, iv f), (7, iv j)] = e' ∧ (n ++ R) = hp' ∧ k.Le r ∧ OS 3 (OT.fr rI) r.w (sv a m c) m n ∧ m.length = e.length) ?_ ?_
 have hm := K
 obtain ⟨h, O, hm⟩ := bS hm
 obtain ⟨s, S, hm⟩ := bS hm
 obtain ⟨aA, T, hm⟩ := bS hm
 obtain ⟨aB, U, hm⟩ := bS hm
 refine Di mixed (.refl _)<|E0 0 rfl (sM rfl)<|E0 1 rfl (sM rfl)<|E0 2 rfl (sM rfl)<|E0 3 rfl (sM rfl)<|E0 4 rfl (sM rfl)<|E0 5 rfl (sM rfl) ?_
 obtain ⟨V, W, X⟩ := iS O
 obtain ⟨aC, aD, aE, aF, aG, Y, Z, aa, ab, aH, aI⟩ := OS.get (sz := 1) rfl (by decide) g X
 obtain ⟨rfl, rfl⟩ := Y
 refine E0 6 rfl (sI V rfl rfl W ab aa sl42)<|Es 7 rfl (st_load_rd rfl one3 (fun w ho => Z w _ ho (List.sublist_append_left _ _) 0 _ rfl))<|E0 8 rfl (sM rfl)<|E0 9 rfl (sM rfl) ?_
 obtain ⟨ac, ad, ae⟩ := iS S
 obtain ⟨aJ, aK, aL, aM, aN, af, ag, ah, ai, aO, aP⟩ := OS.get (sz := 1) rfl (by decide) g ae
 obtain ⟨rfl, rfl⟩ := af
 refine E0 10 rfl (sI ac rfl rfl ad ai ah sl42)<|Es 11 rfl (st_load_rd rfl one3 (fun w ho => ag w _ ho (List.sublist_append_left _ _) 0 _ rfl)) ?_
 obtain ⟨aj, D, E⟩ := iS T
 obtain ⟨aQ, aR, aS, aT, aU, ak, aV, al, am, aW, aX⟩ := OS.get (sz := 1) rfl (by decide) g E
 obtain ⟨rfl, rfl⟩ := ak
 refine E0 12 rfl (sI aj rfl rfl D am al sl42)<|Eo<|Da [13] (by kernel_rfl) rfl ?_
 refine Rd2 lr rfl rfl (uP D (sz := 1) (a' := h) rfl [] R 0 1 [iv h] rfl g E rfl rfl rfl siz3 rfl (mc rfl mn) (fun cs hsj hh => by obtain ⟨rfl, rfl⟩ := hh; exact ⟨by first | decide | exact Nat.le_refl _, rfl, rfl⟩)) ?_ ?_
 rintro _ _ ⟨aY, rfl, F⟩
 refine ⟨.inl (by kernel_rfl), ?_⟩
 refine d_resp 0 rfl (v' := .slice a (put d f h).length c) (by simp only [put_length])<|d_resp 16 rfl (v' := .slice a (put d f h).length c) (by simp only [put_length]) ?_
 obtain ⟨an, G, H⟩ := iS U
 obtain ⟨aZ, a0, a1, a2, a3, ao, a4, aq, ar, a5, a6⟩ := OS.get (sz := 1) rfl (by decide) F H
 obtain ⟨rfl, rfl⟩ := ao
 refine El lr<|E0 14 rfl (sI an rfl rfl G ar aq sl42)<|Eo<|Da [15] (by kernel_rfl) rfl ?_
 refine Rd2 lr rfl rfl (uP G (sz := 1) (a' := s) rfl [] R 0 1 [iv s] rfl F H rfl rfl rfl siz3 rfl (mc rfl mn) (fun cs hsj hh => by obtain ⟨rfl, rfl⟩ := hh; exact ⟨by first | decide | exact Nat.le_refl _, rfl, rfl⟩)) ?_ ?_
 rintro _ _ ⟨au, rfl, av⟩
 refine ⟨.inl (by kernel_rfl), ?_⟩
 refine d_resp 0 rfl (v' := .slice a (put (put d f h) j s).length c) (by simp only [put_length])<|Dd (by kernel_rfl) ?_
 obtain rfl := o1 hm
 exact xJ ⟨au, rfl, rfl, lr, av, ((put_length _ _ _).trans ((put_length _ _ _).trans B))⟩ (.refl _)
 exact Rn
 exact Rn
 rintro r _ _ ⟨n, rfl, rfl, aw, ax, ay⟩
 have hm := L
 refine Cr<|M rfl rfl ?_
 obtain ⟨_, t, hm⟩ := bS hm
 have t := (kS t).2
 refine Ts rfl (sa rfl rfl t)<|As rfl rfl<|Te<|Cg<|M rfl rfl ?_
 obtain ⟨_, u, hm⟩ := bS hm
 have u := (kS u).2
 refine Ts rfl (sb rfl rfl u)<|As rfl rfl<|Tn<|Xm ?_
 exact xM hm ⟨n, rfl, rfl, ((A.trans aw)), ax, ay⟩ (.refl _)
 rw [if_neg (of_decide_eq_false q)] at hm
 refine Ce<|Xe<|Xe<|Xo ?_
 have hm := congrArg some (J _ (Option.some.inj hm).symm)
 obtain rfl := o1 hm
 exact endM A rfl (.refl _) ⟨l, rfl, rfl, g, B⟩

set_option maxRecDepth 20000 in
theorem cSlicesPartialInsertionSortOrdered (b : Base) (R : Hp) (i : Int) (d : Int) (e : (List Int)) (a : OA) (c : Nat) (Y : Hp) (h5 : OS 3 (OT.fr rI) b.w (sv a e c) e Y) (aW : Bool) (J : (List Int)) (hm : mSlicesPartialInsertionSortOrdered i d e = some (aW, J)) :
    CallsG Try.prog 61 [sv a e c, iv i, iv d] b ((Y ++ R)) (fun v b' hp' => ∃ (aX : Hp), bv aW = v ∧ (aX ++ R) = hp' ∧ OS 3 (OT.fr rI) b'.w (sv a J c) J aX ∧ J.length = e.length) := by
 refine fE 133 Try.func61 rfl Try.ntmps61 rfl ?_
 unfold mSlicesPartialInsertionSortOrdered at hm
 refine Cr<|As rfl rfl<|Te<|Cr<|M rfl rfl ?_
 obtain ⟨_, Z, hm⟩ := bS hm
 have Z := (kS Z).2
 refine Ts rfl (sa rfl rfl Z)<|As rfl rfl<|Te ?_
 obtain ⟨t57529, hj57528, r⟩ := bS hm
 refine Cj (fun aa e' hp' => ∃ (z : (List Int)), ∃ (K : Hp), [] = e' ∧ (K ++ R) = hp' ∧ b.Le aa ∧ OS 3 (OT.fr rI) aa.w (sv a z c) z K ∧ z.length = e.length ∧ t57529 = .inl z) ?_ ?_
 have hm := hj57528
 refine Cr<|As rfl rfl<|Te<|Cb<|cL (unc3 fun aY k f => fun s e' hp' => ∃ (m : Hp), [(0, sv a f c), (1, iv i), (2, iv d), (7, iv aY), (8, iv k)] = e' ∧ (m ++ R) = hp' ∧ b.Le s ∧ OS 3 (OT.fr rI) s.w (sv a f c) f m ∧ f.length = e.length) hm ⟨Y, rfl, rfl, lr, h5, rfl⟩ (.refl _) ?_
 rintro ⟨aY, k, f⟩ s _ _ oL57530 ⟨m, rfl, rfl, L, n, O⟩ aZ ab
 unfold mSlicesPartialInsertionSortOrdered_L57530 at aZ
 have hm := (unc3E aZ)
 refine Cs<|Cr<|M rfl rfl<|Ts rfl (q3 rfl rfl)<|Te ?_
 refine Cc _ rfl (fun ac => ?_) (fun ac => ?_)
 rw [if_pos (of_decide_eq_true ac)] at hm
 refine Ck<|Xn ?_
 obtain ⟨t73505, hj73504, t⟩ := bS hm
 refine Cj (fun ad e' hp' => ∃ (ae : Int), ∃ (u : (List Int)), ∃ (S : Hp), [(0, sv a u c), (1, iv i), (2, iv d), (7, iv ae), (8, iv k)] = e' ∧ (S ++ R) = hp' ∧ s.Le ad ∧ OS 3 (OT.fr rI) ad.w (sv a u c) u S ∧ u.length = e.length ∧ t73505 = .inl (ae, u)) ?_ ?_
 have hm := hj73504
 refine Cb ?_
 obtain ⟨g, hj73964, hk73964⟩ := bS hm
 refine Cj (fun af e' hp' => [(0, sv a f c), (1, iv i), (2, iv d), (7, iv g), (8, iv k)] = e' ∧ (m ++ R) = hp' ∧ s.Le af) ?_ ?_
 have hm := hj73964
 refine Cb<|cL (fun T => fun ag e' hp' => [(0, sv a f c), (1, iv i), (2, iv d), (7, iv T), (8, iv k)] = e' ∧ (m ++ R) = hp' ∧ s.Le ag) hm ⟨rfl, rfl, lr⟩ (.refl _) ?_
 rintro T ag _ _ oL73965 ⟨rfl, rfl, U⟩ a0 houtL73965
 unfold mSlicesPartialInsertionSortOrdered_L73965 at a0
 have hm := a0
 refine Cs ?_
 obtain ⟨x74344, hj74345, hk74345⟩ := bS hm
 refine Cj (fun a1 e' hp' => [(0, sv a f c), (1, iv i), (2, iv d), (7, iv T), (8, iv k), (32, bv x74344)] = e' ∧ (m ++ R) = hp' ∧ ag.Le a1) ?_ ?_
 have hm := hj74345
 by_cases V : T < d
 rw [if_pos V] at hm
 obtain ⟨x74383, h74384, hm⟩ := bS hm
 obtain ⟨_, ah, hm⟩ := bS hm
 obtain ⟨x74400, h74401, hm⟩ := bS hm
 obtain ⟨x74416, hcl74417, hm⟩ := bS hm
 refine Di mixed (.refl _)<|E0 0 rfl (sM rfl)<|E0 1 rfl (sM rfl)<|E0 2 rfl (lT rfl rfl V)<|E0 3 rfl (sM rfl)<|Yz 4 20 rfl (sM rfl)<|Yz 5 20 rfl (sM rfl) ?_
 obtain ⟨j74385, hj74386, hx74387⟩ := iS h74384
 obtain ⟨cs74388, hs74393, P74394, P74395, hq74396, hr74389, hcs74390, hA74391, hlt74392, hb74397, hho74398⟩ := OS.get (sz := 1) rfl (by decide) (n.le U) hx74387
 obtain ⟨rfl, rfl⟩ := hr74389
 refine Yz 6 20 rfl (sI j74385 rfl rfl hj74386 hlt74392 hA74391 sl42)<|Ey 7 20 rfl (st_load_rd rfl one3 (fun w ho => hcs74390 w _ ho (List.sublist_append_left _ _) 0 _ rfl))<|Yz 8 20 rfl (sM rfl)<|Yz 9 20 rfl (sM rfl) ?_
 have ah := (kS ah).2
 refine Yz 10 20 rfl (sb rfl rfl ah) ?_
 obtain ⟨j74402, hj74403, hx74404⟩ := iS h74401
 obtain ⟨cs74405, hs74410, P74411, P74412, hq74413, hr74406, hcs74407, hA74408, hlt74409, hb74414, hho74415⟩ := OS.get (sz := 1) rfl (by decide) (n.le U) hx74404
 obtain ⟨rfl, rfl⟩ := hr74406
 refine Yz 11 20 rfl (sI j74402 rfl rfl hj74403 hlt74409 hA74408 sl42)<|Ey 12 20 rfl (st_load_rd rfl one3 (fun w ho => hcs74407 w _ ho (List.sublist_append_left _ _) 0 _ rfl))<|Eo<|Da [13] (by kernel_rfl) rfl ?_
 refine R_doY lr rfl rfl 20 rfl rfl rfl (uW _ call62 rfl (fun w ho => cCmpLess _ [] x74383 x74400 x74416 hcl74417) (fun _ _ _ h => h.2.symm)) ?_ ?_
 rintro _ _ ⟨⟨_, rfl, _⟩, rfl⟩
 refine ⟨.inr (.refl _), ?_⟩
 refine Ei lr (.refl _)<|Yz 14 20 rfl (sn2 rfl)<|E0 15 rfl (pT rfl rfl)<|Eo<|Dd (by kernel_rfl) ?_
 obtain rfl := o1 hm
 exact xJ ⟨rfl, rfl, lr⟩ (.refl _)
 exact Rn
 rw [if_neg V] at hm
 refine Di mixed (.refl _)<|E0 0 rfl (sM rfl)<|E0 1 rfl (sM rfl)<|E0 2 rfl (lF rfl rfl V)<|E0 3 rfl (sM rfl)<|En 4 20 rfl rfl rfl<|En 5 20 rfl rfl rfl<|En 6 20 rfl rfl rfl<|En 7 20 rfl rfl rfl<|En 8 20 rfl rfl rfl ?_
 refine En 9 20 rfl rfl rfl<|En 10 20 rfl rfl rfl<|En 11 20 rfl rfl rfl<|En 12 20 rfl rfl rfl<|En 13 20 rfl rfl rfl<|En 14 20 rfl rfl rfl<|E0 15 rfl (pF rfl rfl)<|Eo<|Dd (by kernel_rfl) ?_
 obtain rfl := o1 hm
 exact xJ ⟨rfl, rfl, lr⟩ (.refl _)
 rintro a1 _ _ ⟨rfl, rfl, a2⟩
 have hm := hk74345
 refine Cc _ rfl (fun ai => ?_) (fun ai => ?_)
 rw [if_pos ai] at hm
 refine Ck<|Xn<|Cb<|Cg<|M rfl rfl ?_
 obtain ⟨_, aj, hm⟩ := bS hm
 have aj := (kS aj).2
 refine Ts rfl (sa rfl rfl aj)<|As rfl rfl<|Tn<|Xm ?_
 exact xM hm ⟨rfl, rfl, ((U.trans a2))⟩ (.refl _)
 rw [if_neg (fun hh => Bool.noConfusion (hh.symm.trans ai))] at hm
 refine Ce<|Xe<|Xe<|Xo ?_
 have hm := congrArg some (houtL73965 _ (Option.some.inj hm).symm)
 obtain rfl := o1 hm
 exact xJ ⟨rfl, rfl, (U.trans a2)⟩ (.refl _)
 rintro af _ _ ⟨rfl, rfl, j⟩
 have hm := hk73964
 refine Cs<|Cr<|M rfl rfl<|M rfl rfl<|Ts rfl (q1 rfl rfl)<|Te ?_
 refine Cc _ rfl (fun ak => ?_) (fun ak => ?_)
 rw [if_pos (of_decide_eq_true ak)] at hm
 refine Cr<|As rfl rfl<|Te<|Ct<|Xr<|Xb<|Xr<|Xr<|Xb<|Xr ?_
 have hq74421 := (Option.some.inj hm).symm
 rw [hq74421] at t
 have hm := elimR t
 have hm := congrArg some (ab _ (Option.some.inj hm).symm)
 have hq74422 := (Option.some.inj hm).symm
 rw [hq74422] at r
 have hm := elimR r
 obtain ⟨rfl, rfl⟩ := some2 hm
 have he74423 := (n.le j)
 exact rM (rs := [.tmp 6]) (vs := [bv true]) ⟨rfl, trivial⟩ ⟨m, rfl, rfl, he74423, O⟩ (.refl _) (L.trans j)
 rw [if_neg (of_decide_eq_false ak)] at hm
 refine Ck<|Xn<|Cs<|Cr<|M rfl rfl<|M rfl rfl ?_
 obtain ⟨_, al, hm⟩ := bS hm
 have al := (kS al).2
 refine Ts rfl (sb rfl rfl al)<|Ts rfl (q3 rfl rfl)<|Te ?_
 refine Cc _ rfl (fun am => ?_) (fun am => ?_)
 rw [if_pos (of_decide_eq_true am)] at hm
 refine Cr<|As rfl rfl<|Te<|Ct<|Xr<|Xb<|Xr<|Xr<|Xb<|Xr ?_
 have hq74426 := (Option.some.inj hm).symm
 rw [hq74426] at t
 have hm := elimR t
 have hm := congrArg some (ab _ (Option.some.inj hm).symm)
 have hq74427 := (Option.some.inj hm).symm
 rw [hq74427] at r
 have hm := elimR r
 obtain ⟨rfl, rfl⟩ := some2 hm
 have he74428 := (n.le j)
 exact rM (rs := [.tmp 6]) (vs := [bv false]) ⟨rfl, trivial⟩ ⟨m, rfl, rfl, he74428, O⟩ (.refl _) (L.trans j)
 rw [if_neg (of_decide_eq_false am)] at hm
 refine Ck<|Xn ?_
 obtain ⟨W, hj74576, hk74576⟩ := bS hm
 refine Cj (fun A e' hp' => ∃ (B : Hp), [(0, sv a W c), (1, iv i), (2, iv d), (7, iv g), (8, iv k)] = e' ∧ (B ++ R) = hp' ∧ af.Le A ∧ OS 3 (OT.fr rI) A.w (sv a W c) W B ∧ W.length = e.length) ?_ ?_
 have hm := hj74576
 obtain ⟨_, an, hm⟩ := bS hm
 obtain ⟨_, ao, hm⟩ := bS hm
 obtain ⟨C, h74650, hm⟩ := bS hm
 obtain ⟨aq, h74666, hm⟩ := bS hm
 obtain ⟨x74681, h74682, hm⟩ := bS hm
 obtain ⟨x74699, h74700, hm⟩ := bS hm
 refine Di mixed (.refl _)<|E0 0 rfl (sM rfl)<|E0 1 rfl (sM rfl)<|E0 2 rfl (sM rfl)<|E0 3 rfl (sM rfl) ?_
 have an := (kS an).2
 refine E0 4 rfl (sb rfl rfl an)<|E0 5 rfl (sM rfl)<|E0 6 rfl (sM rfl) ?_
 have ao := (kS ao).2
 refine E0 7 rfl (sb rfl rfl ao) ?_
 obtain ⟨j74651, hj74652, hx74653⟩ := iS h74650
 obtain ⟨cs74654, hs74659, P74660, P74661, hq74662, hr74655, hcs74656, hA74657, hlt74658, hb74663, hho74664⟩ := OS.get (sz := 1) rfl (by decide) (n.le j) hx74653
 obtain ⟨rfl, rfl⟩ := hr74655
 refine E0 8 rfl (sI j74651 rfl rfl hj74652 hlt74658 hA74657 sl42)<|Es 9 rfl (st_load_rd rfl one3 (fun w ho => hcs74656 w _ ho (List.sublist_append_left _ _) 0 _ rfl))<|E0 10 rfl (sM rfl)<|E0 11 rfl (sM rfl) ?_
 obtain ⟨j74667, hj74668, hx74669⟩ := iS h74666
 obtain ⟨cs74670, hs74675, P74676, P74677, hq74678, hr74671, hcs74672, hA74673, hlt74674, hb74679, hho74680⟩ := OS.get (sz := 1) rfl (by decide) (n.le j) hx74669
 obtain ⟨rfl, rfl⟩ := hr74671
 refine E0 12 rfl (sI j74667 rfl rfl hj74668 hlt74674 hA74673 sl42)<|Es 13 rfl (st_load_rd rfl one3 (fun w ho => hcs74672 w _ ho (List.sublist_append_left _ _) 0 _ rfl)) ?_
 obtain ⟨j74683, a3, a4⟩ := iS h74682
 obtain ⟨cs74686, hs74691, P74692, P74693, hq74694, hr74687, hcs74688, hA74689, hlt74690, hb74695, hho74696⟩ := OS.get (sz := 1) rfl (by decide) (n.le j) a4
 obtain ⟨rfl, rfl⟩ := hr74687
 refine E0 14 rfl (sI j74683 rfl rfl a3 hlt74690 hA74689 sl42)<|Eo<|Da [15] (by kernel_rfl) rfl ?_
 refine Rd2 lr rfl rfl (uP a3 (sz := 1) (a' := C) rfl [] R 0 1 [iv C] rfl (n.le j) a4 rfl rfl rfl siz3 rfl (mc rfl mn) (fun cs hsj hh => by obtain ⟨rfl, rfl⟩ := hh; exact ⟨by first | decide | exact Nat.le_refl _, rfl, rfl⟩)) ?_ ?_
 rintro _ _ ⟨hs74697, rfl, a5⟩
 refine ⟨.inl (by kernel_rfl), ?_⟩
 refine d_resp 0 rfl (v' := .slice a (put f g C).length c) (by simp only [put_length])<|d_resp 44 rfl (v' := .slice a (put f g C).length c) (by simp only [put_length]) ?_
 obtain ⟨j74701, a6, a7⟩ := iS h74700
 obtain ⟨cs74704, hs74709, P74710, P74711, hq74712, hr74705, hcs74706, hA74707, hlt74708, hb74713, hho74714⟩ := OS.get (sz := 1) rfl (by decide) a5 a7
 obtain ⟨rfl, rfl⟩ := hr74705
 refine El lr<|E0 16 rfl (sI j74701 rfl rfl a6 hlt74708 hA74707 sl42)<|Eo<|Da [17] (by kernel_rfl) rfl ?_
 refine Rd2 lr rfl rfl (uP a6 (sz := 1) (a' := aq) rfl [] R 0 1 [iv aq] rfl a5 a7 rfl rfl rfl siz3 rfl (mc rfl mn) (fun cs hsj hh => by obtain ⟨rfl, rfl⟩ := hh; exact ⟨by first | decide | exact Nat.le_refl _, rfl, rfl⟩)) ?_ ?_
 rintro _ _ ⟨hs74715, rfl, h74716⟩
 refine ⟨.inl (by kernel_rfl), ?_⟩
 refine d_resp 0 rfl (v' := .slice a (put (put f g C) (g - 1) aq).length c) (by simp only [put_length])<|Dd (by kernel_rfl) ?_
 obtain rfl := o1 hm
 exact xJ ⟨hs74715, rfl, rfl, lr, h74716, ((put_length _ _ _).trans ((put_length _ _ _).trans O))⟩ (.refl _)
 exact Rn
 exact Rn
 rintro A _ _ ⟨B, rfl, rfl, ar, a8, a9⟩
 have hm := hk74576
 obtain ⟨D, hj75381, hk75381⟩ := bS hm
 refine Cj (fun X e' hp' => ∃ (E : Hp), [(0, sv a D c), (1, iv i), (2, iv d), (7, iv g), (8, iv k)] = e' ∧ (E ++ R) = hp' ∧ A.Le X ∧ OS 3 (OT.fr rI) X.w (sv a D c) D E ∧ D.length = e.length) ?_ ?_
 have hm := hj75381
 refine Cr<|M rfl rfl<|M rfl rfl ?_
 obtain ⟨_, au, hm⟩ := bS hm
 have au := (kS au).2
 refine Ts rfl (sb rfl rfl au)<|Ts rfl (q6 rfl rfl)<|Te ?_
 refine Cc _ rfl (fun av => ?_) (fun av => ?_)
 rw [if_pos (of_decide_eq_true av)] at hm
 refine Cr<|M rfl rfl ?_
 obtain ⟨_, aw, hm⟩ := bS hm
 have aw := (kS aw).2
 refine Ts rfl (sb rfl rfl aw)<|As rfl rfl<|Te<|Cb<|cL (unc2 fun x o => fun ax e' hp' => ∃ (F : Hp), [(0, sv a o c), (1, iv i), (2, iv d), (7, iv g), (8, iv k), (9, iv x)] = e' ∧ (F ++ R) = hp' ∧ A.Le ax ∧ OS 3 (OT.fr rI) ax.w (sv a o c) o F ∧ o.length = e.length) hm ⟨B, rfl, rfl, lr, a8, a9⟩ (.refl _) ?_
 rintro ⟨x, o⟩ ax _ _ oL75385 ⟨F, rfl, rfl, ay, p, az⟩ ba bb
 unfold mSlicesPartialInsertionSortOrdered_L75385 at ba
 have hm := (unc2E ba)
 refine Cs<|Cr<|M rfl rfl<|Ts rfl (q6 rfl rfl)<|Te ?_
 refine Cc _ rfl (fun aA => ?_) (fun aA => ?_)
 rw [if_pos (of_decide_eq_true aA)] at hm
 refine Ck<|Xn<|Cs<|Cb<|Cs<|Cs ?_
 obtain ⟨x75862, h75863, hm⟩ := bS hm
 obtain ⟨_, aB, hm⟩ := bS hm
 obtain ⟨x75879, h75880, hm⟩ := bS hm
 obtain ⟨x75895, hcl75896, hm⟩ := bS hm
 refine Di mixed (.refl _)<|E0 0 rfl (sM rfl)<|E0 1 rfl (sM rfl) ?_
 obtain ⟨j75864, hj75865, hx75866⟩ := iS h75863
 obtain ⟨cs75867, hs75872, P75873, P75874, hq75875, hr75868, hcs75869, hA75870, hlt75871, hb75876, hho75877⟩ := OS.get (sz := 1) rfl (by decide) p hx75866
 obtain ⟨rfl, rfl⟩ := hr75868
 refine E0 2 rfl (sI j75864 rfl rfl hj75865 hlt75871 hA75870 sl42)<|Es 3 rfl (st_load_rd rfl one3 (fun w ho => hcs75869 w _ ho (List.sublist_append_left _ _) 0 _ rfl))<|E0 4 rfl (sM rfl)<|E0 5 rfl (sM rfl) ?_
 have aB := (kS aB).2
 refine E0 6 rfl (sb rfl rfl aB) ?_
 obtain ⟨j75881, hj75882, hx75883⟩ := iS h75880
 obtain ⟨cs75884, hs75889, P75890, P75891, hq75892, hr75885, hcs75886, hA75887, hlt75888, hb75893, hho75894⟩ := OS.get (sz := 1) rfl (by decide) p hx75883
 obtain ⟨rfl, rfl⟩ := hr75885
 refine E0 7 rfl (sI j75881 rfl rfl hj75882 hlt75888 hA75887 sl42)<|Es 8 rfl (st_load_rd rfl one3 (fun w ho => hcs75886 w _ ho (List.sublist_append_left _ _) 0 _ rfl))<|Eo<|Da [9] (by kernel_rfl) rfl ?_
 refine Rd2 lr rfl rfl (uW _ call62 rfl (fun w ho => cCmpLess _ [] x75862 x75879 x75895 hcl75896) (fun _ _ _ h => h.2.symm)) ?_ ?_
 rintro _ _ ⟨⟨_, rfl, _⟩, rfl⟩
 refine ⟨.inl (by kernel_rfl), ?_⟩
 refine El lr<|E0 10 rfl (sn2 rfl)<|Eo<|Dd (by kernel_rfl)<|Xn ?_
 refine Cc _ rfl (fun aC => ?_) (fun aC => ?_)
 rw [if_neg (fun hh => Bool.noConfusion (hh.symm.trans (nt aC)))] at hm
 refine Ce<|Xe<|Xi rfl<|Xe<|Xe<|Xo ?_
 have hm := congrArg some (bb _ (Option.some.inj hm).symm)
 obtain rfl := o1 hm
 exact xJ ⟨F, rfl, rfl, ay, p, az⟩ (.refl _)
 rw [if_pos (nf aC)] at hm
 refine Ck<|Xn ?_
 obtain ⟨_, aD, hm⟩ := bS hm
 obtain ⟨_, aE, hm⟩ := bS hm
 obtain ⟨G, h75971, hm⟩ := bS hm
 obtain ⟨aF, h75987, hm⟩ := bS hm
 obtain ⟨x76002, h76003, hm⟩ := bS hm
 obtain ⟨x76020, h76021, hm⟩ := bS hm
 refine Di mixed (.refl _)<|E0 0 rfl (sM rfl)<|E0 1 rfl (sM rfl)<|E0 2 rfl (sM rfl)<|E0 3 rfl (sM rfl) ?_
 have aD := (kS aD).2
 refine E0 4 rfl (sb rfl rfl aD)<|E0 5 rfl (sM rfl)<|E0 6 rfl (sM rfl) ?_
 have aE := (kS aE).2
 refine E0 7 rfl (sb rfl rfl aE) ?_
 obtain ⟨j75972, hj75973, hx75974⟩ := iS h75971
 obtain ⟨cs75975, hs75980, P75981, P75982, hq75983, hr75976, hcs75977, hA75978, hlt75979, hb75984, hho75985⟩ := OS.get (sz := 1) rfl (by decide) p hx75974
 obtain ⟨rfl, rfl⟩ := hr75976
 refine E0 8 rfl (sI j75972 rfl rfl hj75973 hlt75979 hA75978 sl42)<|Es 9 rfl (st_load_rd rfl one3 (fun w ho => hcs75977 w _ ho (List.sublist_append_left _ _) 0 _ rfl))<|E0 10 rfl (sM rfl)<|E0 11 rfl (sM rfl) ?_
 obtain ⟨j75988, hj75989, hx75990⟩ := iS h75987
 obtain ⟨cs75991, hs75996, P75997, P75998, hq75999, hr75992, hcs75993, hA75994, hlt75995, hb76000, hho76001⟩ := OS.get (sz := 1) rfl (by decide) p hx75990
 obtain ⟨rfl, rfl⟩ := hr75992
 refine E0 12 rfl (sI j75988 rfl rfl hj75989 hlt75995 hA75994 sl42)<|Es 13 rfl (st_load_rd rfl one3 (fun w ho => hcs75993 w _ ho (List.sublist_append_left _ _) 0 _ rfl)) ?_
 obtain ⟨j76004, bc, bd⟩ := iS h76003
 obtain ⟨cs76007, hs76012, P76013, P76014, hq76015, hr76008, hcs76009, hA76010, hlt76011, hb76016, hho76017⟩ := OS.get (sz := 1) rfl (by decide) p bd
 obtain ⟨rfl, rfl⟩ := hr76008
 refine E0 14 rfl (sI j76004 rfl rfl bc hlt76011 hA76010 sl42)<|Eo<|Da [15] (by kernel_rfl) rfl ?_
 refine Rd2 lr rfl rfl (uP bc (sz := 1) (a' := G) rfl [] R 0 1 [iv G] rfl p bd rfl rfl rfl siz3 rfl (mc rfl mn) (fun cs hsj hh => by obtain ⟨rfl, rfl⟩ := hh; exact ⟨by first | decide | exact Nat.le_refl _, rfl, rfl⟩)) ?_ ?_
 rintro _ _ ⟨hs76018, rfl, be⟩
 refine ⟨.inl (by kernel_rfl), ?_⟩
 refine d_resp 0 rfl (v' := .slice a (put o x G).length c) (by simp only [put_length])<|d_resp 81 rfl (v' := .slice a (put o x G).length c) (by simp only [put_length]) ?_
 obtain ⟨j76022, bf, bg⟩ := iS h76021
 obtain ⟨cs76025, hs76030, P76031, P76032, hq76033, hr76026, hcs76027, hA76028, hlt76029, hb76034, hho76035⟩ := OS.get (sz := 1) rfl (by decide) be bg
 obtain ⟨rfl, rfl⟩ := hr76026
 refine El lr<|E0 16 rfl (sI j76022 rfl rfl bf hlt76029 hA76028 sl42)<|Eo<|Da [17] (by kernel_rfl) rfl ?_
 refine Rd2 lr rfl rfl (uP bf (sz := 1) (a' := aF) rfl [] R 0 1 [iv aF] rfl be bg rfl rfl rfl siz3 rfl (mc rfl mn) (fun cs hsj hh => by obtain ⟨rfl, rfl⟩ := hh; exact ⟨by first | decide | exact Nat.le_refl _, rfl, rfl⟩)) ?_ ?_
 rintro _ _ ⟨hs76036, rfl, h76037⟩
 refine ⟨.inl (by kernel_rfl), ?_⟩
 refine d_resp 0 rfl (v' := .slice a (put (put o x G) (x - 1) aF).length c) (by simp only [put_length])<|Dd (by kernel_rfl)<|Xm<|Xn<|Cg<|M rfl rfl ?_
 obtain ⟨_, aG, hm⟩ := bS hm
 have aG := (kS aG).2
 refine Ts rfl (sb rfl rfl aG)<|As rfl rfl<|Tn ?_
 exact xM hm ⟨hs76036, rfl, rfl, (ay), h76037, ((put_length _ _ _).trans ((put_length _ _ _).trans az))⟩ (.refl _)
 exact Rn
 exact Rn
 exact Rn
 rw [if_neg (of_decide_eq_false aA)] at hm
 refine Ce<|Xe<|Xe<|Xo ?_
 have hm := congrArg some (bb _ (Option.some.inj hm).symm)
 obtain rfl := o1 hm
 exact xJ ⟨F, rfl, rfl, ay, p, az⟩ (.refl _)
 rw [if_neg (of_decide_eq_false av)] at hm
 refine Ck ?_
 obtain rfl := o1 hm
 exact xJ ⟨B, rfl, rfl, lr, a8, a9⟩ (.refl _)
 rintro X _ _ ⟨E, rfl, rfl, aH, bh, bi⟩
 have hm := hk75381
 refine Cr<|M rfl rfl<|M rfl rfl ?_
 obtain ⟨_, aI, hm⟩ := bS hm
 have aI := (kS aI).2
 refine Ts rfl (sb rfl rfl aI)<|Ts rfl (q6 rfl rfl)<|Te ?_
 refine Cc _ rfl (fun aJ => ?_) (fun aJ => ?_)
 rw [if_pos (of_decide_eq_true aJ)] at hm
 refine Cr<|M rfl rfl ?_
 obtain ⟨_, aK, hm⟩ := bS hm
 have aK := (kS aK).2
 refine Ts rfl (sa rfl rfl aK)<|As rfl rfl<|Te<|Cb<|cL (unc2 fun y l => fun aL e' hp' => ∃ (H : Hp), [(0, sv a l c), (1, iv i), (2, iv d), (7, iv g), (8, iv k), (10, iv y)] = e' ∧ (H ++ R) = hp' ∧ X.Le aL ∧ OS 3 (OT.fr rI) aL.w (sv a l c) l H ∧ l.length = e.length) hm ⟨E, rfl, rfl, lr, bh, bi⟩ (.refl _) ?_
 rintro ⟨y, l⟩ aL _ _ oL76042 ⟨H, rfl, rfl, aM, q, aN⟩ bj bk
 unfold mSlicesPartialInsertionSortOrdered_L76042 at bj
 have hm := (unc2E bj)
 refine Cs<|Cr<|M rfl rfl<|M rfl rfl<|Ts rfl (q3 rfl rfl)<|Te ?_
 refine Cc _ rfl (fun aO => ?_) (fun aO => ?_)
 rw [if_pos (of_decide_eq_true aO)] at hm
 refine Ck<|Xn<|Cs<|Cb<|Cs<|Cs ?_
 obtain ⟨x76519, h76520, hm⟩ := bS hm
 obtain ⟨_, aP, hm⟩ := bS hm
 obtain ⟨x76536, h76537, hm⟩ := bS hm
 obtain ⟨x76552, hcl76553, hm⟩ := bS hm
 refine Di mixed (.refl _)<|E0 0 rfl (sM rfl)<|E0 1 rfl (sM rfl) ?_
 obtain ⟨j76521, hj76522, hx76523⟩ := iS h76520
 obtain ⟨cs76524, hs76529, P76530, P76531, hq76532, hr76525, hcs76526, hA76527, hlt76528, hb76533, hho76534⟩ := OS.get (sz := 1) rfl (by decide) q hx76523
 obtain ⟨rfl, rfl⟩ := hr76525
 refine E0 2 rfl (sI j76521 rfl rfl hj76522 hlt76528 hA76527 sl42)<|Es 3 rfl (st_load_rd rfl one3 (fun w ho => hcs76526 w _ ho (List.sublist_append_left _ _) 0 _ rfl))<|E0 4 rfl (sM rfl)<|E0 5 rfl (sM rfl) ?_
 have aP := (kS aP).2
 refine E0 6 rfl (sb rfl rfl aP) ?_
 obtain ⟨j76538, hj76539, hx76540⟩ := iS h76537
 obtain ⟨cs76541, hs76546, P76547, P76548, hq76549, hr76542, hcs76543, hA76544, hlt76545, hb76550, hho76551⟩ := OS.get (sz := 1) rfl (by decide) q hx76540
 obtain ⟨rfl, rfl⟩ := hr76542
 refine E0 7 rfl (sI j76538 rfl rfl hj76539 hlt76545 hA76544 sl42)<|Es 8 rfl (st_load_rd rfl one3 (fun w ho => hcs76543 w _ ho (List.sublist_append_left _ _) 0 _ rfl))<|Eo<|Da [9] (by kernel_rfl) rfl ?_
 refine Rd2 lr rfl rfl (uW _ call62 rfl (fun w ho => cCmpLess _ [] x76519 x76536 x76552 hcl76553) (fun _ _ _ h => h.2.symm)) ?_ ?_
 rintro _ _ ⟨⟨_, rfl, _⟩, rfl⟩
 refine ⟨.inl (by kernel_rfl), ?_⟩
 refine El lr<|E0 10 rfl (sn2 rfl)<|Eo<|Dd (by kernel_rfl)<|Xn ?_
 refine Cc _ rfl (fun aQ => ?_) (fun aQ => ?_)
 rw [if_neg (fun hh => Bool.noConfusion (hh.symm.trans (nt aQ)))] at hm
 refine Ce<|Xe<|Xi rfl<|Xe<|Xe<|Xo ?_
 have hm := congrArg some (bk _ (Option.some.inj hm).symm)
 refine Xm ?_
 have hq := (Option.some.inj hm).symm
 exact xJ ⟨g, l, H, rfl, rfl, (j.trans (ar.trans (aH.trans aM))), q, aN, hq⟩ (.refl _)
 rw [if_pos (nf aQ)] at hm
 refine Ck<|Xn ?_
 obtain ⟨_, aR, hm⟩ := bS hm
 obtain ⟨_, aS, hm⟩ := bS hm
 obtain ⟨I, h76628, hm⟩ := bS hm
 obtain ⟨aT, h76644, hm⟩ := bS hm
 obtain ⟨x76659, h76660, hm⟩ := bS hm
 obtain ⟨x76677, h76678, hm⟩ := bS hm
 refine Di mixed (.refl _)<|E0 0 rfl (sM rfl)<|E0 1 rfl (sM rfl)<|E0 2 rfl (sM rfl)<|E0 3 rfl (sM rfl) ?_
 have aR := (kS aR).2
 refine E0 4 rfl (sb rfl rfl aR)<|E0 5 rfl (sM rfl)<|E0 6 rfl (sM rfl) ?_
 have aS := (kS aS).2
 refine E0 7 rfl (sb rfl rfl aS) ?_
 obtain ⟨j76629, hj76630, hx76631⟩ := iS h76628
 obtain ⟨cs76632, hs76637, P76638, P76639, hq76640, hr76633, hcs76634, hA76635, hlt76636, hb76641, hho76642⟩ := OS.get (sz := 1) rfl (by decide) q hx76631
 obtain ⟨rfl, rfl⟩ := hr76633
 refine E0 8 rfl (sI j76629 rfl rfl hj76630 hlt76636 hA76635 sl42)<|Es 9 rfl (st_load_rd rfl one3 (fun w ho => hcs76634 w _ ho (List.sublist_append_left _ _) 0 _ rfl))<|E0 10 rfl (sM rfl)<|E0 11 rfl (sM rfl) ?_
 obtain ⟨j76645, hj76646, hx76647⟩ := iS h76644
 obtain ⟨cs76648, hs76653, P76654, P76655, hq76656, hr76649, hcs76650, hA76651, hlt76652, hb76657, hho76658⟩ := OS.get (sz := 1) rfl (by decide) q hx76647
 obtain ⟨rfl, rfl⟩ := hr76649
 refine E0 12 rfl (sI j76645 rfl rfl hj76646 hlt76652 hA76651 sl42)<|Es 13 rfl (st_load_rd rfl one3 (fun w ho => hcs76650 w _ ho (List.sublist_append_left _ _) 0 _ rfl)) ?_
 obtain ⟨j76661, bl, bm⟩ := iS h76660
 obtain ⟨cs76664, hs76669, P76670, P76671, hq76672, hr76665, hcs76666, hA76667, hlt76668, hb76673, hho76674⟩ := OS.get (sz := 1) rfl (by decide) q bm
 obtain ⟨rfl, rfl⟩ := hr76665
 refine E0 14 rfl (sI j76661 rfl rfl bl hlt76668 hA76667 sl42)<|Eo<|Da [15] (by kernel_rfl) rfl ?_
 refine Rd2 lr rfl rfl (uP bl (sz := 1) (a' := I) rfl [] R 0 1 [iv I] rfl q bm rfl rfl rfl siz3 rfl (mc rfl mn) (fun cs hsj hh => by obtain ⟨rfl, rfl⟩ := hh; exact ⟨by first | decide | exact Nat.le_refl _, rfl, rfl⟩)) ?_ ?_
 rintro _ _ ⟨hs76675, rfl, bn⟩
 refine ⟨.inl (by kernel_rfl), ?_⟩
 refine d_resp 0 rfl (v' := .slice a (put l y I).length c) (by simp only [put_length])<|d_resp 119 rfl (v' := .slice a (put l y I).length c) (by simp only [put_length]) ?_
 obtain ⟨j76679, bo, bp⟩ := iS h76678
 obtain ⟨cs76682, hs76687, P76688, P76689, hq76690, hr76683, hcs76684, hA76685, hlt76686, hb76691, hho76692⟩ := OS.get (sz := 1) rfl (by decide) bn bp
 obtain ⟨rfl, rfl⟩ := hr76683
 refine El lr<|E0 16 rfl (sI j76679 rfl rfl bo hlt76686 hA76685 sl42)<|Eo<|Da [17] (by kernel_rfl) rfl ?_
 refine Rd2 lr rfl rfl (uP bo (sz := 1) (a' := aT) rfl [] R 0 1 [iv aT] rfl bn bp rfl rfl rfl siz3 rfl (mc rfl mn) (fun cs hsj hh => by obtain ⟨rfl, rfl⟩ := hh; exact ⟨by first | decide | exact Nat.le_refl _, rfl, rfl⟩)) ?_ ?_
 rintro _ _ ⟨hs76693, rfl, h76694⟩
 refine ⟨.inl (by kernel_rfl), ?_⟩
 refine d_resp 0 rfl (v' := .slice a (put (put l y I) (y - 1) aT).length c) (by simp only [put_length])<|Dd (by kernel_rfl)<|Xm<|Xn<|Cg<|M rfl rfl ?_
 obtain ⟨_, aU, hm⟩ := bS hm
 have aU := (kS aU).2
 refine Ts rfl (sa rfl rfl aU)<|As rfl rfl<|Tn ?_
 exact xM hm ⟨hs76693, rfl, rfl, (aM), h76694, ((put_length _ _ _).trans ((put_length _ _ _).trans aN))⟩ (.refl _)
 exact Rn
 exact Rn
 exact Rn
 rw [if_neg (of_decide_eq_false aO)] at hm
 refine Ce<|Xe<|Xe<|Xo ?_
 have hm := congrArg some (bk _ (Option.some.inj hm).symm)
 refine Xm ?_
 have hq := (Option.some.inj hm).symm
 exact xJ ⟨g, l, H, rfl, rfl, (j.trans (ar.trans (aH.trans aM))), q, aN, hq⟩ (.refl _)
 rw [if_neg (of_decide_eq_false aJ)] at hm
 refine Ck<|Xm ?_
 have hq := (Option.some.inj hm).symm
 exact xJ ⟨g, D, E, rfl, rfl, (j.trans (ar.trans aH)), bh, bi, hq⟩ (.refl _)
 rintro ad _ _ ⟨ae, u, S, rfl, rfl, hle73497, h73500, hln73503, hq76696⟩
 rw [hq76696] at t
 have hm := elimL t
 have hm := (unc2E hm)
 refine Cg<|M rfl rfl ?_
 obtain ⟨_, aV, hm⟩ := bS hm
 have aV := (kS aV).2
 refine Ts rfl (sa rfl rfl aV)<|As rfl rfl<|Tn ?_
 exact xM hm ⟨S, rfl, rfl, ((L.trans hle73497)), h73500, hln73503⟩ (.refl _)
 rw [if_neg (of_decide_eq_false ac)] at hm
 refine Ce<|Xe<|Xe<|Xo ?_
 have hm := congrArg some (ab _ (Option.some.inj hm).symm)
 have hq := (Option.some.inj hm).symm
 exact xJ ⟨f, m, rfl, rfl, L, n, O, hq⟩ (.refl _)
 rintro aa _ _ ⟨z, K, rfl, rfl, hle57522, h57525, hln57527, hq76699⟩
 rw [hq76699] at r
 have hm := elimL r
 refine Cr<|As rfl rfl<|Te<|Ct ?_
 obtain ⟨rfl, rfl⟩ := some2 hm
 exact rM (rs := [.tmp 6]) (vs := [bv false]) ⟨rfl, trivial⟩ ⟨K, rfl, rfl, h57525, hln57527⟩ (.refl _) hle57522

set_option maxRecDepth 20000 in
theorem cSlicesPartitionEqualOrdered (b : Base) (R : Hp) (d : Int) (H : Int) (I : Int) (f : (List Int)) (a : OA) (c : Nat) (ag : Hp) (r : OS 3 (OT.fr rI) b.w (sv a f c) f ag) (ah : Int) (s : (List Int)) (hm : mSlicesPartitionEqualOrdered d H I f = some (ah, s)) :
    CallsG Try.prog 63 [sv a f c, iv d, iv H, iv I] b ((ag ++ R)) (fun v b' hp' => ∃ (ai : Hp), iv ah = v ∧ (ai ++ R) = hp' ∧ OS 3 (OT.fr rI) b'.w (sv a s c) s ai ∧ s.length = f.length) := by
 refine fE 84 Try.func63 rfl Try.ntmps63 rfl ?_
 unfold mSlicesPartitionEqualOrdered at hm
 refine Cr<|As rfl rfl<|Te ?_
 obtain ⟨t, aH, aI⟩ := bS hm
 refine Cj (fun n e' hp' => ∃ (u : Hp), [(0, sv a t c), (1, iv d), (2, iv H)] = e' ∧ (u ++ R) = hp' ∧ b.Le n ∧ OS 3 (OT.fr rI) n.w (sv a t c) t u ∧ t.length = f.length) ?_ ?_
 have hm := aH
 obtain ⟨o, aJ, hm⟩ := bS hm
 obtain ⟨J, aK, hm⟩ := bS hm
 obtain ⟨cN, aL, hm⟩ := bS hm
 obtain ⟨cO, aM, hm⟩ := bS hm
 refine Di mixed (.refl _)<|E0 0 rfl (sM rfl)<|E0 1 rfl (sM rfl)<|E0 2 rfl (sM rfl)<|E0 3 rfl (sM rfl)<|E0 4 rfl (sM rfl)<|E0 5 rfl (sM rfl) ?_
 obtain ⟨aN, aO, aP⟩ := iS aJ
 obtain ⟨cP, cQ, cR, cT, cU, aQ, aR, aS, aT, cV, cW⟩ := OS.get (sz := 1) rfl (by decide) r aP
 obtain ⟨rfl, rfl⟩ := aQ
 refine E0 6 rfl (sI aN rfl rfl aO aT aS sl42)<|Es 7 rfl (st_load_rd rfl one3 (fun w ho => aR w _ ho (List.sublist_append_left _ _) 0 _ rfl))<|E0 8 rfl (sM rfl)<|E0 9 rfl (sM rfl) ?_
 obtain ⟨aU, aV, aW⟩ := iS aK
 obtain ⟨cX, cY, cZ, c0, c1, aX, aY, aZ, a0, c2, c3⟩ := OS.get (sz := 1) rfl (by decide) r aW
 obtain ⟨rfl, rfl⟩ := aX
 refine E0 10 rfl (sI aU rfl rfl aV a0 aZ sl42)<|Es 11 rfl (st_load_rd rfl one3 (fun w ho => aY w _ ho (List.sublist_append_left _ _) 0 _ rfl)) ?_
 obtain ⟨a1, aj, ak⟩ := iS aL
 obtain ⟨c5, c6, c7, c8, c9, a2, da, a3, a4, db, dc⟩ := OS.get (sz := 1) rfl (by decide) r ak
 obtain ⟨rfl, rfl⟩ := a2
 refine E0 12 rfl (sI a1 rfl rfl aj a4 a3 sl42)<|Eo<|Da [13] (by kernel_rfl) rfl ?_
 refine Rd2 lr rfl rfl (uP aj (sz := 1) (a' := o) rfl [] R 0 1 [iv o] rfl r ak rfl rfl rfl siz3 rfl (mc rfl mn) (fun cs hsj hh => by obtain ⟨rfl, rfl⟩ := hh; exact ⟨by first | decide | exact Nat.le_refl _, rfl, rfl⟩)) ?_ ?_
 rintro _ _ ⟨dd, rfl, al⟩
 refine ⟨.inl (by kernel_rfl), ?_⟩
 refine d_resp 0 rfl (v' := .slice a (put f d o).length c) (by simp only [put_length])<|d_resp 13 rfl (v' := .slice a (put f d o).length c) (by simp only [put_length]) ?_
 obtain ⟨a5, am, an⟩ := iS aM
 obtain ⟨de, df, dg, dh, di, a6, dj, a7, a8, dk, dl⟩ := OS.get (sz := 1) rfl (by decide) al an
 obtain ⟨rfl, rfl⟩ := a6
 refine El lr<|E0 14 rfl (sI a5 rfl rfl am a8 a7 sl42)<|Eo<|Da [15] (by kernel_rfl) rfl ?_
 refine Rd2 lr rfl rfl (uP am (sz := 1) (a' := J) rfl [] R 0 1 [iv J] rfl al an rfl rfl rfl siz3 rfl (mc rfl mn) (fun cs hsj hh => by obtain ⟨rfl, rfl⟩ := hh; exact ⟨by first | decide | exact Nat.le_refl _, rfl, rfl⟩)) ?_ ?_
 rintro _ _ ⟨a9, rfl, ba⟩
 refine ⟨.inl (by kernel_rfl), ?_⟩
 refine d_resp 0 rfl (v' := .slice a (put (put f d o) I J).length c) (by simp only [put_length])<|Dd (by kernel_rfl) ?_
 obtain rfl := o1 hm
 exact xJ ⟨a9, rfl, rfl, lr, ba, ((put_length _ _ _).trans ((put_length _ _ _).trans rfl))⟩ (.refl _)
 exact Rn
 exact Rn
 rintro n _ _ ⟨u, rfl, rfl, bb, bc, bd⟩
 have hm := aI
 refine Cr<|M rfl rfl ?_
 obtain ⟨_, K, hm⟩ := bS hm
 have K := (kS K).2
 refine Ts rfl (sa rfl rfl K)<|M rfl rfl ?_
 obtain ⟨_, L, hm⟩ := bS hm
 have L := (kS L).2
 refine Ts rfl (sb rfl rfl L)<|As rfl rfl<|As rfl rfl<|Te ?_
 obtain ⟨⟨ao, O⟩, be, bf⟩ := bS hm
 refine Cj (fun S e' hp' => ∃ (x : Hp), [(9, iv ao)] = e' ∧ (x ++ R) = hp' ∧ n.Le S ∧ OS 3 (OT.fr rI) S.w (sv a O c) O x ∧ O.length = f.length) ?_ ?_
 have hm := be
 refine Cb<|cL (unc3 fun aq m e => fun p e' hp' => ∃ (g : Hp), [(0, sv a e c), (1, iv d), (9, iv aq), (10, iv m)] = e' ∧ (g ++ R) = hp' ∧ n.Le p ∧ OS 3 (OT.fr rI) p.w (sv a e c) e g ∧ e.length = f.length) hm ⟨u, rfl, rfl, lr, bc, bd⟩ (.refl _) ?_
 rintro ⟨aq, m, e⟩ p _ _ dm ⟨g, rfl, rfl, ar, i, au⟩ av bg
 unfold mSlicesPartitionEqualOrdered_L19216 at av
 have hm := (unc3E av)
 refine Cb ?_
 obtain ⟨j, bh, bi⟩ := bS hm
 refine Cj (fun y e' hp' => [(0, sv a e c), (1, iv d), (9, iv j), (10, iv m)] = e' ∧ (g ++ R) = hp' ∧ p.Le y) ?_ ?_
 have hm := bh
 refine Cb<|cL (fun z => fun T e' hp' => [(0, sv a e c), (1, iv d), (9, iv z), (10, iv m)] = e' ∧ (g ++ R) = hp' ∧ p.Le T) hm ⟨rfl, rfl, lr⟩ (.refl _) ?_
 rintro z T _ _ dn ⟨rfl, rfl, A⟩ aw bj
 unfold mSlicesPartitionEqualOrdered_L23806 at aw
 have hm := aw
 refine Cs ?_
 obtain ⟨bk, bl, bm⟩ := bS hm
 refine Cj (fun ax e' hp' => [(0, sv a e c), (1, iv d), (9, iv z), (10, iv m), (43, bv bk)] = e' ∧ (g ++ R) = hp' ∧ T.Le ax) ?_ ?_
 have hm := bl
 by_cases B : z ≤ m
 rw [if_pos B] at hm
 obtain ⟨bn, bo, hm⟩ := bS hm
 obtain ⟨bp, bq, hm⟩ := bS hm
 obtain ⟨br, bs, hm⟩ := bS hm
 refine Di mixed (.refl _)<|E0 0 rfl (sM rfl)<|E0 1 rfl (sM rfl)<|E0 2 rfl (st_leq_t rfl rfl B)<|E0 3 rfl (sM rfl)<|Yz 4 32 rfl (sM rfl)<|Yz 5 32 rfl (sM rfl) ?_
 obtain ⟨bt, bu, bw⟩ := iS bo
 obtain ⟨dp, dq, dr, ds, dt, bx, bz, bA, bB, du, dv⟩ := OS.get (sz := 1) rfl (by decide) (i.le A) bw
 obtain ⟨rfl, rfl⟩ := bx
 refine Yz 6 32 rfl (sI bt rfl rfl bu bB bA sl42)<|Ey 7 32 rfl (st_load_rd rfl one3 (fun w ho => bz w _ ho (List.sublist_append_left _ _) 0 _ rfl))<|Yz 8 32 rfl (sM rfl)<|Yz 9 32 rfl (sM rfl) ?_
 obtain ⟨bC, bD, bE⟩ := iS bq
 obtain ⟨dw, dx, dy, dz, dA, bF, bG, bH, bI, dB, dC⟩ := OS.get (sz := 1) rfl (by decide) (i.le A) bE
 obtain ⟨rfl, rfl⟩ := bF
 refine Yz 10 32 rfl (sI bC rfl rfl bD bI bH sl42)<|Ey 11 32 rfl (st_load_rd rfl one3 (fun w ho => bG w _ ho (List.sublist_append_left _ _) 0 _ rfl))<|Eo<|Da [12] (by kernel_rfl) rfl ?_
 refine R_doY lr rfl rfl 32 rfl rfl rfl (uW _ call62 rfl (fun w ho => cCmpLess _ [] bn bp br bs) (fun _ _ _ h => h.2.symm)) ?_ ?_
 rintro _ _ ⟨⟨_, rfl, _⟩, rfl⟩
 refine ⟨.inr (.refl _), ?_⟩
 refine Ei lr (.refl _)<|Yz 13 32 rfl (sn2 rfl)<|E0 14 rfl (pT rfl rfl)<|Eo<|Dd (by kernel_rfl) ?_
 obtain rfl := o1 hm
 exact xJ ⟨rfl, rfl, lr⟩ (.refl _)
 exact Rn
 rw [if_neg B] at hm
 refine Di mixed (.refl _)<|E0 0 rfl (sM rfl)<|E0 1 rfl (sM rfl)<|E0 2 rfl (st_leq_f rfl rfl B)<|E0 3 rfl (sM rfl)<|En 4 32 rfl rfl rfl<|En 5 32 rfl rfl rfl<|En 6 32 rfl rfl rfl<|En 7 32 rfl rfl rfl<|En 8 32 rfl rfl rfl ?_
 refine En 9 32 rfl rfl rfl<|En 10 32 rfl rfl rfl<|En 11 32 rfl rfl rfl<|En 12 32 rfl rfl rfl<|En 13 32 rfl rfl rfl<|E0 14 rfl (pF rfl rfl)<|Eo<|Dd (by kernel_rfl) ?_
 obtain rfl := o1 hm
 exact xJ ⟨rfl, rfl, lr⟩ (.refl _)
 rintro ax _ _ ⟨rfl, rfl, ay⟩
 have hm := bm
 refine Cc _ rfl (fun U => ?_) (fun U => ?_)
 rw [if_pos U] at hm
 refine Ck<|Xn<|Cb<|Cg<|M rfl rfl ?_
 obtain ⟨_, V, hm⟩ := bS hm
 have V := (kS V).2
 refine Ts rfl (sa rfl rfl V)<|As rfl rfl<|Tn<|Xm ?_
 exact xM hm ⟨rfl, rfl, ((A.trans ay))⟩ (.refl _)
 rw [if_neg (fun hh => Bool.noConfusion (hh.symm.trans U))] at hm
 refine Ce<|Xe<|Xe<|Xo ?_
 have hm := congrArg some (bj _ (Option.some.inj hm).symm)
 obtain rfl := o1 hm
 exact xJ ⟨rfl, rfl, (A.trans ay)⟩ (.refl _)
 rintro y _ _ ⟨rfl, rfl, k⟩
 have hm := bi
 obtain ⟨W, bJ, bK⟩ := bS hm
 refine Cj (fun X e' hp' => [(0, sv a e c), (1, iv d), (9, iv j), (10, iv W)] = e' ∧ (g ++ R) = hp' ∧ y.Le X) ?_ ?_
 have hm := bJ
 refine Cb<|cL (fun C => fun Y e' hp' => [(0, sv a e c), (1, iv d), (9, iv j), (10, iv C)] = e' ∧ (g ++ R) = hp' ∧ y.Le Y) hm ⟨rfl, rfl, lr⟩ (.refl _) ?_
 rintro C Y _ _ dD ⟨rfl, rfl, D⟩ az bL
 unfold mSlicesPartitionEqualOrdered_L24696 at az
 have hm := az
 refine Cs ?_
 obtain ⟨bM, bN, bO⟩ := bS hm
 refine Cj (fun aA e' hp' => [(0, sv a e c), (1, iv d), (9, iv j), (10, iv C), (59, bv bM)] = e' ∧ (g ++ R) = hp' ∧ Y.Le aA) ?_ ?_
 have hm := bN
 by_cases E : j ≤ C
 rw [if_pos E] at hm
 obtain ⟨bP, bQ, hm⟩ := bS hm
 obtain ⟨bR, bT, hm⟩ := bS hm
 obtain ⟨bU, bV, hm⟩ := bS hm
 refine Di mixed (.refl _)<|E0 0 rfl (sM rfl)<|E0 1 rfl (sM rfl)<|E0 2 rfl (st_leq_t rfl rfl E)<|E0 3 rfl (sM rfl)<|Yz 4 49 rfl (sM rfl)<|Yz 5 49 rfl (sM rfl) ?_
 obtain ⟨bW, bX, bY⟩ := iS bQ
 obtain ⟨dE, dF, dG, dH, dI, bZ, b0, b1, b2, dJ, dK⟩ := OS.get (sz := 1) rfl (by decide) (i.le (k.trans D)) bY
 obtain ⟨rfl, rfl⟩ := bZ
 refine Yz 6 49 rfl (sI bW rfl rfl bX b2 b1 sl42)<|Ey 7 49 rfl (st_load_rd rfl one3 (fun w ho => b0 w _ ho (List.sublist_append_left _ _) 0 _ rfl))<|Yz 8 49 rfl (sM rfl)<|Yz 9 49 rfl (sM rfl) ?_
 obtain ⟨b3, b4, b5⟩ := iS bT
 obtain ⟨dL, dM, dN, dO, dP, b6, b7, b8, b9, dQ, dR⟩ := OS.get (sz := 1) rfl (by decide) (i.le (k.trans D)) b5
 obtain ⟨rfl, rfl⟩ := b6
 refine Yz 10 49 rfl (sI b3 rfl rfl b4 b9 b8 sl42)<|Ey 11 49 rfl (st_load_rd rfl one3 (fun w ho => b7 w _ ho (List.sublist_append_left _ _) 0 _ rfl))<|Eo<|Da [12] (by kernel_rfl) rfl ?_
 refine R_doY lr rfl rfl 49 rfl rfl rfl (uW _ call62 rfl (fun w ho => cCmpLess _ [] bP bR bU bV) (fun _ _ _ h => h.2.symm)) ?_ ?_
 rintro _ _ ⟨⟨_, rfl, _⟩, rfl⟩
 refine ⟨.inr (.refl _), ?_⟩
 refine Ei lr (.refl _)<|E0 13 rfl (pT rfl rfl)<|Eo<|Dd (by kernel_rfl) ?_
 obtain rfl := o1 hm
 exact xJ ⟨rfl, rfl, lr⟩ (.refl _)
 exact Rn
 rw [if_neg E] at hm
 refine Di mixed (.refl _)<|E0 0 rfl (sM rfl)<|E0 1 rfl (sM rfl)<|E0 2 rfl (st_leq_f rfl rfl E)<|E0 3 rfl (sM rfl)<|En 4 49 rfl rfl rfl<|En 5 49 rfl rfl rfl<|En 6 49 rfl rfl rfl<|En 7 49 rfl rfl rfl<|En 8 49 rfl rfl rfl ?_
 refine En 9 49 rfl rfl rfl<|En 10 49 rfl rfl rfl<|En 11 49 rfl rfl rfl<|En 12 49 rfl rfl rfl<|E0 13 rfl (pF rfl rfl)<|Eo<|Dd (by kernel_rfl) ?_
 obtain rfl := o1 hm
 exact xJ ⟨rfl, rfl, lr⟩ (.refl _)
 rintro aA _ _ ⟨rfl, rfl, aB⟩
 have hm := bO
 refine Cc _ rfl (fun Z => ?_) (fun Z => ?_)
 rw [if_pos Z] at hm
 refine Ck<|Xn<|Cb<|Cg<|M rfl rfl ?_
 obtain ⟨_, aa, hm⟩ := bS hm
 have aa := (kS aa).2
 refine Ts rfl (sb rfl rfl aa)<|As rfl rfl<|Tn<|Xm ?_
 exact xM hm ⟨rfl, rfl, ((D.trans aB))⟩ (.refl _)
 rw [if_neg (fun hh => Bool.noConfusion (hh.symm.trans Z))] at hm
 refine Ce<|Xe<|Xe<|Xo ?_
 have hm := congrArg some (bL _ (Option.some.inj hm).symm)
 obtain rfl := o1 hm
 exact xJ ⟨rfl, rfl, (D.trans aB)⟩ (.refl _)
 rintro X _ _ ⟨rfl, rfl, l⟩
 have hm := bK
 refine Cs<|Cr<|M rfl rfl<|M rfl rfl<|Ts rfl (q5 rfl rfl)<|Te ?_
 refine Cc _ rfl (fun ab => ?_) (fun ab => ?_)
 rw [if_pos (of_decide_eq_true ab)] at hm
 refine Ce<|Xe<|Xi rfl<|Xe<|Xo ?_
 have hm := congrArg some (bg _ (Option.some.inj hm).symm)
 obtain ⟨rfl, rfl⟩ := some2 hm
 exact xJ ⟨g, rfl, rfl, (ar.trans (k.trans l)), (i.le (k.trans l)), au⟩ (.refl _)
 rw [if_neg (of_decide_eq_false ab)] at hm
 refine Ck<|Xn ?_
 obtain ⟨F, ca, cb⟩ := bS hm
 refine Cj (fun ac e' hp' => ∃ (G : Hp), [(0, sv a F c), (1, iv d), (9, iv j), (10, iv W)] = e' ∧ (G ++ R) = hp' ∧ X.Le ac ∧ OS 3 (OT.fr rI) ac.w (sv a F c) F G ∧ F.length = f.length) ?_ ?_
 have hm := ca
 obtain ⟨q, cc, hm⟩ := bS hm
 obtain ⟨ad, cd, hm⟩ := bS hm
 obtain ⟨dS, ce, hm⟩ := bS hm
 obtain ⟨dT, cf, hm⟩ := bS hm
 refine Di mixed (.refl _)<|E0 0 rfl (sM rfl)<|E0 1 rfl (sM rfl)<|E0 2 rfl (sM rfl)<|E0 3 rfl (sM rfl)<|E0 4 rfl (sM rfl)<|E0 5 rfl (sM rfl) ?_
 obtain ⟨cg, ch, ci⟩ := iS cc
 obtain ⟨dU, dV, dW, dX, dY, cj, ck, cl, cm, dZ, d0⟩ := OS.get (sz := 1) rfl (by decide) (i.le (k.trans l)) ci
 obtain ⟨rfl, rfl⟩ := cj
 refine E0 6 rfl (sI cg rfl rfl ch cm cl sl42)<|Es 7 rfl (st_load_rd rfl one3 (fun w ho => ck w _ ho (List.sublist_append_left _ _) 0 _ rfl))<|E0 8 rfl (sM rfl)<|E0 9 rfl (sM rfl) ?_
 obtain ⟨cn, co, cp⟩ := iS cd
 obtain ⟨d1, d5, d6, d7, d8, cq, cr, ct, cu, d9, ea⟩ := OS.get (sz := 1) rfl (by decide) (i.le (k.trans l)) cp
 obtain ⟨rfl, rfl⟩ := cq
 refine E0 10 rfl (sI cn rfl rfl co cu ct sl42)<|Es 11 rfl (st_load_rd rfl one3 (fun w ho => cr w _ ho (List.sublist_append_left _ _) 0 _ rfl)) ?_
 obtain ⟨cv, aC, aD⟩ := iS ce
 obtain ⟨eb, ec, ed, ee, ef, cw, eg, cx, cy, eh, ei⟩ := OS.get (sz := 1) rfl (by decide) (i.le (k.trans l)) aD
 obtain ⟨rfl, rfl⟩ := cw
 refine E0 12 rfl (sI cv rfl rfl aC cy cx sl42)<|Eo<|Da [13] (by kernel_rfl) rfl ?_
 refine Rd2 lr rfl rfl (uP aC (sz := 1) (a' := q) rfl [] R 0 1 [iv q] rfl (i.le (k.trans l)) aD rfl rfl rfl siz3 rfl (mc rfl mn) (fun cs hsj hh => by obtain ⟨rfl, rfl⟩ := hh; exact ⟨by first | decide | exact Nat.le_refl _, rfl, rfl⟩)) ?_ ?_
 rintro _ _ ⟨ej, rfl, aE⟩
 refine ⟨.inl (by kernel_rfl), ?_⟩
 refine d_resp 0 rfl (v' := .slice a (put e j q).length c) (by simp only [put_length])<|d_resp 67 rfl (v' := .slice a (put e j q).length c) (by simp only [put_length]) ?_
 obtain ⟨cz, aF, aG⟩ := iS cf
 obtain ⟨ek, el, em, en, eo, cA, ep, cB, cC, eq, er⟩ := OS.get (sz := 1) rfl (by decide) aE aG
 obtain ⟨rfl, rfl⟩ := cA
 refine El lr<|E0 14 rfl (sI cz rfl rfl aF cC cB sl42)<|Eo<|Da [15] (by kernel_rfl) rfl ?_
 refine Rd2 lr rfl rfl (uP aF (sz := 1) (a' := ad) rfl [] R 0 1 [iv ad] rfl aE aG rfl rfl rfl siz3 rfl (mc rfl mn) (fun cs hsj hh => by obtain ⟨rfl, rfl⟩ := hh; exact ⟨by first | decide | exact Nat.le_refl _, rfl, rfl⟩)) ?_ ?_
 rintro _ _ ⟨cD, rfl, cE⟩
 refine ⟨.inl (by kernel_rfl), ?_⟩
 refine d_resp 0 rfl (v' := .slice a (put (put e j q) W ad).length c) (by simp only [put_length])<|Dd (by kernel_rfl) ?_
 obtain rfl := o1 hm
 exact xJ ⟨cD, rfl, rfl, lr, cE, ((put_length _ _ _).trans ((put_length _ _ _).trans au))⟩ (.refl _)
 exact Rn
 exact Rn
 rintro ac _ _ ⟨G, rfl, rfl, cG, cH, cI⟩
 have hm := cb
 refine Cr<|M rfl rfl ?_
 obtain ⟨_, ae, hm⟩ := bS hm
 have ae := (kS ae).2
 refine Ts rfl (sa rfl rfl ae)<|As rfl rfl<|Te<|Cg<|M rfl rfl ?_
 obtain ⟨_, af, hm⟩ := bS hm
 have af := (kS af).2
 refine Ts rfl (sb rfl rfl af)<|As rfl rfl<|Tn<|Xm ?_
 exact xM hm ⟨G, rfl, rfl, ((ar.trans (k.trans (l.trans cG)))), cH, cI⟩ (.refl _)
 rintro S _ _ ⟨x, rfl, rfl, cJ, cK, cM⟩
 have hm := (unc2E bf)
 refine Cr<|M rfl rfl<|As rfl rfl<|Te<|Ct ?_
 obtain ⟨rfl, rfl⟩ := some2 hm
 exact rM (rs := [.tmp 8]) (vs := [iv ao]) ⟨rfl, trivial⟩ ⟨x, rfl, rfl, cK, cM⟩ (.refl _) (bb.trans cJ)

set_option maxHeartbeats 1000000 in
set_option maxRecDepth 20000 in
theorem cSlicesPartitionOrdered (b : Base) (R : Hp) (d : Int) (r : Int) (x8 : Int) (e : (List Int)) (a : OA) (c : Nat) (hs2 : Hp) (E : OS 3 (OT.fr rI) b.w (sv a e c) e hs2) (x15339 : Int) (x15340 : Bool) (F : (List Int)) (hm : mSlicesPartitionOrdered d r x8 e = some (x15339, x15340, F)) :
    CallsG Try.prog 64 [sv a e c, iv d, iv r, iv x8] b ((hs2 ++ R)) (fun v b' hp' => ∃ (hs15337 : Hp), .tuple #[iv x15339, bv x15340] = v ∧ (hs15337 ++ R) = hp' ∧ OS 3 (OT.fr rI) b'.w (sv a F c) F hs15337 ∧ F.length = e.length) := by
 refine fE 168 Try.func64 rfl Try.ntmps64 rfl ?_
 unfold mSlicesPartitionOrdered at hm
 refine Cr<|As rfl rfl<|As rfl rfl<|Te ?_
 obtain ⟨f, hj15486, hk15486⟩ := bS hm
 refine Cj (fun x e' hp' => ∃ (m : Hp), [(0, sv a f c), (1, iv d), (2, iv r)] = e' ∧ (m ++ R) = hp' ∧ b.Le x ∧ OS 3 (OT.fr rI) x.w (sv a f c) f m ∧ f.length = e.length) ?_ ?_
 have hm := hj15486
 obtain ⟨y, h15556, hm⟩ := bS hm
 obtain ⟨x15571, h15572, hm⟩ := bS hm
 obtain ⟨x15587, h15588, hm⟩ := bS hm
 obtain ⟨x15605, h15606, hm⟩ := bS hm
 refine Di mixed (.refl _)<|E0 0 rfl (sM rfl)<|E0 1 rfl (sM rfl)<|E0 2 rfl (sM rfl)<|E0 3 rfl (sM rfl)<|E0 4 rfl (sM rfl)<|E0 5 rfl (sM rfl) ?_
 obtain ⟨j15557, hj15558, hx15559⟩ := iS h15556
 obtain ⟨cs15560, hs15565, P15566, P15567, hq15568, hr15561, hcs15562, hA15563, hlt15564, hb15569, hho15570⟩ := OS.get (sz := 1) rfl (by decide) E hx15559
 obtain ⟨rfl, rfl⟩ := hr15561
 refine E0 6 rfl (sI j15557 rfl rfl hj15558 hlt15564 hA15563 sl42)<|Es 7 rfl (st_load_rd rfl one3 (fun w ho => hcs15562 w _ ho (List.sublist_append_left _ _) 0 _ rfl))<|E0 8 rfl (sM rfl)<|E0 9 rfl (sM rfl) ?_
 obtain ⟨j15573, hj15574, hx15575⟩ := iS h15572
 obtain ⟨cs15576, hs15581, P15582, P15583, hq15584, hr15577, hcs15578, hA15579, hlt15580, hb15585, hho15586⟩ := OS.get (sz := 1) rfl (by decide) E hx15575
 obtain ⟨rfl, rfl⟩ := hr15577
 refine E0 10 rfl (sI j15573 rfl rfl hj15574 hlt15580 hA15579 sl42)<|Es 11 rfl (st_load_rd rfl one3 (fun w ho => hcs15578 w _ ho (List.sublist_append_left _ _) 0 _ rfl)) ?_
 obtain ⟨j15589, hj15590, hx15591⟩ := iS h15588
 obtain ⟨cs15592, hs15597, P15598, P15599, hq15600, hr15593, hcs15594, hA15595, hlt15596, hb15601, hho15602⟩ := OS.get (sz := 1) rfl (by decide) E hx15591
 obtain ⟨rfl, rfl⟩ := hr15593
 refine E0 12 rfl (sI j15589 rfl rfl hj15590 hlt15596 hA15595 sl42)<|Eo<|Da [13] (by kernel_rfl) rfl ?_
 refine Rd2 lr rfl rfl (uP hj15590 (sz := 1) (a' := y) rfl [] R 0 1 [iv y] rfl E hx15591 rfl rfl rfl siz3 rfl (mc rfl mn) (fun cs hsj hh => by obtain ⟨rfl, rfl⟩ := hh; exact ⟨by first | decide | exact Nat.le_refl _, rfl, rfl⟩)) ?_ ?_
 rintro _ _ ⟨hs15603, rfl, h15604⟩
 refine ⟨.inl (by kernel_rfl), ?_⟩
 refine d_resp 0 rfl (v' := .slice a (put e d y).length c) (by simp only [put_length])<|d_resp 14 rfl (v' := .slice a (put e d y).length c) (by simp only [put_length]) ?_
 obtain ⟨j15607, hj15608, hx15609⟩ := iS h15606
 obtain ⟨cs15610, hs15615, P15616, P15617, hq15618, hr15611, hcs15612, hA15613, hlt15614, hb15619, hho15620⟩ := OS.get (sz := 1) rfl (by decide) h15604 hx15609
 obtain ⟨rfl, rfl⟩ := hr15611
 refine El lr<|E0 14 rfl (sI j15607 rfl rfl hj15608 hlt15614 hA15613 sl42)<|Eo<|Da [15] (by kernel_rfl) rfl ?_
 refine Rd2 lr rfl rfl (uP hj15608 (sz := 1) (a' := x15571) rfl [] R 0 1 [iv x15571] rfl h15604 hx15609 rfl rfl rfl siz3 rfl (mc rfl mn) (fun cs hsj hh => by obtain ⟨rfl, rfl⟩ := hh; exact ⟨by first | decide | exact Nat.le_refl _, rfl, rfl⟩)) ?_ ?_
 rintro _ _ ⟨hs15621, rfl, h15622⟩
 refine ⟨.inl (by kernel_rfl), ?_⟩
 refine d_resp 0 rfl (v' := .slice a (put (put e d y) x8 x15571).length c) (by simp only [put_length])<|Dd (by kernel_rfl) ?_
 obtain rfl := o1 hm
 exact xJ ⟨hs15621, rfl, rfl, lr, h15622, ((put_length _ _ _).trans ((put_length _ _ _).trans rfl))⟩ (.refl _)
 exact Rn
 exact Rn
 rintro x _ _ ⟨m, rfl, rfl, hle15480, i, hln15485⟩
 have hm := hk15486
 refine Cr<|M rfl rfl ?_
 obtain ⟨_, h15623, hm⟩ := bS hm
 have h15623 := (kS h15623).2
 refine Ts rfl (sa rfl rfl h15623)<|M rfl rfl ?_
 obtain ⟨_, h15624, hm⟩ := bS hm
 have h15624 := (kS h15624).2
 refine Ts rfl (sb rfl rfl h15624)<|As rfl rfl<|As rfl rfl<|Te ?_
 obtain ⟨n, hj16071, hk16071⟩ := bS hm
 refine Cj (fun G e' hp' => [(0, sv a f c), (1, iv d), (10, iv n), (11, iv (r - 1))] = e' ∧ (m ++ R) = hp' ∧ x.Le G) ?_ ?_
 have hm := hj16071
 refine Cb<|cL (fun H => fun b16366 e' hp' => [(0, sv a f c), (1, iv d), (10, iv H), (11, iv (r - 1))] = e' ∧ (m ++ R) = hp' ∧ x.Le b16366) hm ⟨rfl, rfl, lr⟩ (.refl _) ?_
 rintro H b16366 _ _ oL16072 ⟨rfl, rfl, I⟩ hstepL16072 houtL16072
 unfold mSlicesPartitionOrdered_L16072 at hstepL16072
 have hm := hstepL16072
 refine Cs ?_
 obtain ⟨x16441, hj16442, hk16442⟩ := bS hm
 refine Cj (fun b16439 e' hp' => [(0, sv a f c), (1, iv d), (10, iv H), (11, iv (r - 1)), (43, bv x16441)] = e' ∧ (m ++ R) = hp' ∧ b16366.Le b16439) ?_ ?_
 have hm := hj16442
 by_cases J : H ≤ (r - 1)
 rw [if_pos J] at hm
 obtain ⟨x16479, h16480, hm⟩ := bS hm
 obtain ⟨x16495, h16496, hm⟩ := bS hm
 obtain ⟨x16511, hcl16512, hm⟩ := bS hm
 refine Di mixed (.refl _)<|E0 0 rfl (sM rfl)<|E0 1 rfl (sM rfl)<|E0 2 rfl (st_leq_t rfl rfl J)<|E0 3 rfl (sM rfl)<|Yz 4 33 rfl (sM rfl)<|Yz 5 33 rfl (sM rfl) ?_
 obtain ⟨j16481, hj16482, hx16483⟩ := iS h16480
 obtain ⟨cs16484, hs16489, P16490, P16491, hq16492, hr16485, hcs16486, hA16487, hlt16488, hb16493, hho16494⟩ := OS.get (sz := 1) rfl (by decide) (i.le I) hx16483
 obtain ⟨rfl, rfl⟩ := hr16485
 refine Yz 6 33 rfl (sI j16481 rfl rfl hj16482 hlt16488 hA16487 sl42)<|Ey 7 33 rfl (st_load_rd rfl one3 (fun w ho => hcs16486 w _ ho (List.sublist_append_left _ _) 0 _ rfl))<|Yz 8 33 rfl (sM rfl)<|Yz 9 33 rfl (sM rfl) ?_
 obtain ⟨j16497, hj16498, hx16499⟩ := iS h16496
 obtain ⟨cs16500, hs16505, P16506, P16507, hq16508, hr16501, hcs16502, hA16503, hlt16504, hb16509, hho16510⟩ := OS.get (sz := 1) rfl (by decide) (i.le I) hx16499
 obtain ⟨rfl, rfl⟩ := hr16501
 refine Yz 10 33 rfl (sI j16497 rfl rfl hj16498 hlt16504 hA16503 sl42)<|Ey 11 33 rfl (st_load_rd rfl one3 (fun w ho => hcs16502 w _ ho (List.sublist_append_left _ _) 0 _ rfl))<|Eo<|Da [12] (by kernel_rfl) rfl ?_
 refine R_doY lr rfl rfl 33 rfl rfl rfl (uW _ call62 rfl (fun w ho => cCmpLess _ [] x16479 x16495 x16511 hcl16512) (fun _ _ _ h => h.2.symm)) ?_ ?_
 rintro _ _ ⟨⟨_, rfl, _⟩, rfl⟩
 refine ⟨.inr (.refl _), ?_⟩
 refine Ei lr (.refl _)<|E0 13 rfl (pT rfl rfl)<|Eo<|Dd (by kernel_rfl) ?_
 obtain rfl := o1 hm
 exact xJ ⟨rfl, rfl, lr⟩ (.refl _)
 exact Rn
 rw [if_neg J] at hm
 refine Di mixed (.refl _)<|E0 0 rfl (sM rfl)<|E0 1 rfl (sM rfl)<|E0 2 rfl (st_leq_f rfl rfl J)<|E0 3 rfl (sM rfl)<|En 4 33 rfl rfl rfl<|En 5 33 rfl rfl rfl<|En 6 33 rfl rfl rfl<|En 7 33 rfl rfl rfl<|En 8 33 rfl rfl rfl ?_
 refine En 9 33 rfl rfl rfl<|En 10 33 rfl rfl rfl<|En 11 33 rfl rfl rfl<|En 12 33 rfl rfl rfl<|E0 13 rfl (pF rfl rfl)<|Eo<|Dd (by kernel_rfl) ?_
 obtain rfl := o1 hm
 exact xJ ⟨rfl, rfl, lr⟩ (.refl _)
 rintro b16439 _ _ ⟨rfl, rfl, hle16440⟩
 have hm := hk16442
 refine Cc _ rfl (fun hc16513 => ?_) (fun hc16513 => ?_)
 rw [if_pos hc16513] at hm
 refine Ck<|Xn<|Cb<|Cg<|M rfl rfl ?_
 obtain ⟨_, h16514, hm⟩ := bS hm
 have h16514 := (kS h16514).2
 refine Ts rfl (sa rfl rfl h16514)<|As rfl rfl<|Tn<|Xm ?_
 exact xM hm ⟨rfl, rfl, ((I.trans hle16440))⟩ (.refl _)
 rw [if_neg (fun hh => Bool.noConfusion (hh.symm.trans hc16513))] at hm
 refine Ce<|Xe<|Xe<|Xo ?_
 have hm := congrArg some (houtL16072 _ (Option.some.inj hm).symm)
 obtain rfl := o1 hm
 exact xJ ⟨rfl, rfl, (I.trans hle16440)⟩ (.refl _)
 rintro G _ _ ⟨rfl, rfl, j⟩
 have hm := hk16071
 obtain ⟨t, hj16961, hk16961⟩ := bS hm
 refine Cj (fun K e' hp' => [(0, sv a f c), (1, iv d), (10, iv n), (11, iv t)] = e' ∧ (m ++ R) = hp' ∧ G.Le K) ?_ ?_
 have hm := hj16961
 refine Cb<|cL (fun L => fun b17256 e' hp' => [(0, sv a f c), (1, iv d), (10, iv n), (11, iv L)] = e' ∧ (m ++ R) = hp' ∧ G.Le b17256) hm ⟨rfl, rfl, lr⟩ (.refl _) ?_
 rintro L b17256 _ _ oL16962 ⟨rfl, rfl, O⟩ hstepL16962 houtL16962
 unfold mSlicesPartitionOrdered_L16962 at hstepL16962
 have hm := hstepL16962
 refine Cs ?_
 obtain ⟨x17331, hj17332, hk17332⟩ := bS hm
 refine Cj (fun b17329 e' hp' => [(0, sv a f c), (1, iv d), (10, iv n), (11, iv L), (60, bv x17331)] = e' ∧ (m ++ R) = hp' ∧ b17256.Le b17329) ?_ ?_
 have hm := hj17332
 by_cases S : n ≤ L
 rw [if_pos S] at hm
 obtain ⟨x17369, h17370, hm⟩ := bS hm
 obtain ⟨x17385, h17386, hm⟩ := bS hm
 obtain ⟨x17401, hcl17402, hm⟩ := bS hm
 refine Di mixed (.refl _)<|E0 0 rfl (sM rfl)<|E0 1 rfl (sM rfl)<|E0 2 rfl (st_leq_t rfl rfl S)<|E0 3 rfl (sM rfl)<|Yz 4 49 rfl (sM rfl)<|Yz 5 49 rfl (sM rfl) ?_
 obtain ⟨j17371, hj17372, hx17373⟩ := iS h17370
 obtain ⟨cs17374, hs17379, P17380, P17381, hq17382, hr17375, hcs17376, hA17377, hlt17378, hb17383, hho17384⟩ := OS.get (sz := 1) rfl (by decide) (i.le (j.trans O)) hx17373
 obtain ⟨rfl, rfl⟩ := hr17375
 refine Yz 6 49 rfl (sI j17371 rfl rfl hj17372 hlt17378 hA17377 sl42)<|Ey 7 49 rfl (st_load_rd rfl one3 (fun w ho => hcs17376 w _ ho (List.sublist_append_left _ _) 0 _ rfl))<|Yz 8 49 rfl (sM rfl)<|Yz 9 49 rfl (sM rfl) ?_
 obtain ⟨j17387, hj17388, hx17389⟩ := iS h17386
 obtain ⟨cs17390, hs17395, P17396, P17397, hq17398, hr17391, hcs17392, hA17393, hlt17394, hb17399, hho17400⟩ := OS.get (sz := 1) rfl (by decide) (i.le (j.trans O)) hx17389
 obtain ⟨rfl, rfl⟩ := hr17391
 refine Yz 10 49 rfl (sI j17387 rfl rfl hj17388 hlt17394 hA17393 sl42)<|Ey 11 49 rfl (st_load_rd rfl one3 (fun w ho => hcs17392 w _ ho (List.sublist_append_left _ _) 0 _ rfl))<|Eo<|Da [12] (by kernel_rfl) rfl ?_
 refine R_doY lr rfl rfl 49 rfl rfl rfl (uW _ call62 rfl (fun w ho => cCmpLess _ [] x17369 x17385 x17401 hcl17402) (fun _ _ _ h => h.2.symm)) ?_ ?_
 rintro _ _ ⟨⟨_, rfl, _⟩, rfl⟩
 refine ⟨.inr (.refl _), ?_⟩
 refine Ei lr (.refl _)<|Yz 13 49 rfl (sn2 rfl)<|E0 14 rfl (pT rfl rfl)<|Eo<|Dd (by kernel_rfl) ?_
 obtain rfl := o1 hm
 exact xJ ⟨rfl, rfl, lr⟩ (.refl _)
 exact Rn
 rw [if_neg S] at hm
 refine Di mixed (.refl _)<|E0 0 rfl (sM rfl)<|E0 1 rfl (sM rfl)<|E0 2 rfl (st_leq_f rfl rfl S)<|E0 3 rfl (sM rfl)<|En 4 49 rfl rfl rfl<|En 5 49 rfl rfl rfl<|En 6 49 rfl rfl rfl<|En 7 49 rfl rfl rfl<|En 8 49 rfl rfl rfl ?_
 refine En 9 49 rfl rfl rfl<|En 10 49 rfl rfl rfl<|En 11 49 rfl rfl rfl<|En 12 49 rfl rfl rfl<|En 13 49 rfl rfl rfl<|E0 14 rfl (pF rfl rfl)<|Eo<|Dd (by kernel_rfl) ?_
 obtain rfl := o1 hm
 exact xJ ⟨rfl, rfl, lr⟩ (.refl _)
 rintro b17329 _ _ ⟨rfl, rfl, hle17330⟩
 have hm := hk17332
 refine Cc _ rfl (fun hc17403 => ?_) (fun hc17403 => ?_)
 rw [if_pos hc17403] at hm
 refine Ck<|Xn<|Cb<|Cg<|M rfl rfl ?_
 obtain ⟨_, h17404, hm⟩ := bS hm
 have h17404 := (kS h17404).2
 refine Ts rfl (sb rfl rfl h17404)<|As rfl rfl<|Tn<|Xm ?_
 exact xM hm ⟨rfl, rfl, ((O.trans hle17330))⟩ (.refl _)
 rw [if_neg (fun hh => Bool.noConfusion (hh.symm.trans hc17403))] at hm
 refine Ce<|Xe<|Xe<|Xo ?_
 have hm := congrArg some (houtL16962 _ (Option.some.inj hm).symm)
 obtain rfl := o1 hm
 exact xJ ⟨rfl, rfl, (O.trans hle17330)⟩ (.refl _)
 rintro K _ _ ⟨rfl, rfl, k⟩
 have hm := hk16961
 refine Cs<|Cr<|M rfl rfl<|M rfl rfl<|Ts rfl (q5 rfl rfl)<|Te ?_
 refine Cc _ rfl (fun hc17405 => ?_) (fun hc17405 => ?_)
 rw [if_pos (of_decide_eq_true hc17405)] at hm
 obtain ⟨l17547, hj17549, hk17549⟩ := bS hm
 refine Cj (fun b17542 e' hp' => ∃ (T : Hp), [(11, iv t)] = e' ∧ (T ++ R) = hp' ∧ K.Le b17542 ∧ OS 3 (OT.fr rI) b17542.w (sv a l17547 c) l17547 T ∧ l17547.length = e.length) ?_ ?_
 have hm := hj17549
 obtain ⟨x17618, h17619, hm⟩ := bS hm
 obtain ⟨x17634, h17635, hm⟩ := bS hm
 obtain ⟨x17650, h17651, hm⟩ := bS hm
 obtain ⟨x17668, h17669, hm⟩ := bS hm
 refine Di mixed (.refl _)<|E0 0 rfl (sM rfl)<|E0 1 rfl (sM rfl)<|E0 2 rfl (sM rfl)<|E0 3 rfl (sM rfl)<|E0 4 rfl (sM rfl)<|E0 5 rfl (sM rfl) ?_
 obtain ⟨j17620, hj17621, hx17622⟩ := iS h17619
 obtain ⟨cs17623, hs17628, P17629, P17630, hq17631, hr17624, hcs17625, hA17626, hlt17627, hb17632, hho17633⟩ := OS.get (sz := 1) rfl (by decide) (i.le (j.trans k)) hx17622
 obtain ⟨rfl, rfl⟩ := hr17624
 refine E0 6 rfl (sI j17620 rfl rfl hj17621 hlt17627 hA17626 sl42)<|Es 7 rfl (st_load_rd rfl one3 (fun w ho => hcs17625 w _ ho (List.sublist_append_left _ _) 0 _ rfl))<|E0 8 rfl (sM rfl)<|E0 9 rfl (sM rfl) ?_
 obtain ⟨j17636, hj17637, hx17638⟩ := iS h17635
 obtain ⟨cs17639, hs17644, P17645, P17646, hq17647, hr17640, hcs17641, hA17642, hlt17643, hb17648, hho17649⟩ := OS.get (sz := 1) rfl (by decide) (i.le (j.trans k)) hx17638
 obtain ⟨rfl, rfl⟩ := hr17640
 refine E0 10 rfl (sI j17636 rfl rfl hj17637 hlt17643 hA17642 sl42)<|Es 11 rfl (st_load_rd rfl one3 (fun w ho => hcs17641 w _ ho (List.sublist_append_left _ _) 0 _ rfl)) ?_
 obtain ⟨j17652, hj17653, hx17654⟩ := iS h17651
 obtain ⟨cs17655, hs17660, P17661, P17662, hq17663, hr17656, hcs17657, hA17658, hlt17659, hb17664, hho17665⟩ := OS.get (sz := 1) rfl (by decide) (i.le (j.trans k)) hx17654
 obtain ⟨rfl, rfl⟩ := hr17656
 refine E0 12 rfl (sI j17652 rfl rfl hj17653 hlt17659 hA17658 sl42)<|Eo<|Da [13] (by kernel_rfl) rfl ?_
 refine Rd2 lr rfl rfl (uP hj17653 (sz := 1) (a' := x17618) rfl [] R 0 1 [iv x17618] rfl (i.le (j.trans k)) hx17654 rfl rfl rfl siz3 rfl (mc rfl mn) (fun cs hsj hh => by obtain ⟨rfl, rfl⟩ := hh; exact ⟨by first | decide | exact Nat.le_refl _, rfl, rfl⟩)) ?_ ?_
 rintro _ _ ⟨hs17666, rfl, h17667⟩
 refine ⟨.inl (by kernel_rfl), ?_⟩
 refine d_resp 68 rfl (v' := .slice a (put f t x17618).length c) (by simp only [put_length]) ?_
 obtain ⟨j17670, hj17671, hx17672⟩ := iS h17669
 obtain ⟨cs17673, hs17678, P17679, P17680, hq17681, hr17674, hcs17675, hA17676, hlt17677, hb17682, hho17683⟩ := OS.get (sz := 1) rfl (by decide) h17667 hx17672
 obtain ⟨rfl, rfl⟩ := hr17674
 refine El lr<|E0 14 rfl (sI j17670 rfl rfl hj17671 hlt17677 hA17676 sl42)<|Eo<|Da [15] (by kernel_rfl) rfl ?_
 refine Rd2 lr rfl rfl (uP hj17671 (sz := 1) (a' := x17634) rfl [] R 0 1 [iv x17634] rfl h17667 hx17672 rfl rfl rfl siz3 rfl (mc rfl mn) (fun cs hsj hh => by obtain ⟨rfl, rfl⟩ := hh; exact ⟨by first | decide | exact Nat.le_refl _, rfl, rfl⟩)) ?_ ?_
 rintro _ _ ⟨hs17684, rfl, h17685⟩
 refine ⟨.inl (by kernel_rfl), ?_⟩
 refine Dd (by kernel_rfl) ?_
 obtain rfl := o1 hm
 exact xJ ⟨hs17684, rfl, rfl, lr, h17685, ((put_length _ _ _).trans ((put_length _ _ _).trans hln15485))⟩ (.refl _)
 exact Rn
 exact Rn
 rintro b17542 _ _ ⟨T, rfl, rfl, hle17543, h17546, hln17548⟩
 have hm := hk17549
 refine Cr<|M rfl rfl<|As rfl rfl<|As rfl rfl<|Te<|Ct<|Xr ?_
 obtain ⟨rfl, rfl, rfl⟩ := some3 hm
 exact rM (rs := [.tmp 8, .tmp 9]) (vs := [iv t, bv true]) ⟨rfl, ⟨rfl, trivial⟩⟩ ⟨T, rfl, rfl, h17546, hln17548⟩ (.refl _) (hle15480.trans (j.trans (k.trans hle17543)))
 rw [if_neg (of_decide_eq_false hc17405)] at hm
 refine Ck<|Xn ?_
 obtain ⟨U, hj17829, hk17829⟩ := bS hm
 refine Cj (fun z e' hp' => ∃ (V : Hp), [(0, sv a U c), (1, iv d), (10, iv n), (11, iv t)] = e' ∧ (V ++ R) = hp' ∧ K.Le z ∧ OS 3 (OT.fr rI) z.w (sv a U c) U V ∧ U.length = e.length) ?_ ?_
 have hm := hj17829
 obtain ⟨A, h17899, hm⟩ := bS hm
 obtain ⟨x17914, h17915, hm⟩ := bS hm
 obtain ⟨x17930, h17931, hm⟩ := bS hm
 obtain ⟨x17948, h17949, hm⟩ := bS hm
 refine Di mixed (.refl _)<|E0 0 rfl (sM rfl)<|E0 1 rfl (sM rfl)<|E0 2 rfl (sM rfl)<|E0 3 rfl (sM rfl)<|E0 4 rfl (sM rfl)<|E0 5 rfl (sM rfl) ?_
 obtain ⟨j17900, hj17901, hx17902⟩ := iS h17899
 obtain ⟨cs17903, hs17908, P17909, P17910, hq17911, hr17904, hcs17905, hA17906, hlt17907, hb17912, hho17913⟩ := OS.get (sz := 1) rfl (by decide) (i.le (j.trans k)) hx17902
 obtain ⟨rfl, rfl⟩ := hr17904
 refine E0 6 rfl (sI j17900 rfl rfl hj17901 hlt17907 hA17906 sl42)<|Es 7 rfl (st_load_rd rfl one3 (fun w ho => hcs17905 w _ ho (List.sublist_append_left _ _) 0 _ rfl))<|E0 8 rfl (sM rfl)<|E0 9 rfl (sM rfl) ?_
 obtain ⟨j17916, hj17917, hx17918⟩ := iS h17915
 obtain ⟨cs17919, hs17924, P17925, P17926, hq17927, hr17920, hcs17921, hA17922, hlt17923, hb17928, hho17929⟩ := OS.get (sz := 1) rfl (by decide) (i.le (j.trans k)) hx17918
 obtain ⟨rfl, rfl⟩ := hr17920
 refine E0 10 rfl (sI j17916 rfl rfl hj17917 hlt17923 hA17922 sl42)<|Es 11 rfl (st_load_rd rfl one3 (fun w ho => hcs17921 w _ ho (List.sublist_append_left _ _) 0 _ rfl)) ?_
 obtain ⟨j17932, hj17933, hx17934⟩ := iS h17931
 obtain ⟨cs17935, hs17940, P17941, P17942, hq17943, hr17936, hcs17937, hA17938, hlt17939, hb17944, hho17945⟩ := OS.get (sz := 1) rfl (by decide) (i.le (j.trans k)) hx17934
 obtain ⟨rfl, rfl⟩ := hr17936
 refine E0 12 rfl (sI j17932 rfl rfl hj17933 hlt17939 hA17938 sl42)<|Eo<|Da [13] (by kernel_rfl) rfl ?_
 refine Rd2 lr rfl rfl (uP hj17933 (sz := 1) (a' := A) rfl [] R 0 1 [iv A] rfl (i.le (j.trans k)) hx17934 rfl rfl rfl siz3 rfl (mc rfl mn) (fun cs hsj hh => by obtain ⟨rfl, rfl⟩ := hh; exact ⟨by first | decide | exact Nat.le_refl _, rfl, rfl⟩)) ?_ ?_
 rintro _ _ ⟨hs17946, rfl, h17947⟩
 refine ⟨.inl (by kernel_rfl), ?_⟩
 refine d_resp 0 rfl (v' := .slice a (put f n A).length c) (by simp only [put_length])<|d_resp 83 rfl (v' := .slice a (put f n A).length c) (by simp only [put_length]) ?_
 obtain ⟨j17950, hj17951, hx17952⟩ := iS h17949
 obtain ⟨cs17953, hs17958, P17959, P17960, hq17961, hr17954, hcs17955, hA17956, hlt17957, hb17962, hho17963⟩ := OS.get (sz := 1) rfl (by decide) h17947 hx17952
 obtain ⟨rfl, rfl⟩ := hr17954
 refine El lr<|E0 14 rfl (sI j17950 rfl rfl hj17951 hlt17957 hA17956 sl42)<|Eo<|Da [15] (by kernel_rfl) rfl ?_
 refine Rd2 lr rfl rfl (uP hj17951 (sz := 1) (a' := x17914) rfl [] R 0 1 [iv x17914] rfl h17947 hx17952 rfl rfl rfl siz3 rfl (mc rfl mn) (fun cs hsj hh => by obtain ⟨rfl, rfl⟩ := hh; exact ⟨by first | decide | exact Nat.le_refl _, rfl, rfl⟩)) ?_ ?_
 rintro _ _ ⟨hs17964, rfl, h17965⟩
 refine ⟨.inl (by kernel_rfl), ?_⟩
 refine d_resp 0 rfl (v' := .slice a (put (put f n A) t x17914).length c) (by simp only [put_length])<|Dd (by kernel_rfl) ?_
 obtain rfl := o1 hm
 exact xJ ⟨hs17964, rfl, rfl, lr, h17965, ((put_length _ _ _).trans ((put_length _ _ _).trans hln15485))⟩ (.refl _)
 exact Rn
 exact Rn
 rintro z _ _ ⟨V, rfl, rfl, hle17823, h17826, hln17828⟩
 have hm := hk17829
 refine Cr<|M rfl rfl ?_
 obtain ⟨_, h17966, hm⟩ := bS hm
 have h17966 := (kS h17966).2
 refine Ts rfl (sa rfl rfl h17966)<|As rfl rfl<|Te<|Cr<|M rfl rfl ?_
 obtain ⟨_, h17967, hm⟩ := bS hm
 have h17967 := (kS h17967).2
 refine Ts rfl (sb rfl rfl h17967)<|As rfl rfl<|Te ?_
 obtain ⟨⟨W, B⟩, hj24182, hk24182⟩ := bS hm
 refine Cj (fun X e' hp' => ∃ (hs24177 : Hp), [(0, sv a B c), (1, iv d), (11, iv W)] = e' ∧ (hs24177 ++ R) = hp' ∧ z.Le X ∧ OS 3 (OT.fr rI) X.w (sv a B c) B hs24177 ∧ B.length = e.length) ?_ ?_
 have hm := hj24182
 refine Cb<|cL (unc3 fun x28322 u g => fun C e' hp' => ∃ (l : Hp), [(0, sv a g c), (1, iv d), (10, iv x28322), (11, iv u)] = e' ∧ (l ++ R) = hp' ∧ z.Le C ∧ OS 3 (OT.fr rI) C.w (sv a g c) g l ∧ g.length = e.length) hm ⟨V, rfl, rfl, lr, h17826, hln17828⟩ (.refl _) ?_
 rintro ⟨x28322, u, g⟩ C _ _ oL24183 ⟨l, rfl, rfl, hle28318, o, hln28325⟩ hstepL24183 houtL24183
 unfold mSlicesPartitionOrdered_L24183 at hstepL24183
 have hm := (unc3E hstepL24183)
 refine Cb ?_
 obtain ⟨p, hj28772, hk28772⟩ := bS hm
 refine Cj (fun Y e' hp' => [(0, sv a g c), (1, iv d), (10, iv p), (11, iv u)] = e' ∧ (l ++ R) = hp' ∧ C.Le Y) ?_ ?_
 have hm := hj28772
 refine Cb<|cL (fun Z => fun b29067 e' hp' => [(0, sv a g c), (1, iv d), (10, iv Z), (11, iv u)] = e' ∧ (l ++ R) = hp' ∧ C.Le b29067) hm ⟨rfl, rfl, lr⟩ (.refl _) ?_
 rintro Z b29067 _ _ oL28773 ⟨rfl, rfl, aa⟩ hstepL28773 houtL28773
 unfold mSlicesPartitionOrdered_L28773 at hstepL28773
 have hm := hstepL28773
 refine Cs ?_
 obtain ⟨x29142, hj29143, hk29143⟩ := bS hm
 refine Cj (fun b29140 e' hp' => [(0, sv a g c), (1, iv d), (10, iv Z), (11, iv u), (112, bv x29142)] = e' ∧ (l ++ R) = hp' ∧ b29067.Le b29140) ?_ ?_
 have hm := hj29143
 by_cases ab : Z ≤ u
 rw [if_pos ab] at hm
 obtain ⟨x29180, h29181, hm⟩ := bS hm
 obtain ⟨x29196, h29197, hm⟩ := bS hm
 obtain ⟨x29212, hcl29213, hm⟩ := bS hm
 refine Di mixed (.refl _)<|E0 0 rfl (sM rfl)<|E0 1 rfl (sM rfl)<|E0 2 rfl (st_leq_t rfl rfl ab)<|E0 3 rfl (sM rfl)<|Yz 4 102 rfl (sM rfl)<|Yz 5 102 rfl (sM rfl) ?_
 obtain ⟨j29182, hj29183, hx29184⟩ := iS h29181
 obtain ⟨cs29185, hs29190, P29191, P29192, hq29193, hr29186, hcs29187, hA29188, hlt29189, hb29194, hho29195⟩ := OS.get (sz := 1) rfl (by decide) (o.le aa) hx29184
 obtain ⟨rfl, rfl⟩ := hr29186
 refine Yz 6 102 rfl (sI j29182 rfl rfl hj29183 hlt29189 hA29188 sl42)<|Ey 7 102 rfl (st_load_rd rfl one3 (fun w ho => hcs29187 w _ ho (List.sublist_append_left _ _) 0 _ rfl))<|Yz 8 102 rfl (sM rfl)<|Yz 9 102 rfl (sM rfl) ?_
 obtain ⟨j29198, hj29199, hx29200⟩ := iS h29197
 obtain ⟨cs29201, hs29206, P29207, P29208, hq29209, hr29202, hcs29203, hA29204, hlt29205, hb29210, hho29211⟩ := OS.get (sz := 1) rfl (by decide) (o.le aa) hx29200
 obtain ⟨rfl, rfl⟩ := hr29202
 refine Yz 10 102 rfl (sI j29198 rfl rfl hj29199 hlt29205 hA29204 sl42)<|Ey 11 102 rfl (st_load_rd rfl one3 (fun w ho => hcs29203 w _ ho (List.sublist_append_left _ _) 0 _ rfl))<|Eo<|Da [12] (by kernel_rfl) rfl ?_
 refine R_doY lr rfl rfl 102 rfl rfl rfl (uW _ call62 rfl (fun w ho => cCmpLess _ [] x29180 x29196 x29212 hcl29213) (fun _ _ _ h => h.2.symm)) ?_ ?_
 rintro _ _ ⟨⟨_, rfl, _⟩, rfl⟩
 refine ⟨.inr (.refl _), ?_⟩
 refine Ei lr (.refl _)<|E0 13 rfl (pT rfl rfl)<|Eo<|Dd (by kernel_rfl) ?_
 obtain rfl := o1 hm
 exact xJ ⟨rfl, rfl, lr⟩ (.refl _)
 exact Rn
 rw [if_neg ab] at hm
 refine Di mixed (.refl _)<|E0 0 rfl (sM rfl)<|E0 1 rfl (sM rfl)<|E0 2 rfl (st_leq_f rfl rfl ab)<|E0 3 rfl (sM rfl)<|En 4 102 rfl rfl rfl<|En 5 102 rfl rfl rfl<|En 6 102 rfl rfl rfl<|En 7 102 rfl rfl rfl<|En 8 102 rfl rfl rfl ?_
 refine En 9 102 rfl rfl rfl<|En 10 102 rfl rfl rfl<|En 11 102 rfl rfl rfl<|En 12 102 rfl rfl rfl<|E0 13 rfl (pF rfl rfl)<|Eo<|Dd (by kernel_rfl) ?_
 obtain rfl := o1 hm
 exact xJ ⟨rfl, rfl, lr⟩ (.refl _)
 rintro b29140 _ _ ⟨rfl, rfl, hle29141⟩
 have hm := hk29143
 refine Cc _ rfl (fun hc29214 => ?_) (fun hc29214 => ?_)
 rw [if_pos hc29214] at hm
 refine Ck<|Xn<|Cb<|Cg<|M rfl rfl ?_
 obtain ⟨_, h29215, hm⟩ := bS hm
 have h29215 := (kS h29215).2
 refine Ts rfl (sa rfl rfl h29215)<|As rfl rfl<|Tn<|Xm ?_
 exact xM hm ⟨rfl, rfl, ((aa.trans hle29141))⟩ (.refl _)
 rw [if_neg (fun hh => Bool.noConfusion (hh.symm.trans hc29214))] at hm
 refine Ce<|Xe<|Xe<|Xo ?_
 have hm := congrArg some (houtL28773 _ (Option.some.inj hm).symm)
 obtain rfl := o1 hm
 exact xJ ⟨rfl, rfl, (aa.trans hle29141)⟩ (.refl _)
 rintro Y _ _ ⟨rfl, rfl, q⟩
 have hm := hk28772
 obtain ⟨x29661, hj29662, hk29662⟩ := bS hm
 refine Cj (fun b29659 e' hp' => [(0, sv a g c), (1, iv d), (10, iv p), (11, iv x29661)] = e' ∧ (l ++ R) = hp' ∧ Y.Le b29659) ?_ ?_
 have hm := hj29662
 refine Cb<|cL (fun ac => fun b29957 e' hp' => [(0, sv a g c), (1, iv d), (10, iv p), (11, iv ac)] = e' ∧ (l ++ R) = hp' ∧ Y.Le b29957) hm ⟨rfl, rfl, lr⟩ (.refl _) ?_
 rintro ac b29957 _ _ oL29663 ⟨rfl, rfl, ad⟩ hstepL29663 houtL29663
 unfold mSlicesPartitionOrdered_L29663 at hstepL29663
 have hm := hstepL29663
 refine Cs ?_
 obtain ⟨x30032, hj30033, hk30033⟩ := bS hm
 refine Cj (fun b30030 e' hp' => [(0, sv a g c), (1, iv d), (10, iv p), (11, iv ac), (129, bv x30032)] = e' ∧ (l ++ R) = hp' ∧ b29957.Le b30030) ?_ ?_
 have hm := hj30033
 by_cases ae : p ≤ ac
 rw [if_pos ae] at hm
 obtain ⟨x30070, h30071, hm⟩ := bS hm
 obtain ⟨x30086, h30087, hm⟩ := bS hm
 obtain ⟨x30102, hcl30103, hm⟩ := bS hm
 refine Di mixed (.refl _)<|E0 0 rfl (sM rfl)<|E0 1 rfl (sM rfl)<|E0 2 rfl (st_leq_t rfl rfl ae)<|E0 3 rfl (sM rfl)<|Yz 4 118 rfl (sM rfl)<|Yz 5 118 rfl (sM rfl) ?_
 obtain ⟨j30072, hj30073, hx30074⟩ := iS h30071
 obtain ⟨cs30075, hs30080, P30081, P30082, hq30083, hr30076, hcs30077, hA30078, hlt30079, hb30084, hho30085⟩ := OS.get (sz := 1) rfl (by decide) (o.le (q.trans ad)) hx30074
 obtain ⟨rfl, rfl⟩ := hr30076
 refine Yz 6 118 rfl (sI j30072 rfl rfl hj30073 hlt30079 hA30078 sl42)<|Ey 7 118 rfl (st_load_rd rfl one3 (fun w ho => hcs30077 w _ ho (List.sublist_append_left _ _) 0 _ rfl))<|Yz 8 118 rfl (sM rfl)<|Yz 9 118 rfl (sM rfl) ?_
 obtain ⟨j30088, hj30089, hx30090⟩ := iS h30087
 obtain ⟨cs30091, hs30096, P30097, P30098, hq30099, hr30092, hcs30093, hA30094, hlt30095, hb30100, hho30101⟩ := OS.get (sz := 1) rfl (by decide) (o.le (q.trans ad)) hx30090
 obtain ⟨rfl, rfl⟩ := hr30092
 refine Yz 10 118 rfl (sI j30088 rfl rfl hj30089 hlt30095 hA30094 sl42)<|Ey 11 118 rfl (st_load_rd rfl one3 (fun w ho => hcs30093 w _ ho (List.sublist_append_left _ _) 0 _ rfl))<|Eo<|Da [12] (by kernel_rfl) rfl ?_
 refine R_doY lr rfl rfl 118 rfl rfl rfl (uW _ call62 rfl (fun w ho => cCmpLess _ [] x30070 x30086 x30102 hcl30103) (fun _ _ _ h => h.2.symm)) ?_ ?_
 rintro _ _ ⟨⟨_, rfl, _⟩, rfl⟩
 refine ⟨.inr (.refl _), ?_⟩
 refine Ei lr (.refl _)<|Yz 13 118 rfl (sn2 rfl)<|E0 14 rfl (pT rfl rfl)<|Eo<|Dd (by kernel_rfl) ?_
 obtain rfl := o1 hm
 exact xJ ⟨rfl, rfl, lr⟩ (.refl _)
 exact Rn
 rw [if_neg ae] at hm
 refine Di mixed (.refl _)<|E0 0 rfl (sM rfl)<|E0 1 rfl (sM rfl)<|E0 2 rfl (st_leq_f rfl rfl ae)<|E0 3 rfl (sM rfl)<|En 4 118 rfl rfl rfl<|En 5 118 rfl rfl rfl<|En 6 118 rfl rfl rfl<|En 7 118 rfl rfl rfl<|En 8 118 rfl rfl rfl ?_
 refine En 9 118 rfl rfl rfl<|En 10 118 rfl rfl rfl<|En 11 118 rfl rfl rfl<|En 12 118 rfl rfl rfl<|En 13 118 rfl rfl rfl<|E0 14 rfl (pF rfl rfl)<|Eo<|Dd (by kernel_rfl) ?_
 obtain rfl := o1 hm
 exact xJ ⟨rfl, rfl, lr⟩ (.refl _)
 rintro b30030 _ _ ⟨rfl, rfl, hle30031⟩
 have hm := hk30033
 refine Cc _ rfl (fun hc30104 => ?_) (fun hc30104 => ?_)
 rw [if_pos hc30104] at hm
 refine Ck<|Xn<|Cb<|Cg<|M rfl rfl ?_
 obtain ⟨_, h30105, hm⟩ := bS hm
 have h30105 := (kS h30105).2
 refine Ts rfl (sb rfl rfl h30105)<|As rfl rfl<|Tn<|Xm ?_
 exact xM hm ⟨rfl, rfl, ((ad.trans hle30031))⟩ (.refl _)
 rw [if_neg (fun hh => Bool.noConfusion (hh.symm.trans hc30104))] at hm
 refine Ce<|Xe<|Xe<|Xo ?_
 have hm := congrArg some (houtL29663 _ (Option.some.inj hm).symm)
 obtain rfl := o1 hm
 exact xJ ⟨rfl, rfl, (ad.trans hle30031)⟩ (.refl _)
 rintro b29659 _ _ ⟨rfl, rfl, s⟩
 have hm := hk29662
 refine Cs<|Cr<|M rfl rfl<|M rfl rfl<|Ts rfl (q5 rfl rfl)<|Te ?_
 refine Cc _ rfl (fun hc30106 => ?_) (fun hc30106 => ?_)
 rw [if_pos (of_decide_eq_true hc30106)] at hm
 refine Ce<|Xe<|Xi rfl<|Xe<|Xo ?_
 have hm := congrArg some (houtL24183 _ (Option.some.inj hm).symm)
 obtain ⟨rfl, rfl⟩ := some2 hm
 exact xJ ⟨l, rfl, rfl, (hle28318.trans (q.trans s)), (o.le (q.trans s)), hln28325⟩ (.refl _)
 rw [if_neg (of_decide_eq_false hc30106)] at hm
 refine Ck<|Xn ?_
 obtain ⟨af, hj30250, hk30250⟩ := bS hm
 refine Cj (fun b30243 e' hp' => ∃ (ag : Hp), [(0, sv a af c), (1, iv d), (10, iv p), (11, iv x29661)] = e' ∧ (ag ++ R) = hp' ∧ b29659.Le b30243 ∧ OS 3 (OT.fr rI) b30243.w (sv a af c) af ag ∧ af.length = e.length) ?_ ?_
 have hm := hj30250
 obtain ⟨D, h30320, hm⟩ := bS hm
 obtain ⟨x30335, h30336, hm⟩ := bS hm
 obtain ⟨x30351, h30352, hm⟩ := bS hm
 obtain ⟨x30369, h30370, hm⟩ := bS hm
 refine Di mixed (.refl _)<|E0 0 rfl (sM rfl)<|E0 1 rfl (sM rfl)<|E0 2 rfl (sM rfl)<|E0 3 rfl (sM rfl)<|E0 4 rfl (sM rfl)<|E0 5 rfl (sM rfl) ?_
 obtain ⟨j30321, hj30322, hx30323⟩ := iS h30320
 obtain ⟨cs30324, hs30329, P30330, P30331, hq30332, hr30325, hcs30326, hA30327, hlt30328, hb30333, hho30334⟩ := OS.get (sz := 1) rfl (by decide) (o.le (q.trans s)) hx30323
 obtain ⟨rfl, rfl⟩ := hr30325
 refine E0 6 rfl (sI j30321 rfl rfl hj30322 hlt30328 hA30327 sl42)<|Es 7 rfl (st_load_rd rfl one3 (fun w ho => hcs30326 w _ ho (List.sublist_append_left _ _) 0 _ rfl))<|E0 8 rfl (sM rfl)<|E0 9 rfl (sM rfl) ?_
 obtain ⟨j30337, hj30338, hx30339⟩ := iS h30336
 obtain ⟨cs30340, hs30345, P30346, P30347, hq30348, hr30341, hcs30342, hA30343, hlt30344, hb30349, hho30350⟩ := OS.get (sz := 1) rfl (by decide) (o.le (q.trans s)) hx30339
 obtain ⟨rfl, rfl⟩ := hr30341
 refine E0 10 rfl (sI j30337 rfl rfl hj30338 hlt30344 hA30343 sl42)<|Es 11 rfl (st_load_rd rfl one3 (fun w ho => hcs30342 w _ ho (List.sublist_append_left _ _) 0 _ rfl)) ?_
 obtain ⟨j30353, hj30354, hx30355⟩ := iS h30352
 obtain ⟨cs30356, hs30361, P30362, P30363, hq30364, hr30357, hcs30358, hA30359, hlt30360, hb30365, hho30366⟩ := OS.get (sz := 1) rfl (by decide) (o.le (q.trans s)) hx30355
 obtain ⟨rfl, rfl⟩ := hr30357
 refine E0 12 rfl (sI j30353 rfl rfl hj30354 hlt30360 hA30359 sl42)<|Eo<|Da [13] (by kernel_rfl) rfl ?_
 refine Rd2 lr rfl rfl (uP hj30354 (sz := 1) (a' := D) rfl [] R 0 1 [iv D] rfl (o.le (q.trans s)) hx30355 rfl rfl rfl siz3 rfl (mc rfl mn) (fun cs hsj hh => by obtain ⟨rfl, rfl⟩ := hh; exact ⟨by first | decide | exact Nat.le_refl _, rfl, rfl⟩)) ?_ ?_
 rintro _ _ ⟨hs30367, rfl, h30368⟩
 refine ⟨.inl (by kernel_rfl), ?_⟩
 refine d_resp 0 rfl (v' := .slice a (put g p D).length c) (by simp only [put_length])<|d_resp 137 rfl (v' := .slice a (put g p D).length c) (by simp only [put_length]) ?_
 obtain ⟨j30371, hj30372, hx30373⟩ := iS h30370
 obtain ⟨cs30374, hs30379, P30380, P30381, hq30382, hr30375, hcs30376, hA30377, hlt30378, hb30383, hho30384⟩ := OS.get (sz := 1) rfl (by decide) h30368 hx30373
 obtain ⟨rfl, rfl⟩ := hr30375
 refine El lr<|E0 14 rfl (sI j30371 rfl rfl hj30372 hlt30378 hA30377 sl42)<|Eo<|Da [15] (by kernel_rfl) rfl ?_
 refine Rd2 lr rfl rfl (uP hj30372 (sz := 1) (a' := x30335) rfl [] R 0 1 [iv x30335] rfl h30368 hx30373 rfl rfl rfl siz3 rfl (mc rfl mn) (fun cs hsj hh => by obtain ⟨rfl, rfl⟩ := hh; exact ⟨by first | decide | exact Nat.le_refl _, rfl, rfl⟩)) ?_ ?_
 rintro _ _ ⟨hs30385, rfl, h30386⟩
 refine ⟨.inl (by kernel_rfl), ?_⟩
 refine d_resp 0 rfl (v' := .slice a (put (put g p D) x29661 x30335).length c) (by simp only [put_length])<|Dd (by kernel_rfl) ?_
 obtain rfl := o1 hm
 exact xJ ⟨hs30385, rfl, rfl, lr, h30386, ((put_length _ _ _).trans ((put_length _ _ _).trans hln28325))⟩ (.refl _)
 exact Rn
 exact Rn
 rintro b30243 _ _ ⟨ag, rfl, rfl, hle30244, h30247, hln30249⟩
 have hm := hk30250
 refine Cr<|M rfl rfl ?_
 obtain ⟨_, h30387, hm⟩ := bS hm
 have h30387 := (kS h30387).2
 refine Ts rfl (sa rfl rfl h30387)<|As rfl rfl<|Te<|Cg<|M rfl rfl ?_
 obtain ⟨_, h30388, hm⟩ := bS hm
 have h30388 := (kS h30388).2
 refine Ts rfl (sb rfl rfl h30388)<|As rfl rfl<|Tn<|Xm ?_
 exact xM hm ⟨ag, rfl, rfl, ((hle28318.trans (q.trans (s.trans hle30244)))), h30247, hln30249⟩ (.refl _)
 rintro X _ _ ⟨hs24177, rfl, rfl, hle24175, ah, hln24181⟩
 have hm := (unc2E hk24182)
 obtain ⟨l30530, hj30532, hk30532⟩ := bS hm
 refine Cj (fun b30525 e' hp' => ∃ (ai : Hp), [(11, iv W)] = e' ∧ (ai ++ R) = hp' ∧ X.Le b30525 ∧ OS 3 (OT.fr rI) b30525.w (sv a l30530 c) l30530 ai ∧ l30530.length = e.length) ?_ ?_
 have hm := hj30532
 obtain ⟨x30601, h30602, hm⟩ := bS hm
 obtain ⟨x30617, h30618, hm⟩ := bS hm
 obtain ⟨x30633, h30634, hm⟩ := bS hm
 obtain ⟨x30651, h30652, hm⟩ := bS hm
 refine Di mixed (.refl _)<|E0 0 rfl (sM rfl)<|E0 1 rfl (sM rfl)<|E0 2 rfl (sM rfl)<|E0 3 rfl (sM rfl)<|E0 4 rfl (sM rfl)<|E0 5 rfl (sM rfl) ?_
 obtain ⟨j30603, hj30604, hx30605⟩ := iS h30602
 obtain ⟨cs30606, hs30611, P30612, P30613, hq30614, hr30607, hcs30608, hA30609, hlt30610, hb30615, hho30616⟩ := OS.get (sz := 1) rfl (by decide) ah hx30605
 obtain ⟨rfl, rfl⟩ := hr30607
 refine E0 6 rfl (sI j30603 rfl rfl hj30604 hlt30610 hA30609 sl42)<|Es 7 rfl (st_load_rd rfl one3 (fun w ho => hcs30608 w _ ho (List.sublist_append_left _ _) 0 _ rfl))<|E0 8 rfl (sM rfl)<|E0 9 rfl (sM rfl) ?_
 obtain ⟨j30619, hj30620, hx30621⟩ := iS h30618
 obtain ⟨cs30622, hs30627, P30628, P30629, hq30630, hr30623, hcs30624, hA30625, hlt30626, hb30631, hho30632⟩ := OS.get (sz := 1) rfl (by decide) ah hx30621
 obtain ⟨rfl, rfl⟩ := hr30623
 refine E0 10 rfl (sI j30619 rfl rfl hj30620 hlt30626 hA30625 sl42)<|Es 11 rfl (st_load_rd rfl one3 (fun w ho => hcs30624 w _ ho (List.sublist_append_left _ _) 0 _ rfl)) ?_
 obtain ⟨j30635, hj30636, hx30637⟩ := iS h30634
 obtain ⟨cs30638, hs30643, P30644, P30645, hq30646, hr30639, hcs30640, hA30641, hlt30642, hb30647, hho30648⟩ := OS.get (sz := 1) rfl (by decide) ah hx30637
 obtain ⟨rfl, rfl⟩ := hr30639
 refine E0 12 rfl (sI j30635 rfl rfl hj30636 hlt30642 hA30641 sl42)<|Eo<|Da [13] (by kernel_rfl) rfl ?_
 refine Rd2 lr rfl rfl (uP hj30636 (sz := 1) (a' := x30601) rfl [] R 0 1 [iv x30601] rfl ah hx30637 rfl rfl rfl siz3 rfl (mc rfl mn) (fun cs hsj hh => by obtain ⟨rfl, rfl⟩ := hh; exact ⟨by first | decide | exact Nat.le_refl _, rfl, rfl⟩)) ?_ ?_
 rintro _ _ ⟨hs30649, rfl, h30650⟩
 refine ⟨.inl (by kernel_rfl), ?_⟩
 refine d_resp 155 rfl (v' := .slice a (put B W x30601).length c) (by simp only [put_length]) ?_
 obtain ⟨j30653, hj30654, hx30655⟩ := iS h30652
 obtain ⟨cs30656, hs30661, P30662, P30663, hq30664, hr30657, hcs30658, hA30659, hlt30660, hb30665, hho30666⟩ := OS.get (sz := 1) rfl (by decide) h30650 hx30655
 obtain ⟨rfl, rfl⟩ := hr30657
 refine El lr<|E0 14 rfl (sI j30653 rfl rfl hj30654 hlt30660 hA30659 sl42)<|Eo<|Da [15] (by kernel_rfl) rfl ?_
 refine Rd2 lr rfl rfl (uP hj30654 (sz := 1) (a' := x30617) rfl [] R 0 1 [iv x30617] rfl h30650 hx30655 rfl rfl rfl siz3 rfl (mc rfl mn) (fun cs hsj hh => by obtain ⟨rfl, rfl⟩ := hh; exact ⟨by first | decide | exact Nat.le_refl _, rfl, rfl⟩)) ?_ ?_
 rintro _ _ ⟨hs30667, rfl, h30668⟩
 refine ⟨.inl (by kernel_rfl), ?_⟩
 refine Dd (by kernel_rfl) ?_
 obtain rfl := o1 hm
 exact xJ ⟨hs30667, rfl, rfl, lr, h30668, ((put_length _ _ _).trans ((put_length _ _ _).trans hln24181))⟩ (.refl _)
 exact Rn
 exact Rn
 rintro b30525 _ _ ⟨ai, rfl, rfl, hle30526, h30529, hln30531⟩
 have hm := hk30532
 refine Cr<|M rfl rfl<|As rfl rfl<|As rfl rfl<|Te<|Ct ?_
 obtain ⟨rfl, rfl, rfl⟩ := some3 hm
 exact rM (rs := [.tmp 8, .tmp 9]) (vs := [iv W, bv false]) ⟨rfl, ⟨rfl, trivial⟩⟩ ⟨ai, rfl, rfl, h30529, hln30531⟩ (.refl _) (hle15480.trans (j.trans (k.trans (hle17823.trans (hle24175.trans hle30526)))))

set_option maxRecDepth 20000 in
theorem cSlicesNextPowerOfTwo (b : Base) (R : Hp) (a : Int) (d : Int) (hm : mSlicesNextPowerOfTwo a = some d) :
    CallsG Try.prog 70 [iv a] b (R) (fun v b' hp' => .int .u64 (d) = v ∧ R = hp') := by
 refine fE 7 Try.func70 rfl Try.ntmps70 rfl ?_
 unfold mSlicesNextPowerOfTwo at hm
 refine Cr<|As rfl rfl<|Te<|Cr<|M rfl rfl<|Ts rfl (st_conv rfl int3_i64 int79_u64) ?_
 obtain ⟨e, f, hm⟩ := bS hm
 refine Do rfl (uW _ call47 rfl (fun w ho => cBitsLen _ [] (IntKind.wrap .u64 a) e f) (fun _ _ _ h => h.2.symm)) ?_
 rintro _ _ ⟨⟨_, rfl, _⟩, rfl⟩
 obtain ⟨_, c, hm⟩ := bS hm
 have c := shN_some c
 refine Ts rfl (st_shl rfl rfl c)<|As rfl rfl<|Te<|Ct ?_
 obtain rfl := o1 hm
 exact rM (rs := [.tmp 2]) (vs := [.int .u64 (shlI .u64 1 e)]) ⟨rfl, trivial⟩ ⟨rfl, rfl⟩ (.refl _) lr

end Go.Proofs.Ytnmhabgnfifkdaa
