/- Contracts: the code computes its model (part 5). -/
import Derived.Test.YtnmhabgnfifkdaaZP4
set_option linter.unusedVariables false
set_option linter.unusedSimpArgs false
namespace Go.Proofs.Ytnmhabgnfifkdaa
open Go.RowKit Go.Fp

open Go.Fp renaming t_mv → M, t_as → As, t_st → Ts, t_do → Do, t_ne → Te, t_nil → Tn, t_no → No, t_yes → Ys, t_bool → Tb, t_callG → Tg, t_callvG → Tv, t_resp → Tr, c_sr → Cr, c_seq → Cs, c_region → Cg, c_cond → Cc, c_block → Cb, c_ret → Ct, c_skip → Ck, c_exit → Ce, c_join → Cj, c_pullb → Cp, x_then_normal → Xn, x_then_ret → Xr, x_then_exit → Xe, x_block_ret → Xb, x_block_normal → Xm, x_block_out → Xo, x_pullb → Xp, x_front2 → X2, x_front3 → X3, x_front4 → X4, x_front6 → X6, E_st → Es, E_s0 → E0, E_yes → Ey, E_y0 → Yz, E_no → En, E_in → Ei, E_il → El, E_out → Eo, D_all → Da, D_done → Dd, D_drawI → Di, R_do → Rd2, R_nil → Rn, R_callGl → Rg, st_load → sL, st_loadD → sD, st_field → sF, st_len → sE, st_move → sM, st_assign → sA, st_pick_t → pT, st_pick_f → pF, st_index_old → sI, st_load_old → sO, st_loadN_old → sP, st_field_old → sQ, st_add → sa, st_sub → sb, st_lss_t → lT, st_lss_f → lF, st_eql_t → eT, st_eql_f → eF, st_not → sn2, st_build → sB, u_box → uB, u_alloc → uA, u_store → uS, u_storeN → uN, u_callW0 → uW, u_putOS → uP, u_appOS → uQ, fn_enterG → fE, bindS → bS, some1 → o1, idx_some → iS, sub_skip → ss, sub_app → sp, chk_some → kS, notT → nt, notF → nf, d_front2 → d2, mem_c → mc, mem_n → mn, st_eql → q1, st_neq → q2, st_lss → q3, st_gtr → q5, st_geq → q6
set_option maxHeartbeats 1000000 in
set_option maxRecDepth 20000 in
theorem cFleetStandIns_1_4 : ∀ (N : Nat) (b : Base) (R : Hp) (T : Base) (hb0 : T.Le b) (al : Int) (W : (List FleetShift)) (aa : Int) (ab : Int) (ac : Int) (ad : Int) (ae : Int) (af : Int) (ag : Int) (l56 : (List (List Int))) (aB : (List Int)) (l59 : (List Int)) (X : (List Int)) (O : (List (List Int))) (l63 : (List (Int × Int))) (l64 : (List (FleetAbsence × Bool))) (H : Nat) (z : Nat) (I : Nat) (J : Nat) (A : Nat) (B : Nat) (C : Nat) (D : Nat) (E : Nat) (F : Nat) (ah : OA) (ai : Nat) (A3 : OA) (c4 : Nat) (n : Hp) (A8 : OA) (c9 : Nat) (m : Hp) (A13 : OA) (c14 : Nat) (p : Hp) (am : OA) (an : Nat) (a : Hp) (t : OA) (y : Nat) (q : Hp) (ao : Nat) (c : Hp) (aq : Nat) (d : Hp) (h47 : FZ rFleetShift b.w ah ai W) (h5 : OS 42 (OT.fr (RT.own1 T 3 rI)) b.w (sv A3 l56 c4) l56 n) (hnz57 : (A3 = none ↔ l56 = [])) (h10 : OS 3 (OT.fr rI) b.w (sv A8 aB c9) aB m) (h15 : OS 3 (OT.fr rI) b.w (sv A13 l59 c14) l59 p) (h20 : OS 3 (OT.fr rI) b.w (sv am X an) X a) (h25 : OS 42 (OT.fr (RT.own1 T 3 rI)) b.w (sv t O y) O q) (hnz62 : (t = none ↔ O = [])) (h29 : OM rI (OT.fr rI) false false b.w ao l63 c) (h33 : OM rFleetAbsence (OT.fr RT.bool) true false b.w aq l64 d) (l3303 : (List Int)) (l3304 : (List (List Int))) (l3307 : (List (List Int))) (l3309 : (List Int)) (hm : mFleetStandIns_1_4 N al W aa ab ac ad ae af ag l56 aB l59 X O l63 l64 = some (l3303, l3304, l3307, l3309)),
    CallsG Try.prog 31 [iv al, pb H, pb z, pb I, pb J, pb A, pb B, pb C, pb D, pb E, pb F] b ((H, Cl 23 [sv A3 l56 c4]) :: (z, Cl 42 [sv A8 aB c9]) :: (I, Cl 42 [sv A13 l59 c14]) :: (J, Cl 42 [sv am X an]) :: (A, Cl 23 [sv t O y]) :: (B, Cl 77 [.map (some ao)]) :: (C, Cl 76 [.map (some aq)]) :: (D, Cl 45 [sv ah W ai]) :: (E, Cl 27 [iv aa, iv ab, iv ac, iv ad, iv ae, iv af, iv ag]) :: (F, Cl 70 [.func (.func 31) #[] #[pb H, pb z, pb I, pb J, pb A, pb B, pb C, pb D, pb E, pb F]]) :: (n ++ (m ++ (p ++ (a ++ (q ++ (c ++ (d ++ R)))))))) (fun v b' hp' => ∃ (A3287 : OA), ∃ (c3288 : Nat), ∃ (hs3286 : Hp), ∃ (hs3291 : Hp), ∃ (A3295 : OA), ∃ (c3296 : Nat), ∃ (hs3294 : Hp), ∃ (A3300 : OA), ∃ (c3301 : Nat), ∃ (hs3299 : Hp), .tuple #[] = v ∧ (H, Cl 23 [sv A3295 l3307 c3296]) :: (z, Cl 42 [sv A3287 l3303 c3288]) :: (I, Cl 42 [sv A3300 l3309 c3301]) :: (J, Cl 42 [sv am X an]) :: (A, Cl 23 [sv t l3304 y]) :: (B, Cl 77 [.map (some ao)]) :: (C, Cl 76 [.map (some aq)]) :: (D, Cl 45 [sv ah W ai]) :: (E, Cl 27 [iv aa, iv ab, iv ac, iv ad, iv ae, iv af, iv ag]) :: (F, Cl 70 [.func (.func 31) #[] #[pb H, pb z, pb I, pb J, pb A, pb B, pb C, pb D, pb E, pb F]]) :: (hs3286 ++ (a ++ (hs3291 ++ (c ++ (d ++ (hs3294 ++ (hs3299 ++ R))))))) = hp' ∧ OS 3 (OT.fr rI) b'.w (sv A3287 l3303 c3288) l3303 hs3286 ∧ OS 42 (OT.fr (RT.own1 T 3 rI)) b'.w (sv t l3304 y) l3304 hs3291 ∧ l3304.length = O.length ∧ (t = none ↔ l3304 = []) ∧ OS 42 (OT.fr (RT.own1 T 3 rI)) b'.w (sv A3295 l3307 c3296) l3307 hs3294 ∧ (A3295 = none ↔ l3307 = []) ∧ OS 3 (OT.fr rI) b'.w (sv A3300 l3309 c3301) l3309 hs3299) := by
  intro N
  induction N with
  | zero =>
    intro b R T hb0 al W aa ab ac ad ae af ag l56 aB l59 X O l63 l64 H z I J A B C D E F ah ai A3 c4 n A8 c9 m A13 c14 p am an a t y q ao c aq d h47 h5 hnz57 h10 h15 h20 h25 hnz62 h29 h33 l3303 l3304 l3307 l3309 hm
    unfold mFleetStandIns_1_4 at hm
    cases hm
  | succ N ih =>
   intro b R T hb0 al W aa ab ac ad ae af ag l56 aB l59 X O l63 l64 H z I J A B C D E F ah ai A3 c4 n A8 c9 m A13 c14 p am an a t y q ao c aq d h47 h5 hnz57 h10 h15 h20 h25 hnz62 h29 h33 l3303 l3304 l3307 l3309 hm
   refine fE 96 Try.func31 rfl Try.ntmps31 rfl ?_
   unfold mFleetStandIns_1_4 at hm
   refine Cs ?_
   obtain ⟨x3313, hj3314, hk3314⟩ := bS hm
   refine Cj (fun b3311 e' hp' => [(0, iv al), (1, pb H), (2, pb z), (3, pb I), (4, pb J), (5, pb A), (6, pb B), (7, pb C), (8, pb D), (9, pb E), (10, pb F), (23, bv x3313)] = e' ∧ (H, Cl 23 [sv A3 l56 c4]) :: (z, Cl 42 [sv A8 aB c9]) :: (I, Cl 42 [sv A13 l59 c14]) :: (J, Cl 42 [sv am X an]) :: (A, Cl 23 [sv t O y]) :: (B, Cl 77 [.map (some ao)]) :: (C, Cl 76 [.map (some aq)]) :: (D, Cl 45 [sv ah W ai]) :: (E, Cl 27 [iv aa, iv ab, iv ac, iv ad, iv ae, iv af, iv ag]) :: (F, Cl 70 [.func (.func 31) #[] #[pb H, pb z, pb I, pb J, pb A, pb B, pb C, pb D, pb E, pb F]]) :: (n ++ (m ++ (p ++ (a ++ (q ++ (c ++ (d ++ R))))))) = hp' ∧ b.Le b3311) ?_ ?_
   have hm := hj3314
   refine Cg<|Ts rfl (sL 0 rfl one23 rfl rfl)<|Ts rfl (st_neqnil_z rfl rfl hnz57 sl23) ?_
   rcases Bool.eq_false_or_eq_true (!l56.isEmpty) with hc3315 | hc3315
   rw [if_neg (fun hh => Bool.noConfusion (hh.symm.trans (nt hc3315)))] at hm
   refine Tr 16 rfl (v' := .bool true) (by rw [hc3315] <;> rfl)<|M rfl rfl<|Ys 17 rfl rfl rfl<|Ts rfl (sL 1 rfl one42 rfl rfl)<|Ys 17 rfl rfl rfl<|Ts rfl (sE rfl sl42)<|Ys 17 rfl rfl rfl<|Ts rfl (sL 2 rfl one42 rfl rfl)<|Ys 17 rfl rfl rfl<|Ts rfl (sE rfl sl42) ?_
   refine Ys 17 rfl rfl rfl<|Ts rfl (q6 rfl rfl)<|Ts rfl (pT rfl rfl)<|Tn ?_
   obtain rfl := o1 hm
   refine Xp 9 rfl<|Xp 9 rfl<|Xp 9 rfl<|Xp 9 rfl<|Xp 9 rfl<|Xp 9 rfl<|Xp 9 rfl<|Xp 9 rfl<|Xp 9 rfl<|Xp 9 rfl ?_
   refine x_front7 [_, _, _, _, _, _, _, _, _, _] n m p a q c d R rfl<|x_front7 [_, _, _, _, _, _, _, _, _, _] d n m p a q c R rfl<|x_front7 [_, _, _, _, _, _, _, _, _, _] c d n m p a q R rfl<|x_front7 [_, _, _, _, _, _, _, _, _, _] q c d n m p a R rfl<|x_front7 [_, _, _, _, _, _, _, _, _, _] a q c d n m p R rfl<|x_front7 [_, _, _, _, _, _, _, _, _, _] p a q c d n m R rfl<|x_front7 [_, _, _, _, _, _, _, _, _, _] m p a q c d n R rfl ?_
   exact xJ ⟨rfl, rfl, lr⟩ (.refl _)
   rw [if_pos (nf hc3315)] at hm
   refine Tr 16 rfl (v' := .bool false) (by rw [hc3315] <;> rfl)<|M rfl rfl<|No 17 rfl rfl rfl rfl rfl<|No 17 rfl rfl rfl rfl rfl<|No 17 rfl rfl rfl rfl rfl<|No 17 rfl rfl rfl rfl rfl<|No 17 rfl rfl rfl rfl rfl<|Ts rfl (pF rfl rfl)<|Tn ?_
   obtain rfl := o1 hm
   refine Xp 9 rfl<|Xp 9 rfl<|Xp 9 rfl<|Xp 9 rfl<|Xp 9 rfl<|Xp 9 rfl<|Xp 9 rfl<|Xp 9 rfl<|Xp 9 rfl<|Xp 9 rfl ?_
   refine x_front7 [_, _, _, _, _, _, _, _, _, _] n m p a q c d R rfl<|x_front7 [_, _, _, _, _, _, _, _, _, _] d n m p a q c R rfl<|x_front7 [_, _, _, _, _, _, _, _, _, _] c d n m p a q R rfl<|x_front7 [_, _, _, _, _, _, _, _, _, _] q c d n m p a R rfl<|x_front7 [_, _, _, _, _, _, _, _, _, _] a q c d n m p R rfl<|x_front7 [_, _, _, _, _, _, _, _, _, _] p a q c d n m R rfl<|x_front7 [_, _, _, _, _, _, _, _, _, _] m p a q c d n R rfl ?_
   exact xJ ⟨rfl, rfl, lr⟩ (.refl _)
   rintro b3311 _ _ ⟨rfl, rfl, x⟩
   have hm := hk3314
   refine Cc _ rfl (fun hc3316 => ?_) (fun hc3316 => ?_)
   rw [if_pos hc3316] at hm
   refine Ct<|Xr ?_
   obtain ⟨rfl, rfl, rfl, rfl⟩ := some4 hm
   refine Xp 9 rfl<|Xp 9 rfl<|Xp 9 rfl<|Xp 9 rfl<|Xp 9 rfl<|Xp 9 rfl<|Xp 9 rfl<|Xp 9 rfl<|Xp 9 rfl<|Xp 9 rfl ?_
   refine X3 [_, _, _, _, _, _, _, _, _, _] n m p (a ++ (q ++ (c ++ (d ++ R)))) rfl<|X2 [_, _, _, _, _, _, _, _, _, _] p n (m ++ (a ++ (q ++ (c ++ (d ++ R))))) rfl<|x_front7 [_, _, _, _, _, _, _, _, _, _] n p m a q c d R rfl<|x_front7 [_, _, _, _, _, _, _, _, _, _] d n p m a q c R rfl<|x_front7 [_, _, _, _, _, _, _, _, _, _] c d n p m a q R rfl<|x_front7 [_, _, _, _, _, _, _, _, _, _] q c d n p m a R rfl<|x_front7 [_, _, _, _, _, _, _, _, _, _] a q c d n p m R rfl ?_
   have he3317 := (h10.le x)
   have he3318 := (h25.le x)
   have he3319 := (h5.le x)
   have he3320 := (h15.le x)
   exact rM (rs := []) (vs := []) trivial ⟨A8, c9, m, q, A3, c4, n, A13, c14, p, rfl, rfl, he3317, he3318, rfl, hnz62, he3319, hnz57, he3320⟩ (.refl _) x
   rw [if_neg (fun hh => Bool.noConfusion (hh.symm.trans hc3316))] at hm
   refine Ck<|Xn<|Cs<|Cr<|M rfl rfl<|Ts rfl (sL 3 rfl one42 rfl rfl)<|Ts rfl (sE rfl sl42)<|Ts rfl (q1 rfl rfl)<|Te ?_
   refine Cc _ rfl (fun hc3321 => ?_) (fun hc3321 => ?_)
   rw [if_pos (of_decide_eq_true hc3321)] at hm
   obtain ⟨⟨l3364, l3366⟩, hj3367, hk3367⟩ := bS hm
   refine Cj (fun b3352 e' hp' => ∃ (A3356 : OA), ∃ (c3357 : Nat), ∃ (ar : Hp), ∃ (A3361 : OA), ∃ (c3362 : Nat), ∃ (au : Hp), [] = e' ∧ (H, Cl 23 [sv A3356 l3364 c3357]) :: (z, Cl 42 [sv A8 aB c9]) :: (I, Cl 42 [sv A3361 l3366 c3362]) :: (J, Cl 42 [sv am X an]) :: (A, Cl 23 [sv t O y]) :: (B, Cl 77 [.map (some ao)]) :: (C, Cl 76 [.map (some aq)]) :: (D, Cl 45 [sv ah W ai]) :: (E, Cl 27 [iv aa, iv ab, iv ac, iv ad, iv ae, iv af, iv ag]) :: (F, Cl 70 [.func (.func 31) #[] #[pb H, pb z, pb I, pb J, pb A, pb B, pb C, pb D, pb E, pb F]]) :: (n ++ (m ++ (p ++ (a ++ (q ++ (c ++ (d ++ (ar ++ (au ++ R))))))))) = hp' ∧ b3311.Le b3352 ∧ OS 42 (OT.fr (RT.own1 T 3 rI)) b3352.w (sv A3356 l3364 c3357) l3364 ar ∧ (A3356 = none ↔ l3364 = []) ∧ OS 3 (OT.fr rI) b3352.w (sv A3361 l3366 c3362) l3366 au) ?_ ?_
   have hm := hj3367
   obtain ⟨_, h3383, hm⟩ := bS hm
   obtain ⟨l3388, hcl3389, hm⟩ := bS hm
   obtain ⟨_, h3396, hm⟩ := bS hm
   refine Di mixed (.cons _ (.refl _))<|Es 0 rfl (sL 3 rfl one23 rfl rfl)<|Es 2 rfl (sL 0 rfl one42 rfl rfl)<|Eo ?_
   have h3383 := room_some h3383
   refine Da [1] (by kernel_rfl) rfl ?_
   refine Rd2 lr rfl rfl (u_cloneOwn (r := (RT.own1 T 3 rI)) (l := O) (sz := 1) (by_ := 24) [_, _, _, _, _, _, _, _, _, _] (n ++ (m ++ (p ++ (a ++ (q ++ (c ++ (d ++ R))))))) rfl clSlicesClone_2 call26 rfl rfl (h25.le x) (.cons _ (.cons _ (.cons _ (.cons _ (.cons _ (.cons _ (.cons _ (.cons _ (.cons _ (.cons _ (ss n (ss m (ss p (ss a (List.sublist_append_left _ _))))))))))))))) h3383) ?_ ?_
   rintro _ _ ⟨A3386, c3387, aj, rfl, rfl, h3385⟩
   refine ⟨.inr (.cons _ (.cons_cons _ (.cons_cons _ (.cons_cons _ (.cons_cons _ (.cons_cons _ (.cons_cons _ (.cons_cons _ (.cons_cons _ (.cons_cons _ (ss aj (.refl _)))))))))))), ?_⟩
   refine Da [3] (by kernel_rfl) rfl ?_
   refine Rd2 lr rfl rfl (u_callWF [_, _, _, _, _, _, _, _, _, _] (aj ++ (n ++ (m ++ (p ++ (a ++ (q ++ (c ++ (d ++ R)))))))) _ rfl call27 rfl (fun w ho => cSlicesClone _ [] aB A8 c9 (OS.now (o := (OT.fr rI)) (l := aB) (hs := m) (h10.le x) ho (.cons _ (.cons _ (.cons _ (.cons _ (.cons _ (.cons _ (.cons _ (.cons _ (.cons _ (.cons _ (ss aj (ss n (List.sublist_append_left _ _)))))))))))))) l3388 hcl3389)) ?_ ?_
   rintro _ _ ⟨_, _, rfl, A3390, c3391, ay, rfl, hq3395, h3393⟩
   obtain rfl := List.append_cancel_right hq3395
   have h3394 := flat_fz (w' := b3311.w) (fun _ _ _ _ h => h) h3393
   refine ⟨.inr (.cons _ (.cons_cons _ (.cons_cons _ (.cons_cons _ (.cons_cons _ (.cons_cons _ (.cons_cons _ (.cons_cons _ (.cons_cons _ (.cons_cons _ (ss ay (ss aj (.refl _))))))))))))), ?_⟩
   have hnz3397 : (A3386 = none ↔ O = []) := ⟨fun e => absurd e (OS.ne h3385 h3396), fun e => absurd e (some?_some h3396)⟩
   refine Da [4] (by kernel_rfl) rfl ?_
   refine Rd2 lr rfl rfl (uS 0 rfl rfl siz23 rfl rfl (by simp)) ?_ ?_
   rintro _ _ rfl
   refine ⟨.inr (.cons _ (.cons_cons _ (.cons_cons _ (.cons_cons _ (.cons_cons _ (.cons_cons _ (.cons_cons _ (.cons_cons _ (.cons_cons _ (.cons_cons _ (ss ay (ss aj (.refl _))))))))))))), ?_⟩
   refine Da [5] (by kernel_rfl) rfl ?_
   refine Rd2 lr rfl rfl (uS 2 rfl rfl siz42 rfl rfl (by simp)) ?_ ?_
   rintro _ _ rfl
   refine ⟨.inl (by kernel_rfl), ?_⟩
   refine Dd (by kernel_rfl) ?_
   obtain ⟨rfl, rfl⟩ := some2 hm
   refine Xp 9 rfl<|Xp 9 rfl<|Xp 9 rfl<|Xp 9 rfl<|Xp 9 rfl<|Xp 9 rfl<|Xp 9 rfl<|Xp 9 rfl<|Xp 9 rfl<|Xp 9 rfl ?_
   refine X2 [_, _, _, _, _, _, _, _, _, _] ay aj (n ++ (m ++ (p ++ (a ++ (q ++ (c ++ (d ++ R))))))) rfl<|x_front9 [_, _, _, _, _, _, _, _, _, _] aj ay n m p a q c d R rfl<|x_front9 [_, _, _, _, _, _, _, _, _, _] d aj ay n m p a q c R rfl<|x_front9 [_, _, _, _, _, _, _, _, _, _] c d aj ay n m p a q R rfl<|x_front9 [_, _, _, _, _, _, _, _, _, _] q c d aj ay n m p a R rfl<|x_front9 [_, _, _, _, _, _, _, _, _, _] a q c d aj ay n m p R rfl<|x_front9 [_, _, _, _, _, _, _, _, _, _] p a q c d aj ay n m R rfl<|x_front9 [_, _, _, _, _, _, _, _, _, _] m p a q c d aj ay n R rfl ?_
   exact xJ ⟨A3386, c3387, aj, A3390, c3391, ay, rfl, rfl, lr, h3385, hnz3397, h3394⟩ (.refl _)
   exact Rn
   exact Rn
   exact Rn
   exact Rn
   rintro b3352 _ _ ⟨A3356, c3357, ar, A3361, c3362, au, rfl, rfl, hle3353, h3358, hnz3365, h3363⟩
   have hm := (unc2E hk3367)
   refine Ct<|Xr ?_
   obtain ⟨rfl, rfl, rfl, rfl⟩ := some4 hm
   refine Xp 9 rfl<|Xp 9 rfl<|Xp 9 rfl<|Xp 9 rfl<|Xp 9 rfl<|Xp 9 rfl<|Xp 9 rfl<|Xp 9 rfl<|Xp 9 rfl<|Xp 9 rfl ?_
   refine x_front9 [_, _, _, _, _, _, _, _, _, _] n m p a q c d ar au R rfl<|x_front9 [_, _, _, _, _, _, _, _, _, _] au n m p a q c d ar R rfl<|x_front9 [_, _, _, _, _, _, _, _, _, _] ar au n m p a q c d R rfl<|x_front9 [_, _, _, _, _, _, _, _, _, _] d ar au n m p a q c R rfl<|x_front9 [_, _, _, _, _, _, _, _, _, _] c d ar au n m p a q R rfl<|x_front9 [_, _, _, _, _, _, _, _, _, _] q c d ar au n m p a R rfl<|x_front8 [_, _, _, _, _, _, _, _, _, _] a q c d ar au n m (p ++ R) rfl ?_
   have he3398 := (h10.le (x.trans hle3353))
   have he3399 := (h25.le (x.trans hle3353))
   exact rM (rs := []) (vs := []) trivial ⟨A8, c9, m, q, A3356, c3357, ar, A3361, c3362, au, rfl, rfl, he3398, he3399, rfl, hnz62, h3358, hnz3365, h3363⟩ (.cons_cons _ (.cons_cons _ (.cons_cons _ (.cons_cons _ (.cons_cons _ (.cons_cons _ (.cons_cons _ (.cons_cons _ (.cons_cons _ (.cons_cons _ (sp m (sp a (sp q (sp c (sp d (sp ar (sp au (ss n (ss p (.refl _)))))))))))))))))))) (x.trans hle3353)
   rw [if_neg (of_decide_eq_false hc3321)] at hm
   refine Ck<|Xn<|Cr<|Ts rfl (sL 3 rfl one42 rfl rfl)<|M rfl rfl ?_
   obtain ⟨u, h3401, hm⟩ := bS hm
   obtain ⟨j3402, hj3403, hx3404⟩ := iS h3401
   obtain ⟨cs3405, hs3410, P3411, P3412, hq3413, hr3406, hcs3407, hA3408, hlt3409, hb3414, hho3415⟩ := OS.get (sz := 1) rfl (by decide) (h20.le x) hx3404
   obtain ⟨rfl, rfl⟩ := hr3406
   refine Ts rfl (sI j3402 rfl rfl hj3403 hlt3409 hA3408 sl42)<|Ts rfl (st_load_rd rfl one3 (fun w ho => hcs3407 w _ ho (.cons _ (.cons _ (.cons _ (.cons _ (.cons _ (.cons _ (.cons _ (.cons _ (.cons _ (.cons _ (ss n (ss m (ss p (List.sublist_append_left _ _)))))))))))))) 0 _ rfl))<|As rfl rfl<|Te<|Cs<|Cr<|Ts rfl (sL 4 rfl one23 rfl rfl)<|Ts rfl (sE rfl sl23)<|M rfl rfl<|Te ?_
   refine Cb ?_
   have hb3417 : O.length ≤ 9223372036854775807 := (OS.len h25)
   refine Cp 3 rfl<|Cp 3 rfl<|Cp 2 rfl<|Cp 9 rfl<|Cp 9 rfl<|Cp 9 rfl<|Cp 9 rfl<|Cp 9 rfl<|Cp 9 rfl<|Cp 9 rfl ?_
   refine c_front3 [_, _, _, _, _, _, _, _, _, _] n m p (a ++ (q ++ (c ++ (d ++ R)))) rfl<|c_front2 [_, _, _, _, _, _, _, _, _, _] p n (m ++ (a ++ (q ++ (c ++ (d ++ R))))) rfl<|c_front7 [_, _, _, _, _, _, _, _, _, _] n p m a q c d R rfl<|c_front7 [_, _, _, _, _, _, _, _, _, _] d n p m a q c R rfl<|c_front6 [_, _, _, _, _, _, _, _, _, _] c d n p m a (q ++ R) rfl<|c_front6 [_, _, _, _, _, _, _, _, _, _] a c d n p m (q ++ R) rfl<|c_front7 [_, _, _, _, _, _, _, _, _, _] m a c d n p q R rfl ?_
   obtain ⟨⟨Y, l4482, l4483, l4485⟩, hl4487, hk4488⟩ := bS hm
   refine cS (fun K => unc4 fun Y l4482 l4483 l4485 => fun b4459 e' hp' => ∃ (s : Hp), ∃ (A4466 : OA), ∃ (c4467 : Nat), ∃ (j : Hp), ∃ (az : OA), ∃ (c4472 : Nat), ∃ (f : Hp), ∃ (A4476 : OA), ∃ (c4477 : Nat), ∃ (g : Hp), [(0, iv al), (2, pb z), (5, pb A), (6, pb B), (7, pb C), (8, pb D), (9, pb E), (10, pb F), (12, iv u), (36, sv t Y y), (37, iv ((O.length : Int))), (38, iv ((K : Int)))] = e' ∧ (z, Cl 42 [sv A4466 l4482 c4467]) :: (A, Cl 23 [sv t Y y]) :: (B, Cl 77 [.map (some ao)]) :: (C, Cl 76 [.map (some aq)]) :: (D, Cl 45 [sv ah W ai]) :: (E, Cl 27 [iv aa, iv ab, iv ac, iv ad, iv ae, iv af, iv ag]) :: (F, Cl 70 [.func (.func 31) #[] #[pb H, pb z, pb I, pb J, pb A, pb B, pb C, pb D, pb E, pb F]]) :: (H, Cl 23 [sv az l4483 c4472]) :: (I, Cl 42 [sv A4476 l4485 c4477]) :: (J, Cl 42 [sv am X an]) :: (s ++ (j ++ (a ++ (c ++ (d ++ (f ++ (g ++ R))))))) = hp' ∧ b3311.Le b4459 ∧ OS 42 (OT.fr (RT.own1 T 3 rI)) b4459.w (sv t Y y) Y s ∧ Y.length = O.length ∧ (t = none ↔ Y = []) ∧ OS 3 (OT.fr rI) b4459.w (sv A4466 l4482 c4467) l4482 j ∧ OS 42 (OT.fr (RT.own1 T 3 rI)) b4459.w (sv az l4483 c4472) l4483 f ∧ (az = none ↔ l4483 = []) ∧ OS 3 (OT.fr rI) b4459.w (sv A4476 l4485 c4477) l4485 g) hl4487 ⟨q, A8, c9, m, A3, c4, n, A13, c14, p, rfl, rfl, lr, (h25.le x), rfl, hnz62, (h10.le x), (h5.le x), hnz57, (h15.le x)⟩ (.refl _) ?_ ?_
   rintro K ⟨Y, l4482, l4483, l4485⟩ b4459 _ _ oL3416 hknL3416 ⟨s, A4466, c4467, j, az, c4472, f, A4476, c4477, g, rfl, rfl, L, h4463, hln4480, hnz4481, h4468, h4473, hnz4484, h4478⟩ hstepL3416
   unfold mFleetStandIns_1_4_L3416 at hstepL3416
   have hm := (unc4E hstepL3416)
   refine Cr<|Ts rfl (lT rfl rfl (by omega))<|Te<|Cs<|c_cond_t rfl<|Ck<|Xn<|Cs<|Cb<|Cr ?_
   refine M rfl rfl ?_
   obtain ⟨x4489, h4490, hm⟩ := bS hm
   obtain ⟨j4491, hj4492, hx4493⟩ := iS h4490
   obtain ⟨cs4494, hs4499, P4500, P4501, hq4502, hr4495, hcs4496, hA4497, hlt4498, hb4503, hho4504⟩ := OS.get (sz := 1) rfl (by decide) h4463 hx4493
   obtain ⟨⟨A4505, c4506, rfl, h4507, h4508⟩, rfl⟩ := hr4495
   refine Ts rfl (sI j4491 rfl rfl hj4492 hlt4498 hA4497 sl23)<|Ts rfl (st_load_rd rfl one42 (fun w ho => hcs4496 w _ ho (.cons _ (.cons _ (.cons _ (.cons _ (.cons _ (.cons _ (.cons _ (.cons _ (.cons _ (.cons _ (List.sublist_append_left _ _))))))))))) 0 _ rfl))<|As rfl rfl<|As rfl rfl<|Te<|Cs ?_
   obtain ⟨x4557, hj4558, hk4558⟩ := bS hm
   refine Cj (fun b4555 e' hp' => [(0, iv al), (2, pb z), (5, pb A), (6, pb B), (7, pb C), (8, pb D), (9, pb E), (10, pb F), (12, iv u), (13, iv ((K : Int))), (14, sv A4505 x4489 c4506), (36, sv t Y y), (37, iv ((O.length : Int))), (38, iv ((K : Int))), (58, bv x4557)] = e' ∧ (z, Cl 42 [sv A4466 l4482 c4467]) :: (A, Cl 23 [sv t Y y]) :: (B, Cl 77 [.map (some ao)]) :: (C, Cl 76 [.map (some aq)]) :: (D, Cl 45 [sv ah W ai]) :: (E, Cl 27 [iv aa, iv ab, iv ac, iv ad, iv ae, iv af, iv ag]) :: (F, Cl 70 [.func (.func 31) #[] #[pb H, pb z, pb I, pb J, pb A, pb B, pb C, pb D, pb E, pb F]]) :: (H, Cl 23 [sv az l4483 c4472]) :: (I, Cl 42 [sv A4476 l4485 c4477]) :: (J, Cl 42 [sv am X an]) :: (s ++ (j ++ (a ++ (c ++ (d ++ (f ++ (g ++ R))))))) = hp' ∧ b4459.Le b4555) ?_ ?_
   have hm := hj4558
   obtain ⟨x4585, h4587, hm⟩ := bS hm
   by_cases hc4588 : (K : Int) = x4585
   rw [if_pos hc4588] at hm
   refine Di mixed (.refl _)<|E0 0 rfl (sM rfl)<|Es 1 rfl (sL 2 rfl one77 rfl rfl)<|E0 2 rfl (sM rfl) ?_
   have hx4586 := Option.some.inj h4587
   obtain ⟨v4582, hv4583, hr4584⟩ := OM.lookF kok3 (z0 := 0) (h29.le (x.trans L)) (key := iv u) (k := u) rfl mapt77 zero3 rfl
   rw [hx4586] at hv4583
   obtain rfl : v4582 = iv x4585 := by have hv4583 : [v4582] = [iv x4585] := hv4583; injection hv4583
   refine Es 3 rfl (st_mlook (ok := false) rfl rfl (fun w ho => hr4584 _ w ho (.cons _ (.cons _ (.cons _ (.cons _ (.cons _ (.cons _ (.cons _ (.cons _ (.cons _ (.cons _ (ss s (ss j (ss a (List.sublist_append_left _ _)))))))))))))) false))<|E0 4 rfl (eT rfl rfl hc4588)<|E0 5 rfl (sM rfl)<|En 6 48 rfl rfl rfl<|En 7 48 rfl rfl rfl<|En 8 48 rfl rfl rfl<|En 9 48 rfl rfl rfl<|En 10 48 rfl rfl rfl<|En 11 48 rfl rfl rfl<|En 12 48 rfl rfl rfl ?_
   refine En 13 48 rfl rfl rfl<|En 14 48 rfl rfl rfl<|E0 15 rfl (pT rfl rfl)<|Eo<|Dd (by kernel_rfl) ?_
   obtain rfl := o1 hm
   refine Xp 9 rfl<|Xp 9 rfl<|Xp 9 rfl<|Xp 9 rfl<|Xp 9 rfl<|Xp 9 rfl<|Xp 9 rfl<|Xp 9 rfl<|Xp 9 rfl<|Xp 9 rfl ?_
   refine x_front7 [_, _, _, _, _, _, _, _, _, _] s j a c d f g R rfl<|x_front7 [_, _, _, _, _, _, _, _, _, _] g s j a c d f R rfl<|x_front7 [_, _, _, _, _, _, _, _, _, _] f g s j a c d R rfl<|x_front7 [_, _, _, _, _, _, _, _, _, _] d f g s j a c R rfl<|x_front7 [_, _, _, _, _, _, _, _, _, _] c d f g s j a R rfl<|x_front7 [_, _, _, _, _, _, _, _, _, _] a c d f g s j R rfl<|x_front7 [_, _, _, _, _, _, _, _, _, _] j a c d f g s R rfl ?_
   exact xJ ⟨rfl, rfl, lr⟩ (.refl _)
   rw [if_neg hc4588] at hm
   obtain ⟨x4589, h4590, hm⟩ := bS hm
   obtain ⟨x4602, h4604, hm⟩ := bS hm
   refine Di mixed (.refl _)<|E0 0 rfl (sM rfl)<|Es 1 rfl (sL 2 rfl one77 rfl rfl)<|E0 2 rfl (sM rfl) ?_
   have hx4586 := Option.some.inj h4587
   obtain ⟨v4582, hv4583, hr4584⟩ := OM.lookF kok3 (z0 := 0) (h29.le (x.trans L)) (key := iv u) (k := u) rfl mapt77 zero3 rfl
   rw [hx4586] at hv4583
   obtain rfl : v4582 = iv x4585 := by have hv4583 : [v4582] = [iv x4585] := hv4583; injection hv4583
   refine Es 3 rfl (st_mlook (ok := false) rfl rfl (fun w ho => hr4584 _ w ho (.cons _ (.cons _ (.cons _ (.cons _ (.cons _ (.cons _ (.cons _ (.cons _ (.cons _ (.cons _ (ss s (ss j (ss a (List.sublist_append_left _ _)))))))))))))) false))<|E0 4 rfl (eF rfl rfl hc4588)<|E0 5 rfl (sM rfl)<|Ey 6 48 rfl (sL 3 rfl one76 rfl rfl)<|Yz 7 48 rfl (sM rfl)<|Ey 8 48 rfl (sL 4 rfl one45 rfl rfl)<|Yz 9 48 rfl (sM rfl) ?_
   obtain ⟨j4591, hj4592, hx4593⟩ := iS h4590
   obtain ⟨cs4594, hr4595, hcs4596, hA4597, hlt4598⟩ := FZ.get (sz := 3) rfl (by decide) (h47.le (x.trans L)) hx4593
   obtain ⟨_, _, rfl, rfl, ⟨_, _, rfl, rfl, rfl⟩⟩ := hr4595
   refine Yz 10 48 rfl (sI j4591 rfl rfl hj4592 hlt4598 hA4597 sl45)<|Yz 11 48 rfl (sQ rfl hA4597 fld47_0)<|Ey 12 48 rfl (sO rfl one3 (hcs4596 0 _ rfl))<|Yz 13 48 rfl (sB (v := .agg #[iv ((K : Int)), iv x4589.Day]) [(0, iv ((K : Int))), (1, iv x4589.Day)] rfl (fun _ => by kernel_rfl)) ?_
   have hx4603 := Option.some.inj h4604
   obtain ⟨v4599, hv4600, hr4601⟩ := OM.lookF kok54 (z0 := false) (h33.le (x.trans L)) (key := .agg #[iv ((K : Int)), iv x4589.Day]) (k := (⟨(K : Int), x4589.Day⟩ : FleetAbsence)) ⟨[iv ((K : Int)), iv x4589.Day], rfl, ⟨[iv ((K : Int))], _, rfl, rfl, rfl⟩⟩ mapt76 zero4 rfl
   rw [hx4603] at hv4600
   obtain rfl : v4599 = bv x4602 := by have hv4600 : [v4599] = [bv x4602] := hv4600; injection hv4600
   refine Ey 14 48 rfl (st_mlook (ok := false) rfl rfl (fun w ho => hr4601 _ w ho (.cons _ (.cons _ (.cons _ (.cons _ (.cons _ (.cons _ (.cons _ (.cons _ (.cons _ (.cons _ (ss s (ss j (ss a (ss c (List.sublist_append_left _ _))))))))))))))) false))<|E0 15 rfl (pF rfl rfl)<|Eo<|Dd (by kernel_rfl) ?_
   obtain rfl := o1 hm
   refine Xp 9 rfl<|Xp 9 rfl<|Xp 9 rfl<|Xp 9 rfl<|Xp 9 rfl<|Xp 9 rfl<|Xp 9 rfl<|Xp 9 rfl<|Xp 9 rfl<|Xp 9 rfl ?_
   refine x_front7 [_, _, _, _, _, _, _, _, _, _] s j a c d f g R rfl<|x_front7 [_, _, _, _, _, _, _, _, _, _] g s j a c d f R rfl<|x_front7 [_, _, _, _, _, _, _, _, _, _] f g s j a c d R rfl<|x_front7 [_, _, _, _, _, _, _, _, _, _] d f g s j a c R rfl<|x_front7 [_, _, _, _, _, _, _, _, _, _] c d f g s j a R rfl<|x_front7 [_, _, _, _, _, _, _, _, _, _] a c d f g s j R rfl<|x_front7 [_, _, _, _, _, _, _, _, _, _] j a c d f g s R rfl ?_
   exact xJ ⟨rfl, rfl, lr⟩ (.refl _)
   rintro b4555 _ _ ⟨rfl, rfl, G⟩
   have hm := hk4558
   refine Cc _ rfl (fun hc4605 => ?_) (fun hc4605 => ?_)
   rw [if_pos hc4605] at hm
   refine Ce<|Xe<|Xo<|Xn<|Cg<|Ts rfl (sa rfl rfl (by omega))<|M rfl rfl<|Tn<|Xp 9 rfl<|Xp 9 rfl ?_
   refine Xp 9 rfl<|Xp 9 rfl<|Xp 9 rfl<|Xp 9 rfl<|Xp 9 rfl<|Xp 9 rfl<|Xp 9 rfl<|Xp 9 rfl<|x_front7 [_, _, _, _, _, _, _, _, _, _] s j a c d f g R rfl<|x_front7 [_, _, _, _, _, _, _, _, _, _] g s j a c d f R rfl ?_
   refine x_front7 [_, _, _, _, _, _, _, _, _, _] f g s j a c d R rfl<|x_front7 [_, _, _, _, _, _, _, _, _, _] d f g s j a c R rfl<|x_front7 [_, _, _, _, _, _, _, _, _, _] c d f g s j a R rfl<|x_front7 [_, _, _, _, _, _, _, _, _, _] a c d f g s j R rfl<|x_front7 [_, _, _, _, _, _, _, _, _, _] j a c d f g s R rfl ?_
   obtain rfl := o1 hm
   exact xS ⟨s, A4466, c4467, j, az, c4472, f, A4476, c4477, g, rfl, rfl, ((L.trans G)), (h4463.le G), hln4480, hnz4481, (h4468.le G), (h4473.le G), hnz4484, (h4478.le G)⟩ (.refl _)
   rw [if_neg (fun hh => Bool.noConfusion (hh.symm.trans hc4605))] at hm
   refine Ck<|Xn ?_
   obtain ⟨l4705, hj4708, hk4708⟩ := bS hm
   refine Cj (fun b4700 e' hp' => ∃ (S : Hp), [(0, iv al), (2, pb z), (5, pb A), (6, pb B), (7, pb C), (8, pb D), (9, pb E), (10, pb F), (12, iv u), (13, iv ((K : Int))), (14, sv A4505 x4489 c4506), (36, sv t l4705 y), (37, iv ((O.length : Int))), (38, iv ((K : Int)))] = e' ∧ (z, Cl 42 [sv A4466 l4482 c4467]) :: (A, Cl 23 [sv t l4705 y]) :: (B, Cl 77 [.map (some ao)]) :: (C, Cl 76 [.map (some aq)]) :: (D, Cl 45 [sv ah W ai]) :: (E, Cl 27 [iv aa, iv ab, iv ac, iv ad, iv ae, iv af, iv ag]) :: (F, Cl 70 [.func (.func 31) #[] #[pb H, pb z, pb I, pb J, pb A, pb B, pb C, pb D, pb E, pb F]]) :: (H, Cl 23 [sv az l4483 c4472]) :: (I, Cl 42 [sv A4476 l4485 c4477]) :: (J, Cl 42 [sv am X an]) :: (S ++ (j ++ (a ++ (c ++ (d ++ (f ++ (g ++ R))))))) = hp' ∧ b4555.Le b4700 ∧ OS 42 (OT.fr (RT.own1 T 3 rI)) b4700.w (sv t l4705 y) l4705 S ∧ l4705.length = O.length ∧ (t = none ↔ l4705 = [])) ?_ ?_
   have hm := hj4708
   obtain ⟨U, hcl4757, hm⟩ := bS hm
   obtain ⟨_, h4765, hm⟩ := bS hm
   obtain ⟨x4770, h4771, hm⟩ := bS hm
   refine Di mixed (.refl _)<|Es 0 rfl (sL 1 rfl one23 rfl rfl)<|E0 1 rfl (sM rfl)<|E0 2 rfl (sM rfl)<|E0 4 rfl (sM rfl)<|Eo<|Da [3, 5] (by kernel_rfl) rfl ?_
   refine Rg lr rfl rfl _ call27 rfl (cSlicesClone _ _ x4489 A4505 c4506 (h4507.le G) U hcl4757) ?_ ?_
   rintro _ b4758 _ ak ⟨A4760, c4761, hs4762, rfl, rfl, h4763⟩
   refine ⟨.inr (ss hs4762 (.refl _)), ?_⟩
   refine d_in1 [] [_, _, _, _, _, _, _, _, _, _] hs4762 (s ++ (j ++ (a ++ (c ++ (d ++ (f ++ (g ++ R))))))) rfl<|Da [5] (by kernel_rfl) rfl ?_
   refine Rd2 ak rfl rfl (u_bslice (el := 3) [(0, iv u)] [iv u] rfl (fun _ => by kernel_rfl)) ?_ ?_
   rintro _ _ ⟨g4764, rfl, rfl⟩
   refine ⟨.inr (.cons _ (.cons_cons _ (.cons_cons _ (.cons_cons _ (.cons_cons _ (.cons_cons _ (.cons_cons _ (.cons_cons _ (.cons_cons _ (.cons_cons _ (.cons_cons _ (ss hs4762 (.refl _))))))))))))), ?_⟩
   have h4765 := room_some h4765
   refine Da [6] (by kernel_rfl) rfl ?_
   refine Rd2 ak rfl rfl (uQ (r := rI) (l := U) [_, _, _, _, _, _, _, _, _, _, _] (s ++ (j ++ (a ++ (c ++ (d ++ (f ++ (g ++ R))))))) [[iv u]] [u] rfl (by decide) sl42 inf3 rfl rfl rfl rfl h4763 rfl (fun w ho => Rd.own (i := 0) ho rfl) ⟨rfl, trivial⟩ h4765) ?_ ?_
   rintro _ _ ⟨hs4766, rfl, h4767⟩
   obtain ⟨A4768, c4769, rfl, _⟩ := h4767.form
   refine ⟨.inr (.cons _ (.cons_cons _ (.cons_cons _ (.cons_cons _ (.cons_cons _ (.cons_cons _ (.cons_cons _ (.cons_cons _ (.cons_cons _ (.cons_cons _ (.cons_cons _ (ss hs4766 (.refl _))))))))))))), ?_⟩
   obtain ⟨j4772, hj4773, hx4774⟩ := iS h4771
   obtain ⟨cs4775, hs4780, P4781, P4782, hq4783, hr4776, hcs4777, hA4778, hlt4779, hb4784, hho4785⟩ := OS.get (sz := 1) rfl (by decide) (h4463.le G) hx4774
   obtain ⟨⟨A4786, c4787, rfl, h4788, h4789⟩, rfl⟩ := hr4776
   refine Ei ak (.cons _ (.cons_cons _ (.cons_cons _ (.cons_cons _ (.cons_cons _ (.cons_cons _ (.cons_cons _ (.cons_cons _ (.cons_cons _ (.cons_cons _ (.cons_cons _ (ss hs4766 (.refl _)))))))))))))<|E0 7 rfl (sI j4772 rfl rfl hj4773 hlt4779 hA4778 sl23)<|Eo<|d_unk [_, _, _, _, _, _, _, _, _, _, _] hs4766 (s ++ (j ++ (a ++ (c ++ (d ++ (f ++ (g ++ R))))))) rfl ?_
   intro hu4792
   have hnz4793 : (A4768 = none ↔ U ++ [u] = []) := (OS.nz h4767 (by simp))
   refine d_frz [_, _, _, _, _, _, _, _, _, _, _] hs4766 (s ++ (j ++ (a ++ (c ++ (d ++ (f ++ (g ++ R))))))) rfl ?_
   intro b4794 aA hz4796
   have h4797 := OS.frz (l := U ++ [u]) h4767 aA.cells hz4796
   have h4798 : Own1 T 3 rI b4794.w A4768 c4769 (U ++ [u]) := own1_of (by decide) h4767 aA.cells hz4796 hu4792 (hb0.trans (x.trans (L.trans (G.trans ak)))) (fun e => absurd e (by simp))
   refine Da [8] (by kernel_rfl) rfl ?_
   refine Rd2 (ak.trans aA) rfl rfl (uP hj4773 (sz := 1) (a' := U ++ [u]) rfl [_, _, _, _, _, _, _, _, _, _, _] (j ++ (a ++ (c ++ (d ++ (f ++ (g ++ R)))))) 0 1 [.slice A4768 (U ++ [u]).length c4769] rfl (h4463.le (G.trans (ak.trans aA))) hx4774 rfl rfl rfl siz42 rfl (mc rfl mn) (fun cs hsj hh => by obtain ⟨⟨A4799, c4800, rfl, h4801, h4802⟩, rfl⟩ := hh; exact ⟨by first | decide | exact Nat.le_refl _, (RT.own1_mk h4797 h4798), rfl⟩)) ?_ ?_
   rintro _ _ ⟨V, rfl, h4791⟩
   refine ⟨.inl (by kernel_rfl), ?_⟩
   refine d_resp 36 rfl (v' := .slice t (put Y (K : Int) (U ++ [u])).length y) (by simp only [put_length])<|d_hresp 2 rfl (o' := Cl 23 [.slice t (put Y (K : Int) (U ++ [u])).length y]) (by simp only [put_length])<|Dd (by kernel_rfl) ?_
   obtain rfl := o1 hm
   refine Xp 10 rfl<|Xp 10 rfl<|Xp 10 rfl<|Xp 10 rfl<|Xp 10 rfl<|Xp 10 rfl<|Xp 10 rfl<|Xp 10 rfl<|Xp 10 rfl<|Xp 10 rfl ?_
   refine x_front7 [_, _, _, _, _, _, _, _, _, _, _] V j a c d f g R rfl<|x_front7 [_, _, _, _, _, _, _, _, _, _, _] g V j a c d f R rfl<|x_front7 [_, _, _, _, _, _, _, _, _, _, _] f g V j a c d R rfl<|x_front7 [_, _, _, _, _, _, _, _, _, _, _] d f g V j a c R rfl<|x_front7 [_, _, _, _, _, _, _, _, _, _, _] c d f g V j a R rfl<|x_front7 [_, _, _, _, _, _, _, _, _, _, _] a c d f g V j R rfl<|x_front7 [_, _, _, _, _, _, _, _, _, _, _] j a c d f g V R rfl ?_
   exact xJ ⟨V, rfl, rfl, (ak.trans aA), h4791, ((put_length _ _ _).trans hln4480), (put_nz hnz4481)⟩ (.cons_cons _ (.cons_cons _ (.cons_cons _ (.cons_cons _ (.cons_cons _ (.cons_cons _ (.cons_cons _ (.cons_cons _ (.cons_cons _ (.cons_cons _ (.cons _ (.refl _))))))))))))
   exact Rn
   exact Rn
   exact Rn
   refine Rd2 lr rfl rfl (u_bslice (el := 3) [(0, iv u)] [iv u] rfl (fun _ => by kernel_rfl)) ?_ ?_
   rintro _ _ ⟨g4764, rfl, rfl⟩
   refine ⟨.inr (.cons _ (.refl _)), ?_⟩
   refine Da [3] (by kernel_rfl) rfl ?_
   refine Rg lr rfl rfl _ call27 rfl (cSlicesClone _ _ x4489 A4505 c4506 (h4507.le G) U hcl4757) ?_ ?_
   rintro _ b4758 _ ak ⟨A4760, c4761, hs4762, rfl, rfl, h4763⟩
   refine ⟨.inr (ss hs4762 (.cons _ (.refl _))), ?_⟩
   refine d_in1 [] [_, _, _, _, _, _, _, _, _, _, _] hs4762 (s ++ (j ++ (a ++ (c ++ (d ++ (f ++ (g ++ R))))))) rfl ?_
   have h4765 := room_some h4765
   refine Da [6] (by kernel_rfl) rfl ?_
   refine Rd2 ak rfl rfl (uQ (r := rI) (l := U) [_, _, _, _, _, _, _, _, _, _, _] (s ++ (j ++ (a ++ (c ++ (d ++ (f ++ (g ++ R))))))) [[iv u]] [u] rfl (by decide) sl42 inf3 rfl rfl rfl rfl h4763 rfl (fun w ho => Rd.own (i := 0) ho rfl) ⟨rfl, trivial⟩ h4765) ?_ ?_
   rintro _ _ ⟨hs4766, rfl, h4767⟩
   obtain ⟨A4768, c4769, rfl, _⟩ := h4767.form
   refine ⟨.inr (.cons _ (.cons_cons _ (.cons_cons _ (.cons_cons _ (.cons_cons _ (.cons_cons _ (.cons_cons _ (.cons_cons _ (.cons_cons _ (.cons_cons _ (.cons_cons _ (ss hs4766 (.refl _))))))))))))), ?_⟩
   obtain ⟨j4772, hj4773, hx4774⟩ := iS h4771
   obtain ⟨cs4775, hs4780, P4781, P4782, hq4783, hr4776, hcs4777, hA4778, hlt4779, hb4784, hho4785⟩ := OS.get (sz := 1) rfl (by decide) (h4463.le G) hx4774
   obtain ⟨⟨A4786, c4787, rfl, h4788, h4789⟩, rfl⟩ := hr4776
   refine Ei ak (.cons _ (.cons_cons _ (.cons_cons _ (.cons_cons _ (.cons_cons _ (.cons_cons _ (.cons_cons _ (.cons_cons _ (.cons_cons _ (.cons_cons _ (.cons_cons _ (ss hs4766 (.refl _)))))))))))))<|E0 7 rfl (sI j4772 rfl rfl hj4773 hlt4779 hA4778 sl23)<|Eo<|d_unk [_, _, _, _, _, _, _, _, _, _, _] hs4766 (s ++ (j ++ (a ++ (c ++ (d ++ (f ++ (g ++ R))))))) rfl ?_
   intro hu4792
   have hnz4793 : (A4768 = none ↔ U ++ [u] = []) := (OS.nz h4767 (by simp))
   refine d_frz [_, _, _, _, _, _, _, _, _, _, _] hs4766 (s ++ (j ++ (a ++ (c ++ (d ++ (f ++ (g ++ R))))))) rfl ?_
   intro b4794 aA hz4796
   have h4797 := OS.frz (l := U ++ [u]) h4767 aA.cells hz4796
   have h4798 : Own1 T 3 rI b4794.w A4768 c4769 (U ++ [u]) := own1_of (by decide) h4767 aA.cells hz4796 hu4792 (hb0.trans (x.trans (L.trans (G.trans ak)))) (fun e => absurd e (by simp))
   refine Da [8] (by kernel_rfl) rfl ?_
   refine Rd2 (ak.trans aA) rfl rfl (uP hj4773 (sz := 1) (a' := U ++ [u]) rfl [_, _, _, _, _, _, _, _, _, _, _] (j ++ (a ++ (c ++ (d ++ (f ++ (g ++ R)))))) 0 1 [.slice A4768 (U ++ [u]).length c4769] rfl (h4463.le (G.trans (ak.trans aA))) hx4774 rfl rfl rfl siz42 rfl (mc rfl mn) (fun cs hsj hh => by obtain ⟨⟨A4799, c4800, rfl, h4801, h4802⟩, rfl⟩ := hh; exact ⟨by first | decide | exact Nat.le_refl _, (RT.own1_mk h4797 h4798), rfl⟩)) ?_ ?_
   rintro _ _ ⟨V, rfl, h4791⟩
   refine ⟨.inl (by kernel_rfl), ?_⟩
   refine d_resp 36 rfl (v' := .slice t (put Y (K : Int) (U ++ [u])).length y) (by simp only [put_length])<|d_hresp 2 rfl (o' := Cl 23 [.slice t (put Y (K : Int) (U ++ [u])).length y]) (by simp only [put_length])<|Dd (by kernel_rfl) ?_
   obtain rfl := o1 hm
   refine Xp 10 rfl<|Xp 10 rfl<|Xp 10 rfl<|Xp 10 rfl<|Xp 10 rfl<|Xp 10 rfl<|Xp 10 rfl<|Xp 10 rfl<|Xp 10 rfl<|Xp 10 rfl ?_
   refine x_front7 [_, _, _, _, _, _, _, _, _, _, _] V j a c d f g R rfl<|x_front7 [_, _, _, _, _, _, _, _, _, _, _] g V j a c d f R rfl<|x_front7 [_, _, _, _, _, _, _, _, _, _, _] f g V j a c d R rfl<|x_front7 [_, _, _, _, _, _, _, _, _, _, _] d f g V j a c R rfl<|x_front7 [_, _, _, _, _, _, _, _, _, _, _] c d f g V j a R rfl<|x_front7 [_, _, _, _, _, _, _, _, _, _, _] a c d f g V j R rfl<|x_front7 [_, _, _, _, _, _, _, _, _, _, _] j a c d f g V R rfl ?_
   exact xJ ⟨V, rfl, rfl, (ak.trans aA), h4791, ((put_length _ _ _).trans hln4480), (put_nz hnz4481)⟩ (.cons_cons _ (.cons_cons _ (.cons_cons _ (.cons_cons _ (.cons_cons _ (.cons_cons _ (.cons_cons _ (.cons_cons _ (.cons_cons _ (.cons_cons _ (.cons _ (.refl _))))))))))))
   exact Rn
   exact Rn
   exact Rn
   exact Rn
   rintro b4700 _ _ ⟨S, rfl, rfl, Z, h4704, hln4706, hnz4707⟩
   have hm := hk4708
   obtain ⟨⟨l4893, l4896, l4897, l4899⟩, hj4900, hk4900⟩ := bS hm
   refine Cj (fun b4873 e' hp' => ∃ (hs4876 : Hp), ∃ (A4880 : OA), ∃ (c4881 : Nat), ∃ (av : Hp), ∃ (A4885 : OA), ∃ (c4886 : Nat), ∃ (aw : Hp), ∃ (A4890 : OA), ∃ (c4891 : Nat), ∃ (ax : Hp), [(0, iv al), (2, pb z), (5, pb A), (6, pb B), (7, pb C), (8, pb D), (9, pb E), (10, pb F), (12, iv u), (13, iv ((K : Int))), (14, sv A4505 x4489 c4506), (36, sv t l4893 y), (37, iv ((O.length : Int))), (38, iv ((K : Int)))] = e' ∧ (z, Cl 42 [sv A4880 l4896 c4881]) :: (A, Cl 23 [sv t l4893 y]) :: (B, Cl 77 [.map (some ao)]) :: (C, Cl 76 [.map (some aq)]) :: (D, Cl 45 [sv ah W ai]) :: (E, Cl 27 [iv aa, iv ab, iv ac, iv ad, iv ae, iv af, iv ag]) :: (F, Cl 70 [.func (.func 31) #[] #[pb H, pb z, pb I, pb J, pb A, pb B, pb C, pb D, pb E, pb F]]) :: (H, Cl 23 [sv A4885 l4897 c4886]) :: (I, Cl 42 [sv A4890 l4899 c4891]) :: (J, Cl 42 [sv am X an]) :: (hs4876 ++ (av ++ (a ++ (c ++ (d ++ (aw ++ (ax ++ R))))))) = hp' ∧ b4700.Le b4873 ∧ OS 42 (OT.fr (RT.own1 T 3 rI)) b4873.w (sv t l4893 y) l4893 hs4876 ∧ l4893.length = O.length ∧ (t = none ↔ l4893 = []) ∧ OS 3 (OT.fr rI) b4873.w (sv A4880 l4896 c4881) l4896 av ∧ OS 42 (OT.fr (RT.own1 T 3 rI)) b4873.w (sv A4885 l4897 c4886) l4897 aw ∧ (A4885 = none ↔ l4897 = []) ∧ OS 3 (OT.fr rI) b4873.w (sv A4890 l4899 c4891) l4899 ax) ?_ ?_
   have hm := hj4900
   refine Cs ?_
   obtain ⟨x4923, h4924, hm⟩ := bS hm
   obtain ⟨x4943, hcl4944, hm⟩ := bS hm
   refine Di mixed (.refl _)<|Es 0 rfl (sL 4 rfl one45 rfl rfl)<|Es 1 rfl (sL 1 rfl one23 rfl rfl)<|E0 2 rfl (sM rfl) ?_
   obtain ⟨j4925, hj4926, hx4927⟩ := iS h4924
   obtain ⟨cs4928, hs4933, P4934, P4935, hq4936, hr4929, hcs4930, hA4931, hlt4932, hb4937, hho4938⟩ := OS.get (sz := 1) rfl (by decide) h4704 hx4927
   obtain ⟨⟨A4939, c4940, rfl, h4941, h4942⟩, rfl⟩ := hr4929
   refine E0 3 rfl (sI j4925 rfl rfl hj4926 hlt4932 hA4931 sl23)<|Es 4 rfl (st_load_rd rfl one42 (fun w ho => hcs4930 w _ ho (.cons _ (.cons _ (.cons _ (.cons _ (.cons _ (.cons _ (.cons _ (.cons _ (.cons _ (.cons _ (List.sublist_append_left _ _))))))))))) 0 _ rfl))<|Es 5 rfl (sD (vs := [_, _, _, _, _, _, _]) 5 7 rfl agg27 rfl rfl rfl)<|Eo<|Da [6] (by kernel_rfl) rfl ?_
   refine Rd2 lr rfl rfl (uW _ call28 rfl (fun w ho => cFleetFits _ [] W x4923 (⟨aa, ab, ac, ad, ae, af, ag⟩ : FleetLimits) ah ai A4939 c4940 ((h47.le (x.trans (L.trans (G.trans Z)))).old ho) (h4941.old ho) x4943 hcl4944) (fun _ _ _ h => h.2.symm)) ?_ ?_
   rintro _ _ ⟨⟨_, rfl, _⟩, rfl⟩
   refine ⟨.inr (.refl _), ?_⟩
   refine Dd (by kernel_rfl)<|Xn ?_
   refine Cc _ rfl (fun hc4945 => ?_) (fun hc4945 => ?_)
   rw [if_pos hc4945] at hm
   refine Cg<|Ts rfl (sL 6 rfl one70 rfl rfl)<|M rfl rfl ?_
   obtain ⟨_, h4946, hm⟩ := bS hm
   have h4946 := (kS h4946).2
   refine Ts rfl (sa rfl rfl h4946) ?_
   obtain ⟨⟨l4947, l4948, l4949, l4950⟩, hcl4951, hm⟩ := bS hm
   have hm := (unc4E hm)
   refine t_pullb 6 rfl<|t_pullb 6 rfl<|t_pullb 6 rfl<|t_pullb 6 rfl<|t_pullb 6 rfl<|t_pullb 6 rfl<|t_pullb 9 rfl<|t_pullb 9 rfl<|t_pullb 8 rfl<|t_pullb 9 rfl ?_
   refine t_front5 [_, _, _, _, _, _, _, _, _, _] S j a c d (f ++ (g ++ R)) rfl<|t_front5 [_, _, _, _, _, _, _, _, _, _] d S j a c (f ++ (g ++ R)) rfl<|t_front3 [_, _, _, _, _, _, _, _, _, _] c d S (j ++ (a ++ (f ++ (g ++ R)))) rfl<|t_front5 [_, _, _, _, _, _, _, _, _, _] S c d j a (f ++ (g ++ R)) rfl<|t_front7 [_, _, _, _, _, _, _, _, _, _] a S c d j f g R rfl<|t_front6 [_, _, _, _, _, _, _, _, _, _] g a S c d j (f ++ R) rfl<|t_front7 [_, _, _, _, _, _, _, _, _, _] j g a S c d f R rfl<|t_out7 [_, _, _, _, _, _, _, _, _, _] [] f j g a S c d R rfl<|Tv #[] #[pb H, pb z, pb I, pb J, pb A, pb B, pb C, pb D, pb E, pb F] [iv (al + 1)] rfl rfl call31 rfl (ih _ _ T (hb0.trans (x.trans (L.trans (G.trans Z)))) (al + 1) W aa ab ac ad ae af ag l4483 l4482 l4485 X l4705 l63 l64 H z I J A B C D E F ah ai az c4472 f A4466 c4467 j A4476 c4477 g am an a t y S ao c aq d (h47.le (x.trans (L.trans (G.trans Z)))) (h4473.le (G.trans Z)) hnz4484 (h4468.le (G.trans Z)) (h4478.le (G.trans Z)) (h20.le (x.trans (L.trans (G.trans Z)))) h4704 hnz4707 (h29.le (x.trans (L.trans (G.trans Z)))) (h33.le (x.trans (L.trans (G.trans Z)))) l4947 l4948 l4949 l4950 hcl4951) ?_
   rintro _ b4952 _ hle4953 ⟨A4954, c4955, hs4956, hs4957, A4958, c4959, hs4960, A4961, c4962, hs4963, rfl, rfl, h4964, h4965, h4966, h4967, h4968, h4969, h4970⟩
   refine t_in7 [_, _, _, _, _, _, _, _, _, _] [] hs4956 a hs4957 c d hs4960 hs4963 R rfl<|Tr 36 rfl (v' := sv t l4948 y) (by show Value.slice _ _ _ = Value.slice _ _ _; rw [h4966])<|t_hresp 4 rfl (o' := Cl 23 [sv t l4948 y]) (by simp only [sv, h4966])<|Tn ?_
   obtain ⟨rfl, rfl, rfl, rfl⟩ := some4 hm
   refine Xp 3 rfl<|Xp 3 rfl<|Xp 2 rfl<|Xp 9 rfl<|Xp 9 rfl<|Xp 9 rfl<|Xp 9 rfl<|Xp 9 rfl<|Xp 9 rfl<|Xp 9 rfl ?_
   refine x_front7 [_, _, _, _, _, _, _, _, _, _] hs4956 a hs4957 c d hs4960 hs4963 R rfl<|x_front7 [_, _, _, _, _, _, _, _, _, _] hs4963 hs4956 a hs4957 c d hs4960 R rfl<|x_front7 [_, _, _, _, _, _, _, _, _, _] hs4960 hs4963 hs4956 a hs4957 c d R rfl<|x_front7 [_, _, _, _, _, _, _, _, _, _] d hs4960 hs4963 hs4956 a hs4957 c R rfl<|X6 [_, _, _, _, _, _, _, _, _, _] c d hs4960 hs4963 hs4956 a (hs4957 ++ R) rfl<|X6 [_, _, _, _, _, _, _, _, _, _] a c d hs4960 hs4963 hs4956 (hs4957 ++ R) rfl<|x_front7 [_, _, _, _, _, _, _, _, _, _] hs4956 a c d hs4960 hs4963 hs4957 R rfl ?_
   exact xJ ⟨hs4957, A4954, c4955, hs4956, A4958, c4959, hs4960, A4961, c4962, hs4963, rfl, rfl, hle4953, h4965, (h4966.trans hln4706), h4967, h4964, h4968, h4969, h4970⟩ (.refl _)
   rw [if_neg (fun hh => Bool.noConfusion (hh.symm.trans hc4945))] at hm
   refine Ck ?_
   obtain ⟨rfl, rfl, rfl, rfl⟩ := some4 hm
   refine Xp 9 rfl<|Xp 9 rfl<|Xp 9 rfl<|Xp 9 rfl<|Xp 9 rfl<|Xp 9 rfl<|Xp 9 rfl<|Xp 9 rfl<|Xp 9 rfl<|Xp 9 rfl ?_
   refine x_front7 [_, _, _, _, _, _, _, _, _, _] S j a c d f g R rfl<|x_front7 [_, _, _, _, _, _, _, _, _, _] g S j a c d f R rfl<|x_front7 [_, _, _, _, _, _, _, _, _, _] f g S j a c d R rfl<|x_front7 [_, _, _, _, _, _, _, _, _, _] d f g S j a c R rfl<|x_front7 [_, _, _, _, _, _, _, _, _, _] c d f g S j a R rfl<|x_front7 [_, _, _, _, _, _, _, _, _, _] a c d f g S j R rfl<|x_front7 [_, _, _, _, _, _, _, _, _, _] j a c d f g S R rfl ?_
   exact xJ ⟨S, A4466, c4467, j, az, c4472, f, A4476, c4477, g, rfl, rfl, lr, h4704, hln4706, hnz4707, (h4468.le (G.trans Z)), (h4473.le (G.trans Z)), hnz4484, (h4478.le (G.trans Z))⟩ (.refl _)
   exact Rn
   rintro b4873 _ _ ⟨hs4876, A4880, c4881, av, A4885, c4886, aw, A4890, c4891, ax, rfl, rfl, hle4874, h4877, hln4894, hnz4895, h4882, h4887, hnz4898, h4892⟩
   have hm := (unc4E hk4900)
   refine Cg<|Ts rfl (sL 1 rfl one23 rfl rfl)<|M rfl rfl<|M rfl rfl ?_
   obtain ⟨x4971, h4972, hm⟩ := bS hm
   obtain ⟨j4973, hj4974, hx4975⟩ := iS h4972
   obtain ⟨cs4976, hs4981, P4982, P4983, hq4984, hr4977, hcs4978, hA4979, hlt4980, hb4985, hho4986⟩ := OS.get (sz := 1) rfl (by decide) h4877 hx4975
   obtain ⟨⟨A4987, c4988, rfl, h4989, h4990⟩, rfl⟩ := hr4977
   refine Ts rfl (sI j4973 rfl rfl hj4974 hlt4980 hA4979 sl23)<|Do rfl (uP hj4974 (sz := 1) (a' := x4489) rfl [_, _, _, _, _, _, _, _, _, _] (av ++ (a ++ (c ++ (d ++ (aw ++ (ax ++ R)))))) 0 1 [sv A4505 x4489 c4506] rfl h4877 hx4975 rfl rfl rfl siz42 rfl (mc rfl mn) (fun cs hsj hh => by obtain ⟨⟨A4993, c4994, rfl, h4995, h4996⟩, rfl⟩ := hh; exact ⟨by first | decide | exact Nat.le_refl _, (RT.own1_mk (h4507.le (G.trans (Z.trans hle4874))) (Own1.mono h4508 (G.trans (Z.trans hle4874)).cells)), rfl⟩)) ?_
   rintro _ _ ⟨hs4991, rfl, h4992⟩
   refine Tr 36 rfl (v' := .slice t (put l4893 (K : Int) x4489).length y) (by simp only [put_length])<|t_hresp 1 rfl (o' := Cl 23 [.slice t (put l4893 (K : Int) x4489).length y]) (by simp only [put_length])<|Tn<|Xm<|Xn<|Cg<|Ts rfl (sa rfl rfl (by omega))<|M rfl rfl<|Tn<|Xp 9 rfl ?_
   refine Xp 9 rfl<|Xp 9 rfl<|Xp 9 rfl<|Xp 9 rfl<|Xp 9 rfl<|Xp 9 rfl<|Xp 9 rfl<|Xp 9 rfl<|Xp 9 rfl<|x_front7 [_, _, _, _, _, _, _, _, _, _] hs4991 av a c d aw ax R rfl ?_
   refine x_front7 [_, _, _, _, _, _, _, _, _, _] ax hs4991 av a c d aw R rfl<|x_front7 [_, _, _, _, _, _, _, _, _, _] aw ax hs4991 av a c d R rfl<|x_front7 [_, _, _, _, _, _, _, _, _, _] d aw ax hs4991 av a c R rfl<|x_front7 [_, _, _, _, _, _, _, _, _, _] c d aw ax hs4991 av a R rfl<|x_front7 [_, _, _, _, _, _, _, _, _, _] a c d aw ax hs4991 av R rfl<|x_front7 [_, _, _, _, _, _, _, _, _, _] av a c d aw ax hs4991 R rfl ?_
   obtain rfl := o1 hm
   exact xS ⟨hs4991, A4880, c4881, av, A4885, c4886, aw, A4890, c4891, ax, rfl, rfl, ((L.trans (G.trans (Z.trans hle4874)))), h4992, ((put_length _ _ _).trans hln4894), (put_nz hnz4895), h4882, h4887, hnz4898, h4892⟩ (.refl _)
   rintro b4459 _ _ ⟨s, A4466, c4467, j, az, c4472, f, A4476, c4477, g, rfl, rfl, L, h4463, hln4480, hnz4481, h4468, h4473, hnz4484, h4478⟩
   have hm := (unc4E hk4488)
   refine Cr<|Ts rfl (lF rfl rfl (by omega))<|Te<|Cs<|c_cond_f rfl<|Ce<|Xe<|Xe<|Xo<|Xn ?_
   refine Cr<|Ts rfl (sL 0 rfl one42 rfl rfl)<|M rfl rfl<|Do rfl (u_bslice (el := 3) [(0, iv u)] [iv u] rfl (fun _ => by kernel_rfl)) ?_
   rintro _ _ ⟨g4997, rfl, rfl⟩
   obtain ⟨_, h4998, hm⟩ := bS hm
   have h4998 := room_some h4998
   refine t_front2 [_, _, _, _, _, _, _, _, _, _, _] s j (a ++ (c ++ (d ++ (f ++ (g ++ R))))) rfl<|Do rfl (uQ (r := rI) (l := l4482) [_, _, _, _, _, _, _, _, _, _, _] (s ++ (a ++ (c ++ (d ++ (f ++ (g ++ R)))))) [[iv u]] [u] rfl (by decide) sl42 inf3 rfl rfl rfl rfl h4468 rfl (fun w ho => Rd.own (i := 0) ho rfl) ⟨rfl, trivial⟩ h4998) ?_
   rintro _ _ ⟨hs4999, rfl, h5000⟩
   obtain ⟨A5001, c5002, rfl, _⟩ := h5000.form
   refine Do rfl (uS 1 rfl rfl siz42 rfl rfl (by simp)) ?_
   rintro _ _ rfl
   refine Te<|Cr<|Ts rfl (sL 7 rfl one70 rfl rfl)<|M rfl rfl ?_
   obtain ⟨_, h5003, hm⟩ := bS hm
   have h5003 := (kS h5003).2
   refine Ts rfl (sa rfl rfl h5003) ?_
   obtain ⟨⟨l5004, l5005, l5006, l5007⟩, hcl5008, hm⟩ := bS hm
   obtain ⟨Nhcl5008, hcl5008⟩ := lim_some hcl5008
   have hm := (unc4E hm)
   refine t_pullb 7 rfl<|t_pullb 7 rfl<|t_pullb 7 rfl<|t_pullb 7 rfl<|t_pullb 7 rfl<|t_pullb 7 rfl<|t_pullb 10 rfl<|t_pullb 10 rfl<|t_pullb 9 rfl<|t_pullb 10 rfl ?_
   refine t_front5 [_, _, _, _, _, _, _, _, _, _, _] hs4999 s a c d (f ++ (g ++ R)) rfl<|t_front5 [_, _, _, _, _, _, _, _, _, _, _] d hs4999 s a c (f ++ (g ++ R)) rfl<|t_front4 [_, _, _, _, _, _, _, _, _, _, _] c d hs4999 s (a ++ (f ++ (g ++ R))) rfl<|t_front5 [_, _, _, _, _, _, _, _, _, _, _] s c d hs4999 a (f ++ (g ++ R)) rfl<|t_front7 [_, _, _, _, _, _, _, _, _, _, _] a s c d hs4999 f g R rfl<|t_front6 [_, _, _, _, _, _, _, _, _, _, _] g a s c d hs4999 (f ++ R) rfl<|t_front7 [_, _, _, _, _, _, _, _, _, _, _] hs4999 g a s c d f R rfl<|t_out7 [_, _, _, _, _, _, _, _, _, _] [_] f hs4999 g a s c d R rfl<|Tv #[] #[pb H, pb z, pb I, pb J, pb A, pb B, pb C, pb D, pb E, pb F] [iv (al + 1)] rfl rfl call31 rfl (cFleetStandIns_1_2 Nhcl5008 _ _ T (hb0.trans (x.trans L)) (al + 1) W aa ab ac ad ae af ag l4483 (l4482 ++ [u]) l4485 X Y l63 l64 H z I J A B C D E F ah ai az c4472 f A5001 c5002 hs4999 A4476 c4477 g am an a t y s ao c aq d (h47.le (x.trans L)) h4473 hnz4484 h5000 (OS.nz h5000 (by simp)) h4478 (h20.le (x.trans L)) h4463 hnz4481 (h29.le (x.trans L)) (h33.le (x.trans L)) l5004 l5005 l5006 l5007 hcl5008) ?_
   rintro _ b5009 _ hle5010 ⟨A5011, c5012, hs5013, hs5014, A5015, c5016, hs5017, A5018, c5019, hs5020, rfl, rfl, h5021, h5022, h5023, h5024, h5025, h5026, h5027⟩
   refine t_in7 [_, _, _, _, _, _, _, _, _, _] [_] hs5013 a hs5014 c d hs5017 hs5020 R rfl<|t_hresp 4 rfl (o' := Cl 23 [sv t l5005 y]) (by simp only [sv, h5023])<|Te<|Cg<|Ts rfl (sL 1 rfl one42 rfl rfl)<|Ts rfl (sL 1 rfl one42 rfl rfl)<|Ts rfl (sE rfl sl42) ?_
   obtain ⟨_, h5028, hm⟩ := bS hm
   have h5028 := (kS h5028).2
   refine Ts rfl (sb rfl rfl h5028) ?_
   obtain ⟨l5029, h5030, hm⟩ := bS hm
   obtain ⟨j5031, j5032, hj5033, hj5034, hj5035, hj5036, hx5037⟩ := cutS_some h5030
   have h5038 := OS.lc h5021
   refine Ts rfl (hx5037 ▸ st_part (l := l5004) j5031 j5032 rfl (.inl ⟨rfl, by omega⟩) (.inr ⟨_, _, _, rfl, rfl, hj5034⟩) hj5035 hj5036 h5038 sl42) ?_
   obtain ⟨hs5039, hq5040, h5041⟩ := OS.sub (sz := 1) rfl h5021 hj5035 hj5036
   rw [← hx5037] at h5041
   refine t_less [_, _, _, _, _, _, _, _, _, _, _] hs5013 hs5039 (a ++ (hs5014 ++ (c ++ (d ++ (hs5017 ++ (hs5020 ++ R)))))) rfl hq5040<|Do rfl (uS 1 rfl rfl siz42 rfl rfl (by simp)) ?_
   rintro _ _ rfl
   refine Tn ?_
   obtain ⟨rfl, rfl, rfl, rfl⟩ := some4 hm
   refine Xp 9 rfl<|Xp 9 rfl<|Xp 9 rfl<|Xp 9 rfl<|Xp 9 rfl<|Xp 9 rfl<|Xp 9 rfl<|Xp 9 rfl<|Xp 9 rfl<|Xp 9 rfl ?_
   refine x_front7 [_, _, _, _, _, _, _, _, _, _, _] hs5039 a hs5014 c d hs5017 hs5020 R rfl<|x_front7 [_, _, _, _, _, _, _, _, _, _, _] hs5020 hs5039 a hs5014 c d hs5017 R rfl<|x_front7 [_, _, _, _, _, _, _, _, _, _, _] hs5017 hs5020 hs5039 a hs5014 c d R rfl<|x_front7 [_, _, _, _, _, _, _, _, _, _, _] d hs5017 hs5020 hs5039 a hs5014 c R rfl<|x_front7 [_, _, _, _, _, _, _, _, _, _, _] c d hs5017 hs5020 hs5039 a hs5014 R rfl<|x_front7 [_, _, _, _, _, _, _, _, _, _, _] hs5014 c d hs5017 hs5020 hs5039 a R rfl<|x_front7 [_, _, _, _, _, _, _, _, _, _, _] a hs5014 c d hs5017 hs5020 hs5039 R rfl ?_
   exact endM (x.trans (L.trans hle5010)) rfl (.cons_cons _ (.cons_cons _ (.cons_cons _ (.cons_cons _ (.cons_cons _ (.cons_cons _ (.cons_cons _ (.cons_cons _ (.cons_cons _ (.cons_cons _ (.cons _ (.refl _)))))))))))) ⟨(subA A5011 c5012 j5031 1), (c5012 - j5031), hs5039, hs5014, A5015, c5016, hs5017, A5018, c5019, hs5020, rfl, rfl, h5041, h5022, (h5023.trans hln4480), h5024, h5025, h5026, h5027⟩

set_option maxHeartbeats 1000000 in
set_option maxRecDepth 20000 in
theorem cFleetStandIns_1 : ∀ (N : Nat) (b : Base) (R : Hp) (T : Base) (hb0 : T.Le b) (al : Int) (W : (List FleetShift)) (aa : Int) (ab : Int) (ac : Int) (ad : Int) (ae : Int) (af : Int) (ag : Int) (l56 : (List (List Int))) (ay : (List Int)) (l60 : (List Int)) (X : (List Int)) (O : (List (List Int))) (l65 : (List (Int × Int))) (l66 : (List (FleetAbsence × Bool))) (H : Nat) (z : Nat) (I : Nat) (J : Nat) (A : Nat) (B : Nat) (C : Nat) (D : Nat) (E : Nat) (F : Nat) (ah : OA) (ai : Nat) (A3 : OA) (c4 : Nat) (n : Hp) (A8 : OA) (c9 : Nat) (m : Hp) (A13 : OA) (c14 : Nat) (p : Hp) (am : OA) (an : Nat) (a : Hp) (t : OA) (y : Nat) (q : Hp) (ao : Nat) (c : Hp) (aq : Nat) (d : Hp) (h47 : FZ rFleetShift b.w ah ai W) (h5 : OS 42 (OT.fr (RT.own1 T 3 rI)) b.w (sv A3 l56 c4) l56 n) (hnz57 : (A3 = none ↔ l56 = [])) (h10 : OS 3 (OT.fr rI) b.w (sv A8 ay c9) ay m) (hnz59 : (A8 = none ↔ ay = [])) (h15 : OS 3 (OT.fr rI) b.w (sv A13 l60 c14) l60 p) (hnz61 : (A13 = none ↔ l60 = [])) (h20 : OS 3 (OT.fr rI) b.w (sv am X an) X a) (h25 : OS 42 (OT.fr (RT.own1 T 3 rI)) b.w (sv t O y) O q) (hnz64 : (t = none ↔ O = [])) (h29 : OM rI (OT.fr rI) false false b.w ao l65 c) (h33 : OM rFleetAbsence (OT.fr RT.bool) true false b.w aq l66 d) (l5501 : (List Int)) (l5502 : (List (List Int))) (l5505 : (List (List Int))) (l5507 : (List Int)) (hm : mFleetStandIns_1 N al W aa ab ac ad ae af ag l56 ay l60 X O l65 l66 = some (l5501, l5502, l5505, l5507)),
    CallsG Try.prog 31 [iv al, pb H, pb z, pb I, pb J, pb A, pb B, pb C, pb D, pb E, pb F] b ((H, Cl 23 [sv A3 l56 c4]) :: (z, Cl 42 [sv A8 ay c9]) :: (I, Cl 42 [sv A13 l60 c14]) :: (J, Cl 42 [sv am X an]) :: (A, Cl 23 [sv t O y]) :: (B, Cl 77 [.map (some ao)]) :: (C, Cl 76 [.map (some aq)]) :: (D, Cl 45 [sv ah W ai]) :: (E, Cl 27 [iv aa, iv ab, iv ac, iv ad, iv ae, iv af, iv ag]) :: (F, Cl 70 [.func (.func 31) #[] #[pb H, pb z, pb I, pb J, pb A, pb B, pb C, pb D, pb E, pb F]]) :: (n ++ (m ++ (p ++ (a ++ (q ++ (c ++ (d ++ R)))))))) (fun v b' hp' => ∃ (A5485 : OA), ∃ (c5486 : Nat), ∃ (hs5484 : Hp), ∃ (hs5489 : Hp), ∃ (A5493 : OA), ∃ (c5494 : Nat), ∃ (hs5492 : Hp), ∃ (A5498 : OA), ∃ (c5499 : Nat), ∃ (hs5497 : Hp), .tuple #[] = v ∧ (H, Cl 23 [sv A5493 l5505 c5494]) :: (z, Cl 42 [sv A5485 l5501 c5486]) :: (I, Cl 42 [sv A5498 l5507 c5499]) :: (J, Cl 42 [sv am X an]) :: (A, Cl 23 [sv t l5502 y]) :: (B, Cl 77 [.map (some ao)]) :: (C, Cl 76 [.map (some aq)]) :: (D, Cl 45 [sv ah W ai]) :: (E, Cl 27 [iv aa, iv ab, iv ac, iv ad, iv ae, iv af, iv ag]) :: (F, Cl 70 [.func (.func 31) #[] #[pb H, pb z, pb I, pb J, pb A, pb B, pb C, pb D, pb E, pb F]]) :: (hs5484 ++ (a ++ (hs5489 ++ (c ++ (d ++ (hs5492 ++ (hs5497 ++ R))))))) = hp' ∧ OS 3 (OT.fr rI) b'.w (sv A5485 l5501 c5486) l5501 hs5484 ∧ OS 42 (OT.fr (RT.own1 T 3 rI)) b'.w (sv t l5502 y) l5502 hs5489 ∧ l5502.length = O.length ∧ (t = none ↔ l5502 = []) ∧ OS 42 (OT.fr (RT.own1 T 3 rI)) b'.w (sv A5493 l5505 c5494) l5505 hs5492 ∧ (A5493 = none ↔ l5505 = []) ∧ OS 3 (OT.fr rI) b'.w (sv A5498 l5507 c5499) l5507 hs5497) := by
  intro N
  induction N with
  | zero =>
    intro b R T hb0 al W aa ab ac ad ae af ag l56 ay l60 X O l65 l66 H z I J A B C D E F ah ai A3 c4 n A8 c9 m A13 c14 p am an a t y q ao c aq d h47 h5 hnz57 h10 hnz59 h15 hnz61 h20 h25 hnz64 h29 h33 l5501 l5502 l5505 l5507 hm
    unfold mFleetStandIns_1 at hm
    cases hm
  | succ N ih =>
   intro b R T hb0 al W aa ab ac ad ae af ag l56 ay l60 X O l65 l66 H z I J A B C D E F ah ai A3 c4 n A8 c9 m A13 c14 p am an a t y q ao c aq d h47 h5 hnz57 h10 hnz59 h15 hnz61 h20 h25 hnz64 h29 h33 l5501 l5502 l5505 l5507 hm
   refine fE 96 Try.func31 rfl Try.ntmps31 rfl ?_
   unfold mFleetStandIns_1 at hm
   dsimp only at hm
   refine Cs ?_
   obtain ⟨x5511, hj5512, hk5512⟩ := bS hm
   refine Cj (fun b5509 e' hp' => [(0, iv al), (1, pb H), (2, pb z), (3, pb I), (4, pb J), (5, pb A), (6, pb B), (7, pb C), (8, pb D), (9, pb E), (10, pb F), (23, bv x5511)] = e' ∧ (H, Cl 23 [sv A3 l56 c4]) :: (z, Cl 42 [sv A8 ay c9]) :: (I, Cl 42 [sv A13 l60 c14]) :: (J, Cl 42 [sv am X an]) :: (A, Cl 23 [sv t O y]) :: (B, Cl 77 [.map (some ao)]) :: (C, Cl 76 [.map (some aq)]) :: (D, Cl 45 [sv ah W ai]) :: (E, Cl 27 [iv aa, iv ab, iv ac, iv ad, iv ae, iv af, iv ag]) :: (F, Cl 70 [.func (.func 31) #[] #[pb H, pb z, pb I, pb J, pb A, pb B, pb C, pb D, pb E, pb F]]) :: (n ++ (m ++ (p ++ (a ++ (q ++ (c ++ (d ++ R))))))) = hp' ∧ b.Le b5509) ?_ ?_
   have hm := hj5512
   refine Cg<|Ts rfl (sL 0 rfl one23 rfl rfl)<|Ts rfl (st_neqnil_z rfl rfl hnz57 sl23) ?_
   rcases Bool.eq_false_or_eq_true (!l56.isEmpty) with hc5513 | hc5513
   rw [if_neg (fun hh => Bool.noConfusion (hh.symm.trans (nt hc5513)))] at hm
   refine Tr 16 rfl (v' := .bool true) (by rw [hc5513] <;> rfl)<|M rfl rfl<|Ys 17 rfl rfl rfl<|Ts rfl (sL 1 rfl one42 rfl rfl)<|Ys 17 rfl rfl rfl<|Ts rfl (sE rfl sl42)<|Ys 17 rfl rfl rfl<|Ts rfl (sL 2 rfl one42 rfl rfl)<|Ys 17 rfl rfl rfl<|Ts rfl (sE rfl sl42) ?_
   refine Ys 17 rfl rfl rfl<|Ts rfl (q6 rfl rfl)<|Ts rfl (pT rfl rfl)<|Tn ?_
   obtain rfl := o1 hm
   refine Xp 9 rfl<|Xp 9 rfl<|Xp 9 rfl<|Xp 9 rfl<|Xp 9 rfl<|Xp 9 rfl<|Xp 9 rfl<|Xp 9 rfl<|Xp 9 rfl<|Xp 9 rfl ?_
   refine x_front7 [_, _, _, _, _, _, _, _, _, _] n m p a q c d R rfl<|x_front7 [_, _, _, _, _, _, _, _, _, _] d n m p a q c R rfl<|x_front7 [_, _, _, _, _, _, _, _, _, _] c d n m p a q R rfl<|x_front7 [_, _, _, _, _, _, _, _, _, _] q c d n m p a R rfl<|x_front7 [_, _, _, _, _, _, _, _, _, _] a q c d n m p R rfl<|x_front7 [_, _, _, _, _, _, _, _, _, _] p a q c d n m R rfl<|x_front7 [_, _, _, _, _, _, _, _, _, _] m p a q c d n R rfl ?_
   exact xJ ⟨rfl, rfl, lr⟩ (.refl _)
   rw [if_pos (nf hc5513)] at hm
   refine Tr 16 rfl (v' := .bool false) (by rw [hc5513] <;> rfl)<|M rfl rfl<|No 17 rfl rfl rfl rfl rfl<|No 17 rfl rfl rfl rfl rfl<|No 17 rfl rfl rfl rfl rfl<|No 17 rfl rfl rfl rfl rfl<|No 17 rfl rfl rfl rfl rfl<|Ts rfl (pF rfl rfl)<|Tn ?_
   obtain rfl := o1 hm
   refine Xp 9 rfl<|Xp 9 rfl<|Xp 9 rfl<|Xp 9 rfl<|Xp 9 rfl<|Xp 9 rfl<|Xp 9 rfl<|Xp 9 rfl<|Xp 9 rfl<|Xp 9 rfl ?_
   refine x_front7 [_, _, _, _, _, _, _, _, _, _] n m p a q c d R rfl<|x_front7 [_, _, _, _, _, _, _, _, _, _] d n m p a q c R rfl<|x_front7 [_, _, _, _, _, _, _, _, _, _] c d n m p a q R rfl<|x_front7 [_, _, _, _, _, _, _, _, _, _] q c d n m p a R rfl<|x_front7 [_, _, _, _, _, _, _, _, _, _] a q c d n m p R rfl<|x_front7 [_, _, _, _, _, _, _, _, _, _] p a q c d n m R rfl<|x_front7 [_, _, _, _, _, _, _, _, _, _] m p a q c d n R rfl ?_
   exact xJ ⟨rfl, rfl, lr⟩ (.refl _)
   rintro b5509 _ _ ⟨rfl, rfl, x⟩
   have hm := hk5512
   refine Cc _ rfl (fun hc5514 => ?_) (fun hc5514 => ?_)
   rw [if_pos hc5514] at hm
   refine Ct<|Xr ?_
   obtain ⟨rfl, rfl, rfl, rfl⟩ := some4 hm
   refine Xp 9 rfl<|Xp 9 rfl<|Xp 9 rfl<|Xp 9 rfl<|Xp 9 rfl<|Xp 9 rfl<|Xp 9 rfl<|Xp 9 rfl<|Xp 9 rfl<|Xp 9 rfl ?_
   refine X3 [_, _, _, _, _, _, _, _, _, _] n m p (a ++ (q ++ (c ++ (d ++ R)))) rfl<|X2 [_, _, _, _, _, _, _, _, _, _] p n (m ++ (a ++ (q ++ (c ++ (d ++ R))))) rfl<|x_front7 [_, _, _, _, _, _, _, _, _, _] n p m a q c d R rfl<|x_front7 [_, _, _, _, _, _, _, _, _, _] d n p m a q c R rfl<|x_front7 [_, _, _, _, _, _, _, _, _, _] c d n p m a q R rfl<|x_front7 [_, _, _, _, _, _, _, _, _, _] q c d n p m a R rfl<|x_front7 [_, _, _, _, _, _, _, _, _, _] a q c d n p m R rfl ?_
   have he5515 := (h10.le x)
   have he5516 := (h25.le x)
   have he5517 := (h5.le x)
   have he5518 := (h15.le x)
   exact rM (rs := []) (vs := []) trivial ⟨A8, c9, m, q, A3, c4, n, A13, c14, p, rfl, rfl, he5515, he5516, rfl, hnz64, he5517, hnz57, he5518⟩ (.refl _) x
   rw [if_neg (fun hh => Bool.noConfusion (hh.symm.trans hc5514))] at hm
   refine Ck<|Xn<|Cs<|Cr<|M rfl rfl<|Ts rfl (sL 3 rfl one42 rfl rfl)<|Ts rfl (sE rfl sl42)<|Ts rfl (q1 rfl rfl)<|Te ?_
   refine Cc _ rfl (fun hc5519 => ?_) (fun hc5519 => ?_)
   rw [if_pos (of_decide_eq_true hc5519)] at hm
   obtain ⟨⟨l5562, l5564⟩, hj5565, hk5565⟩ := bS hm
   refine Cj (fun b5550 e' hp' => ∃ (A5554 : OA), ∃ (c5555 : Nat), ∃ (ar : Hp), ∃ (A5559 : OA), ∃ (c5560 : Nat), ∃ (au : Hp), [] = e' ∧ (H, Cl 23 [sv A5554 l5562 c5555]) :: (z, Cl 42 [sv A8 ay c9]) :: (I, Cl 42 [sv A5559 l5564 c5560]) :: (J, Cl 42 [sv am X an]) :: (A, Cl 23 [sv t O y]) :: (B, Cl 77 [.map (some ao)]) :: (C, Cl 76 [.map (some aq)]) :: (D, Cl 45 [sv ah W ai]) :: (E, Cl 27 [iv aa, iv ab, iv ac, iv ad, iv ae, iv af, iv ag]) :: (F, Cl 70 [.func (.func 31) #[] #[pb H, pb z, pb I, pb J, pb A, pb B, pb C, pb D, pb E, pb F]]) :: (n ++ (m ++ (p ++ (a ++ (q ++ (c ++ (d ++ (ar ++ (au ++ R))))))))) = hp' ∧ b5509.Le b5550 ∧ OS 42 (OT.fr (RT.own1 T 3 rI)) b5550.w (sv A5554 l5562 c5555) l5562 ar ∧ (A5554 = none ↔ l5562 = []) ∧ OS 3 (OT.fr rI) b5550.w (sv A5559 l5564 c5560) l5564 au) ?_ ?_
   have hm := hj5565
   obtain ⟨_, h5581, hm⟩ := bS hm
   obtain ⟨l5586, hcl5587, hm⟩ := bS hm
   obtain ⟨_, h5594, hm⟩ := bS hm
   refine Di mixed (.cons _ (.refl _))<|Es 0 rfl (sL 3 rfl one23 rfl rfl)<|Es 2 rfl (sL 0 rfl one42 rfl rfl)<|Eo ?_
   have h5581 := room_some h5581
   refine Da [1] (by kernel_rfl) rfl ?_
   refine Rd2 lr rfl rfl (u_cloneOwn (r := (RT.own1 T 3 rI)) (l := O) (sz := 1) (by_ := 24) [_, _, _, _, _, _, _, _, _, _] (n ++ (m ++ (p ++ (a ++ (q ++ (c ++ (d ++ R))))))) rfl clSlicesClone_2 call26 rfl rfl (h25.le x) (.cons _ (.cons _ (.cons _ (.cons _ (.cons _ (.cons _ (.cons _ (.cons _ (.cons _ (.cons _ (ss n (ss m (ss p (ss a (List.sublist_append_left _ _))))))))))))))) h5581) ?_ ?_
   rintro _ _ ⟨A5584, c5585, aj, rfl, rfl, h5583⟩
   refine ⟨.inr (.cons _ (.cons_cons _ (.cons_cons _ (.cons_cons _ (.cons_cons _ (.cons_cons _ (.cons_cons _ (.cons_cons _ (.cons_cons _ (.cons_cons _ (ss aj (.refl _)))))))))))), ?_⟩
   refine Da [3] (by kernel_rfl) rfl ?_
   refine Rd2 lr rfl rfl (u_callWF [_, _, _, _, _, _, _, _, _, _] (aj ++ (n ++ (m ++ (p ++ (a ++ (q ++ (c ++ (d ++ R)))))))) _ rfl call27 rfl (fun w ho => cSlicesClone _ [] ay A8 c9 (OS.now (o := (OT.fr rI)) (l := ay) (hs := m) (h10.le x) ho (.cons _ (.cons _ (.cons _ (.cons _ (.cons _ (.cons _ (.cons _ (.cons _ (.cons _ (.cons _ (ss aj (ss n (List.sublist_append_left _ _)))))))))))))) l5586 hcl5587)) ?_ ?_
   rintro _ _ ⟨_, _, rfl, A5588, c5589, hs5590, rfl, hq5593, h5591⟩
   obtain rfl := List.append_cancel_right hq5593
   have h5592 := flat_fz (w' := b5509.w) (fun _ _ _ _ h => h) h5591
   refine ⟨.inr (.cons _ (.cons_cons _ (.cons_cons _ (.cons_cons _ (.cons_cons _ (.cons_cons _ (.cons_cons _ (.cons_cons _ (.cons_cons _ (.cons_cons _ (ss hs5590 (ss aj (.refl _))))))))))))), ?_⟩
   have hnz5595 : (A5584 = none ↔ O = []) := ⟨fun e => absurd e (OS.ne h5583 h5594), fun e => absurd e (some?_some h5594)⟩
   refine Da [4] (by kernel_rfl) rfl ?_
   refine Rd2 lr rfl rfl (uS 0 rfl rfl siz23 rfl rfl (by simp)) ?_ ?_
   rintro _ _ rfl
   refine ⟨.inr (.cons _ (.cons_cons _ (.cons_cons _ (.cons_cons _ (.cons_cons _ (.cons_cons _ (.cons_cons _ (.cons_cons _ (.cons_cons _ (.cons_cons _ (ss hs5590 (ss aj (.refl _))))))))))))), ?_⟩
   refine Da [5] (by kernel_rfl) rfl ?_
   refine Rd2 lr rfl rfl (uS 2 rfl rfl siz42 rfl rfl (by simp)) ?_ ?_
   rintro _ _ rfl
   refine ⟨.inl (by kernel_rfl), ?_⟩
   refine Dd (by kernel_rfl) ?_
   obtain ⟨rfl, rfl⟩ := some2 hm
   refine Xp 9 rfl<|Xp 9 rfl<|Xp 9 rfl<|Xp 9 rfl<|Xp 9 rfl<|Xp 9 rfl<|Xp 9 rfl<|Xp 9 rfl<|Xp 9 rfl<|Xp 9 rfl ?_
   refine X2 [_, _, _, _, _, _, _, _, _, _] hs5590 aj (n ++ (m ++ (p ++ (a ++ (q ++ (c ++ (d ++ R))))))) rfl<|x_front9 [_, _, _, _, _, _, _, _, _, _] aj hs5590 n m p a q c d R rfl<|x_front9 [_, _, _, _, _, _, _, _, _, _] d aj hs5590 n m p a q c R rfl<|x_front9 [_, _, _, _, _, _, _, _, _, _] c d aj hs5590 n m p a q R rfl<|x_front9 [_, _, _, _, _, _, _, _, _, _] q c d aj hs5590 n m p a R rfl<|x_front9 [_, _, _, _, _, _, _, _, _, _] a q c d aj hs5590 n m p R rfl<|x_front9 [_, _, _, _, _, _, _, _, _, _] p a q c d aj hs5590 n m R rfl<|x_front9 [_, _, _, _, _, _, _, _, _, _] m p a q c d aj hs5590 n R rfl ?_
   exact xJ ⟨A5584, c5585, aj, A5588, c5589, hs5590, rfl, rfl, lr, h5583, hnz5595, h5592⟩ (.refl _)
   exact Rn
   exact Rn
   exact Rn
   exact Rn
   rintro b5550 _ _ ⟨A5554, c5555, ar, A5559, c5560, au, rfl, rfl, hle5551, h5556, hnz5563, h5561⟩
   have hm := (unc2E hk5565)
   refine Ct<|Xr ?_
   obtain ⟨rfl, rfl, rfl, rfl⟩ := some4 hm
   refine Xp 9 rfl<|Xp 9 rfl<|Xp 9 rfl<|Xp 9 rfl<|Xp 9 rfl<|Xp 9 rfl<|Xp 9 rfl<|Xp 9 rfl<|Xp 9 rfl<|Xp 9 rfl ?_
   refine x_front9 [_, _, _, _, _, _, _, _, _, _] n m p a q c d ar au R rfl<|x_front9 [_, _, _, _, _, _, _, _, _, _] au n m p a q c d ar R rfl<|x_front9 [_, _, _, _, _, _, _, _, _, _] ar au n m p a q c d R rfl<|x_front9 [_, _, _, _, _, _, _, _, _, _] d ar au n m p a q c R rfl<|x_front9 [_, _, _, _, _, _, _, _, _, _] c d ar au n m p a q R rfl<|x_front9 [_, _, _, _, _, _, _, _, _, _] q c d ar au n m p a R rfl<|x_front8 [_, _, _, _, _, _, _, _, _, _] a q c d ar au n m (p ++ R) rfl ?_
   have he5596 := (h10.le (x.trans hle5551))
   have he5597 := (h25.le (x.trans hle5551))
   exact rM (rs := []) (vs := []) trivial ⟨A8, c9, m, q, A5554, c5555, ar, A5559, c5560, au, rfl, rfl, he5596, he5597, rfl, hnz64, h5556, hnz5563, h5561⟩ (.cons_cons _ (.cons_cons _ (.cons_cons _ (.cons_cons _ (.cons_cons _ (.cons_cons _ (.cons_cons _ (.cons_cons _ (.cons_cons _ (.cons_cons _ (sp m (sp a (sp q (sp c (sp d (sp ar (sp au (ss n (ss p (.refl _)))))))))))))))))))) (x.trans hle5551)
   rw [if_neg (of_decide_eq_false hc5519)] at hm
   refine Ck<|Xn<|Cr<|Ts rfl (sL 3 rfl one42 rfl rfl)<|M rfl rfl ?_
   obtain ⟨u, h5599, hm⟩ := bS hm
   obtain ⟨j5600, hj5601, hx5602⟩ := iS h5599
   obtain ⟨cs5603, hs5608, P5609, P5610, hq5611, hr5604, hcs5605, hA5606, hlt5607, hb5612, hho5613⟩ := OS.get (sz := 1) rfl (by decide) (h20.le x) hx5602
   obtain ⟨rfl, rfl⟩ := hr5604
   refine Ts rfl (sI j5600 rfl rfl hj5601 hlt5607 hA5606 sl42)<|Ts rfl (st_load_rd rfl one3 (fun w ho => hcs5605 w _ ho (.cons _ (.cons _ (.cons _ (.cons _ (.cons _ (.cons _ (.cons _ (.cons _ (.cons _ (.cons _ (ss n (ss m (ss p (List.sublist_append_left _ _)))))))))))))) 0 _ rfl))<|As rfl rfl<|Te<|Cs<|Cr<|Ts rfl (sL 4 rfl one23 rfl rfl)<|Ts rfl (sE rfl sl23)<|M rfl rfl<|Te ?_
   refine Cb ?_
   have hb5615 : O.length ≤ 9223372036854775807 := (OS.len h25)
   refine Cp 3 rfl<|Cp 3 rfl<|Cp 2 rfl<|Cp 9 rfl<|Cp 9 rfl<|Cp 9 rfl<|Cp 9 rfl<|Cp 9 rfl<|Cp 9 rfl<|Cp 9 rfl ?_
   refine c_front3 [_, _, _, _, _, _, _, _, _, _] n m p (a ++ (q ++ (c ++ (d ++ R)))) rfl<|c_front2 [_, _, _, _, _, _, _, _, _, _] p n (m ++ (a ++ (q ++ (c ++ (d ++ R))))) rfl<|c_front7 [_, _, _, _, _, _, _, _, _, _] n p m a q c d R rfl<|c_front7 [_, _, _, _, _, _, _, _, _, _] d n p m a q c R rfl<|c_front6 [_, _, _, _, _, _, _, _, _, _] c d n p m a (q ++ R) rfl<|c_front6 [_, _, _, _, _, _, _, _, _, _] a c d n p m (q ++ R) rfl<|c_front7 [_, _, _, _, _, _, _, _, _, _] m a c d n p q R rfl ?_
   obtain ⟨⟨Y, l6680, l6681, l6683⟩, hl6685, hk6686⟩ := bS hm
   refine cS (fun K => unc4 fun Y l6680 l6681 l6683 => fun b6657 e' hp' => ∃ (s : Hp), ∃ (A6664 : OA), ∃ (c6665 : Nat), ∃ (j : Hp), ∃ (A6669 : OA), ∃ (c6670 : Nat), ∃ (f : Hp), ∃ (A6674 : OA), ∃ (c6675 : Nat), ∃ (g : Hp), [(0, iv al), (2, pb z), (5, pb A), (6, pb B), (7, pb C), (8, pb D), (9, pb E), (10, pb F), (12, iv u), (36, sv t Y y), (37, iv ((O.length : Int))), (38, iv ((K : Int)))] = e' ∧ (z, Cl 42 [sv A6664 l6680 c6665]) :: (A, Cl 23 [sv t Y y]) :: (B, Cl 77 [.map (some ao)]) :: (C, Cl 76 [.map (some aq)]) :: (D, Cl 45 [sv ah W ai]) :: (E, Cl 27 [iv aa, iv ab, iv ac, iv ad, iv ae, iv af, iv ag]) :: (F, Cl 70 [.func (.func 31) #[] #[pb H, pb z, pb I, pb J, pb A, pb B, pb C, pb D, pb E, pb F]]) :: (H, Cl 23 [sv A6669 l6681 c6670]) :: (I, Cl 42 [sv A6674 l6683 c6675]) :: (J, Cl 42 [sv am X an]) :: (s ++ (j ++ (a ++ (c ++ (d ++ (f ++ (g ++ R))))))) = hp' ∧ b5509.Le b6657 ∧ OS 42 (OT.fr (RT.own1 T 3 rI)) b6657.w (sv t Y y) Y s ∧ Y.length = O.length ∧ (t = none ↔ Y = []) ∧ OS 3 (OT.fr rI) b6657.w (sv A6664 l6680 c6665) l6680 j ∧ OS 42 (OT.fr (RT.own1 T 3 rI)) b6657.w (sv A6669 l6681 c6670) l6681 f ∧ (A6669 = none ↔ l6681 = []) ∧ OS 3 (OT.fr rI) b6657.w (sv A6674 l6683 c6675) l6683 g) hl6685 ⟨q, A8, c9, m, A3, c4, n, A13, c14, p, rfl, rfl, lr, (h25.le x), rfl, hnz64, (h10.le x), (h5.le x), hnz57, (h15.le x)⟩ (.refl _) ?_ ?_
   rintro K ⟨Y, l6680, l6681, l6683⟩ b6657 _ _ oL5614 hknL5614 ⟨s, A6664, c6665, j, A6669, c6670, f, A6674, c6675, g, rfl, rfl, L, h6661, hln6678, hnz6679, h6666, h6671, hnz6682, h6676⟩ hstepL5614
   unfold mFleetStandIns_1_L5614 at hstepL5614
   have hm := (unc4E hstepL5614)
   refine Cr<|Ts rfl (lT rfl rfl (by omega))<|Te<|Cs<|c_cond_t rfl<|Ck<|Xn<|Cs<|Cb<|Cr ?_
   refine M rfl rfl ?_
   obtain ⟨x6687, h6688, hm⟩ := bS hm
   obtain ⟨j6689, hj6690, hx6691⟩ := iS h6688
   obtain ⟨cs6692, hs6697, P6698, P6699, hq6700, hr6693, hcs6694, hA6695, hlt6696, hb6701, hho6702⟩ := OS.get (sz := 1) rfl (by decide) h6661 hx6691
   obtain ⟨⟨A6703, c6704, rfl, h6705, h6706⟩, rfl⟩ := hr6693
   refine Ts rfl (sI j6689 rfl rfl hj6690 hlt6696 hA6695 sl23)<|Ts rfl (st_load_rd rfl one42 (fun w ho => hcs6694 w _ ho (.cons _ (.cons _ (.cons _ (.cons _ (.cons _ (.cons _ (.cons _ (.cons _ (.cons _ (.cons _ (List.sublist_append_left _ _))))))))))) 0 _ rfl))<|As rfl rfl<|As rfl rfl<|Te<|Cs ?_
   obtain ⟨x6755, hj6756, hk6756⟩ := bS hm
   refine Cj (fun b6753 e' hp' => [(0, iv al), (2, pb z), (5, pb A), (6, pb B), (7, pb C), (8, pb D), (9, pb E), (10, pb F), (12, iv u), (13, iv ((K : Int))), (14, sv A6703 x6687 c6704), (36, sv t Y y), (37, iv ((O.length : Int))), (38, iv ((K : Int))), (58, bv x6755)] = e' ∧ (z, Cl 42 [sv A6664 l6680 c6665]) :: (A, Cl 23 [sv t Y y]) :: (B, Cl 77 [.map (some ao)]) :: (C, Cl 76 [.map (some aq)]) :: (D, Cl 45 [sv ah W ai]) :: (E, Cl 27 [iv aa, iv ab, iv ac, iv ad, iv ae, iv af, iv ag]) :: (F, Cl 70 [.func (.func 31) #[] #[pb H, pb z, pb I, pb J, pb A, pb B, pb C, pb D, pb E, pb F]]) :: (H, Cl 23 [sv A6669 l6681 c6670]) :: (I, Cl 42 [sv A6674 l6683 c6675]) :: (J, Cl 42 [sv am X an]) :: (s ++ (j ++ (a ++ (c ++ (d ++ (f ++ (g ++ R))))))) = hp' ∧ b6657.Le b6753) ?_ ?_
   have hm := hj6756
   obtain ⟨x6783, h6785, hm⟩ := bS hm
   by_cases hc6786 : (K : Int) = x6783
   rw [if_pos hc6786] at hm
   refine Di mixed (.refl _)<|E0 0 rfl (sM rfl)<|Es 1 rfl (sL 2 rfl one77 rfl rfl)<|E0 2 rfl (sM rfl) ?_
   have hx6784 := Option.some.inj h6785
   obtain ⟨v6780, hv6781, hr6782⟩ := OM.lookF kok3 (z0 := 0) (h29.le (x.trans L)) (key := iv u) (k := u) rfl mapt77 zero3 rfl
   rw [hx6784] at hv6781
   obtain rfl : v6780 = iv x6783 := by have hv6781 : [v6780] = [iv x6783] := hv6781; injection hv6781
   refine Es 3 rfl (st_mlook (ok := false) rfl rfl (fun w ho => hr6782 _ w ho (.cons _ (.cons _ (.cons _ (.cons _ (.cons _ (.cons _ (.cons _ (.cons _ (.cons _ (.cons _ (ss s (ss j (ss a (List.sublist_append_left _ _)))))))))))))) false))<|E0 4 rfl (eT rfl rfl hc6786)<|E0 5 rfl (sM rfl)<|En 6 48 rfl rfl rfl<|En 7 48 rfl rfl rfl<|En 8 48 rfl rfl rfl<|En 9 48 rfl rfl rfl<|En 10 48 rfl rfl rfl<|En 11 48 rfl rfl rfl<|En 12 48 rfl rfl rfl ?_
   refine En 13 48 rfl rfl rfl<|En 14 48 rfl rfl rfl<|E0 15 rfl (pT rfl rfl)<|Eo<|Dd (by kernel_rfl) ?_
   obtain rfl := o1 hm
   refine Xp 9 rfl<|Xp 9 rfl<|Xp 9 rfl<|Xp 9 rfl<|Xp 9 rfl<|Xp 9 rfl<|Xp 9 rfl<|Xp 9 rfl<|Xp 9 rfl<|Xp 9 rfl ?_
   refine x_front7 [_, _, _, _, _, _, _, _, _, _] s j a c d f g R rfl<|x_front7 [_, _, _, _, _, _, _, _, _, _] g s j a c d f R rfl<|x_front7 [_, _, _, _, _, _, _, _, _, _] f g s j a c d R rfl<|x_front7 [_, _, _, _, _, _, _, _, _, _] d f g s j a c R rfl<|x_front7 [_, _, _, _, _, _, _, _, _, _] c d f g s j a R rfl<|x_front7 [_, _, _, _, _, _, _, _, _, _] a c d f g s j R rfl<|x_front7 [_, _, _, _, _, _, _, _, _, _] j a c d f g s R rfl ?_
   exact xJ ⟨rfl, rfl, lr⟩ (.refl _)
   rw [if_neg hc6786] at hm
   obtain ⟨x6787, h6788, hm⟩ := bS hm
   obtain ⟨x6800, h6802, hm⟩ := bS hm
   refine Di mixed (.refl _)<|E0 0 rfl (sM rfl)<|Es 1 rfl (sL 2 rfl one77 rfl rfl)<|E0 2 rfl (sM rfl) ?_
   have hx6784 := Option.some.inj h6785
   obtain ⟨v6780, hv6781, hr6782⟩ := OM.lookF kok3 (z0 := 0) (h29.le (x.trans L)) (key := iv u) (k := u) rfl mapt77 zero3 rfl
   rw [hx6784] at hv6781
   obtain rfl : v6780 = iv x6783 := by have hv6781 : [v6780] = [iv x6783] := hv6781; injection hv6781
   refine Es 3 rfl (st_mlook (ok := false) rfl rfl (fun w ho => hr6782 _ w ho (.cons _ (.cons _ (.cons _ (.cons _ (.cons _ (.cons _ (.cons _ (.cons _ (.cons _ (.cons _ (ss s (ss j (ss a (List.sublist_append_left _ _)))))))))))))) false))<|E0 4 rfl (eF rfl rfl hc6786)<|E0 5 rfl (sM rfl)<|Ey 6 48 rfl (sL 3 rfl one76 rfl rfl)<|Yz 7 48 rfl (sM rfl)<|Ey 8 48 rfl (sL 4 rfl one45 rfl rfl)<|Yz 9 48 rfl (sM rfl) ?_
   obtain ⟨j6789, hj6790, hx6791⟩ := iS h6788
   obtain ⟨cs6792, hr6793, hcs6794, hA6795, hlt6796⟩ := FZ.get (sz := 3) rfl (by decide) (h47.le (x.trans L)) hx6791
   obtain ⟨_, _, rfl, rfl, ⟨_, _, rfl, rfl, rfl⟩⟩ := hr6793
   refine Yz 10 48 rfl (sI j6789 rfl rfl hj6790 hlt6796 hA6795 sl45)<|Yz 11 48 rfl (sQ rfl hA6795 fld47_0)<|Ey 12 48 rfl (sO rfl one3 (hcs6794 0 _ rfl))<|Yz 13 48 rfl (sB (v := .agg #[iv ((K : Int)), iv x6787.Day]) [(0, iv ((K : Int))), (1, iv x6787.Day)] rfl (fun _ => by kernel_rfl)) ?_
   have hx6801 := Option.some.inj h6802
   obtain ⟨v6797, hv6798, hr6799⟩ := OM.lookF kok54 (z0 := false) (h33.le (x.trans L)) (key := .agg #[iv ((K : Int)), iv x6787.Day]) (k := (⟨(K : Int), x6787.Day⟩ : FleetAbsence)) ⟨[iv ((K : Int)), iv x6787.Day], rfl, ⟨[iv ((K : Int))], _, rfl, rfl, rfl⟩⟩ mapt76 zero4 rfl
   rw [hx6801] at hv6798
   obtain rfl : v6797 = bv x6800 := by have hv6798 : [v6797] = [bv x6800] := hv6798; injection hv6798
   refine Ey 14 48 rfl (st_mlook (ok := false) rfl rfl (fun w ho => hr6799 _ w ho (.cons _ (.cons _ (.cons _ (.cons _ (.cons _ (.cons _ (.cons _ (.cons _ (.cons _ (.cons _ (ss s (ss j (ss a (ss c (List.sublist_append_left _ _))))))))))))))) false))<|E0 15 rfl (pF rfl rfl)<|Eo<|Dd (by kernel_rfl) ?_
   obtain rfl := o1 hm
   refine Xp 9 rfl<|Xp 9 rfl<|Xp 9 rfl<|Xp 9 rfl<|Xp 9 rfl<|Xp 9 rfl<|Xp 9 rfl<|Xp 9 rfl<|Xp 9 rfl<|Xp 9 rfl ?_
   refine x_front7 [_, _, _, _, _, _, _, _, _, _] s j a c d f g R rfl<|x_front7 [_, _, _, _, _, _, _, _, _, _] g s j a c d f R rfl<|x_front7 [_, _, _, _, _, _, _, _, _, _] f g s j a c d R rfl<|x_front7 [_, _, _, _, _, _, _, _, _, _] d f g s j a c R rfl<|x_front7 [_, _, _, _, _, _, _, _, _, _] c d f g s j a R rfl<|x_front7 [_, _, _, _, _, _, _, _, _, _] a c d f g s j R rfl<|x_front7 [_, _, _, _, _, _, _, _, _, _] j a c d f g s R rfl ?_
   exact xJ ⟨rfl, rfl, lr⟩ (.refl _)
   rintro b6753 _ _ ⟨rfl, rfl, G⟩
   have hm := hk6756
   refine Cc _ rfl (fun hc6803 => ?_) (fun hc6803 => ?_)
   rw [if_pos hc6803] at hm
   refine Ce<|Xe<|Xo<|Xn<|Cg<|Ts rfl (sa rfl rfl (by omega))<|M rfl rfl<|Tn<|Xp 9 rfl<|Xp 9 rfl ?_
   refine Xp 9 rfl<|Xp 9 rfl<|Xp 9 rfl<|Xp 9 rfl<|Xp 9 rfl<|Xp 9 rfl<|Xp 9 rfl<|Xp 9 rfl<|x_front7 [_, _, _, _, _, _, _, _, _, _] s j a c d f g R rfl<|x_front7 [_, _, _, _, _, _, _, _, _, _] g s j a c d f R rfl ?_
   refine x_front7 [_, _, _, _, _, _, _, _, _, _] f g s j a c d R rfl<|x_front7 [_, _, _, _, _, _, _, _, _, _] d f g s j a c R rfl<|x_front7 [_, _, _, _, _, _, _, _, _, _] c d f g s j a R rfl<|x_front7 [_, _, _, _, _, _, _, _, _, _] a c d f g s j R rfl<|x_front7 [_, _, _, _, _, _, _, _, _, _] j a c d f g s R rfl ?_
   obtain rfl := o1 hm
   exact xS ⟨s, A6664, c6665, j, A6669, c6670, f, A6674, c6675, g, rfl, rfl, ((L.trans G)), (h6661.le G), hln6678, hnz6679, (h6666.le G), (h6671.le G), hnz6682, (h6676.le G)⟩ (.refl _)
   rw [if_neg (fun hh => Bool.noConfusion (hh.symm.trans hc6803))] at hm
   refine Ck<|Xn ?_
   obtain ⟨l6903, hj6906, hk6906⟩ := bS hm
   refine Cj (fun b6898 e' hp' => ∃ (S : Hp), [(0, iv al), (2, pb z), (5, pb A), (6, pb B), (7, pb C), (8, pb D), (9, pb E), (10, pb F), (12, iv u), (13, iv ((K : Int))), (14, sv A6703 x6687 c6704), (36, sv t l6903 y), (37, iv ((O.length : Int))), (38, iv ((K : Int)))] = e' ∧ (z, Cl 42 [sv A6664 l6680 c6665]) :: (A, Cl 23 [sv t l6903 y]) :: (B, Cl 77 [.map (some ao)]) :: (C, Cl 76 [.map (some aq)]) :: (D, Cl 45 [sv ah W ai]) :: (E, Cl 27 [iv aa, iv ab, iv ac, iv ad, iv ae, iv af, iv ag]) :: (F, Cl 70 [.func (.func 31) #[] #[pb H, pb z, pb I, pb J, pb A, pb B, pb C, pb D, pb E, pb F]]) :: (H, Cl 23 [sv A6669 l6681 c6670]) :: (I, Cl 42 [sv A6674 l6683 c6675]) :: (J, Cl 42 [sv am X an]) :: (S ++ (j ++ (a ++ (c ++ (d ++ (f ++ (g ++ R))))))) = hp' ∧ b6753.Le b6898 ∧ OS 42 (OT.fr (RT.own1 T 3 rI)) b6898.w (sv t l6903 y) l6903 S ∧ l6903.length = O.length ∧ (t = none ↔ l6903 = [])) ?_ ?_
   have hm := hj6906
   obtain ⟨U, hcl6955, hm⟩ := bS hm
   obtain ⟨_, h6963, hm⟩ := bS hm
   obtain ⟨x6968, h6969, hm⟩ := bS hm
   refine Di mixed (.refl _)<|Es 0 rfl (sL 1 rfl one23 rfl rfl)<|E0 1 rfl (sM rfl)<|E0 2 rfl (sM rfl)<|E0 4 rfl (sM rfl)<|Eo<|Da [3, 5] (by kernel_rfl) rfl ?_
   refine Rg lr rfl rfl _ call27 rfl (cSlicesClone _ _ x6687 A6703 c6704 (h6705.le G) U hcl6955) ?_ ?_
   rintro _ b6956 _ ak ⟨A6958, c6959, hs6960, rfl, rfl, h6961⟩
   refine ⟨.inr (ss hs6960 (.refl _)), ?_⟩
   refine d_in1 [] [_, _, _, _, _, _, _, _, _, _] hs6960 (s ++ (j ++ (a ++ (c ++ (d ++ (f ++ (g ++ R))))))) rfl<|Da [5] (by kernel_rfl) rfl ?_
   refine Rd2 ak rfl rfl (u_bslice (el := 3) [(0, iv u)] [iv u] rfl (fun _ => by kernel_rfl)) ?_ ?_
   rintro _ _ ⟨g6962, rfl, rfl⟩
   refine ⟨.inr (.cons _ (.cons_cons _ (.cons_cons _ (.cons_cons _ (.cons_cons _ (.cons_cons _ (.cons_cons _ (.cons_cons _ (.cons_cons _ (.cons_cons _ (.cons_cons _ (ss hs6960 (.refl _))))))))))))), ?_⟩
   have h6963 := room_some h6963
   refine Da [6] (by kernel_rfl) rfl ?_
   refine Rd2 ak rfl rfl (uQ (r := rI) (l := U) [_, _, _, _, _, _, _, _, _, _, _] (s ++ (j ++ (a ++ (c ++ (d ++ (f ++ (g ++ R))))))) [[iv u]] [u] rfl (by decide) sl42 inf3 rfl rfl rfl rfl h6961 rfl (fun w ho => Rd.own (i := 0) ho rfl) ⟨rfl, trivial⟩ h6963) ?_ ?_
   rintro _ _ ⟨hs6964, rfl, h6965⟩
   obtain ⟨A6966, c6967, rfl, _⟩ := h6965.form
   refine ⟨.inr (.cons _ (.cons_cons _ (.cons_cons _ (.cons_cons _ (.cons_cons _ (.cons_cons _ (.cons_cons _ (.cons_cons _ (.cons_cons _ (.cons_cons _ (.cons_cons _ (ss hs6964 (.refl _))))))))))))), ?_⟩
   obtain ⟨j6970, hj6971, hx6972⟩ := iS h6969
   obtain ⟨cs6973, hs6978, P6979, P6980, hq6981, hr6974, hcs6975, hA6976, hlt6977, hb6982, hho6983⟩ := OS.get (sz := 1) rfl (by decide) (h6661.le G) hx6972
   obtain ⟨⟨A6984, c6985, rfl, h6986, h6987⟩, rfl⟩ := hr6974
   refine Ei ak (.cons _ (.cons_cons _ (.cons_cons _ (.cons_cons _ (.cons_cons _ (.cons_cons _ (.cons_cons _ (.cons_cons _ (.cons_cons _ (.cons_cons _ (.cons_cons _ (ss hs6964 (.refl _)))))))))))))<|E0 7 rfl (sI j6970 rfl rfl hj6971 hlt6977 hA6976 sl23)<|Eo<|d_unk [_, _, _, _, _, _, _, _, _, _, _] hs6964 (s ++ (j ++ (a ++ (c ++ (d ++ (f ++ (g ++ R))))))) rfl ?_
   intro hu6990
   have hnz6991 : (A6966 = none ↔ U ++ [u] = []) := (OS.nz h6965 (by simp))
   refine d_frz [_, _, _, _, _, _, _, _, _, _, _] hs6964 (s ++ (j ++ (a ++ (c ++ (d ++ (f ++ (g ++ R))))))) rfl ?_
   intro b6992 hle6993 hz6994
   have h6995 := OS.frz (l := U ++ [u]) h6965 hle6993.cells hz6994
   have h6996 : Own1 T 3 rI b6992.w A6966 c6967 (U ++ [u]) := own1_of (by decide) h6965 hle6993.cells hz6994 hu6990 (hb0.trans (x.trans (L.trans (G.trans ak)))) (fun e => absurd e (by simp))
   refine Da [8] (by kernel_rfl) rfl ?_
   refine Rd2 (ak.trans hle6993) rfl rfl (uP hj6971 (sz := 1) (a' := U ++ [u]) rfl [_, _, _, _, _, _, _, _, _, _, _] (j ++ (a ++ (c ++ (d ++ (f ++ (g ++ R)))))) 0 1 [.slice A6966 (U ++ [u]).length c6967] rfl (h6661.le (G.trans (ak.trans hle6993))) hx6972 rfl rfl rfl siz42 rfl (mc rfl mn) (fun cs hsj hh => by obtain ⟨⟨A6997, c6998, rfl, h6999, h7000⟩, rfl⟩ := hh; exact ⟨by first | decide | exact Nat.le_refl _, (RT.own1_mk h6995 h6996), rfl⟩)) ?_ ?_
   rintro _ _ ⟨V, rfl, h6989⟩
   refine ⟨.inl (by kernel_rfl), ?_⟩
   refine d_resp 36 rfl (v' := .slice t (put Y (K : Int) (U ++ [u])).length y) (by simp only [put_length])<|d_hresp 2 rfl (o' := Cl 23 [.slice t (put Y (K : Int) (U ++ [u])).length y]) (by simp only [put_length])<|Dd (by kernel_rfl) ?_
   obtain rfl := o1 hm
   refine Xp 10 rfl<|Xp 10 rfl<|Xp 10 rfl<|Xp 10 rfl<|Xp 10 rfl<|Xp 10 rfl<|Xp 10 rfl<|Xp 10 rfl<|Xp 10 rfl<|Xp 10 rfl ?_
   refine x_front7 [_, _, _, _, _, _, _, _, _, _, _] V j a c d f g R rfl<|x_front7 [_, _, _, _, _, _, _, _, _, _, _] g V j a c d f R rfl<|x_front7 [_, _, _, _, _, _, _, _, _, _, _] f g V j a c d R rfl<|x_front7 [_, _, _, _, _, _, _, _, _, _, _] d f g V j a c R rfl<|x_front7 [_, _, _, _, _, _, _, _, _, _, _] c d f g V j a R rfl<|x_front7 [_, _, _, _, _, _, _, _, _, _, _] a c d f g V j R rfl<|x_front7 [_, _, _, _, _, _, _, _, _, _, _] j a c d f g V R rfl ?_
   exact xJ ⟨V, rfl, rfl, (ak.trans hle6993), h6989, ((put_length _ _ _).trans hln6678), (put_nz hnz6679)⟩ (.cons_cons _ (.cons_cons _ (.cons_cons _ (.cons_cons _ (.cons_cons _ (.cons_cons _ (.cons_cons _ (.cons_cons _ (.cons_cons _ (.cons_cons _ (.cons _ (.refl _))))))))))))
   exact Rn
   exact Rn
   exact Rn
   refine Rd2 lr rfl rfl (u_bslice (el := 3) [(0, iv u)] [iv u] rfl (fun _ => by kernel_rfl)) ?_ ?_
   rintro _ _ ⟨g6962, rfl, rfl⟩
   refine ⟨.inr (.cons _ (.refl _)), ?_⟩
   refine Da [3] (by kernel_rfl) rfl ?_
   refine Rg lr rfl rfl _ call27 rfl (cSlicesClone _ _ x6687 A6703 c6704 (h6705.le G) U hcl6955) ?_ ?_
   rintro _ b6956 _ ak ⟨A6958, c6959, hs6960, rfl, rfl, h6961⟩
   refine ⟨.inr (ss hs6960 (.cons _ (.refl _))), ?_⟩
   refine d_in1 [] [_, _, _, _, _, _, _, _, _, _, _] hs6960 (s ++ (j ++ (a ++ (c ++ (d ++ (f ++ (g ++ R))))))) rfl ?_
   have h6963 := room_some h6963
   refine Da [6] (by kernel_rfl) rfl ?_
   refine Rd2 ak rfl rfl (uQ (r := rI) (l := U) [_, _, _, _, _, _, _, _, _, _, _] (s ++ (j ++ (a ++ (c ++ (d ++ (f ++ (g ++ R))))))) [[iv u]] [u] rfl (by decide) sl42 inf3 rfl rfl rfl rfl h6961 rfl (fun w ho => Rd.own (i := 0) ho rfl) ⟨rfl, trivial⟩ h6963) ?_ ?_
   rintro _ _ ⟨hs6964, rfl, h6965⟩
   obtain ⟨A6966, c6967, rfl, _⟩ := h6965.form
   refine ⟨.inr (.cons _ (.cons_cons _ (.cons_cons _ (.cons_cons _ (.cons_cons _ (.cons_cons _ (.cons_cons _ (.cons_cons _ (.cons_cons _ (.cons_cons _ (.cons_cons _ (ss hs6964 (.refl _))))))))))))), ?_⟩
   obtain ⟨j6970, hj6971, hx6972⟩ := iS h6969
   obtain ⟨cs6973, hs6978, P6979, P6980, hq6981, hr6974, hcs6975, hA6976, hlt6977, hb6982, hho6983⟩ := OS.get (sz := 1) rfl (by decide) (h6661.le G) hx6972
   obtain ⟨⟨A6984, c6985, rfl, h6986, h6987⟩, rfl⟩ := hr6974
   refine Ei ak (.cons _ (.cons_cons _ (.cons_cons _ (.cons_cons _ (.cons_cons _ (.cons_cons _ (.cons_cons _ (.cons_cons _ (.cons_cons _ (.cons_cons _ (.cons_cons _ (ss hs6964 (.refl _)))))))))))))<|E0 7 rfl (sI j6970 rfl rfl hj6971 hlt6977 hA6976 sl23)<|Eo<|d_unk [_, _, _, _, _, _, _, _, _, _, _] hs6964 (s ++ (j ++ (a ++ (c ++ (d ++ (f ++ (g ++ R))))))) rfl ?_
   intro hu6990
   have hnz6991 : (A6966 = none ↔ U ++ [u] = []) := (OS.nz h6965 (by simp))
   refine d_frz [_, _, _, _, _, _, _, _, _, _, _] hs6964 (s ++ (j ++ (a ++ (c ++ (d ++ (f ++ (g ++ R))))))) rfl ?_
   intro b6992 hle6993 hz6994
   have h6995 := OS.frz (l := U ++ [u]) h6965 hle6993.cells hz6994
   have h6996 : Own1 T 3 rI b6992.w A6966 c6967 (U ++ [u]) := own1_of (by decide) h6965 hle6993.cells hz6994 hu6990 (hb0.trans (x.trans (L.trans (G.trans ak)))) (fun e => absurd e (by simp))
   refine Da [8] (by kernel_rfl) rfl ?_
   refine Rd2 (ak.trans hle6993) rfl rfl (uP hj6971 (sz := 1) (a' := U ++ [u]) rfl [_, _, _, _, _, _, _, _, _, _, _] (j ++ (a ++ (c ++ (d ++ (f ++ (g ++ R)))))) 0 1 [.slice A6966 (U ++ [u]).length c6967] rfl (h6661.le (G.trans (ak.trans hle6993))) hx6972 rfl rfl rfl siz42 rfl (mc rfl mn) (fun cs hsj hh => by obtain ⟨⟨A6997, c6998, rfl, h6999, h7000⟩, rfl⟩ := hh; exact ⟨by first | decide | exact Nat.le_refl _, (RT.own1_mk h6995 h6996), rfl⟩)) ?_ ?_
   rintro _ _ ⟨V, rfl, h6989⟩
   refine ⟨.inl (by kernel_rfl), ?_⟩
   refine d_resp 36 rfl (v' := .slice t (put Y (K : Int) (U ++ [u])).length y) (by simp only [put_length])<|d_hresp 2 rfl (o' := Cl 23 [.slice t (put Y (K : Int) (U ++ [u])).length y]) (by simp only [put_length])<|Dd (by kernel_rfl) ?_
   obtain rfl := o1 hm
   refine Xp 10 rfl<|Xp 10 rfl<|Xp 10 rfl<|Xp 10 rfl<|Xp 10 rfl<|Xp 10 rfl<|Xp 10 rfl<|Xp 10 rfl<|Xp 10 rfl<|Xp 10 rfl ?_
   refine x_front7 [_, _, _, _, _, _, _, _, _, _, _] V j a c d f g R rfl<|x_front7 [_, _, _, _, _, _, _, _, _, _, _] g V j a c d f R rfl<|x_front7 [_, _, _, _, _, _, _, _, _, _, _] f g V j a c d R rfl<|x_front7 [_, _, _, _, _, _, _, _, _, _, _] d f g V j a c R rfl<|x_front7 [_, _, _, _, _, _, _, _, _, _, _] c d f g V j a R rfl<|x_front7 [_, _, _, _, _, _, _, _, _, _, _] a c d f g V j R rfl<|x_front7 [_, _, _, _, _, _, _, _, _, _, _] j a c d f g V R rfl ?_
   exact xJ ⟨V, rfl, rfl, (ak.trans hle6993), h6989, ((put_length _ _ _).trans hln6678), (put_nz hnz6679)⟩ (.cons_cons _ (.cons_cons _ (.cons_cons _ (.cons_cons _ (.cons_cons _ (.cons_cons _ (.cons_cons _ (.cons_cons _ (.cons_cons _ (.cons_cons _ (.cons _ (.refl _))))))))))))
   exact Rn
   exact Rn
   exact Rn
   exact Rn
   rintro b6898 _ _ ⟨S, rfl, rfl, Z, h6902, hln6904, hnz6905⟩
   have hm := hk6906
   obtain ⟨⟨l7091, l7094, l7095, l7097⟩, hj7098, hk7098⟩ := bS hm
   refine Cj (fun b7071 e' hp' => ∃ (hs7074 : Hp), ∃ (A7078 : OA), ∃ (c7079 : Nat), ∃ (av : Hp), ∃ (A7083 : OA), ∃ (c7084 : Nat), ∃ (aw : Hp), ∃ (A7088 : OA), ∃ (c7089 : Nat), ∃ (ax : Hp), [(0, iv al), (2, pb z), (5, pb A), (6, pb B), (7, pb C), (8, pb D), (9, pb E), (10, pb F), (12, iv u), (13, iv ((K : Int))), (14, sv A6703 x6687 c6704), (36, sv t l7091 y), (37, iv ((O.length : Int))), (38, iv ((K : Int)))] = e' ∧ (z, Cl 42 [sv A7078 l7094 c7079]) :: (A, Cl 23 [sv t l7091 y]) :: (B, Cl 77 [.map (some ao)]) :: (C, Cl 76 [.map (some aq)]) :: (D, Cl 45 [sv ah W ai]) :: (E, Cl 27 [iv aa, iv ab, iv ac, iv ad, iv ae, iv af, iv ag]) :: (F, Cl 70 [.func (.func 31) #[] #[pb H, pb z, pb I, pb J, pb A, pb B, pb C, pb D, pb E, pb F]]) :: (H, Cl 23 [sv A7083 l7095 c7084]) :: (I, Cl 42 [sv A7088 l7097 c7089]) :: (J, Cl 42 [sv am X an]) :: (hs7074 ++ (av ++ (a ++ (c ++ (d ++ (aw ++ (ax ++ R))))))) = hp' ∧ b6898.Le b7071 ∧ OS 42 (OT.fr (RT.own1 T 3 rI)) b7071.w (sv t l7091 y) l7091 hs7074 ∧ l7091.length = O.length ∧ (t = none ↔ l7091 = []) ∧ OS 3 (OT.fr rI) b7071.w (sv A7078 l7094 c7079) l7094 av ∧ OS 42 (OT.fr (RT.own1 T 3 rI)) b7071.w (sv A7083 l7095 c7084) l7095 aw ∧ (A7083 = none ↔ l7095 = []) ∧ OS 3 (OT.fr rI) b7071.w (sv A7088 l7097 c7089) l7097 ax) ?_ ?_
   have hm := hj7098
   refine Cs ?_
   obtain ⟨x7121, h7122, hm⟩ := bS hm
   obtain ⟨x7141, hcl7142, hm⟩ := bS hm
   refine Di mixed (.refl _)<|Es 0 rfl (sL 4 rfl one45 rfl rfl)<|Es 1 rfl (sL 1 rfl one23 rfl rfl)<|E0 2 rfl (sM rfl) ?_
   obtain ⟨j7123, hj7124, hx7125⟩ := iS h7122
   obtain ⟨cs7126, hs7131, P7132, P7133, hq7134, hr7127, hcs7128, hA7129, hlt7130, hb7135, hho7136⟩ := OS.get (sz := 1) rfl (by decide) h6902 hx7125
   obtain ⟨⟨A7137, c7138, rfl, h7139, h7140⟩, rfl⟩ := hr7127
   refine E0 3 rfl (sI j7123 rfl rfl hj7124 hlt7130 hA7129 sl23)<|Es 4 rfl (st_load_rd rfl one42 (fun w ho => hcs7128 w _ ho (.cons _ (.cons _ (.cons _ (.cons _ (.cons _ (.cons _ (.cons _ (.cons _ (.cons _ (.cons _ (List.sublist_append_left _ _))))))))))) 0 _ rfl))<|Es 5 rfl (sD (vs := [_, _, _, _, _, _, _]) 5 7 rfl agg27 rfl rfl rfl)<|Eo<|Da [6] (by kernel_rfl) rfl ?_
   refine Rd2 lr rfl rfl (uW _ call28 rfl (fun w ho => cFleetFits _ [] W x7121 (⟨aa, ab, ac, ad, ae, af, ag⟩ : FleetLimits) ah ai A7137 c7138 ((h47.le (x.trans (L.trans (G.trans Z)))).old ho) (h7139.old ho) x7141 hcl7142) (fun _ _ _ h => h.2.symm)) ?_ ?_
   rintro _ _ ⟨⟨_, rfl, _⟩, rfl⟩
   refine ⟨.inr (.refl _), ?_⟩
   refine Dd (by kernel_rfl)<|Xn ?_
   refine Cc _ rfl (fun hc7143 => ?_) (fun hc7143 => ?_)
   rw [if_pos hc7143] at hm
   refine Cg<|Ts rfl (sL 6 rfl one70 rfl rfl)<|M rfl rfl ?_
   obtain ⟨_, h7144, hm⟩ := bS hm
   have h7144 := (kS h7144).2
   refine Ts rfl (sa rfl rfl h7144) ?_
   obtain ⟨⟨l7145, l7146, l7147, l7148⟩, hcl7149, hm⟩ := bS hm
   obtain ⟨Nhcl7149, hcl7149⟩ := lim_some hcl7149
   have hm := (unc4E hm)
   refine t_pullb 6 rfl<|t_pullb 6 rfl<|t_pullb 6 rfl<|t_pullb 6 rfl<|t_pullb 6 rfl<|t_pullb 6 rfl<|t_pullb 9 rfl<|t_pullb 9 rfl<|t_pullb 8 rfl<|t_pullb 9 rfl ?_
   refine t_front5 [_, _, _, _, _, _, _, _, _, _] S j a c d (f ++ (g ++ R)) rfl<|t_front5 [_, _, _, _, _, _, _, _, _, _] d S j a c (f ++ (g ++ R)) rfl<|t_front3 [_, _, _, _, _, _, _, _, _, _] c d S (j ++ (a ++ (f ++ (g ++ R)))) rfl<|t_front5 [_, _, _, _, _, _, _, _, _, _] S c d j a (f ++ (g ++ R)) rfl<|t_front7 [_, _, _, _, _, _, _, _, _, _] a S c d j f g R rfl<|t_front6 [_, _, _, _, _, _, _, _, _, _] g a S c d j (f ++ R) rfl<|t_front7 [_, _, _, _, _, _, _, _, _, _] j g a S c d f R rfl<|t_out7 [_, _, _, _, _, _, _, _, _, _] [] f j g a S c d R rfl<|Tv #[] #[pb H, pb z, pb I, pb J, pb A, pb B, pb C, pb D, pb E, pb F] [iv (al + 1)] rfl rfl call31 rfl (cFleetStandIns_1_4 Nhcl7149 _ _ T (hb0.trans (x.trans (L.trans (G.trans Z)))) (al + 1) W aa ab ac ad ae af ag l6681 l6680 l6683 X l6903 l65 l66 H z I J A B C D E F ah ai A6669 c6670 f A6664 c6665 j A6674 c6675 g am an a t y S ao c aq d (h47.le (x.trans (L.trans (G.trans Z)))) (h6671.le (G.trans Z)) hnz6682 (h6666.le (G.trans Z)) (h6676.le (G.trans Z)) (h20.le (x.trans (L.trans (G.trans Z)))) h6902 hnz6905 (h29.le (x.trans (L.trans (G.trans Z)))) (h33.le (x.trans (L.trans (G.trans Z)))) l7145 l7146 l7147 l7148 hcl7149) ?_
   rintro _ b7150 _ hle7151 ⟨A7152, c7153, hs7154, hs7155, A7156, c7157, hs7158, A7159, c7160, hs7161, rfl, rfl, h7162, h7163, h7164, h7165, h7166, h7167, h7168⟩
   refine t_in7 [_, _, _, _, _, _, _, _, _, _] [] hs7154 a hs7155 c d hs7158 hs7161 R rfl<|Tr 36 rfl (v' := sv t l7146 y) (by show Value.slice _ _ _ = Value.slice _ _ _; rw [h7164])<|t_hresp 4 rfl (o' := Cl 23 [sv t l7146 y]) (by simp only [sv, h7164])<|Tn ?_
   obtain ⟨rfl, rfl, rfl, rfl⟩ := some4 hm
   refine Xp 3 rfl<|Xp 3 rfl<|Xp 2 rfl<|Xp 9 rfl<|Xp 9 rfl<|Xp 9 rfl<|Xp 9 rfl<|Xp 9 rfl<|Xp 9 rfl<|Xp 9 rfl ?_
   refine x_front7 [_, _, _, _, _, _, _, _, _, _] hs7154 a hs7155 c d hs7158 hs7161 R rfl<|x_front7 [_, _, _, _, _, _, _, _, _, _] hs7161 hs7154 a hs7155 c d hs7158 R rfl<|x_front7 [_, _, _, _, _, _, _, _, _, _] hs7158 hs7161 hs7154 a hs7155 c d R rfl<|x_front7 [_, _, _, _, _, _, _, _, _, _] d hs7158 hs7161 hs7154 a hs7155 c R rfl<|X6 [_, _, _, _, _, _, _, _, _, _] c d hs7158 hs7161 hs7154 a (hs7155 ++ R) rfl<|X6 [_, _, _, _, _, _, _, _, _, _] a c d hs7158 hs7161 hs7154 (hs7155 ++ R) rfl<|x_front7 [_, _, _, _, _, _, _, _, _, _] hs7154 a c d hs7158 hs7161 hs7155 R rfl ?_
   exact xJ ⟨hs7155, A7152, c7153, hs7154, A7156, c7157, hs7158, A7159, c7160, hs7161, rfl, rfl, hle7151, h7163, (h7164.trans hln6904), h7165, h7162, h7166, h7167, h7168⟩ (.refl _)
   rw [if_neg (fun hh => Bool.noConfusion (hh.symm.trans hc7143))] at hm
   refine Ck ?_
   obtain ⟨rfl, rfl, rfl, rfl⟩ := some4 hm
   refine Xp 9 rfl<|Xp 9 rfl<|Xp 9 rfl<|Xp 9 rfl<|Xp 9 rfl<|Xp 9 rfl<|Xp 9 rfl<|Xp 9 rfl<|Xp 9 rfl<|Xp 9 rfl ?_
   refine x_front7 [_, _, _, _, _, _, _, _, _, _] S j a c d f g R rfl<|x_front7 [_, _, _, _, _, _, _, _, _, _] g S j a c d f R rfl<|x_front7 [_, _, _, _, _, _, _, _, _, _] f g S j a c d R rfl<|x_front7 [_, _, _, _, _, _, _, _, _, _] d f g S j a c R rfl<|x_front7 [_, _, _, _, _, _, _, _, _, _] c d f g S j a R rfl<|x_front7 [_, _, _, _, _, _, _, _, _, _] a c d f g S j R rfl<|x_front7 [_, _, _, _, _, _, _, _, _, _] j a c d f g S R rfl ?_
   exact xJ ⟨S, A6664, c6665, j, A6669, c6670, f, A6674, c6675, g, rfl, rfl, lr, h6902, hln6904, hnz6905, (h6666.le (G.trans Z)), (h6671.le (G.trans Z)), hnz6682, (h6676.le (G.trans Z))⟩ (.refl _)
   exact Rn
   rintro b7071 _ _ ⟨hs7074, A7078, c7079, av, A7083, c7084, aw, A7088, c7089, ax, rfl, rfl, hle7072, h7075, hln7092, hnz7093, h7080, h7085, hnz7096, h7090⟩
   have hm := (unc4E hk7098)
   refine Cg<|Ts rfl (sL 1 rfl one23 rfl rfl)<|M rfl rfl<|M rfl rfl ?_
   obtain ⟨x7169, h7170, hm⟩ := bS hm
   obtain ⟨j7171, hj7172, hx7173⟩ := iS h7170
   obtain ⟨cs7174, hs7179, P7180, P7181, hq7182, hr7175, hcs7176, hA7177, hlt7178, hb7183, hho7184⟩ := OS.get (sz := 1) rfl (by decide) h7075 hx7173
   obtain ⟨⟨A7185, c7186, rfl, h7187, h7188⟩, rfl⟩ := hr7175
   refine Ts rfl (sI j7171 rfl rfl hj7172 hlt7178 hA7177 sl23)<|Do rfl (uP hj7172 (sz := 1) (a' := x6687) rfl [_, _, _, _, _, _, _, _, _, _] (av ++ (a ++ (c ++ (d ++ (aw ++ (ax ++ R)))))) 0 1 [sv A6703 x6687 c6704] rfl h7075 hx7173 rfl rfl rfl siz42 rfl (mc rfl mn) (fun cs hsj hh => by obtain ⟨⟨A7191, c7192, rfl, h7193, h7194⟩, rfl⟩ := hh; exact ⟨by first | decide | exact Nat.le_refl _, (RT.own1_mk (h6705.le (G.trans (Z.trans hle7072))) (Own1.mono h6706 (G.trans (Z.trans hle7072)).cells)), rfl⟩)) ?_
   rintro _ _ ⟨hs7189, rfl, h7190⟩
   refine Tr 36 rfl (v' := .slice t (put l7091 (K : Int) x6687).length y) (by simp only [put_length])<|t_hresp 1 rfl (o' := Cl 23 [.slice t (put l7091 (K : Int) x6687).length y]) (by simp only [put_length])<|Tn<|Xm<|Xn<|Cg<|Ts rfl (sa rfl rfl (by omega))<|M rfl rfl<|Tn<|Xp 9 rfl ?_
   refine Xp 9 rfl<|Xp 9 rfl<|Xp 9 rfl<|Xp 9 rfl<|Xp 9 rfl<|Xp 9 rfl<|Xp 9 rfl<|Xp 9 rfl<|Xp 9 rfl<|x_front7 [_, _, _, _, _, _, _, _, _, _] hs7189 av a c d aw ax R rfl ?_
   refine x_front7 [_, _, _, _, _, _, _, _, _, _] ax hs7189 av a c d aw R rfl<|x_front7 [_, _, _, _, _, _, _, _, _, _] aw ax hs7189 av a c d R rfl<|x_front7 [_, _, _, _, _, _, _, _, _, _] d aw ax hs7189 av a c R rfl<|x_front7 [_, _, _, _, _, _, _, _, _, _] c d aw ax hs7189 av a R rfl<|x_front7 [_, _, _, _, _, _, _, _, _, _] a c d aw ax hs7189 av R rfl<|x_front7 [_, _, _, _, _, _, _, _, _, _] av a c d aw ax hs7189 R rfl ?_
   obtain rfl := o1 hm
   exact xS ⟨hs7189, A7078, c7079, av, A7083, c7084, aw, A7088, c7089, ax, rfl, rfl, ((L.trans (G.trans (Z.trans hle7072)))), h7190, ((put_length _ _ _).trans hln7092), (put_nz hnz7093), h7080, h7085, hnz7096, h7090⟩ (.refl _)
   rintro b6657 _ _ ⟨s, A6664, c6665, j, A6669, c6670, f, A6674, c6675, g, rfl, rfl, L, h6661, hln6678, hnz6679, h6666, h6671, hnz6682, h6676⟩
   have hm := (unc4E hk6686)
   refine Cr<|Ts rfl (lF rfl rfl (by omega))<|Te<|Cs<|c_cond_f rfl<|Ce<|Xe<|Xe<|Xo<|Xn ?_
   refine Cr<|Ts rfl (sL 0 rfl one42 rfl rfl)<|M rfl rfl<|Do rfl (u_bslice (el := 3) [(0, iv u)] [iv u] rfl (fun _ => by kernel_rfl)) ?_
   rintro _ _ ⟨g7195, rfl, rfl⟩
   obtain ⟨_, h7196, hm⟩ := bS hm
   have h7196 := room_some h7196
   refine t_front2 [_, _, _, _, _, _, _, _, _, _, _] s j (a ++ (c ++ (d ++ (f ++ (g ++ R))))) rfl<|Do rfl (uQ (r := rI) (l := l6680) [_, _, _, _, _, _, _, _, _, _, _] (s ++ (a ++ (c ++ (d ++ (f ++ (g ++ R)))))) [[iv u]] [u] rfl (by decide) sl42 inf3 rfl rfl rfl rfl h6666 rfl (fun w ho => Rd.own (i := 0) ho rfl) ⟨rfl, trivial⟩ h7196) ?_
   rintro _ _ ⟨hs7197, rfl, h7198⟩
   obtain ⟨A7199, c7200, rfl, _⟩ := h7198.form
   refine Do rfl (uS 1 rfl rfl siz42 rfl rfl (by simp)) ?_
   rintro _ _ rfl
   refine Te<|Cr<|Ts rfl (sL 7 rfl one70 rfl rfl)<|M rfl rfl ?_
   obtain ⟨_, h7201, hm⟩ := bS hm
   have h7201 := (kS h7201).2
   refine Ts rfl (sa rfl rfl h7201) ?_
   obtain ⟨⟨l7202, l7203, l7204, l7205⟩, hcl7206, hm⟩ := bS hm
   obtain ⟨Nhcl7206, hcl7206⟩ := lim_some hcl7206
   have hm := (unc4E hm)
   refine t_pullb 7 rfl<|t_pullb 7 rfl<|t_pullb 7 rfl<|t_pullb 7 rfl<|t_pullb 7 rfl<|t_pullb 7 rfl<|t_pullb 10 rfl<|t_pullb 10 rfl<|t_pullb 9 rfl<|t_pullb 10 rfl ?_
   refine t_front5 [_, _, _, _, _, _, _, _, _, _, _] hs7197 s a c d (f ++ (g ++ R)) rfl<|t_front5 [_, _, _, _, _, _, _, _, _, _, _] d hs7197 s a c (f ++ (g ++ R)) rfl<|t_front4 [_, _, _, _, _, _, _, _, _, _, _] c d hs7197 s (a ++ (f ++ (g ++ R))) rfl<|t_front5 [_, _, _, _, _, _, _, _, _, _, _] s c d hs7197 a (f ++ (g ++ R)) rfl<|t_front7 [_, _, _, _, _, _, _, _, _, _, _] a s c d hs7197 f g R rfl<|t_front6 [_, _, _, _, _, _, _, _, _, _, _] g a s c d hs7197 (f ++ R) rfl<|t_front7 [_, _, _, _, _, _, _, _, _, _, _] hs7197 g a s c d f R rfl<|t_out7 [_, _, _, _, _, _, _, _, _, _] [_] f hs7197 g a s c d R rfl<|Tv #[] #[pb H, pb z, pb I, pb J, pb A, pb B, pb C, pb D, pb E, pb F] [iv (al + 1)] rfl rfl call31 rfl (cFleetStandIns_1_2 Nhcl7206 _ _ T (hb0.trans (x.trans L)) (al + 1) W aa ab ac ad ae af ag l6681 (l6680 ++ [u]) l6683 X Y l65 l66 H z I J A B C D E F ah ai A6669 c6670 f A7199 c7200 hs7197 A6674 c6675 g am an a t y s ao c aq d (h47.le (x.trans L)) h6671 hnz6682 h7198 (OS.nz h7198 (by simp)) h6676 (h20.le (x.trans L)) h6661 hnz6679 (h29.le (x.trans L)) (h33.le (x.trans L)) l7202 l7203 l7204 l7205 hcl7206) ?_
   rintro _ b7207 _ hle7208 ⟨A7209, c7210, hs7211, hs7212, A7213, c7214, hs7215, A7216, c7217, hs7218, rfl, rfl, h7219, h7220, h7221, h7222, h7223, h7224, h7225⟩
   refine t_in7 [_, _, _, _, _, _, _, _, _, _] [_] hs7211 a hs7212 c d hs7215 hs7218 R rfl<|t_hresp 4 rfl (o' := Cl 23 [sv t l7203 y]) (by simp only [sv, h7221])<|Te<|Cg<|Ts rfl (sL 1 rfl one42 rfl rfl)<|Ts rfl (sL 1 rfl one42 rfl rfl)<|Ts rfl (sE rfl sl42) ?_
   obtain ⟨_, h7226, hm⟩ := bS hm
   have h7226 := (kS h7226).2
   refine Ts rfl (sb rfl rfl h7226) ?_
   obtain ⟨l7227, h7228, hm⟩ := bS hm
   obtain ⟨j7229, j7230, hj7231, hj7232, hj7233, hj7234, hx7235⟩ := cutS_some h7228
   have h7236 := OS.lc h7219
   refine Ts rfl (hx7235 ▸ st_part (l := l7202) j7229 j7230 rfl (.inl ⟨rfl, by omega⟩) (.inr ⟨_, _, _, rfl, rfl, hj7232⟩) hj7233 hj7234 h7236 sl42) ?_
   obtain ⟨hs7237, hq7238, h7239⟩ := OS.sub (sz := 1) rfl h7219 hj7233 hj7234
   rw [← hx7235] at h7239
   refine t_less [_, _, _, _, _, _, _, _, _, _, _] hs7211 hs7237 (a ++ (hs7212 ++ (c ++ (d ++ (hs7215 ++ (hs7218 ++ R)))))) rfl hq7238<|Do rfl (uS 1 rfl rfl siz42 rfl rfl (by simp)) ?_
   rintro _ _ rfl
   refine Tn ?_
   obtain ⟨rfl, rfl, rfl, rfl⟩ := some4 hm
   refine Xp 9 rfl<|Xp 9 rfl<|Xp 9 rfl<|Xp 9 rfl<|Xp 9 rfl<|Xp 9 rfl<|Xp 9 rfl<|Xp 9 rfl<|Xp 9 rfl<|Xp 9 rfl ?_
   refine x_front7 [_, _, _, _, _, _, _, _, _, _, _] hs7237 a hs7212 c d hs7215 hs7218 R rfl<|x_front7 [_, _, _, _, _, _, _, _, _, _, _] hs7218 hs7237 a hs7212 c d hs7215 R rfl<|x_front7 [_, _, _, _, _, _, _, _, _, _, _] hs7215 hs7218 hs7237 a hs7212 c d R rfl<|x_front7 [_, _, _, _, _, _, _, _, _, _, _] d hs7215 hs7218 hs7237 a hs7212 c R rfl<|x_front7 [_, _, _, _, _, _, _, _, _, _, _] c d hs7215 hs7218 hs7237 a hs7212 R rfl<|x_front7 [_, _, _, _, _, _, _, _, _, _, _] hs7212 c d hs7215 hs7218 hs7237 a R rfl<|x_front7 [_, _, _, _, _, _, _, _, _, _, _] a hs7212 c d hs7215 hs7218 hs7237 R rfl ?_
   exact endM (x.trans (L.trans hle7208)) rfl (.cons_cons _ (.cons_cons _ (.cons_cons _ (.cons_cons _ (.cons_cons _ (.cons_cons _ (.cons_cons _ (.cons_cons _ (.cons_cons _ (.cons_cons _ (.cons _ (.refl _)))))))))))) ⟨(subA A7209 c7210 j7229 1), (c7210 - j7229), hs7237, hs7212, A7213, c7214, hs7215, A7216, c7217, hs7218, rfl, rfl, h7239, h7220, (h7221.trans hln6678), h7222, h7223, h7224, h7225⟩

set_option maxHeartbeats 1000000 in
set_option maxRecDepth 20000 in
theorem cFleetStandIns (b : Base) (R : Hp) (K : (List FleetShift)) (y : (List (List Int))) (c : FleetLimits) (S : (List FleetAbsence)) (T : OA) (U : Nat) (A5 : OA) (c6 : Nat) (A10 : OA) (c11 : Nat) (h3 : FZ rFleetShift b.w T U K) (h7 : FZ (RT.list rI) b.w A5 c6 y) (h12 : FZ rFleetAbsence b.w A10 c11 S) (x1664 : Int) (l1665 : (List (List Int))) (l1667 : (List Int)) (hm : mFleetStandIns K y c S = some (x1664, l1665, l1667)) :
    CallsG Try.prog 10 [sv T K U, sv A5 y c6, .agg #[iv c.Change, iv c.Long, iv c.Work, iv c.After, iv c.Break, iv c.Rest, iv c.Row], sv A10 S c11] b (R) (fun v b' hp' => ∃ (A1656 : OA), ∃ (c1657 : Nat), ∃ (hs1655 : Hp), ∃ (A1661 : OA), ∃ (c1662 : Nat), ∃ (hs1660 : Hp), .tuple #[sv A1656 l1665 c1657, sv A1661 l1667 c1662, iv x1664] = v ∧ (hs1655 ++ (hs1660 ++ R)) = hp' ∧ OS 42 (OT.list 3 (OT.fr rI)) b'.w (sv A1656 l1665 c1657) l1665 hs1655 ∧ (A1656 = none ↔ l1665 = []) ∧ OS 3 (OT.fr rI) b'.w (sv A1661 l1667 c1662) l1667 hs1660) := by
 refine fE 127 Try.func10 rfl Try.ntmps10 rfl ?_
 unfold mFleetStandIns at hm
 refine Cr<|Do rfl (uB _ rfl rfl) ?_
 rintro _ _ ⟨E, rfl, rfl⟩
 refine Do rfl (uB _ rfl rfl) ?_
 rintro _ _ ⟨F, rfl, rfl⟩
 refine As rfl rfl<|As rfl rfl<|As rfl rfl<|Te<|Cr<|Ts rfl (sL 1 rfl one45 rfl rfl)<|M rfl rfl<|Ts rfl (sD (vs := [_, _, _, _, _, _, _]) 0 7 rfl agg27 rfl rfl rfl) ?_
 obtain ⟨⟨x1670, x1671⟩, hcl1672, hm⟩ := bS hm
 have hm := (unc2E hm)
 refine Do rfl (uW _ call29 rfl (fun w ho => cFleetJudgeRoster _ [] K y c T U A5 c6 (h3.old ho) (h7.old ho) x1670 x1671 hcl1672) (fun _ _ _ h => h.2.symm)) ?_
 rintro _ _ ⟨⟨_, rfl, _⟩, rfl⟩
 refine M rfl rfl<|Ts rfl (st_extract rfl rfl)<|Ts rfl (st_extract rfl rfl)<|As rfl rfl<|As rfl rfl<|Te<|Cs<|Cb<|Cr<|M rfl rfl ?_
 refine Ts rfl (q2 rfl rfl)<|As rfl rfl<|Te ?_
 refine Cc _ rfl (fun hc1673 => ?_) (fun hc1673 => ?_)
 rw [if_pos (of_decide_eq_true hc1673)] at hm
 refine Cr<|M rfl rfl<|As rfl rfl<|As rfl rfl<|As rfl rfl<|Te<|Ct<|Xb<|Xr ?_
 obtain ⟨rfl, rfl, rfl⟩ := some3 hm
 exact rM (rs := [.tmp 8, .tmp 9, .tmp 10]) (vs := [sn, sn, iv x1671]) ⟨rfl, ⟨rfl, ⟨rfl, trivial⟩⟩⟩ ⟨none, 0, [], none, 0, [], rfl, rfl, OS.nil, ⟨fun _ => rfl, fun _ => rfl⟩, OS.nil⟩ (.cons _ (.cons _ (.refl _))) lr
 rw [if_neg (of_decide_eq_false hc1673)] at hm
 refine Cr<|M rfl rfl<|Ts rfl (q2 rfl rfl)<|As rfl rfl<|Te ?_
 refine Cc _ rfl (fun hc1674 => ?_) (fun hc1674 => ?_)
 rw [if_pos (of_decide_eq_true hc1674)] at hm
 refine Cr<|As rfl rfl<|As rfl rfl<|As rfl rfl<|Te<|Ct<|Xb<|Xr ?_
 obtain ⟨rfl, rfl, rfl⟩ := some3 hm
 exact rM (rs := [.tmp 8, .tmp 9, .tmp 10]) (vs := [sn, sn, iv 1]) ⟨rfl, ⟨rfl, ⟨rfl, trivial⟩⟩⟩ ⟨none, 0, [], none, 0, [], rfl, rfl, OS.nil, ⟨fun _ => rfl, fun _ => rfl⟩, OS.nil⟩ (.cons _ (.cons _ (.refl _))) lr
 rw [if_neg (of_decide_eq_false hc1674)] at hm
 refine Ck<|Xm<|Xn<|Cr<|Do rfl (u_mmap rFleetAbsence (OT.fr RT.bool) true false [_, _] R rfl) ?_
 rintro _ _ ⟨g1675, hs1676, rfl, rfl, h1677⟩
 refine Do rfl (uA [.map none] zero76 rfl) ?_
 rintro _ _ ⟨G, rfl, rfl⟩
 refine Do rfl (uS 0 rfl rfl siz76 rfl rfl (by simp)) ?_
 rintro _ _ rfl
 refine Te<|Cs<|Cr<|M rfl rfl<|Ts rfl (sE rfl sl28)<|M rfl rfl<|Te<|Cb ?_
 have hb1680 : S.length ≤ 9223372036854775807 := (FZ.bd h12)
 refine Cp 1 rfl<|Cp 2 rfl ?_
 obtain ⟨t1754, hl1755, hk1756⟩ := bS hm
 refine cF (fun k1753 => fun l1752 => fun b1747 e' hp' => ∃ (a : Hp), [(1, sv A5 y c6), (4, pb E), (6, pb F), (13, pb G), (44, sv A10 S c11), (45, iv ((S.length : Int))), (46, iv ((k1753 : Int)))] = e' ∧ (E, Cl 45 [sv T K U]) :: (F, Cl 27 [iv c.Change, iv c.Long, iv c.Work, iv c.After, iv c.Break, iv c.Rest, iv c.Row]) :: (G, Cl 76 [.map (some g1675)]) :: (a ++ R) = hp' ∧ b.Le b1747 ∧ OM rFleetAbsence (OT.fr RT.bool) true false b1747.w g1675 l1752 a) hl1755 ⟨hs1676, rfl, rfl, lr, h1677⟩ (.refl _) ?_ ?_
 rintro k1753 l1752 b1747 _ _ oL1679 hknL1679 ⟨a, rfl, rfl, L, h1751⟩ hstepL1679 houtL1679
 unfold mFleetStandIns_L1679 at hstepL1679
 have hm := hstepL1679
 refine Cr<|Ts rfl (lT rfl rfl (by omega))<|Te<|Cs<|c_cond_t rfl<|Ck<|Xn<|Cs<|Cb<|Cr ?_
 obtain ⟨H, h1758, hm⟩ := bS hm
 obtain ⟨j1759, hj1760, hx1761⟩ := iS h1758
 obtain ⟨cs1762, hr1763, hcs1764, hA1765, hlt1766⟩ := FZ.get (sz := 2) rfl (by decide) (h12.le L) hx1761
 obtain ⟨_, _, rfl, rfl, rfl⟩ := hr1763
 refine Ts rfl (sI j1759 rfl rfl hj1760 hlt1766 hA1765 sl28)<|Ts rfl (sP (vs := [iv H.Driver, iv H.Day]) 2 rfl agg54 hA1765 rfl (fun j u hu => hcs1764 j u hu))<|Do rfl (uA [iv 0, iv 0] zero54 rfl) ?_
 rintro _ _ ⟨g1767, rfl, rfl⟩
 refine Do rfl (uN (vs := [_, _]) 0 2 rfl rfl rfl siz54 rfl (mc rfl (mc rfl mn)) rfl (by simp)) ?_
 rintro _ _ rfl
 refine Te<|Cs ?_
 obtain ⟨x1776, hj1777, hk1777⟩ := bS hm
 refine Cj (fun b1774 e' hp' => [(1, sv A5 y c6), (4, pb E), (6, pb F), (13, pb G), (15, pb g1767), (44, sv A10 S c11), (45, iv ((S.length : Int))), (46, iv ((k1753 : Int))), (62, bv x1776)] = e' ∧ (E, Cl 45 [sv T K U]) :: (F, Cl 27 [iv c.Change, iv c.Long, iv c.Work, iv c.After, iv c.Break, iv c.Rest, iv c.Row]) :: (G, Cl 76 [.map (some g1675)]) :: (g1767, Cl 54 [iv H.Driver, iv H.Day]) :: (a ++ R) = hp' ∧ b1747.Le b1774) ?_ ?_
 have hm := hj1777
 refine Cg<|Ts rfl (sF rfl fld54_0)<|Ts rfl (sL 0 rfl one3 rfl rfl)<|M rfl rfl<|Ts rfl (sE rfl sl23) ?_
 obtain ⟨_, h1778, hm⟩ := bS hm
 have h1778 := (kS h1778).2
 refine Ts rfl (sb rfl rfl h1778) ?_
 obtain ⟨x1779, hcl1780, hm⟩ := bS hm
 refine Do rfl (uW _ call23 rfl (fun w ho => cFleetWithin _ [] H.Driver 0 ((y.length : Int) - 1) x1779 hcl1780) (fun _ _ _ h => h.2.symm)) ?_
 rintro _ _ ⟨⟨_, rfl, _⟩, rfl⟩
 rcases Bool.eq_false_or_eq_true x1779 with hc1781 | hc1781
 rw [if_pos hc1781] at hm
 refine Tr 55 rfl (v' := .bool true) (by rw [hc1781] <;> rfl)<|Ts rfl (st_not_t rfl)<|M rfl rfl<|Ys 57 rfl rfl rfl<|Ts rfl (sF rfl fld54_1)<|Ys 57 rfl rfl rfl<|Ts rfl (sL 0 rfl one3 rfl rfl)<|Ys 57 rfl rfl rfl ?_
 obtain ⟨x1782, hcl1783, hm⟩ := bS hm
 refine Do rfl (uW _ call23 rfl (fun w ho => cFleetWithin _ [] H.Day 0 6 x1782 hcl1783) (fun _ _ _ h => h.2.symm)) ?_
 rintro _ _ ⟨⟨_, rfl, _⟩, rfl⟩
 refine Ys 57 rfl rfl rfl<|Ts rfl (sn2 rfl)<|Ts rfl (pF rfl rfl)<|Tn ?_
 obtain rfl := o1 hm
 refine Xp 3 rfl<|Xp 3 rfl<|Xp 3 rfl ?_
 exact xJ ⟨rfl, rfl, lr⟩ (.refl _)
 rw [if_neg (fun hh => Bool.noConfusion (hh.symm.trans hc1781))] at hm
 refine Tr 55 rfl (v' := .bool false) (by rw [hc1781] <;> rfl)<|Ts rfl (st_not_f rfl)<|M rfl rfl<|No 57 rfl rfl rfl rfl rfl<|No 57 rfl rfl rfl rfl rfl<|No 57 rfl rfl rfl rfl rfl<|No 57 rfl rfl rfl rfl rfl<|Ts rfl (pT rfl rfl)<|Tn ?_
 obtain rfl := o1 hm
 refine Xp 3 rfl<|Xp 3 rfl<|Xp 3 rfl ?_
 exact xJ ⟨rfl, rfl, lr⟩ (.refl _)
 rintro b1774 _ _ ⟨rfl, rfl, hle1775⟩
 have hm := hk1777
 refine Cc _ rfl (fun hc1784 => ?_) (fun hc1784 => ?_)
 rw [if_pos hc1784] at hm
 refine Cr<|As rfl rfl<|As rfl rfl<|As rfl rfl<|Te<|Ct<|Xr<|Xb<|Xr<|Xr ?_
 refine Xb<|Xr ?_
 have hq1785 := houtL1679 _ (Option.some.inj hm).symm
 rw [hq1785] at hk1756
 have hm := elimR hk1756
 obtain ⟨rfl, rfl, rfl⟩ := some3 hm
 exact rM (rs := [.tmp 8, .tmp 9, .tmp 10]) (vs := [sn, sn, iv 2]) ⟨rfl, ⟨rfl, ⟨rfl, trivial⟩⟩⟩ ⟨none, 0, [], none, 0, [], rfl, rfl, OS.nil, ⟨fun _ => rfl, fun _ => rfl⟩, OS.nil⟩ (.cons _ (.cons _ (.cons _ (.cons _ (ss a (.refl _)))))) (L.trans hle1775)
 rw [if_neg (fun hh => Bool.noConfusion (hh.symm.trans hc1784))] at hm
 refine Ck<|Xn<|Cg<|Ts rfl (sL 2 rfl one76 rfl rfl)<|Ts rfl (sD (vs := [_, _]) 3 2 rfl agg54 rfl rfl rfl)<|Do rfl (u_mputF (k := H) kok54 [_, _, _, _] [] R rfl (h1751.le hle1775) mapt76 rfl rfl rfl (⟨[iv H.Driver, iv H.Day], rfl, ⟨[iv H.Driver], _, rfl, rfl, rfl⟩⟩) ⟨rfl, rfl⟩ _ (.inl rfl)) ?_
 rintro _ _ ⟨hs1786, rfl, hsub1787, h1788⟩
 refine Tn<|Xm<|Xn<|Cg<|Ts rfl (sa rfl rfl (by omega))<|M rfl rfl<|Tn<|Xp 2 rfl<|Xp 2 rfl<|Xp 2 rfl ?_
 exact xM hm ⟨hs1786, rfl, rfl, ((L.trans hle1775)), h1788⟩ (.cons_cons _ (.cons_cons _ (.cons_cons _ (.cons _ (.refl _)))))
 rintro l1752 b1747 _ _ ⟨a, rfl, rfl, L, h1751⟩ hq1789
 rw [hq1789] at hk1756
 have hm := elimL hk1756
 refine Cr<|Ts rfl (lF rfl rfl (by omega))<|Te<|Cs<|c_cond_f rfl<|Ce<|Xe<|Xe<|Xo<|Xn ?_
 refine Cr<|M rfl rfl<|Ts rfl (sE rfl sl23) ?_
 obtain ⟨m1790, h1791, hm⟩ := bS hm
 have h1791 := mkLen_some h1791
 refine Do rfl (u_mkOO (o := (OT.nlist 3 (OT.fr rI))) [_, _, _] (a ++ R) [sn] ([] : List Int) m1790 rfl h1791.1 rfl rfl sl23 inf42 rfl rfl rfl (by decide) ⟨_, rfl, OS.nil, fun _ => rfl⟩ h1791.2.1 h1791.2.2) ?_
 rintro _ _ ⟨hs1792, rfl, h1793⟩
 obtain ⟨s, z, rfl, _⟩ := h1793.form
 refine Do rfl (uA [sn] zero23 rfl) ?_
 rintro _ _ ⟨g1796, rfl, rfl⟩
 obtain ⟨_, h1797, hm⟩ := bS hm
 have hnz1798 : (s = none ↔ List.replicate m1790 (([] : List Int) : (List Int)) = []) := ⟨fun e => absurd e (OS.ne h1793 h1797), fun e => absurd e (some?_some h1797)⟩
 refine Do rfl (uS 0 rfl rfl siz23 rfl rfl (by simp)) ?_
 rintro _ _ rfl
 refine Te<|Cr<|Do rfl (uA [sn] zero42 rfl) ?_
 rintro _ _ ⟨g1799, rfl, rfl⟩
 refine Te<|Cr<|Do rfl (u_mmap rI (OT.fr rI) false false [_, _, _, _, _] (hs1792 ++ (a ++ R)) rfl) ?_
 rintro _ _ ⟨g1800, hs1801, rfl, rfl, h1802⟩
 refine Do rfl (uA [.map none] zero77 rfl) ?_
 rintro _ _ ⟨g1803, rfl, rfl⟩
 refine Do rfl (uS 0 rfl rfl siz77 rfl rfl (by simp)) ?_
 rintro _ _ rfl
 refine Te<|Cs<|Cr<|M rfl rfl<|Ts rfl (sE rfl sl23)<|M rfl rfl<|Te<|Cb ?_
 have hb1805 : y.length ≤ 9223372036854775807 := (FZ.bd (h7.le L))
 refine Cp 1 rfl<|Cp 2 rfl<|Cp 5 rfl<|Cp 5 rfl<|Cp 5 rfl<|c_front2 [_, _, _, _, _, _] hs1801 hs1792 (a ++ R) rfl<|c_front3 [_, _, _, _, _, _] hs1792 hs1801 a R rfl ?_
 obtain ⟨⟨V, l2711, l2712⟩, hl2714, hk2715⟩ := bS hm
 refine cS (fun A => unc3 fun V l2711 l2712 => fun b2695 e' hp' => ∃ (t : Hp), ∃ (W : OA), ∃ (X : Nat), ∃ (B : Hp), ∃ (f : Hp), [(4, pb E), (6, pb F), (13, pb G), (16, pb g1796), (17, pb g1799), (18, pb g1803), (70, sv A5 y c6), (71, iv ((y.length : Int))), (72, iv ((A : Int)))] = e' ∧ (E, Cl 45 [sv T K U]) :: (F, Cl 27 [iv c.Change, iv c.Long, iv c.Work, iv c.After, iv c.Break, iv c.Rest, iv c.Row]) :: (G, Cl 76 [.map (some g1675)]) :: (g1796, Cl 23 [sv s V z]) :: (g1799, Cl 42 [sv W l2711 X]) :: (g1803, Cl 77 [.map (some g1800)]) :: (a ++ (t ++ (B ++ (f ++ R)))) = hp' ∧ b1747.Le b2695 ∧ OS 42 (OT.nlist 3 (OT.fr rI)) b2695.w (sv s V z) V t ∧ V.length = m1790 ∧ (s = none ↔ V = []) ∧ OS 3 (OT.fr rI) b2695.w (sv W l2711 X) l2711 B ∧ OM rI (OT.fr rI) false false b2695.w g1800 l2712 f) hl2714 ⟨hs1792, none, 0, [], hs1801, rfl, rfl, lr, h1793, List.length_replicate, hnz1798, OS.nil, h1802⟩ (.refl _) ?_ ?_
 rintro A ⟨V, l2711, l2712⟩ b2695 _ _ oL1804 hknL1804 ⟨t, W, X, B, f, rfl, rfl, Y, h2699, hln2709, hnz2710, h2704, h2707⟩ hstepL1804
 unfold mFleetStandIns_L1804 at hstepL1804
 have hm := (unc3E hstepL1804)
 refine Cr<|Ts rfl (lT rfl rfl (by omega))<|Te<|Cs<|c_cond_t rfl<|Ck<|Xn<|Cs<|Cb<|Cr ?_
 refine M rfl rfl ?_
 obtain ⟨x2716, h2717, hm⟩ := bS hm
 obtain ⟨j2718, hj2719, hx2720⟩ := iS h2717
 obtain ⟨cs2721, hr2722, hcs2723, hA2724, hlt2725⟩ := FZ.get (sz := 1) rfl (by decide) (h7.le (L.trans Y)) hx2720
 obtain ⟨A2726, c2727, rfl, h2728⟩ := hr2722
 refine Ts rfl (sI j2718 rfl rfl hj2719 hlt2725 hA2724 sl23)<|Ts rfl (sO rfl one42 (hcs2723 0 _ rfl))<|As rfl rfl<|As rfl rfl<|Te<|Cr<|M rfl rfl<|Ts rfl (sE rfl sl42)<|M rfl rfl<|Te ?_
 refine Cb ?_
 have hb2730 : x2716.length ≤ 9223372036854775807 := (FZ.bd h2728)
 refine Cp 5 rfl<|Cp 5 rfl<|Cp 5 rfl<|Cp 5 rfl<|Cp 5 rfl<|Cp 5 rfl<|c_front4 [_, _, _, _, _, _] a t B f R rfl<|c_front4 [_, _, _, _, _, _] f a t B R rfl<|c_front4 [_, _, _, _, _, _] B f a t R rfl<|c_front4 [_, _, _, _, _, _] t B f a R rfl ?_
 obtain ⟨⟨x, l3019, l3020⟩, hl3022, hk3023⟩ := bS hm
 refine cS (fun k3021 => unc3 fun x l3019 l3020 => fun b3003 e' hp' => ∃ (m : Hp), ∃ (A3010 : OA), ∃ (c3011 : Nat), ∃ (g : Hp), ∃ (d : Hp), [(4, pb E), (6, pb F), (13, pb G), (16, pb g1796), (17, pb g1799), (18, pb g1803), (19, iv ((A : Int))), (70, sv A5 y c6), (71, iv ((y.length : Int))), (72, iv ((A : Int))), (77, sv A2726 x2716 c2727), (78, iv ((x2716.length : Int))), (79, iv ((k3021 : Int)))] = e' ∧ (E, Cl 45 [sv T K U]) :: (F, Cl 27 [iv c.Change, iv c.Long, iv c.Work, iv c.After, iv c.Break, iv c.Rest, iv c.Row]) :: (G, Cl 76 [.map (some g1675)]) :: (g1796, Cl 23 [sv s x z]) :: (g1799, Cl 42 [sv A3010 l3019 c3011]) :: (g1803, Cl 77 [.map (some g1800)]) :: (a ++ (m ++ (g ++ (d ++ R)))) = hp' ∧ b2695.Le b3003 ∧ OS 42 (OT.nlist 3 (OT.fr rI)) b3003.w (sv s x z) x m ∧ x.length = m1790 ∧ (s = none ↔ x = []) ∧ OS 3 (OT.fr rI) b3003.w (sv A3010 l3019 c3011) l3019 g ∧ OM rI (OT.fr rI) false false b3003.w g1800 l3020 d) hl3022 ⟨t, W, X, B, f, rfl, rfl, lr, h2699, hln2709, hnz2710, h2704, h2707⟩ (.refl _) ?_ ?_
 rintro k3021 ⟨x, l3019, l3020⟩ b3003 _ _ oL2729 hknL2729 ⟨m, A3010, c3011, g, d, rfl, rfl, Z, h3007, hln3017, hnz3018, h3012, h3015⟩ hstepL2729
 unfold mFleetStandIns_L2729 at hstepL2729
 have hm := (unc3E hstepL2729)
 refine Cr<|Ts rfl (lT rfl rfl (by omega))<|Te<|Cs<|c_cond_t rfl<|Ck<|Xn<|Cs<|Cb<|Cr ?_
 obtain ⟨n, h3025, hm⟩ := bS hm
 obtain ⟨j3026, hj3027, hx3028⟩ := iS h3025
 obtain ⟨cs3029, hr3030, hcs3031, hA3032, hlt3033⟩ := FZ.get (sz := 1) rfl (by decide) (h2728.le Z) hx3028
 obtain rfl := hr3030
 refine Ts rfl (sI j3026 rfl rfl hj3027 hlt3033 hA3032 sl42)<|Ts rfl (sO rfl one3 (hcs3031 0 _ rfl))<|As rfl rfl<|Te<|Cs ?_
 obtain ⟨x3050, h3051, hm⟩ := bS hm
 obtain ⟨x3063, h3065, hm⟩ := bS hm
 refine Di mixed (.refl _)<|Es 0 rfl (sL 2 rfl one76 rfl rfl)<|E0 1 rfl (sM rfl)<|Es 2 rfl (sL 0 rfl one45 rfl rfl)<|E0 3 rfl (sM rfl) ?_
 obtain ⟨j3052, hj3053, hx3054⟩ := iS h3051
 obtain ⟨cs3055, hr3056, hcs3057, hA3058, hlt3059⟩ := FZ.get (sz := 3) rfl (by decide) (h3.le (L.trans (Y.trans Z))) hx3054
 obtain ⟨_, _, rfl, rfl, ⟨_, _, rfl, rfl, rfl⟩⟩ := hr3056
 refine E0 4 rfl (sI j3052 rfl rfl hj3053 hlt3059 hA3058 sl45)<|E0 5 rfl (sQ rfl hA3058 fld47_0)<|Es 6 rfl (sO rfl one3 (hcs3057 0 _ rfl))<|E0 7 rfl (sB (v := .agg #[iv ((A : Int)), iv x3050.Day]) [(0, iv ((A : Int))), (1, iv x3050.Day)] rfl (fun _ => by kernel_rfl)) ?_
 have hx3064 := Option.some.inj h3065
 obtain ⟨v3060, hv3061, hr3062⟩ := OM.lookF kok54 (z0 := false) (h1751.le (Y.trans Z)) (key := .agg #[iv ((A : Int)), iv x3050.Day]) (k := (⟨(A : Int), x3050.Day⟩ : FleetAbsence)) ⟨[iv ((A : Int)), iv x3050.Day], rfl, ⟨[iv ((A : Int))], _, rfl, rfl, rfl⟩⟩ mapt76 zero4 rfl
 rw [hx3064] at hv3061
 obtain rfl : v3060 = bv x3063 := by have hv3061 : [v3060] = [bv x3063] := hv3061; injection hv3061
 refine Es 8 rfl (st_mlook (ok := false) rfl rfl (fun w ho => hr3062 _ w ho (.cons _ (.cons _ (.cons _ (.cons _ (.cons _ (.cons _ (List.sublist_append_left _ _))))))) false))<|Eo<|Dd (by kernel_rfl)<|Xn ?_
 refine Cc _ rfl (fun hc3066 => ?_) (fun hc3066 => ?_)
 rw [if_pos hc3066] at hm
 refine Cr<|Ts rfl (sL 4 rfl one42 rfl rfl)<|M rfl rfl<|Do rfl (u_bslice (el := 3) [(0, iv n)] [iv n] rfl (fun _ => by kernel_rfl)) ?_
 rintro _ _ ⟨g3067, rfl, rfl⟩
 obtain ⟨_, h3068, hm⟩ := bS hm
 have h3068 := room_some h3068
 refine t_front3 [_, _, _, _, _, _, _] a m g (d ++ R) rfl<|Do rfl (uQ (r := rI) (l := l3019) [_, _, _, _, _, _, _] (a ++ (m ++ (d ++ R))) [[iv n]] [n] rfl (by decide) sl42 inf3 rfl rfl rfl rfl h3012 rfl (fun w ho => Rd.own (i := 0) ho rfl) ⟨rfl, trivial⟩ h3068) ?_
 rintro _ _ ⟨hs3069, rfl, h3070⟩
 obtain ⟨A3071, c3072, rfl, _⟩ := h3070.form
 refine Do rfl (uS 5 rfl rfl siz42 rfl rfl (by simp)) ?_
 rintro _ _ rfl
 refine Te<|Cg<|Ts rfl (sL 6 rfl one77 rfl rfl)<|M rfl rfl<|M rfl rfl<|t_front4 [_, _, _, _, _, _, _] hs3069 a m d R rfl<|Do rfl (u_mputF kok3 [_, _, _, _, _, _, _] [] (hs3069 ++ (a ++ (m ++ R))) rfl h3015 mapt77 rfl rfl rfl rfl ⟨rfl, rfl⟩ _ (.inl rfl)) ?_
 rintro _ _ ⟨hs3073, rfl, hsub3074, h3075⟩
 refine Tn<|Xm<|Xn<|Cg<|Ts rfl (sa rfl rfl (by omega))<|M rfl rfl<|Tn<|Xp 6 rfl<|Xp 6 rfl<|Xp 6 rfl ?_
 refine Xp 6 rfl<|Xp 6 rfl<|Xp 6 rfl<|X2 [_, _, _, _, _, _, _] hs3073 hs3069 (a ++ (m ++ R)) rfl<|X4 [_, _, _, _, _, _, _] hs3069 hs3073 a m R rfl<|X4 [_, _, _, _, _, _, _] m hs3069 hs3073 a R rfl ?_
 obtain rfl := o1 hm
 exact xS ⟨m, A3071, c3072, hs3069, hs3073, rfl, rfl, (Z), h3007, hln3017, hnz3018, h3070, h3075⟩ (.cons_cons _ (.cons_cons _ (.cons_cons _ (.cons_cons _ (.cons_cons _ (.cons_cons _ (.cons _ (.refl _))))))))
 rw [if_neg (fun hh => Bool.noConfusion (hh.symm.trans hc3066))] at hm
 obtain ⟨x3114, h3115, hm⟩ := bS hm
 obtain ⟨_, h3135, hm⟩ := bS hm
 obtain ⟨x3140, h3141, hm⟩ := bS hm
 refine c_front2 [_, _, _, _, _, _] a m (g ++ (d ++ R)) rfl<|Di mixed (.cons_cons _ (.cons_cons _ (.cons_cons _ (.cons_cons _ (.cons_cons _ (.cons_cons _ (ss m (.refl _))))))))<|Es 0 rfl (sL 3 rfl one23 rfl rfl)<|E0 1 rfl (sM rfl)<|Es 2 rfl (sL 3 rfl one23 rfl rfl)<|E0 3 rfl (sM rfl) ?_
 obtain ⟨j3116, hj3117, hx3118⟩ := iS h3115
 obtain ⟨cs3119, hs3124, P3125, P3126, hq3127, hr3120, hcs3121, hA3122, hlt3123, hb3128, hho3129⟩ := OS.get (sz := 1) rfl (by decide) h3007 hx3118
 obtain ⟨v3130, rfl, h3131, _⟩ := hr3120
 obtain ⟨A3132, c3133, rfl, _⟩ := h3131.form
 refine E0 4 rfl (sI j3116 rfl rfl hj3117 hlt3123 hA3122 sl23)<|E0 6 rfl (sM rfl)<|Eo<|Da [5, 7] (by kernel_rfl) rfl ?_
 refine Rd2 lr rfl rfl (Stable.does (st_load_rd rfl one42 (fun w ho => hcs3121 w _ ho (.cons _ (.cons _ (.cons _ (.cons _ (.cons _ (.cons _ (List.sublist_append_left _ _))))))) 0 _ rfl))) ?_ ?_
 rintro _ _ ⟨rfl, rfl⟩
 refine ⟨.inr (.cons_cons _ (.cons_cons _ (.cons_cons _ (.cons_cons _ (.cons_cons _ (.cons_cons _ (ss m (.refl _)))))))), ?_⟩
 refine Da [7] (by kernel_rfl) rfl ?_
 refine Rd2 lr rfl rfl (u_bslice (el := 3) [(0, iv n)] [iv n] rfl (fun _ => by kernel_rfl)) ?_ ?_
 rintro _ _ ⟨g3134, rfl, rfl⟩
 refine ⟨.inr (.cons _ (.cons_cons _ (.cons_cons _ (.cons_cons _ (.cons_cons _ (.cons_cons _ (.cons_cons _ (ss m (.refl _))))))))), ?_⟩
 have h3135 := room_some h3135
 refine Da [8] (by kernel_rfl) rfl ?_
 refine Rd2 lr rfl rfl (u_appIn (r := rI) [_, _, _, _, _, _, _] (a ++ (g ++ (d ++ R))) [[iv n]] [n] rfl (by decide) sl42 inf3 rfl rfl rfl rfl hq3127 h3131 rfl (fun w ho => Rd.own (i := 0) ho rfl) ⟨rfl, trivial⟩ h3135) ?_ ?_
 rintro _ _ ⟨O, rfl, h3137⟩
 obtain ⟨A3138, c3139, rfl, _⟩ := h3137.form
 refine ⟨.inr (.cons _ (.cons_cons _ (.cons_cons _ (.cons_cons _ (.cons_cons _ (.cons_cons _ (.cons_cons _ (ss O (ss (P3125 ++ P3126) (.refl _)))))))))), ?_⟩
 refine d_resp 99 rfl (v' := sv s x z) (by show Value.slice _ _ _ = Value.slice _ _ _; simp only [put_length])<|d_hresp 4 rfl (o' := Cl 23 [sv s x z]) (by simp only [sv, put_length]) ?_
 obtain ⟨j3142, hj3143, hx3144⟩ := iS h3141
 obtain rfl : j3116 = j3142 := by omega
 refine Ei lr (.cons _ (.cons_cons _ (.cons_cons _ (.cons_cons _ (.cons_cons _ (.cons_cons _ (.cons_cons _ (ss O (ss (P3125 ++ P3126) (.refl _))))))))))<|E0 9 rfl (sI j3116 rfl rfl hj3117 hlt3123 hA3122 sl23)<|Eo<|d2 [_, _, _, _, _, _, _] O (P3125 ++ P3126) (a ++ (g ++ (d ++ R))) rfl<|Da [10] (by kernel_rfl) rfl ?_
 refine Rd2 lr rfl rfl (u_putHole hj3117 (sz := 1) (a' := x3114 ++ [n]) rfl [_, _, _, _, _, _, _] O (a ++ (g ++ (d ++ R))) 1 [.slice A3138 (x3114 ++ [n]).length c3139] rfl (hho3129 _ lr) rfl rfl rfl siz42 rfl (by decide) ⟨_, rfl, h3137, fun e => absurd e (by simp)⟩) ?_ ?_
 rintro _ _ ⟨C, rfl, h3151⟩
 refine ⟨.inl (by kernel_rfl), ?_⟩
 refine d_hresp 4 rfl (o' := Cl 23 [.slice s (put x (A : Int) (x3114 ++ [n])).length z]) (by simp only [put_length])<|Dd (by kernel_rfl)<|Xm<|Xn<|Cg<|Ts rfl (sa rfl rfl (by omega))<|M rfl rfl<|Tn<|Xp 6 rfl<|Xp 6 rfl ?_
 refine Xp 6 rfl<|Xp 6 rfl<|Xp 6 rfl<|Xp 6 rfl<|X4 [_, _, _, _, _, _, _] C a g d R rfl<|X4 [_, _, _, _, _, _, _] d C a g R rfl<|X3 [_, _, _, _, _, _, _] g d C (a ++ R) rfl<|X4 [_, _, _, _, _, _, _] C g d a R rfl ?_
 obtain rfl := o1 hm
 exact xS ⟨C, A3010, c3011, g, d, rfl, rfl, (Z), h3151, ((put_length _ _ _).trans hln3017), (put_nz hnz3018), h3012, h3015⟩ (.cons_cons _ (.cons_cons _ (.cons_cons _ (.cons_cons _ (.cons_cons _ (.cons_cons _ (.cons _ (.refl _))))))))
 exact Rn
 exact Rn
 exact Rn
 refine Rd2 lr rfl rfl (u_bslice (el := 3) [(0, iv n)] [iv n] rfl (fun _ => by kernel_rfl)) ?_ ?_
 rintro _ _ ⟨g3134, rfl, rfl⟩
 refine ⟨.inr (.cons _ (.cons_cons _ (.cons_cons _ (.cons_cons _ (.cons_cons _ (.cons_cons _ (.cons_cons _ (ss m (.refl _))))))))), ?_⟩
 refine Da [5] (by kernel_rfl) rfl ?_
 refine Rd2 lr rfl rfl (Stable.does (st_load_rd rfl one42 (fun w ho => hcs3121 w _ ho (.cons _ (.cons _ (.cons _ (.cons _ (.cons _ (.cons _ (.cons _ (List.sublist_append_left _ _)))))))) 0 _ rfl))) ?_ ?_
 rintro _ _ ⟨rfl, rfl⟩
 refine ⟨.inr (.cons _ (.cons_cons _ (.cons_cons _ (.cons_cons _ (.cons_cons _ (.cons_cons _ (.cons_cons _ (ss m (.refl _))))))))), ?_⟩
 have h3135 := room_some h3135
 refine Da [8] (by kernel_rfl) rfl ?_
 refine Rd2 lr rfl rfl (u_appIn (r := rI) [_, _, _, _, _, _, _] (a ++ (g ++ (d ++ R))) [[iv n]] [n] rfl (by decide) sl42 inf3 rfl rfl rfl rfl hq3127 h3131 rfl (fun w ho => Rd.own (i := 0) ho rfl) ⟨rfl, trivial⟩ h3135) ?_ ?_
 rintro _ _ ⟨O, rfl, h3137⟩
 obtain ⟨A3138, c3139, rfl, _⟩ := h3137.form
 refine ⟨.inr (.cons _ (.cons_cons _ (.cons_cons _ (.cons_cons _ (.cons_cons _ (.cons_cons _ (.cons_cons _ (ss O (ss (P3125 ++ P3126) (.refl _)))))))))), ?_⟩
 refine d_resp 99 rfl (v' := sv s x z) (by show Value.slice _ _ _ = Value.slice _ _ _; simp only [put_length])<|d_hresp 4 rfl (o' := Cl 23 [sv s x z]) (by simp only [sv, put_length]) ?_
 obtain ⟨j3142, hj3143, hx3144⟩ := iS h3141
 obtain rfl : j3116 = j3142 := by omega
 refine Ei lr (.cons _ (.cons_cons _ (.cons_cons _ (.cons_cons _ (.cons_cons _ (.cons_cons _ (.cons_cons _ (ss O (ss (P3125 ++ P3126) (.refl _))))))))))<|E0 9 rfl (sI j3116 rfl rfl hj3117 hlt3123 hA3122 sl23)<|Eo<|d2 [_, _, _, _, _, _, _] O (P3125 ++ P3126) (a ++ (g ++ (d ++ R))) rfl<|Da [10] (by kernel_rfl) rfl ?_
 refine Rd2 lr rfl rfl (u_putHole hj3117 (sz := 1) (a' := x3114 ++ [n]) rfl [_, _, _, _, _, _, _] O (a ++ (g ++ (d ++ R))) 1 [.slice A3138 (x3114 ++ [n]).length c3139] rfl (hho3129 _ lr) rfl rfl rfl siz42 rfl (by decide) ⟨_, rfl, h3137, fun e => absurd e (by simp)⟩) ?_ ?_
 rintro _ _ ⟨C, rfl, h3151⟩
 refine ⟨.inl (by kernel_rfl), ?_⟩
 refine d_hresp 4 rfl (o' := Cl 23 [.slice s (put x (A : Int) (x3114 ++ [n])).length z]) (by simp only [put_length])<|Dd (by kernel_rfl)<|Xm<|Xn<|Cg<|Ts rfl (sa rfl rfl (by omega))<|M rfl rfl<|Tn<|Xp 6 rfl<|Xp 6 rfl ?_
 refine Xp 6 rfl<|Xp 6 rfl<|Xp 6 rfl<|Xp 6 rfl<|X4 [_, _, _, _, _, _, _] C a g d R rfl<|X4 [_, _, _, _, _, _, _] d C a g R rfl<|X3 [_, _, _, _, _, _, _] g d C (a ++ R) rfl<|X4 [_, _, _, _, _, _, _] C g d a R rfl ?_
 obtain rfl := o1 hm
 exact xS ⟨C, A3010, c3011, g, d, rfl, rfl, (Z), h3151, ((put_length _ _ _).trans hln3017), (put_nz hnz3018), h3012, h3015⟩ (.cons_cons _ (.cons_cons _ (.cons_cons _ (.cons_cons _ (.cons_cons _ (.cons_cons _ (.cons _ (.refl _))))))))
 exact Rn
 exact Rn
 exact Rn
 exact Rn
 rintro b3003 _ _ ⟨m, A3010, c3011, g, d, rfl, rfl, Z, h3007, hln3017, hnz3018, h3012, h3015⟩
 have hm := (unc3E hk3023)
 refine Cr<|Ts rfl (lF rfl rfl (by omega))<|Te<|Cs<|c_cond_f rfl<|Ce<|Xe<|Xe<|Xo<|Xm ?_
 refine Xn<|Cg<|Ts rfl (sa rfl rfl (by omega))<|M rfl rfl<|Tn<|Xp 5 rfl<|Xp 5 rfl<|Xp 5 rfl<|Xp 5 rfl<|Xp 5 rfl ?_
 refine Xp 5 rfl<|X4 [_, _, _, _, _, _] a m g d R rfl<|X4 [_, _, _, _, _, _] d a m g R rfl<|X4 [_, _, _, _, _, _] g d a m R rfl<|X4 [_, _, _, _, _, _] m g d a R rfl ?_
 obtain rfl := o1 hm
 exact xS ⟨m, A3010, c3011, g, d, rfl, rfl, ((Y.trans Z)), h3007, hln3017, hnz3018, h3012, h3015⟩ (.refl _)
 rintro b2695 _ _ ⟨t, W, X, B, f, rfl, rfl, Y, h2699, hln2709, hnz2710, h2704, h2707⟩
 have hm := (unc3E hk2715)
 refine Cr<|Ts rfl (lF rfl rfl (by omega))<|Te<|Cs<|c_cond_f rfl<|Ce<|Xe<|Xe<|Xo<|Xn ?_
 refine Cr<|Ts rfl (sL 4 rfl one42 rfl rfl) ?_
 obtain ⟨l3152, hcl3153, hm⟩ := bS hm
 refine t_front3 [_, _, _, _, _, _] a t B (f ++ R) rfl<|t_out1 [] [_, _, _, _, _, _] B (a ++ (t ++ (f ++ R))) rfl<|Tg _ rfl call30 rfl (cSlicesSort _ _ l2711 W X B h2704 l3152 hcl3153) ?_
 rintro _ b3154 _ hle3155 ⟨q, rfl, rfl, h3157, h3158⟩
 refine t_in1 [] [_, _, _, _, _, _] q (a ++ (t ++ (f ++ R))) rfl<|t_hresp 4 rfl (o' := Cl 42 [sv W l3152 X]) (by simp only [sv, h3158])<|Te<|Cr<|Do rfl (uA [sn] zero23 rfl) ?_
 rintro _ _ ⟨g3159, rfl, rfl⟩
 refine Te<|Cs<|c_frz [_, _, _, _, _, _, _] [] (q ++ (a ++ (t ++ (f ++ R)))) rfl ?_
 intro b0 hle3160 hz3161
 refine c_front3 [_, _, _, _, _, _, _] q a t (f ++ R) rfl<|c_frzin [_, _, _, _, _, _, _] t (q ++ (a ++ (f ++ R))) (by decide) rfl (h2699.le (hle3155.trans hle3160)) ?_
 intro b3162 hle3163 hs3164 h3165
 refine Cg<|Do rfl (uA [sn] zero42 rfl) ?_
 rintro _ _ ⟨g3166, rfl, rfl⟩
 refine Do rfl (uA [sn] zero42 rfl) ?_
 rintro _ _ ⟨g3167, rfl, rfl⟩
 refine Te<|Cr<|Do rfl (uA [.nilFunc] zero70 rfl) ?_
 rintro _ _ ⟨g3168, rfl, rfl⟩
 refine Te<|Cr<|Ts rfl (st_func _ _ rfl rfl)<|Do rfl (uS 0 rfl rfl siz70 rfl rfl (by simp)) ?_
 rintro _ _ rfl
 refine Te<|Cr<|Ts rfl (sL 0 rfl one70 rfl rfl) ?_
 obtain ⟨⟨l3169, l3170, l3171, l3172⟩, hcl3173, hm⟩ := bS hm
 obtain ⟨Nhcl3173, hcl3173⟩ := lim_some hcl3173
 have hm := (unc4E hm)
 refine t_pullb 5 rfl<|t_pullb 5 rfl<|t_pullb 6 rfl<|t_pullb 9 rfl<|t_pullb 8 rfl<|t_pullb 9 rfl<|t_pullb 8 rfl<|t_pullb 8 rfl<|t_pullb 9 rfl<|t_front3 [_, _, _, _, _, _, _, _, _, _] hs3164 q a (f ++ R) rfl ?_
 refine t_front4 [_, _, _, _, _, _, _, _, _, _] a hs3164 q f R rfl<|t_front3 [_, _, _, _, _, _, _, _, _, _] f a hs3164 (q ++ R) rfl<|t_front4 [_, _, _, _, _, _, _, _, _, _] hs3164 f a q R rfl<|t_out4 [_, _, _, _, _, _, _, _, _, _] [] q hs3164 f a R rfl<|Tv #[] #[pb g3159, pb g3167, pb g3166, pb g1799, pb g1796, pb g1803, pb G, pb E, pb F, pb g3168] [iv 0] rfl rfl call31 rfl (cFleetStandIns_1 Nhcl3173 _ _ b0 hle3163 0 K c.Change c.Long c.Work c.After c.Break c.Rest c.Row [] [] [] l3152 V l2712 l1752 g3159 g3167 g3166 g1799 g1796 g1803 G E F g3168 T U none 0 [] none 0 [] none 0 [] W X q s z hs3164 g1800 f g1675 a (h3.le (L.trans (Y.trans (hle3155.trans (hle3160.trans hle3163))))) OS.nil ⟨fun _ => rfl, fun _ => rfl⟩ OS.nil ⟨fun _ => rfl, fun _ => rfl⟩ OS.nil ⟨fun _ => rfl, fun _ => rfl⟩ (h3157.le (hle3160.trans hle3163)) h3165 hnz2710 (h2707.le (hle3155.trans (hle3160.trans hle3163))) (h1751.le (Y.trans (hle3155.trans (hle3160.trans hle3163)))) l3169 l3170 l3171 l3172 hcl3173) ?_
 rintro _ b3174 _ hle3175 ⟨A3176, c3177, hs3178, hs3179, A3180, c3181, hs3182, A3183, c3184, p, rfl, rfl, h3186, h3187, h3188, h3189, h3190, h3191, h3192⟩
 refine t_in7 [_, _, _, _, _, _, _, _, _, _] [] hs3178 q hs3179 f a hs3182 p R rfl<|t_hresp 4 rfl (o' := Cl 23 [sv s l3170 z]) (by simp only [sv, h3188])<|Te<|Cs<|Cs<|c_front6 [_, _, _, _, _, _, _, _, _, _] hs3178 q hs3179 f a hs3182 (p ++ R) rfl ?_
 obtain ⟨_, h3193, hm⟩ := bS hm
 refine c_unfrz [_, _, _, _, _, _, _, _, _, _] hs3182 (hs3178 ++ (q ++ (hs3179 ++ (f ++ (a ++ (p ++ R)))))) (by decide) Go.Fp.int_flat Go.Fp.int_inj rfl h3190 (hle3163.trans hle3175) (apart?_some h3193) ?_
 intro b3194 hle3195 hs3196 h3197
 have h3198 := flat_fz (w' := b3194.w) (fun _ _ _ _ h => h) h3186
 have h3199 := flat_fz (w' := b3194.w) (fun _ _ _ _ h => h) h3192
 refine Cg<|Ts rfl (sL 0 rfl one23 rfl rfl)<|Ts rfl (sE rfl sl23)<|M rfl rfl<|Te<|Cb ?_
 have hb3201 : l3171.length ≤ 9223372036854775807 := (OS.len h3197)
 refine Cp 2 rfl<|Cp 1 rfl<|c_front7 [_, _, _, _, _, _, _, _, _, _] hs3196 hs3178 q hs3179 f a p R rfl<|c_front2 [_, _, _, _, _, _, _, _, _, _] p hs3196 (hs3178 ++ (q ++ (hs3179 ++ (f ++ (a ++ R))))) rfl ?_
 obtain ⟨I, hl3277, hk3278⟩ := bS hm
 refine cS (fun k3276 => fun I => fun b3267 e' hp' => ∃ (D : OA), ∃ (J : Nat), ∃ (hs3270 : Hp), [(23, pb g3159), (24, pb g3166), (116, sv D I J), (117, iv ((l3171.length : Int))), (118, iv ((k3276 : Int)))] = e' ∧ (g3159, Cl 23 [sv D I J]) :: (g3166, Cl 42 [sv A3183 l3172 c3184]) :: (hs3270 ++ (p ++ R)) = hp' ∧ b3194.Le b3267 ∧ OS 42 (OT.list 3 (OT.fr rI)) b3267.w (sv D I J) I hs3270 ∧ (D = none ↔ I = [])) hl3277 ⟨A3180, c3181, hs3196, rfl, rfl, lr, h3197, h3191⟩ (.cons_cons _ (.cons_cons _ (.cons _ (.cons _ (.cons _ (.cons _ (.cons _ (.cons _ (.cons _ (.cons _ (sp hs3196 (sp p (ss hs3178 (ss q (ss hs3179 (ss f (ss a (.refl _)))))))))))))))))) ?_ ?_
 rintro k3276 I b3267 _ _ oL3200 hknL3200 ⟨D, J, hs3270, rfl, rfl, hle3268, h3273, hnz3275⟩ hstepL3200
 unfold mFleetStandIns_L3200 at hstepL3200
 have hm := hstepL3200
 refine Cr<|Ts rfl (lT rfl rfl (by omega))<|Te<|Cs<|c_cond_t rfl<|Ck<|Xn<|Cs<|Cb<|Cr ?_
 obtain ⟨x3279, h3280, hm⟩ := bS hm
 obtain ⟨j3281, hj3282, hx3283⟩ := iS h3280
 obtain ⟨cs3284, hs3289, aa, ab, hq3292, hr3285, hcs3286, hA3287, hlt3288, hb3293, hho3294⟩ := OS.get (sz := 1) rfl (by decide) h3273 hx3283
 obtain ⟨v3295, rfl, h3296⟩ := hr3285
 obtain ⟨A3297, c3298, rfl, _⟩ := h3296.form
 refine Ts rfl (sI j3281 rfl rfl hj3282 hlt3288 hA3287 sl23)<|Ts rfl (st_load_rd rfl one42 (fun w ho => hcs3286 w _ ho (.cons _ (.cons _ (List.sublist_append_left _ _))) 0 _ rfl))<|As rfl rfl<|Te<|Cg<|M rfl rfl<|t_takeIn [_, _] aa hs3289 ab (p ++ R) hq3292 rfl ?_
 obtain ⟨l3300, hcl3301, hm⟩ := bS hm
 refine t_out1 [] [_, _] hs3289 ((aa ++ ab) ++ (p ++ R)) rfl<|Tg _ rfl call30 rfl (cSlicesSort _ _ x3279 A3297 c3298 hs3289 h3296 l3300 hcl3301) ?_
 rintro _ b3302 _ hle3303 ⟨hs3304, rfl, rfl, h3305, h3306⟩
 refine t_in1 [] [_, _] hs3304 ((aa ++ ab) ++ (p ++ R)) rfl<|t_front2 [_, _] hs3304 (aa ++ ab) (p ++ R) rfl<|t_putIn [_, _] aa hs3304 ab (p ++ R) rfl ?_
 have h3307 := OS.putback hj3282 hb3293 hle3303 (h3306.trans rfl) rfl h3305
 refine Tr 116 rfl (v' := .slice D (put I (k3276 : Int) l3300).length J) (by simp only [put_length])<|t_hresp 0 rfl (o' := Cl 23 [.slice D (put I (k3276 : Int) l3300).length J]) (by simp only [put_length])<|Tn<|Xm<|Xn<|Cg<|Ts rfl (sa rfl rfl (by omega))<|M rfl rfl<|Tn<|Xp 1 rfl ?_
 refine Xp 1 rfl<|X2 [_, _] (aa ++ (hs3304 ++ ab)) p R rfl<|X2 [_, _] p (aa ++ (hs3304 ++ ab)) R rfl ?_
 obtain rfl := o1 hm
 exact xS ⟨D, J, (aa ++ (hs3304 ++ ab)), rfl, rfl, ((hle3268.trans hle3303)), h3307, (put_nz hnz3275)⟩ (.refl _)
 rintro b3267 _ _ ⟨D, J, hs3270, rfl, rfl, hle3268, h3273, hnz3275⟩
 have hm := hk3278
 refine Cr<|Ts rfl (lF rfl rfl (by omega))<|Te<|Cs<|c_cond_f rfl<|Ce<|Xe<|Xe<|Xo<|Xn ?_
 refine Cs<|Di mixed (.refl _)<|Es 0 rfl (sL 0 rfl one23 rfl rfl)<|Es 1 rfl (sL 1 rfl one42 rfl rfl)<|E0 2 rfl (sA rfl)<|E0 3 rfl (sA rfl)<|E0 4 rfl (sA rfl)<|Eo<|Dd (by kernel_rfl)<|Xn ?_
 refine Ct ?_
 obtain ⟨rfl, rfl, rfl⟩ := some3 hm
 refine X2 [_, _] hs3270 p R rfl<|X2 [_, _] p hs3270 R rfl ?_
 have he3308 := (h3199.le hle3268)
 exact rM (rs := [.tmp 8, .tmp 9, .tmp 10]) (vs := [sv D I J, sv A3183 l3172 c3184, iv 0]) ⟨rfl, ⟨rfl, ⟨rfl, trivial⟩⟩⟩ ⟨D, J, hs3270, A3183, c3184, p, rfl, rfl, h3273, hnz3275, he3308⟩ (.cons _ (.cons _ (.refl _))) (L.trans (Y.trans (hle3155.trans (hle3160.trans (hle3195.trans hle3268)))))

set_option maxRecDepth 20000 in
theorem cBitsMul64 (b : Base) (R : Hp) (a : Int) (c : Int) (i : Int) (j : Int) (hm : mBitsMul64 a c = some (i, j)) :
    CallsG Try.prog 49 [.int .u64 (a), .int .u64 (c)] b (R) (fun v b' hp' => .tuple #[.int .u64 (i), .int .u64 (j)] = v ∧ R = hp') := by
 refine fE 51 Try.func49 rfl Try.ntmps49 rfl ?_
 unfold mBitsMul64 at hm
 refine Cr<|As rfl rfl<|As rfl rfl<|Te<|Cr<|M rfl rfl<|Ts rfl (st_and rfl rfl)<|As rfl rfl<|Te<|Cr ?_
 refine M rfl rfl ?_
 obtain ⟨_, d, hm⟩ := bS hm
 have d := shN_some d
 refine Ts rfl (st_shr rfl rfl d)<|As rfl rfl<|Te<|Cr<|M rfl rfl<|Ts rfl (st_and rfl rfl)<|As rfl rfl<|Te<|Cr<|M rfl rfl ?_
 obtain ⟨_, e, hm⟩ := bS hm
 have e := shN_some e
 refine Ts rfl (st_shr rfl rfl e)<|As rfl rfl<|Te<|Cr<|M rfl rfl<|M rfl rfl<|Ts rfl (st_mul_w rfl rfl)<|As rfl rfl<|Te<|Cr ?_
 refine M rfl rfl<|M rfl rfl<|Ts rfl (st_mul_w rfl rfl)<|M rfl rfl ?_
 obtain ⟨_, f, hm⟩ := bS hm
 have f := shN_some f
 refine Ts rfl (st_shr rfl rfl f)<|Ts rfl (st_add_w rfl rfl)<|As rfl rfl<|Te<|Cr<|M rfl rfl<|Ts rfl (st_and rfl rfl)<|As rfl rfl<|Te<|Cr ?_
 refine M rfl rfl ?_
 obtain ⟨_, g, hm⟩ := bS hm
 have g := shN_some g
 refine Ts rfl (st_shr rfl rfl g)<|As rfl rfl<|Te<|Cr<|M rfl rfl<|M rfl rfl<|M rfl rfl<|Ts rfl (st_mul_w rfl rfl)<|Ts rfl (st_add_w rfl rfl)<|As rfl rfl ?_
 refine Te<|Cr<|M rfl rfl<|M rfl rfl<|Ts rfl (st_mul_w rfl rfl)<|M rfl rfl<|Ts rfl (st_add_w rfl rfl)<|M rfl rfl ?_
 obtain ⟨_, h, hm⟩ := bS hm
 have h := shN_some h
 refine Ts rfl (st_shr rfl rfl h)<|Ts rfl (st_add_w rfl rfl)<|As rfl rfl<|Te<|Cr<|M rfl rfl<|M rfl rfl<|Ts rfl (st_mul_w rfl rfl)<|As rfl rfl<|Te ?_
 refine Ct ?_
 obtain ⟨rfl, rfl⟩ := some2 hm
 exact rM (rs := [.tmp 4, .tmp 5]) (vs := [.int .u64 (IntKind.wrap .u64 ((IntKind.wrap .u64 ((IntKind.wrap .u64 ((shrI .u64 a 32) * (shrI .u64 c 32))) + (shrI .u64 (IntKind.wrap .u64 ((IntKind.wrap .u64 ((shrI .u64 a 32) * (andI .u64 c 4294967295))) + (shrI .u64 (IntKind.wrap .u64 ((andI .u64 a 4294967295) * (andI .u64 c 4294967295))) 32))) 32))) + (shrI .u64 (IntKind.wrap .u64 ((andI .u64 (IntKind.wrap .u64 ((IntKind.wrap .u64 ((shrI .u64 a 32) * (andI .u64 c 4294967295))) + (shrI .u64 (IntKind.wrap .u64 ((andI .u64 a 4294967295) * (andI .u64 c 4294967295))) 32))) 4294967295) + (IntKind.wrap .u64 ((andI .u64 a 4294967295) * (shrI .u64 c 32))))) 32))), .int .u64 (IntKind.wrap .u64 (a * c))]) ⟨rfl, ⟨rfl, trivial⟩⟩ ⟨rfl, rfl⟩ (.refl _) lr

set_option maxRecDepth 20000 in
theorem cBitsMul (b : Base) (R : Hp) (a : Int) (c : Int) (d : Int) (e : Int) (hm : mBitsMul a c = some (d, e)) :
    CallsG Try.prog 32 [.int .u64 (a), .int .u64 (c)] b (R) (fun v b' hp' => .tuple #[.int .u64 (d), .int .u64 (e)] = v ∧ R = hp') := by
 refine fE 30 Try.func32 rfl Try.ntmps32 rfl ?_
 unfold mBitsMul at hm
 refine Cr<|As rfl rfl<|As rfl rfl<|Te<|Cs<|c_cond_f rfl<|Ck<|Xn<|Cr<|M rfl rfl ?_
 refine M rfl rfl ?_
 obtain ⟨⟨f, g⟩, i, hm⟩ := bS hm
 have hm := (unc2E hm)
 refine Do rfl (uW _ call49 rfl (fun w ho => cBitsMul64 _ [] a c f g i) (fun _ _ _ h => h.2.symm)) ?_
 rintro _ _ ⟨⟨_, rfl, _⟩, rfl⟩
 refine M rfl rfl<|Ts rfl (st_extract rfl rfl)<|Ts rfl (st_extract rfl rfl)<|As rfl rfl<|As rfl rfl<|Te<|Cr<|M rfl rfl<|M rfl rfl<|As rfl rfl ?_
 refine As rfl rfl<|Te<|Ct ?_
 obtain ⟨rfl, rfl⟩ := some2 hm
 exact rM (rs := [.tmp 4, .tmp 5]) (vs := [.int .u64 (f), .int .u64 (g)]) ⟨rfl, ⟨rfl, trivial⟩⟩ ⟨rfl, rfl⟩ (.refl _) lr

set_option maxRecDepth 20000 in
theorem cSlicesRepeat (b : Base) (R : Hp) (e : (List Int)) (u : Int) (x : OA) (y : Nat) (h3 : FZ rI b.w x y e) (o : (List Int)) (hm : mSlicesRepeat e u = some o) :
    CallsG Try.prog 11 [sv x e y, iv u] b (R) (fun v b' hp' => ∃ (I : OA), ∃ (J : Nat), ∃ (K : Hp), sv I o J = v ∧ (K ++ R) = hp' ∧ OS 3 (OT.fr rI) b'.w (sv I o J) o K) := by
 refine fE 48 Try.func11 rfl Try.ntmps11 rfl ?_
 unfold mSlicesRepeat at hm
 refine Cr<|As rfl rfl<|Te<|Cs<|Cr<|M rfl rfl<|Ts rfl (q3 rfl rfl)<|Te ?_
 refine Cc _ rfl (fun z => ?_) (fun z => ?_)
 rw [if_pos (of_decide_eq_true z)] at hm
 cases hm
 rw [if_neg (of_decide_eq_false z)] at hm
 refine Ck<|Xn<|Cr<|M rfl rfl<|Ts rfl (sE rfl sl42)<|Ts rfl (st_conv rfl int3_i64 int79_u64)<|M rfl rfl<|Ts rfl (st_conv rfl int3_i64 int79_u64) ?_
 obtain ⟨⟨x403, L⟩, hcl405, hm⟩ := bS hm
 have hm := (unc2E hm)
 refine Do rfl (uW _ call32 rfl (fun w ho => cBitsMul _ [] (IntKind.wrap .u64 (e.length : Int)) (IntKind.wrap .u64 u) x403 L hcl405) (fun _ _ _ h => h.2.symm)) ?_
 rintro _ _ ⟨⟨_, rfl, _⟩, rfl⟩
 refine M rfl rfl<|Ts rfl (st_extract rfl rfl)<|Ts rfl (st_extract rfl rfl)<|As rfl rfl<|As rfl rfl<|Te<|Cs ?_
 obtain ⟨x409, hj410, hk410⟩ := bS hm
 refine Cj (fun p e' hp' => [(0, sv x e y), (6, .int .u64 (L)), (26, bv x409)] = e' ∧ R = hp' ∧ b.Le p) ?_ ?_
 have hm := hj410
 refine Cg<|M rfl rfl ?_
 refine Tb rfl (q5 rfl rfl) (fun A => ?_) (fun A => ?_)
 rw [if_pos A] at hm
 refine M rfl rfl<|No 23 rfl rfl rfl rfl rfl<|No 23 rfl rfl rfl rfl rfl<|Ts rfl (pT rfl rfl)<|Tn ?_
 obtain rfl := o1 hm
 exact xJ ⟨rfl, rfl, lr⟩ (.refl _)
 rw [if_neg A] at hm
 refine M rfl rfl<|Ys 23 rfl rfl rfl<|M rfl rfl<|Ys 23 rfl rfl rfl<|Ts rfl (q5 rfl rfl)<|Ts rfl (pF rfl rfl)<|Tn ?_
 obtain rfl := o1 hm
 exact xJ ⟨rfl, rfl, lr⟩ (.refl _)
 rintro p _ _ ⟨rfl, rfl, O⟩
 have hm := hk410
 refine Cc _ rfl (fun B => ?_) (fun B => ?_)
 rw [if_pos B] at hm
 cases hm
 rw [if_neg (fun hh => Bool.noConfusion (hh.symm.trans B))] at hm
 refine Ck<|Xn<|Cr<|M rfl rfl<|Ts rfl (st_conv rfl int79_u64 int3_i64) ?_
 obtain ⟨g, i, hm⟩ := bS hm
 have i := mkLen_some i
 refine Do rfl (u_mkOS (r := rI) [] R [iv 0] 0 g rfl i.1 rfl rfl sl42 inf3 rfl rfl rfl (by decide) rfl i.2.1 i.2.2) ?_
 rintro _ _ ⟨hs415, rfl, S⟩
 obtain ⟨c, d, rfl, _⟩ := S.form
 refine As rfl rfl<|Te<|Cr<|M rfl rfl<|M rfl rfl ?_
 obtain ⟨css419, h420, h421⟩ := rd_src (h3.le O)
 refine Do rfl (u_copyI (r := rI) (m := e) (show (0 : Int) = ((0 : Nat) : Int) from rfl) rfl [] R css419 rfl sl42 rfl rfl (subA_zero _ _ _).symm (Nat.sub_zero _).symm rfl (Nat.zero_le _) (Nat.le_refl _) S rfl (fun w ho => h420.old ho) h421) ?_
 rintro _ _ ⟨rfl, hs422, rfl, h423⟩
 refine Tr 7 rfl (v' := .slice c (cpyI (List.replicate g (0 : Int)) 0 ((List.replicate g (0 : Int)).length : Int) e).length d) (by rw [(cpyI_length (show (0 : Int) = ((0 : Nat) : Int) from rfl) rfl (Nat.zero_le _) (Nat.le_refl _))])<|As rfl rfl<|Te ?_
 obtain ⟨j, hj611, hk611⟩ := bS hm
 refine Cj (fun C e' hp' => ∃ (q : Hp), [(7, sv c j d)] = e' ∧ (q ++ R) = hp' ∧ p.Le C ∧ OS 3 (OT.fr rI) C.w (sv c j d) j q ∧ j.length = g) ?_ ?_
 have hm := hj611
 refine Cb<|cL (unc2 fun D a => fun E e' hp' => ∃ (s : Hp), [(7, sv c a d), (8, iv D)] = e' ∧ (s ++ R) = hp' ∧ p.Le E ∧ OS 3 (OT.fr rI) E.w (sv c a d) a s ∧ a.length = g) hm ⟨hs422, rfl, rfl, lr, h423, ((cpyI_length (show (0 : Int) = ((0 : Nat) : Int) from rfl) rfl (Nat.zero_le _) (Nat.le_refl _)).trans List.length_replicate)⟩ (.refl _) ?_
 rintro ⟨D, a⟩ E _ _ oL612 ⟨s, rfl, rfl, T, f, U⟩ V houtL612
 unfold mSlicesRepeat_L612 at V
 have hm := (unc2E V)
 refine Cs<|Cr<|M rfl rfl<|M rfl rfl<|Ts rfl (sE rfl sl42)<|Ts rfl (q3 rfl rfl)<|Te ?_
 refine Cc _ rfl (fun F => ?_) (fun F => ?_)
 rw [if_pos (of_decide_eq_true F)] at hm
 refine Ck<|Xn<|Cb ?_
 obtain ⟨l765, h766, hm⟩ := bS hm
 obtain ⟨W, h776, hm⟩ := bS hm
 obtain ⟨_, G, hm⟩ := bS hm
 refine Di mixed (.refl _)<|E0 0 rfl (sM rfl)<|E0 1 rfl (sM rfl)<|E0 2 rfl (sM rfl) ?_
 obtain ⟨j767, j768, t, H, k, n, X⟩ := cutS_some h766
 have h774 := OS.lc f
 refine E0 3 rfl (X ▸ st_part (l := a) j767 j768 rfl (.inr ⟨_, _, _, rfl, rfl, t⟩) (.inl ⟨rfl, by omega⟩) k n h774 sl42)<|E0 4 rfl (sM rfl)<|E0 5 rfl (sM rfl) ?_
 obtain ⟨Y, Z, hj779, hj780, aa, ab, ac⟩ := cutS_some h776
 have h784 := OS.lc f
 refine E0 6 rfl (ac ▸ st_part (l := a) Y Z rfl (.inl ⟨rfl, by omega⟩) (.inr ⟨_, _, _, rfl, rfl, hj780⟩) aa ab h784 sl42)<|Eo ?_
 obtain ⟨css785, h786, ad⟩ := rd_own f (List.sublist_append_left _ _)
 have h788 := OS.lc f
 refine Da [7] (by kernel_rfl) rfl ?_
 refine Rd2 lr rfl rfl (u_copyI (r := rI) (m := W) t H [] R ((css785.take Z).drop Y) rfl sl42 rfl rfl rfl (cut_len X k n) rfl k n f rfl (fun w ho => rd_part rfl aa ab h788 (h786 w ho) ⟨_, ad⟩) (cut_all ac ad)) ?_ ?_
 rintro _ _ ⟨rfl, hs789, rfl, h790⟩
 refine ⟨.inl (by kernel_rfl), ?_⟩
 refine d_resp 7 rfl (v' := .slice c (cpyI a D (a.length : Int) W).length d) (by rw [(cpyI_length t H k n)]) ?_
 have G := (kS G).2
 refine El lr<|E0 8 rfl (sa rfl rfl G)<|E0 9 rfl (sA rfl)<|Eo<|Dd (by kernel_rfl)<|Xm ?_
 exact xM hm ⟨hs789, rfl, rfl, (T), h790, ((cpyI_length t H k n).trans U)⟩ (.refl _)
 exact Rn
 rw [if_neg (of_decide_eq_false F)] at hm
 refine Ce<|Xe<|Xe<|Xo ?_
 have hm := congrArg some (houtL612 _ (Option.some.inj hm).symm)
 obtain rfl := o1 hm
 exact xJ ⟨s, rfl, rfl, T, f, U⟩ (.refl _)
 rintro C _ _ ⟨q, rfl, rfl, hle605, h608, hln610⟩
 have hm := hk611
 refine Cr<|M rfl rfl<|As rfl rfl<|Te<|Ct ?_
 obtain rfl := o1 hm
 exact rM (rs := [.tmp 4]) (vs := [sv c j d]) ⟨rfl, trivial⟩ ⟨c, d, q, rfl, rfl, h608⟩ (.refl _) (O.trans hle605)

set_option maxRecDepth 20000 in
theorem cSlicesIndex_2 (b : Base) (R : Hp) (c : (List FleetAbsence)) (a : FleetAbsence) (g : OA) (h : Nat) (m : FZ rFleetAbsence b.w g h c) (n : Int) (hm : mSlicesIndex_2 c a = some n) :
    CallsG Try.prog 33 [sv g c h, .agg #[iv a.Driver, iv a.Day]] b (R) (fun v b' hp' => iv n = v ∧ R = hp') := by
 refine fE 19 Try.func33 rfl Try.ntmps33 rfl ?_
 unfold mSlicesIndex_2 at hm
 refine Cr<|Do rfl (uB _ rfl rfl) ?_
 rintro _ _ ⟨o, rfl, rfl⟩
 refine As rfl rfl<|Te<|Cs<|Cr<|M rfl rfl<|Ts rfl (sE rfl sl28)<|M rfl rfl<|Te<|Cb ?_
 have F : c.length ≤ 9223372036854775807 := (FZ.bd m)
 obtain ⟨G, s, f⟩ := bS hm
 refine cF (fun i => fun _ => fun k e' hp' => [(0, sv g c h), (3, pb o), (7, iv ((c.length : Int))), (8, iv ((i : Int)))] = e' ∧ (o, Cl 54 [iv a.Driver, iv a.Day]) :: R = hp' ∧ b.Le k) s ⟨rfl, rfl, lr⟩ (.refl _) ?_ ?_
 rintro i _ k _ _ H I ⟨rfl, rfl, e⟩ q t
 unfold mSlicesIndex_2_L61 at q
 have hm := q
 refine Cr<|Ts rfl (lT rfl rfl (by omega))<|Te<|Cs<|c_cond_t rfl<|Ck<|Xn<|Cs<|Cb<|Cr ?_
 refine M rfl rfl<|As rfl rfl<|Te<|Cs ?_
 obtain ⟨d, w, hm⟩ := bS hm
 refine Di mixed (.refl _)<|Es 0 rfl (sD (vs := [_, _]) 0 2 rfl agg54 rfl rfl rfl)<|E0 1 rfl (sM rfl)<|E0 2 rfl (sM rfl) ?_
 obtain ⟨x, y, z⟩ := iS w
 obtain ⟨J, A, B, r, C⟩ := FZ.get (sz := 2) rfl (by decide) (m.le e) z
 obtain ⟨_, _, rfl, rfl, rfl⟩ := A
 refine E0 3 rfl (sI x rfl rfl y C r sl28)<|Es 4 rfl (sP (vs := [iv d.Driver, iv d.Day]) 2 rfl agg54 r rfl (fun j u hu => B j u hu))<|E0 5 rfl (st_eqlA (xs := [iv a.Driver, iv a.Day]) (ys := [iv d.Driver, iv d.Day]) (p := a.Driver = d.Driver ∧ a.Day = d.Day) rfl rfl eqt54 ⟨⟨_, rfl⟩, ⟨⟨_, rfl⟩, trivial⟩⟩ ⟨⟨_, rfl⟩, ⟨⟨_, rfl⟩, trivial⟩⟩ (by simp [eqCells, eqCell, Bool.decide_and, beq_dec]))<|Eo<|Dd (by kernel_rfl)<|Xn ?_
 refine Cc _ rfl (fun l => ?_) (fun l => ?_)
 rw [if_pos (of_decide_eq_true l)] at hm
 refine Cr<|M rfl rfl<|As rfl rfl<|Te<|Ct<|Xb<|Xr<|Xr<|Xb<|Xr ?_
 have D := t _ (Option.some.inj hm).symm
 rw [D] at f
 have hm := elimR f
 obtain rfl := o1 hm
 exact rM (rs := [.tmp 4]) (vs := [iv ((i : Int))]) ⟨rfl, trivial⟩ ⟨rfl, rfl⟩ (.cons _ (.refl _)) e
 rw [if_neg (of_decide_eq_false l)] at hm
 refine Ck<|Xm<|Xn<|Cg<|Ts rfl (sa rfl rfl (by omega))<|M rfl rfl<|Tn ?_
 exact xM hm ⟨rfl, rfl, (e)⟩ (.refl _)
 rintro _ k _ _ ⟨rfl, rfl, e⟩ E
 rw [E] at f
 have hm := elimL f
 refine Cr<|Ts rfl (lF rfl rfl (by omega))<|Te<|Cs<|c_cond_f rfl<|Ce<|Xe<|Xe<|Xo<|Xn ?_
 refine Cr<|As rfl rfl<|Te<|Ct ?_
 obtain rfl := o1 hm
 exact rM (rs := [.tmp 4]) (vs := [iv ((-1))]) ⟨rfl, trivial⟩ ⟨rfl, rfl⟩ (.cons _ (.refl _)) e

set_option maxRecDepth 20000 in
theorem cSlicesContains_2 (b : Base) (R : Hp) (a : (List FleetAbsence)) (c : FleetAbsence) (d : OA) (e : Nat) (i : FZ rFleetAbsence b.w d e a) (f : Bool) (hm : mSlicesContains_2 a c = some f) :
    CallsG Try.prog 12 [sv d a e, .agg #[iv c.Driver, iv c.Day]] b (R) (fun v b' hp' => bv f = v ∧ R = hp') := by
 refine fE 9 Try.func12 rfl Try.ntmps12 rfl ?_
 unfold mSlicesContains_2 at hm
 refine Cr<|Do rfl (uB _ rfl rfl) ?_
 rintro _ _ ⟨k, rfl, rfl⟩
 refine As rfl rfl<|Te<|Cr<|M rfl rfl<|Ts rfl (sD (vs := [_, _]) 0 2 rfl agg54 rfl rfl rfl) ?_
 obtain ⟨g, j, hm⟩ := bS hm
 refine Do rfl (uW _ call33 rfl (fun w ho => cSlicesIndex_2 _ [] a c d e (i.old ho) g j) (fun _ _ _ h => h.2.symm)) ?_
 rintro _ _ ⟨⟨_, rfl, _⟩, rfl⟩
 refine Ts rfl (q6 rfl rfl)<|As rfl rfl<|Te<|Ct ?_
 obtain rfl := o1 hm
 exact rM (rs := [.tmp 4]) (vs := [.bool (decide (0 ≤ g))]) ⟨rfl, trivial⟩ ⟨rfl, rfl⟩ (.cons _ (.refl _)) lr

set_option maxRecDepth 20000 in
theorem cSlicesIndex_3 (b : Base) (R : Hp) (a : (List Int)) (e : Int) (f : OA) (g : Nat) (k : FZ rI b.w f g a) (l : Int) (hm : mSlicesIndex_3 a e = some l) :
    CallsG Try.prog 34 [sv f a g, iv e] b (R) (fun v b' hp' => iv l = v ∧ R = hp') := by
 refine fE 19 Try.func34 rfl Try.ntmps34 rfl ?_
 unfold mSlicesIndex_3 at hm
 refine Cr<|As rfl rfl<|Te<|Cs<|Cr<|M rfl rfl<|Ts rfl (sE rfl sl42)<|M rfl rfl<|Te<|Cb ?_
 have A : a.length ≤ 9223372036854775807 := (FZ.bd k)
 obtain ⟨B, n, d⟩ := bS hm
 refine cF (fun h => fun _ => fun i e' hp' => [(0, sv f a g), (1, iv e), (7, iv ((a.length : Int))), (8, iv ((h : Int)))] = e' ∧ R = hp' ∧ b.Le i) n ⟨rfl, rfl, lr⟩ (.refl _) ?_ ?_
 rintro h _ i _ _ C D ⟨rfl, rfl, c⟩ m o
 unfold mSlicesIndex_3_L39 at m
 have hm := m
 refine Cr<|Ts rfl (lT rfl rfl (by omega))<|Te<|Cs<|c_cond_t rfl<|Ck<|Xn<|Cs<|Cb<|Cr ?_
 refine M rfl rfl<|As rfl rfl<|Te<|Cr<|M rfl rfl<|M rfl rfl<|M rfl rfl ?_
 obtain ⟨E, p, hm⟩ := bS hm
 obtain ⟨q, r, s⟩ := iS p
 obtain ⟨F, t, u, w, x⟩ := FZ.get (sz := 1) rfl (by decide) (k.le c) s
 obtain rfl := t
 refine Ts rfl (sI q rfl rfl r x w sl42)<|Ts rfl (sO rfl one3 (u 0 _ rfl))<|Ts rfl (q1 rfl rfl)<|Te ?_
 refine Cc _ rfl (fun j => ?_) (fun j => ?_)
 rw [if_pos (of_decide_eq_true j)] at hm
 refine Cr<|M rfl rfl<|As rfl rfl<|Te<|Ct<|Xb<|Xr<|Xr<|Xb<|Xr ?_
 have y := o _ (Option.some.inj hm).symm
 rw [y] at d
 have hm := elimR d
 obtain rfl := o1 hm
 exact rM (rs := [.tmp 4]) (vs := [iv ((h : Int))]) ⟨rfl, trivial⟩ ⟨rfl, rfl⟩ (.refl _) c
 rw [if_neg (of_decide_eq_false j)] at hm
 refine Ck<|Xm<|Xn<|Cg<|Ts rfl (sa rfl rfl (by omega))<|M rfl rfl<|Tn ?_
 exact xM hm ⟨rfl, rfl, (c)⟩ (.refl _)
 rintro _ i _ _ ⟨rfl, rfl, c⟩ z
 rw [z] at d
 have hm := elimL d
 refine Cr<|Ts rfl (lF rfl rfl (by omega))<|Te<|Cs<|c_cond_f rfl<|Ce<|Xe<|Xe<|Xo<|Xn ?_
 refine Cr<|As rfl rfl<|Te<|Ct ?_
 obtain rfl := o1 hm
 exact rM (rs := [.tmp 4]) (vs := [iv ((-1))]) ⟨rfl, trivial⟩ ⟨rfl, rfl⟩ (.refl _) c

set_option maxRecDepth 20000 in
theorem cSlicesContains_3 (b : Base) (R : Hp) (a : (List Int)) (c : Int) (d : OA) (e : Nat) (i : FZ rI b.w d e a) (f : Bool) (hm : mSlicesContains_3 a c = some f) :
    CallsG Try.prog 13 [sv d a e, iv c] b (R) (fun v b' hp' => bv f = v ∧ R = hp') := by
 refine fE 9 Try.func13 rfl Try.ntmps13 rfl ?_
 unfold mSlicesContains_3 at hm
 refine Cr<|As rfl rfl<|Te<|Cr<|M rfl rfl<|M rfl rfl ?_
 obtain ⟨g, j, hm⟩ := bS hm
 refine Do rfl (uW _ call34 rfl (fun w ho => cSlicesIndex_3 _ [] a c d e (i.old ho) g j) (fun _ _ _ h => h.2.symm)) ?_
 rintro _ _ ⟨⟨_, rfl, _⟩, rfl⟩
 refine Ts rfl (q6 rfl rfl)<|As rfl rfl<|Te<|Ct ?_
 obtain rfl := o1 hm
 exact rM (rs := [.tmp 4]) (vs := [.bool (decide (0 ≤ g))]) ⟨rfl, trivial⟩ ⟨rfl, rfl⟩ (.refl _) lr

set_option maxRecDepth 20000 in
theorem cFleetJudge_2 (b : Base) (R : Hp) (e : (List FleetTask)) (d : (List Int)) (a : FleetLimits) (j : OA) (k : Nat) (g : OA) (f : Nat) (u : FZ rFleetTask b.w j k e) (m : FZ rI b.w g f d) (x : Int) (y : Int) (hm : mFleetJudge_2 e d a = some (x, y)) :
    CallsG Try.prog 14 [sv j e k, sv g d f, .agg #[iv a.Change, iv a.Long, iv a.Work, iv a.After, iv a.Break, iv a.Rest, iv a.Row]] b (R) (fun v b' hp' => .tuple #[iv x, iv y] = v ∧ R = hp') := by
 refine fE 45 Try.func14 rfl Try.ntmps14 rfl ?_
 unfold mFleetJudge_2 at hm
 refine Cr<|Do rfl (uB _ rfl rfl) ?_
 rintro _ _ ⟨z, rfl, rfl⟩
 refine As rfl rfl<|As rfl rfl<|Te<|Cs<|Cr<|M rfl rfl<|Ts rfl (sD (vs := [_, _, _, _, _, _, _]) 0 7 rfl agg27 rfl rfl rfl) ?_
 obtain ⟨A, K, hm⟩ := bS hm
 refine Do rfl (uW _ call18 rfl (fun w ho => cFleetCheckTasks_2 _ [] e a j k (u.old ho) A K) (fun _ _ _ h => h.2.symm)) ?_
 rintro _ _ ⟨⟨_, rfl, _⟩, rfl⟩
 refine As rfl rfl<|Te<|Cr<|M rfl rfl<|Ts rfl (q2 rfl rfl)<|Te ?_
 refine Cc _ rfl (fun n => ?_) (fun n => ?_)
 rw [if_pos (of_decide_eq_true n)] at hm
 refine Cr<|M rfl rfl<|As rfl rfl<|As rfl rfl<|Te<|Ct<|Xr ?_
 obtain ⟨rfl, rfl⟩ := some2 hm
 exact rM (rs := [.tmp 6, .tmp 7]) (vs := [iv 0, iv A]) ⟨rfl, ⟨rfl, trivial⟩⟩ ⟨rfl, rfl⟩ (.cons _ (.refl _)) lr
 rw [if_neg (of_decide_eq_false n)] at hm
 refine Ck<|Xn<|Cs<|Cr<|M rfl rfl<|Ts rfl (sE rfl sl42)<|Ts rfl (q1 rfl rfl)<|Te ?_
 refine Cc _ rfl (fun o => ?_) (fun o => ?_)
 rw [if_pos (of_decide_eq_true o)] at hm
 refine Cr<|As rfl rfl<|As rfl rfl<|Te<|Ct<|Xr ?_
 obtain ⟨rfl, rfl⟩ := some2 hm
 exact rM (rs := [.tmp 6, .tmp 7]) (vs := [iv 0, iv 1]) ⟨rfl, ⟨rfl, trivial⟩⟩ ⟨rfl, rfl⟩ (.cons _ (.refl _)) lr
 rw [if_neg (of_decide_eq_false o)] at hm
 refine Ck<|Xn<|Cs<|Cr<|M rfl rfl<|Ts rfl (sE rfl sl42)<|M rfl rfl<|Te<|Cb ?_
 have am : d.length ≤ 9223372036854775807 := (FZ.bd m)
 obtain ⟨an, L, i⟩ := bS hm
 refine cF (fun B => fun _ => fun p e' hp' => [(0, sv j e k), (1, sv g d f), (5, pb z), (20, sv g d f), (21, iv ((d.length : Int))), (22, iv ((B : Int)))] = e' ∧ (z, Cl 27 [iv a.Change, iv a.Long, iv a.Work, iv a.After, iv a.Break, iv a.Rest, iv a.Row]) :: R = hp' ∧ b.Le p) L ⟨rfl, rfl, lr⟩ (.refl _) ?_ ?_
 rintro B _ p _ _ ao aq ⟨rfl, rfl, c⟩ C D
 unfold mFleetJudge_2_L99 at C
 have hm := C
 refine Cr<|Ts rfl (lT rfl rfl (by omega))<|Te<|Cs<|c_cond_t rfl<|Ck<|Xn<|Cs<|Cb<|Cr ?_
 refine M rfl rfl ?_
 obtain ⟨E, O, hm⟩ := bS hm
 obtain ⟨S, T, U⟩ := iS O
 obtain ⟨ar, V, W, X, Y⟩ := FZ.get (sz := 1) rfl (by decide) (m.le c) U
 obtain rfl := V
 refine Ts rfl (sI S rfl rfl T Y X sl42)<|Ts rfl (sO rfl one3 (W 0 _ rfl))<|As rfl rfl<|As rfl rfl<|Te<|Cb<|Cr<|M rfl rfl<|M rfl rfl<|Ts rfl (sE rfl sl32) ?_
 obtain ⟨_, q, hm⟩ := bS hm
 have q := (kS q).2
 refine Ts rfl (sb rfl rfl q) ?_
 obtain ⟨Z, aa, hm⟩ := bS hm
 refine Do rfl (uW _ call23 rfl (fun w ho => cFleetWithin _ [] E 0 ((e.length : Int) - 1) Z aa) (fun _ _ _ h => h.2.symm)) ?_
 rintro _ _ ⟨⟨_, rfl, _⟩, rfl⟩
 refine Ts rfl (sn2 rfl)<|As rfl rfl<|Te ?_
 refine Cc _ rfl (fun r => ?_) (fun r => ?_)
 rw [if_neg (fun hh => Bool.noConfusion (hh.symm.trans (nt r)))] at hm
 refine Cr<|As rfl rfl<|As rfl rfl<|Te<|Ct<|Xb<|Xb<|Xr<|Xr<|Xb ?_
 refine Xr ?_
 have ab := D _ (Option.some.inj hm).symm
 rw [ab] at i
 have hm := elimR i
 obtain ⟨rfl, rfl⟩ := some2 hm
 exact rM (rs := [.tmp 6, .tmp 7]) (vs := [iv 0, iv 2]) ⟨rfl, ⟨rfl, trivial⟩⟩ ⟨rfl, rfl⟩ (.cons _ (.refl _)) c
 rw [if_pos (nf r)] at hm
 refine Cr<|M rfl rfl<|M rfl rfl ?_
 obtain ⟨ac, ad, hm⟩ := bS hm
 obtain ⟨s, ae, au, af, F, G, H⟩ := cutS_some ad
 have I := FZ.sub (sz := 1) rfl (m.le c) F G
 have ag := (m.le c).1.1
 rw [← H] at I
 refine Ts rfl (H ▸ st_part (l := d) s ae rfl (.inl ⟨rfl, by omega⟩) (.inr ⟨_, _, _, rfl, rfl, af⟩) F G ag sl42)<|M rfl rfl ?_
 obtain ⟨ah, ai, hm⟩ := bS hm
 refine Do rfl (uW _ call13 rfl (fun w ho => cSlicesContains_3 _ [] ac E (subA g f s 1) (f - s) (I.old ho) ah ai) (fun _ _ _ h => h.2.symm)) ?_
 rintro _ _ ⟨⟨_, rfl, _⟩, rfl⟩
 refine As rfl rfl<|Te ?_
 refine Cc _ rfl (fun t => ?_) (fun t => ?_)
 rw [if_pos t] at hm
 refine Cr<|As rfl rfl<|As rfl rfl<|Te<|Ct<|Xb<|Xb<|Xr<|Xr<|Xb ?_
 refine Xr ?_
 have aj := D _ (Option.some.inj hm).symm
 rw [aj] at i
 have hm := elimR i
 obtain ⟨rfl, rfl⟩ := some2 hm
 exact rM (rs := [.tmp 6, .tmp 7]) (vs := [iv 0, iv 6]) ⟨rfl, ⟨rfl, trivial⟩⟩ ⟨rfl, rfl⟩ (.cons _ (.refl _)) c
 rw [if_neg (fun hh => Bool.noConfusion (hh.symm.trans t))] at hm
 refine Ck<|Xm<|Xm<|Xn<|Cg<|Ts rfl (sa rfl rfl (by omega))<|M rfl rfl<|Tn ?_
 exact xM hm ⟨rfl, rfl, (c)⟩ (.refl _)
 rintro _ p _ _ ⟨rfl, rfl, c⟩ ak
 rw [ak] at i
 have hm := elimL i
 refine Cr<|Ts rfl (lF rfl rfl (by omega))<|Te<|Cs<|c_cond_f rfl<|Ce<|Xe<|Xe<|Xo<|Xn ?_
 refine Cr<|M rfl rfl<|M rfl rfl<|Ts rfl (sD (vs := [_, _, _, _, _, _, _]) 0 7 rfl agg27 rfl rfl rfl) ?_
 obtain ⟨J, al, hm⟩ := bS hm
 refine Do rfl (uW _ call35 rfl (fun w ho => cFleetJudge _ [] e d a j k g f ((u.le c).old ho) ((m.le c).old ho) J al) (fun _ _ _ h => h.2.symm)) ?_
 rintro _ _ ⟨⟨_, rfl, _⟩, rfl⟩
 refine As rfl rfl<|As rfl rfl<|Te<|Ct ?_
 obtain ⟨rfl, rfl⟩ := some2 hm
 exact rM (rs := [.tmp 6, .tmp 7]) (vs := [iv J, iv 0]) ⟨rfl, ⟨rfl, trivial⟩⟩ ⟨rfl, rfl⟩ (.cons _ (.refl _)) c

end Go.Proofs.Ytnmhabgnfifkdaa
