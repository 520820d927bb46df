/- Contracts: the code computes its model (part 5). -/
import Derived.Test.YtbhomnclohcecaaZP4
set_option linter.unusedVariables false
set_option linter.unusedSimpArgs false
namespace Go.Proofs.Ytbhomnclohcecaa
open Go.RowKit Go.Fp

open Go.Fp renaming t_mv → M, t_as → As, t_st → Ts, t_do → Do, t_ne → Te, t_nil → Tn, t_no → No, t_yes → Ys, t_bool → Tb, t_callG → Tg, t_callvG → Tv, t_resp → Tr, c_sr → Cr, c_seq → Cs, c_region → Cg, c_cond → Cc, c_block → Cb, c_ret → Ct, c_skip → Ck, c_exit → Ce, c_join → Cj, c_pullb → Cp, x_then_normal → Xn, x_then_ret → Xr, x_then_exit → Xe, x_block_ret → Xb, x_block_normal → Xm, x_block_out → Xo, x_pullb → Xp, x_front2 → X2, x_front3 → X3, x_front4 → X4, x_front6 → X6, E_st → Es, E_s0 → E0, E_yes → Ey, E_y0 → Yz, E_no → En, E_in → Ei, E_out → Eo, D_all → Da, D_done → Dd, D_drawI → Di, R_do → Rd2, R_nil → Rn, R_callGl → Rg, st_load → sL, st_loadD → sD, st_field → sF, st_len → sE, st_move → sM, st_assign → sA, st_pick_t → pT, st_pick_f → pF, st_index_old → sI, st_load_old → sO, st_loadN_old → sP, st_field_old → sQ, st_add → sa, st_sub → sb, st_lss_t → lT, st_lss_f → lF, st_eql_t → eT, st_eql_f → eF, st_not → sn2, st_build → sB, u_box → uB, u_alloc → uA, u_store → uS, u_storeN → uN, u_callW0 → uW, u_putOS → uP, u_appOS → uQ, fn_enterG → fE, bindS → bS, some1 → o1, idx_some → iS, sub_skip → ss, sub_app → sp, chk_some → kS, notT → nt, notF → nf, d_front2 → d2, mem_c → mc, mem_n → mn, st_eql → q1, st_neq → q2, st_lss → q3, st_gtr → q5, st_geq → q6
set_option maxHeartbeats 1000000 in
set_option maxRecDepth 20000 in
theorem cFleetStandIns_1 : ∀ (N : Nat) (b : Base) (R : Hp) (T : Base) (hb0 : T.Le b) (al : Int) (W : (List FleetShift)) (aa : Int) (ab : Int) (ac : Int) (ad : Int) (ae : Int) (af : Int) (ag : Int) (l56 : (List (List Int))) (ay : (List Int)) (l60 : (List Int)) (X : (List Int)) (O : (List (List Int))) (l65 : (List (Int × Int))) (l66 : (List (FleetAbsence × Bool))) (H : Nat) (z : Nat) (I : Nat) (J : Nat) (A : Nat) (B : Nat) (C : Nat) (D : Nat) (E : Nat) (F : Nat) (ah : OA) (ai : Nat) (A3 : OA) (c4 : Nat) (n : Hp) (A8 : OA) (c9 : Nat) (m : Hp) (A13 : OA) (c14 : Nat) (p : Hp) (am : OA) (an : Nat) (a : Hp) (t : OA) (y : Nat) (q : Hp) (ao : Nat) (c : Hp) (aq : Nat) (d : Hp) (h47 : FZ rFleetShift b.w ah ai W) (h5 : OS 33 (OT.fr (RT.own1 T 3 rI)) b.w (sv A3 l56 c4) l56 n) (hnz57 : (A3 = none ↔ l56 = [])) (h10 : OS 3 (OT.fr rI) b.w (sv A8 ay c9) ay m) (hnz59 : (A8 = none ↔ ay = [])) (h15 : OS 3 (OT.fr rI) b.w (sv A13 l60 c14) l60 p) (hnz61 : (A13 = none ↔ l60 = [])) (h20 : OS 3 (OT.fr rI) b.w (sv am X an) X a) (h25 : OS 33 (OT.fr (RT.own1 T 3 rI)) b.w (sv t O y) O q) (hnz64 : (t = none ↔ O = [])) (h29 : OM rI (OT.fr rI) false false b.w ao l65 c) (h33 : OM rFleetAbsence (OT.fr RT.bool) true false b.w aq l66 d) (l5501 : (List Int)) (l5502 : (List (List Int))) (l5505 : (List (List Int))) (l5507 : (List Int)) (hm : mFleetStandIns_1 N al W aa ab ac ad ae af ag l56 ay l60 X O l65 l66 = some (l5501, l5502, l5505, l5507)),
    CallsG Try.prog 26 [iv al, pb H, pb z, pb I, pb J, pb A, pb B, pb C, pb D, pb E, pb F] b ((H, Cl 27 [sv A3 l56 c4]) :: (z, Cl 33 [sv A8 ay c9]) :: (I, Cl 33 [sv A13 l60 c14]) :: (J, Cl 33 [sv am X an]) :: (A, Cl 27 [sv t O y]) :: (B, Cl 62 [.map (some ao)]) :: (C, Cl 61 [.map (some aq)]) :: (D, Cl 22 [sv ah W ai]) :: (E, Cl 24 [iv aa, iv ab, iv ac, iv ad, iv ae, iv af, iv ag]) :: (F, Cl 54 [.func (.func 26) #[] #[pb H, pb z, pb I, pb J, pb A, pb B, pb C, pb D, pb E, pb F]]) :: (n ++ (m ++ (p ++ (a ++ (q ++ (c ++ (d ++ R)))))))) (fun v b' hp' => ∃ (A5485 : OA), ∃ (c5486 : Nat), ∃ (hs5484 : Hp), ∃ (hs5489 : Hp), ∃ (A5493 : OA), ∃ (c5494 : Nat), ∃ (hs5492 : Hp), ∃ (A5498 : OA), ∃ (c5499 : Nat), ∃ (hs5497 : Hp), .tuple #[] = v ∧ (H, Cl 27 [sv A5493 l5505 c5494]) :: (z, Cl 33 [sv A5485 l5501 c5486]) :: (I, Cl 33 [sv A5498 l5507 c5499]) :: (J, Cl 33 [sv am X an]) :: (A, Cl 27 [sv t l5502 y]) :: (B, Cl 62 [.map (some ao)]) :: (C, Cl 61 [.map (some aq)]) :: (D, Cl 22 [sv ah W ai]) :: (E, Cl 24 [iv aa, iv ab, iv ac, iv ad, iv ae, iv af, iv ag]) :: (F, Cl 54 [.func (.func 26) #[] #[pb H, pb z, pb I, pb J, pb A, pb B, pb C, pb D, pb E, pb F]]) :: (hs5484 ++ (a ++ (hs5489 ++ (c ++ (d ++ (hs5492 ++ (hs5497 ++ R))))))) = hp' ∧ OS 3 (OT.fr rI) b'.w (sv A5485 l5501 c5486) l5501 hs5484 ∧ OS 33 (OT.fr (RT.own1 T 3 rI)) b'.w (sv t l5502 y) l5502 hs5489 ∧ l5502.length = O.length ∧ (t = none ↔ l5502 = []) ∧ OS 33 (OT.fr (RT.own1 T 3 rI)) b'.w (sv A5493 l5505 c5494) l5505 hs5492 ∧ (A5493 = none ↔ l5505 = []) ∧ OS 3 (OT.fr rI) b'.w (sv A5498 l5507 c5499) l5507 hs5497) := by
  intro N
  induction N with
  | zero =>
    intro b R T hb0 al W aa ab ac ad ae af ag l56 ay l60 X O l65 l66 H z I J A B C D E F ah ai A3 c4 n A8 c9 m A13 c14 p am an a t y q ao c aq d h47 h5 hnz57 h10 hnz59 h15 hnz61 h20 h25 hnz64 h29 h33 l5501 l5502 l5505 l5507 hm
    unfold mFleetStandIns_1 at hm
    cases hm
  | succ N ih =>
   intro b R T hb0 al W aa ab ac ad ae af ag l56 ay l60 X O l65 l66 H z I J A B C D E F ah ai A3 c4 n A8 c9 m A13 c14 p am an a t y q ao c aq d h47 h5 hnz57 h10 hnz59 h15 hnz61 h20 h25 hnz64 h29 h33 l5501 l5502 l5505 l5507 hm
   refine fE 96 Try.func26 rfl Try.ntmps26 rfl ?_
   unfold mFleetStandIns_1 at hm
   dsimp only at hm
   refine Cs ?_
   obtain ⟨x5511, hj5512, hk5512⟩ := bS hm
   refine Cj (fun b5509 e' hp' => [(0, iv al), (1, pb H), (2, pb z), (3, pb I), (4, pb J), (5, pb A), (6, pb B), (7, pb C), (8, pb D), (9, pb E), (10, pb F), (23, bv x5511)] = e' ∧ (H, Cl 27 [sv A3 l56 c4]) :: (z, Cl 33 [sv A8 ay c9]) :: (I, Cl 33 [sv A13 l60 c14]) :: (J, Cl 33 [sv am X an]) :: (A, Cl 27 [sv t O y]) :: (B, Cl 62 [.map (some ao)]) :: (C, Cl 61 [.map (some aq)]) :: (D, Cl 22 [sv ah W ai]) :: (E, Cl 24 [iv aa, iv ab, iv ac, iv ad, iv ae, iv af, iv ag]) :: (F, Cl 54 [.func (.func 26) #[] #[pb H, pb z, pb I, pb J, pb A, pb B, pb C, pb D, pb E, pb F]]) :: (n ++ (m ++ (p ++ (a ++ (q ++ (c ++ (d ++ R))))))) = hp' ∧ b.Le b5509) ?_ ?_
   have hm := hj5512
   refine Cg<|Ts rfl (sL 0 rfl one27 rfl rfl)<|Ts rfl (st_neqnil_z rfl rfl hnz57 sl27) ?_
   rcases Bool.eq_false_or_eq_true (!l56.isEmpty) with hc5513 | hc5513
   rw [if_neg (fun hh => Bool.noConfusion (hh.symm.trans (nt hc5513)))] at hm
   refine Tr 16 rfl (v' := .bool true) (by rw [hc5513] <;> rfl)<|M rfl rfl<|Ys 17 rfl rfl rfl<|Ts rfl (sL 1 rfl one33 rfl rfl)<|Ys 17 rfl rfl rfl<|Ts rfl (sE rfl sl33)<|Ys 17 rfl rfl rfl<|Ts rfl (sL 2 rfl one33 rfl rfl)<|Ys 17 rfl rfl rfl<|Ts rfl (sE rfl sl33) ?_
   refine Ys 17 rfl rfl rfl<|Ts rfl (q6 rfl rfl)<|Ts rfl (pT rfl rfl)<|Tn ?_
   obtain rfl := o1 hm
   refine Xp 9 rfl<|Xp 9 rfl<|Xp 9 rfl<|Xp 9 rfl<|Xp 9 rfl<|Xp 9 rfl<|Xp 9 rfl<|Xp 9 rfl<|Xp 9 rfl<|Xp 9 rfl ?_
   refine x_front7 [_, _, _, _, _, _, _, _, _, _] n m p a q c d R rfl<|x_front7 [_, _, _, _, _, _, _, _, _, _] d n m p a q c R rfl<|x_front7 [_, _, _, _, _, _, _, _, _, _] c d n m p a q R rfl<|x_front7 [_, _, _, _, _, _, _, _, _, _] q c d n m p a R rfl<|x_front7 [_, _, _, _, _, _, _, _, _, _] a q c d n m p R rfl<|x_front7 [_, _, _, _, _, _, _, _, _, _] p a q c d n m R rfl<|x_front7 [_, _, _, _, _, _, _, _, _, _] m p a q c d n R rfl ?_
   exact xJ ⟨rfl, rfl, lr⟩ (.refl _)
   rw [if_pos (nf hc5513)] at hm
   refine Tr 16 rfl (v' := .bool false) (by rw [hc5513] <;> rfl)<|M rfl rfl<|No 17 rfl rfl rfl rfl rfl<|No 17 rfl rfl rfl rfl rfl<|No 17 rfl rfl rfl rfl rfl<|No 17 rfl rfl rfl rfl rfl<|No 17 rfl rfl rfl rfl rfl<|Ts rfl (pF rfl rfl)<|Tn ?_
   obtain rfl := o1 hm
   refine Xp 9 rfl<|Xp 9 rfl<|Xp 9 rfl<|Xp 9 rfl<|Xp 9 rfl<|Xp 9 rfl<|Xp 9 rfl<|Xp 9 rfl<|Xp 9 rfl<|Xp 9 rfl ?_
   refine x_front7 [_, _, _, _, _, _, _, _, _, _] n m p a q c d R rfl<|x_front7 [_, _, _, _, _, _, _, _, _, _] d n m p a q c R rfl<|x_front7 [_, _, _, _, _, _, _, _, _, _] c d n m p a q R rfl<|x_front7 [_, _, _, _, _, _, _, _, _, _] q c d n m p a R rfl<|x_front7 [_, _, _, _, _, _, _, _, _, _] a q c d n m p R rfl<|x_front7 [_, _, _, _, _, _, _, _, _, _] p a q c d n m R rfl<|x_front7 [_, _, _, _, _, _, _, _, _, _] m p a q c d n R rfl ?_
   exact xJ ⟨rfl, rfl, lr⟩ (.refl _)
   rintro b5509 _ _ ⟨rfl, rfl, x⟩
   have hm := hk5512
   refine Cc _ rfl (fun hc5514 => ?_) (fun hc5514 => ?_)
   rw [if_pos hc5514] at hm
   refine Ct<|Xr ?_
   obtain ⟨rfl, rfl, rfl, rfl⟩ := some4 hm
   refine Xp 9 rfl<|Xp 9 rfl<|Xp 9 rfl<|Xp 9 rfl<|Xp 9 rfl<|Xp 9 rfl<|Xp 9 rfl<|Xp 9 rfl<|Xp 9 rfl<|Xp 9 rfl ?_
   refine X3 [_, _, _, _, _, _, _, _, _, _] n m p (a ++ (q ++ (c ++ (d ++ R)))) rfl<|X2 [_, _, _, _, _, _, _, _, _, _] p n (m ++ (a ++ (q ++ (c ++ (d ++ R))))) rfl<|x_front7 [_, _, _, _, _, _, _, _, _, _] n p m a q c d R rfl<|x_front7 [_, _, _, _, _, _, _, _, _, _] d n p m a q c R rfl<|x_front7 [_, _, _, _, _, _, _, _, _, _] c d n p m a q R rfl<|x_front7 [_, _, _, _, _, _, _, _, _, _] q c d n p m a R rfl<|x_front7 [_, _, _, _, _, _, _, _, _, _] a q c d n p m R rfl ?_
   have he5515 := (h10.le x)
   have he5516 := (h25.le x)
   have he5517 := (h5.le x)
   have he5518 := (h15.le x)
   exact rM (rs := []) (vs := []) trivial ⟨A8, c9, m, q, A3, c4, n, A13, c14, p, rfl, rfl, he5515, he5516, rfl, hnz64, he5517, hnz57, he5518⟩ (.refl _) x
   rw [if_neg (fun hh => Bool.noConfusion (hh.symm.trans hc5514))] at hm
   refine Ck<|Xn<|Cs<|Cr<|M rfl rfl<|Ts rfl (sL 3 rfl one33 rfl rfl)<|Ts rfl (sE rfl sl33)<|Ts rfl (q1 rfl rfl)<|Te ?_
   refine Cc _ rfl (fun hc5519 => ?_) (fun hc5519 => ?_)
   rw [if_pos (of_decide_eq_true hc5519)] at hm
   obtain ⟨⟨l5562, l5564⟩, hj5565, hk5565⟩ := bS hm
   refine Cj (fun b5550 e' hp' => ∃ (A5554 : OA), ∃ (c5555 : Nat), ∃ (ar : Hp), ∃ (A5559 : OA), ∃ (c5560 : Nat), ∃ (au : Hp), [] = e' ∧ (H, Cl 27 [sv A5554 l5562 c5555]) :: (z, Cl 33 [sv A8 ay c9]) :: (I, Cl 33 [sv A5559 l5564 c5560]) :: (J, Cl 33 [sv am X an]) :: (A, Cl 27 [sv t O y]) :: (B, Cl 62 [.map (some ao)]) :: (C, Cl 61 [.map (some aq)]) :: (D, Cl 22 [sv ah W ai]) :: (E, Cl 24 [iv aa, iv ab, iv ac, iv ad, iv ae, iv af, iv ag]) :: (F, Cl 54 [.func (.func 26) #[] #[pb H, pb z, pb I, pb J, pb A, pb B, pb C, pb D, pb E, pb F]]) :: (n ++ (m ++ (p ++ (a ++ (q ++ (c ++ (d ++ (ar ++ (au ++ R))))))))) = hp' ∧ b5509.Le b5550 ∧ OS 33 (OT.fr (RT.own1 T 3 rI)) b5550.w (sv A5554 l5562 c5555) l5562 ar ∧ (A5554 = none ↔ l5562 = []) ∧ OS 3 (OT.fr rI) b5550.w (sv A5559 l5564 c5560) l5564 au) ?_ ?_
   have hm := hj5565
   obtain ⟨_, h5581, hm⟩ := bS hm
   obtain ⟨l5586, hcl5587, hm⟩ := bS hm
   obtain ⟨_, h5594, hm⟩ := bS hm
   refine Di mixed (.cons _ (.refl _))<|Es 0 rfl (sL 3 rfl one27 rfl rfl)<|Es 2 rfl (sL 0 rfl one33 rfl rfl)<|Eo ?_
   have h5581 := room_some h5581
   refine Da [1] (by kernel_rfl) rfl ?_
   refine Rd2 lr rfl rfl (u_cloneOwn (r := (RT.own1 T 3 rI)) (l := O) (sz := 1) (by_ := 24) [_, _, _, _, _, _, _, _, _, _] (n ++ (m ++ (p ++ (a ++ (q ++ (c ++ (d ++ R))))))) rfl clSlicesClone call20 rfl rfl (h25.le x) (.cons _ (.cons _ (.cons _ (.cons _ (.cons _ (.cons _ (.cons _ (.cons _ (.cons _ (.cons _ (ss n (ss m (ss p (ss a (List.sublist_append_left _ _))))))))))))))) h5581) ?_ ?_
   rintro _ _ ⟨A5584, c5585, aj, rfl, rfl, h5583⟩
   refine ⟨.inr (.cons _ (.cons_cons _ (.cons_cons _ (.cons_cons _ (.cons_cons _ (.cons_cons _ (.cons_cons _ (.cons_cons _ (.cons_cons _ (.cons_cons _ (ss aj (.refl _)))))))))))), ?_⟩
   refine Da [3] (by kernel_rfl) rfl ?_
   refine Rd2 lr rfl rfl (u_callWF [_, _, _, _, _, _, _, _, _, _] (aj ++ (n ++ (m ++ (p ++ (a ++ (q ++ (c ++ (d ++ R)))))))) _ rfl call21 rfl (fun w ho => cSlicesClone_2 _ [] ay A8 c9 (OS.now (o := (OT.fr rI)) (l := ay) (hs := m) (h10.le x) ho (.cons _ (.cons _ (.cons _ (.cons _ (.cons _ (.cons _ (.cons _ (.cons _ (.cons _ (.cons _ (ss aj (ss n (List.sublist_append_left _ _)))))))))))))) l5586 hcl5587)) ?_ ?_
   rintro _ _ ⟨_, _, rfl, A5588, c5589, hs5590, rfl, hq5593, h5591⟩
   obtain rfl := List.append_cancel_right hq5593
   have h5592 := flat_fz (w' := b5509.w) (fun _ _ _ _ h => h) h5591
   refine ⟨.inr (.cons _ (.cons_cons _ (.cons_cons _ (.cons_cons _ (.cons_cons _ (.cons_cons _ (.cons_cons _ (.cons_cons _ (.cons_cons _ (.cons_cons _ (ss hs5590 (ss aj (.refl _))))))))))))), ?_⟩
   have hnz5595 : (A5584 = none ↔ O = []) := ⟨fun e => absurd e (OS.ne h5583 h5594), fun e => absurd e (some?_some h5594)⟩
   refine Da [4] (by kernel_rfl) rfl ?_
   refine Rd2 lr rfl rfl (uS 0 rfl rfl siz27 rfl rfl (by simp)) ?_ ?_
   rintro _ _ rfl
   refine ⟨.inr (.cons _ (.cons_cons _ (.cons_cons _ (.cons_cons _ (.cons_cons _ (.cons_cons _ (.cons_cons _ (.cons_cons _ (.cons_cons _ (.cons_cons _ (ss hs5590 (ss aj (.refl _))))))))))))), ?_⟩
   refine Da [5] (by kernel_rfl) rfl ?_
   refine Rd2 lr rfl rfl (uS 2 rfl rfl siz33 rfl rfl (by simp)) ?_ ?_
   rintro _ _ rfl
   refine ⟨.inl (by kernel_rfl), ?_⟩
   refine Dd (by kernel_rfl) ?_
   obtain ⟨rfl, rfl⟩ := some2 hm
   refine Xp 9 rfl<|Xp 9 rfl<|Xp 9 rfl<|Xp 9 rfl<|Xp 9 rfl<|Xp 9 rfl<|Xp 9 rfl<|Xp 9 rfl<|Xp 9 rfl<|Xp 9 rfl ?_
   refine X2 [_, _, _, _, _, _, _, _, _, _] hs5590 aj (n ++ (m ++ (p ++ (a ++ (q ++ (c ++ (d ++ R))))))) rfl<|x_front9 [_, _, _, _, _, _, _, _, _, _] aj hs5590 n m p a q c d R rfl<|x_front9 [_, _, _, _, _, _, _, _, _, _] d aj hs5590 n m p a q c R rfl<|x_front9 [_, _, _, _, _, _, _, _, _, _] c d aj hs5590 n m p a q R rfl<|x_front9 [_, _, _, _, _, _, _, _, _, _] q c d aj hs5590 n m p a R rfl<|x_front9 [_, _, _, _, _, _, _, _, _, _] a q c d aj hs5590 n m p R rfl<|x_front9 [_, _, _, _, _, _, _, _, _, _] p a q c d aj hs5590 n m R rfl<|x_front9 [_, _, _, _, _, _, _, _, _, _] m p a q c d aj hs5590 n R rfl ?_
   exact xJ ⟨A5584, c5585, aj, A5588, c5589, hs5590, rfl, rfl, lr, h5583, hnz5595, h5592⟩ (.refl _)
   exact Rn
   exact Rn
   exact Rn
   exact Rn
   rintro b5550 _ _ ⟨A5554, c5555, ar, A5559, c5560, au, rfl, rfl, hle5551, h5556, hnz5563, h5561⟩
   have hm := (unc2E hk5565)
   refine Ct<|Xr ?_
   obtain ⟨rfl, rfl, rfl, rfl⟩ := some4 hm
   refine Xp 9 rfl<|Xp 9 rfl<|Xp 9 rfl<|Xp 9 rfl<|Xp 9 rfl<|Xp 9 rfl<|Xp 9 rfl<|Xp 9 rfl<|Xp 9 rfl<|Xp 9 rfl ?_
   refine x_front9 [_, _, _, _, _, _, _, _, _, _] n m p a q c d ar au R rfl<|x_front9 [_, _, _, _, _, _, _, _, _, _] au n m p a q c d ar R rfl<|x_front9 [_, _, _, _, _, _, _, _, _, _] ar au n m p a q c d R rfl<|x_front9 [_, _, _, _, _, _, _, _, _, _] d ar au n m p a q c R rfl<|x_front9 [_, _, _, _, _, _, _, _, _, _] c d ar au n m p a q R rfl<|x_front9 [_, _, _, _, _, _, _, _, _, _] q c d ar au n m p a R rfl<|x_front8 [_, _, _, _, _, _, _, _, _, _] a q c d ar au n m (p ++ R) rfl ?_
   have he5596 := (h10.le (x.trans hle5551))
   have he5597 := (h25.le (x.trans hle5551))
   exact rM (rs := []) (vs := []) trivial ⟨A8, c9, m, q, A5554, c5555, ar, A5559, c5560, au, rfl, rfl, he5596, he5597, rfl, hnz64, h5556, hnz5563, h5561⟩ (.cons_cons _ (.cons_cons _ (.cons_cons _ (.cons_cons _ (.cons_cons _ (.cons_cons _ (.cons_cons _ (.cons_cons _ (.cons_cons _ (.cons_cons _ (sp m (sp a (sp q (sp c (sp d (sp ar (sp au (ss n (ss p (.refl _)))))))))))))))))))) (x.trans hle5551)
   rw [if_neg (of_decide_eq_false hc5519)] at hm
   refine Ck<|Xn<|Cr<|Ts rfl (sL 3 rfl one33 rfl rfl)<|M rfl rfl ?_
   obtain ⟨u, h5599, hm⟩ := bS hm
   obtain ⟨j5600, hj5601, hx5602⟩ := iS h5599
   obtain ⟨cs5603, hs5608, P5609, P5610, hq5611, hr5604, hcs5605, hA5606, hlt5607, hb5612, hho5613⟩ := OS.get (sz := 1) rfl (by decide) (h20.le x) hx5602
   obtain ⟨rfl, rfl⟩ := hr5604
   refine Ts rfl (sI j5600 rfl rfl hj5601 hlt5607 hA5606 sl33)<|Ts rfl (st_load_rd rfl one3 (fun w ho => hcs5605 w _ ho (.cons _ (.cons _ (.cons _ (.cons _ (.cons _ (.cons _ (.cons _ (.cons _ (.cons _ (.cons _ (ss n (ss m (ss p (List.sublist_append_left _ _)))))))))))))) 0 _ rfl))<|As rfl rfl<|Te<|Cs<|Cr<|Ts rfl (sL 4 rfl one27 rfl rfl)<|Ts rfl (sE rfl sl27)<|M rfl rfl<|Te ?_
   refine Cb ?_
   have hb5615 : O.length ≤ 9223372036854775807 := (OS.len h25)
   refine Cp 3 rfl<|Cp 3 rfl<|Cp 2 rfl<|Cp 9 rfl<|Cp 9 rfl<|Cp 9 rfl<|Cp 9 rfl<|Cp 9 rfl<|Cp 9 rfl<|Cp 9 rfl ?_
   refine c_front3 [_, _, _, _, _, _, _, _, _, _] n m p (a ++ (q ++ (c ++ (d ++ R)))) rfl<|c_front2 [_, _, _, _, _, _, _, _, _, _] p n (m ++ (a ++ (q ++ (c ++ (d ++ R))))) rfl<|c_front7 [_, _, _, _, _, _, _, _, _, _] n p m a q c d R rfl<|c_front7 [_, _, _, _, _, _, _, _, _, _] d n p m a q c R rfl<|c_front6 [_, _, _, _, _, _, _, _, _, _] c d n p m a (q ++ R) rfl<|c_front6 [_, _, _, _, _, _, _, _, _, _] a c d n p m (q ++ R) rfl<|c_front7 [_, _, _, _, _, _, _, _, _, _] m a c d n p q R rfl ?_
   obtain ⟨⟨Y, l6680, l6681, l6683⟩, hl6685, hk6686⟩ := bS hm
   refine cS (fun K => unc4 fun Y l6680 l6681 l6683 => fun b6657 e' hp' => ∃ (s : Hp), ∃ (A6664 : OA), ∃ (c6665 : Nat), ∃ (j : Hp), ∃ (A6669 : OA), ∃ (c6670 : Nat), ∃ (f : Hp), ∃ (A6674 : OA), ∃ (c6675 : Nat), ∃ (g : Hp), [(0, iv al), (2, pb z), (5, pb A), (6, pb B), (7, pb C), (8, pb D), (9, pb E), (10, pb F), (12, iv u), (36, sv t Y y), (37, iv ((O.length : Int))), (38, iv ((K : Int)))] = e' ∧ (z, Cl 33 [sv A6664 l6680 c6665]) :: (A, Cl 27 [sv t Y y]) :: (B, Cl 62 [.map (some ao)]) :: (C, Cl 61 [.map (some aq)]) :: (D, Cl 22 [sv ah W ai]) :: (E, Cl 24 [iv aa, iv ab, iv ac, iv ad, iv ae, iv af, iv ag]) :: (F, Cl 54 [.func (.func 26) #[] #[pb H, pb z, pb I, pb J, pb A, pb B, pb C, pb D, pb E, pb F]]) :: (H, Cl 27 [sv A6669 l6681 c6670]) :: (I, Cl 33 [sv A6674 l6683 c6675]) :: (J, Cl 33 [sv am X an]) :: (s ++ (j ++ (a ++ (c ++ (d ++ (f ++ (g ++ R))))))) = hp' ∧ b5509.Le b6657 ∧ OS 33 (OT.fr (RT.own1 T 3 rI)) b6657.w (sv t Y y) Y s ∧ Y.length = O.length ∧ (t = none ↔ Y = []) ∧ OS 3 (OT.fr rI) b6657.w (sv A6664 l6680 c6665) l6680 j ∧ OS 33 (OT.fr (RT.own1 T 3 rI)) b6657.w (sv A6669 l6681 c6670) l6681 f ∧ (A6669 = none ↔ l6681 = []) ∧ OS 3 (OT.fr rI) b6657.w (sv A6674 l6683 c6675) l6683 g) hl6685 ⟨q, A8, c9, m, A3, c4, n, A13, c14, p, rfl, rfl, lr, (h25.le x), rfl, hnz64, (h10.le x), (h5.le x), hnz57, (h15.le x)⟩ (.refl _) ?_ ?_
   rintro K ⟨Y, l6680, l6681, l6683⟩ b6657 _ _ oL5614 hknL5614 ⟨s, A6664, c6665, j, A6669, c6670, f, A6674, c6675, g, rfl, rfl, L, h6661, hln6678, hnz6679, h6666, h6671, hnz6682, h6676⟩ hstepL5614
   unfold mFleetStandIns_1_L5614 at hstepL5614
   have hm := (unc4E hstepL5614)
   refine Cr<|Ts rfl (lT rfl rfl (by omega))<|Te<|Cs<|c_cond_t rfl<|Ck<|Xn<|Cs<|Cb<|Cr ?_
   refine M rfl rfl ?_
   obtain ⟨x6687, h6688, hm⟩ := bS hm
   obtain ⟨j6689, hj6690, hx6691⟩ := iS h6688
   obtain ⟨cs6692, hs6697, P6698, P6699, hq6700, hr6693, hcs6694, hA6695, hlt6696, hb6701, hho6702⟩ := OS.get (sz := 1) rfl (by decide) h6661 hx6691
   obtain ⟨⟨A6703, c6704, rfl, h6705, h6706⟩, rfl⟩ := hr6693
   refine Ts rfl (sI j6689 rfl rfl hj6690 hlt6696 hA6695 sl27)<|Ts rfl (st_load_rd rfl one33 (fun w ho => hcs6694 w _ ho (.cons _ (.cons _ (.cons _ (.cons _ (.cons _ (.cons _ (.cons _ (.cons _ (.cons _ (.cons _ (List.sublist_append_left _ _))))))))))) 0 _ rfl))<|As rfl rfl<|As rfl rfl<|Te<|Cs ?_
   obtain ⟨x6755, hj6756, hk6756⟩ := bS hm
   refine Cj (fun b6753 e' hp' => [(0, iv al), (2, pb z), (5, pb A), (6, pb B), (7, pb C), (8, pb D), (9, pb E), (10, pb F), (12, iv u), (13, iv ((K : Int))), (14, sv A6703 x6687 c6704), (36, sv t Y y), (37, iv ((O.length : Int))), (38, iv ((K : Int))), (58, bv x6755)] = e' ∧ (z, Cl 33 [sv A6664 l6680 c6665]) :: (A, Cl 27 [sv t Y y]) :: (B, Cl 62 [.map (some ao)]) :: (C, Cl 61 [.map (some aq)]) :: (D, Cl 22 [sv ah W ai]) :: (E, Cl 24 [iv aa, iv ab, iv ac, iv ad, iv ae, iv af, iv ag]) :: (F, Cl 54 [.func (.func 26) #[] #[pb H, pb z, pb I, pb J, pb A, pb B, pb C, pb D, pb E, pb F]]) :: (H, Cl 27 [sv A6669 l6681 c6670]) :: (I, Cl 33 [sv A6674 l6683 c6675]) :: (J, Cl 33 [sv am X an]) :: (s ++ (j ++ (a ++ (c ++ (d ++ (f ++ (g ++ R))))))) = hp' ∧ b6657.Le b6753) ?_ ?_
   have hm := hj6756
   obtain ⟨x6783, h6785, hm⟩ := bS hm
   by_cases hc6786 : (K : Int) = x6783
   rw [if_pos hc6786] at hm
   refine Di mixed (.refl _)<|E0 0 rfl (sM rfl)<|Es 1 rfl (sL 2 rfl one62 rfl rfl)<|E0 2 rfl (sM rfl) ?_
   have hx6784 := Option.some.inj h6785
   obtain ⟨v6780, hv6781, hr6782⟩ := OM.lookF kok3 (z0 := 0) (h29.le (x.trans L)) (key := iv u) (k := u) rfl mapt62 zero3 rfl
   rw [hx6784] at hv6781
   obtain rfl : v6780 = iv x6783 := by have hv6781 : [v6780] = [iv x6783] := hv6781; injection hv6781
   refine Es 3 rfl (st_mlook (ok := false) rfl rfl (fun w ho => hr6782 _ w ho (.cons _ (.cons _ (.cons _ (.cons _ (.cons _ (.cons _ (.cons _ (.cons _ (.cons _ (.cons _ (ss s (ss j (ss a (List.sublist_append_left _ _)))))))))))))) false))<|E0 4 rfl (eT rfl rfl hc6786)<|E0 5 rfl (sM rfl)<|En 6 48 rfl rfl rfl<|En 7 48 rfl rfl rfl<|En 8 48 rfl rfl rfl<|En 9 48 rfl rfl rfl<|En 10 48 rfl rfl rfl<|En 11 48 rfl rfl rfl<|En 12 48 rfl rfl rfl ?_
   refine En 13 48 rfl rfl rfl<|En 14 48 rfl rfl rfl<|E0 15 rfl (pT rfl rfl)<|Eo<|Dd (by kernel_rfl) ?_
   obtain rfl := o1 hm
   refine Xp 9 rfl<|Xp 9 rfl<|Xp 9 rfl<|Xp 9 rfl<|Xp 9 rfl<|Xp 9 rfl<|Xp 9 rfl<|Xp 9 rfl<|Xp 9 rfl<|Xp 9 rfl ?_
   refine x_front7 [_, _, _, _, _, _, _, _, _, _] s j a c d f g R rfl<|x_front7 [_, _, _, _, _, _, _, _, _, _] g s j a c d f R rfl<|x_front7 [_, _, _, _, _, _, _, _, _, _] f g s j a c d R rfl<|x_front7 [_, _, _, _, _, _, _, _, _, _] d f g s j a c R rfl<|x_front7 [_, _, _, _, _, _, _, _, _, _] c d f g s j a R rfl<|x_front7 [_, _, _, _, _, _, _, _, _, _] a c d f g s j R rfl<|x_front7 [_, _, _, _, _, _, _, _, _, _] j a c d f g s R rfl ?_
   exact xJ ⟨rfl, rfl, lr⟩ (.refl _)
   rw [if_neg hc6786] at hm
   obtain ⟨x6787, h6788, hm⟩ := bS hm
   obtain ⟨x6800, h6802, hm⟩ := bS hm
   refine Di mixed (.refl _)<|E0 0 rfl (sM rfl)<|Es 1 rfl (sL 2 rfl one62 rfl rfl)<|E0 2 rfl (sM rfl) ?_
   have hx6784 := Option.some.inj h6785
   obtain ⟨v6780, hv6781, hr6782⟩ := OM.lookF kok3 (z0 := 0) (h29.le (x.trans L)) (key := iv u) (k := u) rfl mapt62 zero3 rfl
   rw [hx6784] at hv6781
   obtain rfl : v6780 = iv x6783 := by have hv6781 : [v6780] = [iv x6783] := hv6781; injection hv6781
   refine Es 3 rfl (st_mlook (ok := false) rfl rfl (fun w ho => hr6782 _ w ho (.cons _ (.cons _ (.cons _ (.cons _ (.cons _ (.cons _ (.cons _ (.cons _ (.cons _ (.cons _ (ss s (ss j (ss a (List.sublist_append_left _ _)))))))))))))) false))<|E0 4 rfl (eF rfl rfl hc6786)<|E0 5 rfl (sM rfl)<|Ey 6 48 rfl (sL 3 rfl one61 rfl rfl)<|Yz 7 48 rfl (sM rfl)<|Ey 8 48 rfl (sL 4 rfl one22 rfl rfl)<|Yz 9 48 rfl (sM rfl) ?_
   obtain ⟨j6789, hj6790, hx6791⟩ := iS h6788
   obtain ⟨cs6792, hr6793, hcs6794, hA6795, hlt6796⟩ := FZ.get (sz := 3) rfl (by decide) (h47.le (x.trans L)) hx6791
   obtain ⟨_, _, rfl, rfl, ⟨_, _, rfl, rfl, rfl⟩⟩ := hr6793
   refine Yz 10 48 rfl (sI j6789 rfl rfl hj6790 hlt6796 hA6795 sl22)<|Yz 11 48 rfl (sQ rfl hA6795 fld43_0)<|Ey 12 48 rfl (sO rfl one3 (hcs6794 0 _ rfl))<|Yz 13 48 rfl (sB (v := .agg #[iv ((K : Int)), iv x6787.Day]) [(0, iv ((K : Int))), (1, iv x6787.Day)] rfl (fun _ => by kernel_rfl)) ?_
   have hx6801 := Option.some.inj h6802
   obtain ⟨v6797, hv6798, hr6799⟩ := OM.lookF kok41 (z0 := false) (h33.le (x.trans L)) (key := .agg #[iv ((K : Int)), iv x6787.Day]) (k := (⟨(K : Int), x6787.Day⟩ : FleetAbsence)) ⟨[iv ((K : Int)), iv x6787.Day], rfl, ⟨[iv ((K : Int))], _, rfl, rfl, rfl⟩⟩ mapt61 zero4 rfl
   rw [hx6801] at hv6798
   obtain rfl : v6797 = bv x6800 := by have hv6798 : [v6797] = [bv x6800] := hv6798; injection hv6798
   refine Ey 14 48 rfl (st_mlook (ok := false) rfl rfl (fun w ho => hr6799 _ w ho (.cons _ (.cons _ (.cons _ (.cons _ (.cons _ (.cons _ (.cons _ (.cons _ (.cons _ (.cons _ (ss s (ss j (ss a (ss c (List.sublist_append_left _ _))))))))))))))) false))<|E0 15 rfl (pF rfl rfl)<|Eo<|Dd (by kernel_rfl) ?_
   obtain rfl := o1 hm
   refine Xp 9 rfl<|Xp 9 rfl<|Xp 9 rfl<|Xp 9 rfl<|Xp 9 rfl<|Xp 9 rfl<|Xp 9 rfl<|Xp 9 rfl<|Xp 9 rfl<|Xp 9 rfl ?_
   refine x_front7 [_, _, _, _, _, _, _, _, _, _] s j a c d f g R rfl<|x_front7 [_, _, _, _, _, _, _, _, _, _] g s j a c d f R rfl<|x_front7 [_, _, _, _, _, _, _, _, _, _] f g s j a c d R rfl<|x_front7 [_, _, _, _, _, _, _, _, _, _] d f g s j a c R rfl<|x_front7 [_, _, _, _, _, _, _, _, _, _] c d f g s j a R rfl<|x_front7 [_, _, _, _, _, _, _, _, _, _] a c d f g s j R rfl<|x_front7 [_, _, _, _, _, _, _, _, _, _] j a c d f g s R rfl ?_
   exact xJ ⟨rfl, rfl, lr⟩ (.refl _)
   rintro b6753 _ _ ⟨rfl, rfl, G⟩
   have hm := hk6756
   refine Cc _ rfl (fun hc6803 => ?_) (fun hc6803 => ?_)
   rw [if_pos hc6803] at hm
   refine Ce<|Xe<|Xo<|Xn<|Cg<|Ts rfl (sa rfl rfl (by omega))<|M rfl rfl<|Tn<|Xp 9 rfl<|Xp 9 rfl ?_
   refine Xp 9 rfl<|Xp 9 rfl<|Xp 9 rfl<|Xp 9 rfl<|Xp 9 rfl<|Xp 9 rfl<|Xp 9 rfl<|Xp 9 rfl<|x_front7 [_, _, _, _, _, _, _, _, _, _] s j a c d f g R rfl<|x_front7 [_, _, _, _, _, _, _, _, _, _] g s j a c d f R rfl ?_
   refine x_front7 [_, _, _, _, _, _, _, _, _, _] f g s j a c d R rfl<|x_front7 [_, _, _, _, _, _, _, _, _, _] d f g s j a c R rfl<|x_front7 [_, _, _, _, _, _, _, _, _, _] c d f g s j a R rfl<|x_front7 [_, _, _, _, _, _, _, _, _, _] a c d f g s j R rfl<|x_front7 [_, _, _, _, _, _, _, _, _, _] j a c d f g s R rfl ?_
   obtain rfl := o1 hm
   exact xS ⟨s, A6664, c6665, j, A6669, c6670, f, A6674, c6675, g, rfl, rfl, ((L.trans G)), (h6661.le G), hln6678, hnz6679, (h6666.le G), (h6671.le G), hnz6682, (h6676.le G)⟩ (.refl _)
   rw [if_neg (fun hh => Bool.noConfusion (hh.symm.trans hc6803))] at hm
   refine Ck<|Xn ?_
   obtain ⟨l6903, hj6906, hk6906⟩ := bS hm
   refine Cj (fun b6898 e' hp' => ∃ (S : Hp), [(0, iv al), (2, pb z), (5, pb A), (6, pb B), (7, pb C), (8, pb D), (9, pb E), (10, pb F), (12, iv u), (13, iv ((K : Int))), (14, sv A6703 x6687 c6704), (36, sv t l6903 y), (37, iv ((O.length : Int))), (38, iv ((K : Int)))] = e' ∧ (z, Cl 33 [sv A6664 l6680 c6665]) :: (A, Cl 27 [sv t l6903 y]) :: (B, Cl 62 [.map (some ao)]) :: (C, Cl 61 [.map (some aq)]) :: (D, Cl 22 [sv ah W ai]) :: (E, Cl 24 [iv aa, iv ab, iv ac, iv ad, iv ae, iv af, iv ag]) :: (F, Cl 54 [.func (.func 26) #[] #[pb H, pb z, pb I, pb J, pb A, pb B, pb C, pb D, pb E, pb F]]) :: (H, Cl 27 [sv A6669 l6681 c6670]) :: (I, Cl 33 [sv A6674 l6683 c6675]) :: (J, Cl 33 [sv am X an]) :: (S ++ (j ++ (a ++ (c ++ (d ++ (f ++ (g ++ R))))))) = hp' ∧ b6753.Le b6898 ∧ OS 33 (OT.fr (RT.own1 T 3 rI)) b6898.w (sv t l6903 y) l6903 S ∧ l6903.length = O.length ∧ (t = none ↔ l6903 = [])) ?_ ?_
   have hm := hj6906
   obtain ⟨U, hcl6955, hm⟩ := bS hm
   obtain ⟨_, h6963, hm⟩ := bS hm
   obtain ⟨x6968, h6969, hm⟩ := bS hm
   refine Di mixed (.refl _)<|Es 0 rfl (sL 1 rfl one27 rfl rfl)<|E0 1 rfl (sM rfl)<|E0 2 rfl (sM rfl)<|E0 4 rfl (sM rfl)<|Eo<|Da [3, 5] (by kernel_rfl) rfl ?_
   refine Rg lr rfl rfl _ call21 rfl (cSlicesClone_2 _ _ x6687 A6703 c6704 (h6705.le G) U hcl6955) ?_ ?_
   rintro _ b6956 _ ak ⟨A6958, c6959, hs6960, rfl, rfl, h6961⟩
   refine ⟨.inr (ss hs6960 (.refl _)), ?_⟩
   refine d_in1 [] [_, _, _, _, _, _, _, _, _, _] hs6960 (s ++ (j ++ (a ++ (c ++ (d ++ (f ++ (g ++ R))))))) rfl<|Da [5] (by kernel_rfl) rfl ?_
   refine Rd2 ak rfl rfl (u_bslice (el := 3) [(0, iv u)] [iv u] rfl (fun _ => by kernel_rfl)) ?_ ?_
   rintro _ _ ⟨g6962, rfl, rfl⟩
   refine ⟨.inr (.cons _ (.cons_cons _ (.cons_cons _ (.cons_cons _ (.cons_cons _ (.cons_cons _ (.cons_cons _ (.cons_cons _ (.cons_cons _ (.cons_cons _ (.cons_cons _ (ss hs6960 (.refl _))))))))))))), ?_⟩
   have h6963 := room_some h6963
   refine Da [6] (by kernel_rfl) rfl ?_
   refine Rd2 ak rfl rfl (uQ (r := rI) (l := U) [_, _, _, _, _, _, _, _, _, _, _] (s ++ (j ++ (a ++ (c ++ (d ++ (f ++ (g ++ R))))))) [[iv u]] [u] rfl (by decide) sl33 inf3 rfl rfl rfl rfl h6961 rfl (fun w ho => Rd.own (i := 0) ho rfl) ⟨rfl, trivial⟩ h6963) ?_ ?_
   rintro _ _ ⟨hs6964, rfl, h6965⟩
   obtain ⟨A6966, c6967, rfl, _⟩ := h6965.form
   refine ⟨.inr (.cons _ (.cons_cons _ (.cons_cons _ (.cons_cons _ (.cons_cons _ (.cons_cons _ (.cons_cons _ (.cons_cons _ (.cons_cons _ (.cons_cons _ (.cons_cons _ (ss hs6964 (.refl _))))))))))))), ?_⟩
   obtain ⟨j6970, hj6971, hx6972⟩ := iS h6969
   obtain ⟨cs6973, hs6978, P6979, P6980, hq6981, hr6974, hcs6975, hA6976, hlt6977, hb6982, hho6983⟩ := OS.get (sz := 1) rfl (by decide) (h6661.le G) hx6972
   obtain ⟨⟨A6984, c6985, rfl, h6986, h6987⟩, rfl⟩ := hr6974
   refine Ei ak (.cons _ (.cons_cons _ (.cons_cons _ (.cons_cons _ (.cons_cons _ (.cons_cons _ (.cons_cons _ (.cons_cons _ (.cons_cons _ (.cons_cons _ (.cons_cons _ (ss hs6964 (.refl _)))))))))))))<|E0 7 rfl (sI j6970 rfl rfl hj6971 hlt6977 hA6976 sl27)<|Eo<|d_unk [_, _, _, _, _, _, _, _, _, _, _] hs6964 (s ++ (j ++ (a ++ (c ++ (d ++ (f ++ (g ++ R))))))) rfl ?_
   intro hu6990
   have hnz6991 : (A6966 = none ↔ U ++ [u] = []) := (OS.nz h6965 (by simp))
   refine d_frz [_, _, _, _, _, _, _, _, _, _, _] hs6964 (s ++ (j ++ (a ++ (c ++ (d ++ (f ++ (g ++ R))))))) rfl ?_
   intro b6992 hle6993 hz6994
   have h6995 := OS.frz (l := U ++ [u]) h6965 hle6993.cells hz6994
   have h6996 : Own1 T 3 rI b6992.w A6966 c6967 (U ++ [u]) := own1_of (by decide) h6965 hle6993.cells hz6994 hu6990 (hb0.trans (x.trans (L.trans (G.trans ak)))) (fun e => absurd e (by simp))
   refine Da [8] (by kernel_rfl) rfl ?_
   refine Rd2 (ak.trans hle6993) rfl rfl (uP hj6971 (sz := 1) (a' := U ++ [u]) rfl [_, _, _, _, _, _, _, _, _, _, _] (j ++ (a ++ (c ++ (d ++ (f ++ (g ++ R)))))) 0 1 [.slice A6966 (U ++ [u]).length c6967] rfl (h6661.le (G.trans (ak.trans hle6993))) hx6972 rfl rfl rfl siz33 rfl (mc rfl mn) (fun cs hsj hh => by obtain ⟨⟨A6997, c6998, rfl, h6999, h7000⟩, rfl⟩ := hh; exact ⟨by first | decide | exact Nat.le_refl _, (RT.own1_mk h6995 h6996), rfl⟩)) ?_ ?_
   rintro _ _ ⟨V, rfl, h6989⟩
   refine ⟨.inl (by kernel_rfl), ?_⟩
   refine d_resp 36 rfl (v' := .slice t (put Y (K : Int) (U ++ [u])).length y) (by simp only [put_length])<|d_hresp 2 rfl (o' := Cl 27 [.slice t (put Y (K : Int) (U ++ [u])).length y]) (by simp only [put_length])<|Dd (by kernel_rfl) ?_
   obtain rfl := o1 hm
   refine Xp 10 rfl<|Xp 10 rfl<|Xp 10 rfl<|Xp 10 rfl<|Xp 10 rfl<|Xp 10 rfl<|Xp 10 rfl<|Xp 10 rfl<|Xp 10 rfl<|Xp 10 rfl ?_
   refine x_front7 [_, _, _, _, _, _, _, _, _, _, _] V j a c d f g R rfl<|x_front7 [_, _, _, _, _, _, _, _, _, _, _] g V j a c d f R rfl<|x_front7 [_, _, _, _, _, _, _, _, _, _, _] f g V j a c d R rfl<|x_front7 [_, _, _, _, _, _, _, _, _, _, _] d f g V j a c R rfl<|x_front7 [_, _, _, _, _, _, _, _, _, _, _] c d f g V j a R rfl<|x_front7 [_, _, _, _, _, _, _, _, _, _, _] a c d f g V j R rfl<|x_front7 [_, _, _, _, _, _, _, _, _, _, _] j a c d f g V R rfl ?_
   exact xJ ⟨V, rfl, rfl, (ak.trans hle6993), h6989, ((put_length _ _ _).trans hln6678), (put_nz hnz6679)⟩ (.cons_cons _ (.cons_cons _ (.cons_cons _ (.cons_cons _ (.cons_cons _ (.cons_cons _ (.cons_cons _ (.cons_cons _ (.cons_cons _ (.cons_cons _ (.cons _ (.refl _))))))))))))
   exact Rn
   exact Rn
   exact Rn
   refine Rd2 lr rfl rfl (u_bslice (el := 3) [(0, iv u)] [iv u] rfl (fun _ => by kernel_rfl)) ?_ ?_
   rintro _ _ ⟨g6962, rfl, rfl⟩
   refine ⟨.inr (.cons _ (.refl _)), ?_⟩
   refine Da [3] (by kernel_rfl) rfl ?_
   refine Rg lr rfl rfl _ call21 rfl (cSlicesClone_2 _ _ x6687 A6703 c6704 (h6705.le G) U hcl6955) ?_ ?_
   rintro _ b6956 _ ak ⟨A6958, c6959, hs6960, rfl, rfl, h6961⟩
   refine ⟨.inr (ss hs6960 (.cons _ (.refl _))), ?_⟩
   refine d_in1 [] [_, _, _, _, _, _, _, _, _, _, _] hs6960 (s ++ (j ++ (a ++ (c ++ (d ++ (f ++ (g ++ R))))))) rfl ?_
   have h6963 := room_some h6963
   refine Da [6] (by kernel_rfl) rfl ?_
   refine Rd2 ak rfl rfl (uQ (r := rI) (l := U) [_, _, _, _, _, _, _, _, _, _, _] (s ++ (j ++ (a ++ (c ++ (d ++ (f ++ (g ++ R))))))) [[iv u]] [u] rfl (by decide) sl33 inf3 rfl rfl rfl rfl h6961 rfl (fun w ho => Rd.own (i := 0) ho rfl) ⟨rfl, trivial⟩ h6963) ?_ ?_
   rintro _ _ ⟨hs6964, rfl, h6965⟩
   obtain ⟨A6966, c6967, rfl, _⟩ := h6965.form
   refine ⟨.inr (.cons _ (.cons_cons _ (.cons_cons _ (.cons_cons _ (.cons_cons _ (.cons_cons _ (.cons_cons _ (.cons_cons _ (.cons_cons _ (.cons_cons _ (.cons_cons _ (ss hs6964 (.refl _))))))))))))), ?_⟩
   obtain ⟨j6970, hj6971, hx6972⟩ := iS h6969
   obtain ⟨cs6973, hs6978, P6979, P6980, hq6981, hr6974, hcs6975, hA6976, hlt6977, hb6982, hho6983⟩ := OS.get (sz := 1) rfl (by decide) (h6661.le G) hx6972
   obtain ⟨⟨A6984, c6985, rfl, h6986, h6987⟩, rfl⟩ := hr6974
   refine Ei ak (.cons _ (.cons_cons _ (.cons_cons _ (.cons_cons _ (.cons_cons _ (.cons_cons _ (.cons_cons _ (.cons_cons _ (.cons_cons _ (.cons_cons _ (.cons_cons _ (ss hs6964 (.refl _)))))))))))))<|E0 7 rfl (sI j6970 rfl rfl hj6971 hlt6977 hA6976 sl27)<|Eo<|d_unk [_, _, _, _, _, _, _, _, _, _, _] hs6964 (s ++ (j ++ (a ++ (c ++ (d ++ (f ++ (g ++ R))))))) rfl ?_
   intro hu6990
   have hnz6991 : (A6966 = none ↔ U ++ [u] = []) := (OS.nz h6965 (by simp))
   refine d_frz [_, _, _, _, _, _, _, _, _, _, _] hs6964 (s ++ (j ++ (a ++ (c ++ (d ++ (f ++ (g ++ R))))))) rfl ?_
   intro b6992 hle6993 hz6994
   have h6995 := OS.frz (l := U ++ [u]) h6965 hle6993.cells hz6994
   have h6996 : Own1 T 3 rI b6992.w A6966 c6967 (U ++ [u]) := own1_of (by decide) h6965 hle6993.cells hz6994 hu6990 (hb0.trans (x.trans (L.trans (G.trans ak)))) (fun e => absurd e (by simp))
   refine Da [8] (by kernel_rfl) rfl ?_
   refine Rd2 (ak.trans hle6993) rfl rfl (uP hj6971 (sz := 1) (a' := U ++ [u]) rfl [_, _, _, _, _, _, _, _, _, _, _] (j ++ (a ++ (c ++ (d ++ (f ++ (g ++ R)))))) 0 1 [.slice A6966 (U ++ [u]).length c6967] rfl (h6661.le (G.trans (ak.trans hle6993))) hx6972 rfl rfl rfl siz33 rfl (mc rfl mn) (fun cs hsj hh => by obtain ⟨⟨A6997, c6998, rfl, h6999, h7000⟩, rfl⟩ := hh; exact ⟨by first | decide | exact Nat.le_refl _, (RT.own1_mk h6995 h6996), rfl⟩)) ?_ ?_
   rintro _ _ ⟨V, rfl, h6989⟩
   refine ⟨.inl (by kernel_rfl), ?_⟩
   refine d_resp 36 rfl (v' := .slice t (put Y (K : Int) (U ++ [u])).length y) (by simp only [put_length])<|d_hresp 2 rfl (o' := Cl 27 [.slice t (put Y (K : Int) (U ++ [u])).length y]) (by simp only [put_length])<|Dd (by kernel_rfl) ?_
   obtain rfl := o1 hm
   refine Xp 10 rfl<|Xp 10 rfl<|Xp 10 rfl<|Xp 10 rfl<|Xp 10 rfl<|Xp 10 rfl<|Xp 10 rfl<|Xp 10 rfl<|Xp 10 rfl<|Xp 10 rfl ?_
   refine x_front7 [_, _, _, _, _, _, _, _, _, _, _] V j a c d f g R rfl<|x_front7 [_, _, _, _, _, _, _, _, _, _, _] g V j a c d f R rfl<|x_front7 [_, _, _, _, _, _, _, _, _, _, _] f g V j a c d R rfl<|x_front7 [_, _, _, _, _, _, _, _, _, _, _] d f g V j a c R rfl<|x_front7 [_, _, _, _, _, _, _, _, _, _, _] c d f g V j a R rfl<|x_front7 [_, _, _, _, _, _, _, _, _, _, _] a c d f g V j R rfl<|x_front7 [_, _, _, _, _, _, _, _, _, _, _] j a c d f g V R rfl ?_
   exact xJ ⟨V, rfl, rfl, (ak.trans hle6993), h6989, ((put_length _ _ _).trans hln6678), (put_nz hnz6679)⟩ (.cons_cons _ (.cons_cons _ (.cons_cons _ (.cons_cons _ (.cons_cons _ (.cons_cons _ (.cons_cons _ (.cons_cons _ (.cons_cons _ (.cons_cons _ (.cons _ (.refl _))))))))))))
   exact Rn
   exact Rn
   exact Rn
   exact Rn
   rintro b6898 _ _ ⟨S, rfl, rfl, Z, h6902, hln6904, hnz6905⟩
   have hm := hk6906
   obtain ⟨⟨l7091, l7094, l7095, l7097⟩, hj7098, hk7098⟩ := bS hm
   refine Cj (fun b7071 e' hp' => ∃ (hs7074 : Hp), ∃ (A7078 : OA), ∃ (c7079 : Nat), ∃ (av : Hp), ∃ (A7083 : OA), ∃ (c7084 : Nat), ∃ (aw : Hp), ∃ (A7088 : OA), ∃ (c7089 : Nat), ∃ (ax : Hp), [(0, iv al), (2, pb z), (5, pb A), (6, pb B), (7, pb C), (8, pb D), (9, pb E), (10, pb F), (12, iv u), (13, iv ((K : Int))), (14, sv A6703 x6687 c6704), (36, sv t l7091 y), (37, iv ((O.length : Int))), (38, iv ((K : Int)))] = e' ∧ (z, Cl 33 [sv A7078 l7094 c7079]) :: (A, Cl 27 [sv t l7091 y]) :: (B, Cl 62 [.map (some ao)]) :: (C, Cl 61 [.map (some aq)]) :: (D, Cl 22 [sv ah W ai]) :: (E, Cl 24 [iv aa, iv ab, iv ac, iv ad, iv ae, iv af, iv ag]) :: (F, Cl 54 [.func (.func 26) #[] #[pb H, pb z, pb I, pb J, pb A, pb B, pb C, pb D, pb E, pb F]]) :: (H, Cl 27 [sv A7083 l7095 c7084]) :: (I, Cl 33 [sv A7088 l7097 c7089]) :: (J, Cl 33 [sv am X an]) :: (hs7074 ++ (av ++ (a ++ (c ++ (d ++ (aw ++ (ax ++ R))))))) = hp' ∧ b6898.Le b7071 ∧ OS 33 (OT.fr (RT.own1 T 3 rI)) b7071.w (sv t l7091 y) l7091 hs7074 ∧ l7091.length = O.length ∧ (t = none ↔ l7091 = []) ∧ OS 3 (OT.fr rI) b7071.w (sv A7078 l7094 c7079) l7094 av ∧ OS 33 (OT.fr (RT.own1 T 3 rI)) b7071.w (sv A7083 l7095 c7084) l7095 aw ∧ (A7083 = none ↔ l7095 = []) ∧ OS 3 (OT.fr rI) b7071.w (sv A7088 l7097 c7089) l7097 ax) ?_ ?_
   have hm := hj7098
   refine Cs ?_
   obtain ⟨x7121, h7122, hm⟩ := bS hm
   obtain ⟨x7141, hcl7142, hm⟩ := bS hm
   refine Di mixed (.refl _)<|Es 0 rfl (sL 4 rfl one22 rfl rfl)<|Es 1 rfl (sL 1 rfl one27 rfl rfl)<|E0 2 rfl (sM rfl) ?_
   obtain ⟨j7123, hj7124, hx7125⟩ := iS h7122
   obtain ⟨cs7126, hs7131, P7132, P7133, hq7134, hr7127, hcs7128, hA7129, hlt7130, hb7135, hho7136⟩ := OS.get (sz := 1) rfl (by decide) h6902 hx7125
   obtain ⟨⟨A7137, c7138, rfl, h7139, h7140⟩, rfl⟩ := hr7127
   refine E0 3 rfl (sI j7123 rfl rfl hj7124 hlt7130 hA7129 sl27)<|Es 4 rfl (st_load_rd rfl one33 (fun w ho => hcs7128 w _ ho (.cons _ (.cons _ (.cons _ (.cons _ (.cons _ (.cons _ (.cons _ (.cons _ (.cons _ (.cons _ (List.sublist_append_left _ _))))))))))) 0 _ rfl))<|Es 5 rfl (sD (vs := [_, _, _, _, _, _, _]) 5 7 rfl agg24 rfl rfl rfl)<|Eo<|Da [6] (by kernel_rfl) rfl ?_
   refine Rd2 lr rfl rfl (uW _ call22 rfl (fun w ho => cFleetFits _ [] W x7121 (⟨aa, ab, ac, ad, ae, af, ag⟩ : FleetLimits) ah ai A7137 c7138 ((h47.le (x.trans (L.trans (G.trans Z)))).old ho) (h7139.old ho) x7141 hcl7142) (fun _ _ _ h => h.2.symm)) ?_ ?_
   rintro _ _ ⟨⟨_, rfl, _⟩, rfl⟩
   refine ⟨.inr (.refl _), ?_⟩
   refine Dd (by kernel_rfl)<|Xn ?_
   refine Cc _ rfl (fun hc7143 => ?_) (fun hc7143 => ?_)
   rw [if_pos hc7143] at hm
   refine Cg<|Ts rfl (sL 6 rfl one54 rfl rfl)<|M rfl rfl ?_
   obtain ⟨_, h7144, hm⟩ := bS hm
   have h7144 := (kS h7144).2
   refine Ts rfl (sa rfl rfl h7144) ?_
   obtain ⟨⟨l7145, l7146, l7147, l7148⟩, hcl7149, hm⟩ := bS hm
   obtain ⟨Nhcl7149, hcl7149⟩ := lim_some hcl7149
   have hm := (unc4E hm)
   refine t_pullb 6 rfl<|t_pullb 6 rfl<|t_pullb 6 rfl<|t_pullb 6 rfl<|t_pullb 6 rfl<|t_pullb 6 rfl<|t_pullb 9 rfl<|t_pullb 9 rfl<|t_pullb 8 rfl<|t_pullb 9 rfl ?_
   refine t_front5 [_, _, _, _, _, _, _, _, _, _] S j a c d (f ++ (g ++ R)) rfl<|t_front5 [_, _, _, _, _, _, _, _, _, _] d S j a c (f ++ (g ++ R)) rfl<|t_front3 [_, _, _, _, _, _, _, _, _, _] c d S (j ++ (a ++ (f ++ (g ++ R)))) rfl<|t_front5 [_, _, _, _, _, _, _, _, _, _] S c d j a (f ++ (g ++ R)) rfl<|t_front7 [_, _, _, _, _, _, _, _, _, _] a S c d j f g R rfl<|t_front6 [_, _, _, _, _, _, _, _, _, _] g a S c d j (f ++ R) rfl<|t_front7 [_, _, _, _, _, _, _, _, _, _] j g a S c d f R rfl<|t_out7 [_, _, _, _, _, _, _, _, _, _] [] f j g a S c d R rfl<|Tv #[] #[pb H, pb z, pb I, pb J, pb A, pb B, pb C, pb D, pb E, pb F] [iv (al + 1)] rfl rfl call26 rfl (cFleetStandIns_1_4 Nhcl7149 _ _ T (hb0.trans (x.trans (L.trans (G.trans Z)))) (al + 1) W aa ab ac ad ae af ag l6681 l6680 l6683 X l6903 l65 l66 H z I J A B C D E F ah ai A6669 c6670 f A6664 c6665 j A6674 c6675 g am an a t y S ao c aq d (h47.le (x.trans (L.trans (G.trans Z)))) (h6671.le (G.trans Z)) hnz6682 (h6666.le (G.trans Z)) (h6676.le (G.trans Z)) (h20.le (x.trans (L.trans (G.trans Z)))) h6902 hnz6905 (h29.le (x.trans (L.trans (G.trans Z)))) (h33.le (x.trans (L.trans (G.trans Z)))) l7145 l7146 l7147 l7148 hcl7149) ?_
   rintro _ b7150 _ hle7151 ⟨A7152, c7153, hs7154, hs7155, A7156, c7157, hs7158, A7159, c7160, hs7161, rfl, rfl, h7162, h7163, h7164, h7165, h7166, h7167, h7168⟩
   refine t_in7 [_, _, _, _, _, _, _, _, _, _] [] hs7154 a hs7155 c d hs7158 hs7161 R rfl<|Tr 36 rfl (v' := sv t l7146 y) (by show Value.slice _ _ _ = Value.slice _ _ _; rw [h7164])<|t_hresp 4 rfl (o' := Cl 27 [sv t l7146 y]) (by simp only [sv, h7164])<|Tn ?_
   obtain ⟨rfl, rfl, rfl, rfl⟩ := some4 hm
   refine Xp 3 rfl<|Xp 3 rfl<|Xp 2 rfl<|Xp 9 rfl<|Xp 9 rfl<|Xp 9 rfl<|Xp 9 rfl<|Xp 9 rfl<|Xp 9 rfl<|Xp 9 rfl ?_
   refine x_front7 [_, _, _, _, _, _, _, _, _, _] hs7154 a hs7155 c d hs7158 hs7161 R rfl<|x_front7 [_, _, _, _, _, _, _, _, _, _] hs7161 hs7154 a hs7155 c d hs7158 R rfl<|x_front7 [_, _, _, _, _, _, _, _, _, _] hs7158 hs7161 hs7154 a hs7155 c d R rfl<|x_front7 [_, _, _, _, _, _, _, _, _, _] d hs7158 hs7161 hs7154 a hs7155 c R rfl<|X6 [_, _, _, _, _, _, _, _, _, _] c d hs7158 hs7161 hs7154 a (hs7155 ++ R) rfl<|X6 [_, _, _, _, _, _, _, _, _, _] a c d hs7158 hs7161 hs7154 (hs7155 ++ R) rfl<|x_front7 [_, _, _, _, _, _, _, _, _, _] hs7154 a c d hs7158 hs7161 hs7155 R rfl ?_
   exact xJ ⟨hs7155, A7152, c7153, hs7154, A7156, c7157, hs7158, A7159, c7160, hs7161, rfl, rfl, hle7151, h7163, (h7164.trans hln6904), h7165, h7162, h7166, h7167, h7168⟩ (.refl _)
   rw [if_neg (fun hh => Bool.noConfusion (hh.symm.trans hc7143))] at hm
   refine Ck ?_
   obtain ⟨rfl, rfl, rfl, rfl⟩ := some4 hm
   refine Xp 9 rfl<|Xp 9 rfl<|Xp 9 rfl<|Xp 9 rfl<|Xp 9 rfl<|Xp 9 rfl<|Xp 9 rfl<|Xp 9 rfl<|Xp 9 rfl<|Xp 9 rfl ?_
   refine x_front7 [_, _, _, _, _, _, _, _, _, _] S j a c d f g R rfl<|x_front7 [_, _, _, _, _, _, _, _, _, _] g S j a c d f R rfl<|x_front7 [_, _, _, _, _, _, _, _, _, _] f g S j a c d R rfl<|x_front7 [_, _, _, _, _, _, _, _, _, _] d f g S j a c R rfl<|x_front7 [_, _, _, _, _, _, _, _, _, _] c d f g S j a R rfl<|x_front7 [_, _, _, _, _, _, _, _, _, _] a c d f g S j R rfl<|x_front7 [_, _, _, _, _, _, _, _, _, _] j a c d f g S R rfl ?_
   exact xJ ⟨S, A6664, c6665, j, A6669, c6670, f, A6674, c6675, g, rfl, rfl, lr, h6902, hln6904, hnz6905, (h6666.le (G.trans Z)), (h6671.le (G.trans Z)), hnz6682, (h6676.le (G.trans Z))⟩ (.refl _)
   exact Rn
   rintro b7071 _ _ ⟨hs7074, A7078, c7079, av, A7083, c7084, aw, A7088, c7089, ax, rfl, rfl, hle7072, h7075, hln7092, hnz7093, h7080, h7085, hnz7096, h7090⟩
   have hm := (unc4E hk7098)
   refine Cg<|Ts rfl (sL 1 rfl one27 rfl rfl)<|M rfl rfl<|M rfl rfl ?_
   obtain ⟨x7169, h7170, hm⟩ := bS hm
   obtain ⟨j7171, hj7172, hx7173⟩ := iS h7170
   obtain ⟨cs7174, hs7179, P7180, P7181, hq7182, hr7175, hcs7176, hA7177, hlt7178, hb7183, hho7184⟩ := OS.get (sz := 1) rfl (by decide) h7075 hx7173
   obtain ⟨⟨A7185, c7186, rfl, h7187, h7188⟩, rfl⟩ := hr7175
   refine Ts rfl (sI j7171 rfl rfl hj7172 hlt7178 hA7177 sl27)<|Do rfl (uP hj7172 (sz := 1) (a' := x6687) rfl [_, _, _, _, _, _, _, _, _, _] (av ++ (a ++ (c ++ (d ++ (aw ++ (ax ++ R)))))) 0 1 [sv A6703 x6687 c6704] rfl h7075 hx7173 rfl rfl rfl siz33 rfl (mc rfl mn) (fun cs hsj hh => by obtain ⟨⟨A7191, c7192, rfl, h7193, h7194⟩, rfl⟩ := hh; exact ⟨by first | decide | exact Nat.le_refl _, (RT.own1_mk (h6705.le (G.trans (Z.trans hle7072))) (Own1.mono h6706 (G.trans (Z.trans hle7072)).cells)), rfl⟩)) ?_
   rintro _ _ ⟨hs7189, rfl, h7190⟩
   refine Tr 36 rfl (v' := .slice t (put l7091 (K : Int) x6687).length y) (by simp only [put_length])<|t_hresp 1 rfl (o' := Cl 27 [.slice t (put l7091 (K : Int) x6687).length y]) (by simp only [put_length])<|Tn<|Xm<|Xn<|Cg<|Ts rfl (sa rfl rfl (by omega))<|M rfl rfl<|Tn<|Xp 9 rfl ?_
   refine Xp 9 rfl<|Xp 9 rfl<|Xp 9 rfl<|Xp 9 rfl<|Xp 9 rfl<|Xp 9 rfl<|Xp 9 rfl<|Xp 9 rfl<|Xp 9 rfl<|x_front7 [_, _, _, _, _, _, _, _, _, _] hs7189 av a c d aw ax R rfl ?_
   refine x_front7 [_, _, _, _, _, _, _, _, _, _] ax hs7189 av a c d aw R rfl<|x_front7 [_, _, _, _, _, _, _, _, _, _] aw ax hs7189 av a c d R rfl<|x_front7 [_, _, _, _, _, _, _, _, _, _] d aw ax hs7189 av a c R rfl<|x_front7 [_, _, _, _, _, _, _, _, _, _] c d aw ax hs7189 av a R rfl<|x_front7 [_, _, _, _, _, _, _, _, _, _] a c d aw ax hs7189 av R rfl<|x_front7 [_, _, _, _, _, _, _, _, _, _] av a c d aw ax hs7189 R rfl ?_
   obtain rfl := o1 hm
   exact xS ⟨hs7189, A7078, c7079, av, A7083, c7084, aw, A7088, c7089, ax, rfl, rfl, ((L.trans (G.trans (Z.trans hle7072)))), h7190, ((put_length _ _ _).trans hln7092), (put_nz hnz7093), h7080, h7085, hnz7096, h7090⟩ (.refl _)
   rintro b6657 _ _ ⟨s, A6664, c6665, j, A6669, c6670, f, A6674, c6675, g, rfl, rfl, L, h6661, hln6678, hnz6679, h6666, h6671, hnz6682, h6676⟩
   have hm := (unc4E hk6686)
   refine Cr<|Ts rfl (lF rfl rfl (by omega))<|Te<|Cs<|c_cond_f rfl<|Ce<|Xe<|Xe<|Xo<|Xn ?_
   refine Cr<|Ts rfl (sL 0 rfl one33 rfl rfl)<|M rfl rfl<|Do rfl (u_bslice (el := 3) [(0, iv u)] [iv u] rfl (fun _ => by kernel_rfl)) ?_
   rintro _ _ ⟨g7195, rfl, rfl⟩
   obtain ⟨_, h7196, hm⟩ := bS hm
   have h7196 := room_some h7196
   refine t_front2 [_, _, _, _, _, _, _, _, _, _, _] s j (a ++ (c ++ (d ++ (f ++ (g ++ R))))) rfl<|Do rfl (uQ (r := rI) (l := l6680) [_, _, _, _, _, _, _, _, _, _, _] (s ++ (a ++ (c ++ (d ++ (f ++ (g ++ R)))))) [[iv u]] [u] rfl (by decide) sl33 inf3 rfl rfl rfl rfl h6666 rfl (fun w ho => Rd.own (i := 0) ho rfl) ⟨rfl, trivial⟩ h7196) ?_
   rintro _ _ ⟨hs7197, rfl, h7198⟩
   obtain ⟨A7199, c7200, rfl, _⟩ := h7198.form
   refine Do rfl (uS 1 rfl rfl siz33 rfl rfl (by simp)) ?_
   rintro _ _ rfl
   refine Te<|Cr<|Ts rfl (sL 7 rfl one54 rfl rfl)<|M rfl rfl ?_
   obtain ⟨_, h7201, hm⟩ := bS hm
   have h7201 := (kS h7201).2
   refine Ts rfl (sa rfl rfl h7201) ?_
   obtain ⟨⟨l7202, l7203, l7204, l7205⟩, hcl7206, hm⟩ := bS hm
   obtain ⟨Nhcl7206, hcl7206⟩ := lim_some hcl7206
   have hm := (unc4E hm)
   refine t_pullb 7 rfl<|t_pullb 7 rfl<|t_pullb 7 rfl<|t_pullb 7 rfl<|t_pullb 7 rfl<|t_pullb 7 rfl<|t_pullb 10 rfl<|t_pullb 10 rfl<|t_pullb 9 rfl<|t_pullb 10 rfl ?_
   refine t_front5 [_, _, _, _, _, _, _, _, _, _, _] hs7197 s a c d (f ++ (g ++ R)) rfl<|t_front5 [_, _, _, _, _, _, _, _, _, _, _] d hs7197 s a c (f ++ (g ++ R)) rfl<|t_front4 [_, _, _, _, _, _, _, _, _, _, _] c d hs7197 s (a ++ (f ++ (g ++ R))) rfl<|t_front5 [_, _, _, _, _, _, _, _, _, _, _] s c d hs7197 a (f ++ (g ++ R)) rfl<|t_front7 [_, _, _, _, _, _, _, _, _, _, _] a s c d hs7197 f g R rfl<|t_front6 [_, _, _, _, _, _, _, _, _, _, _] g a s c d hs7197 (f ++ R) rfl<|t_front7 [_, _, _, _, _, _, _, _, _, _, _] hs7197 g a s c d f R rfl<|t_out7 [_, _, _, _, _, _, _, _, _, _] [_] f hs7197 g a s c d R rfl<|Tv #[] #[pb H, pb z, pb I, pb J, pb A, pb B, pb C, pb D, pb E, pb F] [iv (al + 1)] rfl rfl call26 rfl (cFleetStandIns_1_2 Nhcl7206 _ _ T (hb0.trans (x.trans L)) (al + 1) W aa ab ac ad ae af ag l6681 (l6680 ++ [u]) l6683 X Y l65 l66 H z I J A B C D E F ah ai A6669 c6670 f A7199 c7200 hs7197 A6674 c6675 g am an a t y s ao c aq d (h47.le (x.trans L)) h6671 hnz6682 h7198 (OS.nz h7198 (by simp)) h6676 (h20.le (x.trans L)) h6661 hnz6679 (h29.le (x.trans L)) (h33.le (x.trans L)) l7202 l7203 l7204 l7205 hcl7206) ?_
   rintro _ b7207 _ hle7208 ⟨A7209, c7210, hs7211, hs7212, A7213, c7214, hs7215, A7216, c7217, hs7218, rfl, rfl, h7219, h7220, h7221, h7222, h7223, h7224, h7225⟩
   refine t_in7 [_, _, _, _, _, _, _, _, _, _] [_] hs7211 a hs7212 c d hs7215 hs7218 R rfl<|t_hresp 4 rfl (o' := Cl 27 [sv t l7203 y]) (by simp only [sv, h7221])<|Te<|Cg<|Ts rfl (sL 1 rfl one33 rfl rfl)<|Ts rfl (sL 1 rfl one33 rfl rfl)<|Ts rfl (sE rfl sl33) ?_
   obtain ⟨_, h7226, hm⟩ := bS hm
   have h7226 := (kS h7226).2
   refine Ts rfl (sb rfl rfl h7226) ?_
   obtain ⟨l7227, h7228, hm⟩ := bS hm
   obtain ⟨j7229, j7230, hj7231, hj7232, hj7233, hj7234, hx7235⟩ := cutS_some h7228
   have h7236 := OS.lc h7219
   refine Ts rfl (hx7235 ▸ st_part (l := l7202) j7229 j7230 rfl (.inl ⟨rfl, by omega⟩) (.inr ⟨_, _, _, rfl, rfl, hj7232⟩) hj7233 hj7234 h7236 sl33) ?_
   obtain ⟨hs7237, hq7238, h7239⟩ := OS.sub (sz := 1) rfl h7219 hj7233 hj7234
   rw [← hx7235] at h7239
   refine t_less [_, _, _, _, _, _, _, _, _, _, _] hs7211 hs7237 (a ++ (hs7212 ++ (c ++ (d ++ (hs7215 ++ (hs7218 ++ R)))))) rfl hq7238<|Do rfl (uS 1 rfl rfl siz33 rfl rfl (by simp)) ?_
   rintro _ _ rfl
   refine Tn ?_
   obtain ⟨rfl, rfl, rfl, rfl⟩ := some4 hm
   refine Xp 9 rfl<|Xp 9 rfl<|Xp 9 rfl<|Xp 9 rfl<|Xp 9 rfl<|Xp 9 rfl<|Xp 9 rfl<|Xp 9 rfl<|Xp 9 rfl<|Xp 9 rfl ?_
   refine x_front7 [_, _, _, _, _, _, _, _, _, _, _] hs7237 a hs7212 c d hs7215 hs7218 R rfl<|x_front7 [_, _, _, _, _, _, _, _, _, _, _] hs7218 hs7237 a hs7212 c d hs7215 R rfl<|x_front7 [_, _, _, _, _, _, _, _, _, _, _] hs7215 hs7218 hs7237 a hs7212 c d R rfl<|x_front7 [_, _, _, _, _, _, _, _, _, _, _] d hs7215 hs7218 hs7237 a hs7212 c R rfl<|x_front7 [_, _, _, _, _, _, _, _, _, _, _] c d hs7215 hs7218 hs7237 a hs7212 R rfl<|x_front7 [_, _, _, _, _, _, _, _, _, _, _] hs7212 c d hs7215 hs7218 hs7237 a R rfl<|x_front7 [_, _, _, _, _, _, _, _, _, _, _] a hs7212 c d hs7215 hs7218 hs7237 R rfl ?_
   exact endM (x.trans (L.trans hle7208)) rfl (.cons_cons _ (.cons_cons _ (.cons_cons _ (.cons_cons _ (.cons_cons _ (.cons_cons _ (.cons_cons _ (.cons_cons _ (.cons_cons _ (.cons_cons _ (.cons _ (.refl _)))))))))))) ⟨(subA A7209 c7210 j7229 1), (c7210 - j7229), hs7237, hs7212, A7213, c7214, hs7215, A7216, c7217, hs7218, rfl, rfl, h7239, h7220, (h7221.trans hln6678), h7222, h7223, h7224, h7225⟩

set_option maxHeartbeats 1000000 in
set_option maxRecDepth 20000 in
theorem cFleetStandIns (b : Base) (R : Hp) (K : (List FleetShift)) (y : (List (List Int))) (c : FleetLimits) (S : (List FleetAbsence)) (T : OA) (U : Nat) (A5 : OA) (c6 : Nat) (A10 : OA) (c11 : Nat) (h3 : FZ rFleetShift b.w T U K) (h7 : FZ (RT.list rI) b.w A5 c6 y) (h12 : FZ rFleetAbsence b.w A10 c11 S) (x1664 : Int) (l1665 : (List (List Int))) (l1667 : (List Int)) (hm : mFleetStandIns K y c S = some (x1664, l1665, l1667)) :
    CallsG Try.prog 10 [sv T K U, sv A5 y c6, .agg #[iv c.Change, iv c.Long, iv c.Work, iv c.After, iv c.Break, iv c.Rest, iv c.Row], sv A10 S c11] b (R) (fun v b' hp' => ∃ (A1656 : OA), ∃ (c1657 : Nat), ∃ (hs1655 : Hp), ∃ (A1661 : OA), ∃ (c1662 : Nat), ∃ (hs1660 : Hp), .tuple #[sv A1656 l1665 c1657, sv A1661 l1667 c1662, iv x1664] = v ∧ (hs1655 ++ (hs1660 ++ R)) = hp' ∧ OS 33 (OT.list 3 (OT.fr rI)) b'.w (sv A1656 l1665 c1657) l1665 hs1655 ∧ (A1656 = none ↔ l1665 = []) ∧ OS 3 (OT.fr rI) b'.w (sv A1661 l1667 c1662) l1667 hs1660) := by
 refine fE 127 Try.func10 rfl Try.ntmps10 rfl ?_
 unfold mFleetStandIns at hm
 refine Cr<|Do rfl (uB _ rfl rfl) ?_
 rintro _ _ ⟨E, rfl, rfl⟩
 refine Do rfl (uB _ rfl rfl) ?_
 rintro _ _ ⟨F, rfl, rfl⟩
 refine As rfl rfl<|As rfl rfl<|As rfl rfl<|Te<|Cr<|Ts rfl (sL 1 rfl one22 rfl rfl)<|M rfl rfl<|Ts rfl (sD (vs := [_, _, _, _, _, _, _]) 0 7 rfl agg24 rfl rfl rfl) ?_
 obtain ⟨⟨x1670, x1671⟩, hcl1672, hm⟩ := bS hm
 have hm := (unc2E hm)
 refine Do rfl (uW _ call7 rfl (fun w ho => cFleetJudgeRoster _ [] K y c T U A5 c6 (h3.old ho) (h7.old ho) x1670 x1671 hcl1672) (fun _ _ _ h => h.2.symm)) ?_
 rintro _ _ ⟨⟨_, rfl, _⟩, rfl⟩
 refine M rfl rfl<|Ts rfl (st_extract rfl rfl)<|Ts rfl (st_extract rfl rfl)<|As rfl rfl<|As rfl rfl<|Te<|Cs<|Cb<|Cr<|M rfl rfl ?_
 refine Ts rfl (q2 rfl rfl)<|As rfl rfl<|Te ?_
 refine Cc _ rfl (fun hc1673 => ?_) (fun hc1673 => ?_)
 rw [if_pos (of_decide_eq_true hc1673)] at hm
 refine Cr<|M rfl rfl<|As rfl rfl<|As rfl rfl<|As rfl rfl<|Te<|Ct<|Xb<|Xr ?_
 obtain ⟨rfl, rfl, rfl⟩ := some3 hm
 exact rM (rs := [.tmp 8, .tmp 9, .tmp 10]) (vs := [sn, sn, iv x1671]) ⟨rfl, ⟨rfl, ⟨rfl, trivial⟩⟩⟩ ⟨none, 0, [], none, 0, [], rfl, rfl, OS.nil, ⟨fun _ => rfl, fun _ => rfl⟩, OS.nil⟩ (.cons _ (.cons _ (.refl _))) lr
 rw [if_neg (of_decide_eq_false hc1673)] at hm
 refine Cr<|M rfl rfl<|Ts rfl (q2 rfl rfl)<|As rfl rfl<|Te ?_
 refine Cc _ rfl (fun hc1674 => ?_) (fun hc1674 => ?_)
 rw [if_pos (of_decide_eq_true hc1674)] at hm
 refine Cr<|As rfl rfl<|As rfl rfl<|As rfl rfl<|Te<|Ct<|Xb<|Xr ?_
 obtain ⟨rfl, rfl, rfl⟩ := some3 hm
 exact rM (rs := [.tmp 8, .tmp 9, .tmp 10]) (vs := [sn, sn, iv 1]) ⟨rfl, ⟨rfl, ⟨rfl, trivial⟩⟩⟩ ⟨none, 0, [], none, 0, [], rfl, rfl, OS.nil, ⟨fun _ => rfl, fun _ => rfl⟩, OS.nil⟩ (.cons _ (.cons _ (.refl _))) lr
 rw [if_neg (of_decide_eq_false hc1674)] at hm
 refine Ck<|Xm<|Xn<|Cr<|Do rfl (u_mmap rFleetAbsence (OT.fr RT.bool) true false [_, _] R rfl) ?_
 rintro _ _ ⟨g1675, hs1676, rfl, rfl, h1677⟩
 refine Do rfl (uA [.map none] zero61 rfl) ?_
 rintro _ _ ⟨G, rfl, rfl⟩
 refine Do rfl (uS 0 rfl rfl siz61 rfl rfl (by simp)) ?_
 rintro _ _ rfl
 refine Te<|Cs<|Cr<|M rfl rfl<|Ts rfl (sE rfl sl25)<|M rfl rfl<|Te<|Cb ?_
 have hb1680 : S.length ≤ 9223372036854775807 := (FZ.bd h12)
 refine Cp 1 rfl<|Cp 2 rfl ?_
 obtain ⟨t1754, hl1755, hk1756⟩ := bS hm
 refine cF (fun k1753 => fun l1752 => fun b1747 e' hp' => ∃ (a : Hp), [(1, sv A5 y c6), (4, pb E), (6, pb F), (13, pb G), (44, sv A10 S c11), (45, iv ((S.length : Int))), (46, iv ((k1753 : Int)))] = e' ∧ (E, Cl 22 [sv T K U]) :: (F, Cl 24 [iv c.Change, iv c.Long, iv c.Work, iv c.After, iv c.Break, iv c.Rest, iv c.Row]) :: (G, Cl 61 [.map (some g1675)]) :: (a ++ R) = hp' ∧ b.Le b1747 ∧ OM rFleetAbsence (OT.fr RT.bool) true false b1747.w g1675 l1752 a) hl1755 ⟨hs1676, rfl, rfl, lr, h1677⟩ (.refl _) ?_ ?_
 rintro k1753 l1752 b1747 _ _ oL1679 hknL1679 ⟨a, rfl, rfl, L, h1751⟩ hstepL1679 houtL1679
 unfold mFleetStandIns_L1679 at hstepL1679
 have hm := hstepL1679
 refine Cr<|Ts rfl (lT rfl rfl (by omega))<|Te<|Cs<|c_cond_t rfl<|Ck<|Xn<|Cs<|Cb<|Cr ?_
 obtain ⟨H, h1758, hm⟩ := bS hm
 obtain ⟨j1759, hj1760, hx1761⟩ := iS h1758
 obtain ⟨cs1762, hr1763, hcs1764, hA1765, hlt1766⟩ := FZ.get (sz := 2) rfl (by decide) (h12.le L) hx1761
 obtain ⟨_, _, rfl, rfl, rfl⟩ := hr1763
 refine Ts rfl (sI j1759 rfl rfl hj1760 hlt1766 hA1765 sl25)<|Ts rfl (sP (vs := [iv H.Driver, iv H.Day]) 2 rfl agg41 hA1765 rfl (fun j u hu => hcs1764 j u hu))<|Do rfl (uA [iv 0, iv 0] zero41 rfl) ?_
 rintro _ _ ⟨g1767, rfl, rfl⟩
 refine Do rfl (uN (vs := [_, _]) 0 2 rfl rfl rfl siz41 rfl (mc rfl (mc rfl mn)) rfl (by simp)) ?_
 rintro _ _ rfl
 refine Te<|Cs ?_
 obtain ⟨x1776, hj1777, hk1777⟩ := bS hm
 refine Cj (fun b1774 e' hp' => [(1, sv A5 y c6), (4, pb E), (6, pb F), (13, pb G), (15, pb g1767), (44, sv A10 S c11), (45, iv ((S.length : Int))), (46, iv ((k1753 : Int))), (62, bv x1776)] = e' ∧ (E, Cl 22 [sv T K U]) :: (F, Cl 24 [iv c.Change, iv c.Long, iv c.Work, iv c.After, iv c.Break, iv c.Rest, iv c.Row]) :: (G, Cl 61 [.map (some g1675)]) :: (g1767, Cl 41 [iv H.Driver, iv H.Day]) :: (a ++ R) = hp' ∧ b1747.Le b1774) ?_ ?_
 have hm := hj1777
 refine Cg<|Ts rfl (sF rfl fld41_0)<|Ts rfl (sL 0 rfl one3 rfl rfl)<|M rfl rfl<|Ts rfl (sE rfl sl27) ?_
 obtain ⟨_, h1778, hm⟩ := bS hm
 have h1778 := (kS h1778).2
 refine Ts rfl (sb rfl rfl h1778) ?_
 obtain ⟨x1779, hcl1780, hm⟩ := bS hm
 refine Do rfl (uW _ call17 rfl (fun w ho => cFleetWithin _ [] H.Driver 0 ((y.length : Int) - 1) x1779 hcl1780) (fun _ _ _ h => h.2.symm)) ?_
 rintro _ _ ⟨⟨_, rfl, _⟩, rfl⟩
 rcases Bool.eq_false_or_eq_true x1779 with hc1781 | hc1781
 rw [if_pos hc1781] at hm
 refine Tr 55 rfl (v' := .bool true) (by rw [hc1781] <;> rfl)<|Ts rfl (st_not_t rfl)<|M rfl rfl<|Ys 57 rfl rfl rfl<|Ts rfl (sF rfl fld41_1)<|Ys 57 rfl rfl rfl<|Ts rfl (sL 0 rfl one3 rfl rfl)<|Ys 57 rfl rfl rfl ?_
 obtain ⟨x1782, hcl1783, hm⟩ := bS hm
 refine Do rfl (uW _ call17 rfl (fun w ho => cFleetWithin _ [] H.Day 0 6 x1782 hcl1783) (fun _ _ _ h => h.2.symm)) ?_
 rintro _ _ ⟨⟨_, rfl, _⟩, rfl⟩
 refine Ys 57 rfl rfl rfl<|Ts rfl (sn2 rfl)<|Ts rfl (pF rfl rfl)<|Tn ?_
 obtain rfl := o1 hm
 refine Xp 3 rfl<|Xp 3 rfl<|Xp 3 rfl ?_
 exact xJ ⟨rfl, rfl, lr⟩ (.refl _)
 rw [if_neg (fun hh => Bool.noConfusion (hh.symm.trans hc1781))] at hm
 refine Tr 55 rfl (v' := .bool false) (by rw [hc1781] <;> rfl)<|Ts rfl (st_not_f rfl)<|M rfl rfl<|No 57 rfl rfl rfl rfl rfl<|No 57 rfl rfl rfl rfl rfl<|No 57 rfl rfl rfl rfl rfl<|No 57 rfl rfl rfl rfl rfl<|Ts rfl (pT rfl rfl)<|Tn ?_
 obtain rfl := o1 hm
 refine Xp 3 rfl<|Xp 3 rfl<|Xp 3 rfl ?_
 exact xJ ⟨rfl, rfl, lr⟩ (.refl _)
 rintro b1774 _ _ ⟨rfl, rfl, hle1775⟩
 have hm := hk1777
 refine Cc _ rfl (fun hc1784 => ?_) (fun hc1784 => ?_)
 rw [if_pos hc1784] at hm
 refine Cr<|As rfl rfl<|As rfl rfl<|As rfl rfl<|Te<|Ct<|Xr<|Xb<|Xr<|Xr ?_
 refine Xb<|Xr ?_
 have hq1785 := houtL1679 _ (Option.some.inj hm).symm
 rw [hq1785] at hk1756
 have hm := elimR hk1756
 obtain ⟨rfl, rfl, rfl⟩ := some3 hm
 exact rM (rs := [.tmp 8, .tmp 9, .tmp 10]) (vs := [sn, sn, iv 2]) ⟨rfl, ⟨rfl, ⟨rfl, trivial⟩⟩⟩ ⟨none, 0, [], none, 0, [], rfl, rfl, OS.nil, ⟨fun _ => rfl, fun _ => rfl⟩, OS.nil⟩ (.cons _ (.cons _ (.cons _ (.cons _ (ss a (.refl _)))))) (L.trans hle1775)
 rw [if_neg (fun hh => Bool.noConfusion (hh.symm.trans hc1784))] at hm
 refine Ck<|Xn<|Cg<|Ts rfl (sL 2 rfl one61 rfl rfl)<|Ts rfl (sD (vs := [_, _]) 3 2 rfl agg41 rfl rfl rfl)<|Do rfl (u_mputF (k := H) kok41 [_, _, _, _] [] R rfl (h1751.le hle1775) mapt61 rfl rfl rfl (⟨[iv H.Driver, iv H.Day], rfl, ⟨[iv H.Driver], _, rfl, rfl, rfl⟩⟩) ⟨rfl, rfl⟩ _ (.inl rfl)) ?_
 rintro _ _ ⟨hs1786, rfl, hsub1787, h1788⟩
 refine Tn<|Xm<|Xn<|Cg<|Ts rfl (sa rfl rfl (by omega))<|M rfl rfl<|Tn<|Xp 2 rfl<|Xp 2 rfl<|Xp 2 rfl ?_
 exact xM hm ⟨hs1786, rfl, rfl, ((L.trans hle1775)), h1788⟩ (.cons_cons _ (.cons_cons _ (.cons_cons _ (.cons _ (.refl _)))))
 rintro l1752 b1747 _ _ ⟨a, rfl, rfl, L, h1751⟩ hq1789
 rw [hq1789] at hk1756
 have hm := elimL hk1756
 refine Cr<|Ts rfl (lF rfl rfl (by omega))<|Te<|Cs<|c_cond_f rfl<|Ce<|Xe<|Xe<|Xo<|Xn ?_
 refine Cr<|M rfl rfl<|Ts rfl (sE rfl sl27) ?_
 obtain ⟨m1790, h1791, hm⟩ := bS hm
 have h1791 := mkLen_some h1791
 refine Do rfl (u_mkOO (o := (OT.nlist 3 (OT.fr rI))) [_, _, _] (a ++ R) [sn] ([] : List Int) m1790 rfl h1791.1 rfl rfl sl27 inf33 rfl rfl rfl (by decide) ⟨_, rfl, OS.nil, fun _ => rfl⟩ h1791.2.1 h1791.2.2) ?_
 rintro _ _ ⟨hs1792, rfl, h1793⟩
 obtain ⟨s, z, rfl, _⟩ := h1793.form
 refine Do rfl (uA [sn] zero27 rfl) ?_
 rintro _ _ ⟨g1796, rfl, rfl⟩
 obtain ⟨_, h1797, hm⟩ := bS hm
 have hnz1798 : (s = none ↔ List.replicate m1790 (([] : List Int) : (List Int)) = []) := ⟨fun e => absurd e (OS.ne h1793 h1797), fun e => absurd e (some?_some h1797)⟩
 refine Do rfl (uS 0 rfl rfl siz27 rfl rfl (by simp)) ?_
 rintro _ _ rfl
 refine Te<|Cr<|Do rfl (uA [sn] zero33 rfl) ?_
 rintro _ _ ⟨g1799, rfl, rfl⟩
 refine Te<|Cr<|Do rfl (u_mmap rI (OT.fr rI) false false [_, _, _, _, _] (hs1792 ++ (a ++ R)) rfl) ?_
 rintro _ _ ⟨g1800, hs1801, rfl, rfl, h1802⟩
 refine Do rfl (uA [.map none] zero62 rfl) ?_
 rintro _ _ ⟨g1803, rfl, rfl⟩
 refine Do rfl (uS 0 rfl rfl siz62 rfl rfl (by simp)) ?_
 rintro _ _ rfl
 refine Te<|Cs<|Cr<|M rfl rfl<|Ts rfl (sE rfl sl27)<|M rfl rfl<|Te<|Cb ?_
 have hb1805 : y.length ≤ 9223372036854775807 := (FZ.bd (h7.le L))
 refine Cp 1 rfl<|Cp 2 rfl<|Cp 5 rfl<|Cp 5 rfl<|Cp 5 rfl<|c_front2 [_, _, _, _, _, _] hs1801 hs1792 (a ++ R) rfl<|c_front3 [_, _, _, _, _, _] hs1792 hs1801 a R rfl ?_
 obtain ⟨⟨V, l2711, l2712⟩, hl2714, hk2715⟩ := bS hm
 refine cS (fun A => unc3 fun V l2711 l2712 => fun b2695 e' hp' => ∃ (t : Hp), ∃ (W : OA), ∃ (X : Nat), ∃ (B : Hp), ∃ (f : Hp), [(4, pb E), (6, pb F), (13, pb G), (16, pb g1796), (17, pb g1799), (18, pb g1803), (70, sv A5 y c6), (71, iv ((y.length : Int))), (72, iv ((A : Int)))] = e' ∧ (E, Cl 22 [sv T K U]) :: (F, Cl 24 [iv c.Change, iv c.Long, iv c.Work, iv c.After, iv c.Break, iv c.Rest, iv c.Row]) :: (G, Cl 61 [.map (some g1675)]) :: (g1796, Cl 27 [sv s V z]) :: (g1799, Cl 33 [sv W l2711 X]) :: (g1803, Cl 62 [.map (some g1800)]) :: (a ++ (t ++ (B ++ (f ++ R)))) = hp' ∧ b1747.Le b2695 ∧ OS 33 (OT.nlist 3 (OT.fr rI)) b2695.w (sv s V z) V t ∧ V.length = m1790 ∧ (s = none ↔ V = []) ∧ OS 3 (OT.fr rI) b2695.w (sv W l2711 X) l2711 B ∧ OM rI (OT.fr rI) false false b2695.w g1800 l2712 f) hl2714 ⟨hs1792, none, 0, [], hs1801, rfl, rfl, lr, h1793, List.length_replicate, hnz1798, OS.nil, h1802⟩ (.refl _) ?_ ?_
 rintro A ⟨V, l2711, l2712⟩ b2695 _ _ oL1804 hknL1804 ⟨t, W, X, B, f, rfl, rfl, Y, h2699, hln2709, hnz2710, h2704, h2707⟩ hstepL1804
 unfold mFleetStandIns_L1804 at hstepL1804
 have hm := (unc3E hstepL1804)
 refine Cr<|Ts rfl (lT rfl rfl (by omega))<|Te<|Cs<|c_cond_t rfl<|Ck<|Xn<|Cs<|Cb<|Cr ?_
 refine M rfl rfl ?_
 obtain ⟨x2716, h2717, hm⟩ := bS hm
 obtain ⟨j2718, hj2719, hx2720⟩ := iS h2717
 obtain ⟨cs2721, hr2722, hcs2723, hA2724, hlt2725⟩ := FZ.get (sz := 1) rfl (by decide) (h7.le (L.trans Y)) hx2720
 obtain ⟨A2726, c2727, rfl, h2728⟩ := hr2722
 refine Ts rfl (sI j2718 rfl rfl hj2719 hlt2725 hA2724 sl27)<|Ts rfl (sO rfl one33 (hcs2723 0 _ rfl))<|As rfl rfl<|As rfl rfl<|Te<|Cr<|M rfl rfl<|Ts rfl (sE rfl sl33)<|M rfl rfl<|Te ?_
 refine Cb ?_
 have hb2730 : x2716.length ≤ 9223372036854775807 := (FZ.bd h2728)
 refine Cp 5 rfl<|Cp 5 rfl<|Cp 5 rfl<|Cp 5 rfl<|Cp 5 rfl<|Cp 5 rfl<|c_front4 [_, _, _, _, _, _] a t B f R rfl<|c_front4 [_, _, _, _, _, _] f a t B R rfl<|c_front4 [_, _, _, _, _, _] B f a t R rfl<|c_front4 [_, _, _, _, _, _] t B f a R rfl ?_
 obtain ⟨⟨x, l3019, l3020⟩, hl3022, hk3023⟩ := bS hm
 refine cS (fun k3021 => unc3 fun x l3019 l3020 => fun b3003 e' hp' => ∃ (m : Hp), ∃ (A3010 : OA), ∃ (c3011 : Nat), ∃ (g : Hp), ∃ (d : Hp), [(4, pb E), (6, pb F), (13, pb G), (16, pb g1796), (17, pb g1799), (18, pb g1803), (19, iv ((A : Int))), (70, sv A5 y c6), (71, iv ((y.length : Int))), (72, iv ((A : Int))), (77, sv A2726 x2716 c2727), (78, iv ((x2716.length : Int))), (79, iv ((k3021 : Int)))] = e' ∧ (E, Cl 22 [sv T K U]) :: (F, Cl 24 [iv c.Change, iv c.Long, iv c.Work, iv c.After, iv c.Break, iv c.Rest, iv c.Row]) :: (G, Cl 61 [.map (some g1675)]) :: (g1796, Cl 27 [sv s x z]) :: (g1799, Cl 33 [sv A3010 l3019 c3011]) :: (g1803, Cl 62 [.map (some g1800)]) :: (a ++ (m ++ (g ++ (d ++ R)))) = hp' ∧ b2695.Le b3003 ∧ OS 33 (OT.nlist 3 (OT.fr rI)) b3003.w (sv s x z) x m ∧ x.length = m1790 ∧ (s = none ↔ x = []) ∧ OS 3 (OT.fr rI) b3003.w (sv A3010 l3019 c3011) l3019 g ∧ OM rI (OT.fr rI) false false b3003.w g1800 l3020 d) hl3022 ⟨t, W, X, B, f, rfl, rfl, lr, h2699, hln2709, hnz2710, h2704, h2707⟩ (.refl _) ?_ ?_
 rintro k3021 ⟨x, l3019, l3020⟩ b3003 _ _ oL2729 hknL2729 ⟨m, A3010, c3011, g, d, rfl, rfl, Z, h3007, hln3017, hnz3018, h3012, h3015⟩ hstepL2729
 unfold mFleetStandIns_L2729 at hstepL2729
 have hm := (unc3E hstepL2729)
 refine Cr<|Ts rfl (lT rfl rfl (by omega))<|Te<|Cs<|c_cond_t rfl<|Ck<|Xn<|Cs<|Cb<|Cr ?_
 obtain ⟨n, h3025, hm⟩ := bS hm
 obtain ⟨j3026, hj3027, hx3028⟩ := iS h3025
 obtain ⟨cs3029, hr3030, hcs3031, hA3032, hlt3033⟩ := FZ.get (sz := 1) rfl (by decide) (h2728.le Z) hx3028
 obtain rfl := hr3030
 refine Ts rfl (sI j3026 rfl rfl hj3027 hlt3033 hA3032 sl33)<|Ts rfl (sO rfl one3 (hcs3031 0 _ rfl))<|As rfl rfl<|Te<|Cs ?_
 obtain ⟨x3050, h3051, hm⟩ := bS hm
 obtain ⟨x3063, h3065, hm⟩ := bS hm
 refine Di mixed (.refl _)<|Es 0 rfl (sL 2 rfl one61 rfl rfl)<|E0 1 rfl (sM rfl)<|Es 2 rfl (sL 0 rfl one22 rfl rfl)<|E0 3 rfl (sM rfl) ?_
 obtain ⟨j3052, hj3053, hx3054⟩ := iS h3051
 obtain ⟨cs3055, hr3056, hcs3057, hA3058, hlt3059⟩ := FZ.get (sz := 3) rfl (by decide) (h3.le (L.trans (Y.trans Z))) hx3054
 obtain ⟨_, _, rfl, rfl, ⟨_, _, rfl, rfl, rfl⟩⟩ := hr3056
 refine E0 4 rfl (sI j3052 rfl rfl hj3053 hlt3059 hA3058 sl22)<|E0 5 rfl (sQ rfl hA3058 fld43_0)<|Es 6 rfl (sO rfl one3 (hcs3057 0 _ rfl))<|E0 7 rfl (sB (v := .agg #[iv ((A : Int)), iv x3050.Day]) [(0, iv ((A : Int))), (1, iv x3050.Day)] rfl (fun _ => by kernel_rfl)) ?_
 have hx3064 := Option.some.inj h3065
 obtain ⟨v3060, hv3061, hr3062⟩ := OM.lookF kok41 (z0 := false) (h1751.le (Y.trans Z)) (key := .agg #[iv ((A : Int)), iv x3050.Day]) (k := (⟨(A : Int), x3050.Day⟩ : FleetAbsence)) ⟨[iv ((A : Int)), iv x3050.Day], rfl, ⟨[iv ((A : Int))], _, rfl, rfl, rfl⟩⟩ mapt61 zero4 rfl
 rw [hx3064] at hv3061
 obtain rfl : v3060 = bv x3063 := by have hv3061 : [v3060] = [bv x3063] := hv3061; injection hv3061
 refine Es 8 rfl (st_mlook (ok := false) rfl rfl (fun w ho => hr3062 _ w ho (.cons _ (.cons _ (.cons _ (.cons _ (.cons _ (.cons _ (List.sublist_append_left _ _))))))) false))<|Eo<|Dd (by kernel_rfl)<|Xn ?_
 refine Cc _ rfl (fun hc3066 => ?_) (fun hc3066 => ?_)
 rw [if_pos hc3066] at hm
 refine Cr<|Ts rfl (sL 4 rfl one33 rfl rfl)<|M rfl rfl<|Do rfl (u_bslice (el := 3) [(0, iv n)] [iv n] rfl (fun _ => by kernel_rfl)) ?_
 rintro _ _ ⟨g3067, rfl, rfl⟩
 obtain ⟨_, h3068, hm⟩ := bS hm
 have h3068 := room_some h3068
 refine t_front3 [_, _, _, _, _, _, _] a m g (d ++ R) rfl<|Do rfl (uQ (r := rI) (l := l3019) [_, _, _, _, _, _, _] (a ++ (m ++ (d ++ R))) [[iv n]] [n] rfl (by decide) sl33 inf3 rfl rfl rfl rfl h3012 rfl (fun w ho => Rd.own (i := 0) ho rfl) ⟨rfl, trivial⟩ h3068) ?_
 rintro _ _ ⟨hs3069, rfl, h3070⟩
 obtain ⟨A3071, c3072, rfl, _⟩ := h3070.form
 refine Do rfl (uS 5 rfl rfl siz33 rfl rfl (by simp)) ?_
 rintro _ _ rfl
 refine Te<|Cg<|Ts rfl (sL 6 rfl one62 rfl rfl)<|M rfl rfl<|M rfl rfl<|t_front4 [_, _, _, _, _, _, _] hs3069 a m d R rfl<|Do rfl (u_mputF kok3 [_, _, _, _, _, _, _] [] (hs3069 ++ (a ++ (m ++ R))) rfl h3015 mapt62 rfl rfl rfl rfl ⟨rfl, rfl⟩ _ (.inl rfl)) ?_
 rintro _ _ ⟨hs3073, rfl, hsub3074, h3075⟩
 refine Tn<|Xm<|Xn<|Cg<|Ts rfl (sa rfl rfl (by omega))<|M rfl rfl<|Tn<|Xp 6 rfl<|Xp 6 rfl<|Xp 6 rfl ?_
 refine Xp 6 rfl<|Xp 6 rfl<|Xp 6 rfl<|X2 [_, _, _, _, _, _, _] hs3073 hs3069 (a ++ (m ++ R)) rfl<|X4 [_, _, _, _, _, _, _] hs3069 hs3073 a m R rfl<|X4 [_, _, _, _, _, _, _] m hs3069 hs3073 a R rfl ?_
 obtain rfl := o1 hm
 exact xS ⟨m, A3071, c3072, hs3069, hs3073, rfl, rfl, (Z), h3007, hln3017, hnz3018, h3070, h3075⟩ (.cons_cons _ (.cons_cons _ (.cons_cons _ (.cons_cons _ (.cons_cons _ (.cons_cons _ (.cons _ (.refl _))))))))
 rw [if_neg (fun hh => Bool.noConfusion (hh.symm.trans hc3066))] at hm
 obtain ⟨x3114, h3115, hm⟩ := bS hm
 obtain ⟨_, h3135, hm⟩ := bS hm
 obtain ⟨x3140, h3141, hm⟩ := bS hm
 refine c_front2 [_, _, _, _, _, _] a m (g ++ (d ++ R)) rfl<|Di mixed (.cons_cons _ (.cons_cons _ (.cons_cons _ (.cons_cons _ (.cons_cons _ (.cons_cons _ (ss m (.refl _))))))))<|Es 0 rfl (sL 3 rfl one27 rfl rfl)<|E0 1 rfl (sM rfl)<|Es 2 rfl (sL 3 rfl one27 rfl rfl)<|E0 3 rfl (sM rfl) ?_
 obtain ⟨j3116, hj3117, hx3118⟩ := iS h3115
 obtain ⟨cs3119, hs3124, P3125, P3126, hq3127, hr3120, hcs3121, hA3122, hlt3123, hb3128, hho3129⟩ := OS.get (sz := 1) rfl (by decide) h3007 hx3118
 obtain ⟨v3130, rfl, h3131, _⟩ := hr3120
 obtain ⟨A3132, c3133, rfl, _⟩ := h3131.form
 refine E0 4 rfl (sI j3116 rfl rfl hj3117 hlt3123 hA3122 sl27)<|E0 6 rfl (sM rfl)<|Eo<|Da [5, 7] (by kernel_rfl) rfl ?_
 refine Rd2 lr rfl rfl (Stable.does (st_load_rd rfl one33 (fun w ho => hcs3121 w _ ho (.cons _ (.cons _ (.cons _ (.cons _ (.cons _ (.cons _ (List.sublist_append_left _ _))))))) 0 _ rfl))) ?_ ?_
 rintro _ _ ⟨rfl, rfl⟩
 refine ⟨.inr (.cons_cons _ (.cons_cons _ (.cons_cons _ (.cons_cons _ (.cons_cons _ (.cons_cons _ (ss m (.refl _)))))))), ?_⟩
 refine Da [7] (by kernel_rfl) rfl ?_
 refine Rd2 lr rfl rfl (u_bslice (el := 3) [(0, iv n)] [iv n] rfl (fun _ => by kernel_rfl)) ?_ ?_
 rintro _ _ ⟨g3134, rfl, rfl⟩
 refine ⟨.inr (.cons _ (.cons_cons _ (.cons_cons _ (.cons_cons _ (.cons_cons _ (.cons_cons _ (.cons_cons _ (ss m (.refl _))))))))), ?_⟩
 have h3135 := room_some h3135
 refine Da [8] (by kernel_rfl) rfl ?_
 refine Rd2 lr rfl rfl (u_appIn (r := rI) [_, _, _, _, _, _, _] (a ++ (g ++ (d ++ R))) [[iv n]] [n] rfl (by decide) sl33 inf3 rfl rfl rfl rfl hq3127 h3131 rfl (fun w ho => Rd.own (i := 0) ho rfl) ⟨rfl, trivial⟩ h3135) ?_ ?_
 rintro _ _ ⟨O, rfl, h3137⟩
 obtain ⟨A3138, c3139, rfl, _⟩ := h3137.form
 refine ⟨.inr (.cons _ (.cons_cons _ (.cons_cons _ (.cons_cons _ (.cons_cons _ (.cons_cons _ (.cons_cons _ (ss O (ss (P3125 ++ P3126) (.refl _)))))))))), ?_⟩
 refine d_resp 99 rfl (v' := sv s x z) (by show Value.slice _ _ _ = Value.slice _ _ _; simp only [put_length])<|d_hresp 4 rfl (o' := Cl 27 [sv s x z]) (by simp only [sv, put_length]) ?_
 obtain ⟨j3142, hj3143, hx3144⟩ := iS h3141
 obtain rfl : j3116 = j3142 := by omega
 refine Ei lr (.cons _ (.cons_cons _ (.cons_cons _ (.cons_cons _ (.cons_cons _ (.cons_cons _ (.cons_cons _ (ss O (ss (P3125 ++ P3126) (.refl _))))))))))<|E0 9 rfl (sI j3116 rfl rfl hj3117 hlt3123 hA3122 sl27)<|Eo<|d2 [_, _, _, _, _, _, _] O (P3125 ++ P3126) (a ++ (g ++ (d ++ R))) rfl<|Da [10] (by kernel_rfl) rfl ?_
 refine Rd2 lr rfl rfl (u_putHole hj3117 (sz := 1) (a' := x3114 ++ [n]) rfl [_, _, _, _, _, _, _] O (a ++ (g ++ (d ++ R))) 1 [.slice A3138 (x3114 ++ [n]).length c3139] rfl (hho3129 _ lr) rfl rfl rfl siz33 rfl (by decide) ⟨_, rfl, h3137, fun e => absurd e (by simp)⟩) ?_ ?_
 rintro _ _ ⟨C, rfl, h3151⟩
 refine ⟨.inl (by kernel_rfl), ?_⟩
 refine d_hresp 4 rfl (o' := Cl 27 [.slice s (put x (A : Int) (x3114 ++ [n])).length z]) (by simp only [put_length])<|Dd (by kernel_rfl)<|Xm<|Xn<|Cg<|Ts rfl (sa rfl rfl (by omega))<|M rfl rfl<|Tn<|Xp 6 rfl<|Xp 6 rfl ?_
 refine Xp 6 rfl<|Xp 6 rfl<|Xp 6 rfl<|Xp 6 rfl<|X4 [_, _, _, _, _, _, _] C a g d R rfl<|X4 [_, _, _, _, _, _, _] d C a g R rfl<|X3 [_, _, _, _, _, _, _] g d C (a ++ R) rfl<|X4 [_, _, _, _, _, _, _] C g d a R rfl ?_
 obtain rfl := o1 hm
 exact xS ⟨C, A3010, c3011, g, d, rfl, rfl, (Z), h3151, ((put_length _ _ _).trans hln3017), (put_nz hnz3018), h3012, h3015⟩ (.cons_cons _ (.cons_cons _ (.cons_cons _ (.cons_cons _ (.cons_cons _ (.cons_cons _ (.cons _ (.refl _))))))))
 exact Rn
 exact Rn
 exact Rn
 refine Rd2 lr rfl rfl (u_bslice (el := 3) [(0, iv n)] [iv n] rfl (fun _ => by kernel_rfl)) ?_ ?_
 rintro _ _ ⟨g3134, rfl, rfl⟩
 refine ⟨.inr (.cons _ (.cons_cons _ (.cons_cons _ (.cons_cons _ (.cons_cons _ (.cons_cons _ (.cons_cons _ (ss m (.refl _))))))))), ?_⟩
 refine Da [5] (by kernel_rfl) rfl ?_
 refine Rd2 lr rfl rfl (Stable.does (st_load_rd rfl one33 (fun w ho => hcs3121 w _ ho (.cons _ (.cons _ (.cons _ (.cons _ (.cons _ (.cons _ (.cons _ (List.sublist_append_left _ _)))))))) 0 _ rfl))) ?_ ?_
 rintro _ _ ⟨rfl, rfl⟩
 refine ⟨.inr (.cons _ (.cons_cons _ (.cons_cons _ (.cons_cons _ (.cons_cons _ (.cons_cons _ (.cons_cons _ (ss m (.refl _))))))))), ?_⟩
 have h3135 := room_some h3135
 refine Da [8] (by kernel_rfl) rfl ?_
 refine Rd2 lr rfl rfl (u_appIn (r := rI) [_, _, _, _, _, _, _] (a ++ (g ++ (d ++ R))) [[iv n]] [n] rfl (by decide) sl33 inf3 rfl rfl rfl rfl hq3127 h3131 rfl (fun w ho => Rd.own (i := 0) ho rfl) ⟨rfl, trivial⟩ h3135) ?_ ?_
 rintro _ _ ⟨O, rfl, h3137⟩
 obtain ⟨A3138, c3139, rfl, _⟩ := h3137.form
 refine ⟨.inr (.cons _ (.cons_cons _ (.cons_cons _ (.cons_cons _ (.cons_cons _ (.cons_cons _ (.cons_cons _ (ss O (ss (P3125 ++ P3126) (.refl _)))))))))), ?_⟩
 refine d_resp 99 rfl (v' := sv s x z) (by show Value.slice _ _ _ = Value.slice _ _ _; simp only [put_length])<|d_hresp 4 rfl (o' := Cl 27 [sv s x z]) (by simp only [sv, put_length]) ?_
 obtain ⟨j3142, hj3143, hx3144⟩ := iS h3141
 obtain rfl : j3116 = j3142 := by omega
 refine Ei lr (.cons _ (.cons_cons _ (.cons_cons _ (.cons_cons _ (.cons_cons _ (.cons_cons _ (.cons_cons _ (ss O (ss (P3125 ++ P3126) (.refl _))))))))))<|E0 9 rfl (sI j3116 rfl rfl hj3117 hlt3123 hA3122 sl27)<|Eo<|d2 [_, _, _, _, _, _, _] O (P3125 ++ P3126) (a ++ (g ++ (d ++ R))) rfl<|Da [10] (by kernel_rfl) rfl ?_
 refine Rd2 lr rfl rfl (u_putHole hj3117 (sz := 1) (a' := x3114 ++ [n]) rfl [_, _, _, _, _, _, _] O (a ++ (g ++ (d ++ R))) 1 [.slice A3138 (x3114 ++ [n]).length c3139] rfl (hho3129 _ lr) rfl rfl rfl siz33 rfl (by decide) ⟨_, rfl, h3137, fun e => absurd e (by simp)⟩) ?_ ?_
 rintro _ _ ⟨C, rfl, h3151⟩
 refine ⟨.inl (by kernel_rfl), ?_⟩
 refine d_hresp 4 rfl (o' := Cl 27 [.slice s (put x (A : Int) (x3114 ++ [n])).length z]) (by simp only [put_length])<|Dd (by kernel_rfl)<|Xm<|Xn<|Cg<|Ts rfl (sa rfl rfl (by omega))<|M rfl rfl<|Tn<|Xp 6 rfl<|Xp 6 rfl ?_
 refine Xp 6 rfl<|Xp 6 rfl<|Xp 6 rfl<|Xp 6 rfl<|X4 [_, _, _, _, _, _, _] C a g d R rfl<|X4 [_, _, _, _, _, _, _] d C a g R rfl<|X3 [_, _, _, _, _, _, _] g d C (a ++ R) rfl<|X4 [_, _, _, _, _, _, _] C g d a R rfl ?_
 obtain rfl := o1 hm
 exact xS ⟨C, A3010, c3011, g, d, rfl, rfl, (Z), h3151, ((put_length _ _ _).trans hln3017), (put_nz hnz3018), h3012, h3015⟩ (.cons_cons _ (.cons_cons _ (.cons_cons _ (.cons_cons _ (.cons_cons _ (.cons_cons _ (.cons _ (.refl _))))))))
 exact Rn
 exact Rn
 exact Rn
 exact Rn
 rintro b3003 _ _ ⟨m, A3010, c3011, g, d, rfl, rfl, Z, h3007, hln3017, hnz3018, h3012, h3015⟩
 have hm := (unc3E hk3023)
 refine Cr<|Ts rfl (lF rfl rfl (by omega))<|Te<|Cs<|c_cond_f rfl<|Ce<|Xe<|Xe<|Xo<|Xm ?_
 refine Xn<|Cg<|Ts rfl (sa rfl rfl (by omega))<|M rfl rfl<|Tn<|Xp 5 rfl<|Xp 5 rfl<|Xp 5 rfl<|Xp 5 rfl<|Xp 5 rfl ?_
 refine Xp 5 rfl<|X4 [_, _, _, _, _, _] a m g d R rfl<|X4 [_, _, _, _, _, _] d a m g R rfl<|X4 [_, _, _, _, _, _] g d a m R rfl<|X4 [_, _, _, _, _, _] m g d a R rfl ?_
 obtain rfl := o1 hm
 exact xS ⟨m, A3010, c3011, g, d, rfl, rfl, ((Y.trans Z)), h3007, hln3017, hnz3018, h3012, h3015⟩ (.refl _)
 rintro b2695 _ _ ⟨t, W, X, B, f, rfl, rfl, Y, h2699, hln2709, hnz2710, h2704, h2707⟩
 have hm := (unc3E hk2715)
 refine Cr<|Ts rfl (lF rfl rfl (by omega))<|Te<|Cs<|c_cond_f rfl<|Ce<|Xe<|Xe<|Xo<|Xn ?_
 refine Cr<|Ts rfl (sL 4 rfl one33 rfl rfl) ?_
 obtain ⟨l3152, hcl3153, hm⟩ := bS hm
 refine t_front3 [_, _, _, _, _, _] a t B (f ++ R) rfl<|t_out1 [] [_, _, _, _, _, _] B (a ++ (t ++ (f ++ R))) rfl<|Tg _ rfl call25 rfl (cSlicesSort _ _ l2711 W X B h2704 l3152 hcl3153) ?_
 rintro _ b3154 _ hle3155 ⟨q, rfl, rfl, h3157, h3158⟩
 refine t_in1 [] [_, _, _, _, _, _] q (a ++ (t ++ (f ++ R))) rfl<|t_hresp 4 rfl (o' := Cl 33 [sv W l3152 X]) (by simp only [sv, h3158])<|Te<|Cr<|Do rfl (uA [sn] zero27 rfl) ?_
 rintro _ _ ⟨g3159, rfl, rfl⟩
 refine Te<|Cs<|c_frz [_, _, _, _, _, _, _] [] (q ++ (a ++ (t ++ (f ++ R)))) rfl ?_
 intro b0 hle3160 hz3161
 refine c_front3 [_, _, _, _, _, _, _] q a t (f ++ R) rfl<|c_frzin [_, _, _, _, _, _, _] t (q ++ (a ++ (f ++ R))) (by decide) rfl (h2699.le (hle3155.trans hle3160)) ?_
 intro b3162 hle3163 hs3164 h3165
 refine Cg<|Do rfl (uA [sn] zero33 rfl) ?_
 rintro _ _ ⟨g3166, rfl, rfl⟩
 refine Do rfl (uA [sn] zero33 rfl) ?_
 rintro _ _ ⟨g3167, rfl, rfl⟩
 refine Te<|Cr<|Do rfl (uA [.nilFunc] zero54 rfl) ?_
 rintro _ _ ⟨g3168, rfl, rfl⟩
 refine Te<|Cr<|Ts rfl (st_func _ _ rfl rfl)<|Do rfl (uS 0 rfl rfl siz54 rfl rfl (by simp)) ?_
 rintro _ _ rfl
 refine Te<|Cr<|Ts rfl (sL 0 rfl one54 rfl rfl) ?_
 obtain ⟨⟨l3169, l3170, l3171, l3172⟩, hcl3173, hm⟩ := bS hm
 obtain ⟨Nhcl3173, hcl3173⟩ := lim_some hcl3173
 have hm := (unc4E hm)
 refine t_pullb 5 rfl<|t_pullb 5 rfl<|t_pullb 6 rfl<|t_pullb 9 rfl<|t_pullb 8 rfl<|t_pullb 9 rfl<|t_pullb 8 rfl<|t_pullb 8 rfl<|t_pullb 9 rfl<|t_front3 [_, _, _, _, _, _, _, _, _, _] hs3164 q a (f ++ R) rfl ?_
 refine t_front4 [_, _, _, _, _, _, _, _, _, _] a hs3164 q f R rfl<|t_front3 [_, _, _, _, _, _, _, _, _, _] f a hs3164 (q ++ R) rfl<|t_front4 [_, _, _, _, _, _, _, _, _, _] hs3164 f a q R rfl<|t_out4 [_, _, _, _, _, _, _, _, _, _] [] q hs3164 f a R rfl<|Tv #[] #[pb g3159, pb g3167, pb g3166, pb g1799, pb g1796, pb g1803, pb G, pb E, pb F, pb g3168] [iv 0] rfl rfl call26 rfl (cFleetStandIns_1 Nhcl3173 _ _ b0 hle3163 0 K c.Change c.Long c.Work c.After c.Break c.Rest c.Row [] [] [] l3152 V l2712 l1752 g3159 g3167 g3166 g1799 g1796 g1803 G E F g3168 T U none 0 [] none 0 [] none 0 [] W X q s z hs3164 g1800 f g1675 a (h3.le (L.trans (Y.trans (hle3155.trans (hle3160.trans hle3163))))) OS.nil ⟨fun _ => rfl, fun _ => rfl⟩ OS.nil ⟨fun _ => rfl, fun _ => rfl⟩ OS.nil ⟨fun _ => rfl, fun _ => rfl⟩ (h3157.le (hle3160.trans hle3163)) h3165 hnz2710 (h2707.le (hle3155.trans (hle3160.trans hle3163))) (h1751.le (Y.trans (hle3155.trans (hle3160.trans hle3163)))) l3169 l3170 l3171 l3172 hcl3173) ?_
 rintro _ b3174 _ hle3175 ⟨A3176, c3177, hs3178, hs3179, A3180, c3181, hs3182, A3183, c3184, p, rfl, rfl, h3186, h3187, h3188, h3189, h3190, h3191, h3192⟩
 refine t_in7 [_, _, _, _, _, _, _, _, _, _] [] hs3178 q hs3179 f a hs3182 p R rfl<|t_hresp 4 rfl (o' := Cl 27 [sv s l3170 z]) (by simp only [sv, h3188])<|Te<|Cs<|Cs<|c_front6 [_, _, _, _, _, _, _, _, _, _] hs3178 q hs3179 f a hs3182 (p ++ R) rfl ?_
 obtain ⟨_, h3193, hm⟩ := bS hm
 refine c_unfrz [_, _, _, _, _, _, _, _, _, _] hs3182 (hs3178 ++ (q ++ (hs3179 ++ (f ++ (a ++ (p ++ R)))))) (by decide) Go.Fp.int_flat Go.Fp.int_inj rfl h3190 (hle3163.trans hle3175) (apart?_some h3193) ?_
 intro b3194 hle3195 hs3196 h3197
 have h3198 := flat_fz (w' := b3194.w) (fun _ _ _ _ h => h) h3186
 have h3199 := flat_fz (w' := b3194.w) (fun _ _ _ _ h => h) h3192
 refine Cg<|Ts rfl (sL 0 rfl one27 rfl rfl)<|Ts rfl (sE rfl sl27)<|M rfl rfl<|Te<|Cb ?_
 have hb3201 : l3171.length ≤ 9223372036854775807 := (OS.len h3197)
 refine Cp 2 rfl<|Cp 1 rfl<|c_front7 [_, _, _, _, _, _, _, _, _, _] hs3196 hs3178 q hs3179 f a p R rfl<|c_front2 [_, _, _, _, _, _, _, _, _, _] p hs3196 (hs3178 ++ (q ++ (hs3179 ++ (f ++ (a ++ R))))) rfl ?_
 obtain ⟨I, hl3277, hk3278⟩ := bS hm
 refine cS (fun k3276 => fun I => fun b3267 e' hp' => ∃ (D : OA), ∃ (J : Nat), ∃ (hs3270 : Hp), [(23, pb g3159), (24, pb g3166), (116, sv D I J), (117, iv ((l3171.length : Int))), (118, iv ((k3276 : Int)))] = e' ∧ (g3159, Cl 27 [sv D I J]) :: (g3166, Cl 33 [sv A3183 l3172 c3184]) :: (hs3270 ++ (p ++ R)) = hp' ∧ b3194.Le b3267 ∧ OS 33 (OT.list 3 (OT.fr rI)) b3267.w (sv D I J) I hs3270 ∧ (D = none ↔ I = [])) hl3277 ⟨A3180, c3181, hs3196, rfl, rfl, lr, h3197, h3191⟩ (.cons_cons _ (.cons_cons _ (.cons _ (.cons _ (.cons _ (.cons _ (.cons _ (.cons _ (.cons _ (.cons _ (sp hs3196 (sp p (ss hs3178 (ss q (ss hs3179 (ss f (ss a (.refl _)))))))))))))))))) ?_ ?_
 rintro k3276 I b3267 _ _ oL3200 hknL3200 ⟨D, J, hs3270, rfl, rfl, hle3268, h3273, hnz3275⟩ hstepL3200
 unfold mFleetStandIns_L3200 at hstepL3200
 have hm := hstepL3200
 refine Cr<|Ts rfl (lT rfl rfl (by omega))<|Te<|Cs<|c_cond_t rfl<|Ck<|Xn<|Cs<|Cb<|Cr ?_
 obtain ⟨x3279, h3280, hm⟩ := bS hm
 obtain ⟨j3281, hj3282, hx3283⟩ := iS h3280
 obtain ⟨cs3284, hs3289, aa, ab, hq3292, hr3285, hcs3286, hA3287, hlt3288, hb3293, hho3294⟩ := OS.get (sz := 1) rfl (by decide) h3273 hx3283
 obtain ⟨v3295, rfl, h3296⟩ := hr3285
 obtain ⟨A3297, c3298, rfl, _⟩ := h3296.form
 refine Ts rfl (sI j3281 rfl rfl hj3282 hlt3288 hA3287 sl27)<|Ts rfl (st_load_rd rfl one33 (fun w ho => hcs3286 w _ ho (.cons _ (.cons _ (List.sublist_append_left _ _))) 0 _ rfl))<|As rfl rfl<|Te<|Cg<|M rfl rfl<|t_takeIn [_, _] aa hs3289 ab (p ++ R) hq3292 rfl ?_
 obtain ⟨l3300, hcl3301, hm⟩ := bS hm
 refine t_out1 [] [_, _] hs3289 ((aa ++ ab) ++ (p ++ R)) rfl<|Tg _ rfl call25 rfl (cSlicesSort _ _ x3279 A3297 c3298 hs3289 h3296 l3300 hcl3301) ?_
 rintro _ b3302 _ hle3303 ⟨hs3304, rfl, rfl, h3305, h3306⟩
 refine t_in1 [] [_, _] hs3304 ((aa ++ ab) ++ (p ++ R)) rfl<|t_front2 [_, _] hs3304 (aa ++ ab) (p ++ R) rfl<|t_putIn [_, _] aa hs3304 ab (p ++ R) rfl ?_
 have h3307 := OS.putback hj3282 hb3293 hle3303 (h3306.trans rfl) rfl h3305
 refine Tr 116 rfl (v' := .slice D (put I (k3276 : Int) l3300).length J) (by simp only [put_length])<|t_hresp 0 rfl (o' := Cl 27 [.slice D (put I (k3276 : Int) l3300).length J]) (by simp only [put_length])<|Tn<|Xm<|Xn<|Cg<|Ts rfl (sa rfl rfl (by omega))<|M rfl rfl<|Tn<|Xp 1 rfl ?_
 refine Xp 1 rfl<|X2 [_, _] (aa ++ (hs3304 ++ ab)) p R rfl<|X2 [_, _] p (aa ++ (hs3304 ++ ab)) R rfl ?_
 obtain rfl := o1 hm
 exact xS ⟨D, J, (aa ++ (hs3304 ++ ab)), rfl, rfl, ((hle3268.trans hle3303)), h3307, (put_nz hnz3275)⟩ (.refl _)
 rintro b3267 _ _ ⟨D, J, hs3270, rfl, rfl, hle3268, h3273, hnz3275⟩
 have hm := hk3278
 refine Cr<|Ts rfl (lF rfl rfl (by omega))<|Te<|Cs<|c_cond_f rfl<|Ce<|Xe<|Xe<|Xo<|Xn ?_
 refine Cs<|Di mixed (.refl _)<|Es 0 rfl (sL 0 rfl one27 rfl rfl)<|Es 1 rfl (sL 1 rfl one33 rfl rfl)<|E0 2 rfl (sA rfl)<|E0 3 rfl (sA rfl)<|E0 4 rfl (sA rfl)<|Eo<|Dd (by kernel_rfl)<|Xn ?_
 refine Ct ?_
 obtain ⟨rfl, rfl, rfl⟩ := some3 hm
 refine X2 [_, _] hs3270 p R rfl<|X2 [_, _] p hs3270 R rfl ?_
 have he3308 := (h3199.le hle3268)
 exact rM (rs := [.tmp 8, .tmp 9, .tmp 10]) (vs := [sv D I J, sv A3183 l3172 c3184, iv 0]) ⟨rfl, ⟨rfl, ⟨rfl, trivial⟩⟩⟩ ⟨D, J, hs3270, A3183, c3184, p, rfl, rfl, h3273, hnz3275, he3308⟩ (.cons _ (.cons _ (.refl _))) (L.trans (Y.trans (hle3155.trans (hle3160.trans (hle3195.trans hle3268)))))

set_option maxRecDepth 20000 in
theorem cSlicesIndex (b : Base) (R : Hp) (c : (List FleetAbsence)) (a : FleetAbsence) (g : OA) (h : Nat) (m : FZ rFleetAbsence b.w g h c) (n : Int) (hm : mSlicesIndex c a = some n) :
    CallsG Try.prog 27 [sv g c h, .agg #[iv a.Driver, iv a.Day]] b (R) (fun v b' hp' => iv n = v ∧ R = hp') := by
 refine fE 19 Try.func27 rfl Try.ntmps27 rfl ?_
 unfold mSlicesIndex at hm
 refine Cr<|Do rfl (uB _ rfl rfl) ?_
 rintro _ _ ⟨o, rfl, rfl⟩
 refine As rfl rfl<|Te<|Cs<|Cr<|M rfl rfl<|Ts rfl (sE rfl sl25)<|M rfl rfl<|Te<|Cb ?_
 have F : c.length ≤ 9223372036854775807 := (FZ.bd m)
 obtain ⟨G, s, f⟩ := bS hm
 refine cF (fun i => fun _ => fun k e' hp' => [(0, sv g c h), (3, pb o), (7, iv ((c.length : Int))), (8, iv ((i : Int)))] = e' ∧ (o, Cl 41 [iv a.Driver, iv a.Day]) :: R = hp' ∧ b.Le k) s ⟨rfl, rfl, lr⟩ (.refl _) ?_ ?_
 rintro i _ k _ _ H I ⟨rfl, rfl, e⟩ q t
 unfold mSlicesIndex_L61 at q
 have hm := q
 refine Cr<|Ts rfl (lT rfl rfl (by omega))<|Te<|Cs<|c_cond_t rfl<|Ck<|Xn<|Cs<|Cb<|Cr ?_
 refine M rfl rfl<|As rfl rfl<|Te<|Cs ?_
 obtain ⟨d, w, hm⟩ := bS hm
 refine Di mixed (.refl _)<|Es 0 rfl (sD (vs := [_, _]) 0 2 rfl agg41 rfl rfl rfl)<|E0 1 rfl (sM rfl)<|E0 2 rfl (sM rfl) ?_
 obtain ⟨x, y, z⟩ := iS w
 obtain ⟨J, A, B, r, C⟩ := FZ.get (sz := 2) rfl (by decide) (m.le e) z
 obtain ⟨_, _, rfl, rfl, rfl⟩ := A
 refine E0 3 rfl (sI x rfl rfl y C r sl25)<|Es 4 rfl (sP (vs := [iv d.Driver, iv d.Day]) 2 rfl agg41 r rfl (fun j u hu => B j u hu))<|E0 5 rfl (st_eqlA (xs := [iv a.Driver, iv a.Day]) (ys := [iv d.Driver, iv d.Day]) (p := a.Driver = d.Driver ∧ a.Day = d.Day) rfl rfl eqt41 ⟨⟨_, rfl⟩, ⟨⟨_, rfl⟩, trivial⟩⟩ ⟨⟨_, rfl⟩, ⟨⟨_, rfl⟩, trivial⟩⟩ (by simp [eqCells, eqCell, Bool.decide_and, beq_dec]))<|Eo<|Dd (by kernel_rfl)<|Xn ?_
 refine Cc _ rfl (fun l => ?_) (fun l => ?_)
 rw [if_pos (of_decide_eq_true l)] at hm
 refine Cr<|M rfl rfl<|As rfl rfl<|Te<|Ct<|Xb<|Xr<|Xr<|Xb<|Xr ?_
 have D := t _ (Option.some.inj hm).symm
 rw [D] at f
 have hm := elimR f
 obtain rfl := o1 hm
 exact rM (rs := [.tmp 4]) (vs := [iv ((i : Int))]) ⟨rfl, trivial⟩ ⟨rfl, rfl⟩ (.cons _ (.refl _)) e
 rw [if_neg (of_decide_eq_false l)] at hm
 refine Ck<|Xm<|Xn<|Cg<|Ts rfl (sa rfl rfl (by omega))<|M rfl rfl<|Tn ?_
 exact xM hm ⟨rfl, rfl, (e)⟩ (.refl _)
 rintro _ k _ _ ⟨rfl, rfl, e⟩ E
 rw [E] at f
 have hm := elimL f
 refine Cr<|Ts rfl (lF rfl rfl (by omega))<|Te<|Cs<|c_cond_f rfl<|Ce<|Xe<|Xe<|Xo<|Xn ?_
 refine Cr<|As rfl rfl<|Te<|Ct ?_
 obtain rfl := o1 hm
 exact rM (rs := [.tmp 4]) (vs := [iv ((-1))]) ⟨rfl, trivial⟩ ⟨rfl, rfl⟩ (.cons _ (.refl _)) e

set_option maxRecDepth 20000 in
theorem cSlicesContains (b : Base) (R : Hp) (a : (List FleetAbsence)) (c : FleetAbsence) (d : OA) (e : Nat) (i : FZ rFleetAbsence b.w d e a) (f : Bool) (hm : mSlicesContains a c = some f) :
    CallsG Try.prog 11 [sv d a e, .agg #[iv c.Driver, iv c.Day]] b (R) (fun v b' hp' => bv f = v ∧ R = hp') := by
 refine fE 9 Try.func11 rfl Try.ntmps11 rfl ?_
 unfold mSlicesContains at hm
 refine Cr<|Do rfl (uB _ rfl rfl) ?_
 rintro _ _ ⟨k, rfl, rfl⟩
 refine As rfl rfl<|Te<|Cr<|M rfl rfl<|Ts rfl (sD (vs := [_, _]) 0 2 rfl agg41 rfl rfl rfl) ?_
 obtain ⟨g, j, hm⟩ := bS hm
 refine Do rfl (uW _ call27 rfl (fun w ho => cSlicesIndex _ [] a c d e (i.old ho) g j) (fun _ _ _ h => h.2.symm)) ?_
 rintro _ _ ⟨⟨_, rfl, _⟩, rfl⟩
 refine Ts rfl (q6 rfl rfl)<|As rfl rfl<|Te<|Ct ?_
 obtain rfl := o1 hm
 exact rM (rs := [.tmp 4]) (vs := [.bool (decide (0 ≤ g))]) ⟨rfl, trivial⟩ ⟨rfl, rfl⟩ (.cons _ (.refl _)) lr

set_option maxRecDepth 20000 in
theorem cSlicesIndex_2 (b : Base) (R : Hp) (a : (List Int)) (e : Int) (f : OA) (g : Nat) (k : FZ rI b.w f g a) (l : Int) (hm : mSlicesIndex_2 a e = some l) :
    CallsG Try.prog 28 [sv f a g, iv e] b (R) (fun v b' hp' => iv l = v ∧ R = hp') := by
 refine fE 19 Try.func28 rfl Try.ntmps28 rfl ?_
 unfold mSlicesIndex_2 at hm
 refine Cr<|As rfl rfl<|Te<|Cs<|Cr<|M rfl rfl<|Ts rfl (sE rfl sl33)<|M rfl rfl<|Te<|Cb ?_
 have A : a.length ≤ 9223372036854775807 := (FZ.bd k)
 obtain ⟨B, n, d⟩ := bS hm
 refine cF (fun h => fun _ => fun i e' hp' => [(0, sv f a g), (1, iv e), (7, iv ((a.length : Int))), (8, iv ((h : Int)))] = e' ∧ R = hp' ∧ b.Le i) n ⟨rfl, rfl, lr⟩ (.refl _) ?_ ?_
 rintro h _ i _ _ C D ⟨rfl, rfl, c⟩ m o
 unfold mSlicesIndex_2_L39 at m
 have hm := m
 refine Cr<|Ts rfl (lT rfl rfl (by omega))<|Te<|Cs<|c_cond_t rfl<|Ck<|Xn<|Cs<|Cb<|Cr ?_
 refine M rfl rfl<|As rfl rfl<|Te<|Cr<|M rfl rfl<|M rfl rfl<|M rfl rfl ?_
 obtain ⟨E, p, hm⟩ := bS hm
 obtain ⟨q, r, s⟩ := iS p
 obtain ⟨F, t, u, w, x⟩ := FZ.get (sz := 1) rfl (by decide) (k.le c) s
 obtain rfl := t
 refine Ts rfl (sI q rfl rfl r x w sl33)<|Ts rfl (sO rfl one3 (u 0 _ rfl))<|Ts rfl (q1 rfl rfl)<|Te ?_
 refine Cc _ rfl (fun j => ?_) (fun j => ?_)
 rw [if_pos (of_decide_eq_true j)] at hm
 refine Cr<|M rfl rfl<|As rfl rfl<|Te<|Ct<|Xb<|Xr<|Xr<|Xb<|Xr ?_
 have y := o _ (Option.some.inj hm).symm
 rw [y] at d
 have hm := elimR d
 obtain rfl := o1 hm
 exact rM (rs := [.tmp 4]) (vs := [iv ((h : Int))]) ⟨rfl, trivial⟩ ⟨rfl, rfl⟩ (.refl _) c
 rw [if_neg (of_decide_eq_false j)] at hm
 refine Ck<|Xm<|Xn<|Cg<|Ts rfl (sa rfl rfl (by omega))<|M rfl rfl<|Tn ?_
 exact xM hm ⟨rfl, rfl, (c)⟩ (.refl _)
 rintro _ i _ _ ⟨rfl, rfl, c⟩ z
 rw [z] at d
 have hm := elimL d
 refine Cr<|Ts rfl (lF rfl rfl (by omega))<|Te<|Cs<|c_cond_f rfl<|Ce<|Xe<|Xe<|Xo<|Xn ?_
 refine Cr<|As rfl rfl<|Te<|Ct ?_
 obtain rfl := o1 hm
 exact rM (rs := [.tmp 4]) (vs := [iv ((-1))]) ⟨rfl, trivial⟩ ⟨rfl, rfl⟩ (.refl _) c

set_option maxRecDepth 20000 in
theorem cSlicesContains_2 (b : Base) (R : Hp) (a : (List Int)) (c : Int) (d : OA) (e : Nat) (i : FZ rI b.w d e a) (f : Bool) (hm : mSlicesContains_2 a c = some f) :
    CallsG Try.prog 12 [sv d a e, iv c] b (R) (fun v b' hp' => bv f = v ∧ R = hp') := by
 refine fE 9 Try.func12 rfl Try.ntmps12 rfl ?_
 unfold mSlicesContains_2 at hm
 refine Cr<|As rfl rfl<|Te<|Cr<|M rfl rfl<|M rfl rfl ?_
 obtain ⟨g, j, hm⟩ := bS hm
 refine Do rfl (uW _ call28 rfl (fun w ho => cSlicesIndex_2 _ [] a c d e (i.old ho) g j) (fun _ _ _ h => h.2.symm)) ?_
 rintro _ _ ⟨⟨_, rfl, _⟩, rfl⟩
 refine Ts rfl (q6 rfl rfl)<|As rfl rfl<|Te<|Ct ?_
 obtain rfl := o1 hm
 exact rM (rs := [.tmp 4]) (vs := [.bool (decide (0 ≤ g))]) ⟨rfl, trivial⟩ ⟨rfl, rfl⟩ (.refl _) lr

set_option maxRecDepth 20000 in
theorem cFishkeep2FleetFair (b : Base) (R : Hp) (d : (List FleetShift)) (q : Int) (a : FleetLimits) (n : (List FleetAbsence)) (i : OA) (j : Nat) (r : OA) (s : Nat) (E : FZ rFleetShift b.w i j d) (h9 : FZ rFleetAbsence b.w r s n) (x712 : Bool) (hm : mFishkeep2FleetFair d q a n = some x712) :
    CallsG Try.prog 3 [sv i d j, iv q, .agg #[iv a.Change, iv a.Long, iv a.Work, iv a.After, iv a.Break, iv a.Rest, iv a.Row], sv r n s] b (R) (fun v b' hp' => bv x712 = v ∧ R = hp') := by
 refine fE 182 Try.func3 rfl Try.ntmps3 rfl ?_
 unfold mFishkeep2FleetFair at hm
 refine Cr<|Do rfl (uB _ rfl rfl) ?_
 rintro _ _ ⟨y, rfl, rfl⟩
 refine As rfl rfl<|Te<|Cs<|Cr ?_
 obtain ⟨x714, hcl715, hm⟩ := bS hm
 refine Do rfl (uW _ call4 rfl (fun w ho => cFishkeep2AwakeFleet _ [] x714 hcl715) (fun _ _ _ h => h.2.symm)) ?_
 rintro _ _ ⟨⟨_, rfl, _⟩, rfl⟩
 refine Ts rfl (sn2 rfl)<|Te ?_
 refine Cc _ rfl (fun ae => ?_) (fun ae => ?_)
 rw [if_neg (fun hh => Bool.noConfusion (hh.symm.trans (nt ae)))] at hm
 refine Cr<|As rfl rfl<|Te<|Ct<|Xr ?_
 obtain rfl := o1 hm
 exact rM (rs := [.tmp 8]) (vs := [bv false]) ⟨rfl, trivial⟩ ⟨rfl, rfl⟩ (.cons _ (.refl _)) lr
 rw [if_pos (nf ae)] at hm
 refine Ck<|Xn<|Cs<|Cr ?_
 obtain ⟨x717, hcl718, hm⟩ := bS hm
 refine Do rfl (uW _ call5 rfl (fun w ho => cFishkeep2Sets _ [] x717 hcl718) (fun _ _ _ h => h.2.symm)) ?_
 rintro _ _ ⟨⟨_, rfl, _⟩, rfl⟩
 refine Ts rfl (sn2 rfl)<|Te ?_
 refine Cc _ rfl (fun af => ?_) (fun af => ?_)
 rw [if_neg (fun hh => Bool.noConfusion (hh.symm.trans (nt af)))] at hm
 refine Cr<|As rfl rfl<|Te<|Ct<|Xr ?_
 obtain rfl := o1 hm
 exact rM (rs := [.tmp 8]) (vs := [bv false]) ⟨rfl, trivial⟩ ⟨rfl, rfl⟩ (.cons _ (.refl _)) lr
 rw [if_pos (nf af)] at hm
 refine Ck<|Xn<|Cr<|M rfl rfl<|M rfl rfl<|Ts rfl (sD (vs := [_, _, _, _, _, _, _]) 0 7 rfl agg24 rfl rfl rfl) ?_
 obtain ⟨⟨x720, p⟩, hcl722, hm⟩ := bS hm
 have hm := (unc2E hm)
 refine Tg _ rfl call6 rfl (cFleetRoster _ _ d q a i j E x720 p hcl722) ?_
 rintro _ b723 _ e ⟨F, G, c, rfl, rfl, ag⟩
 refine t_in1 [] [_] c R rfl<|M rfl rfl<|Ts rfl (st_extract rfl rfl)<|Ts rfl (st_extract rfl rfl)<|As rfl rfl<|As rfl rfl<|Te<|Cs<|Cr<|M rfl rfl ?_
 refine Ts rfl (q2 rfl rfl)<|Te ?_
 refine Cc _ rfl (fun ah => ?_) (fun ah => ?_)
 rw [if_pos (of_decide_eq_true ah)] at hm
 refine Cr<|M rfl rfl<|Ts rfl (sE rfl sl27)<|Ts rfl (q1 rfl rfl)<|As rfl rfl<|Te<|Ct<|Xr ?_
 obtain rfl := o1 hm
 exact rM (rs := [.tmp 8]) (vs := [.bool (decide ((p.length : Int) = 0))]) ⟨rfl, trivial⟩ ⟨rfl, rfl⟩ (.cons _ (ss c (.refl _))) e
 rw [if_neg (of_decide_eq_false ah)] at hm
 refine Ck<|Xn<|Cs<|Cr<|M rfl rfl<|M rfl rfl<|Ts rfl (sD (vs := [_, _, _, _, _, _, _]) 0 7 rfl agg24 rfl rfl rfl) ?_
 obtain ⟨⟨x730, x731⟩, hcl732, hm⟩ := bS hm
 have hm := (unc2E hm)
 refine Do rfl (uW _ call7 rfl (fun w ho => cFleetJudgeRoster _ [] d p a i j F G ((E.le e).old ho) (OS.now (o := (OT.fr (RT.list rI))) (l := p) (hs := c) ag ho (.cons _ (List.sublist_append_left _ _))) x730 x731 hcl732) (fun _ _ _ h => h.2.symm)) ?_
 rintro _ _ ⟨⟨_, rfl, _⟩, rfl⟩
 refine M rfl rfl<|Ts rfl (st_extract rfl rfl)<|Ts rfl (st_extract rfl rfl)<|As rfl rfl<|As rfl rfl<|Te ?_
 obtain ⟨x737, hj738, hk738⟩ := bS hm
 refine Cj (fun W e' hp' => [(0, sv i d j), (1, iv q), (3, sv r n s), (6, pb y), (9, sv F p G), (59, bv x737)] = e' ∧ (y, Cl 24 [iv a.Change, iv a.Long, iv a.Work, iv a.After, iv a.Break, iv a.Rest, iv a.Row]) :: (c ++ R) = hp' ∧ b723.Le W) ?_ ?_
 have hm := hj738
 refine Cg<|M rfl rfl ?_
 refine Tb rfl (q2 rfl rfl) (fun ai => ?_) (fun ai => ?_)
 rw [if_pos ai] at hm
 refine M rfl rfl<|No 50 rfl rfl rfl rfl rfl<|No 50 rfl rfl rfl rfl rfl<|Ts rfl (pT rfl rfl)<|M rfl rfl<|No 54 rfl rfl rfl rfl rfl<|No 54 rfl rfl rfl rfl rfl<|No 54 rfl rfl rfl rfl rfl<|No 54 rfl rfl rfl rfl rfl<|Ts rfl (pT rfl rfl) ?_
 refine Tn ?_
 obtain rfl := o1 hm
 exact xJ ⟨rfl, rfl, lr⟩ (.refl _)
 rw [if_neg ai] at hm
 refine M rfl rfl<|Ys 50 rfl rfl rfl<|M rfl rfl<|Ys 50 rfl rfl rfl ?_
 refine Tb rfl (q2 rfl rfl) (fun aj => ?_) (fun aj => ?_)
 rw [if_pos aj] at hm
 refine Ts rfl (pF rfl rfl)<|M rfl rfl<|No 54 rfl rfl rfl rfl rfl<|No 54 rfl rfl rfl rfl rfl<|No 54 rfl rfl rfl rfl rfl<|No 54 rfl rfl rfl rfl rfl<|Ts rfl (pT rfl rfl)<|Tn ?_
 obtain rfl := o1 hm
 exact xJ ⟨rfl, rfl, lr⟩ (.refl _)
 rw [if_neg aj] at hm
 refine Ts rfl (pF rfl rfl)<|M rfl rfl<|Ys 54 rfl rfl rfl<|M rfl rfl<|Ys 54 rfl rfl rfl<|Ts rfl (sE rfl sl27)<|Ys 54 rfl rfl rfl<|M rfl rfl<|Ys 54 rfl rfl rfl<|Ts rfl (q2 rfl rfl) ?_
 refine Ts rfl (pF rfl rfl)<|Tn ?_
 obtain rfl := o1 hm
 exact xJ ⟨rfl, rfl, lr⟩ (.refl _)
 rintro W _ _ ⟨rfl, rfl, f⟩
 have hm := hk738
 refine Cc _ rfl (fun ak => ?_) (fun ak => ?_)
 rw [if_pos ak] at hm
 refine Cr<|As rfl rfl<|Te<|Ct<|Xr ?_
 obtain rfl := o1 hm
 exact rM (rs := [.tmp 8]) (vs := [bv false]) ⟨rfl, trivial⟩ ⟨rfl, rfl⟩ (.cons _ (ss c (.refl _))) (e.trans f)
 rw [if_neg (fun hh => Bool.noConfusion (hh.symm.trans ak))] at hm
 refine Ck<|Xn<|Cr<|M rfl rfl<|M rfl rfl ?_
 obtain ⟨⟨x742, X⟩, hcl744, hm⟩ := bS hm
 have hm := (unc2E hm)
 refine Do rfl (u_callWF [_] (c ++ R) _ rfl call8 rfl (fun w ho => cFleetLoads _ [] d p i j F G ((E.le (e.trans f)).old ho) (OS.now (o := (OT.fr (RT.list rI))) (l := p) (hs := c) (ag.le f) ho (.cons _ (List.sublist_append_left _ _))) x742 X hcl744)) ?_
 rintro _ _ ⟨_, _, rfl, A745, c746, g, rfl, hq750, h748⟩
 obtain rfl := List.append_cancel_right hq750
 have h749 := flat_fz (w' := W.w) (fun _ _ _ _ h => h) h748
 refine M rfl rfl<|Ts rfl (st_extract rfl rfl)<|Ts rfl (st_extract rfl rfl)<|As rfl rfl<|As rfl rfl<|Te<|Cs ?_
 obtain ⟨x755, hj756, hk756⟩ := bS hm
 refine Cj (fun al e' hp' => [(0, sv i d j), (1, iv q), (3, sv r n s), (6, pb y), (9, sv F p G), (13, sv A745 X c746), (77, bv x755)] = e' ∧ (y, Cl 24 [iv a.Change, iv a.Long, iv a.Work, iv a.After, iv a.Break, iv a.Rest, iv a.Row]) :: (c ++ (g ++ R)) = hp' ∧ W.Le al) ?_ ?_
 have hm := hj756
 refine Cg<|M rfl rfl ?_
 refine Tb rfl (q2 rfl rfl) (fun am => ?_) (fun am => ?_)
 rw [if_pos am] at hm
 refine M rfl rfl<|No 68 rfl rfl rfl rfl rfl<|No 68 rfl rfl rfl rfl rfl<|No 68 rfl rfl rfl rfl rfl<|No 68 rfl rfl rfl rfl rfl<|Ts rfl (pT rfl rfl)<|M rfl rfl<|No 74 rfl rfl rfl rfl rfl<|No 74 rfl rfl rfl rfl rfl<|Ts rfl (pT rfl rfl) ?_
 refine Tn ?_
 obtain rfl := o1 hm
 refine X2 [_] g c R rfl ?_
 exact xJ ⟨rfl, rfl, lr⟩ (.refl _)
 rw [if_neg am] at hm
 refine M rfl rfl<|Ys 68 rfl rfl rfl<|M rfl rfl<|Ys 68 rfl rfl rfl<|Ts rfl (sE rfl sl33)<|Ys 68 rfl rfl rfl<|M rfl rfl<|Ys 68 rfl rfl rfl ?_
 refine Tb rfl (q2 rfl rfl) (fun an => ?_) (fun an => ?_)
 rw [if_pos an] at hm
 refine Ts rfl (pF rfl rfl)<|M rfl rfl<|No 74 rfl rfl rfl rfl rfl<|No 74 rfl rfl rfl rfl rfl<|Ts rfl (pT rfl rfl)<|Tn ?_
 obtain rfl := o1 hm
 refine X2 [_] g c R rfl ?_
 exact xJ ⟨rfl, rfl, lr⟩ (.refl _)
 rw [if_neg an] at hm
 refine Ts rfl (pF rfl rfl)<|M rfl rfl<|Ys 74 rfl rfl rfl<|M rfl rfl<|Ys 74 rfl rfl rfl<|Ts rfl (q3 rfl rfl)<|Ts rfl (pF rfl rfl)<|Tn ?_
 obtain rfl := o1 hm
 refine X2 [_] g c R rfl ?_
 exact xJ ⟨rfl, rfl, lr⟩ (.refl _)
 rintro al _ _ ⟨rfl, rfl, k⟩
 have hm := hk756
 refine Cc _ rfl (fun ao => ?_) (fun ao => ?_)
 rw [if_pos ao] at hm
 refine Cr<|As rfl rfl<|Te<|Ct<|Xr ?_
 obtain rfl := o1 hm
 exact rM (rs := [.tmp 8]) (vs := [bv false]) ⟨rfl, trivial⟩ ⟨rfl, rfl⟩ (.cons _ (ss c (ss g (.refl _)))) (e.trans (f.trans k))
 rw [if_neg (fun hh => Bool.noConfusion (hh.symm.trans ao))] at hm
 refine Ck<|Xn ?_
 obtain ⟨t803, hj802, J⟩ := bS hm
 refine Cj (fun b800 e' hp' => [(0, sv i d j), (1, iv q), (3, sv r n s), (6, pb y), (9, sv F p G)] = e' ∧ (y, Cl 24 [iv a.Change, iv a.Long, iv a.Work, iv a.After, iv a.Break, iv a.Rest, iv a.Row]) :: (c ++ R) = hp' ∧ al.Le b800 ∧ t803 = .inl ()) ?_ ?_
 have hm := hj802
 refine Cr<|M rfl rfl<|Ts rfl (q3 rfl rfl)<|Te ?_
 refine Cc _ rfl (fun aq => ?_) (fun aq => ?_)
 rw [if_pos (of_decide_eq_true aq)] at hm
 refine Cr<|M rfl rfl<|M rfl rfl ?_
 obtain ⟨_, ar, hm⟩ := bS hm
 have ar := (kS ar).2
 refine Ts rfl (sa rfl rfl ar)<|Ts rfl (sD (vs := [_, _, _, _, _, _, _]) 0 7 rfl agg24 rfl rfl rfl) ?_
 obtain ⟨⟨x806, au⟩, hcl808, hm⟩ := bS hm
 have hm := (unc2E hm)
 refine Tg _ rfl call6 rfl (cFleetRoster _ _ d (q + 1) a i j (E.le (e.trans (f.trans k))) x806 au hcl808) ?_
 rintro _ b809 _ O ⟨A811, c812, t, rfl, rfl, h814⟩
 refine t_in1 [] [_] t (c ++ (g ++ R)) rfl<|M rfl rfl<|Ts rfl (st_extract rfl rfl)<|Ts rfl (st_extract rfl rfl)<|As rfl rfl<|As rfl rfl<|Te<|Cs<|Cr<|M rfl rfl ?_
 refine Ts rfl (q2 rfl rfl)<|Te ?_
 refine Cc _ rfl (fun av => ?_) (fun av => ?_)
 rw [if_pos (of_decide_eq_true av)] at hm
 refine Cr<|As rfl rfl<|Te<|Ct<|Xr<|Xr ?_
 have hq816 := (Option.some.inj hm).symm
 rw [hq816] at J
 have hm := elimR J
 obtain rfl := o1 hm
 exact rM (rs := [.tmp 8]) (vs := [bv false]) ⟨rfl, trivial⟩ ⟨rfl, rfl⟩ (.cons _ (ss t (ss c (ss g (.refl _))))) (e.trans (f.trans (k.trans O)))
 rw [if_neg (of_decide_eq_false av)] at hm
 refine Ck<|Xn<|Cr<|M rfl rfl<|M rfl rfl ?_
 obtain ⟨⟨x817, aw⟩, hcl819, hm⟩ := bS hm
 have hm := (unc2E hm)
 refine Do rfl (u_callWF [_] (t ++ (c ++ (g ++ R))) _ rfl call8 rfl (fun w ho => cFleetLoads _ [] d au i j A811 c812 ((E.le (e.trans (f.trans (k.trans O)))).old ho) (OS.now (o := (OT.fr (RT.list rI))) (l := au) (hs := t) h814 ho (.cons _ (List.sublist_append_left _ _))) x817 aw hcl819)) ?_
 rintro _ _ ⟨_, _, rfl, A820, c821, z, rfl, hq825, h823⟩
 obtain rfl := List.append_cancel_right hq825
 have h824 := flat_fz (w' := b809.w) (fun _ _ _ _ h => h) h823
 refine M rfl rfl<|Ts rfl (st_extract rfl rfl)<|Ts rfl (st_extract rfl rfl)<|As rfl rfl<|As rfl rfl<|Te ?_
 obtain ⟨x835, hj836, hk836⟩ := bS hm
 refine Cj (fun b833 e' hp' => [(0, sv i d j), (1, iv q), (3, sv r n s), (6, pb y), (9, sv F p G), (111, bv x835)] = e' ∧ (y, Cl 24 [iv a.Change, iv a.Long, iv a.Work, iv a.After, iv a.Break, iv a.Rest, iv a.Row]) :: (c ++ R) = hp' ∧ b809.Le b833) ?_ ?_
 have hm := hj836
 refine Cg<|M rfl rfl ?_
 refine Tb rfl (q2 rfl rfl) (fun ax => ?_) (fun ax => ?_)
 rw [if_pos ax] at hm
 refine M rfl rfl<|No 98 rfl rfl rfl rfl rfl<|No 98 rfl rfl rfl rfl rfl<|No 98 rfl rfl rfl rfl rfl<|No 98 rfl rfl rfl rfl rfl<|No 98 rfl rfl rfl rfl rfl<|Ts rfl (pT rfl rfl)<|M rfl rfl<|No 105 rfl rfl rfl rfl rfl<|No 105 rfl rfl rfl rfl rfl ?_
 refine No 105 rfl rfl rfl rfl rfl<|No 105 rfl rfl rfl rfl rfl<|No 105 rfl rfl rfl rfl rfl<|Ts rfl (pT rfl rfl)<|Tn ?_
 obtain rfl := o1 hm
 refine X3 [_] z t c (g ++ R) rfl ?_
 exact xJ ⟨rfl, rfl, lr⟩ (.cons_cons _ (sp c (ss z (ss t (ss g (.refl _))))))
 rw [if_neg ax] at hm
 refine M rfl rfl<|Ys 98 rfl rfl rfl<|M rfl rfl<|Ys 98 rfl rfl rfl<|Ts rfl (sE rfl sl33)<|Ys 98 rfl rfl rfl<|M rfl rfl<|Ys 98 rfl rfl rfl ?_
 obtain ⟨_, ay, hm⟩ := bS hm
 have ay := (kS ay).2
 refine Ts rfl (sa rfl rfl ay)<|Ys 98 rfl rfl rfl ?_
 refine Tb rfl (q2 rfl rfl) (fun az => ?_) (fun az => ?_)
 rw [if_pos az] at hm
 refine Ts rfl (pF rfl rfl)<|M rfl rfl<|No 105 rfl rfl rfl rfl rfl<|No 105 rfl rfl rfl rfl rfl<|No 105 rfl rfl rfl rfl rfl<|No 105 rfl rfl rfl rfl rfl<|No 105 rfl rfl rfl rfl rfl<|Ts rfl (pT rfl rfl)<|Tn ?_
 obtain rfl := o1 hm
 refine X3 [_] z t c (g ++ R) rfl ?_
 exact xJ ⟨rfl, rfl, lr⟩ (.cons_cons _ (sp c (ss z (ss t (ss g (.refl _))))))
 rw [if_neg az] at hm
 refine Ts rfl (pF rfl rfl)<|M rfl rfl<|Ys 105 rfl rfl rfl<|M rfl rfl<|Ys 105 rfl rfl rfl ?_
 obtain ⟨x840, hcl841, hm⟩ := bS hm
 refine Do rfl (uW _ call9 rfl (fun w ho => cSlicesMax _ [] aw A820 c821 (OS.now (o := (OT.fr rI)) (l := aw) (hs := z) h824 ho (.cons _ (List.sublist_append_left _ _))) x840 hcl841) (fun _ _ _ h => h.2.symm)) ?_
 rintro _ _ ⟨⟨_, rfl, _⟩, rfl⟩
 refine Ys 105 rfl rfl rfl<|M rfl rfl<|Ys 105 rfl rfl rfl ?_
 obtain ⟨x842, hcl843, hm⟩ := bS hm
 refine Do rfl (uW _ call9 rfl (fun w ho => cSlicesMax _ [] X A745 c746 (OS.now (o := (OT.fr rI)) (l := X) (hs := g) (h749.le (k.trans O)) ho (.cons _ (ss z (ss t (ss c (List.sublist_append_left _ _)))))) x842 hcl843) (fun _ _ _ h => h.2.symm)) ?_
 rintro _ _ ⟨⟨_, rfl, _⟩, rfl⟩
 refine Ys 105 rfl rfl rfl<|Ts rfl (q5 rfl rfl)<|Ts rfl (pF rfl rfl)<|Tn ?_
 obtain rfl := o1 hm
 refine X3 [_] z t c (g ++ R) rfl ?_
 exact xJ ⟨rfl, rfl, lr⟩ (.cons_cons _ (sp c (ss z (ss t (ss g (.refl _))))))
 rintro b833 _ _ ⟨rfl, rfl, hle834⟩
 have hm := hk836
 refine Cc _ rfl (fun aA => ?_) (fun aA => ?_)
 rw [if_pos aA] at hm
 refine Cr<|As rfl rfl<|Te<|Ct<|Xr ?_
 have hq845 := (Option.some.inj hm).symm
 rw [hq845] at J
 have hm := elimR J
 obtain rfl := o1 hm
 exact rM (rs := [.tmp 8]) (vs := [bv false]) ⟨rfl, trivial⟩ ⟨rfl, rfl⟩ (.cons _ (ss c (.refl _))) (e.trans (f.trans (k.trans (O.trans hle834))))
 rw [if_neg (fun hh => Bool.noConfusion (hh.symm.trans aA))] at hm
 refine Ck ?_
 have hq := (Option.some.inj hm).symm
 exact xJ ⟨rfl, rfl, (O.trans hle834), hq⟩ (.refl _)
 rw [if_neg (of_decide_eq_false aq)] at hm
 refine Ck ?_
 have hq := (Option.some.inj hm).symm
 exact xJ ⟨rfl, rfl, lr, hq⟩ (.cons_cons _ (sp c (ss g (.refl _))))
 rintro b800 _ _ ⟨rfl, rfl, A, hq846⟩
 rw [hq846] at J
 have hm := elimL J
 refine Cr<|M rfl rfl<|M rfl rfl<|Ts rfl (sD (vs := [_, _, _, _, _, _, _]) 0 7 rfl agg24 rfl rfl rfl)<|M rfl rfl<|t_frz [_] c R rfl ?_
 intro b847 B hz849
 have h850 := OS.frz (l := p) (ag.le (f.trans (k.trans A))) B.cells hz849
 obtain ⟨⟨x851, m, H⟩, hcl854, hm⟩ := bS hm
 have hm := (unc3E hm)
 refine Tg _ rfl call10 rfl (cFleetStandIns _ _ d p a n i j F G r s (E.le (e.trans (f.trans (k.trans (A.trans B))))) h850 (h9.le (e.trans (f.trans (k.trans (A.trans B))))) x851 m H hcl854) ?_
 rintro _ b855 _ S ⟨K, L, hs859, Y, Z, u, rfl, rfl, h863, h864, h865⟩
 refine t_in2 [] [_] hs859 u R rfl<|M rfl rfl<|Ts rfl (st_extract rfl rfl)<|Ts rfl (st_extract rfl rfl)<|Ts rfl (st_extract rfl rfl)<|t_frz [_] hs859 (u ++ R) rfl ?_
 intro b866 I hz868
 have h869 := OS.frz (l := m) h863 I.cells hz868
 refine As rfl rfl<|As rfl rfl<|As rfl rfl<|Te<|Cs<|Cr<|M rfl rfl<|Ts rfl (q2 rfl rfl)<|Te ?_
 refine Cc _ rfl (fun aB => ?_) (fun aB => ?_)
 rw [if_pos (of_decide_eq_true aB)] at hm
 refine Cr<|M rfl rfl<|Ts rfl (sE rfl sl27)<|M rfl rfl<|Ts rfl (sE rfl sl33) ?_
 obtain ⟨_, aC, hm⟩ := bS hm
 have aC := (kS aC).2
 refine Ts rfl (sa rfl rfl aC)<|Ts rfl (q1 rfl rfl)<|As rfl rfl<|Te<|Ct<|Xr ?_
 obtain rfl := o1 hm
 exact rM (rs := [.tmp 8]) (vs := [.bool (decide (((m.length : Int) + (H.length : Int)) = 0))]) ⟨rfl, trivial⟩ ⟨rfl, rfl⟩ (.cons _ (ss u (.refl _))) (e.trans (f.trans (k.trans (A.trans (B.trans (S.trans I))))))
 rw [if_neg (of_decide_eq_false aB)] at hm
 refine Ck<|Xn<|Cr<|M rfl rfl<|Ts rfl (sE rfl sl33)<|As rfl rfl<|Te<|Cs<|Cr<|M rfl rfl ?_
 refine Ts rfl (sE rfl sl27)<|M rfl rfl<|Te<|Cb ?_
 have hb873 : m.length ≤ 9223372036854775807 := (FZ.bd h869)
 obtain ⟨t1227, hl1228, aa⟩ := bS hm
 refine cF (fun x => fun aD => fun T e' hp' => [(0, sv i d j), (1, iv q), (3, sv r n s), (18, sv K m L), (19, sv Y H Z), (20, iv aD), (131, sv K m L), (132, iv ((m.length : Int))), (133, iv ((x : Int)))] = e' ∧ (u ++ R) = hp' ∧ b866.Le T) hl1228 ⟨rfl, rfl, lr⟩ (.cons _ (.refl _)) ?_ ?_
 rintro x aD T _ _ oL872 hknL872 ⟨rfl, rfl, C⟩ hstepL872 houtL872
 unfold mFishkeep2FleetFair_L872 at hstepL872
 have hm := hstepL872
 refine Cr<|Ts rfl (lT rfl rfl (by omega))<|Te<|Cs<|c_cond_t rfl<|Ck<|Xn<|Cs<|Cb<|Cr ?_
 refine M rfl rfl ?_
 obtain ⟨U, h1231, hm⟩ := bS hm
 obtain ⟨j1232, hj1233, hx1234⟩ := iS h1231
 obtain ⟨cs1235, hr1236, hcs1237, hA1238, hlt1239⟩ := FZ.get (sz := 1) rfl (by decide) (h869.le C) hx1234
 obtain ⟨A1240, c1241, rfl, h1242⟩ := hr1236
 refine Ts rfl (sI j1232 rfl rfl hj1233 hlt1239 hA1238 sl27)<|Ts rfl (sO rfl one33 (hcs1237 0 _ rfl))<|As rfl rfl<|As rfl rfl<|Te<|Cr<|M rfl rfl<|Ts rfl (sE rfl sl33)<|M rfl rfl<|Te ?_
 refine Cb ?_
 have hb1244 : U.length ≤ 9223372036854775807 := (FZ.bd h1242)
 obtain ⟨t1350, hl1351, ab⟩ := bS hm
 refine cF (fun aE => fun ac => fun ad e' hp' => [(0, sv i d j), (1, iv q), (3, sv r n s), (18, sv K m L), (19, sv Y H Z), (20, iv ac), (21, iv ((x : Int))), (131, sv K m L), (132, iv ((m.length : Int))), (133, iv ((x : Int))), (138, sv A1240 U c1241), (139, iv ((U.length : Int))), (140, iv ((aE : Int)))] = e' ∧ (u ++ R) = hp' ∧ T.Le ad) hl1351 ⟨rfl, rfl, lr⟩ (.refl _) ?_ ?_
 rintro aE ac ad _ _ oL1243 hknL1243 ⟨rfl, rfl, D⟩ hstepL1243 houtL1243
 unfold mFishkeep2FleetFair_L1243 at hstepL1243
 have hm := hstepL1243
 refine Cr<|Ts rfl (lT rfl rfl (by omega))<|Te<|Cs<|c_cond_t rfl<|Ck<|Xn<|Cs<|Cb<|Cr ?_
 obtain ⟨x1353, h1354, hm⟩ := bS hm
 obtain ⟨j1355, hj1356, hx1357⟩ := iS h1354
 obtain ⟨cs1358, hr1359, hcs1360, hA1361, hlt1362⟩ := FZ.get (sz := 1) rfl (by decide) (h1242.le D) hx1357
 obtain rfl := hr1359
 refine Ts rfl (sI j1355 rfl rfl hj1356 hlt1362 hA1361 sl33)<|Ts rfl (sO rfl one3 (hcs1360 0 _ rfl))<|As rfl rfl<|Te<|Cr<|M rfl rfl ?_
 obtain ⟨_, aF, hm⟩ := bS hm
 have aF := (kS aF).2
 refine Ts rfl (sa rfl rfl aF)<|As rfl rfl<|Te ?_
 obtain ⟨x1383, hj1384, hk1384⟩ := bS hm
 refine Cj (fun b1381 e' hp' => [(0, sv i d j), (1, iv q), (3, sv r n s), (18, sv K m L), (19, sv Y H Z), (20, iv (ac + 1)), (21, iv ((x : Int))), (131, sv K m L), (132, iv ((m.length : Int))), (133, iv ((x : Int))), (138, sv A1240 U c1241), (139, iv ((U.length : Int))), (140, iv ((aE : Int))), (169, bv x1383)] = e' ∧ (u ++ R) = hp' ∧ ad.Le b1381) ?_ ?_
 have hm := hj1384
 refine Cg<|M rfl rfl ?_
 refine Tb rfl (q3 rfl rfl) (fun aG => ?_) (fun aG => ?_)
 rw [if_pos aG] at hm
 refine M rfl rfl<|No 148 rfl rfl rfl rfl rfl<|No 148 rfl rfl rfl rfl rfl<|No 148 rfl rfl rfl rfl rfl<|No 148 rfl rfl rfl rfl rfl<|Ts rfl (pT rfl rfl)<|M rfl rfl<|No 154 rfl rfl rfl rfl rfl<|No 154 rfl rfl rfl rfl rfl<|No 154 rfl rfl rfl rfl rfl ?_
 refine No 154 rfl rfl rfl rfl rfl<|No 154 rfl rfl rfl rfl rfl<|No 154 rfl rfl rfl rfl rfl<|No 154 rfl rfl rfl rfl rfl<|No 154 rfl rfl rfl rfl rfl<|No 154 rfl rfl rfl rfl rfl<|Ts rfl (pT rfl rfl)<|M rfl rfl<|No 165 rfl rfl rfl rfl rfl<|No 165 rfl rfl rfl rfl rfl ?_
 refine No 165 rfl rfl rfl rfl rfl<|Ts rfl (pT rfl rfl)<|Tn ?_
 obtain rfl := o1 hm
 exact xJ ⟨rfl, rfl, lr⟩ (.refl _)
 rw [if_neg aG] at hm
 refine M rfl rfl<|Ys 148 rfl rfl rfl<|M rfl rfl<|Ys 148 rfl rfl rfl<|M rfl rfl<|Ys 148 rfl rfl rfl<|Ts rfl (sE rfl sl22)<|Ys 148 rfl rfl rfl ?_
 refine Tb rfl (q6 rfl rfl) (fun aH => ?_) (fun aH => ?_)
 rw [if_pos aH] at hm
 refine Ts rfl (pF rfl rfl)<|M rfl rfl<|No 154 rfl rfl rfl rfl rfl<|No 154 rfl rfl rfl rfl rfl<|No 154 rfl rfl rfl rfl rfl<|No 154 rfl rfl rfl rfl rfl<|No 154 rfl rfl rfl rfl rfl<|No 154 rfl rfl rfl rfl rfl<|No 154 rfl rfl rfl rfl rfl<|No 154 rfl rfl rfl rfl rfl ?_
 refine No 154 rfl rfl rfl rfl rfl<|Ts rfl (pT rfl rfl)<|M rfl rfl<|No 165 rfl rfl rfl rfl rfl<|No 165 rfl rfl rfl rfl rfl<|No 165 rfl rfl rfl rfl rfl<|Ts rfl (pT rfl rfl)<|Tn ?_
 obtain rfl := o1 hm
 exact xJ ⟨rfl, rfl, lr⟩ (.refl _)
 rw [if_neg aH] at hm
 refine Ts rfl (pF rfl rfl)<|M rfl rfl<|Ys 154 rfl rfl rfl<|M rfl rfl<|Ys 154 rfl rfl rfl<|M rfl rfl<|Ys 154 rfl rfl rfl<|M rfl rfl<|Ys 154 rfl rfl rfl<|M rfl rfl ?_
 refine Ys 154 rfl rfl rfl ?_
 obtain ⟨aI, h1388, hm⟩ := bS hm
 obtain ⟨j1389, hj1390, hx1391⟩ := iS h1388
 obtain ⟨cs1392, hr1393, hcs1394, hA1395, hlt1396⟩ := FZ.get (sz := 3) rfl (by decide) (E.le (e.trans (f.trans (k.trans (A.trans (B.trans (S.trans (I.trans (C.trans D))))))))) hx1391
 obtain ⟨_, _, rfl, rfl, ⟨_, _, rfl, rfl, rfl⟩⟩ := hr1393
 refine Ts rfl (sI j1389 rfl rfl hj1390 hlt1396 hA1395 sl22)<|Ys 154 rfl rfl rfl<|Ts rfl (sQ rfl hA1395 fld43_0)<|Ys 154 rfl rfl rfl<|Ts rfl (sO rfl one3 (hcs1394 0 _ rfl))<|Ys 154 rfl rfl rfl<|Ts rfl (sB (v := .agg #[iv ((x : Int)), iv aI.Day]) [(0, iv ((x : Int))), (1, iv aI.Day)] rfl (fun _ => by kernel_rfl))<|Ys 154 rfl rfl rfl ?_
 obtain ⟨x1397, hcl1398, hm⟩ := bS hm
 refine Do rfl (uW _ call11 rfl (fun w ho => cSlicesContains _ [] n (⟨(x : Int), aI.Day⟩ : FleetAbsence) r s ((h9.le (e.trans (f.trans (k.trans (A.trans (B.trans (S.trans (I.trans (C.trans D))))))))).old ho) x1397 hcl1398) (fun _ _ _ h => h.2.symm)) ?_
 rintro _ _ ⟨⟨_, rfl, _⟩, rfl⟩
 rcases Bool.eq_false_or_eq_true x1397 with V | V
 rw [if_pos V] at hm
 refine Tr 163 rfl (v' := .bool true) (by rw [V] <;> rfl)<|Ts rfl (pF rfl rfl)<|M rfl rfl<|No 165 rfl rfl rfl rfl rfl<|No 165 rfl rfl rfl rfl rfl<|No 165 rfl rfl rfl rfl rfl<|Ts rfl (pT rfl rfl)<|Tn ?_
 obtain rfl := o1 hm
 exact xJ ⟨rfl, rfl, lr⟩ (.refl _)
 rw [if_neg (fun hh => Bool.noConfusion (hh.symm.trans V))] at hm
 refine Tr 163 rfl (v' := .bool false) (by rw [V] <;> rfl)<|Ts rfl (pF rfl rfl)<|M rfl rfl<|Ys 165 rfl rfl rfl<|M rfl rfl<|Ys 165 rfl rfl rfl<|M rfl rfl<|Ys 165 rfl rfl rfl ?_
 obtain ⟨x1400, hcl1401, hm⟩ := bS hm
 refine Do rfl (uW _ call12 rfl (fun w ho => cSlicesContains_2 _ [] H x1353 Y Z (OS.now (o := (OT.fr rI)) (l := H) (hs := u) (h865.le (I.trans (C.trans D))) ho (List.sublist_append_left _ _)) x1400 hcl1401) (fun _ _ _ h => h.2.symm)) ?_
 rintro _ _ ⟨⟨_, rfl, _⟩, rfl⟩
 refine Ts rfl (pF rfl rfl)<|Tn ?_
 obtain rfl := o1 hm
 exact xJ ⟨rfl, rfl, lr⟩ (.refl _)
 rintro b1381 _ _ ⟨rfl, rfl, hle1382⟩
 have hm := hk1384
 refine Cc _ rfl (fun aJ => ?_) (fun aJ => ?_)
 rw [if_pos aJ] at hm
 refine Cr<|As rfl rfl<|Te<|Ct<|Xb<|Xr<|Xr<|Xb<|Xb<|Xr ?_
 refine Xr<|Xb<|Xr ?_
 have hq1403 := houtL1243 _ (Option.some.inj hm).symm
 rw [hq1403] at ab
 have hm := elimR ab
 have hq1404 := houtL872 _ (Option.some.inj hm).symm
 rw [hq1404] at aa
 have hm := elimR aa
 obtain rfl := o1 hm
 exact rM (rs := [.tmp 8]) (vs := [bv false]) ⟨rfl, trivial⟩ ⟨rfl, rfl⟩ (ss u (.refl _)) (e.trans (f.trans (k.trans (A.trans (B.trans (S.trans (I.trans (C.trans (D.trans hle1382)))))))))
 rw [if_neg (fun hh => Bool.noConfusion (hh.symm.trans aJ))] at hm
 refine Ck<|Xm<|Xn<|Cg<|Ts rfl (sa rfl rfl (by omega))<|M rfl rfl<|Tn ?_
 exact xM hm ⟨rfl, rfl, ((D.trans hle1382))⟩ (.refl _)
 rintro ac ad _ _ ⟨rfl, rfl, D⟩ hq1405
 rw [hq1405] at ab
 have hm := elimL ab
 refine Cr<|Ts rfl (lF rfl rfl (by omega))<|Te<|Cs<|c_cond_f rfl<|Ce<|Xe<|Xe<|Xo<|Xm ?_
 refine Xn<|Cg<|Ts rfl (sa rfl rfl (by omega))<|M rfl rfl<|Tn ?_
 exact xM hm ⟨rfl, rfl, ((C.trans D))⟩ (.refl _)
 rintro aD T _ _ ⟨rfl, rfl, C⟩ hq1406
 rw [hq1406] at aa
 have hm := elimL aa
 refine Cr<|Ts rfl (lF rfl rfl (by omega))<|Te<|Cs<|c_cond_f rfl<|Ce<|Xe<|Xe<|Xo<|Xn ?_
 obtain ⟨x1410, hj1411, hk1411⟩ := bS hm
 refine Cj (fun b1408 e' hp' => [(8, bv x1410)] = e' ∧ R = hp' ∧ T.Le b1408) ?_ ?_
 have hm := hj1411
 refine Cg<|M rfl rfl<|M rfl rfl<|Ts rfl (sE rfl sl22) ?_
 refine Tb rfl (q1 rfl rfl) (fun aK => ?_) (fun aK => ?_)
 rw [if_pos aK] at hm
 refine M rfl rfl<|Ys 176 rfl rfl rfl<|M rfl rfl<|Ys 176 rfl rfl rfl<|Ts rfl (sE rfl sl27)<|Ys 176 rfl rfl rfl<|M rfl rfl<|Ys 176 rfl rfl rfl<|Ts rfl (q1 rfl rfl)<|Ts rfl (pT rfl rfl) ?_
 refine As rfl rfl<|Tn ?_
 obtain rfl := o1 hm
 exact xJ ⟨rfl, rfl, lr⟩ (ss u (.refl _))
 rw [if_neg aK] at hm
 refine M rfl rfl<|No 176 rfl rfl rfl rfl rfl<|No 176 rfl rfl rfl rfl rfl<|No 176 rfl rfl rfl rfl rfl<|No 176 rfl rfl rfl rfl rfl<|Ts rfl (pF rfl rfl)<|As rfl rfl<|Tn ?_
 obtain rfl := o1 hm
 exact xJ ⟨rfl, rfl, lr⟩ (ss u (.refl _))
 rintro b1408 _ _ ⟨rfl, rfl, hle1409⟩
 have hm := hk1411
 refine Ct ?_
 obtain rfl := o1 hm
 exact rM (rs := [.tmp 8]) (vs := [bv x1410]) ⟨rfl, trivial⟩ ⟨rfl, rfl⟩ (.refl _) (e.trans (f.trans (k.trans (A.trans (B.trans (S.trans (I.trans (C.trans hle1409))))))))

end Go.Proofs.Ytbhomnclohcecaa
