/- Contracts: the code computes its model (part 3). -/
import Derived.Test.YtbhomnclohcecaaZP2
set_option linter.unusedVariables false
set_option linter.unusedSimpArgs false
namespace Go.Proofs.Ytbhomnclohcecaa
open Go.RowKit Go.Fp

open Go.Fp renaming t_mv → M, t_as → As, t_st → Ts, t_do → Do, t_ne → Te, t_nil → Tn, t_no → No, t_yes → Ys, t_callG → Tg, t_resp → Tr, c_sr → Cr, c_seq → Cs, c_region → Cg, c_cond → Cc, c_block → Cb, c_ret → Ct, c_skip → Ck, c_exit → Ce, c_join → Cj, x_then_normal → Xn, x_then_ret → Xr, x_then_exit → Xe, x_block_ret → Xb, x_block_normal → Xm, x_block_out → Xo, x_block_on → Xi, E_st → Es, E_s0 → E0, E_yes → Ey, E_y0 → Yz, E_no → En, E_in → Ei, E_il → El, E_out → Eo, D_all → Da, D_done → Dd, D_drawI → Di, R_do → Rd2, R_nil → Rn, st_load → sL, st_nil → sN, st_len → sE, st_move → sM, st_pick_t → pT, st_pick_f → pF, st_index_old → sI, st_add → sa, st_sub → sb, st_lss_t → lT, st_lss_f → lF, st_not → sn2, u_alloc → uA, u_store → uS, u_callW0 → uW, u_putOS → uP, fn_enterG → fE, bindS → bS, some1 → o1, idx_some → iS, chk_some → kS, notT → nt, notF → nf, mem_c → mc, mem_n → mn, st_eql → q1, st_lss → q3, st_leq → q4, st_gtr → q5, st_geq → q6
set_option maxRecDepth 20000 in
theorem cSlicesPartialInsertionSortOrdered (b : Base) (R : Hp) (i : Int) (d : Int) (e : (List Int)) (a : OA) (c : Nat) (Y : Hp) (h5 : OS 3 (OT.fr rI) b.w (sv a e c) e Y) (aW : Bool) (J : (List Int)) (hm : mSlicesPartialInsertionSortOrdered i d e = some (aW, J)) :
    CallsG Try.prog 47 [sv a e c, iv i, iv d] b ((Y ++ R)) (fun v b' hp' => ∃ (aX : Hp), bv aW = v ∧ (aX ++ R) = hp' ∧ OS 3 (OT.fr rI) b'.w (sv a J c) J aX ∧ J.length = e.length) := by
 refine fE 133 Try.func47 rfl Try.ntmps47 rfl ?_
 unfold mSlicesPartialInsertionSortOrdered at hm
 refine Cr<|As rfl rfl<|Te<|Cr<|M rfl rfl ?_
 obtain ⟨_, Z, hm⟩ := bS hm
 have Z := (kS Z).2
 refine Ts rfl (sa rfl rfl Z)<|As rfl rfl<|Te ?_
 obtain ⟨t57529, hj57528, r⟩ := bS hm
 refine Cj (fun aa e' hp' => ∃ (z : (List Int)), ∃ (K : Hp), [] = e' ∧ (K ++ R) = hp' ∧ b.Le aa ∧ OS 3 (OT.fr rI) aa.w (sv a z c) z K ∧ z.length = e.length ∧ t57529 = .inl z) ?_ ?_
 have hm := hj57528
 refine Cr<|As rfl rfl<|Te<|Cb<|cL (unc3 fun aY k f => fun s e' hp' => ∃ (m : Hp), [(0, sv a f c), (1, iv i), (2, iv d), (7, iv aY), (8, iv k)] = e' ∧ (m ++ R) = hp' ∧ b.Le s ∧ OS 3 (OT.fr rI) s.w (sv a f c) f m ∧ f.length = e.length) hm ⟨Y, rfl, rfl, lr, h5, rfl⟩ (.refl _) ?_
 rintro ⟨aY, k, f⟩ s _ _ oL57530 ⟨m, rfl, rfl, L, n, O⟩ aZ ab
 unfold mSlicesPartialInsertionSortOrdered_L57530 at aZ
 have hm := (unc3E aZ)
 refine Cs<|Cr<|M rfl rfl<|Ts rfl (q3 rfl rfl)<|Te ?_
 refine Cc _ rfl (fun ac => ?_) (fun ac => ?_)
 rw [if_pos (of_decide_eq_true ac)] at hm
 refine Ck<|Xn ?_
 obtain ⟨t73505, hj73504, t⟩ := bS hm
 refine Cj (fun ad e' hp' => ∃ (ae : Int), ∃ (u : (List Int)), ∃ (S : Hp), [(0, sv a u c), (1, iv i), (2, iv d), (7, iv ae), (8, iv k)] = e' ∧ (S ++ R) = hp' ∧ s.Le ad ∧ OS 3 (OT.fr rI) ad.w (sv a u c) u S ∧ u.length = e.length ∧ t73505 = .inl (ae, u)) ?_ ?_
 have hm := hj73504
 refine Cb ?_
 obtain ⟨g, hj73964, hk73964⟩ := bS hm
 refine Cj (fun af e' hp' => [(0, sv a f c), (1, iv i), (2, iv d), (7, iv g), (8, iv k)] = e' ∧ (m ++ R) = hp' ∧ s.Le af) ?_ ?_
 have hm := hj73964
 refine Cb<|cL (fun T => fun ag e' hp' => [(0, sv a f c), (1, iv i), (2, iv d), (7, iv T), (8, iv k)] = e' ∧ (m ++ R) = hp' ∧ s.Le ag) hm ⟨rfl, rfl, lr⟩ (.refl _) ?_
 rintro T ag _ _ oL73965 ⟨rfl, rfl, U⟩ a0 houtL73965
 unfold mSlicesPartialInsertionSortOrdered_L73965 at a0
 have hm := a0
 refine Cs ?_
 obtain ⟨x74344, hj74345, hk74345⟩ := bS hm
 refine Cj (fun a1 e' hp' => [(0, sv a f c), (1, iv i), (2, iv d), (7, iv T), (8, iv k), (32, bv x74344)] = e' ∧ (m ++ R) = hp' ∧ ag.Le a1) ?_ ?_
 have hm := hj74345
 by_cases V : T < d
 rw [if_pos V] at hm
 obtain ⟨x74383, h74384, hm⟩ := bS hm
 obtain ⟨_, ah, hm⟩ := bS hm
 obtain ⟨x74400, h74401, hm⟩ := bS hm
 obtain ⟨x74416, hcl74417, hm⟩ := bS hm
 refine Di mixed (.refl _)<|E0 0 rfl (sM rfl)<|E0 1 rfl (sM rfl)<|E0 2 rfl (lT rfl rfl V)<|E0 3 rfl (sM rfl)<|Yz 4 20 rfl (sM rfl)<|Yz 5 20 rfl (sM rfl) ?_
 obtain ⟨j74385, hj74386, hx74387⟩ := iS h74384
 obtain ⟨cs74388, hs74393, P74394, P74395, hq74396, hr74389, hcs74390, hA74391, hlt74392, hb74397, hho74398⟩ := OS.get (sz := 1) rfl (by decide) (n.le U) hx74387
 obtain ⟨rfl, rfl⟩ := hr74389
 refine Yz 6 20 rfl (sI j74385 rfl rfl hj74386 hlt74392 hA74391 sl33)<|Ey 7 20 rfl (st_load_rd rfl one3 (fun w ho => hcs74390 w _ ho (List.sublist_append_left _ _) 0 _ rfl))<|Yz 8 20 rfl (sM rfl)<|Yz 9 20 rfl (sM rfl) ?_
 have ah := (kS ah).2
 refine Yz 10 20 rfl (sb rfl rfl ah) ?_
 obtain ⟨j74402, hj74403, hx74404⟩ := iS h74401
 obtain ⟨cs74405, hs74410, P74411, P74412, hq74413, hr74406, hcs74407, hA74408, hlt74409, hb74414, hho74415⟩ := OS.get (sz := 1) rfl (by decide) (n.le U) hx74404
 obtain ⟨rfl, rfl⟩ := hr74406
 refine Yz 11 20 rfl (sI j74402 rfl rfl hj74403 hlt74409 hA74408 sl33)<|Ey 12 20 rfl (st_load_rd rfl one3 (fun w ho => hcs74407 w _ ho (List.sublist_append_left _ _) 0 _ rfl))<|Eo<|Da [13] (by kernel_rfl) rfl ?_
 refine R_doY lr rfl rfl 20 rfl rfl rfl (uW _ call48 rfl (fun w ho => cCmpLess _ [] x74383 x74400 x74416 hcl74417) (fun _ _ _ h => h.2.symm)) ?_ ?_
 rintro _ _ ⟨⟨_, rfl, _⟩, rfl⟩
 refine ⟨.inr (.refl _), ?_⟩
 refine Ei lr (.refl _)<|Yz 14 20 rfl (sn2 rfl)<|E0 15 rfl (pT rfl rfl)<|Eo<|Dd (by kernel_rfl) ?_
 obtain rfl := o1 hm
 exact xJ ⟨rfl, rfl, lr⟩ (.refl _)
 exact Rn
 rw [if_neg V] at hm
 refine Di mixed (.refl _)<|E0 0 rfl (sM rfl)<|E0 1 rfl (sM rfl)<|E0 2 rfl (lF rfl rfl V)<|E0 3 rfl (sM rfl)<|En 4 20 rfl rfl rfl<|En 5 20 rfl rfl rfl<|En 6 20 rfl rfl rfl<|En 7 20 rfl rfl rfl<|En 8 20 rfl rfl rfl ?_
 refine En 9 20 rfl rfl rfl<|En 10 20 rfl rfl rfl<|En 11 20 rfl rfl rfl<|En 12 20 rfl rfl rfl<|En 13 20 rfl rfl rfl<|En 14 20 rfl rfl rfl<|E0 15 rfl (pF rfl rfl)<|Eo<|Dd (by kernel_rfl) ?_
 obtain rfl := o1 hm
 exact xJ ⟨rfl, rfl, lr⟩ (.refl _)
 rintro a1 _ _ ⟨rfl, rfl, a2⟩
 have hm := hk74345
 refine Cc _ rfl (fun ai => ?_) (fun ai => ?_)
 rw [if_pos ai] at hm
 refine Ck<|Xn<|Cb<|Cg<|M rfl rfl ?_
 obtain ⟨_, aj, hm⟩ := bS hm
 have aj := (kS aj).2
 refine Ts rfl (sa rfl rfl aj)<|As rfl rfl<|Tn<|Xm ?_
 exact xM hm ⟨rfl, rfl, ((U.trans a2))⟩ (.refl _)
 rw [if_neg (fun hh => Bool.noConfusion (hh.symm.trans ai))] at hm
 refine Ce<|Xe<|Xe<|Xo ?_
 have hm := congrArg some (houtL73965 _ (Option.some.inj hm).symm)
 obtain rfl := o1 hm
 exact xJ ⟨rfl, rfl, (U.trans a2)⟩ (.refl _)
 rintro af _ _ ⟨rfl, rfl, j⟩
 have hm := hk73964
 refine Cs<|Cr<|M rfl rfl<|M rfl rfl<|Ts rfl (q1 rfl rfl)<|Te ?_
 refine Cc _ rfl (fun ak => ?_) (fun ak => ?_)
 rw [if_pos (of_decide_eq_true ak)] at hm
 refine Cr<|As rfl rfl<|Te<|Ct<|Xr<|Xb<|Xr<|Xr<|Xb<|Xr ?_
 have hq74421 := (Option.some.inj hm).symm
 rw [hq74421] at t
 have hm := elimR t
 have hm := congrArg some (ab _ (Option.some.inj hm).symm)
 have hq74422 := (Option.some.inj hm).symm
 rw [hq74422] at r
 have hm := elimR r
 obtain ⟨rfl, rfl⟩ := some2 hm
 have he74423 := (n.le j)
 exact rM (rs := [.tmp 6]) (vs := [bv true]) ⟨rfl, trivial⟩ ⟨m, rfl, rfl, he74423, O⟩ (.refl _) (L.trans j)
 rw [if_neg (of_decide_eq_false ak)] at hm
 refine Ck<|Xn<|Cs<|Cr<|M rfl rfl<|M rfl rfl ?_
 obtain ⟨_, al, hm⟩ := bS hm
 have al := (kS al).2
 refine Ts rfl (sb rfl rfl al)<|Ts rfl (q3 rfl rfl)<|Te ?_
 refine Cc _ rfl (fun am => ?_) (fun am => ?_)
 rw [if_pos (of_decide_eq_true am)] at hm
 refine Cr<|As rfl rfl<|Te<|Ct<|Xr<|Xb<|Xr<|Xr<|Xb<|Xr ?_
 have hq74426 := (Option.some.inj hm).symm
 rw [hq74426] at t
 have hm := elimR t
 have hm := congrArg some (ab _ (Option.some.inj hm).symm)
 have hq74427 := (Option.some.inj hm).symm
 rw [hq74427] at r
 have hm := elimR r
 obtain ⟨rfl, rfl⟩ := some2 hm
 have he74428 := (n.le j)
 exact rM (rs := [.tmp 6]) (vs := [bv false]) ⟨rfl, trivial⟩ ⟨m, rfl, rfl, he74428, O⟩ (.refl _) (L.trans j)
 rw [if_neg (of_decide_eq_false am)] at hm
 refine Ck<|Xn ?_
 obtain ⟨W, hj74576, hk74576⟩ := bS hm
 refine Cj (fun A e' hp' => ∃ (B : Hp), [(0, sv a W c), (1, iv i), (2, iv d), (7, iv g), (8, iv k)] = e' ∧ (B ++ R) = hp' ∧ af.Le A ∧ OS 3 (OT.fr rI) A.w (sv a W c) W B ∧ W.length = e.length) ?_ ?_
 have hm := hj74576
 obtain ⟨_, an, hm⟩ := bS hm
 obtain ⟨_, ao, hm⟩ := bS hm
 obtain ⟨C, h74650, hm⟩ := bS hm
 obtain ⟨aq, h74666, hm⟩ := bS hm
 obtain ⟨x74681, h74682, hm⟩ := bS hm
 obtain ⟨x74699, h74700, hm⟩ := bS hm
 refine Di mixed (.refl _)<|E0 0 rfl (sM rfl)<|E0 1 rfl (sM rfl)<|E0 2 rfl (sM rfl)<|E0 3 rfl (sM rfl) ?_
 have an := (kS an).2
 refine E0 4 rfl (sb rfl rfl an)<|E0 5 rfl (sM rfl)<|E0 6 rfl (sM rfl) ?_
 have ao := (kS ao).2
 refine E0 7 rfl (sb rfl rfl ao) ?_
 obtain ⟨j74651, hj74652, hx74653⟩ := iS h74650
 obtain ⟨cs74654, hs74659, P74660, P74661, hq74662, hr74655, hcs74656, hA74657, hlt74658, hb74663, hho74664⟩ := OS.get (sz := 1) rfl (by decide) (n.le j) hx74653
 obtain ⟨rfl, rfl⟩ := hr74655
 refine E0 8 rfl (sI j74651 rfl rfl hj74652 hlt74658 hA74657 sl33)<|Es 9 rfl (st_load_rd rfl one3 (fun w ho => hcs74656 w _ ho (List.sublist_append_left _ _) 0 _ rfl))<|E0 10 rfl (sM rfl)<|E0 11 rfl (sM rfl) ?_
 obtain ⟨j74667, hj74668, hx74669⟩ := iS h74666
 obtain ⟨cs74670, hs74675, P74676, P74677, hq74678, hr74671, hcs74672, hA74673, hlt74674, hb74679, hho74680⟩ := OS.get (sz := 1) rfl (by decide) (n.le j) hx74669
 obtain ⟨rfl, rfl⟩ := hr74671
 refine E0 12 rfl (sI j74667 rfl rfl hj74668 hlt74674 hA74673 sl33)<|Es 13 rfl (st_load_rd rfl one3 (fun w ho => hcs74672 w _ ho (List.sublist_append_left _ _) 0 _ rfl)) ?_
 obtain ⟨j74683, a3, a4⟩ := iS h74682
 obtain ⟨cs74686, hs74691, P74692, P74693, hq74694, hr74687, hcs74688, hA74689, hlt74690, hb74695, hho74696⟩ := OS.get (sz := 1) rfl (by decide) (n.le j) a4
 obtain ⟨rfl, rfl⟩ := hr74687
 refine E0 14 rfl (sI j74683 rfl rfl a3 hlt74690 hA74689 sl33)<|Eo<|Da [15] (by kernel_rfl) rfl ?_
 refine Rd2 lr rfl rfl (uP a3 (sz := 1) (a' := C) rfl [] R 0 1 [iv C] rfl (n.le j) a4 rfl rfl rfl siz3 rfl (mc rfl mn) (fun cs hsj hh => by obtain ⟨rfl, rfl⟩ := hh; exact ⟨by first | decide | exact Nat.le_refl _, rfl, rfl⟩)) ?_ ?_
 rintro _ _ ⟨hs74697, rfl, a5⟩
 refine ⟨.inl (by kernel_rfl), ?_⟩
 refine d_resp 0 rfl (v' := .slice a (put f g C).length c) (by simp only [put_length])<|d_resp 44 rfl (v' := .slice a (put f g C).length c) (by simp only [put_length]) ?_
 obtain ⟨j74701, a6, a7⟩ := iS h74700
 obtain ⟨cs74704, hs74709, P74710, P74711, hq74712, hr74705, hcs74706, hA74707, hlt74708, hb74713, hho74714⟩ := OS.get (sz := 1) rfl (by decide) a5 a7
 obtain ⟨rfl, rfl⟩ := hr74705
 refine El lr<|E0 16 rfl (sI j74701 rfl rfl a6 hlt74708 hA74707 sl33)<|Eo<|Da [17] (by kernel_rfl) rfl ?_
 refine Rd2 lr rfl rfl (uP a6 (sz := 1) (a' := aq) rfl [] R 0 1 [iv aq] rfl a5 a7 rfl rfl rfl siz3 rfl (mc rfl mn) (fun cs hsj hh => by obtain ⟨rfl, rfl⟩ := hh; exact ⟨by first | decide | exact Nat.le_refl _, rfl, rfl⟩)) ?_ ?_
 rintro _ _ ⟨hs74715, rfl, h74716⟩
 refine ⟨.inl (by kernel_rfl), ?_⟩
 refine d_resp 0 rfl (v' := .slice a (put (put f g C) (g - 1) aq).length c) (by simp only [put_length])<|Dd (by kernel_rfl) ?_
 obtain rfl := o1 hm
 exact xJ ⟨hs74715, rfl, rfl, lr, h74716, ((put_length _ _ _).trans ((put_length _ _ _).trans O))⟩ (.refl _)
 exact Rn
 exact Rn
 rintro A _ _ ⟨B, rfl, rfl, ar, a8, a9⟩
 have hm := hk74576
 obtain ⟨D, hj75381, hk75381⟩ := bS hm
 refine Cj (fun X e' hp' => ∃ (E : Hp), [(0, sv a D c), (1, iv i), (2, iv d), (7, iv g), (8, iv k)] = e' ∧ (E ++ R) = hp' ∧ A.Le X ∧ OS 3 (OT.fr rI) X.w (sv a D c) D E ∧ D.length = e.length) ?_ ?_
 have hm := hj75381
 refine Cr<|M rfl rfl<|M rfl rfl ?_
 obtain ⟨_, au, hm⟩ := bS hm
 have au := (kS au).2
 refine Ts rfl (sb rfl rfl au)<|Ts rfl (q6 rfl rfl)<|Te ?_
 refine Cc _ rfl (fun av => ?_) (fun av => ?_)
 rw [if_pos (of_decide_eq_true av)] at hm
 refine Cr<|M rfl rfl ?_
 obtain ⟨_, aw, hm⟩ := bS hm
 have aw := (kS aw).2
 refine Ts rfl (sb rfl rfl aw)<|As rfl rfl<|Te<|Cb<|cL (unc2 fun x o => fun ax e' hp' => ∃ (F : Hp), [(0, sv a o c), (1, iv i), (2, iv d), (7, iv g), (8, iv k), (9, iv x)] = e' ∧ (F ++ R) = hp' ∧ A.Le ax ∧ OS 3 (OT.fr rI) ax.w (sv a o c) o F ∧ o.length = e.length) hm ⟨B, rfl, rfl, lr, a8, a9⟩ (.refl _) ?_
 rintro ⟨x, o⟩ ax _ _ oL75385 ⟨F, rfl, rfl, ay, p, az⟩ ba bb
 unfold mSlicesPartialInsertionSortOrdered_L75385 at ba
 have hm := (unc2E ba)
 refine Cs<|Cr<|M rfl rfl<|Ts rfl (q6 rfl rfl)<|Te ?_
 refine Cc _ rfl (fun aA => ?_) (fun aA => ?_)
 rw [if_pos (of_decide_eq_true aA)] at hm
 refine Ck<|Xn<|Cs<|Cb<|Cs<|Cs ?_
 obtain ⟨x75862, h75863, hm⟩ := bS hm
 obtain ⟨_, aB, hm⟩ := bS hm
 obtain ⟨x75879, h75880, hm⟩ := bS hm
 obtain ⟨x75895, hcl75896, hm⟩ := bS hm
 refine Di mixed (.refl _)<|E0 0 rfl (sM rfl)<|E0 1 rfl (sM rfl) ?_
 obtain ⟨j75864, hj75865, hx75866⟩ := iS h75863
 obtain ⟨cs75867, hs75872, P75873, P75874, hq75875, hr75868, hcs75869, hA75870, hlt75871, hb75876, hho75877⟩ := OS.get (sz := 1) rfl (by decide) p hx75866
 obtain ⟨rfl, rfl⟩ := hr75868
 refine E0 2 rfl (sI j75864 rfl rfl hj75865 hlt75871 hA75870 sl33)<|Es 3 rfl (st_load_rd rfl one3 (fun w ho => hcs75869 w _ ho (List.sublist_append_left _ _) 0 _ rfl))<|E0 4 rfl (sM rfl)<|E0 5 rfl (sM rfl) ?_
 have aB := (kS aB).2
 refine E0 6 rfl (sb rfl rfl aB) ?_
 obtain ⟨j75881, hj75882, hx75883⟩ := iS h75880
 obtain ⟨cs75884, hs75889, P75890, P75891, hq75892, hr75885, hcs75886, hA75887, hlt75888, hb75893, hho75894⟩ := OS.get (sz := 1) rfl (by decide) p hx75883
 obtain ⟨rfl, rfl⟩ := hr75885
 refine E0 7 rfl (sI j75881 rfl rfl hj75882 hlt75888 hA75887 sl33)<|Es 8 rfl (st_load_rd rfl one3 (fun w ho => hcs75886 w _ ho (List.sublist_append_left _ _) 0 _ rfl))<|Eo<|Da [9] (by kernel_rfl) rfl ?_
 refine Rd2 lr rfl rfl (uW _ call48 rfl (fun w ho => cCmpLess _ [] x75862 x75879 x75895 hcl75896) (fun _ _ _ h => h.2.symm)) ?_ ?_
 rintro _ _ ⟨⟨_, rfl, _⟩, rfl⟩
 refine ⟨.inl (by kernel_rfl), ?_⟩
 refine El lr<|E0 10 rfl (sn2 rfl)<|Eo<|Dd (by kernel_rfl)<|Xn ?_
 refine Cc _ rfl (fun aC => ?_) (fun aC => ?_)
 rw [if_neg (fun hh => Bool.noConfusion (hh.symm.trans (nt aC)))] at hm
 refine Ce<|Xe<|Xi rfl<|Xe<|Xe<|Xo ?_
 have hm := congrArg some (bb _ (Option.some.inj hm).symm)
 obtain rfl := o1 hm
 exact xJ ⟨F, rfl, rfl, ay, p, az⟩ (.refl _)
 rw [if_pos (nf aC)] at hm
 refine Ck<|Xn ?_
 obtain ⟨_, aD, hm⟩ := bS hm
 obtain ⟨_, aE, hm⟩ := bS hm
 obtain ⟨G, h75971, hm⟩ := bS hm
 obtain ⟨aF, h75987, hm⟩ := bS hm
 obtain ⟨x76002, h76003, hm⟩ := bS hm
 obtain ⟨x76020, h76021, hm⟩ := bS hm
 refine Di mixed (.refl _)<|E0 0 rfl (sM rfl)<|E0 1 rfl (sM rfl)<|E0 2 rfl (sM rfl)<|E0 3 rfl (sM rfl) ?_
 have aD := (kS aD).2
 refine E0 4 rfl (sb rfl rfl aD)<|E0 5 rfl (sM rfl)<|E0 6 rfl (sM rfl) ?_
 have aE := (kS aE).2
 refine E0 7 rfl (sb rfl rfl aE) ?_
 obtain ⟨j75972, hj75973, hx75974⟩ := iS h75971
 obtain ⟨cs75975, hs75980, P75981, P75982, hq75983, hr75976, hcs75977, hA75978, hlt75979, hb75984, hho75985⟩ := OS.get (sz := 1) rfl (by decide) p hx75974
 obtain ⟨rfl, rfl⟩ := hr75976
 refine E0 8 rfl (sI j75972 rfl rfl hj75973 hlt75979 hA75978 sl33)<|Es 9 rfl (st_load_rd rfl one3 (fun w ho => hcs75977 w _ ho (List.sublist_append_left _ _) 0 _ rfl))<|E0 10 rfl (sM rfl)<|E0 11 rfl (sM rfl) ?_
 obtain ⟨j75988, hj75989, hx75990⟩ := iS h75987
 obtain ⟨cs75991, hs75996, P75997, P75998, hq75999, hr75992, hcs75993, hA75994, hlt75995, hb76000, hho76001⟩ := OS.get (sz := 1) rfl (by decide) p hx75990
 obtain ⟨rfl, rfl⟩ := hr75992
 refine E0 12 rfl (sI j75988 rfl rfl hj75989 hlt75995 hA75994 sl33)<|Es 13 rfl (st_load_rd rfl one3 (fun w ho => hcs75993 w _ ho (List.sublist_append_left _ _) 0 _ rfl)) ?_
 obtain ⟨j76004, bc, bd⟩ := iS h76003
 obtain ⟨cs76007, hs76012, P76013, P76014, hq76015, hr76008, hcs76009, hA76010, hlt76011, hb76016, hho76017⟩ := OS.get (sz := 1) rfl (by decide) p bd
 obtain ⟨rfl, rfl⟩ := hr76008
 refine E0 14 rfl (sI j76004 rfl rfl bc hlt76011 hA76010 sl33)<|Eo<|Da [15] (by kernel_rfl) rfl ?_
 refine Rd2 lr rfl rfl (uP bc (sz := 1) (a' := G) rfl [] R 0 1 [iv G] rfl p bd rfl rfl rfl siz3 rfl (mc rfl mn) (fun cs hsj hh => by obtain ⟨rfl, rfl⟩ := hh; exact ⟨by first | decide | exact Nat.le_refl _, rfl, rfl⟩)) ?_ ?_
 rintro _ _ ⟨hs76018, rfl, be⟩
 refine ⟨.inl (by kernel_rfl), ?_⟩
 refine d_resp 0 rfl (v' := .slice a (put o x G).length c) (by simp only [put_length])<|d_resp 81 rfl (v' := .slice a (put o x G).length c) (by simp only [put_length]) ?_
 obtain ⟨j76022, bf, bg⟩ := iS h76021
 obtain ⟨cs76025, hs76030, P76031, P76032, hq76033, hr76026, hcs76027, hA76028, hlt76029, hb76034, hho76035⟩ := OS.get (sz := 1) rfl (by decide) be bg
 obtain ⟨rfl, rfl⟩ := hr76026
 refine El lr<|E0 16 rfl (sI j76022 rfl rfl bf hlt76029 hA76028 sl33)<|Eo<|Da [17] (by kernel_rfl) rfl ?_
 refine Rd2 lr rfl rfl (uP bf (sz := 1) (a' := aF) rfl [] R 0 1 [iv aF] rfl be bg rfl rfl rfl siz3 rfl (mc rfl mn) (fun cs hsj hh => by obtain ⟨rfl, rfl⟩ := hh; exact ⟨by first | decide | exact Nat.le_refl _, rfl, rfl⟩)) ?_ ?_
 rintro _ _ ⟨hs76036, rfl, h76037⟩
 refine ⟨.inl (by kernel_rfl), ?_⟩
 refine d_resp 0 rfl (v' := .slice a (put (put o x G) (x - 1) aF).length c) (by simp only [put_length])<|Dd (by kernel_rfl)<|Xm<|Xn<|Cg<|M rfl rfl ?_
 obtain ⟨_, aG, hm⟩ := bS hm
 have aG := (kS aG).2
 refine Ts rfl (sb rfl rfl aG)<|As rfl rfl<|Tn ?_
 exact xM hm ⟨hs76036, rfl, rfl, (ay), h76037, ((put_length _ _ _).trans ((put_length _ _ _).trans az))⟩ (.refl _)
 exact Rn
 exact Rn
 exact Rn
 rw [if_neg (of_decide_eq_false aA)] at hm
 refine Ce<|Xe<|Xe<|Xo ?_
 have hm := congrArg some (bb _ (Option.some.inj hm).symm)
 obtain rfl := o1 hm
 exact xJ ⟨F, rfl, rfl, ay, p, az⟩ (.refl _)
 rw [if_neg (of_decide_eq_false av)] at hm
 refine Ck ?_
 obtain rfl := o1 hm
 exact xJ ⟨B, rfl, rfl, lr, a8, a9⟩ (.refl _)
 rintro X _ _ ⟨E, rfl, rfl, aH, bh, bi⟩
 have hm := hk75381
 refine Cr<|M rfl rfl<|M rfl rfl ?_
 obtain ⟨_, aI, hm⟩ := bS hm
 have aI := (kS aI).2
 refine Ts rfl (sb rfl rfl aI)<|Ts rfl (q6 rfl rfl)<|Te ?_
 refine Cc _ rfl (fun aJ => ?_) (fun aJ => ?_)
 rw [if_pos (of_decide_eq_true aJ)] at hm
 refine Cr<|M rfl rfl ?_
 obtain ⟨_, aK, hm⟩ := bS hm
 have aK := (kS aK).2
 refine Ts rfl (sa rfl rfl aK)<|As rfl rfl<|Te<|Cb<|cL (unc2 fun y l => fun aL e' hp' => ∃ (H : Hp), [(0, sv a l c), (1, iv i), (2, iv d), (7, iv g), (8, iv k), (10, iv y)] = e' ∧ (H ++ R) = hp' ∧ X.Le aL ∧ OS 3 (OT.fr rI) aL.w (sv a l c) l H ∧ l.length = e.length) hm ⟨E, rfl, rfl, lr, bh, bi⟩ (.refl _) ?_
 rintro ⟨y, l⟩ aL _ _ oL76042 ⟨H, rfl, rfl, aM, q, aN⟩ bj bk
 unfold mSlicesPartialInsertionSortOrdered_L76042 at bj
 have hm := (unc2E bj)
 refine Cs<|Cr<|M rfl rfl<|M rfl rfl<|Ts rfl (q3 rfl rfl)<|Te ?_
 refine Cc _ rfl (fun aO => ?_) (fun aO => ?_)
 rw [if_pos (of_decide_eq_true aO)] at hm
 refine Ck<|Xn<|Cs<|Cb<|Cs<|Cs ?_
 obtain ⟨x76519, h76520, hm⟩ := bS hm
 obtain ⟨_, aP, hm⟩ := bS hm
 obtain ⟨x76536, h76537, hm⟩ := bS hm
 obtain ⟨x76552, hcl76553, hm⟩ := bS hm
 refine Di mixed (.refl _)<|E0 0 rfl (sM rfl)<|E0 1 rfl (sM rfl) ?_
 obtain ⟨j76521, hj76522, hx76523⟩ := iS h76520
 obtain ⟨cs76524, hs76529, P76530, P76531, hq76532, hr76525, hcs76526, hA76527, hlt76528, hb76533, hho76534⟩ := OS.get (sz := 1) rfl (by decide) q hx76523
 obtain ⟨rfl, rfl⟩ := hr76525
 refine E0 2 rfl (sI j76521 rfl rfl hj76522 hlt76528 hA76527 sl33)<|Es 3 rfl (st_load_rd rfl one3 (fun w ho => hcs76526 w _ ho (List.sublist_append_left _ _) 0 _ rfl))<|E0 4 rfl (sM rfl)<|E0 5 rfl (sM rfl) ?_
 have aP := (kS aP).2
 refine E0 6 rfl (sb rfl rfl aP) ?_
 obtain ⟨j76538, hj76539, hx76540⟩ := iS h76537
 obtain ⟨cs76541, hs76546, P76547, P76548, hq76549, hr76542, hcs76543, hA76544, hlt76545, hb76550, hho76551⟩ := OS.get (sz := 1) rfl (by decide) q hx76540
 obtain ⟨rfl, rfl⟩ := hr76542
 refine E0 7 rfl (sI j76538 rfl rfl hj76539 hlt76545 hA76544 sl33)<|Es 8 rfl (st_load_rd rfl one3 (fun w ho => hcs76543 w _ ho (List.sublist_append_left _ _) 0 _ rfl))<|Eo<|Da [9] (by kernel_rfl) rfl ?_
 refine Rd2 lr rfl rfl (uW _ call48 rfl (fun w ho => cCmpLess _ [] x76519 x76536 x76552 hcl76553) (fun _ _ _ h => h.2.symm)) ?_ ?_
 rintro _ _ ⟨⟨_, rfl, _⟩, rfl⟩
 refine ⟨.inl (by kernel_rfl), ?_⟩
 refine El lr<|E0 10 rfl (sn2 rfl)<|Eo<|Dd (by kernel_rfl)<|Xn ?_
 refine Cc _ rfl (fun aQ => ?_) (fun aQ => ?_)
 rw [if_neg (fun hh => Bool.noConfusion (hh.symm.trans (nt aQ)))] at hm
 refine Ce<|Xe<|Xi rfl<|Xe<|Xe<|Xo ?_
 have hm := congrArg some (bk _ (Option.some.inj hm).symm)
 refine Xm ?_
 have hq := (Option.some.inj hm).symm
 exact xJ ⟨g, l, H, rfl, rfl, (j.trans (ar.trans (aH.trans aM))), q, aN, hq⟩ (.refl _)
 rw [if_pos (nf aQ)] at hm
 refine Ck<|Xn ?_
 obtain ⟨_, aR, hm⟩ := bS hm
 obtain ⟨_, aS, hm⟩ := bS hm
 obtain ⟨I, h76628, hm⟩ := bS hm
 obtain ⟨aT, h76644, hm⟩ := bS hm
 obtain ⟨x76659, h76660, hm⟩ := bS hm
 obtain ⟨x76677, h76678, hm⟩ := bS hm
 refine Di mixed (.refl _)<|E0 0 rfl (sM rfl)<|E0 1 rfl (sM rfl)<|E0 2 rfl (sM rfl)<|E0 3 rfl (sM rfl) ?_
 have aR := (kS aR).2
 refine E0 4 rfl (sb rfl rfl aR)<|E0 5 rfl (sM rfl)<|E0 6 rfl (sM rfl) ?_
 have aS := (kS aS).2
 refine E0 7 rfl (sb rfl rfl aS) ?_
 obtain ⟨j76629, hj76630, hx76631⟩ := iS h76628
 obtain ⟨cs76632, hs76637, P76638, P76639, hq76640, hr76633, hcs76634, hA76635, hlt76636, hb76641, hho76642⟩ := OS.get (sz := 1) rfl (by decide) q hx76631
 obtain ⟨rfl, rfl⟩ := hr76633
 refine E0 8 rfl (sI j76629 rfl rfl hj76630 hlt76636 hA76635 sl33)<|Es 9 rfl (st_load_rd rfl one3 (fun w ho => hcs76634 w _ ho (List.sublist_append_left _ _) 0 _ rfl))<|E0 10 rfl (sM rfl)<|E0 11 rfl (sM rfl) ?_
 obtain ⟨j76645, hj76646, hx76647⟩ := iS h76644
 obtain ⟨cs76648, hs76653, P76654, P76655, hq76656, hr76649, hcs76650, hA76651, hlt76652, hb76657, hho76658⟩ := OS.get (sz := 1) rfl (by decide) q hx76647
 obtain ⟨rfl, rfl⟩ := hr76649
 refine E0 12 rfl (sI j76645 rfl rfl hj76646 hlt76652 hA76651 sl33)<|Es 13 rfl (st_load_rd rfl one3 (fun w ho => hcs76650 w _ ho (List.sublist_append_left _ _) 0 _ rfl)) ?_
 obtain ⟨j76661, bl, bm⟩ := iS h76660
 obtain ⟨cs76664, hs76669, P76670, P76671, hq76672, hr76665, hcs76666, hA76667, hlt76668, hb76673, hho76674⟩ := OS.get (sz := 1) rfl (by decide) q bm
 obtain ⟨rfl, rfl⟩ := hr76665
 refine E0 14 rfl (sI j76661 rfl rfl bl hlt76668 hA76667 sl33)<|Eo<|Da [15] (by kernel_rfl) rfl ?_
 refine Rd2 lr rfl rfl (uP bl (sz := 1) (a' := I) rfl [] R 0 1 [iv I] rfl q bm rfl rfl rfl siz3 rfl (mc rfl mn) (fun cs hsj hh => by obtain ⟨rfl, rfl⟩ := hh; exact ⟨by first | decide | exact Nat.le_refl _, rfl, rfl⟩)) ?_ ?_
 rintro _ _ ⟨hs76675, rfl, bn⟩
 refine ⟨.inl (by kernel_rfl), ?_⟩
 refine d_resp 0 rfl (v' := .slice a (put l y I).length c) (by simp only [put_length])<|d_resp 119 rfl (v' := .slice a (put l y I).length c) (by simp only [put_length]) ?_
 obtain ⟨j76679, bo, bp⟩ := iS h76678
 obtain ⟨cs76682, hs76687, P76688, P76689, hq76690, hr76683, hcs76684, hA76685, hlt76686, hb76691, hho76692⟩ := OS.get (sz := 1) rfl (by decide) bn bp
 obtain ⟨rfl, rfl⟩ := hr76683
 refine El lr<|E0 16 rfl (sI j76679 rfl rfl bo hlt76686 hA76685 sl33)<|Eo<|Da [17] (by kernel_rfl) rfl ?_
 refine Rd2 lr rfl rfl (uP bo (sz := 1) (a' := aT) rfl [] R 0 1 [iv aT] rfl bn bp rfl rfl rfl siz3 rfl (mc rfl mn) (fun cs hsj hh => by obtain ⟨rfl, rfl⟩ := hh; exact ⟨by first | decide | exact Nat.le_refl _, rfl, rfl⟩)) ?_ ?_
 rintro _ _ ⟨hs76693, rfl, h76694⟩
 refine ⟨.inl (by kernel_rfl), ?_⟩
 refine d_resp 0 rfl (v' := .slice a (put (put l y I) (y - 1) aT).length c) (by simp only [put_length])<|Dd (by kernel_rfl)<|Xm<|Xn<|Cg<|M rfl rfl ?_
 obtain ⟨_, aU, hm⟩ := bS hm
 have aU := (kS aU).2
 refine Ts rfl (sa rfl rfl aU)<|As rfl rfl<|Tn ?_
 exact xM hm ⟨hs76693, rfl, rfl, (aM), h76694, ((put_length _ _ _).trans ((put_length _ _ _).trans aN))⟩ (.refl _)
 exact Rn
 exact Rn
 exact Rn
 rw [if_neg (of_decide_eq_false aO)] at hm
 refine Ce<|Xe<|Xe<|Xo ?_
 have hm := congrArg some (bk _ (Option.some.inj hm).symm)
 refine Xm ?_
 have hq := (Option.some.inj hm).symm
 exact xJ ⟨g, l, H, rfl, rfl, (j.trans (ar.trans (aH.trans aM))), q, aN, hq⟩ (.refl _)
 rw [if_neg (of_decide_eq_false aJ)] at hm
 refine Ck<|Xm ?_
 have hq := (Option.some.inj hm).symm
 exact xJ ⟨g, D, E, rfl, rfl, (j.trans (ar.trans aH)), bh, bi, hq⟩ (.refl _)
 rintro ad _ _ ⟨ae, u, S, rfl, rfl, hle73497, h73500, hln73503, hq76696⟩
 rw [hq76696] at t
 have hm := elimL t
 have hm := (unc2E hm)
 refine Cg<|M rfl rfl ?_
 obtain ⟨_, aV, hm⟩ := bS hm
 have aV := (kS aV).2
 refine Ts rfl (sa rfl rfl aV)<|As rfl rfl<|Tn ?_
 exact xM hm ⟨S, rfl, rfl, ((L.trans hle73497)), h73500, hln73503⟩ (.refl _)
 rw [if_neg (of_decide_eq_false ac)] at hm
 refine Ce<|Xe<|Xe<|Xo ?_
 have hm := congrArg some (ab _ (Option.some.inj hm).symm)
 have hq := (Option.some.inj hm).symm
 exact xJ ⟨f, m, rfl, rfl, L, n, O, hq⟩ (.refl _)
 rintro aa _ _ ⟨z, K, rfl, rfl, hle57522, h57525, hln57527, hq76699⟩
 rw [hq76699] at r
 have hm := elimL r
 refine Cr<|As rfl rfl<|Te<|Ct ?_
 obtain ⟨rfl, rfl⟩ := some2 hm
 exact rM (rs := [.tmp 6]) (vs := [bv false]) ⟨rfl, trivial⟩ ⟨K, rfl, rfl, h57525, hln57527⟩ (.refl _) hle57522

set_option maxRecDepth 20000 in
theorem cSlicesPartitionEqualOrdered (b : Base) (R : Hp) (d : Int) (H : Int) (I : Int) (f : (List Int)) (a : OA) (c : Nat) (ag : Hp) (r : OS 3 (OT.fr rI) b.w (sv a f c) f ag) (ah : Int) (s : (List Int)) (hm : mSlicesPartitionEqualOrdered d H I f = some (ah, s)) :
    CallsG Try.prog 49 [sv a f c, iv d, iv H, iv I] b ((ag ++ R)) (fun v b' hp' => ∃ (ai : Hp), iv ah = v ∧ (ai ++ R) = hp' ∧ OS 3 (OT.fr rI) b'.w (sv a s c) s ai ∧ s.length = f.length) := by
 refine fE 84 Try.func49 rfl Try.ntmps49 rfl ?_
 unfold mSlicesPartitionEqualOrdered at hm
 refine Cr<|As rfl rfl<|Te ?_
 obtain ⟨t, aH, aI⟩ := bS hm
 refine Cj (fun n e' hp' => ∃ (u : Hp), [(0, sv a t c), (1, iv d), (2, iv H)] = e' ∧ (u ++ R) = hp' ∧ b.Le n ∧ OS 3 (OT.fr rI) n.w (sv a t c) t u ∧ t.length = f.length) ?_ ?_
 have hm := aH
 obtain ⟨o, aJ, hm⟩ := bS hm
 obtain ⟨J, aK, hm⟩ := bS hm
 obtain ⟨cN, aL, hm⟩ := bS hm
 obtain ⟨cO, aM, hm⟩ := bS hm
 refine Di mixed (.refl _)<|E0 0 rfl (sM rfl)<|E0 1 rfl (sM rfl)<|E0 2 rfl (sM rfl)<|E0 3 rfl (sM rfl)<|E0 4 rfl (sM rfl)<|E0 5 rfl (sM rfl) ?_
 obtain ⟨aN, aO, aP⟩ := iS aJ
 obtain ⟨cP, cQ, cR, cT, cU, aQ, aR, aS, aT, cV, cW⟩ := OS.get (sz := 1) rfl (by decide) r aP
 obtain ⟨rfl, rfl⟩ := aQ
 refine E0 6 rfl (sI aN rfl rfl aO aT aS sl33)<|Es 7 rfl (st_load_rd rfl one3 (fun w ho => aR w _ ho (List.sublist_append_left _ _) 0 _ rfl))<|E0 8 rfl (sM rfl)<|E0 9 rfl (sM rfl) ?_
 obtain ⟨aU, aV, aW⟩ := iS aK
 obtain ⟨cX, cY, cZ, c0, c1, aX, aY, aZ, a0, c2, c3⟩ := OS.get (sz := 1) rfl (by decide) r aW
 obtain ⟨rfl, rfl⟩ := aX
 refine E0 10 rfl (sI aU rfl rfl aV a0 aZ sl33)<|Es 11 rfl (st_load_rd rfl one3 (fun w ho => aY w _ ho (List.sublist_append_left _ _) 0 _ rfl)) ?_
 obtain ⟨a1, aj, ak⟩ := iS aL
 obtain ⟨c5, c6, c7, c8, c9, a2, da, a3, a4, db, dc⟩ := OS.get (sz := 1) rfl (by decide) r ak
 obtain ⟨rfl, rfl⟩ := a2
 refine E0 12 rfl (sI a1 rfl rfl aj a4 a3 sl33)<|Eo<|Da [13] (by kernel_rfl) rfl ?_
 refine Rd2 lr rfl rfl (uP aj (sz := 1) (a' := o) rfl [] R 0 1 [iv o] rfl r ak rfl rfl rfl siz3 rfl (mc rfl mn) (fun cs hsj hh => by obtain ⟨rfl, rfl⟩ := hh; exact ⟨by first | decide | exact Nat.le_refl _, rfl, rfl⟩)) ?_ ?_
 rintro _ _ ⟨dd, rfl, al⟩
 refine ⟨.inl (by kernel_rfl), ?_⟩
 refine d_resp 0 rfl (v' := .slice a (put f d o).length c) (by simp only [put_length])<|d_resp 13 rfl (v' := .slice a (put f d o).length c) (by simp only [put_length]) ?_
 obtain ⟨a5, am, an⟩ := iS aM
 obtain ⟨de, df, dg, dh, di, a6, dj, a7, a8, dk, dl⟩ := OS.get (sz := 1) rfl (by decide) al an
 obtain ⟨rfl, rfl⟩ := a6
 refine El lr<|E0 14 rfl (sI a5 rfl rfl am a8 a7 sl33)<|Eo<|Da [15] (by kernel_rfl) rfl ?_
 refine Rd2 lr rfl rfl (uP am (sz := 1) (a' := J) rfl [] R 0 1 [iv J] rfl al an rfl rfl rfl siz3 rfl (mc rfl mn) (fun cs hsj hh => by obtain ⟨rfl, rfl⟩ := hh; exact ⟨by first | decide | exact Nat.le_refl _, rfl, rfl⟩)) ?_ ?_
 rintro _ _ ⟨a9, rfl, ba⟩
 refine ⟨.inl (by kernel_rfl), ?_⟩
 refine d_resp 0 rfl (v' := .slice a (put (put f d o) I J).length c) (by simp only [put_length])<|Dd (by kernel_rfl) ?_
 obtain rfl := o1 hm
 exact xJ ⟨a9, rfl, rfl, lr, ba, ((put_length _ _ _).trans ((put_length _ _ _).trans rfl))⟩ (.refl _)
 exact Rn
 exact Rn
 rintro n _ _ ⟨u, rfl, rfl, bb, bc, bd⟩
 have hm := aI
 refine Cr<|M rfl rfl ?_
 obtain ⟨_, K, hm⟩ := bS hm
 have K := (kS K).2
 refine Ts rfl (sa rfl rfl K)<|M rfl rfl ?_
 obtain ⟨_, L, hm⟩ := bS hm
 have L := (kS L).2
 refine Ts rfl (sb rfl rfl L)<|As rfl rfl<|As rfl rfl<|Te ?_
 obtain ⟨⟨ao, O⟩, be, bf⟩ := bS hm
 refine Cj (fun S e' hp' => ∃ (x : Hp), [(9, iv ao)] = e' ∧ (x ++ R) = hp' ∧ n.Le S ∧ OS 3 (OT.fr rI) S.w (sv a O c) O x ∧ O.length = f.length) ?_ ?_
 have hm := be
 refine Cb<|cL (unc3 fun aq m e => fun p e' hp' => ∃ (g : Hp), [(0, sv a e c), (1, iv d), (9, iv aq), (10, iv m)] = e' ∧ (g ++ R) = hp' ∧ n.Le p ∧ OS 3 (OT.fr rI) p.w (sv a e c) e g ∧ e.length = f.length) hm ⟨u, rfl, rfl, lr, bc, bd⟩ (.refl _) ?_
 rintro ⟨aq, m, e⟩ p _ _ dm ⟨g, rfl, rfl, ar, i, au⟩ av bg
 unfold mSlicesPartitionEqualOrdered_L19216 at av
 have hm := (unc3E av)
 refine Cb ?_
 obtain ⟨j, bh, bi⟩ := bS hm
 refine Cj (fun y e' hp' => [(0, sv a e c), (1, iv d), (9, iv j), (10, iv m)] = e' ∧ (g ++ R) = hp' ∧ p.Le y) ?_ ?_
 have hm := bh
 refine Cb<|cL (fun z => fun T e' hp' => [(0, sv a e c), (1, iv d), (9, iv z), (10, iv m)] = e' ∧ (g ++ R) = hp' ∧ p.Le T) hm ⟨rfl, rfl, lr⟩ (.refl _) ?_
 rintro z T _ _ dn ⟨rfl, rfl, A⟩ aw bj
 unfold mSlicesPartitionEqualOrdered_L23806 at aw
 have hm := aw
 refine Cs ?_
 obtain ⟨bk, bl, bm⟩ := bS hm
 refine Cj (fun ax e' hp' => [(0, sv a e c), (1, iv d), (9, iv z), (10, iv m), (43, bv bk)] = e' ∧ (g ++ R) = hp' ∧ T.Le ax) ?_ ?_
 have hm := bl
 by_cases B : z ≤ m
 rw [if_pos B] at hm
 obtain ⟨bn, bo, hm⟩ := bS hm
 obtain ⟨bp, bq, hm⟩ := bS hm
 obtain ⟨br, bs, hm⟩ := bS hm
 refine Di mixed (.refl _)<|E0 0 rfl (sM rfl)<|E0 1 rfl (sM rfl)<|E0 2 rfl (st_leq_t rfl rfl B)<|E0 3 rfl (sM rfl)<|Yz 4 32 rfl (sM rfl)<|Yz 5 32 rfl (sM rfl) ?_
 obtain ⟨bt, bu, bw⟩ := iS bo
 obtain ⟨dp, dq, dr, ds, dt, bx, bz, bA, bB, du, dv⟩ := OS.get (sz := 1) rfl (by decide) (i.le A) bw
 obtain ⟨rfl, rfl⟩ := bx
 refine Yz 6 32 rfl (sI bt rfl rfl bu bB bA sl33)<|Ey 7 32 rfl (st_load_rd rfl one3 (fun w ho => bz w _ ho (List.sublist_append_left _ _) 0 _ rfl))<|Yz 8 32 rfl (sM rfl)<|Yz 9 32 rfl (sM rfl) ?_
 obtain ⟨bC, bD, bE⟩ := iS bq
 obtain ⟨dw, dx, dy, dz, dA, bF, bG, bH, bI, dB, dC⟩ := OS.get (sz := 1) rfl (by decide) (i.le A) bE
 obtain ⟨rfl, rfl⟩ := bF
 refine Yz 10 32 rfl (sI bC rfl rfl bD bI bH sl33)<|Ey 11 32 rfl (st_load_rd rfl one3 (fun w ho => bG w _ ho (List.sublist_append_left _ _) 0 _ rfl))<|Eo<|Da [12] (by kernel_rfl) rfl ?_
 refine R_doY lr rfl rfl 32 rfl rfl rfl (uW _ call48 rfl (fun w ho => cCmpLess _ [] bn bp br bs) (fun _ _ _ h => h.2.symm)) ?_ ?_
 rintro _ _ ⟨⟨_, rfl, _⟩, rfl⟩
 refine ⟨.inr (.refl _), ?_⟩
 refine Ei lr (.refl _)<|Yz 13 32 rfl (sn2 rfl)<|E0 14 rfl (pT rfl rfl)<|Eo<|Dd (by kernel_rfl) ?_
 obtain rfl := o1 hm
 exact xJ ⟨rfl, rfl, lr⟩ (.refl _)
 exact Rn
 rw [if_neg B] at hm
 refine Di mixed (.refl _)<|E0 0 rfl (sM rfl)<|E0 1 rfl (sM rfl)<|E0 2 rfl (st_leq_f rfl rfl B)<|E0 3 rfl (sM rfl)<|En 4 32 rfl rfl rfl<|En 5 32 rfl rfl rfl<|En 6 32 rfl rfl rfl<|En 7 32 rfl rfl rfl<|En 8 32 rfl rfl rfl ?_
 refine En 9 32 rfl rfl rfl<|En 10 32 rfl rfl rfl<|En 11 32 rfl rfl rfl<|En 12 32 rfl rfl rfl<|En 13 32 rfl rfl rfl<|E0 14 rfl (pF rfl rfl)<|Eo<|Dd (by kernel_rfl) ?_
 obtain rfl := o1 hm
 exact xJ ⟨rfl, rfl, lr⟩ (.refl _)
 rintro ax _ _ ⟨rfl, rfl, ay⟩
 have hm := bm
 refine Cc _ rfl (fun U => ?_) (fun U => ?_)
 rw [if_pos U] at hm
 refine Ck<|Xn<|Cb<|Cg<|M rfl rfl ?_
 obtain ⟨_, V, hm⟩ := bS hm
 have V := (kS V).2
 refine Ts rfl (sa rfl rfl V)<|As rfl rfl<|Tn<|Xm ?_
 exact xM hm ⟨rfl, rfl, ((A.trans ay))⟩ (.refl _)
 rw [if_neg (fun hh => Bool.noConfusion (hh.symm.trans U))] at hm
 refine Ce<|Xe<|Xe<|Xo ?_
 have hm := congrArg some (bj _ (Option.some.inj hm).symm)
 obtain rfl := o1 hm
 exact xJ ⟨rfl, rfl, (A.trans ay)⟩ (.refl _)
 rintro y _ _ ⟨rfl, rfl, k⟩
 have hm := bi
 obtain ⟨W, bJ, bK⟩ := bS hm
 refine Cj (fun X e' hp' => [(0, sv a e c), (1, iv d), (9, iv j), (10, iv W)] = e' ∧ (g ++ R) = hp' ∧ y.Le X) ?_ ?_
 have hm := bJ
 refine Cb<|cL (fun C => fun Y e' hp' => [(0, sv a e c), (1, iv d), (9, iv j), (10, iv C)] = e' ∧ (g ++ R) = hp' ∧ y.Le Y) hm ⟨rfl, rfl, lr⟩ (.refl _) ?_
 rintro C Y _ _ dD ⟨rfl, rfl, D⟩ az bL
 unfold mSlicesPartitionEqualOrdered_L24696 at az
 have hm := az
 refine Cs ?_
 obtain ⟨bM, bN, bO⟩ := bS hm
 refine Cj (fun aA e' hp' => [(0, sv a e c), (1, iv d), (9, iv j), (10, iv C), (59, bv bM)] = e' ∧ (g ++ R) = hp' ∧ Y.Le aA) ?_ ?_
 have hm := bN
 by_cases E : j ≤ C
 rw [if_pos E] at hm
 obtain ⟨bP, bQ, hm⟩ := bS hm
 obtain ⟨bR, bT, hm⟩ := bS hm
 obtain ⟨bU, bV, hm⟩ := bS hm
 refine Di mixed (.refl _)<|E0 0 rfl (sM rfl)<|E0 1 rfl (sM rfl)<|E0 2 rfl (st_leq_t rfl rfl E)<|E0 3 rfl (sM rfl)<|Yz 4 49 rfl (sM rfl)<|Yz 5 49 rfl (sM rfl) ?_
 obtain ⟨bW, bX, bY⟩ := iS bQ
 obtain ⟨dE, dF, dG, dH, dI, bZ, b0, b1, b2, dJ, dK⟩ := OS.get (sz := 1) rfl (by decide) (i.le (k.trans D)) bY
 obtain ⟨rfl, rfl⟩ := bZ
 refine Yz 6 49 rfl (sI bW rfl rfl bX b2 b1 sl33)<|Ey 7 49 rfl (st_load_rd rfl one3 (fun w ho => b0 w _ ho (List.sublist_append_left _ _) 0 _ rfl))<|Yz 8 49 rfl (sM rfl)<|Yz 9 49 rfl (sM rfl) ?_
 obtain ⟨b3, b4, b5⟩ := iS bT
 obtain ⟨dL, dM, dN, dO, dP, b6, b7, b8, b9, dQ, dR⟩ := OS.get (sz := 1) rfl (by decide) (i.le (k.trans D)) b5
 obtain ⟨rfl, rfl⟩ := b6
 refine Yz 10 49 rfl (sI b3 rfl rfl b4 b9 b8 sl33)<|Ey 11 49 rfl (st_load_rd rfl one3 (fun w ho => b7 w _ ho (List.sublist_append_left _ _) 0 _ rfl))<|Eo<|Da [12] (by kernel_rfl) rfl ?_
 refine R_doY lr rfl rfl 49 rfl rfl rfl (uW _ call48 rfl (fun w ho => cCmpLess _ [] bP bR bU bV) (fun _ _ _ h => h.2.symm)) ?_ ?_
 rintro _ _ ⟨⟨_, rfl, _⟩, rfl⟩
 refine ⟨.inr (.refl _), ?_⟩
 refine Ei lr (.refl _)<|E0 13 rfl (pT rfl rfl)<|Eo<|Dd (by kernel_rfl) ?_
 obtain rfl := o1 hm
 exact xJ ⟨rfl, rfl, lr⟩ (.refl _)
 exact Rn
 rw [if_neg E] at hm
 refine Di mixed (.refl _)<|E0 0 rfl (sM rfl)<|E0 1 rfl (sM rfl)<|E0 2 rfl (st_leq_f rfl rfl E)<|E0 3 rfl (sM rfl)<|En 4 49 rfl rfl rfl<|En 5 49 rfl rfl rfl<|En 6 49 rfl rfl rfl<|En 7 49 rfl rfl rfl<|En 8 49 rfl rfl rfl ?_
 refine En 9 49 rfl rfl rfl<|En 10 49 rfl rfl rfl<|En 11 49 rfl rfl rfl<|En 12 49 rfl rfl rfl<|E0 13 rfl (pF rfl rfl)<|Eo<|Dd (by kernel_rfl) ?_
 obtain rfl := o1 hm
 exact xJ ⟨rfl, rfl, lr⟩ (.refl _)
 rintro aA _ _ ⟨rfl, rfl, aB⟩
 have hm := bO
 refine Cc _ rfl (fun Z => ?_) (fun Z => ?_)
 rw [if_pos Z] at hm
 refine Ck<|Xn<|Cb<|Cg<|M rfl rfl ?_
 obtain ⟨_, aa, hm⟩ := bS hm
 have aa := (kS aa).2
 refine Ts rfl (sb rfl rfl aa)<|As rfl rfl<|Tn<|Xm ?_
 exact xM hm ⟨rfl, rfl, ((D.trans aB))⟩ (.refl _)
 rw [if_neg (fun hh => Bool.noConfusion (hh.symm.trans Z))] at hm
 refine Ce<|Xe<|Xe<|Xo ?_
 have hm := congrArg some (bL _ (Option.some.inj hm).symm)
 obtain rfl := o1 hm
 exact xJ ⟨rfl, rfl, (D.trans aB)⟩ (.refl _)
 rintro X _ _ ⟨rfl, rfl, l⟩
 have hm := bK
 refine Cs<|Cr<|M rfl rfl<|M rfl rfl<|Ts rfl (q5 rfl rfl)<|Te ?_
 refine Cc _ rfl (fun ab => ?_) (fun ab => ?_)
 rw [if_pos (of_decide_eq_true ab)] at hm
 refine Ce<|Xe<|Xi rfl<|Xe<|Xo ?_
 have hm := congrArg some (bg _ (Option.some.inj hm).symm)
 obtain ⟨rfl, rfl⟩ := some2 hm
 exact xJ ⟨g, rfl, rfl, (ar.trans (k.trans l)), (i.le (k.trans l)), au⟩ (.refl _)
 rw [if_neg (of_decide_eq_false ab)] at hm
 refine Ck<|Xn ?_
 obtain ⟨F, ca, cb⟩ := bS hm
 refine Cj (fun ac e' hp' => ∃ (G : Hp), [(0, sv a F c), (1, iv d), (9, iv j), (10, iv W)] = e' ∧ (G ++ R) = hp' ∧ X.Le ac ∧ OS 3 (OT.fr rI) ac.w (sv a F c) F G ∧ F.length = f.length) ?_ ?_
 have hm := ca
 obtain ⟨q, cc, hm⟩ := bS hm
 obtain ⟨ad, cd, hm⟩ := bS hm
 obtain ⟨dS, ce, hm⟩ := bS hm
 obtain ⟨dT, cf, hm⟩ := bS hm
 refine Di mixed (.refl _)<|E0 0 rfl (sM rfl)<|E0 1 rfl (sM rfl)<|E0 2 rfl (sM rfl)<|E0 3 rfl (sM rfl)<|E0 4 rfl (sM rfl)<|E0 5 rfl (sM rfl) ?_
 obtain ⟨cg, ch, ci⟩ := iS cc
 obtain ⟨dU, dV, dW, dX, dY, cj, ck, cl, cm, dZ, d0⟩ := OS.get (sz := 1) rfl (by decide) (i.le (k.trans l)) ci
 obtain ⟨rfl, rfl⟩ := cj
 refine E0 6 rfl (sI cg rfl rfl ch cm cl sl33)<|Es 7 rfl (st_load_rd rfl one3 (fun w ho => ck w _ ho (List.sublist_append_left _ _) 0 _ rfl))<|E0 8 rfl (sM rfl)<|E0 9 rfl (sM rfl) ?_
 obtain ⟨cn, co, cp⟩ := iS cd
 obtain ⟨d1, d5, d6, d7, d8, cq, cr, ct, cu, d9, ea⟩ := OS.get (sz := 1) rfl (by decide) (i.le (k.trans l)) cp
 obtain ⟨rfl, rfl⟩ := cq
 refine E0 10 rfl (sI cn rfl rfl co cu ct sl33)<|Es 11 rfl (st_load_rd rfl one3 (fun w ho => cr w _ ho (List.sublist_append_left _ _) 0 _ rfl)) ?_
 obtain ⟨cv, aC, aD⟩ := iS ce
 obtain ⟨eb, ec, ed, ee, ef, cw, eg, cx, cy, eh, ei⟩ := OS.get (sz := 1) rfl (by decide) (i.le (k.trans l)) aD
 obtain ⟨rfl, rfl⟩ := cw
 refine E0 12 rfl (sI cv rfl rfl aC cy cx sl33)<|Eo<|Da [13] (by kernel_rfl) rfl ?_
 refine Rd2 lr rfl rfl (uP aC (sz := 1) (a' := q) rfl [] R 0 1 [iv q] rfl (i.le (k.trans l)) aD rfl rfl rfl siz3 rfl (mc rfl mn) (fun cs hsj hh => by obtain ⟨rfl, rfl⟩ := hh; exact ⟨by first | decide | exact Nat.le_refl _, rfl, rfl⟩)) ?_ ?_
 rintro _ _ ⟨ej, rfl, aE⟩
 refine ⟨.inl (by kernel_rfl), ?_⟩
 refine d_resp 0 rfl (v' := .slice a (put e j q).length c) (by simp only [put_length])<|d_resp 67 rfl (v' := .slice a (put e j q).length c) (by simp only [put_length]) ?_
 obtain ⟨cz, aF, aG⟩ := iS cf
 obtain ⟨ek, el, em, en, eo, cA, ep, cB, cC, eq, er⟩ := OS.get (sz := 1) rfl (by decide) aE aG
 obtain ⟨rfl, rfl⟩ := cA
 refine El lr<|E0 14 rfl (sI cz rfl rfl aF cC cB sl33)<|Eo<|Da [15] (by kernel_rfl) rfl ?_
 refine Rd2 lr rfl rfl (uP aF (sz := 1) (a' := ad) rfl [] R 0 1 [iv ad] rfl aE aG rfl rfl rfl siz3 rfl (mc rfl mn) (fun cs hsj hh => by obtain ⟨rfl, rfl⟩ := hh; exact ⟨by first | decide | exact Nat.le_refl _, rfl, rfl⟩)) ?_ ?_
 rintro _ _ ⟨cD, rfl, cE⟩
 refine ⟨.inl (by kernel_rfl), ?_⟩
 refine d_resp 0 rfl (v' := .slice a (put (put e j q) W ad).length c) (by simp only [put_length])<|Dd (by kernel_rfl) ?_
 obtain rfl := o1 hm
 exact xJ ⟨cD, rfl, rfl, lr, cE, ((put_length _ _ _).trans ((put_length _ _ _).trans au))⟩ (.refl _)
 exact Rn
 exact Rn
 rintro ac _ _ ⟨G, rfl, rfl, cG, cH, cI⟩
 have hm := cb
 refine Cr<|M rfl rfl ?_
 obtain ⟨_, ae, hm⟩ := bS hm
 have ae := (kS ae).2
 refine Ts rfl (sa rfl rfl ae)<|As rfl rfl<|Te<|Cg<|M rfl rfl ?_
 obtain ⟨_, af, hm⟩ := bS hm
 have af := (kS af).2
 refine Ts rfl (sb rfl rfl af)<|As rfl rfl<|Tn<|Xm ?_
 exact xM hm ⟨G, rfl, rfl, ((ar.trans (k.trans (l.trans cG)))), cH, cI⟩ (.refl _)
 rintro S _ _ ⟨x, rfl, rfl, cJ, cK, cM⟩
 have hm := (unc2E bf)
 refine Cr<|M rfl rfl<|As rfl rfl<|Te<|Ct ?_
 obtain ⟨rfl, rfl⟩ := some2 hm
 exact rM (rs := [.tmp 8]) (vs := [iv ao]) ⟨rfl, trivial⟩ ⟨x, rfl, rfl, cK, cM⟩ (.refl _) (bb.trans cJ)

set_option maxHeartbeats 1000000 in
set_option maxRecDepth 20000 in
theorem cSlicesPartitionOrdered (b : Base) (R : Hp) (d : Int) (r : Int) (x8 : Int) (e : (List Int)) (a : OA) (c : Nat) (hs2 : Hp) (E : OS 3 (OT.fr rI) b.w (sv a e c) e hs2) (x15339 : Int) (x15340 : Bool) (F : (List Int)) (hm : mSlicesPartitionOrdered d r x8 e = some (x15339, x15340, F)) :
    CallsG Try.prog 50 [sv a e c, iv d, iv r, iv x8] b ((hs2 ++ R)) (fun v b' hp' => ∃ (hs15337 : Hp), .tuple #[iv x15339, bv x15340] = v ∧ (hs15337 ++ R) = hp' ∧ OS 3 (OT.fr rI) b'.w (sv a F c) F hs15337 ∧ F.length = e.length) := by
 refine fE 168 Try.func50 rfl Try.ntmps50 rfl ?_
 unfold mSlicesPartitionOrdered at hm
 refine Cr<|As rfl rfl<|As rfl rfl<|Te ?_
 obtain ⟨f, hj15486, hk15486⟩ := bS hm
 refine Cj (fun x e' hp' => ∃ (m : Hp), [(0, sv a f c), (1, iv d), (2, iv r)] = e' ∧ (m ++ R) = hp' ∧ b.Le x ∧ OS 3 (OT.fr rI) x.w (sv a f c) f m ∧ f.length = e.length) ?_ ?_
 have hm := hj15486
 obtain ⟨y, h15556, hm⟩ := bS hm
 obtain ⟨x15571, h15572, hm⟩ := bS hm
 obtain ⟨x15587, h15588, hm⟩ := bS hm
 obtain ⟨x15605, h15606, hm⟩ := bS hm
 refine Di mixed (.refl _)<|E0 0 rfl (sM rfl)<|E0 1 rfl (sM rfl)<|E0 2 rfl (sM rfl)<|E0 3 rfl (sM rfl)<|E0 4 rfl (sM rfl)<|E0 5 rfl (sM rfl) ?_
 obtain ⟨j15557, hj15558, hx15559⟩ := iS h15556
 obtain ⟨cs15560, hs15565, P15566, P15567, hq15568, hr15561, hcs15562, hA15563, hlt15564, hb15569, hho15570⟩ := OS.get (sz := 1) rfl (by decide) E hx15559
 obtain ⟨rfl, rfl⟩ := hr15561
 refine E0 6 rfl (sI j15557 rfl rfl hj15558 hlt15564 hA15563 sl33)<|Es 7 rfl (st_load_rd rfl one3 (fun w ho => hcs15562 w _ ho (List.sublist_append_left _ _) 0 _ rfl))<|E0 8 rfl (sM rfl)<|E0 9 rfl (sM rfl) ?_
 obtain ⟨j15573, hj15574, hx15575⟩ := iS h15572
 obtain ⟨cs15576, hs15581, P15582, P15583, hq15584, hr15577, hcs15578, hA15579, hlt15580, hb15585, hho15586⟩ := OS.get (sz := 1) rfl (by decide) E hx15575
 obtain ⟨rfl, rfl⟩ := hr15577
 refine E0 10 rfl (sI j15573 rfl rfl hj15574 hlt15580 hA15579 sl33)<|Es 11 rfl (st_load_rd rfl one3 (fun w ho => hcs15578 w _ ho (List.sublist_append_left _ _) 0 _ rfl)) ?_
 obtain ⟨j15589, hj15590, hx15591⟩ := iS h15588
 obtain ⟨cs15592, hs15597, P15598, P15599, hq15600, hr15593, hcs15594, hA15595, hlt15596, hb15601, hho15602⟩ := OS.get (sz := 1) rfl (by decide) E hx15591
 obtain ⟨rfl, rfl⟩ := hr15593
 refine E0 12 rfl (sI j15589 rfl rfl hj15590 hlt15596 hA15595 sl33)<|Eo<|Da [13] (by kernel_rfl) rfl ?_
 refine Rd2 lr rfl rfl (uP hj15590 (sz := 1) (a' := y) rfl [] R 0 1 [iv y] rfl E hx15591 rfl rfl rfl siz3 rfl (mc rfl mn) (fun cs hsj hh => by obtain ⟨rfl, rfl⟩ := hh; exact ⟨by first | decide | exact Nat.le_refl _, rfl, rfl⟩)) ?_ ?_
 rintro _ _ ⟨hs15603, rfl, h15604⟩
 refine ⟨.inl (by kernel_rfl), ?_⟩
 refine d_resp 0 rfl (v' := .slice a (put e d y).length c) (by simp only [put_length])<|d_resp 14 rfl (v' := .slice a (put e d y).length c) (by simp only [put_length]) ?_
 obtain ⟨j15607, hj15608, hx15609⟩ := iS h15606
 obtain ⟨cs15610, hs15615, P15616, P15617, hq15618, hr15611, hcs15612, hA15613, hlt15614, hb15619, hho15620⟩ := OS.get (sz := 1) rfl (by decide) h15604 hx15609
 obtain ⟨rfl, rfl⟩ := hr15611
 refine El lr<|E0 14 rfl (sI j15607 rfl rfl hj15608 hlt15614 hA15613 sl33)<|Eo<|Da [15] (by kernel_rfl) rfl ?_
 refine Rd2 lr rfl rfl (uP hj15608 (sz := 1) (a' := x15571) rfl [] R 0 1 [iv x15571] rfl h15604 hx15609 rfl rfl rfl siz3 rfl (mc rfl mn) (fun cs hsj hh => by obtain ⟨rfl, rfl⟩ := hh; exact ⟨by first | decide | exact Nat.le_refl _, rfl, rfl⟩)) ?_ ?_
 rintro _ _ ⟨hs15621, rfl, h15622⟩
 refine ⟨.inl (by kernel_rfl), ?_⟩
 refine d_resp 0 rfl (v' := .slice a (put (put e d y) x8 x15571).length c) (by simp only [put_length])<|Dd (by kernel_rfl) ?_
 obtain rfl := o1 hm
 exact xJ ⟨hs15621, rfl, rfl, lr, h15622, ((put_length _ _ _).trans ((put_length _ _ _).trans rfl))⟩ (.refl _)
 exact Rn
 exact Rn
 rintro x _ _ ⟨m, rfl, rfl, hle15480, i, hln15485⟩
 have hm := hk15486
 refine Cr<|M rfl rfl ?_
 obtain ⟨_, h15623, hm⟩ := bS hm
 have h15623 := (kS h15623).2
 refine Ts rfl (sa rfl rfl h15623)<|M rfl rfl ?_
 obtain ⟨_, h15624, hm⟩ := bS hm
 have h15624 := (kS h15624).2
 refine Ts rfl (sb rfl rfl h15624)<|As rfl rfl<|As rfl rfl<|Te ?_
 obtain ⟨n, hj16071, hk16071⟩ := bS hm
 refine Cj (fun G e' hp' => [(0, sv a f c), (1, iv d), (10, iv n), (11, iv (r - 1))] = e' ∧ (m ++ R) = hp' ∧ x.Le G) ?_ ?_
 have hm := hj16071
 refine Cb<|cL (fun H => fun b16366 e' hp' => [(0, sv a f c), (1, iv d), (10, iv H), (11, iv (r - 1))] = e' ∧ (m ++ R) = hp' ∧ x.Le b16366) hm ⟨rfl, rfl, lr⟩ (.refl _) ?_
 rintro H b16366 _ _ oL16072 ⟨rfl, rfl, I⟩ hstepL16072 houtL16072
 unfold mSlicesPartitionOrdered_L16072 at hstepL16072
 have hm := hstepL16072
 refine Cs ?_
 obtain ⟨x16441, hj16442, hk16442⟩ := bS hm
 refine Cj (fun b16439 e' hp' => [(0, sv a f c), (1, iv d), (10, iv H), (11, iv (r - 1)), (43, bv x16441)] = e' ∧ (m ++ R) = hp' ∧ b16366.Le b16439) ?_ ?_
 have hm := hj16442
 by_cases J : H ≤ (r - 1)
 rw [if_pos J] at hm
 obtain ⟨x16479, h16480, hm⟩ := bS hm
 obtain ⟨x16495, h16496, hm⟩ := bS hm
 obtain ⟨x16511, hcl16512, hm⟩ := bS hm
 refine Di mixed (.refl _)<|E0 0 rfl (sM rfl)<|E0 1 rfl (sM rfl)<|E0 2 rfl (st_leq_t rfl rfl J)<|E0 3 rfl (sM rfl)<|Yz 4 33 rfl (sM rfl)<|Yz 5 33 rfl (sM rfl) ?_
 obtain ⟨j16481, hj16482, hx16483⟩ := iS h16480
 obtain ⟨cs16484, hs16489, P16490, P16491, hq16492, hr16485, hcs16486, hA16487, hlt16488, hb16493, hho16494⟩ := OS.get (sz := 1) rfl (by decide) (i.le I) hx16483
 obtain ⟨rfl, rfl⟩ := hr16485
 refine Yz 6 33 rfl (sI j16481 rfl rfl hj16482 hlt16488 hA16487 sl33)<|Ey 7 33 rfl (st_load_rd rfl one3 (fun w ho => hcs16486 w _ ho (List.sublist_append_left _ _) 0 _ rfl))<|Yz 8 33 rfl (sM rfl)<|Yz 9 33 rfl (sM rfl) ?_
 obtain ⟨j16497, hj16498, hx16499⟩ := iS h16496
 obtain ⟨cs16500, hs16505, P16506, P16507, hq16508, hr16501, hcs16502, hA16503, hlt16504, hb16509, hho16510⟩ := OS.get (sz := 1) rfl (by decide) (i.le I) hx16499
 obtain ⟨rfl, rfl⟩ := hr16501
 refine Yz 10 33 rfl (sI j16497 rfl rfl hj16498 hlt16504 hA16503 sl33)<|Ey 11 33 rfl (st_load_rd rfl one3 (fun w ho => hcs16502 w _ ho (List.sublist_append_left _ _) 0 _ rfl))<|Eo<|Da [12] (by kernel_rfl) rfl ?_
 refine R_doY lr rfl rfl 33 rfl rfl rfl (uW _ call48 rfl (fun w ho => cCmpLess _ [] x16479 x16495 x16511 hcl16512) (fun _ _ _ h => h.2.symm)) ?_ ?_
 rintro _ _ ⟨⟨_, rfl, _⟩, rfl⟩
 refine ⟨.inr (.refl _), ?_⟩
 refine Ei lr (.refl _)<|E0 13 rfl (pT rfl rfl)<|Eo<|Dd (by kernel_rfl) ?_
 obtain rfl := o1 hm
 exact xJ ⟨rfl, rfl, lr⟩ (.refl _)
 exact Rn
 rw [if_neg J] at hm
 refine Di mixed (.refl _)<|E0 0 rfl (sM rfl)<|E0 1 rfl (sM rfl)<|E0 2 rfl (st_leq_f rfl rfl J)<|E0 3 rfl (sM rfl)<|En 4 33 rfl rfl rfl<|En 5 33 rfl rfl rfl<|En 6 33 rfl rfl rfl<|En 7 33 rfl rfl rfl<|En 8 33 rfl rfl rfl ?_
 refine En 9 33 rfl rfl rfl<|En 10 33 rfl rfl rfl<|En 11 33 rfl rfl rfl<|En 12 33 rfl rfl rfl<|E0 13 rfl (pF rfl rfl)<|Eo<|Dd (by kernel_rfl) ?_
 obtain rfl := o1 hm
 exact xJ ⟨rfl, rfl, lr⟩ (.refl _)
 rintro b16439 _ _ ⟨rfl, rfl, hle16440⟩
 have hm := hk16442
 refine Cc _ rfl (fun hc16513 => ?_) (fun hc16513 => ?_)
 rw [if_pos hc16513] at hm
 refine Ck<|Xn<|Cb<|Cg<|M rfl rfl ?_
 obtain ⟨_, h16514, hm⟩ := bS hm
 have h16514 := (kS h16514).2
 refine Ts rfl (sa rfl rfl h16514)<|As rfl rfl<|Tn<|Xm ?_
 exact xM hm ⟨rfl, rfl, ((I.trans hle16440))⟩ (.refl _)
 rw [if_neg (fun hh => Bool.noConfusion (hh.symm.trans hc16513))] at hm
 refine Ce<|Xe<|Xe<|Xo ?_
 have hm := congrArg some (houtL16072 _ (Option.some.inj hm).symm)
 obtain rfl := o1 hm
 exact xJ ⟨rfl, rfl, (I.trans hle16440)⟩ (.refl _)
 rintro G _ _ ⟨rfl, rfl, j⟩
 have hm := hk16071
 obtain ⟨t, hj16961, hk16961⟩ := bS hm
 refine Cj (fun K e' hp' => [(0, sv a f c), (1, iv d), (10, iv n), (11, iv t)] = e' ∧ (m ++ R) = hp' ∧ G.Le K) ?_ ?_
 have hm := hj16961
 refine Cb<|cL (fun L => fun b17256 e' hp' => [(0, sv a f c), (1, iv d), (10, iv n), (11, iv L)] = e' ∧ (m ++ R) = hp' ∧ G.Le b17256) hm ⟨rfl, rfl, lr⟩ (.refl _) ?_
 rintro L b17256 _ _ oL16962 ⟨rfl, rfl, O⟩ hstepL16962 houtL16962
 unfold mSlicesPartitionOrdered_L16962 at hstepL16962
 have hm := hstepL16962
 refine Cs ?_
 obtain ⟨x17331, hj17332, hk17332⟩ := bS hm
 refine Cj (fun b17329 e' hp' => [(0, sv a f c), (1, iv d), (10, iv n), (11, iv L), (60, bv x17331)] = e' ∧ (m ++ R) = hp' ∧ b17256.Le b17329) ?_ ?_
 have hm := hj17332
 by_cases S : n ≤ L
 rw [if_pos S] at hm
 obtain ⟨x17369, h17370, hm⟩ := bS hm
 obtain ⟨x17385, h17386, hm⟩ := bS hm
 obtain ⟨x17401, hcl17402, hm⟩ := bS hm
 refine Di mixed (.refl _)<|E0 0 rfl (sM rfl)<|E0 1 rfl (sM rfl)<|E0 2 rfl (st_leq_t rfl rfl S)<|E0 3 rfl (sM rfl)<|Yz 4 49 rfl (sM rfl)<|Yz 5 49 rfl (sM rfl) ?_
 obtain ⟨j17371, hj17372, hx17373⟩ := iS h17370
 obtain ⟨cs17374, hs17379, P17380, P17381, hq17382, hr17375, hcs17376, hA17377, hlt17378, hb17383, hho17384⟩ := OS.get (sz := 1) rfl (by decide) (i.le (j.trans O)) hx17373
 obtain ⟨rfl, rfl⟩ := hr17375
 refine Yz 6 49 rfl (sI j17371 rfl rfl hj17372 hlt17378 hA17377 sl33)<|Ey 7 49 rfl (st_load_rd rfl one3 (fun w ho => hcs17376 w _ ho (List.sublist_append_left _ _) 0 _ rfl))<|Yz 8 49 rfl (sM rfl)<|Yz 9 49 rfl (sM rfl) ?_
 obtain ⟨j17387, hj17388, hx17389⟩ := iS h17386
 obtain ⟨cs17390, hs17395, P17396, P17397, hq17398, hr17391, hcs17392, hA17393, hlt17394, hb17399, hho17400⟩ := OS.get (sz := 1) rfl (by decide) (i.le (j.trans O)) hx17389
 obtain ⟨rfl, rfl⟩ := hr17391
 refine Yz 10 49 rfl (sI j17387 rfl rfl hj17388 hlt17394 hA17393 sl33)<|Ey 11 49 rfl (st_load_rd rfl one3 (fun w ho => hcs17392 w _ ho (List.sublist_append_left _ _) 0 _ rfl))<|Eo<|Da [12] (by kernel_rfl) rfl ?_
 refine R_doY lr rfl rfl 49 rfl rfl rfl (uW _ call48 rfl (fun w ho => cCmpLess _ [] x17369 x17385 x17401 hcl17402) (fun _ _ _ h => h.2.symm)) ?_ ?_
 rintro _ _ ⟨⟨_, rfl, _⟩, rfl⟩
 refine ⟨.inr (.refl _), ?_⟩
 refine Ei lr (.refl _)<|Yz 13 49 rfl (sn2 rfl)<|E0 14 rfl (pT rfl rfl)<|Eo<|Dd (by kernel_rfl) ?_
 obtain rfl := o1 hm
 exact xJ ⟨rfl, rfl, lr⟩ (.refl _)
 exact Rn
 rw [if_neg S] at hm
 refine Di mixed (.refl _)<|E0 0 rfl (sM rfl)<|E0 1 rfl (sM rfl)<|E0 2 rfl (st_leq_f rfl rfl S)<|E0 3 rfl (sM rfl)<|En 4 49 rfl rfl rfl<|En 5 49 rfl rfl rfl<|En 6 49 rfl rfl rfl<|En 7 49 rfl rfl rfl<|En 8 49 rfl rfl rfl ?_
 refine En 9 49 rfl rfl rfl<|En 10 49 rfl rfl rfl<|En 11 49 rfl rfl rfl<|En 12 49 rfl rfl rfl<|En 13 49 rfl rfl rfl<|E0 14 rfl (pF rfl rfl)<|Eo<|Dd (by kernel_rfl) ?_
 obtain rfl := o1 hm
 exact xJ ⟨rfl, rfl, lr⟩ (.refl _)
 rintro b17329 _ _ ⟨rfl, rfl, hle17330⟩
 have hm := hk17332
 refine Cc _ rfl (fun hc17403 => ?_) (fun hc17403 => ?_)
 rw [if_pos hc17403] at hm
 refine Ck<|Xn<|Cb<|Cg<|M rfl rfl ?_
 obtain ⟨_, h17404, hm⟩ := bS hm
 have h17404 := (kS h17404).2
 refine Ts rfl (sb rfl rfl h17404)<|As rfl rfl<|Tn<|Xm ?_
 exact xM hm ⟨rfl, rfl, ((O.trans hle17330))⟩ (.refl _)
 rw [if_neg (fun hh => Bool.noConfusion (hh.symm.trans hc17403))] at hm
 refine Ce<|Xe<|Xe<|Xo ?_
 have hm := congrArg some (houtL16962 _ (Option.some.inj hm).symm)
 obtain rfl := o1 hm
 exact xJ ⟨rfl, rfl, (O.trans hle17330)⟩ (.refl _)
 rintro K _ _ ⟨rfl, rfl, k⟩
 have hm := hk16961
 refine Cs<|Cr<|M rfl rfl<|M rfl rfl<|Ts rfl (q5 rfl rfl)<|Te ?_
 refine Cc _ rfl (fun hc17405 => ?_) (fun hc17405 => ?_)
 rw [if_pos (of_decide_eq_true hc17405)] at hm
 obtain ⟨l17547, hj17549, hk17549⟩ := bS hm
 refine Cj (fun b17542 e' hp' => ∃ (T : Hp), [(11, iv t)] = e' ∧ (T ++ R) = hp' ∧ K.Le b17542 ∧ OS 3 (OT.fr rI) b17542.w (sv a l17547 c) l17547 T ∧ l17547.length = e.length) ?_ ?_
 have hm := hj17549
 obtain ⟨x17618, h17619, hm⟩ := bS hm
 obtain ⟨x17634, h17635, hm⟩ := bS hm
 obtain ⟨x17650, h17651, hm⟩ := bS hm
 obtain ⟨x17668, h17669, hm⟩ := bS hm
 refine Di mixed (.refl _)<|E0 0 rfl (sM rfl)<|E0 1 rfl (sM rfl)<|E0 2 rfl (sM rfl)<|E0 3 rfl (sM rfl)<|E0 4 rfl (sM rfl)<|E0 5 rfl (sM rfl) ?_
 obtain ⟨j17620, hj17621, hx17622⟩ := iS h17619
 obtain ⟨cs17623, hs17628, P17629, P17630, hq17631, hr17624, hcs17625, hA17626, hlt17627, hb17632, hho17633⟩ := OS.get (sz := 1) rfl (by decide) (i.le (j.trans k)) hx17622
 obtain ⟨rfl, rfl⟩ := hr17624
 refine E0 6 rfl (sI j17620 rfl rfl hj17621 hlt17627 hA17626 sl33)<|Es 7 rfl (st_load_rd rfl one3 (fun w ho => hcs17625 w _ ho (List.sublist_append_left _ _) 0 _ rfl))<|E0 8 rfl (sM rfl)<|E0 9 rfl (sM rfl) ?_
 obtain ⟨j17636, hj17637, hx17638⟩ := iS h17635
 obtain ⟨cs17639, hs17644, P17645, P17646, hq17647, hr17640, hcs17641, hA17642, hlt17643, hb17648, hho17649⟩ := OS.get (sz := 1) rfl (by decide) (i.le (j.trans k)) hx17638
 obtain ⟨rfl, rfl⟩ := hr17640
 refine E0 10 rfl (sI j17636 rfl rfl hj17637 hlt17643 hA17642 sl33)<|Es 11 rfl (st_load_rd rfl one3 (fun w ho => hcs17641 w _ ho (List.sublist_append_left _ _) 0 _ rfl)) ?_
 obtain ⟨j17652, hj17653, hx17654⟩ := iS h17651
 obtain ⟨cs17655, hs17660, P17661, P17662, hq17663, hr17656, hcs17657, hA17658, hlt17659, hb17664, hho17665⟩ := OS.get (sz := 1) rfl (by decide) (i.le (j.trans k)) hx17654
 obtain ⟨rfl, rfl⟩ := hr17656
 refine E0 12 rfl (sI j17652 rfl rfl hj17653 hlt17659 hA17658 sl33)<|Eo<|Da [13] (by kernel_rfl) rfl ?_
 refine Rd2 lr rfl rfl (uP hj17653 (sz := 1) (a' := x17618) rfl [] R 0 1 [iv x17618] rfl (i.le (j.trans k)) hx17654 rfl rfl rfl siz3 rfl (mc rfl mn) (fun cs hsj hh => by obtain ⟨rfl, rfl⟩ := hh; exact ⟨by first | decide | exact Nat.le_refl _, rfl, rfl⟩)) ?_ ?_
 rintro _ _ ⟨hs17666, rfl, h17667⟩
 refine ⟨.inl (by kernel_rfl), ?_⟩
 refine d_resp 68 rfl (v' := .slice a (put f t x17618).length c) (by simp only [put_length]) ?_
 obtain ⟨j17670, hj17671, hx17672⟩ := iS h17669
 obtain ⟨cs17673, hs17678, P17679, P17680, hq17681, hr17674, hcs17675, hA17676, hlt17677, hb17682, hho17683⟩ := OS.get (sz := 1) rfl (by decide) h17667 hx17672
 obtain ⟨rfl, rfl⟩ := hr17674
 refine El lr<|E0 14 rfl (sI j17670 rfl rfl hj17671 hlt17677 hA17676 sl33)<|Eo<|Da [15] (by kernel_rfl) rfl ?_
 refine Rd2 lr rfl rfl (uP hj17671 (sz := 1) (a' := x17634) rfl [] R 0 1 [iv x17634] rfl h17667 hx17672 rfl rfl rfl siz3 rfl (mc rfl mn) (fun cs hsj hh => by obtain ⟨rfl, rfl⟩ := hh; exact ⟨by first | decide | exact Nat.le_refl _, rfl, rfl⟩)) ?_ ?_
 rintro _ _ ⟨hs17684, rfl, h17685⟩
 refine ⟨.inl (by kernel_rfl), ?_⟩
 refine Dd (by kernel_rfl) ?_
 obtain rfl := o1 hm
 exact xJ ⟨hs17684, rfl, rfl, lr, h17685, ((put_length _ _ _).trans ((put_length _ _ _).trans hln15485))⟩ (.refl _)
 exact Rn
 exact Rn
 rintro b17542 _ _ ⟨T, rfl, rfl, hle17543, h17546, hln17548⟩
 have hm := hk17549
 refine Cr<|M rfl rfl<|As rfl rfl<|As rfl rfl<|Te<|Ct<|Xr ?_
 obtain ⟨rfl, rfl, rfl⟩ := some3 hm
 exact rM (rs := [.tmp 8, .tmp 9]) (vs := [iv t, bv true]) ⟨rfl, ⟨rfl, trivial⟩⟩ ⟨T, rfl, rfl, h17546, hln17548⟩ (.refl _) (hle15480.trans (j.trans (k.trans hle17543)))
 rw [if_neg (of_decide_eq_false hc17405)] at hm
 refine Ck<|Xn ?_
 obtain ⟨U, hj17829, hk17829⟩ := bS hm
 refine Cj (fun z e' hp' => ∃ (V : Hp), [(0, sv a U c), (1, iv d), (10, iv n), (11, iv t)] = e' ∧ (V ++ R) = hp' ∧ K.Le z ∧ OS 3 (OT.fr rI) z.w (sv a U c) U V ∧ U.length = e.length) ?_ ?_
 have hm := hj17829
 obtain ⟨A, h17899, hm⟩ := bS hm
 obtain ⟨x17914, h17915, hm⟩ := bS hm
 obtain ⟨x17930, h17931, hm⟩ := bS hm
 obtain ⟨x17948, h17949, hm⟩ := bS hm
 refine Di mixed (.refl _)<|E0 0 rfl (sM rfl)<|E0 1 rfl (sM rfl)<|E0 2 rfl (sM rfl)<|E0 3 rfl (sM rfl)<|E0 4 rfl (sM rfl)<|E0 5 rfl (sM rfl) ?_
 obtain ⟨j17900, hj17901, hx17902⟩ := iS h17899
 obtain ⟨cs17903, hs17908, P17909, P17910, hq17911, hr17904, hcs17905, hA17906, hlt17907, hb17912, hho17913⟩ := OS.get (sz := 1) rfl (by decide) (i.le (j.trans k)) hx17902
 obtain ⟨rfl, rfl⟩ := hr17904
 refine E0 6 rfl (sI j17900 rfl rfl hj17901 hlt17907 hA17906 sl33)<|Es 7 rfl (st_load_rd rfl one3 (fun w ho => hcs17905 w _ ho (List.sublist_append_left _ _) 0 _ rfl))<|E0 8 rfl (sM rfl)<|E0 9 rfl (sM rfl) ?_
 obtain ⟨j17916, hj17917, hx17918⟩ := iS h17915
 obtain ⟨cs17919, hs17924, P17925, P17926, hq17927, hr17920, hcs17921, hA17922, hlt17923, hb17928, hho17929⟩ := OS.get (sz := 1) rfl (by decide) (i.le (j.trans k)) hx17918
 obtain ⟨rfl, rfl⟩ := hr17920
 refine E0 10 rfl (sI j17916 rfl rfl hj17917 hlt17923 hA17922 sl33)<|Es 11 rfl (st_load_rd rfl one3 (fun w ho => hcs17921 w _ ho (List.sublist_append_left _ _) 0 _ rfl)) ?_
 obtain ⟨j17932, hj17933, hx17934⟩ := iS h17931
 obtain ⟨cs17935, hs17940, P17941, P17942, hq17943, hr17936, hcs17937, hA17938, hlt17939, hb17944, hho17945⟩ := OS.get (sz := 1) rfl (by decide) (i.le (j.trans k)) hx17934
 obtain ⟨rfl, rfl⟩ := hr17936
 refine E0 12 rfl (sI j17932 rfl rfl hj17933 hlt17939 hA17938 sl33)<|Eo<|Da [13] (by kernel_rfl) rfl ?_
 refine Rd2 lr rfl rfl (uP hj17933 (sz := 1) (a' := A) rfl [] R 0 1 [iv A] rfl (i.le (j.trans k)) hx17934 rfl rfl rfl siz3 rfl (mc rfl mn) (fun cs hsj hh => by obtain ⟨rfl, rfl⟩ := hh; exact ⟨by first | decide | exact Nat.le_refl _, rfl, rfl⟩)) ?_ ?_
 rintro _ _ ⟨hs17946, rfl, h17947⟩
 refine ⟨.inl (by kernel_rfl), ?_⟩
 refine d_resp 0 rfl (v' := .slice a (put f n A).length c) (by simp only [put_length])<|d_resp 83 rfl (v' := .slice a (put f n A).length c) (by simp only [put_length]) ?_
 obtain ⟨j17950, hj17951, hx17952⟩ := iS h17949
 obtain ⟨cs17953, hs17958, P17959, P17960, hq17961, hr17954, hcs17955, hA17956, hlt17957, hb17962, hho17963⟩ := OS.get (sz := 1) rfl (by decide) h17947 hx17952
 obtain ⟨rfl, rfl⟩ := hr17954
 refine El lr<|E0 14 rfl (sI j17950 rfl rfl hj17951 hlt17957 hA17956 sl33)<|Eo<|Da [15] (by kernel_rfl) rfl ?_
 refine Rd2 lr rfl rfl (uP hj17951 (sz := 1) (a' := x17914) rfl [] R 0 1 [iv x17914] rfl h17947 hx17952 rfl rfl rfl siz3 rfl (mc rfl mn) (fun cs hsj hh => by obtain ⟨rfl, rfl⟩ := hh; exact ⟨by first | decide | exact Nat.le_refl _, rfl, rfl⟩)) ?_ ?_
 rintro _ _ ⟨hs17964, rfl, h17965⟩
 refine ⟨.inl (by kernel_rfl), ?_⟩
 refine d_resp 0 rfl (v' := .slice a (put (put f n A) t x17914).length c) (by simp only [put_length])<|Dd (by kernel_rfl) ?_
 obtain rfl := o1 hm
 exact xJ ⟨hs17964, rfl, rfl, lr, h17965, ((put_length _ _ _).trans ((put_length _ _ _).trans hln15485))⟩ (.refl _)
 exact Rn
 exact Rn
 rintro z _ _ ⟨V, rfl, rfl, hle17823, h17826, hln17828⟩
 have hm := hk17829
 refine Cr<|M rfl rfl ?_
 obtain ⟨_, h17966, hm⟩ := bS hm
 have h17966 := (kS h17966).2
 refine Ts rfl (sa rfl rfl h17966)<|As rfl rfl<|Te<|Cr<|M rfl rfl ?_
 obtain ⟨_, h17967, hm⟩ := bS hm
 have h17967 := (kS h17967).2
 refine Ts rfl (sb rfl rfl h17967)<|As rfl rfl<|Te ?_
 obtain ⟨⟨W, B⟩, hj24182, hk24182⟩ := bS hm
 refine Cj (fun X e' hp' => ∃ (hs24177 : Hp), [(0, sv a B c), (1, iv d), (11, iv W)] = e' ∧ (hs24177 ++ R) = hp' ∧ z.Le X ∧ OS 3 (OT.fr rI) X.w (sv a B c) B hs24177 ∧ B.length = e.length) ?_ ?_
 have hm := hj24182
 refine Cb<|cL (unc3 fun x28322 u g => fun C e' hp' => ∃ (l : Hp), [(0, sv a g c), (1, iv d), (10, iv x28322), (11, iv u)] = e' ∧ (l ++ R) = hp' ∧ z.Le C ∧ OS 3 (OT.fr rI) C.w (sv a g c) g l ∧ g.length = e.length) hm ⟨V, rfl, rfl, lr, h17826, hln17828⟩ (.refl _) ?_
 rintro ⟨x28322, u, g⟩ C _ _ oL24183 ⟨l, rfl, rfl, hle28318, o, hln28325⟩ hstepL24183 houtL24183
 unfold mSlicesPartitionOrdered_L24183 at hstepL24183
 have hm := (unc3E hstepL24183)
 refine Cb ?_
 obtain ⟨p, hj28772, hk28772⟩ := bS hm
 refine Cj (fun Y e' hp' => [(0, sv a g c), (1, iv d), (10, iv p), (11, iv u)] = e' ∧ (l ++ R) = hp' ∧ C.Le Y) ?_ ?_
 have hm := hj28772
 refine Cb<|cL (fun Z => fun b29067 e' hp' => [(0, sv a g c), (1, iv d), (10, iv Z), (11, iv u)] = e' ∧ (l ++ R) = hp' ∧ C.Le b29067) hm ⟨rfl, rfl, lr⟩ (.refl _) ?_
 rintro Z b29067 _ _ oL28773 ⟨rfl, rfl, aa⟩ hstepL28773 houtL28773
 unfold mSlicesPartitionOrdered_L28773 at hstepL28773
 have hm := hstepL28773
 refine Cs ?_
 obtain ⟨x29142, hj29143, hk29143⟩ := bS hm
 refine Cj (fun b29140 e' hp' => [(0, sv a g c), (1, iv d), (10, iv Z), (11, iv u), (112, bv x29142)] = e' ∧ (l ++ R) = hp' ∧ b29067.Le b29140) ?_ ?_
 have hm := hj29143
 by_cases ab : Z ≤ u
 rw [if_pos ab] at hm
 obtain ⟨x29180, h29181, hm⟩ := bS hm
 obtain ⟨x29196, h29197, hm⟩ := bS hm
 obtain ⟨x29212, hcl29213, hm⟩ := bS hm
 refine Di mixed (.refl _)<|E0 0 rfl (sM rfl)<|E0 1 rfl (sM rfl)<|E0 2 rfl (st_leq_t rfl rfl ab)<|E0 3 rfl (sM rfl)<|Yz 4 102 rfl (sM rfl)<|Yz 5 102 rfl (sM rfl) ?_
 obtain ⟨j29182, hj29183, hx29184⟩ := iS h29181
 obtain ⟨cs29185, hs29190, P29191, P29192, hq29193, hr29186, hcs29187, hA29188, hlt29189, hb29194, hho29195⟩ := OS.get (sz := 1) rfl (by decide) (o.le aa) hx29184
 obtain ⟨rfl, rfl⟩ := hr29186
 refine Yz 6 102 rfl (sI j29182 rfl rfl hj29183 hlt29189 hA29188 sl33)<|Ey 7 102 rfl (st_load_rd rfl one3 (fun w ho => hcs29187 w _ ho (List.sublist_append_left _ _) 0 _ rfl))<|Yz 8 102 rfl (sM rfl)<|Yz 9 102 rfl (sM rfl) ?_
 obtain ⟨j29198, hj29199, hx29200⟩ := iS h29197
 obtain ⟨cs29201, hs29206, P29207, P29208, hq29209, hr29202, hcs29203, hA29204, hlt29205, hb29210, hho29211⟩ := OS.get (sz := 1) rfl (by decide) (o.le aa) hx29200
 obtain ⟨rfl, rfl⟩ := hr29202
 refine Yz 10 102 rfl (sI j29198 rfl rfl hj29199 hlt29205 hA29204 sl33)<|Ey 11 102 rfl (st_load_rd rfl one3 (fun w ho => hcs29203 w _ ho (List.sublist_append_left _ _) 0 _ rfl))<|Eo<|Da [12] (by kernel_rfl) rfl ?_
 refine R_doY lr rfl rfl 102 rfl rfl rfl (uW _ call48 rfl (fun w ho => cCmpLess _ [] x29180 x29196 x29212 hcl29213) (fun _ _ _ h => h.2.symm)) ?_ ?_
 rintro _ _ ⟨⟨_, rfl, _⟩, rfl⟩
 refine ⟨.inr (.refl _), ?_⟩
 refine Ei lr (.refl _)<|E0 13 rfl (pT rfl rfl)<|Eo<|Dd (by kernel_rfl) ?_
 obtain rfl := o1 hm
 exact xJ ⟨rfl, rfl, lr⟩ (.refl _)
 exact Rn
 rw [if_neg ab] at hm
 refine Di mixed (.refl _)<|E0 0 rfl (sM rfl)<|E0 1 rfl (sM rfl)<|E0 2 rfl (st_leq_f rfl rfl ab)<|E0 3 rfl (sM rfl)<|En 4 102 rfl rfl rfl<|En 5 102 rfl rfl rfl<|En 6 102 rfl rfl rfl<|En 7 102 rfl rfl rfl<|En 8 102 rfl rfl rfl ?_
 refine En 9 102 rfl rfl rfl<|En 10 102 rfl rfl rfl<|En 11 102 rfl rfl rfl<|En 12 102 rfl rfl rfl<|E0 13 rfl (pF rfl rfl)<|Eo<|Dd (by kernel_rfl) ?_
 obtain rfl := o1 hm
 exact xJ ⟨rfl, rfl, lr⟩ (.refl _)
 rintro b29140 _ _ ⟨rfl, rfl, hle29141⟩
 have hm := hk29143
 refine Cc _ rfl (fun hc29214 => ?_) (fun hc29214 => ?_)
 rw [if_pos hc29214] at hm
 refine Ck<|Xn<|Cb<|Cg<|M rfl rfl ?_
 obtain ⟨_, h29215, hm⟩ := bS hm
 have h29215 := (kS h29215).2
 refine Ts rfl (sa rfl rfl h29215)<|As rfl rfl<|Tn<|Xm ?_
 exact xM hm ⟨rfl, rfl, ((aa.trans hle29141))⟩ (.refl _)
 rw [if_neg (fun hh => Bool.noConfusion (hh.symm.trans hc29214))] at hm
 refine Ce<|Xe<|Xe<|Xo ?_
 have hm := congrArg some (houtL28773 _ (Option.some.inj hm).symm)
 obtain rfl := o1 hm
 exact xJ ⟨rfl, rfl, (aa.trans hle29141)⟩ (.refl _)
 rintro Y _ _ ⟨rfl, rfl, q⟩
 have hm := hk28772
 obtain ⟨x29661, hj29662, hk29662⟩ := bS hm
 refine Cj (fun b29659 e' hp' => [(0, sv a g c), (1, iv d), (10, iv p), (11, iv x29661)] = e' ∧ (l ++ R) = hp' ∧ Y.Le b29659) ?_ ?_
 have hm := hj29662
 refine Cb<|cL (fun ac => fun b29957 e' hp' => [(0, sv a g c), (1, iv d), (10, iv p), (11, iv ac)] = e' ∧ (l ++ R) = hp' ∧ Y.Le b29957) hm ⟨rfl, rfl, lr⟩ (.refl _) ?_
 rintro ac b29957 _ _ oL29663 ⟨rfl, rfl, ad⟩ hstepL29663 houtL29663
 unfold mSlicesPartitionOrdered_L29663 at hstepL29663
 have hm := hstepL29663
 refine Cs ?_
 obtain ⟨x30032, hj30033, hk30033⟩ := bS hm
 refine Cj (fun b30030 e' hp' => [(0, sv a g c), (1, iv d), (10, iv p), (11, iv ac), (129, bv x30032)] = e' ∧ (l ++ R) = hp' ∧ b29957.Le b30030) ?_ ?_
 have hm := hj30033
 by_cases ae : p ≤ ac
 rw [if_pos ae] at hm
 obtain ⟨x30070, h30071, hm⟩ := bS hm
 obtain ⟨x30086, h30087, hm⟩ := bS hm
 obtain ⟨x30102, hcl30103, hm⟩ := bS hm
 refine Di mixed (.refl _)<|E0 0 rfl (sM rfl)<|E0 1 rfl (sM rfl)<|E0 2 rfl (st_leq_t rfl rfl ae)<|E0 3 rfl (sM rfl)<|Yz 4 118 rfl (sM rfl)<|Yz 5 118 rfl (sM rfl) ?_
 obtain ⟨j30072, hj30073, hx30074⟩ := iS h30071
 obtain ⟨cs30075, hs30080, P30081, P30082, hq30083, hr30076, hcs30077, hA30078, hlt30079, hb30084, hho30085⟩ := OS.get (sz := 1) rfl (by decide) (o.le (q.trans ad)) hx30074
 obtain ⟨rfl, rfl⟩ := hr30076
 refine Yz 6 118 rfl (sI j30072 rfl rfl hj30073 hlt30079 hA30078 sl33)<|Ey 7 118 rfl (st_load_rd rfl one3 (fun w ho => hcs30077 w _ ho (List.sublist_append_left _ _) 0 _ rfl))<|Yz 8 118 rfl (sM rfl)<|Yz 9 118 rfl (sM rfl) ?_
 obtain ⟨j30088, hj30089, hx30090⟩ := iS h30087
 obtain ⟨cs30091, hs30096, P30097, P30098, hq30099, hr30092, hcs30093, hA30094, hlt30095, hb30100, hho30101⟩ := OS.get (sz := 1) rfl (by decide) (o.le (q.trans ad)) hx30090
 obtain ⟨rfl, rfl⟩ := hr30092
 refine Yz 10 118 rfl (sI j30088 rfl rfl hj30089 hlt30095 hA30094 sl33)<|Ey 11 118 rfl (st_load_rd rfl one3 (fun w ho => hcs30093 w _ ho (List.sublist_append_left _ _) 0 _ rfl))<|Eo<|Da [12] (by kernel_rfl) rfl ?_
 refine R_doY lr rfl rfl 118 rfl rfl rfl (uW _ call48 rfl (fun w ho => cCmpLess _ [] x30070 x30086 x30102 hcl30103) (fun _ _ _ h => h.2.symm)) ?_ ?_
 rintro _ _ ⟨⟨_, rfl, _⟩, rfl⟩
 refine ⟨.inr (.refl _), ?_⟩
 refine Ei lr (.refl _)<|Yz 13 118 rfl (sn2 rfl)<|E0 14 rfl (pT rfl rfl)<|Eo<|Dd (by kernel_rfl) ?_
 obtain rfl := o1 hm
 exact xJ ⟨rfl, rfl, lr⟩ (.refl _)
 exact Rn
 rw [if_neg ae] at hm
 refine Di mixed (.refl _)<|E0 0 rfl (sM rfl)<|E0 1 rfl (sM rfl)<|E0 2 rfl (st_leq_f rfl rfl ae)<|E0 3 rfl (sM rfl)<|En 4 118 rfl rfl rfl<|En 5 118 rfl rfl rfl<|En 6 118 rfl rfl rfl<|En 7 118 rfl rfl rfl<|En 8 118 rfl rfl rfl ?_
 refine En 9 118 rfl rfl rfl<|En 10 118 rfl rfl rfl<|En 11 118 rfl rfl rfl<|En 12 118 rfl rfl rfl<|En 13 118 rfl rfl rfl<|E0 14 rfl (pF rfl rfl)<|Eo<|Dd (by kernel_rfl) ?_
 obtain rfl := o1 hm
 exact xJ ⟨rfl, rfl, lr⟩ (.refl _)
 rintro b30030 _ _ ⟨rfl, rfl, hle30031⟩
 have hm := hk30033
 refine Cc _ rfl (fun hc30104 => ?_) (fun hc30104 => ?_)
 rw [if_pos hc30104] at hm
 refine Ck<|Xn<|Cb<|Cg<|M rfl rfl ?_
 obtain ⟨_, h30105, hm⟩ := bS hm
 have h30105 := (kS h30105).2
 refine Ts rfl (sb rfl rfl h30105)<|As rfl rfl<|Tn<|Xm ?_
 exact xM hm ⟨rfl, rfl, ((ad.trans hle30031))⟩ (.refl _)
 rw [if_neg (fun hh => Bool.noConfusion (hh.symm.trans hc30104))] at hm
 refine Ce<|Xe<|Xe<|Xo ?_
 have hm := congrArg some (houtL29663 _ (Option.some.inj hm).symm)
 obtain rfl := o1 hm
 exact xJ ⟨rfl, rfl, (ad.trans hle30031)⟩ (.refl _)
 rintro b29659 _ _ ⟨rfl, rfl, s⟩
 have hm := hk29662
 refine Cs<|Cr<|M rfl rfl<|M rfl rfl<|Ts rfl (q5 rfl rfl)<|Te ?_
 refine Cc _ rfl (fun hc30106 => ?_) (fun hc30106 => ?_)
 rw [if_pos (of_decide_eq_true hc30106)] at hm
 refine Ce<|Xe<|Xi rfl<|Xe<|Xo ?_
 have hm := congrArg some (houtL24183 _ (Option.some.inj hm).symm)
 obtain ⟨rfl, rfl⟩ := some2 hm
 exact xJ ⟨l, rfl, rfl, (hle28318.trans (q.trans s)), (o.le (q.trans s)), hln28325⟩ (.refl _)
 rw [if_neg (of_decide_eq_false hc30106)] at hm
 refine Ck<|Xn ?_
 obtain ⟨af, hj30250, hk30250⟩ := bS hm
 refine Cj (fun b30243 e' hp' => ∃ (ag : Hp), [(0, sv a af c), (1, iv d), (10, iv p), (11, iv x29661)] = e' ∧ (ag ++ R) = hp' ∧ b29659.Le b30243 ∧ OS 3 (OT.fr rI) b30243.w (sv a af c) af ag ∧ af.length = e.length) ?_ ?_
 have hm := hj30250
 obtain ⟨D, h30320, hm⟩ := bS hm
 obtain ⟨x30335, h30336, hm⟩ := bS hm
 obtain ⟨x30351, h30352, hm⟩ := bS hm
 obtain ⟨x30369, h30370, hm⟩ := bS hm
 refine Di mixed (.refl _)<|E0 0 rfl (sM rfl)<|E0 1 rfl (sM rfl)<|E0 2 rfl (sM rfl)<|E0 3 rfl (sM rfl)<|E0 4 rfl (sM rfl)<|E0 5 rfl (sM rfl) ?_
 obtain ⟨j30321, hj30322, hx30323⟩ := iS h30320
 obtain ⟨cs30324, hs30329, P30330, P30331, hq30332, hr30325, hcs30326, hA30327, hlt30328, hb30333, hho30334⟩ := OS.get (sz := 1) rfl (by decide) (o.le (q.trans s)) hx30323
 obtain ⟨rfl, rfl⟩ := hr30325
 refine E0 6 rfl (sI j30321 rfl rfl hj30322 hlt30328 hA30327 sl33)<|Es 7 rfl (st_load_rd rfl one3 (fun w ho => hcs30326 w _ ho (List.sublist_append_left _ _) 0 _ rfl))<|E0 8 rfl (sM rfl)<|E0 9 rfl (sM rfl) ?_
 obtain ⟨j30337, hj30338, hx30339⟩ := iS h30336
 obtain ⟨cs30340, hs30345, P30346, P30347, hq30348, hr30341, hcs30342, hA30343, hlt30344, hb30349, hho30350⟩ := OS.get (sz := 1) rfl (by decide) (o.le (q.trans s)) hx30339
 obtain ⟨rfl, rfl⟩ := hr30341
 refine E0 10 rfl (sI j30337 rfl rfl hj30338 hlt30344 hA30343 sl33)<|Es 11 rfl (st_load_rd rfl one3 (fun w ho => hcs30342 w _ ho (List.sublist_append_left _ _) 0 _ rfl)) ?_
 obtain ⟨j30353, hj30354, hx30355⟩ := iS h30352
 obtain ⟨cs30356, hs30361, P30362, P30363, hq30364, hr30357, hcs30358, hA30359, hlt30360, hb30365, hho30366⟩ := OS.get (sz := 1) rfl (by decide) (o.le (q.trans s)) hx30355
 obtain ⟨rfl, rfl⟩ := hr30357
 refine E0 12 rfl (sI j30353 rfl rfl hj30354 hlt30360 hA30359 sl33)<|Eo<|Da [13] (by kernel_rfl) rfl ?_
 refine Rd2 lr rfl rfl (uP hj30354 (sz := 1) (a' := D) rfl [] R 0 1 [iv D] rfl (o.le (q.trans s)) hx30355 rfl rfl rfl siz3 rfl (mc rfl mn) (fun cs hsj hh => by obtain ⟨rfl, rfl⟩ := hh; exact ⟨by first | decide | exact Nat.le_refl _, rfl, rfl⟩)) ?_ ?_
 rintro _ _ ⟨hs30367, rfl, h30368⟩
 refine ⟨.inl (by kernel_rfl), ?_⟩
 refine d_resp 0 rfl (v' := .slice a (put g p D).length c) (by simp only [put_length])<|d_resp 137 rfl (v' := .slice a (put g p D).length c) (by simp only [put_length]) ?_
 obtain ⟨j30371, hj30372, hx30373⟩ := iS h30370
 obtain ⟨cs30374, hs30379, P30380, P30381, hq30382, hr30375, hcs30376, hA30377, hlt30378, hb30383, hho30384⟩ := OS.get (sz := 1) rfl (by decide) h30368 hx30373
 obtain ⟨rfl, rfl⟩ := hr30375
 refine El lr<|E0 14 rfl (sI j30371 rfl rfl hj30372 hlt30378 hA30377 sl33)<|Eo<|Da [15] (by kernel_rfl) rfl ?_
 refine Rd2 lr rfl rfl (uP hj30372 (sz := 1) (a' := x30335) rfl [] R 0 1 [iv x30335] rfl h30368 hx30373 rfl rfl rfl siz3 rfl (mc rfl mn) (fun cs hsj hh => by obtain ⟨rfl, rfl⟩ := hh; exact ⟨by first | decide | exact Nat.le_refl _, rfl, rfl⟩)) ?_ ?_
 rintro _ _ ⟨hs30385, rfl, h30386⟩
 refine ⟨.inl (by kernel_rfl), ?_⟩
 refine d_resp 0 rfl (v' := .slice a (put (put g p D) x29661 x30335).length c) (by simp only [put_length])<|Dd (by kernel_rfl) ?_
 obtain rfl := o1 hm
 exact xJ ⟨hs30385, rfl, rfl, lr, h30386, ((put_length _ _ _).trans ((put_length _ _ _).trans hln28325))⟩ (.refl _)
 exact Rn
 exact Rn
 rintro b30243 _ _ ⟨ag, rfl, rfl, hle30244, h30247, hln30249⟩
 have hm := hk30250
 refine Cr<|M rfl rfl ?_
 obtain ⟨_, h30387, hm⟩ := bS hm
 have h30387 := (kS h30387).2
 refine Ts rfl (sa rfl rfl h30387)<|As rfl rfl<|Te<|Cg<|M rfl rfl ?_
 obtain ⟨_, h30388, hm⟩ := bS hm
 have h30388 := (kS h30388).2
 refine Ts rfl (sb rfl rfl h30388)<|As rfl rfl<|Tn<|Xm ?_
 exact xM hm ⟨ag, rfl, rfl, ((hle28318.trans (q.trans (s.trans hle30244)))), h30247, hln30249⟩ (.refl _)
 rintro X _ _ ⟨hs24177, rfl, rfl, hle24175, ah, hln24181⟩
 have hm := (unc2E hk24182)
 obtain ⟨l30530, hj30532, hk30532⟩ := bS hm
 refine Cj (fun b30525 e' hp' => ∃ (ai : Hp), [(11, iv W)] = e' ∧ (ai ++ R) = hp' ∧ X.Le b30525 ∧ OS 3 (OT.fr rI) b30525.w (sv a l30530 c) l30530 ai ∧ l30530.length = e.length) ?_ ?_
 have hm := hj30532
 obtain ⟨x30601, h30602, hm⟩ := bS hm
 obtain ⟨x30617, h30618, hm⟩ := bS hm
 obtain ⟨x30633, h30634, hm⟩ := bS hm
 obtain ⟨x30651, h30652, hm⟩ := bS hm
 refine Di mixed (.refl _)<|E0 0 rfl (sM rfl)<|E0 1 rfl (sM rfl)<|E0 2 rfl (sM rfl)<|E0 3 rfl (sM rfl)<|E0 4 rfl (sM rfl)<|E0 5 rfl (sM rfl) ?_
 obtain ⟨j30603, hj30604, hx30605⟩ := iS h30602
 obtain ⟨cs30606, hs30611, P30612, P30613, hq30614, hr30607, hcs30608, hA30609, hlt30610, hb30615, hho30616⟩ := OS.get (sz := 1) rfl (by decide) ah hx30605
 obtain ⟨rfl, rfl⟩ := hr30607
 refine E0 6 rfl (sI j30603 rfl rfl hj30604 hlt30610 hA30609 sl33)<|Es 7 rfl (st_load_rd rfl one3 (fun w ho => hcs30608 w _ ho (List.sublist_append_left _ _) 0 _ rfl))<|E0 8 rfl (sM rfl)<|E0 9 rfl (sM rfl) ?_
 obtain ⟨j30619, hj30620, hx30621⟩ := iS h30618
 obtain ⟨cs30622, hs30627, P30628, P30629, hq30630, hr30623, hcs30624, hA30625, hlt30626, hb30631, hho30632⟩ := OS.get (sz := 1) rfl (by decide) ah hx30621
 obtain ⟨rfl, rfl⟩ := hr30623
 refine E0 10 rfl (sI j30619 rfl rfl hj30620 hlt30626 hA30625 sl33)<|Es 11 rfl (st_load_rd rfl one3 (fun w ho => hcs30624 w _ ho (List.sublist_append_left _ _) 0 _ rfl)) ?_
 obtain ⟨j30635, hj30636, hx30637⟩ := iS h30634
 obtain ⟨cs30638, hs30643, P30644, P30645, hq30646, hr30639, hcs30640, hA30641, hlt30642, hb30647, hho30648⟩ := OS.get (sz := 1) rfl (by decide) ah hx30637
 obtain ⟨rfl, rfl⟩ := hr30639
 refine E0 12 rfl (sI j30635 rfl rfl hj30636 hlt30642 hA30641 sl33)<|Eo<|Da [13] (by kernel_rfl) rfl ?_
 refine Rd2 lr rfl rfl (uP hj30636 (sz := 1) (a' := x30601) rfl [] R 0 1 [iv x30601] rfl ah hx30637 rfl rfl rfl siz3 rfl (mc rfl mn) (fun cs hsj hh => by obtain ⟨rfl, rfl⟩ := hh; exact ⟨by first | decide | exact Nat.le_refl _, rfl, rfl⟩)) ?_ ?_
 rintro _ _ ⟨hs30649, rfl, h30650⟩
 refine ⟨.inl (by kernel_rfl), ?_⟩
 refine d_resp 155 rfl (v' := .slice a (put B W x30601).length c) (by simp only [put_length]) ?_
 obtain ⟨j30653, hj30654, hx30655⟩ := iS h30652
 obtain ⟨cs30656, hs30661, P30662, P30663, hq30664, hr30657, hcs30658, hA30659, hlt30660, hb30665, hho30666⟩ := OS.get (sz := 1) rfl (by decide) h30650 hx30655
 obtain ⟨rfl, rfl⟩ := hr30657
 refine El lr<|E0 14 rfl (sI j30653 rfl rfl hj30654 hlt30660 hA30659 sl33)<|Eo<|Da [15] (by kernel_rfl) rfl ?_
 refine Rd2 lr rfl rfl (uP hj30654 (sz := 1) (a' := x30617) rfl [] R 0 1 [iv x30617] rfl h30650 hx30655 rfl rfl rfl siz3 rfl (mc rfl mn) (fun cs hsj hh => by obtain ⟨rfl, rfl⟩ := hh; exact ⟨by first | decide | exact Nat.le_refl _, rfl, rfl⟩)) ?_ ?_
 rintro _ _ ⟨hs30667, rfl, h30668⟩
 refine ⟨.inl (by kernel_rfl), ?_⟩
 refine Dd (by kernel_rfl) ?_
 obtain rfl := o1 hm
 exact xJ ⟨hs30667, rfl, rfl, lr, h30668, ((put_length _ _ _).trans ((put_length _ _ _).trans hln24181))⟩ (.refl _)
 exact Rn
 exact Rn
 rintro b30525 _ _ ⟨ai, rfl, rfl, hle30526, h30529, hln30531⟩
 have hm := hk30532
 refine Cr<|M rfl rfl<|As rfl rfl<|As rfl rfl<|Te<|Ct ?_
 obtain ⟨rfl, rfl, rfl⟩ := some3 hm
 exact rM (rs := [.tmp 8, .tmp 9]) (vs := [iv W, bv false]) ⟨rfl, ⟨rfl, trivial⟩⟩ ⟨ai, rfl, rfl, h30529, hln30531⟩ (.refl _) (hle15480.trans (j.trans (k.trans (hle17823.trans (hle24175.trans hle30526)))))

set_option maxRecDepth 20000 in
theorem cSlicesNextPowerOfTwo (b : Base) (R : Hp) (a : Int) (d : Int) (hm : mSlicesNextPowerOfTwo a = some d) :
    CallsG Try.prog 56 [iv a] b (R) (fun v b' hp' => .int .u64 (d) = v ∧ R = hp') := by
 refine fE 7 Try.func56 rfl Try.ntmps56 rfl ?_
 unfold mSlicesNextPowerOfTwo at hm
 refine Cr<|As rfl rfl<|Te<|Cr<|M rfl rfl<|Ts rfl (st_conv rfl int3_i64 int76_u64) ?_
 obtain ⟨e, f, hm⟩ := bS hm
 refine Do rfl (uW _ call36 rfl (fun w ho => cBitsLen _ [] (IntKind.wrap .u64 a) e f) (fun _ _ _ h => h.2.symm)) ?_
 rintro _ _ ⟨⟨_, rfl, _⟩, rfl⟩
 obtain ⟨_, c, hm⟩ := bS hm
 have c := shN_some c
 refine Ts rfl (st_shl rfl rfl c)<|As rfl rfl<|Te<|Ct ?_
 obtain rfl := o1 hm
 exact rM (rs := [.tmp 2]) (vs := [.int .u64 (shlI .u64 1 e)]) ⟨rfl, trivial⟩ ⟨rfl, rfl⟩ (.refl _) lr

set_option maxRecDepth 20000 in
theorem cSlicesXorshiftNext (b : Base) (R : Hp) (a : Int) (c : Nat) (g : Int) (h : Int) (hm : mSlicesXorshiftNext a = some (g, h)) :
    CallsG Try.prog 57 [pb c] b ((c, Cl 96 [.int .u64 (a)]) :: R) (fun v b' hp' => .int .u64 (g) = v ∧ (c, Cl 96 [.int .u64 (h)]) :: R = hp') := by
 refine fE 33 Try.func57 rfl Try.ntmps57 rfl ?_
 unfold mSlicesXorshiftNext at hm
 refine Cr<|As rfl rfl<|Te<|Cs ?_
 obtain ⟨_, d, hm⟩ := bS hm
 refine Di mixed (.refl _)<|E0 0 rfl (sM rfl)<|E0 1 rfl (sN rfl)<|Es 2 rfl (sL 0 rfl one96 rfl rfl)<|E0 3 rfl (sM rfl)<|E0 4 rfl (sN rfl)<|Es 5 rfl (sL 0 rfl one96 rfl rfl) ?_
 have d := shN_some d
 refine E0 6 rfl (st_shl rfl rfl d)<|E0 7 rfl (st_xor rfl rfl)<|E0 8 rfl (sN rfl)<|Eo<|Da [9] (by kernel_rfl) rfl ?_
 refine Rd2 lr rfl rfl (uS 0 rfl rfl siz96 rfl rfl (by simp)) ?_ ?_
 rintro _ _ rfl
 refine ⟨.inl (by kernel_rfl), ?_⟩
 refine Dd (by kernel_rfl)<|Xn<|Cs ?_
 obtain ⟨_, e, hm⟩ := bS hm
 refine Di mixed (.refl _)<|E0 0 rfl (sM rfl)<|E0 1 rfl (sN rfl)<|Es 2 rfl (sL 0 rfl one96 rfl rfl)<|E0 3 rfl (sM rfl)<|E0 4 rfl (sN rfl)<|Es 5 rfl (sL 0 rfl one96 rfl rfl) ?_
 have e := shN_some e
 refine E0 6 rfl (st_shr rfl rfl e)<|E0 7 rfl (st_xor rfl rfl)<|E0 8 rfl (sN rfl)<|Eo<|Da [9] (by kernel_rfl) rfl ?_
 refine Rd2 lr rfl rfl (uS 0 rfl rfl siz96 rfl rfl (by simp)) ?_ ?_
 rintro _ _ rfl
 refine ⟨.inl (by kernel_rfl), ?_⟩
 refine Dd (by kernel_rfl)<|Xn<|Cs ?_
 obtain ⟨_, f, hm⟩ := bS hm
 refine Di mixed (.refl _)<|E0 0 rfl (sM rfl)<|E0 1 rfl (sN rfl)<|Es 2 rfl (sL 0 rfl one96 rfl rfl)<|E0 3 rfl (sM rfl)<|E0 4 rfl (sN rfl)<|Es 5 rfl (sL 0 rfl one96 rfl rfl) ?_
 have f := shN_some f
 refine E0 6 rfl (st_shl rfl rfl f)<|E0 7 rfl (st_xor rfl rfl)<|E0 8 rfl (sN rfl)<|Eo<|Da [9] (by kernel_rfl) rfl ?_
 refine Rd2 lr rfl rfl (uS 0 rfl rfl siz96 rfl rfl (by simp)) ?_ ?_
 rintro _ _ rfl
 refine ⟨.inl (by kernel_rfl), ?_⟩
 refine Dd (by kernel_rfl)<|Xn<|Cr<|M rfl rfl<|Ts rfl (sN rfl)<|Ts rfl (sL 0 rfl one96 rfl rfl)<|As rfl rfl<|Te<|Ct ?_
 obtain ⟨rfl, rfl⟩ := some2 hm
 exact rM (rs := [.tmp 2]) (vs := [.int .u64 (xorI .u64 (xorI .u64 (xorI .u64 a (shlI .u64 a 13)) (shrI .u64 (xorI .u64 a (shlI .u64 a 13)) 7)) (shlI .u64 (xorI .u64 (xorI .u64 a (shlI .u64 a 13)) (shrI .u64 (xorI .u64 a (shlI .u64 a 13)) 7)) 17))]) ⟨rfl, trivial⟩ ⟨rfl, rfl⟩ (.refl _) lr
 exact Rn
 exact Rn
 exact Rn

set_option maxRecDepth 20000 in
theorem cSlicesBreakPatternsOrdered (b : Base) (R : Hp) (e : Int) (i : Int) (f : (List Int)) (a : OA) (c : Nat) (p : Hp) (S : OS 3 (OT.fr rI) b.w (sv a f c) f p) (q : (List Int)) (hm : mSlicesBreakPatternsOrdered e i f = some q) :
    CallsG Try.prog 44 [sv a f c, iv e, iv i] b ((p ++ R)) (fun v b' hp' => ∃ (T : Hp), .tuple #[] = v ∧ (T ++ R) = hp' ∧ OS 3 (OT.fr rI) b'.w (sv a q c) q T ∧ q.length = f.length) := by
 refine fE 65 Try.func44 rfl Try.ntmps44 rfl ?_
 unfold mSlicesBreakPatternsOrdered at hm
 refine Cr<|M rfl rfl<|M rfl rfl ?_
 obtain ⟨_, r, hm⟩ := bS hm
 have r := (kS r).2
 refine Ts rfl (sb rfl rfl r)<|As rfl rfl<|Te<|Cr<|M rfl rfl<|Ts rfl (q6 rfl rfl)<|Te ?_
 refine Cc _ rfl (fun s => ?_) (fun s => ?_)
 rw [if_pos (of_decide_eq_true s)] at hm
 refine Cr<|M rfl rfl<|Ts rfl (st_conv rfl int3_i64 int96_u64)<|Do rfl (uA [.int .u64 0] zero96 rfl) ?_
 rintro _ _ ⟨j, rfl, rfl⟩
 refine Do rfl (uS 0 rfl rfl siz96 rfl rfl (by simp)) ?_
 rintro _ _ rfl
 refine Te<|Cr<|M rfl rfl ?_
 obtain ⟨t, af, hm⟩ := bS hm
 refine Do rfl (uW _ call56 rfl (fun w ho => cSlicesNextPowerOfTwo _ [] (i - e) t af) (fun _ _ _ h => h.2.symm)) ?_
 rintro _ _ ⟨⟨_, rfl, _⟩, rfl⟩
 refine As rfl rfl<|Te<|Cr<|M rfl rfl<|M rfl rfl ?_
 obtain ⟨_, ag, hm⟩ := bS hm
 obtain ⟨_, u, hm⟩ := bS hm
 have u := (kS u).2
 refine Ts rfl (st_quo rfl rfl (ne0_some ag) u) ?_
 obtain ⟨_, x, hm⟩ := bS hm
 have x := (kS x).2
 refine Ts rfl (st_mul rfl rfl x) ?_
 obtain ⟨_, y, hm⟩ := bS hm
 have y := (kS y).2
 refine Ts rfl (sa rfl rfl y) ?_
 obtain ⟨_, z, hm⟩ := bS hm
 have z := (kS z).2
 refine Ts rfl (sb rfl rfl z)<|As rfl rfl<|Te<|Cb<|cL (unc3 fun g A d => fun B e' hp' => ∃ (k : Hp), [(0, sv a d c), (1, iv e), (6, iv (i - e)), (7, pb j), (8, .int .u64 (t)), (9, iv g)] = e' ∧ (j, Cl 96 [.int .u64 (A)]) :: (k ++ R) = hp' ∧ b.Le B ∧ OS 3 (OT.fr rI) B.w (sv a d c) d k ∧ d.length = f.length) hm ⟨p, rfl, rfl, lr, S, rfl⟩ (.refl _) ?_
 rintro ⟨g, A, d⟩ B _ _ aT ⟨k, rfl, rfl, U, l, V⟩ W ah
 unfold mSlicesBreakPatternsOrdered_L531 at W
 have hm := (unc3E W)
 refine Cs<|Cr<|M rfl rfl<|M rfl rfl<|M rfl rfl ?_
 obtain ⟨_, ai, hm⟩ := bS hm
 obtain ⟨_, C, hm⟩ := bS hm
 have C := (kS C).2
 refine Ts rfl (st_quo rfl rfl (ne0_some ai) C) ?_
 obtain ⟨_, D, hm⟩ := bS hm
 have D := (kS D).2
 refine Ts rfl (st_mul rfl rfl D) ?_
 obtain ⟨_, E, hm⟩ := bS hm
 have E := (kS E).2
 refine Ts rfl (sa rfl rfl E) ?_
 obtain ⟨_, F, hm⟩ := bS hm
 have F := (kS F).2
 refine Ts rfl (sa rfl rfl F)<|Ts rfl (q4 rfl rfl)<|Te ?_
 refine Cc _ rfl (fun G => ?_) (fun G => ?_)
 rw [if_pos (of_decide_eq_true G)] at hm
 refine Ck<|Xn<|Cs<|Cb<|Cr ?_
 obtain ⟨⟨aj, X⟩, ak, hm⟩ := bS hm
 have hm := (unc2E hm)
 refine Tg _ rfl call57 rfl (cSlicesXorshiftNext _ _ A j aj X ak) ?_
 rintro _ al _ m ⟨rfl, rfl⟩
 refine M rfl rfl<|Ts rfl (st_sub_w rfl rfl)<|Ts rfl (st_and rfl rfl)<|Ts rfl (st_conv rfl int76_u64 int3_i64)<|As rfl rfl<|Te ?_
 obtain ⟨Y, am, an⟩ := bS hm
 refine Cj (fun Z e' hp' => [(0, sv a d c), (1, iv e), (6, iv (i - e)), (7, pb j), (8, .int .u64 (t)), (9, iv g), (10, iv Y)] = e' ∧ (j, Cl 96 [.int .u64 (X)]) :: (k ++ R) = hp' ∧ al.Le Z) ?_ ?_
 have hm := am
 refine Cr<|M rfl rfl<|M rfl rfl<|Ts rfl (q6 rfl rfl)<|Te ?_
 refine Cc _ rfl (fun H => ?_) (fun H => ?_)
 rw [if_pos (of_decide_eq_true H)] at hm
 refine Cg<|M rfl rfl<|M rfl rfl ?_
 obtain ⟨_, I, hm⟩ := bS hm
 have I := (kS I).2
 refine Ts rfl (sb rfl rfl I)<|As rfl rfl<|Tn ?_
 obtain rfl := o1 hm
 exact xJ ⟨rfl, rfl, lr⟩ (.refl _)
 rw [if_neg (of_decide_eq_false H)] at hm
 refine Ck ?_
 obtain rfl := o1 hm
 exact xJ ⟨rfl, rfl, lr⟩ (.refl _)
 rintro Z _ _ ⟨rfl, rfl, n⟩
 have hm := an
 obtain ⟨_, J, hm⟩ := bS hm
 obtain ⟨_, K, hm⟩ := bS hm
 obtain ⟨o, ao, hm⟩ := bS hm
 obtain ⟨L, aq, hm⟩ := bS hm
 obtain ⟨aU, ar, hm⟩ := bS hm
 obtain ⟨aV, au, hm⟩ := bS hm
 refine Di mixed (.refl _)<|E0 0 rfl (sM rfl)<|E0 1 rfl (sM rfl)<|E0 2 rfl (sM rfl)<|E0 3 rfl (sM rfl)<|E0 4 rfl (sM rfl) ?_
 have J := (kS J).2
 refine E0 5 rfl (sa rfl rfl J)<|E0 6 rfl (sM rfl)<|E0 7 rfl (sM rfl)<|E0 8 rfl (sM rfl) ?_
 have K := (kS K).2
 refine E0 9 rfl (sa rfl rfl K) ?_
 obtain ⟨av, aw, ax⟩ := iS ao
 obtain ⟨aW, aX, aY, aZ, a0, ay, az, aA, aB, a1, a2⟩ := OS.get (sz := 1) rfl (by decide) (l.le (m.trans n)) ax
 obtain ⟨rfl, rfl⟩ := ay
 refine E0 10 rfl (sI av rfl rfl aw aB aA sl33)<|Es 11 rfl (st_load_rd rfl one3 (fun w ho => az w _ ho (.cons _ (List.sublist_append_left _ _)) 0 _ rfl))<|E0 12 rfl (sM rfl)<|E0 13 rfl (sM rfl) ?_
 obtain ⟨aC, aD, aE⟩ := iS aq
 obtain ⟨a3, a4, a5, a6, a7, aF, aG, aH, aI, a8, a9⟩ := OS.get (sz := 1) rfl (by decide) (l.le (m.trans n)) aE
 obtain ⟨rfl, rfl⟩ := aF
 refine E0 14 rfl (sI aC rfl rfl aD aI aH sl33)<|Es 15 rfl (st_load_rd rfl one3 (fun w ho => aG w _ ho (.cons _ (List.sublist_append_left _ _)) 0 _ rfl)) ?_
 obtain ⟨aJ, aa, ab⟩ := iS ar
 obtain ⟨ba, bb, bc, bd, be, aK, bf, aL, aM, bg, bh⟩ := OS.get (sz := 1) rfl (by decide) (l.le (m.trans n)) ab
 obtain ⟨rfl, rfl⟩ := aK
 refine E0 16 rfl (sI aJ rfl rfl aa aM aL sl33)<|Eo<|Da [17] (by kernel_rfl) rfl ?_
 refine Rd2 lr rfl rfl (uP aa (sz := 1) (a' := o) rfl [_] R 0 1 [iv o] rfl (l.le (m.trans n)) ab rfl rfl rfl siz3 rfl (mc rfl mn) (fun cs hsj hh => by obtain ⟨rfl, rfl⟩ := hh; exact ⟨by first | decide | exact Nat.le_refl _, rfl, rfl⟩)) ?_ ?_
 rintro _ _ ⟨bi, rfl, ac⟩
 refine ⟨.inl (by kernel_rfl), ?_⟩
 refine d_resp 0 rfl (v' := .slice a (put d g o).length c) (by simp only [put_length])<|d_resp 49 rfl (v' := .slice a (put d g o).length c) (by simp only [put_length]) ?_
 obtain ⟨aN, ad, ae⟩ := iS au
 obtain ⟨bj, bk, bl, bm, bn, aO, bo, aP, aQ, bp, bq⟩ := OS.get (sz := 1) rfl (by decide) ac ae
 obtain ⟨rfl, rfl⟩ := aO
 refine El lr<|E0 18 rfl (sI aN rfl rfl ad aQ aP sl33)<|Eo<|Da [19] (by kernel_rfl) rfl ?_
 refine Rd2 lr rfl rfl (uP ad (sz := 1) (a' := L) rfl [_] R 0 1 [iv L] rfl ac ae rfl rfl rfl siz3 rfl (mc rfl mn) (fun cs hsj hh => by obtain ⟨rfl, rfl⟩ := hh; exact ⟨by first | decide | exact Nat.le_refl _, rfl, rfl⟩)) ?_ ?_
 rintro _ _ ⟨aR, rfl, aS⟩
 refine ⟨.inl (by kernel_rfl), ?_⟩
 refine d_resp 0 rfl (v' := .slice a (put (put d g o) (e + Y) L).length c) (by simp only [put_length])<|Dd (by kernel_rfl)<|Xm<|Xn<|Cg<|M rfl rfl ?_
 obtain ⟨_, O, hm⟩ := bS hm
 have O := (kS O).2
 refine Ts rfl (sa rfl rfl O)<|As rfl rfl<|Tn ?_
 exact xM hm ⟨aR, rfl, rfl, ((U.trans (m.trans n))), aS, ((put_length _ _ _).trans ((put_length _ _ _).trans V))⟩ (.refl _)
 exact Rn
 exact Rn
 rw [if_neg (of_decide_eq_false G)] at hm
 refine Ce<|Xe<|Xe<|Xo ?_
 have hm := congrArg some (ah _ (Option.some.inj hm).symm)
 obtain rfl := o1 hm
 exact endM U rfl (.cons _ (.refl _)) ⟨k, rfl, rfl, l, V⟩
 rw [if_neg (of_decide_eq_false s)] at hm
 refine Ck ?_
 obtain rfl := o1 hm
 exact endM lr rfl (.refl _) ⟨p, rfl, rfl, S, rfl⟩

set_option maxRecDepth 20000 in
theorem cSlicesPdqsortOrdered : ∀ (N : Nat) (b : Base) (R : Hp) (G : Int) (H : Int) (I : Int) (f : (List Int)) (a : OA) (c : Nat) (z : Hp) (Z : OS 3 (OT.fr rI) b.w (sv a f c) f z) (u : (List Int)) (hm : mSlicesPdqsortOrdered N G H I f = some u),
    CallsG Try.prog 35 [sv a f c, iv G, iv H, iv I] b ((z ++ R)) (fun v b' hp' => ∃ (aG : Hp), .tuple #[] = v ∧ (aG ++ R) = hp' ∧ OS 3 (OT.fr rI) b'.w (sv a u c) u aG ∧ u.length = f.length) := by
  intro N
  induction N with
  | zero =>
    intro b R G H I f a c z Z u hm
    unfold mSlicesPdqsortOrdered at hm
    cases hm
  | succ N ih =>
   intro b R G H I f a c z Z u hm
   refine fE 134 Try.func35 rfl Try.ntmps35 rfl ?_
   unfold mSlicesPdqsortOrdered at hm
   refine Cr<|As rfl rfl<|Te<|Cr<|As rfl rfl<|Te<|Cb<|cL (unc6 fun d e aH j k m => fun J e' hp' => ∃ (g : Hp), [(0, sv a m c), (1, iv d), (2, iv e), (3, iv aH), (8, bv j), (9, bv k)] = e' ∧ (g ++ R) = hp' ∧ b.Le J ∧ OS 3 (OT.fr rI) J.w (sv a m c) m g ∧ m.length = f.length) hm ⟨z, rfl, rfl, lr, Z, rfl⟩ (.refl _) ?_
   rintro ⟨d, e, aH, j, k, m⟩ J _ _ ci ⟨g, rfl, rfl, x, K, L⟩ aI aa
   unfold mSlicesPdqsortOrdered_L2079 at aI
   have hm := (unc6E aI)
   refine Cb<|Cr<|M rfl rfl<|M rfl rfl ?_
   obtain ⟨_, ab, hm⟩ := bS hm
   have ab := (kS ab).2
   refine Ts rfl (sb rfl rfl ab)<|As rfl rfl<|Te<|Cs<|Cr<|M rfl rfl<|Ts rfl (q4 rfl rfl)<|Te ?_
   refine Cc _ rfl (fun ac => ?_) (fun ac => ?_)
   rw [if_pos (of_decide_eq_true ac)] at hm
   refine Cr<|M rfl rfl<|M rfl rfl<|M rfl rfl ?_
   obtain ⟨a8, a9, hm⟩ := bS hm
   refine t_out1 [] [] g R rfl<|Tg _ rfl call42 rfl (cSlicesInsertionSortOrdered _ _ d e m a c g K a8 a9) ?_
   rintro _ cj _ ba ⟨aJ, rfl, rfl, bb, bc⟩
   refine t_in1 [] [] aJ R rfl<|Te<|Ct<|Xr<|Xb<|Xr<|Xb ?_
   have hm := congrArg some (aa _ (Option.some.inj hm).symm)
   obtain rfl := o1 hm
   exact rM (rs := []) (vs := []) trivial ⟨aJ, rfl, rfl, bb, (bc.trans L)⟩ (.refl _) (x.trans ba)
   rw [if_neg (of_decide_eq_false ac)] at hm
   refine Ck<|Xn<|Cs<|Cr<|M rfl rfl<|Ts rfl (q1 rfl rfl)<|Te ?_
   refine Cc _ rfl (fun ad => ?_) (fun ad => ?_)
   rw [if_pos (of_decide_eq_true ad)] at hm
   refine Cr<|M rfl rfl<|M rfl rfl<|M rfl rfl ?_
   obtain ⟨bd, be, hm⟩ := bS hm
   refine t_out1 [] [] g R rfl<|Tg _ rfl call43 rfl (cSlicesHeapSortOrdered _ _ d e m a c g K bd be) ?_
   rintro _ ck _ bf ⟨aK, rfl, rfl, bg, bh⟩
   refine t_in1 [] [] aK R rfl<|Te<|Ct<|Xr<|Xb<|Xr<|Xb ?_
   have hm := congrArg some (aa _ (Option.some.inj hm).symm)
   obtain rfl := o1 hm
   exact rM (rs := []) (vs := []) trivial ⟨aK, rfl, rfl, bg, (bh.trans L)⟩ (.refl _) (x.trans bf)
   rw [if_neg (of_decide_eq_false ad)] at hm
   refine Ck<|Xn ?_
   obtain ⟨⟨p, q⟩, bi, bj⟩ := bS hm
   refine Cj (fun O e' hp' => ∃ (r : Hp), [(0, sv a q c), (1, iv d), (2, iv e), (3, iv p), (8, bv j), (9, bv k), (10, iv (e - d))] = e' ∧ (r ++ R) = hp' ∧ J.Le O ∧ OS 3 (OT.fr rI) O.w (sv a q c) q r ∧ q.length = f.length) ?_ ?_
   have hm := bi
   refine Cr<|M rfl rfl<|Ts rfl (sn2 rfl)<|Te ?_
   refine Cc _ rfl (fun ae => ?_) (fun ae => ?_)
   rw [if_neg (fun hh => Bool.noConfusion (hh.symm.trans (nt ae)))] at hm
   refine Cr<|M rfl rfl<|M rfl rfl<|M rfl rfl ?_
   obtain ⟨aL, bk, hm⟩ := bS hm
   refine t_out1 [] [] g R rfl<|Tg _ rfl call44 rfl (cSlicesBreakPatternsOrdered _ _ d e m a c g K aL bk) ?_
   rintro _ cl _ bl ⟨aM, rfl, rfl, bm, aN⟩
   refine t_in1 [] [] aM R rfl<|Tr 0 rfl (v' := sv a aL c) (by show Value.slice _ _ _ = Value.slice _ _ _; rw [aN])<|Te<|Cg<|M rfl rfl ?_
   obtain ⟨_, af, hm⟩ := bS hm
   have af := (kS af).2
   refine Ts rfl (sb rfl rfl af)<|As rfl rfl<|Tn ?_
   obtain ⟨rfl, rfl⟩ := some2 hm
   exact xJ ⟨aM, rfl, rfl, bl, bm, (aN.trans L)⟩ (.refl _)
   rw [if_pos (nf ae)] at hm
   refine Ck ?_
   obtain ⟨rfl, rfl⟩ := some2 hm
   exact xJ ⟨g, rfl, rfl, lr, K, L⟩ (.refl _)
   rintro O _ _ ⟨r, rfl, rfl, S, ag, aO⟩
   have hm := (unc2E bj)
   refine Cr<|M rfl rfl<|M rfl rfl<|M rfl rfl ?_
   obtain ⟨⟨bn, bo⟩, bp, hm⟩ := bS hm
   have hm := (unc2E hm)
   refine Do rfl (uW _ call45 rfl (fun w ho => cSlicesChoosePivotOrdered _ [] q d e a c (OS.now (o := (OT.fr rI)) (l := q) (hs := r) ag ho (List.sublist_append_left _ _)) bn bo bp) (fun _ _ _ h => h.2.symm)) ?_
   rintro _ _ ⟨⟨_, rfl, _⟩, rfl⟩
   refine M rfl rfl<|Ts rfl (st_extract rfl rfl)<|Ts rfl (st_extract rfl rfl)<|As rfl rfl<|As rfl rfl<|Te ?_
   obtain ⟨⟨y, bq, s⟩, br, bs⟩ := bS hm
   refine Cj (fun A e' hp' => ∃ (t : Hp), [(0, sv a s c), (1, iv d), (2, iv e), (3, iv p), (8, bv j), (9, bv k), (10, iv (e - d)), (11, iv y), (12, iv bq)] = e' ∧ (t ++ R) = hp' ∧ O.Le A ∧ OS 3 (OT.fr rI) A.w (sv a s c) s t ∧ s.length = f.length) ?_ ?_
   have hm := br
   refine Cr<|M rfl rfl<|Ts rfl (q1 rfl rfl)<|Te ?_
   refine Cc _ rfl (fun ah => ?_) (fun ah => ?_)
   rw [if_pos (of_decide_eq_true ah)] at hm
   refine Cr<|M rfl rfl<|M rfl rfl<|M rfl rfl ?_
   obtain ⟨aP, bt, hm⟩ := bS hm
   refine t_out1 [] [] r R rfl<|Tg _ rfl call46 rfl (cSlicesReverseRangeOrdered _ _ d e q a c r ag aP bt) ?_
   rintro _ cm _ bu ⟨aQ, rfl, rfl, bw, aR⟩
   refine t_in1 [] [] aQ R rfl<|Tr 0 rfl (v' := sv a aP c) (by show Value.slice _ _ _ = Value.slice _ _ _; rw [aR])<|Te<|Cr<|M rfl rfl ?_
   obtain ⟨_, ai, hm⟩ := bS hm
   have ai := (kS ai).2
   refine Ts rfl (sb rfl rfl ai)<|M rfl rfl<|M rfl rfl ?_
   obtain ⟨_, aj, hm⟩ := bS hm
   have aj := (kS aj).2
   refine Ts rfl (sb rfl rfl aj) ?_
   obtain ⟨_, ak, hm⟩ := bS hm
   have ak := (kS ak).2
   refine Ts rfl (sb rfl rfl ak)<|As rfl rfl<|Te<|Cg<|As rfl rfl<|Tn ?_
   obtain ⟨rfl, rfl, rfl⟩ := some3 hm
   exact xJ ⟨aQ, rfl, rfl, bu, bw, (aR.trans aO)⟩ (.refl _)
   rw [if_neg (of_decide_eq_false ah)] at hm
   refine Ck ?_
   obtain ⟨rfl, rfl, rfl⟩ := some3 hm
   exact xJ ⟨r, rfl, rfl, lr, ag, aO⟩ (.refl _)
   rintro A _ _ ⟨t, rfl, rfl, T, aS, al⟩
   have hm := (unc3E bs)
   obtain ⟨bx, bz, U⟩ := bS hm
   refine Cj (fun V e' hp' => ∃ (i : (List Int)), ∃ (n : Hp), [(0, sv a i c), (1, iv d), (2, iv e), (3, iv p), (8, bv j), (9, bv k), (10, iv (e - d)), (11, iv y)] = e' ∧ (n ++ R) = hp' ∧ A.Le V ∧ OS 3 (OT.fr rI) V.w (sv a i c) i n ∧ i.length = f.length ∧ bx = .inl i) ?_ ?_
   have hm := bz
   obtain ⟨bA, bB, bC⟩ := bS hm
   refine Cj (fun aT e' hp' => [(0, sv a s c), (1, iv d), (2, iv e), (3, iv p), (8, bv j), (9, bv k), (10, iv (e - d)), (11, iv y), (68, bv bA)] = e' ∧ (t ++ R) = hp' ∧ A.Le aT) ?_ ?_
   have hm := bB
   refine Cg<|M rfl rfl ?_
   rcases Bool.eq_false_or_eq_true j with B | B
   rw [if_pos B] at hm
   refine Tr 61 rfl (v' := .bool true) (by rw [B] <;> rfl)<|M rfl rfl<|Ys 62 rfl rfl rfl<|M rfl rfl ?_
   rcases Bool.eq_false_or_eq_true k with C | C
   rw [if_pos C] at hm
   refine Tr 63 rfl (v' := .bool true) (by rw [C] <;> rfl)<|Ts rfl (pT rfl rfl)<|M rfl rfl<|Ys 65 rfl rfl rfl<|M rfl rfl<|Ys 65 rfl rfl rfl<|Ts rfl (q1 rfl rfl)<|Ts rfl (pT rfl rfl)<|Tn ?_
   obtain rfl := o1 hm
   exact xJ ⟨rfl, rfl, lr⟩ (.refl _)
   rw [if_neg (fun hh => Bool.noConfusion (hh.symm.trans C))] at hm
   refine Tr 63 rfl (v' := .bool false) (by rw [C] <;> rfl)<|Ts rfl (pT rfl rfl)<|M rfl rfl<|No 65 rfl rfl rfl rfl rfl<|No 65 rfl rfl rfl rfl rfl<|Ts rfl (pF rfl rfl)<|Tn ?_
   obtain rfl := o1 hm
   exact xJ ⟨rfl, rfl, lr⟩ (.refl _)
   rw [if_neg (fun hh => Bool.noConfusion (hh.symm.trans B))] at hm
   refine Tr 61 rfl (v' := .bool false) (by rw [B] <;> rfl)<|M rfl rfl<|No 62 rfl rfl rfl rfl rfl<|Ts rfl (pF rfl rfl)<|M rfl rfl<|No 65 rfl rfl rfl rfl rfl<|No 65 rfl rfl rfl rfl rfl<|Ts rfl (pF rfl rfl)<|Tn ?_
   obtain rfl := o1 hm
   exact xJ ⟨rfl, rfl, lr⟩ (.refl _)
   rintro aT _ _ ⟨rfl, rfl, D⟩
   have hm := bC
   refine Cc _ rfl (fun am => ?_) (fun am => ?_)
   rw [if_pos am] at hm
   refine Cr<|M rfl rfl<|M rfl rfl<|M rfl rfl ?_
   obtain ⟨⟨bD, an⟩, bE, hm⟩ := bS hm
   have hm := (unc2E hm)
   refine t_out1 [] [] t R rfl<|Tg _ rfl call47 rfl (cSlicesPartialInsertionSortOrdered _ _ d e s a c t (aS.le D) bD an bE) ?_
   rintro _ cn _ aU ⟨ao, rfl, rfl, aV, aq⟩
   refine t_in1 [] [] ao R rfl<|Tr 0 rfl (v' := sv a an c) (by show Value.slice _ _ _ = Value.slice _ _ _; rw [aq])<|Te ?_
   refine Cc _ rfl (fun ar => ?_) (fun ar => ?_)
   rw [if_pos ar] at hm
   refine Ct<|Xr<|Xb<|Xr<|Xb ?_
   have bF := (Option.some.inj hm).symm
   rw [bF] at U
   have hm := elimR U
   have hm := congrArg some (aa _ (Option.some.inj hm).symm)
   obtain rfl := o1 hm
   exact rM (rs := []) (vs := []) trivial ⟨ao, rfl, rfl, aV, (aq.trans al)⟩ (.refl _) (x.trans (S.trans (T.trans (D.trans aU))))
   rw [if_neg (fun hh => Bool.noConfusion (hh.symm.trans ar))] at hm
   refine Ck ?_
   have hq := (Option.some.inj hm).symm
   exact xJ ⟨an, ao, rfl, rfl, (D.trans aU), aV, (aq.trans al), hq⟩ (.refl _)
   rw [if_neg (fun hh => Bool.noConfusion (hh.symm.trans am))] at hm
   refine Ck ?_
   have hq := (Option.some.inj hm).symm
   exact xJ ⟨s, t, rfl, rfl, D, (aS.le D), al, hq⟩ (.refl _)
   rintro V _ _ ⟨i, n, rfl, rfl, au, W, av, bG⟩
   rw [bG] at U
   have hm := elimL U
   refine Cs ?_
   obtain ⟨bH, bI, bJ⟩ := bS hm
   refine Cj (fun aW e' hp' => [(0, sv a i c), (1, iv d), (2, iv e), (3, iv p), (8, bv j), (9, bv k), (10, iv (e - d)), (11, iv y), (87, bv bH)] = e' ∧ (n ++ R) = hp' ∧ V.Le aW) ?_ ?_
   have hm := bI
   by_cases X : 0 < d
   rw [if_pos X] at hm
   obtain ⟨_, aw, hm⟩ := bS hm
   obtain ⟨bK, bL, hm⟩ := bS hm
   obtain ⟨bM, bN, hm⟩ := bS hm
   obtain ⟨bO, bP, hm⟩ := bS hm
   refine Di mixed (.refl _)<|E0 0 rfl (sM rfl)<|E0 1 rfl (st_gtr_t rfl rfl X)<|E0 2 rfl (sM rfl)<|Yz 3 75 rfl (sM rfl)<|Yz 4 75 rfl (sM rfl) ?_
   have aw := (kS aw).2
   refine Yz 5 75 rfl (sb rfl rfl aw) ?_
   obtain ⟨bQ, bR, bT⟩ := iS bL
   obtain ⟨co, cp, cq, cr, cs, bU, bV, bW, bX, ct, cu⟩ := OS.get (sz := 1) rfl (by decide) W bT
   obtain ⟨rfl, rfl⟩ := bU
   refine Yz 6 75 rfl (sI bQ rfl rfl bR bX bW sl33)<|Ey 7 75 rfl (st_load_rd rfl one3 (fun w ho => bV w _ ho (List.sublist_append_left _ _) 0 _ rfl))<|Yz 8 75 rfl (sM rfl)<|Yz 9 75 rfl (sM rfl) ?_
   obtain ⟨bY, bZ, b0⟩ := iS bN
   obtain ⟨cv, cw, cx, cy, cz, b1, b2, b3, b4, cA, cB⟩ := OS.get (sz := 1) rfl (by decide) W b0
   obtain ⟨rfl, rfl⟩ := b1
   refine Yz 10 75 rfl (sI bY rfl rfl bZ b4 b3 sl33)<|Ey 11 75 rfl (st_load_rd rfl one3 (fun w ho => b2 w _ ho (List.sublist_append_left _ _) 0 _ rfl))<|Eo<|Da [12] (by kernel_rfl) rfl ?_
   refine R_doY lr rfl rfl 75 rfl rfl rfl (uW _ call48 rfl (fun w ho => cCmpLess _ [] bK bM bO bP) (fun _ _ _ h => h.2.symm)) ?_ ?_
   rintro _ _ ⟨⟨_, rfl, _⟩, rfl⟩
   refine ⟨.inr (.refl _), ?_⟩
   refine Ei lr (.refl _)<|Yz 13 75 rfl (sn2 rfl)<|E0 14 rfl (pT rfl rfl)<|Eo<|Dd (by kernel_rfl) ?_
   obtain rfl := o1 hm
   exact xJ ⟨rfl, rfl, lr⟩ (.refl _)
   exact Rn
   rw [if_neg X] at hm
   refine Di mixed (.refl _)<|E0 0 rfl (sM rfl)<|E0 1 rfl (st_gtr_f rfl rfl X)<|E0 2 rfl (sM rfl)<|En 3 75 rfl rfl rfl<|En 4 75 rfl rfl rfl<|En 5 75 rfl rfl rfl<|En 6 75 rfl rfl rfl<|En 7 75 rfl rfl rfl<|En 8 75 rfl rfl rfl ?_
   refine En 9 75 rfl rfl rfl<|En 10 75 rfl rfl rfl<|En 11 75 rfl rfl rfl<|En 12 75 rfl rfl rfl<|En 13 75 rfl rfl rfl<|E0 14 rfl (pF rfl rfl)<|Eo<|Dd (by kernel_rfl) ?_
   obtain rfl := o1 hm
   exact xJ ⟨rfl, rfl, lr⟩ (.refl _)
   rintro aW _ _ ⟨rfl, rfl, E⟩
   have hm := bJ
   refine Cc _ rfl (fun ax => ?_) (fun ax => ?_)
   rw [if_pos ax] at hm
   refine Cr<|M rfl rfl<|M rfl rfl<|M rfl rfl<|M rfl rfl ?_
   obtain ⟨⟨b5, aX⟩, b6, hm⟩ := bS hm
   have hm := (unc2E hm)
   refine t_out1 [] [] n R rfl<|Tg _ rfl call49 rfl (cSlicesPartitionEqualOrdered _ _ d e y i a c n (W.le E) b5 aX b6) ?_
   rintro _ cC _ b7 ⟨aY, rfl, rfl, b8, aZ⟩
   refine t_in1 [] [] aY R rfl<|Tr 0 rfl (v' := sv a aX c) (by show Value.slice _ _ _ = Value.slice _ _ _; rw [aZ])<|As rfl rfl<|Te<|Cr<|M rfl rfl<|As rfl rfl<|Te<|Ce<|Xe ?_
   refine Xo ?_
   exact xM hm ⟨aY, rfl, rfl, ((x.trans (S.trans (T.trans (au.trans (E.trans b7)))))), b8, (aZ.trans av)⟩ (.refl _)
   rw [if_neg (fun hh => Bool.noConfusion (hh.symm.trans ax))] at hm
   refine Ck<|Xn<|Cr<|M rfl rfl<|M rfl rfl<|M rfl rfl<|M rfl rfl ?_
   obtain ⟨⟨ay, b9, Y⟩, ca, hm⟩ := bS hm
   have hm := (unc3E hm)
   refine t_out1 [] [] n R rfl<|Tg _ rfl call50 rfl (cSlicesPartitionOrdered _ _ d e y i a c n (W.le E) ay b9 Y ca) ?_
   rintro _ cD _ a0 ⟨F, rfl, rfl, a1, az⟩
   refine t_in1 [] [] F R rfl<|Tr 0 rfl (v' := sv a Y c) (by show Value.slice _ _ _ = Value.slice _ _ _; rw [az])<|M rfl rfl<|Ts rfl (st_extract rfl rfl)<|Ts rfl (st_extract rfl rfl)<|As rfl rfl<|As rfl rfl<|Te<|Cr<|M rfl rfl ?_
   refine As rfl rfl<|Te<|Cr<|M rfl rfl<|M rfl rfl ?_
   obtain ⟨_, aA, hm⟩ := bS hm
   have aA := (kS aA).2
   refine Ts rfl (sb rfl rfl aA)<|M rfl rfl<|M rfl rfl ?_
   obtain ⟨_, aB, hm⟩ := bS hm
   have aB := (kS aB).2
   refine Ts rfl (sb rfl rfl aB)<|As rfl rfl<|As rfl rfl<|Te<|Cr<|M rfl rfl ?_
   obtain ⟨_, cb, hm⟩ := bS hm
   obtain ⟨_, aC, hm⟩ := bS hm
   have aC := (kS aC).2
   refine Ts rfl (st_quo rfl rfl (ne0_some cb) aC)<|As rfl rfl<|Te<|Cr<|M rfl rfl<|M rfl rfl<|Ts rfl (q3 rfl rfl)<|Te ?_
   refine Cc _ rfl (fun aD => ?_) (fun aD => ?_)
   rw [if_pos (of_decide_eq_true aD)] at hm
   refine Cr<|M rfl rfl<|M rfl rfl<|Ts rfl (q6 rfl rfl)<|As rfl rfl<|Te<|Cr<|M rfl rfl<|M rfl rfl<|M rfl rfl ?_
   refine M rfl rfl ?_
   obtain ⟨a2, cc, hm⟩ := bS hm
   refine t_out1 [] [] F R rfl<|Tg _ rfl call35 rfl (ih _ _ d ay p Y a c F a1 a2 cc) ?_
   rintro _ cE _ cd ⟨a3, rfl, rfl, ce, a4⟩
   refine t_in1 [] [] a3 R rfl<|Tr 0 rfl (v' := sv a a2 c) (by show Value.slice _ _ _ = Value.slice _ _ _; rw [a4])<|Te<|Cg<|M rfl rfl ?_
   obtain ⟨_, aE, hm⟩ := bS hm
   have aE := (kS aE).2
   refine Ts rfl (sa rfl rfl aE)<|As rfl rfl<|Tn<|Xm ?_
   exact xM hm ⟨a3, rfl, rfl, ((x.trans (S.trans (T.trans (au.trans (E.trans (a0.trans cd))))))), ce, (a4.trans (az.trans av))⟩ (.refl _)
   rw [if_neg (of_decide_eq_false aD)] at hm
   refine Cr<|M rfl rfl<|M rfl rfl<|Ts rfl (q6 rfl rfl)<|As rfl rfl<|Te<|Cr<|M rfl rfl<|M rfl rfl ?_
   obtain ⟨_, aF, hm⟩ := bS hm
   have aF := (kS aF).2
   refine Ts rfl (sa rfl rfl aF)<|M rfl rfl<|M rfl rfl ?_
   obtain ⟨a5, cf, hm⟩ := bS hm
   refine t_out1 [] [] F R rfl<|Tg _ rfl call35 rfl (ih _ _ (ay + 1) e p Y a c F a1 a5 cf) ?_
   rintro _ cG _ cg ⟨a6, rfl, rfl, ch, a7⟩
   refine t_in1 [] [] a6 R rfl<|Tr 0 rfl (v' := sv a a5 c) (by show Value.slice _ _ _ = Value.slice _ _ _; rw [a7])<|Te<|Cg<|M rfl rfl<|As rfl rfl<|Tn<|Xm ?_
   exact xM hm ⟨a6, rfl, rfl, ((x.trans (S.trans (T.trans (au.trans (E.trans (a0.trans cg))))))), ch, (a7.trans (az.trans av))⟩ (.refl _)

set_option maxRecDepth 20000 in
theorem cSlicesSort (b : Base) (R : Hp) (a : (List Int)) (c : OA) (d : Nat) (e : Hp) (l : OS 3 (OT.fr rI) b.w (sv c a d) a e) (f : (List Int)) (hm : mSlicesSort a = some f) :
    CallsG Try.prog 25 [sv c a d] b ((e ++ R)) (fun v b' hp' => ∃ (i : Hp), .tuple #[] = v ∧ (i ++ R) = hp' ∧ OS 3 (OT.fr rI) b'.w (sv c f d) f i ∧ f.length = a.length) := by
 refine fE 11 Try.func25 rfl Try.ntmps25 rfl ?_
 unfold mSlicesSort at hm
 refine Cr<|M rfl rfl<|Ts rfl (sE rfl sl33)<|As rfl rfl<|Te<|Cg<|M rfl rfl<|M rfl rfl<|M rfl rfl<|Ts rfl (st_conv rfl int3_i64 int76_u64) ?_
 obtain ⟨j, m, hm⟩ := bS hm
 refine Do rfl (uW _ call36 rfl (fun w ho => cBitsLen _ [] (IntKind.wrap .u64 (a.length : Int)) j m) (fun _ _ _ h => h.2.symm)) ?_
 rintro _ _ ⟨⟨_, rfl, _⟩, rfl⟩
 obtain ⟨n, g, hm⟩ := bS hm
 obtain ⟨o, g⟩ := lim_some g
 refine t_out1 [] [] e R rfl<|Tg _ rfl call35 rfl (cSlicesPdqsortOrdered o _ _ 0 (a.length : Int) j a c d e l n g) ?_
 rintro _ s _ p ⟨k, rfl, rfl, q, r⟩
 refine t_in1 [] [] k R rfl<|Tn ?_
 obtain rfl := o1 hm
 exact endM p rfl (.refl _) ⟨k, rfl, rfl, q, (r.trans rfl)⟩

end Go.Proofs.Ytbhomnclohcecaa
