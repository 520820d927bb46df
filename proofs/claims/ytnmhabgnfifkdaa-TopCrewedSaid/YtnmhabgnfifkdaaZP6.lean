/- Contracts: the code computes its model (part 6). -/
import Derived.Test.YtnmhabgnfifkdaaZP5
set_option linter.unusedVariables false
set_option linter.unusedSimpArgs false
namespace Go.Proofs.Ytnmhabgnfifkdaa
open Go.RowKit Go.Fp

open Go.Fp renaming t_mv → M, t_as → As, t_st → Ts, t_do → Do, t_ne → Te, t_nil → Tn, t_no → No, t_yes → Ys, t_bool → Tb, t_callG → Tg, t_resp → Tr, c_sr → Cr, c_seq → Cs, c_region → Cg, c_cond → Cc, c_block → Cb, c_ret → Ct, c_skip → Ck, c_exit → Ce, c_join → Cj, c_pullb → Cp, x_then_normal → Xn, x_then_ret → Xr, x_then_exit → Xe, x_block_ret → Xb, x_block_normal → Xm, x_block_out → Xo, x_pullb → Xp, x_front2 → X2, x_front3 → X3, E_st → Es, E_s0 → E0, E_in → Ei, E_il → El, E_out → Eo, D_all → Da, D_done → Dd, D_drawI → Di, R_do → Rd2, R_nil → Rn, st_load → sL, st_loadD → sD, st_field → sF, st_len → sE, st_move → sM, st_assign → sA, st_pick_t → pT, st_pick_f → pF, st_index_old → sI, st_load_old → sO, st_loadN_old → sP, st_field_old → sQ, st_add → sa, st_sub → sb, st_lss_t → lT, st_lss_f → lF, st_not → sn2, st_build → sB, u_box → uB, u_alloc → uA, u_store → uS, u_storeN → uN, u_callW0 → uW, u_putOS → uP, u_appOS → uQ, fn_enterG → fE, bindS → bS, some1 → o1, idx_some → iS, sub_skip → ss, sub_app → sp, chk_some → kS, notT → nt, notF → nf, d_front2 → d2, mem_c → mc, mem_n → mn, st_eql → q1, st_neq → q2, st_lss → q3, st_gtr → q5, st_geq → q6
set_option maxHeartbeats 1000000 in
set_option maxRecDepth 20000 in
theorem cFishtopTopCrewed (b : Base) (R : Hp) (V : ApiDay) (a : FleetLimits) (x9 : Int) (C : (List FleetAbsence)) (A2 : OA) (c3 : Nat) (A5 : OA) (c6 : Nat) (F : OA) (G : Nat) (h4 : FZ rApiTrain b.w A2 c3 V.Trains) (h7 : FZ (RT.list rI) b.w A5 c6 V.Turns) (h12 : FZ rFleetAbsence b.w F G C) (x3459 : Bool) (hm : mFishtopTopCrewed V a x9 C = some x3459) :
    CallsG Try.prog 3 [.agg #[sv A2 V.Trains c3, sv A5 V.Turns c6], .agg #[iv a.Change, iv a.Long, iv a.Work, iv a.After, iv a.Break, iv a.Rest, iv a.Row], iv x9, sv F C G] b (R) (fun v b' hp' => bv x3459 = v ∧ R = hp') := by
 refine fE 267 Try.func3 rfl Try.ntmps3 rfl ?_
 unfold mFishtopTopCrewed at hm
 refine Cr<|Do rfl (uB _ rfl rfl) ?_
 rintro _ _ ⟨g3460, rfl, rfl⟩
 refine Do rfl (uB _ rfl rfl) ?_
 rintro _ _ ⟨k, rfl, rfl⟩
 refine As rfl rfl<|Te<|Cs<|Cr ?_
 obtain ⟨x3462, hcl3463, hm⟩ := bS hm
 refine Do rfl (uW _ call4 rfl (fun w ho => cFishtopAwakeFleet _ [] x3462 hcl3463) (fun _ _ _ h => h.2.symm)) ?_
 rintro _ _ ⟨⟨_, rfl, _⟩, rfl⟩
 refine Ts rfl (sn2 rfl)<|Te ?_
 refine Cc _ rfl (fun hc3464 => ?_) (fun hc3464 => ?_)
 rw [if_neg (fun hh => Bool.noConfusion (hh.symm.trans (nt hc3464)))] at hm
 refine Cr<|As rfl rfl<|Te<|Ct<|Xr ?_
 obtain rfl := o1 hm
 exact rM (rs := [.tmp 8]) (vs := [bv false]) ⟨rfl, trivial⟩ ⟨rfl, rfl⟩ (.cons _ (.cons _ (.refl _))) lr
 rw [if_pos (nf hc3464)] at hm
 refine Ck<|Xn<|Cs<|Cr<|Ts rfl (sD (vs := [_, _]) 1 2 rfl agg25 rfl rfl rfl) ?_
 obtain ⟨x3465, hcl3466, hm⟩ := bS hm
 refine Do rfl (uW _ call5 rfl (fun w ho => cFishref2GuideFault _ [] V A2 c3 A5 c6 (h4.old ho) (h7.old ho) x3465 hcl3466) (fun _ _ _ h => h.2.symm)) ?_
 rintro _ _ ⟨⟨_, rfl, _⟩, rfl⟩
 refine Ts rfl (q2 rfl rfl)<|Te ?_
 refine Cc _ rfl (fun hc3467 => ?_) (fun hc3467 => ?_)
 rw [if_pos (of_decide_eq_true hc3467)] at hm
 refine Cr<|As rfl rfl<|Te<|Ct<|Xr ?_
 obtain rfl := o1 hm
 exact rM (rs := [.tmp 8]) (vs := [bv true]) ⟨rfl, trivial⟩ ⟨rfl, rfl⟩ (.cons _ (.cons _ (.refl _))) lr
 rw [if_neg (of_decide_eq_false hc3467)] at hm
 refine Ck<|Xn<|Cr<|Do rfl (uA [sn] zero32 rfl) ?_
 rintro _ _ ⟨f, rfl, rfl⟩
 refine Te<|Cs<|Cr<|Ts rfl (sF rfl fld25_0)<|Ts rfl (sL 2 rfl one22 rfl rfl)<|Ts rfl (sE rfl sl22)<|M rfl rfl<|Te<|Cb ?_
 have hb3470 : V.Trains.length ≤ 9223372036854775807 := (FZ.bd h4)
 refine Cp 1 rfl ?_
 obtain ⟨p, hl4136, hk4137⟩ := bS hm
 refine cS (fun k4135 => fun p => fun b4127 e' hp' => ∃ (q : OA), ∃ (s : Nat), ∃ (hs4130 : Hp), [(2, iv x9), (3, sv F C G), (5, pb k), (9, pb f), (39, sv A2 V.Trains c3), (40, iv ((V.Trains.length : Int))), (41, iv ((k4135 : Int)))] = e' ∧ (k, Cl 27 [iv a.Change, iv a.Long, iv a.Work, iv a.After, iv a.Break, iv a.Rest, iv a.Row]) :: (f, Cl 32 [sv q p s]) :: (hs4130 ++ R) = hp' ∧ b.Le b4127 ∧ OS 39 (OT.fr rFleetTask) b4127.w (sv q p s) p hs4130) hl4136 ⟨none, 0, [], rfl, rfl, lr, OS.nil⟩ (.cons_cons _ (.cons_cons _ (.cons _ (.refl _)))) ?_ ?_
 rintro k4135 p b4127 _ _ oL3469 hknL3469 ⟨q, s, hs4130, rfl, rfl, D, h4133⟩ hstepL3469
 unfold mFishtopTopCrewed_L3469 at hstepL3469
 have hm := hstepL3469
 refine Cr<|Ts rfl (lT rfl rfl (by omega))<|Te<|Cs<|c_cond_t rfl<|Ck<|Xn<|Cs<|Cb<|Cr ?_
 obtain ⟨Y, h4139, hm⟩ := bS hm
 obtain ⟨j4140, hj4141, hx4142⟩ := iS h4139
 obtain ⟨cs4143, hr4144, hcs4145, hA4146, hlt4147⟩ := FZ.get (sz := 4) rfl (by decide) (h4.le D) hx4142
 obtain ⟨_, _, rfl, rfl, ⟨_, _, rfl, rfl, ⟨_, _, rfl, ⟨A4148, c4149, rfl, h4150⟩, ⟨A4151, c4152, rfl, h4153⟩⟩⟩⟩ := hr4144
 refine Ts rfl (sI j4140 rfl rfl hj4141 hlt4147 hA4146 sl22)<|Ts rfl (sP (vs := [iv Y.No, iv Y.Stock, sv A4148 Y.Stops c4149, sv A4151 Y.Legs c4152]) 4 rfl agg35 hA4146 rfl (fun j u hu => hcs4145 j u hu))<|Do rfl (uA [iv 0, iv 0, sn, sn] zero35 rfl) ?_
 rintro _ _ ⟨g4154, rfl, rfl⟩
 refine Do rfl (uN (vs := [_, _, _, _]) 0 4 rfl rfl rfl siz35 rfl (mc rfl (mc rfl (mc rfl (mc rfl mn)))) rfl (by simp)) ?_
 rintro _ _ rfl
 refine Te<|Cr<|Ts rfl (sF rfl fld35_3)<|Ts rfl (sL 0 rfl one23 rfl rfl)<|Ts rfl (sE rfl sl23)<|M rfl rfl<|Te<|Cb ?_
 have hb4156 : Y.Legs.length ≤ 9223372036854775807 := (FZ.bd h4153)
 refine Cp 2 rfl<|Cp 2 rfl ?_
 obtain ⟨l4362, hl4364, hk4365⟩ := bS hm
 refine cS (fun k4363 => fun l4362 => fun b4355 e' hp' => ∃ (A4359 : OA), ∃ (c4360 : Nat), ∃ (hs4358 : Hp), [(2, iv x9), (3, sv F C G), (5, pb k), (9, pb f), (11, pb g4154), (39, sv A2 V.Trains c3), (40, iv ((V.Trains.length : Int))), (41, iv ((k4135 : Int))), (47, iv ((Y.Legs.length : Int))), (48, iv ((k4363 : Int)))] = e' ∧ (k, Cl 27 [iv a.Change, iv a.Long, iv a.Work, iv a.After, iv a.Break, iv a.Rest, iv a.Row]) :: (f, Cl 32 [sv A4359 l4362 c4360]) :: (g4154, Cl 35 [iv Y.No, iv Y.Stock, sv A4148 Y.Stops c4149, sv A4151 Y.Legs c4152]) :: (hs4358 ++ R) = hp' ∧ b4127.Le b4355 ∧ OS 39 (OT.fr rFleetTask) b4355.w (sv A4359 l4362 c4360) l4362 hs4358) hl4364 ⟨q, s, hs4130, rfl, rfl, lr, h4133⟩ (.refl _) ?_ ?_
 rintro k4363 l4362 b4355 _ _ oL4155 hknL4155 ⟨A4359, c4360, hs4358, rfl, rfl, hle4356, h4361⟩ hstepL4155
 unfold mFishtopTopCrewed_L4155 at hstepL4155
 have hm := hstepL4155
 refine Cr<|Ts rfl (lT rfl rfl (by omega))<|Te<|Cs<|c_cond_t rfl<|Ck<|Xn<|Cs<|Cb<|Cr ?_
 refine M rfl rfl<|As rfl rfl<|Te ?_
 obtain ⟨x4414, h4415, hm⟩ := bS hm
 obtain ⟨_, h4424, hm⟩ := bS hm
 obtain ⟨x4425, h4426, hm⟩ := bS hm
 obtain ⟨x4435, h4436, hm⟩ := bS hm
 obtain ⟨_, h4445, hm⟩ := bS hm
 obtain ⟨x4446, h4447, hm⟩ := bS hm
 obtain ⟨_, h4457, hm⟩ := bS hm
 refine Di mixed (.cons_cons _ (.cons_cons _ (.cons_cons _ (ss hs4358 (.refl _)))))<|Es 0 rfl (sL 1 rfl one32 rfl rfl)<|E0 1 rfl (sF rfl fld35_2)<|Es 2 rfl (sL 2 rfl one33 rfl rfl)<|E0 3 rfl (sM rfl) ?_
 obtain ⟨j4416, hj4417, hx4418⟩ := iS h4415
 obtain ⟨cs4419, hr4420, hcs4421, hA4422, hlt4423⟩ := FZ.get (sz := 4) rfl (by decide) (h4150.le hle4356) hx4418
 obtain ⟨_, _, rfl, rfl, ⟨_, _, rfl, rfl, ⟨_, _, rfl, rfl, rfl⟩⟩⟩ := hr4420
 refine E0 4 rfl (sI j4416 rfl rfl hj4417 hlt4423 hA4422 sl33)<|E0 5 rfl (sQ rfl hA4422 fld37_0)<|Es 6 rfl (sO rfl one3 (hcs4421 0 _ rfl))<|E0 7 rfl (sF rfl fld35_2)<|Es 8 rfl (sL 2 rfl one33 rfl rfl)<|E0 9 rfl (sM rfl) ?_
 have h4424 := (kS h4424).2
 refine E0 10 rfl (sa rfl rfl h4424) ?_
 obtain ⟨j4427, hj4428, hx4429⟩ := iS h4426
 obtain ⟨cs4430, hr4431, hcs4432, hA4433, hlt4434⟩ := FZ.get (sz := 4) rfl (by decide) (h4150.le hle4356) hx4429
 obtain ⟨_, _, rfl, rfl, ⟨_, _, rfl, rfl, ⟨_, _, rfl, rfl, rfl⟩⟩⟩ := hr4431
 refine E0 11 rfl (sI j4427 rfl rfl hj4428 hlt4434 hA4433 sl33)<|E0 12 rfl (sQ rfl hA4433 fld37_0)<|Es 13 rfl (sO rfl one3 (hcs4432 0 _ rfl))<|E0 14 rfl (sF rfl fld35_2)<|Es 15 rfl (sL 2 rfl one33 rfl rfl)<|E0 16 rfl (sM rfl) ?_
 obtain ⟨j4437, hj4438, hx4439⟩ := iS h4436
 obtain ⟨cs4440, hr4441, hcs4442, hA4443, hlt4444⟩ := FZ.get (sz := 4) rfl (by decide) (h4150.le hle4356) hx4439
 obtain ⟨_, _, rfl, rfl, ⟨_, _, rfl, rfl, ⟨_, _, rfl, rfl, rfl⟩⟩⟩ := hr4441
 refine E0 17 rfl (sI j4437 rfl rfl hj4438 hlt4444 hA4443 sl33)<|E0 18 rfl (sQ rfl hA4443 fld37_3)<|Es 19 rfl (sO rfl one3 (hcs4442 3 _ rfl))<|E0 20 rfl (sF rfl fld35_2)<|Es 21 rfl (sL 2 rfl one33 rfl rfl)<|E0 22 rfl (sM rfl) ?_
 have h4445 := (kS h4445).2
 refine E0 23 rfl (sa rfl rfl h4445) ?_
 obtain ⟨j4448, hj4449, hx4450⟩ := iS h4447
 obtain ⟨cs4451, hr4452, hcs4453, hA4454, hlt4455⟩ := FZ.get (sz := 4) rfl (by decide) (h4150.le hle4356) hx4450
 obtain ⟨_, _, rfl, rfl, ⟨_, _, rfl, rfl, ⟨_, _, rfl, rfl, rfl⟩⟩⟩ := hr4452
 refine E0 24 rfl (sI j4448 rfl rfl hj4449 hlt4455 hA4454 sl33)<|E0 25 rfl (sQ rfl hA4454 fld37_2)<|Es 26 rfl (sO rfl one3 (hcs4453 2 _ rfl))<|E0 27 rfl (sB (v := .agg #[iv x4414.Station, iv x4425.Station, iv x4435.Dep, iv x4446.Arr, iv 0, iv 1]) [(0, iv x4414.Station), (1, iv x4425.Station), (2, iv x4435.Dep), (3, iv x4446.Arr), (5, iv 1)] rfl (fun _ => by kernel_rfl))<|Eo<|Da [28] (by kernel_rfl) rfl ?_
 refine Rd2 lr rfl rfl (u_bslice (el := 39) [(0, .agg #[iv x4414.Station, iv x4425.Station, iv x4435.Dep, iv x4446.Arr, iv 0, iv 1])] [iv x4414.Station, iv x4425.Station, iv x4435.Dep, iv x4446.Arr, iv 0, iv 1] rfl (fun _ => by kernel_rfl)) ?_ ?_
 rintro _ _ ⟨g4456, rfl, rfl⟩
 refine ⟨.inr (.cons _ (.cons_cons _ (.cons_cons _ (.cons_cons _ (ss hs4358 (.refl _)))))), ?_⟩
 have h4457 := room_some h4457
 refine Da [29] (by kernel_rfl) rfl ?_
 refine Rd2 lr rfl rfl (uQ (r := rFleetTask) (l := l4362) [_, _, _, _] R [[iv x4414.Station, iv x4425.Station, iv x4435.Dep, iv x4446.Arr, iv 0, iv 1]] [(⟨x4414.Station, x4425.Station, x4435.Dep, x4446.Arr, 0, 1⟩ : FleetTask)] rfl (by decide) sl32 inf39 rfl rfl rfl rfl h4361 rfl (fun w ho => Rd.own (i := 0) ho rfl) ⟨⟨[iv x4414.Station], _, rfl, rfl, ⟨[iv x4425.Station], _, rfl, rfl, ⟨[iv x4435.Dep], _, rfl, rfl, ⟨[iv x4446.Arr], _, rfl, rfl, ⟨[iv 0], _, rfl, rfl, rfl⟩⟩⟩⟩⟩, trivial⟩ h4457) ?_ ?_
 rintro _ _ ⟨hs4458, rfl, h4459⟩
 obtain ⟨A4460, c4461, rfl, _⟩ := h4459.form
 refine ⟨.inr (.cons _ (.cons_cons _ (.cons_cons _ (.cons_cons _ (ss hs4458 (.refl _)))))), ?_⟩
 refine Da [30] (by kernel_rfl) rfl ?_
 refine Rd2 lr rfl rfl (uS 2 rfl rfl siz32 rfl rfl (by simp)) ?_ ?_
 rintro _ _ rfl
 refine ⟨.inl (by kernel_rfl), ?_⟩
 refine Dd (by kernel_rfl)<|Xm<|Xn<|Cg<|Ts rfl (sa rfl rfl (by omega))<|M rfl rfl<|Tn<|Xp 3 rfl<|Xp 3 rfl<|Xp 3 rfl ?_
 obtain rfl := o1 hm
 exact xS ⟨A4460, c4461, hs4458, rfl, rfl, (hle4356), h4459⟩ (.cons_cons _ (.cons_cons _ (.cons_cons _ (.cons _ (.refl _)))))
 exact Rn
 exact Rn
 exact Rn
 rintro b4355 _ _ ⟨A4359, c4360, hs4358, rfl, rfl, hle4356, h4361⟩
 have hm := hk4365
 refine Cr<|Ts rfl (lF rfl rfl (by omega))<|Te<|Cs<|c_cond_f rfl<|Ce<|Xe<|Xe<|Xo<|Xm ?_
 refine Xn<|Cg<|Ts rfl (sa rfl rfl (by omega))<|M rfl rfl<|Tn<|Xp 1 rfl<|Xp 1 rfl ?_
 obtain rfl := o1 hm
 exact xS ⟨A4359, c4360, hs4358, rfl, rfl, ((D.trans hle4356)), h4361⟩ (.cons_cons _ (.cons_cons _ (.cons _ (.refl _))))
 rintro b4127 _ _ ⟨q, s, hs4130, rfl, rfl, D, h4133⟩
 have hm := hk4137
 refine Cr<|Ts rfl (lF rfl rfl (by omega))<|Te<|Cs<|c_cond_f rfl<|Ce<|Xe<|Xe<|Xo<|Xn ?_
 refine Cr<|Ts rfl (sL 1 rfl one32 rfl rfl)<|Ts rfl (sD (vs := [_, _, _, _, _, _, _]) 0 7 rfl agg27 rfl rfl rfl)<|t_frz [_, _] hs4130 R rfl ?_
 intro b4462 I hz4464
 have h4465 := OS.frz (l := p) h4133 I.cells hz4464
 obtain ⟨⟨x4466, m⟩, hcl4468, hm⟩ := bS hm
 have hm := (unc2E hm)
 refine Tg _ rfl call6 rfl (cFleetDuties _ _ p a q s h4465 x4466 m hcl4468) ?_
 rintro _ b4469 _ y ⟨J, K, c, rfl, rfl, h4474⟩
 refine t_in1 [] [_, _] c R rfl<|M rfl rfl<|Ts rfl (st_extract rfl rfl)<|Ts rfl (st_extract rfl rfl)<|As rfl rfl<|As rfl rfl<|Te<|Cs<|Cr<|M rfl rfl ?_
 refine Ts rfl (q2 rfl rfl)<|Te ?_
 refine Cc _ rfl (fun hc4475 => ?_) (fun hc4475 => ?_)
 rw [if_pos (of_decide_eq_true hc4475)] at hm
 refine Cr<|M rfl rfl<|Ts rfl (sE rfl sl23)<|Ts rfl (q1 rfl rfl)<|As rfl rfl<|Te<|Ct<|Xr ?_
 obtain rfl := o1 hm
 exact rM (rs := [.tmp 8]) (vs := [.bool (decide ((m.length : Int) = 0))]) ⟨rfl, trivial⟩ ⟨rfl, rfl⟩ (.cons _ (.cons _ (ss c (.refl _)))) (D.trans (I.trans y))
 rw [if_neg (of_decide_eq_false hc4475)] at hm
 refine Ck<|Xn<|Cs<|Cr<|M rfl rfl<|Ts rfl (sE rfl sl23)<|M rfl rfl<|Te<|Cb ?_
 have hb4477 : m.length ≤ 9223372036854775807 := (OS.len h4474)
 refine Cp 1 rfl<|Cp 1 rfl ?_
 obtain ⟨t4515, hl4516, hk4517⟩ := bS hm
 refine cF (fun k4514 => fun _ => fun b4512 e' hp' => [(2, iv x9), (3, sv F C G), (5, pb k), (9, pb f), (13, sv J m K), (94, sv J m K), (95, iv ((m.length : Int))), (96, iv ((k4514 : Int)))] = e' ∧ (k, Cl 27 [iv a.Change, iv a.Long, iv a.Work, iv a.After, iv a.Break, iv a.Rest, iv a.Row]) :: (f, Cl 32 [sv q p s]) :: (c ++ R) = hp' ∧ b4469.Le b4512) hl4516 ⟨rfl, rfl, lr⟩ (.refl _) ?_ ?_
 rintro k4514 _ b4512 _ _ oL4476 hknL4476 ⟨rfl, rfl, n⟩ hstepL4476 houtL4476
 unfold mFishtopTopCrewed_L4476 at hstepL4476
 have hm := hstepL4476
 refine Cr<|Ts rfl (lT rfl rfl (by omega))<|Te<|Cs<|c_cond_t rfl<|Ck<|Xn<|Cs<|Cb<|Cr ?_
 obtain ⟨x4518, h4519, hm⟩ := bS hm
 obtain ⟨j4520, hj4521, hx4522⟩ := iS h4519
 obtain ⟨cs4523, hs4528, P4529, P4530, hq4531, hr4524, hcs4525, hA4526, hlt4527, hb4532, hho4533⟩ := OS.get (sz := 1) rfl (by decide) (h4474.le n) hx4522
 obtain ⟨⟨A4534, c4535, rfl, h4536⟩, rfl⟩ := hr4524
 refine Ts rfl (sI j4520 rfl rfl hj4521 hlt4527 hA4526 sl23)<|Ts rfl (st_load_rd rfl one42 (fun w ho => hcs4525 w _ ho (.cons _ (.cons _ (List.sublist_append_left _ _))) 0 _ rfl))<|As rfl rfl<|Te ?_
 obtain ⟨x4544, hj4545, hk4545⟩ := bS hm
 refine Cj (fun b4542 e' hp' => [(2, iv x9), (3, sv F C G), (5, pb k), (9, pb f), (13, sv J m K), (94, sv J m K), (95, iv ((m.length : Int))), (96, iv ((k4514 : Int))), (107, bv x4544)] = e' ∧ (k, Cl 27 [iv a.Change, iv a.Long, iv a.Work, iv a.After, iv a.Break, iv a.Rest, iv a.Row]) :: (f, Cl 32 [sv q p s]) :: (c ++ R) = hp' ∧ b4512.Le b4542) ?_ ?_
 have hm := hj4545
 refine Cg<|M rfl rfl<|Ts rfl (sE rfl sl42) ?_
 refine Tb rfl (q1 rfl rfl) (fun hc4546 => ?_) (fun hc4546 => ?_)
 rw [if_pos hc4546] at hm
 refine M rfl rfl<|No 103 rfl rfl rfl rfl rfl<|No 103 rfl rfl rfl rfl rfl<|No 103 rfl rfl rfl rfl rfl<|Ts rfl (pT rfl rfl)<|Tn ?_
 obtain rfl := o1 hm
 refine Xp 1 rfl<|Xp 1 rfl ?_
 exact xJ ⟨rfl, rfl, lr⟩ (.refl _)
 rw [if_neg hc4546] at hm
 refine M rfl rfl<|Ys 103 rfl rfl rfl<|M rfl rfl<|Ys 103 rfl rfl rfl<|Ts rfl (st_func _ _ rfl rfl)<|Ys 103 rfl rfl rfl ?_
 obtain ⟨x4547, hcl4548, hm⟩ := bS hm
 refine t_pullb 1 rfl<|Tg _ rfl call7 rfl (cSlicesContainsFunc _ _ x4518 p f A4534 c4535 q s h4536 (h4465.le (y.trans n)) x4547 hcl4548) ?_
 rintro _ b4549 _ hle4550 ⟨rfl, rfl⟩
 refine Ts rfl (pF rfl rfl)<|Tn ?_
 obtain rfl := o1 hm
 refine Xp 1 rfl ?_
 exact xJ ⟨rfl, rfl, hle4550⟩ (.refl _)
 rintro b4542 _ _ ⟨rfl, rfl, hle4543⟩
 have hm := hk4545
 refine Cc _ rfl (fun hc4551 => ?_) (fun hc4551 => ?_)
 rw [if_pos hc4551] at hm
 refine Cr<|As rfl rfl<|Te<|Ct<|Xb<|Xr<|Xr<|Xb<|Xr ?_
 have hq4552 := houtL4476 _ (Option.some.inj hm).symm
 rw [hq4552] at hk4517
 have hm := elimR hk4517
 obtain rfl := o1 hm
 exact rM (rs := [.tmp 8]) (vs := [bv false]) ⟨rfl, trivial⟩ ⟨rfl, rfl⟩ (.cons _ (.cons _ (ss c (.refl _)))) (D.trans (I.trans (y.trans (n.trans hle4543))))
 rw [if_neg (fun hh => Bool.noConfusion (hh.symm.trans hc4551))] at hm
 refine Ck<|Xm<|Xn<|Cg<|Ts rfl (sa rfl rfl (by omega))<|M rfl rfl<|Tn<|Xp 1 rfl<|Xp 1 rfl ?_
 exact xM hm ⟨rfl, rfl, ((n.trans hle4543))⟩ (.refl _)
 rintro _ b4512 _ _ ⟨rfl, rfl, n⟩ hq4553
 rw [hq4553] at hk4517
 have hm := elimL hk4517
 refine Cr<|Ts rfl (lF rfl rfl (by omega))<|Te<|Cs<|c_cond_f rfl<|Ce<|Xe<|Xe<|Xo<|Xn ?_
 refine Cr<|As rfl rfl<|Te<|Cs<|Cr<|M rfl rfl<|Te<|Cb<|Cp 1 rfl<|Cp 1 rfl ?_
 obtain ⟨t, hl5294, hk5295⟩ := bS hm
 refine cS (fun W => fun t => fun b5285 e' hp' => ∃ (L : OA), ∃ (O : Nat), ∃ (hs5288 : Hp), [(2, iv x9), (3, sv F C G), (5, pb k), (9, pb f), (13, sv J m K), (17, sv L t O), (109, iv ((W : Int)))] = e' ∧ (k, Cl 27 [iv a.Change, iv a.Long, iv a.Work, iv a.After, iv a.Break, iv a.Rest, iv a.Row]) :: (f, Cl 32 [sv q p s]) :: (c ++ (hs5288 ++ R)) = hp' ∧ b4512.Le b5285 ∧ OS 47 (OT.fr rFleetShift) b5285.w (sv L t O) t hs5288) hl5294 ⟨none, 0, [], rfl, rfl, lr, OS.nil⟩ (.refl _) ?_ ?_
 rintro W t b5285 _ _ oL4554 hknL4554 ⟨L, O, hs5288, rfl, rfl, x, h5291⟩ hstepL4554
 unfold mFishtopTopCrewed_L4554 at hstepL4554
 have hm := hstepL4554
 refine Cr<|Ts rfl (lT rfl rfl (by omega))<|Te<|Cs<|c_cond_t rfl<|Ck<|Xn<|Cs<|Cb<|Cr ?_
 refine M rfl rfl<|As rfl rfl<|Te<|Cr<|M rfl rfl<|Ts rfl (sE rfl sl23)<|M rfl rfl<|Te<|Cb ?_
 have hb5297 : m.length ≤ 9223372036854775807 := (OS.len h4474)
 refine Cp 1 rfl<|Cp 1 rfl<|c_front2 [_, _] c hs5288 R rfl<|c_front2 [_, _] hs5288 c R rfl ?_
 obtain ⟨l5539, hl5541, hk5542⟩ := bS hm
 refine cS (fun k5540 => fun l5539 => fun b5532 e' hp' => ∃ (A5536 : OA), ∃ (c5537 : Nat), ∃ (H : Hp), [(2, iv x9), (3, sv F C G), (5, pb k), (9, pb f), (13, sv J m K), (17, sv A5536 l5539 c5537), (18, iv ((W : Int))), (109, iv ((W : Int))), (112, sv J m K), (113, iv ((m.length : Int))), (114, iv ((k5540 : Int)))] = e' ∧ (k, Cl 27 [iv a.Change, iv a.Long, iv a.Work, iv a.After, iv a.Break, iv a.Rest, iv a.Row]) :: (f, Cl 32 [sv q p s]) :: (c ++ (H ++ R)) = hp' ∧ b5285.Le b5532 ∧ OS 47 (OT.fr rFleetShift) b5532.w (sv A5536 l5539 c5537) l5539 H) hl5541 ⟨L, O, hs5288, rfl, rfl, lr, h5291⟩ (.refl _) ?_ ?_
 rintro k5540 l5539 b5532 _ _ oL5296 hknL5296 ⟨A5536, c5537, H, rfl, rfl, hle5533, h5538⟩ hstepL5296
 unfold mFishtopTopCrewed_L5296 at hstepL5296
 have hm := hstepL5296
 refine Cr<|Ts rfl (lT rfl rfl (by omega))<|Te<|Cs<|c_cond_t rfl<|Ck<|Xn<|Cs<|Cb<|Cr ?_
 obtain ⟨x5543, h5544, hm⟩ := bS hm
 obtain ⟨j5545, hj5546, hx5547⟩ := iS h5544
 obtain ⟨cs5548, hs5553, P5554, P5555, hq5556, hr5549, hcs5550, hA5551, hlt5552, hb5557, hho5558⟩ := OS.get (sz := 1) rfl (by decide) (h4474.le (n.trans (x.trans hle5533))) hx5547
 obtain ⟨⟨A5559, c5560, rfl, h5561⟩, rfl⟩ := hr5549
 refine Ts rfl (sI j5545 rfl rfl hj5546 hlt5552 hA5551 sl23)<|Ts rfl (st_load_rd rfl one42 (fun w ho => hcs5550 w _ ho (.cons _ (.cons _ (List.sublist_append_left _ _))) 0 _ rfl))<|As rfl rfl<|Te<|Cr<|M rfl rfl<|Ts rfl (sE rfl sl45)<|Ts rfl (q3 rfl rfl)<|Te ?_
 refine Cc _ rfl (fun hc5562 => ?_) (fun hc5562 => ?_)
 rw [if_pos (of_decide_eq_true hc5562)] at hm
 obtain ⟨x5610, h5611, hm⟩ := bS hm
 obtain ⟨x5620, h5621, hm⟩ := bS hm
 obtain ⟨_, h5630, hm⟩ := bS hm
 obtain ⟨x5631, h5632, hm⟩ := bS hm
 obtain ⟨x5641, h5642, hm⟩ := bS hm
 obtain ⟨_, h5652, hm⟩ := bS hm
 refine Di mixed (.cons_cons _ (.cons_cons _ (sp c (ss H (.refl _)))))<|E0 0 rfl (sM rfl)<|E0 1 rfl (sM rfl)<|Es 2 rfl (sL 1 rfl one32 rfl rfl)<|E0 3 rfl (sM rfl) ?_
 obtain ⟨j5612, hj5613, hx5614⟩ := iS h5611
 obtain ⟨cs5615, hr5616, hcs5617, hA5618, hlt5619⟩ := FZ.get (sz := 1) rfl (by decide) h5561 hx5614
 obtain rfl := hr5616
 refine E0 4 rfl (sI j5612 rfl rfl hj5613 hlt5619 hA5618 sl42)<|Es 5 rfl (sO rfl one3 (hcs5617 0 _ rfl)) ?_
 obtain ⟨j5622, hj5623, hx5624⟩ := iS h5621
 obtain ⟨cs5625, hr5626, hcs5627, hA5628, hlt5629⟩ := FZ.get (sz := 6) rfl (by decide) (h4465.le (y.trans (n.trans (x.trans hle5533)))) hx5624
 obtain ⟨_, _, rfl, rfl, ⟨_, _, rfl, rfl, ⟨_, _, rfl, rfl, ⟨_, _, rfl, rfl, ⟨_, _, rfl, rfl, rfl⟩⟩⟩⟩⟩ := hr5626
 refine E0 6 rfl (sI j5622 rfl rfl hj5623 hlt5629 hA5628 sl32)<|E0 7 rfl (sQ rfl hA5628 fld39_2)<|Es 8 rfl (sO rfl one3 (hcs5627 2 _ rfl))<|Es 9 rfl (sL 1 rfl one32 rfl rfl)<|E0 10 rfl (sM rfl)<|E0 11 rfl (sM rfl)<|E0 12 rfl (sE rfl sl42) ?_
 have h5630 := (kS h5630).2
 refine E0 13 rfl (sb rfl rfl h5630) ?_
 obtain ⟨j5633, hj5634, hx5635⟩ := iS h5632
 obtain ⟨cs5636, hr5637, hcs5638, hA5639, hlt5640⟩ := FZ.get (sz := 1) rfl (by decide) h5561 hx5635
 obtain rfl := hr5637
 refine E0 14 rfl (sI j5633 rfl rfl hj5634 hlt5640 hA5639 sl42)<|Es 15 rfl (sO rfl one3 (hcs5638 0 _ rfl)) ?_
 obtain ⟨j5643, hj5644, hx5645⟩ := iS h5642
 obtain ⟨cs5646, hr5647, hcs5648, hA5649, hlt5650⟩ := FZ.get (sz := 6) rfl (by decide) (h4465.le (y.trans (n.trans (x.trans hle5533)))) hx5645
 obtain ⟨_, _, rfl, rfl, ⟨_, _, rfl, rfl, ⟨_, _, rfl, rfl, ⟨_, _, rfl, rfl, ⟨_, _, rfl, rfl, rfl⟩⟩⟩⟩⟩ := hr5647
 refine E0 16 rfl (sI j5643 rfl rfl hj5644 hlt5650 hA5649 sl32)<|E0 17 rfl (sQ rfl hA5649 fld39_3)<|Es 18 rfl (sO rfl one3 (hcs5648 3 _ rfl))<|E0 19 rfl (sB (v := .agg #[iv ((W : Int)), iv x5620.Dep, iv x5641.Arr]) [(0, iv ((W : Int))), (1, iv x5620.Dep), (2, iv x5641.Arr)] rfl (fun _ => by kernel_rfl))<|Eo<|Da [20] (by kernel_rfl) rfl ?_
 refine Rd2 lr rfl rfl (u_bslice (el := 47) [(0, .agg #[iv ((W : Int)), iv x5620.Dep, iv x5641.Arr])] [iv ((W : Int)), iv x5620.Dep, iv x5641.Arr] rfl (fun _ => by kernel_rfl)) ?_ ?_
 rintro _ _ ⟨g5651, rfl, rfl⟩
 refine ⟨.inr (.cons _ (.cons_cons _ (.cons_cons _ (sp c (ss H (.refl _)))))), ?_⟩
 have h5652 := room_some h5652
 refine d2 [_, _, _] c H R rfl<|Da [21] (by kernel_rfl) rfl ?_
 refine Rd2 lr rfl rfl (uQ (r := rFleetShift) (l := l5539) [_, _, _] (c ++ R) [[iv ((W : Int)), iv x5620.Dep, iv x5641.Arr]] [(⟨(W : Int), x5620.Dep, x5641.Arr⟩ : FleetShift)] rfl (by decide) sl45 inf47 rfl rfl rfl rfl h5538 rfl (fun w ho => Rd.own (i := 0) ho rfl) ⟨⟨[iv ((W : Int))], _, rfl, rfl, ⟨[iv x5620.Dep], _, rfl, rfl, rfl⟩⟩, trivial⟩ h5652) ?_ ?_
 rintro _ _ ⟨hs5653, rfl, h5654⟩
 obtain ⟨A5655, c5656, rfl, _⟩ := h5654.form
 refine ⟨.inr (.cons _ (.cons_cons _ (.cons_cons _ (ss hs5653 (.refl _))))), ?_⟩
 refine Ei lr (.cons _ (.cons_cons _ (.cons_cons _ (ss hs5653 (.refl _)))))<|E0 22 rfl (sA rfl)<|Eo<|Dd (by kernel_rfl)<|Xm<|Xn<|Cg<|Ts rfl (sa rfl rfl (by omega))<|M rfl rfl<|Tn ?_
 refine Xp 2 rfl<|Xp 2 rfl<|X2 [_, _, _] hs5653 c R rfl ?_
 obtain rfl := o1 hm
 exact xS ⟨A5655, c5656, hs5653, rfl, rfl, (hle5533), h5654⟩ (.cons_cons _ (.cons_cons _ (.cons _ (.refl _))))
 exact Rn
 exact Rn
 rw [if_neg (of_decide_eq_false hc5562)] at hm
 refine Ck<|Xm<|Xn<|Cg<|Ts rfl (sa rfl rfl (by omega))<|M rfl rfl<|Tn<|Xp 1 rfl<|Xp 1 rfl<|X2 [_, _] c H R rfl ?_
 refine X2 [_, _] H c R rfl ?_
 obtain rfl := o1 hm
 exact xS ⟨A5536, c5537, H, rfl, rfl, (hle5533), h5538⟩ (.refl _)
 rintro b5532 _ _ ⟨A5536, c5537, H, rfl, rfl, hle5533, h5538⟩
 have hm := hk5542
 refine Cr<|Ts rfl (lF rfl rfl (by omega))<|Te<|Cs<|c_cond_f rfl<|Ce<|Xe<|Xe<|Xo<|Xm ?_
 refine Xn<|Cg<|Ts rfl (sa rfl rfl (by omega))<|M rfl rfl<|Tn<|Xp 1 rfl<|Xp 1 rfl<|X2 [_, _] c H R rfl<|X2 [_, _] H c R rfl ?_
 obtain rfl := o1 hm
 exact xS ⟨A5536, c5537, H, rfl, rfl, ((x.trans hle5533)), h5538⟩ (.refl _)
 rintro b5285 _ _ ⟨L, O, hs5288, rfl, rfl, x, h5291⟩
 have hm := hk5295
 refine Cr<|Ts rfl (lF rfl rfl (by omega))<|Te<|Cs<|c_cond_f rfl<|Ce<|Xe<|Xe<|Xo<|Xn ?_
 refine Cr<|M rfl rfl<|M rfl rfl<|Ts rfl (sD (vs := [_, _, _, _, _, _, _]) 0 7 rfl agg27 rfl rfl rfl)<|t_front2 [_, _] c hs5288 R rfl<|t_frz [_, _] hs5288 (c ++ R) rfl ?_
 intro b5657 S hz5659
 have h5660 := OS.frz (l := t) h5291 S.cells hz5659
 obtain ⟨⟨x5661, l5662⟩, hcl5663, hm⟩ := bS hm
 have hm := (unc2E hm)
 refine Tg _ rfl call9 rfl (cFleetRoster _ _ t x9 a L O h5660 x5661 l5662 hcl5663) ?_
 rintro _ b5664 _ z ⟨A5666, c5667, hs5668, rfl, rfl, h5669⟩
 refine t_in1 [] [_, _] hs5668 (c ++ R) rfl<|M rfl rfl<|Ts rfl (st_extract rfl rfl)<|Ts rfl (st_extract rfl rfl)<|As rfl rfl<|As rfl rfl<|Te<|Cs<|Cr<|M rfl rfl ?_
 refine Ts rfl (q2 rfl rfl)<|Te ?_
 refine Cc _ rfl (fun hc5670 => ?_) (fun hc5670 => ?_)
 rw [if_pos (of_decide_eq_true hc5670)] at hm
 refine Cr<|M rfl rfl<|Ts rfl (sE rfl sl23)<|Ts rfl (q1 rfl rfl)<|As rfl rfl<|Te<|Ct<|Xr ?_
 obtain rfl := o1 hm
 exact rM (rs := [.tmp 8]) (vs := [.bool (decide ((l5662.length : Int) = 0))]) ⟨rfl, trivial⟩ ⟨rfl, rfl⟩ (.cons _ (.cons _ (ss hs5668 (ss c (.refl _))))) (D.trans (I.trans (y.trans (n.trans (x.trans (S.trans z))))))
 rw [if_neg (of_decide_eq_false hc5670)] at hm
 refine Ck<|Xn<|Cr<|M rfl rfl<|M rfl rfl<|Ts rfl (sD (vs := [_, _, _, _, _, _, _]) 0 7 rfl agg27 rfl rfl rfl)<|M rfl rfl<|t_frz [_, _] hs5668 (c ++ R) rfl ?_
 intro b5671 A hz5673
 have h5674 := OS.frz (l := l5662) h5669 A.cells hz5673
 obtain ⟨⟨x5675, Z, l5677⟩, hcl5678, hm⟩ := bS hm
 have hm := (unc3E hm)
 refine Tg _ rfl call10 rfl (cFleetStandIns _ _ t l5662 a C L O A5666 c5667 F G (h5660.le (z.trans A)) h5674 (h12.le (D.trans (I.trans (y.trans (n.trans (x.trans (S.trans (z.trans A)))))))) x5675 Z l5677 hcl5678) ?_
 rintro _ b5679 _ T ⟨A5681, c5682, hs5683, A5684, c5685, d, rfl, rfl, h5687, h5688, h5689⟩
 refine t_in2 [] [_, _] hs5683 d (c ++ R) rfl<|M rfl rfl<|Ts rfl (st_extract rfl rfl)<|Ts rfl (st_extract rfl rfl)<|Ts rfl (st_extract rfl rfl)<|t_frz [_, _] hs5683 (d ++ (c ++ R)) rfl ?_
 intro b5690 E hz5692
 have h5693 := OS.frz (l := Z) h5687 E.cells hz5692
 refine As rfl rfl<|As rfl rfl<|As rfl rfl<|Te<|Cs<|Cr<|M rfl rfl<|Ts rfl (q2 rfl rfl)<|Te ?_
 refine Cc _ rfl (fun hc5694 => ?_) (fun hc5694 => ?_)
 rw [if_pos (of_decide_eq_true hc5694)] at hm
 refine Cr<|M rfl rfl<|Ts rfl (sE rfl sl23)<|M rfl rfl<|Ts rfl (sE rfl sl42) ?_
 obtain ⟨_, h5695, hm⟩ := bS hm
 have h5695 := (kS h5695).2
 refine Ts rfl (sa rfl rfl h5695)<|Ts rfl (q1 rfl rfl)<|As rfl rfl<|Te<|Ct<|Xr ?_
 obtain rfl := o1 hm
 exact rM (rs := [.tmp 8]) (vs := [.bool (decide (((Z.length : Int) + (l5677.length : Int)) = 0))]) ⟨rfl, trivial⟩ ⟨rfl, rfl⟩ (.cons _ (.cons _ (ss d (ss c (.refl _))))) (D.trans (I.trans (y.trans (n.trans (x.trans (S.trans (z.trans (A.trans (T.trans E)))))))))
 rw [if_neg (of_decide_eq_false hc5694)] at hm
 refine Ck<|Xn<|Cr<|Do rfl (u_bslice (el := 3) [(0, iv ((-1)))] [iv ((-1))] rfl (fun _ => by kernel_rfl)) ?_
 rintro _ _ ⟨g5696, rfl, rfl⟩
 refine M rfl rfl<|Ts rfl (sE rfl sl45)<|t_seg 0 [_, _] (d ++ (c ++ R)) rfl rfl ?_
 have h5698 : OS 3 (OT.fr rI) b5690.w (.slice (some ⟨g5696, 0, none⟩) 1 1) [(-1)] [(g5696, Cl 3 [iv ((-1))])] := OS.lit [[iv ((-1))]] rfl ⟨rfl, trivial⟩ rfl (by decide)
 obtain ⟨l5699, hcl5700, hm⟩ := bS hm
 refine Do rfl (u_callWF [_, _] ([(g5696, Cl 3 [iv ((-1))])] ++ (d ++ (c ++ R))) _ rfl call11 rfl (fun w ho => cSlicesRepeat _ [] [(-1)] (t.length : Int) (some ⟨g5696, 0, none⟩) 1 (OS.now (o := (OT.fr rI)) (l := [(-1)]) (hs := [(g5696, Cl 3 [iv ((-1))])]) h5698 ho (.cons _ (.cons _ (List.sublist_append_left _ _)))) l5699 hcl5700)) ?_
 rintro _ _ ⟨_, _, rfl, A5701, c5702, hs5703, rfl, hq5706, h5704⟩
 obtain rfl := List.append_cancel_right hq5706
 have h5705 := flat_fz (w' := b5690.w) (fun _ _ _ _ h => h) h5704
 refine As rfl rfl<|Te<|Cs<|Cr<|M rfl rfl<|Ts rfl (sE rfl sl23)<|M rfl rfl<|Te<|Cb ?_
 have hb5708 : Z.length ≤ 9223372036854775807 := (FZ.bd h5693)
 refine Cp 1 rfl<|Cp 1 rfl<|c_front3 [_, _] hs5703 [(g5696, Cl 3 [iv ((-1))])] d (c ++ R) rfl<|c_front4 [_, _] d hs5703 [(g5696, Cl 3 [iv ((-1))])] c R rfl ?_
 obtain ⟨t6362, hl6363, hk6364⟩ := bS hm
 refine cF (fun U => fun l6360 => fun b6353 e' hp' => ∃ (A6357 : OA), ∃ (c6358 : Nat), ∃ (e : Hp), [(3, sv F C G), (5, pb k), (9, pb f), (13, sv J m K), (17, sv L t O), (23, sv A5684 l5677 c5685), (24, sv A6357 l6360 c6358), (178, sv A5681 Z c5682), (179, iv ((Z.length : Int))), (180, iv ((U : Int)))] = e' ∧ (k, Cl 27 [iv a.Change, iv a.Long, iv a.Work, iv a.After, iv a.Break, iv a.Rest, iv a.Row]) :: (f, Cl 32 [sv q p s]) :: (c ++ (d ++ (e ++ R))) = hp' ∧ b5690.Le b6353 ∧ OS 3 (OT.fr rI) b6353.w (sv A6357 l6360 c6358) l6360 e) hl6363 ⟨A5701, c5702, hs5703, rfl, rfl, lr, h5705⟩ (.cons_cons _ (.cons_cons _ (sp c (sp d (sp hs5703 (ss [(g5696, Cl 3 [iv ((-1))])] (.refl _))))))) ?_ ?_
 rintro U l6360 b6353 _ _ oL5707 hknL5707 ⟨A6357, c6358, e, rfl, rfl, B, h6359⟩ hstepL5707 houtL5707
 unfold mFishtopTopCrewed_L5707 at hstepL5707
 have hm := hstepL5707
 refine Cr<|Ts rfl (lT rfl rfl (by omega))<|Te<|Cs<|c_cond_t rfl<|Ck<|Xn<|Cs<|Cb<|Cr ?_
 refine M rfl rfl ?_
 obtain ⟨x6365, h6366, hm⟩ := bS hm
 obtain ⟨j6367, hj6368, hx6369⟩ := iS h6366
 obtain ⟨cs6370, hr6371, hcs6372, hA6373, hlt6374⟩ := FZ.get (sz := 1) rfl (by decide) (h5693.le B) hx6369
 obtain ⟨A6375, c6376, rfl, h6377⟩ := hr6371
 refine Ts rfl (sI j6367 rfl rfl hj6368 hlt6374 hA6373 sl23)<|Ts rfl (sO rfl one42 (hcs6372 0 _ rfl))<|As rfl rfl<|As rfl rfl<|Te<|Cr<|M rfl rfl<|Ts rfl (sE rfl sl42)<|M rfl rfl<|Te ?_
 refine Cb ?_
 have hb6379 : x6365.length ≤ 9223372036854775807 := (FZ.bd h6377)
 refine Cp 1 rfl<|Cp 1 rfl<|c_front3 [_, _] c d e R rfl<|c_front3 [_, _] e c d R rfl<|c_front3 [_, _] d e c R rfl ?_
 obtain ⟨t6585, hl6586, hk6587⟩ := bS hm
 refine cF (fun k6584 => fun l6583 => fun b6576 e' hp' => ∃ (A6580 : OA), ∃ (c6581 : Nat), ∃ (g : Hp), [(3, sv F C G), (5, pb k), (9, pb f), (13, sv J m K), (17, sv L t O), (23, sv A5684 l5677 c5685), (24, sv A6580 l6583 c6581), (25, iv ((U : Int))), (178, sv A5681 Z c5682), (179, iv ((Z.length : Int))), (180, iv ((U : Int))), (185, sv A6375 x6365 c6376), (186, iv ((x6365.length : Int))), (187, iv ((k6584 : Int)))] = e' ∧ (k, Cl 27 [iv a.Change, iv a.Long, iv a.Work, iv a.After, iv a.Break, iv a.Rest, iv a.Row]) :: (f, Cl 32 [sv q p s]) :: (c ++ (d ++ (g ++ R))) = hp' ∧ b6353.Le b6576 ∧ OS 3 (OT.fr rI) b6576.w (sv A6580 l6583 c6581) l6583 g) hl6586 ⟨A6357, c6358, e, rfl, rfl, lr, h6359⟩ (.refl _) ?_ ?_
 rintro k6584 l6583 b6576 _ _ oL6378 hknL6378 ⟨A6580, c6581, g, rfl, rfl, hle6577, h6582⟩ hstepL6378 houtL6378
 unfold mFishtopTopCrewed_L6378 at hstepL6378
 have hm := hstepL6378
 refine Cr<|Ts rfl (lT rfl rfl (by omega))<|Te<|Cs<|c_cond_t rfl<|Ck<|Xn<|Cs<|Cb<|Cr ?_
 obtain ⟨x6588, h6589, hm⟩ := bS hm
 obtain ⟨j6590, hj6591, hx6592⟩ := iS h6589
 obtain ⟨cs6593, hr6594, hcs6595, hA6596, hlt6597⟩ := FZ.get (sz := 1) rfl (by decide) (h6377.le hle6577) hx6592
 obtain rfl := hr6594
 refine Ts rfl (sI j6590 rfl rfl hj6591 hlt6597 hA6596 sl42)<|Ts rfl (sO rfl one3 (hcs6595 0 _ rfl))<|As rfl rfl<|Te<|Cs ?_
 obtain ⟨x6631, hj6632, hk6632⟩ := bS hm
 refine Cj (fun b6629 e' hp' => [(3, sv F C G), (5, pb k), (9, pb f), (13, sv J m K), (17, sv L t O), (23, sv A5684 l5677 c5685), (24, sv A6580 l6583 c6581), (25, iv ((U : Int))), (28, iv x6588), (178, sv A5681 Z c5682), (179, iv ((Z.length : Int))), (180, iv ((U : Int))), (185, sv A6375 x6365 c6376), (186, iv ((x6365.length : Int))), (187, iv ((k6584 : Int))), (216, bv x6631)] = e' ∧ (k, Cl 27 [iv a.Change, iv a.Long, iv a.Work, iv a.After, iv a.Break, iv a.Rest, iv a.Row]) :: (f, Cl 32 [sv q p s]) :: (c ++ (d ++ (g ++ R))) = hp' ∧ b6576.Le b6629) ?_ ?_
 have hm := hj6632
 refine Cg<|M rfl rfl ?_
 refine Tb rfl (q3 rfl rfl) (fun hc6633 => ?_) (fun hc6633 => ?_)
 rw [if_pos hc6633] at hm
 refine M rfl rfl<|No 193 rfl rfl rfl rfl rfl<|No 193 rfl rfl rfl rfl rfl<|No 193 rfl rfl rfl rfl rfl<|No 193 rfl rfl rfl rfl rfl<|Ts rfl (pT rfl rfl)<|M rfl rfl<|No 199 rfl rfl rfl rfl rfl<|No 199 rfl rfl rfl rfl rfl<|No 199 rfl rfl rfl rfl rfl ?_
 refine No 199 rfl rfl rfl rfl rfl<|No 199 rfl rfl rfl rfl rfl<|Ts rfl (pT rfl rfl)<|M rfl rfl<|No 206 rfl rfl rfl rfl rfl<|No 206 rfl rfl rfl rfl rfl<|No 206 rfl rfl rfl rfl rfl<|No 206 rfl rfl rfl rfl rfl<|No 206 rfl rfl rfl rfl rfl<|No 206 rfl rfl rfl rfl rfl ?_
 refine No 206 rfl rfl rfl rfl rfl<|No 206 rfl rfl rfl rfl rfl<|No 206 rfl rfl rfl rfl rfl<|Ts rfl (pT rfl rfl)<|Tn ?_
 obtain rfl := o1 hm
 refine Xp 1 rfl<|Xp 1 rfl<|X3 [_, _] c d g R rfl<|X3 [_, _] g c d R rfl<|X3 [_, _] d g c R rfl ?_
 exact xJ ⟨rfl, rfl, lr⟩ (.refl _)
 rw [if_neg hc6633] at hm
 refine M rfl rfl<|Ys 193 rfl rfl rfl<|M rfl rfl<|Ys 193 rfl rfl rfl<|M rfl rfl<|Ys 193 rfl rfl rfl<|Ts rfl (sE rfl sl42)<|Ys 193 rfl rfl rfl ?_
 refine Tb rfl (q6 rfl rfl) (fun hc6634 => ?_) (fun hc6634 => ?_)
 rw [if_pos hc6634] at hm
 refine Ts rfl (pF rfl rfl)<|M rfl rfl<|No 199 rfl rfl rfl rfl rfl<|No 199 rfl rfl rfl rfl rfl<|No 199 rfl rfl rfl rfl rfl<|No 199 rfl rfl rfl rfl rfl<|No 199 rfl rfl rfl rfl rfl<|Ts rfl (pT rfl rfl)<|M rfl rfl<|No 206 rfl rfl rfl rfl rfl ?_
 refine No 206 rfl rfl rfl rfl rfl<|No 206 rfl rfl rfl rfl rfl<|No 206 rfl rfl rfl rfl rfl<|No 206 rfl rfl rfl rfl rfl<|No 206 rfl rfl rfl rfl rfl<|No 206 rfl rfl rfl rfl rfl<|No 206 rfl rfl rfl rfl rfl<|No 206 rfl rfl rfl rfl rfl<|Ts rfl (pT rfl rfl)<|Tn ?_
 obtain rfl := o1 hm
 refine Xp 1 rfl<|Xp 1 rfl<|X3 [_, _] c d g R rfl<|X3 [_, _] g c d R rfl<|X3 [_, _] d g c R rfl ?_
 exact xJ ⟨rfl, rfl, lr⟩ (.refl _)
 rw [if_neg hc6634] at hm
 refine Ts rfl (pF rfl rfl)<|M rfl rfl<|Ys 199 rfl rfl rfl<|M rfl rfl<|Ys 199 rfl rfl rfl<|M rfl rfl<|Ys 199 rfl rfl rfl ?_
 obtain ⟨x6635, h6636, hm⟩ := bS hm
 obtain ⟨j6637, hj6638, hx6639⟩ := iS h6636
 obtain ⟨cs6640, hs6645, P6646, P6647, hq6648, hr6641, hcs6642, hA6643, hlt6644, hb6649, hho6650⟩ := OS.get (sz := 1) rfl (by decide) h6582 hx6639
 obtain ⟨rfl, rfl⟩ := hr6641
 refine Ts rfl (sI j6637 rfl rfl hj6638 hlt6644 hA6643 sl42)<|Ys 199 rfl rfl rfl<|Ts rfl (st_load_rd rfl one3 (fun w ho => hcs6642 w _ ho (.cons _ (.cons _ (ss c (ss d (List.sublist_append_left _ _))))) 0 _ rfl))<|Ys 199 rfl rfl rfl ?_
 refine Tb rfl (q6 rfl rfl) (fun hc6651 => ?_) (fun hc6651 => ?_)
 rw [if_pos hc6651] at hm
 refine Ts rfl (pF rfl rfl)<|M rfl rfl<|No 206 rfl rfl rfl rfl rfl<|No 206 rfl rfl rfl rfl rfl<|No 206 rfl rfl rfl rfl rfl<|No 206 rfl rfl rfl rfl rfl<|No 206 rfl rfl rfl rfl rfl<|No 206 rfl rfl rfl rfl rfl<|No 206 rfl rfl rfl rfl rfl<|No 206 rfl rfl rfl rfl rfl ?_
 refine No 206 rfl rfl rfl rfl rfl<|Ts rfl (pT rfl rfl)<|Tn ?_
 obtain rfl := o1 hm
 refine Xp 1 rfl<|Xp 1 rfl<|X3 [_, _] c d g R rfl<|X3 [_, _] g c d R rfl<|X3 [_, _] d g c R rfl ?_
 exact xJ ⟨rfl, rfl, lr⟩ (.refl _)
 rw [if_neg hc6651] at hm
 refine Ts rfl (pF rfl rfl)<|M rfl rfl<|Ys 206 rfl rfl rfl<|M rfl rfl<|Ys 206 rfl rfl rfl<|M rfl rfl<|Ys 206 rfl rfl rfl<|M rfl rfl<|Ys 206 rfl rfl rfl<|M rfl rfl ?_
 refine Ys 206 rfl rfl rfl ?_
 obtain ⟨x6652, h6653, hm⟩ := bS hm
 obtain ⟨j6654, hj6655, hx6656⟩ := iS h6653
 obtain ⟨cs6657, hr6658, hcs6659, hA6660, hlt6661⟩ := FZ.get (sz := 3) rfl (by decide) (h5660.le (z.trans (A.trans (T.trans (E.trans (B.trans hle6577)))))) hx6656
 obtain ⟨_, _, rfl, rfl, ⟨_, _, rfl, rfl, rfl⟩⟩ := hr6658
 refine Ts rfl (sI j6654 rfl rfl hj6655 hlt6661 hA6660 sl45)<|Ys 206 rfl rfl rfl<|Ts rfl (sQ rfl hA6660 fld47_0)<|Ys 206 rfl rfl rfl<|Ts rfl (sO rfl one3 (hcs6659 0 _ rfl))<|Ys 206 rfl rfl rfl<|Ts rfl (sB (v := .agg #[iv ((U : Int)), iv x6652.Day]) [(0, iv ((U : Int))), (1, iv x6652.Day)] rfl (fun _ => by kernel_rfl))<|Ys 206 rfl rfl rfl ?_
 obtain ⟨x6662, hcl6663, hm⟩ := bS hm
 refine Do rfl (uW _ call12 rfl (fun w ho => cSlicesContains_2 _ [] C (⟨(U : Int), x6652.Day⟩ : FleetAbsence) F G ((h12.le (D.trans (I.trans (y.trans (n.trans (x.trans (S.trans (z.trans (A.trans (T.trans (E.trans (B.trans hle6577)))))))))))).old ho) x6662 hcl6663) (fun _ _ _ h => h.2.symm)) ?_
 rintro _ _ ⟨⟨_, rfl, _⟩, rfl⟩
 refine Ts rfl (pF rfl rfl)<|Tn ?_
 obtain rfl := o1 hm
 refine Xp 1 rfl<|Xp 1 rfl<|X3 [_, _] c d g R rfl<|X3 [_, _] g c d R rfl<|X3 [_, _] d g c R rfl ?_
 exact xJ ⟨rfl, rfl, lr⟩ (.refl _)
 rintro b6629 _ _ ⟨rfl, rfl, hle6630⟩
 have hm := hk6632
 refine Cc _ rfl (fun hc6664 => ?_) (fun hc6664 => ?_)
 rw [if_pos hc6664] at hm
 refine Cr<|As rfl rfl<|Te<|Ct<|Xr<|Xb<|Xr<|Xr<|Xb<|Xb ?_
 refine Xr<|Xr<|Xb<|Xr ?_
 have hq6665 := houtL6378 _ (Option.some.inj hm).symm
 rw [hq6665] at hk6587
 have hm := elimR hk6587
 have hq6666 := houtL5707 _ (Option.some.inj hm).symm
 rw [hq6666] at hk6364
 have hm := elimR hk6364
 obtain rfl := o1 hm
 exact rM (rs := [.tmp 8]) (vs := [bv false]) ⟨rfl, trivial⟩ ⟨rfl, rfl⟩ (.cons _ (.cons _ (ss c (ss d (ss g (.refl _)))))) (D.trans (I.trans (y.trans (n.trans (x.trans (S.trans (z.trans (A.trans (T.trans (E.trans (B.trans (hle6577.trans hle6630))))))))))))
 rw [if_neg (fun hh => Bool.noConfusion (hh.symm.trans hc6664))] at hm
 refine Ck<|Xn<|Cg<|M rfl rfl<|M rfl rfl<|M rfl rfl ?_
 obtain ⟨x6667, h6668, hm⟩ := bS hm
 obtain ⟨j6669, hj6670, hx6671⟩ := iS h6668
 obtain ⟨cs6672, hs6677, P6678, P6679, hq6680, hr6673, hcs6674, hA6675, hlt6676, hb6681, hho6682⟩ := OS.get (sz := 1) rfl (by decide) (h6582.le hle6630) hx6671
 obtain ⟨rfl, rfl⟩ := hr6673
 refine Ts rfl (sI j6669 rfl rfl hj6670 hlt6676 hA6675 sl42)<|t_front3 [_, _] c d g R rfl<|Do rfl (uP hj6670 (sz := 1) (a' := (U : Int)) rfl [_, _] (c ++ (d ++ R)) 0 1 [iv ((U : Int))] rfl (h6582.le hle6630) hx6671 rfl rfl rfl siz3 rfl (mc rfl mn) (fun cs hsj hh => by obtain ⟨rfl, rfl⟩ := hh; exact ⟨by first | decide | exact Nat.le_refl _, rfl, rfl⟩)) ?_
 rintro _ _ ⟨hs6683, rfl, h6684⟩
 refine Tr 24 rfl (v' := .slice A6580 (put l6583 x6588 (U : Int)).length c6581) (by simp only [put_length])<|Tn<|Xm<|Xn<|Cg<|Ts rfl (sa rfl rfl (by omega))<|M rfl rfl<|Tn<|Xp 1 rfl<|Xp 1 rfl ?_
 refine X3 [_, _] hs6683 c d R rfl<|X3 [_, _] d hs6683 c R rfl ?_
 exact xM hm ⟨A6580, c6581, hs6683, rfl, rfl, ((hle6577.trans hle6630)), h6684⟩ (.refl _)
 rintro l6583 b6576 _ _ ⟨A6580, c6581, g, rfl, rfl, hle6577, h6582⟩ hq6685
 rw [hq6685] at hk6587
 have hm := elimL hk6587
 refine Cr<|Ts rfl (lF rfl rfl (by omega))<|Te<|Cs<|c_cond_f rfl<|Ce<|Xe<|Xe<|Xo<|Xm ?_
 refine Xn<|Cg<|Ts rfl (sa rfl rfl (by omega))<|M rfl rfl<|Tn<|Xp 1 rfl<|Xp 1 rfl<|X3 [_, _] c d g R rfl<|X3 [_, _] g c d R rfl<|X3 [_, _] d g c R rfl ?_
 exact xM hm ⟨A6580, c6581, g, rfl, rfl, ((B.trans hle6577)), h6582⟩ (.refl _)
 rintro l6360 b6353 _ _ ⟨A6357, c6358, e, rfl, rfl, B, h6359⟩ hq6686
 rw [hq6686] at hk6364
 have hm := elimL hk6364
 refine Cr<|Ts rfl (lF rfl rfl (by omega))<|Te<|Cs<|c_cond_f rfl<|Ce<|Xe<|Xe<|Xo<|Xn ?_
 refine Cs<|Cr<|M rfl rfl<|Ts rfl (sE rfl sl45)<|M rfl rfl<|Te<|Cb ?_
 have hb6688 : t.length ≤ 9223372036854775807 := (FZ.bd (h5660.le (z.trans (A.trans (T.trans (E.trans B))))))
 refine Cp 1 rfl<|Cp 1 rfl<|c_front3 [_, _] c d e R rfl<|c_front3 [_, _] e c d R rfl<|c_front3 [_, _] d e c R rfl ?_
 obtain ⟨t6795, hl6796, hk6797⟩ := bS hm
 refine cF (fun k6794 => fun _ => fun b6792 e' hp' => [(5, pb k), (9, pb f), (13, sv J m K), (23, sv A5684 l5677 c5685), (24, sv A6357 l6360 c6358), (223, sv L t O), (224, iv ((t.length : Int))), (225, iv ((k6794 : Int)))] = e' ∧ (k, Cl 27 [iv a.Change, iv a.Long, iv a.Work, iv a.After, iv a.Break, iv a.Rest, iv a.Row]) :: (f, Cl 32 [sv q p s]) :: (c ++ (d ++ (e ++ R))) = hp' ∧ b6353.Le b6792) hl6796 ⟨rfl, rfl, lr⟩ (.refl _) ?_ ?_
 rintro k6794 _ b6792 _ _ oL6687 hknL6687 ⟨rfl, rfl, X⟩ hstepL6687 houtL6687
 unfold mFishtopTopCrewed_L6687 at hstepL6687
 have hm := hstepL6687
 refine Cr<|Ts rfl (lT rfl rfl (by omega))<|Te<|Cs<|c_cond_t rfl<|Ck<|Xn<|Cs<|Cb<|Cr ?_
 refine M rfl rfl ?_
 obtain ⟨x6798, h6799, hm⟩ := bS hm
 obtain ⟨j6800, hj6801, hx6802⟩ := iS h6799
 obtain ⟨cs6803, hr6804, hcs6805, hA6806, hlt6807⟩ := FZ.get (sz := 3) rfl (by decide) (h5660.le (z.trans (A.trans (T.trans (E.trans (B.trans X)))))) hx6802
 obtain ⟨_, _, rfl, rfl, ⟨_, _, rfl, rfl, rfl⟩⟩ := hr6804
 refine Ts rfl (sI j6800 rfl rfl hj6801 hlt6807 hA6806 sl45)<|Ts rfl (sP (vs := [iv x6798.Day, iv x6798.Start, iv x6798.End]) 3 rfl agg47 hA6806 rfl (fun j u hu => hcs6805 j u hu))<|Do rfl (uA [iv 0, iv 0, iv 0] zero47 rfl) ?_
 rintro _ _ ⟨g6808, rfl, rfl⟩
 refine As rfl rfl<|Do rfl (uN (vs := [_, _, _]) 0 3 rfl rfl rfl siz47 rfl (mc rfl (mc rfl (mc rfl mn))) rfl (by simp)) ?_
 rintro _ _ rfl
 refine Te<|Cs<|Cs ?_
 obtain ⟨x6827, h6828, hm⟩ := bS hm
 obtain ⟨x6843, hcl6844, hm⟩ := bS hm
 refine Di mixed (.refl _)<|E0 0 rfl (sM rfl)<|E0 1 rfl (sM rfl) ?_
 obtain ⟨j6829, hj6830, hx6831⟩ := iS h6828
 obtain ⟨cs6832, hs6837, P6838, P6839, hq6840, hr6833, hcs6834, hA6835, hlt6836, hb6841, hho6842⟩ := OS.get (sz := 1) rfl (by decide) (h6359.le X) hx6831
 obtain ⟨rfl, rfl⟩ := hr6833
 refine E0 2 rfl (sI j6829 rfl rfl hj6830 hlt6836 hA6835 sl42)<|Es 3 rfl (st_load_rd rfl one3 (fun w ho => hcs6834 w _ ho (.cons _ (.cons _ (.cons _ (ss c (ss d (List.sublist_append_left _ _)))))) 0 _ rfl))<|E0 4 rfl (q3 rfl rfl)<|E0 5 rfl (sM rfl)<|E0 6 rfl (sM rfl)<|Eo<|Da [7] (by kernel_rfl) rfl ?_
 refine Rd2 lr rfl rfl (uW _ call13 rfl (fun w ho => cSlicesContains_3 _ [] l5677 (k6794 : Int) A5684 c5685 (OS.now (o := (OT.fr rI)) (l := l5677) (hs := d) (h5689.le (E.trans (B.trans X))) ho (.cons _ (.cons _ (.cons _ (ss c (List.sublist_append_left _ _)))))) x6843 hcl6844) (fun _ _ _ h => h.2.symm)) ?_ ?_
 rintro _ _ ⟨⟨_, rfl, _⟩, rfl⟩
 refine ⟨.inr (.refl _), ?_⟩
 refine Ei lr (.refl _)<|E0 8 rfl (st_bneq rfl rfl boo4)<|Eo<|Dd (by kernel_rfl)<|Xn ?_
 refine Cc _ rfl (fun hc6845 => ?_) (fun hc6845 => ?_)
 rw [if_pos hc6845] at hm
 refine Cr<|As rfl rfl<|Te<|Ct<|Xr<|Xb<|Xr<|Xr<|Xb<|Xr ?_
 have hq6846 := houtL6687 _ (Option.some.inj hm).symm
 rw [hq6846] at hk6797
 have hm := elimR hk6797
 obtain rfl := o1 hm
 exact rM (rs := [.tmp 8]) (vs := [bv false]) ⟨rfl, trivial⟩ ⟨rfl, rfl⟩ (.cons _ (.cons _ (.cons _ (ss c (ss d (ss e (.refl _))))))) (D.trans (I.trans (y.trans (n.trans (x.trans (S.trans (z.trans (A.trans (T.trans (E.trans (B.trans X)))))))))))
 rw [if_neg (fun hh => Bool.noConfusion (hh.symm.trans hc6845))] at hm
 refine Ck<|Xn<|Cs<|Cr<|Ts rfl (sF rfl fld47_2)<|Ts rfl (sL 0 rfl one3 rfl rfl)<|Ts rfl (sF rfl fld47_1)<|Ts rfl (sL 0 rfl one3 rfl rfl) ?_
 obtain ⟨_, h6847, hm⟩ := bS hm
 have h6847 := (kS h6847).2
 refine Ts rfl (sb rfl rfl h6847)<|Ts rfl (sF rfl fld27_1)<|Ts rfl (sL 1 rfl one3 rfl rfl)<|Ts rfl (q5 rfl rfl)<|Te ?_
 refine Cc _ rfl (fun hc6848 => ?_) (fun hc6848 => ?_)
 rw [if_pos (of_decide_eq_true hc6848)] at hm
 refine Cr<|As rfl rfl<|Te<|Ct<|Xr<|Xb<|Xr<|Xr<|Xb<|Xr ?_
 have hq6849 := houtL6687 _ (Option.some.inj hm).symm
 rw [hq6849] at hk6797
 have hm := elimR hk6797
 obtain rfl := o1 hm
 exact rM (rs := [.tmp 8]) (vs := [bv false]) ⟨rfl, trivial⟩ ⟨rfl, rfl⟩ (.cons _ (.cons _ (.cons _ (ss c (ss d (ss e (.refl _))))))) (D.trans (I.trans (y.trans (n.trans (x.trans (S.trans (z.trans (A.trans (T.trans (E.trans (B.trans X)))))))))))
 rw [if_neg (of_decide_eq_false hc6848)] at hm
 refine Ck<|Xn<|Cs ?_
 obtain ⟨_, h6873, hm⟩ := bS hm
 obtain ⟨x6874, h6875, hm⟩ := bS hm
 obtain ⟨⟨x6893, x6894⟩, hcl6895, hm⟩ := bS hm
 have hm := (unc2E hm)
 refine Di mixed (.refl _)<|Es 0 rfl (sL 2 rfl one32 rfl rfl)<|E0 1 rfl (sM rfl)<|E0 2 rfl (sM rfl)<|E0 3 rfl (sM rfl)<|E0 4 rfl (sE rfl sl23)<|E0 5 rfl (st_rem rfl rfl (ne0_some h6873)) ?_
 obtain ⟨j6876, hj6877, hx6878⟩ := iS h6875
 obtain ⟨cs6879, hs6884, P6885, P6886, hq6887, hr6880, hcs6881, hA6882, hlt6883, hb6888, hho6889⟩ := OS.get (sz := 1) rfl (by decide) (h4474.le (n.trans (x.trans (S.trans (z.trans (A.trans (T.trans (E.trans (B.trans X))))))))) hx6878
 obtain ⟨⟨A6890, c6891, rfl, h6892⟩, rfl⟩ := hr6880
 refine E0 6 rfl (sI j6876 rfl rfl hj6877 hlt6883 hA6882 sl23)<|Es 7 rfl (st_load_rd rfl one42 (fun w ho => hcs6881 w _ ho (.cons _ (.cons _ (.cons _ (List.sublist_append_left _ _)))) 0 _ rfl))<|Es 8 rfl (sD (vs := [_, _, _, _, _, _, _]) 1 7 rfl agg27 rfl rfl rfl)<|Eo<|Da [9] (by kernel_rfl) rfl ?_
 refine Rd2 lr rfl rfl (uW _ call14 rfl (fun w ho => cFleetJudge_2 _ [] p x6874 a q s A6890 c6891 ((h4465.le (y.trans (n.trans (x.trans (S.trans (z.trans (A.trans (T.trans (E.trans (B.trans X)))))))))).old ho) (h6892.old ho) x6893 x6894 hcl6895) (fun _ _ _ h => h.2.symm)) ?_ ?_
 rintro _ _ ⟨⟨_, rfl, _⟩, rfl⟩
 refine ⟨.inl (by kernel_rfl), ?_⟩
 refine El lr<|E0 10 rfl (sM rfl)<|E0 11 rfl (st_extract rfl rfl)<|E0 12 rfl (st_extract rfl rfl)<|E0 13 rfl (sA rfl)<|E0 14 rfl (sA rfl)<|Eo<|Dd (by kernel_rfl)<|Xn ?_
 obtain ⟨x6899, hj6900, hk6900⟩ := bS hm
 refine Cj (fun b6897 e' hp' => [(5, pb k), (9, pb f), (13, sv J m K), (23, sv A5684 l5677 c5685), (24, sv A6357 l6360 c6358), (223, sv L t O), (224, iv ((t.length : Int))), (225, iv ((k6794 : Int))), (265, bv x6899)] = e' ∧ (k, Cl 27 [iv a.Change, iv a.Long, iv a.Work, iv a.After, iv a.Break, iv a.Rest, iv a.Row]) :: (f, Cl 32 [sv q p s]) :: (c ++ (d ++ (e ++ R))) = hp' ∧ b6792.Le b6897) ?_ ?_
 have hm := hj6900
 refine Cg<|M rfl rfl ?_
 refine Tb rfl (q2 rfl rfl) (fun hc6901 => ?_) (fun hc6901 => ?_)
 rw [if_pos hc6901] at hm
 refine M rfl rfl<|No 262 rfl rfl rfl rfl rfl<|No 262 rfl rfl rfl rfl rfl<|Ts rfl (pT rfl rfl)<|Tn ?_
 obtain rfl := o1 hm
 refine Xp 2 rfl<|Xp 2 rfl<|X3 [_, _, _] c d e R rfl<|X3 [_, _, _] e c d R rfl<|X3 [_, _, _] d e c R rfl ?_
 exact xJ ⟨rfl, rfl, lr⟩ (.cons_cons _ (.cons_cons _ (.cons _ (.refl _))))
 rw [if_neg hc6901] at hm
 refine M rfl rfl<|Ys 262 rfl rfl rfl<|M rfl rfl<|Ys 262 rfl rfl rfl<|Ts rfl (q2 rfl rfl)<|Ts rfl (pF rfl rfl)<|Tn ?_
 obtain rfl := o1 hm
 refine Xp 2 rfl<|Xp 2 rfl<|X3 [_, _, _] c d e R rfl<|X3 [_, _, _] e c d R rfl<|X3 [_, _, _] d e c R rfl ?_
 exact xJ ⟨rfl, rfl, lr⟩ (.cons_cons _ (.cons_cons _ (.cons _ (.refl _))))
 rintro b6897 _ _ ⟨rfl, rfl, hle6898⟩
 have hm := hk6900
 refine Cc _ rfl (fun hc6902 => ?_) (fun hc6902 => ?_)
 rw [if_pos hc6902] at hm
 refine Cr<|As rfl rfl<|Te<|Ct<|Xb<|Xr<|Xr<|Xb<|Xr ?_
 have hq6903 := houtL6687 _ (Option.some.inj hm).symm
 rw [hq6903] at hk6797
 have hm := elimR hk6797
 obtain rfl := o1 hm
 exact rM (rs := [.tmp 8]) (vs := [bv false]) ⟨rfl, trivial⟩ ⟨rfl, rfl⟩ (.cons _ (.cons _ (ss c (ss d (ss e (.refl _)))))) (D.trans (I.trans (y.trans (n.trans (x.trans (S.trans (z.trans (A.trans (T.trans (E.trans (B.trans (X.trans hle6898))))))))))))
 rw [if_neg (fun hh => Bool.noConfusion (hh.symm.trans hc6902))] at hm
 refine Ck<|Xm<|Xn<|Cg<|Ts rfl (sa rfl rfl (by omega))<|M rfl rfl<|Tn<|Xp 1 rfl<|Xp 1 rfl<|X3 [_, _] c d e R rfl ?_
 refine X3 [_, _] e c d R rfl<|X3 [_, _] d e c R rfl ?_
 exact xM hm ⟨rfl, rfl, ((X.trans hle6898))⟩ (.refl _)
 exact Rn
 exact Rn
 rintro _ b6792 _ _ ⟨rfl, rfl, X⟩ hq6904
 rw [hq6904] at hk6797
 have hm := elimL hk6797
 refine Cr<|Ts rfl (lF rfl rfl (by omega))<|Te<|Cs<|c_cond_f rfl<|Ce<|Xe<|Xe<|Xo<|Xn ?_
 refine Cr<|As rfl rfl<|Te<|Ct ?_
 obtain rfl := o1 hm
 exact rM (rs := [.tmp 8]) (vs := [bv true]) ⟨rfl, trivial⟩ ⟨rfl, rfl⟩ (.cons _ (.cons _ (ss c (ss d (ss e (.refl _)))))) (D.trans (I.trans (y.trans (n.trans (x.trans (S.trans (z.trans (A.trans (T.trans (E.trans (B.trans X)))))))))))

end Go.Proofs.Ytnmhabgnfifkdaa
