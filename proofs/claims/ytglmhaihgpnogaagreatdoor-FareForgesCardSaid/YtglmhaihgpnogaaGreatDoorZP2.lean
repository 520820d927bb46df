/- Contracts: the code computes its model (part 2). -/
import Derived.Test.YtglmhaihgpnogaaGreatDoorZP1
set_option linter.unusedVariables false
set_option linter.unusedSimpArgs false
namespace Go.Proofs.YtglmhaihgpnogaaGreatDoor
open Go.RowKit Go.Fp

open Go.Fp renaming t_mv → M, t_as → As, t_st → Ts, t_do → Do, t_ne → Te, t_nil → Tn, t_no → No, t_yes → Ys, t_bool → Tb, t_callG → Tg, t_resp → Tr, c_sr → Cr, c_seq → Cs, c_region → Cg, c_cond → Cc, c_block → Cb, c_ret → Ct, c_skip → Ck, c_exit → Ce, c_join → Cj, x_then_normal → Xn, x_then_ret → Xr, x_then_exit → Xe, x_block_ret → Xb, x_block_normal → Xm, x_block_out → Xo, x_block_on → Xi, x_pullb → Xp, E_st → Es, E_s0 → E0, E_in → Ei, E_il → El, E_out → Eo, D_all → Da, D_done → Dd, D_drawI → Di, R_do → Rd2, R_nil → Rn, R_callGl → Rg, st_load → sL, st_loadD → sD, st_field → sF, st_len → sE, st_move → sM, st_assign → sA, st_pick_t → pT, st_pick_f → pF, st_index_old → sI, st_load_old → sO, st_add → sa, st_sub → sb, st_lss_t → lT, st_lss_f → lF, st_not → sn2, st_build → sB, u_box → uB, u_alloc → uA, u_store → uS, u_storeN → uN, u_callW0 → uW, u_putOS → uP, u_appOS → uQ, fn_enterG → fE, bindS → bS, some1 → o1, idx_some → iS, sub_skip → ss, chk_some → kS, notT → nt, notF → nf, mem_c → mc, mem_n → mn, st_eql → q1, st_neq → q2, st_lss → q3, st_leq → q4, st_gtr → q5, st_geq → q6
set_option maxRecDepth 20000 in
theorem cFishref2Within (b : Base) (R : Hp) (c : Int) (d : Int) (e : Int) (f : Bool) (hm : mFishref2Within c d e = some f) :
    CallsG Tryz.prog 20 [iv c, iv d, iv e] b (R) (fun v b' hp' => bv f = v ∧ R = hp') := by
 refine fE 15 Tryz.func20 rfl Tryz.ntmps20 rfl ?_
 unfold mFishref2Within at hm
 refine Cr<|As rfl rfl<|Te ?_
 obtain ⟨g, i, j⟩ := bS hm
 refine Cj (fun h e' hp' => [(6, bv g)] = e' ∧ R = hp' ∧ b.Le h) ?_ ?_
 have hm := i
 refine Cg<|M rfl rfl<|M rfl rfl ?_
 refine Tb rfl (q6 rfl rfl) (fun a => ?_) (fun a => ?_)
 rw [if_pos a] at hm
 refine M rfl rfl<|Ys 10 rfl rfl rfl<|M rfl rfl<|Ys 10 rfl rfl rfl<|M rfl rfl<|Ys 10 rfl rfl rfl<|Ts rfl (q4 rfl rfl)<|Ts rfl (pT rfl rfl)<|As rfl rfl<|Tn ?_
 obtain rfl := o1 hm
 exact xJ ⟨rfl, rfl, lr⟩ (.refl _)
 rw [if_neg a] at hm
 refine M rfl rfl<|No 10 rfl rfl rfl rfl rfl<|No 10 rfl rfl rfl rfl rfl<|No 10 rfl rfl rfl rfl rfl<|Ts rfl (pF rfl rfl)<|As rfl rfl<|Tn ?_
 obtain rfl := o1 hm
 exact xJ ⟨rfl, rfl, lr⟩ (.refl _)
 rintro h _ _ ⟨rfl, rfl, k⟩
 have hm := j
 refine Ct ?_
 obtain rfl := o1 hm
 exact rM (rs := [.tmp 6]) (vs := [bv g]) ⟨rfl, trivial⟩ ⟨rfl, rfl⟩ (.refl _) k

set_option maxRecDepth 20000 in
theorem cFishref2TicketFault (b : Base) (R : Hp) (a : FareTicket) (d : OA) (e : Nat) (o : FZ rI b.w d e a.Zones) (A : Int) (hm : mFishref2TicketFault a = some A) :
    CallsG Tryz.prog 8 [.agg #[iv a.No, iv a.Day, iv a.Start, iv a.End, iv a.Price, sv d a.Zones e]] b (R) (fun v b' hp' => iv A = v ∧ R = hp') := by
 refine fE 67 Tryz.func8 rfl Tryz.ntmps8 rfl ?_
 unfold mFishref2TicketFault at hm
 refine Cr<|Do rfl (uB _ rfl rfl) ?_
 rintro _ _ ⟨g, rfl, rfl⟩
 refine As rfl rfl<|Te<|Cs ?_
 obtain ⟨J, K, L⟩ := bS hm
 refine Cj (fun p e' hp' => [(1, pb g), (32, bv J)] = e' ∧ (g, Cl 24 [iv a.No, iv a.Day, iv a.Start, iv a.End, iv a.Price, sv d a.Zones e]) :: R = hp' ∧ b.Le p) ?_ ?_
 have hm := K
 refine Cg<|Ts rfl (sF rfl fld24_0)<|Ts rfl (sL 0 rfl one3 rfl rfl) ?_
 obtain ⟨B, O, hm⟩ := bS hm
 refine Do rfl (uW _ call20 rfl (fun w ho => cFishref2Within _ [] a.No 0 999999 B O) (fun _ _ _ h => h.2.symm)) ?_
 rintro _ _ ⟨⟨_, rfl, _⟩, rfl⟩
 rcases Bool.eq_false_or_eq_true B with j | j
 rw [if_pos j] at hm
 refine Tr 7 rfl (v' := .bool true) (by rw [j] <;> rfl)<|Ts rfl (st_not_t rfl)<|M rfl rfl<|Ys 9 rfl rfl rfl<|Ts rfl (sF rfl fld24_1)<|Ys 9 rfl rfl rfl<|Ts rfl (sL 0 rfl one3 rfl rfl)<|Ys 9 rfl rfl rfl ?_
 obtain ⟨C, S, hm⟩ := bS hm
 refine Do rfl (uW _ call20 rfl (fun w ho => cFishref2Within _ [] a.Day 0 6 C S) (fun _ _ _ h => h.2.symm)) ?_
 rintro _ _ ⟨⟨_, rfl, _⟩, rfl⟩
 rcases Bool.eq_false_or_eq_true C with k | k
 rw [if_pos k] at hm
 refine Tr 12 rfl (v' := .bool true) (by rw [k] <;> rfl)<|Ys 9 rfl rfl rfl<|Ts rfl (st_not_t rfl)<|Ts rfl (pF rfl rfl)<|M rfl rfl<|Ys 15 rfl rfl rfl<|Ts rfl (sF rfl fld24_2)<|Ys 15 rfl rfl rfl<|Ts rfl (sL 0 rfl one3 rfl rfl)<|Ys 15 rfl rfl rfl ?_
 obtain ⟨D, T, hm⟩ := bS hm
 refine Do rfl (uW _ call20 rfl (fun w ho => cFishref2Within _ [] a.Start 0 28800 D T) (fun _ _ _ h => h.2.symm)) ?_
 rintro _ _ ⟨⟨_, rfl, _⟩, rfl⟩
 rcases Bool.eq_false_or_eq_true D with l | l
 rw [if_pos l] at hm
 refine Tr 18 rfl (v' := .bool true) (by rw [l] <;> rfl)<|Ys 15 rfl rfl rfl<|Ts rfl (st_not_t rfl)<|Ts rfl (pF rfl rfl)<|M rfl rfl<|Ys 21 rfl rfl rfl<|Ts rfl (sF rfl fld24_3)<|Ys 21 rfl rfl rfl<|Ts rfl (sL 0 rfl one3 rfl rfl)<|Ys 21 rfl rfl rfl ?_
 obtain ⟨E, U, hm⟩ := bS hm
 refine Do rfl (uW _ call20 rfl (fun w ho => cFishref2Within _ [] a.End 0 28800 E U) (fun _ _ _ h => h.2.symm)) ?_
 rintro _ _ ⟨⟨_, rfl, _⟩, rfl⟩
 rcases Bool.eq_false_or_eq_true E with m | m
 rw [if_pos m] at hm
 refine Tr 24 rfl (v' := .bool true) (by rw [m] <;> rfl)<|Ys 21 rfl rfl rfl<|Ts rfl (st_not_t rfl)<|Ts rfl (pF rfl rfl)<|M rfl rfl<|Ys 27 rfl rfl rfl<|Ts rfl (sF rfl fld24_4)<|Ys 27 rfl rfl rfl<|Ts rfl (sL 0 rfl one3 rfl rfl)<|Ys 27 rfl rfl rfl ?_
 obtain ⟨V, W, hm⟩ := bS hm
 refine Do rfl (uW _ call20 rfl (fun w ho => cFishref2Within _ [] a.Price 0 100000 V W) (fun _ _ _ h => h.2.symm)) ?_
 rintro _ _ ⟨⟨_, rfl, _⟩, rfl⟩
 refine Ys 27 rfl rfl rfl<|Ts rfl (sn2 rfl)<|Ts rfl (pF rfl rfl)<|Tn ?_
 obtain rfl := o1 hm
 exact xJ ⟨rfl, rfl, lr⟩ (.refl _)
 rw [if_neg (fun hh => Bool.noConfusion (hh.symm.trans m))] at hm
 refine Tr 24 rfl (v' := .bool false) (by rw [m] <;> rfl)<|Ys 21 rfl rfl rfl<|Ts rfl (st_not_f rfl)<|Ts rfl (pF rfl rfl)<|M rfl rfl<|No 27 rfl rfl rfl rfl rfl<|No 27 rfl rfl rfl rfl rfl<|No 27 rfl rfl rfl rfl rfl<|No 27 rfl rfl rfl rfl rfl<|Ts rfl (pT rfl rfl) ?_
 refine Tn ?_
 obtain rfl := o1 hm
 exact xJ ⟨rfl, rfl, lr⟩ (.refl _)
 rw [if_neg (fun hh => Bool.noConfusion (hh.symm.trans l))] at hm
 refine Tr 18 rfl (v' := .bool false) (by rw [l] <;> rfl)<|Ys 15 rfl rfl rfl<|Ts rfl (st_not_f rfl)<|Ts rfl (pF rfl rfl)<|M rfl rfl<|No 21 rfl rfl rfl rfl rfl<|No 21 rfl rfl rfl rfl rfl<|No 21 rfl rfl rfl rfl rfl<|No 21 rfl rfl rfl rfl rfl<|Ts rfl (pT rfl rfl) ?_
 refine M rfl rfl<|No 27 rfl rfl rfl rfl rfl<|No 27 rfl rfl rfl rfl rfl<|No 27 rfl rfl rfl rfl rfl<|No 27 rfl rfl rfl rfl rfl<|Ts rfl (pT rfl rfl)<|Tn ?_
 obtain rfl := o1 hm
 exact xJ ⟨rfl, rfl, lr⟩ (.refl _)
 rw [if_neg (fun hh => Bool.noConfusion (hh.symm.trans k))] at hm
 refine Tr 12 rfl (v' := .bool false) (by rw [k] <;> rfl)<|Ys 9 rfl rfl rfl<|Ts rfl (st_not_f rfl)<|Ts rfl (pF rfl rfl)<|M rfl rfl<|No 15 rfl rfl rfl rfl rfl<|No 15 rfl rfl rfl rfl rfl<|No 15 rfl rfl rfl rfl rfl<|No 15 rfl rfl rfl rfl rfl<|Ts rfl (pT rfl rfl) ?_
 refine M rfl rfl<|No 21 rfl rfl rfl rfl rfl<|No 21 rfl rfl rfl rfl rfl<|No 21 rfl rfl rfl rfl rfl<|No 21 rfl rfl rfl rfl rfl<|Ts rfl (pT rfl rfl)<|M rfl rfl<|No 27 rfl rfl rfl rfl rfl<|No 27 rfl rfl rfl rfl rfl<|No 27 rfl rfl rfl rfl rfl ?_
 refine No 27 rfl rfl rfl rfl rfl<|Ts rfl (pT rfl rfl)<|Tn ?_
 obtain rfl := o1 hm
 exact xJ ⟨rfl, rfl, lr⟩ (.refl _)
 rw [if_neg (fun hh => Bool.noConfusion (hh.symm.trans j))] at hm
 refine Tr 7 rfl (v' := .bool false) (by rw [j] <;> rfl)<|Ts rfl (st_not_f rfl)<|M rfl rfl<|No 9 rfl rfl rfl rfl rfl<|No 9 rfl rfl rfl rfl rfl<|No 9 rfl rfl rfl rfl rfl<|No 9 rfl rfl rfl rfl rfl<|Ts rfl (pT rfl rfl)<|M rfl rfl<|No 15 rfl rfl rfl rfl rfl ?_
 refine No 15 rfl rfl rfl rfl rfl<|No 15 rfl rfl rfl rfl rfl<|No 15 rfl rfl rfl rfl rfl<|Ts rfl (pT rfl rfl)<|M rfl rfl<|No 21 rfl rfl rfl rfl rfl<|No 21 rfl rfl rfl rfl rfl<|No 21 rfl rfl rfl rfl rfl<|No 21 rfl rfl rfl rfl rfl<|Ts rfl (pT rfl rfl) ?_
 refine M rfl rfl<|No 27 rfl rfl rfl rfl rfl<|No 27 rfl rfl rfl rfl rfl<|No 27 rfl rfl rfl rfl rfl<|No 27 rfl rfl rfl rfl rfl<|Ts rfl (pT rfl rfl)<|Tn ?_
 obtain rfl := o1 hm
 exact xJ ⟨rfl, rfl, lr⟩ (.refl _)
 rintro p _ _ ⟨rfl, rfl, c⟩
 have hm := L
 refine Cc _ rfl (fun q => ?_) (fun q => ?_)
 rw [if_pos q] at hm
 refine Cr<|As rfl rfl<|Te<|Ct<|Xr ?_
 obtain rfl := o1 hm
 exact rM (rs := [.tmp 2]) (vs := [iv 2]) ⟨rfl, trivial⟩ ⟨rfl, rfl⟩ (.cons _ (.refl _)) c
 rw [if_neg (fun hh => Bool.noConfusion (hh.symm.trans q))] at hm
 refine Ck<|Xn<|Cs<|Cr<|Ts rfl (sF rfl fld24_3)<|Ts rfl (sL 0 rfl one3 rfl rfl)<|Ts rfl (sF rfl fld24_2)<|Ts rfl (sL 0 rfl one3 rfl rfl)<|Ts rfl (q3 rfl rfl)<|Te ?_
 refine Cc _ rfl (fun r => ?_) (fun r => ?_)
 rw [if_pos (of_decide_eq_true r)] at hm
 refine Cr<|As rfl rfl<|Te<|Ct<|Xr ?_
 obtain rfl := o1 hm
 exact rM (rs := [.tmp 2]) (vs := [iv 13]) ⟨rfl, trivial⟩ ⟨rfl, rfl⟩ (.cons _ (.refl _)) c
 rw [if_neg (of_decide_eq_false r)] at hm
 refine Ck<|Xn<|Cs<|Cr<|Ts rfl (sF rfl fld24_5)<|Ts rfl (sL 0 rfl one22 rfl rfl)<|Ts rfl (sE rfl sl22) ?_
 obtain ⟨X, Y, hm⟩ := bS hm
 refine Do rfl (uW _ call20 rfl (fun w ho => cFishref2Within _ [] (a.Zones.length : Int) 1 10 X Y) (fun _ _ _ h => h.2.symm)) ?_
 rintro _ _ ⟨⟨_, rfl, _⟩, rfl⟩
 refine Ts rfl (sn2 rfl)<|Te ?_
 refine Cc _ rfl (fun s => ?_) (fun s => ?_)
 rw [if_neg (fun hh => Bool.noConfusion (hh.symm.trans (nt s)))] at hm
 refine Cr<|As rfl rfl<|Te<|Ct<|Xr ?_
 obtain rfl := o1 hm
 exact rM (rs := [.tmp 2]) (vs := [iv 4]) ⟨rfl, trivial⟩ ⟨rfl, rfl⟩ (.cons _ (.refl _)) c
 rw [if_pos (nf s)] at hm
 refine Ck<|Xn<|Cs<|Cr<|Ts rfl (sF rfl fld24_5)<|Ts rfl (sL 0 rfl one22 rfl rfl)<|Ts rfl (sE rfl sl22)<|M rfl rfl<|Te<|Cb ?_
 have aC : a.Zones.length ≤ 9223372036854775807 := (FZ.bd (o.le c))
 obtain ⟨aD, Z, i⟩ := bS hm
 refine cF (fun t => fun _ => fun n e' hp' => [(1, pb g), (44, sv d a.Zones e), (45, iv ((a.Zones.length : Int))), (46, iv ((t : Int)))] = e' ∧ (g, Cl 24 [iv a.No, iv a.Day, iv a.Start, iv a.End, iv a.Price, sv d a.Zones e]) :: R = hp' ∧ p.Le n) Z ⟨rfl, rfl, lr⟩ (.refl _) ?_ ?_
 rintro t _ n _ _ aE aF ⟨rfl, rfl, f⟩ F G
 unfold mFishref2TicketFault_L177 at F
 have hm := F
 refine Cr<|Ts rfl (lT rfl rfl (by omega))<|Te<|Cs<|c_cond_t rfl<|Ck<|Xn<|Cs<|Cb<|Cr ?_
 refine M rfl rfl ?_
 obtain ⟨aa, ab, hm⟩ := bS hm
 obtain ⟨ac, ad, ae⟩ := iS ab
 obtain ⟨aG, af, ag, ah, ai⟩ := FZ.get (sz := 1) rfl (by decide) (o.le (c.trans f)) ae
 obtain rfl := af
 refine Ts rfl (sI ac rfl rfl ad ai ah sl22)<|Ts rfl (sO rfl one3 (ag 0 _ rfl))<|As rfl rfl<|As rfl rfl<|Te<|Cs<|Cr<|M rfl rfl ?_
 obtain ⟨aj, ak, hm⟩ := bS hm
 refine Do rfl (uW _ call20 rfl (fun w ho => cFishref2Within _ [] aa 0 19 aj ak) (fun _ _ _ h => h.2.symm)) ?_
 rintro _ _ ⟨⟨_, rfl, _⟩, rfl⟩
 refine Ts rfl (sn2 rfl)<|Te ?_
 refine Cc _ rfl (fun u => ?_) (fun u => ?_)
 rw [if_neg (fun hh => Bool.noConfusion (hh.symm.trans (nt u)))] at hm
 refine Cr<|As rfl rfl<|Te<|Ct<|Xr<|Xb<|Xr<|Xr<|Xb<|Xr ?_
 have al := G _ (Option.some.inj hm).symm
 rw [al] at i
 have hm := elimR i
 obtain rfl := o1 hm
 exact rM (rs := [.tmp 2]) (vs := [iv 2]) ⟨rfl, trivial⟩ ⟨rfl, rfl⟩ (.cons _ (.refl _)) (c.trans f)
 rw [if_pos (nf u)] at hm
 refine Ck<|Xn ?_
 obtain ⟨am, an, ao⟩ := bS hm
 refine Cj (fun H e' hp' => [(1, pb g), (44, sv d a.Zones e), (45, iv ((a.Zones.length : Int))), (46, iv ((t : Int))), (65, bv am)] = e' ∧ (g, Cl 24 [iv a.No, iv a.Day, iv a.Start, iv a.End, iv a.Price, sv d a.Zones e]) :: R = hp' ∧ n.Le H) ?_ ?_
 have hm := an
 refine Cg<|M rfl rfl ?_
 refine Tb rfl (q5 rfl rfl) (fun x => ?_) (fun x => ?_)
 rw [if_pos x] at hm
 refine M rfl rfl<|Ys 56 rfl rfl rfl<|M rfl rfl<|Ys 56 rfl rfl rfl<|Ts rfl (sF rfl fld24_5)<|Ys 56 rfl rfl rfl<|Ts rfl (sL 0 rfl one22 rfl rfl)<|Ys 56 rfl rfl rfl<|M rfl rfl<|Ys 56 rfl rfl rfl ?_
 obtain ⟨_, y, hm⟩ := bS hm
 have y := (kS y).2
 refine Ts rfl (sb rfl rfl y)<|Ys 56 rfl rfl rfl ?_
 obtain ⟨aH, aq, hm⟩ := bS hm
 obtain ⟨ar, au, av⟩ := iS aq
 obtain ⟨aI, aw, ax, ay, az⟩ := FZ.get (sz := 1) rfl (by decide) (o.le (c.trans f)) av
 obtain rfl := aw
 refine Ts rfl (sI ar rfl rfl au az ay sl22)<|Ys 56 rfl rfl rfl<|Ts rfl (sO rfl one3 (ax 0 _ rfl))<|Ys 56 rfl rfl rfl<|Ts rfl (q4 rfl rfl)<|Ts rfl (pT rfl rfl)<|Tn ?_
 obtain rfl := o1 hm
 exact xJ ⟨rfl, rfl, lr⟩ (.refl _)
 rw [if_neg x] at hm
 refine M rfl rfl<|No 56 rfl rfl rfl rfl rfl<|No 56 rfl rfl rfl rfl rfl<|No 56 rfl rfl rfl rfl rfl<|No 56 rfl rfl rfl rfl rfl<|No 56 rfl rfl rfl rfl rfl<|No 56 rfl rfl rfl rfl rfl<|No 56 rfl rfl rfl rfl rfl<|No 56 rfl rfl rfl rfl rfl<|Ts rfl (pF rfl rfl) ?_
 refine Tn ?_
 obtain rfl := o1 hm
 exact xJ ⟨rfl, rfl, lr⟩ (.refl _)
 rintro H _ _ ⟨rfl, rfl, I⟩
 have hm := ao
 refine Cc _ rfl (fun z => ?_) (fun z => ?_)
 rw [if_pos z] at hm
 refine Cr<|As rfl rfl<|Te<|Ct<|Xb<|Xr<|Xr<|Xb<|Xr ?_
 have aA := G _ (Option.some.inj hm).symm
 rw [aA] at i
 have hm := elimR i
 obtain rfl := o1 hm
 exact rM (rs := [.tmp 2]) (vs := [iv 1]) ⟨rfl, trivial⟩ ⟨rfl, rfl⟩ (.cons _ (.refl _)) (c.trans (f.trans I))
 rw [if_neg (fun hh => Bool.noConfusion (hh.symm.trans z))] at hm
 refine Ck<|Xm<|Xn<|Cg<|Ts rfl (sa rfl rfl (by omega))<|M rfl rfl<|Tn ?_
 exact xM hm ⟨rfl, rfl, ((f.trans I))⟩ (.refl _)
 rintro _ n _ _ ⟨rfl, rfl, f⟩ aB
 rw [aB] at i
 have hm := elimL i
 refine Cr<|Ts rfl (lF rfl rfl (by omega))<|Te<|Cs<|c_cond_f rfl<|Ce<|Xe<|Xe<|Xo<|Xn ?_
 refine Cr<|As rfl rfl<|Te<|Ct ?_
 obtain rfl := o1 hm
 exact rM (rs := [.tmp 2]) (vs := [iv 0]) ⟨rfl, trivial⟩ ⟨rfl, rfl⟩ (.cons _ (.refl _)) (c.trans f)

set_option maxRecDepth 20000 in
theorem cStringsliteHasSuffix (b : Base) (R : Hp) (d : ByteArray) (e : ByteArray) (f : Bool) (hm : mStringsliteHasSuffix d e = some f) :
    CallsG Tryz.prog 71 [.string (d), .string (e)] b (R) (fun v b' hp' => bv f = v ∧ R = hp') := by
 refine fE 21 Tryz.func71 rfl Tryz.ntmps71 rfl ?_
 unfold mStringsliteHasSuffix at hm
 refine Cr<|As rfl rfl<|Te ?_
 obtain ⟨g, i, j⟩ := bS hm
 refine Cj (fun h e' hp' => [(4, bv g)] = e' ∧ R = hp' ∧ b.Le h) ?_ ?_
 have hm := i
 refine Cg<|M rfl rfl<|Ts rfl (st_slen rfl str9)<|M rfl rfl<|Ts rfl (st_slen rfl str9) ?_
 refine Tb rfl (q6 rfl rfl) (fun a => ?_) (fun a => ?_)
 rw [if_pos a] at hm
 refine M rfl rfl<|Ys 10 rfl rfl rfl<|M rfl rfl<|Ys 10 rfl rfl rfl<|M rfl rfl<|Ys 10 rfl rfl rfl<|Ts rfl (st_slen rfl str9)<|Ys 10 rfl rfl rfl<|M rfl rfl<|Ys 10 rfl rfl rfl ?_
 refine Ts rfl (st_slen rfl str9)<|Ys 10 rfl rfl rfl ?_
 obtain ⟨_, c, hm⟩ := bS hm
 have c := (kS c).2
 refine Ts rfl (sb rfl rfl c)<|Ys 10 rfl rfl rfl ?_
 obtain ⟨m, k, hm⟩ := bS hm
 refine Ts rfl (st_scut rfl (.inr ⟨_, _, rfl, rfl⟩) (.inl ⟨rfl, rfl⟩) k str9)<|Ys 10 rfl rfl rfl<|M rfl rfl<|Ys 10 rfl rfl rfl<|Ts rfl (st_seql rfl rfl)<|Ts rfl (pT rfl rfl)<|As rfl rfl<|Tn ?_
 obtain rfl := o1 hm
 exact xJ ⟨rfl, rfl, lr⟩ (.refl _)
 rw [if_neg a] at hm
 refine M rfl rfl<|No 10 rfl rfl rfl rfl rfl<|No 10 rfl rfl rfl rfl rfl<|No 10 rfl rfl rfl rfl rfl<|No 10 rfl rfl rfl rfl rfl<|No 10 rfl rfl rfl rfl rfl<|No 10 rfl rfl rfl rfl rfl<|No 10 rfl rfl rfl rfl rfl<|No 10 rfl rfl rfl rfl rfl<|No 10 rfl rfl rfl rfl rfl ?_
 refine Ts rfl (pF rfl rfl)<|As rfl rfl<|Tn ?_
 obtain rfl := o1 hm
 exact xJ ⟨rfl, rfl, lr⟩ (.refl _)
 rintro h _ _ ⟨rfl, rfl, l⟩
 have hm := j
 refine Ct ?_
 obtain rfl := o1 hm
 exact rM (rs := [.tmp 4]) (vs := [bv g]) ⟨rfl, trivial⟩ ⟨rfl, rfl⟩ (.refl _) l

set_option maxRecDepth 20000 in
theorem cStringsliteCutSuffix (b : Base) (R : Hp) (a : ByteArray) (c : ByteArray) (f : ByteArray) (g : Bool) (hm : mStringsliteCutSuffix a c = some (f, g)) :
    CallsG Tryz.prog 51 [.string (a), .string (c)] b (R) (fun v b' hp' => .tuple #[.string (f), bv g] = v ∧ R = hp') := by
 refine fE 18 Tryz.func51 rfl Tryz.ntmps51 rfl ?_
 unfold mStringsliteCutSuffix at hm
 refine Cr<|As rfl rfl<|As rfl rfl<|Te<|Cs<|Cr<|M rfl rfl<|M rfl rfl ?_
 obtain ⟨i, j, hm⟩ := bS hm
 refine Do rfl (uW _ call71 rfl (fun w ho => cStringsliteHasSuffix _ [] a c i j) (fun _ _ _ h => h.2.symm)) ?_
 rintro _ _ ⟨⟨_, rfl, _⟩, rfl⟩
 refine Ts rfl (sn2 rfl)<|Te ?_
 refine Cc _ rfl (fun d => ?_) (fun d => ?_)
 rw [if_neg (fun hh => Bool.noConfusion (hh.symm.trans (nt d)))] at hm
 refine Cr<|M rfl rfl<|As rfl rfl<|As rfl rfl<|Te<|Ct<|Xr ?_
 obtain ⟨rfl, rfl⟩ := some2 hm
 exact rM (rs := [.tmp 4, .tmp 5]) (vs := [.string (a), bv false]) ⟨rfl, ⟨rfl, trivial⟩⟩ ⟨rfl, rfl⟩ (.refl _) lr
 rw [if_pos (nf d)] at hm
 refine Ck<|Xn<|Cr<|M rfl rfl<|M rfl rfl<|Ts rfl (st_slen rfl str9)<|M rfl rfl<|Ts rfl (st_slen rfl str9) ?_
 obtain ⟨_, e, hm⟩ := bS hm
 have e := (kS e).2
 refine Ts rfl (sb rfl rfl e) ?_
 obtain ⟨k, l, hm⟩ := bS hm
 refine Ts rfl (st_scut rfl (.inl ⟨rfl, rfl⟩) (.inr ⟨_, _, rfl, rfl⟩) l str9)<|As rfl rfl<|As rfl rfl<|Te<|Ct ?_
 obtain ⟨rfl, rfl⟩ := some2 hm
 exact rM (rs := [.tmp 4, .tmp 5]) (vs := [.string (k), bv true]) ⟨rfl, ⟨rfl, trivial⟩⟩ ⟨rfl, rfl⟩ (.refl _) lr

set_option maxRecDepth 20000 in
theorem cStringsCutSuffix (b : Base) (R : Hp) (a : ByteArray) (c : ByteArray) (d : ByteArray) (e : Bool) (hm : mStringsCutSuffix a c = some (d, e)) :
    CallsG Tryz.prog 35 [.string (a), .string (c)] b (R) (fun v b' hp' => .tuple #[.string (d), bv e] = v ∧ R = hp') := by
 refine fE 11 Tryz.func35 rfl Tryz.ntmps35 rfl ?_
 unfold mStringsCutSuffix at hm
 refine Cr<|As rfl rfl<|As rfl rfl<|Te<|Cr<|M rfl rfl<|M rfl rfl ?_
 obtain ⟨⟨f, g⟩, i, hm⟩ := bS hm
 have hm := (unc2E hm)
 refine Do rfl (uW _ call51 rfl (fun w ho => cStringsliteCutSuffix _ [] a c f g i) (fun _ _ _ h => h.2.symm)) ?_
 rintro _ _ ⟨⟨_, rfl, _⟩, rfl⟩
 refine Ts rfl (st_extract rfl rfl)<|Ts rfl (st_extract rfl rfl)<|As rfl rfl<|As rfl rfl<|Te<|Ct ?_
 obtain ⟨rfl, rfl⟩ := some2 hm
 exact rM (rs := [.tmp 4, .tmp 5]) (vs := [.string (f), bv g]) ⟨rfl, ⟨rfl, trivial⟩⟩ ⟨rfl, rfl⟩ (.refl _) lr

set_option maxRecDepth 20000 in
theorem cStringsliteIndexByte (b : Base) (R : Hp) (a : ByteArray) (c : Int) (d : Int) (hm : mStringsliteIndexByte a c = some d) :
    CallsG Tryz.prog 106 [.string (a), .int .u8 (c)] b (R) (fun v b' hp' => iv d = v ∧ R = hp') := by
 refine fE 8 Tryz.func106 rfl Tryz.ntmps106 rfl ?_
 unfold mStringsliteIndexByte at hm
 refine Cr<|As rfl rfl<|Te<|Cr<|M rfl rfl<|M rfl rfl<|Ts rfl (st_extern ext114_1 ext114_2 ext114_3 ext114_4 ext114_5 rfl (run_sFirst _ _))<|As rfl rfl<|Te<|Ct ?_
 obtain rfl := o1 hm
 exact rM (rs := [.tmp 4]) (vs := [iv ((sFirst a c))]) ⟨rfl, trivial⟩ ⟨rfl, rfl⟩ (.refl _) lr

set_option maxRecDepth 20000 in
theorem cStringsliteIndex (b : Base) (R : Hp) (a : ByteArray) (c : ByteArray) (j : Int) (hm : mStringsliteIndex a c = some j) :
    CallsG Tryz.prog 94 [.string (a), .string (c)] b (R) (fun v b' hp' => iv j = v ∧ R = hp') := by
 refine fE 143 Tryz.func94 rfl Tryz.ntmps94 rfl ?_
 unfold mStringsliteIndex at hm
 refine Cr<|As rfl rfl<|Te<|Cr<|M rfl rfl<|Ts rfl (st_slen rfl str9)<|As rfl rfl<|Te<|Cs<|Cb ?_
 obtain ⟨m, n, o⟩ := bS hm
 refine Cj (fun k e' hp' => [(0, .string (a)), (1, .string (c)), (5, iv ((c.size : Int))), (16, bv m)] = e' ∧ R = hp' ∧ b.Le k) ?_ ?_
 have hm := n
 refine Cg<|M rfl rfl ?_
 refine Tb rfl (q1 rfl rfl) (fun d => ?_) (fun d => ?_)
 rw [if_pos d] at hm
 refine M rfl rfl<|No 19 rfl rfl rfl rfl rfl<|No 19 rfl rfl rfl rfl rfl<|No 19 rfl rfl rfl rfl rfl<|Ts rfl (pT rfl rfl)<|As rfl rfl<|Tn ?_
 obtain rfl := o1 hm
 exact xJ ⟨rfl, rfl, lr⟩ (.refl _)
 rw [if_neg d] at hm
 refine M rfl rfl<|Ys 19 rfl rfl rfl<|M rfl rfl<|Ys 19 rfl rfl rfl<|M rfl rfl<|Ys 19 rfl rfl rfl<|Ts rfl (st_seql rfl rfl)<|Ts rfl (pF rfl rfl)<|As rfl rfl<|Tn ?_
 obtain rfl := o1 hm
 exact xJ ⟨rfl, rfl, lr⟩ (.refl _)
 rintro k _ _ ⟨rfl, rfl, e⟩
 have hm := o
 refine Cc _ rfl (fun f => ?_) (fun f => ?_)
 rw [if_pos f] at hm
 refine Cr<|As rfl rfl<|Te<|Ct<|Xb<|Xr ?_
 obtain rfl := o1 hm
 exact rM (rs := [.tmp 4]) (vs := [iv 0]) ⟨rfl, trivial⟩ ⟨rfl, rfl⟩ (.refl _) e
 rw [if_neg (fun hh => Bool.noConfusion (hh.symm.trans f))] at hm
 refine Cr<|M rfl rfl<|Ts rfl (q1 rfl rfl)<|As rfl rfl<|Te ?_
 refine Cc _ rfl (fun g => ?_) (fun g => ?_)
 rw [if_pos (of_decide_eq_true g)] at hm
 refine Cr<|M rfl rfl<|M rfl rfl ?_
 obtain ⟨p, q, hm⟩ := bS hm
 refine Ts rfl (st_sidx rfl rfl q str9) ?_
 obtain ⟨l, r, hm⟩ := bS hm
 refine Do rfl (uW _ call106 rfl (fun w ho => cStringsliteIndexByte _ [] a p l r) (fun _ _ _ h => h.2.symm)) ?_
 rintro _ _ ⟨⟨_, rfl, _⟩, rfl⟩
 refine As rfl rfl<|Te<|Ct<|Xb<|Xr ?_
 obtain rfl := o1 hm
 exact rM (rs := [.tmp 4]) (vs := [iv l]) ⟨rfl, trivial⟩ ⟨rfl, rfl⟩ (.refl _) e
 rw [if_neg (of_decide_eq_false g)] at hm
 refine Cr<|M rfl rfl<|M rfl rfl<|Ts rfl (st_slen rfl str9)<|Ts rfl (q6 rfl rfl)<|As rfl rfl<|Te ?_
 refine Cc _ rfl (fun i => ?_) (fun i => ?_)
 rw [if_pos (of_decide_eq_true i)] at hm
 refine Cr<|As rfl rfl<|Te<|Ct<|Xb<|Xr ?_
 obtain rfl := o1 hm
 exact rM (rs := [.tmp 4]) (vs := [iv ((-1))]) ⟨rfl, trivial⟩ ⟨rfl, rfl⟩ (.refl _) e
 rw [if_neg (of_decide_eq_false i)] at hm
 refine Cr<|M rfl rfl ?_
 cases hm

set_option maxRecDepth 20000 in
theorem cStringsIndex (b : Base) (R : Hp) (a : ByteArray) (c : ByteArray) (d : Int) (hm : mStringsIndex a c = some d) :
    CallsG Tryz.prog 74 [.string (a), .string (c)] b (R) (fun v b' hp' => iv d = v ∧ R = hp') := by
 refine fE 8 Tryz.func74 rfl Tryz.ntmps74 rfl ?_
 unfold mStringsIndex at hm
 refine Cr<|As rfl rfl<|Te<|Cr<|M rfl rfl<|M rfl rfl ?_
 obtain ⟨e, f, hm⟩ := bS hm
 refine Do rfl (uW _ call94 rfl (fun w ho => cStringsliteIndex _ [] a c e f) (fun _ _ _ h => h.2.symm)) ?_
 rintro _ _ ⟨⟨_, rfl, _⟩, rfl⟩
 refine As rfl rfl<|Te<|Ct ?_
 obtain rfl := o1 hm
 exact rM (rs := [.tmp 4]) (vs := [iv e]) ⟨rfl, trivial⟩ ⟨rfl, rfl⟩ (.refl _) lr

set_option maxRecDepth 20000 in
theorem cStringsCount (b : Base) (R : Hp) (c : ByteArray) (a : ByteArray) (l : Int) (hm : mStringsCount c a = some l) :
    CallsG Tryz.prog 73 [.string (c), .string (a)] b (R) (fun v b' hp' => iv l = v ∧ R = hp') := by
 refine fE 34 Tryz.func73 rfl Tryz.ntmps73 rfl ?_
 unfold mStringsCount at hm
 refine Cr<|As rfl rfl<|Te<|Cs<|Cr<|M rfl rfl<|Ts rfl (st_slen rfl str9)<|Ts rfl (q1 rfl rfl)<|Te ?_
 refine Cc _ rfl (fun d => ?_) (fun d => ?_)
 rw [if_pos (of_decide_eq_true d)] at hm
 refine Cr<|M rfl rfl ?_
 cases hm
 rw [if_neg (of_decide_eq_false d)] at hm
 refine Ck<|Xn<|Cs<|Cr<|M rfl rfl<|Ts rfl (st_slen rfl str9)<|Ts rfl (q1 rfl rfl)<|Te ?_
 refine Cc _ rfl (fun e => ?_) (fun e => ?_)
 rw [if_pos (of_decide_eq_true e)] at hm
 refine Cr<|M rfl rfl<|M rfl rfl ?_
 obtain ⟨p, q, hm⟩ := bS hm
 refine Ts rfl (st_sidx rfl rfl q str9)<|Ts rfl (st_extern ext93_1 ext93_2 ext93_3 ext93_4 ext93_5 rfl (run_sCount _ _))<|As rfl rfl<|Te<|Ct<|Xr ?_
 obtain rfl := o1 hm
 exact rM (rs := [.tmp 4]) (vs := [iv ((sCount c p))]) ⟨rfl, trivial⟩ ⟨rfl, rfl⟩ (.refl _) lr
 rw [if_neg (of_decide_eq_false e)] at hm
 refine Ck<|Xn<|Cr<|As rfl rfl<|Te<|Cb<|cL (unc2 fun f g => fun m e' hp' => [(0, .string (f)), (1, .string (a)), (5, iv g)] = e' ∧ R = hp' ∧ b.Le m) hm ⟨rfl, rfl, lr⟩ (.refl _) ?_
 rintro ⟨f, g⟩ m _ _ x ⟨rfl, rfl, n⟩ o r
 unfold mStringsCount_L40 at o
 have hm := (unc2E o)
 refine Cb<|Cr<|M rfl rfl<|M rfl rfl ?_
 obtain ⟨s, t, hm⟩ := bS hm
 refine Do rfl (uW _ call74 rfl (fun w ho => cStringsIndex _ [] f a s t) (fun _ _ _ h => h.2.symm)) ?_
 rintro _ _ ⟨⟨_, rfl, _⟩, rfl⟩
 refine As rfl rfl<|Te<|Cs<|Cr<|M rfl rfl<|Ts rfl (q1 rfl rfl)<|Te ?_
 refine Cc _ rfl (fun i => ?_) (fun i => ?_)
 rw [if_pos (of_decide_eq_true i)] at hm
 refine Cr<|M rfl rfl<|As rfl rfl<|Te<|Ct<|Xr<|Xb<|Xr<|Xb ?_
 have hm := congrArg some (r _ (Option.some.inj hm).symm)
 obtain rfl := o1 hm
 exact rM (rs := [.tmp 4]) (vs := [iv g]) ⟨rfl, trivial⟩ ⟨rfl, rfl⟩ (.refl _) n
 rw [if_neg (of_decide_eq_false i)] at hm
 refine Ck<|Xn<|Cr<|M rfl rfl ?_
 obtain ⟨_, j, hm⟩ := bS hm
 have j := (kS j).2
 refine Ts rfl (sa rfl rfl j)<|As rfl rfl<|Te<|Cg<|M rfl rfl<|M rfl rfl<|M rfl rfl<|Ts rfl (st_slen rfl str9) ?_
 obtain ⟨_, k, hm⟩ := bS hm
 have k := (kS k).2
 refine Ts rfl (sa rfl rfl k) ?_
 obtain ⟨y, u, hm⟩ := bS hm
 refine Ts rfl (st_scut rfl (.inr ⟨_, _, rfl, rfl⟩) (.inl ⟨rfl, rfl⟩) u str9)<|As rfl rfl<|Tn<|Xm ?_
 exact xM hm ⟨rfl, rfl, (n)⟩ (.refl _)

set_option maxRecDepth 20000 in
theorem cStringsGenSplit (b : Base) (R : Hp) (g : ByteArray) (d : ByteArray) (n : Int) (V : Int) (o : (List ByteArray)) (hm : mStringsGenSplit g d n V = some o) :
    CallsG Tryz.prog 52 [.string (g), .string (d), iv n, iv V] b (R) (fun v b' hp' => ∃ (W : OA), ∃ (X : Nat), ∃ (Y : Hp), sv W o X = v ∧ (Y ++ R) = hp' ∧ OS 9 (OT.fr RT.str) b'.w (sv W o X) o Y) := by
 refine fE 66 Tryz.func52 rfl Tryz.ntmps52 rfl ?_
 unfold mStringsGenSplit at hm
 refine Cr<|As rfl rfl<|Te<|Cs<|Cr<|M rfl rfl<|Ts rfl (q1 rfl rfl)<|Te ?_
 refine Cc _ rfl (fun s => ?_) (fun s => ?_)
 rw [if_pos (of_decide_eq_true s)] at hm
 refine Cr<|As rfl rfl<|Te<|Ct<|Xr ?_
 obtain rfl := o1 hm
 exact rM (rs := [.tmp 8]) (vs := [sn]) ⟨rfl, trivial⟩ ⟨none, 0, [], rfl, rfl, OS.nil⟩ (.refl _) lr
 rw [if_neg (of_decide_eq_false s)] at hm
 refine Ck<|Xn<|Cs<|Cr<|M rfl rfl<|Ts rfl (st_seql rfl rfl)<|Te ?_
 refine Cc _ rfl (fun t => ?_) (fun t => ?_)
 rw [if_pos t] at hm
 refine Cr<|M rfl rfl<|M rfl rfl ?_
 cases hm
 rw [if_neg (fun hh => Bool.noConfusion (hh.symm.trans t))] at hm
 refine Ck<|Xn ?_
 obtain ⟨Z, ao, aq⟩ := bS hm
 refine Cj (fun p e' hp' => [(0, .string (g)), (1, .string (d)), (2, iv n), (3, iv Z)] = e' ∧ R = hp' ∧ b.Le p) ?_ ?_
 have hm := ao
 refine Cr<|M rfl rfl<|Ts rfl (q3 rfl rfl)<|Te ?_
 refine Cc _ rfl (fun u => ?_) (fun u => ?_)
 rw [if_pos (of_decide_eq_true u)] at hm
 refine Cg<|M rfl rfl<|M rfl rfl ?_
 obtain ⟨ar, au, hm⟩ := bS hm
 refine Do rfl (uW _ call73 rfl (fun w ho => cStringsCount _ [] g d ar au) (fun _ _ _ h => h.2.symm)) ?_
 rintro _ _ ⟨⟨_, rfl, _⟩, rfl⟩
 obtain ⟨_, x, hm⟩ := bS hm
 have x := (kS x).2
 refine Ts rfl (sa rfl rfl x)<|As rfl rfl<|Tn ?_
 obtain rfl := o1 hm
 exact xJ ⟨rfl, rfl, lr⟩ (.refl _)
 rw [if_neg (of_decide_eq_false u)] at hm
 refine Ck ?_
 obtain rfl := o1 hm
 exact xJ ⟨rfl, rfl, lr⟩ (.refl _)
 rintro p _ _ ⟨rfl, rfl, av⟩
 have hm := aq
 refine Cr<|M rfl rfl<|M rfl rfl<|Ts rfl (st_slen rfl str9) ?_
 obtain ⟨_, y, hm⟩ := bS hm
 have y := (kS y).2
 refine Ts rfl (sa rfl rfl y)<|Ts rfl (st_min rfl rfl)<|As rfl rfl<|Te<|Cr<|M rfl rfl ?_
 obtain ⟨z, i, hm⟩ := bS hm
 have i := mkLen_some i
 refine Do rfl (u_mkOS (r := RT.str) [] R [.string (ByteArray.empty)] ByteArray.empty z rfl i.1 rfl rfl sl84 inf9 rfl rfl rfl (by decide) rfl i.2.1 i.2.2) ?_
 rintro _ _ ⟨aw, rfl, aa⟩
 obtain ⟨c, a, rfl, _⟩ := aa.form
 refine As rfl rfl<|Te<|Cr<|M rfl rfl ?_
 obtain ⟨_, A, hm⟩ := bS hm
 have A := (kS A).2
 refine Ts rfl (sb rfl rfl A)<|As rfl rfl<|Te<|Cr<|As rfl rfl<|Te ?_
 obtain ⟨⟨j, B, e⟩, ax, ay⟩ := bS hm
 refine Cj (fun C e' hp' => ∃ (D : Hp), [(0, .string (j)), (9, sv c e a), (10, iv B)] = e' ∧ (D ++ R) = hp' ∧ p.Le C ∧ OS 9 (OT.fr RT.str) C.w (sv c e a) e D ∧ e.length = z) ?_ ?_
 have hm := ax
 refine Cb<|cL (unc3 fun E F f => fun G e' hp' => ∃ (k : Hp), [(0, .string (E)), (1, .string (d)), (2, iv n), (3, iv ((min Z ((g.size : Int) + 1)) - 1)), (9, sv c f a), (10, iv F)] = e' ∧ (k ++ R) = hp' ∧ p.Le G ∧ OS 9 (OT.fr RT.str) G.w (sv c f a) f k ∧ f.length = z) hm ⟨aw, rfl, rfl, lr, aa, List.length_replicate⟩ (.refl _) ?_
 rintro ⟨E, F, f⟩ G _ _ aX ⟨k, rfl, rfl, H, q, I⟩ ab ac
 unfold mStringsGenSplit_L419 at ab
 have hm := (unc3E ab)
 refine Cs<|Cr<|M rfl rfl<|M rfl rfl<|Ts rfl (q3 rfl rfl)<|Te ?_
 refine Cc _ rfl (fun J => ?_) (fun J => ?_)
 rw [if_pos (of_decide_eq_true J)] at hm
 refine Ck<|Xn<|Cb<|Cr<|M rfl rfl<|M rfl rfl ?_
 obtain ⟨az, aA, hm⟩ := bS hm
 refine Do rfl (uW _ call74 rfl (fun w ho => cStringsIndex _ [] E d az aA) (fun _ _ _ h => h.2.symm)) ?_
 rintro _ _ ⟨⟨_, rfl, _⟩, rfl⟩
 refine As rfl rfl<|Te<|Cs<|Cr<|M rfl rfl<|Ts rfl (q3 rfl rfl)<|Te ?_
 refine Cc _ rfl (fun K => ?_) (fun K => ?_)
 rw [if_pos (of_decide_eq_true K)] at hm
 refine Ce<|Xe<|Xi rfl<|Xe<|Xo ?_
 have hm := congrArg some (ac _ (Option.some.inj hm).symm)
 obtain ⟨rfl, rfl, rfl⟩ := some3 hm
 exact xJ ⟨k, rfl, rfl, H, q, I⟩ (.refl _)
 rw [if_neg (of_decide_eq_false K)] at hm
 refine Ck<|Xn<|Cr<|M rfl rfl<|M rfl rfl<|M rfl rfl<|M rfl rfl<|M rfl rfl ?_
 obtain ⟨_, L, hm⟩ := bS hm
 have L := (kS L).2
 refine Ts rfl (sa rfl rfl L) ?_
 obtain ⟨O, aB, hm⟩ := bS hm
 refine Ts rfl (st_scut rfl (.inl ⟨rfl, rfl⟩) (.inr ⟨_, _, rfl, rfl⟩) aB str9) ?_
 obtain ⟨aY, aC, hm⟩ := bS hm
 obtain ⟨aD, ad, ae⟩ := iS aC
 obtain ⟨aZ, a0, a1, a2, a3, aE, a4, aF, aG, a5, a6⟩ := OS.get (sz := 1) rfl (by decide) q ae
 obtain ⟨rfl, rfl⟩ := aE
 refine Ts rfl (sI aD rfl rfl ad aG aF sl84)<|Do rfl (uP ad (sz := 1) (a' := O) rfl [] R 0 1 [.string (O)] rfl q ae rfl rfl rfl siz9 rfl (mc rfl mn) (fun cs hsj hh => by obtain ⟨rfl, rfl⟩ := hh; exact ⟨by first | decide | exact Nat.le_refl _, rfl, rfl⟩)) ?_
 rintro _ _ ⟨aH, rfl, aI⟩
 refine Tr 9 rfl (v' := .slice c (put f F O).length a) (by simp only [put_length])<|Te<|Cr<|M rfl rfl<|M rfl rfl<|M rfl rfl<|Ts rfl (st_slen rfl str9) ?_
 obtain ⟨_, S, hm⟩ := bS hm
 have S := (kS S).2
 refine Ts rfl (sa rfl rfl S) ?_
 obtain ⟨a7, aJ, hm⟩ := bS hm
 refine Ts rfl (st_scut rfl (.inr ⟨_, _, rfl, rfl⟩) (.inl ⟨rfl, rfl⟩) aJ str9)<|As rfl rfl<|Te<|Cg<|M rfl rfl ?_
 obtain ⟨_, T, hm⟩ := bS hm
 have T := (kS T).2
 refine Ts rfl (sa rfl rfl T)<|As rfl rfl<|Tn<|Xm ?_
 exact xM hm ⟨aH, rfl, rfl, (H), aI, ((put_length _ _ _).trans I)⟩ (.refl _)
 rw [if_neg (of_decide_eq_false J)] at hm
 refine Ce<|Xe<|Xe<|Xo ?_
 have hm := congrArg some (ac _ (Option.some.inj hm).symm)
 obtain ⟨rfl, rfl, rfl⟩ := some3 hm
 exact xJ ⟨k, rfl, rfl, H, q, I⟩ (.refl _)
 rintro C _ _ ⟨D, rfl, rfl, aK, af, a8⟩
 have hm := (unc3E ay)
 refine Cr<|M rfl rfl<|M rfl rfl<|M rfl rfl ?_
 obtain ⟨a9, aL, hm⟩ := bS hm
 obtain ⟨aM, ag, ah⟩ := iS aL
 obtain ⟨ba, bb, bc, bd, be, aN, bf, aO, aP, bg, bh⟩ := OS.get (sz := 1) rfl (by decide) af ah
 obtain ⟨rfl, rfl⟩ := aN
 refine Ts rfl (sI aM rfl rfl ag aP aO sl84)<|Do rfl (uP ag (sz := 1) (a' := j) rfl [] R 0 1 [.string (j)] rfl af ah rfl rfl rfl siz9 rfl (mc rfl mn) (fun cs hsj hh => by obtain ⟨rfl, rfl⟩ := hh; exact ⟨by first | decide | exact Nat.le_refl _, rfl, rfl⟩)) ?_
 rintro _ _ ⟨aQ, rfl, ai⟩
 refine Tr 9 rfl (v' := .slice c (put e B j).length a) (by simp only [put_length])<|Te<|Cr<|M rfl rfl<|M rfl rfl ?_
 obtain ⟨_, U, hm⟩ := bS hm
 have U := (kS U).2
 refine Ts rfl (sa rfl rfl U) ?_
 obtain ⟨aR, aS, hm⟩ := bS hm
 obtain ⟨m, aT, bi, aU, aj, ak, al⟩ := cutS_some aS
 have aV := OS.lc ai
 refine Ts rfl (al ▸ st_part (l := put e B j) m aT rfl (.inl ⟨rfl, by omega⟩) (.inr ⟨_, _, _, rfl, rfl, aU⟩) aj ak aV sl84) ?_
 obtain ⟨am, aW, an⟩ := OS.sub (sz := 1) rfl ai aj ak
 rw [← al] at an
 refine t_less [] aQ am R rfl aW<|As rfl rfl<|Te<|Ct ?_
 obtain rfl := o1 hm
 exact rM (rs := [.tmp 8]) (vs := [.slice (subA c a m 1) (aR).length (a - m)]) ⟨rfl, trivial⟩ ⟨(subA c a m 1), (a - m), am, rfl, rfl, an⟩ (.refl _) (av.trans aK)

set_option maxRecDepth 20000 in
theorem cStringsSplit (b : Base) (R : Hp) (c : ByteArray) (d : ByteArray) (a : (List ByteArray)) (hm : mStringsSplit c d = some a) :
    CallsG Tryz.prog 36 [.string (c), .string (d)] b (R) (fun v b' hp' => ∃ (e : OA), ∃ (f : Nat), ∃ (g : Hp), sv e a f = v ∧ (g ++ R) = hp' ∧ OS 9 (OT.fr RT.str) b'.w (sv e a f) a g) := by
 refine fE 8 Tryz.func36 rfl Tryz.ntmps36 rfl ?_
 unfold mStringsSplit at hm
 refine Cr<|As rfl rfl<|Te<|Cr<|M rfl rfl<|M rfl rfl ?_
 obtain ⟨h, l, hm⟩ := bS hm
 refine Tg _ rfl call52 rfl (cStringsGenSplit _ _ c d 0 (-1) h l) ?_
 rintro _ o _ m ⟨i, j, k, rfl, rfl, n⟩
 refine t_in1 [] [] k R rfl<|As rfl rfl<|Te<|Ct ?_
 obtain rfl := o1 hm
 exact rM (rs := [.tmp 4]) (vs := [sv i h j]) ⟨rfl, trivial⟩ ⟨i, j, k, rfl, rfl, n⟩ (.refl _) m

set_option maxRecDepth 20000 in
theorem cFareOpen_2 (b : Base) (R : Hp) (hG : GOn GT b) (E : ByteArray) (W : Int) (X : Bool) (t : (List Int)) (hm : mFareOpen_2 E = some (W, X, t)) :
    CallsG Tryz.prog 21 [.string (E)] b (R) (fun v b' hp' => ∃ (Y : OA), ∃ (Z : Nat), ∃ (aa : Hp), .tuple #[sv Y t Z, iv W, bv X] = v ∧ (aa ++ R) = hp' ∧ OS 3 (OT.fr rI) b'.w (sv Y t Z) t aa) := by
 refine fn_enterC 65 Tryz.func21 rfl Tryz.ntmps21 rfl ?_
 unfold mFareOpen_2 at hm
 refine Cr<|As rfl rfl<|As rfl rfl<|Do rfl (uA [.bool false] zero4 rfl) ?_
 rintro _ _ ⟨u, rfl, rfl⟩
 refine Te<|Cr<|Ts rfl (st_func _ _ rfl rfl)<|t_defer rfl<|Te<|Cr<|M rfl rfl ?_
 obtain ⟨⟨ab, ac⟩, am, hm⟩ := bS hm
 have hm := (unc2E hm)
 refine Do rfl (uW _ call35 rfl (fun w ho => cStringsCutSuffix _ [] E (ByteArray.mk #[10]) ab ac am) (fun _ _ _ h => h.2.symm)) ?_
 rintro _ _ ⟨⟨_, rfl, _⟩, rfl⟩
 refine M rfl rfl<|Ts rfl (st_extract rfl rfl)<|Ts rfl (st_extract rfl rfl)<|As rfl rfl<|As rfl rfl<|Te<|Cr<|M rfl rfl ?_
 obtain ⟨m, an, hm⟩ := bS hm
 refine Tg _ rfl call36 rfl (cStringsSplit _ _ ab (ByteArray.mk #[32]) m an) ?_
 rintro _ ao _ g ⟨F, x, y, rfl, rfl, G⟩
 refine t_in1 [] [_] y R rfl<|As rfl rfl<|Te<|Cs<|Cr<|M rfl rfl<|Ts rfl (sE rfl sl84)<|As rfl rfl<|Te ?_
 obtain ⟨aq, ar, au⟩ := bS hm
 refine Cj (fun ad e' hp' => [(2, sn), (3, iv 0), (4, pb u), (7, sv F m x), (40, bv aq)] = e' ∧ (u, Cl 4 [bv false]) :: (y ++ R) = hp' ∧ ao.Le ad) ?_ ?_
 have hm := ar
 refine Cg<|M rfl rfl ?_
 rcases Bool.eq_false_or_eq_true ac with n | n
 rw [if_pos n] at hm
 refine Tr 21 rfl (v' := .bool true) (by rw [n] <;> rfl)<|Ts rfl (st_not_t rfl)<|M rfl rfl<|Ys 23 rfl rfl rfl<|M rfl rfl<|Ys 23 rfl rfl rfl ?_
 refine Tb rfl (q3 rfl rfl) (fun H => ?_) (fun H => ?_)
 rw [if_pos H] at hm
 refine Ts rfl (pF rfl rfl)<|M rfl rfl<|No 27 rfl rfl rfl rfl rfl<|No 27 rfl rfl rfl rfl rfl<|No 27 rfl rfl rfl rfl rfl<|No 27 rfl rfl rfl rfl rfl<|Ts rfl (pT rfl rfl)<|M rfl rfl<|No 33 rfl rfl rfl rfl rfl<|No 33 rfl rfl rfl rfl rfl ?_
 refine No 33 rfl rfl rfl rfl rfl<|No 33 rfl rfl rfl rfl rfl<|No 33 rfl rfl rfl rfl rfl<|No 33 rfl rfl rfl rfl rfl<|Ts rfl (pT rfl rfl)<|Tn ?_
 obtain rfl := o1 hm
 exact xJ ⟨rfl, rfl, lr⟩ (.refl _)
 rw [if_neg H] at hm
 refine Ts rfl (pF rfl rfl)<|M rfl rfl<|Ys 27 rfl rfl rfl<|M rfl rfl<|Ys 27 rfl rfl rfl ?_
 obtain ⟨av, aw, hm⟩ := bS hm
 obtain ⟨ax, ay, az⟩ := iS aw
 obtain ⟨bj, bk, bl, bm, bn, aA, aB, aC, aD, bo, bp⟩ := OS.get (sz := 1) rfl (by decide) G az
 obtain ⟨rfl, rfl⟩ := aA
 refine Ts rfl (sI ax rfl rfl ay aD aC sl84)<|Ys 27 rfl rfl rfl<|Ts rfl (st_load_rd rfl one9 (fun w ho => aB w _ ho (.cons _ (List.sublist_append_left _ _)) 0 _ rfl))<|Ys 27 rfl rfl rfl<|Ts rfl (st_sneq rfl rfl) ?_
 rcases Bool.eq_false_or_eq_true (!(sEq av (ByteArray.mk #[116, 105, 99, 107, 101, 116]))) with o | o
 rw [if_neg (fun hh => Bool.noConfusion (hh.symm.trans (nt o)))] at hm
 refine Tr 31 rfl (v' := .bool true) (by rw [o] <;> rfl)<|Ts rfl (pF rfl rfl)<|M rfl rfl<|No 33 rfl rfl rfl rfl rfl<|No 33 rfl rfl rfl rfl rfl<|No 33 rfl rfl rfl rfl rfl<|No 33 rfl rfl rfl rfl rfl<|No 33 rfl rfl rfl rfl rfl<|No 33 rfl rfl rfl rfl rfl<|Ts rfl (pT rfl rfl) ?_
 refine Tn ?_
 obtain rfl := o1 hm
 exact xJ ⟨rfl, rfl, lr⟩ (.refl _)
 rw [if_pos (nf o)] at hm
 refine Tr 31 rfl (v' := .bool false) (by rw [o] <;> rfl)<|Ts rfl (pF rfl rfl)<|M rfl rfl<|Ys 33 rfl rfl rfl<|M rfl rfl<|Ys 33 rfl rfl rfl<|M rfl rfl<|Ys 33 rfl rfl rfl ?_
 obtain ⟨_, I, hm⟩ := bS hm
 have I := (kS I).2
 refine Ts rfl (sb rfl rfl I)<|Ys 33 rfl rfl rfl ?_
 obtain ⟨bq, aE, hm⟩ := bS hm
 obtain ⟨aF, aG, aH⟩ := iS aE
 obtain ⟨br, bs, bt, bu, bw, aI, aJ, aK, aL, bx, bz⟩ := OS.get (sz := 1) rfl (by decide) G aH
 obtain ⟨rfl, rfl⟩ := aI
 refine Ts rfl (sI aF rfl rfl aG aL aK sl84)<|Ys 33 rfl rfl rfl<|Ts rfl (st_load_rd rfl one9 (fun w ho => aJ w _ ho (.cons _ (List.sublist_append_left _ _)) 0 _ rfl))<|Ys 33 rfl rfl rfl<|Ts rfl (st_sneq rfl rfl)<|Ts rfl (pF rfl rfl)<|Tn ?_
 obtain rfl := o1 hm
 exact xJ ⟨rfl, rfl, lr⟩ (.refl _)
 rw [if_neg (fun hh => Bool.noConfusion (hh.symm.trans n))] at hm
 refine Tr 21 rfl (v' := .bool false) (by rw [n] <;> rfl)<|Ts rfl (st_not_f rfl)<|M rfl rfl<|No 23 rfl rfl rfl rfl rfl<|No 23 rfl rfl rfl rfl rfl<|Ts rfl (pT rfl rfl)<|M rfl rfl<|No 27 rfl rfl rfl rfl rfl<|No 27 rfl rfl rfl rfl rfl<|No 27 rfl rfl rfl rfl rfl ?_
 refine No 27 rfl rfl rfl rfl rfl<|Ts rfl (pT rfl rfl)<|M rfl rfl<|No 33 rfl rfl rfl rfl rfl<|No 33 rfl rfl rfl rfl rfl<|No 33 rfl rfl rfl rfl rfl<|No 33 rfl rfl rfl rfl rfl<|No 33 rfl rfl rfl rfl rfl<|No 33 rfl rfl rfl rfl rfl<|Ts rfl (pT rfl rfl) ?_
 refine Tn ?_
 obtain rfl := o1 hm
 exact xJ ⟨rfl, rfl, lr⟩ (.refl _)
 rintro ad _ _ ⟨rfl, rfl, e⟩
 have hm := au
 refine Cc _ rfl (fun J => ?_) (fun J => ?_)
 rw [if_pos J] at hm
 refine Cr<|As rfl rfl<|As rfl rfl<|Do rfl (uS 0 rfl rfl siz4 rfl rfl (by simp)) ?_
 rintro _ _ rfl
 refine Te<|Ct<|Xr<|x_calm catch_c ?_
 obtain ⟨rfl, rfl, rfl⟩ := some3 hm
 exact retN (rs := [.tmp 2, .tmp 3, .cell 4 4]) [sn, iv 0, bv false] (g.trans e) (by decide) rfl ⟨rfl, ⟨rfl, ⟨⟨_, rfl, fun w ho => cell_one 0 one4 rfl rfl w ho⟩, trivial⟩⟩⟩ rfl (.cons _ (ss y (.refl _))) ⟨none, 0, [], rfl, rfl, OS.nil⟩
 rw [if_neg (fun hh => Bool.noConfusion (hh.symm.trans J))] at hm
 refine Ck<|Xn<|Cs<|Cr<|M rfl rfl<|M rfl rfl<|Ts rfl (sE rfl sl84) ?_
 obtain ⟨_, K, hm⟩ := bS hm
 have K := (kS K).2
 refine Ts rfl (sb rfl rfl K)<|t_frz [_] y R rfl ?_
 intro aM j aN
 have L := OS.frz (l := m) (G.le e) j.cells aN
 obtain ⟨O, aO, hm⟩ := bS hm
 obtain ⟨S, aP, aQ, aR, ae, af, ag⟩ := cutS_some aO
 have T := FZ.sub (sz := 1) rfl L ae af
 have aS := L.1.1
 rw [← ag] at T
 refine Ts rfl (ag ▸ st_part (l := m) S aP rfl (.inr ⟨_, _, _, rfl, rfl, aQ⟩) (.inr ⟨_, _, _, rfl, rfl, aR⟩) ae af aS sl84)<|Ts rfl (sE rfl sl84)<|M rfl rfl<|Te<|Cb ?_
 have bA : O.length ≤ 9223372036854775807 := (FZ.bd T)
 obtain ⟨bB, aT, z⟩ := bS hm
 refine cF (fun ah => fun f => fun A e' hp' => ∃ (c : OA), ∃ (d : Nat), ∃ (k : Hp), [(2, sv c f d), (3, iv 0), (4, pb u), (7, sv F m x), (45, .slice (subA F x S 1) (O).length (x - S)), (46, iv ((O.length : Int))), (47, iv ((ah : Int)))] = e' ∧ (u, Cl 4 [bv false]) :: (k ++ R) = hp' ∧ aM.Le A ∧ OS 3 (OT.fr rI) A.w (sv c f d) f k) aT ⟨none, 0, [], rfl, rfl, lr, OS.nil⟩ (.refl _) ?_ ?_
 rintro ah f A _ _ bC bD ⟨c, d, k, rfl, rfl, a, p⟩ ai aU
 unfold mFareOpen_2_L326 at ai
 have hm := ai
 refine Cr<|Ts rfl (lT rfl rfl (by omega))<|Te<|Cs<|c_cond_t rfl<|Ck<|Xn<|Cs<|Cb<|Cr ?_
 obtain ⟨aj, aV, hm⟩ := bS hm
 obtain ⟨aW, aX, aY⟩ := iS aV
 obtain ⟨bE, aZ, a0, a1, a2⟩ := FZ.get (sz := 1) rfl (by decide) (T.le a) aY
 obtain rfl := aZ
 refine Ts rfl (sI aW rfl rfl aX a2 a1 sl84)<|Ts rfl (sO rfl one9 (a0 0 _ rfl))<|As rfl rfl<|Te<|Cg<|M rfl rfl<|M rfl rfl ?_
 obtain ⟨⟨a3, B⟩, C, hm⟩ := bS hm
 have hm := (unc2E hm)
 rcases Bool.eq_false_or_eq_true a3 with q | q
 rw [if_pos q] at hm
 rw [q] at C
 refine Do rfl (u_call [.string (aj)] call37 rfl (number_t (hG.le (g.trans (e.trans (j.trans a)))) C)) ?_
 rintro _ _ ⟨rfl, rfl⟩
 refine Do rfl (u_bslice (el := 3) [(0, iv B)] [iv B] rfl (fun _ => by kernel_rfl)) ?_
 rintro _ _ ⟨bF, rfl, rfl⟩
 obtain ⟨_, U, hm⟩ := bS hm
 have U := room_some U
 refine Do rfl (uQ (r := rI) (l := f) [_, _] R [[iv B]] [B] rfl (by decide) sl22 inf3 rfl rfl rfl rfl p rfl (fun w ho => Rd.own (i := 0) ho rfl) ⟨rfl, trivial⟩ U) ?_
 rintro _ _ ⟨a4, rfl, ak⟩
 obtain ⟨a5, a6, rfl, _⟩ := ak.form
 refine As rfl rfl<|Tn<|Xm<|Xn<|Cg<|Ts rfl (sa rfl rfl (by omega))<|M rfl rfl<|Tn<|Xp 1 rfl ?_
 exact xM hm ⟨a5, a6, a4, rfl, rfl, (a), ak⟩ (.cons_cons _ (.cons _ (.refl _)))
 rw [if_neg (fun hh => Bool.noConfusion (hh.symm.trans q))] at hm
 rw [q] at C
 refine t_callF [.string (aj)] rfl call37 rfl (number_f (hG.le (g.trans (e.trans (j.trans a)))) C)<|x_block_panic<|x_then_panic<|x_then_panic<|x_block_panic<|x_then_panic ?_
 have a7 := aU _ (Option.some.inj hm).symm
 rw [a7] at z
 have hm := elimR z
 refine x_take catch_c 0 rfl ?_
 obtain ⟨rfl, rfl, rfl⟩ := some3 hm
 exact retN (rs := [.tmp 2, .tmp 3, .cell 4 4]) [sv c f d, iv 0, bv false] (g.trans (e.trans (j.trans a))) (by decide) rfl ⟨rfl, ⟨rfl, ⟨⟨_, rfl, fun w ho => cell_one 0 one4 rfl rfl w ho⟩, trivial⟩⟩⟩ rfl (.cons _ (.refl _)) ⟨c, d, k, rfl, rfl, p⟩
 rintro f A _ _ ⟨c, d, k, rfl, rfl, a, p⟩ a8
 rw [a8] at z
 have hm := elimL z
 refine Cr<|Ts rfl (lF rfl rfl (by omega))<|Te<|Cs<|c_cond_f rfl<|Ce<|Xe<|Xe<|Xo<|Xn ?_
 refine Cr<|M rfl rfl<|M rfl rfl<|M rfl rfl<|Ts rfl (sE rfl sl84) ?_
 obtain ⟨_, V, hm⟩ := bS hm
 have V := (kS V).2
 refine Ts rfl (sb rfl rfl V) ?_
 obtain ⟨al, a9, hm⟩ := bS hm
 obtain ⟨ba, bb, bc⟩ := iS a9
 obtain ⟨bG, bd, be, bf, bg⟩ := FZ.get (sz := 1) rfl (by decide) (L.le a) bc
 obtain rfl := bd
 refine Ts rfl (sI ba rfl rfl bb bg bf sl84)<|Ts rfl (sO rfl one9 (be 0 _ rfl)) ?_
 obtain ⟨⟨bh, bi⟩, D, hm⟩ := bS hm
 have hm := (unc2E hm)
 rcases Bool.eq_false_or_eq_true bh with s | s
 rw [if_pos s] at hm
 rw [s] at D
 refine Do rfl (u_call [.string (al)] call37 rfl (number_t (hG.le (g.trans (e.trans (j.trans a)))) D)) ?_
 rintro _ _ ⟨rfl, rfl⟩
 refine As rfl rfl<|As rfl rfl<|Do rfl (uS 0 rfl rfl siz4 rfl rfl (by simp)) ?_
 rintro _ _ rfl
 refine Te<|Ct<|x_calm catch_c ?_
 obtain ⟨rfl, rfl, rfl⟩ := some3 hm
 exact retN (rs := [.tmp 2, .tmp 3, .cell 4 4]) [sv c f d, iv bi, bv true] (g.trans (e.trans (j.trans a))) (by decide) rfl ⟨rfl, ⟨rfl, ⟨⟨_, rfl, fun w ho => cell_one 0 one4 rfl rfl w ho⟩, trivial⟩⟩⟩ rfl (.cons _ (.refl _)) ⟨c, d, k, rfl, rfl, p⟩
 rw [if_neg (fun hh => Bool.noConfusion (hh.symm.trans s))] at hm
 rw [s] at D
 refine t_callF [.string (al)] rfl call37 rfl (number_f (hG.le (g.trans (e.trans (j.trans a)))) D)<|x_then_panic<|x_take catch_c 0 rfl ?_
 obtain ⟨rfl, rfl, rfl⟩ := some3 hm
 exact retN (rs := [.tmp 2, .tmp 3, .cell 4 4]) [sv c f d, iv 0, bv false] (g.trans (e.trans (j.trans a))) (by decide) rfl ⟨rfl, ⟨rfl, ⟨⟨_, rfl, fun w ho => cell_one 0 one4 rfl rfl w ho⟩, trivial⟩⟩⟩ rfl (.cons _ (.refl _)) ⟨c, d, k, rfl, rfl, p⟩

set_option maxRecDepth 20000 in
theorem cBytealgLastIndexByteString (b : Base) (R : Hp) (c : ByteArray) (d : Int) (k : Int) (hm : mBytealgLastIndexByteString c d = some k) :
    CallsG Tryz.prog 38 [.string (c), .int .u8 (d)] b (R) (fun v b' hp' => iv k = v ∧ R = hp') := by
 refine fE 19 Tryz.func38 rfl Tryz.ntmps38 rfl ?_
 unfold mBytealgLastIndexByteString at hm
 refine Cr<|As rfl rfl<|Te ?_
 obtain ⟨p, q, a⟩ := bS hm
 refine Cj (fun l e' hp' => [] = e' ∧ R = hp' ∧ b.Le l ∧ p = .inl ()) ?_ ?_
 have hm := q
 refine Cr<|M rfl rfl<|Ts rfl (st_slen rfl str9) ?_
 obtain ⟨_, e, hm⟩ := bS hm
 have e := (kS e).2
 refine Ts rfl (sb rfl rfl e)<|As rfl rfl<|Te<|Cb<|cL (fun f => fun m e' hp' => [(0, .string (c)), (1, .int .u8 (d)), (5, iv f)] = e' ∧ R = hp' ∧ b.Le m) hm ⟨rfl, rfl, lr⟩ (.refl _) ?_
 rintro f m _ _ w ⟨rfl, rfl, g⟩ n o
 unfold mBytealgLastIndexByteString_L79 at n
 have hm := n
 refine Cs<|Cr<|M rfl rfl<|Ts rfl (q6 rfl rfl)<|Te ?_
 refine Cc _ rfl (fun h => ?_) (fun h => ?_)
 rw [if_pos (of_decide_eq_true h)] at hm
 refine Ck<|Xn<|Cs<|Cb<|Cr<|M rfl rfl<|M rfl rfl ?_
 obtain ⟨x, r, hm⟩ := bS hm
 refine Ts rfl (st_sidx rfl rfl r str9)<|M rfl rfl<|Ts rfl (q1 rfl rfl)<|Te ?_
 refine Cc _ rfl (fun i => ?_) (fun i => ?_)
 rw [if_pos (of_decide_eq_true i)] at hm
 refine Cr<|M rfl rfl<|As rfl rfl<|Te<|Ct<|Xb<|Xr<|Xr<|Xb<|Xr ?_
 have hm := congrArg some (o _ (Option.some.inj hm).symm)
 have s := (Option.some.inj hm).symm
 rw [s] at a
 have hm := elimR a
 obtain rfl := o1 hm
 exact rM (rs := [.tmp 4]) (vs := [iv f]) ⟨rfl, trivial⟩ ⟨rfl, rfl⟩ (.refl _) g
 rw [if_neg (of_decide_eq_false i)] at hm
 refine Ck<|Xm<|Xn<|Cg<|M rfl rfl ?_
 obtain ⟨_, j, hm⟩ := bS hm
 have j := (kS j).2
 refine Ts rfl (sb rfl rfl j)<|As rfl rfl<|Tn ?_
 exact xM hm ⟨rfl, rfl, (g)⟩ (.refl _)
 rw [if_neg (of_decide_eq_false h)] at hm
 refine Ce<|Xe<|Xe<|Xo ?_
 have hm := congrArg some (o _ (Option.some.inj hm).symm)
 have hq := (Option.some.inj hm).symm
 exact xJ ⟨rfl, rfl, g, hq⟩ (.refl _)
 rintro l _ _ ⟨rfl, rfl, t, u⟩
 rw [u] at a
 have hm := elimL a
 refine Cr<|As rfl rfl<|Te<|Ct ?_
 obtain rfl := o1 hm
 exact rM (rs := [.tmp 4]) (vs := [iv ((-1))]) ⟨rfl, trivial⟩ ⟨rfl, rfl⟩ (.refl _) t

set_option maxRecDepth 20000 in
theorem cStringsLastIndexByte (b : Base) (R : Hp) (a : ByteArray) (c : Int) (d : Int) (hm : mStringsLastIndexByte a c = some d) :
    CallsG Tryz.prog 23 [.string (a), .int .u8 (c)] b (R) (fun v b' hp' => iv d = v ∧ R = hp') := by
 refine fE 8 Tryz.func23 rfl Tryz.ntmps23 rfl ?_
 unfold mStringsLastIndexByte at hm
 refine Cr<|As rfl rfl<|Te<|Cr<|M rfl rfl<|M rfl rfl ?_
 obtain ⟨e, f, hm⟩ := bS hm
 refine Do rfl (uW _ call38 rfl (fun w ho => cBytealgLastIndexByteString _ [] a c e f) (fun _ _ _ h => h.2.symm)) ?_
 rintro _ _ ⟨⟨_, rfl, _⟩, rfl⟩
 refine As rfl rfl<|Te<|Ct ?_
 obtain rfl := o1 hm
 exact rM (rs := [.tmp 4]) (vs := [iv e]) ⟨rfl, trivial⟩ ⟨rfl, rfl⟩ (.refl _) lr

set_option maxRecDepth 20000 in
theorem cFareVerify (b : Base) (R : Hp) (a : FareKey) (e : ByteArray) (d : Int) (i : Bool) (j : Int) (hm : mFareVerify a e d = some (i, j)) :
    CallsG Tryz.prog 22 [.agg #[iv a.N, iv a.E, iv a.D], .string (e), iv d] b (R) (fun v b' hp' => .tuple #[bv i, iv j] = v ∧ R = hp') := by
 refine fE 30 Tryz.func22 rfl Tryz.ntmps22 rfl ?_
 unfold mFareVerify at hm
 refine Cr<|Do rfl (uB _ rfl rfl) ?_
 rintro _ _ ⟨z, rfl, rfl⟩
 refine As rfl rfl<|As rfl rfl<|Te<|Cs<|Cr<|Ts rfl (sD (vs := [_, _, _]) 0 3 rfl agg27 rfl rfl rfl) ?_
 obtain ⟨k, o, hm⟩ := bS hm
 refine Do rfl (uW _ call16 rfl (fun w ho => cFareKeyCheck _ [] a false k o) (fun _ _ _ h => h.2.symm)) ?_
 rintro _ _ ⟨⟨_, rfl, _⟩, rfl⟩
 refine As rfl rfl<|Te<|Cr<|M rfl rfl<|Ts rfl (q2 rfl rfl)<|Te ?_
 refine Cc _ rfl (fun f => ?_) (fun f => ?_)
 rw [if_pos (of_decide_eq_true f)] at hm
 refine Cr<|M rfl rfl<|As rfl rfl<|As rfl rfl<|Te<|Ct<|Xr ?_
 obtain ⟨rfl, rfl⟩ := some2 hm
 exact rM (rs := [.tmp 6, .tmp 7]) (vs := [bv false, iv k]) ⟨rfl, ⟨rfl, trivial⟩⟩ ⟨rfl, rfl⟩ (.cons _ (.refl _)) lr
 rw [if_neg (of_decide_eq_false f)] at hm
 refine Ck<|Xn ?_
 obtain ⟨l, p, q⟩ := bS hm
 refine Cj (fun m e' hp' => [(6, bv l), (7, iv 0)] = e' ∧ R = hp' ∧ b.Le m) ?_ ?_
 have hm := p
 refine Cg<|M rfl rfl<|Ts rfl (sF rfl fld27_0)<|Ts rfl (sL 0 rfl one3 rfl rfl) ?_
 obtain ⟨_, g, hm⟩ := bS hm
 have g := (kS g).2
 refine Ts rfl (sb rfl rfl g) ?_
 obtain ⟨n, r, hm⟩ := bS hm
 refine Do rfl (uW _ call12 rfl (fun w ho => cFareWithin _ [] d 0 (a.N - 1) n r) (fun _ _ _ h => h.2.symm)) ?_
 rintro _ _ ⟨⟨_, rfl, _⟩, rfl⟩
 rcases Bool.eq_false_or_eq_true n with c | c
 rw [if_pos c] at hm
 refine Tr 18 rfl (v' := .bool true) (by rw [c] <;> rfl)<|M rfl rfl<|Ys 19 rfl rfl rfl<|M rfl rfl<|Ys 19 rfl rfl rfl<|Ts rfl (sF rfl fld27_1)<|Ys 19 rfl rfl rfl<|Ts rfl (sL 0 rfl one3 rfl rfl)<|Ys 19 rfl rfl rfl<|Ts rfl (sF rfl fld27_0) ?_
 refine Ys 19 rfl rfl rfl<|Ts rfl (sL 0 rfl one3 rfl rfl)<|Ys 19 rfl rfl rfl ?_
 obtain ⟨s, t, hm⟩ := bS hm
 refine Do rfl (uW _ call32 rfl (fun w ho => cFarePower _ [] d a.E a.N s t) (fun _ _ _ h => h.2.symm)) ?_
 rintro _ _ ⟨⟨_, rfl, _⟩, rfl⟩
 refine Ys 19 rfl rfl rfl<|M rfl rfl<|Ys 19 rfl rfl rfl ?_
 obtain ⟨u, x, hm⟩ := bS hm
 refine Do rfl (uW _ call33 rfl (fun w ho => cFareDigest _ [] e u x) (fun _ _ _ h => h.2.symm)) ?_
 rintro _ _ ⟨⟨_, rfl, _⟩, rfl⟩
 refine Ys 19 rfl rfl rfl<|Ts rfl (q1 rfl rfl)<|Ts rfl (pT rfl rfl)<|As rfl rfl<|As rfl rfl<|Tn ?_
 obtain rfl := o1 hm
 exact xJ ⟨rfl, rfl, lr⟩ (.cons _ (.refl _))
 rw [if_neg (fun hh => Bool.noConfusion (hh.symm.trans c))] at hm
 refine Tr 18 rfl (v' := .bool false) (by rw [c] <;> rfl)<|M rfl rfl<|No 19 rfl rfl rfl rfl rfl<|No 19 rfl rfl rfl rfl rfl<|No 19 rfl rfl rfl rfl rfl<|No 19 rfl rfl rfl rfl rfl<|No 19 rfl rfl rfl rfl rfl<|No 19 rfl rfl rfl rfl rfl<|No 19 rfl rfl rfl rfl rfl<|No 19 rfl rfl rfl rfl rfl ?_
 refine No 19 rfl rfl rfl rfl rfl<|Ts rfl (pF rfl rfl)<|As rfl rfl<|As rfl rfl<|Tn ?_
 obtain rfl := o1 hm
 exact xJ ⟨rfl, rfl, lr⟩ (.cons _ (.refl _))
 rintro m _ _ ⟨rfl, rfl, y⟩
 have hm := q
 refine Ct ?_
 obtain ⟨rfl, rfl⟩ := some2 hm
 exact rM (rs := [.tmp 6, .tmp 7]) (vs := [bv l, iv 0]) ⟨rfl, ⟨rfl, trivial⟩⟩ ⟨rfl, rfl⟩ (.refl _) y

set_option maxRecDepth 20000 in
theorem cFareOpen (b : Base) (R : Hp) (hG : GOn GT b) (e : FareKey) (j : ByteArray) (I : Int) (J : Int) (K : Int) (L : Int) (O : Int) (r : (List Int)) (S : Int) (hm : mFareOpen e j = some (I, J, K, L, O, r, S)) :
    CallsG Tryz.prog 9 [.agg #[iv e.N, iv e.E, iv e.D], .string (j)] b (R) (fun v b' hp' => ∃ (T : OA), ∃ (U : Nat), .tuple #[.agg #[iv I, iv J, iv K, iv L, iv O, sv T r U], iv S] = v ∧ R = hp' ∧ FZ rI b'.w T U r) := by
 refine fE 72 Tryz.func9 rfl Tryz.ntmps9 rfl ?_
 unfold mFareOpen at hm
 refine Cr<|Do rfl (uB _ rfl rfl) ?_
 rintro _ _ ⟨bq, rfl, rfl⟩
 refine Do rfl (uA [iv 0, iv 0, iv 0, iv 0, iv 0, sn] zero24 rfl) ?_
 rintro _ _ ⟨k, rfl, rfl⟩
 refine As rfl rfl<|Te<|Cs<|Cr<|Ts rfl (sD (vs := [_, _, _]) 1 3 rfl agg27 rfl rfl rfl) ?_
 obtain ⟨V, al, hm⟩ := bS hm
 refine Do rfl (uW _ call16 rfl (fun w ho => cFareKeyCheck _ [] e false V al) (fun _ _ _ h => h.2.symm)) ?_
 rintro _ _ ⟨⟨_, rfl, _⟩, rfl⟩
 refine As rfl rfl<|Te<|Cr<|M rfl rfl<|Ts rfl (q2 rfl rfl)<|Te ?_
 refine Cc _ rfl (fun s => ?_) (fun s => ?_)
 rw [if_pos (of_decide_eq_true s)] at hm
 refine Cr<|Ts rfl (sB (v := .agg #[iv 0, iv 0, iv 0, iv 0, iv 0, sn]) [] rfl (fun _ => by kernel_rfl))<|M rfl rfl<|Do rfl (uN (vs := [_, _, _, _, _, _]) 0 6 rfl rfl rfl siz24 rfl (mc rfl (mc rfl (mc rfl (mc rfl (mc rfl (mc rfl mn)))))) rfl (by simp)) ?_
 rintro _ _ rfl
 refine As rfl rfl<|Te<|Ct<|Xr ?_
 obtain ⟨rfl, rfl, rfl, rfl, rfl, rfl, rfl⟩ := some7 hm
 exact rM (rs := [.cell 4 24, .tmp 5]) (vs := [.agg #[iv 0, iv 0, iv 0, iv 0, iv 0, sn], iv V]) ⟨⟨_, rfl, fun w ho => cell_agg (vs := [_, _, _, _, _, _]) 0 6 agg24 rfl rfl rfl w ho⟩, ⟨rfl, trivial⟩⟩ ⟨none, 0, rfl, rfl, FZ.nil⟩ (.cons _ (.cons _ (.refl _))) lr
 rw [if_neg (of_decide_eq_false s)] at hm
 refine Ck<|Xn<|Cs<|Cr<|M rfl rfl<|Ts rfl (st_slen rfl str9)<|Ts rfl (q5 rfl rfl)<|Te ?_
 refine Cc _ rfl (fun t => ?_) (fun t => ?_)
 rw [if_pos (of_decide_eq_true t)] at hm
 refine Cr<|Ts rfl (sB (v := .agg #[iv 0, iv 0, iv 0, iv 0, iv 0, sn]) [] rfl (fun _ => by kernel_rfl))<|Do rfl (uN (vs := [_, _, _, _, _, _]) 0 6 rfl rfl rfl siz24 rfl (mc rfl (mc rfl (mc rfl (mc rfl (mc rfl (mc rfl mn)))))) rfl (by simp)) ?_
 rintro _ _ rfl
 refine As rfl rfl<|Te<|Ct<|Xr ?_
 obtain ⟨rfl, rfl, rfl, rfl, rfl, rfl, rfl⟩ := some7 hm
 exact rM (rs := [.cell 4 24, .tmp 5]) (vs := [.agg #[iv 0, iv 0, iv 0, iv 0, iv 0, sn], iv 4]) ⟨⟨_, rfl, fun w ho => cell_agg (vs := [_, _, _, _, _, _]) 0 6 agg24 rfl rfl rfl w ho⟩, ⟨rfl, trivial⟩⟩ ⟨none, 0, rfl, rfl, FZ.nil⟩ (.cons _ (.cons _ (.refl _))) lr
 rw [if_neg (of_decide_eq_false t)] at hm
 refine Ck<|Xn<|Cr<|M rfl rfl ?_
 obtain ⟨⟨W, am, m⟩, an, hm⟩ := bS hm
 have hm := (unc3E hm)
 refine Tg _ rfl call21 rfl (cFareOpen_2 _ _ (hG.le lr) j W am m an) ?_
 rintro _ ao _ n ⟨o, a, i, rfl, rfl, aq⟩
 refine t_in1 [] [_, _] i R rfl<|M rfl rfl<|Ts rfl (st_extract rfl rfl)<|Ts rfl (st_extract rfl rfl)<|Ts rfl (st_extract rfl rfl)<|As rfl rfl<|As rfl rfl<|As rfl rfl<|Te<|Cs ?_
 refine Cr<|M rfl rfl<|Ts rfl (sn2 rfl)<|Te ?_
 refine Cc _ rfl (fun u => ?_) (fun u => ?_)
 rw [if_neg (fun hh => Bool.noConfusion (hh.symm.trans (nt u)))] at hm
 refine Cr<|Ts rfl (sB (v := .agg #[iv 0, iv 0, iv 0, iv 0, iv 0, sn]) [] rfl (fun _ => by kernel_rfl))<|Do rfl (uN (vs := [_, _, _, _, _, _]) 0 6 rfl rfl rfl siz24 rfl (mc rfl (mc rfl (mc rfl (mc rfl (mc rfl (mc rfl mn)))))) rfl (by simp)) ?_
 rintro _ _ rfl
 refine As rfl rfl<|Te<|Ct<|Xr ?_
 obtain ⟨rfl, rfl, rfl, rfl, rfl, rfl, rfl⟩ := some7 hm
 exact rM (rs := [.cell 4 24, .tmp 5]) (vs := [.agg #[iv 0, iv 0, iv 0, iv 0, iv 0, sn], iv 10]) ⟨⟨_, rfl, fun w ho => cell_agg (vs := [_, _, _, _, _, _]) 0 6 agg24 rfl rfl rfl w ho⟩, ⟨rfl, trivial⟩⟩ ⟨none, 0, rfl, rfl, FZ.nil⟩ (.cons _ (.cons _ (ss i (.refl _)))) n
 rw [if_pos (nf u)] at hm
 refine Ck<|Xn<|Cs ?_
 obtain ⟨ar, au, av⟩ := bS hm
 refine Cj (fun x e' hp' => [(4, pb k), (7, sv o m a), (10, bv ar)] = e' ∧ (k, Cl 24 [iv 0, iv 0, iv 0, iv 0, iv 0, sn]) :: (i ++ R) = hp' ∧ ao.Le x) ?_ ?_
 have hm := au
 obtain ⟨aw, ax, hm⟩ := bS hm
 obtain ⟨_, y, hm⟩ := bS hm
 obtain ⟨ay, az, hm⟩ := bS hm
 obtain ⟨⟨aA, aB⟩, aC, hm⟩ := bS hm
 have hm := (unc2E hm)
 refine Di mixed (.refl _)<|Es 0 rfl (sD (vs := [_, _, _]) 1 3 rfl agg27 rfl rfl rfl)<|E0 1 rfl (sM rfl)<|E0 2 rfl (sM rfl)<|E0 6 rfl (sM rfl)<|Eo<|Da [3] (by kernel_rfl) rfl ?_
 refine Rd2 lr rfl rfl (uW _ call23 rfl (fun w ho => cStringsLastIndexByte _ [] j 32 aw ax) (fun _ _ _ h => h.2.symm)) ?_ ?_
 rintro _ _ ⟨⟨_, rfl, _⟩, rfl⟩
 refine ⟨.inr (.refl _), ?_⟩
 have y := (kS y).2
 refine Ei lr (.refl _)<|E0 4 rfl (sa rfl rfl y)<|E0 5 rfl (st_scut rfl (.inl ⟨rfl, rfl⟩) (.inr ⟨_, _, rfl, rfl⟩) az str9)<|Eo<|Da [7] (by kernel_rfl) rfl ?_
 refine Rd2 lr rfl rfl (uW _ call22 rfl (fun w ho => cFareVerify _ [] e ay W aA aB aC) (fun _ _ _ h => h.2.symm)) ?_ ?_
 rintro _ _ ⟨⟨_, rfl, _⟩, rfl⟩
 refine ⟨.inl (by kernel_rfl), ?_⟩
 refine El lr<|E0 8 rfl (sM rfl)<|E0 9 rfl (st_extract rfl rfl)<|E0 10 rfl (st_extract rfl rfl)<|E0 11 rfl (sA rfl)<|E0 12 rfl (sA rfl)<|Eo<|Dd (by kernel_rfl) ?_
 obtain rfl := o1 hm
 exact xJ ⟨rfl, rfl, lr⟩ (.cons_cons _ (.cons _ (.refl _)))
 exact Rn
 exact Rn
 rintro x _ _ ⟨rfl, rfl, p⟩
 have hm := av
 refine Cr<|M rfl rfl<|Ts rfl (sn2 rfl)<|Te ?_
 refine Cc _ rfl (fun z => ?_) (fun z => ?_)
 rw [if_neg (fun hh => Bool.noConfusion (hh.symm.trans (nt z)))] at hm
 refine Cr<|Ts rfl (sB (v := .agg #[iv 0, iv 0, iv 0, iv 0, iv 0, sn]) [] rfl (fun _ => by kernel_rfl))<|Do rfl (uN (vs := [_, _, _, _, _, _]) 0 6 rfl rfl rfl siz24 rfl (mc rfl (mc rfl (mc rfl (mc rfl (mc rfl (mc rfl mn)))))) rfl (by simp)) ?_
 rintro _ _ rfl
 refine As rfl rfl<|Te<|Ct<|Xr ?_
 obtain ⟨rfl, rfl, rfl, rfl, rfl, rfl, rfl⟩ := some7 hm
 exact rM (rs := [.cell 4 24, .tmp 5]) (vs := [.agg #[iv 0, iv 0, iv 0, iv 0, iv 0, sn], iv 11]) ⟨⟨_, rfl, fun w ho => cell_agg (vs := [_, _, _, _, _, _]) 0 6 agg24 rfl rfl rfl w ho⟩, ⟨rfl, trivial⟩⟩ ⟨none, 0, rfl, rfl, FZ.nil⟩ (.cons _ (ss i (.refl _))) (n.trans p)
 rw [if_pos (nf z)] at hm
 refine Ck<|Xn ?_
 obtain ⟨⟨A, B, C, D, E, q⟩, aD, aE⟩ := bS hm
 refine Cj (fun F e' hp' => ∃ (G : Nat), ∃ (f : OA), ∃ (g : Nat), [(4, pb k), (12, pb G)] = e' ∧ (k, Cl 24 [iv 0, iv 0, iv 0, iv 0, iv 0, sn]) :: (G, Cl 24 [iv A, iv B, iv C, iv D, iv E, sv f q g]) :: R = hp' ∧ x.Le F ∧ FZ rI F.w f g q) ?_ ?_
 have hm := aD
 refine c_frz [_] i R rfl ?_
 intro br X aF
 have c := OS.frz (l := m) (aq.le p) X.cells aF
 obtain ⟨Y, aG, hm⟩ := bS hm
 obtain ⟨Z, aH, hm⟩ := bS hm
 obtain ⟨aa, aI, hm⟩ := bS hm
 obtain ⟨ab, aJ, hm⟩ := bS hm
 obtain ⟨ac, aK, hm⟩ := bS hm
 obtain ⟨ad, aL, hm⟩ := bS hm
 refine Di mixed (.refl _)<|E0 0 rfl (sM rfl) ?_
 obtain ⟨aM, aN, aO⟩ := iS aG
 obtain ⟨bs, aP, aQ, aR, aS⟩ := FZ.get (sz := 1) rfl (by decide) c aO
 obtain rfl := aP
 refine E0 1 rfl (sI aM rfl rfl aN aS aR sl22)<|Es 2 rfl (sO rfl one3 (aQ 0 _ rfl))<|E0 3 rfl (sM rfl) ?_
 obtain ⟨aT, aU, aV⟩ := iS aH
 obtain ⟨bt, aW, aX, aY, aZ⟩ := FZ.get (sz := 1) rfl (by decide) c aV
 obtain rfl := aW
 refine E0 4 rfl (sI aT rfl rfl aU aZ aY sl22)<|Es 5 rfl (sO rfl one3 (aX 0 _ rfl))<|E0 6 rfl (sM rfl) ?_
 obtain ⟨a0, a1, a2⟩ := iS aI
 obtain ⟨bu, a3, a4, a5, a6⟩ := FZ.get (sz := 1) rfl (by decide) c a2
 obtain rfl := a3
 refine E0 7 rfl (sI a0 rfl rfl a1 a6 a5 sl22)<|Es 8 rfl (sO rfl one3 (a4 0 _ rfl))<|E0 9 rfl (sM rfl) ?_
 obtain ⟨a7, a8, a9⟩ := iS aJ
 obtain ⟨bw, ba, bb, bc, bd⟩ := FZ.get (sz := 1) rfl (by decide) c a9
 obtain rfl := ba
 refine E0 10 rfl (sI a7 rfl rfl a8 bd bc sl22)<|Es 11 rfl (sO rfl one3 (bb 0 _ rfl))<|E0 12 rfl (sM rfl) ?_
 obtain ⟨be, bf, bg⟩ := iS aK
 obtain ⟨bx, bh, bi, bj, bk⟩ := FZ.get (sz := 1) rfl (by decide) c bg
 obtain rfl := bh
 refine E0 13 rfl (sI be rfl rfl bf bk bj sl22)<|Es 14 rfl (sO rfl one3 (bi 0 _ rfl))<|E0 15 rfl (sM rfl) ?_
 obtain ⟨d, bl, bm, bz, ae, af, ag⟩ := cutS_some aL
 have ah := FZ.sub (sz := 1) rfl c ae af
 have bn := c.1.1
 rw [← ag] at ah
 refine E0 16 rfl (ag ▸ st_part (l := m) d bl rfl (.inr ⟨_, _, _, rfl, rfl, bm⟩) (.inl ⟨rfl, by omega⟩) ae af bn sl22)<|E0 17 rfl (sB (v := .agg #[iv Y, iv Z, iv aa, iv ab, iv ac, .slice (subA o a d 1) (ad).length (a - d)]) [(0, iv Y), (1, iv Z), (2, iv aa), (3, iv ab), (4, iv ac), (5, .slice (subA o a d 1) (ad).length (a - d))] rfl (fun _ => by kernel_rfl))<|Eo<|Da [18] (by kernel_rfl) rfl ?_
 refine Rd2 lr rfl rfl (uA [iv 0, iv 0, iv 0, iv 0, iv 0, sn] zero24 rfl) ?_ ?_
 rintro _ _ ⟨bo, rfl, rfl⟩
 refine ⟨.inr (.cons _ (.refl _)), ?_⟩
 refine Da [19] (by kernel_rfl) rfl ?_
 refine Rd2 lr rfl rfl (uN (vs := [_, _, _, _, _, _]) 0 6 rfl rfl rfl siz24 rfl (mc rfl (mc rfl (mc rfl (mc rfl (mc rfl (mc rfl mn)))))) rfl (by simp)) ?_ ?_
 rintro _ _ rfl
 refine ⟨.inl (by kernel_rfl), ?_⟩
 refine Dd (by kernel_rfl) ?_
 obtain ⟨rfl, rfl, rfl, rfl, rfl, rfl⟩ := some6 hm
 refine Xp 1 rfl ?_
 exact xJ ⟨bo, (subA o a d 1), (a - d), rfl, rfl, X, ah⟩ (.refl _)
 exact Rn
 exact Rn
 rintro F _ _ ⟨G, f, g, rfl, rfl, ai, aj⟩
 have hm := (unc6E aE)
 refine Cs<|Cr<|Ts rfl (sD (vs := [_, _, _, _, _, _]) 1 6 rfl agg24 rfl rfl rfl) ?_
 obtain ⟨ak, bp, hm⟩ := bS hm
 refine Do rfl (uW _ call17 rfl (fun w ho => cFareTicketCheck _ [] (⟨A, B, C, D, E, q⟩ : FareTicket) f g (aj.old ho) ak bp) (fun _ _ _ h => h.2.symm)) ?_
 rintro _ _ ⟨⟨_, rfl, _⟩, rfl⟩
 refine As rfl rfl<|Te<|Cr<|M rfl rfl<|Ts rfl (q2 rfl rfl)<|Te ?_
 refine Cc _ rfl (fun H => ?_) (fun H => ?_)
 rw [if_pos (of_decide_eq_true H)] at hm
 refine Cr<|Ts rfl (sB (v := .agg #[iv 0, iv 0, iv 0, iv 0, iv 0, sn]) [] rfl (fun _ => by kernel_rfl))<|M rfl rfl<|Do rfl (uN (vs := [_, _, _, _, _, _]) 0 6 rfl rfl rfl siz24 rfl (mc rfl (mc rfl (mc rfl (mc rfl (mc rfl (mc rfl mn)))))) rfl (by simp)) ?_
 rintro _ _ rfl
 refine As rfl rfl<|Te<|Ct<|Xr ?_
 obtain ⟨rfl, rfl, rfl, rfl, rfl, rfl, rfl⟩ := some7 hm
 exact rM (rs := [.cell 4 24, .tmp 5]) (vs := [.agg #[iv 0, iv 0, iv 0, iv 0, iv 0, sn], iv ak]) ⟨⟨_, rfl, fun w ho => cell_agg (vs := [_, _, _, _, _, _]) 0 6 agg24 rfl rfl rfl w ho⟩, ⟨rfl, trivial⟩⟩ ⟨none, 0, rfl, rfl, FZ.nil⟩ (.cons _ (.cons _ (.refl _))) (n.trans (p.trans ai))
 rw [if_neg (of_decide_eq_false H)] at hm
 refine Ck<|Xn<|Cr<|Ts rfl (sD (vs := [_, _, _, _, _, _]) 1 6 rfl agg24 rfl rfl rfl)<|Do rfl (uN (vs := [_, _, _, _, _, _]) 0 6 rfl rfl rfl siz24 rfl (mc rfl (mc rfl (mc rfl (mc rfl (mc rfl (mc rfl mn)))))) rfl (by simp)) ?_
 rintro _ _ rfl
 refine As rfl rfl<|Te<|Ct ?_
 obtain ⟨rfl, rfl, rfl, rfl, rfl, rfl, rfl⟩ := some7 hm
 exact rM (rs := [.cell 4 24, .tmp 5]) (vs := [.agg #[iv A, iv B, iv C, iv D, iv E, sv f q g], iv 0]) ⟨⟨_, rfl, fun w ho => cell_agg (vs := [_, _, _, _, _, _]) 0 6 agg24 rfl rfl rfl w ho⟩, ⟨rfl, trivial⟩⟩ ⟨f, g, rfl, rfl, aj⟩ (.cons _ (.cons _ (.refl _))) (n.trans (p.trans ai))

set_option maxRecDepth 20000 in
theorem cSlicesEqual (b : Base) (R : Hp) (a : (List Int)) (d : (List Int)) (f : OA) (g : Nat) (h : OA) (i : Nat) (m : FZ rI b.w f g a) (q : FZ rI b.w h i d) (n : Bool) (hm : mSlicesEqual a d = some n) :
    CallsG Tryz.prog 24 [sv f a g, sv h d i] b (R) (fun v b' hp' => bv n = v ∧ R = hp') := by
 refine fE 26 Tryz.func24 rfl Tryz.ntmps24 rfl ?_
 unfold mSlicesEqual at hm
 refine Cr<|As rfl rfl<|Te<|Cs<|Cr<|M rfl rfl<|Ts rfl (sE rfl sl22)<|M rfl rfl<|Ts rfl (sE rfl sl22)<|Ts rfl (q2 rfl rfl) ?_
 refine Te ?_
 refine Cc _ rfl (fun j => ?_) (fun j => ?_)
 rw [if_pos (of_decide_eq_true j)] at hm
 refine Cr<|As rfl rfl<|Te<|Ct<|Xr ?_
 obtain rfl := o1 hm
 exact rM (rs := [.tmp 4]) (vs := [bv false]) ⟨rfl, trivial⟩ ⟨rfl, rfl⟩ (.refl _) lr
 rw [if_neg (of_decide_eq_false j)] at hm
 refine Ck<|Xn<|Cs<|Cr<|M rfl rfl<|Ts rfl (sE rfl sl22)<|M rfl rfl<|Te<|Cb ?_
 have O : a.length ≤ 9223372036854775807 := (FZ.bd m)
 obtain ⟨S, r, e⟩ := bS hm
 refine cF (fun o => fun _ => fun k e' hp' => [(0, sv f a g), (1, sv h d i), (12, iv ((a.length : Int))), (13, iv ((o : Int)))] = e' ∧ R = hp' ∧ b.Le k) r ⟨rfl, rfl, lr⟩ (.refl _) ?_ ?_
 rintro o _ k _ _ T U ⟨rfl, rfl, c⟩ p s
 unfold mSlicesEqual_L104 at p
 have hm := p
 refine Cr<|Ts rfl (lT rfl rfl (by omega))<|Te<|Cs<|c_cond_t rfl<|Ck<|Xn<|Cs<|Cb<|Cr ?_
 refine M rfl rfl<|As rfl rfl<|Te<|Cs ?_
 obtain ⟨V, t, hm⟩ := bS hm
 obtain ⟨W, u, hm⟩ := bS hm
 refine Di mixed (.refl _)<|E0 0 rfl (sM rfl)<|E0 1 rfl (sM rfl) ?_
 obtain ⟨w, x, y⟩ := iS t
 obtain ⟨X, z, A, B, C⟩ := FZ.get (sz := 1) rfl (by decide) (m.le c) y
 obtain rfl := z
 refine E0 2 rfl (sI w rfl rfl x C B sl22)<|Es 3 rfl (sO rfl one3 (A 0 _ rfl))<|E0 4 rfl (sM rfl)<|E0 5 rfl (sM rfl) ?_
 obtain ⟨D, E, F⟩ := iS u
 obtain ⟨Y, G, H, I, J⟩ := FZ.get (sz := 1) rfl (by decide) (q.le c) F
 obtain rfl := G
 refine E0 6 rfl (sI D rfl rfl E J I sl22)<|Es 7 rfl (sO rfl one3 (H 0 _ rfl))<|E0 8 rfl (q2 rfl rfl)<|Eo<|Dd (by kernel_rfl)<|Xn ?_
 refine Cc _ rfl (fun l => ?_) (fun l => ?_)
 rw [if_pos (of_decide_eq_true l)] at hm
 refine Cr<|As rfl rfl<|Te<|Ct<|Xb<|Xr<|Xr<|Xb<|Xr ?_
 have K := s _ (Option.some.inj hm).symm
 rw [K] at e
 have hm := elimR e
 obtain rfl := o1 hm
 exact rM (rs := [.tmp 4]) (vs := [bv false]) ⟨rfl, trivial⟩ ⟨rfl, rfl⟩ (.refl _) c
 rw [if_neg (of_decide_eq_false l)] at hm
 refine Ck<|Xm<|Xn<|Cg<|Ts rfl (sa rfl rfl (by omega))<|M rfl rfl<|Tn ?_
 exact xM hm ⟨rfl, rfl, (c)⟩ (.refl _)
 rintro _ k _ _ ⟨rfl, rfl, c⟩ L
 rw [L] at e
 have hm := elimL e
 refine Cr<|Ts rfl (lF rfl rfl (by omega))<|Te<|Cs<|c_cond_f rfl<|Ce<|Xe<|Xe<|Xo<|Xn ?_
 refine Cr<|As rfl rfl<|Te<|Ct ?_
 obtain rfl := o1 hm
 exact rM (rs := [.tmp 4]) (vs := [bv true]) ⟨rfl, trivial⟩ ⟨rfl, rfl⟩ (.refl _) c

set_option maxRecDepth 20000 in
theorem cFishref2SameTicket (b : Base) (R : Hp) (a : FareTicket) (c : FareTicket) (d : OA) (e : Nat) (f : OA) (g : Nat) (q : FZ rI b.w d e a.Zones) (r : FZ rI b.w f g c.Zones) (n : Bool) (hm : mFishref2SameTicket a c = some n) :
    CallsG Tryz.prog 10 [.agg #[iv a.No, iv a.Day, iv a.Start, iv a.End, iv a.Price, sv d a.Zones e], .agg #[iv c.No, iv c.Day, iv c.Start, iv c.End, iv c.Price, sv f c.Zones g]] b (R) (fun v b' hp' => bv n = v ∧ R = hp') := by
 refine fE 45 Tryz.func10 rfl Tryz.ntmps10 rfl ?_
 unfold mFishref2SameTicket at hm
 refine Cr<|Do rfl (uB _ rfl rfl) ?_
 rintro _ _ ⟨z, rfl, rfl⟩
 refine Do rfl (uB _ rfl rfl) ?_
 rintro _ _ ⟨A, rfl, rfl⟩
 refine As rfl rfl<|Te ?_
 obtain ⟨o, s, t⟩ := bS hm
 refine Cj (fun p e' hp' => [(4, bv o)] = e' ∧ R = hp' ∧ b.Le p) ?_ ?_
 have hm := s
 refine Cg<|Ts rfl (sF rfl fld24_0)<|Ts rfl (sL 1 rfl one3 rfl rfl)<|Ts rfl (sF rfl fld24_0)<|Ts rfl (sL 0 rfl one3 rfl rfl) ?_
 refine Tb rfl (q1 rfl rfl) (fun i => ?_) (fun i => ?_)
 rw [if_pos i] at hm
 refine M rfl rfl<|Ys 10 rfl rfl rfl<|Ts rfl (sF rfl fld24_1)<|Ys 10 rfl rfl rfl<|Ts rfl (sL 1 rfl one3 rfl rfl)<|Ys 10 rfl rfl rfl<|Ts rfl (sF rfl fld24_1)<|Ys 10 rfl rfl rfl<|Ts rfl (sL 0 rfl one3 rfl rfl)<|Ys 10 rfl rfl rfl ?_
 refine Tb rfl (q1 rfl rfl) (fun j => ?_) (fun j => ?_)
 rw [if_pos j] at hm
 refine Ts rfl (pT rfl rfl)<|M rfl rfl<|Ys 17 rfl rfl rfl<|Ts rfl (sF rfl fld24_2)<|Ys 17 rfl rfl rfl<|Ts rfl (sL 1 rfl one3 rfl rfl)<|Ys 17 rfl rfl rfl<|Ts rfl (sF rfl fld24_2)<|Ys 17 rfl rfl rfl<|Ts rfl (sL 0 rfl one3 rfl rfl) ?_
 refine Ys 17 rfl rfl rfl ?_
 refine Tb rfl (q1 rfl rfl) (fun k => ?_) (fun k => ?_)
 rw [if_pos k] at hm
 refine Ts rfl (pT rfl rfl)<|M rfl rfl<|Ys 24 rfl rfl rfl<|Ts rfl (sF rfl fld24_3)<|Ys 24 rfl rfl rfl<|Ts rfl (sL 1 rfl one3 rfl rfl)<|Ys 24 rfl rfl rfl<|Ts rfl (sF rfl fld24_3)<|Ys 24 rfl rfl rfl<|Ts rfl (sL 0 rfl one3 rfl rfl) ?_
 refine Ys 24 rfl rfl rfl ?_
 refine Tb rfl (q1 rfl rfl) (fun l => ?_) (fun l => ?_)
 rw [if_pos l] at hm
 refine Ts rfl (pT rfl rfl)<|M rfl rfl<|Ys 31 rfl rfl rfl<|Ts rfl (sF rfl fld24_4)<|Ys 31 rfl rfl rfl<|Ts rfl (sL 1 rfl one3 rfl rfl)<|Ys 31 rfl rfl rfl<|Ts rfl (sF rfl fld24_4)<|Ys 31 rfl rfl rfl<|Ts rfl (sL 0 rfl one3 rfl rfl) ?_
 refine Ys 31 rfl rfl rfl ?_
 refine Tb rfl (q1 rfl rfl) (fun m => ?_) (fun m => ?_)
 rw [if_pos m] at hm
 refine Ts rfl (pT rfl rfl)<|M rfl rfl<|Ys 38 rfl rfl rfl<|Ts rfl (sF rfl fld24_5)<|Ys 38 rfl rfl rfl<|Ts rfl (sL 1 rfl one22 rfl rfl)<|Ys 38 rfl rfl rfl<|Ts rfl (sF rfl fld24_5)<|Ys 38 rfl rfl rfl<|Ts rfl (sL 0 rfl one22 rfl rfl) ?_
 refine Ys 38 rfl rfl rfl ?_
 obtain ⟨u, x, hm⟩ := bS hm
 refine Do rfl (uW _ call24 rfl (fun w ho => cSlicesEqual _ [] a.Zones c.Zones d e f g (q.old ho) (r.old ho) u x) (fun _ _ _ h => h.2.symm)) ?_
 rintro _ _ ⟨⟨_, rfl, _⟩, rfl⟩
 refine Ts rfl (pT rfl rfl)<|As rfl rfl<|Tn ?_
 obtain rfl := o1 hm
 exact xJ ⟨rfl, rfl, lr⟩ (.cons _ (.cons _ (.refl _)))
 rw [if_neg m] at hm
 refine Ts rfl (pT rfl rfl)<|M rfl rfl<|No 38 rfl rfl rfl rfl rfl<|No 38 rfl rfl rfl rfl rfl<|No 38 rfl rfl rfl rfl rfl<|No 38 rfl rfl rfl rfl rfl<|No 38 rfl rfl rfl rfl rfl<|Ts rfl (pF rfl rfl)<|As rfl rfl<|Tn ?_
 obtain rfl := o1 hm
 exact xJ ⟨rfl, rfl, lr⟩ (.cons _ (.cons _ (.refl _)))
 rw [if_neg l] at hm
 refine Ts rfl (pT rfl rfl)<|M rfl rfl<|No 31 rfl rfl rfl rfl rfl<|No 31 rfl rfl rfl rfl rfl<|No 31 rfl rfl rfl rfl rfl<|No 31 rfl rfl rfl rfl rfl<|No 31 rfl rfl rfl rfl rfl<|Ts rfl (pF rfl rfl)<|M rfl rfl<|No 38 rfl rfl rfl rfl rfl ?_
 refine No 38 rfl rfl rfl rfl rfl<|No 38 rfl rfl rfl rfl rfl<|No 38 rfl rfl rfl rfl rfl<|No 38 rfl rfl rfl rfl rfl<|Ts rfl (pF rfl rfl)<|As rfl rfl<|Tn ?_
 obtain rfl := o1 hm
 exact xJ ⟨rfl, rfl, lr⟩ (.cons _ (.cons _ (.refl _)))
 rw [if_neg k] at hm
 refine Ts rfl (pT rfl rfl)<|M rfl rfl<|No 24 rfl rfl rfl rfl rfl<|No 24 rfl rfl rfl rfl rfl<|No 24 rfl rfl rfl rfl rfl<|No 24 rfl rfl rfl rfl rfl<|No 24 rfl rfl rfl rfl rfl<|Ts rfl (pF rfl rfl)<|M rfl rfl<|No 31 rfl rfl rfl rfl rfl ?_
 refine No 31 rfl rfl rfl rfl rfl<|No 31 rfl rfl rfl rfl rfl<|No 31 rfl rfl rfl rfl rfl<|No 31 rfl rfl rfl rfl rfl<|Ts rfl (pF rfl rfl)<|M rfl rfl<|No 38 rfl rfl rfl rfl rfl<|No 38 rfl rfl rfl rfl rfl<|No 38 rfl rfl rfl rfl rfl<|No 38 rfl rfl rfl rfl rfl ?_
 refine No 38 rfl rfl rfl rfl rfl<|Ts rfl (pF rfl rfl)<|As rfl rfl<|Tn ?_
 obtain rfl := o1 hm
 exact xJ ⟨rfl, rfl, lr⟩ (.cons _ (.cons _ (.refl _)))
 rw [if_neg j] at hm
 refine Ts rfl (pT rfl rfl)<|M rfl rfl<|No 17 rfl rfl rfl rfl rfl<|No 17 rfl rfl rfl rfl rfl<|No 17 rfl rfl rfl rfl rfl<|No 17 rfl rfl rfl rfl rfl<|No 17 rfl rfl rfl rfl rfl<|Ts rfl (pF rfl rfl)<|M rfl rfl<|No 24 rfl rfl rfl rfl rfl ?_
 refine No 24 rfl rfl rfl rfl rfl<|No 24 rfl rfl rfl rfl rfl<|No 24 rfl rfl rfl rfl rfl<|No 24 rfl rfl rfl rfl rfl<|Ts rfl (pF rfl rfl)<|M rfl rfl<|No 31 rfl rfl rfl rfl rfl<|No 31 rfl rfl rfl rfl rfl<|No 31 rfl rfl rfl rfl rfl<|No 31 rfl rfl rfl rfl rfl ?_
 refine No 31 rfl rfl rfl rfl rfl<|Ts rfl (pF rfl rfl)<|M rfl rfl<|No 38 rfl rfl rfl rfl rfl<|No 38 rfl rfl rfl rfl rfl<|No 38 rfl rfl rfl rfl rfl<|No 38 rfl rfl rfl rfl rfl<|No 38 rfl rfl rfl rfl rfl<|Ts rfl (pF rfl rfl)<|As rfl rfl ?_
 refine Tn ?_
 obtain rfl := o1 hm
 exact xJ ⟨rfl, rfl, lr⟩ (.cons _ (.cons _ (.refl _)))
 rw [if_neg i] at hm
 refine M rfl rfl<|No 10 rfl rfl rfl rfl rfl<|No 10 rfl rfl rfl rfl rfl<|No 10 rfl rfl rfl rfl rfl<|No 10 rfl rfl rfl rfl rfl<|No 10 rfl rfl rfl rfl rfl<|Ts rfl (pF rfl rfl)<|M rfl rfl<|No 17 rfl rfl rfl rfl rfl<|No 17 rfl rfl rfl rfl rfl ?_
 refine No 17 rfl rfl rfl rfl rfl<|No 17 rfl rfl rfl rfl rfl<|No 17 rfl rfl rfl rfl rfl<|Ts rfl (pF rfl rfl)<|M rfl rfl<|No 24 rfl rfl rfl rfl rfl<|No 24 rfl rfl rfl rfl rfl<|No 24 rfl rfl rfl rfl rfl<|No 24 rfl rfl rfl rfl rfl<|No 24 rfl rfl rfl rfl rfl ?_
 refine Ts rfl (pF rfl rfl)<|M rfl rfl<|No 31 rfl rfl rfl rfl rfl<|No 31 rfl rfl rfl rfl rfl<|No 31 rfl rfl rfl rfl rfl<|No 31 rfl rfl rfl rfl rfl<|No 31 rfl rfl rfl rfl rfl<|Ts rfl (pF rfl rfl)<|M rfl rfl<|No 38 rfl rfl rfl rfl rfl ?_
 refine No 38 rfl rfl rfl rfl rfl<|No 38 rfl rfl rfl rfl rfl<|No 38 rfl rfl rfl rfl rfl<|No 38 rfl rfl rfl rfl rfl<|Ts rfl (pF rfl rfl)<|As rfl rfl<|Tn ?_
 obtain rfl := o1 hm
 exact xJ ⟨rfl, rfl, lr⟩ (.cons _ (.cons _ (.refl _)))
 rintro p _ _ ⟨rfl, rfl, y⟩
 have hm := t
 refine Ct ?_
 obtain rfl := o1 hm
 exact rM (rs := [.tmp 4]) (vs := [bv o]) ⟨rfl, trivial⟩ ⟨rfl, rfl⟩ (.refl _) y

set_option maxRecDepth 20000 in
theorem cFishkeep2FareForges (b : Base) (R : Hp) (hG : GOn GT b) (x : Int) (y : Int) (z : Int) (a : FareTicket) (m : Int) (g : Int) (j : OA) (k : Nat) (A : FZ rI b.w j k a.Zones) (T : Bool) (hm : mFishkeep2FareForges x y z a m g = some T) :
    CallsG Tryz.prog 3 [iv x, iv y, iv z, .agg #[iv a.No, iv a.Day, iv a.Start, iv a.End, iv a.Price, sv j a.Zones k], iv m, .int .u8 (g)] b (R) (fun v b' hp' => bv T = v ∧ R = hp') := by
 refine fE 109 Tryz.func3 rfl Tryz.ntmps3 rfl ?_
 unfold mFishkeep2FareForges at hm
 refine Cr<|Do rfl (uB _ rfl rfl) ?_
 rintro _ _ ⟨U, rfl, rfl⟩
 refine As rfl rfl<|Te<|Cs<|Cr ?_
 obtain ⟨_, ak, hm⟩ := bS hm
 refine Do rfl (uW _ call4 rfl (fun w ho => cFishkeep2AwakeFare _ [] ak) (fun _ _ _ h => h.2.symm)) ?_
 rintro _ _ ⟨⟨_, rfl, _⟩, rfl⟩
 refine Ts rfl (st_not_t rfl)<|Te<|c_cond_f rfl<|Ck<|Xn<|Cr<|M rfl rfl<|M rfl rfl<|M rfl rfl ?_
 obtain ⟨⟨c, d, i, al⟩, am, hm⟩ := bS hm
 have hm := (unc4E hm)
 refine Tg _ rfl call5 rfl (cFareMakeKey _ _ x y z c d i al am) ?_
 rintro _ an _ e ⟨rfl, rfl⟩
 refine M rfl rfl<|Ts rfl (st_extract rfl rfl)<|Ts rfl (st_extract rfl rfl)<|Do rfl (uA [iv 0, iv 0, iv 0] zero27 rfl) ?_
 rintro _ _ ⟨l, rfl, rfl⟩
 refine Do rfl (uN (vs := [_, _, _]) 0 3 rfl rfl rfl siz27 rfl (mc rfl (mc rfl (mc rfl mn))) rfl (by simp)) ?_
 rintro _ _ rfl
 refine As rfl rfl<|Te<|Cs ?_
 obtain ⟨ao, aq, ar⟩ := bS hm
 refine Cj (fun t e' hp' => [(4, iv m), (5, .int .u8 (g)), (9, pb U), (13, pb l), (31, bv ao)] = e' ∧ (U, Cl 24 [iv a.No, iv a.Day, iv a.Start, iv a.End, iv a.Price, sv j a.Zones k]) :: (l, Cl 27 [iv c, iv d, iv i]) :: R = hp' ∧ an.Le t) ?_ ?_
 have hm := aq
 refine Cg ?_
 obtain ⟨V, au, hm⟩ := bS hm
 refine Do rfl (uW _ call6 rfl (fun w ho => cFishkeep2Fares _ [] V au) (fun _ _ _ h => h.2.symm)) ?_
 rintro _ _ ⟨⟨_, rfl, _⟩, rfl⟩
 rcases Bool.eq_false_or_eq_true V with n | n
 rw [if_pos n] at hm
 refine Tr 26 rfl (v' := .bool true) (by rw [n] <;> rfl)<|Ts rfl (st_not_t rfl)<|M rfl rfl<|Ys 28 rfl rfl rfl<|M rfl rfl<|Ys 28 rfl rfl rfl<|Ts rfl (q2 rfl rfl)<|Ts rfl (pF rfl rfl)<|Tn ?_
 obtain rfl := o1 hm
 refine Xp 1 rfl ?_
 exact xJ ⟨rfl, rfl, lr⟩ (.refl _)
 rw [if_neg (fun hh => Bool.noConfusion (hh.symm.trans n))] at hm
 refine Tr 26 rfl (v' := .bool false) (by rw [n] <;> rfl)<|Ts rfl (st_not_f rfl)<|M rfl rfl<|No 28 rfl rfl rfl rfl rfl<|No 28 rfl rfl rfl rfl rfl<|Ts rfl (pT rfl rfl)<|Tn ?_
 obtain rfl := o1 hm
 refine Xp 1 rfl ?_
 exact xJ ⟨rfl, rfl, lr⟩ (.refl _)
 rintro t _ _ ⟨rfl, rfl, f⟩
 have hm := ar
 refine Cc _ rfl (fun B => ?_) (fun B => ?_)
 rw [if_pos B] at hm
 obtain ⟨W, av, aw⟩ := bS hm
 refine Cj (fun X e' hp' => [(12, bv W)] = e' ∧ R = hp' ∧ t.Le X) ?_ ?_
 have hm := av
 refine Cg ?_
 obtain ⟨Y, ax, hm⟩ := bS hm
 refine Do rfl (uW _ call6 rfl (fun w ho => cFishkeep2Fares _ [] Y ax) (fun _ _ _ h => h.2.symm)) ?_
 rintro _ _ ⟨⟨_, rfl, _⟩, rfl⟩
 rcases Bool.eq_false_or_eq_true Y with o | o
 rw [if_pos o] at hm
 refine Tr 32 rfl (v' := .bool true) (by rw [o] <;> rfl)<|M rfl rfl<|Ys 33 rfl rfl rfl<|Ts rfl (sD (vs := [_, _, _]) 1 3 rfl agg27 rfl rfl rfl)<|Ys 33 rfl rfl rfl<|Ts rfl (sB (v := .agg #[iv 0, iv 0, iv 0]) [] rfl (fun _ => by kernel_rfl))<|Ys 33 rfl rfl rfl<|Ts rfl (st_eqlA (xs := [iv c, iv d, iv i]) (ys := [iv 0, iv 0, iv 0]) (p := c = 0 ∧ d = 0 ∧ i = 0) rfl rfl eqt27 ⟨⟨_, rfl⟩, ⟨⟨_, rfl⟩, ⟨⟨_, rfl⟩, trivial⟩⟩⟩ ⟨⟨_, rfl⟩, ⟨⟨_, rfl⟩, ⟨⟨_, rfl⟩, trivial⟩⟩⟩ (by simp [eqCells, eqCell, Bool.decide_and, beq_dec]))<|Ts rfl (pT rfl rfl)<|As rfl rfl ?_
 refine Tn ?_
 obtain rfl := o1 hm
 exact xJ ⟨rfl, rfl, lr⟩ (.cons _ (.cons _ (.refl _)))
 rw [if_neg (fun hh => Bool.noConfusion (hh.symm.trans o))] at hm
 refine Tr 32 rfl (v' := .bool false) (by rw [o] <;> rfl)<|M rfl rfl<|No 33 rfl rfl rfl rfl rfl<|No 33 rfl rfl rfl rfl rfl<|No 33 rfl rfl rfl rfl rfl<|Ts rfl (pF rfl rfl)<|As rfl rfl<|Tn ?_
 obtain rfl := o1 hm
 exact xJ ⟨rfl, rfl, lr⟩ (.cons _ (.cons _ (.refl _)))
 rintro X _ _ ⟨rfl, rfl, ay⟩
 have hm := aw
 refine Ct<|Xr ?_
 obtain rfl := o1 hm
 exact rM (rs := [.tmp 12]) (vs := [bv W]) ⟨rfl, trivial⟩ ⟨rfl, rfl⟩ (.refl _) (e.trans (f.trans ay))
 rw [if_neg (fun hh => Bool.noConfusion (hh.symm.trans B))] at hm
 refine Ck<|Xn<|Cr<|Ts rfl (sD (vs := [_, _, _]) 1 3 rfl agg27 rfl rfl rfl)<|Ts rfl (sD (vs := [_, _, _, _, _, _]) 0 6 rfl agg24 rfl rfl rfl) ?_
 obtain ⟨⟨q, az⟩, aA, hm⟩ := bS hm
 have hm := (unc2E hm)
 refine Do rfl (uW _ call7 rfl (fun w ho => cFareIssue _ [] ((hG.le (e.trans f)).old ho) (⟨c, d, i⟩ : FareKey) a j k ((A.le (e.trans f)).old ho) q az aA) (fun _ _ _ h => h.2.symm)) ?_
 rintro _ _ ⟨⟨_, rfl, _⟩, rfl⟩
 refine M rfl rfl<|Ts rfl (st_extract rfl rfl)<|Ts rfl (st_extract rfl rfl)<|As rfl rfl<|As rfl rfl<|Te<|Cs<|Cr<|M rfl rfl<|Ts rfl (q2 rfl rfl) ?_
 refine Te ?_
 refine Cc _ rfl (fun C => ?_) (fun C => ?_)
 rw [if_pos (of_decide_eq_true C)] at hm
 obtain ⟨Z, aB, aC⟩ := bS hm
 refine Cj (fun aa e' hp' => [(12, bv Z)] = e' ∧ R = hp' ∧ t.Le aa) ?_ ?_
 have hm := aB
 refine Cg<|M rfl rfl<|Ts rfl (st_seql rfl rfl) ?_
 rcases Bool.eq_false_or_eq_true (sEq q (ByteArray.mk #[])) with r | r
 rw [if_pos r] at hm
 refine Tr 47 rfl (v' := .bool true) (by rw [r] <;> rfl)<|M rfl rfl<|Ys 48 rfl rfl rfl<|Ts rfl (sD (vs := [_, _, _, _, _, _]) 0 6 rfl agg24 rfl rfl rfl)<|Ys 48 rfl rfl rfl ?_
 obtain ⟨aD, aE, hm⟩ := bS hm
 refine Do rfl (uW _ call8 rfl (fun w ho => cFishref2TicketFault _ [] a j k ((A.le (e.trans f)).old ho) aD aE) (fun _ _ _ h => h.2.symm)) ?_
 rintro _ _ ⟨⟨_, rfl, _⟩, rfl⟩
 refine Ys 48 rfl rfl rfl<|Ts rfl (q2 rfl rfl)<|Ts rfl (pT rfl rfl)<|As rfl rfl<|Tn ?_
 obtain rfl := o1 hm
 exact xJ ⟨rfl, rfl, lr⟩ (.cons _ (.cons _ (.refl _)))
 rw [if_neg (fun hh => Bool.noConfusion (hh.symm.trans r))] at hm
 refine Tr 47 rfl (v' := .bool false) (by rw [r] <;> rfl)<|M rfl rfl<|No 48 rfl rfl rfl rfl rfl<|No 48 rfl rfl rfl rfl rfl<|No 48 rfl rfl rfl rfl rfl<|Ts rfl (pF rfl rfl)<|As rfl rfl<|Tn ?_
 obtain rfl := o1 hm
 exact xJ ⟨rfl, rfl, lr⟩ (.cons _ (.cons _ (.refl _)))
 rintro aa _ _ ⟨rfl, rfl, aF⟩
 have hm := aC
 refine Ct<|Xr ?_
 obtain rfl := o1 hm
 exact rM (rs := [.tmp 12]) (vs := [bv Z]) ⟨rfl, trivial⟩ ⟨rfl, rfl⟩ (.refl _) (e.trans (f.trans aF))
 rw [if_neg (of_decide_eq_false C)] at hm
 refine Ck<|Xn<|Cr<|Ts rfl (sF rfl fld27_0)<|Ts rfl (sL 1 rfl one3 rfl rfl)<|Ts rfl (sF rfl fld27_1)<|Ts rfl (sL 1 rfl one3 rfl rfl)<|Ts rfl (sB (v := .agg #[iv c, iv d, iv 0]) [(0, iv c), (1, iv d)] rfl (fun _ => by kernel_rfl))<|M rfl rfl ?_
 obtain ⟨⟨ab, ac, ad, ae, af, ag, aG⟩, aH, hm⟩ := bS hm
 have hm := (unc7E hm)
 refine Tg _ rfl call9 rfl (cFareOpen _ _ (hG.le (e.trans f)) (⟨c, d, 0⟩ : FareKey) q ab ac ad ae af ag aG aH) ?_
 rintro _ aI _ s ⟨aJ, aK, rfl, rfl, aL⟩
 refine M rfl rfl<|Ts rfl (st_extract rfl rfl)<|Ts rfl (st_extract rfl rfl)<|Do rfl (uA [iv 0, iv 0, iv 0, iv 0, iv 0, sn] zero24 rfl) ?_
 rintro _ _ ⟨bf, rfl, rfl⟩
 refine Do rfl (uN (vs := [_, _, _, _, _, _]) 0 6 rfl rfl rfl siz24 rfl (mc rfl (mc rfl (mc rfl (mc rfl (mc rfl (mc rfl mn)))))) rfl (by simp)) ?_
 rintro _ _ rfl
 refine As rfl rfl<|Te<|Cs ?_
 obtain ⟨aM, aN, aO⟩ := bS hm
 refine Cj (fun D e' hp' => [(4, iv m), (5, .int .u8 (g)), (13, pb l), (15, .string (q)), (70, bv aM)] = e' ∧ (l, Cl 27 [iv c, iv d, iv i]) :: R = hp' ∧ aI.Le D) ?_ ?_
 have hm := aN
 refine Cg<|M rfl rfl ?_
 refine Tb rfl (q2 rfl rfl) (fun E => ?_) (fun E => ?_)
 rw [if_pos E] at hm
 refine M rfl rfl<|No 65 rfl rfl rfl rfl rfl<|No 65 rfl rfl rfl rfl rfl<|No 65 rfl rfl rfl rfl rfl<|No 65 rfl rfl rfl rfl rfl<|Ts rfl (pT rfl rfl)<|Tn ?_
 obtain rfl := o1 hm
 refine Xp 2 rfl ?_
 exact xJ ⟨rfl, rfl, lr⟩ (.cons_cons _ (.cons _ (.cons _ (.refl _))))
 rw [if_neg E] at hm
 refine M rfl rfl<|Ys 65 rfl rfl rfl<|Ts rfl (sD (vs := [_, _, _, _, _, _]) 0 6 rfl agg24 rfl rfl rfl)<|Ys 65 rfl rfl rfl<|Ts rfl (sD (vs := [_, _, _, _, _, _]) 1 6 rfl agg24 rfl rfl rfl)<|Ys 65 rfl rfl rfl ?_
 obtain ⟨aP, aQ, hm⟩ := bS hm
 refine Do rfl (uW _ call10 rfl (fun w ho => cFishref2SameTicket _ [] (⟨ab, ac, ad, ae, af, ag⟩ : FareTicket) a aJ aK j k (aL.old ho) ((A.le (e.trans (f.trans s))).old ho) aP aQ) (fun _ _ _ h => h.2.symm)) ?_
 rintro _ _ ⟨⟨_, rfl, _⟩, rfl⟩
 refine Ys 65 rfl rfl rfl<|Ts rfl (sn2 rfl)<|Ts rfl (pF rfl rfl)<|Tn ?_
 obtain rfl := o1 hm
 refine Xp 2 rfl ?_
 exact xJ ⟨rfl, rfl, lr⟩ (.cons_cons _ (.cons _ (.cons _ (.refl _))))
 rintro D _ _ ⟨rfl, rfl, u⟩
 have hm := aO
 refine Cc _ rfl (fun F => ?_) (fun F => ?_)
 rw [if_pos F] at hm
 refine Cr<|As rfl rfl<|Te<|Ct<|Xr ?_
 obtain rfl := o1 hm
 exact rM (rs := [.tmp 12]) (vs := [bv false]) ⟨rfl, trivial⟩ ⟨rfl, rfl⟩ (.cons _ (.refl _)) (e.trans (f.trans (s.trans u)))
 rw [if_neg (fun hh => Bool.noConfusion (hh.symm.trans F))] at hm
 refine Ck<|Xn<|Cs ?_
 obtain ⟨aR, aS, aT⟩ := bS hm
 refine Cj (fun G e' hp' => [(4, iv m), (5, .int .u8 (g)), (13, pb l), (15, .string (q)), (85, bv aR)] = e' ∧ (l, Cl 27 [iv c, iv d, iv i]) :: R = hp' ∧ D.Le G) ?_ ?_
 have hm := aS
 refine Cg<|M rfl rfl ?_
 refine Tb rfl (q3 rfl rfl) (fun H => ?_) (fun H => ?_)
 rw [if_pos H] at hm
 refine M rfl rfl<|No 73 rfl rfl rfl rfl rfl<|No 73 rfl rfl rfl rfl rfl<|No 73 rfl rfl rfl rfl rfl<|No 73 rfl rfl rfl rfl rfl<|Ts rfl (pT rfl rfl)<|M rfl rfl<|No 79 rfl rfl rfl rfl rfl<|No 79 rfl rfl rfl rfl rfl<|No 79 rfl rfl rfl rfl rfl ?_
 refine No 79 rfl rfl rfl rfl rfl<|No 79 rfl rfl rfl rfl rfl<|Ts rfl (pT rfl rfl)<|Tn ?_
 obtain rfl := o1 hm
 exact xJ ⟨rfl, rfl, lr⟩ (.refl _)
 rw [if_neg H] at hm
 refine M rfl rfl<|Ys 73 rfl rfl rfl<|M rfl rfl<|Ys 73 rfl rfl rfl<|M rfl rfl<|Ys 73 rfl rfl rfl<|Ts rfl (st_slen rfl str9)<|Ys 73 rfl rfl rfl ?_
 refine Tb rfl (q6 rfl rfl) (fun I => ?_) (fun I => ?_)
 rw [if_pos I] at hm
 refine Ts rfl (pF rfl rfl)<|M rfl rfl<|No 79 rfl rfl rfl rfl rfl<|No 79 rfl rfl rfl rfl rfl<|No 79 rfl rfl rfl rfl rfl<|No 79 rfl rfl rfl rfl rfl<|No 79 rfl rfl rfl rfl rfl<|Ts rfl (pT rfl rfl)<|Tn ?_
 obtain rfl := o1 hm
 exact xJ ⟨rfl, rfl, lr⟩ (.refl _)
 rw [if_neg I] at hm
 refine Ts rfl (pF rfl rfl)<|M rfl rfl<|Ys 79 rfl rfl rfl<|M rfl rfl<|Ys 79 rfl rfl rfl<|M rfl rfl<|Ys 79 rfl rfl rfl ?_
 obtain ⟨bg, aU, hm⟩ := bS hm
 refine Ts rfl (st_sidx rfl rfl aU str9)<|Ys 79 rfl rfl rfl<|M rfl rfl<|Ys 79 rfl rfl rfl<|Ts rfl (q1 rfl rfl)<|Ts rfl (pF rfl rfl)<|Tn ?_
 obtain rfl := o1 hm
 exact xJ ⟨rfl, rfl, lr⟩ (.refl _)
 rintro G _ _ ⟨rfl, rfl, J⟩
 have hm := aT
 refine Cc _ rfl (fun K => ?_) (fun K => ?_)
 rw [if_pos K] at hm
 refine Cr<|As rfl rfl<|Te<|Ct<|Xr ?_
 obtain rfl := o1 hm
 exact rM (rs := [.tmp 12]) (vs := [bv true]) ⟨rfl, trivial⟩ ⟨rfl, rfl⟩ (.cons _ (.refl _)) (e.trans (f.trans (s.trans (u.trans J))))
 rw [if_neg (fun hh => Bool.noConfusion (hh.symm.trans K))] at hm
 refine Ck<|Xn ?_
 obtain ⟨aV, aW, aX⟩ := bS hm
 refine Cj (fun L e' hp' => [(14, iv aV)] = e' ∧ R = hp' ∧ G.Le L) ?_ ?_
 have hm := aW
 obtain ⟨bh, aY, hm⟩ := bS hm
 obtain ⟨bi, aZ, hm⟩ := bS hm
 obtain ⟨_, O, hm⟩ := bS hm
 obtain ⟨bj, a0, hm⟩ := bS hm
 obtain ⟨a1, a2, hm⟩ := bS hm
 obtain ⟨⟨a3, a4, a5, a6, a7, a8, a9⟩, ba, hm⟩ := bS hm
 have hm := (unc7E hm)
 refine Di mixed (.refl _)<|Es 0 rfl (sD (vs := [_, _, _]) 0 3 rfl agg27 rfl rfl rfl)<|E0 1 rfl (sM rfl)<|E0 2 rfl (sM rfl)<|E0 3 rfl (st_scut rfl (.inl ⟨rfl, rfl⟩) (.inr ⟨_, _, rfl, rfl⟩) aY str9)<|E0 4 rfl (sM rfl)<|E0 8 rfl (sM rfl)<|E0 9 rfl (sM rfl) ?_
 have O := (kS O).2
 refine E0 10 rfl (sa rfl rfl O)<|E0 11 rfl (st_scut rfl (.inr ⟨_, _, rfl, rfl⟩) (.inl ⟨rfl, rfl⟩) a0 str9)<|Eo<|Da [5] (by kernel_rfl) rfl ?_
 refine Rd2 lr rfl rfl (u_bslice (el := 5) [(0, .int .u8 (g))] [.int .u8 (g)] rfl (fun _ => by kernel_rfl)) ?_ ?_
 rintro _ _ ⟨bk, rfl, rfl⟩
 refine ⟨.inr (.cons _ (.refl _)), ?_⟩
 refine Da [6] (by kernel_rfl) rfl ?_
 refine Rd2 lr rfl rfl (Stable.does (st_strlit 0 [g] rfl rfl rfl sl37 str9 int5_u8)) ?_ ?_
 rintro _ _ ⟨rfl, rfl⟩
 refine ⟨.inr (.cons _ (.refl _)), ?_⟩
 refine Ei lr (.cons _ (.refl _))<|E0 7 rfl (st_sadd rfl rfl aZ)<|E0 12 rfl (st_sadd rfl rfl a2)<|Eo<|Da [13] (by kernel_rfl) rfl ?_
 refine Rg lr rfl rfl _ call9 rfl (cFareOpen _ _ (hG.le (e.trans (f.trans (s.trans (u.trans J))))) (⟨c, d, i⟩ : FareKey) a1 a3 a4 a5 a6 a7 a8 a9 ba) ?_ ?_
 rintro _ bl _ ah ⟨bm, bn, rfl, rfl, bo⟩
 refine ⟨.inl (by kernel_rfl), ?_⟩
 refine El ah<|E0 14 rfl (sM rfl)<|E0 15 rfl (st_extract rfl rfl)<|E0 16 rfl (st_extract rfl rfl)<|E0 17 rfl (sA rfl)<|Eo<|Dd (by kernel_rfl) ?_
 obtain rfl := o1 hm
 exact xJ ⟨rfl, rfl, ah⟩ (.cons _ (.cons _ (.refl _)))
 exact Rn
 exact Rn
 exact Rn
 rintro L _ _ ⟨rfl, rfl, bb⟩
 have hm := aX
 obtain ⟨ai, bc, bd⟩ := bS hm
 refine Cj (fun aj e' hp' => [(12, bv ai)] = e' ∧ R = hp' ∧ L.Le aj) ?_ ?_
 have hm := bc
 refine Cg<|M rfl rfl ?_
 refine Tb rfl (q1 rfl rfl) (fun S => ?_) (fun S => ?_)
 rw [if_pos S] at hm
 refine M rfl rfl<|No 105 rfl rfl rfl rfl rfl<|No 105 rfl rfl rfl rfl rfl<|Ts rfl (pT rfl rfl)<|As rfl rfl<|Tn ?_
 obtain rfl := o1 hm
 exact xJ ⟨rfl, rfl, lr⟩ (.refl _)
 rw [if_neg S] at hm
 refine M rfl rfl<|Ys 105 rfl rfl rfl<|M rfl rfl<|Ys 105 rfl rfl rfl<|Ts rfl (q1 rfl rfl)<|Ts rfl (pF rfl rfl)<|As rfl rfl<|Tn ?_
 obtain rfl := o1 hm
 exact xJ ⟨rfl, rfl, lr⟩ (.refl _)
 rintro aj _ _ ⟨rfl, rfl, be⟩
 have hm := bd
 refine Ct ?_
 obtain rfl := o1 hm
 exact rM (rs := [.tmp 12]) (vs := [bv ai]) ⟨rfl, trivial⟩ ⟨rfl, rfl⟩ (.refl _) (e.trans (f.trans (s.trans (u.trans (J.trans (bb.trans be))))))

end Go.Proofs.YtglmhaihgpnogaaGreatDoor
